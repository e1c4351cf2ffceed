/-
  Contracts of functions and laws of the layer over the walk.
-/
import Derived.Test.YtpnelljgohjjdaaGreatVvF
import Derived.Test.YtpnelljgohjjdaaGreatHlD
import Derived.Test.YtpnelljgohjjdaaGreatVvE
namespace Go.Hl
set_option maxRecDepth 100000
open Go.Proofs
set_option linter.unusedVariables false
set_option linter.unusedSimpArgs false
def dS (p : aI) (inp : Int) (S : dV) (om og ov : Option Nat) (st : Nat) (c : Int) : bM :=
 .row 8 [[.v (c5 3 aV.c p.aH), .v (I inp), .v (gV 4 S.code.length om), .v (gV 2 S.guards.length og), .v .bC, .v (gV 1 S.fS.length ov), .v (I st), .v (I c)]]
def aKP (h : aB) (sz : Nat) (rows : List (List Cell)) : Option Nat → Prop
 |none => rows = []
 |some m => rows ≠ [] ∧ h m = some (.row sz rows)
def rowsOf {α : Type} (c : α → List aD) (l : List α) : List (List Cell) := (l.map c).map (List.map .v)
theorem eW {α : Type} (c : α → List aD) (l : List α) : (rowsOf c l).length = l.length := by simp [rowsOf]
theorem mS {α : Type} (c : α → List aD) (l : List α) (x : α) : rowsOf c (l ++ [x]) = rowsOf c l ++ [(c x).map .v] := by simp [rowsOf]
theorem gY {α : Type} {c : α → List aD} {l : List α} : rowsOf c l = [] ↔ l = [] := by simp [rowsOf]
structure vL (bx : dV → Option Nat → Option Nat → Option Nat → bM) (h0 : aB) (nb : Nat) (S : dV) (om og ov : Option Nat) (h : aB) : Prop where
 box : h nb = some (bx S om og ov)
 odd : ∀ S om og ov, ∃ sz cs, bx S om og ov = .row sz cs ∧ ¬ sz = 1 ∧ ¬ sz = 2 ∧ ¬ sz = 4
 code : aKP h 4 (rowsOf cC.c S.code) om
 gds : aKP h 2 (rowsOf eS.c S.guards) og
 fS : aKP h 1 (rowsOf (fun n => [I n]) S.fS) ov
 fresh : ∀ n, n = nb ∨ some n = om ∨ some n = og ∨ some n = ov → h0 n = none
 upto : ∀ n, ¬ n = nb → ¬ some n = om → ¬ some n = og → ¬ some n = ov → h n = h0 n
def dT (bx : dV → Option Nat → Option Nat → Option Nat → bM) (h0 : aB) (nb : Nat) (S : dV) (h : aB) : Prop := ∃ om og ov, vL bx h0 nb S om og ov h
abbrev bAN (h0 : aB) (nb : Nat) (p : aI) (inp : Int) (S : dV) (st : Nat) (c : Int) (om og ov : Option Nat) (h : aB) : Prop := vL (fun S om og ov => dS p inp S om og ov st c) h0 nb S om og ov h
abbrev jG (h0 : aB) (nb : Nat) (p : aI) (inp : Int) (S : dV) (st : Nat) (c : Int) (h : aB) : Prop := dT (fun S om og ov => dS p inp S om og ov st c) h0 nb S h
theorem aKQ (p : aI) (inp : Int) (st : Nat) (c : Int) : ∀ S om og ov, ∃ sz cs, dS p inp S om og ov st c = .row sz cs ∧ ¬ sz = 1 ∧ ¬ sz = 2 ∧ ¬ sz = 4 := fun S om og ov => ⟨8, _, rfl, by decide, by decide, by decide⟩
theorem vL.kinds {h0 h : aB} {nb : Nat} {bx : dV → Option Nat → Option Nat → Option Nat → bM} {S : dV} {om og ov : Option Nat} (H : vL bx h0 nb S om og ov h) (n : Nat) :
  (n = nb → h n = some (bx S om og ov)) ∧ (some n = om → h n = some (.row 4 (rowsOf cC.c S.code))) ∧ (some n = og → h n = some (.row 2 (rowsOf eS.c S.guards))) ∧ (some n = ov → h n = some (.row 1 (rowsOf (fun n => [I n]) S.fS))) :=
 ⟨fun e => e ▸ H.box, fun e => by have := H.code; rw [← e] at this; exact this.2, fun e => by have := H.gds; rw [← e] at this; exact this.2, fun e => by have := H.fS; rw [← e] at this; exact this.2⟩
theorem vL.apart {h0 h : aB} {nb : Nat} {bx : dV → Option Nat → Option Nat → Option Nat → bM} {S : dV} {om og ov : Option Nat} (H : vL bx h0 nb S om og ov h) (n : Nat) :
  (n = nb → ¬ some n = om ∧ ¬ some n = og ∧ ¬ some n = ov) ∧ (some n = om → ¬ some n = og ∧ ¬ some n = ov) ∧ (some n = og → ¬ some n = ov) ∧ (h n = none → ¬ n = nb ∧ ¬ some n = om ∧ ¬ some n = og ∧ ¬ some n = ov) := by
 obtain ⟨k1, k2, k3, k4⟩ := H.kinds n
 obtain ⟨sz, cs, hB, o1, o2, o4⟩ := H.odd S om og ov
 rw [hB] at k1
 refine ⟨fun e => ⟨fun q => ?_, fun q => ?_, fun q => ?_⟩, fun e => ⟨fun q => ?_, fun q => ?_⟩, fun e q => ?_, fun e => ⟨fun q => ?_, fun q => ?_, fun q => ?_, fun q => ?_⟩⟩
 ·have := (k1 e).symm.trans (k2 q); simp at this; exact o4 this.1
 ·have := (k1 e).symm.trans (k3 q); simp at this; exact o2 this.1
 ·have := (k1 e).symm.trans (k4 q); simp at this; exact o1 this.1
 ·have := (k2 e).symm.trans (k3 q); simp at this
 ·have := (k2 e).symm.trans (k4 q); simp at this
 ·have := (k3 e).symm.trans (k4 q); simp at this
 ·have := (k1 q); rw [e] at this; cases this
 ·have := (k2 q); rw [e] at this; cases this
 ·have := (k3 q); rw [e] at this; cases this
 ·have := (k4 q); rw [e] at this; cases this
theorem vL.put {h0 h F : aB} {nb : Nat} {bx : dV → Option Nat → Option Nat → Option Nat → bM} {S : dV} {om og ov : Option Nat} (H : vL bx h0 nb S om og ov h) (x : cC) (v : Int) {b b2 : Nat} (hb : h b = none) (kU : h b2 = none) (hne : ¬ b2 = b)
  (f1 : F nb = some (bx (S.put x v) (some b) og (some b2))) (f2 : F b = some (.row 4 (rowsOf cC.c (S.code ++ [x])))) (f3 : F b2 = some (.row 1 (rowsOf (fun n => [I n]) (S.fS ++ [v]))))
  (f4 : ∀ n, ¬ n = nb → ¬ n = b → ¬ n = b2 → ¬ some n = om → ¬ some n = ov → F n = h n) : ∃ g : aB, g.le F ∧ dT bx h0 nb (S.put x v) g := by
 have a1 := (H.apart nb).1 rfl
 have a2 := (H.apart b).2.2.2 hb
 have a3 := (H.apart b2).2.2.2 kU
 have g1 : ∀ n, some n = om ∨ some n = ov → h0 n = none := fun n hn => H.fresh n (by rcases hn with hn | hn; exact .inr (.inl hn); exact .inr (.inr (.inr hn)))
 have g2 : h0 b = none := (H.upto b a2.1 a2.2.1 a2.2.2.1 a2.2.2.2).symm.trans hb
 have g3 : h0 b2 = none := (H.upto b2 a3.1 a3.2.1 a3.2.2.1 a3.2.2.2).symm.trans kU
 have get : ∀ n, ¬ some n = om → ¬ some n = ov → (fun n => if some n = om ∨ some n = ov then none else F n) n = F n := fun n h1 h2 => if_neg (by rintro (q | q); exact h1 q; exact h2 q)
 refine ⟨fun n => if some n = om ∨ some n = ov then none else F n, fun n => ?_, some b, og, some b2, ⟨?_, H.odd, ⟨by simp [rowsOf, dV.put], ?_⟩, ?_, ⟨by simp [rowsOf, dV.put], ?_⟩, fun n hn => ?_, fun n h1 h2 h3 h4 => ?_⟩⟩
 ·by_cases e : some n = om ∨ some n = ov
  ·exact .inl (if_pos e)
  ·exact .inr (if_neg e)
 ·exact (get nb a1.1 a1.2.2).trans f1
 ·exact (get b a2.2.1 a2.2.2.2).trans f2
 ·have hg := H.gds
  cases og with
  |none => exact hg
  |some k =>
   have ak := (H.apart k)
   have hk := hg.2
   refine ⟨hg.1, (get k (fun q => ak.2.1 q |>.1 rfl) (fun q => ak.2.2.1 rfl q)).trans ?_⟩
   rw [f4 k (fun q => (ak.1 q).2.1 rfl) (fun q => by rw [q, hb] at hk; cases hk) (fun q => by rw [q, kU] at hk; cases hk) (fun q => ak.2.1 q |>.1 rfl) (fun q => ak.2.2.1 rfl q)]
   exact hk
 ·exact (get b2 a3.2.1 a3.2.2.2).trans f3
 ·rcases hn with rfl | hn | hn | hn
  ·exact H.fresh _ (.inl rfl)
  ·obtain rfl := Option.some.inj hn; exact g2
  ·exact H.fresh n (.inr (.inr (.inl hn)))
  ·obtain rfl := Option.some.inj hn; exact g3
 ·have h2' : ¬ n = b := fun q => h2 (by rw [q])
  have h4' : ¬ n = b2 := fun q => h4 (by rw [q])
  by_cases e : some n = om ∨ some n = ov
  ·exact (if_pos e).trans (g1 n e).symm
  ·have e1 : ¬ some n = om := fun q => e (.inl q)
   have e2 : ¬ some n = ov := fun q => e (.inr q)
   exact ((get n e1 e2).trans (f4 n h1 h2' h4' e1 e2)).trans (H.upto n h1 e1 h3 e2)
@[go_sem] def a2M : List Nat := [0, 1, 2, 4, 6]
@[go_sem] def bLS : List Nat := [4, 15, 22]
@[go_sem] def bLT : Marks := fun id => match id with | 1 => ([6, 9, 13, 16, 20, 23], (.op 0 (.op 1 (.op 2 (.op 3 (.op 4 (.op 5 (.op 7 (.op 8 (.op 10 (.op 11 (.op 12 (.op 14 (.op 15 (.op 6 (.op 13 (.op 9 (.op 16 (.op 17 (.op 18 (.op 19 (.op 20 (.op 21 (.op 22 (.op 23 .nil)))))))))))))))))))))))), [(13, 9)]) | _ => ([], .nil, [])
theorem aKR {h0 h : aB} {nb : Nat} {p : aI} {inp : Int} {S : dV} {st : Nat} {c : Int} (H : jG h0 nb p inp S st c h) (x : cC) (v : Int) (hl : S.code.length = S.fS.length) (hcap : S.fS.length ≤ 1048576) :
  fO Tryz.prog 91 [.op nb 8 0 0, .agg x.c, I v] h fun r h' => r = I S.fS.length ∧ jG h0 nb p inp (S.put x v) st c h' := by
 obtain ⟨om, og, ov, H⟩ := H
 have hb := H.box
 have hc := H.code
 have hv := H.fS
 unfold dS at hb
 rw [cC.aN]
 cases om with
 |none =>
  have oB : S.code = [] := gY.1 hc
  cases ov with
  |some v =>
   have xK : S.fS = [] := List.eq_nil_of_length_eq_zero (by rw [← hl, oB]; rfl)
   exact absurd (by rw [xK]; rfl) hv.1
  |none =>
   have xK : S.fS = [] := gY.1 hv
   refine kO 35 a2M bLS bLT mix Tryz.func91 rfl (by kernel_rfl) (by simp) ?_
   simp -dsimp -implicitDefEqProofs only [go_sem, ↓reduceIte, Tryz.f91, hb, aW]
   refine ⟨by decide, by decide, by decide, by decide, by decide, fun m hm => ?_⟩
   have eJ : ¬ m = nb := fun e => by rw [e, hb] at hm; cases hm
   have dR : ¬ nb = m := Ne.symm eJ
   have eG : (m = nb) = False := eq_false eJ
   have eH : (nb = m) = False := eq_false dR
   refine ⟨by rw [aC _ _ _ _ dR, hb]; rfl, by decide, fun w ⟨hwm, hw⟩ => ?_⟩
   have pP : ¬ w = nb := fun e => by rw [e, hb] at hw; cases hw
   have yW : ¬ nb = w := Ne.symm pP
   have mZ : (w = nb) = False := eq_false pP
   have m2 : (nb = w) = False := eq_false yW
   have xE : ¬ w = m := hwm
   have aE0 : ¬ m = w := Ne.symm xE
   have wA : (w = m) = False := eq_false xE
   have wB : (m = w) = False := eq_false aE0
   try simp -dsimp -implicitDefEqProofs only [go_sem, ↓reduceIte, Tryz.f91, hb, eG, wB, eH, m2, wA, mZ, aC]
   obtain ⟨g, hg, hR⟩ := H.put x v hm hw xE (F := bK (bK (bK h m (.row 4 [x.c.map .v])) w (.row 1 [[.v (I v)]])) nb (dS p inp (S.put x v) (some m) og (some w) st c)) (aU _ _ _)
    (by rw [aC _ _ _ _ eJ, aC _ _ _ _ aE0, aU, oB]; rfl) (by rw [aC _ _ _ _ pP, aU, xK]; rfl) (fun n h1 h2 h3 _ _ => by rw [aC _ _ _ _ h1, aC _ _ _ _ h3, aC _ _ _ _ h2])
   refine ⟨_, g, eA ?_, by rw [xK]; rfl, hR⟩
   rw [aF]
   unfold dS at hg
   simp only [dV.put, oB, xK, aQ, cC.aN] at hg
   exact hg
 |some m =>
  cases ov with
  |none =>
   have xK : S.fS = [] := gY.1 hv
   have oB : S.code = [] := List.eq_nil_of_length_eq_zero (by rw [hl, xK]; rfl)
   exact absurd (by rw [oB]; rfl) hc.1
  |some w =>
   have hm := hc.2
   have hw := hv.2
   have eJ : ¬ m = nb := fun e => by rw [e, hb] at hm; cases hm
   have dR : ¬ nb = m := Ne.symm eJ
   have eG : (m = nb) = False := eq_false eJ
   have eH : (nb = m) = False := eq_false dR
   have pP : ¬ w = nb := fun e => by rw [e, hb] at hw; cases hw
   have yW : ¬ nb = w := Ne.symm pP
   have mZ : (w = nb) = False := eq_false pP
   have m2 : (nb = w) = False := eq_false yW
   have xE : ¬ w = m := fun e => by rw [e, hm] at hw; cases hw
   have aE0 : ¬ m = w := Ne.symm xE
   have wA : (w = m) = False := eq_false xE
   have wB : (m = w) = False := eq_false aE0
   refine kO 35 a2M bLS bLT mix Tryz.func91 rfl (by kernel_rfl) (by simp) ?_
   simp -dsimp -implicitDefEqProofs only [go_sem, ↓reduceIte, Tryz.f91, hb, aQ, hm, hw, eG, wB, eH, m2, wA, mZ, aC]
   refine ⟨by decide, by decide, by decide, by decide, by decide, by rw [eW]; exact Nat.le_refl _, by omega, by omega, fun b kT => ?_⟩
   have dU : ¬ b = nb := fun e => by rw [e, hb] at kT; cases kT
   have iI : ¬ nb = b := Ne.symm dU
   have iG : (b = nb) = False := eq_false dU
   have iH : (nb = b) = False := eq_false iI
   have lF : ¬ b = m := fun e => by rw [e, hm] at kT; cases kT
   have v9 : ¬ m = b := Ne.symm lF
   have sJ : (b = m) = False := eq_false lF
   have sK : (m = b) = False := eq_false v9
   have aKS : ¬ b = w := fun e => by rw [e, hw] at kT; cases kT
   have a2N : ¬ w = b := Ne.symm aKS
   have aKT : (b = w) = False := eq_false aKS
   have aKU : (w = b) = False := eq_false a2N
   refine ⟨by rw [aC _ _ _ _ iI, aC _ _ _ _ dR, hb]; rfl, by decide, ?_⟩
   try simp -dsimp -implicitDefEqProofs only [go_sem, ↓reduceIte, Tryz.f91, hb, hw, eG, wB, sK, eH, m2, iH, wA, mZ, aKU, sJ, iG, aKT, aC]
   refine ⟨by rw [eW]; exact Nat.le_refl _, by omega, by omega, fun b2 ⟨bEX, bEY, kU⟩ => ?_⟩
   have yX : ¬ b2 = nb := fun e => by rw [e, hb] at kU; cases kU
   have aPD : ¬ nb = b2 := Ne.symm yX
   have aH7 : (b2 = nb) = False := eq_false yX
   have aH8 : (nb = b2) = False := eq_false aPD
   have aKV : ¬ b2 = m := bEY
   have aUW : ¬ m = b2 := Ne.symm aKV
   have aPE : (b2 = m) = False := eq_false aKV
   have aPF : (m = b2) = False := eq_false aUW
   have aKW : ¬ b2 = w := fun e => by rw [e, hw] at kU; cases kU
   have aUX : ¬ w = b2 := Ne.symm aKW
   have aPG : (b2 = w) = False := eq_false aKW
   have aPH : (w = b2) = False := eq_false aUX
   have aDH : ¬ b2 = b := bEX
   have aKX : ¬ b = b2 := Ne.symm aDH
   have aPI : (b2 = b) = False := eq_false aDH
   have aPJ : (b = b2) = False := eq_false aKX
   simp -dsimp -implicitDefEqProofs only [go_sem, ↓reduceIte, Tryz.f91, hb, hw, eG, wB, sK, aPF, eH, m2, iH, aH8, wA, mZ, aKU, aPH, sJ, iG, aKT, aPJ, aPE, aH7, aPG, aPI, aC]
   rw [List.take_of_length_le (by rw [eW]; exact Nat.le_refl _), List.take_of_length_le (by rw [eW]; exact Nat.le_refl _)]
   obtain ⟨g, hg, hR⟩ := H.put x v kT kU aDH (F := bK (bK (bK (bK (bK h m .gone) b (.row 4 (rowsOf cC.c S.code ++ [x.c.map .v]))) w .gone) b2 (.row 1 (rowsOf (fun n => [I n]) S.fS ++ [[.v (I v)]]))) nb (dS p inp (S.put x v) (some b) og (some b2) st c)) (aU _ _ _)
    (by rw [aC _ _ _ _ dU, aC _ _ _ _ aKX, aC _ _ _ _ aKS, aU, mS]) (by rw [aC _ _ _ _ yX, aU, mS]; rfl)
    (fun n h1 h2 h3 h4 h5 => by rw [aC _ _ _ _ h1, aC _ _ _ _ h3, aC _ _ _ _ (fun q => h5 (by rw [q])), aC _ _ _ _ h2, aC _ _ _ _ (fun q => h4 (by rw [q]))])
   refine fun _ => ⟨_, g, eA ?_, ?_, hR⟩
   ·rw [aF]
    unfold dS at hg
    simp only [dV.put, aQ, cC.aN, List.length_append, List.length_singleton] at hg
    exact hg
   ·rw [IntWalk.i64_in _ (by omega)]
    congr 1
    omega
theorem vL.set {h0 h : aB} {nb : Nat} {p : aI} {inp : Int} {S : dV} {st : Nat} {c : Int} {om og ov : Option Nat} (H : bAN h0 nb p inp S st c om og ov h) (st' : Nat) (c' : Int) : bAN h0 nb p inp S st' c' om og ov (bK h nb (dS p inp S om og ov st' c')) := by
 have a1 := (H.apart nb).1 rfl
 have hr : ∀ (o : Option Nat) (sz : Nat) (rows : List (List Cell)), ¬ some nb = o → aKP h sz rows o → aKP (bK h nb (dS p inp S om og ov st' c')) sz rows o := fun o sz rows hn ho => by
  cases o with
  |none => exact ho
  |some m => exact ⟨ho.1, (aC _ _ _ _ fun q => hn (by rw [q])).trans ho.2⟩
 exact ⟨aU _ _ _, aKQ _ _ _ _, hr _ _ _ a1.1 H.code, hr _ _ _ a1.2.1 H.gds, hr _ _ _ a1.2.2 H.fS, H.fresh, fun n h1 h2 h3 h4 => (aC _ _ _ _ h1).trans (H.upto n h1 h2 h3 h4)⟩
theorem dT.wO {h0 h : aB} {nb : Nat} {bx : dV → Option Nat → Option Nat → Option Nat → bM} {S : dV} (H : dT bx h0 nb S h) {m : Nat} {o : bM} (hm : h m = none) : dT bx (bK h0 m o) nb S (bK h m o) := by
 obtain ⟨om, og, ov, H⟩ := H
 have a := (H.apart m).2.2.2 hm
 have hr : ∀ (q : Option Nat) (sz : Nat) (rows : List (List Cell)), ¬ some m = q → aKP h sz rows q → aKP (bK h m o) sz rows q := fun q sz rows hn ho => by
  cases q with
  |none => exact ho
  |some k => exact ⟨ho.1, (aC _ _ _ _ fun e => hn (by rw [e])).trans ho.2⟩
 refine ⟨om, og, ov, (aC _ _ _ _ fun e => a.1 e.symm).trans H.box, H.odd, hr _ _ _ a.2.1 H.code, hr _ _ _ a.2.2.1 H.gds, hr _ _ _ a.2.2.2 H.fS, fun n hn => ?_, fun n h1 h2 h3 h4 => ?_⟩
 ·have hnm : ¬ n = m := fun e => by
   subst e
   rcases hn with hn | hn | hn | hn
   ·exact a.1 hn
   ·exact a.2.1 hn
   ·exact a.2.2.1 hn
   ·exact a.2.2.2 hn
  exact (aC _ _ _ _ hnm).trans (H.fresh n hn)
 ·by_cases e : n = m
  ·rw [e, aU, aU]
  ·rw [aC _ _ _ _ e, aC _ _ _ _ e]; exact H.upto n h1 h2 h3 h4
theorem dT.base {h0 h : aB} {nb : Nat} {bx : dV → Option Nat → Option Nat → Option Nat → bM} {S : dV} {m : Nat} {o : bM} (H : dT bx (bK h0 m o) nb S h) (hm : h0 m = none) : ∃ g, h = bK g m o ∧ g m = none ∧ dT bx h0 nb S g := by
 obtain ⟨om, og, ov, H⟩ := H
 have hne : ∀ n, (n = nb ∨ some n = om ∨ some n = og ∨ some n = ov) → ¬ n = m := fun n hn e => by
  have := H.fresh n hn
  rw [e, aU] at this; cases this
 have hmo : h m = some o := (H.upto m (fun e => hne m (.inl e) rfl) (fun e => hne m (.inr (.inl e)) rfl) (fun e => hne m (.inr (.inr (.inl e))) rfl) (fun e => hne m (.inr (.inr (.inr e))) rfl)).trans (aU _ _ _)
 have get : ∀ n, ¬ n = m → (fun n => if n = m then none else h n) n = h n := fun n hn => if_neg hn
 have hr : ∀ (q : Option Nat) (sz : Nat) (rows : List (List Cell)), (∀ n, some n = q → ¬ n = m) → aKP h sz rows q → aKP (fun n => if n = m then none else h n) sz rows q := fun q sz rows hn ho => by
  cases q with
  |none => exact ho
  |some k => exact ⟨ho.1, (get k (hn k rfl)).trans ho.2⟩
 refine ⟨fun n => if n = m then none else h n, ?_, if_pos rfl, om, og, ov, (get nb (hne nb (.inl rfl))).trans H.box, H.odd, hr _ _ _ (fun n e => hne n (.inr (.inl e))) H.code, hr _ _ _ (fun n e => hne n (.inr (.inr (.inl e)))) H.gds, hr _ _ _ (fun n e => hne n (.inr (.inr (.inr e)))) H.fS, fun n hn => ?_, fun n h1 h2 h3 h4 => ?_⟩
 ·funext n
  by_cases e : n = m
  ·rw [e, aU, hmo]
  ·rw [aC _ _ _ _ e]; exact (get n e).symm
 ·have := H.fresh n hn
  rwa [aC _ _ _ _ (hne n hn)] at this
 ·by_cases e : n = m
  ·subst e; exact (if_pos rfl).trans hm.symm
  ·have := H.upto n h1 h2 h3 h4
   rw [aC _ _ _ _ e] at this
   exact (get n e).trans this
theorem dT.none {h0 h : aB} {nb : Nat} {bx : dV → Option Nat → Option Nat → Option Nat → bM} {S : dV} (H : dT bx h0 nb S h) {m : Nat} (hm : h m = none) : h0 m = none := by
 obtain ⟨om, og, ov, H⟩ := H
 have a := (H.apart m).2.2.2 hm
 exact (H.upto m a.1 a.2.1 a.2.2.1 a.2.2.2).symm.trans hm
theorem vL.guard {h0 h F : aB} {nb : Nat} {bx : dV → Option Nat → Option Nat → Option Nat → bM} {S : dV} {om og ov : Option Nat} (H : vL bx h0 nb S om og ov h) (x : eS) {b : Nat} (hb : h b = none)
  (f1 : F nb = some (bx (S.guard x) om (some b) ov)) (f2 : F b = some (.row 2 (rowsOf eS.c (S.guards ++ [x]))))
  (f4 : ∀ n, ¬ n = nb → ¬ n = b → ¬ some n = og → F n = h n) : ∃ g : aB, g.le F ∧ vL bx h0 nb (S.guard x) om (some b) ov g := by
 have a1 := (H.apart nb).1 rfl
 have a2 := (H.apart b).2.2.2 hb
 have g2 : h0 b = none := (H.upto b a2.1 a2.2.1 a2.2.2.1 a2.2.2.2).symm.trans hb
 have get : ∀ n, ¬ some n = og → (fun n => if some n = og then none else F n) n = F n := fun n h1 => if_neg h1
 have hr : ∀ (q : Option Nat) (sz : Nat) (rows : List (List Cell)), (∀ n, some n = q → ¬ n = nb ∧ ¬ n = b ∧ ¬ some n = og) → aKP h sz rows q → aKP (fun n => if some n = og then none else F n) sz rows q := fun q sz rows hn ho => by
  cases q with
  |none => exact ho
  |some k =>
   obtain ⟨e1, e2, e3⟩ := hn k rfl
   exact ⟨ho.1, ((get k e3).trans (f4 k e1 e2 e3)).trans ho.2⟩
 refine ⟨fun n => if some n = og then none else F n, fun n => ?_, ⟨?_, H.odd, hr _ _ _ (fun n e => ⟨fun q => ((H.apart n).1 q).1 e, fun q => a2.2.1 (by rw [← q]; exact e), ((H.apart n).2.1 e).1⟩) H.code, ⟨by simp [rowsOf, dV.guard], ?_⟩, hr _ _ _ (fun n e => ⟨fun q => ((H.apart n).1 q).2.2 e, fun q => a2.2.2.2 (by rw [← q]; exact e), fun q => (H.apart n).2.2.1 q e⟩) H.fS, fun n hn => ?_, fun n h1 h2 h3 h4 => ?_⟩⟩
 ·by_cases e : some n = og
  ·exact .inl (if_pos e)
  ·exact .inr (if_neg e)
 ·exact (get nb a1.2.1).trans f1
 ·exact (get b a2.2.2.1).trans f2
 ·rcases hn with rfl | hn | hn | hn
  ·exact H.fresh _ (.inl rfl)
  ·exact H.fresh n (.inr (.inl hn))
  ·obtain rfl := Option.some.inj hn; exact g2
  ·exact H.fresh n (.inr (.inr (.inr hn)))
 ·have h3' : ¬ n = b := fun q => h3 (by rw [q])
  by_cases e : some n = og
  ·exact (if_pos e).trans (H.fresh n (.inr (.inr (.inl e)))).symm
  ·exact ((get n e).trans (f4 n h1 h3' e)).trans (H.upto n h1 h2 e h4)
set_option maxRecDepth 100000
open Go.Proofs
set_option linter.unusedVariables false
set_option linter.unusedSimpArgs false
@[go_sem] def a7F : List Nat := [0, 1, 4]
@[go_sem] def bLU : List Nat := []
@[go_sem] def bLV : Marks := fun _ => ([], .nil, [])
theorem aA4 (a b : Int) (ha : nZ a) (hb : nZ b) : e8 Tryz.prog 162 [I a, I b] (I (a * b % 1000003)) := by
 have h1 := num_mul ha hb
 unfold nZ at ha hb
 refine eI 11 a7F bLU bLV mix Tryz.func162 rfl (by kernel_rfl) (by simp) fun h => ?_
 simp -dsimp -implicitDefEqProofs only [go_sem, ↓reduceIte, Tryz.f162]
 first | refine aJ.mk (iD a) ?_ | refine aL.mk (iD a) ?_ | refine aJ.dF (iD a) ?_ | refine aL.mk (cZ.gC (iD a)) ?_
 simp -dsimp -implicitDefEqProofs only [go_sem, ↓reduceIte, Tryz.f162]
 first | refine aJ.mk (iD b) ?_ | refine aL.mk (iD b) ?_ | refine aJ.dF (iD b) ?_ | refine aL.mk (cZ.gC (iD b)) ?_
 simp -dsimp -implicitDefEqProofs only [go_sem, ↓reduceIte, Tryz.f162]
 rw [Int.emod_eq_of_lt ha.1 (by omega), Int.emod_eq_of_lt hb.1 (by omega), a6S h1.1 (by omega)]
@[go_sem] def a7G : List Nat := [0, 1, 2, 3, 6, 7, 9, 10, 15, 20, 25, 30]
@[go_sem] def bLW : List Nat := [3]
@[go_sem] def bLX : Marks := fun _ => ([], .nil, [])
theorem a2O (x : cC) (a b : Int) (ha : nZ a) (hb : nZ b) (hk : x.sC = 3 ∨ x.sC = 4 ∨ x.sC = 5 ∨ x.sC = 6 ∨ x.sC = 7) : e8 Tryz.prog 151 [.agg x.c, I a, I b] (.lR [I ((opV x.sC a b).getD 0), .bool (opV x.sC a b).isSome]) := by
 rw [cC.aN]
 have hni : nZ (sF b) := num_inv b
 refine eI 35 a7G bLW bLX mix Tryz.func151 rfl (by kernel_rfl) (by simp) fun h => ?_
 simp -dsimp -implicitDefEqProofs only [go_sem, ↓reduceIte, Tryz.f151]
 refine ⟨fun q => ?_, fun q => ⟨fun q4 => ?_, fun q4 => ⟨fun q5 => ?_, fun q5 => ⟨fun q7 => ?_, fun q7 => ⟨fun qb => ?_, fun qb => ?_⟩⟩⟩⟩⟩
 ·first | refine aJ.mk (aRT a b) ?_ | refine aL.mk (aRT a b) ?_ | refine aJ.dF (aRT a b) ?_ | refine aL.mk (cZ.gC (aRT a b)) ?_
  simp -dsimp -implicitDefEqProofs only [go_sem, ↓reduceIte, Tryz.f151]
  unfold opV; rw [if_pos q]; rfl
 ·first | refine aJ.mk (minus a b) ?_ | refine aL.mk (minus a b) ?_ | refine aJ.dF (minus a b) ?_ | refine aL.mk (cZ.gC (minus a b)) ?_
  simp -dsimp -implicitDefEqProofs only [go_sem, ↓reduceIte, Tryz.f151]
  unfold opV; rw [if_neg q, if_pos q4]; rfl
 ·first | refine aJ.mk (aA4 a b ha hb) ?_ | refine aL.mk (aA4 a b ha hb) ?_ | refine aJ.dF (aA4 a b ha hb) ?_ | refine aL.mk (cZ.gC (aA4 a b ha hb)) ?_
  simp -dsimp -implicitDefEqProofs only [go_sem, ↓reduceIte, Tryz.f151]
  unfold opV; rw [if_neg q, if_neg q4, if_pos q5]; rfl
 ·first | refine aJ.mk (minus 0 a) ?_ | refine aL.mk (minus 0 a) ?_ | refine aJ.dF (minus 0 a) ?_ | refine aL.mk (cZ.gC (minus 0 a)) ?_
  simp -dsimp -implicitDefEqProofs only [go_sem, ↓reduceIte, Tryz.f151]
  unfold opV; rw [if_neg q, if_neg q4, if_neg q5, if_pos q7]; rfl
 ·unfold opV; rw [if_neg q, if_neg q4, if_neg q5, if_neg q7, if_pos qb]; rfl
 ·first | refine aJ.mk (aH3 b) ?_ | refine aL.mk (aH3 b) ?_ | refine aJ.dF (aH3 b) ?_ | refine aL.mk (cZ.gC (aH3 b)) ?_
  simp -dsimp -implicitDefEqProofs only [go_sem, ↓reduceIte, Tryz.f151]
  first | refine aJ.mk (aA4 a (sF b) ha hni) ?_ | refine aL.mk (aA4 a (sF b) ha hni) ?_ | refine aJ.dF (aA4 a (sF b) ha hni) ?_ | refine aL.mk (cZ.gC (aA4 a (sF b) ha hni)) ?_
  simp -dsimp -implicitDefEqProofs only [go_sem, ↓reduceIte, Tryz.f151]
  unfold opV; rw [if_neg q, if_neg q4, if_neg q5, if_neg q7, if_neg qb]; rfl
theorem Good.val {inp : Int} {S : dV} {t : Nat} (h : Good inp S t) (k : Int) : nZ (S.val k) := h.a7C.get _
theorem vL.row {h0 h : aB} {nb : Nat} {bx : dV → Option Nat → Option Nat → Option Nat → bM} {S : dV} {om og ov : Option Nat} (H : vL bx h0 nb S om og ov h) {k : Int} (hk : oV S k) : ∃ w, ov = some w ∧ h w = some (.row 1 (rowsOf (fun n => [I n]) S.fS)) ∧ ¬ w = nb := by
 have hv := H.fS
 cases ov with
 |none => have := gY.1 hv; have h2 := hk.1; have h3 := hk.2; rw [this] at h3; simp at h3; omega
 |some w => exact ⟨w, rfl, hv.2, fun e => ((H.apart w).1 e).2.2 rfl⟩
theorem jF {S : dV} {k : Int} (hk : oV S k) : (rowsOf (fun n => [I n]) S.fS)[k.toNat]? = some [.v (I (S.val k))] := by
 have h1 := hk.1
 have h2 := hk.2
 rw [rowsOf, List.getElem?_map, List.getElem?_map, List.getElem?_eq_getElem (by omega), dV.val, List.getD_eq_getElem?_getD, List.getElem?_eq_getElem (by omega)]; rfl
@[go_sem] def a7H : List Nat := [0, 1, 2, 6, 7, 8, 9, 16, 43]
@[go_sem] def bLY : List Nat := []
@[go_sem] def bLZ : Marks := fun id => match id with | 4 => ([0, 4, 6, 8, 12, 14, 16], (.op 1 (.op 2 (.op 3 (.op 5 (.op 9 (.op 10 (.op 11 (.op 13 (.op 0 (.op 4 (.op 6 (.op 7 (.op 8 (.op 12 (.op 14 (.op 15 (.op 16 (.op 17 (.op 18 (.op 19 (.op 20 (.op 21 (.op 22 .nil))))))))))))))))))))))), []) | _ => ([], .nil, [])
theorem r8 {h0 h : aB} {nb : Nat} {p : aI} {inp : Int} {S : dV} {st : Nat} (H : jG h0 nb p inp S st 0 h) (hg : Good inp S st) (hst : st ≤ 3000) (k : Int) (vs : List Int) (hk : k = 3 ∨ k = 4 ∨ k = 5 ∨ k = 6 ∨ k = 7) (h1 : 1 ≤ vs.length) (h2 : ¬ k = 7 → 2 ≤ vs.length) (hv : ∀ x ∈ vs, oV S x) (hl : vs.length ≤ 1048576) :
  fO Tryz.prog 127 [.op nb 8 0 0, I k, ints vs] h fun r h' => ∃ j S' c', r = I j ∧ jG h0 nb p inp S' st c' h' ∧ lN (opR k vs S st) (j, S') st c' := by
 obtain ⟨om, og, ov, H⟩ := H
 have at_ : ∀ i, i < vs.length → oV S (vs.getD i 0) := fun i hi => by
  rw [List.getD_eq_getElem?_getD, List.getElem?_eq_getElem hi]
  exact hv _ (List.getElem_mem _)
 have i0 := at_ 0 (by omega)
 have iB : oV S (opB k vs) := by
  unfold opB
  split
  ·have a := i0.1; have b := i0.2; exact ⟨Int.le_refl _, by omega⟩
  ·exact at_ 1 (h2 (by assumption))
 obtain ⟨w, rfl, hw, dw⟩ := H.row i0
 have hb := H.box
 unfold dS at hb
 rw [aQ] at hb
 have g0 : vs[Int.toNat 0]? = some (vs.getD 0 0) := eZ (by omega)
 have r0 := jF i0
 have rB := jF iB
 have pP : ¬ w = nb := dw
 have yW : ¬ nb = w := Ne.symm pP
 have mZ : (w = nb) = False := eq_false pP
 have m2 : (nb = w) = False := eq_false yW
 have hva := hg.val (vs.getD 0 0)
 have hvb := hg.val (opB k vs)
 have hop := a2O ⟨k, vs.getD 0 0, opB k vs, 0⟩ _ _ hva hvb hk
 simp only [cC.aN] at hop
 have b0 := iB.1
 have b1 := i0.1
 have lw := eW (fun n => [I n]) S.fS
 have i0b := i0.2
 have iBb := iB.2
 refine kO 51 a7H bLY bLZ mix Tryz.func127 rfl (by kernel_rfl) (by simp) ?_
 simp -dsimp -implicitDefEqProofs only [go_sem, ↓reduceIte, Tryz.f127, hb, g0]
 refine ⟨by omega, fun n hn => ⟨fun h7 => ⟨by have := h2 h7; omega, ?_⟩, fun h7 => ?_⟩⟩
 ·have vD : ¬ n = nb := fun e => by rw [e, hb] at hn; cases hn
  have aDI : ¬ nb = n := Ne.symm vD
  have vE : (n = nb) = False := eq_false vD
  have vF : (nb = n) = False := eq_false aDI
  have aRZ : ¬ n = w := fun e => by rw [e, hw] at hn; cases hn
  have a2P : ¬ w = n := Ne.symm aRZ
  have aR0 : (n = w) = False := eq_false aRZ
  have aR1 : (w = n) = False := eq_false a2P
  have eB : opB k vs = vs.getD 1 0 := if_neg h7
  have g1 : vs[Int.toNat 1]? = some (vs.getD 1 0) := eZ (h2 h7)
  rw [eB] at rB hop b0 iBb
  simp -dsimp -implicitDefEqProofs only [go_sem, ↓reduceIte, Tryz.f127, g1, hb, hw, r0, rB, vE, aR0, vF, m2, aR1, mZ, aC]
  refine ⟨b1, i0b, b0, iBb, ?_⟩
  cases hv : opV k (S.val (vs.getD 0 0)) (S.val ((vs.getD 1 0))) with
  |none =>
   rw [hv] at hop
   first | refine aJ.mk (hop) ?_ | refine aL.mk (hop) ?_ | refine aJ.dF (hop) ?_ | refine aL.mk (cZ.gC (hop)) ?_
   simp -dsimp -implicitDefEqProofs only [go_sem, ↓reduceIte, Tryz.f127]
   refine ⟨fun _ => ?_, fun q => absurd q (by simp)⟩
   simp -dsimp -implicitDefEqProofs only [go_sem, ↓reduceIte, Tryz.f127, hb, vE, aR0, vF, m2, aR1, mZ, aC]
   refine ⟨_, _, eA (?_ : (bK h nb (dS p inp S om og (some w) st 6)).le _), 0, S, 6, rfl, ⟨_, _, _, H.set st 6⟩, by unfold opR; rw [eB, hv]; exact jB _ _ (by decide)⟩
   unfold dS
   rw [aQ]
   exact (jJ (by repeat' (first | exact gJ _ _ | refine jK (by simp only [dZ, ↓reduceIte, eq_self, if_true, vE, vF]) ?_ | refine fM (by first | exact .inr (by assumption) | exact .inl (by simp)) ?_)))
  |some v =>
   rw [hv] at hop
   first | refine aJ.mk (hop) ?_ | refine aL.mk (hop) ?_ | refine aJ.dF (hop) ?_ | refine aL.mk (cZ.gC (hop)) ?_
   simp -dsimp -implicitDefEqProofs only [go_sem, ↓reduceIte, Tryz.f127]
   refine ⟨fun q => absurd q (by simp), fun _ => ?_⟩
   simp only [aF]
   refine aJ.iF (aKR (dT.wO ⟨om, og, some w, H⟩ hn) ⟨k, vs.getD 0 0, (vs.getD 1 0), 0⟩ v hg.len (by have := hg.cap; omega)) ?_
   rintro r h' ⟨rfl, hR⟩
   obtain ⟨g, rfl, hgn, hR⟩ := hR.base (dT.none ⟨om, og, some w, H⟩ hn)
   simp -dsimp -implicitDefEqProofs only [go_sem, ↓reduceIte, Tryz.f127]
   exact ⟨_, g, eA (aB.bD hgn (aB.le_refl _)), _, _, 0, rfl, hR, by unfold opR; rw [eB, hv]; exact uC _ _⟩
 ·have vD : ¬ n = nb := fun e => by rw [e, hb] at hn; cases hn
  have aDI : ¬ nb = n := Ne.symm vD
  have vE : (n = nb) = False := eq_false vD
  have vF : (nb = n) = False := eq_false aDI
  have aRZ : ¬ n = w := fun e => by rw [e, hw] at hn; cases hn
  have a2P : ¬ w = n := Ne.symm aRZ
  have aR0 : (n = w) = False := eq_false aRZ
  have aR1 : (w = n) = False := eq_false a2P
  have eB : opB k vs = 0 := if_pos h7
  rw [eB] at rB hop b0 iBb
  simp -dsimp -implicitDefEqProofs only [go_sem, ↓reduceIte, Tryz.f127, hb, hw, r0, rB, vE, aR0, vF, m2, aR1, mZ, aC]
  refine ⟨b1, i0b, iBb, ?_⟩
  cases hv : opV k (S.val (vs.getD 0 0)) (S.val (0)) with
  |none =>
   rw [hv] at hop
   first | refine aJ.mk (hop) ?_ | refine aL.mk (hop) ?_ | refine aJ.dF (hop) ?_ | refine aL.mk (cZ.gC (hop)) ?_
   simp -dsimp -implicitDefEqProofs only [go_sem, ↓reduceIte, Tryz.f127]
   refine ⟨fun _ => ?_, fun q => absurd q (by simp)⟩
   simp -dsimp -implicitDefEqProofs only [go_sem, ↓reduceIte, Tryz.f127, hb, vE, aR0, vF, m2, aR1, mZ, aC]
   refine ⟨_, _, eA (?_ : (bK h nb (dS p inp S om og (some w) st 6)).le _), 0, S, 6, rfl, ⟨_, _, _, H.set st 6⟩, by unfold opR; rw [eB, hv]; exact jB _ _ (by decide)⟩
   unfold dS
   rw [aQ]
   exact (jJ (by repeat' (first | exact gJ _ _ | refine jK (by simp only [dZ, ↓reduceIte, eq_self, if_true, vE, vF]) ?_ | refine fM (by first | exact .inr (by assumption) | exact .inl (by simp)) ?_)))
  |some v =>
   rw [hv] at hop
   first | refine aJ.mk (hop) ?_ | refine aL.mk (hop) ?_ | refine aJ.dF (hop) ?_ | refine aL.mk (cZ.gC (hop)) ?_
   simp -dsimp -implicitDefEqProofs only [go_sem, ↓reduceIte, Tryz.f127]
   refine ⟨fun q => absurd q (by simp), fun _ => ?_⟩
   simp only [aF]
   refine aJ.iF (aKR (dT.wO ⟨om, og, some w, H⟩ hn) ⟨k, vs.getD 0 0, 0, 0⟩ v hg.len (by have := hg.cap; omega)) ?_
   rintro r h' ⟨rfl, hR⟩
   obtain ⟨g, rfl, hgn, hR⟩ := hR.base (dT.none ⟨om, og, some w, H⟩ hn)
   simp -dsimp -implicitDefEqProofs only [go_sem, ↓reduceIte, Tryz.f127]
   exact ⟨_, g, eA (aB.bD hgn (aB.le_refl _)), _, _, 0, rfl, hR, by unfold opR; rw [eB, hv]; exact uC _ _⟩
set_option maxRecDepth 100000
open Go.Proofs
set_option linter.unusedVariables false
set_option linter.unusedSimpArgs false
theorem lN.ok {α : Type} {c : Int} {X : Out α} {v : α} {t : Nat} {c' : Int} (h : lN (sZ c X) v t c') (hc : c' = 0) : c = 0 ∧ X = .ok (v, t) := by
 have h0 := h.bK5 hc
 subst h0
 rw [fD] at h
 cases X with
 |ok q => obtain ⟨w, u⟩ := q; obtain ⟨_, rfl, rfl⟩ := h; exact ⟨rfl, rfl⟩
 |error d => exact absurd (h.1.symm.trans hc) h.2
def aGH (h0 : aB) (nb : Nat) (p : aI) (inp : Int) (st : Nat) (c : Int) (X : Out (Int × dV)) : aD → aB → Prop := fun r h' => ∃ k S' t c', r = I k ∧ jG h0 nb p inp S' t c' h' ∧ st ≤ t ∧ t ≤ 3000 ∧ lN (sZ c X) (k, S') t c'
def bAO (h0 : aB) (nb : Nat) (p : aI) (inp : Int) (st : Nat) (c : Int) (n : Nat) (X : Out (List Int × dV)) : aD → aB → Prop := fun r h' => ∃ l S' t c', r = ints l ∧ jG h0 nb p inp S' t c' h' ∧ l.length = n ∧ st ≤ t ∧ t ≤ 3000 ∧ lN (sZ c X) (l, S') t c'
@[go_sem] def pH : List Nat := [0, 1, 2, 4, 6, 7, 8, 9, 10, 15, 20, 32, 33, 42, 49, 62, 85, 100, 128, 130, 131, 150, 162]
@[go_sem] def xF : List Nat := [4, 80, 116]
@[go_sem] def xG : Marks := fun id => match id with | 22 => ([6, 13, 15, 16], (.op 0 (.op 1 (.op 2 (.op 3 (.op 4 (.op 5 (.op 7 (.op 8 (.op 9 (.op 10 (.op 11 (.op 12 (.op 6 (.op 13 (.op 14 (.op 15 (.op 16 (.op 17 .nil)))))))))))))))))), []) | 28 => ([5, 16], (.op 0 (.op 1 (.op 2 (.op 3 (.op 4 (.op 6 (.op 7 (.op 11 (.op 12 (.op 15 (.op 5 (.op 8 (.op 9 (.op 10 (.op 13 (.op 14 (.op 16 (.op 17 .nil)))))))))))))))))), []) | 33 => ([5, 12], (.op 0 (.op 1 (.op 2 (.op 3 (.op 4 (.op 6 (.op 7 (.op 11 (.op 5 (.op 8 (.op 9 (.op 10 (.op 12 (.op 13 .nil)))))))))))))), []) | _ => ([], .nil, [])
def xH (p : aI) (inp : Int) (n : Nat) : Prop := ∀ (h0 h : aB) (nb st : Nat) (c : Int) (e : aA) (env : List Int) (S : dV) (funcs : Int), jG h0 nb p inp S st c h → st ≤ 3000 → 3001 ≤ n + st → e.ok p funcs env.length → 0 ≤ funcs → funcs ≤ p.aH.length → (c = 0 → Good inp S st ∧ ∀ x ∈ env, oV S x) → env.length ≤ 412 + st →
 fO Tryz.prog 108 [.op nb 8 0 0, .agg e.c, ints env] h (aGH h0 nb p inp st c (eT p n st e env S))
theorem gH {p : aI} (hp : p.ok) {inp : Int} {n st : Nat} {S : dV} {l : List aA} {env : List Int} {funcs : Int} (hg : Good inp S st) (hst : st ≤ 3000) (henv : ∀ x ∈ env, oV S x) (hok : ∀ e ∈ l, e.ok p funcs env.length) (hf : funcs ≤ p.aH.length) : yV (aEZ inp S st l.length) (mE (fun t e S => eT p n t e env S) l st S) :=
 p3 l st S hg hst fun x hx u S' a b c => p4 hp n u x env S' funcs (hok x hx) hf a c.2.2.2 fun y hy => (henv y hy).ext b
@[go_sem] def a2Q : List Nat := [0, 1, 2, 6, 7, 9, 11, 12, 13, 14]
@[go_sem] def bL0 : List Nat := [10, 22]
@[go_sem] def bL1 : Marks := fun _ => ([], .nil, [])
theorem uE {p : aI} (hp : p.ok) {inp : Int} {n : Nat} (hv : xH p inp n) (h0 h : aB) (nb st : Nat) (c : Int) (l : List aA) (env : List Int) (S : dV) (funcs : Int) (hb : jG h0 nb p inp S st c h) (hst : st ≤ 3000) (hn : 3001 ≤ n + st)
  (hl : l.length ≤ 1048576) (hok : ∀ e ∈ l, e.ok p funcs env.length) (fH : 0 ≤ funcs) (hf : funcs ≤ p.aH.length) (hgo : c = 0 → Good inp S st ∧ ∀ x ∈ env, oV S x) (hel : env.length ≤ 412 + st) :
  fO Tryz.prog 92 [.op nb 8 0 0, c5 5 aA.c l, ints env] h (bAO h0 nb p inp st c l.length (mE (fun t e S => eT p n t e env S) l st S)) := by
 refine kO 26 a2Q bL0 bL1 mix Tryz.func92 rfl (by kernel_rfl) (by simp) ?_
 simp -dsimp -implicitDefEqProofs only [go_sem, ↓reduceIte, Tryz.f92]
 refine ⟨Nat.zero_lt_one, fun _ => ?_⟩
 refine cS (keep := a2Q) (ib := bL0) (mk := bL1) mix (by kernel_rfl) (fun x : Nat × List Int × Nat × Int × dV × aB × Option Nat => [(0, .op nb 8 0 0), (2, ints env), (7, nO 1 x.2.1.length x.2.2.2.2.2.2), (11, c5 5 aA.c l), (12, I l.length), (13, I x.1)]) (fun x => dD x.2.2.2.2.2.1 (.row 1 ((x.2.1.map fun n => [I n]).map (List.map .v))) x.2.2.2.2.2.2) (fun x => x.1 ≤ l.length ∧ x.2.1.length = x.1 ∧ st ≤ x.2.2.1 ∧ x.2.2.1 ≤ 3000 ∧ lN (sZ c (mE (fun t e S => eT p n t e env S) (l.take x.1) st S)) (x.2.1, x.2.2.2.2.1) x.2.2.1 x.2.2.2.1 ∧ jG h0 nb p inp x.2.2.2.2.1 x.2.2.1 x.2.2.2.1 x.2.2.2.2.2.1 ∧ lQ x.2.2.2.2.2.1 x.2.1 x.2.2.2.2.2.2) (fun x => l.length - x.1) (0, [], st, c, S, h, none) ⟨by simp [dA, cH, nO], by simp only [aK]; exact aB.le_refl _, Nat.zero_le _, rfl, Nat.le_refl _, hst, jE _ _ _, hb, rfl⟩ ?_
 rintro ⟨k, vs, t, c', S1, g, o⟩ ⟨hk, hvl, ht0, ht, ho, hR, hos⟩
 simp only at hk hvl ht0 ht ho hR hos ⊢
 rcases Nat.lt_or_ge k l.length with hlt | hge
 ·have ek : l[k]? = some l[k] := List.getElem?_eq_getElem hlt
  have hnext : ∀ (j : Int) (S2 : dV) (t2 : Nat) (c2 : Int), lN (sZ c' (eT p n t l[k] env S1)) (j, S2) t2 c2 → lN (sZ c (mE (fun t e S => eT p n t e env S) (l.take (k + 1)) st S)) (vs ++ [j], S2) t2 c2 := fun j S2 t2 c2 h3 => by
   rw [List.take_succ_eq_append_getElem hlt, aGG]
   exact ho.fQ (h3.fQ (jE _ _ _))
  have bL2 : c' = 0 → Good inp S1 t ∧ ∀ x ∈ env, oV S1 x := fun hc => by
   obtain ⟨e1, e2⟩ := ho.ok hc
   obtain ⟨a1, a2⟩ := hgo e1
   obtain ⟨b1, b2, b3, b4⟩ := gH hp (l := l.take k) a1 hst a2 (fun x hx => hok x (List.mem_of_mem_take hx)) hf _ _ e2
   exact ⟨b1, fun x hx => (a2 x hx).ext b2⟩
  cases o with
  |none =>
   rw [dB] at hos
   subst hos
   simp -dsimp -implicitDefEqProofs only [go_sem, ↓reduceIte, Tryz.f92, dN, aK, hlt, ek, aA.aN]
   intro m9 z9
   rw [aF]
   have hvk := hv (bK h0 m9 (.row 5 [l[k].c.map .v])) (bK g m9 (.row 5 [l[k].c.map .v])) nb t c' l[k] env S1 funcs (hR.wO z9) ht (by omega) (hok _ (List.getElem_mem _)) fH hf bL2 (by omega)
   rw [aA.aN] at hvk
   refine aJ.iF hvk ?_
   rintro r h' ⟨j, S2, t2, c2, rfl, nL, h1, h2, h3⟩
   obtain ⟨g2, rfl, hg2, nL⟩ := nL.base (hR.none z9)
   simp -dsimp -implicitDefEqProofs only [go_sem, ↓reduceIte, Tryz.f92]
   refine ⟨Nat.zero_lt_one, Nat.zero_lt_one, Nat.zero_lt_one, fun b ⟨hb9, kU⟩ => ?_⟩
   refine ⟨(k + 1, [j], t2, c2, S2, g2, some b), ⟨rfl, by rw [IntWalk.i64_in _ (by omega)]; rfl⟩, ?_, ⟨by omega, by simp only [List.length_nil] at hvl; subst hvl; rfl, Nat.le_trans ht0 h1, h2, hnext j S2 t2 c2 h3, nL, kU⟩, by simp only; omega⟩
   simp only [aG]
   exact (jJ (by repeat' (first | exact gJ _ _ | refine jK (by simp only [dZ, ↓reduceIte, eq_self, if_true, hb9, hg2, List.map_cons, List.map_nil]) ?_ | refine fM (by first | exact .inr (by assumption) | exact .inl (by simp)) ?_)))
  |some m =>
   rw [cQ] at hos
   simp -dsimp -implicitDefEqProofs only [go_sem, ↓reduceIte, Tryz.f92, cI, aG, hlt, ek, aA.aN]
   intro m9 ⟨h9m, z9⟩
   rw [aF]
   have wQ : ¬ m9 = m := h9m
   have aKY : ¬ m = m9 := Ne.symm wQ
   have yY : (m9 = m) = False := eq_false wQ
   have yZ : (m = m9) = False := eq_false aKY
   have z9' : (bK g m (.row 1 ((vs.map fun n => [I n]).map (List.map .v)))) m9 = none := by rw [aC _ _ _ _ wQ]; exact z9
   have hRo := hR.wO (o := .row 1 ((vs.map fun n => [I n]).map (List.map .v))) hos
   have hvk := hv _ _ nb t c' l[k] env S1 funcs (hRo.wO (o := .row 5 [l[k].c.map .v]) z9') ht (by omega) (hok _ (List.getElem_mem _)) fH hf bL2 (by omega)
   rw [aA.aN] at hvk
   refine aJ.iF hvk ?_
   rintro r h' ⟨j, S2, t2, c2, rfl, nL, h1, h2, h3⟩
   obtain ⟨g1, rfl, l8, nL⟩ := nL.base (hRo.none z9')
   obtain ⟨g2, rfl, hg2, nL⟩ := nL.base (hR.none hos)
   rw [aC _ _ _ _ wQ] at l8
   simp -dsimp -implicitDefEqProofs only [go_sem, ↓reduceIte, Tryz.f92, aC, yZ, yY]
   refine ⟨Nat.zero_lt_one, Nat.zero_lt_one, Nat.zero_lt_one, Nat.le_refl _, by omega, by omega, fun b ⟨hb9, hbm, kU⟩ => ?_⟩
   have lF : ¬ b = m := hbm
   have v9 : ¬ m = b := Ne.symm lF
   have sJ : (b = m) = False := eq_false lF
   have sK : (m = b) = False := eq_false v9
   have a2S : ¬ b = m9 := hb9
   have bEZ : ¬ m9 = b := Ne.symm a2S
   have bE0 : (b = m9) = False := eq_false a2S
   have bE1 : (m9 = b) = False := eq_false bEZ
   refine ⟨(k + 1, vs ++ [j], t2, c2, S2, g2, some b), ⟨by rw [cI, List.length_append]; rfl, by rw [IntWalk.i64_in _ (by omega)]; rfl⟩, ?_, ⟨by omega, by rw [List.length_append, hvl]; rfl, Nat.le_trans ht0 h1, h2, hnext j S2 t2 c2 h3, nL, kU⟩, by simp only; omega⟩
   simp only [aG]
   rw [← jN]
   exact (jJ (by repeat' (first | exact gJ _ _ | refine jK (by simp only [dZ, ↓reduceIte, eq_self, if_true, sJ, bE0, sK, yZ, bE1, yY]) ?_ | refine fM (by first | exact .inr (by assumption) | exact .inl (by simp)) ?_)))
 ·have hk' : k = l.length := by omega
  subst hk'
  rw [List.take_length] at ho
  cases o with
  |none =>
   rw [dB] at hos
   subst hos
   simp -dsimp -implicitDefEqProofs only [go_sem, ↓reduceIte, Tryz.f92, dN, aK, Nat.lt_irrefl]
   exact ⟨ints [], _, Shift.of (Sub.loose _ _ _) (aB.le_refl _), [], S1, t, c', rfl, hR, hvl, ht0, ht, ho⟩
  |some m =>
   rw [cQ] at hos
   simp -dsimp -implicitDefEqProofs only [go_sem, ↓reduceIte, Tryz.f92, cI, aG, Nat.lt_irrefl]
   exact ⟨ints vs, g, kQ vs hos (aB.le_refl _) rfl, vs, S1, t, c', rfl, hR, hvl, ht0, ht, ho⟩
set_option maxRecDepth 100000
open Go.Proofs
set_option linter.unusedVariables false
set_option linter.unusedSimpArgs false
theorem a2T {p : aI} {inp : Int} {n : Nat} {h0 h : aB} {nb st : Nat} {c : Int} {e : aA} {env : List Int} {S : dV} (hR : jG h0 nb p inp S st c h) (hst : st ≤ 3000) (hs : ¬ c = 0 ∨ st = 3000) :
  fO Tryz.prog 108 [.op nb 8 0 0, .agg e.c, ints env] h (aGH h0 nb p inp st c (eT p (n + 1) st e env S)) := by
 obtain ⟨om, og, ov, H⟩ := hR
 have hb := H.box
 unfold dS at hb
 rw [aA.aN]
 refine kO 190 pH xF xG mix Tryz.func108 rfl (by kernel_rfl) (by simp) ?_
 simp -dsimp -implicitDefEqProofs only [go_sem, ↓reduceIte, Tryz.f108, hb]
 refine ⟨fun hc => ?_, fun hc => ?_⟩
 ·exact ⟨_, _, bX _ _, 0, S, st, c, rfl, ⟨_, _, _, H⟩, Nat.le_refl _, hst, by rw [lU _ hc]; exact jB _ _ hc⟩
 ·subst hc
  have h3 : st = 3000 := by rcases hs with hs | hs; exact absurd rfl hs; exact hs
  subst h3
  try simp -dsimp -implicitDefEqProofs only [go_sem, ↓reduceIte, Tryz.f108, hb]
  refine ⟨fun _ => ?_, fun q => absurd q (by simp)⟩
  refine ⟨_, _, bX _ _, 0, S, 3000, 7, rfl, ⟨_, _, _, H.set 3000 7⟩, Nat.le_refl _, hst, ?_⟩
  rw [fD, eT, if_pos rfl]
  exact jB _ _ (by decide)
@[go_sem] def a7I : List Nat := [0, 2]
@[go_sem] def bL4 : List Nat := []
@[go_sem] def bL5 : Marks := fun _ => ([], .nil, [])
theorem aXN (l : List Int) (hl : l.length ≤ 1048576) : e8 Tryz.prog 126 [ints l] (.sl 1 (l.map fun n => [I n]) true) := by
 refine eI 9 a7I bL4 bL5 mix Tryz.func126 rfl (by kernel_rfl) (by simp) fun h => ?_
 simp -dsimp -implicitDefEqProofs only [go_sem, ↓reduceIte, Tryz.f126]
 repeat' (with_reducible first | intro _ | refine And.intro ?_ ?_)
 all_goals try omega
 rw [List.take_of_length_le (by rw [List.length_map]; exact Nat.le_refl _)]
theorem bL6 {p : aI} (hp : p.ok) {inp : Int} {n : Nat} (hv : xH p inp n) {h0 h : aB} {nb st : Nat} {e : aA} {env : List Int} {S : dV} {funcs : Int} (hR : jG h0 nb p inp S st 0 h) (hst : st < 3000) (hn : 3001 ≤ n + 1 + st)
  (hok : e.ok p funcs env.length) (fH : 0 ≤ funcs) (hf : funcs ≤ p.aH.length) (hg : Good inp S st) (henv : ∀ x ∈ env, oV S x) (hel : env.length ≤ 412 + st) (hk : e.a6 = 1) :
  fO Tryz.prog 108 [.op nb 8 0 0, .agg e.c, ints env] h (aGH h0 nb p inp st 0 (eT p (n + 1) st e env S)) := by
 obtain ⟨om, og, ov, H⟩ := hR
 rw [aA.aN]
 have hb := H.box
 unfold dS at hb
 have e3 : ((st : Int) = 3000) = False := eq_false (by omega)
 have ew : IntKind.i64.wrap ((st : Int) + 1) = ((st + 1 : Nat) : Int) := by rw [IntWalk.i64_in _ (by omega)]; rfl
 have hnode := (aA.eP _ _ _ _).1 hok
 have h3 : ¬ st = 3000 := by omega
 have hcap := hg.cap
 have hgcap := hg.rK
 have l8 := hg.nH (Nat.le_succ st)
 have hR1 : jG h0 nb p inp S (st + 1) 0 (bK h nb (dS p inp S om og ov (st + 1) 0)) := ⟨_, _, _, H.set (st + 1) 0⟩
 refine kO 190 pH xF xG mix Tryz.func108 rfl (by kernel_rfl) (by simp) ?_
 simp -dsimp -implicitDefEqProofs only [go_sem, ↓reduceIte, Tryz.f108, hb, e3, ew, hk]
 refine aJ.iF (aKR hR1 ⟨2, 0, 0, e.bQ⟩ e.bQ hg.len (by omega)) ?_
 rintro r h' ⟨rfl, nL⟩
 simp -dsimp -implicitDefEqProofs only [go_sem, ↓reduceIte, Tryz.f108]
 refine ⟨_, _, bX _ _, _, _, st + 1, 0, rfl, nL, Nat.le_succ _, hst, ?_⟩
 rw [fD, aO8 h3 hk]
 exact uC _ _
theorem bL7 {p : aI} (hp : p.ok) {inp : Int} {n : Nat} (hv : xH p inp n) {h0 h : aB} {nb st : Nat} {e : aA} {env : List Int} {S : dV} {funcs : Int} (hR : jG h0 nb p inp S st 0 h) (hst : st < 3000) (hn : 3001 ≤ n + 1 + st)
  (hok : e.ok p funcs env.length) (fH : 0 ≤ funcs) (hf : funcs ≤ p.aH.length) (hg : Good inp S st) (henv : ∀ x ∈ env, oV S x) (hel : env.length ≤ 412 + st) (hk : e.a6 = 2) :
  fO Tryz.prog 108 [.op nb 8 0 0, .agg e.c, ints env] h (aGH h0 nb p inp st 0 (eT p (n + 1) st e env S)) := by
 obtain ⟨om, og, ov, H⟩ := hR
 rw [aA.aN]
 have hb := H.box
 unfold dS at hb
 have e3 : ((st : Int) = 3000) = False := eq_false (by omega)
 have ew : IntKind.i64.wrap ((st : Int) + 1) = ((st + 1 : Nat) : Int) := by rw [IntWalk.i64_in _ (by omega)]; rfl
 have hnode := (aA.eP _ _ _ _).1 hok
 have h3 : ¬ st = 3000 := by omega
 have hcap := hg.cap
 have hgcap := hg.rK
 have l8 := hg.nH (Nat.le_succ st)
 have hR1 : jG h0 nb p inp S (st + 1) 0 (bK h nb (dS p inp S om og ov (st + 1) 0)) := ⟨_, _, _, H.set (st + 1) 0⟩
 have hnum := ((fP (by omega)).1 hnode.1).2.2.2.2.1 hk
 have hlt : e.bQ.toNat < env.length := by omega
 refine kO 190 pH xF xG mix Tryz.func108 rfl (by kernel_rfl) (by simp) ?_
 simp -dsimp -implicitDefEqProofs only [go_sem, ↓reduceIte, Tryz.f108, hb, e3, ew, hk, eZ hlt]
 refine ⟨hnum.1, by omega, _, _, bX _ _, _, S, st + 1, 0, rfl, hR1, Nat.le_succ _, hst, ?_⟩
 rw [fD, aO9 h3 hk]
 exact uC _ _
theorem bL8 {p : aI} (hp : p.ok) {inp : Int} {n : Nat} (hv : xH p inp n) {h0 h : aB} {nb st : Nat} {e : aA} {env : List Int} {S : dV} {funcs : Int} (hR : jG h0 nb p inp S st 0 h) (hst : st < 3000) (hn : 3001 ≤ n + 1 + st)
  (hok : e.ok p funcs env.length) (fH : 0 ≤ funcs) (hf : funcs ≤ p.aH.length) (hg : Good inp S st) (henv : ∀ x ∈ env, oV S x) (hel : env.length ≤ 412 + st) (hk : e.a6 = 9) :
  fO Tryz.prog 108 [.op nb 8 0 0, .agg e.c, ints env] h (aGH h0 nb p inp st 0 (eT p (n + 1) st e env S)) := by
 obtain ⟨om, og, ov, H⟩ := hR
 rw [aA.aN]
 have hb := H.box
 unfold dS at hb
 have e3 : ((st : Int) = 3000) = False := eq_false (by omega)
 have ew : IntKind.i64.wrap ((st : Int) + 1) = ((st + 1 : Nat) : Int) := by rw [IntWalk.i64_in _ (by omega)]; rfl
 have hnode := (aA.eP _ _ _ _).1 hok
 have h3 : ¬ st = 3000 := by omega
 have hcap := hg.cap
 have hgcap := hg.rK
 have l8 := hg.nH (Nat.le_succ st)
 have hR1 : jG h0 nb p inp S (st + 1) 0 (bK h nb (dS p inp S om og ov (st + 1) 0)) := ⟨_, _, _, H.set (st + 1) 0⟩
 have hlen := fE hok (by omega)
 rw [hk, show gK 9 = 2 from rfl] at hlen
 have g0 : e.aM[Int.toNat 0]? = some (e.pV 0) := aA.iX (by omega)
 have g1 : e.aM[Int.toNat 1]? = some (e.pV 1) := aA.iX (by omega)
 have o0 := aA.gX hok (i := 0) (by omega)
 have o1 := aA.gX hok (i := 1) (by omega)
 rw [kP (by omega)] at o0
 rw [hk, show mP 9 1 (env.length : Int) = env.length + 1 from rfl] at o1
 refine kO 190 pH xF xG mix Tryz.func108 rfl (by kernel_rfl) (by simp) ?_
 simp -dsimp -implicitDefEqProofs only [go_sem, ↓reduceIte, Tryz.f108, hb, e3, ew, hk, g0, g1, aA.ld5]
 refine ⟨by omega, by omega, ?_⟩
 first | refine aJ.mk (aXN env (by omega)) ?_ | refine aL.mk (aXN env (by omega)) ?_ | refine aJ.dF (aXN env (by omega)) ?_ | refine aL.mk (cZ.gC (aXN env (by omega))) ?_
 simp -dsimp -implicitDefEqProofs only [go_sem, ↓reduceIte, Tryz.f108]
 refine aJ.iF (hv _ _ nb (st + 1) 0 (e.pV 0) env S funcs hR1 (by omega) (by omega) o0 fH hf (fun _ => ⟨l8, henv⟩) (by omega)) ?_
 rintro r h' ⟨k1, S1, t1, c1, rfl, nL, a1, a2, a3⟩
 simp -dsimp -implicitDefEqProofs only [go_sem, ↓reduceIte, Tryz.f108]
 refine ⟨Nat.zero_lt_one, Nat.zero_lt_one, Nat.zero_lt_one, by omega, by omega, fun m hm => ?_⟩
 have dR : ¬ nb = m := fun e => by obtain ⟨_, _, _, H2⟩ := nL; have := H2.box; rw [e, hm] at this; cases this
 have eJ : ¬ m = nb := Ne.symm dR
 have eH : (nb = m) = False := eq_false dR
 have eG : (m = nb) = False := eq_false eJ
 have hrow : env.map (fun n => [I n]) ++ [[aD.int .i64 k1]] = (env ++ [k1]).map fun n => [I n] := by rw [List.map_append]; rfl
 rw [hrow]
 refine aJ.a6Y dR (by rw [List.length_map, List.length_append]; rfl) hm ?_
 refine fO.mono (hv _ _ nb t1 c1 (e.pV 1) (env ++ [k1]) S1 funcs (nL.wO (o := .gone) hm) (by omega) (by omega) (by rw [List.length_append]; exact o1) fH hf (fun hc => ?_) (by rw [List.length_append]; show env.length + 1 ≤ _; omega)) ?_
 ·obtain ⟨_, e2⟩ := a3.ok hc
  obtain ⟨b1, b2, b3, b4⟩ := p4 hp n (st + 1) (e.pV 0) env S funcs o0 hf l8 (by omega) henv _ _ e2
  refine ⟨b1, fun x hx => ?_⟩
  rcases List.mem_append.1 hx with hx | hx
  ·exact (henv x hx).ext b2
  ·rw [List.mem_singleton.1 hx]; exact b3
 rintro r h2 ⟨k2, S2, t2, c2, rfl, sH, b1, b2, b3⟩
 obtain ⟨g, rfl, hgm, sH⟩ := sH.base (nL.none hm)
 simp -dsimp -implicitDefEqProofs only [go_sem, ↓reduceIte, Tryz.f108]
 refine ⟨_, g, eA (aB.bD hgm (aB.le_refl _)), k2, S2, t2, c2, rfl, sH, by omega, b2, ?_⟩
 rw [aPA h3 hk]
 exact a3.fQ b3
theorem bL9 {p : aI} (hp : p.ok) {inp : Int} {n : Nat} (hv : xH p inp n) {h0 h : aB} {nb st : Nat} {e : aA} {env : List Int} {S : dV} {funcs : Int} (hR : jG h0 nb p inp S st 0 h) (hst : st < 3000) (hn : 3001 ≤ n + 1 + st)
  (hok : e.ok p funcs env.length) (fH : 0 ≤ funcs) (hf : funcs ≤ p.aH.length) (hg : Good inp S st) (henv : ∀ x ∈ env, oV S x) (hel : env.length ≤ 412 + st) (hk : e.a6 = 8) :
  fO Tryz.prog 108 [.op nb 8 0 0, .agg e.c, ints env] h (aGH h0 nb p inp st 0 (eT p (n + 1) st e env S)) := by
 obtain ⟨om, og, ov, H⟩ := hR
 rw [aA.aN]
 have hb := H.box
 unfold dS at hb
 have e3 : ((st : Int) = 3000) = False := eq_false (by omega)
 have ew : IntKind.i64.wrap ((st : Int) + 1) = ((st + 1 : Nat) : Int) := by rw [IntWalk.i64_in _ (by omega)]; rfl
 have hnode := (aA.eP _ _ _ _).1 hok
 have h3 : ¬ st = 3000 := by omega
 have hcap := hg.cap
 have hgcap := hg.rK
 have l8 := hg.nH (Nat.le_succ st)
 have hR1 : jG h0 nb p inp S (st + 1) 0 (bK h nb (dS p inp S om og ov (st + 1) 0)) := ⟨_, _, _, H.set (st + 1) 0⟩
 have hlen := fE hok (by omega)
 rw [hk, show gK 8 = 3 from rfl] at hlen
 have g0 : e.aM[Int.toNat 0]? = some (e.pV 0) := aA.iX (by omega)
 have g1 : e.aM[Int.toNat 1]? = some (e.pV 1) := aA.iX (by omega)
 have g2 : e.aM[Int.toNat 2]? = some (e.pV 2) := aA.iX (by omega)
 have o0 := aA.gX hok (i := 0) (by omega)
 have o1 := aA.gX hok (i := 1) (by omega)
 have o2 := aA.gX hok (i := 2) (by omega)
 rw [kP (by omega)] at o0 o1 o2
 refine kO 190 pH xF xG mix Tryz.func108 rfl (by kernel_rfl) (by simp) ?_
 simp -dsimp -implicitDefEqProofs only [go_sem, ↓reduceIte, Tryz.f108, hb, e3, ew, hk, g0, aA.ld5]
 refine ⟨by omega, ?_⟩
 refine aJ.iF (hv _ _ nb (st + 1) 0 (e.pV 0) env S funcs hR1 (by omega) (by omega) o0 fH hf (fun _ => ⟨l8, henv⟩) (by omega)) ?_
 rintro r h' ⟨k1, S1, t1, c1, rfl, ⟨om1, og1, ov1, H1⟩, a1, a2, a3⟩
 have kT := H1.box
 unfold dS at kT
 simp -dsimp -implicitDefEqProofs only [go_sem, ↓reduceIte, Tryz.f108, kT]
 refine ⟨fun hc => ?_, fun hc => ?_⟩
 ·refine ⟨_, _, bX _ _, 0, S1, t1, c1, rfl, ⟨_, _, _, H1⟩, by omega, a2, ?_⟩
  rw [aA3 h3 hk]
  exact a3.fQ (by rw [lU _ hc]; exact jB _ _ hc)
 subst hc
 obtain ⟨_, e2⟩ := a3.ok rfl
 obtain ⟨q1, q2, q3, q4⟩ := p4 hp n (st + 1) (e.pV 0) env S funcs o0 hf l8 (by omega) henv _ _ e2
 unfold pG at q4
 simp only at q1 q2 q3 q4
 obtain ⟨w, rfl, hw, dw⟩ := H1.row q3
 have rk := jF q3
 have k0 := q3.1
 have k2 := q3.2
 have lw := eW (fun n => [I n]) S1.fS
 have hgc := q1.rK
 rw [aQ] at kT
 try simp -dsimp -implicitDefEqProofs only [go_sem, ↓reduceIte, Tryz.f108, kT, hw, rk, aQ]
 refine ⟨k0, by omega, ?_⟩
 have hgd := H1.gds
 cases og1 with
 |none =>
  have hg0 : S1.guards = [] := gY.1 hgd
  rw [aW]
  simp -dsimp -implicitDefEqProofs only [go_sem, ↓reduceIte, Tryz.f108, kT]
  refine ⟨by decide, by decide, by decide, fun b kU => ?_⟩
  have dU : ¬ b = nb := fun e => by rw [e, kT] at kU; cases kU
  have iI : ¬ nb = b := Ne.symm dU
  have iG : (b = nb) = False := eq_false dU
  have iH : (nb = b) = False := eq_false iI
  simp -dsimp -implicitDefEqProofs only [go_sem, ↓reduceIte, Tryz.f108, kT, iG, iH, aC, g1, g2, aA.ld5]
  refine ⟨fun hz => ⟨by omega, ?_⟩, fun hz => ⟨by omega, ?_⟩⟩
  ·rw [decide_eq_true hz]
   obtain ⟨g, hgl, hG⟩ := H1.guard ⟨k1, true⟩ kU (F := bK (bK h' b (.row 2 [[.v (I k1), .v (.bool true)]])) nb (dS p inp (S1.guard ⟨k1, true⟩) om1 (some b) (some w) t1 0)) (aU _ _ _) (by rw [aC _ _ _ _ dU, aU, hg0]; rfl) (fun n h1 h2 _ => by rw [aC _ _ _ _ h1, aC _ _ _ _ h2])
   unfold dS at hgl
   simp only [dV.guard, hg0, aQ, List.nil_append, List.length_singleton] at hgl
   refine aJ.wk (aB.jA hgl) ?_
   have hgG := q1.guard (b := true) q3 (by omega)
   have heG := q2.trans (S1.nK ⟨k1, true⟩)
   refine aJ.iF (hv h0 g nb t1 0 (e.pV 1) env (S1.guard ⟨k1, true⟩) funcs ⟨_, _, _, hG⟩ (by omega) (by omega) o1 fH hf (fun _ => ⟨hgG, fun x hx => (henv x hx).ext heG⟩) (by omega)) ?_
   rintro r h2 ⟨k2, S2, t2, c2, rfl, sH, b1, b2, b3⟩
   simp -dsimp -implicitDefEqProofs only [go_sem, ↓reduceIte, Tryz.f108]
   refine ⟨_, _, bX _ _, k2, S2, t2, c2, rfl, sH, by omega, b2, ?_⟩
   rw [aA3 h3 hk]
   refine a3.fQ ?_
   rw [if_pos hz]
   exact b3
  ·rw [decide_eq_false hz]
   obtain ⟨g, hgl, hG⟩ := H1.guard ⟨k1, false⟩ kU (F := bK (bK h' b (.row 2 [[.v (I k1), .v (.bool false)]])) nb (dS p inp (S1.guard ⟨k1, false⟩) om1 (some b) (some w) t1 0)) (aU _ _ _) (by rw [aC _ _ _ _ dU, aU, hg0]; rfl) (fun n h1 h2 _ => by rw [aC _ _ _ _ h1, aC _ _ _ _ h2])
   unfold dS at hgl
   simp only [dV.guard, hg0, aQ, List.nil_append, List.length_singleton] at hgl
   refine aJ.wk (aB.jA hgl) ?_
   have hgG := q1.guard (b := false) q3 (by omega)
   have heG := q2.trans (S1.nK ⟨k1, false⟩)
   refine aJ.iF (hv h0 g nb t1 0 (e.pV 2) env (S1.guard ⟨k1, false⟩) funcs ⟨_, _, _, hG⟩ (by omega) (by omega) o2 fH hf (fun _ => ⟨hgG, fun x hx => (henv x hx).ext heG⟩) (by omega)) ?_
   rintro r h2 ⟨k2, S2, t2, c2, rfl, sH, b1, b2, b3⟩
   simp -dsimp -implicitDefEqProofs only [go_sem, ↓reduceIte, Tryz.f108]
   refine ⟨_, _, bX _ _, k2, S2, t2, c2, rfl, sH, by omega, b2, ?_⟩
   rw [aA3 h3 hk]
   refine a3.fQ ?_
   rw [if_neg hz]
   exact b3
 |some gm =>
  have hgm := hgd.2
  have aE2 : ¬ gm = nb := fun e => by rw [e, kT] at hgm; cases hgm
  have aPK : ¬ nb = gm := Ne.symm aE2
  have aPL : (gm = nb) = False := eq_false aE2
  have aPM : (nb = gm) = False := eq_false aPK
  rw [aQ]
  simp -dsimp -implicitDefEqProofs only [go_sem, ↓reduceIte, Tryz.f108, kT, hgm, eW]
  refine ⟨by decide, by decide, by decide, Nat.le_refl _, by omega, by omega, fun b kU => ?_⟩
  have dU : ¬ b = nb := fun e => by rw [e, kT] at kU; cases kU
  have iI : ¬ nb = b := Ne.symm dU
  have iG : (b = nb) = False := eq_false dU
  have iH : (nb = b) = False := eq_false iI
  have aKZ : ¬ b = gm := fun e => by rw [e, hgm] at kU; cases kU
  have aUY : ¬ gm = b := Ne.symm aKZ
  have aUZ : (b = gm) = False := eq_false aKZ
  have aU0 : (gm = b) = False := eq_false aUY
  simp -dsimp -implicitDefEqProofs only [go_sem, ↓reduceIte, Tryz.f108, kT, iG, aUZ, iH, aPM, aU0, aPL, aC, g1, g2, aA.ld5]
  refine ⟨fun hz => ⟨by omega, ?_⟩, fun hz => ⟨by omega, ?_⟩⟩
  ·rw [decide_eq_true hz, List.take_of_length_le (by rw [eW]; exact Nat.le_refl _)]
   obtain ⟨g, hgl, hG⟩ := H1.guard ⟨k1, true⟩ kU (F := bK (bK (bK h' gm .gone) b (.row 2 (rowsOf eS.c S1.guards ++ [[.v (I k1), .v (.bool true)]]))) nb (dS p inp (S1.guard ⟨k1, true⟩) om1 (some b) (some w) t1 0)) (aU _ _ _) (by rw [aC _ _ _ _ dU, aU, mS]; rfl) (fun n h1 h2 h3 => by rw [aC _ _ _ _ h1, aC _ _ _ _ h2, aC _ _ _ _ (fun q => h3 (by rw [q]))])
   unfold dS at hgl
   simp only [dV.guard, aQ, List.length_append, List.length_singleton] at hgl
   refine aJ.wk (aB.jA hgl) ?_
   have hgG := q1.guard (b := true) q3 (by omega)
   have heG := q2.trans (S1.nK ⟨k1, true⟩)
   refine aJ.iF (hv h0 g nb t1 0 (e.pV 1) env (S1.guard ⟨k1, true⟩) funcs ⟨_, _, _, hG⟩ (by omega) (by omega) o1 fH hf (fun _ => ⟨hgG, fun x hx => (henv x hx).ext heG⟩) (by omega)) ?_
   rintro r h2 ⟨k2, S2, t2, c2, rfl, sH, b1, b2, b3⟩
   simp -dsimp -implicitDefEqProofs only [go_sem, ↓reduceIte, Tryz.f108]
   refine ⟨_, _, bX _ _, k2, S2, t2, c2, rfl, sH, by omega, b2, ?_⟩
   rw [aA3 h3 hk]
   refine a3.fQ ?_
   rw [if_pos hz]
   exact b3
  ·rw [decide_eq_false hz, List.take_of_length_le (by rw [eW]; exact Nat.le_refl _)]
   obtain ⟨g, hgl, hG⟩ := H1.guard ⟨k1, false⟩ kU (F := bK (bK (bK h' gm .gone) b (.row 2 (rowsOf eS.c S1.guards ++ [[.v (I k1), .v (.bool false)]]))) nb (dS p inp (S1.guard ⟨k1, false⟩) om1 (some b) (some w) t1 0)) (aU _ _ _) (by rw [aC _ _ _ _ dU, aU, mS]; rfl) (fun n h1 h2 h3 => by rw [aC _ _ _ _ h1, aC _ _ _ _ h2, aC _ _ _ _ (fun q => h3 (by rw [q]))])
   unfold dS at hgl
   simp only [dV.guard, aQ, List.length_append, List.length_singleton] at hgl
   refine aJ.wk (aB.jA hgl) ?_
   have hgG := q1.guard (b := false) q3 (by omega)
   have heG := q2.trans (S1.nK ⟨k1, false⟩)
   refine aJ.iF (hv h0 g nb t1 0 (e.pV 2) env (S1.guard ⟨k1, false⟩) funcs ⟨_, _, _, hG⟩ (by omega) (by omega) o2 fH hf (fun _ => ⟨hgG, fun x hx => (henv x hx).ext heG⟩) (by omega)) ?_
   rintro r h2 ⟨k2, S2, t2, c2, rfl, sH, b1, b2, b3⟩
   simp -dsimp -implicitDefEqProofs only [go_sem, ↓reduceIte, Tryz.f108]
   refine ⟨_, _, bX _ _, k2, S2, t2, c2, rfl, sH, by omega, b2, ?_⟩
   rw [aA3 h3 hk]
   refine a3.fQ ?_
   rw [if_neg hz]
   exact b3
set_option maxRecDepth 100000
open Go.Proofs
set_option linter.unusedVariables false
set_option linter.unusedSimpArgs false
theorem bMA {p : aI} (hp : p.ok) {inp : Int} {n : Nat} (hv : xH p inp n) {h0 h : aB} {nb st : Nat} {e : aA} {env : List Int} {S : dV} {funcs : Int} (hR : jG h0 nb p inp S st 0 h) (hst : st < 3000) (hn : 3001 ≤ n + 1 + st)
  (hok : e.ok p funcs env.length) (fH : 0 ≤ funcs) (hf : funcs ≤ p.aH.length) (hg : Good inp S st) (henv : ∀ x ∈ env, oV S x) (hel : env.length ≤ 412 + st) (hk : e.a6 = 3) :
  fO Tryz.prog 108 [.op nb 8 0 0, .agg e.c, ints env] h (aGH h0 nb p inp st 0 (eT p (n + 1) st e env S)) := by
 obtain ⟨om, og, ov, H⟩ := hR
 rw [aA.aN]
 have hb := H.box
 unfold dS at hb
 have e3 : ((st : Int) = 3000) = False := eq_false (by omega)
 have ew : IntKind.i64.wrap ((st : Int) + 1) = ((st + 1 : Nat) : Int) := by rw [IntWalk.i64_in _ (by omega)]; rfl
 have hnode := (aA.eP _ _ _ _).1 hok
 have h3 : ¬ st = 3000 := by omega
 have hcap := hg.cap
 have hgcap := hg.rK
 have l8 := hg.nH (Nat.le_succ st)
 have hR1 : jG h0 nb p inp S (st + 1) 0 (bK h nb (dS p inp S om og ov (st + 1) 0)) := ⟨_, _, _, H.set (st + 1) 0⟩
 have hlen := fE hok (by omega)
 rw [hk, show gK 3 = 2 from rfl] at hlen
 have hkl : e.aM.length ≤ 1048576 := by omega
 refine kO 190 pH xF xG mix Tryz.func108 rfl (by kernel_rfl) (by simp) ?_
 simp -dsimp -implicitDefEqProofs only [go_sem, ↓reduceIte, Tryz.f108, hb, e3, ew, hk]
 refine aJ.iF (uE hp hv h0 _ nb (st + 1) 0 e.aM env S funcs hR1 (by omega) (by omega) hkl (fU hok (by omega)) fH hf (fun _ => ⟨l8, henv⟩) (by omega)) ?_
 rintro r h' ⟨vs, S1, t1, c1, rfl, ⟨om1, og1, ov1, H1⟩, hvl, a1, a2, a3⟩
 have kT := H1.box
 unfold dS at kT
 simp -dsimp -implicitDefEqProofs only [go_sem, ↓reduceIte, Tryz.f108, kT]
 refine ⟨fun hc => ?_, fun hc => ?_⟩
 ·refine ⟨_, _, bX _ _, 0, S1, t1, c1, rfl, ⟨_, _, _, H1⟩, by omega, a2, ?_⟩
  rw [lG h3 (by omega)]
  exact a3.fQ (by rw [lU _ hc]; exact jB _ _ hc)
 subst hc
 obtain ⟨_, e2⟩ := a3.ok rfl
 obtain ⟨q1, q2, q3, q4⟩ := gH hp l8 (by omega) henv (fU hok (by omega)) hf _ _ e2
 simp only at q1 q2 q3
 try simp -dsimp -implicitDefEqProofs only [go_sem, ↓reduceIte, Tryz.f108, hk]
 refine aJ.iF (r8 ⟨_, _, _, H1⟩ q1 a2 3 vs (by decide) (by omega) (by omega) q3.2 (by omega)) ?_
 rintro r h2 ⟨k2, S2, c2, rfl, sH, b3⟩
 simp -dsimp -implicitDefEqProofs only [go_sem, ↓reduceIte, Tryz.f108]
 refine ⟨_, _, bX _ _, k2, S2, t1, c2, rfl, sH, by omega, a2, ?_⟩
 rw [lG h3 (by omega)]
 refine a3.fQ ?_
 rw [fD, hk]
 exact b3
theorem bMB {p : aI} (hp : p.ok) {inp : Int} {n : Nat} (hv : xH p inp n) {h0 h : aB} {nb st : Nat} {e : aA} {env : List Int} {S : dV} {funcs : Int} (hR : jG h0 nb p inp S st 0 h) (hst : st < 3000) (hn : 3001 ≤ n + 1 + st)
  (hok : e.ok p funcs env.length) (fH : 0 ≤ funcs) (hf : funcs ≤ p.aH.length) (hg : Good inp S st) (henv : ∀ x ∈ env, oV S x) (hel : env.length ≤ 412 + st) (hk : e.a6 = 4) :
  fO Tryz.prog 108 [.op nb 8 0 0, .agg e.c, ints env] h (aGH h0 nb p inp st 0 (eT p (n + 1) st e env S)) := by
 obtain ⟨om, og, ov, H⟩ := hR
 rw [aA.aN]
 have hb := H.box
 unfold dS at hb
 have e3 : ((st : Int) = 3000) = False := eq_false (by omega)
 have ew : IntKind.i64.wrap ((st : Int) + 1) = ((st + 1 : Nat) : Int) := by rw [IntWalk.i64_in _ (by omega)]; rfl
 have hnode := (aA.eP _ _ _ _).1 hok
 have h3 : ¬ st = 3000 := by omega
 have hcap := hg.cap
 have hgcap := hg.rK
 have l8 := hg.nH (Nat.le_succ st)
 have hR1 : jG h0 nb p inp S (st + 1) 0 (bK h nb (dS p inp S om og ov (st + 1) 0)) := ⟨_, _, _, H.set (st + 1) 0⟩
 have hlen := fE hok (by omega)
 rw [hk, show gK 4 = 2 from rfl] at hlen
 have hkl : e.aM.length ≤ 1048576 := by omega
 refine kO 190 pH xF xG mix Tryz.func108 rfl (by kernel_rfl) (by simp) ?_
 simp -dsimp -implicitDefEqProofs only [go_sem, ↓reduceIte, Tryz.f108, hb, e3, ew, hk]
 refine aJ.iF (uE hp hv h0 _ nb (st + 1) 0 e.aM env S funcs hR1 (by omega) (by omega) hkl (fU hok (by omega)) fH hf (fun _ => ⟨l8, henv⟩) (by omega)) ?_
 rintro r h' ⟨vs, S1, t1, c1, rfl, ⟨om1, og1, ov1, H1⟩, hvl, a1, a2, a3⟩
 have kT := H1.box
 unfold dS at kT
 simp -dsimp -implicitDefEqProofs only [go_sem, ↓reduceIte, Tryz.f108, kT]
 refine ⟨fun hc => ?_, fun hc => ?_⟩
 ·refine ⟨_, _, bX _ _, 0, S1, t1, c1, rfl, ⟨_, _, _, H1⟩, by omega, a2, ?_⟩
  rw [lG h3 (by omega)]
  exact a3.fQ (by rw [lU _ hc]; exact jB _ _ hc)
 subst hc
 obtain ⟨_, e2⟩ := a3.ok rfl
 obtain ⟨q1, q2, q3, q4⟩ := gH hp l8 (by omega) henv (fU hok (by omega)) hf _ _ e2
 simp only at q1 q2 q3
 try simp -dsimp -implicitDefEqProofs only [go_sem, ↓reduceIte, Tryz.f108, hk]
 refine aJ.iF (r8 ⟨_, _, _, H1⟩ q1 a2 4 vs (by decide) (by omega) (by omega) q3.2 (by omega)) ?_
 rintro r h2 ⟨k2, S2, c2, rfl, sH, b3⟩
 simp -dsimp -implicitDefEqProofs only [go_sem, ↓reduceIte, Tryz.f108]
 refine ⟨_, _, bX _ _, k2, S2, t1, c2, rfl, sH, by omega, a2, ?_⟩
 rw [lG h3 (by omega)]
 refine a3.fQ ?_
 rw [fD, hk]
 exact b3
theorem bMC {p : aI} (hp : p.ok) {inp : Int} {n : Nat} (hv : xH p inp n) {h0 h : aB} {nb st : Nat} {e : aA} {env : List Int} {S : dV} {funcs : Int} (hR : jG h0 nb p inp S st 0 h) (hst : st < 3000) (hn : 3001 ≤ n + 1 + st)
  (hok : e.ok p funcs env.length) (fH : 0 ≤ funcs) (hf : funcs ≤ p.aH.length) (hg : Good inp S st) (henv : ∀ x ∈ env, oV S x) (hel : env.length ≤ 412 + st) (hk : e.a6 = 5) :
  fO Tryz.prog 108 [.op nb 8 0 0, .agg e.c, ints env] h (aGH h0 nb p inp st 0 (eT p (n + 1) st e env S)) := by
 obtain ⟨om, og, ov, H⟩ := hR
 rw [aA.aN]
 have hb := H.box
 unfold dS at hb
 have e3 : ((st : Int) = 3000) = False := eq_false (by omega)
 have ew : IntKind.i64.wrap ((st : Int) + 1) = ((st + 1 : Nat) : Int) := by rw [IntWalk.i64_in _ (by omega)]; rfl
 have hnode := (aA.eP _ _ _ _).1 hok
 have h3 : ¬ st = 3000 := by omega
 have hcap := hg.cap
 have hgcap := hg.rK
 have l8 := hg.nH (Nat.le_succ st)
 have hR1 : jG h0 nb p inp S (st + 1) 0 (bK h nb (dS p inp S om og ov (st + 1) 0)) := ⟨_, _, _, H.set (st + 1) 0⟩
 have hlen := fE hok (by omega)
 rw [hk, show gK 5 = 2 from rfl] at hlen
 have hkl : e.aM.length ≤ 1048576 := by omega
 refine kO 190 pH xF xG mix Tryz.func108 rfl (by kernel_rfl) (by simp) ?_
 simp -dsimp -implicitDefEqProofs only [go_sem, ↓reduceIte, Tryz.f108, hb, e3, ew, hk]
 refine aJ.iF (uE hp hv h0 _ nb (st + 1) 0 e.aM env S funcs hR1 (by omega) (by omega) hkl (fU hok (by omega)) fH hf (fun _ => ⟨l8, henv⟩) (by omega)) ?_
 rintro r h' ⟨vs, S1, t1, c1, rfl, ⟨om1, og1, ov1, H1⟩, hvl, a1, a2, a3⟩
 have kT := H1.box
 unfold dS at kT
 simp -dsimp -implicitDefEqProofs only [go_sem, ↓reduceIte, Tryz.f108, kT]
 refine ⟨fun hc => ?_, fun hc => ?_⟩
 ·refine ⟨_, _, bX _ _, 0, S1, t1, c1, rfl, ⟨_, _, _, H1⟩, by omega, a2, ?_⟩
  rw [lG h3 (by omega)]
  exact a3.fQ (by rw [lU _ hc]; exact jB _ _ hc)
 subst hc
 obtain ⟨_, e2⟩ := a3.ok rfl
 obtain ⟨q1, q2, q3, q4⟩ := gH hp l8 (by omega) henv (fU hok (by omega)) hf _ _ e2
 simp only at q1 q2 q3
 try simp -dsimp -implicitDefEqProofs only [go_sem, ↓reduceIte, Tryz.f108, hk]
 refine aJ.iF (r8 ⟨_, _, _, H1⟩ q1 a2 5 vs (by decide) (by omega) (by omega) q3.2 (by omega)) ?_
 rintro r h2 ⟨k2, S2, c2, rfl, sH, b3⟩
 simp -dsimp -implicitDefEqProofs only [go_sem, ↓reduceIte, Tryz.f108]
 refine ⟨_, _, bX _ _, k2, S2, t1, c2, rfl, sH, by omega, a2, ?_⟩
 rw [lG h3 (by omega)]
 refine a3.fQ ?_
 rw [fD, hk]
 exact b3
theorem bMD {p : aI} (hp : p.ok) {inp : Int} {n : Nat} (hv : xH p inp n) {h0 h : aB} {nb st : Nat} {e : aA} {env : List Int} {S : dV} {funcs : Int} (hR : jG h0 nb p inp S st 0 h) (hst : st < 3000) (hn : 3001 ≤ n + 1 + st)
  (hok : e.ok p funcs env.length) (fH : 0 ≤ funcs) (hf : funcs ≤ p.aH.length) (hg : Good inp S st) (henv : ∀ x ∈ env, oV S x) (hel : env.length ≤ 412 + st) (hk : e.a6 = 6) :
  fO Tryz.prog 108 [.op nb 8 0 0, .agg e.c, ints env] h (aGH h0 nb p inp st 0 (eT p (n + 1) st e env S)) := by
 obtain ⟨om, og, ov, H⟩ := hR
 rw [aA.aN]
 have hb := H.box
 unfold dS at hb
 have e3 : ((st : Int) = 3000) = False := eq_false (by omega)
 have ew : IntKind.i64.wrap ((st : Int) + 1) = ((st + 1 : Nat) : Int) := by rw [IntWalk.i64_in _ (by omega)]; rfl
 have hnode := (aA.eP _ _ _ _).1 hok
 have h3 : ¬ st = 3000 := by omega
 have hcap := hg.cap
 have hgcap := hg.rK
 have l8 := hg.nH (Nat.le_succ st)
 have hR1 : jG h0 nb p inp S (st + 1) 0 (bK h nb (dS p inp S om og ov (st + 1) 0)) := ⟨_, _, _, H.set (st + 1) 0⟩
 have hlen := fE hok (by omega)
 rw [hk, show gK 6 = 2 from rfl] at hlen
 have hkl : e.aM.length ≤ 1048576 := by omega
 refine kO 190 pH xF xG mix Tryz.func108 rfl (by kernel_rfl) (by simp) ?_
 simp -dsimp -implicitDefEqProofs only [go_sem, ↓reduceIte, Tryz.f108, hb, e3, ew, hk]
 refine aJ.iF (uE hp hv h0 _ nb (st + 1) 0 e.aM env S funcs hR1 (by omega) (by omega) hkl (fU hok (by omega)) fH hf (fun _ => ⟨l8, henv⟩) (by omega)) ?_
 rintro r h' ⟨vs, S1, t1, c1, rfl, ⟨om1, og1, ov1, H1⟩, hvl, a1, a2, a3⟩
 have kT := H1.box
 unfold dS at kT
 simp -dsimp -implicitDefEqProofs only [go_sem, ↓reduceIte, Tryz.f108, kT]
 refine ⟨fun hc => ?_, fun hc => ?_⟩
 ·refine ⟨_, _, bX _ _, 0, S1, t1, c1, rfl, ⟨_, _, _, H1⟩, by omega, a2, ?_⟩
  rw [lG h3 (by omega)]
  exact a3.fQ (by rw [lU _ hc]; exact jB _ _ hc)
 subst hc
 obtain ⟨_, e2⟩ := a3.ok rfl
 obtain ⟨q1, q2, q3, q4⟩ := gH hp l8 (by omega) henv (fU hok (by omega)) hf _ _ e2
 simp only at q1 q2 q3
 try simp -dsimp -implicitDefEqProofs only [go_sem, ↓reduceIte, Tryz.f108, hk]
 refine aJ.iF (r8 ⟨_, _, _, H1⟩ q1 a2 6 vs (by decide) (by omega) (by omega) q3.2 (by omega)) ?_
 rintro r h2 ⟨k2, S2, c2, rfl, sH, b3⟩
 simp -dsimp -implicitDefEqProofs only [go_sem, ↓reduceIte, Tryz.f108]
 refine ⟨_, _, bX _ _, k2, S2, t1, c2, rfl, sH, by omega, a2, ?_⟩
 rw [lG h3 (by omega)]
 refine a3.fQ ?_
 rw [fD, hk]
 exact b3
theorem bME {p : aI} (hp : p.ok) {inp : Int} {n : Nat} (hv : xH p inp n) {h0 h : aB} {nb st : Nat} {e : aA} {env : List Int} {S : dV} {funcs : Int} (hR : jG h0 nb p inp S st 0 h) (hst : st < 3000) (hn : 3001 ≤ n + 1 + st)
  (hok : e.ok p funcs env.length) (fH : 0 ≤ funcs) (hf : funcs ≤ p.aH.length) (hg : Good inp S st) (henv : ∀ x ∈ env, oV S x) (hel : env.length ≤ 412 + st) (hk : e.a6 = 7) :
  fO Tryz.prog 108 [.op nb 8 0 0, .agg e.c, ints env] h (aGH h0 nb p inp st 0 (eT p (n + 1) st e env S)) := by
 obtain ⟨om, og, ov, H⟩ := hR
 rw [aA.aN]
 have hb := H.box
 unfold dS at hb
 have e3 : ((st : Int) = 3000) = False := eq_false (by omega)
 have ew : IntKind.i64.wrap ((st : Int) + 1) = ((st + 1 : Nat) : Int) := by rw [IntWalk.i64_in _ (by omega)]; rfl
 have hnode := (aA.eP _ _ _ _).1 hok
 have h3 : ¬ st = 3000 := by omega
 have hcap := hg.cap
 have hgcap := hg.rK
 have l8 := hg.nH (Nat.le_succ st)
 have hR1 : jG h0 nb p inp S (st + 1) 0 (bK h nb (dS p inp S om og ov (st + 1) 0)) := ⟨_, _, _, H.set (st + 1) 0⟩
 have hlen := fE hok (by omega)
 rw [hk, show gK 7 = 1 from rfl] at hlen
 have hkl : e.aM.length ≤ 1048576 := by omega
 refine kO 190 pH xF xG mix Tryz.func108 rfl (by kernel_rfl) (by simp) ?_
 simp -dsimp -implicitDefEqProofs only [go_sem, ↓reduceIte, Tryz.f108, hb, e3, ew, hk]
 refine aJ.iF (uE hp hv h0 _ nb (st + 1) 0 e.aM env S funcs hR1 (by omega) (by omega) hkl (fU hok (by omega)) fH hf (fun _ => ⟨l8, henv⟩) (by omega)) ?_
 rintro r h' ⟨vs, S1, t1, c1, rfl, ⟨om1, og1, ov1, H1⟩, hvl, a1, a2, a3⟩
 have kT := H1.box
 unfold dS at kT
 simp -dsimp -implicitDefEqProofs only [go_sem, ↓reduceIte, Tryz.f108, kT]
 refine ⟨fun hc => ?_, fun hc => ?_⟩
 ·refine ⟨_, _, bX _ _, 0, S1, t1, c1, rfl, ⟨_, _, _, H1⟩, by omega, a2, ?_⟩
  rw [lG h3 (by omega)]
  exact a3.fQ (by rw [lU _ hc]; exact jB _ _ hc)
 subst hc
 obtain ⟨_, e2⟩ := a3.ok rfl
 obtain ⟨q1, q2, q3, q4⟩ := gH hp l8 (by omega) henv (fU hok (by omega)) hf _ _ e2
 simp only at q1 q2 q3
 try simp -dsimp -implicitDefEqProofs only [go_sem, ↓reduceIte, Tryz.f108, hk]
 refine aJ.iF (r8 ⟨_, _, _, H1⟩ q1 a2 7 vs (by decide) (by omega) (by omega) q3.2 (by omega)) ?_
 rintro r h2 ⟨k2, S2, c2, rfl, sH, b3⟩
 simp -dsimp -implicitDefEqProofs only [go_sem, ↓reduceIte, Tryz.f108]
 refine ⟨_, _, bX _ _, k2, S2, t1, c2, rfl, sH, by omega, a2, ?_⟩
 rw [lG h3 (by omega)]
 refine a3.fQ ?_
 rw [fD, hk]
 exact b3
theorem bE2 {p : aI} (hp : p.ok) {inp : Int} {n : Nat} (hv : xH p inp n) {h0 h : aB} {nb st : Nat} {e : aA} {env : List Int} {S : dV} {funcs : Int} (hR : jG h0 nb p inp S st 0 h) (hst : st < 3000) (hn : 3001 ≤ n + 1 + st)
  (hok : e.ok p funcs env.length) (fH : 0 ≤ funcs) (hf : funcs ≤ p.aH.length) (hg : Good inp S st) (henv : ∀ x ∈ env, oV S x) (hel : env.length ≤ 412 + st) (hk : e.a6 = 10) :
  fO Tryz.prog 108 [.op nb 8 0 0, .agg e.c, ints env] h (aGH h0 nb p inp st 0 (eT p (n + 1) st e env S)) := by
 obtain ⟨om, og, ov, H⟩ := hR
 rw [aA.aN]
 have hb := H.box
 unfold dS at hb
 have e3 : ((st : Int) = 3000) = False := eq_false (by omega)
 have ew : IntKind.i64.wrap ((st : Int) + 1) = ((st + 1 : Nat) : Int) := by rw [IntWalk.i64_in _ (by omega)]; rfl
 have hnode := (aA.eP _ _ _ _).1 hok
 have h3 : ¬ st = 3000 := by omega
 have hcap := hg.cap
 have hgcap := hg.rK
 have l8 := hg.nH (Nat.le_succ st)
 have hR1 : jG h0 nb p inp S (st + 1) 0 (bK h nb (dS p inp S om og ov (st + 1) 0)) := ⟨_, _, _, H.set (st + 1) 0⟩
 obtain ⟨f, F⟩ := uD hp hok hf (.inl hk)
 have hkl : e.aM.length ≤ 1048576 := by have := F.kids; have := F.params; omega
 refine kO 190 pH xF xG mix Tryz.func108 rfl (by kernel_rfl) (by simp) ?_
 simp -dsimp -implicitDefEqProofs only [go_sem, ↓reduceIte, Tryz.f108, hb, e3, ew, hk]
 refine aJ.iF (uE hp hv h0 _ nb (st + 1) 0 e.aM env S funcs hR1 (by omega) (by omega) hkl (fU hok (by omega)) fH hf (fun _ => ⟨l8, henv⟩) (by omega)) ?_
 rintro r h' ⟨vs, S1, t1, c1, rfl, ⟨om1, og1, ov1, H1⟩, hvl, a1, a2, a3⟩
 have kT := H1.box
 unfold dS at kT
 simp -dsimp -implicitDefEqProofs only [go_sem, ↓reduceIte, Tryz.f108, kT]
 refine ⟨fun hc => ?_, fun hc => ?_⟩
 ·refine ⟨_, _, bX _ _, 0, S1, t1, c1, rfl, ⟨_, _, _, H1⟩, by omega, a2, ?_⟩
  rw [aBF h3 hk]
  exact a3.fQ (by rw [lU _ hc]; exact jB _ _ hc)
 subst hc
 obtain ⟨_, e2⟩ := a3.ok rfl
 obtain ⟨q1, q2, q3, q4⟩ := gH hp l8 (by omega) henv (fU hok (by omega)) hf _ _ e2
 simp only at q1 q2 q3
 try simp -dsimp -implicitDefEqProofs only [go_sem, ↓reduceIte, Tryz.f108, hk, kT, F.get, F.out, aV.aN, aA.ld5]
 have f1 := F.lo
 have f2 := F.hi
 have f3 := F.pk
 have f4 := F.pk2
 have f5 := F.kids
 have f6 := F.params
 refine ⟨f1, f2, f3, by omega, ?_⟩
 refine aJ.iF (hv h0 _ nb t1 0 (p.out e.bQ e.c9) vs S1 e.bQ ⟨_, _, _, H1⟩ (by omega) (by omega) (by rw [hvl, f5]; exact F.oks _ (List.mem_of_getElem? F.out)) f1 (by omega) (fun _ => ⟨q1, q3.2⟩) (by omega)) ?_
 rintro r h2 ⟨k2, S2, t2, c2, rfl, sH, b1, b2, b3⟩
 simp -dsimp -implicitDefEqProofs only [go_sem, ↓reduceIte, Tryz.f108]
 refine ⟨_, _, bX _ _, k2, S2, t2, c2, rfl, sH, by omega, b2, ?_⟩
 rw [aBF h3 hk]
 exact a3.fQ b3
theorem bE3 {p : aI} (hp : p.ok) {inp : Int} {n : Nat} (hv : xH p inp n) {h0 h : aB} {nb st : Nat} {e : aA} {env : List Int} {S : dV} {funcs : Int} (hR : jG h0 nb p inp S st 0 h) (hst : st < 3000) (hn : 3001 ≤ n + 1 + st)
  (hok : e.ok p funcs env.length) (fH : 0 ≤ funcs) (hf : funcs ≤ p.aH.length) (hg : Good inp S st) (henv : ∀ x ∈ env, oV S x) (hel : env.length ≤ 412 + st) (hk : e.a6 = 11) :
  fO Tryz.prog 108 [.op nb 8 0 0, .agg e.c, ints env] h (aGH h0 nb p inp st 0 (eT p (n + 1) st e env S)) := by
 obtain ⟨om, og, ov, H⟩ := hR
 rw [aA.aN]
 have hb := H.box
 unfold dS at hb
 have e3 : ((st : Int) = 3000) = False := eq_false (by omega)
 have ew : IntKind.i64.wrap ((st : Int) + 1) = ((st + 1 : Nat) : Int) := by rw [IntWalk.i64_in _ (by omega)]; rfl
 have hnode := (aA.eP _ _ _ _).1 hok
 have h3 : ¬ st = 3000 := by omega
 have hcap := hg.cap
 have hgcap := hg.rK
 have l8 := hg.nH (Nat.le_succ st)
 have hR1 : jG h0 nb p inp S (st + 1) 0 (bK h nb (dS p inp S om og ov (st + 1) 0)) := ⟨_, _, _, H.set (st + 1) 0⟩
 obtain ⟨f, F⟩ := uD hp hok hf (.inr hk)
 have hkl : e.aM.length ≤ 1048576 := by have := F.kids; have := F.params; omega
 have f1 := F.lo
 have f2 := F.hi
 have f3 := F.pk
 have f4 := F.pk2
 have f5 := F.kids
 have f6 := F.params
 have f7 := F.loop hk
 have f8 := F.outs
 refine kO 190 pH xF xG mix Tryz.func108 rfl (by kernel_rfl) (by simp) ?_
 simp -dsimp -implicitDefEqProofs only [go_sem, ↓reduceIte, Tryz.f108, hb, e3, ew, hk]
 refine aJ.iF (uE hp hv h0 _ nb (st + 1) 0 e.aM env S funcs hR1 (by omega) (by omega) hkl (fU hok (by omega)) fH hf (fun _ => ⟨l8, henv⟩) (by omega)) ?_
 rintro r h' ⟨vs, S1, t1, c1, rfl, ⟨om1, og1, ov1, H1⟩, hvl, a1, a2, a3⟩
 have kT := H1.box
 unfold dS at kT
 simp -dsimp -implicitDefEqProofs only [go_sem, ↓reduceIte, Tryz.f108, kT]
 refine ⟨fun hc => ?_, fun hc => ?_⟩
 ·refine ⟨_, _, bX _ _, 0, S1, t1, c1, rfl, ⟨_, _, _, H1⟩, by omega, a2, ?_⟩
  rw [aBG h3 hk]
  exact a3.fQ (by rw [lU _ hc]; exact jB _ _ hc)
 subst hc
 obtain ⟨_, e2⟩ := a3.ok rfl
 obtain ⟨q1, q2, q3, q4⟩ := gH hp l8 (by omega) henv (fU hok (by omega)) hf _ _ e2
 simp only at q1 q2 q3
 try simp -dsimp -implicitDefEqProofs only [go_sem, ↓reduceIte, Tryz.f108, hk]
 have hiter : ∀ (k : Nat) (us : List Int) (S2 : dV) (t : Nat) (c : Int), lN (r7 (fun vs t S => mE (fun t e S => eT p n t e vs S) (p.outs e.bQ) t S) k vs t1 S1) (us, S2) t c → k ≤ e.cU.toNat → (¬ c = 0 ∨ k = e.cU.toNat) → lN (sZ 0 (eT p (n + 1) st e env S)) (us.getD e.c9.toNat 0, S2) t c := fun k us S2 t c ho hk1 hor => by
  rw [aBG h3 hk]
  refine a3.fQ ?_
  rw [fD]
  refine lN.then (v := (us, S2)) (t := t) (c := c) ?_ (jE _ _ _)
  rcases hor with hc | rfl
  ·have := ho.err hc
   rw [aMP _ k hk1 this]
   exact jB _ _ hc
  ·exact ho
 have hfl : ∀ us t S2, Good inp S2 t → (us.length = f.aZ.length ∧ ∀ x ∈ us, oV S2 x) → t ≤ 3000 → yV (aEZ inp S2 t f.aZ.length) (mE (fun t e S => eT p n t e us S) (p.outs e.bQ) t S2) := fun us w S2 hg' hv' hw => by
  rw [F.eq]
  exact gH hp hg' hw hv'.2 (funcs := e.bQ) (fun x hx => by rw [hv'.1, f7.2.2]; exact F.oks x hx) (by omega)
 refine cS (keep := pH) (ib := xF) (mk := xG) mix (by kernel_rfl) (fun x : Nat × List Int × Nat × Int × dV × aB => [(0, .op nb 8 0 0), (4, .ip 5 [[I 11, I e.bQ, I e.c9, I e.cU, c5 5 aA.c e.aM]] 0 0), (9, ints x.2.1), (10, I x.1)]) (fun x => x.2.2.2.2.2) (fun x => x.1 ≤ e.cU.toNat ∧ x.2.1.length = f.aZ.length ∧ t1 ≤ x.2.2.1 ∧ x.2.2.1 ≤ 3000 ∧ lN (r7 (fun vs t S => mE (fun t e S => eT p n t e vs S) (p.outs e.bQ) t S) x.1 vs t1 S1) (x.2.1, x.2.2.2.2.1) x.2.2.1 x.2.2.2.1 ∧ jG h0 nb p inp x.2.2.2.2.1 x.2.2.1 x.2.2.2.1 x.2.2.2.2.2) (fun x => e.cU.toNat - x.1) (0, vs, t1, 0, S1, h') ⟨by simp [dA, cH], aB.le_refl _, Nat.zero_le _, by simp only; omega, Nat.le_refl _, a2, uC _ _, ⟨_, _, _, H1⟩⟩ ?_
 rintro ⟨k, us, t, c, S2, g⟩ ⟨hk1, hul, ht0, ht, ho, ⟨om2, og2, ov2, H2⟩⟩
 simp only at hk1 hul ht0 ht ho H2 ⊢
 have kU := H2.box
 unfold dS at kU
 have gp : us[e.c9.toNat]? = some (us.getD e.c9.toNat 0) := eZ (by omega)
 simp -dsimp -implicitDefEqProofs only [go_sem, ↓reduceIte, Tryz.f108, kU, F.get, aV.aN, gp]
 refine ⟨fun hlt => ⟨fun hc => ⟨f1, f2, ?_⟩, fun hc => ?_⟩, fun hge => ?_⟩
 ·subst hc
  obtain ⟨_, e3⟩ := lN.ok (c := 0) (by rw [fD]; exact ho) rfl
  obtain ⟨w1, w2, w3, w4⟩ := aA2 hfl k vs t1 S1 q1 ⟨by omega, q3.2⟩ a2 _ _ e3
  simp only at w1 w2 w3
  refine aJ.iF (uE hp hv h0 _ nb t 0 f.aZ us S2 e.bQ ⟨_, _, _, H2⟩ ht (by omega) (by omega) (by rw [hul, f7.2.2]; exact F.oks) f1 (by omega) (fun _ => ⟨w1, w3.2⟩) (by omega)) ?_
  rintro r h2 ⟨l2, S3, t2, c2, rfl, sH, hl2, b1, b2, b3⟩
  simp -dsimp -implicitDefEqProofs only [go_sem, ↓reduceIte, Tryz.f108]
  refine ⟨(k + 1, l2, t2, c2, S3, h2), ⟨rfl, by rw [IntWalk.i64_in _ (by omega)]; rfl⟩, aB.le_refl _, ⟨by omega, hl2, by simp only; omega, b2, ?_, sH⟩, by simp only; omega⟩
  simp only
  rw [yU]
  refine ho.then ?_
  rw [F.eq]
  exact b3
 ·exact ⟨f3, by omega, _, _, bX _ _, _, S2, t, c, rfl, ⟨_, _, _, H2⟩, by omega, ht, hiter k us S2 t c ho hk1 (.inl hc)⟩
 ·exact ⟨f3, by omega, _, _, bX _ _, _, S2, t, c, rfl, ⟨_, _, _, H2⟩, by omega, ht, hiter k us S2 t c ho hk1 (.inr (by omega))⟩
theorem reg {p : aI} (hp : p.ok) {inp : Int} : ∀ n, xH p inp n
 |0 => fun h0 h nb st c e env S funcs hb hst hn => by omega
 |n + 1 => fun h0 h nb st c e env S funcs hb hst hn hok fH hf hgo hel => by
  have hv := reg hp (inp := inp) n
  by_cases hs : ¬ c = 0 ∨ st = 3000
  ·exact a2T hb hst hs
  have hc : c = 0 := Classical.byContradiction fun q => hs (.inl q)
  have h3 : st < 3000 := by
   rcases Nat.lt_or_ge st 3000 with h | h
   ·exact h
   ·exact absurd (.inr (by omega)) hs
  subst hc
  obtain ⟨hg, henv⟩ := hgo rfl
  rcases xC ((aA.eP _ _ _ _).1 hok).1 with hk | hk | hk | hk | hk | hk | hk | hk | hk | hk | hk
  ·exact bL6 hp hv hb h3 hn hok fH hf hg henv hel hk
  ·exact bL7 hp hv hb h3 hn hok fH hf hg henv hel hk
  ·exact bMA hp hv hb h3 hn hok fH hf hg henv hel hk
  ·exact bMB hp hv hb h3 hn hok fH hf hg henv hel hk
  ·exact bMC hp hv hb h3 hn hok fH hf hg henv hel hk
  ·exact bMD hp hv hb h3 hn hok fH hf hg henv hel hk
  ·exact bME hp hv hb h3 hn hok fH hf hg henv hel hk
  ·exact bL9 hp hv hb h3 hn hok fH hf hg henv hel hk
  ·exact bL8 hp hv hb h3 hn hok fH hf hg henv hel hk
  ·exact bE2 hp hv hb h3 hn hok fH hf hg henv hel hk
  ·exact bE3 hp hv hb h3 hn hok fH hf hg henv hel hk
set_option maxRecDepth 100000
open Go.Proofs
set_option linter.unusedVariables false
set_option linter.unusedSimpArgs false
structure pL where
 aBH : Int
 cM : List cC
 aBI : List eS
 aZ : List Int
def pL.c (x : pL) : List aD := [I x.aBH, c5 4 cC.c x.cM, c5 2 eS.c x.aBI, ints x.aZ]
theorem pL.aN (x : pL) : x.c = [I x.aBH, c5 4 cC.c x.cM, c5 2 eS.c x.aBI, ints x.aZ] := rfl
def mF (p : aI) (f : Int) (args : List Int) : pL × Int := match aLY p f args with
 | .ok ((l, S), _) => (⟨args.length, S.code, S.guards, l⟩, 0)
 | .error c => (⟨0, [], [], []⟩, c)
theorem vL.seal {bx : dV → Option Nat → Option Nat → Option Nat → bM} {h0 h F hh : aB} {nb : Nat} {inp : Int} {S : dV} {om og ov : Option Nat} (H : vL bx h0 nb S om og ov h) (l : List Int) (d : Int)
  (hF : ∀ n, some n = om ∨ some n = og → F n = h n) (hl : hh.le F) (hn : ∀ n, some n = om ∨ some n = og → hh n = none) :
  Shift (.lR [.agg [I inp, gV 4 S.code.length om, gV 2 S.guards.length og, ints l], I d]) F (.lR [.agg [I inp, c5 4 cC.c S.code, c5 2 eS.c S.guards, ints l], I d]) hh := by
 have hc := H.code
 have hg := H.gds
 have ap := H.apart
 cases om with
 |none =>
  have oB : S.code = [] := gY.1 hc
  cases og with
  |none =>
   have hg0 : S.guards = [] := gY.1 hg
   rw [oB, hg0]
   exact Shift.of (Sub.lR (.cons (Sub.agg (.cons (.refl _) (.cons (Sub.nil _ _) (.cons (Sub.nil _ _) (.cons (.refl _) .nil))))) (.cons (.refl _) .nil))) hl
  |some g =>
   have hgF := (hF g (.inr rfl)).trans hg.2
   rw [oB]
   refine Shift.trans (Shift.of (Sub.lR (.cons (Sub.agg (.cons (.refl _) (.cons (Sub.nil 4 false) (.cons (.refl _) (.cons (.refl _) .nil))))) (.cons (.refl _) .nil))) (aB.le_refl F)) ?_
   refine lP (n := g) (sz := 2) (S.guards.map eS.c) (hn g (.inr rfl)) ?_ (by simp [iK, iC, gV]) ?_
   ·intro q
    by_cases e : q = g
    ·subst e; right; rw [aU]; exact hgF.symm
    ·rw [aC _ _ _ _ e]; exact hl q
   ·simp [aD.fZ, nQ, gV, List.take_of_length_le]
 |some m =>
  have hmF := (hF m (.inl rfl)).trans hc.2
  cases og with
  |none =>
   have hg0 : S.guards = [] := gY.1 hg
   rw [hg0]
   refine Shift.trans (Shift.of (Sub.lR (.cons (Sub.agg (.cons (.refl _) (.cons (.refl _) (.cons (Sub.nil 2 false) (.cons (.refl _) .nil))))) (.cons (.refl _) .nil))) (aB.le_refl F)) ?_
   refine lP (n := m) (sz := 4) (S.code.map cC.c) (hn m (.inl rfl)) ?_ (by simp [iK, iC, gV]) ?_
   ·intro q
    by_cases e : q = m
    ·subst e; right; rw [aU]; exact hmF.symm
    ·rw [aC _ _ _ _ e]; exact hl q
   ·simp [aD.fZ, nQ, gV, List.take_of_length_le]
  |some g =>
   have hgF := (hF g (.inr rfl)).trans hg.2
   have hne : ¬ g = m := fun e => ((ap g).2.1 (by rw [e])).1 rfl
   refine Shift.trans (b := .lR [.agg [I inp, gV 4 S.code.length (some m), c5 2 eS.c S.guards, ints l], I d]) (h2 := bK hh m (.row 4 (rowsOf cC.c S.code))) ?_ ?_
   ·refine lP (n := g) (sz := 2) (S.guards.map eS.c) (by rw [aC _ _ _ _ hne]; exact hn g (.inr rfl)) ?_ (by simp [iK, iC, gV]; exact fun e => hne e.symm) ?_
    ·intro q
     by_cases e : q = g
     ·subst e; right; rw [aU]; exact hgF.symm
     ·rw [aC _ _ _ _ e]
      by_cases e2 : q = m
      ·subst e2; right; rw [aU]; exact hmF.symm
      ·rw [aC _ _ _ _ e2]; exact hl q
    ·have hne' : ¬ m = g := fun e => hne e.symm
     simp [aD.fZ, nQ, gV, List.take_of_length_le, hne']
   ·refine lP (n := m) (sz := 4) (S.code.map cC.c) (hn m (.inl rfl)) (aB.le_refl _) (by simp [iK, iC, gV]) ?_
    simp [aD.fZ, nQ, gV, List.take_of_length_le]
theorem vL.keep {h0 h : aB} {nb : Nat} {bx : dV → Option Nat → Option Nat → Option Nat → bM} {S : dV} {om og ov : Option Nat} (H : vL bx h0 nb S om og ov h) {n : Nat} {o : bM} (hn : h0 n = some o) : h n = some o ∧ ¬ n = nb ∧ ¬ some n = om ∧ ¬ some n = og ∧ ¬ some n = ov := by
 have hne : ∀ q, ¬ (q = nb ∨ some q = om ∨ some q = og ∨ some q = ov) ∨ h0 q = .none := fun q => by
  by_cases e : q = nb ∨ some q = om ∨ some q = og ∨ some q = ov
  ·exact .inr (H.fresh q e)
  ·exact .inl e
 have h1 : ¬ (n = nb ∨ some n = om ∨ some n = og ∨ some n = ov) := by
  rcases hne n with e | e
  ·exact e
  ·rw [hn] at e; cases e
 have e1 : ¬ n = nb := fun e => h1 (.inl e)
 have e2 : ¬ some n = om := fun e => h1 (.inr (.inl e))
 have e3 : ¬ some n = og := fun e => h1 (.inr (.inr (.inl e)))
 have e4 : ¬ some n = ov := fun e => h1 (.inr (.inr (.inr e)))
 exact ⟨(H.upto n e1 e2 e3 e4).trans hn, e1, e2, e3, e4⟩
theorem vL.le {h0 h : aB} {nb : Nat} {bx : dV → Option Nat → Option Nat → Option Nat → bM} {S : dV} {om og ov : Option Nat} (H : vL bx h0 nb S om og ov h) : h0.le h := fun q => by
 cases e : h0 q with
 |none => exact .inl rfl
 |some o => right; exact (H.keep e).1.symm
theorem aU1 {h0 : aB} {nb : Nat} (p : aI) (inp : Int) (hn : h0 nb = none) : jG h0 nb p inp ⟨[], [], []⟩ 0 0 (bK h0 nb (dS p inp ⟨[], [], []⟩ none none none 0 0)) :=
 ⟨none, none, none, aU _ _ _, aKQ _ _ _ _, rfl, rfl, rfl, fun n h => (by rcases h with rfl | h | h | h; exact hn; cases h; cases h; cases h), fun n h1 _ _ _ => aC _ _ _ _ h1⟩
def zN (args : List Int) (k : Nat) : dV := ⟨(List.range k).map fun i : Nat => ⟨1, 0, 0, (i : Int)⟩, args.take k, []⟩
def aE3 (k : Nat) : List Int := (List.range k).map fun i : Nat => (i : Int)
theorem aR2 (args : List Int) : zN args args.length = inS args := by rw [zN, List.take_length]; rfl
theorem aBJ {args : List Int} {k : Nat} (hk : k < args.length) : zN args (k + 1) = (zN args k).put ⟨1, 0, 0, (k : Int)⟩ args[k] := by
 rw [zN, zN, dV.put, List.range_succ, List.map_append, List.take_succ_eq_append_getElem hk]; rfl
theorem aMR (k : Nat) : aE3 (k + 1) = aE3 k ++ [(k : Int)] := by rw [aE3, aE3, List.range_succ, List.map_append]; rfl
@[go_sem] def a2U : List Nat := [0, 1, 2, 3, 6, 7, 8, 9, 10, 11, 12, 28, 30, 44, 45, 46, 47, 77]
@[go_sem] def bMF : List Nat := [3, 43, 57]
@[go_sem] def bMG : Marks := fun id => match id with | 6 => ([9], (.op 0 (.op 1 (.op 2 (.op 3 (.op 4 (.op 5 (.op 6 (.op 7 (.op 8 (.op 9 (.op 10 .nil))))))))))), []) | 15 => ([4, 5], (.op 0 (.op 1 (.op 2 (.op 3 (.op 4 (.op 5 (.op 6 .nil))))))), [(4, 5)]) | _ => ([], .nil, [])
theorem bE4 {p : aI} (hp : p.ok) (hps : p.s ≤ 4194304) (f : Int) (hf : 0 ≤ f ∧ f < p.aH.length) (args : List Int) (ha : pB args) (bE5 : args.length ≤ 12) (hl : ∀ F, p.aH[f.toNat]? = some F → (args.length : Int) = F.bE) :
  e8 Tryz.prog 65 [.agg p.c, I f, ints args] (.lR [.agg (mF p f args).1.c, I (mF p f args).2]) := by
 have hif := a1M p f hps
 obtain ⟨F, ef, hF1, hF2, hF3, hF4⟩ := aBC hp hf
 have hla := hl F ef
 rw [if_pos hp, if_pos (by omega)] at hif
 simp only [aI.aN] at hif ⊢
 have han := fW args F.bE
 rw [decide_eq_true (show (args.length : Int) = F.bE ∧ pB args from ⟨hla, ha⟩)] at han
 refine tB 87 a2U bMF bMG mix Tryz.func65 rfl (by kernel_rfl) (by simp) fun h => ?_
 simp -dsimp -implicitDefEqProofs only [go_sem, ↓reduceIte, Tryz.f65, ef, aV.aN]
 intro n6 z6
 try simp -dsimp -implicitDefEqProofs only [go_sem, ↓reduceIte, Tryz.f65, ef, aV.aN]
 first | refine aJ.mk (hif) ?_ | refine aL.mk (hif) ?_ | refine aJ.dF (hif) ?_ | refine aL.mk (cZ.gC (hif)) ?_
 simp -dsimp -implicitDefEqProofs only [go_sem, ↓reduceIte, Tryz.f65, ef, aV.aN]
 refine ⟨hf.1, hf.2, ?_⟩
 first | refine aJ.mk (han) ?_ | refine aL.mk (han) ?_ | refine aJ.dF (han) ?_ | refine aL.mk (cZ.gC (han)) ?_
 simp -dsimp -implicitDefEqProofs only [go_sem, ↓reduceIte, Tryz.f65, ef, aV.aN]
 refine ⟨hf.1, hf.2, fun nb ⟨hb6, zb⟩ => ⟨Nat.zero_lt_one, fun _ => ?_⟩⟩
 have mX : ¬ nb = n6 := hb6
 have p1 : ¬ n6 = nb := Ne.symm mX
 have lT : (nb = n6) = False := eq_false mX
 have lS : (n6 = nb) = False := eq_false p1
 generalize hh6 : bK h n6 (.row 4 [[.v (.int .i64 0), .v .bC, .v .bC, .v .bC]]) = h6
 have zb6 : h6 nb = none := by rw [← hh6, aC _ _ _ _ mX]; exact zb
 have hin := aU1 (h0 := h6) p F.bE zb6
 refine cS (keep := a2U) (ib := bMF) (mk := bMG) mix (by kernel_rfl) (fun x : Nat × aB × Option Nat => [(1, I f), (3, .ip 1 [[c5 3 aV.c p.aH]] 0 0), (6, .op n6 4 0 0), (9, .op nb 8 0 0), (10, nO 1 x.1 x.2.2), (44, ints args), (45, I args.length), (46, I x.1)]) (fun x => dD x.2.1 (.row 1 (((aE3 x.1).map fun n => [I n]).map (List.map .v))) x.2.2) (fun x => x.1 ≤ args.length ∧ jG h6 nb p F.bE (zN args x.1) 0 0 x.2.1 ∧ lQ x.2.1 (aE3 x.1) x.2.2) (fun x => args.length - x.1) (0, bK h6 nb (dS p F.bE ⟨[], [], []⟩ none none none 0 0), none) ⟨by simp [dA, cH, nO], aB.le_refl _, Nat.zero_le _, hin, rfl⟩ ?_
 rintro ⟨k, g, o⟩ ⟨hk, hR, hos⟩
 simp only at hk hR hos ⊢
 have hel : (aE3 k).length = k := by simp [aE3]
 rcases Nat.lt_or_ge k args.length with hlt | hge
 ·have ek : args[k]? = some args[k] := List.getElem?_eq_getElem hlt
  have hsl : (zN args k).code.length = (zN args k).fS.length := by simp [zN]; omega
  have hvl : (zN args k).fS.length = k := by simp [zN]; omega
  have hy := aMR k
  cases o with
  |none =>
   rw [dB] at hos
   have k0 : k = 0 := by rw [← hel, hos]; rfl
   subst k0
   simp -dsimp -implicitDefEqProofs only [go_sem, ↓reduceIte, Tryz.f65, dN, aK, hlt, ek]
   refine aJ.iF (aKR hR ⟨1, 0, 0, ((0 : Nat) : Int)⟩ args[0] hsl (by omega)) ?_
   rintro r h' ⟨rfl, nL⟩
   simp -dsimp -implicitDefEqProofs only [go_sem, ↓reduceIte, Tryz.f65]
   refine ⟨Nat.zero_lt_one, Nat.zero_lt_one, Nat.zero_lt_one, fun b kU => ⟨(1, h', some b), ⟨rfl, by rw [IntWalk.i64_in _ (by omega)]; rfl⟩, ?_, ⟨hlt, by rw [aBJ hlt]; exact nL, kU⟩, by simp only; omega⟩⟩
   rw [hvl]
   exact aB.le_refl _
  |some m =>
   rw [cQ] at hos
   simp -dsimp -implicitDefEqProofs only [go_sem, ↓reduceIte, Tryz.f65, cI, aG, hlt, ek]
   refine aJ.iF (aKR (hR.wO hos) ⟨1, 0, 0, (k : Int)⟩ args[k] hsl (by omega)) ?_
   rintro r h' ⟨rfl, nL⟩
   obtain ⟨g2, rfl, hg2, nL⟩ := nL.base (hR.none hos)
   simp -dsimp -implicitDefEqProofs only [go_sem, ↓reduceIte, Tryz.f65]
   refine ⟨Nat.zero_lt_one, Nat.zero_lt_one, Nat.zero_lt_one, Nat.le_of_eq hel.symm, by omega, by omega, fun b ⟨hbm, kU⟩ => ⟨(k + 1, g2, some b), ⟨rfl, by rw [IntWalk.i64_in _ (by omega)]; rfl⟩, ?_, ⟨hlt, by rw [aBJ hlt]; exact nL, kU⟩, by simp only; omega⟩⟩
   simp only [aG]
   rw [hvl, hy, ← jN (fun n => I n), hel]
   exact qA hg2
 ·have hk' : k = args.length := by omega
  subst hk'
  rw [aR2] at hR
  have hg0 := aKO args ha bE5
  rw [hla] at hg0
  have hie : aE3 args.length = inE args := rfl
  have hall : ∀ {h0 g : aB}, jG h0 nb p F.bE (inS args) 0 0 g → fO Tryz.prog 92 [.op nb 8 0 0, c5 5 aA.c F.aZ, ints (inE args)] g (bAO h0 nb p F.bE 0 0 F.aZ.length (mE (fun t e S => eT p 3001 t e (inE args) S) F.aZ 0 (inS args))) := fun hR =>
   uE hp (reg hp 3001) _ _ nb 0 0 F.aZ (inE args) (inS args) f hR (by omega) (by omega) (by omega) (fun x hx => by rw [← hie, hel, hla]; exact hF4 x hx) hf.1 (by omega) (fun _ => ⟨hg0, aUV args⟩) (by rw [← hie, hel]; omega)
  cases o with
  |none =>
   rw [dB, hie] at hos
   simp -dsimp -implicitDefEqProofs only [go_sem, ↓reduceIte, Tryz.f65, dN, aK, Nat.lt_irrefl, Int.lt_irrefl, ef, aV.aN]
   refine ⟨hf.1, hf.2, aJ.iF (fO.sub (.cons (.refl _) (.cons (.refl _) (.cons (by rw [hos]; exact Sub.loose _ _ _) .nil))) (hall hR)) ?_⟩
   rintro r h2 ⟨l, S2, t2, c2, rfl, ⟨om, og, ov, H2⟩, hll, a1, a2, a3⟩
   have kU := H2.box
   unfold dS at kU
   have hz := H2.keep (n := n6) (by rw [← hh6, aU])
   have hz1 := hz.1
   simp -dsimp -implicitDefEqProofs only [go_sem, ↓reduceIte, Tryz.f65, kU, hz1, lT, lS, aC]
   generalize hE : h2 = h2H at *
   have hle : h.le h2H := by
    have h1 := H2.le
    rw [← hh6] at h1
    intro q
    by_cases e : q = n6
    ·subst e; exact .inl z6
    ·have := h1 q
     rwa [aC _ _ _ _ e] at this
   have hfr : ∀ n, some n = om ∨ some n = og → h n = none ∧ ¬ n = n6 ∧ ¬ n = nb := fun n hn => by
    have h1 := H2.fresh n (by rcases hn with hn | hn; exact .inr (.inl hn); exact .inr (.inr (.inl hn)))
    have h3 : ¬ n = n6 := fun e => by rw [← hh6, e, aU] at h1; cases h1
    refine ⟨by rwa [← hh6, aC _ _ _ _ h3] at h1, h3, fun e => ?_⟩
    rcases hn with hn | hn
    ·exact ((H2.apart n).1 e).1 hn
    ·exact ((H2.apart n).1 e).2.1 hn
   refine ⟨fun hc => ?_, fun hc => ⟨by rw [eY, eY]; rfl, ?_⟩⟩
   ·have e2 : mF p f args = (⟨0, [], [], []⟩, c2) := by
     rw [fD] at a3
     rw [mF, aLY, hF3, a3.err hc]
    rw [e2]
    exact Shift.of (Sub.lR (.cons (Sub.agg (.cons (.refl _) (.cons (Sub.nil 4 false) (.cons (Sub.nil 2 false) (.cons (Sub.nil 1 false) .nil))))) (.cons (.refl _) .nil))) (aB.bD z6 (aB.bD zb (hle)))
   ·obtain ⟨_, e1⟩ := a3.ok hc
    have e2 : mF p f args = (⟨args.length, S2.code, S2.guards, l⟩, 0) := by
     rw [mF, aLY, hF3, e1]
    rw [e2, pL.aN, hla]
    refine H2.seal l 0 (fun n hn => ?_) (aB.bD z6 (aB.bD zb (hle))) (fun n hn => (hfr n hn).1)
    obtain ⟨v1, v2, v3⟩ := hfr n hn
    rw [aC _ _ _ _ v2, aC _ _ _ _ v3]
  |some m =>
   rw [cQ] at hos
   simp -dsimp -implicitDefEqProofs only [go_sem, ↓reduceIte, Tryz.f65, cI, aG, Nat.lt_irrefl, Int.lt_irrefl, ef, aV.aN]
   have dR : ¬ nb = m := fun e => by obtain ⟨_, _, _, H1⟩ := hR; have := H1.box; rw [e, hos] at this; cases this
   have eJ : ¬ m = nb := Ne.symm dR
   have eH : (nb = m) = False := eq_false dR
   have eG : (m = nb) = False := eq_false eJ
   refine ⟨hf.1, hf.2, aJ.aHH rfl rfl dR (by rw [List.length_map]; exact hel.symm) hos ?_⟩
   refine fO.mono (hall (hR.wO (o := .gone) hos)) ?_
   rintro r h2 ⟨l, S2, t2, c2, rfl, nL, hll, a1, a2, a3⟩
   obtain ⟨g3, rfl, hg3, ⟨om, og, ov, H2⟩⟩ := nL.base (hR.none hos)
   have kU := H2.box
   unfold dS at kU
   have hz := H2.keep (n := n6) (by rw [← hh6, aU])
   have hz1 := hz.1
   have aDJ : ¬ n6 = m := fun e => by rw [e, hg3] at hz1; cases hz1
   have aU2 : ¬ m = n6 := Ne.symm aDJ
   have aU3 : (n6 = m) = False := eq_false aDJ
   have aU4 : (m = n6) = False := eq_false aU2
   simp -dsimp -implicitDefEqProofs only [go_sem, ↓reduceIte, Tryz.f65, kU, hz1, lT, eH, lS, aU3, eG, aU4, aC]
   have hgo : ∀ n, some n = om ∨ some n = og → ¬ n = m := fun n hn e => by
    have := (H2.apart n).2.2.2 (by rw [e]; exact hg3)
    rcases hn with hn | hn
    ·exact this.2.1 hn
    ·exact this.2.2.1 hn
   have hhm : h m = none := by
    have h1 := hR.none hos
    rw [← hh6, aC _ _ _ _ (fun e => aDJ e.symm)] at h1
    exact h1
   generalize hE : g3 = h2H at *
   have hle : h.le h2H := by
    have h1 := H2.le
    rw [← hh6] at h1
    intro q
    by_cases e : q = n6
    ·subst e; exact .inl z6
    ·have := h1 q
     rwa [aC _ _ _ _ e] at this
   have hfr : ∀ n, some n = om ∨ some n = og → h n = none ∧ ¬ n = n6 ∧ ¬ n = nb := fun n hn => by
    have h1 := H2.fresh n (by rcases hn with hn | hn; exact .inr (.inl hn); exact .inr (.inr (.inl hn)))
    have h3 : ¬ n = n6 := fun e => by rw [← hh6, e, aU] at h1; cases h1
    refine ⟨by rwa [← hh6, aC _ _ _ _ h3] at h1, h3, fun e => ?_⟩
    rcases hn with hn | hn
    ·exact ((H2.apart n).1 e).1 hn
    ·exact ((H2.apart n).1 e).2.1 hn
   refine ⟨fun hc => ?_, fun hc => ⟨by rw [eY, eY]; rfl, ?_⟩⟩
   ·have e2 : mF p f args = (⟨0, [], [], []⟩, c2) := by
     rw [fD] at a3
     rw [mF, aLY, hF3, a3.err hc]
    rw [e2]
    exact Shift.of (Sub.lR (.cons (Sub.agg (.cons (.refl _) (.cons (Sub.nil 4 false) (.cons (Sub.nil 2 false) (.cons (Sub.nil 1 false) .nil))))) (.cons (.refl _) .nil))) (aB.bD z6 (aB.bD zb (aB.bD hhm hle)))
   ·obtain ⟨_, e1⟩ := a3.ok hc
    have e2 : mF p f args = (⟨args.length, S2.code, S2.guards, l⟩, 0) := by
     rw [mF, aLY, hF3, e1]
    rw [e2, pL.aN, hla]
    refine H2.seal l 0 (fun n hn => ?_) (aB.bD z6 (aB.bD zb (aB.bD hhm hle))) (fun n hn => (hfr n hn).1)
    obtain ⟨v1, v2, v3⟩ := hfr n hn
    rw [aC _ _ _ _ v2, aC _ _ _ _ v3, aC _ _ _ _ (hgo n hn)]
set_option maxRecDepth 100000
open Go.Proofs
set_option linter.unusedVariables false
set_option linter.unusedSimpArgs false
def opsOf (c : cC) : List Int := if 3 ≤ c.sC ∧ c.sC ≤ 6 then [c.fA, c.fB] else if c.sC = 7 then [c.fA] else []
def vG (l : List Int) (b : List Bool) : List Bool := l.foldl (fun b r => b.set r.toNat true) b
def sM (k : Nat) (l : List Int) (b : List Bool) : List Bool := l.foldl (fun b r => b.set r.toNat (b.getD r.toNat false || b.getD k false)) b
def aR3 (code : List cC) (k : Nat) : List Int := ((code[k]?).map opsOf).getD []
def aE4 (code : List cC) : Nat → List Bool → List Bool
 |0, b => b
 |k + 1, b => aE4 code k (sM k (aR3 code k) b)
def sN (code : List cC) (ends : List Int) : List Bool := aE4 code code.length (vG ends (List.replicate code.length false))
theorem aGI (l : List Int) : ∀ b, (vG l b).length = b.length := by
 induction l with
 |nil => intro b; rfl
 |cons x l ih => intro b; rw [vG, List.foldl_cons]; exact (ih _).trans (by simp)
theorem aGJ (k : Nat) (l : List Int) : ∀ b, (sM k l b).length = b.length := by
 induction l with
 |nil => intro b; rfl
 |cons x l ih => intro b; rw [sM, List.foldl_cons]; exact (ih _).trans (by simp)
theorem aMS (code : List cC) : ∀ k b, (aE4 code k b).length = b.length
 |0, b => rfl
 |k + 1, b => by rw [aE4, aMS code k, aGJ]
theorem aMT (code : List cC) (ends : List Int) : (sN code ends).length = code.length := by rw [sN, aMS, aGI, List.length_replicate]
theorem aU5 (l : List Int) (x : Int) (b : List Bool) : vG (l ++ [x]) b = (vG l b).set x.toNat true := by rw [vG, List.foldl_append]; rfl
theorem aK0 (k : Nat) (l : List Int) (x : Int) (b : List Bool) : sM k (l ++ [x]) b = (sM k l b).set x.toNat ((sM k l b).getD x.toNat false || (sM k l b).getD k false) := by rw [sM, List.foldl_append]; rfl
@[go_sem] def bE7 : List Nat := [0, 1, 2, 3, 12]
@[go_sem] def bSI : List Nat := [1, 11, 18]
@[go_sem] def bSJ : Marks := fun _ => ([], .nil, [])
theorem operands (x : cC) : e8 Tryz.prog 94 [.agg x.c] (ints (opsOf x)) := by
 rw [cC.aN]
 refine tB 19 bE7 bSI bSJ mix Tryz.func94 rfl (by kernel_rfl) (by simp) fun h => ?_
 simp -dsimp -implicitDefEqProofs only [go_sem, ↓reduceIte, Tryz.f94]
 first | refine aJ.mk (within x.sC 3 6) ?_ | refine aL.mk (within x.sC 3 6) ?_ | refine aJ.dF (within x.sC 3 6) ?_ | refine aL.mk (cZ.gC (within x.sC 3 6)) ?_
 simp -dsimp -implicitDefEqProofs only [go_sem, ↓reduceIte, Tryz.f94]
 unfold opsOf
 refine ⟨fun q => ⟨by decide, by decide, ?_⟩, fun q => ⟨fun q7 => ⟨by decide, by decide, ?_⟩, fun q7 => ?_⟩⟩
 ·rw [if_pos q]; exact Shift.of (Sub.loose _ _ _) (aB.le_refl _)
 ·rw [if_neg q, if_pos q7]; exact Shift.of (Sub.loose _ _ _) (aB.le_refl _)
 ·rw [if_neg q, if_neg q7]; exact Shift.of (Sub.nil _ _) (aB.le_refl _)
theorem a2V {inp : Int} {i : Nat} {c : cC} (h : gL inp i c) : ∀ x ∈ opsOf c, 0 ≤ x ∧ x < i := fun x hx => by
 unfold opsOf at hx
 unfold gL at h
 split at hx
 ·simp only [List.mem_cons, List.not_mem_nil, or_false] at hx
  rcases hx with rfl | rfl <;> omega
 ·split at hx
  ·simp only [List.mem_cons, List.not_mem_nil, or_false] at hx
   subst hx; omega
  ·cases hx
theorem aR4 {code : List cC} {k : Nat} (h : k < code.length) : aR3 code k = opsOf code[k] := by rw [aR3, List.getElem?_eq_getElem h]; rfl
theorem aY5 (c : cC) : (opsOf c).length ≤ 2 := by unfold opsOf; split; exact Nat.le_refl 2; split; exact Nat.le_succ 1; exact Nat.zero_le 2
def y9 (b : List Bool) : bM := .row 1 ((b.map fun x => [.bool x]).map (List.map .v))
theorem aK1 (b : List Bool) (k : Nat) (x : Bool) : ((b.map fun x => [aD.bool x]).map (List.map Cell.v)).set k [.v (.bool x)] = ((b.set k x).map fun x => [aD.bool x]).map (List.map .v) := by rw [List.map_set, List.map_set]; rfl
theorem aPN {b : List Bool} {k : Nat} (h : k < b.length) : b[k]? = some (b.getD k false) := by rw [List.getD_eq_getElem?_getD, List.getElem?_eq_getElem h]; rfl
@[go_sem] def aPO : List Nat := [0, 1, 2, 4, 5, 7, 8, 10, 15, 16, 17, 18, 30, 38, 39, 40, 41]
@[go_sem] def a7J : List Nat := [2]
@[go_sem] def a7K : Marks := fun _ => ([], .nil, [])
theorem needed (t : pL) (ends : List Int) (hc : t.cM.length ≤ 1048576) (hl : ends.length ≤ 1048576) (hr : ∀ x ∈ ends, 0 ≤ x ∧ x < t.cM.length) (hi : ∀ i c, t.cM[i]? = some c → gL t.aBH i c) : e8 Tryz.prog 67 [.agg t.c, ints ends] (c5 1 (fun b => [.bool b]) (sN t.cM ends)) := by
 rw [pL.aN]
 refine tB 59 aPO a7J a7K mix Tryz.func67 rfl (by kernel_rfl) (by simp) fun h => ?_
 simp -dsimp -implicitDefEqProofs only [go_sem, ↓reduceIte, Tryz.f67]
 refine fun _ => ⟨by decide, Nat.le_refl _, by omega, by omega, fun n hn _ => ?_⟩
 have hrep : (List.map (List.map Cell.v) (List.replicate t.cM.length [aD.bool false])) = ((List.replicate t.cM.length false).map fun x => [aD.bool x]).map (List.map .v) := by simp
 rw [hrep]
 refine aN8 (keep := aPO) (ib := a7J) (mk := a7K) mix (by kernel_rfl) (fun k : Nat => [(2, .ip 4 [[I t.aBH, c5 4 cC.c t.cM, c5 2 eS.c t.aBI, ints t.aZ]] 0 0), (5, .os n 1 0 t.cM.length), (15, ints ends), (16, I ends.length), (17, I k)]) n (fun k => y9 (vG (ends.take k) (List.replicate t.cM.length false))) (fun k => k ≤ ends.length) (fun k => ends.length - k) 0 ⟨by simp [dA, cH], by rw [aU]; rfl, Nat.zero_le _⟩ ?_
 intro k hk
 have hbl := aGI (ends.take k) (List.replicate t.cM.length false)
 rw [List.length_replicate] at hbl
 rcases Nat.lt_or_ge k ends.length with hlt | hge
 ·have ek : ends[k]? = some ends[k] := List.getElem?_eq_getElem hlt
  have hx := hr ends[k] (List.getElem_mem hlt)
  have eb := aPN (b := vG (ends.take k) (List.replicate t.cM.length false)) (k := ends[k].toNat) (by omega)
  unfold y9
  simp -dsimp -implicitDefEqProofs only [go_sem, ↓reduceIte, Tryz.f67, hlt, ek, aF, eb]
  refine ⟨hx.1, hx.2, k + 1, by rw [IntWalk.i64_in _ (by omega)]; rfl, ?_, by omega, by omega⟩
  rw [List.take_succ_eq_append_getElem hlt, aU5, aK1]
  exact aB.le_refl _
 ·have hk' : k = ends.length := by omega
  subst hk'
  rw [List.take_length] at hbl ⊢
  generalize hB : vG ends (List.replicate t.cM.length false) = B0 at *
  unfold y9
  simp -dsimp -implicitDefEqProofs only [go_sem, ↓reduceIte, Tryz.f67, Nat.lt_irrefl, Int.lt_irrefl]
  intro _
  rw [aF]
  refine aN8 (keep := aPO) (ib := a7J) (mk := a7K) mix (by kernel_rfl) (fun x : Nat × List Bool => [(2, .ip 4 [[I t.aBH, c5 4 cC.c t.cM, c5 2 eS.c t.aBI, ints t.aZ]] 0 0), (5, .os n 1 0 t.cM.length), (8, I ((x.1 : Int) - 1))]) n (fun x => y9 x.2) (fun x => x.1 ≤ t.cM.length ∧ x.2.length = t.cM.length ∧ aE4 t.cM x.1 x.2 = aE4 t.cM t.cM.length B0) (fun x => x.1) (t.cM.length, B0) ⟨by simp [dA, cH]; exact IntWalk.i64_in _ (by omega), by rw [aU]; rfl, Nat.le_refl _, hbl, rfl⟩ ?_
  rintro ⟨k, B⟩ ⟨hk, hBl, hT⟩
  simp only at hk hBl hT ⊢
  cases k with
  |zero =>
   unfold y9
   simp -dsimp -implicitDefEqProofs only [go_sem, ↓reduceIte, Tryz.f67]
   refine ⟨fun q => absurd q (by omega), fun _ => ?_⟩
   rw [aF, show sN t.cM ends = B by rw [sN, hB]; exact hT.symm]
   exact lW (B.map fun x => [.bool x]) hn (aB.le_refl _) _ (by rw [List.length_map, hBl])
  |succ k =>
   have ec : t.cM[k]? = some t.cM[k] := List.getElem?_eq_getElem hk
   have e1 : ((k + 1 : Nat) : Int) - 1 = k := by omega
   have hop := operands t.cM[k]
   have hlt := a2V (hi k t.cM[k] ec)
   have hol := aY5 t.cM[k]
   rw [cC.aN] at hop
   rw [e1]
   unfold y9
   simp -dsimp -implicitDefEqProofs only [go_sem, ↓reduceIte, Tryz.f67, ec, cC.aN]
   refine ⟨hk, ?_⟩
   first | refine aJ.mk (hop) ?_ | refine aL.mk (hop) ?_ | refine aJ.dF (hop) ?_ | refine aL.mk (cZ.gC (hop)) ?_
   simp -dsimp -implicitDefEqProofs only [go_sem, ↓reduceIte, Tryz.f67]
   intro _
   rw [aF]
   rw [aE4, aR4 hk] at hT
   generalize opsOf t.cM[k] = ops at *
   refine aN8 (keep := aPO) (ib := a7J) (mk := a7K) mix (by kernel_rfl) (fun i : Nat => [(2, .ip 4 [[I t.aBH, c5 4 cC.c t.cM, c5 2 eS.c t.aBI, ints t.aZ]] 0 0), (5, .os n 1 0 t.cM.length), (8, I (k : Int)), (38, ints ops), (39, I ops.length), (40, I i)]) n (fun i => y9 (sM k (ops.take i) B)) (fun i => i ≤ ops.length) (fun i => ops.length - i) 0 ⟨by simp [dA, cH], by rw [aU]; rfl, Nat.zero_le _⟩ ?_
   intro i vK
   have hsl := aGJ k (ops.take i) B
   rcases Nat.lt_or_ge i ops.length with aAP | a6H
   ·have eo : ops[i]? = some ops[i] := List.getElem?_eq_getElem aAP
    have hx := hlt ops[i] (List.getElem_mem aAP)
    have eb := aPN (b := sM k (ops.take i) B) (k := ops[i].toNat) (by omega)
    have ek := aPN (b := sM k (ops.take i) B) (k := k) (by omega)
    unfold y9
    simp -dsimp -implicitDefEqProofs only [go_sem, ↓reduceIte, Tryz.f67, aAP, eo, aF, eb, ek]
    refine ⟨hx.1, by omega, fun hb => ⟨hk, hx.1, by omega, i + 1, by rw [IntWalk.i64_in _ (by omega)]; rfl, ?_, by omega, by omega⟩, fun hb => ⟨hx.1, by omega, i + 1, by rw [IntWalk.i64_in _ (by omega)]; rfl, ?_, by omega, by omega⟩⟩
    ·rw [List.take_succ_eq_append_getElem aAP, aK0, aK1, hb, Bool.false_or]
     exact aB.le_refl _
    ·rw [List.take_succ_eq_append_getElem aAP, aK0, aK1, hb, Bool.true_or]
     exact aB.le_refl _
   ·have hk2 : i = ops.length := by omega
    subst hk2
    rw [List.take_length] at hsl ⊢
    unfold y9
    simp -dsimp -implicitDefEqProofs only [go_sem, ↓reduceIte, Tryz.f67, Nat.lt_irrefl, Int.lt_irrefl]
    refine ⟨(k, sM k ops B), IntWalk.i64_in _ (by omega), by rw [aF, aF]; exact aB.le_refl _, ⟨by simp only; omega, hsl.trans hBl, hT⟩, by simp only; omega⟩
end Go.Hl

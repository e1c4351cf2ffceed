/-
  Contracts of functions and laws of the layer over the walk.
-/
import Derived.Test.YtgkipnacdihfnaaGreatVvH
import Derived.Test.YtgkipnacdihfnaaGreatVvD
import Derived.Test.YtgkipnacdihfnaaGreatVvG
import Derived.Test.YtgkipnacdihfnaaGreatVvE
import Derived.Test.YtgkipnacdihfnaaGreatVvF
import Derived.Test.YtgkipnacdihfnaaGreatVvB
import Derived.Test.YtgkipnacdihfnaaGreatVvA
namespace Go.Hl
set_option maxRecDepth 100000
open Go.Proofs
set_option linter.unusedVariables false
set_option linter.unusedSimpArgs false
def aMJ (j : eI) : Prop := j.ok ∧ j.s ≤ 100000
theorem aVZ {P : Program} {L : aD → Prop} {et : TypeId} {sz n : Nat} {o : Option Nat} (hn : n ≤ 9223372036854775807) (h : o = none → n = 0) (t : Tag L) : aU2 P (some (.slice et)) (jR sz n o) L t = L (.int .i64 n) := by
 cases o with
 |none => rw [h rfl]; rfl
 |some m => exact propext ⟨fun a => a hn, fun a _ => a⟩
def qO : bP := .row 5 [[.v .bH, .v (I 0), .v (I 0), .v .bH, .v .bH]]
abbrev JSt := Int × List (List Int) × Option Nat × Nat × Int
def wI (ts : List (List Int)) : bP := .row 1 ((ts.map fun x => [ints x]).map (List.map .v))
def aUG (sz : Int) (a : Nat) (B : aB) : JSt → Prop := fun (tk, ts, ot, a1, _) => (0 ≤ tk ∧ tk ≤ 10) ∧ (ts.length : Int) ≤ tk ∧ (∀ x ∈ ts, x.length = sz.toNat ∧ eD x) ∧ fK B ts ot ∧ (a ≤ a1 ∧ a1 ≤ a + 100 * ts.length)
theorem aJ9 {G : aB} {m n2 nf n9 ns q : Nat} {v1 v2 v3 v4 v5 : bP} (h : aR (aR (aR (aR (aR G m v1) n2 v2) nf v3) n9 v4) ns v5 q = none) : ¬ q = ns ∧ ¬ q = n9 ∧ ¬ q = nf ∧ ¬ q = n2 ∧ ¬ q = m ∧ G q = none := by
 simp only [aM] at h
 by_cases e1 : q = ns
 ·rw [if_pos e1] at h; cases h
 by_cases e2 : q = n9
 ·rw [if_neg e1, if_pos e2] at h; cases h
 by_cases e3 : q = nf
 ·rw [if_neg e1, if_neg e2, if_pos e3] at h; cases h
 by_cases e4 : q = n2
 ·rw [if_neg e1, if_neg e2, if_neg e3, if_pos e4] at h; cases h
 by_cases e5 : q = m
 ·rw [if_neg e1, if_neg e2, if_neg e3, if_neg e4, if_pos e5] at h; cases h
 rw [if_neg e1, if_neg e2, if_neg e3, if_neg e4, if_neg e5] at h
 exact ⟨e1, e2, e3, e4, e5, h⟩
theorem z7 {G : aB} {m n2 nf n9 ns q : Nat} {v1 v2 v3 v4 v5 : bP} (h : ¬ q = ns ∧ ¬ q = n9 ∧ ¬ q = nf ∧ ¬ q = n2 ∧ ¬ q = m ∧ G q = none) : aR (aR (aR (aR (aR G m v1) n2 v2) nf v3) n9 v4) ns v5 q = none := by
 obtain ⟨e1, e2, e3, e4, e5, e6⟩ := h
 rw [aA _ _ _ _ e1, aA _ _ _ _ e2, aA _ _ _ _ e3, aA _ _ _ _ e4, aA _ _ _ _ e5]; exact e6
theorem aF2 {B G H : aB} {ns m : Nat} {X : bP} {ES : List (List OV)} {FS : List aT} (hor : OR aT.o FS ES) (hnew : eU B (OV.b6 ES) G) (dm : G m = none) (wns : G ns = none) (hmn : ¬ m = ns) {n : Nat} (hn : n = ES.length) {k sh : Int} {l : List Int} {ts : List (List Int)} {ot : Option Nat} (hts : fK (aR G m (.row 3 (OV.cells ES))) ts ot) (htn : ∀ q, ot = some q → ¬ q = ns)
  (hle : (aR (cK (aR G m (.row 3 (OV.cells ES))) (wI ts) ot) ns X).le H) :
  Shift (.agg [.os m 3 0 n, I k, I sh, ints l, jR 1 ts.length ot]) H (.agg (⟨⟨FS⟩, k, sh, l, ts⟩ : eI).c) (aR B ns X) := by
 subst hn
 have hgs : yZ (aR G m (.row 3 (OV.cells ES))) (ts.map fun x => [OV.v (ints x)]) ot := by
  cases ot with
  |none => rw [bD] at hts; subst hts; rfl
  |some q => exact hts
 have hcl : OV.cells (ts.map fun x => [OV.v (ints x)]) = (ts.map fun x => [ints x]).map (List.map .v) := mS (fun x => ints x) ts
 have hN : eU B (OV.bT [.sl m 3 ES, .v (I k), .v (I sh), .v (ints l), gov 1 (ts.map fun x => [.v (ints x)]) ot]) (cK (aR G m (.row 3 (OV.cells ES))) (wI ts) ot) := by
  have h2 := aB1 (sz := 1) (h := aR G m (.row 3 (OV.cells ES))) (by rw [oW (fun x => ints x) ts]; exact eU.nil _) hgs
  rw [hcl] at h2
  simp only [OV.dQ, OV.hU, OV.pD, OV.iJ, List.nil_append, List.append_nil]
  exact (hnew.row dm).append h2
 have z : cK (aR G m (.row 3 (OV.cells ES))) (wI ts) ot ns = none := iL (by rw [aA _ _ _ _ (Ne.symm hmn)]; exact wns) htn
 have hd1 : (OV.sl m 3 ES).qW = eZ 3 aT.c FS := OS.qW (fun _ _ q => aT.aCB q) (OS.mk hor)
 have hd2 : (gov 1 (ts.map fun x => [OV.v (ints x)]) ot).qW = eZ 1 (fun x => [ints x]) ts := OS.qW (R := oP fun x => ints x) (fun _ _ q => yW q) (aHB (uZ ts) hgs)
 have hdat : [OV.sl m 3 ES, .v (I k), .v (I sh), .v (ints l), gov 1 (ts.map fun x => [.v (ints x)]) ot].map OV.qW = (⟨⟨FS⟩, k, sh, l, ts⟩ : eI).c := by
  simp only [List.map_cons, List.map_nil, hd1, hd2]
  rw [eI.aU]; rfl
 have h1 := Shift.own _ (aZL (X := X) hN z) (a4D hN z)
 rw [hdat] at h1
 refine (Shift.of ?_ hle).trans h1
 have hs := aKX (sz := 1) (es := ts.map fun x => [OV.v (ints x)]) (o := ot)
 rw [List.length_map] at hs
 exact Sub.agg (.cons (.refl _) (.cons (.refl _) (.cons (.refl _) (.cons (.refl _) (.cons hs .nil)))))
theorem aC0 {fs : List aT} (hdr : x7 fs) (hfl : fs.length ≤ 1) {par sh : Int} {outs : List aC} (hp : 1 ≤ par ∧ par ≤ 4) (ho : 1 ≤ outs.length ∧ outs.length ≤ 3) (hgd : ∀ e ∈ outs, e.s ≤ 39 ∧ e.d ≤ 6 ∧ e.ok ⟨fs⟩ fs.length par) (hs : 0 ≤ sh ∧ sh ≤ par) {l : List Int} (hll : (l.length : Int) = sh) (hnl : eD l) {ts : List (List Int)} (htl : (ts.length : Int) ≤ 10) (htx : ∀ x ∈ ts, x.length = (par - sh).toNat ∧ eD x) :
  aMJ ⟨⟨fs ++ [⟨[116], par, outs⟩]⟩, fs.length, sh, l, ts⟩ := by
 have hsz : ∀ {l : List aC}, (∀ e ∈ l, e.s ≤ 39) → qM aC.s l ≤ 40 * l.length := fun {l} hl => by
  rw [kT]
  induction l with
  |nil => simp
  |cons x l ih =>
   have h1 := hl x (.head _)
   have h2 := ih fun e he => hl e (.tail _ he)
   simp only [List.length_cons, List.map_cons, List.sum_cons]
   omega
 have hlen : (fs ++ [(⟨[116], par, outs⟩ : aT)]).length = fs.length + 1 := by simp
 have hup : ∀ {m : Nat}, m ≤ fs.length → ∀ j : Nat, j < m → (⟨fs ++ [(⟨[116], par, outs⟩ : aT)]⟩ : aE).aI[j]? = (⟨fs⟩ : aE).aI[j]? := fun {m} hm j hj => by
  show (fs ++ [_])[j]? = fs[j]?
  rw [List.getElem?_append_left (by omega)]
 have hso := hsz fun e he => (hgd e he).1
 have hnm : ∀ g ∈ fs, 2 ≤ g.kE.length := fun g hg => by
  obtain ⟨j, hj, -, ⟨w, hw, hn⟩, -⟩ := hdr.get hg
  obtain ⟨c, ec, -, -⟩ := aCW (k := j) (by omega)
  rw [hn, ec, List.length_append, List.length_singleton]
  simp only [aED, List.mem_cons, List.not_mem_nil, or_false] at hw
  rcases hw with rfl | rfl | rfl | rfl <;> decide
 refine ⟨⟨⟨by simp only [aE.aI]; omega, fun k f hf => ?_⟩, ⟨by simp only [eI.cT]; omega, by simp only [eI.cT, eI.aZ, aE.aI]; omega⟩, fun f hf => ?_⟩, ?_⟩
 ·rcases Nat.lt_or_ge k fs.length with hk | hk
  ·have hf' : (⟨fs⟩ : aE).aI[k]? = some f := by rw [← hup (Nat.le_refl _) k hk]; exact hf
   obtain ⟨g1, g2, g3, g4, g5, g6⟩ := (hdr.bJU (by omega)).2 k f hf'
   refine ⟨g1, g2, g3, fun g hg => g4 g ?_, g5, fun e he => ?_⟩
   ·simp only [aE.aI] at hg ⊢
    rwa [List.take_append_of_le_length (by omega)] at hg
   ·obtain ⟨e1, e2, e3, e4, e5⟩ := g6 e he
    exact ⟨e1, ⟨e2.1, by simp only [aE.aI]; omega⟩, e3, e4, aC.aUD (fun j hj => hup (m := k) (by omega) j hj) e _ e5⟩
  ·have hk2 : k < (fs ++ [(⟨[116], par, outs⟩ : aT)]).length := (List.getElem?_eq_some_iff.1 hf).1
   obtain rfl : k = fs.length := by omega
   rw [show (⟨fs ++ [(⟨[116], par, outs⟩ : aT)]⟩ : aE).aI = fs ++ [⟨[116], par, outs⟩] from rfl, List.getElem?_append_right (Nat.le_refl _), Nat.sub_self] at hf
   cases hf
   refine ⟨⟨Nat.le_refl 1, by simp only [aT.kE]; decide, (fun c hc => by cases hc; exact ⟨by decide, by decide⟩), (fun c hc => by cases hc with | head => exact .inl ⟨by decide, by decide⟩ | tail _ h => cases h)⟩, by simp only [aT.aW]; omega, by simp only [aT.aQ]; omega, fun g hg q => ?_, by simp only [aT.aQ]; omega, fun e he => ?_⟩
   ·simp only [aE.aI] at hg
    rw [List.take_append_of_le_length (Nat.le_refl _), List.take_of_length_le (Nat.le_refl _)] at hg
    have := hnm g hg
    rw [q] at this
    simp at this
   ·obtain ⟨h1, h2, h3⟩ := hgd e he
    exact ⟨by simp only [aT.aW]; omega, ⟨by omega, by simp only [aE.aI]; omega⟩, by omega, by omega, aC.aUD (fun j hj => hup (m := fs.length) (Nat.le_refl _) j hj) e _ h3⟩
 ·simp only [eI.aZ, aE.aI, eI.cT, Int.toNat_natCast] at hf
  rw [List.getElem?_append_right (Nat.le_refl _), Nat.sub_self] at hf
  cases hf
  refine ⟨⟨hs.1, hs.2⟩, ⟨hll, hnl⟩, htl, fun x hx => ⟨?_, (htx x hx).2⟩⟩
  have := (htx x hx).1
  simp only [aT.aW, eI.cE]
  omega
 ·have hf1 : ∀ f ∈ fs, f.s ≤ 412 := fun f hf => by
   obtain ⟨j, -, ej, -⟩ := hdr.get hf
   obtain ⟨g1, -, -, -, g5, -⟩ := (hdr.bJU (by omega)).2 j f ej
   rw [aT.tI]
   have := g1.2.1
   omega
  have hts : ∀ l : List (List Int), (∀ x ∈ l, x.length ≤ 4) → qM (fun x : List Int => x.length) l ≤ 5 * l.length := fun l => by
   rw [kT]
   induction l with
   |nil => simp
   |cons x l ih =>
    intro hx
    have := hx x (.head _)
    have := ih fun e he => hx e (.tail _ he)
    simp only [List.length_cons, List.map_cons, List.sum_cons]
    omega
  have h1 := hts ts fun x hx => by have := (htx x hx).1; omega
  have h2 : qM aT.s (fs ++ [(⟨[116], par, outs⟩ : aT)]) ≤ 1000 := by
   have h3 : (⟨[116], par, outs⟩ : aT).s ≤ 122 := by
    rw [aT.tI]
    simp only [aT.kE, aT.aQ, List.length_singleton]
    omega
   match fs, hfl, hf1 with
   | [], _, _ =>
    simp only [kT, List.nil_append, List.length_singleton, List.map_cons, List.map_nil, List.sum_cons, List.sum_nil]
    omega
   | [f], _, hf1 =>
    have := hf1 f (.head _)
    simp only [kT, List.cons_append, List.nil_append, List.length_cons, List.length_nil, List.map_cons, List.map_nil, List.sum_cons, List.sum_nil]
    omega
  rw [eI.tI, aE.tI]
  simp only [eI.aZ, aE.aI, eI.iN, eI.cB]
  omega
@[go_sem] def aEF : List Nat := [0, 2, 3, 4, 5, 6, 7, 8, 9, 10, 11, 29, 74, 77]
@[go_sem] def aV0 : List Nat := [45, 51, 89]
@[go_sem] def aV1 : Marks := fun id => match id with | 9 => ([1, 4, 6, 7, 8, 10, 12], (.op 0 (.op 2 (.op 3 (.op 5 (.op 1 (.op 4 (.op 6 (.op 7 (.op 8 (.op 9 (.op 10 (.op 11 (.op 12 .nil))))))))))))), [(1, 7), (1, 8), (4, 7)]) | 20 => ([1, 4, 6, 8, 10, 12], (.op 0 (.op 2 (.op 3 (.op 5 (.op 1 (.op 4 (.op 6 (.op 7 (.op 8 (.op 9 (.op 10 (.op 11 (.op 12 .nil))))))))))))), [(1, 8)]) | _ => ([], .nil, [])
set_option maxHeartbeats 8000000 in
theorem a0C {ns : Nat} {c : List Int} (hc : ∀ x ∈ c, InB x) (hl : c.length ≤ 4096) {B : aB} (hB : B ns = none) {a : Nat} (ha : a ≤ 500000000) {sd : Int} :
  iH Tryz.prog 22 [.op ns 3 0 0] (aR B ns (jG c a sd)) fun r h' => ∃ j a' sd', aMJ j ∧ r = .agg j.c ∧ (a ≤ a' ∧ a' ≤ a + 100000) ∧ h' = aR B ns (jG c a' sd') := by
 refine j4 93 aEF aV0 aV1 mix Tryz.func22 rfl (by kernel_rfl) (by simp) ?_
 simp -dsimp -implicitDefEqProofs only [go_sem, ↓reduceIte, Tryz.f22, kV]
 intro n2 q2
 have b2 : ¬ n2 = ns := by grind
 have z2 : B n2 = none := by grind
 have aAA : ¬ n2 = ns := b2
 have mE : ¬ ns = n2 := Ne.symm aAA
 have c8 : (n2 = ns) = False := eq_false aAA
 have dA : (ns = n2) = False := eq_false mE
 refine aH.fG (oQ (a := a) (sd := sd) hc hl (by omega) 2 (by omega) (by rw [aA _ _ _ _ mE, aG])) ?_
 rintro r_ h' ⟨x, a1, sd1, rfl, x0, x1, -, ha1, rfl⟩
 have x1 := x1 (by omega)
 obtain ⟨nk, rfl⟩ : ∃ nk : Nat, x = nk := ⟨x.toNat, by omega⟩
 simp only [bR aAA, aK]
 simp -dsimp -implicitDefEqProofs only [go_sem, ↓reduceIte, Tryz.f22, c8, dA, aA, aM, Option.toArray_none, Option.toArray_some, List.filterMap_cons, List.filterMap_nil, List.elem_cons_self, List.nil_append, List.append_nil, List.toList_toArray]
 refine aH.fG (aPM (a := a1) (sd := sd1) hc hl (by omega) 2 (by omega) (by rw [aA _ _ _ _ mE, aG])) ?_
 rintro r_ h' ⟨b, a2, sd2, rfl, ha2, rfl⟩
 simp only [bR mE, aK]
 simp -dsimp -implicitDefEqProofs only [go_sem, ↓reduceIte, Tryz.f22, c8, dA, aA, aM, Option.toArray_none, Option.toArray_some, List.filterMap_cons, List.filterMap_nil, List.elem_cons_self, List.nil_append, List.append_nil, List.toList_toArray]
 refine aH.fG (bJV (L0 := 6) ⟨by decide, by decide⟩ (a := a2) (sd := sd2) (n := nk) (pl := b) (B := aR B n2 qO) hc hl (by omega) (by rw [aA _ _ _ _ mE]; exact hB) (by omega)) ?_
 rintro r_ h' ⟨fs, es, o, g0, a3, sd3, hfl, hdr, hor, hnw, z0, aV2, hon, hfo, rfl, ha3, rfl⟩
 obtain ⟨g1, rfl, hnew, z18⟩ := eU.under z2 hnw
 simp only [aM, c8, dA, if_false] at z0
 have ho2 : ∀ m, o = some m → ¬ m = n2 ∧ g1 m = none := fun m e => by
  subst e
  rw [iK] at aV2
  have h1 : ¬ m = n2 := fun e => by rw [e, aG] at aV2; cases aV2
  rw [aA _ _ _ _ h1] at aV2
  exact ⟨h1, aV2⟩
 have hgs : yZ g1 es o := by
  cases o with
  |none => exact aV2
  |some m => exact (ho2 m rfl).2
 have hsw : cK (aR g1 n2 qO) (.row 3 (OV.cells es)) o = aR (cK g1 (.row 3 (OV.cells es)) o) n2 qO := by
  cases o with
  |none => rfl
  |some m => rw [aJ, aJ, bR (Ne.symm (ho2 m rfl).1)]
 rw [hsw]
 simp -dsimp -implicitDefEqProofs only [go_sem, ↓reduceIte, Tryz.f22, c8, dA, aA, aM, Option.toArray_none, Option.toArray_some, List.filterMap_cons, List.filterMap_nil, List.elem_cons_self, List.nil_append, List.append_nil, List.toList_toArray]
 intro n3 q3
 have a3' : ¬ n3 = ns := by grind
 have b3' : ¬ n3 = n2 := by grind
 have z19 : cK g1 (.row 3 (OV.cells es)) o n3 = none := by grind
 have aUH : ¬ n3 = ns := a3'
 have aMK : ¬ ns = n3 := Ne.symm aUH
 have mG : (n3 = ns) = False := eq_false aUH
 have mH : (ns = n3) = False := eq_false aMK
 have aML : ¬ n3 = n2 := b3'
 have a46 : ¬ n2 = n3 := Ne.symm aML
 have nE : (n3 = n2) = False := eq_false aML
 have nF : (n2 = n3) = False := eq_false a46
 simp only [bR aMK, aK]
 refine ⟨mT .., ?_⟩
 refine aH.fG (oQ (a := a3) (sd := sd3) hc hl (by omega) 4 (by omega) (aG ..)) ?_
 rintro r_ h' ⟨px, a5, sd5, rfl, x0, x1, -, ha5, rfl⟩
 have x1 := x1 (by omega)
 have wp : IntKind.i64.wrap (1 + px) = 1 + px := IntWalk.i64_in _ (by omega)
 rw [aK]
 simp -dsimp -implicitDefEqProofs only [go_sem, ↓reduceIte, Tryz.f22, c8, nF, dA, mH, nE, mG, aA, aM, Option.toArray_none, Option.toArray_some, List.filterMap_cons, List.filterMap_nil, List.elem_cons_self, List.nil_append, List.append_nil, List.toList_toArray, wp]
 intro nf qf
 have af : ¬ nf = ns := by grind
 have bf : ¬ nf = n2 := by grind
 have cf : ¬ nf = n3 := by grind
 have zf : cK g1 (.row 3 (OV.cells es)) o nf = none := by grind
 have aCX : ¬ nf = ns := af
 have oB : ¬ ns = nf := Ne.symm aCX
 have bU : (nf = ns) = False := eq_false aCX
 have bV : (ns = nf) = False := eq_false oB
 have aMM : ¬ nf = n2 := bf
 have a47 : ¬ n2 = nf := Ne.symm aMM
 have dY : (nf = n2) = False := eq_false aMM
 have dZ : (n2 = nf) = False := eq_false a47
 have aMN : ¬ nf = n3 := cf
 have aUI : ¬ n3 = nf := Ne.symm aMN
 have nG : (nf = n3) = False := eq_false aMN
 have nH : (n3 = nf) = False := eq_false aUI
 simp -dsimp -implicitDefEqProofs only [go_sem, ↓reduceIte, Tryz.f22, c8, nF, dZ, dA, mH, bV, nE, mG, nH, dY, bU, nG, aA, aM, Option.toArray_none, Option.toArray_some, List.filterMap_cons, List.filterMap_nil, List.elem_cons_self, List.nil_append, List.append_nil, List.toList_toArray, wp, bR oB, aK]
 refine aH.fG (oQ (a := a5) (sd := sd5) hc hl (by omega) 2 (by omega) (aG ..)) ?_
 rintro r_ h' ⟨py, a6, sd6, rfl, y0, y1, -, ha6, rfl⟩
 have y1 := y1 (by omega)
 have wq : IntKind.i64.wrap (1 + py) = 1 + py := IntWalk.i64_in _ (by omega)
 rw [aK]
 simp -dsimp -implicitDefEqProofs only [go_sem, ↓reduceIte, Tryz.f22, c8, nF, dZ, dA, mH, bV, nE, mG, nH, dY, bU, nG, aA, aM, Option.toArray_none, Option.toArray_some, List.filterMap_cons, List.filterMap_nil, List.elem_cons_self, List.nil_append, List.append_nil, List.toList_toArray, wq]
 refine aH.fG (aPM (a := a6) (sd := sd6) hc hl (by omega) 2 (by omega) (aG ..)) ?_
 rintro r_ h' ⟨b2', a7, sd7, rfl, ha7, rfl⟩
 rw [aK]
 generalize hpar : 1 + px = par at *
 simp -dsimp -implicitDefEqProofs only [go_sem, ↓reduceIte, Tryz.f22, c8, nF, dZ, dA, mH, bV, nE, mG, nH, dY, bU, nG, aA, aM, Option.toArray_none, Option.toArray_some, List.filterMap_cons, List.filterMap_nil, List.elem_cons_self, List.nil_append, List.append_nil, List.toList_toArray]
 have hon : ∀ m, o = some m → ¬ m = ns ∧ ¬ m = n2 ∧ ¬ m = n3 := fun m e => ⟨hon m e, (ho2 m e).1, fun q => by
  subst e
  rw [aJ, q, aG] at z19; cases z19⟩
 have hm9 : mL 9 = 8 := rfl
 have aNO := fun {P : Program} {L : aD → Prop} {et : TypeId} {sz : Nat} (t : Tag L) => aVZ (P := P) (L := L) (et := et) (sz := sz) (n := fs.length) (o := o) (by omega) (fun q => by rw [hfo q]; rfl) t
 refine cS (keep := aEF) (ib := aV0) (mk := aV1) mix (by kernel_rfl) (fun x : ISt => [(0, .op ns 3 0 0), (2, .op n2 5 0 0), (3, .op n3 1 0 0), (4, .op nf 3 0 0), (5, I x.1), (6, .bool b2'), (7, I x.2.1)]) (fun x => aR (aR (cK x.2.2.2.2.1 (.row 5 (OV.cells x.2.2.2.1)) x.2.2.2.2.2.1) nf (.row 3 [[.v (.str [116]), .v (I par), .v (jR 5 x.2.1 x.2.2.2.2.2.1)]])) ns (jG c x.2.2.2.2.2.2.1 x.2.2.2.2.2.2.2)) (fun x => aJ8 fs par a7 (aR (aR (cK g1 (.row 3 (OV.cells es)) o) n2 qO) n3 (.row 1 [[.v (jR 3 fs.length o)]])) ns nf x) (fun x => x.1.toNat - x.2.1) (1 + py, 0, [], [], aR (aR (cK g1 (.row 3 (OV.cells es)) o) n2 qO) n3 (.row 1 [[.v (jR 3 fs.length o)]]), none, a7, sd7) ⟨by simp [cV, bZ], aB.le_refl _, by omega, by omega, rfl, trivial, eU.nil _, ⟨by rw [aA _ _ _ _ aMK, aA _ _ _ _ mE]; exact iL z0 fun m e => (hon m e).1, by rw [aA _ _ _ _ aMN, aA _ _ _ _ aMM]; exact zf⟩, rfl, (fun m e => by cases e), (fun e h => by cases h), by simp⟩ ?_
 rintro ⟨cnt, i, outs, eo, g2, oo, a8, sd8⟩ hii
 obtain ⟨hcnt, hi, hol, aBE, aRR, ⟨ws, wf⟩, sF, aEE, hgd, ha8⟩ := id hii
 simp only at hcnt hi hol aBE aRR ws wf sF aEE hgd ha8 ⊢
 simp -dsimp -implicitDefEqProofs only [go_sem, ↓reduceIte, Tryz.f22, c8, nF, dZ, dA, mH, bV, nE, mG, nH, dY, bU, nG, aA, aM, Option.toArray_none, Option.toArray_some, List.filterMap_cons, List.filterMap_nil, List.elem_cons_self, List.nil_append, List.append_nil, List.toList_toArray]
 have hkeep : ∀ q R S, (aR (aR (cK g1 (.row 3 (OV.cells es)) o) n2 qO) n3 (.row 1 [[.v (jR 3 fs.length o)]])) q = some R → cK g2 S oo q = some R := fun q R S hq => by
  have h2 := aRR.keep hq
  cases oo with
  |none => exact h2
  |some m5 =>
   rw [iK] at sF
   rw [aJ, aA _ _ _ _ (fun e => by rw [e, sF] at h2; cases h2)]
   exact h2
 have hk9 := fun S => hkeep n3 _ S (aG ..)
 refine ⟨fun kJ => ?_, fun aE6 => ?_⟩
 ·intro ng qg
  have an : ¬ ng = ns := by grind
  have bn : ¬ ng = nf := by grind
  have zn : cK g2 (.row 5 (OV.cells eo)) oo ng = none := by grind
  have gS : ¬ ng = ns := an
  have iD : ¬ ns = ng := Ne.symm gS
  have bG : (ng = ns) = False := eq_false gS
  have bF : (ns = ng) = False := eq_false iD
  have xP : ¬ ng = nf := bn
  have aMG : ¬ nf = ng := Ne.symm xP
  have lG : (ng = nf) = False := eq_false xP
  have lH : (nf = ng) = False := eq_false aMG
  have cn : ¬ ng = n3 := fun e => by rw [e, hk9] at zn; cases zn
  have aUJ : ¬ ng = n3 := cn
  have a48 : ¬ n3 = ng := Ne.symm aUJ
  have a49 : (ng = n3) = False := eq_false aUJ
  have a5A : (n3 = ng) = False := eq_false a48
  have zof : cK g2 (.row 5 (OV.cells eo)) oo nf = none := iL wf fun m e => (aEE m e).2
  have hpr : aBA ⟨fs⟩ n3 (aR (cK g2 (.row 5 (OV.cells eo)) oo) nf (.row 3 [[.v (.str [116]), .v (I par), .v (jR 5 i oo)]])) := by
   refine ⟨es, o, hor, ?_, hfo, fun m e => ?_⟩
   ·rw [aA _ _ _ _ aUI]; exact hk9 _
   ·have hm := hon m e
    subst e
    have h3 := hkeep m (.row 3 (OV.cells es)) (.row 5 (OV.cells eo)) (by rw [aA _ _ _ _ hm.2.2, aA _ _ _ _ hm.2.1, aJ, aG])
    rw [aA _ _ _ _ (fun q => by rw [q, zof] at h3; cases h3)]
    exact h3
  simp -dsimp -implicitDefEqProofs only [go_sem, ↓reduceIte, Tryz.f22, bV, bF, mH, bU, lH, nG, bG, lG, a49, mG, nH, a5A, aA, aM, Option.toArray_none, Option.toArray_some, List.filterMap_cons, List.filterMap_nil, List.elem_cons_self, List.nil_append, List.append_nil, List.toList_toArray, kV, hk9, aNO]
  rw [show ∀ H : aB, aR H ng (bP.row 4 [[Cell.v (aD.op ns 3 0 0), Cell.v (aD.op n3 1 0 0), Cell.v (I 9), Cell.v (aD.bool b2')]]) = aR H ng (kV ns n3 9 b2') from fun _ => rfl]
  refine aH.fG (bJT hc hl iD hdr.aUE (by simp only [aE.aI]; omega) 4 par _ a8 sd8 9 (by rw [aA _ _ _ _ oB]; exact iL ws fun m e => (aEE m e).1) (by rw [aA _ _ _ _ xP]; exact zn) hpr ⟨by omega, by omega, by omega⟩) ?_
  rintro r_ h' ⟨x5, e5, g', a9, sd9, L9, hx, rfl, aRS, ⟨v1, v2⟩, rfl, vJ, hd5, hL9, ha9⟩
  obtain ⟨g4, rfl, w4, z4f⟩ := eU.under zof aRS
  simp only [aM, bV, bF, bU, lH, bG, lG, if_false] at v1 v2
  have hx5 := hx
  rw [aC.sH] at hx
  obtain ⟨y4, rfl, yD⟩ := hx
  have aZ9 : x5.s ≤ 39 := by have := hL9.2.2; omega
  cases oo with
  |none =>
   rw [jZ] at sF
   subst sF
   obtain rfl : outs = [] := List.length_eq_zero_iff.1 aBE.length
   obtain rfl : i = 0 := hol.symm
   simp only [aO, kW] at *
   simp -dsimp -implicitDefEqProofs only [go_sem, ↓reduceIte, Tryz.f22, bV, bF, bU, lH, bG, lG, aA, aM, Option.toArray_none, Option.toArray_some, List.filterMap_cons, List.filterMap_nil, List.elem_cons_self, List.nil_append, List.append_nil, List.toList_toArray, OV.eN, OV.b7, OV.jH, yD.flat, yD.one]
   have ht := dW []
   refine ⟨by decide, by decide, by decide, fun m qm => ?_⟩
   have am : ¬ m = ns := by grind
   have bm : ¬ m = nf := by grind
   have dm : g4 m = none := by grind
   have em : ¬ m = ng := by grind
   skip
   have eH : ¬ m = ns := am
   have fM : ¬ ns = m := Ne.symm eH
   have cN : (m = ns) = False := eq_false eH
   have cO : (ns = m) = False := eq_false fM
   have kP : ¬ m = nf := bm
   have pJ : ¬ nf = m := Ne.symm kP
   have eK : (m = nf) = False := eq_false kP
   have eM : (nf = m) = False := eq_false pJ
   have fV : ¬ m = ng := em
   have kO : ¬ ng = m := Ne.symm fV
   have iQ : (m = ng) = False := eq_false fV
   have iR : (ng = m) = False := eq_false kO
   simp -dsimp -implicitDefEqProofs only [go_sem, ↓reduceIte, Tryz.f22, bV, bF, cO, bU, lH, eM, bG, lG, iR, cN, eK, iQ, aA, aM, Option.toArray_none, Option.toArray_some, List.filterMap_cons, List.filterMap_nil, List.elem_cons_self, List.nil_append, List.append_nil, List.toList_toArray]
   refine ⟨(cnt, 0 + 1, [] ++ [x5], [] ++ [[.v (.int .i64 x5.aP), .v (.int .i64 x5.bC), .v (.int .i64 x5.cR), .v (.int .i64 x5.cD), y4]], g4, some m, a9, sd9), ⟨rfl, IntWalk.i64_in _ (by omega)⟩, ?_, hii.next kJ hx5 w4 ⟨v1, z4f⟩ dm ⟨am, bm⟩ ⟨aZ9, by omega, vJ⟩ (by omega), by simp only; omega⟩
   intro q_
   simp only [aM, aJ, bY, gG, dW, cA, iT, iU, OV.eN, OV.b7, OV.jH, List.nil_append, List.map_cons, List.map_nil, ht]
   grind
  |some m5 =>
   rw [iK] at sF
   obtain ⟨g5, rfl, w5, z45⟩ := eU.under sF w4
   have k1 := (aEE m5 rfl).1
   have k2 := (aEE m5 rfl).2
   have k3 : ¬ m5 = ng := fun e => by rw [aJ, e, aG] at zn; cases zn
   have qG : ¬ m5 = ns := k1
   have sT : ¬ ns = m5 := Ne.symm qG
   have sU : (m5 = ns) = False := eq_false qG
   have sV : (ns = m5) = False := eq_false sT
   have qH : ¬ m5 = nf := k2
   have sW : ¬ nf = m5 := Ne.symm qH
   have sX : (m5 = nf) = False := eq_false qH
   have sY : (nf = m5) = False := eq_false sW
   have aCY : ¬ m5 = ng := k3
   have aMH : ¬ ng = m5 := Ne.symm aCY
   have xQ : (m5 = ng) = False := eq_false aCY
   have xR : (ng = m5) = False := eq_false aMH
   simp only [aJ, bY] at *
   simp -dsimp -implicitDefEqProofs only [go_sem, ↓reduceIte, Tryz.f22, bV, bF, sV, bU, lH, sY, bG, lG, xR, sU, sX, xQ, aA, aM, Option.toArray_none, Option.toArray_some, List.filterMap_cons, List.filterMap_nil, List.elem_cons_self, List.nil_append, List.append_nil, List.toList_toArray, OV.eN, OV.b7, OV.jH, yD.flat, yD.one, cA]
   simp only [aM, bV, bF, sV, bU, lH, sY, bG, lG, xR, sU, sX, xQ, if_false] at v1 v2 z4f
   have ht : List.take i (OV.cells eo) = OV.cells eo := List.take_of_length_le (by rw [cA]; have := aBE.length; omega)
   refine ⟨by decide, by decide, by decide, by have := aBE.length; omega, by omega, by omega, fun m qm => ?_⟩
   have am : ¬ m = ns := by grind
   have bm : ¬ m = nf := by grind
   have dm : g5 m = none := by grind
   have em : ¬ m = ng := by grind
   have fm : ¬ m = m5 := (by grind); have aRT := eq_false fm; have aRU := eq_false (Ne.symm fm); have bBU := fm; have bBV := Ne.symm fm
   have eH : ¬ m = ns := am
   have fM : ¬ ns = m := Ne.symm eH
   have cN : (m = ns) = False := eq_false eH
   have cO : (ns = m) = False := eq_false fM
   have kP : ¬ m = nf := bm
   have pJ : ¬ nf = m := Ne.symm kP
   have eK : (m = nf) = False := eq_false kP
   have eM : (nf = m) = False := eq_false pJ
   have fV : ¬ m = ng := em
   have kO : ¬ ng = m := Ne.symm fV
   have iQ : (m = ng) = False := eq_false fV
   have iR : (ng = m) = False := eq_false kO
   simp -dsimp -implicitDefEqProofs only [go_sem, ↓reduceIte, Tryz.f22, bV, bF, cO, bU, lH, eM, bG, lG, iR, cN, eK, iQ, aRT, eK, iQ, cN, aRU, sX, xQ, sU, eM, sY, lH, bU, iR, xR, lG, bG, cO, sV, bV, bF, aA, aM, Option.toArray_none, Option.toArray_some, List.filterMap_cons, List.filterMap_nil, List.elem_cons_self, List.nil_append, List.append_nil, List.toList_toArray]
   refine ⟨(cnt, i + 1, outs ++ [x5], eo ++ [[.v (.int .i64 x5.aP), .v (.int .i64 x5.bC), .v (.int .i64 x5.cR), .v (.int .i64 x5.cD), y4]], g5, some m, a9, sd9), ⟨rfl, IntWalk.i64_in _ (by omega)⟩, ?_, hii.next kJ hx5 w5 ⟨v1, z4f⟩ dm ⟨am, bm⟩ ⟨aZ9, by omega, vJ⟩ (by omega), by simp only; omega⟩
   intro q_
   simp only [aM, aJ, bY, gG, dW, cA, iT, iU, OV.eN, OV.b7, OV.jH, List.nil_append, List.map_cons, List.map_nil, ht]
   grind
 ·simp -dsimp -implicitDefEqProofs only [go_sem, ↓reduceIte, Tryz.f22, c8, nF, dZ, dA, mH, bV, nE, mG, nH, dY, bU, nG, aA, aM, Option.toArray_none, Option.toArray_some, List.filterMap_cons, List.filterMap_nil, List.elem_cons_self, List.nil_append, List.append_nil, List.toList_toArray, hk9]
  refine ⟨by decide, by rw [mT]; rfl, ?_⟩
  cases oo with
  |none =>
   rw [jZ] at sF
   subst sF
   have := aBE.length
   simp at this
   rw [this] at hol
   simp at hol
   omega
  |some m5 =>
  have aRS := aB1 (sz := 5) aRR sF
  have hgo := aHB aBE (sz := 5) sF
  have hei : eo.length = i := by rw [← aBE.length]; exact hol
  rw [iK] at sF
  obtain ⟨k1, k2⟩ := aEE m5 rfl
  have qG : ¬ m5 = ns := k1
  have sT : ¬ ns = m5 := Ne.symm qG
  have sU : (m5 = ns) = False := eq_false qG
  have sV : (ns = m5) = False := eq_false sT
  have qH : ¬ m5 = nf := k2
  have sW : ¬ nf = m5 := Ne.symm qH
  have sX : (m5 = nf) = False := eq_false qH
  have sY : (nf = m5) = False := eq_false sW
  simp only [aJ, bY, aHA] at *
  have a0A : (⟨[116], par, outs⟩ : aT).o [.v (.str [116]), .v (I par), .sl m5 5 eo] := ⟨_, rfl, hgo⟩
  have ws' : aR g2 m5 (.row 5 (OV.cells eo)) ns = none := by rw [aA _ _ _ _ sT]; exact ws
  have wf' : aR g2 m5 (.row 5 (OV.cells eo)) nf = none := by rw [aA _ _ _ _ sW]; exact wf
  have bPV := hk9 (.row 5 (OV.cells eo))
  clear hkeep
  generalize aR g2 m5 (.row 5 (OV.cells eo)) = g6 at *
  have hz8 : cK g1 (.row 3 (OV.cells es)) o n2 = none := iL z18 fun m e => (hon m e).2.1
  have hz9 : cK g1 (.row 3 (OV.cells es)) o n3 = none := z19
  obtain ⟨g7, rfl, w7, z78, z79⟩ := eU.yX hz8 (by rw [aA _ _ _ _ aML]; exact hz9) aRS
  simp only [aM, c8, nF, dZ, dA, mH, bV, nE, mG, nH, dY, bU, nG, if_false] at ws' wf' z79
  cases o with
  |none =>
   rw [jZ] at hgs
   subst hgs
   obtain rfl : fs = [] := List.length_eq_zero_iff.1 hor.length
   simp only [aO, kW] at *
   simp -dsimp -implicitDefEqProofs only [go_sem, ↓reduceIte, Tryz.f22, c8, nF, dZ, dA, mH, bV, nE, mG, nH, dY, bU, nG, aA, aM, Option.toArray_none, Option.toArray_some, List.filterMap_cons, List.filterMap_nil, List.elem_cons_self, List.nil_append, List.append_nil, List.toList_toArray]
   have ht := dW []
   refine ⟨by decide, fun m qm => ?_⟩
   have am : ¬ m = ns := by grind
   have bm : ¬ m = n2 := by grind
   have cm : ¬ m = n3 := by grind
   have em : ¬ m = nf := by grind
   have dm : g7 m = none := by grind
   have eH : ¬ m = ns := am
   have fM : ¬ ns = m := Ne.symm eH
   have cN : (m = ns) = False := eq_false eH
   have cO : (ns = m) = False := eq_false fM
   have aIB : ¬ m = n2 := bm
   have aRW : ¬ n2 = m := Ne.symm aIB
   have gX : (m = n2) = False := eq_false aIB
   have gY : (n2 = m) = False := eq_false aRW
   have aIC : ¬ m = n3 := cm
   have aRX : ¬ n3 = m := Ne.symm aIC
   have aID : (m = n3) = False := eq_false aIC
   have aIE : (n3 = m) = False := eq_false aRX
   have kP : ¬ m = nf := em
   have pJ : ¬ nf = m := Ne.symm kP
   have eK : (m = nf) = False := eq_false kP
   have eM : (nf = m) = False := eq_false pJ
   simp -dsimp -implicitDefEqProofs only [go_sem, ↓reduceIte, Tryz.f22, c8, nF, dZ, gY, dA, mH, bV, cO, nE, mG, nH, aIE, dY, bU, nG, eM, gX, cN, aID, eK, aA, aM, Option.toArray_none, Option.toArray_some, List.filterMap_cons, List.filterMap_nil, List.elem_cons_self, List.nil_append, List.append_nil, List.toList_toArray]
   refine fun n9 q9 => ?_
   have a9' : ¬ n9 = ns := by grind
   have b9' : ¬ n9 = n2 := by grind
   have c9' : ¬ n9 = nf := by grind
   have d9' : ¬ n9 = m := by grind
   have e9' : ¬ n9 = n3 := by grind
   have z9' : g7 n9 = none := by grind
   have nB : ¬ n9 = ns := a9'
   have eE : ¬ ns = n9 := Ne.symm nB
   have bA : (n9 = ns) = False := eq_false nB
   have bB : (ns = n9) = False := eq_false eE
   have aC1 : ¬ n9 = n2 := b9'
   have aMO : ¬ n2 = n9 := Ne.symm aC1
   have fP : (n9 = n2) = False := eq_false aC1
   have fQ : (n2 = n9) = False := eq_false aMO
   have uR : ¬ n9 = nf := c9'
   have uQ : ¬ nf = n9 := Ne.symm uR
   have dM : (n9 = nf) = False := eq_false uR
   have dK : (nf = n9) = False := eq_false uQ
   have j1 : ¬ n9 = m := d9'
   have gK : ¬ m = n9 := Ne.symm j1
   have dJ : (n9 = m) = False := eq_false j1
   have dI : (m = n9) = False := eq_false gK
   have aC2 : ¬ n9 = n3 := e9'
   have aMP : ¬ n3 = n9 := Ne.symm aC2
   have aMQ : (n9 = n3) = False := eq_false aC2
   have aMR : (n3 = n9) = False := eq_false aMP
   have wpar : IntKind.i64.wrap (par + 1) = par + 1 := IntWalk.i64_in _ (by omega)
   simp -dsimp -implicitDefEqProofs only [go_sem, ↓reduceIte, Tryz.f22, c8, nF, dZ, gY, fQ, dA, mH, bV, cO, bB, nE, mG, nH, aIE, aMR, dY, bU, nG, eM, dK, gX, cN, aID, eK, dI, fP, bA, aMQ, dM, dJ, aA, aM, Option.toArray_none, Option.toArray_some, List.filterMap_cons, List.filterMap_nil, List.elem_cons_self, List.nil_append, List.append_nil, List.toList_toArray, wpar]
   have wfs : IntKind.i64.wrap (((([] : List aT).length + 1 : Nat) : Int) - 1) = (([] : List aT).length : Int) := by rw [IntWalk.i64_in _ (by omega)]; omega
   try simp only [List.length_nil, Nat.zero_add] at wfs
   refine aH.wk (g := aR (aR (aR (aR (aR g7 m (.row 3 (OV.cells ([] ++ [[.v (.str [116]), .v (I par), .sl m5 5 eo]])))) n2 qO) nf (.row 3 [[.v (.str [116]), .v (I par), .v (.os m5 5 0 i)]])) n9 (.row 5 [[.v (.os m 3 0 (([] : List aT).length + 1)), .v (I ([] : List aT).length), .v (I 0), .v .bH, .v .bH]])) ns (jG c a8 sd8)) (aB.jN (by
    intro q_
    simp only [aM, gG, dW, cA, iT, iU, OV.eN, OV.b7, OV.jH, OV.vA, List.nil_append, List.map_cons, List.map_nil, List.length_append, List.length_singleton, List.length_nil, hei, ht, wfs]
    grind)) ?_
   have wns : g7 ns = none := by grind
   refine aH.fG (oQ (a := a8) (sd := sd8) hc hl (by omega) (par + 1) (by omega) (aG ..)) ?_
   rintro r_ h' ⟨sh, a9, sd9, rfl, s0, s1, -, ha9, rfl⟩
   have s1 := s1 (by omega)
   rw [aK]
   simp -dsimp -implicitDefEqProofs only [go_sem, ↓reduceIte, Tryz.f22, c8, dZ, gY, fQ, dA, bV, cO, bB, dY, bU, eM, dK, gX, cN, eK, dI, fP, bA, dM, dJ, aA, aM, Option.toArray_none, Option.toArray_some, List.filterMap_cons, List.filterMap_nil, List.elem_cons_self, List.nil_append, List.append_nil, List.toList_toArray]
   simp only [bR eE, aK]
   refine aH.fG (wH (a := a9) (sd := sd9) hc hl sh (by omega) (by rw [aA _ _ _ _ eE, aA _ _ _ _ oB, aA _ _ _ _ mE, aA _ _ _ _ fM]; exact wns) (by omega)) ?_
   rintro r_ h' ⟨l, a10, bBZ, hll, hnl, rfl, bQA, rfl⟩
   simp -dsimp -implicitDefEqProofs only [go_sem, ↓reduceIte, Tryz.f22, c8, dZ, gY, fQ, dA, bV, cO, bB, dY, bU, eM, dK, gX, cN, eK, dI, fP, bA, dM, dJ, aA, aM, Option.toArray_none, Option.toArray_some, List.filterMap_cons, List.filterMap_nil, List.elem_cons_self, List.nil_append, List.append_nil, List.toList_toArray]
   simp only [bR eE, aK]
   refine aH.fG (oQ (a := a10) (sd := bBZ) hc hl (by omega) 5 (by omega) (aG ..)) ?_
   rintro r_ h' ⟨tc, a11, bB0, rfl, tc0, tc1, -, bQC, rfl⟩
   have tc1 := tc1 (by omega)
   rw [aK]
   simp -dsimp -implicitDefEqProofs only [go_sem, ↓reduceIte, Tryz.f22, c8, dZ, gY, fQ, dA, bV, cO, bB, dY, bU, eM, dK, gX, cN, eK, dI, fP, bA, dM, dJ, aA, aM, Option.toArray_none, Option.toArray_some, List.filterMap_cons, List.filterMap_nil, List.elem_cons_self, List.nil_append, List.append_nil, List.toList_toArray]
   refine aH.fG (aPM (a := a11) (sd := bB0) hc hl (by omega) 20 (by omega) (aG ..)) ?_
   rintro r_ h' ⟨b20, a12, a0D, rfl, bQD, rfl⟩
   rw [aK]
   apply aEC
   case m =>
    intro key
    cases b20
    ·simp -dsimp -implicitDefEqProofs only [go_sem, ↓reduceIte, Tryz.f22, c8, dZ, gY, fQ, dA, bV, cO, bB, dY, bU, eM, dK, gX, cN, eK, dI, fP, bA, dM, dJ, aA, aM, Option.toArray_none, Option.toArray_some, List.filterMap_cons, List.filterMap_nil, List.elem_cons_self, List.nil_append, List.append_nil, List.toList_toArray]
     refine cS (keep := aEF) (ib := aV0) (mk := aV1) mix (by kernel_rfl) (fun x : JSt => [(0, .op ns 3 0 0), (2, .op n2 5 0 0), (4, .op nf 3 0 0), (9, .op n9 5 0 0), (10, I x.1), (11, I x.2.1.length)]) (fun x => aR (aR (cK (aR (aR (aR g7 m (.row 3 (OV.cells ([] ++ [[.v (.str [116]), .v (I par), .sl m5 5 eo]])))) n2 qO) nf (.row 3 [[.v (.str [116]), .v (I par), .v (.os m5 5 0 i)]])) (wI x.2.1) x.2.2.1) n9 (.row 5 [[.v (.os m 3 0 (([] : List aT).length + 1)), .v (I ([] : List aT).length), .v (I sh), .v (ints l), .v (jR 1 x.2.1.length x.2.2.1)]])) ns (jG c x.2.2.2.1 x.2.2.2.2)) (fun x => aUG (par - sh) a12 (aR (aR (aR (aR (aR g7 m (.row 3 (OV.cells ([] ++ [[.v (.str [116]), .v (I par), .sl m5 5 eo]])))) n2 qO) nf (.row 3 [[.v (.str [116]), .v (I par), .v (.os m5 5 0 i)]])) n9 qO) ns qO) x) (fun x => x.1.toNat - x.2.1.length) (tc, [], none, a12, a0D) ⟨by simp [cV, bZ], aB.le_refl _, by omega, by simp only [List.length_nil]; omega, (fun x h => by cases h), rfl, by simp⟩ ?_
     exact key.get
    ·simp -dsimp -implicitDefEqProofs only [go_sem, ↓reduceIte, Tryz.f22, c8, dZ, gY, fQ, dA, bV, cO, bB, dY, bU, eM, dK, gX, cN, eK, dI, fP, bA, dM, dJ, aA, aM, Option.toArray_none, Option.toArray_some, List.filterMap_cons, List.filterMap_nil, List.elem_cons_self, List.nil_append, List.append_nil, List.toList_toArray]
     refine cS (keep := aEF) (ib := aV0) (mk := aV1) mix (by kernel_rfl) (fun x : JSt => [(0, .op ns 3 0 0), (2, .op n2 5 0 0), (4, .op nf 3 0 0), (9, .op n9 5 0 0), (10, I x.1), (11, I x.2.1.length)]) (fun x => aR (aR (cK (aR (aR (aR g7 m (.row 3 (OV.cells ([] ++ [[.v (.str [116]), .v (I par), .sl m5 5 eo]])))) n2 qO) nf (.row 3 [[.v (.str [116]), .v (I par), .v (.os m5 5 0 i)]])) (wI x.2.1) x.2.2.1) n9 (.row 5 [[.v (.os m 3 0 (([] : List aT).length + 1)), .v (I ([] : List aT).length), .v (I sh), .v (ints l), .v (jR 1 x.2.1.length x.2.2.1)]])) ns (jG c x.2.2.2.1 x.2.2.2.2)) (fun x => aUG (par - sh) a12 (aR (aR (aR (aR (aR g7 m (.row 3 (OV.cells ([] ++ [[.v (.str [116]), .v (I par), .sl m5 5 eo]])))) n2 qO) nf (.row 3 [[.v (.str [116]), .v (I par), .v (.os m5 5 0 i)]])) n9 qO) ns qO) x) (fun x => x.1.toNat - x.2.1.length) (10, [], none, a12, a0D) ⟨by simp [cV, bZ], aB.le_refl _, by omega, by simp only [List.length_nil]; omega, (fun x h => by cases h), rfl, by simp⟩ ?_
     exact key.get
   case t =>
    rintro ⟨tk, ts, ot, a13, aEG⟩ hts
    obtain ⟨⟨tk0, tk1⟩, htl, htx, hto, hta⟩ := id hts
    simp only at htl htx hto hta tk0 tk1 ⊢
    have wsub : IntKind.i64.wrap (par - sh) = par - sh := IntWalk.i64_in _ (by omega)
    have a0E : OR aT.o ([] ++ [⟨[116], par, outs⟩]) ([] ++ [[.v (.str [116]), .v (I par), .sl m5 5 eo]]) := OR.append hor ⟨a0A, trivial⟩
    have aPU : eU B (OV.b6 ([] ++ [[.v (.str [116]), .v (I par), .sl m5 5 eo]])) g7 := eU.snoc hnew (by simpa only [OV.dQ, OV.hU, OV.pD, List.nil_append, List.append_nil] using w7)
    have aPV : ([] : List aT).length + 1 = ([] ++ [[.v (.str [116]), .v (I par), .sl m5 5 eo]] : List (List OV)).length := by have := hor.length; simp only [List.length_append, List.length_singleton] at this ⊢; omega
    have hot : ∀ q, ot = some q → ¬ q = ns ∧ ¬ q = n9 ∧ ¬ q = nf ∧ ¬ q = n2 ∧ ¬ q = m ∧ g7 q = none := fun q e => by
     subst e
     rw [aV] at hto
     exact aJ9 hto
    cases ot with
    |none =>
     rw [bD] at hto
     subst hto
     simp -dsimp -implicitDefEqProofs only [go_sem, ↓reduceIte, Tryz.f22, c8, dZ, gY, fQ, dA, bV, cO, bB, dY, bU, eM, dK, gX, cN, eK, dI, fP, bA, dM, dJ, aA, aM, Option.toArray_none, Option.toArray_some, List.filterMap_cons, List.filterMap_nil, List.elem_cons_self, List.nil_append, List.append_nil, List.toList_toArray, aO, kW, wsub]
     refine ⟨fun hlt => ?_, fun hge => ?_⟩
     ·refine aH.fG (wH (a := a13) (sd := aEG) hc hl (par - sh) (by omega) (by rw [aA _ _ _ _ eE, aA _ _ _ _ oB, aA _ _ _ _ mE, aA _ _ _ _ fM]; exact wns) (by omega)) ?_
      rintro r_ h' ⟨x, a14, aRZ, hxl, hxn, rfl, bB4, rfl⟩
      simp -dsimp -implicitDefEqProofs only [go_sem, ↓reduceIte, Tryz.f22, c8, dZ, gY, fQ, dA, bV, cO, bB, dY, bU, eM, dK, gX, cN, eK, dI, fP, bA, dM, dJ, aA, Option.toArray_none, Option.toArray_some, List.filterMap_cons, List.filterMap_nil, List.elem_cons_self, List.nil_append, List.append_nil, List.toList_toArray]
      refine ⟨by decide, by decide, by decide, fun mt hmt => ?_⟩
      obtain ⟨t1, t2, t3, t4, t5, t6⟩ := hmt
      have qI : ¬ mt = ns := t1
      have sZ : ¬ ns = mt := Ne.symm qI
      have oE : (mt = ns) = False := eq_false qI
      have oG : (ns = mt) = False := eq_false sZ
      have qJ : ¬ mt = n9 := t2
      have xS : ¬ n9 = mt := Ne.symm qJ
      have oH : (mt = n9) = False := eq_false qJ
      have oI : (n9 = mt) = False := eq_false xS
      have qK : ¬ mt = nf := t3
      have xT : ¬ nf = mt := Ne.symm qK
      have oJ : (mt = nf) = False := eq_false qK
      have oK : (nf = mt) = False := eq_false xT
      have qL : ¬ mt = n2 := t4
      have xU : ¬ n2 = mt := Ne.symm qL
      have oM : (mt = n2) = False := eq_false qL
      have oN : (n2 = mt) = False := eq_false xU
      have tQ : ¬ mt = m := t5
      have aBF : ¬ m = mt := Ne.symm tQ
      have rJ : (mt = m) = False := eq_false tQ
      have rK : (m = mt) = False := eq_false aBF
      simp -dsimp -implicitDefEqProofs only [go_sem, ↓reduceIte, Tryz.f22, c8, dZ, gY, fQ, oN, dA, bV, cO, bB, oG, dY, bU, eM, dK, oK, gX, cN, eK, dI, rK, fP, bA, dM, dJ, oI, oM, oE, oJ, rJ, oH, aA, aM, Option.toArray_none, Option.toArray_some, List.filterMap_cons, List.filterMap_nil, List.elem_cons_self, List.nil_append, List.append_nil, List.toList_toArray]
      refine ⟨(tk, [x], some mt, a14, aRZ), ⟨rfl, IntWalk.i64_in _ (by omega)⟩, ?_, ⟨⟨tk0, tk1⟩, by simp only [List.length_singleton, List.length_nil] at hlt ⊢; omega, (fun y hy => by cases hy with | head => exact ⟨hxl, hxn⟩ | tail _ h => cases h), z7 ⟨t1, t2, t3, t4, t5, t6⟩, by simp only [List.length_singleton, List.length_nil] at hta ⊢; omega⟩, by simp only [List.length_singleton, List.length_nil] at hlt ⊢; omega⟩
      intro q_
      simp only [aM, aJ, bY, wI, List.length_singleton, List.map_cons, List.map_nil]
      grind
     ·simp -dsimp -implicitDefEqProofs only [go_sem, ↓reduceIte, Tryz.f22, c8, dZ, gY, fQ, dA, bV, cO, bB, dY, bU, eM, dK, gX, cN, eK, dI, fP, bA, dM, dJ, aA, aM, Option.toArray_none, Option.toArray_some, List.filterMap_cons, List.filterMap_nil, List.elem_cons_self, List.nil_append, List.append_nil, List.toList_toArray, qO]
      exact ⟨_, _, aF2 (X := jG c a13 aEG) (ot := none) (ts := []) a0E aPU dm wns am aPV rfl (fun q e => by cases e) (by
       intro q_
       simp only [aM, aO]
       grind), _, a13, aEG, aC0 hdr (by omega) (by omega) (by omega) hgd (by omega) (by omega) hnl (by simp) (fun y hy => by cases hy), rfl, by omega, rfl⟩
    |some mt =>
     obtain ⟨t1, t2, t3, t4, t5, t6⟩ := hot mt rfl
     have qI : ¬ mt = ns := t1
     have sZ : ¬ ns = mt := Ne.symm qI
     have oE : (mt = ns) = False := eq_false qI
     have oG : (ns = mt) = False := eq_false sZ
     have qJ : ¬ mt = n9 := t2
     have xS : ¬ n9 = mt := Ne.symm qJ
     have oH : (mt = n9) = False := eq_false qJ
     have oI : (n9 = mt) = False := eq_false xS
     have qK : ¬ mt = nf := t3
     have xT : ¬ nf = mt := Ne.symm qK
     have oJ : (mt = nf) = False := eq_false qK
     have oK : (nf = mt) = False := eq_false xT
     have qL : ¬ mt = n2 := t4
     have xU : ¬ n2 = mt := Ne.symm qL
     have oM : (mt = n2) = False := eq_false qL
     have oN : (n2 = mt) = False := eq_false xU
     have tQ : ¬ mt = m := t5
     have aBF : ¬ m = mt := Ne.symm tQ
     have rJ : (mt = m) = False := eq_false tQ
     have rK : (m = mt) = False := eq_false aBF
     simp -dsimp -implicitDefEqProofs only [go_sem, ↓reduceIte, Tryz.f22, c8, dZ, gY, fQ, oN, dA, bV, cO, bB, oG, dY, bU, eM, dK, oK, gX, cN, eK, dI, rK, fP, bA, dM, dJ, oI, oM, oE, oJ, rJ, oH, aA, aM, Option.toArray_none, Option.toArray_some, List.filterMap_cons, List.filterMap_nil, List.elem_cons_self, List.nil_append, List.append_nil, List.toList_toArray, aJ, bY, wsub]
     refine ⟨fun hlt => ?_, fun hge => ?_⟩
     ·refine aH.fG (wH (a := a13) (sd := aEG) hc hl (par - sh) (by omega) (by rw [aA _ _ _ _ eE, aA _ _ _ _ sZ, aA _ _ _ _ oB, aA _ _ _ _ mE, aA _ _ _ _ fM]; exact wns) (by omega)) ?_
      rintro r_ h' ⟨x, a14, aRZ, hxl, hxn, rfl, bB4, rfl⟩
      simp -dsimp -implicitDefEqProofs only [go_sem, ↓reduceIte, Tryz.f22, c8, dZ, gY, fQ, oN, dA, bV, cO, bB, oG, dY, bU, eM, dK, oK, gX, cN, eK, dI, rK, fP, bA, dM, dJ, oI, oM, oE, oJ, rJ, oH, aA, Option.toArray_none, Option.toArray_some, List.filterMap_cons, List.filterMap_nil, List.elem_cons_self, List.nil_append, List.append_nil, List.toList_toArray, wI]
      refine ⟨by decide, by decide, by decide, Nat.le_refl _, by omega, by omega, fun bt ⟨u1, u2, u3, u4, u5, u6, u7⟩ => ?_⟩
      have aC3 : ¬ bt = ns := u1
      have aMS : ¬ ns = bt := Ne.symm aC3
      have aMT : (bt = ns) = False := eq_false aC3
      have aMU : (ns = bt) = False := eq_false aMS
      have aC4 : ¬ bt = n9 := u2
      have aMV : ¬ n9 = bt := Ne.symm aC4
      have aMW : (bt = n9) = False := eq_false aC4
      have aMX : (n9 = bt) = False := eq_false aMV
      have aC5 : ¬ bt = mt := u3
      have aMY : ¬ mt = bt := Ne.symm aC5
      have aMZ : (bt = mt) = False := eq_false aC5
      have aM0 : (mt = bt) = False := eq_false aMY
      have aC6 : ¬ bt = nf := u4
      have aM1 : ¬ nf = bt := Ne.symm aC6
      have aM2 : (bt = nf) = False := eq_false aC6
      have aM3 : (nf = bt) = False := eq_false aM1
      have aC7 : ¬ bt = n2 := u5
      have aM4 : ¬ n2 = bt := Ne.symm aC7
      have aM5 : (bt = n2) = False := eq_false aC7
      have aM6 : (n2 = bt) = False := eq_false aM4
      have aIF : ¬ bt = m := u6
      have aR0 : ¬ m = bt := Ne.symm aIF
      have aR1 : (bt = m) = False := eq_false aIF
      have aR2 : (m = bt) = False := eq_false aR0
      simp -dsimp -implicitDefEqProofs only [go_sem, ↓reduceIte, Tryz.f22, c8, dZ, gY, fQ, oN, aM6, dA, bV, cO, bB, oG, aMU, dY, bU, eM, dK, oK, aM3, gX, cN, eK, dI, rK, aR2, fP, bA, dM, dJ, oI, aMX, oM, oE, oJ, rJ, oH, aM0, aM5, aMT, aM2, aR1, aMW, aMZ, aA, aM, Option.toArray_none, Option.toArray_some, List.filterMap_cons, List.filterMap_nil, List.elem_cons_self, List.nil_append, List.append_nil, List.toList_toArray]
      have hln : (ts ++ [x]).length = ts.length + 1 := by simp
      have hgr : List.take ts.length ((ts.map fun x => [ints x]).map (List.map Cell.v)) ++ [[Cell.v (aD.sl 1 (x.map fun n => [I n]) false)]] = ((ts ++ [x]).map fun x => [ints x]).map (List.map .v) := fI (fun x : List Int => ints x) ts x
      refine ⟨(tk, ts ++ [x], some bt, a14, aRZ), ⟨rfl, by rw [hln, IntWalk.i64_in _ (by omega)]; rfl⟩, ?_, ⟨⟨tk0, tk1⟩, by rw [hln]; omega, (fun y hy => by
       rcases List.mem_append.1 hy with hy | hy
       ·exact htx y hy
       ·rw [List.mem_singleton.1 hy]; exact ⟨hxl, hxn⟩), z7 ⟨u1, u2, u4, u5, u6, u7⟩, by rw [hln]; omega⟩, by simp only [hln]; omega⟩
      intro q_
      simp only [aM, aJ, bY, wI, hln, hgr]
      grind
     ·simp -dsimp -implicitDefEqProofs only [go_sem, ↓reduceIte, Tryz.f22, c8, dZ, gY, fQ, oN, dA, bV, cO, bB, oG, dY, bU, eM, dK, oK, gX, cN, eK, dI, rK, fP, bA, dM, dJ, oI, oM, oE, oJ, rJ, oH, aA, aM, Option.toArray_none, Option.toArray_some, List.filterMap_cons, List.filterMap_nil, List.elem_cons_self, List.nil_append, List.append_nil, List.toList_toArray, qO]
      exact ⟨_, _, aF2 (X := jG c a13 aEG) (ot := some mt) (ts := ts) a0E aPU dm wns am aPV (by rw [aV, aA _ _ _ _ t5]; exact t6) (fun q e => by cases e; exact t1) (by
       intro q_
       simp only [aM, aJ]
       grind), _, a13, aEG, aC0 hdr (by omega) (by omega) (by omega) hgd (by omega) (by omega) hnl (by omega) htx, rfl, by omega, rfl⟩
  |some m0 =>
   rw [iK] at hgs
   obtain ⟨g8, rfl, w8, z80⟩ := eU.under hgs w7
   obtain ⟨k3, k4, k5⟩ := hon m0 rfl
   have jT : ¬ m0 = ns := k3
   have lF : ¬ ns = m0 := Ne.symm jT
   have gM : (m0 = ns) = False := eq_false jT
   have gN : (ns = m0) = False := eq_false lF
   have aUK : ¬ m0 = n2 := k4
   have a5C : ¬ n2 = m0 := Ne.symm aUK
   have aF3 : (m0 = n2) = False := eq_false aUK
   have aF4 : (n2 = m0) = False := eq_false a5C
   have aUL : ¬ m0 = n3 := k5
   have a5D : ¬ n3 = m0 := Ne.symm aUL
   have aF5 : (m0 = n3) = False := eq_false aUL
   have aF6 : (n3 = m0) = False := eq_false a5D
   simp only [aJ, bY] at *
   have k6 : ¬ m0 = nf := fun e => by rw [e, aG] at zf; cases zf
   have aCZ : ¬ m0 = nf := k6
   have aMI : ¬ nf = m0 := Ne.symm aCZ
   have uS : (m0 = nf) = False := eq_false aCZ
   have uT : (nf = m0) = False := eq_false aMI
   simp only [aM, c8, nF, dZ, aF4, dA, mH, bV, gN, nE, mG, nH, aF6, dY, bU, nG, uT, aF3, gM, aF5, uS, if_false] at ws' wf' z78 z79
   simp -dsimp -implicitDefEqProofs only [go_sem, ↓reduceIte, Tryz.f22, c8, nF, dZ, aF4, dA, mH, bV, gN, nE, mG, nH, aF6, dY, bU, nG, uT, aF3, gM, aF5, uS, aA, aM, Option.toArray_none, Option.toArray_some, List.filterMap_cons, List.filterMap_nil, List.elem_cons_self, List.nil_append, List.append_nil, List.toList_toArray, cA]
   have ht : List.take fs.length (OV.cells es) = OV.cells es := List.take_of_length_le (by rw [cA]; have := hor.length; omega)
   refine ⟨by decide, by have := hor.length; omega, by omega, by omega, fun m qm => ?_⟩
   have fm : ¬ m = m0 := by grind
   have aBC : ¬ m = m0 := fm
   have aEB : ¬ m0 = m := Ne.symm aBC
   have sD : (m = m0) = False := eq_false aBC
   have sE : (m0 = m) = False := eq_false aEB
   have am : ¬ m = ns := by grind
   have bm : ¬ m = n2 := by grind
   have cm : ¬ m = n3 := by grind
   have em : ¬ m = nf := by grind
   have dm : g8 m = none := by grind
   have eH : ¬ m = ns := am
   have fM : ¬ ns = m := Ne.symm eH
   have cN : (m = ns) = False := eq_false eH
   have cO : (ns = m) = False := eq_false fM
   have aIB : ¬ m = n2 := bm
   have aRW : ¬ n2 = m := Ne.symm aIB
   have gX : (m = n2) = False := eq_false aIB
   have gY : (n2 = m) = False := eq_false aRW
   have aIC : ¬ m = n3 := cm
   have aRX : ¬ n3 = m := Ne.symm aIC
   have aID : (m = n3) = False := eq_false aIC
   have aIE : (n3 = m) = False := eq_false aRX
   have kP : ¬ m = nf := em
   have pJ : ¬ nf = m := Ne.symm kP
   have eK : (m = nf) = False := eq_false kP
   have eM : (nf = m) = False := eq_false pJ
   simp -dsimp -implicitDefEqProofs only [go_sem, ↓reduceIte, Tryz.f22, c8, nF, dZ, gY, aF4, dA, mH, bV, cO, gN, nE, mG, nH, aIE, aF6, dY, bU, nG, eM, uT, gX, cN, aID, eK, sD, aF3, gM, aF5, uS, sE, aA, aM, Option.toArray_none, Option.toArray_some, List.filterMap_cons, List.filterMap_nil, List.elem_cons_self, List.nil_append, List.append_nil, List.toList_toArray]
   refine fun _ => fun n9 q9 => ?_
   have a9' : ¬ n9 = ns := by grind
   have b9' : ¬ n9 = n2 := by grind
   have c9' : ¬ n9 = nf := by grind
   have d9' : ¬ n9 = m := by grind
   have e9' : ¬ n9 = n3 := by grind
   have z9' : g8 n9 = none := by grind
   have nB : ¬ n9 = ns := a9'
   have eE : ¬ ns = n9 := Ne.symm nB
   have bA : (n9 = ns) = False := eq_false nB
   have bB : (ns = n9) = False := eq_false eE
   have aC1 : ¬ n9 = n2 := b9'
   have aMO : ¬ n2 = n9 := Ne.symm aC1
   have fP : (n9 = n2) = False := eq_false aC1
   have fQ : (n2 = n9) = False := eq_false aMO
   have uR : ¬ n9 = nf := c9'
   have uQ : ¬ nf = n9 := Ne.symm uR
   have dM : (n9 = nf) = False := eq_false uR
   have dK : (nf = n9) = False := eq_false uQ
   have j1 : ¬ n9 = m := d9'
   have gK : ¬ m = n9 := Ne.symm j1
   have dJ : (n9 = m) = False := eq_false j1
   have dI : (m = n9) = False := eq_false gK
   have aC2 : ¬ n9 = n3 := e9'
   have aMP : ¬ n3 = n9 := Ne.symm aC2
   have aMQ : (n9 = n3) = False := eq_false aC2
   have aMR : (n3 = n9) = False := eq_false aMP
   have f9' : ¬ n9 = m0 := (by grind); have jL := eq_false f9'; have jK := eq_false (Ne.symm f9'); have wpar : IntKind.i64.wrap (par + 1) = par + 1 := IntWalk.i64_in _ (by omega)
   simp -dsimp -implicitDefEqProofs only [go_sem, ↓reduceIte, Tryz.f22, c8, nF, dZ, gY, fQ, aF4, dA, mH, bV, cO, bB, gN, nE, mG, nH, aIE, aMR, aF6, dY, bU, nG, eM, dK, uT, gX, cN, aID, eK, dI, sD, fP, bA, aMQ, dM, dJ, jL, aF3, gM, aF5, uS, sE, jK, aA, aM, Option.toArray_none, Option.toArray_some, List.filterMap_cons, List.filterMap_nil, List.elem_cons_self, List.nil_append, List.append_nil, List.toList_toArray, wpar]
   have wfs : IntKind.i64.wrap ((((fs : List aT).length + 1 : Nat) : Int) - 1) = ((fs : List aT).length : Int) := by rw [IntWalk.i64_in _ (by omega)]; omega
   try simp only [List.length_nil, Nat.zero_add] at wfs
   refine aH.wk (g := aR (aR (aR (aR (aR g8 m (.row 3 (OV.cells (es ++ [[.v (.str [116]), .v (I par), .sl m5 5 eo]])))) n2 qO) nf (.row 3 [[.v (.str [116]), .v (I par), .v (.os m5 5 0 i)]])) n9 (.row 5 [[.v (.os m 3 0 ((fs : List aT).length + 1)), .v (I (fs : List aT).length), .v (I 0), .v .bH, .v .bH]])) ns (jG c a8 sd8)) (aB.jN (by
    intro q_
    simp only [aM, gG, dW, cA, iT, iU, OV.eN, OV.b7, OV.jH, OV.vA, List.nil_append, List.map_cons, List.map_nil, List.length_append, List.length_singleton, List.length_nil, hei, ht, wfs]
    grind)) ?_
   have wns : g8 ns = none := by grind
   refine aH.fG (oQ (a := a8) (sd := sd8) hc hl (by omega) (par + 1) (by omega) (aG ..)) ?_
   rintro r_ h' ⟨sh, a9, sd9, rfl, s0, s1, -, ha9, rfl⟩
   have s1 := s1 (by omega)
   rw [aK]
   simp -dsimp -implicitDefEqProofs only [go_sem, ↓reduceIte, Tryz.f22, c8, dZ, gY, fQ, dA, bV, cO, bB, dY, bU, eM, dK, gX, cN, eK, dI, fP, bA, dM, dJ, aA, aM, Option.toArray_none, Option.toArray_some, List.filterMap_cons, List.filterMap_nil, List.elem_cons_self, List.nil_append, List.append_nil, List.toList_toArray]
   simp only [bR eE, aK]
   refine aH.fG (wH (a := a9) (sd := sd9) hc hl sh (by omega) (by rw [aA _ _ _ _ eE, aA _ _ _ _ oB, aA _ _ _ _ mE, aA _ _ _ _ fM]; exact wns) (by omega)) ?_
   rintro r_ h' ⟨l, a10, bBZ, hll, hnl, rfl, bQA, rfl⟩
   simp -dsimp -implicitDefEqProofs only [go_sem, ↓reduceIte, Tryz.f22, c8, dZ, gY, fQ, dA, bV, cO, bB, dY, bU, eM, dK, gX, cN, eK, dI, fP, bA, dM, dJ, aA, aM, Option.toArray_none, Option.toArray_some, List.filterMap_cons, List.filterMap_nil, List.elem_cons_self, List.nil_append, List.append_nil, List.toList_toArray]
   simp only [bR eE, aK]
   refine aH.fG (oQ (a := a10) (sd := bBZ) hc hl (by omega) 5 (by omega) (aG ..)) ?_
   rintro r_ h' ⟨tc, a11, bB0, rfl, tc0, tc1, -, bQC, rfl⟩
   have tc1 := tc1 (by omega)
   rw [aK]
   simp -dsimp -implicitDefEqProofs only [go_sem, ↓reduceIte, Tryz.f22, c8, dZ, gY, fQ, dA, bV, cO, bB, dY, bU, eM, dK, gX, cN, eK, dI, fP, bA, dM, dJ, aA, aM, Option.toArray_none, Option.toArray_some, List.filterMap_cons, List.filterMap_nil, List.elem_cons_self, List.nil_append, List.append_nil, List.toList_toArray]
   refine aH.fG (aPM (a := a11) (sd := bB0) hc hl (by omega) 20 (by omega) (aG ..)) ?_
   rintro r_ h' ⟨b20, a12, a0D, rfl, bQD, rfl⟩
   rw [aK]
   apply aEC
   case m =>
    intro key
    cases b20
    ·simp -dsimp -implicitDefEqProofs only [go_sem, ↓reduceIte, Tryz.f22, c8, dZ, gY, fQ, dA, bV, cO, bB, dY, bU, eM, dK, gX, cN, eK, dI, fP, bA, dM, dJ, aA, aM, Option.toArray_none, Option.toArray_some, List.filterMap_cons, List.filterMap_nil, List.elem_cons_self, List.nil_append, List.append_nil, List.toList_toArray]
     refine cS (keep := aEF) (ib := aV0) (mk := aV1) mix (by kernel_rfl) (fun x : JSt => [(0, .op ns 3 0 0), (2, .op n2 5 0 0), (4, .op nf 3 0 0), (9, .op n9 5 0 0), (10, I x.1), (11, I x.2.1.length)]) (fun x => aR (aR (cK (aR (aR (aR g8 m (.row 3 (OV.cells (es ++ [[.v (.str [116]), .v (I par), .sl m5 5 eo]])))) n2 qO) nf (.row 3 [[.v (.str [116]), .v (I par), .v (.os m5 5 0 i)]])) (wI x.2.1) x.2.2.1) n9 (.row 5 [[.v (.os m 3 0 ((fs : List aT).length + 1)), .v (I (fs : List aT).length), .v (I sh), .v (ints l), .v (jR 1 x.2.1.length x.2.2.1)]])) ns (jG c x.2.2.2.1 x.2.2.2.2)) (fun x => aUG (par - sh) a12 (aR (aR (aR (aR (aR g8 m (.row 3 (OV.cells (es ++ [[.v (.str [116]), .v (I par), .sl m5 5 eo]])))) n2 qO) nf (.row 3 [[.v (.str [116]), .v (I par), .v (.os m5 5 0 i)]])) n9 qO) ns qO) x) (fun x => x.1.toNat - x.2.1.length) (tc, [], none, a12, a0D) ⟨by simp [cV, bZ], aB.le_refl _, by omega, by simp only [List.length_nil]; omega, (fun x h => by cases h), rfl, by simp⟩ ?_
     exact key.get
    ·simp -dsimp -implicitDefEqProofs only [go_sem, ↓reduceIte, Tryz.f22, c8, dZ, gY, fQ, dA, bV, cO, bB, dY, bU, eM, dK, gX, cN, eK, dI, fP, bA, dM, dJ, aA, aM, Option.toArray_none, Option.toArray_some, List.filterMap_cons, List.filterMap_nil, List.elem_cons_self, List.nil_append, List.append_nil, List.toList_toArray]
     refine cS (keep := aEF) (ib := aV0) (mk := aV1) mix (by kernel_rfl) (fun x : JSt => [(0, .op ns 3 0 0), (2, .op n2 5 0 0), (4, .op nf 3 0 0), (9, .op n9 5 0 0), (10, I x.1), (11, I x.2.1.length)]) (fun x => aR (aR (cK (aR (aR (aR g8 m (.row 3 (OV.cells (es ++ [[.v (.str [116]), .v (I par), .sl m5 5 eo]])))) n2 qO) nf (.row 3 [[.v (.str [116]), .v (I par), .v (.os m5 5 0 i)]])) (wI x.2.1) x.2.2.1) n9 (.row 5 [[.v (.os m 3 0 ((fs : List aT).length + 1)), .v (I (fs : List aT).length), .v (I sh), .v (ints l), .v (jR 1 x.2.1.length x.2.2.1)]])) ns (jG c x.2.2.2.1 x.2.2.2.2)) (fun x => aUG (par - sh) a12 (aR (aR (aR (aR (aR g8 m (.row 3 (OV.cells (es ++ [[.v (.str [116]), .v (I par), .sl m5 5 eo]])))) n2 qO) nf (.row 3 [[.v (.str [116]), .v (I par), .v (.os m5 5 0 i)]])) n9 qO) ns qO) x) (fun x => x.1.toNat - x.2.1.length) (10, [], none, a12, a0D) ⟨by simp [cV, bZ], aB.le_refl _, by omega, by simp only [List.length_nil]; omega, (fun x h => by cases h), rfl, by simp⟩ ?_
     exact key.get
   case t =>
    rintro ⟨tk, ts, ot, a13, aEG⟩ hts
    obtain ⟨⟨tk0, tk1⟩, htl, htx, hto, hta⟩ := id hts
    simp only at htl htx hto hta tk0 tk1 ⊢
    have wsub : IntKind.i64.wrap (par - sh) = par - sh := IntWalk.i64_in _ (by omega)
    have a0E : OR aT.o (fs ++ [⟨[116], par, outs⟩]) (es ++ [[.v (.str [116]), .v (I par), .sl m5 5 eo]]) := OR.append hor ⟨a0A, trivial⟩
    have aPU : eU B (OV.b6 (es ++ [[.v (.str [116]), .v (I par), .sl m5 5 eo]])) g8 := eU.snoc hnew (by simpa only [OV.dQ, OV.hU, OV.pD, List.nil_append, List.append_nil] using w8)
    have aPV : (fs : List aT).length + 1 = (es ++ [[.v (.str [116]), .v (I par), .sl m5 5 eo]] : List (List OV)).length := by have := hor.length; simp only [List.length_append, List.length_singleton] at this ⊢; omega
    have hot : ∀ q, ot = some q → ¬ q = ns ∧ ¬ q = n9 ∧ ¬ q = nf ∧ ¬ q = n2 ∧ ¬ q = m ∧ g8 q = none := fun q e => by
     subst e
     rw [aV] at hto
     exact aJ9 hto
    cases ot with
    |none =>
     rw [bD] at hto
     subst hto
     simp -dsimp -implicitDefEqProofs only [go_sem, ↓reduceIte, Tryz.f22, c8, dZ, gY, fQ, dA, bV, cO, bB, dY, bU, eM, dK, gX, cN, eK, dI, fP, bA, dM, dJ, aA, aM, Option.toArray_none, Option.toArray_some, List.filterMap_cons, List.filterMap_nil, List.elem_cons_self, List.nil_append, List.append_nil, List.toList_toArray, aO, kW, wsub]
     refine ⟨fun hlt => ?_, fun hge => ?_⟩
     ·refine aH.fG (wH (a := a13) (sd := aEG) hc hl (par - sh) (by omega) (by rw [aA _ _ _ _ eE, aA _ _ _ _ oB, aA _ _ _ _ mE, aA _ _ _ _ fM]; exact wns) (by omega)) ?_
      rintro r_ h' ⟨x, a14, aRZ, hxl, hxn, rfl, bB4, rfl⟩
      simp -dsimp -implicitDefEqProofs only [go_sem, ↓reduceIte, Tryz.f22, c8, dZ, gY, fQ, dA, bV, cO, bB, dY, bU, eM, dK, gX, cN, eK, dI, fP, bA, dM, dJ, aA, Option.toArray_none, Option.toArray_some, List.filterMap_cons, List.filterMap_nil, List.elem_cons_self, List.nil_append, List.append_nil, List.toList_toArray]
      refine ⟨by decide, by decide, by decide, fun mt hmt => ?_⟩
      obtain ⟨t1, t2, t3, t4, t5, t6⟩ := hmt
      have qI : ¬ mt = ns := t1
      have sZ : ¬ ns = mt := Ne.symm qI
      have oE : (mt = ns) = False := eq_false qI
      have oG : (ns = mt) = False := eq_false sZ
      have qJ : ¬ mt = n9 := t2
      have xS : ¬ n9 = mt := Ne.symm qJ
      have oH : (mt = n9) = False := eq_false qJ
      have oI : (n9 = mt) = False := eq_false xS
      have qK : ¬ mt = nf := t3
      have xT : ¬ nf = mt := Ne.symm qK
      have oJ : (mt = nf) = False := eq_false qK
      have oK : (nf = mt) = False := eq_false xT
      have qL : ¬ mt = n2 := t4
      have xU : ¬ n2 = mt := Ne.symm qL
      have oM : (mt = n2) = False := eq_false qL
      have oN : (n2 = mt) = False := eq_false xU
      have tQ : ¬ mt = m := t5
      have aBF : ¬ m = mt := Ne.symm tQ
      have rJ : (mt = m) = False := eq_false tQ
      have rK : (m = mt) = False := eq_false aBF
      simp -dsimp -implicitDefEqProofs only [go_sem, ↓reduceIte, Tryz.f22, c8, dZ, gY, fQ, oN, dA, bV, cO, bB, oG, dY, bU, eM, dK, oK, gX, cN, eK, dI, rK, fP, bA, dM, dJ, oI, oM, oE, oJ, rJ, oH, aA, aM, Option.toArray_none, Option.toArray_some, List.filterMap_cons, List.filterMap_nil, List.elem_cons_self, List.nil_append, List.append_nil, List.toList_toArray]
      refine ⟨(tk, [x], some mt, a14, aRZ), ⟨rfl, IntWalk.i64_in _ (by omega)⟩, ?_, ⟨⟨tk0, tk1⟩, by simp only [List.length_singleton, List.length_nil] at hlt ⊢; omega, (fun y hy => by cases hy with | head => exact ⟨hxl, hxn⟩ | tail _ h => cases h), z7 ⟨t1, t2, t3, t4, t5, t6⟩, by simp only [List.length_singleton, List.length_nil] at hta ⊢; omega⟩, by simp only [List.length_singleton, List.length_nil] at hlt ⊢; omega⟩
      intro q_
      simp only [aM, aJ, bY, wI, List.length_singleton, List.map_cons, List.map_nil]
      grind
     ·simp -dsimp -implicitDefEqProofs only [go_sem, ↓reduceIte, Tryz.f22, c8, dZ, gY, fQ, dA, bV, cO, bB, dY, bU, eM, dK, gX, cN, eK, dI, fP, bA, dM, dJ, aA, aM, Option.toArray_none, Option.toArray_some, List.filterMap_cons, List.filterMap_nil, List.elem_cons_self, List.nil_append, List.append_nil, List.toList_toArray, qO]
      exact ⟨_, _, aF2 (X := jG c a13 aEG) (ot := none) (ts := []) a0E aPU dm wns am aPV rfl (fun q e => by cases e) (by
       intro q_
       simp only [aM, aO]
       grind), _, a13, aEG, aC0 hdr (by omega) (by omega) (by omega) hgd (by omega) (by omega) hnl (by simp) (fun y hy => by cases hy), rfl, by omega, rfl⟩
    |some mt =>
     obtain ⟨t1, t2, t3, t4, t5, t6⟩ := hot mt rfl
     have qI : ¬ mt = ns := t1
     have sZ : ¬ ns = mt := Ne.symm qI
     have oE : (mt = ns) = False := eq_false qI
     have oG : (ns = mt) = False := eq_false sZ
     have qJ : ¬ mt = n9 := t2
     have xS : ¬ n9 = mt := Ne.symm qJ
     have oH : (mt = n9) = False := eq_false qJ
     have oI : (n9 = mt) = False := eq_false xS
     have qK : ¬ mt = nf := t3
     have xT : ¬ nf = mt := Ne.symm qK
     have oJ : (mt = nf) = False := eq_false qK
     have oK : (nf = mt) = False := eq_false xT
     have qL : ¬ mt = n2 := t4
     have xU : ¬ n2 = mt := Ne.symm qL
     have oM : (mt = n2) = False := eq_false qL
     have oN : (n2 = mt) = False := eq_false xU
     have tQ : ¬ mt = m := t5
     have aBF : ¬ m = mt := Ne.symm tQ
     have rJ : (mt = m) = False := eq_false tQ
     have rK : (m = mt) = False := eq_false aBF
     simp -dsimp -implicitDefEqProofs only [go_sem, ↓reduceIte, Tryz.f22, c8, dZ, gY, fQ, oN, dA, bV, cO, bB, oG, dY, bU, eM, dK, oK, gX, cN, eK, dI, rK, fP, bA, dM, dJ, oI, oM, oE, oJ, rJ, oH, aA, aM, Option.toArray_none, Option.toArray_some, List.filterMap_cons, List.filterMap_nil, List.elem_cons_self, List.nil_append, List.append_nil, List.toList_toArray, aJ, bY, wsub]
     refine ⟨fun hlt => ?_, fun hge => ?_⟩
     ·refine aH.fG (wH (a := a13) (sd := aEG) hc hl (par - sh) (by omega) (by rw [aA _ _ _ _ eE, aA _ _ _ _ sZ, aA _ _ _ _ oB, aA _ _ _ _ mE, aA _ _ _ _ fM]; exact wns) (by omega)) ?_
      rintro r_ h' ⟨x, a14, aRZ, hxl, hxn, rfl, bB4, rfl⟩
      simp -dsimp -implicitDefEqProofs only [go_sem, ↓reduceIte, Tryz.f22, c8, dZ, gY, fQ, oN, dA, bV, cO, bB, oG, dY, bU, eM, dK, oK, gX, cN, eK, dI, rK, fP, bA, dM, dJ, oI, oM, oE, oJ, rJ, oH, aA, Option.toArray_none, Option.toArray_some, List.filterMap_cons, List.filterMap_nil, List.elem_cons_self, List.nil_append, List.append_nil, List.toList_toArray, wI]
      refine ⟨by decide, by decide, by decide, Nat.le_refl _, by omega, by omega, fun bt ⟨u1, u2, u3, u4, u5, u6, u7⟩ => ?_⟩
      have aC3 : ¬ bt = ns := u1
      have aMS : ¬ ns = bt := Ne.symm aC3
      have aMT : (bt = ns) = False := eq_false aC3
      have aMU : (ns = bt) = False := eq_false aMS
      have aC4 : ¬ bt = n9 := u2
      have aMV : ¬ n9 = bt := Ne.symm aC4
      have aMW : (bt = n9) = False := eq_false aC4
      have aMX : (n9 = bt) = False := eq_false aMV
      have aC5 : ¬ bt = mt := u3
      have aMY : ¬ mt = bt := Ne.symm aC5
      have aMZ : (bt = mt) = False := eq_false aC5
      have aM0 : (mt = bt) = False := eq_false aMY
      have aC6 : ¬ bt = nf := u4
      have aM1 : ¬ nf = bt := Ne.symm aC6
      have aM2 : (bt = nf) = False := eq_false aC6
      have aM3 : (nf = bt) = False := eq_false aM1
      have aC7 : ¬ bt = n2 := u5
      have aM4 : ¬ n2 = bt := Ne.symm aC7
      have aM5 : (bt = n2) = False := eq_false aC7
      have aM6 : (n2 = bt) = False := eq_false aM4
      have aIF : ¬ bt = m := u6
      have aR0 : ¬ m = bt := Ne.symm aIF
      have aR1 : (bt = m) = False := eq_false aIF
      have aR2 : (m = bt) = False := eq_false aR0
      simp -dsimp -implicitDefEqProofs only [go_sem, ↓reduceIte, Tryz.f22, c8, dZ, gY, fQ, oN, aM6, dA, bV, cO, bB, oG, aMU, dY, bU, eM, dK, oK, aM3, gX, cN, eK, dI, rK, aR2, fP, bA, dM, dJ, oI, aMX, oM, oE, oJ, rJ, oH, aM0, aM5, aMT, aM2, aR1, aMW, aMZ, aA, aM, Option.toArray_none, Option.toArray_some, List.filterMap_cons, List.filterMap_nil, List.elem_cons_self, List.nil_append, List.append_nil, List.toList_toArray]
      have hln : (ts ++ [x]).length = ts.length + 1 := by simp
      have hgr : List.take ts.length ((ts.map fun x => [ints x]).map (List.map Cell.v)) ++ [[Cell.v (aD.sl 1 (x.map fun n => [I n]) false)]] = ((ts ++ [x]).map fun x => [ints x]).map (List.map .v) := fI (fun x : List Int => ints x) ts x
      refine ⟨(tk, ts ++ [x], some bt, a14, aRZ), ⟨rfl, by rw [hln, IntWalk.i64_in _ (by omega)]; rfl⟩, ?_, ⟨⟨tk0, tk1⟩, by rw [hln]; omega, (fun y hy => by
       rcases List.mem_append.1 hy with hy | hy
       ·exact htx y hy
       ·rw [List.mem_singleton.1 hy]; exact ⟨hxl, hxn⟩), z7 ⟨u1, u2, u4, u5, u6, u7⟩, by rw [hln]; omega⟩, by simp only [hln]; omega⟩
      intro q_
      simp only [aM, aJ, bY, wI, hln, hgr]
      grind
     ·simp -dsimp -implicitDefEqProofs only [go_sem, ↓reduceIte, Tryz.f22, c8, dZ, gY, fQ, oN, dA, bV, cO, bB, oG, dY, bU, eM, dK, oK, gX, cN, eK, dI, rK, fP, bA, dM, dJ, oI, oM, oE, oJ, rJ, oH, aA, aM, Option.toArray_none, Option.toArray_some, List.filterMap_cons, List.filterMap_nil, List.elem_cons_self, List.nil_append, List.append_nil, List.toList_toArray, qO]
      exact ⟨_, _, aF2 (X := jG c a13 aEG) (ot := some mt) (ts := ts) a0E aPU dm wns am aPV (by rw [aV, aA _ _ _ _ t5]; exact t6) (fun q e => by cases e; exact t1) (by
       intro q_
       simp only [aM, aJ]
       grind), _, a13, aEG, aC0 hdr (by omega) (by omega) (by omega) hgd (by omega) (by omega) hnl (by omega) htx, rfl, by omega, rfl⟩
@[go_sem] def bJ5 : List Nat := [0, 2, 3]
@[go_sem] def ib6 : List Nat := []
@[go_sem] def mk6 : Marks := fun _ => ([], .nil, [])
theorem a5E {c : List Int} (hc : ∀ x ∈ c, InB x) (hl : c.length ≤ 4096) {g : aB} : iH Tryz.prog 6 [.sl 1 (c.map fun n => [.int .u8 n]) false] g fun r h' => ∃ j, aMJ j ∧ r = .agg j.c ∧ h' = g := by
 refine aDS 8 bJ5 ib6 mk6 mix Tryz.func6 rfl (by kernel_rfl) (by simp) ?_
 simp -dsimp -implicitDefEqProofs only [go_sem, ↓reduceIte, Tryz.f6]
 intro n2 q2
 refine aH.fG (bJ1 c) ?_
 rintro r_ h' ⟨ns, rfl, hns, rfl⟩
 have k1 : ¬ n2 = ns := fun e => by rw [e, aG] at hns; cases hns
 have aAA : ¬ n2 = ns := k1
 have mE : ¬ ns = n2 := Ne.symm aAA
 have c8 : (n2 = ns) = False := eq_false aAA
 have dA : (ns = n2) = False := eq_false mE
 simp -dsimp -implicitDefEqProofs only [go_sem, ↓reduceIte, Tryz.f6]
 refine aH.fG (a0C (a := 0) (sd := 0) hc hl hns (by omega)) ?_
 rintro r_ h' ⟨j, a', sd', hj, rfl, ha', rfl⟩
 have ef : (aD.agg j.c) = .agg [eZ 3 aT.c j.aZ.aI, I j.cT, I j.cE, eZ 1 (fun n => [I n]) j.iN, eZ 1 (fun x => [eZ 1 (fun n => [I n]) x]) j.cB] := by rw [eI.aU]
 rw [ef]
 simp -dsimp -implicitDefEqProofs only [go_sem, ↓reduceIte, Tryz.f6, c8, dA, aA, aM]
 refine ⟨g, ?_, j, hj, by rw [ef], rfl⟩
 rw [aA _ _ _ _ mE] at hns
 intro q_
 simp only [aM]
 grind
open Go.Proofs
set_option linter.unusedVariables false
set_option linter.unusedSimpArgs false
theorem bB5 {inp : Int} {F : dU} {u : Nat} (h : Good inp F u) : a34 inp F fun _ => True := ⟨h.ins, fun _ _ _ _ => ⟨fun _ => ⟨trivial, trivial⟩, fun _ => trivial⟩, fun _ _ => trivial, fun _ _ _ _ => trivial⟩
structure a0F (p : aE) (f : Int) (args L : List Int) (F : dU) : Prop where
 ok : (⟨args.length, F.code, F.guards, L⟩ : jS).ok
 ins : ∀ i c, F.code[i]? = some c → cH args.length i c
 one : 1 ≤ F.code.length
 outs : ∀ r ∈ L, 0 ≤ r ∧ r < F.code.length
 lo : 1 ≤ L.length
 ll : L.length = (p.outs f).length
 hv : ∀ dir : List Int, dir.length = args.length → eD dir → ∀ k, k < F.code.length → (qD 2 (cY args dir) F.code k).getD 0 0 = F.gQ.getD k 0
 nz : ∀ (i : Nat) (c : bQ), F.code[i]? = some c → c.j0 = 6 → 0 ≤ c.fB ∧ c.fB < F.code.length ∧ ¬ F.gQ.getD c.fB.toNat 0 = 0
 bJ6 : ∀ i, (jQ p f args i).getD 0 0 = (qD 2 (cY args (gF args.length i)) F.code (L.getD 0 0).toNat).getD 1 0
theorem aV3 {p : aE} (hp : p.ok) {f : Int} (hf : 0 ≤ f ∧ f < p.aI.length) {args : List Int} (na : eD args) (h12 : args.length ≤ 12) (hl : ∀ G, p.aI[f.toNat]? = some G → (args.length : Int) = G.aW) {L : List Int} {F : dU} {u : Nat} (hX : aH0 p f args = .ok ((L, F), u)) : a0F p f args L F := by
 obtain ⟨G, eG, hO1, hO2, hO3, hO4⟩ := kR hp hf
 obtain ⟨q1, q2, q3, q4⟩ := (aFX hp f hf args na hl).1 _ _ hX
 simp only at q1 q2 q3 q4
 have hcl := q1.len
 have hcap := q1.cap
 have hgc := q1.yB
 have hu := q4.2.2.2
 have hL1 : 1 ≤ L.length := by rw [q3.1, hO3]; omega
 have h1 : ∀ x ∈ L, 0 ≤ x ∧ x < (F.code.length : Int) := fun x hx => by
  have := q3.2 x hx
  unfold p9 at this
  omega
 have hone : 1 ≤ F.code.length := by
  have := h1 (L.getD 0 0) (by rw [List.getD_eq_getElem?_getD, List.getElem?_eq_getElem hL1]; exact List.getElem_mem _)
  omega
 have hb : ∀ dir : List Int, dir.length = args.length → eD dir → _ := fun dir hd nd => aVM hp (sz := 2) (by decide) hf na hl hX (bB5 q1) (args := cY args dir) (pS na nd) (nY hd) (fun i hi _ => by rw [aJ0 hi (by omega)]; rfl)
 have hd0 := (hb args rfl na).2
 refine ⟨⟨by simp only; omega, ⟨by simp only; omega, by simp only; omega, hL1, by simp only; rw [q3.1, hO3]; omega⟩, fun k hk => ?_, fun g hg => ?_, fun r hr => by have := h1 r hr; simp only; omega⟩, q1.ins, hone, h1, hL1, q3.1, fun dir hd nd k hk => (hb dir hd nd).2.1 k (by omega) trivial, fun i c ec h6 => ?_, fun i => ?_⟩
 ·have hk' : k < F.code.length := hk
  have hc := q1.ins k _ (List.getElem?_eq_getElem hk')
  show pU F.code[k] k args.length
  unfold cH jA at hc
  unfold pU jA
  omega
 ·have := q1.gds g hg
  simp only
  omega
 ·have hc := q1.ins i c ec
  have hi := (List.getElem?_eq_some_iff.1 ec).1
  unfold cH at hc
  exact ⟨by omega, by omega, hd0.2 i c ec h6⟩
 ·have w := (hb (gF args.length i) (rG _ _) (rH _ _)).1
  rw [jQ, w, nO, vE]
  simp only [if_true]
  rw [List.getD_eq_getElem?_getD, List.getElem?_map, List.getElem?_map, List.getElem?_eq_getElem hL1, List.getD_eq_getElem?_getD (l := L), List.getElem?_eq_getElem hL1]; rfl
theorem aR3 {p : aE} {f : Int} {args L : List Int} {F : dU} (na : eD args) (T : a0F p f args L F) :
  (byK F.code (rI F.code (pG 2 (cY args args) F.code F.code.length) (rV L (gF L.length 0) (List.replicate F.code.length (yC 2)) L.length) F.code.length 0) 2 args.length F.code.length).map (·.getD 0 0) = (List.range args.length).map fun i => (jQ p f args i).getD 0 0 := by
 have hser := pS na na
 have hll := nY (args := args) (dir := args) rfl
 have hsr : jU 2 F.code.length (pG 2 (cY args args) F.code F.code.length) := ⟨lE _ _ _ _, fun s hs => by
  obtain ⟨i, hi, rfl⟩ := List.mem_iff_getElem.1 hs
  rw [lE] at hi
  have h := zT (sz := 2) T.ins hser (by rw [hll]) i hi
  rwa [qD, List.getD_eq_getElem?_getD, List.getElem?_eq_getElem (by rw [lE]; exact hi)] at h⟩
 have hA0 := zE (sz := 2) (by decide) T.outs (rH L.length 0) L.length (Nat.le_refl _)
 have hB := zY T.ins (tP (sz := 2) ⟨by decide, by decide⟩ T.ins hsr hA0 F.code.length 0 rfl) F.code.length (Nat.le_refl _)
 have hst := fun i (hi : i < args.length) => aPR T.ins T.outs T.lo hsr na rfl (fun i k hk => by
  have h1 := T.hv (gF args.length i) (rG _ _) (rH _ _) k hk
  have h2 := T.hv args rfl na k hk
  rw [h1, ← h2]; rfl) hi
 generalize byK F.code (rI F.code (pG 2 (cY args args) F.code F.code.length) (rV L (gF L.length 0) (List.replicate F.code.length (yC 2)) L.length) F.code.length 0) 2 args.length F.code.length = B at *
 apply List.ext_getElem
 ·rw [List.length_map, List.length_map, List.length_range, hB.1]
 ·intro i h1 h2
  rw [List.length_map, List.length_range] at h2
  rw [List.getElem_map, List.getElem_map, List.getElem_range, T.bJ6 i, ← hst i h2, pX, List.getD_eq_getElem?_getD (l := B), List.getElem?_eq_getElem (by rw [hB.1]; exact h2)]; rfl
open Go.Proofs
set_option linter.unusedVariables false
set_option linter.unusedSimpArgs false
open Go.Proofs
set_option linter.unusedVariables false
set_option linter.unusedSimpArgs false
open Go.Proofs
set_option linter.unusedVariables false
set_option linter.unusedSimpArgs false
open Go.Proofs
set_option linter.unusedVariables false
set_option linter.unusedSimpArgs false
open Go.Proofs
set_option linter.unusedVariables false
set_option linter.unusedSimpArgs false
open Go.Proofs
set_option linter.unusedVariables false
set_option linter.unusedSimpArgs false
open Go.Proofs
set_option linter.unusedVariables false
set_option linter.unusedSimpArgs false
open Go.Proofs
set_option linter.unusedVariables false
set_option linter.unusedSimpArgs false
open Go.Proofs
set_option linter.unusedVariables false
set_option linter.unusedSimpArgs false
open Go.Proofs
set_option linter.unusedVariables false
set_option linter.unusedSimpArgs false
open Go.Proofs
set_option linter.unusedVariables false
set_option linter.unusedSimpArgs false
open Go.Proofs
set_option linter.unusedVariables false
set_option linter.unusedSimpArgs false
open Go.Proofs
set_option linter.unusedVariables false
set_option linter.unusedSimpArgs false
theorem a5F (j : eI) (k : Int) (hs : j.s ≤ 1048576) : fL Tryz.prog 11 [.agg j.c, I k] (.iI [.agg (l8 j k).1.c, I (l8 j k).2]) := QA.aQV (bAB j k hs) (fun _ he => e8.aCB he) (vU [] [I (l8 j k).2])
set_option maxRecDepth 100000
open Go.Proofs
set_option linter.unusedVariables false
set_option linter.unusedSimpArgs false
theorem a0G (j : eI) (hs : j.s ≤ 1048576) : fL Tryz.prog 13 [.agg j.c] (.iI [I (lQ j).1, ints (lQ j).2.1, I (lQ j).2.2]) := QS.aQV (a3N j hs) (fun y hy => OS.qW (c := fun n => [I n]) (fun _ _ q => yW q) hy) (vU [I (lQ j).1] [I (lQ j).2.2])
theorem aM7 (j : eI) (hs : j.s ≤ 1048576) : fL Tryz.prog 14 [.agg j.c] (.iI [I (lQ j).1, ints (lQ j).2.1, I (lQ j).2.2]) := QS.aQV (aPD j hs) (fun y hy => OS.qW (c := fun n => [I n]) (fun _ _ q => yW q) hy) (vU [I (lQ j).1] [I (lQ j).2.2])
theorem aPW (j : eI) (k : Int) (hs : j.s ≤ 1048576) : fL Tryz.prog 17 [.agg j.c, I k] (.iI [.agg (l8 j k).1.c, I (l8 j k).2]) := QA.aQV (aQ8 j k hs) (fun _ he => e8.aCB he) (vU [] [I (l8 j k).2])
theorem aUM {n : Nat} : ∀ (l : List e8) (v : Int) (g : List Int), (∀ p ∈ l, p.aS = 0 → p.iO.length = n) → g.length = n → (sP l v g).2.1.length ≤ n
 | [], v, g, _, hg => by rw [sP]; exact Nat.le_of_eq hg
 |p :: l, v, g, h, hg => by
  rw [sP]
  split
  ·rename_i hc
   exact aUM l _ _ (fun q hq => h q (.tail _ hq)) (by rw [nM (by rw [h p (.head _) hc, hg]), hg])
  ·exact Nat.zero_le _
theorem aR4 {j : eI} {k : Nat} (hk : k < j.cB.length) : (gW j).drop k = gT j k :: (gW j).drop (k + 1) := by
 have hl : (gW j).length = j.cB.length := by simp [gW]
 rw [List.drop_eq_getElem_cons (by omega)]
 congr 1
 simp [gW]
theorem aV4 {h : aB} {n : Nat} {l : List Int} {k : Nat} (hk : k = l.length) (hn : h n = some (sS l)) : View h (.os n 1 0 k) (ints l) := by
 have h1 := View.ovD (h := h) (d := ints l) (OV.sl n 1 (l.map fun x => [.v (I x)])) (OS.qW (c := fun n => [I n]) (R := oP I) (fun _ _ q => yW q) (OS.mk (uZ l))) (fun p hp => by
  rw [OV.iJ, oW, mS, List.mem_singleton] at hp
  rw [hp]; exact hn)
 rw [OV.vA, List.length_map] at h1
 rw [hk]; exact h1
theorem a0H {j : eI} (hj : j.ok) {k : Nat} (hk : k < j.cB.length) (hc : (gT j k).aS = 0) : ∃ L F, qC j.aZ j.cT (cQ j k) = (⟨(cQ j k).length, F.code, F.guards, L⟩, 0) ∧ a0F j.aZ j.cT (cQ j k) L F ∧ (gT j k).iO = ((List.range (cQ j k).length).map fun i => (jQ j.aZ j.cT (cQ j k) i).getD 0 0).take j.cE.toNat := by
 obtain ⟨t1, t2, t3, t4, t5, t6, t7, t8⟩ := pE hj hk
 obtain ⟨G, eG, hf, hG, ok⟩ := pT hj
 have h := (aFX hj.1 j.cT hf (cQ j k) t2 t3).2
 have he := aCD j.aZ 1 j.cT ((cQ j k).map fun n => [n])
 cases hX : aH0 j.aZ j.cT (cQ j k) with
 |error c =>
  rw [gT] at hc
  cases hY : vC j.aZ 1 j.cT ((cQ j k).map fun n => [n]) with
  |error d =>
   rw [hY] at hc he
   have h6 := he d rfl
   have h0 : d = 0 := hc
   omega
  |ok q => rw [hX, hY] at h; exact h.elim
 |ok q =>
  obtain ⟨⟨L, F⟩, u⟩ := q
  have T := aV3 hj.1 hf t2 t4 t3 hX
  refine ⟨L, F, by rw [qC, hX], T, ?_⟩
  have hm : 0 < (j.aZ.outs j.cT).length := by rw [← T.ll]; exact T.lo
  cases hY : vC j.aZ 1 j.cT ((cQ j k).map fun n => [n]) with
  |error d => rw [hX, hY] at h; exact h.elim
  |ok w => rw [gT, hY, bIX hm]
def aI3 (P : e8) : bP := .row 3 [[.v (I P.aS), .v (I P.kK), .v (ints P.iO)]]
def aPX (j : eI) : bP := .row 5 [[.v (eZ 3 aT.c j.aZ.aI), .v (I j.cT), .v (I j.cE), .v (ints j.iN), .v (eZ 1 (fun x => [ints x]) j.cB)]]
@[go_sem] def a0I : List Nat := [0, 2, 3, 4, 5, 6, 7, 8, 9, 10, 11, 12, 13, 14, 15, 17, 18, 19, 20, 21, 22, 23, 25, 58, 66, 88, 91, 156, 164]
@[go_sem] def ib4 : List Nat := [96, 105]
@[go_sem] def mk4 : Marks := fun id => match id with | 19 => ([2, 3, 5, 8, 9], (.op 0 (.op 1 (.op 4 (.op 6 (.op 2 (.op 5 (.op 7 (.op 8 (.op 3 (.op 9 (.op 10 .nil))))))))))), [(5, 3), (8, 3)]) | 24 => ([8, 10, 16, 19, 20], (.op 0 (.op 1 (.op 2 (.op 3 (.op 4 (.op 5 (.op 6 (.op 7 (.op 9 (.alt 8 (.op 10 (.op 11 (.op 12 (.op 13 (.op 14 (.op 15 (.op 18 (.op 16 (.op 17 (.op 19 (.op 20 (.op 21 (.op 22 .nil))))))))))))) 10 (.op 8 (.op 11 (.op 12 (.op 13 (.op 14 (.op 15 (.op 18 (.op 16 (.op 17 (.op 19 (.op 20 (.op 21 (.op 22 .nil))))))))))))))))))))))), []) | 30 => ([5, 7, 10, 11, 13], (.op 0 (.op 1 (.op 2 (.op 3 (.op 4 (.op 6 (.op 8 (.op 5 (.op 7 (.op 9 (.op 10 (.op 11 (.op 12 (.op 13 .nil)))))))))))))), []) | _ => ([], .nil, [])
set_option maxHeartbeats 8000000 in
theorem a0J {c : List Int} (hc : ∀ x ∈ c, InB x) : fL Tryz.prog 4 [.sl 1 (c.map fun n => [.int .u8 n]) false] (.bool true) := by
 have sQ := bJY c
 refine fT 192 a0I ib4 mk4 mix Tryz.func4 rfl (by kernel_rfl) (by simp) fun h => ?_
 simp -dsimp -implicitDefEqProofs only [go_sem, ↓reduceIte, Tryz.f4]
 first | refine aH.mk (sQ) ?_ | refine aF.mk (sQ) ?_ | refine aH.bS (sQ) ?_ | refine aF.mk (bM.eQ (sQ)) ?_
 simp -dsimp -implicitDefEqProofs only [go_sem, ↓reduceIte, Tryz.f4]
 intro n1
 have hlc : c.length ≤ 4096 := by omega
 refine aH.fG (a5E hc hlc) ?_
 rintro r_ h' ⟨j, ⟨hj, hjs⟩, rfl, rfl⟩
 obtain ⟨G, eG, hf, hG, ok⟩ := pT hj
 obtain ⟨js1, js2, js3⟩ := aA5 hj
 have hs' := j.tI
 simp only [kT] at hs'
 have hT := a0G j (by omega)
 have hTs := aM7 j (by omega)
 have hV := aHK j (by omega)
 rw [decide_eq_true hj] at hV
 have htot := aD5 hj
 simp only [eI.aU] at hT hTs hV
 rw [eI.aU]
 simp -dsimp -implicitDefEqProofs only [go_sem, ↓reduceIte, Tryz.f4]
 intro n5 q5
 rw [aK]
 first | refine aH.mk (hT) ?_ | refine aF.mk (hT) ?_ | refine aH.bS (hT) ?_ | refine aF.mk (bM.eQ (hT)) ?_
 simp -dsimp -implicitDefEqProofs only [go_sem, ↓reduceIte, Tryz.f4, aM]
 first | refine aH.mk (hTs) ?_ | refine aF.mk (hTs) ?_ | refine aH.bS (hTs) ?_ | refine aF.mk (bM.eQ (hTs)) ?_
 simp -dsimp -implicitDefEqProofs only [go_sem, ↓reduceIte, Tryz.f4, aM]
 have hpl := aD4 hj
 have htl : (lQ j).2.1.length ≤ 12 := by
  rw [htot]
  have := aUM (n := j.cE.toNat) (gW j) 0 (List.replicate j.cE.toNat 0) (fun p hp hc => by have := (hpl p hp hc).1; omega) (by simp)
  omega
 have hfs := aRV (lQ j).2.1 (by omega)
 generalize hTT : lQ j = TT at *
 obtain ⟨T1, T2, T3⟩ := TT
 simp only at hfs htl
 first | refine aH.mk (hfs) ?_ | refine aF.mk (hfs) ?_ | refine aH.bS (hfs) ?_ | refine aF.mk (bM.eQ (hfs)) ?_
 simp -dsimp -implicitDefEqProofs only [go_sem, ↓reduceIte, Tryz.f4, aM]
 first | refine aH.mk (hV) ?_ | refine aF.mk (hV) ?_ | refine aH.bS (hV) ?_ | refine aF.mk (bM.eQ (hV)) ?_
 simp -dsimp -implicitDefEqProofs only [go_sem, ↓reduceIte, Tryz.f4, aM]
 refine ⟨by decide, js1, Int.le_refl _, by omega, by omega, fun n0 hn0 => ?_⟩
 have d0 : ¬ n0 = n5 := by grind
 have z0 : h' n0 = none := by grind
 have aUN : ¬ n0 = n5 := d0
 have aUO : ¬ n5 = n0 := Ne.symm aUN
 have nI : (n0 = n5) = False := eq_false aUN
 have nJ : (n5 = n0) = False := eq_false aUO
 have e0 : bP.row 1 ((List.replicate j.cE.toNat [aD.int IntKind.i64 0]).map (List.map .v)) = sS (List.replicate j.cE.toNat 0) := by rw [sS]; simp [List.map_replicate]
 rw [e0]
 have aL6 : ∀ X Y, h'.le (aR (aR h' n5 X) n0 Y) := fun X Y => aB.aY z0 (aB.aY q5 (aB.le_refl _))
 refine cS (keep := a0I) (ib := ib4) (mk := mk4) mix (by kernel_rfl) (fun x : Nat × Int × List Int => [(3, .op n5 5 0 0), (4, I T1), (5, ints T2), (6, I T3), (10, I x.2.1), (11, .os n0 1 0 j.cE.toNat), (12, I x.1)]) (fun x => aR (aR h' n5 (aPX j)) n0 (sS x.2.2)) (fun x => x.1 ≤ j.cB.length ∧ sP ((gW j).drop x.1) x.2.1 x.2.2 = (T1, T2, T3) ∧ x.2.2.length = j.cE.toNat) (fun x => j.cB.length - x.1) (0, 0, List.replicate j.cE.toNat 0) ⟨by simp [cV, bZ], aB.le_refl _, Nat.zero_le _, by rw [List.drop_zero]; exact htot.symm, by simp⟩ ?_
 rintro ⟨k, v, g⟩ ⟨hk, hsum, hgl⟩
 simp only at hk hsum hgl ⊢
 rcases Nat.lt_or_ge k j.cB.length with hlt | hge
 ·rw [aR4 hlt] at hsum
  have hko : aA3 j k := ⟨by omega, by omega⟩
  have hW := a5F j k (by omega)
  have hWs := aPW j k (by omega)
  rw [aA4 hj hko] at hW hWs
  simp only [Int.toNat_natCast] at hW hWs
  have hps := aPB hj hlt
  have hpg := aVN hj hlt
  obtain ⟨t1, t2, t3, t4, t5, t6, t7, t8⟩ := pE hj hlt
  have hfp := a45 (gT j k)
  have hpr := a0H hj hlt
  have bTX : (gT j k).iO.length ≤ 12 := by
   by_cases hc : (gT j k).aS = 0
   ·have := (hps hc).1; omega
   ·rw [gT] at hc ⊢
    split at hc
    ·exact Nat.zero_le _
    ·exact absurd rfl hc
  generalize gT j k = P at *
  simp only [e8.aU, eI.aU] at hW hWs hfp
  simp -dsimp -implicitDefEqProofs only [go_sem, ↓reduceIte, Tryz.f4, nI, nJ, aA, aPX, hlt]
  refine fun _ => aH.mk hW ?_
  simp -dsimp -implicitDefEqProofs only [go_sem, ↓reduceIte, Tryz.f4]
  refine fun n13 bTY => ?_
  have a13 : ¬ n13 = n5 := by grind
  have b13 : ¬ n13 = n0 := by grind
  have z13 : h' n13 = none := by grind
  have aPY : ¬ n13 = n5 := a13
  have aPZ : ¬ n5 = n13 := Ne.symm aPY
  have mO : (n13 = n5) = False := eq_false aPY
  have mP : (n5 = n13) = False := eq_false aPZ
  have aP0 : ¬ n13 = n0 := b13
  have a0K : ¬ n0 = n13 := Ne.symm aP0
  have lI : (n13 = n0) = False := eq_false aP0
  have lJ : (n0 = n13) = False := eq_false a0K
  rw [aK]
  simp -dsimp -implicitDefEqProofs only [go_sem, ↓reduceIte, Tryz.f4, nI, lJ, nJ, mP, lI, mO, aA]
  refine aH.mk hWs ?_
  simp -dsimp -implicitDefEqProofs only [go_sem, ↓reduceIte, Tryz.f4]
  refine fun n15 bT1 => ?_
  have a15 : ¬ n15 = n5 := by grind
  have b15 : ¬ n15 = n0 := by grind
  have c15 : ¬ n15 = n13 := by grind
  have z15 : h' n15 = none := by grind
  have aP1 : ¬ n15 = n5 := a15
  have aP2 : ¬ n5 = n15 := Ne.symm aP1
  have rW : (n15 = n5) = False := eq_false aP1
  have rX : (n5 = n15) = False := eq_false aP2
  have aP3 : ¬ n15 = n0 := b15
  have a0L : ¬ n0 = n15 := Ne.symm aP3
  have rY : (n15 = n0) = False := eq_false aP3
  have rZ : (n0 = n15) = False := eq_false a0L
  have aKA : ¬ n15 = n13 := c15
  have aV5 : ¬ n13 = n15 := Ne.symm aKA
  have pV : (n15 = n13) = False := eq_false aKA
  have pW : (n13 = n15) = False := eq_false aV5
  rw [aK]
  simp -dsimp -implicitDefEqProofs only [go_sem, ↓reduceIte, Tryz.f4, nI, lJ, rZ, nJ, mP, rX, lI, mO, pW, rY, rW, pV, aA]
  have bJ8 : ∀ X Y Z W, h'.le (aR (aR (aR (aR h' n5 X) n0 Y) n13 Z) n15 W) := fun X Y Z W => aB.aY z15 (aB.aY z13 (aL6 _ _))
  refine aH.mk (hfp (by omega)) ?_
  simp -dsimp -implicitDefEqProofs only [go_sem, ↓reduceIte, Tryz.f4, nI, lJ, rZ, nJ, mP, rX, lI, mO, pW, rY, rW, pV, aA, t1]
  refine ⟨fun hc => ⟨?_, bJ8 _ _ _ _⟩, fun hc => ?_⟩
  ·rw [sP, if_neg hc] at hsum
   cases hsum; rfl
  rw [sP, if_pos hc] at hsum
  obtain ⟨o9, hg2⟩ := hps hc
  refine ⟨by decide, hlt, ?_⟩
  have hA : cQ j k = j.iN ++ j.cB.getD k [] := rfl
  generalize hterm : j.cB.getD k [] = term at *
  generalize cQ j k = A at *
  have hAl : A.length = j.iN.length + term.length := by rw [hA, List.length_append]
  apply aEC
  case m =>
   intro key
   refine ⟨by decide, fun e1 => ⟨by decide, fun e2 => ⟨ints A, aR (aR (aR (aR h' n5 (aPX j)) n0 (sS g)) n13 (aI3 P)) n15 (aI3 P), Shift.of ?_ (aB.le_refl _), key.get⟩, fun e2 => ⟨by omega, by omega, fun n ⟨u1, u2, u3, u4, u5⟩ => ⟨ints A, aR (aR (aR (aR h' n5 (aPX j)) n0 (sS g)) n13 (aI3 P)) n15 (aI3 P), ?_, key.get⟩⟩⟩, fun e1 => ⟨by omega, by omega, fun n ⟨u1, u2, u3, u4, u5⟩ => ⟨?_, by decide, Nat.le_refl _, by omega, by omega, fun b ⟨w0, w1, w2, w3, w4, w5⟩ => ⟨ints A, aR (aR (aR (aR h' n5 (aPX j)) n0 (sS g)) n13 (aI3 P)) n15 (aI3 P), ?_, key.get⟩⟩⟩⟩
   ·have : A = [] := by rw [hA, List.map_eq_nil_iff.1 e1, List.map_eq_nil_iff.1 e2]; rfl
    rw [this]; exact Sub.loose _ _ _
   ·have hA2 : A = term := by rw [hA, List.map_eq_nil_iff.1 e1]; rfl
    rw [← hA2]
    exact fH A (by rw [aA _ _ _ _ u1, aA _ _ _ _ u2, aA _ _ _ _ u3, aA _ _ _ _ u4]; exact u5) (aB.le_refl _) rfl
   ·rw [aA _ _ _ _ (Ne.symm u4), aA _ _ _ _ aP2, aA _ _ _ _ aPZ, aA _ _ _ _ aUO, aG]
   ·refine fH A (by rw [aA _ _ _ _ w1, aA _ _ _ _ w2, aA _ _ _ _ w3, aA _ _ _ _ w4]; exact w5) ?_ hAl.symm
    have hrow : List.take j.iN.length ((j.iN.map fun n => [I n]).map (List.map Cell.v)) ++ (term.map fun n => [I n]).map (List.map .v) = (A.map fun n => [I n]).map (List.map .v) := by
     rw [List.take_of_length_le (by simp), hA, List.map_append, List.map_append]
    rw [hrow]
    refine aB.hZ fun q => ?_
    by_cases e : q = n
    ·rw [e]; left; rw [aA _ _ _ _ u1, aA _ _ _ _ u2, aA _ _ _ _ u3, aA _ _ _ _ u4]; exact u5
    ·rw [aA _ _ _ _ e, aA _ _ _ _ e]; exact .inr rfl
  case t =>
  obtain ⟨L, F, r2, T, hgr⟩ := hpr hc
  have hR := bAX hj.1 (by omega) j.cT hf A t2 t4 t3
  rw [r2] at hR
  simp only [jS.aU] at hR
  simp -dsimp -implicitDefEqProofs only [go_sem, ↓reduceIte, Tryz.f4, nI, lJ, rZ, nJ, mP, rX, lI, mO, pW, rY, rW, pV, aA, aPX]
  refine aH.mk hR ?_
  simp -dsimp -implicitDefEqProofs only [go_sem, ↓reduceIte, Tryz.f4]
  refine fun n18 bT7 => ?_
  have a18 : ¬ n18 = n5 := by grind
  have b18 : ¬ n18 = n0 := by grind
  have z18 : h' n18 = none := by grind
  have aP4 : ¬ n18 = n5 := a18
  have a0M : ¬ n5 = n18 := Ne.symm aP4
  have zH : (n18 = n5) = False := eq_false aP4
  have zI : (n5 = n18) = False := eq_false a0M
  have c18 : ¬ n18 = n13 := by grind
  have d18 : ¬ n18 = n15 := by grind
  have aP5 : ¬ n18 = n0 := b18
  have a0N : ¬ n0 = n18 := Ne.symm aP5
  have zJ : (n18 = n0) = False := eq_false aP5
  have zK : (n0 = n18) = False := eq_false a0N
  have aKB : ¬ n18 = n13 := c18
  have aV6 : ¬ n13 = n18 := Ne.symm aKB
  have wJ : (n18 = n13) = False := eq_false aKB
  have wK : (n13 = n18) = False := eq_false aV6
  have aKC : ¬ n18 = n15 := d18
  have aV7 : ¬ n15 = n18 := Ne.symm aKC
  have wL : (n18 = n15) = False := eq_false aKC
  have wM : (n15 = n18) = False := eq_false aV7
  have hgo : G.aQ.length = L.length := by
   have h1 := T.ll
   rw [aE.outs, eG] at h1
   exact h1.symm
  rw [aK]
  have hgL : L.length ≤ 12 := by
   obtain ⟨G', eG', hO, _⟩ := kR hj.1 hf
   rw [eG] at eG'
   cases eG'
   omega
  have hL0 : 0 < L.length := T.lo
  have hr0 : (List.replicate L.length [aD.int IntKind.i64 0])[0]? = some [aD.int IntKind.i64 0] := by rw [List.getElem?_replicate, if_pos hL0]
  simp -dsimp -implicitDefEqProofs only [go_sem, ↓reduceIte, Tryz.f4, nI, lJ, rZ, zK, nJ, mP, rX, zI, lI, mO, pW, wK, rY, rW, pV, wM, zJ, zH, wJ, wL, aA, eG, hf.1, aT.aU, hgo]
  refine ⟨hf.2, fun _ => ⟨by decide, Nat.le_refl _, by omega, by omega, fun n20 bUB => ⟨by omega, ?_⟩⟩⟩
  have a20 : ¬ n20 = n5 := by grind
  have b20 : ¬ n20 = n0 := by grind
  have z20 : h' n20 = none := by grind
  have c20 : ¬ n20 = n13 := by grind
  have d20 : ¬ n20 = n15 := by grind
  have f20 : ¬ n20 = n18 := by grind
  have aP6 : ¬ n20 = n5 := a20
  have a0O : ¬ n5 = n20 := Ne.symm aP6
  have aC8 : (n20 = n5) = False := eq_false aP6
  have aC9 : (n5 = n20) = False := eq_false a0O
  have aP7 : ¬ n20 = n0 := b20
  have a0P : ¬ n0 = n20 := Ne.symm aP7
  have aDA : (n20 = n0) = False := eq_false aP7
  have aDB : (n0 = n20) = False := eq_false a0P
  have aKD : ¬ n20 = n13 := c20
  have aV8 : ¬ n13 = n20 := Ne.symm aKD
  have aAB : (n20 = n13) = False := eq_false aKD
  have aAC : (n13 = n20) = False := eq_false aV8
  have aKE : ¬ n20 = n15 := d20
  have aV9 : ¬ n15 = n20 := Ne.symm aKE
  have aAD : (n20 = n15) = False := eq_false aKE
  have aAE : (n15 = n20) = False := eq_false aV9
  have aKF : ¬ n20 = n18 := f20
  have aWA : ¬ n18 = n20 := Ne.symm aKF
  have aAF : (n20 = n18) = False := eq_false aKF
  have aAG : (n18 = n20) = False := eq_false aWA
  rw [show (Int.toNat 0) = 0 from rfl, hr0]
  simp -dsimp -implicitDefEqProofs only [go_sem, ↓reduceIte, Tryz.f4, nI, lJ, rZ, zK, aDB, nJ, mP, rX, zI, aC9, lI, mO, pW, wK, aAC, rY, rW, pV, wM, aAE, zJ, zH, wJ, wL, aAG, aDA, aC8, aAB, aAD, aAF, aA, hL0, aK]
  have hw0 : bP.row 1 (((List.replicate L.length [aD.int IntKind.i64 0]).map (List.map Cell.v)).set 0 [Cell.v (aD.int IntKind.i64 1)]) = .row 1 (((gF L.length 0).map fun n => [I n]).map (List.map .v)) := by
   rw [gF]; simp [List.map_set, List.map_replicate]
  have hTR := aPP ⟨A.length, F.code, F.guards, L⟩ (inp := A.length) rfl T.ok T.ins A (gF L.length 0) ⟨rfl, t2⟩ ⟨rG _ _, rH _ _⟩ T.one (fun i c ec h6 => by
   obtain ⟨w1, w2, w3⟩ := T.nz i c ec h6
   rw [T.hv A rfl t2 c.fB.toNat (by omega)]; exact w3)
  simp only [jS.aU] at hTR
  rw [aR3 t2 T] at hTR
  generalize hB : (List.range A.length).map (fun i => (jQ j.aZ j.cT A i).getD 0 0) = B at *
  have hBl : B.length = A.length := by rw [← hB]; simp
  rw [hw0]
  refine aH.a6Z (es := (gF L.length 0).map fun n => [I n]) hTR (by simp [fZ, fY, rG]) (by simp [lV, aD.fE, List.take_of_length_le, rG]) ?_
  have hsB : j.cE ≤ (B.length : Int) := by omega
  have hsA : j.cE ≤ (A.length : Int) := by omega
  simp -dsimp -implicitDefEqProofs only [go_sem, ↓reduceIte, Tryz.f4, nI, lJ, rZ, zK, aDB, nJ, mP, rX, zI, aC9, lI, mO, pW, wK, aAC, rY, rW, pV, wM, aAE, zJ, zH, wJ, wL, aAG, aDA, aC8, aAB, aAD, aAF, aA, aK, Option.toArray, aI3, hBl, hsA, js1]
  have hPl : P.iO.length ≤ 12 := by omega
  have hf6 := aRV P.iO (by omega)
  rw [← List.map_take, ← hgr]
  apply aEC
  case m =>
   intro key
   exact ⟨fun x1 x2 => key.get, fun x1 x2 => key.get⟩
  case t =>
  refine ⟨js1, aH.mk hf6 ?_⟩
  simp -dsimp -implicitDefEqProofs only [go_sem, ↓reduceIte, Tryz.f4, nI, lJ, rZ, zK, aDB, nJ, mP, rX, zI, aC9, lI, mO, pW, wK, aAC, rY, rW, pV, wM, aAE, zJ, zH, wJ, wL, aAG, aDA, aC8, aAB, aAD, aAF, aA, aK]
  first | refine aH.mk (eC v P.kK) ?_ | refine aF.mk (eC v P.kK) ?_ | refine aH.bS (eC v P.kK) ?_ | refine aF.mk (bM.eQ (eC v P.kK)) ?_
  simp -dsimp -implicitDefEqProofs only [go_sem, ↓reduceIte, Tryz.f4, nI, lJ, rZ, zK, aDB, nJ, mP, rX, zI, aC9, lI, mO, pW, wK, aAC, rY, rW, pV, wM, aAE, zJ, zH, wJ, wL, aAG, aDA, aC8, aAB, aAD, aAF, aA, aK]
  have hgP : P.iO.length = g.length := by omega
  refine cS (keep := a0I) (ib := ib4) (mk := mk4) mix (by kernel_rfl) (fun i : Nat => [(3, .op n5 5 0 0), (4, I T1), (5, ints T2), (6, I T3), (10, I ((v + P.kK) % 1000003)), (11, .os n0 1 0 j.cE.toNat), (12, I k), (13, .op n13 3 0 0), (23, I i)]) (fun i => aR (aR (aR h' n5 (aPX j)) n0 (sS (aDZ g P.iO i))) n13 (aI3 P)) (fun i => i ≤ g.length) (fun i => g.length - i) 0 ⟨by simp [cV, bZ], by rw [aJJ]; exact (by repeat' (first | exact aB.le_refl _ | refine aB.hZ ?_ | refine aB.aY (by first | assumption | (rw [aA _ _ _ _ (by assumption)]; assumption) | (rw [aA _ _ _ _ (by assumption), aA _ _ _ _ (by assumption)]; assumption) | (rw [aA _ _ _ _ (by assumption), aA _ _ _ _ (by assumption), aA _ _ _ _ (by assumption)]; assumption)) ?_)), Nat.zero_le _⟩ ?_
  intro i hi
  rcases Nat.lt_or_ge i g.length with kJ | aE6
  ·have eg := aOU hgP kJ
   have el := aOT hgP i
   have eb : (P.iO)[i]? = some ((P.iO)[i]'(by omega)) := List.getElem?_eq_getElem (by omega)
   have hls : i < j.cE.toNat := by omega
   simp -dsimp -implicitDefEqProofs only [go_sem, ↓reduceIte, Tryz.f4, nI, lJ, nJ, mP, lI, mO, aA, aK, eg, el, eb, hls, ← hgl, kJ, sS, aI3]
   refine fun _ => ⟨by omega, ?_⟩
   first | refine aH.mk (eC g[i] ((P.iO)[i]'(by omega))) ?_ | refine aF.mk (eC g[i] ((P.iO)[i]'(by omega))) ?_ | refine aH.bS (eC g[i] ((P.iO)[i]'(by omega))) ?_ | refine aF.mk (bM.eQ (eC g[i] ((P.iO)[i]'(by omega)))) ?_
   simp -dsimp -implicitDefEqProofs only [go_sem, ↓reduceIte, Tryz.f4, nI, lJ, nJ, mP, lI, mO, aA, aK, eg, el, eb, hls, ← hgl, kJ]
   refine ⟨i + 1, by rw [IntWalk.i64_in _ (by omega)]; rfl, ?_, by omega, by omega⟩
   rw [← aOV hgP kJ, sS, aI3, ← vB I]
   refine fun q => .inr ?_
   by_cases e1 : q = n13
   ·rw [e1]; simp [c6, lJ, lI]
   ·by_cases e2 : q = n0
    ·rw [e2]; simp [c6, lJ, lI]
    ·simp [c6, e1, e2]
  ·have hi' : i = g.length := by omega
   subst hi'
   simp -dsimp -implicitDefEqProofs only [go_sem, ↓reduceIte, Tryz.f4, nI, lJ, nJ, mP, lI, mO, ← hgl, aK, Nat.lt_irrefl, Int.lt_irrefl]
   rw [aOS hgP]
   exact fun _ => ⟨(k + 1, (v + P.kK) % 1000003, j5 g P.iO), ⟨rfl, by rw [IntWalk.i64_in _ (by omega)]; rfl⟩, (by repeat' (first | exact aB.le_refl _ | refine aB.hZ ?_ | refine aB.aY (by first | assumption | (rw [aA _ _ _ _ (by assumption)]; assumption) | (rw [aA _ _ _ _ (by assumption), aA _ _ _ _ (by assumption)]; assumption) | (rw [aA _ _ _ _ (by assumption), aA _ _ _ _ (by assumption), aA _ _ _ _ (by assumption)]; assumption)) ?_)), ⟨by omega, hsum, nM hgP⟩, by omega⟩
 ·have hk' : k = j.cB.length := by omega
  subst hk'
  rw [List.drop_eq_nil_of_le (by simp [gW]), sP] at hsum
  cases hsum
  simp -dsimp -implicitDefEqProofs only [go_sem, ↓reduceIte, Tryz.f4, nI, nJ, aA, aPX, Nat.lt_irrefl, Int.lt_irrefl]
  refine fun _ => aH.bFL hfs (p8.cons (aV4 hgl.symm (aG _ _ _)) (p8.cons (View.same _ _) p8.nil)) rfl ?_
  simp -dsimp -implicitDefEqProofs only [go_sem, ↓reduceIte, Tryz.f4]
  exact aL6 _ _
open Go.Proofs
set_option linter.unusedVariables false
set_option linter.unusedSimpArgs false
theorem bB6 {P : Program} {n : Nat} {t : TypeId} {xs : List aD} (hu : P.underlying t = some (.int .u8)) (h : Dat P n t xs) : ∃ i : Int, xs = [.int .u8 i] ∧ InB i := by
 match n, h with
 |0, h => exact h.elim
 |n + 1, h =>
  simp only [Dat, hu] at h
  obtain ⟨i, rfl, hw⟩ := h
  refine ⟨i, rfl, ?_⟩
  have h1 : IntKind.min .u8 = 0 := by decide
  have h2 : IntKind.max .u8 = 255 := by decide
  simp [Lit.wf, IntKind.has, h1, h2] at hw
  unfold InB
  omega
theorem aUP {α : Type} {c : α → List aD} {w : α → Prop} : ∀ {es : List (List aD)}, (∀ y ∈ es, ∃ x, y = c x ∧ w x) → ∃ l : List α, es = l.map c ∧ ∀ x ∈ l, w x
 | [], _ => ⟨[], rfl, by simp⟩
 |e :: es, h => by
  obtain ⟨x, rfl, hx⟩ := h _ List.mem_cons_self
  obtain ⟨l, rfl, hl⟩ := aUP fun y hy => h y (List.mem_cons_of_mem _ hy)
  refine ⟨x :: l, rfl, fun y hy => ?_⟩
  rcases List.mem_cons.1 hy with rfl | hy
  ·exact hx
  ·exact hl y hy
theorem aWB {P : Program} {n sz : Nat} {t e : TypeId} {α : Type} {c : α → List aD} {w : α → Prop} {xs : List aD} (hu : P.underlying t = some (.slice e)) (hc : P.cellsOf e = sz) (h : Dat P n t xs)
  (hx : ∀ m y, m < n → Dat P m e y → ∃ x, y = c x ∧ w x) : ∃ l : List α, xs = [eZ sz c l] ∧ ∀ x ∈ l, w x := by
 match n, h with
 |0, h => exact h.elim
 |n + 1, h =>
  simp only [Dat, hu] at h
  obtain ⟨es, rfl, hes⟩ := h
  obtain ⟨l, rfl, hl⟩ := aUP fun y hy => hx n y (by omega) (hes y hy)
  exact ⟨l, by rw [hc], hl⟩
theorem bB7 : Tryz.prog.cellsOf 5 = 1 := by kernel_rfl
def bJ9 : List TypeId := [5, 22]
theorem a5G : aU3 Tryz.prog bJ9 = true := by kernel_rfl
end Go.Hl

/-
  Contracts of functions and laws of the layer over the walk.
-/
import Derived.Test.YtgkipnacdihfnaaGreatVvH
import Derived.Test.YtgkipnacdihfnaaGreatVvD
import Derived.Test.YtgkipnacdihfnaaGreatVvA
import Derived.Test.YtgkipnacdihfnaaGreatVvG
import Derived.Test.YtgkipnacdihfnaaGreatVvB
namespace Go.Hl
set_option maxRecDepth 100000
open Go.Proofs
set_option linter.unusedVariables false
set_option linter.unusedSimpArgs false
theorem fM.a9Z {B g : aA} {n : Nat} {o : cB} (w : fM B [(n, o)] g) : g = aT B n o := funext fun m => by
 by_cases e : m = n
 ·subst e
  rw [aG]; exact w.pN (m, o) (.head _)
 ·rw [aC _ _ _ _ e]
  exact w.upto m (by simp [bP, e])
@[go_sem] def a90 : List Nat := [0, 1, 4, 5, 6, 10, 17]
@[go_sem] def bM2 : List Nat := []
@[go_sem] def bM3 : Marks := fun id => match id with | 6 => ([3, 4, 7, 9], (.op 0 (.op 1 (.op 2 (.op 5 (.op 6 (.op 7 (.op 3 (.op 4 (.op 8 (.op 9 .nil)))))))))), [(7, 3), (7, 4)]) | _ => ([], .nil, [])
theorem aZH {ns : Nat} {c : List Int} (hc : ∀ x ∈ c, InB x) (hl : c.length ≤ 4096) (pt : List Int) (np : fG pt) (hpl : pt.length ≤ 1000) {B : aA} (hB : B ns = none) {a : Nat} (ha : a ≤ 700000000) {sd : Int} :
  fF Tryz.prog 24 [.op ns 3 0 0, ints pt] (aT B ns (iM c a sd)) fun r h' => ∃ q a' sd', q.length = pt.length ∧ fG q ∧ r = ints q ∧ h' = aT B ns (iM c a' sd') := by
 refine gK 30 a90 bM2 bM3 mix Tryz.func24 rfl (by kernel_rfl) (by simp) ?_
 simp -dsimp -implicitDefEqProofs only [go_sem, ↓reduceIte, Tryz.f24]
 refine aH.wn1 (aQJ pt (by omega)) hB ?_
 rintro r_ l_ g ⟨y, hy, rfl, rfl⟩ w z
 simp -dsimp -implicitDefEqProofs only [go_sem, ↓reduceIte, Tryz.f24]
 refine aH.eM (aL1 (a := a) (sd := sd) hc hl (by omega) 3 (by omega) (aG ..)) ?_
 rintro r_ h' ⟨b, a1, sd1, rfl, ha1, rfl⟩
 rw [aM]
 cases b
 ·simp -dsimp -implicitDefEqProofs only [go_sem, ↓reduceIte, Tryz.f24]
  rcases hy with ⟨hnil, rfl⟩ | ⟨n, es, rfl, hor⟩
  ·subst hnil
   simp -dsimp -implicitDefEqProofs only [go_sem, ↓reduceIte, Tryz.f24, OV.aKM]
   exact ⟨fun q => absurd q (by decide), fun _ => ⟨_, _, Shift.of (Sub.loose _ _ _) (aA.kD w.le), [], a1, sd1, rfl, np, rfl, rfl⟩⟩
  ·obtain rfl := OR.aQE hor
   have hn : B n = none := w.fresh n (by simp [OV.jF, bP])
   rw [OV.jF, s9, qI] at w
   obtain rfl := fM.a9Z w
   have k1 : ¬ n = ns := fun e => by rw [e, aG] at z; cases z
   have aZI : ¬ n = ns := k1
   have a91 : ¬ ns = n := Ne.symm aZI
   have a92 : (n = ns) = False := eq_false aZI
   have a93 : (ns = n) = False := eq_false a91
   simp -dsimp -implicitDefEqProofs only [go_sem, ↓reduceIte, Tryz.f24, OV.yK, List.length_map]
   refine fun _ => ⟨fun h0 => ?_, fun h0 => ⟨_, _, fQ (h := aT B ns (iM c a1 sd1)) pt (by rw [aC _ _ _ _ k1]; exact hn) (by rw [bO (Ne.symm k1)]; exact aA.le_refl _) rfl, pt, a1, sd1, rfl, np, rfl, rfl⟩⟩
   refine aH.eM (rF (a := a1) (sd := sd1) hc hl 1 (by omega) z (by omega)) ?_
   rintro r_ h' ⟨l, a2, y5, hll, hnl, rfl, ha2, rfl⟩
   obtain ⟨v, rfl⟩ : ∃ v, l = [v] := by
    match l, hll with
    | [v], _ => exact ⟨v, rfl⟩
   have e1 : ([[I v]] : List (List aD))[Int.toNat 0]? = some [I v] := rfl
   simp -dsimp -implicitDefEqProofs only [go_sem, ↓reduceIte, Tryz.f24, List.length_map, e1]
   refine ⟨by decide, fun _ => ?_⟩
   have hn1 : (1 : Int) ≤ pt.length := by omega
   refine aH.eM (mX (a := a2) (sd := y5) hc hl (by omega) pt.length (by omega) (aG ..)) ?_
   rintro r_ h' ⟨x, a3, y6, rfl, x0, x1, -, ha3, rfl⟩
   have x1 := x1 hn1
   obtain ⟨k, rfl⟩ : ∃ k : Nat, x = k := ⟨x.toNat, by omega⟩
   rw [aM]
   have ek : pt[k]? = some pt[k] := List.getElem?_eq_getElem (by omega)
   simp -dsimp -implicitDefEqProofs only [go_sem, ↓reduceIte, Tryz.f24, List.length_map, e1, a92, a93, aC, aL, ek]
   refine ⟨by omega, ints (pt.set k v), aT B ns (iM c a3 y6), fQ (pt.set k v) (by rw [aC _ _ _ _ k1]; exact hn) ?_ (by rw [List.length_set]), pt.set k v, a3, y6, by rw [List.length_set], fun y hy => ?_, rfl, rfl⟩
   ·have hr := aAM I pt k v
    rw [hr, bO k1, aM]
    exact aA.le_refl _
   ·rcases List.mem_or_eq_of_mem_set hy with hy | rfl
    ·exact np y hy
    ·exact hnl _ (.head _)
 ·simp -dsimp -implicitDefEqProofs only [go_sem, ↓reduceIte, Tryz.f24]
  intro _
  refine aH.eM (rF (a := a1) (sd := sd1) hc hl pt.length (by omega) z (by omega)) ?_
  rintro r_ h' ⟨l, a2, y5, hll, hnl, rfl, ha2, rfl⟩
  simp -dsimp -implicitDefEqProofs only [go_sem, ↓reduceIte, Tryz.f24]
  refine ⟨_, _, Shift.of (Sub.refl _) (aA.kD w.le), l, a2, y5, by omega, hnl, rfl, rfl⟩
@[go_sem] def bHI : List Nat := [0, 1, 4, 5]
@[go_sem] def ib8 : List Nat := []
@[go_sem] def mk8 : Marks := fun _ => ([], .nil, [])
theorem aZJ {c : List Int} (hc : ∀ x ∈ c, InB x) (hl : c.length ≤ 4096) (pt : List Int) (np : fG pt) (hpl : pt.length ≤ 1000) {g : aA} : fF Tryz.prog 8 [.sl 1 (c.map fun n => [.int .u8 n]) false, ints pt] g fun r h' => ∃ q, q.length = pt.length ∧ fG q ∧ r = ints q ∧ h' = g := by
 refine aBJ 11 bHI ib8 mk8 mix Tryz.func8 rfl (by kernel_rfl) (by simp) ?_
 simp -dsimp -implicitDefEqProofs only [go_sem, ↓reduceIte, Tryz.f8]
 refine aH.eM (aZF c) ?_
 rintro r_ h' ⟨ns, rfl, hns, rfl⟩
 simp -dsimp -implicitDefEqProofs only [go_sem, ↓reduceIte, Tryz.f8]
 refine aH.eM (aZH (a := 0) (sd := 0) hc hl pt np hpl hns (by omega)) ?_
 rintro r_ h' ⟨q, a', sd', hq, nq, rfl, rfl⟩
 simp -dsimp -implicitDefEqProofs only [go_sem, ↓reduceIte, Tryz.f8]
 exact ⟨g, aA.aP hns (aA.le_refl _), q, hq, nq, rfl, rfl⟩
set_option maxRecDepth 100000
open Go.Proofs
set_option linter.unusedVariables false
set_option linter.unusedSimpArgs false
def aMD (j : eU) : Prop := j.ok ∧ j.s ≤ 100000
theorem aVD {P : Program} {L : aD → Prop} {et : TypeId} {sz n : Nat} {o : Option Nat} (hn : n ≤ 9223372036854775807) (h : o = none → n = 0) (t : Tag L) : aUB P (some (.slice et)) (gQ sz n o) L t = L (.int .i64 n) := by
 cases o with
 |none => rw [h rfl]; rfl
 |some m => exact propext ⟨fun a => a hn, fun a _ => a⟩
def p9 : cB := .row 5 [[.v .bI, .v (I 0), .v (I 0), .v .bI, .v .bI]]
abbrev JSt := Int × List (List Int) × Option Nat × Nat × Int
def vW (ts : List (List Int)) : cB := .row 1 ((ts.map fun x => [ints x]).map (List.map .v))
def aTR (sz : Int) (a : Nat) (B : aA) : JSt → Prop := fun (tk, ts, ot, a1, _) => (0 ≤ tk ∧ tk ≤ 10) ∧ (ts.length : Int) ≤ tk ∧ (∀ x ∈ ts, x.length = sz.toNat ∧ fG x) ∧ gX B ts ot ∧ (a ≤ a1 ∧ a1 ≤ a + 100 * ts.length)
theorem aJY {G : aA} {m n2 nf n9 ns q : Nat} {v1 v2 v3 v4 v5 : cB} (h : aT (aT (aT (aT (aT G m v1) n2 v2) nf v3) n9 v4) ns v5 q = none) : ¬ q = ns ∧ ¬ q = n9 ∧ ¬ q = nf ∧ ¬ q = n2 ∧ ¬ q = m ∧ G q = none := by
 simp only [aL] at h
 by_cases e1 : q = ns
 ·rw [if_pos e1] at h; cases h
 by_cases e2 : q = n9
 ·rw [if_neg e1, if_pos e2] at h; cases h
 by_cases e3 : q = nf
 ·rw [if_neg e1, if_neg e2, if_pos e3] at h; cases h
 by_cases e4 : q = n2
 ·rw [if_neg e1, if_neg e2, if_neg e3, if_pos e4] at h; cases h
 by_cases e5 : q = m
 ·rw [if_neg e1, if_neg e2, if_neg e3, if_neg e4, if_pos e5] at h; cases h
 rw [if_neg e1, if_neg e2, if_neg e3, if_neg e4, if_neg e5] at h
 exact ⟨e1, e2, e3, e4, e5, h⟩
theorem zS {G : aA} {m n2 nf n9 ns q : Nat} {v1 v2 v3 v4 v5 : cB} (h : ¬ q = ns ∧ ¬ q = n9 ∧ ¬ q = nf ∧ ¬ q = n2 ∧ ¬ q = m ∧ G q = none) : aT (aT (aT (aT (aT G m v1) n2 v2) nf v3) n9 v4) ns v5 q = none := by
 obtain ⟨e1, e2, e3, e4, e5, e6⟩ := h
 rw [aC _ _ _ _ e1, aC _ _ _ _ e2, aC _ _ _ _ e3, aC _ _ _ _ e4, aC _ _ _ _ e5]; exact e6
theorem aFN {B G H : aA} {ns m : Nat} {X : cB} {ES : List (List OV)} {FS : List aS} (hor : OR aS.o FS ES) (hnew : fM B (OV.cC ES) G) (dm : G m = none) (wns : G ns = none) (hmn : ¬ m = ns) {n : Nat} (hn : n = ES.length) {k sh : Int} {l : List Int} {ts : List (List Int)} {ot : Option Nat} (hts : gX (aT G m (.row 3 (OV.cells ES))) ts ot) (htn : ∀ q, ot = some q → ¬ q = ns)
  (hle : (aT (cQ (aT G m (.row 3 (OV.cells ES))) (vW ts) ot) ns X).le H) :
  Shift (.agg [.os m 3 0 n, I k, I sh, ints l, gQ 1 ts.length ot]) H (.agg (⟨⟨FS⟩, k, sh, l, ts⟩ : eU).c) (aT B ns X) := by
 subst hn
 have hgs : yL (aT G m (.row 3 (OV.cells ES))) (ts.map fun x => [OV.v (ints x)]) ot := by
  cases ot with
  |none => rw [bH] at hts; subst hts; rfl
  |some q => exact hts
 have hcl : OV.cells (ts.map fun x => [OV.v (ints x)]) = (ts.map fun x => [ints x]).map (List.map .v) := qI (fun x => ints x) ts
 have hN : fM B (OV.b5 [.sl m 3 ES, .v (I k), .v (I sh), .v (ints l), gov 1 (ts.map fun x => [.v (ints x)]) ot]) (cQ (aT G m (.row 3 (OV.cells ES))) (vW ts) ot) := by
  have h2 := aBK (sz := 1) (h := aT G m (.row 3 (OV.cells ES))) (by rw [s9 (fun x => ints x) ts]; exact fM.nil _) hgs
  rw [hcl] at h2
  simp only [OV.fD, OV.jG, OV.rO, OV.jF, List.nil_append, List.append_nil]
  exact (hnew.row dm).append h2
 have z : cQ (aT G m (.row 3 (OV.cells ES))) (vW ts) ot ns = none := iK (by rw [aC _ _ _ _ (Ne.symm hmn)]; exact wns) htn
 have hd1 : (OV.sl m 3 ES).sZ = eI 3 aS.c FS := OS.sZ (fun _ _ q => aS.aJD q) (OS.mk hor)
 have hd2 : (gov 1 (ts.map fun x => [OV.v (ints x)]) ot).sZ = eI 1 (fun x => [ints x]) ts := OS.sZ (R := oP fun x => ints x) (fun _ _ q => aKJ q) (aGU (aGS ts) hgs)
 have hdat : [OV.sl m 3 ES, .v (I k), .v (I sh), .v (ints l), gov 1 (ts.map fun x => [.v (ints x)]) ot].map OV.sZ = (⟨⟨FS⟩, k, sh, l, ts⟩ : eU).c := by
  simp only [List.map_cons, List.map_nil, hd1, hd2]
  rw [eU.aR]; rfl
 have h1 := Shift.own _ (aZB (X := X) hN z) (a3Y hN z)
 rw [hdat] at h1
 refine (Shift.of ?_ hle).trans h1
 have hs := aKO (sz := 1) (es := ts.map fun x => [OV.v (ints x)]) (o := ot)
 rw [List.length_map] at hs
 exact Sub.agg (.cons (.refl _) (.cons (.refl _) (.cons (.refl _) (.cons (.refl _) (.cons hs .nil)))))
theorem aCL {fs : List aS} (hdr : xR fs) (hfl : fs.length ≤ 1) {par sh : Int} {outs : List aB} (hp : 1 ≤ par ∧ par ≤ 4) (ho : 1 ≤ outs.length ∧ outs.length ≤ 3) (hgd : ∀ e ∈ outs, e.s ≤ 39 ∧ e.d ≤ 6 ∧ e.ok ⟨fs⟩ fs.length par) (hs : 0 ≤ sh ∧ sh ≤ par) {l : List Int} (hll : (l.length : Int) = sh) (hnl : fG l) {ts : List (List Int)} (htl : (ts.length : Int) ≤ 10) (htx : ∀ x ∈ ts, x.length = (par - sh).toNat ∧ fG x) :
  aMD ⟨⟨fs ++ [⟨[116], par, outs⟩]⟩, fs.length, sh, l, ts⟩ := by
 have hsz : ∀ {l : List aB}, (∀ e ∈ l, e.s ≤ 39) → p7 aB.s l ≤ 40 * l.length := fun {l} hl => by
  rw [lC]
  induction l with
  |nil => simp
  |cons x l ih =>
   have h1 := hl x (.head _)
   have h2 := ih fun e he => hl e (.tail _ he)
   simp only [List.length_cons, List.map_cons, List.sum_cons]
   omega
 have hlen : (fs ++ [(⟨[116], par, outs⟩ : aS)]).length = fs.length + 1 := by simp
 have hup : ∀ {m : Nat}, m ≤ fs.length → ∀ j : Nat, j < m → (⟨fs ++ [(⟨[116], par, outs⟩ : aS)]⟩ : aE).aI[j]? = (⟨fs⟩ : aE).aI[j]? := fun {m} hm j hj => by
  show (fs ++ [_])[j]? = fs[j]?
  rw [List.getElem?_append_left (by omega)]
 have hso := hsz fun e he => (hgd e he).1
 have hnm : ∀ g ∈ fs, 2 ≤ g.j5.length := fun g hg => by
  obtain ⟨j, hj, -, ⟨w, hw, hn⟩, -⟩ := hdr.get hg
  obtain ⟨c, ec, -, -⟩ := aCH (k := j) (by omega)
  rw [hn, ec, List.length_append, List.length_singleton]
  simp only [aD5, List.mem_cons, List.not_mem_nil, or_false] at hw
  rcases hw with rfl | rfl | rfl | rfl <;> decide
 refine ⟨⟨⟨by simp only [aE.aI]; omega, fun k f hf => ?_⟩, ⟨by simp only [eU.cO]; omega, by simp only [eU.cO, eU.aU, aE.aI]; omega⟩, fun f hf => ?_⟩, ?_⟩
 ·rcases Nat.lt_or_ge k fs.length with hk | hk
  ·have hf' : (⟨fs⟩ : aE).aI[k]? = some f := by rw [← hup (Nat.le_refl _) k hk]; exact hf
   obtain ⟨g1, g2, g3, g4, g5, g6⟩ := (hdr.bG9 (by omega)).2 k f hf'
   refine ⟨g1, g2, g3, fun g hg => g4 g ?_, g5, fun e he => ?_⟩
   ·simp only [aE.aI] at hg ⊢
    rwa [List.take_append_of_le_length (by omega)] at hg
   ·obtain ⟨e1, e2, e3, e4, e5⟩ := g6 e he
    exact ⟨e1, ⟨e2.1, by simp only [aE.aI]; omega⟩, e3, e4, aB.aTO (fun j hj => hup (m := k) (by omega) j hj) e _ e5⟩
  ·have hk2 : k < (fs ++ [(⟨[116], par, outs⟩ : aS)]).length := (List.getElem?_eq_some_iff.1 hf).1
   obtain rfl : k = fs.length := by omega
   rw [show (⟨fs ++ [(⟨[116], par, outs⟩ : aS)]⟩ : aE).aI = fs ++ [⟨[116], par, outs⟩] from rfl, List.getElem?_append_right (Nat.le_refl _), Nat.sub_self] at hf
   cases hf
   refine ⟨⟨Nat.le_refl 1, by simp only [aS.j5]; decide, (fun c hc => by cases hc; exact ⟨by decide, by decide⟩), (fun c hc => by cases hc with | head => exact .inl ⟨by decide, by decide⟩ | tail _ h => cases h)⟩, by simp only [aS.aZ]; omega, by simp only [aS.aW]; omega, fun g hg q => ?_, by simp only [aS.aW]; omega, fun e he => ?_⟩
   ·simp only [aE.aI] at hg
    rw [List.take_append_of_le_length (Nat.le_refl _), List.take_of_length_le (Nat.le_refl _)] at hg
    have := hnm g hg
    rw [q] at this
    simp at this
   ·obtain ⟨h1, h2, h3⟩ := hgd e he
    exact ⟨by simp only [aS.aZ]; omega, ⟨by omega, by simp only [aE.aI]; omega⟩, by omega, by omega, aB.aTO (fun j hj => hup (m := fs.length) (Nat.le_refl _) j hj) e _ h3⟩
 ·simp only [eU.aU, aE.aI, eU.cO, Int.toNat_natCast] at hf
  rw [List.getElem?_append_right (Nat.le_refl _), Nat.sub_self] at hf
  cases hf
  refine ⟨⟨hs.1, hs.2⟩, ⟨hll, hnl⟩, htl, fun x hx => ⟨?_, (htx x hx).2⟩⟩
  have := (htx x hx).1
  simp only [aS.aZ, eU.bK]
  omega
 ·have hf1 : ∀ f ∈ fs, f.s ≤ 412 := fun f hf => by
   obtain ⟨j, -, ej, -⟩ := hdr.get hf
   obtain ⟨g1, -, -, -, g5, -⟩ := (hdr.bG9 (by omega)).2 j f ej
   rw [aS.tA]
   have := g1.2.1
   omega
  have hts : ∀ l : List (List Int), (∀ x ∈ l, x.length ≤ 4) → p7 (fun x : List Int => x.length) l ≤ 5 * l.length := fun l => by
   rw [lC]
   induction l with
   |nil => simp
   |cons x l ih =>
    intro hx
    have := hx x (.head _)
    have := ih fun e he => hx e (.tail _ he)
    simp only [List.length_cons, List.map_cons, List.sum_cons]
    omega
  have h1 := hts ts fun x hx => by have := (htx x hx).1; omega
  have h2 : p7 aS.s (fs ++ [(⟨[116], par, outs⟩ : aS)]) ≤ 1000 := by
   have h3 : (⟨[116], par, outs⟩ : aS).s ≤ 122 := by
    rw [aS.tA]
    simp only [aS.j5, aS.aW, List.length_singleton]
    omega
   match fs, hfl, hf1 with
   | [], _, _ =>
    simp only [lC, List.nil_append, List.length_singleton, List.map_cons, List.map_nil, List.sum_cons, List.sum_nil]
    omega
   | [f], _, hf1 =>
    have := hf1 f (.head _)
    simp only [lC, List.cons_append, List.nil_append, List.length_cons, List.length_nil, List.map_cons, List.map_nil, List.sum_cons, List.sum_nil]
    omega
  rw [eU.tA, aE.tA]
  simp only [eU.aU, aE.aI, eU.cJ, eU.cP]
  omega
@[go_sem] def aD7 : List Nat := [0, 2, 3, 4, 5, 6, 7, 8, 9, 10, 11, 29, 74, 77]
@[go_sem] def aVE : List Nat := [45, 51, 89]
@[go_sem] def aVF : Marks := fun id => match id with | 9 => ([1, 4, 6, 7, 8, 10, 12], (.op 0 (.op 2 (.op 3 (.op 5 (.op 1 (.op 4 (.op 6 (.op 7 (.op 8 (.op 9 (.op 10 (.op 11 (.op 12 .nil))))))))))))), [(1, 7), (1, 8), (4, 7)]) | 20 => ([1, 4, 6, 8, 10, 12], (.op 0 (.op 2 (.op 3 (.op 5 (.op 1 (.op 4 (.op 6 (.op 7 (.op 8 (.op 9 (.op 10 (.op 11 (.op 12 .nil))))))))))))), [(1, 8)]) | _ => ([], .nil, [])
set_option maxHeartbeats 8000000 in
theorem aZK {ns : Nat} {c : List Int} (hc : ∀ x ∈ c, InB x) (hl : c.length ≤ 4096) {B : aA} (hB : B ns = none) {a : Nat} (ha : a ≤ 500000000) {sd : Int} :
  fF Tryz.prog 22 [.op ns 3 0 0] (aT B ns (iM c a sd)) fun r h' => ∃ j a' sd', aMD j ∧ r = .agg j.c ∧ (a ≤ a' ∧ a' ≤ a + 100000) ∧ h' = aT B ns (iM c a' sd') := by
 refine gK 93 aD7 aVE aVF mix Tryz.func22 rfl (by kernel_rfl) (by simp) ?_
 simp -dsimp -implicitDefEqProofs only [go_sem, ↓reduceIte, Tryz.f22, kK]
 intro n2 q2
 have b2 : ¬ n2 = ns := by grind
 have z2 : B n2 = none := by grind
 have zT : ¬ n2 = ns := b2
 have mB : ¬ ns = n2 := Ne.symm zT
 have dK : (n2 = ns) = False := eq_false zT
 have dM : (ns = n2) = False := eq_false mB
 refine aH.eM (mX (a := a) (sd := sd) hc hl (by omega) 2 (by omega) (by rw [aC _ _ _ _ mB, aG])) ?_
 rintro r_ h' ⟨x, a1, sd1, rfl, x0, x1, -, ha1, rfl⟩
 have x1 := x1 (by omega)
 obtain ⟨nk, rfl⟩ : ∃ nk : Nat, x = nk := ⟨x.toNat, by omega⟩
 simp only [bO zT, aM]
 simp -dsimp -implicitDefEqProofs only [go_sem, ↓reduceIte, Tryz.f22, dK, dM, aC, aL, Option.toArray_none, Option.toArray_some, List.filterMap_cons, List.filterMap_nil, List.elem_cons_self, List.nil_append, List.append_nil, List.toList_toArray]
 refine aH.eM (aL1 (a := a1) (sd := sd1) hc hl (by omega) 2 (by omega) (by rw [aC _ _ _ _ mB, aG])) ?_
 rintro r_ h' ⟨b, a2, y5, rfl, ha2, rfl⟩
 simp only [bO mB, aM]
 simp -dsimp -implicitDefEqProofs only [go_sem, ↓reduceIte, Tryz.f22, dK, dM, aC, aL, Option.toArray_none, Option.toArray_some, List.filterMap_cons, List.filterMap_nil, List.elem_cons_self, List.nil_append, List.append_nil, List.toList_toArray]
 refine aH.eM (bHA (L0 := 6) ⟨by decide, by decide⟩ (a := a2) (sd := y5) (n := nk) (pl := b) (B := aT B n2 p9) hc hl (by omega) (by rw [aC _ _ _ _ mB]; exact hB) (by omega)) ?_
 rintro r_ h' ⟨fs, es, o, g0, a3, y6, hfl, hdr, hor, hnw, z0, aVG, hon, hfo, rfl, ha3, rfl⟩
 obtain ⟨g1, rfl, hnew, z18⟩ := fM.under z2 hnw
 simp only [aL, dK, dM, if_false] at z0
 have ho2 : ∀ m, o = some m → ¬ m = n2 ∧ g1 m = none := fun m e => by
  subst e
  rw [iJ] at aVG
  have h1 : ¬ m = n2 := fun e => by rw [e, aG] at aVG; cases aVG
  rw [aC _ _ _ _ h1] at aVG
  exact ⟨h1, aVG⟩
 have hgs : yL g1 es o := by
  cases o with
  |none => exact aVG
  |some m => exact (ho2 m rfl).2
 have hsw : cQ (aT g1 n2 p9) (.row 3 (OV.cells es)) o = aT (cQ g1 (.row 3 (OV.cells es)) o) n2 p9 := by
  cases o with
  |none => rfl
  |some m => rw [aJ, aJ, bO (Ne.symm (ho2 m rfl).1)]
 rw [hsw]
 simp -dsimp -implicitDefEqProofs only [go_sem, ↓reduceIte, Tryz.f22, dK, dM, aC, aL, Option.toArray_none, Option.toArray_some, List.filterMap_cons, List.filterMap_nil, List.elem_cons_self, List.nil_append, List.append_nil, List.toList_toArray]
 intro n3 q3
 have a3' : ¬ n3 = ns := by grind
 have b3' : ¬ n3 = n2 := by grind
 have z19 : cQ g1 (.row 3 (OV.cells es)) o n3 = none := by grind
 have aTS : ¬ n3 = ns := a3'
 have aME : ¬ ns = n3 := Ne.symm aTS
 have mD : (n3 = ns) = False := eq_false aTS
 have mE : (ns = n3) = False := eq_false aME
 have aMF : ¬ n3 = n2 := b3'
 have a30 : ¬ n2 = n3 := Ne.symm aMF
 have m7 : (n3 = n2) = False := eq_false aMF
 have m8 : (n2 = n3) = False := eq_false a30
 simp only [bO aME, aM]
 refine ⟨jH .., ?_⟩
 refine aH.eM (mX (a := a3) (sd := y6) hc hl (by omega) 4 (by omega) (aG ..)) ?_
 rintro r_ h' ⟨px, a5, sd5, rfl, x0, x1, -, ha5, rfl⟩
 have x1 := x1 (by omega)
 have wp : IntKind.i64.wrap (1 + px) = 1 + px := IntWalk.i64_in _ (by omega)
 rw [aM]
 simp -dsimp -implicitDefEqProofs only [go_sem, ↓reduceIte, Tryz.f22, dK, m8, dM, mE, m7, mD, aC, aL, Option.toArray_none, Option.toArray_some, List.filterMap_cons, List.filterMap_nil, List.elem_cons_self, List.nil_append, List.append_nil, List.toList_toArray, wp]
 intro nf qf
 have af : ¬ nf = ns := by grind
 have bf : ¬ nf = n2 := by grind
 have cf : ¬ nf = n3 := by grind
 have zf : cQ g1 (.row 3 (OV.cells es)) o nf = none := by grind
 have aCI : ¬ nf = ns := af
 have nS : ¬ ns = nf := Ne.symm aCI
 have bS : (nf = ns) = False := eq_false aCI
 have bT : (ns = nf) = False := eq_false nS
 have aMG : ¬ nf = n2 := bf
 have a31 : ¬ n2 = nf := Ne.symm aMG
 have eD : (nf = n2) = False := eq_false aMG
 have eE : (n2 = nf) = False := eq_false a31
 have aMH : ¬ nf = n3 := cf
 have aTT : ¬ n3 = nf := Ne.symm aMH
 have nB : (nf = n3) = False := eq_false aMH
 have nC : (n3 = nf) = False := eq_false aTT
 simp -dsimp -implicitDefEqProofs only [go_sem, ↓reduceIte, Tryz.f22, dK, m8, eE, dM, mE, bT, m7, mD, nC, eD, bS, nB, aC, aL, Option.toArray_none, Option.toArray_some, List.filterMap_cons, List.filterMap_nil, List.elem_cons_self, List.nil_append, List.append_nil, List.toList_toArray, wp, bO nS, aM]
 refine aH.eM (mX (a := a5) (sd := sd5) hc hl (by omega) 2 (by omega) (aG ..)) ?_
 rintro r_ h' ⟨py, a6, sd6, rfl, y0, y1, -, ha6, rfl⟩
 have y1 := y1 (by omega)
 have wq : IntKind.i64.wrap (1 + py) = 1 + py := IntWalk.i64_in _ (by omega)
 rw [aM]
 simp -dsimp -implicitDefEqProofs only [go_sem, ↓reduceIte, Tryz.f22, dK, m8, eE, dM, mE, bT, m7, mD, nC, eD, bS, nB, aC, aL, Option.toArray_none, Option.toArray_some, List.filterMap_cons, List.filterMap_nil, List.elem_cons_self, List.nil_append, List.append_nil, List.toList_toArray, wq]
 refine aH.eM (aL1 (a := a6) (sd := sd6) hc hl (by omega) 2 (by omega) (aG ..)) ?_
 rintro r_ h' ⟨b2', a7, sd7, rfl, ha7, rfl⟩
 rw [aM]
 generalize hpar : 1 + px = par at *
 simp -dsimp -implicitDefEqProofs only [go_sem, ↓reduceIte, Tryz.f22, dK, m8, eE, dM, mE, bT, m7, mD, nC, eD, bS, nB, aC, aL, Option.toArray_none, Option.toArray_some, List.filterMap_cons, List.filterMap_nil, List.elem_cons_self, List.nil_append, List.append_nil, List.toList_toArray]
 have hon : ∀ m, o = some m → ¬ m = ns ∧ ¬ m = n2 ∧ ¬ m = n3 := fun m e => ⟨hon m e, (ho2 m e).1, fun q => by
  subst e
  rw [aJ, q, aG] at z19; cases z19⟩
 have hm9 : mL 9 = 8 := rfl
 have aNE := fun {P : Program} {L : aD → Prop} {et : TypeId} {sz : Nat} (t : Tag L) => aVD (P := P) (L := L) (et := et) (sz := sz) (n := fs.length) (o := o) (by omega) (fun q => by rw [hfo q]; rfl) t
 refine dA (keep := aD7) (ib := aVE) (mk := aVF) mix (by kernel_rfl) (fun x : ISt => [(0, .op ns 3 0 0), (2, .op n2 5 0 0), (3, .op n3 1 0 0), (4, .op nf 3 0 0), (5, I x.1), (6, .bool b2'), (7, I x.2.1)]) (fun x => aT (aT (cQ x.2.2.2.2.1 (.row 5 (OV.cells x.2.2.2.1)) x.2.2.2.2.2.1) nf (.row 3 [[.v (.str [116]), .v (I par), .v (gQ 5 x.2.1 x.2.2.2.2.2.1)]])) ns (iM c x.2.2.2.2.2.2.1 x.2.2.2.2.2.2.2)) (fun x => aJX fs par a7 (aT (aT (cQ g1 (.row 3 (OV.cells es)) o) n2 p9) n3 (.row 1 [[.v (gQ 3 fs.length o)]])) ns nf x) (fun x => x.1.toNat - x.2.1) (1 + py, 0, [], [], aT (aT (cQ g1 (.row 3 (OV.cells es)) o) n2 p9) n3 (.row 1 [[.v (gQ 3 fs.length o)]]), none, a7, sd7) ⟨by simp [dF, b6], aA.le_refl _, by omega, by omega, rfl, trivial, fM.nil _, ⟨by rw [aC _ _ _ _ aME, aC _ _ _ _ mB]; exact iK z0 fun m e => (hon m e).1, by rw [aC _ _ _ _ aMH, aC _ _ _ _ aMG]; exact zf⟩, rfl, (fun m e => by cases e), (fun e h => by cases h), by simp⟩ ?_
 rintro ⟨cnt, i, outs, eo, g2, oo, a8, sd8⟩ hii
 obtain ⟨hcnt, hi, hol, aAZ, aRA, ⟨ws, wf⟩, rT, aD6, hgd, ha8⟩ := id hii
 simp only at hcnt hi hol aAZ aRA ws wf rT aD6 hgd ha8 ⊢
 simp -dsimp -implicitDefEqProofs only [go_sem, ↓reduceIte, Tryz.f22, dK, m8, eE, dM, mE, bT, m7, mD, nC, eD, bS, nB, aC, aL, Option.toArray_none, Option.toArray_some, List.filterMap_cons, List.filterMap_nil, List.elem_cons_self, List.nil_append, List.append_nil, List.toList_toArray]
 have hkeep : ∀ q R S, (aT (aT (cQ g1 (.row 3 (OV.cells es)) o) n2 p9) n3 (.row 1 [[.v (gQ 3 fs.length o)]])) q = some R → cQ g2 S oo q = some R := fun q R S hq => by
  have h2 := aRA.keep hq
  cases oo with
  |none => exact h2
  |some m5 =>
   rw [iJ] at rT
   rw [aJ, aC _ _ _ _ (fun e => by rw [e, rT] at h2; cases h2)]
   exact h2
 have hk9 := fun S => hkeep n3 _ S (aG ..)
 refine ⟨fun nD => ?_, fun aKZ => ?_⟩
 ·intro ng qg
  have an : ¬ ng = ns := by grind
  have bn : ¬ ng = nf := by grind
  have zn : cQ g2 (.row 5 (OV.cells eo)) oo ng = none := by grind
  have gW : ¬ ng = ns := an
  have iH : ¬ ns = ng := Ne.symm gW
  have bG : (ng = ns) = False := eq_false gW
  have bF : (ns = ng) = False := eq_false iH
  have xG : ¬ ng = nf := bn
  have aMA : ¬ nf = ng := Ne.symm xG
  have kY : (ng = nf) = False := eq_false xG
  have kZ : (nf = ng) = False := eq_false aMA
  have cn : ¬ ng = n3 := fun e => by rw [e, hk9] at zn; cases zn
  have aTU : ¬ ng = n3 := cn
  have a32 : ¬ n3 = ng := Ne.symm aTU
  have a33 : (ng = n3) = False := eq_false aTU
  have a34 : (n3 = ng) = False := eq_false a32
  have zof : cQ g2 (.row 5 (OV.cells eo)) oo nf = none := iK wf fun m e => (aD6 m e).2
  have hpr : aAW ⟨fs⟩ n3 (aT (cQ g2 (.row 5 (OV.cells eo)) oo) nf (.row 3 [[.v (.str [116]), .v (I par), .v (gQ 5 i oo)]])) := by
   refine ⟨es, o, hor, ?_, hfo, fun m e => ?_⟩
   ·rw [aC _ _ _ _ aTT]; exact hk9 _
   ·have hm := hon m e
    subst e
    have h3 := hkeep m (.row 3 (OV.cells es)) (.row 5 (OV.cells eo)) (by rw [aC _ _ _ _ hm.2.2, aC _ _ _ _ hm.2.1, aJ, aG])
    rw [aC _ _ _ _ (fun q => by rw [q, zof] at h3; cases h3)]
    exact h3
  simp -dsimp -implicitDefEqProofs only [go_sem, ↓reduceIte, Tryz.f22, bT, bF, mE, bS, kZ, nB, bG, kY, a33, mD, nC, a34, aC, aL, Option.toArray_none, Option.toArray_some, List.filterMap_cons, List.filterMap_nil, List.elem_cons_self, List.nil_append, List.append_nil, List.toList_toArray, kK, hk9, aNE]
  rw [show ∀ H : aA, aT H ng (cB.row 4 [[Cell.v (aD.op ns 3 0 0), Cell.v (aD.op n3 1 0 0), Cell.v (I 9), Cell.v (aD.bool b2')]]) = aT H ng (kK ns n3 9 b2') from fun _ => rfl]
  refine aH.eM (bG8 hc hl iH hdr.aTP (by simp only [aE.aI]; omega) 4 par _ a8 sd8 9 (by rw [aC _ _ _ _ nS]; exact iK ws fun m e => (aD6 m e).1) (by rw [aC _ _ _ _ xG]; exact zn) hpr ⟨by omega, by omega, by omega⟩) ?_
  rintro r_ h' ⟨x5, e5, g', a9, sd9, L9, hx, rfl, aRB, ⟨v1, v2⟩, rfl, uX, hd5, hL9, ha9⟩
  obtain ⟨g4, rfl, w4, z4f⟩ := fM.under zof aRB
  simp only [aL, bT, bF, bS, kZ, bG, kY, if_false] at v1 v2
  have hx5 := hx
  rw [aB.rU] at hx
  obtain ⟨y4, rfl, xV⟩ := hx
  have aY9 : x5.s ≤ 39 := by have := hL9.2.2; omega
  cases oo with
  |none =>
   rw [jN] at rT
   subst rT
   obtain rfl : outs = [] := List.length_eq_zero_iff.1 aAZ.length
   obtain rfl : i = 0 := hol.symm
   simp only [aQ, iY] at *
   simp -dsimp -implicitDefEqProofs only [go_sem, ↓reduceIte, Tryz.f22, bT, bF, bS, kZ, bG, kY, aC, aL, Option.toArray_none, Option.toArray_some, List.filterMap_cons, List.filterMap_nil, List.elem_cons_self, List.nil_append, List.append_nil, List.toList_toArray, OV.fH, OV.cG, OV.jS, xV.flat, xV.one]
   have ht := eA []
   refine ⟨by decide, by decide, by decide, fun m qm => ?_⟩
   have am : ¬ m = ns := by grind
   have bm : ¬ m = nf := by grind
   have dm : g4 m = none := by grind
   have em : ¬ m = ng := by grind
   skip
   have eO : ¬ m = ns := am
   have fR : ¬ ns = m := Ne.symm eO
   have cT : (m = ns) = False := eq_false eO
   have cU : (ns = m) = False := eq_false fR
   have kB : ¬ m = nf := bm
   have o5 : ¬ nf = m := Ne.symm kB
   have eQ : (m = nf) = False := eq_false kB
   have eT : (nf = m) = False := eq_false o5
   have fX : ¬ m = ng := em
   have kA : ¬ ng = m := Ne.symm fX
   have iN : (m = ng) = False := eq_false fX
   have iO : (ng = m) = False := eq_false kA
   simp -dsimp -implicitDefEqProofs only [go_sem, ↓reduceIte, Tryz.f22, bT, bF, cU, bS, kZ, eT, bG, kY, iO, cT, eQ, iN, aC, aL, Option.toArray_none, Option.toArray_some, List.filterMap_cons, List.filterMap_nil, List.elem_cons_self, List.nil_append, List.append_nil, List.toList_toArray]
   refine ⟨(cnt, 0 + 1, [] ++ [x5], [] ++ [[.v (.int .i64 x5.aO), .v (.int .i64 x5.aX), .v (.int .i64 x5.cN), .v (.int .i64 x5.cA), y4]], g4, some m, a9, sd9), ⟨rfl, IntWalk.i64_in _ (by omega)⟩, ?_, hii.next nD hx5 w4 ⟨v1, z4f⟩ dm ⟨am, bm⟩ ⟨aY9, by omega, uX⟩ (by omega), by simp only; omega⟩
   intro q_
   simp only [aL, aJ, bE, gI, eA, cK, iQ, iR, OV.fH, OV.cG, OV.jS, List.nil_append, List.map_cons, List.map_nil, ht]
   grind
  |some m5 =>
   rw [iJ] at rT
   obtain ⟨g5, rfl, w5, z45⟩ := fM.under rT w4
   have k1 := (aD6 m5 rfl).1
   have k2 := (aD6 m5 rfl).2
   have k3 : ¬ m5 = ng := fun e => by rw [aJ, e, aG] at zn; cases zn
   have pX : ¬ m5 = ns := k1
   have sA : ¬ ns = m5 := Ne.symm pX
   have sB : (m5 = ns) = False := eq_false pX
   have sC : (ns = m5) = False := eq_false sA
   have pY : ¬ m5 = nf := k2
   have sD : ¬ nf = m5 := Ne.symm pY
   have sE : (m5 = nf) = False := eq_false pY
   have sF : (nf = m5) = False := eq_false sD
   have aCJ : ¬ m5 = ng := k3
   have aMB : ¬ ng = m5 := Ne.symm aCJ
   have xH : (m5 = ng) = False := eq_false aCJ
   have xI : (ng = m5) = False := eq_false aMB
   simp only [aJ, bE] at *
   simp -dsimp -implicitDefEqProofs only [go_sem, ↓reduceIte, Tryz.f22, bT, bF, sC, bS, kZ, sF, bG, kY, xI, sB, sE, xH, aC, aL, Option.toArray_none, Option.toArray_some, List.filterMap_cons, List.filterMap_nil, List.elem_cons_self, List.nil_append, List.append_nil, List.toList_toArray, OV.fH, OV.cG, OV.jS, xV.flat, xV.one, cK]
   simp only [aL, bT, bF, sC, bS, kZ, sF, bG, kY, xI, sB, sE, xH, if_false] at v1 v2 z4f
   have ht : List.take i (OV.cells eo) = OV.cells eo := List.take_of_length_le (by rw [cK]; have := aAZ.length; omega)
   refine ⟨by decide, by decide, by decide, by have := aAZ.length; omega, by omega, by omega, fun m qm => ?_⟩
   have am : ¬ m = ns := by grind
   have bm : ¬ m = nf := by grind
   have dm : g5 m = none := by grind
   have em : ¬ m = ng := by grind
   have fm : ¬ m = m5 := (by grind); have aRC := eq_false fm; have aRD := eq_false (Ne.symm fm); have a9T := fm; have a9U := Ne.symm fm
   have eO : ¬ m = ns := am
   have fR : ¬ ns = m := Ne.symm eO
   have cT : (m = ns) = False := eq_false eO
   have cU : (ns = m) = False := eq_false fR
   have kB : ¬ m = nf := bm
   have o5 : ¬ nf = m := Ne.symm kB
   have eQ : (m = nf) = False := eq_false kB
   have eT : (nf = m) = False := eq_false o5
   have fX : ¬ m = ng := em
   have kA : ¬ ng = m := Ne.symm fX
   have iN : (m = ng) = False := eq_false fX
   have iO : (ng = m) = False := eq_false kA
   simp -dsimp -implicitDefEqProofs only [go_sem, ↓reduceIte, Tryz.f22, bT, bF, cU, bS, kZ, eT, bG, kY, iO, cT, eQ, iN, aRC, eQ, iN, cT, aRD, sE, xH, sB, eT, sF, kZ, bS, iO, xI, kY, bG, cU, sC, bT, bF, aC, aL, Option.toArray_none, Option.toArray_some, List.filterMap_cons, List.filterMap_nil, List.elem_cons_self, List.nil_append, List.append_nil, List.toList_toArray]
   refine ⟨(cnt, i + 1, outs ++ [x5], eo ++ [[.v (.int .i64 x5.aO), .v (.int .i64 x5.aX), .v (.int .i64 x5.cN), .v (.int .i64 x5.cA), y4]], g5, some m, a9, sd9), ⟨rfl, IntWalk.i64_in _ (by omega)⟩, ?_, hii.next nD hx5 w5 ⟨v1, z4f⟩ dm ⟨am, bm⟩ ⟨aY9, by omega, uX⟩ (by omega), by simp only; omega⟩
   intro q_
   simp only [aL, aJ, bE, gI, eA, cK, iQ, iR, OV.fH, OV.cG, OV.jS, List.nil_append, List.map_cons, List.map_nil, ht]
   grind
 ·simp -dsimp -implicitDefEqProofs only [go_sem, ↓reduceIte, Tryz.f22, dK, m8, eE, dM, mE, bT, m7, mD, nC, eD, bS, nB, aC, aL, Option.toArray_none, Option.toArray_some, List.filterMap_cons, List.filterMap_nil, List.elem_cons_self, List.nil_append, List.append_nil, List.toList_toArray, hk9]
  refine ⟨by decide, by rw [jH]; rfl, ?_⟩
  cases oo with
  |none =>
   rw [jN] at rT
   subst rT
   have := aAZ.length
   simp at this
   rw [this] at hol
   simp at hol
   omega
  |some m5 =>
  have aRB := aBK (sz := 5) aRA rT
  have hgo := aGU aAZ (sz := 5) rT
  have hei : eo.length = i := by rw [← aAZ.length]; exact hol
  rw [iJ] at rT
  obtain ⟨k1, k2⟩ := aD6 m5 rfl
  have pX : ¬ m5 = ns := k1
  have sA : ¬ ns = m5 := Ne.symm pX
  have sB : (m5 = ns) = False := eq_false pX
  have sC : (ns = m5) = False := eq_false sA
  have pY : ¬ m5 = nf := k2
  have sD : ¬ nf = m5 := Ne.symm pY
  have sE : (m5 = nf) = False := eq_false pY
  have sF : (nf = m5) = False := eq_false sD
  simp only [aJ, bE, aGT] at *
  have aZA : (⟨[116], par, outs⟩ : aS).o [.v (.str [116]), .v (I par), .sl m5 5 eo] := ⟨_, rfl, hgo⟩
  have ws' : aT g2 m5 (.row 5 (OV.cells eo)) ns = none := by rw [aC _ _ _ _ sA]; exact ws
  have wf' : aT g2 m5 (.row 5 (OV.cells eo)) nf = none := by rw [aC _ _ _ _ sD]; exact wf
  have bMW := hk9 (.row 5 (OV.cells eo))
  clear hkeep
  generalize aT g2 m5 (.row 5 (OV.cells eo)) = g6 at *
  have hz8 : cQ g1 (.row 3 (OV.cells es)) o n2 = none := iK z18 fun m e => (hon m e).2.1
  have hz9 : cQ g1 (.row 3 (OV.cells es)) o n3 = none := z19
  obtain ⟨g7, rfl, w7, z78, z79⟩ := fM.yJ hz8 (by rw [aC _ _ _ _ aMF]; exact hz9) aRB
  simp only [aL, dK, m8, eE, dM, mE, bT, m7, mD, nC, eD, bS, nB, if_false] at ws' wf' z79
  cases o with
  |none =>
   rw [jN] at hgs
   subst hgs
   obtain rfl : fs = [] := List.length_eq_zero_iff.1 hor.length
   simp only [aQ, iY] at *
   simp -dsimp -implicitDefEqProofs only [go_sem, ↓reduceIte, Tryz.f22, dK, m8, eE, dM, mE, bT, m7, mD, nC, eD, bS, nB, aC, aL, Option.toArray_none, Option.toArray_some, List.filterMap_cons, List.filterMap_nil, List.elem_cons_self, List.nil_append, List.append_nil, List.toList_toArray]
   have ht := eA []
   refine ⟨by decide, fun m qm => ?_⟩
   have am : ¬ m = ns := by grind
   have bm : ¬ m = n2 := by grind
   have cm : ¬ m = n3 := by grind
   have em : ¬ m = nf := by grind
   have dm : g7 m = none := by grind
   have eO : ¬ m = ns := am
   have fR : ¬ ns = m := Ne.symm eO
   have cT : (m = ns) = False := eq_false eO
   have cU : (ns = m) = False := eq_false fR
   have aH2 : ¬ m = n2 := bm
   have aRE : ¬ n2 = m := Ne.symm aH2
   have hH : (m = n2) = False := eq_false aH2
   have hQ : (n2 = m) = False := eq_false aRE
   have aH3 : ¬ m = n3 := cm
   have aRF : ¬ n3 = m := Ne.symm aH3
   have aH4 : (m = n3) = False := eq_false aH3
   have aH5 : (n3 = m) = False := eq_false aRF
   have kB : ¬ m = nf := em
   have o5 : ¬ nf = m := Ne.symm kB
   have eQ : (m = nf) = False := eq_false kB
   have eT : (nf = m) = False := eq_false o5
   simp -dsimp -implicitDefEqProofs only [go_sem, ↓reduceIte, Tryz.f22, dK, m8, eE, hQ, dM, mE, bT, cU, m7, mD, nC, aH5, eD, bS, nB, eT, hH, cT, aH4, eQ, aC, aL, Option.toArray_none, Option.toArray_some, List.filterMap_cons, List.filterMap_nil, List.elem_cons_self, List.nil_append, List.append_nil, List.toList_toArray]
   refine fun n9 q9 => ?_
   have a9' : ¬ n9 = ns := by grind
   have b9' : ¬ n9 = n2 := by grind
   have c9' : ¬ n9 = nf := by grind
   have d9' : ¬ n9 = m := by grind
   have e9' : ¬ n9 = n3 := by grind
   have z9' : g7 n9 = none := by grind
   have mY : ¬ n9 = ns := a9'
   have eK : ¬ ns = n9 := Ne.symm mY
   have bA : (n9 = ns) = False := eq_false mY
   have bB : (ns = n9) = False := eq_false eK
   have aCM : ¬ n9 = n2 := b9'
   have aMI : ¬ n2 = n9 := Ne.symm aCM
   have fT : (n9 = n2) = False := eq_false aCM
   have fU : (n2 = n9) = False := eq_false aMI
   have uN : ¬ n9 = nf := c9'
   have uM : ¬ nf = n9 := Ne.symm uN
   have dV : (n9 = nf) = False := eq_false uN
   have dU : (nf = n9) = False := eq_false uM
   have jQ : ¬ n9 = m := d9'
   have gL : ¬ m = n9 := Ne.symm jQ
   have dT : (n9 = m) = False := eq_false jQ
   have dR : (m = n9) = False := eq_false gL
   have aCN : ¬ n9 = n3 := e9'
   have aMJ : ¬ n3 = n9 := Ne.symm aCN
   have aMK : (n9 = n3) = False := eq_false aCN
   have aML : (n3 = n9) = False := eq_false aMJ
   have wpar : IntKind.i64.wrap (par + 1) = par + 1 := IntWalk.i64_in _ (by omega)
   simp -dsimp -implicitDefEqProofs only [go_sem, ↓reduceIte, Tryz.f22, dK, m8, eE, hQ, fU, dM, mE, bT, cU, bB, m7, mD, nC, aH5, aML, eD, bS, nB, eT, dU, hH, cT, aH4, eQ, dR, fT, bA, aMK, dV, dT, aC, aL, Option.toArray_none, Option.toArray_some, List.filterMap_cons, List.filterMap_nil, List.elem_cons_self, List.nil_append, List.append_nil, List.toList_toArray, wpar]
   have wfs : IntKind.i64.wrap (((([] : List aS).length + 1 : Nat) : Int) - 1) = (([] : List aS).length : Int) := by rw [IntWalk.i64_in _ (by omega)]; omega
   try simp only [List.length_nil, Nat.zero_add] at wfs
   refine aH.wk (g := aT (aT (aT (aT (aT g7 m (.row 3 (OV.cells ([] ++ [[.v (.str [116]), .v (I par), .sl m5 5 eo]])))) n2 p9) nf (.row 3 [[.v (.str [116]), .v (I par), .v (.os m5 5 0 i)]])) n9 (.row 5 [[.v (.os m 3 0 (([] : List aS).length + 1)), .v (I ([] : List aS).length), .v (I 0), .v .bI, .v .bI]])) ns (iM c a8 sd8)) (aA.j7 (by
    intro q_
    simp only [aL, gI, eA, cK, iQ, iR, OV.fH, OV.cG, OV.jS, OV.yK, List.nil_append, List.map_cons, List.map_nil, List.length_append, List.length_singleton, List.length_nil, hei, ht, wfs]
    grind)) ?_
   have wns : g7 ns = none := by grind
   refine aH.eM (mX (a := a8) (sd := sd8) hc hl (by omega) (par + 1) (by omega) (aG ..)) ?_
   rintro r_ h' ⟨sh, a9, sd9, rfl, s0, s1, -, ha9, rfl⟩
   have s1 := s1 (by omega)
   rw [aM]
   simp -dsimp -implicitDefEqProofs only [go_sem, ↓reduceIte, Tryz.f22, dK, eE, hQ, fU, dM, bT, cU, bB, eD, bS, eT, dU, hH, cT, eQ, dR, fT, bA, dV, dT, aC, aL, Option.toArray_none, Option.toArray_some, List.filterMap_cons, List.filterMap_nil, List.elem_cons_self, List.nil_append, List.append_nil, List.toList_toArray]
   simp only [bO eK, aM]
   refine aH.eM (rF (a := a9) (sd := sd9) hc hl sh (by omega) (by rw [aC _ _ _ _ eK, aC _ _ _ _ nS, aC _ _ _ _ mB, aC _ _ _ _ fR]; exact wns) (by omega)) ?_
   rintro r_ h' ⟨l, a10, a94, hll, hnl, rfl, bNC, rfl⟩
   simp -dsimp -implicitDefEqProofs only [go_sem, ↓reduceIte, Tryz.f22, dK, eE, hQ, fU, dM, bT, cU, bB, eD, bS, eT, dU, hH, cT, eQ, dR, fT, bA, dV, dT, aC, aL, Option.toArray_none, Option.toArray_some, List.filterMap_cons, List.filterMap_nil, List.elem_cons_self, List.nil_append, List.append_nil, List.toList_toArray]
   simp only [bO eK, aM]
   refine aH.eM (mX (a := a10) (sd := a94) hc hl (by omega) 5 (by omega) (aG ..)) ?_
   rintro r_ h' ⟨tc, a11, a95, rfl, tc0, tc1, -, bNE, rfl⟩
   have tc1 := tc1 (by omega)
   rw [aM]
   simp -dsimp -implicitDefEqProofs only [go_sem, ↓reduceIte, Tryz.f22, dK, eE, hQ, fU, dM, bT, cU, bB, eD, bS, eT, dU, hH, cT, eQ, dR, fT, bA, dV, dT, aC, aL, Option.toArray_none, Option.toArray_some, List.filterMap_cons, List.filterMap_nil, List.elem_cons_self, List.nil_append, List.append_nil, List.toList_toArray]
   refine aH.eM (aL1 (a := a11) (sd := a95) hc hl (by omega) 20 (by omega) (aG ..)) ?_
   rintro r_ h' ⟨b20, a12, aZL, rfl, bNG, rfl⟩
   rw [aM]
   apply aL7
   case m =>
    intro key
    cases b20
    ·simp -dsimp -implicitDefEqProofs only [go_sem, ↓reduceIte, Tryz.f22, dK, eE, hQ, fU, dM, bT, cU, bB, eD, bS, eT, dU, hH, cT, eQ, dR, fT, bA, dV, dT, aC, aL, Option.toArray_none, Option.toArray_some, List.filterMap_cons, List.filterMap_nil, List.elem_cons_self, List.nil_append, List.append_nil, List.toList_toArray]
     refine dA (keep := aD7) (ib := aVE) (mk := aVF) mix (by kernel_rfl) (fun x : JSt => [(0, .op ns 3 0 0), (2, .op n2 5 0 0), (4, .op nf 3 0 0), (9, .op n9 5 0 0), (10, I x.1), (11, I x.2.1.length)]) (fun x => aT (aT (cQ (aT (aT (aT g7 m (.row 3 (OV.cells ([] ++ [[.v (.str [116]), .v (I par), .sl m5 5 eo]])))) n2 p9) nf (.row 3 [[.v (.str [116]), .v (I par), .v (.os m5 5 0 i)]])) (vW x.2.1) x.2.2.1) n9 (.row 5 [[.v (.os m 3 0 (([] : List aS).length + 1)), .v (I ([] : List aS).length), .v (I sh), .v (ints l), .v (gQ 1 x.2.1.length x.2.2.1)]])) ns (iM c x.2.2.2.1 x.2.2.2.2)) (fun x => aTR (par - sh) a12 (aT (aT (aT (aT (aT g7 m (.row 3 (OV.cells ([] ++ [[.v (.str [116]), .v (I par), .sl m5 5 eo]])))) n2 p9) nf (.row 3 [[.v (.str [116]), .v (I par), .v (.os m5 5 0 i)]])) n9 p9) ns p9) x) (fun x => x.1.toNat - x.2.1.length) (tc, [], none, a12, aZL) ⟨by simp [dF, b6], aA.le_refl _, by omega, by simp only [List.length_nil]; omega, (fun x h => by cases h), rfl, by simp⟩ ?_
     exact key.get
    ·simp -dsimp -implicitDefEqProofs only [go_sem, ↓reduceIte, Tryz.f22, dK, eE, hQ, fU, dM, bT, cU, bB, eD, bS, eT, dU, hH, cT, eQ, dR, fT, bA, dV, dT, aC, aL, Option.toArray_none, Option.toArray_some, List.filterMap_cons, List.filterMap_nil, List.elem_cons_self, List.nil_append, List.append_nil, List.toList_toArray]
     refine dA (keep := aD7) (ib := aVE) (mk := aVF) mix (by kernel_rfl) (fun x : JSt => [(0, .op ns 3 0 0), (2, .op n2 5 0 0), (4, .op nf 3 0 0), (9, .op n9 5 0 0), (10, I x.1), (11, I x.2.1.length)]) (fun x => aT (aT (cQ (aT (aT (aT g7 m (.row 3 (OV.cells ([] ++ [[.v (.str [116]), .v (I par), .sl m5 5 eo]])))) n2 p9) nf (.row 3 [[.v (.str [116]), .v (I par), .v (.os m5 5 0 i)]])) (vW x.2.1) x.2.2.1) n9 (.row 5 [[.v (.os m 3 0 (([] : List aS).length + 1)), .v (I ([] : List aS).length), .v (I sh), .v (ints l), .v (gQ 1 x.2.1.length x.2.2.1)]])) ns (iM c x.2.2.2.1 x.2.2.2.2)) (fun x => aTR (par - sh) a12 (aT (aT (aT (aT (aT g7 m (.row 3 (OV.cells ([] ++ [[.v (.str [116]), .v (I par), .sl m5 5 eo]])))) n2 p9) nf (.row 3 [[.v (.str [116]), .v (I par), .v (.os m5 5 0 i)]])) n9 p9) ns p9) x) (fun x => x.1.toNat - x.2.1.length) (10, [], none, a12, aZL) ⟨by simp [dF, b6], aA.le_refl _, by omega, by simp only [List.length_nil]; omega, (fun x h => by cases h), rfl, by simp⟩ ?_
     exact key.get
   case t =>
    rintro ⟨tk, ts, ot, a13, aD8⟩ hts
    obtain ⟨⟨tk0, tk1⟩, htl, htx, hto, hta⟩ := id hts
    simp only at htl htx hto hta tk0 tk1 ⊢
    have wsub : IntKind.i64.wrap (par - sh) = par - sh := IntWalk.i64_in _ (by omega)
    have aZM : OR aS.o ([] ++ [⟨[116], par, outs⟩]) ([] ++ [[.v (.str [116]), .v (I par), .sl m5 5 eo]]) := OR.append hor ⟨aZA, trivial⟩
    have aPJ : fM B (OV.cC ([] ++ [[.v (.str [116]), .v (I par), .sl m5 5 eo]])) g7 := fM.snoc hnew (by simpa only [OV.fD, OV.jG, OV.rO, List.nil_append, List.append_nil] using w7)
    have aPK : ([] : List aS).length + 1 = ([] ++ [[.v (.str [116]), .v (I par), .sl m5 5 eo]] : List (List OV)).length := by have := hor.length; simp only [List.length_append, List.length_singleton] at this ⊢; omega
    have hot : ∀ q, ot = some q → ¬ q = ns ∧ ¬ q = n9 ∧ ¬ q = nf ∧ ¬ q = n2 ∧ ¬ q = m ∧ g7 q = none := fun q e => by
     subst e
     rw [aV] at hto
     exact aJY hto
    cases ot with
    |none =>
     rw [bH] at hto
     subst hto
     simp -dsimp -implicitDefEqProofs only [go_sem, ↓reduceIte, Tryz.f22, dK, eE, hQ, fU, dM, bT, cU, bB, eD, bS, eT, dU, hH, cT, eQ, dR, fT, bA, dV, dT, aC, aL, Option.toArray_none, Option.toArray_some, List.filterMap_cons, List.filterMap_nil, List.elem_cons_self, List.nil_append, List.append_nil, List.toList_toArray, aQ, iY, wsub]
     refine ⟨fun hlt => ?_, fun hge => ?_⟩
     ·refine aH.eM (rF (a := a13) (sd := aD8) hc hl (par - sh) (by omega) (by rw [aC _ _ _ _ eK, aC _ _ _ _ nS, aC _ _ _ _ mB, aC _ _ _ _ fR]; exact wns) (by omega)) ?_
      rintro r_ h' ⟨x, a14, aRG, hxl, hxn, rfl, a99, rfl⟩
      simp -dsimp -implicitDefEqProofs only [go_sem, ↓reduceIte, Tryz.f22, dK, eE, hQ, fU, dM, bT, cU, bB, eD, bS, eT, dU, hH, cT, eQ, dR, fT, bA, dV, dT, aC, Option.toArray_none, Option.toArray_some, List.filterMap_cons, List.filterMap_nil, List.elem_cons_self, List.nil_append, List.append_nil, List.toList_toArray]
      refine ⟨by decide, by decide, by decide, fun mt hmt => ?_⟩
      obtain ⟨t1, t2, t3, t4, t5, t6⟩ := hmt
      have pZ : ¬ mt = ns := t1
      have sG : ¬ ns = mt := Ne.symm pZ
      have nV : (mt = ns) = False := eq_false pZ
      have nW : (ns = mt) = False := eq_false sG
      have p0 : ¬ mt = n9 := t2
      have xJ : ¬ n9 = mt := Ne.symm p0
      have nX : (mt = n9) = False := eq_false p0
      have nY : (n9 = mt) = False := eq_false xJ
      have p5 : ¬ mt = nf := t3
      have xK : ¬ nf = mt := Ne.symm p5
      have nZ : (mt = nf) = False := eq_false p5
      have oA : (nf = mt) = False := eq_false xK
      have p6 : ¬ mt = n2 := t4
      have xL : ¬ n2 = mt := Ne.symm p6
      have oB : (mt = n2) = False := eq_false p6
      have oC : (n2 = mt) = False := eq_false xL
      have tL : ¬ mt = m := t5
      have aA0 : ¬ m = mt := Ne.symm tL
      have qQ : (mt = m) = False := eq_false tL
      have qR : (m = mt) = False := eq_false aA0
      simp -dsimp -implicitDefEqProofs only [go_sem, ↓reduceIte, Tryz.f22, dK, eE, hQ, fU, oC, dM, bT, cU, bB, nW, eD, bS, eT, dU, oA, hH, cT, eQ, dR, qR, fT, bA, dV, dT, nY, oB, nV, nZ, qQ, nX, aC, aL, Option.toArray_none, Option.toArray_some, List.filterMap_cons, List.filterMap_nil, List.elem_cons_self, List.nil_append, List.append_nil, List.toList_toArray]
      refine ⟨(tk, [x], some mt, a14, aRG), ⟨rfl, IntWalk.i64_in _ (by omega)⟩, ?_, ⟨⟨tk0, tk1⟩, by simp only [List.length_singleton, List.length_nil] at hlt ⊢; omega, (fun y hy => by cases hy with | head => exact ⟨hxl, hxn⟩ | tail _ h => cases h), zS ⟨t1, t2, t3, t4, t5, t6⟩, by simp only [List.length_singleton, List.length_nil] at hta ⊢; omega⟩, by simp only [List.length_singleton, List.length_nil] at hlt ⊢; omega⟩
      intro q_
      simp only [aL, aJ, bE, vW, List.length_singleton, List.map_cons, List.map_nil]
      grind
     ·simp -dsimp -implicitDefEqProofs only [go_sem, ↓reduceIte, Tryz.f22, dK, eE, hQ, fU, dM, bT, cU, bB, eD, bS, eT, dU, hH, cT, eQ, dR, fT, bA, dV, dT, aC, aL, Option.toArray_none, Option.toArray_some, List.filterMap_cons, List.filterMap_nil, List.elem_cons_self, List.nil_append, List.append_nil, List.toList_toArray, p9]
      exact ⟨_, _, aFN (X := iM c a13 aD8) (ot := none) (ts := []) aZM aPJ dm wns am aPK rfl (fun q e => by cases e) (by
       intro q_
       simp only [aL, aQ]
       grind), _, a13, aD8, aCL hdr (by omega) (by omega) (by omega) hgd (by omega) (by omega) hnl (by simp) (fun y hy => by cases hy), rfl, by omega, rfl⟩
    |some mt =>
     obtain ⟨t1, t2, t3, t4, t5, t6⟩ := hot mt rfl
     have pZ : ¬ mt = ns := t1
     have sG : ¬ ns = mt := Ne.symm pZ
     have nV : (mt = ns) = False := eq_false pZ
     have nW : (ns = mt) = False := eq_false sG
     have p0 : ¬ mt = n9 := t2
     have xJ : ¬ n9 = mt := Ne.symm p0
     have nX : (mt = n9) = False := eq_false p0
     have nY : (n9 = mt) = False := eq_false xJ
     have p5 : ¬ mt = nf := t3
     have xK : ¬ nf = mt := Ne.symm p5
     have nZ : (mt = nf) = False := eq_false p5
     have oA : (nf = mt) = False := eq_false xK
     have p6 : ¬ mt = n2 := t4
     have xL : ¬ n2 = mt := Ne.symm p6
     have oB : (mt = n2) = False := eq_false p6
     have oC : (n2 = mt) = False := eq_false xL
     have tL : ¬ mt = m := t5
     have aA0 : ¬ m = mt := Ne.symm tL
     have qQ : (mt = m) = False := eq_false tL
     have qR : (m = mt) = False := eq_false aA0
     simp -dsimp -implicitDefEqProofs only [go_sem, ↓reduceIte, Tryz.f22, dK, eE, hQ, fU, oC, dM, bT, cU, bB, nW, eD, bS, eT, dU, oA, hH, cT, eQ, dR, qR, fT, bA, dV, dT, nY, oB, nV, nZ, qQ, nX, aC, aL, Option.toArray_none, Option.toArray_some, List.filterMap_cons, List.filterMap_nil, List.elem_cons_self, List.nil_append, List.append_nil, List.toList_toArray, aJ, bE, wsub]
     refine ⟨fun hlt => ?_, fun hge => ?_⟩
     ·refine aH.eM (rF (a := a13) (sd := aD8) hc hl (par - sh) (by omega) (by rw [aC _ _ _ _ eK, aC _ _ _ _ sG, aC _ _ _ _ nS, aC _ _ _ _ mB, aC _ _ _ _ fR]; exact wns) (by omega)) ?_
      rintro r_ h' ⟨x, a14, aRG, hxl, hxn, rfl, a99, rfl⟩
      simp -dsimp -implicitDefEqProofs only [go_sem, ↓reduceIte, Tryz.f22, dK, eE, hQ, fU, oC, dM, bT, cU, bB, nW, eD, bS, eT, dU, oA, hH, cT, eQ, dR, qR, fT, bA, dV, dT, nY, oB, nV, nZ, qQ, nX, aC, Option.toArray_none, Option.toArray_some, List.filterMap_cons, List.filterMap_nil, List.elem_cons_self, List.nil_append, List.append_nil, List.toList_toArray, vW]
      refine ⟨by decide, by decide, by decide, Nat.le_refl _, by omega, by omega, fun bt ⟨u1, u2, u3, u4, u5, u6, u7⟩ => ?_⟩
      have aCO : ¬ bt = ns := u1
      have aMM : ¬ ns = bt := Ne.symm aCO
      have aMN : (bt = ns) = False := eq_false aCO
      have aMO : (ns = bt) = False := eq_false aMM
      have aCP : ¬ bt = n9 := u2
      have aMP : ¬ n9 = bt := Ne.symm aCP
      have aMQ : (bt = n9) = False := eq_false aCP
      have aMR : (n9 = bt) = False := eq_false aMP
      have aCQ : ¬ bt = mt := u3
      have aMS : ¬ mt = bt := Ne.symm aCQ
      have aMT : (bt = mt) = False := eq_false aCQ
      have aMU : (mt = bt) = False := eq_false aMS
      have aCR : ¬ bt = nf := u4
      have aMV : ¬ nf = bt := Ne.symm aCR
      have aMW : (bt = nf) = False := eq_false aCR
      have aMX : (nf = bt) = False := eq_false aMV
      have aCS : ¬ bt = n2 := u5
      have aMY : ¬ n2 = bt := Ne.symm aCS
      have aMZ : (bt = n2) = False := eq_false aCS
      have aM0 : (n2 = bt) = False := eq_false aMY
      have aH6 : ¬ bt = m := u6
      have aRH : ¬ m = bt := Ne.symm aH6
      have aRI : (bt = m) = False := eq_false aH6
      have aRJ : (m = bt) = False := eq_false aRH
      simp -dsimp -implicitDefEqProofs only [go_sem, ↓reduceIte, Tryz.f22, dK, eE, hQ, fU, oC, aM0, dM, bT, cU, bB, nW, aMO, eD, bS, eT, dU, oA, aMX, hH, cT, eQ, dR, qR, aRJ, fT, bA, dV, dT, nY, aMR, oB, nV, nZ, qQ, nX, aMU, aMZ, aMN, aMW, aRI, aMQ, aMT, aC, aL, Option.toArray_none, Option.toArray_some, List.filterMap_cons, List.filterMap_nil, List.elem_cons_self, List.nil_append, List.append_nil, List.toList_toArray]
      have hln : (ts ++ [x]).length = ts.length + 1 := by simp
      have hgr : List.take ts.length ((ts.map fun x => [ints x]).map (List.map Cell.v)) ++ [[Cell.v (aD.sl 1 (x.map fun n => [I n]) false)]] = ((ts ++ [x]).map fun x => [ints x]).map (List.map .v) := fO (fun x : List Int => ints x) ts x
      refine ⟨(tk, ts ++ [x], some bt, a14, aRG), ⟨rfl, by rw [hln, IntWalk.i64_in _ (by omega)]; rfl⟩, ?_, ⟨⟨tk0, tk1⟩, by rw [hln]; omega, (fun y hy => by
       rcases List.mem_append.1 hy with hy | hy
       ·exact htx y hy
       ·rw [List.mem_singleton.1 hy]; exact ⟨hxl, hxn⟩), zS ⟨u1, u2, u4, u5, u6, u7⟩, by rw [hln]; omega⟩, by simp only [hln]; omega⟩
      intro q_
      simp only [aL, aJ, bE, vW, hln, hgr]
      grind
     ·simp -dsimp -implicitDefEqProofs only [go_sem, ↓reduceIte, Tryz.f22, dK, eE, hQ, fU, oC, dM, bT, cU, bB, nW, eD, bS, eT, dU, oA, hH, cT, eQ, dR, qR, fT, bA, dV, dT, nY, oB, nV, nZ, qQ, nX, aC, aL, Option.toArray_none, Option.toArray_some, List.filterMap_cons, List.filterMap_nil, List.elem_cons_self, List.nil_append, List.append_nil, List.toList_toArray, p9]
      exact ⟨_, _, aFN (X := iM c a13 aD8) (ot := some mt) (ts := ts) aZM aPJ dm wns am aPK (by rw [aV, aC _ _ _ _ t5]; exact t6) (fun q e => by cases e; exact t1) (by
       intro q_
       simp only [aL, aJ]
       grind), _, a13, aD8, aCL hdr (by omega) (by omega) (by omega) hgd (by omega) (by omega) hnl (by omega) htx, rfl, by omega, rfl⟩
  |some m0 =>
   rw [iJ] at hgs
   obtain ⟨g8, rfl, w8, z80⟩ := fM.under hgs w7
   obtain ⟨k3, k4, k5⟩ := hon m0 rfl
   have jI : ¬ m0 = ns := k3
   have kX : ¬ ns = m0 := Ne.symm jI
   have gO : (m0 = ns) = False := eq_false jI
   have gP : (ns = m0) = False := eq_false kX
   have aTV : ¬ m0 = n2 := k4
   have a36 : ¬ n2 = m0 := Ne.symm aTV
   have aFO : (m0 = n2) = False := eq_false aTV
   have aFP : (n2 = m0) = False := eq_false a36
   have aTW : ¬ m0 = n3 := k5
   have a37 : ¬ n3 = m0 := Ne.symm aTW
   have aFQ : (m0 = n3) = False := eq_false aTW
   have aFR : (n3 = m0) = False := eq_false a37
   simp only [aJ, bE] at *
   have k6 : ¬ m0 = nf := fun e => by rw [e, aG] at zf; cases zf
   have aCK : ¬ m0 = nf := k6
   have aMC : ¬ nf = m0 := Ne.symm aCK
   have uO : (m0 = nf) = False := eq_false aCK
   have uP : (nf = m0) = False := eq_false aMC
   simp only [aL, dK, m8, eE, aFP, dM, mE, bT, gP, m7, mD, nC, aFR, eD, bS, nB, uP, aFO, gO, aFQ, uO, if_false] at ws' wf' z78 z79
   simp -dsimp -implicitDefEqProofs only [go_sem, ↓reduceIte, Tryz.f22, dK, m8, eE, aFP, dM, mE, bT, gP, m7, mD, nC, aFR, eD, bS, nB, uP, aFO, gO, aFQ, uO, aC, aL, Option.toArray_none, Option.toArray_some, List.filterMap_cons, List.filterMap_nil, List.elem_cons_self, List.nil_append, List.append_nil, List.toList_toArray, cK]
   have ht : List.take fs.length (OV.cells es) = OV.cells es := List.take_of_length_le (by rw [cK]; have := hor.length; omega)
   refine ⟨by decide, by have := hor.length; omega, by omega, by omega, fun m qm => ?_⟩
   have fm : ¬ m = m0 := by grind
   have aAX : ¬ m = m0 := fm
   have aD4 : ¬ m0 = m := Ne.symm aAX
   have rR : (m = m0) = False := eq_false aAX
   have rS : (m0 = m) = False := eq_false aD4
   have am : ¬ m = ns := by grind
   have bm : ¬ m = n2 := by grind
   have cm : ¬ m = n3 := by grind
   have em : ¬ m = nf := by grind
   have dm : g8 m = none := by grind
   have eO : ¬ m = ns := am
   have fR : ¬ ns = m := Ne.symm eO
   have cT : (m = ns) = False := eq_false eO
   have cU : (ns = m) = False := eq_false fR
   have aH2 : ¬ m = n2 := bm
   have aRE : ¬ n2 = m := Ne.symm aH2
   have hH : (m = n2) = False := eq_false aH2
   have hQ : (n2 = m) = False := eq_false aRE
   have aH3 : ¬ m = n3 := cm
   have aRF : ¬ n3 = m := Ne.symm aH3
   have aH4 : (m = n3) = False := eq_false aH3
   have aH5 : (n3 = m) = False := eq_false aRF
   have kB : ¬ m = nf := em
   have o5 : ¬ nf = m := Ne.symm kB
   have eQ : (m = nf) = False := eq_false kB
   have eT : (nf = m) = False := eq_false o5
   simp -dsimp -implicitDefEqProofs only [go_sem, ↓reduceIte, Tryz.f22, dK, m8, eE, hQ, aFP, dM, mE, bT, cU, gP, m7, mD, nC, aH5, aFR, eD, bS, nB, eT, uP, hH, cT, aH4, eQ, rR, aFO, gO, aFQ, uO, rS, aC, aL, Option.toArray_none, Option.toArray_some, List.filterMap_cons, List.filterMap_nil, List.elem_cons_self, List.nil_append, List.append_nil, List.toList_toArray]
   refine fun _ => fun n9 q9 => ?_
   have a9' : ¬ n9 = ns := by grind
   have b9' : ¬ n9 = n2 := by grind
   have c9' : ¬ n9 = nf := by grind
   have d9' : ¬ n9 = m := by grind
   have e9' : ¬ n9 = n3 := by grind
   have z9' : g8 n9 = none := by grind
   have mY : ¬ n9 = ns := a9'
   have eK : ¬ ns = n9 := Ne.symm mY
   have bA : (n9 = ns) = False := eq_false mY
   have bB : (ns = n9) = False := eq_false eK
   have aCM : ¬ n9 = n2 := b9'
   have aMI : ¬ n2 = n9 := Ne.symm aCM
   have fT : (n9 = n2) = False := eq_false aCM
   have fU : (n2 = n9) = False := eq_false aMI
   have uN : ¬ n9 = nf := c9'
   have uM : ¬ nf = n9 := Ne.symm uN
   have dV : (n9 = nf) = False := eq_false uN
   have dU : (nf = n9) = False := eq_false uM
   have jQ : ¬ n9 = m := d9'
   have gL : ¬ m = n9 := Ne.symm jQ
   have dT : (n9 = m) = False := eq_false jQ
   have dR : (m = n9) = False := eq_false gL
   have aCN : ¬ n9 = n3 := e9'
   have aMJ : ¬ n3 = n9 := Ne.symm aCN
   have aMK : (n9 = n3) = False := eq_false aCN
   have aML : (n3 = n9) = False := eq_false aMJ
   have f9' : ¬ n9 = m0 := (by grind); have jD := eq_false f9'; have jC := eq_false (Ne.symm f9'); have wpar : IntKind.i64.wrap (par + 1) = par + 1 := IntWalk.i64_in _ (by omega)
   simp -dsimp -implicitDefEqProofs only [go_sem, ↓reduceIte, Tryz.f22, dK, m8, eE, hQ, fU, aFP, dM, mE, bT, cU, bB, gP, m7, mD, nC, aH5, aML, aFR, eD, bS, nB, eT, dU, uP, hH, cT, aH4, eQ, dR, rR, fT, bA, aMK, dV, dT, jD, aFO, gO, aFQ, uO, rS, jC, aC, aL, Option.toArray_none, Option.toArray_some, List.filterMap_cons, List.filterMap_nil, List.elem_cons_self, List.nil_append, List.append_nil, List.toList_toArray, wpar]
   have wfs : IntKind.i64.wrap ((((fs : List aS).length + 1 : Nat) : Int) - 1) = ((fs : List aS).length : Int) := by rw [IntWalk.i64_in _ (by omega)]; omega
   try simp only [List.length_nil, Nat.zero_add] at wfs
   refine aH.wk (g := aT (aT (aT (aT (aT g8 m (.row 3 (OV.cells (es ++ [[.v (.str [116]), .v (I par), .sl m5 5 eo]])))) n2 p9) nf (.row 3 [[.v (.str [116]), .v (I par), .v (.os m5 5 0 i)]])) n9 (.row 5 [[.v (.os m 3 0 ((fs : List aS).length + 1)), .v (I (fs : List aS).length), .v (I 0), .v .bI, .v .bI]])) ns (iM c a8 sd8)) (aA.j7 (by
    intro q_
    simp only [aL, gI, eA, cK, iQ, iR, OV.fH, OV.cG, OV.jS, OV.yK, List.nil_append, List.map_cons, List.map_nil, List.length_append, List.length_singleton, List.length_nil, hei, ht, wfs]
    grind)) ?_
   have wns : g8 ns = none := by grind
   refine aH.eM (mX (a := a8) (sd := sd8) hc hl (by omega) (par + 1) (by omega) (aG ..)) ?_
   rintro r_ h' ⟨sh, a9, sd9, rfl, s0, s1, -, ha9, rfl⟩
   have s1 := s1 (by omega)
   rw [aM]
   simp -dsimp -implicitDefEqProofs only [go_sem, ↓reduceIte, Tryz.f22, dK, eE, hQ, fU, dM, bT, cU, bB, eD, bS, eT, dU, hH, cT, eQ, dR, fT, bA, dV, dT, aC, aL, Option.toArray_none, Option.toArray_some, List.filterMap_cons, List.filterMap_nil, List.elem_cons_self, List.nil_append, List.append_nil, List.toList_toArray]
   simp only [bO eK, aM]
   refine aH.eM (rF (a := a9) (sd := sd9) hc hl sh (by omega) (by rw [aC _ _ _ _ eK, aC _ _ _ _ nS, aC _ _ _ _ mB, aC _ _ _ _ fR]; exact wns) (by omega)) ?_
   rintro r_ h' ⟨l, a10, a94, hll, hnl, rfl, bNC, rfl⟩
   simp -dsimp -implicitDefEqProofs only [go_sem, ↓reduceIte, Tryz.f22, dK, eE, hQ, fU, dM, bT, cU, bB, eD, bS, eT, dU, hH, cT, eQ, dR, fT, bA, dV, dT, aC, aL, Option.toArray_none, Option.toArray_some, List.filterMap_cons, List.filterMap_nil, List.elem_cons_self, List.nil_append, List.append_nil, List.toList_toArray]
   simp only [bO eK, aM]
   refine aH.eM (mX (a := a10) (sd := a94) hc hl (by omega) 5 (by omega) (aG ..)) ?_
   rintro r_ h' ⟨tc, a11, a95, rfl, tc0, tc1, -, bNE, rfl⟩
   have tc1 := tc1 (by omega)
   rw [aM]
   simp -dsimp -implicitDefEqProofs only [go_sem, ↓reduceIte, Tryz.f22, dK, eE, hQ, fU, dM, bT, cU, bB, eD, bS, eT, dU, hH, cT, eQ, dR, fT, bA, dV, dT, aC, aL, Option.toArray_none, Option.toArray_some, List.filterMap_cons, List.filterMap_nil, List.elem_cons_self, List.nil_append, List.append_nil, List.toList_toArray]
   refine aH.eM (aL1 (a := a11) (sd := a95) hc hl (by omega) 20 (by omega) (aG ..)) ?_
   rintro r_ h' ⟨b20, a12, aZL, rfl, bNG, rfl⟩
   rw [aM]
   apply aL7
   case m =>
    intro key
    cases b20
    ·simp -dsimp -implicitDefEqProofs only [go_sem, ↓reduceIte, Tryz.f22, dK, eE, hQ, fU, dM, bT, cU, bB, eD, bS, eT, dU, hH, cT, eQ, dR, fT, bA, dV, dT, aC, aL, Option.toArray_none, Option.toArray_some, List.filterMap_cons, List.filterMap_nil, List.elem_cons_self, List.nil_append, List.append_nil, List.toList_toArray]
     refine dA (keep := aD7) (ib := aVE) (mk := aVF) mix (by kernel_rfl) (fun x : JSt => [(0, .op ns 3 0 0), (2, .op n2 5 0 0), (4, .op nf 3 0 0), (9, .op n9 5 0 0), (10, I x.1), (11, I x.2.1.length)]) (fun x => aT (aT (cQ (aT (aT (aT g8 m (.row 3 (OV.cells (es ++ [[.v (.str [116]), .v (I par), .sl m5 5 eo]])))) n2 p9) nf (.row 3 [[.v (.str [116]), .v (I par), .v (.os m5 5 0 i)]])) (vW x.2.1) x.2.2.1) n9 (.row 5 [[.v (.os m 3 0 ((fs : List aS).length + 1)), .v (I (fs : List aS).length), .v (I sh), .v (ints l), .v (gQ 1 x.2.1.length x.2.2.1)]])) ns (iM c x.2.2.2.1 x.2.2.2.2)) (fun x => aTR (par - sh) a12 (aT (aT (aT (aT (aT g8 m (.row 3 (OV.cells (es ++ [[.v (.str [116]), .v (I par), .sl m5 5 eo]])))) n2 p9) nf (.row 3 [[.v (.str [116]), .v (I par), .v (.os m5 5 0 i)]])) n9 p9) ns p9) x) (fun x => x.1.toNat - x.2.1.length) (tc, [], none, a12, aZL) ⟨by simp [dF, b6], aA.le_refl _, by omega, by simp only [List.length_nil]; omega, (fun x h => by cases h), rfl, by simp⟩ ?_
     exact key.get
    ·simp -dsimp -implicitDefEqProofs only [go_sem, ↓reduceIte, Tryz.f22, dK, eE, hQ, fU, dM, bT, cU, bB, eD, bS, eT, dU, hH, cT, eQ, dR, fT, bA, dV, dT, aC, aL, Option.toArray_none, Option.toArray_some, List.filterMap_cons, List.filterMap_nil, List.elem_cons_self, List.nil_append, List.append_nil, List.toList_toArray]
     refine dA (keep := aD7) (ib := aVE) (mk := aVF) mix (by kernel_rfl) (fun x : JSt => [(0, .op ns 3 0 0), (2, .op n2 5 0 0), (4, .op nf 3 0 0), (9, .op n9 5 0 0), (10, I x.1), (11, I x.2.1.length)]) (fun x => aT (aT (cQ (aT (aT (aT g8 m (.row 3 (OV.cells (es ++ [[.v (.str [116]), .v (I par), .sl m5 5 eo]])))) n2 p9) nf (.row 3 [[.v (.str [116]), .v (I par), .v (.os m5 5 0 i)]])) (vW x.2.1) x.2.2.1) n9 (.row 5 [[.v (.os m 3 0 ((fs : List aS).length + 1)), .v (I (fs : List aS).length), .v (I sh), .v (ints l), .v (gQ 1 x.2.1.length x.2.2.1)]])) ns (iM c x.2.2.2.1 x.2.2.2.2)) (fun x => aTR (par - sh) a12 (aT (aT (aT (aT (aT g8 m (.row 3 (OV.cells (es ++ [[.v (.str [116]), .v (I par), .sl m5 5 eo]])))) n2 p9) nf (.row 3 [[.v (.str [116]), .v (I par), .v (.os m5 5 0 i)]])) n9 p9) ns p9) x) (fun x => x.1.toNat - x.2.1.length) (10, [], none, a12, aZL) ⟨by simp [dF, b6], aA.le_refl _, by omega, by simp only [List.length_nil]; omega, (fun x h => by cases h), rfl, by simp⟩ ?_
     exact key.get
   case t =>
    rintro ⟨tk, ts, ot, a13, aD8⟩ hts
    obtain ⟨⟨tk0, tk1⟩, htl, htx, hto, hta⟩ := id hts
    simp only at htl htx hto hta tk0 tk1 ⊢
    have wsub : IntKind.i64.wrap (par - sh) = par - sh := IntWalk.i64_in _ (by omega)
    have aZM : OR aS.o (fs ++ [⟨[116], par, outs⟩]) (es ++ [[.v (.str [116]), .v (I par), .sl m5 5 eo]]) := OR.append hor ⟨aZA, trivial⟩
    have aPJ : fM B (OV.cC (es ++ [[.v (.str [116]), .v (I par), .sl m5 5 eo]])) g8 := fM.snoc hnew (by simpa only [OV.fD, OV.jG, OV.rO, List.nil_append, List.append_nil] using w8)
    have aPK : (fs : List aS).length + 1 = (es ++ [[.v (.str [116]), .v (I par), .sl m5 5 eo]] : List (List OV)).length := by have := hor.length; simp only [List.length_append, List.length_singleton] at this ⊢; omega
    have hot : ∀ q, ot = some q → ¬ q = ns ∧ ¬ q = n9 ∧ ¬ q = nf ∧ ¬ q = n2 ∧ ¬ q = m ∧ g8 q = none := fun q e => by
     subst e
     rw [aV] at hto
     exact aJY hto
    cases ot with
    |none =>
     rw [bH] at hto
     subst hto
     simp -dsimp -implicitDefEqProofs only [go_sem, ↓reduceIte, Tryz.f22, dK, eE, hQ, fU, dM, bT, cU, bB, eD, bS, eT, dU, hH, cT, eQ, dR, fT, bA, dV, dT, aC, aL, Option.toArray_none, Option.toArray_some, List.filterMap_cons, List.filterMap_nil, List.elem_cons_self, List.nil_append, List.append_nil, List.toList_toArray, aQ, iY, wsub]
     refine ⟨fun hlt => ?_, fun hge => ?_⟩
     ·refine aH.eM (rF (a := a13) (sd := aD8) hc hl (par - sh) (by omega) (by rw [aC _ _ _ _ eK, aC _ _ _ _ nS, aC _ _ _ _ mB, aC _ _ _ _ fR]; exact wns) (by omega)) ?_
      rintro r_ h' ⟨x, a14, aRG, hxl, hxn, rfl, a99, rfl⟩
      simp -dsimp -implicitDefEqProofs only [go_sem, ↓reduceIte, Tryz.f22, dK, eE, hQ, fU, dM, bT, cU, bB, eD, bS, eT, dU, hH, cT, eQ, dR, fT, bA, dV, dT, aC, Option.toArray_none, Option.toArray_some, List.filterMap_cons, List.filterMap_nil, List.elem_cons_self, List.nil_append, List.append_nil, List.toList_toArray]
      refine ⟨by decide, by decide, by decide, fun mt hmt => ?_⟩
      obtain ⟨t1, t2, t3, t4, t5, t6⟩ := hmt
      have pZ : ¬ mt = ns := t1
      have sG : ¬ ns = mt := Ne.symm pZ
      have nV : (mt = ns) = False := eq_false pZ
      have nW : (ns = mt) = False := eq_false sG
      have p0 : ¬ mt = n9 := t2
      have xJ : ¬ n9 = mt := Ne.symm p0
      have nX : (mt = n9) = False := eq_false p0
      have nY : (n9 = mt) = False := eq_false xJ
      have p5 : ¬ mt = nf := t3
      have xK : ¬ nf = mt := Ne.symm p5
      have nZ : (mt = nf) = False := eq_false p5
      have oA : (nf = mt) = False := eq_false xK
      have p6 : ¬ mt = n2 := t4
      have xL : ¬ n2 = mt := Ne.symm p6
      have oB : (mt = n2) = False := eq_false p6
      have oC : (n2 = mt) = False := eq_false xL
      have tL : ¬ mt = m := t5
      have aA0 : ¬ m = mt := Ne.symm tL
      have qQ : (mt = m) = False := eq_false tL
      have qR : (m = mt) = False := eq_false aA0
      simp -dsimp -implicitDefEqProofs only [go_sem, ↓reduceIte, Tryz.f22, dK, eE, hQ, fU, oC, dM, bT, cU, bB, nW, eD, bS, eT, dU, oA, hH, cT, eQ, dR, qR, fT, bA, dV, dT, nY, oB, nV, nZ, qQ, nX, aC, aL, Option.toArray_none, Option.toArray_some, List.filterMap_cons, List.filterMap_nil, List.elem_cons_self, List.nil_append, List.append_nil, List.toList_toArray]
      refine ⟨(tk, [x], some mt, a14, aRG), ⟨rfl, IntWalk.i64_in _ (by omega)⟩, ?_, ⟨⟨tk0, tk1⟩, by simp only [List.length_singleton, List.length_nil] at hlt ⊢; omega, (fun y hy => by cases hy with | head => exact ⟨hxl, hxn⟩ | tail _ h => cases h), zS ⟨t1, t2, t3, t4, t5, t6⟩, by simp only [List.length_singleton, List.length_nil] at hta ⊢; omega⟩, by simp only [List.length_singleton, List.length_nil] at hlt ⊢; omega⟩
      intro q_
      simp only [aL, aJ, bE, vW, List.length_singleton, List.map_cons, List.map_nil]
      grind
     ·simp -dsimp -implicitDefEqProofs only [go_sem, ↓reduceIte, Tryz.f22, dK, eE, hQ, fU, dM, bT, cU, bB, eD, bS, eT, dU, hH, cT, eQ, dR, fT, bA, dV, dT, aC, aL, Option.toArray_none, Option.toArray_some, List.filterMap_cons, List.filterMap_nil, List.elem_cons_self, List.nil_append, List.append_nil, List.toList_toArray, p9]
      exact ⟨_, _, aFN (X := iM c a13 aD8) (ot := none) (ts := []) aZM aPJ dm wns am aPK rfl (fun q e => by cases e) (by
       intro q_
       simp only [aL, aQ]
       grind), _, a13, aD8, aCL hdr (by omega) (by omega) (by omega) hgd (by omega) (by omega) hnl (by simp) (fun y hy => by cases hy), rfl, by omega, rfl⟩
    |some mt =>
     obtain ⟨t1, t2, t3, t4, t5, t6⟩ := hot mt rfl
     have pZ : ¬ mt = ns := t1
     have sG : ¬ ns = mt := Ne.symm pZ
     have nV : (mt = ns) = False := eq_false pZ
     have nW : (ns = mt) = False := eq_false sG
     have p0 : ¬ mt = n9 := t2
     have xJ : ¬ n9 = mt := Ne.symm p0
     have nX : (mt = n9) = False := eq_false p0
     have nY : (n9 = mt) = False := eq_false xJ
     have p5 : ¬ mt = nf := t3
     have xK : ¬ nf = mt := Ne.symm p5
     have nZ : (mt = nf) = False := eq_false p5
     have oA : (nf = mt) = False := eq_false xK
     have p6 : ¬ mt = n2 := t4
     have xL : ¬ n2 = mt := Ne.symm p6
     have oB : (mt = n2) = False := eq_false p6
     have oC : (n2 = mt) = False := eq_false xL
     have tL : ¬ mt = m := t5
     have aA0 : ¬ m = mt := Ne.symm tL
     have qQ : (mt = m) = False := eq_false tL
     have qR : (m = mt) = False := eq_false aA0
     simp -dsimp -implicitDefEqProofs only [go_sem, ↓reduceIte, Tryz.f22, dK, eE, hQ, fU, oC, dM, bT, cU, bB, nW, eD, bS, eT, dU, oA, hH, cT, eQ, dR, qR, fT, bA, dV, dT, nY, oB, nV, nZ, qQ, nX, aC, aL, Option.toArray_none, Option.toArray_some, List.filterMap_cons, List.filterMap_nil, List.elem_cons_self, List.nil_append, List.append_nil, List.toList_toArray, aJ, bE, wsub]
     refine ⟨fun hlt => ?_, fun hge => ?_⟩
     ·refine aH.eM (rF (a := a13) (sd := aD8) hc hl (par - sh) (by omega) (by rw [aC _ _ _ _ eK, aC _ _ _ _ sG, aC _ _ _ _ nS, aC _ _ _ _ mB, aC _ _ _ _ fR]; exact wns) (by omega)) ?_
      rintro r_ h' ⟨x, a14, aRG, hxl, hxn, rfl, a99, rfl⟩
      simp -dsimp -implicitDefEqProofs only [go_sem, ↓reduceIte, Tryz.f22, dK, eE, hQ, fU, oC, dM, bT, cU, bB, nW, eD, bS, eT, dU, oA, hH, cT, eQ, dR, qR, fT, bA, dV, dT, nY, oB, nV, nZ, qQ, nX, aC, Option.toArray_none, Option.toArray_some, List.filterMap_cons, List.filterMap_nil, List.elem_cons_self, List.nil_append, List.append_nil, List.toList_toArray, vW]
      refine ⟨by decide, by decide, by decide, Nat.le_refl _, by omega, by omega, fun bt ⟨u1, u2, u3, u4, u5, u6, u7⟩ => ?_⟩
      have aCO : ¬ bt = ns := u1
      have aMM : ¬ ns = bt := Ne.symm aCO
      have aMN : (bt = ns) = False := eq_false aCO
      have aMO : (ns = bt) = False := eq_false aMM
      have aCP : ¬ bt = n9 := u2
      have aMP : ¬ n9 = bt := Ne.symm aCP
      have aMQ : (bt = n9) = False := eq_false aCP
      have aMR : (n9 = bt) = False := eq_false aMP
      have aCQ : ¬ bt = mt := u3
      have aMS : ¬ mt = bt := Ne.symm aCQ
      have aMT : (bt = mt) = False := eq_false aCQ
      have aMU : (mt = bt) = False := eq_false aMS
      have aCR : ¬ bt = nf := u4
      have aMV : ¬ nf = bt := Ne.symm aCR
      have aMW : (bt = nf) = False := eq_false aCR
      have aMX : (nf = bt) = False := eq_false aMV
      have aCS : ¬ bt = n2 := u5
      have aMY : ¬ n2 = bt := Ne.symm aCS
      have aMZ : (bt = n2) = False := eq_false aCS
      have aM0 : (n2 = bt) = False := eq_false aMY
      have aH6 : ¬ bt = m := u6
      have aRH : ¬ m = bt := Ne.symm aH6
      have aRI : (bt = m) = False := eq_false aH6
      have aRJ : (m = bt) = False := eq_false aRH
      simp -dsimp -implicitDefEqProofs only [go_sem, ↓reduceIte, Tryz.f22, dK, eE, hQ, fU, oC, aM0, dM, bT, cU, bB, nW, aMO, eD, bS, eT, dU, oA, aMX, hH, cT, eQ, dR, qR, aRJ, fT, bA, dV, dT, nY, aMR, oB, nV, nZ, qQ, nX, aMU, aMZ, aMN, aMW, aRI, aMQ, aMT, aC, aL, Option.toArray_none, Option.toArray_some, List.filterMap_cons, List.filterMap_nil, List.elem_cons_self, List.nil_append, List.append_nil, List.toList_toArray]
      have hln : (ts ++ [x]).length = ts.length + 1 := by simp
      have hgr : List.take ts.length ((ts.map fun x => [ints x]).map (List.map Cell.v)) ++ [[Cell.v (aD.sl 1 (x.map fun n => [I n]) false)]] = ((ts ++ [x]).map fun x => [ints x]).map (List.map .v) := fO (fun x : List Int => ints x) ts x
      refine ⟨(tk, ts ++ [x], some bt, a14, aRG), ⟨rfl, by rw [hln, IntWalk.i64_in _ (by omega)]; rfl⟩, ?_, ⟨⟨tk0, tk1⟩, by rw [hln]; omega, (fun y hy => by
       rcases List.mem_append.1 hy with hy | hy
       ·exact htx y hy
       ·rw [List.mem_singleton.1 hy]; exact ⟨hxl, hxn⟩), zS ⟨u1, u2, u4, u5, u6, u7⟩, by rw [hln]; omega⟩, by simp only [hln]; omega⟩
      intro q_
      simp only [aL, aJ, bE, vW, hln, hgr]
      grind
     ·simp -dsimp -implicitDefEqProofs only [go_sem, ↓reduceIte, Tryz.f22, dK, eE, hQ, fU, oC, dM, bT, cU, bB, nW, eD, bS, eT, dU, oA, hH, cT, eQ, dR, qR, fT, bA, dV, dT, nY, oB, nV, nZ, qQ, nX, aC, aL, Option.toArray_none, Option.toArray_some, List.filterMap_cons, List.filterMap_nil, List.elem_cons_self, List.nil_append, List.append_nil, List.toList_toArray, p9]
      exact ⟨_, _, aFN (X := iM c a13 aD8) (ot := some mt) (ts := ts) aZM aPJ dm wns am aPK (by rw [aV, aC _ _ _ _ t5]; exact t6) (fun q e => by cases e; exact t1) (by
       intro q_
       simp only [aL, aJ]
       grind), _, a13, aD8, aCL hdr (by omega) (by omega) (by omega) hgd (by omega) (by omega) hnl (by omega) htx, rfl, by omega, rfl⟩
@[go_sem] def bHL : List Nat := [0, 2, 3]
@[go_sem] def ib6 : List Nat := []
@[go_sem] def mk6 : Marks := fun _ => ([], .nil, [])
theorem a38 {c : List Int} (hc : ∀ x ∈ c, InB x) (hl : c.length ≤ 4096) {g : aA} : fF Tryz.prog 6 [.sl 1 (c.map fun n => [.int .u8 n]) false] g fun r h' => ∃ j, aMD j ∧ r = .agg j.c ∧ h' = g := by
 refine aBJ 8 bHL ib6 mk6 mix Tryz.func6 rfl (by kernel_rfl) (by simp) ?_
 simp -dsimp -implicitDefEqProofs only [go_sem, ↓reduceIte, Tryz.f6]
 intro n2 q2
 refine aH.eM (aZF c) ?_
 rintro r_ h' ⟨ns, rfl, hns, rfl⟩
 have k1 : ¬ n2 = ns := fun e => by rw [e, aG] at hns; cases hns
 have zT : ¬ n2 = ns := k1
 have mB : ¬ ns = n2 := Ne.symm zT
 have dK : (n2 = ns) = False := eq_false zT
 have dM : (ns = n2) = False := eq_false mB
 simp -dsimp -implicitDefEqProofs only [go_sem, ↓reduceIte, Tryz.f6]
 refine aH.eM (aZK (a := 0) (sd := 0) hc hl hns (by omega)) ?_
 rintro r_ h' ⟨j, a', sd', hj, rfl, ha', rfl⟩
 have ef : (aD.agg j.c) = .agg [eI 3 aS.c j.aU.aI, I j.cO, I j.bK, eI 1 (fun n => [I n]) j.cJ, eI 1 (fun x => [eI 1 (fun n => [I n]) x]) j.cP] := by rw [eU.aR]
 rw [ef]
 simp -dsimp -implicitDefEqProofs only [go_sem, ↓reduceIte, Tryz.f6, dK, dM, aC, aL]
 refine ⟨g, ?_, j, hj, by rw [ef], rfl⟩
 rw [aC _ _ _ _ mB] at hns
 intro q_
 simp only [aL]
 grind
open Go.Proofs
set_option linter.unusedVariables false
set_option linter.unusedSimpArgs false
open Go.Proofs
set_option linter.unusedVariables false
set_option linter.unusedSimpArgs false
set_option maxRecDepth 100000
open Go.Proofs
set_option linter.unusedVariables false
set_option linter.unusedSimpArgs false
theorem aTX (j : eU) (k : Int) (hs : j.s ≤ 1048576) : gV Tryz.prog 11 [.agg j.c, I k] (.kL [.agg (qS j k).1.c, I (qS j k).2]) := QA.a7C (a8W j k hs) (fun _ he => lI.aJD he) (aN6 [] [I (qS j k).2])
@[go_sem] def a6D : List Nat := [0, 1, 4, 5, 6, 7, 8, 9, 10, 11, 12, 13, 14, 15, 16, 17, 18, 19, 25, 58, 60, 72, 89, 91, 116, 120, 140]
@[go_sem] def ib3 : List Nat := []
@[go_sem] def mk3 : Marks := fun id => match id with | 28 => ([3, 5, 8, 12, 15], (.op 0 (.op 1 (.op 2 (.op 4 (.op 6 (.op 3 (.op 5 (.op 7 (.op 8 (.op 9 (.op 10 (.op 11 (.op 13 (.op 12 (.op 14 (.op 15 (.op 16 (.op 17 .nil)))))))))))))))))), []) | _ => ([], .nil, [])
set_option maxHeartbeats 4000000 in
theorem bAA {c : List Int} (hc : ∀ x ∈ c, InB x) {d : List Int} (hd : ∀ x ∈ d, InB x) : gV Tryz.prog 3 [.sl 1 (c.map fun n => [.int .u8 n]) false, .sl 1 (d.map fun n => [.int .u8 n]) false] (.bool true) := by
 have k7 := a6C c
 have kE := a6C d
 refine gD 141 a6D ib3 mk3 mix Tryz.func3 rfl (by kernel_rfl) (by simp) fun h => ?_
 simp -dsimp -implicitDefEqProofs only [go_sem, ↓reduceIte, Tryz.f3]
 first | refine aH.mk (k7) ?_ | refine aF.mk (k7) ?_ | refine aH.bY (k7) ?_ | refine aF.mk (bQ.fJ (k7)) ?_
 simp -dsimp -implicitDefEqProofs only [go_sem, ↓reduceIte, Tryz.f3]
 intro n1
 first | refine aH.mk (kE) ?_ | refine aF.mk (kE) ?_ | refine aH.bY (kE) ?_ | refine aF.mk (bQ.fJ (kE)) ?_
 simp -dsimp -implicitDefEqProofs only [go_sem, ↓reduceIte, Tryz.f3]
 refine fun n2 => ?_
 have hlc : c.length ≤ 4096 := by omega
 have hld : d.length ≤ 4096 := by omega
 refine aH.eM (a38 hc hlc) ?_
 rintro r_ h' ⟨j, ⟨hj, hjs⟩, rfl, rfl⟩
 obtain ⟨G, eG, hf, hG, ok⟩ := qN hj
 have htl : j.cP.length ≤ 10 := by have := ok.2.2.1; omega
 have hpl : j.cJ.length ≤ 12 ∧ fG j.cJ := ⟨by have := ok.1; have := ok.2.1.1; omega, ok.2.1.2⟩
 rw [eU.aR]
 simp -dsimp -implicitDefEqProofs only [go_sem, ↓reduceIte, Tryz.f3]
 intro n5 q5
 rw [aM]
 refine fun _ => ?_
 refine aH.eM (aZG hd hld j.cP.length (by omega)) ?_
 rintro r_ h' ⟨k, rfl, k0, k1, k2, rfl⟩
 simp -dsimp -implicitDefEqProofs only [go_sem, ↓reduceIte, Tryz.f3, aL]
 refine aH.eM (aZJ hd hld j.cJ hpl.2 (by omega)) ?_
 rintro r_ h' ⟨pt, hpt, npt, rfl, rfl⟩
 have hU := fun b => aUX j k b (by omega)
 have hV := aIT j k pt (by omega)
 have hW := aTX j k (by omega)
 simp only [eU.aR] at hU hV hW
 simp -dsimp -implicitDefEqProofs only [go_sem, ↓reduceIte, Tryz.f3, aL]
 first | refine aH.mk (hU pt) ?_ | refine aF.mk (hU pt) ?_ | refine aH.bY (hU pt) ?_ | refine aF.mk (bQ.fJ (hU pt)) ?_
 simp -dsimp -implicitDefEqProofs only [go_sem, ↓reduceIte, Tryz.f3, aL]
 first | refine aH.mk (hV) ?_ | refine aF.mk (hV) ?_ | refine aH.bY (hV) ?_ | refine aF.mk (bQ.fJ (hV)) ?_
 simp -dsimp -implicitDefEqProofs only [go_sem, ↓reduceIte, Tryz.f3, aL]
 have bHM : ∀ Y, h'.le (aT h' n5 Y) := fun Y => aA.aP q5 (aA.le_refl _)
 have hpts : (pt.length : Int) = j.bK := by have := ok.2.1.1; omega
 have bNH : (j.cJ.length : Int) = j.bK := ok.2.1.1
 rw [bne_self_eq_false]
 refine ⟨fun q => (by cases q), fun _ => ⟨fun h0 _ => ⟨?_, bHM _⟩, fun h0 => ?_⟩⟩
 ·refine Classical.byContradiction fun q => h0 ?_
  rw [vS hj ⟨⟨k0, by have := k1 (by omega); omega⟩, hpts, npt⟩]
 have hko : uW j k := Classical.byContradiction fun q => by
  rw [yW hj fun z => q z.1] at h0
  cases h0
 have hkl : k.toNat < j.cP.length := by have := hko.1; have := hko.2; omega
 have hself := hU j.cJ
 rw [vS hj ⟨hko, bNH, hpl.2⟩] at hself
 rw [aAQ hj hko] at hW
 simp only [lI.aR] at hW
 have hun := vS hj ⟨hko, hpts, npt⟩
 have hcode := aU6 hj hkl
 have hsame := aU7 hj hkl hpts npt
 have hus := aYW (j := j) k.toNat
 refine aH.mk hW ?_
 simp -dsimp -implicitDefEqProofs only [go_sem, ↓reduceIte, Tryz.f3]
 refine fun n12 ⟨d12, z12⟩ => ?_
 have aPM : ¬ n12 = n5 := d12
 have aZN : ¬ n5 = n12 := Ne.symm aPM
 have vX : (n12 = n5) = False := eq_false aPM
 have vY : (n5 = n12) = False := eq_false aZN
 rw [aM]
 simp -dsimp -implicitDefEqProofs only [go_sem, ↓reduceIte, Tryz.f3, vX, vY, aC, aL]
 first | refine aH.mk (hself) ?_ | refine aF.mk (hself) ?_ | refine aH.bY (hself) ?_ | refine aF.mk (bQ.fJ (hself)) ?_
 simp -dsimp -implicitDefEqProofs only [go_sem, ↓reduceIte, Tryz.f3, vX, vY, aC, aL]
 have a6E : ∀ Y Z, h'.le (aT (aT h' n5 Y) n12 Z) := fun Y Z => aA.aP z12 (bHM _)
 have hbne : (decide (aDX j k.toNat j.cJ) != decide ((lR j k.toNat).b7 = 0)) = false := by
  rw [decide_eq_decide.2 (hus.trans hcode.symm)]; exact bne_self_eq_false _
 rw [hbne]
 refine ⟨fun q => (by cases q), fun _ => ⟨fun _ => a6E _ _, fun hst n16 q16 => ?_⟩⟩
 have hu : aDX j k.toNat pt := by rw [hun] at hst; exact of_decide_eq_true hst
 obtain ⟨p1, p2, p3, p4⟩ := hsame hu
 have a16 : ¬ n16 = n12 := by grind
 have b16 : ¬ n16 = n5 := by grind
 have z16 : h' n16 = none := by grind
 have aJZ : ¬ n16 = n12 := a16
 have aVI : ¬ n12 = n16 := Ne.symm aJZ
 have zU : (n16 = n12) = False := eq_false aJZ
 have zV : (n12 = n16) = False := eq_false aVI
 have aPO : ¬ n16 = n5 := b16
 have aZO : ¬ n5 = n16 := Ne.symm aPO
 have aCT : (n16 = n5) = False := eq_false aPO
 have aCU : (n5 = n16) = False := eq_false aZO
 simp only [aM]
 have oI : (rY j pt).s ≤ 1048576 := by
  have h1 := (rY j pt).tA
  have h2 := j.tA
  simp only [lC, rY] at h1 h2
  rw [show (rY j pt).s = (⟨j.aU, j.cO, j.bK, pt, j.cP⟩ : eU).s from rfl]
  omega
 have hW2 := aTX (rY j pt) k oI
 rw [aAQ (aPF hj hpts npt) hko, p1] at hW2
 simp only [eU.aR, lI.aR, rY] at hW2
 refine aH.mk hW2 ?_
 simp -dsimp -implicitDefEqProofs only [go_sem, ↓reduceIte, Tryz.f3]
 refine fun n17 ⟨a17, b17, c17, z17⟩ => ?_
 have aJ0 : ¬ n17 = n16 := a17
 have aVJ : ¬ n16 = n17 := Ne.symm aJ0
 have zW : (n17 = n16) = False := eq_false aJ0
 have zX : (n16 = n17) = False := eq_false aVJ
 have aJ1 : ¬ n17 = n12 := b17
 have aVK : ¬ n12 = n17 := Ne.symm aJ1
 have zY : (n17 = n12) = False := eq_false aJ1
 have zZ : (n12 = n17) = False := eq_false aVK
 have aPP : ¬ n17 = n5 := c17
 have aZP : ¬ n5 = n17 := Ne.symm aPP
 have aCV : (n17 = n5) = False := eq_false aPP
 have aCW : (n5 = n17) = False := eq_false aZP
 have hfp := a3Z (lR j k.toNat) (by omega)
 simp only [lI.aR] at hfp
 have hend : ∀ X Y Z W, h'.le (aT (aT (aT (aT h' n5 X) n12 Y) n16 Z) n17 W) := fun X Y Z W => aA.aP z17 (aA.aP z16 (a6E _ _))
 rw [aM]
 simp -dsimp -implicitDefEqProofs only [go_sem, ↓reduceIte, Tryz.f3, zW, zY, aCV, zX, zU, aCT, zZ, zV, vX, aCW, aCU, vY, aC, aL]
 first | refine aH.mk (hfp) ?_ | refine aF.mk (hfp) ?_ | refine aH.bY (hfp) ?_ | refine aF.mk (bQ.fJ (hfp)) ?_
 simp -dsimp -implicitDefEqProofs only [go_sem, ↓reduceIte, Tryz.f3, zW, zY, aCV, zX, zU, aCT, zZ, zV, vX, aCW, aCU, vY, aC, aL, p3]
 refine fun _ _ => ?_
 refine dA (keep := a6D) (ib := ib3) (mk := mk3) mix (by kernel_rfl) (fun i : Nat => [(5, .op n5 5 0 0), (7, ints pt), (12, .op n12 3 0 0), (19, I i)]) (fun _ => aT (aT (aT (aT h' n5 (.row 5 [[.v (eI 3 aS.c j.aU.aI), .v (I j.cO), .v (I j.bK), .v (ints j.cJ), .v (eI 1 (fun x => [ints x]) j.cP)]])) n12 (.row 3 [[.v (I (lR j k.toNat).b7), .v (I (lR j k.toNat).aAO), .v (ints (lR j k.toNat).vH)]])) n16 (.row 5 [[.v (eI 3 aS.c j.aU.aI), .v (I j.cO), .v (I j.bK), .v (ints pt), .v (eI 1 (fun x => [ints x]) j.cP)]])) n17 (.row 3 [[.v (I (lR j k.toNat).b7), .v (I (lR j k.toNat).aAO), .v (ints (lR j k.toNat).vH)]])) (fun i => i ≤ pt.length) (fun i => pt.length - i) 0 ⟨by simp [dF, b6], aA.le_refl _, Nat.zero_le _⟩ ?_
 intro i hi
 rcases Nat.lt_or_ge i pt.length with hlt | hge
 ·have e1 := cX hlt
  have e2 := cX (l := j.cJ) (i := i) (by omega)
  have e3 := cX (l := (lR j k.toNat).vH) (i := i) (by omega)
  have hz := p4 i hlt
  simp -dsimp -implicitDefEqProofs only [go_sem, ↓reduceIte, Tryz.f3, zW, zY, aCV, zX, zU, aCT, zZ, zV, vX, aCW, aCU, vY, aC, aL, hlt, e1, e2, e3, p3]
  have hnext : ∃ x' : Nat, IntKind.i64.wrap ((i : Int) + 1) = x' ∧ x' ≤ pt.length ∧ pt.length - x' < pt.length - i := ⟨i + 1, IntWalk.i64_in _ (by omega), hlt, by omega⟩
  exact fun _ => ⟨by omega, fun q => ⟨fun q2 => absurd (hz q) q2, fun _ => hnext⟩, fun _ => hnext⟩
 ·obtain rfl : i = pt.length := by omega
  simp -dsimp -implicitDefEqProofs only [go_sem, ↓reduceIte, Tryz.f3, zW, zY, aCV, zX, zU, aCT, zZ, zV, vX, aCW, aCU, vY, aC, aL, Nat.lt_irrefl, Int.lt_irrefl]
  exact fun _ => hend _ _ _ _
open Go.Proofs
set_option linter.unusedVariables false
set_option linter.unusedSimpArgs false
theorem aZQ {P : Program} {n : Nat} {t : TypeId} {xs : List aD} (hu : P.underlying t = some (.int .u8)) (h : Dat P n t xs) : ∃ i : Int, xs = [.int .u8 i] ∧ InB i := by
 match n, h with
 |0, h => exact h.elim
 |n + 1, h =>
  simp only [Dat, hu] at h
  obtain ⟨i, rfl, hw⟩ := h
  refine ⟨i, rfl, ?_⟩
  have h1 : IntKind.min .u8 = 0 := by decide
  have h2 : IntKind.max .u8 = 255 := by decide
  simp [Lit.wf, IntKind.has, h1, h2] at hw
  unfold InB
  omega
theorem aTZ {α : Type} {c : α → List aD} {w : α → Prop} : ∀ {es : List (List aD)}, (∀ y ∈ es, ∃ x, y = c x ∧ w x) → ∃ l : List α, es = l.map c ∧ ∀ x ∈ l, w x
 | [], _ => ⟨[], rfl, by simp⟩
 |e :: es, h => by
  obtain ⟨x, rfl, hx⟩ := h _ List.mem_cons_self
  obtain ⟨l, rfl, hl⟩ := aTZ fun y hy => h y (List.mem_cons_of_mem _ hy)
  refine ⟨x :: l, rfl, fun y hy => ?_⟩
  rcases List.mem_cons.1 hy with rfl | hy
  ·exact hx
  ·exact hl y hy
theorem aJ2 {P : Program} {n sz : Nat} {t e : TypeId} {α : Type} {c : α → List aD} {w : α → Prop} {xs : List aD} (hu : P.underlying t = some (.slice e)) (hc : P.cellsOf e = sz) (h : Dat P n t xs)
  (hx : ∀ m y, m < n → Dat P m e y → ∃ x, y = c x ∧ w x) : ∃ l : List α, xs = [eI sz c l] ∧ ∀ x ∈ l, w x := by
 match n, h with
 |0, h => exact h.elim
 |n + 1, h =>
  simp only [Dat, hu] at h
  obtain ⟨es, rfl, hes⟩ := h
  obtain ⟨l, rfl, hl⟩ := aTZ fun y hy => hx n y (by omega) (hes y hy)
  exact ⟨l, by rw [hc], hl⟩
theorem aZR : Tryz.prog.cellsOf 5 = 1 := by kernel_rfl
def bHN : List TypeId := [5, 22]
theorem a39 : aUC Tryz.prog bHN = true := by kernel_rfl
end Go.Hl

/-
  Contracts of functions and laws of the layer over the walk.
-/
import Derived.Test.YtgkipnacdihfnaaGreatVvF
import Derived.Test.YtgkipnacdihfnaaGreatVvB
import Derived.Test.YtgkipnacdihfnaaGreatVvD
namespace Go.Hl
set_option maxRecDepth 100000
open Go.Proofs
set_option linter.unusedVariables false
set_option linter.unusedSimpArgs false
def bJR (p : aE) (ns ng np : Nat) (c : List Int) (pl : Bool) (vars : Int) (dp : Nat) (B : aB) (R : Nat → Nat → Int → Prop) : aD → aB → Prop := fun r h' =>
 ∃ (x : aC) (e : List OV) (g' : aB) (a' : Nat) (sd' L' : Int), x.o e ∧ r = .agg (e.map OV.val) ∧ eU B (OV.bT e) g' ∧ (g' ns = none ∧ g' ng = none) ∧ h' = aR (aR g' ns (jG c a' sd')) ng (kV ns np L' pl) ∧
  x.ok p p.aI.length vars ∧ x.d ≤ dp + 1 ∧ R x.s a' L'
def a4O (p : aE) (ns ng np : Nat) (c : List Int) (pl : Bool) (vars : Int) (dp a : Nat) (L : Int) (B : aB) : aD → aB → Prop :=
 bJR p ns ng np c pl vars dp B fun s a' L' => (L' ≤ L - 1 ∧ L - (s + 1) ≤ L' ∧ s + 3 * mL L' ≤ 3 * mL L) ∧ (a ≤ a' ∧ a' ≤ a + 14 * (s + 1))
def aZ3 (p : aE) (ns ng np : Nat) (c : List Int) (pl : Bool) (vars : Int) (dp a : Nat) (L : Int) (B : aB) : aD → aB → Prop :=
 bJR p ns ng np c pl vars dp B fun s a' L' => (L' ≤ L ∧ L - s ≤ L' ∧ s + 3 * mL L' ≤ 3 * mL L + 3) ∧ (a ≤ a' ∧ a' ≤ a + 10 + 14 * s)
def bBO (dp a : Nat) (vars L : Int) : Prop := (0 ≤ vars ∧ vars + dp ≤ 1000) ∧ a + 42 * mL L + 100 * dp ≤ 800000000 ∧ (-2000000 + 10000 * (dp : Int) ≤ L ∧ L ≤ 1000)
def aZ4 (P : Program) (f : FuncId) (p : aE) (ns ng np : Nat) (c : List Int) (pl : Bool) (dp : Nat) : Prop := ∀ (vars : Int) (B : aB) (a : Nat) (sd L : Int), B ns = none → B ng = none → aBA p np B → bBO dp a vars L →
 iH P f [.op ng 4 0 0, I vars, I p.aI.length, I dp] (aR (aR B ns (jG c a sd)) ng (kV ns np L pl)) (a4O p ns ng np c pl vars dp a L B)
def a7M (P : Program) (f : FuncId) (p : aE) (ns ng np : Nat) (c : List Int) (pl : Bool) (dp : Nat) : Prop := ∀ (vars : Int) (B : aB) (a : Nat) (sd L : Int), B ns = none → B ng = none → aBA p np B → (0 ≤ vars ∧ vars + dp ≤ 1000) → a + 42 * mL L + 42 + 100 * dp ≤ 800000050 → (-2000000 + 10000 * (dp : Int) ≤ L ∧ L ≤ 1000 ∧ 1 ≤ L) →
 iH P f [.op ng 4 0 0, I vars, I p.aI.length, I dp] (aR (aR B ns (jG c a sd)) ng (kV ns np L pl)) (aZ3 p ns ng np c pl vars dp a L B)
def aF0 (p : aE) : Prop := ∀ f ∈ p.aI, (1 ≤ f.aW ∧ f.aW ≤ 3) ∧ (1 ≤ f.aQ.length ∧ f.aQ.length ≤ 3)
theorem aT4 {p : aE} {k n vars : Int} (h : (k = 1 ∧ jA n) ∨ (k = 2 ∧ 0 ≤ n ∧ n < vars)) : (aC.mk k n 0 0 []).ok p p.aI.length vars := by
 refine (aC.dB _ _ _ _).2 ⟨?_, fun j hj => by simp [aC.aN] at hj⟩
 rw [dO (by simp only [aC.aP]; omega)]
 simp only [aC.aP, aC.bC, aC.cR, aC.cD, aC.aN, List.length_nil]
 rcases h with ⟨rfl, h⟩ | ⟨rfl, h⟩
 ·exact ⟨rfl, trivial, trivial, fun _ => h, fun q => by omega, fun q => absurd rfl q⟩
 ·exact ⟨rfl, trivial, trivial, fun q => by omega, fun _ => by omega, fun _ q => absurd rfl q⟩
theorem aZ5 (k n : Int) : (aC.mk k n 0 0 []).d = 1 := by rw [aC.aXJ]; rfl
theorem aMC (k n : Int) : (aC.mk k n 0 0 []).s = 0 := by rw [aZJ]; rfl
theorem aH8 {p : aE} {ns ng np : Nat} {c : List Int} {pl : Bool} {vars : Int} {dp a : Nat} {L : Int} {B H : aB} {k n : Int} {a' : Nat} {sd' : Int} (h : (k = 1 ∧ jA n) ∨ (k = 2 ∧ 0 ≤ n ∧ n < vars)) (hB1 : B ns = none) (hB2 : B ng = none) (ha : a ≤ a' ∧ a' ≤ a + 14) (hle : (aR (aR B ns (jG c a' sd')) ng (kV ns np (L - 1) pl)).le H) :
  ∃ r1 g2, Shift (.agg [I k, I n, I 0, I 0, .bH]) H r1 g2 ∧ a4O p ns ng np c pl vars dp a L B r1 g2 := by
 refine ⟨_, _, Shift.of (aPN k n) hle, _, _, B, a', sd', L - 1, aZK k n, rfl, by rw [aJ2]; exact eU.nil B, ⟨hB1, hB2⟩, rfl, aT4 h, by rw [aZ5]; omega, ?_, by rw [aMC]; omega⟩
 rw [aMC]
 unfold mL
 omega
theorem aZ6 {p : aE} {ns ng np : Nat} {c : List Int} {pl : Bool} {vars : Int} {dp a : Nat} {L : Int} {B g' H : aB} {x : aC} {e : List OV} {a' : Nat} {sd' L' : Int} (hx : x.o e) (w : eU B (OV.bT e) g') (z : g' ns = none ∧ g' ng = none) (hok : x.ok p p.aI.length vars) (hd : x.d ≤ dp + 1)
  (hL : L' ≤ L - 1 ∧ (L - 1) - x.s ≤ L' ∧ x.s + 3 * mL L' ≤ 3 * mL (L - 1) + 3) (ha : a ≤ a' ∧ a' ≤ a + 14 * (x.s + 1)) (h1 : ¬ L - 1 < 1) (hle : (aR (aR g' ns (jG c a' sd')) ng (kV ns np L' pl)).le H) :
  ∃ r1 g2, Shift (.agg (e.map OV.val)) H r1 g2 ∧ a4O p ns ng np c pl vars dp a L B r1 g2 :=
 ⟨_, _, Shift.of (Sub.refl _) hle, x, e, g', a', sd', L', hx, rfl, w, z, rfl, hok, hd, ⟨by omega, by omega, by unfold mL at hL ⊢; omega⟩, ha⟩
abbrev GSt := Int × Nat × List aC × List (List OV) × aB × Option Nat × Nat × Int × Int
def zF (p : aE) (vars : Int) (dp a2 : Nat) (L : Int) (B : aB) (ns ng n8 n9 : Nat) : GSt → Prop := fun (K, i, kids, es, g1, o, a3, _, L3) =>
 (3 ≤ K ∧ K ≤ 9) ∧ i ≤ (dR K).toNat ∧ kids.length = i ∧ OR aC.o kids es ∧ eU B (OV.b6 es) g1 ∧ (g1 ns = none ∧ g1 ng = none ∧ g1 n8 = none ∧ g1 n9 = none) ∧ yZ g1 es o ∧ (∀ m, o = some m → ¬ m = ns ∧ ¬ m = ng ∧ ¬ m = n8 ∧ ¬ m = n9) ∧
  (∀ (j : Nat) (h : j < kids.length), kids[j].ok p p.aI.length (iX K j vars)) ∧ aC.dL kids ≤ dp ∧ (L3 ≤ L - 1 ∧ (L - 1) - qM aC.s kids ≤ L3 ∧ qM aC.s kids + 3 * mL L3 ≤ 3 * mL (L - 1) + i) ∧ (a2 ≤ a3 ∧ a3 ≤ a2 + 14 * qM aC.s kids)
theorem aMD (x : aC) : ∀ l : List aC, aC.dL (l ++ [x]) = max (aC.dL l) x.d
 | [] => by simp [aC.dL]
 |y :: l => by rw [List.cons_append, aC.dL, aC.dL, aMD x l]; omega
theorem zF.next {p : aE} {vars : Int} {dp a2 : Nat} {L : Int} {B : aB} {ns ng n8 n9 : Nat} {K : Int} {i : Nat} {kids : List aC} {es : List (List OV)} {g1 g5 : aB} {o : Option Nat} {a3 a5 : Nat} {sd3 sd5 L3 L5 : Int} {x : aC} {e : List OV} {m : Nat}
  (h : zF p vars dp a2 L B ns ng n8 n9 (K, i, kids, es, g1, o, a3, sd3, L3)) (hlt : (i : Int) < dR K) (hx : x.o e) (w : eU g1 (OV.bT e) g5) (z : g5 ns = none ∧ g5 ng = none ∧ g5 n8 = none ∧ g5 n9 = none) (hm : g5 m = none) (hm2 : ¬ m = ns ∧ ¬ m = ng ∧ ¬ m = n8 ∧ ¬ m = n9)
  (hok : x.ok p p.aI.length (iX K i vars)) (hd : x.d ≤ dp) (hL : L5 ≤ L3 - 1 ∧ L3 - (x.s + 1) ≤ L5 ∧ x.s + 3 * mL L5 ≤ 3 * mL L3) (ha : a3 ≤ a5 ∧ a5 ≤ a3 + 14 * (x.s + 1)) : zF p vars dp a2 L B ns ng n8 n9 (K, i + 1, kids ++ [x], es ++ [e], g5, some m, a5, sd5, L5) := by
 obtain ⟨hK, hi, hlen, hor, hnew, -, -, -, bBP, hdl, hL3, ha3⟩ := h
 refine ⟨hK, by omega, by rw [List.length_append, hlen]; rfl, OR.append hor ⟨hx, trivial⟩, eU.snoc hnew w, z, hm, fun b q => by cases q; exact hm2, fun j hj => ?_, by rw [aMD]; omega, ?_, ?_⟩
 ·rcases Nat.lt_or_ge j kids.length with h2 | h2
  ·rw [List.getElem_append_left h2]; exact bBP j h2
  ·obtain rfl : j = kids.length := by rw [List.length_append] at hj; simp at hj; omega
   rw [List.getElem_append_right (Nat.le_refl _)]
   simp only [Nat.sub_self, List.getElem_cons_zero]
   rw [hlen]; exact hok
 ·rw [aCQ]; refine ⟨by omega, by omega, by omega⟩
 ·rw [aCQ]; omega
theorem aZ7 {p : aE} {ns ng np : Nat} {c : List Int} {pl : Bool} {vars : Int} {dp a a2 : Nat} {L : Int} {B H : aB} {n8 n9 : Nat} {K : Int} {i : Nat} {kids : List aC} {es : List (List OV)} {g1 : aB} {o : Option Nat} {a3 : Nat} {sd3 L3 : Int}
  (h : zF p vars dp a2 L B ns ng n8 n9 (K, i, kids, es, g1, o, a3, sd3, L3)) (hi : (i : Int) = dR K) (ha : a ≤ a2 ∧ a2 ≤ a + 4) (h1 : ¬ L - 1 < 1) (hle : (aR (aR (cK g1 (.row 5 (OV.cells es)) o) ns (jG c a3 sd3)) ng (kV ns np L3 pl)).le H) :
  ∃ r1 g2, Shift (.agg [I K, I 0, I 0, I 0, jR 5 i o]) H r1 g2 ∧ a4O p ns ng np c pl vars dp a L B r1 g2 := by
 obtain ⟨hK, -, hlen, hor, hnew, ⟨zs, zg, -, -⟩, hgs, hon, hok, hdl, hL, ha3⟩ := h
 have hes : es.length = i := by rw [← hor.length]; exact hlen
 have hk3 : i ≤ 3 := by
  have : dR K ≤ 3 := by unfold dR; split <;> (try split) <;> (try split) <;> (try split) <;> omega
  omega
 rw [← hes]
 have hat : ∀ q, B q = B q := fun _ => rfl
 have z (q : Nat) (hq : g1 q = none) (hqo : ∀ m, o = some m → ¬ m = q) : cK g1 (.row 5 (OV.cells es)) o q = none := iL hq hqo
 refine ⟨_, _, Shift.of (Sub.agg (.cons (.refl _) (.cons (.refl _) (.cons (.refl _) (.cons (.refl _) (.cons aKX .nil)))))) hle, .mk K 0 0 0 kids, [.v (I K), .v (I 0), .v (I 0), .v (I 0), gov 5 es o], _, a3, sd3, L3, (aC.sH _ _).2 ⟨_, rfl, aHB hor hgs⟩, rfl,
  by simpa only [OV.dQ, OV.hU, OV.pD, List.nil_append, List.append_nil] using aB1 hnew hgs, ⟨z ns zs fun m e => (hon m e).1, z ng zg fun m e => (hon m e).2.1⟩, rfl, (aC.dB _ _ _ _).2 ⟨?_, hok⟩, by rw [aC.aXJ]; simp only [aC.aN]; omega, ?_, ?_⟩
 ·rw [dO (by simp only [aC.aP]; omega)]
  simp only [aC.aP, aC.bC, aC.cR, aC.cD, aC.aN]
  refine ⟨by omega, trivial, trivial, fun q => by omega, fun q => by omega, fun _ _ => trivial⟩
 ·rw [aZJ]; unfold mL at hL ⊢; refine ⟨by omega, by omega, by omega⟩
 ·rw [aZJ]; omega
theorem share {T G : Prop} (m : T → G) (t : T) : G := m t
@[go_sem] def zG : List Nat := [0, 1, 2, 3, 8, 9, 10, 11, 34, 43, 49, 52, 55, 58, 61, 65, 68, 86, 92, 102]
@[go_sem] def aPS : List Nat := [113]
@[go_sem] def aPT : Marks := fun id => match id with | 32 => ([1, 7, 9, 11], (.op 0 (.op 2 (.op 3 (.op 4 (.op 5 (.op 6 (.op 1 (.op 7 (.op 8 (.op 9 (.op 10 (.op 11 .nil)))))))))))), [(1, 7)]) | _ => ([], .nil, [])
set_option maxHeartbeats 8000000 in
theorem aH9 {p : aE} {ns ng np : Nat} {c : List Int} {pl : Bool} (hc : ∀ x ∈ c, InB x) (hl : c.length ≤ 4096) (hne : ¬ ns = ng) (hP : aF0 p) {dp : Nat} (ih : ∀ d, d + 1 = dp → aZ4 Tryz.prog 48 p ns ng np c pl d) (hcall : 1 ≤ dp → a7M Tryz.prog 81 p ns ng np c pl dp) : aZ4 Tryz.prog 48 p ns ng np c pl dp := by
 intro vars B a sd L hB1 hB2 hprog ⟨hv, ha, hL⟩
 have iD : ¬ ns = ng := hne
 have gS : ¬ ng = ns := Ne.symm iD
 have bF : (ns = ng) = False := eq_false iD
 have bG : (ng = ns) = False := eq_false gS
 have w1 : IntKind.i64.wrap (L - 1) = L - 1 := IntWalk.i64_in _ (by omega)
 refine j4 117 zG aPS aPT mix Tryz.func48 rfl (by kernel_rfl) (by simp) ?_
 simp -dsimp -implicitDefEqProofs only [go_sem, ↓reduceIte, Tryz.f48, kV]
 intro n8 q8
 have a8 : ¬ n8 = ng := by grind
 have b8 : ¬ n8 = ns := by grind
 have z8 : B n8 = none := by grind
 have aCT : ¬ n8 = ng := a8
 have jB : ¬ ng = n8 := Ne.symm aCT
 have cF : (n8 = ng) = False := eq_false aCT
 have cG : (ng = n8) = False := eq_false jB
 have uJ : ¬ n8 = ns := b8
 have gD : ¬ ns = n8 := Ne.symm uJ
 have bJ : (n8 = ns) = False := eq_false uJ
 have bK : (ns = n8) = False := eq_false gD
 simp -dsimp -implicitDefEqProofs only [go_sem, ↓reduceIte, Tryz.f48, cF, bJ, cG, bG, bK, bF, aA, aM, kV, Option.toArray_none, Option.toArray_some, List.filterMap_cons, List.filterMap_nil, List.elem_cons_self, List.nil_append, List.append_nil, List.toList_toArray, w1, bR jB, bR gD, aK]
 rw [show (bP.row 4 [[.v (.op ns 3 0 0), .v (.op np 1 0 0), .v (.int .i64 (L - 1)), .v (.bool pl)]]) = kV ns np (L - 1) pl from rfl]
 refine ⟨fun h1 => ⟨fun h2 => ?_, fun h2 => ?_⟩, fun h1 => ?_⟩
 ·refine aH.fG (aPM (a := a) (sd := sd) hc hl (by omega) 5 (by omega) (by rw [aA _ _ _ _ iD, aG])) ?_
  rintro r_ h' ⟨b, a1, sd1, rfl, ha1, rfl⟩
  simp only [bR gS, aK]
  cases b
  ·simp -dsimp -implicitDefEqProofs only [go_sem, ↓reduceIte, Tryz.f48, cF, bJ, cG, bG, bK, bF, aA, aM, Option.toArray_none, Option.toArray_some, List.filterMap_cons, List.filterMap_nil, List.elem_cons_self, List.nil_append, List.append_nil, List.toList_toArray]
   intro n9 q9
   have a9 : ¬ n9 = ng := by grind
   have b9 : ¬ n9 = ns := by grind
   have c9 : ¬ n9 = n8 := by grind
   have z9 : B n9 = none := by grind
   have aCU : ¬ n9 = ng := a9
   have j9 : ¬ ng = n9 := Ne.symm aCU
   have cW : (n9 = ng) = False := eq_false aCU
   have cX : (ng = n9) = False := eq_false j9
   have nB : ¬ n9 = ns := b9
   have eE : ¬ ns = n9 := Ne.symm nB
   have bA : (n9 = ns) = False := eq_false nB
   have bB : (ns = n9) = False := eq_false eE
   have kS : ¬ n9 = n8 := c9
   have aCV : ¬ n8 = n9 := Ne.symm kS
   have bW : (n9 = n8) = False := eq_false kS
   have bX : (n8 = n9) = False := eq_false aCV
   simp -dsimp -implicitDefEqProofs only [go_sem, ↓reduceIte, Tryz.f48, cF, bJ, bX, cG, bG, cX, bK, bF, bB, bW, cW, bA, aA, aM, kV, Option.toArray_none, Option.toArray_some, List.filterMap_cons, List.filterMap_nil, List.elem_cons_self, List.nil_append, List.append_nil, List.toList_toArray, bR j9, bR eE, aK]
   refine aH.fG (oQ (a := a1) (sd := sd1) hc hl (by omega) 12 (by omega) (by rw [aA _ _ _ _ iD, aG])) ?_
   rintro r_ h' ⟨x, a2, sd2, rfl, x0, x1, -, ha2, rfl⟩
   simp only [bR gS, aK]
   simp -dsimp -implicitDefEqProofs only [go_sem, ↓reduceIte, Tryz.f48, cF, bJ, bX, cG, bG, cX, bK, bF, bB, bW, cW, bA, aA, aM, Option.toArray_none, Option.toArray_some, List.filterMap_cons, List.filterMap_nil, List.elem_cons_self, List.nil_append, List.append_nil, List.toList_toArray, bR j9, bR eE, aK]
   apply share
   case m =>
    intro key
    repeat' (with_reducible first | intro _ | refine And.intro ?_ ?_)
    all_goals try
     first
     |skip
      refine cS (keep := zG) (ib := aPS) (mk := aPT) mix (by kernel_rfl) (fun x : GSt => [(0, .op ng 4 0 0), (1, I vars), (2, I p.aI.length), (3, I dp), (8, .op n8 5 0 0), (9, .op n9 5 0 0), (10, I x.2.1)]) (fun x => aR (aR (aR (aR (cK x.2.2.2.2.1 (.row 5 (OV.cells x.2.2.2.1)) x.2.2.2.2.2.1) n8 (tR 0 0 0 0 .bH)) n9 (tR x.1 0 0 0 (jR 5 x.2.1 x.2.2.2.2.2.1))) ns (jG c x.2.2.2.2.2.2.1 x.2.2.2.2.2.2.2.1)) ng (kV ns np x.2.2.2.2.2.2.2.2 pl)) (fun x => zF p vars dp a2 L B ns ng n8 n9 x) (fun x => (dR x.1).toNat - x.2.1) (7, 0, [], [], B, none, a2, sd2, L - 1) ⟨by simp [cV, bZ], aB.le_refl _, by decide, by decide, rfl, trivial, eU.nil B, ⟨hB1, hB2, z8, z9⟩, rfl, (fun m e => by cases e), (fun j h => by cases h), Nat.zero_le _, ⟨Int.le_refl _, by simp [qM], by simp [qM]⟩, by simp [qM]⟩ ?_
      exact key
     |skip
      refine cS (keep := zG) (ib := aPS) (mk := aPT) mix (by kernel_rfl) (fun x : GSt => [(0, .op ng 4 0 0), (1, I vars), (2, I p.aI.length), (3, I dp), (8, .op n8 5 0 0), (9, .op n9 5 0 0), (10, I x.2.1)]) (fun x => aR (aR (aR (aR (cK x.2.2.2.2.1 (.row 5 (OV.cells x.2.2.2.1)) x.2.2.2.2.2.1) n8 (tR 0 0 0 0 .bH)) n9 (tR x.1 0 0 0 (jR 5 x.2.1 x.2.2.2.2.2.1))) ns (jG c x.2.2.2.2.2.2.1 x.2.2.2.2.2.2.2.1)) ng (kV ns np x.2.2.2.2.2.2.2.2 pl)) (fun x => zF p vars dp a2 L B ns ng n8 n9 x) (fun x => (dR x.1).toNat - x.2.1) (9, 0, [], [], B, none, a2, sd2, L - 1) ⟨by simp [cV, bZ], aB.le_refl _, by decide, by decide, rfl, trivial, eU.nil B, ⟨hB1, hB2, z8, z9⟩, rfl, (fun m e => by cases e), (fun j h => by cases h), Nat.zero_le _, ⟨Int.le_refl _, by simp [qM], by simp [qM]⟩, by simp [qM]⟩ ?_
      exact key
     |skip
      refine cS (keep := zG) (ib := aPS) (mk := aPT) mix (by kernel_rfl) (fun x : GSt => [(0, .op ng 4 0 0), (1, I vars), (2, I p.aI.length), (3, I dp), (8, .op n8 5 0 0), (9, .op n9 5 0 0), (10, I x.2.1)]) (fun x => aR (aR (aR (aR (cK x.2.2.2.2.1 (.row 5 (OV.cells x.2.2.2.1)) x.2.2.2.2.2.1) n8 (tR 0 0 0 0 .bH)) n9 (tR x.1 0 0 0 (jR 5 x.2.1 x.2.2.2.2.2.1))) ns (jG c x.2.2.2.2.2.2.1 x.2.2.2.2.2.2.2.1)) ng (kV ns np x.2.2.2.2.2.2.2.2 pl)) (fun x => zF p vars dp a2 L B ns ng n8 n9 x) (fun x => (dR x.1).toNat - x.2.1) (8, 0, [], [], B, none, a2, sd2, L - 1) ⟨by simp [cV, bZ], aB.le_refl _, by decide, by decide, rfl, trivial, eU.nil B, ⟨hB1, hB2, z8, z9⟩, rfl, (fun m e => by cases e), (fun j h => by cases h), Nat.zero_le _, ⟨Int.le_refl _, by simp [qM], by simp [qM]⟩, by simp [qM]⟩ ?_
      exact key
     |skip
      refine cS (keep := zG) (ib := aPS) (mk := aPT) mix (by kernel_rfl) (fun x : GSt => [(0, .op ng 4 0 0), (1, I vars), (2, I p.aI.length), (3, I dp), (8, .op n8 5 0 0), (9, .op n9 5 0 0), (10, I x.2.1)]) (fun x => aR (aR (aR (aR (cK x.2.2.2.2.1 (.row 5 (OV.cells x.2.2.2.1)) x.2.2.2.2.2.1) n8 (tR 0 0 0 0 .bH)) n9 (tR x.1 0 0 0 (jR 5 x.2.1 x.2.2.2.2.2.1))) ns (jG c x.2.2.2.2.2.2.1 x.2.2.2.2.2.2.2.1)) ng (kV ns np x.2.2.2.2.2.2.2.2 pl)) (fun x => zF p vars dp a2 L B ns ng n8 n9 x) (fun x => (dR x.1).toNat - x.2.1) (6, 0, [], [], B, none, a2, sd2, L - 1) ⟨by simp [cV, bZ], aB.le_refl _, by decide, by decide, rfl, trivial, eU.nil B, ⟨hB1, hB2, z8, z9⟩, rfl, (fun m e => by cases e), (fun j h => by cases h), Nat.zero_le _, ⟨Int.le_refl _, by simp [qM], by simp [qM]⟩, by simp [qM]⟩ ?_
      exact key
     |skip
      refine cS (keep := zG) (ib := aPS) (mk := aPT) mix (by kernel_rfl) (fun x : GSt => [(0, .op ng 4 0 0), (1, I vars), (2, I p.aI.length), (3, I dp), (8, .op n8 5 0 0), (9, .op n9 5 0 0), (10, I x.2.1)]) (fun x => aR (aR (aR (aR (cK x.2.2.2.2.1 (.row 5 (OV.cells x.2.2.2.1)) x.2.2.2.2.2.1) n8 (tR 0 0 0 0 .bH)) n9 (tR x.1 0 0 0 (jR 5 x.2.1 x.2.2.2.2.2.1))) ns (jG c x.2.2.2.2.2.2.1 x.2.2.2.2.2.2.2.1)) ng (kV ns np x.2.2.2.2.2.2.2.2 pl)) (fun x => zF p vars dp a2 L B ns ng n8 n9 x) (fun x => (dR x.1).toNat - x.2.1) (3, 0, [], [], B, none, a2, sd2, L - 1) ⟨by simp [cV, bZ], aB.le_refl _, by decide, by decide, rfl, trivial, eU.nil B, ⟨hB1, hB2, z8, z9⟩, rfl, (fun m e => by cases e), (fun j h => by cases h), Nat.zero_le _, ⟨Int.le_refl _, by simp [qM], by simp [qM]⟩, by simp [qM]⟩ ?_
      exact key
     |skip
      refine cS (keep := zG) (ib := aPS) (mk := aPT) mix (by kernel_rfl) (fun x : GSt => [(0, .op ng 4 0 0), (1, I vars), (2, I p.aI.length), (3, I dp), (8, .op n8 5 0 0), (9, .op n9 5 0 0), (10, I x.2.1)]) (fun x => aR (aR (aR (aR (cK x.2.2.2.2.1 (.row 5 (OV.cells x.2.2.2.1)) x.2.2.2.2.2.1) n8 (tR 0 0 0 0 .bH)) n9 (tR x.1 0 0 0 (jR 5 x.2.1 x.2.2.2.2.2.1))) ns (jG c x.2.2.2.2.2.2.1 x.2.2.2.2.2.2.2.1)) ng (kV ns np x.2.2.2.2.2.2.2.2 pl)) (fun x => zF p vars dp a2 L B ns ng n8 n9 x) (fun x => (dR x.1).toNat - x.2.1) (4, 0, [], [], B, none, a2, sd2, L - 1) ⟨by simp [cV, bZ], aB.le_refl _, by decide, by decide, rfl, trivial, eU.nil B, ⟨hB1, hB2, z8, z9⟩, rfl, (fun m e => by cases e), (fun j h => by cases h), Nat.zero_le _, ⟨Int.le_refl _, by simp [qM], by simp [qM]⟩, by simp [qM]⟩ ?_
      exact key
     |skip
      refine cS (keep := zG) (ib := aPS) (mk := aPT) mix (by kernel_rfl) (fun x : GSt => [(0, .op ng 4 0 0), (1, I vars), (2, I p.aI.length), (3, I dp), (8, .op n8 5 0 0), (9, .op n9 5 0 0), (10, I x.2.1)]) (fun x => aR (aR (aR (aR (cK x.2.2.2.2.1 (.row 5 (OV.cells x.2.2.2.1)) x.2.2.2.2.2.1) n8 (tR 0 0 0 0 .bH)) n9 (tR x.1 0 0 0 (jR 5 x.2.1 x.2.2.2.2.2.1))) ns (jG c x.2.2.2.2.2.2.1 x.2.2.2.2.2.2.2.1)) ng (kV ns np x.2.2.2.2.2.2.2.2 pl)) (fun x => zF p vars dp a2 L B ns ng n8 n9 x) (fun x => (dR x.1).toNat - x.2.1) (5, 0, [], [], B, none, a2, sd2, L - 1) ⟨by simp [cV, bZ], aB.le_refl _, by decide, by decide, rfl, trivial, eU.nil B, ⟨hB1, hB2, z8, z9⟩, rfl, (fun m e => by cases e), (fun j h => by cases h), Nat.zero_le _, ⟨Int.le_refl _, by simp [qM], by simp [qM]⟩, by simp [qM]⟩ ?_
      exact key
    all_goals
     rw [show ∀ H : aB, aR H ng (bP.row 4 [[Cell.v (aD.op ns 3 0 0), Cell.v (aD.op np 1 0 0), Cell.v (I (L - 1)), Cell.v (aD.bool pl)]]) = aR H ng (kV ns np (L - 1) pl) from fun _ => rfl]
     refine aH.fG (hcall (by omega) vars _ a2 sd2 (L - 1) (by rw [aA _ _ _ _ eE, aA _ _ _ _ gD]; exact hB1) (by rw [aA _ _ _ _ j9, aA _ _ _ _ jB]; exact hB2) (hprog.le (aB.aY z9 (aB.aY z8 (aB.le_refl _)))) ⟨by omega, by omega⟩ (by unfold mL at ha ⊢; omega) ⟨by omega, by omega, by omega⟩) ?_
     rintro r_ h' ⟨x, e, g', a', sd', L', hx, rfl, hnew, ⟨y1, y2⟩, rfl, hok, hd, hL', ha'⟩
     obtain ⟨g5, rfl, w5, z58, z59⟩ := eU.yX z8 (by rw [aA _ _ _ _ kS]; exact z9) hnew
     simp only [aM, cF, bJ, bX, cG, bG, cX, bK, bF, bB, bW, cW, bA, if_false] at y1 y2 z59
     rw [aC.sH] at hx
     obtain ⟨y4, rfl, yD⟩ := hx
     simp -dsimp -implicitDefEqProofs only [go_sem, ↓reduceIte, Tryz.f48, cF, bJ, bX, cG, bG, cX, bK, bF, bB, bW, cW, bA, aA, aM, OV.eN, OV.b7, OV.jH, yD.flat, yD.one]
     exact aZ6 (x := x) (a' := a') (sd' := sd') (L' := L') ((aC.sH _ _).2 ⟨y4, rfl, yD⟩) w5 ⟨y1, y2⟩ hok hd hL' (by omega) h1 (by
      intro q_
      simp only [aM]
      grind)
   case t =>
    rintro ⟨K, i, kids, es, g1, o, a3, sd3, L3⟩ hgg
    obtain ⟨hK, hi, hlen, hor, hnew, ⟨zs, zg, z18, z19⟩, hgs, hon, hok, hdl, hL3, ha3⟩ := id hgg
    simp only at hi hlen hor hnew zs zg z18 z19 hgs hon hok hdl hL3 ha3 hK ⊢
    have hkn : 0 ≤ dR K ∧ dR K ≤ 3 := by unfold dR; split <;> (try split) <;> (try split) <;> (try split) <;> omega
    have wd : IntKind.i64.wrap ((dp : Int) - 1) = ((dp - 1 : Nat) : Int) := by rw [IntWalk.i64_in _ (by omega)]; omega
    have hml : 3 * mL (L - 1) + 3 = 3 * mL L := by unfold mL; omega
    have a05 : mL L ≤ 1000 := by unfold mL; omega
    have wv : IntKind.i64.wrap (vars + 1) = vars + 1 := IntWalk.i64_in _ (by omega)
    unfold tR
    simp -dsimp -implicitDefEqProofs only [go_sem, ↓reduceIte, Tryz.f48, cF, bJ, bX, cG, bG, cX, bK, bF, bB, bW, cW, bA, aA, aM, Option.toArray_none, Option.toArray_some, List.filterMap_cons, List.filterMap_nil, List.elem_cons_self, List.nil_append, List.append_nil, List.toList_toArray]
    first | refine aH.mk ((uA K)) ?_ | refine aF.mk ((uA K)) ?_ | refine aH.bS ((uA K)) ?_ | refine aF.mk (bM.eQ ((uA K))) ?_
    simp -dsimp -implicitDefEqProofs only [go_sem, ↓reduceIte, Tryz.f48, cF, bJ, bX, cG, bG, cX, bK, bF, bB, bW, cW, bA, aA, aM, Option.toArray_none, Option.toArray_some, List.filterMap_cons, List.filterMap_nil, List.elem_cons_self, List.nil_append, List.append_nil, List.toList_toArray, wd, wv]
    refine ⟨fun hlt => ⟨fun k9 => ⟨fun i1 => ?_, fun i1 => ?_⟩, fun k9 => ?_⟩, fun hge => ⟨mT .., ?_⟩⟩
    ·have hV : vars + 1 = iX K i vars := by unfold iX; rw [if_pos ⟨k9, by omega⟩]
     cases o with
     |none =>
      rw [jZ] at hgs
      subst hgs
      obtain rfl : kids = [] := List.length_eq_zero_iff.1 hor.length
      obtain rfl : i = 0 := hlen.symm
      simp only [aO, kW]
      refine aH.fG (ih (dp - 1) (by omega) (vars + 1) _ a3 sd3 L3 (by rw [aA _ _ _ _ eE, aA _ _ _ _ gD]; exact zs) (by rw [aA _ _ _ _ j9, aA _ _ _ _ jB]; exact zg) (hprog.le (aB.aY z9 (aB.aY z8 hnew.le))) ⟨by omega, by omega, by omega⟩) ?_
      rintro r_ h' ⟨x5, e5, g', a5, sd5, L5, hx, rfl, hnw, ⟨y1, y2⟩, rfl, vJ, hd5, hL5, ha5⟩
      obtain ⟨g5, rfl, w5, z58, z59⟩ := eU.yX z18 (by rw [aA _ _ _ _ kS]; exact z19) hnw
      simp only [aM, cF, bJ, bX, cG, bG, cX, bK, bF, bB, bW, cW, bA, if_false] at y1 y2 z59
      have hx5 := hx
      rw [aC.sH] at hx
      obtain ⟨y4, rfl, yD⟩ := hx
      simp -dsimp -implicitDefEqProofs only [go_sem, ↓reduceIte, Tryz.f48, cF, bJ, bX, cG, bG, cX, bK, bF, bB, bW, cW, bA, aA, aM, Option.toArray_none, Option.toArray_some, List.filterMap_cons, List.filterMap_nil, List.elem_cons_self, List.nil_append, List.append_nil, List.toList_toArray, OV.eN, OV.b7, OV.jH, yD.flat, yD.one]
      have ht := dW []
      refine ⟨by decide, by decide, by decide, fun m qm => ?_⟩
      have am : ¬ m = ns := by grind
      have bm : ¬ m = ng := by grind
      have cm : ¬ m = n8 := by grind
      have em : ¬ m = n9 := by grind
      have dm : g5 m = none := by grind
      skip
      have eH : ¬ m = ns := am
      have fM : ¬ ns = m := Ne.symm eH
      have cN : (m = ns) = False := eq_false eH
      have cO : (ns = m) = False := eq_false fM
      have fV : ¬ m = ng := bm
      have kO : ¬ ng = m := Ne.symm fV
      have iQ : (m = ng) = False := eq_false fV
      have iR : (ng = m) = False := eq_false kO
      have iS : ¬ m = n8 := cm
      have mB : ¬ n8 = m := Ne.symm iS
      have kA : (m = n8) = False := eq_false iS
      have kB : (n8 = m) = False := eq_false mB
      have gK : ¬ m = n9 := em
      have j1 : ¬ n9 = m := Ne.symm gK
      have dI : (m = n9) = False := eq_false gK
      have dJ : (n9 = m) = False := eq_false j1
      simp -dsimp -implicitDefEqProofs only [go_sem, ↓reduceIte, Tryz.f48, cF, bJ, bX, kB, cG, bG, cX, iR, bK, bF, bB, cO, bW, cW, bA, dJ, kA, iQ, cN, dI, aA, aM, Option.toArray_none, Option.toArray_some, List.filterMap_cons, List.filterMap_nil, List.elem_cons_self, List.nil_append, List.append_nil, List.toList_toArray]
      refine ⟨(K, 0 + 1, [] ++ [x5], [] ++ [[.v (.int .i64 x5.aP), .v (.int .i64 x5.bC), .v (.int .i64 x5.cR), .v (.int .i64 x5.cD), y4]], g5, some m, a5, sd5, L5), IntWalk.i64_in _ (by omega), ?_, hgg.next hlt hx5 w5 ⟨y1, y2, z58, z59⟩ dm ⟨am, bm, cm, em⟩ (by rw [← hV]; exact vJ) (by omega) hL5 ha5, by simp only; omega⟩
      intro q_
      simp only [aM, aJ, bY, gG, dW, cA, iT, iU, OV.eN, OV.b7, OV.jH, List.nil_append, List.map_cons, List.map_nil, ht]
      grind
     |some m0 =>
      rw [iK] at hgs
      obtain ⟨hm1, hm2, hm3, hm4⟩ := hon m0 rfl
      have jT : ¬ m0 = ns := hm1
      have lF : ¬ ns = m0 := Ne.symm jT
      have gM : (m0 = ns) = False := eq_false jT
      have gN : (ns = m0) = False := eq_false lF
      have qE : ¬ m0 = ng := hm2
      have qF : ¬ ng = m0 := Ne.symm qE
      have mC : (m0 = ng) = False := eq_false qE
      have mD : (ng = m0) = False := eq_false qF
      have nC : ¬ m0 = n8 := hm3
      have nZ : ¬ n8 = m0 := Ne.symm nC
      have kC : (m0 = n8) = False := eq_false nC
      have kD : (n8 = m0) = False := eq_false nZ
      have nD : ¬ m0 = n9 := hm4
      have oA : ¬ n9 = m0 := Ne.symm nD
      have jK : (m0 = n9) = False := eq_false nD
      have jL : (n9 = m0) = False := eq_false oA
      have hBm : B m0 = none := by
       cases hb : B m0 with
       |none => rfl
       |some v => have := hnew.keep hb; rw [hgs] at this; cases this
      simp only [aJ, bY]
      refine aH.fG (ih (dp - 1) (by omega) (vars + 1) _ a3 sd3 L3 (by rw [aA _ _ _ _ eE, aA _ _ _ _ gD, aA _ _ _ _ lF]; exact zs) (by rw [aA _ _ _ _ j9, aA _ _ _ _ jB, aA _ _ _ _ qF]; exact zg) (hprog.le (aB.aY z9 (aB.aY z8 (aB.aY hBm hnew.le)))) ⟨by omega, by omega, by omega⟩) ?_
      rintro r_ h' ⟨x5, e5, g', a5, sd5, L5, hx, rfl, hnw, ⟨y1, y2⟩, rfl, vJ, hd5, hL5, ha5⟩
      obtain ⟨g5, rfl, w5, z50, z58, z59⟩ := eU.aKU hgs (by rw [aA _ _ _ _ nZ]; exact z18) (by rw [aA _ _ _ _ kS, aA _ _ _ _ oA]; exact z19) hnw
      simp only [aM, cF, bJ, bX, kD, cG, bG, cX, mD, bK, bF, bB, gN, bW, cW, bA, jL, kC, mC, gM, jK, if_false] at y1 y2 z58 z59
      have hx5 := hx
      rw [aC.sH] at hx
      obtain ⟨y4, rfl, yD⟩ := hx
      simp -dsimp -implicitDefEqProofs only [go_sem, ↓reduceIte, Tryz.f48, cF, bJ, bX, kD, cG, bG, cX, mD, bK, bF, bB, gN, bW, cW, bA, jL, kC, mC, gM, jK, aA, aM, Option.toArray_none, Option.toArray_some, List.filterMap_cons, List.filterMap_nil, List.elem_cons_self, List.nil_append, List.append_nil, List.toList_toArray, OV.eN, OV.b7, OV.jH, yD.flat, yD.one, cA]
      have ht : List.take i (OV.cells es) = OV.cells es := List.take_of_length_le (by rw [cA]; have := hor.length; omega)
      refine ⟨by decide, by decide, by decide, by have := hor.length; omega, by omega, by omega, fun m qm => ?_⟩
      have am : ¬ m = ns := by grind
      have bm : ¬ m = ng := by grind
      have cm : ¬ m = n8 := by grind
      have em : ¬ m = n9 := by grind
      have dm : g5 m = none := by grind
      have fm : ¬ m = m0 := (by grind); have sD := eq_false fm; have sE := eq_false (Ne.symm fm); have aBC := fm; have aEB := Ne.symm fm
      have eH : ¬ m = ns := am
      have fM : ¬ ns = m := Ne.symm eH
      have cN : (m = ns) = False := eq_false eH
      have cO : (ns = m) = False := eq_false fM
      have fV : ¬ m = ng := bm
      have kO : ¬ ng = m := Ne.symm fV
      have iQ : (m = ng) = False := eq_false fV
      have iR : (ng = m) = False := eq_false kO
      have iS : ¬ m = n8 := cm
      have mB : ¬ n8 = m := Ne.symm iS
      have kA : (m = n8) = False := eq_false iS
      have kB : (n8 = m) = False := eq_false mB
      have gK : ¬ m = n9 := em
      have j1 : ¬ n9 = m := Ne.symm gK
      have dI : (m = n9) = False := eq_false gK
      have dJ : (n9 = m) = False := eq_false j1
      simp -dsimp -implicitDefEqProofs only [go_sem, ↓reduceIte, Tryz.f48, cF, bJ, bX, kB, cG, bG, cX, iR, bK, bF, bB, cO, bW, cW, bA, dJ, kA, iQ, cN, dI, sD, kA, dI, iQ, cN, sE, kC, jK, mC, gM, kB, kD, bX, cF, bJ, dJ, jL, bW, cW, bA, iR, mD, cG, cX, bG, cO, gN, bK, bB, bF, aA, aM, Option.toArray_none, Option.toArray_some, List.filterMap_cons, List.filterMap_nil, List.elem_cons_self, List.nil_append, List.append_nil, List.toList_toArray]
      refine ⟨(K, i + 1, kids ++ [x5], es ++ [[.v (.int .i64 x5.aP), .v (.int .i64 x5.bC), .v (.int .i64 x5.cR), .v (.int .i64 x5.cD), y4]], g5, some m, a5, sd5, L5), IntWalk.i64_in _ (by omega), ?_, hgg.next hlt hx5 w5 ⟨y1, y2, z58, z59⟩ dm ⟨am, bm, cm, em⟩ (by rw [← hV]; exact vJ) (by omega) hL5 ha5, by simp only; omega⟩
      intro q_
      simp only [aM, aJ, bY, gG, dW, cA, iT, iU, OV.eN, OV.b7, OV.jH, List.nil_append, List.map_cons, List.map_nil, ht]
      grind
    ·have hV : vars = iX K i vars := by unfold iX; rw [if_neg (fun q => i1 (by omega))]
     cases o with
     |none =>
      rw [jZ] at hgs
      subst hgs
      obtain rfl : kids = [] := List.length_eq_zero_iff.1 hor.length
      obtain rfl : i = 0 := hlen.symm
      simp only [aO, kW]
      refine aH.fG (ih (dp - 1) (by omega) vars _ a3 sd3 L3 (by rw [aA _ _ _ _ eE, aA _ _ _ _ gD]; exact zs) (by rw [aA _ _ _ _ j9, aA _ _ _ _ jB]; exact zg) (hprog.le (aB.aY z9 (aB.aY z8 hnew.le))) ⟨by omega, by omega, by omega⟩) ?_
      rintro r_ h' ⟨x5, e5, g', a5, sd5, L5, hx, rfl, hnw, ⟨y1, y2⟩, rfl, vJ, hd5, hL5, ha5⟩
      obtain ⟨g5, rfl, w5, z58, z59⟩ := eU.yX z18 (by rw [aA _ _ _ _ kS]; exact z19) hnw
      simp only [aM, cF, bJ, bX, cG, bG, cX, bK, bF, bB, bW, cW, bA, if_false] at y1 y2 z59
      have hx5 := hx
      rw [aC.sH] at hx
      obtain ⟨y4, rfl, yD⟩ := hx
      simp -dsimp -implicitDefEqProofs only [go_sem, ↓reduceIte, Tryz.f48, cF, bJ, bX, cG, bG, cX, bK, bF, bB, bW, cW, bA, aA, aM, Option.toArray_none, Option.toArray_some, List.filterMap_cons, List.filterMap_nil, List.elem_cons_self, List.nil_append, List.append_nil, List.toList_toArray, OV.eN, OV.b7, OV.jH, yD.flat, yD.one]
      have ht := dW []
      refine ⟨by decide, by decide, by decide, fun m qm => ?_⟩
      have am : ¬ m = ns := by grind
      have bm : ¬ m = ng := by grind
      have cm : ¬ m = n8 := by grind
      have em : ¬ m = n9 := by grind
      have dm : g5 m = none := by grind
      skip
      have eH : ¬ m = ns := am
      have fM : ¬ ns = m := Ne.symm eH
      have cN : (m = ns) = False := eq_false eH
      have cO : (ns = m) = False := eq_false fM
      have fV : ¬ m = ng := bm
      have kO : ¬ ng = m := Ne.symm fV
      have iQ : (m = ng) = False := eq_false fV
      have iR : (ng = m) = False := eq_false kO
      have iS : ¬ m = n8 := cm
      have mB : ¬ n8 = m := Ne.symm iS
      have kA : (m = n8) = False := eq_false iS
      have kB : (n8 = m) = False := eq_false mB
      have gK : ¬ m = n9 := em
      have j1 : ¬ n9 = m := Ne.symm gK
      have dI : (m = n9) = False := eq_false gK
      have dJ : (n9 = m) = False := eq_false j1
      simp -dsimp -implicitDefEqProofs only [go_sem, ↓reduceIte, Tryz.f48, cF, bJ, bX, kB, cG, bG, cX, iR, bK, bF, bB, cO, bW, cW, bA, dJ, kA, iQ, cN, dI, aA, aM, Option.toArray_none, Option.toArray_some, List.filterMap_cons, List.filterMap_nil, List.elem_cons_self, List.nil_append, List.append_nil, List.toList_toArray]
      refine ⟨(K, 0 + 1, [] ++ [x5], [] ++ [[.v (.int .i64 x5.aP), .v (.int .i64 x5.bC), .v (.int .i64 x5.cR), .v (.int .i64 x5.cD), y4]], g5, some m, a5, sd5, L5), IntWalk.i64_in _ (by omega), ?_, hgg.next hlt hx5 w5 ⟨y1, y2, z58, z59⟩ dm ⟨am, bm, cm, em⟩ (by rw [← hV]; exact vJ) (by omega) hL5 ha5, by simp only; omega⟩
      intro q_
      simp only [aM, aJ, bY, gG, dW, cA, iT, iU, OV.eN, OV.b7, OV.jH, List.nil_append, List.map_cons, List.map_nil, ht]
      grind
     |some m0 =>
      rw [iK] at hgs
      obtain ⟨hm1, hm2, hm3, hm4⟩ := hon m0 rfl
      have jT : ¬ m0 = ns := hm1
      have lF : ¬ ns = m0 := Ne.symm jT
      have gM : (m0 = ns) = False := eq_false jT
      have gN : (ns = m0) = False := eq_false lF
      have qE : ¬ m0 = ng := hm2
      have qF : ¬ ng = m0 := Ne.symm qE
      have mC : (m0 = ng) = False := eq_false qE
      have mD : (ng = m0) = False := eq_false qF
      have nC : ¬ m0 = n8 := hm3
      have nZ : ¬ n8 = m0 := Ne.symm nC
      have kC : (m0 = n8) = False := eq_false nC
      have kD : (n8 = m0) = False := eq_false nZ
      have nD : ¬ m0 = n9 := hm4
      have oA : ¬ n9 = m0 := Ne.symm nD
      have jK : (m0 = n9) = False := eq_false nD
      have jL : (n9 = m0) = False := eq_false oA
      have hBm : B m0 = none := by
       cases hb : B m0 with
       |none => rfl
       |some v => have := hnew.keep hb; rw [hgs] at this; cases this
      simp only [aJ, bY]
      refine aH.fG (ih (dp - 1) (by omega) vars _ a3 sd3 L3 (by rw [aA _ _ _ _ eE, aA _ _ _ _ gD, aA _ _ _ _ lF]; exact zs) (by rw [aA _ _ _ _ j9, aA _ _ _ _ jB, aA _ _ _ _ qF]; exact zg) (hprog.le (aB.aY z9 (aB.aY z8 (aB.aY hBm hnew.le)))) ⟨by omega, by omega, by omega⟩) ?_
      rintro r_ h' ⟨x5, e5, g', a5, sd5, L5, hx, rfl, hnw, ⟨y1, y2⟩, rfl, vJ, hd5, hL5, ha5⟩
      obtain ⟨g5, rfl, w5, z50, z58, z59⟩ := eU.aKU hgs (by rw [aA _ _ _ _ nZ]; exact z18) (by rw [aA _ _ _ _ kS, aA _ _ _ _ oA]; exact z19) hnw
      simp only [aM, cF, bJ, bX, kD, cG, bG, cX, mD, bK, bF, bB, gN, bW, cW, bA, jL, kC, mC, gM, jK, if_false] at y1 y2 z58 z59
      have hx5 := hx
      rw [aC.sH] at hx
      obtain ⟨y4, rfl, yD⟩ := hx
      simp -dsimp -implicitDefEqProofs only [go_sem, ↓reduceIte, Tryz.f48, cF, bJ, bX, kD, cG, bG, cX, mD, bK, bF, bB, gN, bW, cW, bA, jL, kC, mC, gM, jK, aA, aM, Option.toArray_none, Option.toArray_some, List.filterMap_cons, List.filterMap_nil, List.elem_cons_self, List.nil_append, List.append_nil, List.toList_toArray, OV.eN, OV.b7, OV.jH, yD.flat, yD.one, cA]
      have ht : List.take i (OV.cells es) = OV.cells es := List.take_of_length_le (by rw [cA]; have := hor.length; omega)
      refine ⟨by decide, by decide, by decide, by have := hor.length; omega, by omega, by omega, fun m qm => ?_⟩
      have am : ¬ m = ns := by grind
      have bm : ¬ m = ng := by grind
      have cm : ¬ m = n8 := by grind
      have em : ¬ m = n9 := by grind
      have dm : g5 m = none := by grind
      have fm : ¬ m = m0 := (by grind); have sD := eq_false fm; have sE := eq_false (Ne.symm fm); have aBC := fm; have aEB := Ne.symm fm
      have eH : ¬ m = ns := am
      have fM : ¬ ns = m := Ne.symm eH
      have cN : (m = ns) = False := eq_false eH
      have cO : (ns = m) = False := eq_false fM
      have fV : ¬ m = ng := bm
      have kO : ¬ ng = m := Ne.symm fV
      have iQ : (m = ng) = False := eq_false fV
      have iR : (ng = m) = False := eq_false kO
      have iS : ¬ m = n8 := cm
      have mB : ¬ n8 = m := Ne.symm iS
      have kA : (m = n8) = False := eq_false iS
      have kB : (n8 = m) = False := eq_false mB
      have gK : ¬ m = n9 := em
      have j1 : ¬ n9 = m := Ne.symm gK
      have dI : (m = n9) = False := eq_false gK
      have dJ : (n9 = m) = False := eq_false j1
      simp -dsimp -implicitDefEqProofs only [go_sem, ↓reduceIte, Tryz.f48, cF, bJ, bX, kB, cG, bG, cX, iR, bK, bF, bB, cO, bW, cW, bA, dJ, kA, iQ, cN, dI, sD, kA, dI, iQ, cN, sE, kC, jK, mC, gM, kB, kD, bX, cF, bJ, dJ, jL, bW, cW, bA, iR, mD, cG, cX, bG, cO, gN, bK, bB, bF, aA, aM, Option.toArray_none, Option.toArray_some, List.filterMap_cons, List.filterMap_nil, List.elem_cons_self, List.nil_append, List.append_nil, List.toList_toArray]
      refine ⟨(K, i + 1, kids ++ [x5], es ++ [[.v (.int .i64 x5.aP), .v (.int .i64 x5.bC), .v (.int .i64 x5.cR), .v (.int .i64 x5.cD), y4]], g5, some m, a5, sd5, L5), IntWalk.i64_in _ (by omega), ?_, hgg.next hlt hx5 w5 ⟨y1, y2, z58, z59⟩ dm ⟨am, bm, cm, em⟩ (by rw [← hV]; exact vJ) (by omega) hL5 ha5, by simp only; omega⟩
      intro q_
      simp only [aM, aJ, bY, gG, dW, cA, iT, iU, OV.eN, OV.b7, OV.jH, List.nil_append, List.map_cons, List.map_nil, ht]
      grind
    ·have hV : vars = iX K i vars := by unfold iX; rw [if_neg (fun q => k9 q.1)]
     cases o with
     |none =>
      rw [jZ] at hgs
      subst hgs
      obtain rfl : kids = [] := List.length_eq_zero_iff.1 hor.length
      obtain rfl : i = 0 := hlen.symm
      simp only [aO, kW]
      refine aH.fG (ih (dp - 1) (by omega) vars _ a3 sd3 L3 (by rw [aA _ _ _ _ eE, aA _ _ _ _ gD]; exact zs) (by rw [aA _ _ _ _ j9, aA _ _ _ _ jB]; exact zg) (hprog.le (aB.aY z9 (aB.aY z8 hnew.le))) ⟨by omega, by omega, by omega⟩) ?_
      rintro r_ h' ⟨x5, e5, g', a5, sd5, L5, hx, rfl, hnw, ⟨y1, y2⟩, rfl, vJ, hd5, hL5, ha5⟩
      obtain ⟨g5, rfl, w5, z58, z59⟩ := eU.yX z18 (by rw [aA _ _ _ _ kS]; exact z19) hnw
      simp only [aM, cF, bJ, bX, cG, bG, cX, bK, bF, bB, bW, cW, bA, if_false] at y1 y2 z59
      have hx5 := hx
      rw [aC.sH] at hx
      obtain ⟨y4, rfl, yD⟩ := hx
      simp -dsimp -implicitDefEqProofs only [go_sem, ↓reduceIte, Tryz.f48, cF, bJ, bX, cG, bG, cX, bK, bF, bB, bW, cW, bA, aA, aM, Option.toArray_none, Option.toArray_some, List.filterMap_cons, List.filterMap_nil, List.elem_cons_self, List.nil_append, List.append_nil, List.toList_toArray, OV.eN, OV.b7, OV.jH, yD.flat, yD.one]
      have ht := dW []
      refine ⟨by decide, by decide, by decide, fun m qm => ?_⟩
      have am : ¬ m = ns := by grind
      have bm : ¬ m = ng := by grind
      have cm : ¬ m = n8 := by grind
      have em : ¬ m = n9 := by grind
      have dm : g5 m = none := by grind
      skip
      have eH : ¬ m = ns := am
      have fM : ¬ ns = m := Ne.symm eH
      have cN : (m = ns) = False := eq_false eH
      have cO : (ns = m) = False := eq_false fM
      have fV : ¬ m = ng := bm
      have kO : ¬ ng = m := Ne.symm fV
      have iQ : (m = ng) = False := eq_false fV
      have iR : (ng = m) = False := eq_false kO
      have iS : ¬ m = n8 := cm
      have mB : ¬ n8 = m := Ne.symm iS
      have kA : (m = n8) = False := eq_false iS
      have kB : (n8 = m) = False := eq_false mB
      have gK : ¬ m = n9 := em
      have j1 : ¬ n9 = m := Ne.symm gK
      have dI : (m = n9) = False := eq_false gK
      have dJ : (n9 = m) = False := eq_false j1
      simp -dsimp -implicitDefEqProofs only [go_sem, ↓reduceIte, Tryz.f48, cF, bJ, bX, kB, cG, bG, cX, iR, bK, bF, bB, cO, bW, cW, bA, dJ, kA, iQ, cN, dI, aA, aM, Option.toArray_none, Option.toArray_some, List.filterMap_cons, List.filterMap_nil, List.elem_cons_self, List.nil_append, List.append_nil, List.toList_toArray]
      refine ⟨(K, 0 + 1, [] ++ [x5], [] ++ [[.v (.int .i64 x5.aP), .v (.int .i64 x5.bC), .v (.int .i64 x5.cR), .v (.int .i64 x5.cD), y4]], g5, some m, a5, sd5, L5), IntWalk.i64_in _ (by omega), ?_, hgg.next hlt hx5 w5 ⟨y1, y2, z58, z59⟩ dm ⟨am, bm, cm, em⟩ (by rw [← hV]; exact vJ) (by omega) hL5 ha5, by simp only; omega⟩
      intro q_
      simp only [aM, aJ, bY, gG, dW, cA, iT, iU, OV.eN, OV.b7, OV.jH, List.nil_append, List.map_cons, List.map_nil, ht]
      grind
     |some m0 =>
      rw [iK] at hgs
      obtain ⟨hm1, hm2, hm3, hm4⟩ := hon m0 rfl
      have jT : ¬ m0 = ns := hm1
      have lF : ¬ ns = m0 := Ne.symm jT
      have gM : (m0 = ns) = False := eq_false jT
      have gN : (ns = m0) = False := eq_false lF
      have qE : ¬ m0 = ng := hm2
      have qF : ¬ ng = m0 := Ne.symm qE
      have mC : (m0 = ng) = False := eq_false qE
      have mD : (ng = m0) = False := eq_false qF
      have nC : ¬ m0 = n8 := hm3
      have nZ : ¬ n8 = m0 := Ne.symm nC
      have kC : (m0 = n8) = False := eq_false nC
      have kD : (n8 = m0) = False := eq_false nZ
      have nD : ¬ m0 = n9 := hm4
      have oA : ¬ n9 = m0 := Ne.symm nD
      have jK : (m0 = n9) = False := eq_false nD
      have jL : (n9 = m0) = False := eq_false oA
      have hBm : B m0 = none := by
       cases hb : B m0 with
       |none => rfl
       |some v => have := hnew.keep hb; rw [hgs] at this; cases this
      simp only [aJ, bY]
      refine aH.fG (ih (dp - 1) (by omega) vars _ a3 sd3 L3 (by rw [aA _ _ _ _ eE, aA _ _ _ _ gD, aA _ _ _ _ lF]; exact zs) (by rw [aA _ _ _ _ j9, aA _ _ _ _ jB, aA _ _ _ _ qF]; exact zg) (hprog.le (aB.aY z9 (aB.aY z8 (aB.aY hBm hnew.le)))) ⟨by omega, by omega, by omega⟩) ?_
      rintro r_ h' ⟨x5, e5, g', a5, sd5, L5, hx, rfl, hnw, ⟨y1, y2⟩, rfl, vJ, hd5, hL5, ha5⟩
      obtain ⟨g5, rfl, w5, z50, z58, z59⟩ := eU.aKU hgs (by rw [aA _ _ _ _ nZ]; exact z18) (by rw [aA _ _ _ _ kS, aA _ _ _ _ oA]; exact z19) hnw
      simp only [aM, cF, bJ, bX, kD, cG, bG, cX, mD, bK, bF, bB, gN, bW, cW, bA, jL, kC, mC, gM, jK, if_false] at y1 y2 z58 z59
      have hx5 := hx
      rw [aC.sH] at hx
      obtain ⟨y4, rfl, yD⟩ := hx
      simp -dsimp -implicitDefEqProofs only [go_sem, ↓reduceIte, Tryz.f48, cF, bJ, bX, kD, cG, bG, cX, mD, bK, bF, bB, gN, bW, cW, bA, jL, kC, mC, gM, jK, aA, aM, Option.toArray_none, Option.toArray_some, List.filterMap_cons, List.filterMap_nil, List.elem_cons_self, List.nil_append, List.append_nil, List.toList_toArray, OV.eN, OV.b7, OV.jH, yD.flat, yD.one, cA]
      have ht : List.take i (OV.cells es) = OV.cells es := List.take_of_length_le (by rw [cA]; have := hor.length; omega)
      refine ⟨by decide, by decide, by decide, by have := hor.length; omega, by omega, by omega, fun m qm => ?_⟩
      have am : ¬ m = ns := by grind
      have bm : ¬ m = ng := by grind
      have cm : ¬ m = n8 := by grind
      have em : ¬ m = n9 := by grind
      have dm : g5 m = none := by grind
      have fm : ¬ m = m0 := (by grind); have sD := eq_false fm; have sE := eq_false (Ne.symm fm); have aBC := fm; have aEB := Ne.symm fm
      have eH : ¬ m = ns := am
      have fM : ¬ ns = m := Ne.symm eH
      have cN : (m = ns) = False := eq_false eH
      have cO : (ns = m) = False := eq_false fM
      have fV : ¬ m = ng := bm
      have kO : ¬ ng = m := Ne.symm fV
      have iQ : (m = ng) = False := eq_false fV
      have iR : (ng = m) = False := eq_false kO
      have iS : ¬ m = n8 := cm
      have mB : ¬ n8 = m := Ne.symm iS
      have kA : (m = n8) = False := eq_false iS
      have kB : (n8 = m) = False := eq_false mB
      have gK : ¬ m = n9 := em
      have j1 : ¬ n9 = m := Ne.symm gK
      have dI : (m = n9) = False := eq_false gK
      have dJ : (n9 = m) = False := eq_false j1
      simp -dsimp -implicitDefEqProofs only [go_sem, ↓reduceIte, Tryz.f48, cF, bJ, bX, kB, cG, bG, cX, iR, bK, bF, bB, cO, bW, cW, bA, dJ, kA, iQ, cN, dI, sD, kA, dI, iQ, cN, sE, kC, jK, mC, gM, kB, kD, bX, cF, bJ, dJ, jL, bW, cW, bA, iR, mD, cG, cX, bG, cO, gN, bK, bB, bF, aA, aM, Option.toArray_none, Option.toArray_some, List.filterMap_cons, List.filterMap_nil, List.elem_cons_self, List.nil_append, List.append_nil, List.toList_toArray]
      refine ⟨(K, i + 1, kids ++ [x5], es ++ [[.v (.int .i64 x5.aP), .v (.int .i64 x5.bC), .v (.int .i64 x5.cR), .v (.int .i64 x5.cD), y4]], g5, some m, a5, sd5, L5), IntWalk.i64_in _ (by omega), ?_, hgg.next hlt hx5 w5 ⟨y1, y2, z58, z59⟩ dm ⟨am, bm, cm, em⟩ (by rw [← hV]; exact vJ) (by omega) hL5 ha5, by simp only; omega⟩
      intro q_
      simp only [aM, aJ, bY, gG, dW, cA, iT, iU, OV.eN, OV.b7, OV.jH, List.nil_append, List.map_cons, List.map_nil, ht]
      grind
    ·have hi2 : (i : Int) = dR K := by omega
     have y8 : cK g1 (.row 5 (OV.cells es)) o n8 = none := iL z18 fun m e => (hon m e).2.2.1
     have y9 : cK g1 (.row 5 (OV.cells es)) o n9 = none := iL z19 fun m e => (hon m e).2.2.2
     exact aZ7 (vars := vars) (a := a) (L := L) hgg hi2 (by omega) h1 (by
      intro q_
      simp only [aM]
      grind)
  ·simp -dsimp -implicitDefEqProofs only [go_sem, ↓reduceIte, Tryz.f48, cF, bJ, cG, bG, bK, bF, aA, aM, Option.toArray_none, Option.toArray_some, List.filterMap_cons, List.filterMap_nil, List.elem_cons_self, List.nil_append, List.append_nil, List.toList_toArray]
   refine aH.fG (aTZ (np := np) (a := a1) (sd := sd1) (L := L - 1) (pl := pl) (B := aR B n8 (.row 5 [[.v (I 0), .v (I 0), .v (I 0), .v (I 0), .v .bH]])) hc hl hne vars (by omega) (by rw [aA _ _ _ _ gD]; exact hB1) (by rw [aA _ _ _ _ jB]; exact hB2) (by omega)) ?_
   rintro r_ h' ⟨k, n, a', sd', rfl, hkn, ha', rfl⟩
   simp -dsimp -implicitDefEqProofs only [go_sem, ↓reduceIte, Tryz.f48, cF, bJ, cG, bG, bK, bF, aA, aM, bR jB, bR gD, aK]
   exact aH8 (a := a) (a' := a') (sd' := sd') hkn hB1 hB2 (by omega) (by
    intro q_
    simp only [aM]
    grind)
 ·refine aH.fG (aTZ (np := np) (a := a) (sd := sd) (L := L - 1) (pl := pl) (B := aR B n8 (.row 5 [[.v (I 0), .v (I 0), .v (I 0), .v (I 0), .v .bH]])) hc hl hne vars (by omega) (by rw [aA _ _ _ _ gD]; exact hB1) (by rw [aA _ _ _ _ jB]; exact hB2) (by omega)) ?_
  rintro r_ h' ⟨k, n, a', sd', rfl, hkn, ha', rfl⟩
  simp -dsimp -implicitDefEqProofs only [go_sem, ↓reduceIte, Tryz.f48, cF, bJ, cG, bG, bK, bF, aA, aM, bR jB, bR gD, aK]
  exact aH8 (a := a) (a' := a') (sd' := sd') hkn hB1 hB2 (by omega) (by
   intro q_
   simp only [aM]
   grind)
 ·refine aH.fG (aTZ (np := np) (a := a) (sd := sd) (L := L - 1) (pl := pl) (B := aR B n8 (.row 5 [[.v (I 0), .v (I 0), .v (I 0), .v (I 0), .v .bH]])) hc hl hne vars (by omega) (by rw [aA _ _ _ _ gD]; exact hB1) (by rw [aA _ _ _ _ jB]; exact hB2) (by omega)) ?_
  rintro r_ h' ⟨k, n, a', sd', rfl, hkn, ha', rfl⟩
  simp -dsimp -implicitDefEqProofs only [go_sem, ↓reduceIte, Tryz.f48, cF, bJ, cG, bG, bK, bF, aA, aM, bR jB, bR gD, aK]
  exact aH8 (a := a) (a' := a') (sd' := sd') hkn hB1 hB2 (by omega) (by
   intro q_
   simp only [aM]
   grind)
set_option maxRecDepth 100000
open Go.Proofs
set_option linter.unusedVariables false
set_option linter.unusedSimpArgs false
theorem aVV {p : aE} {ns ng np : Nat} {c : List Int} {pl : Bool} {vars : Int} {dp a : Nat} {L : Int} {B H : aB} {k n : Int} {a' : Nat} {sd' : Int} (h : (k = 1 ∧ jA n) ∨ (k = 2 ∧ 0 ≤ n ∧ n < vars)) (hB1 : B ns = none) (hB2 : B ng = none) (ha : a ≤ a' ∧ a' ≤ a + 10) (hle : (aR (aR B ns (jG c a' sd')) ng (kV ns np L pl)).le H) :
  ∃ r1 g2, Shift (.agg [I k, I n, I 0, I 0, .bH]) H r1 g2 ∧ aZ3 p ns ng np c pl vars dp a L B r1 g2 := by
 refine ⟨_, _, Shift.of (aPN k n) hle, _, _, B, a', sd', L, aZK k n, rfl, by rw [aJ2]; exact eU.nil B, ⟨hB1, hB2⟩, rfl, aT4 h, by rw [aZ5]; omega, ?_, by rw [aMC]; omega⟩
 rw [aMC]
 omega
structure bPQ (T : Prop) : Prop where
 get : T
theorem aEC {T G : Prop} (m : bPQ T → G) (t : T) : G := m ⟨t⟩
abbrev CSt := Int × Nat × List aC × List (List OV) × aB × Option Nat × Nat × Int × Int × Int
def aIA (p : aE) (f : aT) (vars : Int) (dp a : Nat) (L : Int) (B : aB) (ns ng n8 n9 : Nat) : CSt → Prop := fun (K, i, kids, es, g1, o, a3, _, L3, cnt) =>
 ((K = 10 ∧ cnt = 0) ∨ (K = 11 ∧ 0 ≤ cnt ∧ cnt ≤ 8 ∧ (f.aQ.length : Int) = f.aW)) ∧ i ≤ f.aW.toNat ∧ kids.length = i ∧ OR aC.o kids es ∧ eU B (OV.b6 es) g1 ∧ (g1 ns = none ∧ g1 ng = none ∧ g1 n8 = none ∧ g1 n9 = none) ∧ yZ g1 es o ∧ (∀ m, o = some m → ¬ m = ns ∧ ¬ m = ng ∧ ¬ m = n8 ∧ ¬ m = n9) ∧
  (∀ (j : Nat) (h : j < kids.length), kids[j].ok p p.aI.length vars) ∧ aC.dL kids ≤ dp ∧ (L3 ≤ L ∧ L - qM aC.s kids ≤ L3 ∧ qM aC.s kids + 3 * mL L3 ≤ 3 * mL L + i) ∧ (a ≤ a3 ∧ a3 ≤ a + 10 + 14 * qM aC.s kids)
theorem aIA.next {p : aE} {f : aT} {vars : Int} {dp a : Nat} {L : Int} {B : aB} {ns ng n8 n9 : Nat} {K cnt : Int} {i : Nat} {kids : List aC} {es : List (List OV)} {g1 g5 : aB} {o : Option Nat} {a3 a5 : Nat} {sd3 sd5 L3 L5 : Int} {x : aC} {e : List OV} {m : Nat}
  (h : aIA p f vars dp a L B ns ng n8 n9 (K, i, kids, es, g1, o, a3, sd3, L3, cnt)) (hlt : (i : Int) < f.aW) (hx : x.o e) (w : eU g1 (OV.bT e) g5) (z : g5 ns = none ∧ g5 ng = none ∧ g5 n8 = none ∧ g5 n9 = none) (hm : g5 m = none) (hm2 : ¬ m = ns ∧ ¬ m = ng ∧ ¬ m = n8 ∧ ¬ m = n9)
  (hok : x.ok p p.aI.length vars) (hd : x.d ≤ dp) (hL : L5 ≤ L3 - 1 ∧ L3 - (x.s + 1) ≤ L5 ∧ x.s + 3 * mL L5 ≤ 3 * mL L3) (ha : a3 ≤ a5 ∧ a5 ≤ a3 + 14 * (x.s + 1)) : aIA p f vars dp a L B ns ng n8 n9 (K, i + 1, kids ++ [x], es ++ [e], g5, some m, a5, sd5, L5, cnt) := by
 obtain ⟨hK, hi, hlen, hor, hnew, -, -, -, bBP, hdl, hL3, ha3⟩ := h
 refine ⟨hK, by omega, by rw [List.length_append, hlen]; rfl, OR.append hor ⟨hx, trivial⟩, eU.snoc hnew w, z, hm, fun b q => by cases q; exact hm2, fun j hj => ?_, by rw [aMD]; omega, ?_, ?_⟩
 ·rcases Nat.lt_or_ge j kids.length with h2 | h2
  ·rw [List.getElem_append_left h2]; exact bBP j h2
  ·obtain rfl : j = kids.length := by rw [List.length_append] at hj; simp at hj; omega
   rw [List.getElem_append_right (Nat.le_refl _)]
   simp only [Nat.sub_self, List.getElem_cons_zero]
   exact hok
 ·rw [aCQ]; refine ⟨by omega, by omega, by omega⟩
 ·rw [aCQ]; omega
theorem aVW {p : aE} {f : aT} {ns ng np : Nat} {c : List Int} {pl : Bool} {vars : Int} {dp a k : Nat} {L y cnt : Int} {B H : aB} {n8 n9 : Nat} {K : Int} {i : Nat} {kids : List aC} {es : List (List OV)} {g1 : aB} {o : Option Nat} {a3 : Nat} {sd3 L3 : Int} (hf : p.aI[k]? = some f) (hf1 : 1 ≤ f.aW ∧ f.aW ≤ 3) (hy : 0 ≤ y ∧ y < f.aQ.length)
  (h : aIA p f vars dp a L B ns ng n8 n9 (K, i, kids, es, g1, o, a3, sd3, L3, cnt)) (hi : (i : Int) = f.aW) (hle : (aR (aR (cK g1 (.row 5 (OV.cells es)) o) ns (jG c a3 sd3)) ng (kV ns np L3 pl)).le H) :
  ∃ r1 g2, Shift (.agg [I K, I k, I y, I cnt, jR 5 i o]) H r1 g2 ∧ aZ3 p ns ng np c pl vars dp a L B r1 g2 := by
 obtain ⟨hK, -, hlen, hor, hnew, ⟨zs, zg, -, -⟩, hgs, hon, hok, hdl, hL, ha3⟩ := h
 have hes : es.length = i := by rw [← hor.length]; exact hlen
 have hkl : k < p.aI.length := by rcases Nat.lt_or_ge k p.aI.length with h | h; exact h; rw [List.getElem?_eq_none h] at hf; cases hf
 rw [← hes]
 have z (q : Nat) (hq : g1 q = none) (hqo : ∀ m, o = some m → ¬ m = q) : cK g1 (.row 5 (OV.cells es)) o q = none := iL hq hqo
 refine ⟨_, _, Shift.of (Sub.agg (.cons (.refl _) (.cons (.refl _) (.cons (.refl _) (.cons (.refl _) (.cons aKX .nil)))))) hle, .mk K k y cnt kids, [.v (I K), .v (I k), .v (I y), .v (I cnt), gov 5 es o], _, a3, sd3, L3, (aC.sH _ _).2 ⟨_, rfl, aHB hor hgs⟩, rfl,
  by simpa only [OV.dQ, OV.hU, OV.pD, List.nil_append, List.append_nil] using aB1 hnew hgs, ⟨z ns zs fun m e => (hon m e).1, z ng zg fun m e => (hon m e).2.1⟩, rfl, (aC.dB _ _ _ _).2 ⟨?_, fun j hj => ?_⟩, by rw [aC.aXJ]; simp only [aC.aN]; omega, ?_, ?_⟩
 ·unfold l6
  rw [if_pos (show (aC.mk K k y cnt kids).aP = 10 ∨ (aC.mk K k y cnt kids).aP = 11 from by simp only [aC.aP]; omega)]
  simp only [aC.aP, aC.bC, aC.cR, aC.cD, aC.aN]
  refine ⟨by omega, by omega, fun f' hf' => ?_⟩
  rw [Int.toNat_natCast, hf] at hf'
  cases hf'
  refine ⟨hy.1, by omega, by omega, fun q => by omega, fun q => by omega⟩
 ·have hm : iX (aC.mk K k y cnt kids).aP j vars = vars := by unfold iX; rw [if_neg (by simp only [aC.aP]; omega)]
  rw [hm]
  exact hok j hj
 ·rw [aZJ]; refine ⟨by omega, by omega, by omega⟩
 ·rw [aZJ]; omega
@[go_sem] def aME : List Nat := [0, 1, 2, 3, 8, 9, 10, 11, 13, 61, 74]
@[go_sem] def a4Q : List Nat := [85]
@[go_sem] def a4R : Marks := fun id => match id with | 4 => ([3, 6, 8], (.op 0 (.op 1 (.op 2 (.op 7 (.op 3 (.op 4 (.op 5 (.op 6 (.op 8 (.op 9 (.op 10 .nil))))))))))), []) | 5 => ([3, 7, 8, 9, 11], (.op 0 (.op 1 (.op 2 (.op 4 (.op 5 (.op 6 (.op 3 (.op 7 (.op 8 (.op 9 (.op 10 (.op 11 .nil)))))))))))), [(3, 8)]) | 6 => ([3, 4, 8, 14, 15], (.op 0 (.op 1 (.op 2 (.op 5 (.op 6 (.op 7 (.op 3 (.op 8 (.op 4 (.op 9 (.op 10 (.op 11 (.op 12 (.op 13 (.op 14 (.op 15 (.op 16 .nil))))))))))))))))), [(8, 4)]) | 12 => ([1, 7, 9, 11], (.op 0 (.op 2 (.op 3 (.op 4 (.op 5 (.op 6 (.op 1 (.op 7 (.op 8 (.op 9 (.op 10 (.op 11 .nil)))))))))))), [(1, 7)]) | _ => ([], .nil, [])
set_option maxHeartbeats 8000000 in
theorem aRQ {p : aE} {ns ng np : Nat} {c : List Int} {pl : Bool} (hc : ∀ x ∈ c, InB x) (hl : c.length ≤ 4096) (hne : ¬ ns = ng) (hP : aF0 p) (hpl : p.aI.length ≤ 100) {dp : Nat} (hdp : 1 ≤ dp) (ih : ∀ d, d + 1 = dp → aZ4 Tryz.prog 48 p ns ng np c pl d) : a7M Tryz.prog 81 p ns ng np c pl dp := by
 intro vars B a sd L hB1 hB2 hprog hv ha hL
 have iD : ¬ ns = ng := hne
 have gS : ¬ ng = ns := Ne.symm iD
 have bF : (ns = ng) = False := eq_false iD
 have bG : (ng = ns) = False := eq_false gS
 refine j4 89 aME a4Q a4R mix Tryz.func81 rfl (by kernel_rfl) (by simp) ?_
 simp -dsimp -implicitDefEqProofs only [go_sem, ↓reduceIte, Tryz.f81, kV]
 intro n8 q8
 have a8 : ¬ n8 = ng := by grind
 have b8 : ¬ n8 = ns := by grind
 have z8 : B n8 = none := by grind
 have aCT : ¬ n8 = ng := a8
 have jB : ¬ ng = n8 := Ne.symm aCT
 have cF : (n8 = ng) = False := eq_false aCT
 have cG : (ng = n8) = False := eq_false jB
 have uJ : ¬ n8 = ns := b8
 have gD : ¬ ns = n8 := Ne.symm uJ
 have bJ : (n8 = ns) = False := eq_false uJ
 have bK : (ns = n8) = False := eq_false gD
 simp -dsimp -implicitDefEqProofs only [go_sem, ↓reduceIte, Tryz.f81, cF, bJ, cG, bG, bK, bF, aA, aM, kV, Option.toArray_none, Option.toArray_some, List.filterMap_cons, List.filterMap_nil, List.elem_cons_self, List.nil_append, List.append_nil, List.toList_toArray, bR jB, bR gD, aK]
 rw [show ∀ H : aB, aR H ng (bP.row 4 [[Cell.v (aD.op ns 3 0 0), Cell.v (aD.op np 1 0 0), Cell.v (I L), Cell.v (aD.bool pl)]]) = aR H ng (kV ns np L pl) from fun _ => rfl]
 refine ⟨fun h0 => ?_, fun h0 => ?_⟩
 ·refine aH.fG (aTZ (np := np) (a := a) (sd := sd) (L := L) (pl := pl) (B := aR B n8 (.row 5 [[.v (I 0), .v (I 0), .v (I 0), .v (I 0), .v .bH]])) hc hl hne vars (by omega) (by rw [aA _ _ _ _ gD]; exact hB1) (by rw [aA _ _ _ _ jB]; exact hB2) (by omega)) ?_
  rintro r_ h' ⟨k, n, a', sd', rfl, hkn, ha', rfl⟩
  simp -dsimp -implicitDefEqProofs only [go_sem, ↓reduceIte, Tryz.f81, cF, bJ, cG, bG, bK, bF, aA, aM, bR jB, bR gD, aK]
  exact aVV (a := a) (a' := a') (sd' := sd') hkn hB1 hB2 (by omega) (by
   intro q_
   simp only [aM]
   grind)
 ·obtain ⟨esF, oF, horF, hBp, honF, hBm⟩ := id hprog
  cases oF with
  |none => exact absurd (by rw [honF rfl]; rfl) h0
  |some mF =>
  have hBm := hBm mF rfl
  have p1 : ¬ np = ns := fun q => by rw [q, hB1] at hBp; cases hBp
  have p2 : ¬ np = ng := fun q => by rw [q, hB2] at hBp; cases hBp
  have p3 : ¬ np = n8 := fun q => by rw [q, z8] at hBp; cases hBp
  have m1 : ¬ mF = ns := fun q => by rw [q, hB1] at hBm; cases hBm
  have m2 : ¬ mF = ng := fun q => by rw [q, hB2] at hBm; cases hBm
  have m3 : ¬ mF = n8 := fun q => by rw [q, z8] at hBm; cases hBm
  have aT5 : ¬ np = ns := p1
  have a4S : ¬ ns = np := Ne.symm aT5
  have xH : (np = ns) = False := eq_false aT5
  have xI : (ns = np) = False := eq_false a4S
  have aT6 : ¬ np = ng := p2
  have a4T : ¬ ng = np := Ne.symm aT6
  have xJ : (np = ng) = False := eq_false aT6
  have xK : (ng = np) = False := eq_false a4T
  have aT7 : ¬ np = n8 := p3
  have a4U : ¬ n8 = np := Ne.symm aT7
  have xL : (np = n8) = False := eq_false aT7
  have xM : (n8 = np) = False := eq_false a4U
  have aT8 : ¬ mF = ns := m1
  have a4V : ¬ ns = mF := Ne.symm aT8
  have uK : (mF = ns) = False := eq_false aT8
  have uL : (ns = mF) = False := eq_false a4V
  have aT9 : ¬ mF = ng := m2
  have a4W : ¬ ng = mF := Ne.symm aT9
  have uM : (mF = ng) = False := eq_false aT9
  have uN : (ng = mF) = False := eq_false a4W
  have aUA : ¬ mF = n8 := m3
  have a4X : ¬ n8 = mF := Ne.symm aUA
  have uO : (mF = n8) = False := eq_false aUA
  have uP : (n8 = mF) = False := eq_false a4X
  refine aH.fG (oQ (a := a) (sd := sd) hc hl (by omega) p.aI.length (by omega) (by rw [aA _ _ _ _ iD, aG])) ?_
  rintro r_ h' ⟨x, a2, sd2, rfl, x0, x1, -, ha2, rfl⟩
  simp only [bR gS, aK]
  have x1 := x1 (by omega)
  obtain ⟨k, rfl⟩ : ∃ k : Nat, x = k := ⟨x.toNat, by omega⟩
  have hk : k < p.aI.length := by omega
  have hf : p.aI[k]? = some p.aI[k] := List.getElem?_eq_getElem hk
  obtain ⟨hf1, hf2⟩ := hP _ (List.getElem_mem hk)
  generalize p.aI[k] = f at hf hf1 hf2
  obtain ⟨ef, hef, hfo⟩ := horF.a1U k f hf
  obtain ⟨y, rfl, hy⟩ := hfo
  obtain ⟨n5, eo, rfl, hyR⟩ := hy.some (by omega)
  have hcell := aDW hef
  have hes : esF.length = p.aI.length := horF.length.symm
  have hyl : eo.length = f.aQ.length := hyR.length.symm
  simp only [List.map_cons, List.map_nil, OV.jH, OV.vA] at hcell
  simp -dsimp -implicitDefEqProofs only [go_sem, ↓reduceIte, Tryz.f81, cF, bJ, xM, cG, bG, xK, bK, bF, xI, xL, xJ, xH, cF, bJ, uP, cG, bG, uN, bK, bF, uL, uO, uM, uK, aA, aM, Option.toArray_none, Option.toArray_some, List.filterMap_cons, List.filterMap_nil, List.elem_cons_self, List.nil_append, List.append_nil, List.toList_toArray, kV, hBp, hBm, hcell, bY, cA]
  intro n9 q9
  have a9 : ¬ n9 = ng := by grind
  have b9 : ¬ n9 = ns := by grind
  have c9 : ¬ n9 = n8 := by grind
  have z9 : B n9 = none := by grind
  have p4 : ¬ np = n9 := fun q => by rw [q, z9] at hBp; cases hBp
  have m4 : ¬ mF = n9 := fun q => by rw [q, z9] at hBm; cases hBm
  have aCU : ¬ n9 = ng := a9
  have j9 : ¬ ng = n9 := Ne.symm aCU
  have cW : (n9 = ng) = False := eq_false aCU
  have cX : (ng = n9) = False := eq_false j9
  have nB : ¬ n9 = ns := b9
  have eE : ¬ ns = n9 := Ne.symm nB
  have bA : (n9 = ns) = False := eq_false nB
  have bB : (ns = n9) = False := eq_false eE
  have kS : ¬ n9 = n8 := c9
  have aCV : ¬ n8 = n9 := Ne.symm kS
  have bW : (n9 = n8) = False := eq_false kS
  have bX : (n8 = n9) = False := eq_false aCV
  have aUB : ¬ np = n9 := p4
  have a4Y : ¬ n9 = np := Ne.symm aUB
  have zZ : (np = n9) = False := eq_false aUB
  have z5 : (n9 = np) = False := eq_false a4Y
  have aUC : ¬ mF = n9 := m4
  have a4Z : ¬ n9 = mF := Ne.symm aUC
  have xN : (mF = n9) = False := eq_false aUC
  have xO : (n9 = mF) = False := eq_false a4Z
  simp -dsimp -implicitDefEqProofs only [go_sem, ↓reduceIte, Tryz.f81, cF, bJ, xM, bX, cG, bG, xK, cX, bK, bF, xI, bB, xL, xJ, xH, zZ, bW, cW, bA, z5, cF, bJ, uP, bX, cG, bG, uN, cX, bK, bF, uL, bB, uO, uM, uK, xN, bW, cW, bA, xO, aA, aM, Option.toArray_none, Option.toArray_some, List.filterMap_cons, List.filterMap_nil, List.elem_cons_self, List.nil_append, List.append_nil, List.toList_toArray, kV, hBp, hBm, hcell, bY, cA, bR j9, bR eE, aK]
  rw [show ∀ H : aB, aR H ng (bP.row 4 [[Cell.v (aD.op ns 3 0 0), Cell.v (aD.op np 1 0 0), Cell.v (I L), Cell.v (aD.bool pl)]]) = aR H ng (kV ns np L pl) from fun _ => rfl]
  refine ⟨hk, fun _ => ?_⟩
  refine aH.fG (oQ (a := a2) (sd := sd2) hc hl (by omega) eo.length (by omega) (by rw [aA _ _ _ _ iD, aG])) ?_
  rintro r_ h' ⟨y, a3, sd3, rfl, y0, y1, -, ha3, rfl⟩
  have y1 := y1 (by omega)
  simp only [bR gS, aK]
  simp -dsimp -implicitDefEqProofs only [go_sem, ↓reduceIte, Tryz.f81, cF, bJ, xM, bX, cG, bG, xK, cX, bK, bF, xI, bB, xL, xJ, xH, zZ, bW, cW, bA, z5, cF, bJ, uP, bX, cG, bG, uN, cX, bK, bF, uL, bB, uO, uM, uK, xN, bW, cW, bA, xO, aA, aM, Option.toArray_none, Option.toArray_some, List.filterMap_cons, List.filterMap_nil, List.elem_cons_self, List.nil_append, List.append_nil, List.toList_toArray, hBp, hBm, hcell, bY, cA, bR j9, bR eE, bR gS, aK]
  refine fun _ => ?_
  apply aEC
  case m =>
   intro key
   refine ⟨fun h1 => ?_, fun h1 => ?_⟩
   ·simp -dsimp -implicitDefEqProofs only [go_sem, ↓reduceIte, Tryz.f81, cF, bJ, xM, bX, cG, bG, xK, cX, bK, bF, xI, bB, xL, xJ, xH, zZ, bW, cW, bA, z5, cF, bJ, uP, bX, cG, bG, uN, cX, bK, bF, uL, bB, uO, uM, uK, xN, bW, cW, bA, xO, aA, aM, Option.toArray_none, Option.toArray_some, List.filterMap_cons, List.filterMap_nil, List.elem_cons_self, List.nil_append, List.append_nil, List.toList_toArray, kV, hBp, hBm, hcell, bY, cA]
    rw [show ∀ H : aB, aR H ng (bP.row 4 [[Cell.v (aD.op ns 3 0 0), Cell.v (aD.op np 1 0 0), Cell.v (I L), Cell.v (aD.bool pl)]]) = aR H ng (kV ns np L pl) from fun _ => rfl]
    refine aH.fG (aPM (a := a3) (sd := sd3) hc hl (by omega) 2 (by omega) (by rw [aA _ _ _ _ iD, aG])) ?_
    rintro r_ h' ⟨b, a4, sd4, rfl, ha4, rfl⟩
    simp only [bR gS, aK]
    cases b
    ·simp -dsimp -implicitDefEqProofs only [go_sem, ↓reduceIte, Tryz.f81, cF, bJ, xM, bX, cG, bG, xK, cX, bK, bF, xI, bB, xL, xJ, xH, zZ, bW, cW, bA, z5, cF, bJ, uP, bX, cG, bG, uN, cX, bK, bF, uL, bB, uO, uM, uK, xN, bW, cW, bA, xO, aA, aM, Option.toArray_none, Option.toArray_some, List.filterMap_cons, List.filterMap_nil, List.elem_cons_self, List.nil_append, List.append_nil, List.toList_toArray, bR j9, bR eE, bR gS, aK]
     refine cS (keep := aME) (ib := a4Q) (mk := a4R) mix (by kernel_rfl) (fun x : CSt => [(0, .op ng 4 0 0), (1, I vars), (2, I p.aI.length), (3, I dp), (8, .op n8 5 0 0), (9, .op n9 5 0 0), (10, .op mF 3 k 0), (11, I x.2.1)]) (fun x => aR (aR (aR (aR (cK x.2.2.2.2.1 (.row 5 (OV.cells x.2.2.2.1)) x.2.2.2.2.2.1) n8 (tR 0 0 0 0 .bH)) n9 (tR x.1 k y x.2.2.2.2.2.2.2.2.2 (jR 5 x.2.1 x.2.2.2.2.2.1))) ns (jG c x.2.2.2.2.2.2.1 x.2.2.2.2.2.2.2.1)) ng (kV ns np x.2.2.2.2.2.2.2.2.1 pl)) (fun x => aIA p f vars dp a L B ns ng n8 n9 x) (fun x => f.aW.toNat - x.2.1) (10, 0, [], [], B, none, a4, sd4, L, 0) ⟨by simp [cV, bZ], aB.le_refl _, by omega, Nat.zero_le _, rfl, trivial, eU.nil B, ⟨hB1, hB2, z8, z9⟩, rfl, (fun m e => by cases e), (fun j h => by cases h), Nat.zero_le _, ⟨Int.le_refl _, by simp [qM], by simp [qM]⟩, by simp [qM]; omega⟩ ?_
     exact key.get
    ·simp -dsimp -implicitDefEqProofs only [go_sem, ↓reduceIte, Tryz.f81, cF, bJ, xM, bX, cG, bG, xK, cX, bK, bF, xI, bB, xL, xJ, xH, zZ, bW, cW, bA, z5, cF, bJ, uP, bX, cG, bG, uN, cX, bK, bF, uL, bB, uO, uM, uK, xN, bW, cW, bA, xO, aA, aM, Option.toArray_none, Option.toArray_some, List.filterMap_cons, List.filterMap_nil, List.elem_cons_self, List.nil_append, List.append_nil, List.toList_toArray, kV, bR j9, bR eE, bR gS, aK]
     rw [show ∀ H : aB, aR H ng (bP.row 4 [[Cell.v (aD.op ns 3 0 0), Cell.v (aD.op np 1 0 0), Cell.v (I L), Cell.v (aD.bool pl)]]) = aR H ng (kV ns np L pl) from fun _ => rfl]
     refine aH.fG (oQ (a := a4) (sd := sd4) hc hl (by omega) 4 (by omega) (by rw [aA _ _ _ _ iD, aG])) ?_
     rintro r_ h' ⟨cnt, a5, sd5, rfl, c0, c1, -, ha5, rfl⟩
     have c1 := c1 (by omega)
     simp only [bR gS, aK]
     simp -dsimp -implicitDefEqProofs only [go_sem, ↓reduceIte, Tryz.f81, cF, bJ, xM, bX, cG, bG, xK, cX, bK, bF, xI, bB, xL, xJ, xH, zZ, bW, cW, bA, z5, cF, bJ, uP, bX, cG, bG, uN, cX, bK, bF, uL, bB, uO, uM, uK, xN, bW, cW, bA, xO, aA, aM, Option.toArray_none, Option.toArray_some, List.filterMap_cons, List.filterMap_nil, List.elem_cons_self, List.nil_append, List.append_nil, List.toList_toArray, bR j9, bR eE, bR gS, aK]
     refine cS (keep := aME) (ib := a4Q) (mk := a4R) mix (by kernel_rfl) (fun x : CSt => [(0, .op ng 4 0 0), (1, I vars), (2, I p.aI.length), (3, I dp), (8, .op n8 5 0 0), (9, .op n9 5 0 0), (10, .op mF 3 k 0), (11, I x.2.1)]) (fun x => aR (aR (aR (aR (cK x.2.2.2.2.1 (.row 5 (OV.cells x.2.2.2.1)) x.2.2.2.2.2.1) n8 (tR 0 0 0 0 .bH)) n9 (tR x.1 k y x.2.2.2.2.2.2.2.2.2 (jR 5 x.2.1 x.2.2.2.2.2.1))) ns (jG c x.2.2.2.2.2.2.1 x.2.2.2.2.2.2.2.1)) ng (kV ns np x.2.2.2.2.2.2.2.2.1 pl)) (fun x => aIA p f vars dp a L B ns ng n8 n9 x) (fun x => f.aW.toNat - x.2.1) (11, 0, [], [], B, none, a5, sd5, L, cnt) ⟨by simp [cV, bZ], aB.le_refl _, by omega, Nat.zero_le _, rfl, trivial, eU.nil B, ⟨hB1, hB2, z8, z9⟩, rfl, (fun m e => by cases e), (fun j h => by cases h), Nat.zero_le _, ⟨Int.le_refl _, by simp [qM], by simp [qM]⟩, by simp [qM]; omega⟩ ?_
     exact key.get
   ·refine cS (keep := aME) (ib := a4Q) (mk := a4R) mix (by kernel_rfl) (fun x : CSt => [(0, .op ng 4 0 0), (1, I vars), (2, I p.aI.length), (3, I dp), (8, .op n8 5 0 0), (9, .op n9 5 0 0), (10, .op mF 3 k 0), (11, I x.2.1)]) (fun x => aR (aR (aR (aR (cK x.2.2.2.2.1 (.row 5 (OV.cells x.2.2.2.1)) x.2.2.2.2.2.1) n8 (tR 0 0 0 0 .bH)) n9 (tR x.1 k y x.2.2.2.2.2.2.2.2.2 (jR 5 x.2.1 x.2.2.2.2.2.1))) ns (jG c x.2.2.2.2.2.2.1 x.2.2.2.2.2.2.2.1)) ng (kV ns np x.2.2.2.2.2.2.2.2.1 pl)) (fun x => aIA p f vars dp a L B ns ng n8 n9 x) (fun x => f.aW.toNat - x.2.1) (10, 0, [], [], B, none, a3, sd3, L, 0) ⟨by simp [cV, bZ], aB.le_refl _, by omega, Nat.zero_le _, rfl, trivial, eU.nil B, ⟨hB1, hB2, z8, z9⟩, rfl, (fun m e => by cases e), (fun j h => by cases h), Nat.zero_le _, ⟨Int.le_refl _, by simp [qM], by simp [qM]⟩, by simp [qM]; omega⟩ ?_
    exact key.get
  case t =>
   rintro ⟨K, i, kids, es, g1, o, a3, sd3, L3, cnt⟩ hgg
   obtain ⟨hK, hi, hlen, hor, hnew, ⟨zs, zg, z18, z19⟩, hgs, hon, hok, hdl, hL3, ha3⟩ := id hgg
   simp only at hi hlen hor hnew zs zg z18 z19 hgs hon hok hdl hL3 ha3 hK ⊢
   have wd : IntKind.i64.wrap ((dp : Int) - 1) = ((dp - 1 : Nat) : Int) := by rw [IntWalk.i64_in _ (by omega)]; omega
   have a05 : mL L ≤ 1000 := by unfold mL; omega
   have hGm := hnew.keep hBm
   have hom : ∀ R, cK g1 R o mF = some (.row 3 (OV.cells esF)) := by
    intro R
    cases o with
    |none => exact hGm
    |some m5 =>
     rw [iK] at hgs
     rw [aJ, aA _ _ _ _ (fun q => by rw [← q, hGm] at hgs; cases hgs)]
     exact hGm
   unfold tR
   simp -dsimp -implicitDefEqProofs only [go_sem, ↓reduceIte, Tryz.f81, cF, bJ, bX, cG, bG, cX, bK, bF, bB, bW, cW, bA, cF, bJ, uP, bX, cG, bG, uN, cX, bK, bF, uL, bB, uO, uM, uK, xN, bW, cW, bA, xO, aA, aM, Option.toArray_none, Option.toArray_some, List.filterMap_cons, List.filterMap_nil, List.elem_cons_self, List.nil_append, List.append_nil, List.toList_toArray, wd, hom, hcell]
   refine ⟨fun hlt => ?_, fun hge => ⟨mT .., ?_⟩⟩
   ·have hV : vars = vars := rfl
    cases o with
    |none =>
     rw [jZ] at hgs
     subst hgs
     obtain rfl : kids = [] := List.length_eq_zero_iff.1 hor.length
     obtain rfl : i = 0 := hlen.symm
     simp only [aO, kW]
     refine aH.fG (ih (dp - 1) (by omega) vars _ a3 sd3 L3 (by rw [aA _ _ _ _ eE, aA _ _ _ _ gD]; exact zs) (by rw [aA _ _ _ _ j9, aA _ _ _ _ jB]; exact zg) (hprog.le (aB.aY z9 (aB.aY z8 hnew.le))) ⟨by omega, by omega, by omega⟩) ?_
     rintro r_ h' ⟨x5, e5, g', a5, sd5, L5, hx, rfl, hnw, ⟨y1, y2⟩, rfl, vJ, hd5, hL5, ha5⟩
     obtain ⟨g5, rfl, w5, z58, z59⟩ := eU.yX z18 (by rw [aA _ _ _ _ kS]; exact z19) hnw
     simp only [aM, cF, bJ, bX, cG, bG, cX, bK, bF, bB, bW, cW, bA, if_false] at y1 y2 z59
     have hx5 := hx
     rw [aC.sH] at hx
     obtain ⟨y4, rfl, yD⟩ := hx
     simp -dsimp -implicitDefEqProofs only [go_sem, ↓reduceIte, Tryz.f81, cF, bJ, bX, cG, bG, cX, bK, bF, bB, bW, cW, bA, aA, aM, Option.toArray_none, Option.toArray_some, List.filterMap_cons, List.filterMap_nil, List.elem_cons_self, List.nil_append, List.append_nil, List.toList_toArray, OV.eN, OV.b7, OV.jH, yD.flat, yD.one]
     have ht := dW []
     refine ⟨by decide, by decide, by decide, fun m qm => ?_⟩
     have am : ¬ m = ns := by grind
     have bm : ¬ m = ng := by grind
     have cm : ¬ m = n8 := by grind
     have em : ¬ m = n9 := by grind
     have dm : g5 m = none := by grind
     skip
     have eH : ¬ m = ns := am
     have fM : ¬ ns = m := Ne.symm eH
     have cN : (m = ns) = False := eq_false eH
     have cO : (ns = m) = False := eq_false fM
     have fV : ¬ m = ng := bm
     have kO : ¬ ng = m := Ne.symm fV
     have iQ : (m = ng) = False := eq_false fV
     have iR : (ng = m) = False := eq_false kO
     have iS : ¬ m = n8 := cm
     have mB : ¬ n8 = m := Ne.symm iS
     have kA : (m = n8) = False := eq_false iS
     have kB : (n8 = m) = False := eq_false mB
     have gK : ¬ m = n9 := em
     have j1 : ¬ n9 = m := Ne.symm gK
     have dI : (m = n9) = False := eq_false gK
     have dJ : (n9 = m) = False := eq_false j1
     simp -dsimp -implicitDefEqProofs only [go_sem, ↓reduceIte, Tryz.f81, cF, bJ, bX, kB, cG, bG, cX, iR, bK, bF, bB, cO, bW, cW, bA, dJ, kA, iQ, cN, dI, aA, aM, Option.toArray_none, Option.toArray_some, List.filterMap_cons, List.filterMap_nil, List.elem_cons_self, List.nil_append, List.append_nil, List.toList_toArray]
     refine ⟨(K, 0 + 1, [] ++ [x5], [] ++ [[.v (.int .i64 x5.aP), .v (.int .i64 x5.bC), .v (.int .i64 x5.cR), .v (.int .i64 x5.cD), y4]], g5, some m, a5, sd5, L5, cnt), IntWalk.i64_in _ (by omega), ?_, hgg.next hlt hx5 w5 ⟨y1, y2, z58, z59⟩ dm ⟨am, bm, cm, em⟩ (by rw [← hV]; exact vJ) (by omega) hL5 ha5, by simp only; omega⟩
     intro q_
     simp only [aM, aJ, bY, gG, dW, cA, iT, iU, OV.eN, OV.b7, OV.jH, List.nil_append, List.map_cons, List.map_nil, ht]
     grind
    |some m0 =>
     rw [iK] at hgs
     obtain ⟨hm1, hm2, hm3, hm4⟩ := hon m0 rfl
     have jT : ¬ m0 = ns := hm1
     have lF : ¬ ns = m0 := Ne.symm jT
     have gM : (m0 = ns) = False := eq_false jT
     have gN : (ns = m0) = False := eq_false lF
     have qE : ¬ m0 = ng := hm2
     have qF : ¬ ng = m0 := Ne.symm qE
     have mC : (m0 = ng) = False := eq_false qE
     have mD : (ng = m0) = False := eq_false qF
     have nC : ¬ m0 = n8 := hm3
     have nZ : ¬ n8 = m0 := Ne.symm nC
     have kC : (m0 = n8) = False := eq_false nC
     have kD : (n8 = m0) = False := eq_false nZ
     have nD : ¬ m0 = n9 := hm4
     have oA : ¬ n9 = m0 := Ne.symm nD
     have jK : (m0 = n9) = False := eq_false nD
     have jL : (n9 = m0) = False := eq_false oA
     have hBm : B m0 = none := by
      cases hb : B m0 with
      |none => rfl
      |some v => have := hnew.keep hb; rw [hgs] at this; cases this
     simp only [aJ, bY]
     refine aH.fG (ih (dp - 1) (by omega) vars _ a3 sd3 L3 (by rw [aA _ _ _ _ eE, aA _ _ _ _ gD, aA _ _ _ _ lF]; exact zs) (by rw [aA _ _ _ _ j9, aA _ _ _ _ jB, aA _ _ _ _ qF]; exact zg) (hprog.le (aB.aY z9 (aB.aY z8 (aB.aY hBm hnew.le)))) ⟨by omega, by omega, by omega⟩) ?_
     rintro r_ h' ⟨x5, e5, g', a5, sd5, L5, hx, rfl, hnw, ⟨y1, y2⟩, rfl, vJ, hd5, hL5, ha5⟩
     obtain ⟨g5, rfl, w5, z50, z58, z59⟩ := eU.aKU hgs (by rw [aA _ _ _ _ nZ]; exact z18) (by rw [aA _ _ _ _ kS, aA _ _ _ _ oA]; exact z19) hnw
     simp only [aM, cF, bJ, bX, kD, cG, bG, cX, mD, bK, bF, bB, gN, bW, cW, bA, jL, kC, mC, gM, jK, if_false] at y1 y2 z58 z59
     have hx5 := hx
     rw [aC.sH] at hx
     obtain ⟨y4, rfl, yD⟩ := hx
     simp -dsimp -implicitDefEqProofs only [go_sem, ↓reduceIte, Tryz.f81, cF, bJ, bX, kD, cG, bG, cX, mD, bK, bF, bB, gN, bW, cW, bA, jL, kC, mC, gM, jK, aA, aM, Option.toArray_none, Option.toArray_some, List.filterMap_cons, List.filterMap_nil, List.elem_cons_self, List.nil_append, List.append_nil, List.toList_toArray, OV.eN, OV.b7, OV.jH, yD.flat, yD.one, cA]
     have ht : List.take i (OV.cells es) = OV.cells es := List.take_of_length_le (by rw [cA]; have := hor.length; omega)
     refine ⟨by decide, by decide, by decide, by have := hor.length; omega, by omega, by omega, fun m qm => ?_⟩
     have am : ¬ m = ns := by grind
     have bm : ¬ m = ng := by grind
     have cm : ¬ m = n8 := by grind
     have em : ¬ m = n9 := by grind
     have dm : g5 m = none := by grind
     have fm : ¬ m = m0 := (by grind); have sD := eq_false fm; have sE := eq_false (Ne.symm fm); have aBC := fm; have aEB := Ne.symm fm
     have eH : ¬ m = ns := am
     have fM : ¬ ns = m := Ne.symm eH
     have cN : (m = ns) = False := eq_false eH
     have cO : (ns = m) = False := eq_false fM
     have fV : ¬ m = ng := bm
     have kO : ¬ ng = m := Ne.symm fV
     have iQ : (m = ng) = False := eq_false fV
     have iR : (ng = m) = False := eq_false kO
     have iS : ¬ m = n8 := cm
     have mB : ¬ n8 = m := Ne.symm iS
     have kA : (m = n8) = False := eq_false iS
     have kB : (n8 = m) = False := eq_false mB
     have gK : ¬ m = n9 := em
     have j1 : ¬ n9 = m := Ne.symm gK
     have dI : (m = n9) = False := eq_false gK
     have dJ : (n9 = m) = False := eq_false j1
     simp -dsimp -implicitDefEqProofs only [go_sem, ↓reduceIte, Tryz.f81, cF, bJ, bX, kB, cG, bG, cX, iR, bK, bF, bB, cO, bW, cW, bA, dJ, kA, iQ, cN, dI, sD, kA, dI, iQ, cN, sE, kC, jK, mC, gM, kB, kD, bX, cF, bJ, dJ, jL, bW, cW, bA, iR, mD, cG, cX, bG, cO, gN, bK, bB, bF, aA, aM, Option.toArray_none, Option.toArray_some, List.filterMap_cons, List.filterMap_nil, List.elem_cons_self, List.nil_append, List.append_nil, List.toList_toArray]
     refine ⟨(K, i + 1, kids ++ [x5], es ++ [[.v (.int .i64 x5.aP), .v (.int .i64 x5.bC), .v (.int .i64 x5.cR), .v (.int .i64 x5.cD), y4]], g5, some m, a5, sd5, L5, cnt), IntWalk.i64_in _ (by omega), ?_, hgg.next hlt hx5 w5 ⟨y1, y2, z58, z59⟩ dm ⟨am, bm, cm, em⟩ (by rw [← hV]; exact vJ) (by omega) hL5 ha5, by simp only; omega⟩
     intro q_
     simp only [aM, aJ, bY, gG, dW, cA, iT, iU, OV.eN, OV.b7, OV.jH, List.nil_append, List.map_cons, List.map_nil, ht]
     grind
   ·have hi2 : (i : Int) = f.aW := by omega
    have y8 : cK g1 (.row 5 (OV.cells es)) o n8 = none := iL z18 fun m e => (hon m e).2.2.1
    have y9 : cK g1 (.row 5 (OV.cells es)) o n9 = none := iL z19 fun m e => (hon m e).2.2.2
    exact aVW hf hf1 ⟨y0, by omega⟩ hgg hi2 (by
     intro q_
     simp only [aM]
     grind)
open Go.Proofs
set_option linter.unusedVariables false
set_option linter.unusedSimpArgs false
theorem bJT {p : aE} {ns ng np : Nat} {c : List Int} {pl : Bool} (hc : ∀ x ∈ c, InB x) (hl : c.length ≤ 4096) (hne : ¬ ns = ng) (hP : aF0 p) (hpl : p.aI.length ≤ 100) (dp : Nat) : aZ4 Tryz.prog 48 p ns ng np c pl dp := by
 induction dp with
 |zero => exact aH9 hc hl hne hP (fun d h => by omega) (fun h => by omega)
 |succ d ih =>
  have hd : ∀ d', d' + 1 = d + 1 → aZ4 Tryz.prog 48 p ns ng np c pl d' := fun d' h => by
   cases h
   exact ih
  exact aH9 hc hl hne hP hd (fun _ => aRQ hc hl hne hP hpl (by omega) hd)
def aED : List (List UInt8) := [[102], [103], [115, 116, 101, 112], [104, 50]]
def aBD (p : aE) (k : Nat) (f : aT) : Prop := (∃ w ∈ aED, f.kE = w ++ Go.Lib.itoa k) ∧ (1 ≤ f.aW ∧ f.aW ≤ 3) ∧ (1 ≤ f.aQ.length ∧ f.aQ.length ≤ 3) ∧ ∀ e ∈ f.aQ, e.s ≤ 39 ∧ e.d ≤ 6 ∧ e.ok p k f.aW
def x7 (fs : List aT) : Prop := ∀ (j : Nat) (f : aT), fs[j]? = some f → aBD ⟨fs⟩ j f
theorem aVX {p q : aE} {m : Nat} (hpq : ∀ j, j < m → q.aI[j]? = p.aI[j]?) {e : aC} {vars : Int} (h : l6 p e vars m) : l6 q e vars m := by
 unfold l6 at h ⊢
 split
 ·rename_i hk
  rw [if_pos hk] at h
  exact ⟨h.1, h.2.1, fun f ef => h.2.2 f (by rw [hpq _ (by omega)] at ef; exact ef)⟩
 ·rename_i hk
  rw [if_neg hk] at h
  exact h
theorem aC.aUD {p q : aE} {m : Nat} (hpq : ∀ j, j < m → q.aI[j]? = p.aI[j]?) (e : aC) (vars : Int) (h : e.ok p m vars) : e.ok q m vars := by
 have h1 := (aC.dB _ _ _ _).1 h
 refine (aC.dB _ _ _ _).2 ⟨aVX hpq h1.1, fun j hj => ?_⟩
 have hs := aC.aB6 (List.getElem_mem hj)
 exact aC.aUD hpq e.aN[j] _ (h1.2 j hj)
termination_by e.s
theorem x7.snoc {fs : List aT} (h : x7 fs) {f : aT} (hf : aBD ⟨fs⟩ fs.length f) : x7 (fs ++ [f]) := by
 have up : ∀ {k : Nat} {g : aT}, k ≤ fs.length → aBD ⟨fs⟩ k g → aBD ⟨fs ++ [f]⟩ k g := fun {k g} hk ⟨h1, h2, h3, h4⟩ => ⟨h1, h2, h3, fun e he => ⟨(h4 e he).1, (h4 e he).2.1, aC.aUD (fun j hj => by simp only [aE.aI]; rw [List.getElem?_append_left (by omega)]) e _ (h4 e he).2.2⟩⟩
 intro j g hg
 rcases Nat.lt_or_ge j fs.length with h1 | h1
 ·rw [List.getElem?_append_left h1] at hg
  exact up (by omega) (h j g hg)
 ·have hj : j < (fs ++ [f]).length := by rcases Nat.lt_or_ge j (fs ++ [f]).length with q | q; exact q; rw [List.getElem?_eq_none q] at hg; cases hg
  rw [List.length_append, List.length_singleton] at hj
  obtain rfl : j = fs.length := by omega
  rw [List.getElem?_append_right (Nat.le_refl _), Nat.sub_self] at hg
  cases hg
  exact up (Nat.le_refl _) hf
theorem x7.get {fs : List aT} (h : x7 fs) {f : aT} (hf : f ∈ fs) : ∃ j, j < fs.length ∧ fs[j]? = some f ∧ aBD ⟨fs⟩ j f := by
 obtain ⟨j, hj, e⟩ := List.mem_iff_getElem.1 hf
 have e2 : fs[j]? = some f := by rw [List.getElem?_eq_getElem hj, e]
 exact ⟨j, hj, e2, h j f e2⟩
theorem x7.aUE {fs : List aT} (h : x7 fs) : aF0 ⟨fs⟩ := fun f hf => by
 obtain ⟨j, -, -, hg⟩ := h.get hf
 exact ⟨hg.2.1, hg.2.2.1⟩
theorem aCW {k : Nat} (h : k ≤ 2) : ∃ c : UInt8, Go.Lib.itoa k = [c] ∧ Dig c ∧ c.toNat = 48 + k := by
 refine ⟨UInt8.ofNat (48 + k), by rw [aZI _ (by omega), Int.toNat_natCast, a4B (by omega)], ?_⟩
 match k, h with
 |0, _ => exact ⟨⟨by decide, by decide⟩, rfl⟩
 |1, _ => exact ⟨⟨by decide, by decide⟩, rfl⟩
 |2, _ => exact ⟨⟨by decide, by decide⟩, rfl⟩
theorem a40 {w : List UInt8} (hw : w ∈ aED) {c : UInt8} (hc : Dig c) : aA0 (w ++ [c]) := by
 simp only [aED, List.mem_cons, List.not_mem_nil, or_false] at hw
 rcases hw with rfl | rfl | rfl | rfl
 all_goals
  refine ⟨by simp, by simp, fun x hx => by cases hx; exact ⟨by decide, by decide⟩, fun x hx => ?_⟩
  simp only [List.cons_append, List.nil_append, List.mem_cons, List.not_mem_nil, or_false] at hx
 ·rcases hx with rfl | rfl <;> first | exact .inr hc | exact .inl ⟨by decide, by decide⟩
 ·rcases hx with rfl | rfl <;> first | exact .inr hc | exact .inl ⟨by decide, by decide⟩
 ·rcases hx with rfl | rfl | rfl | rfl | rfl <;> first | exact .inr hc | exact .inl ⟨by decide, by decide⟩
 ·rcases hx with rfl | rfl | rfl <;> first | exact .inr hc | exact .inl ⟨by decide, by decide⟩ | exact .inr ⟨by decide, by decide⟩
theorem x7.bJU {fs : List aT} (h : x7 fs) (hl : fs.length ≤ 3) : (⟨fs⟩ : aE).ok := by
 have hsz : ∀ {l : List aC}, (∀ e ∈ l, e.s ≤ 39) → qM aC.s l ≤ 40 * l.length := fun {l} hl => by
  rw [kT]
  induction l with
  |nil => simp
  |cons x l ih =>
   have h1 := hl x (.head _)
   have h2 := ih fun e he => hl e (.tail _ he)
   simp only [List.length_cons, List.map_cons, List.sum_cons]
   omega
 refine ⟨by simp only [aE.aI]; omega, fun k f hf => ?_⟩
 ·have hk : k < fs.length := by rcases Nat.lt_or_ge k fs.length with q | q; exact q; rw [show (⟨fs⟩ : aE).aI = fs from rfl, List.getElem?_eq_none q] at hf; cases hf
  obtain ⟨⟨w, hw, hn⟩, h2, h3, h4⟩ := h k f hf
  obtain ⟨c, ec, dc, cv⟩ := aCW (k := k) (by omega)
  have h5 := hsz fun e he => (h4 e he).1
  refine ⟨by rw [hn, ec]; exact a40 hw dc, by omega, by omega, fun g hg q => ?_, by omega, fun e he => ⟨by omega, ⟨by omega, by simp only [aE.aI]; omega⟩, by have := (h4 e he).1; omega, by have := (h4 e he).2.1; omega, (h4 e he).2.2⟩⟩
  obtain ⟨j, hj, e⟩ := List.mem_iff_getElem.1 hg
  rw [List.length_take] at hj
  rw [List.getElem_take] at e
  obtain ⟨⟨w2, hw2, hn2⟩, -⟩ := h j g (by rw [List.getElem?_eq_getElem (by simp only [aE.aI] at hj; omega)]; exact congrArg some e)
  obtain ⟨c2, ec2, -, cv2⟩ := aCW (k := j) (by omega)
  rw [hn, hn2, ec, ec2] at q
  have q2 := congrArg List.getLast? q
  simp only [List.getLast?_append, List.getLast?_singleton, Option.some_or, Option.some.injEq] at q2
  rw [q2] at cv2
  omega
set_option maxRecDepth 100000
open Go.Proofs
set_option linter.unusedVariables false
set_option linter.unusedSimpArgs false
abbrev DSt := List aT × List (List OV) × aB × Option Nat × Nat × Int
def aUF (n : Nat) (a : Nat) (B : aB) (ns n8 n9 : Nat) : DSt → Prop := fun (fs, es, g1, o, a3, _) =>
 fs.length ≤ n ∧ x7 fs ∧ OR aT.o fs es ∧ eU B (OV.b6 es) g1 ∧ (g1 ns = none ∧ g1 n8 = none ∧ g1 n9 = none) ∧ yZ g1 es o ∧ (∀ m, o = some m → ¬ m = ns ∧ ¬ m = n8 ∧ ¬ m = n9) ∧ (o = none → fs = []) ∧ (a ≤ a3 ∧ a3 ≤ a + 5000 * fs.length)
abbrev ISt := Int × Nat × List aC × List (List OV) × aB × Option Nat × Nat × Int
def aJ8 (fs : List aT) (par : Int) (a : Nat) (B1 : aB) (ns nf : Nat) : ISt → Prop := fun (cnt, i, outs, eo, g2, oo, a8, _) =>
 (1 ≤ cnt ∧ cnt ≤ 3) ∧ (i : Int) ≤ cnt ∧ outs.length = i ∧ OR aC.o outs eo ∧ eU B1 (OV.b6 eo) g2 ∧ (g2 ns = none ∧ g2 nf = none) ∧ yZ g2 eo oo ∧ (∀ m, oo = some m → ¬ m = ns ∧ ¬ m = nf) ∧ (∀ e ∈ outs, e.s ≤ 39 ∧ e.d ≤ 6 ∧ e.ok ⟨fs⟩ fs.length par) ∧ (a ≤ a8 ∧ a8 ≤ a + 600 * i)
theorem aJ8.next {fs : List aT} {par : Int} {a : Nat} {B1 : aB} {ns nf : Nat} {cnt : Int} {i : Nat} {outs : List aC} {eo : List (List OV)} {g2 g5 : aB} {oo : Option Nat} {a8 a9 : Nat} {sd8 sd9 : Int} {x : aC} {e : List OV} {m : Nat}
  (h : aJ8 fs par a B1 ns nf (cnt, i, outs, eo, g2, oo, a8, sd8)) (hlt : (i : Int) < cnt) (hx : x.o e) (w : eU g2 (OV.bT e) g5) (z : g5 ns = none ∧ g5 nf = none) (hm : g5 m = none) (hm2 : ¬ m = ns ∧ ¬ m = nf) (hg : x.s ≤ 39 ∧ x.d ≤ 6 ∧ x.ok ⟨fs⟩ fs.length par) (ha : a8 ≤ a9 ∧ a9 ≤ a8 + 600) :
  aJ8 fs par a B1 ns nf (cnt, i + 1, outs ++ [x], eo ++ [e], g5, some m, a9, sd9) := by
 obtain ⟨hcnt, hi, hol, hor, hnew, -, -, -, hgd, ha8⟩ := h
 refine ⟨hcnt, by omega, by rw [List.length_append, hol]; rfl, OR.append hor ⟨hx, trivial⟩, eU.snoc hnew w, z, hm, fun b q => by cases q; exact hm2, fun y hy => ?_, by omega⟩
 rcases List.mem_append.1 hy with hy | hy
 ·exact hgd y hy
 ·rw [List.mem_singleton.1 hy]; exact hg
theorem aUF.next {n a : Nat} {B : aB} {ns n8 n9 : Nat} {fs : List aT} {es : List (List OV)} {g1 g8 : aB} {o : Option Nat} {a3 a8 : Nat} {sd3 sd8 : Int} {f : aT} {e : List OV} {m : Nat}
  (h : aUF n a B ns n8 n9 (fs, es, g1, o, a3, sd3)) (hlt : fs.length < n) (hf : aBD ⟨fs⟩ fs.length f) (hx : f.o e) (w : eU g1 (OV.bT e) g8) (z : g8 ns = none ∧ g8 n8 = none ∧ g8 n9 = none) (hm : g8 m = none) (hm2 : ¬ m = ns ∧ ¬ m = n8 ∧ ¬ m = n9) (ha : a3 ≤ a8 ∧ a8 ≤ a3 + 5000) :
  aUF n a B ns n8 n9 (fs ++ [f], es ++ [e], g8, some m, a8, sd8) := by
 obtain ⟨hfl, hdr, hor, hnew, -, -, -, -, ha3⟩ := h
 exact ⟨by rw [List.length_append, List.length_singleton]; omega, hdr.snoc hf, OR.append hor ⟨hx, trivial⟩, eU.snoc hnew w, z, hm, fun b q => by cases q; exact hm2, (fun q => (by cases q)), by rw [List.length_append, List.length_singleton]; omega⟩
@[go_sem] def aMF : List Nat := [0, 1, 2, 3, 8, 9, 10, 11, 12, 13, 14, 18, 35, 40]
@[go_sem] def a41 : List Nat := [22, 55, 61]
@[go_sem] def a42 : Marks := fun id => match id with | 13 => ([1, 4, 6, 8, 10], (.op 0 (.op 2 (.op 3 (.op 5 (.op 1 (.op 4 (.op 6 (.op 7 (.op 8 (.op 9 (.op 10 .nil))))))))))), [(1, 6)]) | _ => ([], .nil, [])
set_option maxHeartbeats 8000000 in
theorem bJV {L0 : Int} (hL0 : 1 ≤ L0 ∧ L0 ≤ 14) {ns : Nat} {c : List Int} {pl : Bool} (hc : ∀ x ∈ c, InB x) (hl : c.length ≤ 4096) {n : Nat} (hn : n ≤ 3) {B : aB} (hB : B ns = none) {a : Nat} (ha : a ≤ 700000000) {sd : Int} :
  iH Tryz.prog 46 [.op ns 3 0 0, I n, I L0, .bool pl] (aR B ns (jG c a sd)) fun r h' => ∃ (fs : List aT) (es : List (List OV)) (o : Option Nat) (g1 : aB) (a' : Nat) (sd' : Int), fs.length = n ∧ x7 fs ∧ OR aT.o fs es ∧ eU B (OV.b6 es) g1 ∧ g1 ns = none ∧ yZ g1 es o ∧ (∀ m, o = some m → ¬ m = ns) ∧ (o = none → fs = []) ∧ r = .agg [jR 3 fs.length o] ∧ (a ≤ a' ∧ a' ≤ a + 5000 * n) ∧ h' = aR (cK g1 (.row 3 (OV.cells es)) o) ns (jG c a' sd') := by
 have bTK : mL L0 ≤ 13 := (by unfold mL; omega)
 refine j4 65 aMF a41 a42 mix Tryz.func46 rfl (by kernel_rfl) (by simp) ?_
 simp -dsimp -implicitDefEqProofs only [go_sem, ↓reduceIte, Tryz.f46, kV]
 intro n8 q8
 have b8 : ¬ n8 = ns := by grind
 have z8 : B n8 = none := by grind
 have uJ : ¬ n8 = ns := b8
 have gD : ¬ ns = n8 := Ne.symm uJ
 have bJ : (n8 = ns) = False := eq_false uJ
 have bK : (ns = n8) = False := eq_false gD
 intro n9 q9
 have b9 : ¬ n9 = ns := by grind
 have c9 : ¬ n9 = n8 := by grind
 have z9 : B n9 = none := by grind
 have nB : ¬ n9 = ns := b9
 have eE : ¬ ns = n9 := Ne.symm nB
 have bA : (n9 = ns) = False := eq_false nB
 have bB : (ns = n9) = False := eq_false eE
 have kS : ¬ n9 = n8 := c9
 have aCV : ¬ n8 = n9 := Ne.symm kS
 have bW : (n9 = n8) = False := eq_false kS
 have bX : (n8 = n9) = False := eq_false aCV
 simp only [bR gD, bR eE, aK]
 refine cS (keep := aMF) (ib := a41) (mk := a42) mix (by kernel_rfl) (fun x : DSt => [(0, .op ns 3 0 0), (1, I n), (2, I L0), (3, .bool pl), (8, .op n8 1 0 0), (9, .op n9 1 0 0), (10, I x.1.length)]) (fun x => aR (aR (aR (cK x.2.2.1 (.row 3 (OV.cells x.2.1)) x.2.2.2.1) n8 (.row 1 [[.v .bH]])) n9 (.row 1 [[.v (jR 3 x.1.length x.2.2.2.1)]])) ns (jG c x.2.2.2.2.1 x.2.2.2.2.2)) (fun x => aUF n a B ns n8 n9 x) (fun x => n - x.1.length) ([], [], B, none, a, sd) ⟨by simp [cV, bZ], aB.le_refl _, Nat.zero_le _, (fun j f h => by cases h), trivial, eU.nil B, ⟨hB, z8, z9⟩, rfl, (fun m e => by cases e), (fun _ => rfl), by simp⟩ ?_
 rintro ⟨fs, es, g1, o, a3, sd3⟩ hdd
 obtain ⟨hfl, hdr, hor, hnew, ⟨zs, z18, z19⟩, hgs, hon, hfo, ha3⟩ := id hdd
 simp only at hfl hdr hor hnew zs z18 z19 hgs hon hfo ha3 ⊢
 simp -dsimp -implicitDefEqProofs only [go_sem, ↓reduceIte, Tryz.f46, bJ, bX, bK, bB, bW, bA, aA, aM, Option.toArray_none, Option.toArray_some, List.filterMap_cons, List.filterMap_nil, List.elem_cons_self, List.nil_append, List.append_nil, List.toList_toArray]
 refine ⟨fun hlt => ⟨by decide, by decide, ?_⟩, fun hge => ⟨mT .., ?_⟩⟩
 ·refine aH.fG (bI2 (a := a3) (sd := sd3) hc hl (by omega) aED true (by decide) (by decide) (aG ..)) ?_
  rintro r_ h' ⟨w, a4, sd4, rfl, hw, ha4, rfl⟩
  rw [aK]
  simp -dsimp -implicitDefEqProofs only [go_sem, ↓reduceIte, Tryz.f46, bJ, bX, bK, bB, bW, bA, aA, aM, Option.toArray_none, Option.toArray_some, List.filterMap_cons, List.filterMap_nil, List.elem_cons_self, List.nil_append, List.append_nil, List.toList_toArray]
  first | refine aH.mk ((aFY 4 fs.length (by omega) (by omega) (by omega))) ?_ | refine aF.mk ((aFY 4 fs.length (by omega) (by omega) (by omega))) ?_ | refine aH.bS ((aFY 4 fs.length (by omega) (by omega) (by omega))) ?_ | refine aF.mk (bM.eQ ((aFY 4 fs.length (by omega) (by omega) (by omega)))) ?_
  simp -dsimp -implicitDefEqProofs only [go_sem, ↓reduceIte, Tryz.f46, bJ, bX, bK, bB, bW, bA, aA, aM, Option.toArray_none, Option.toArray_some, List.filterMap_cons, List.filterMap_nil, List.elem_cons_self, List.nil_append, List.append_nil, List.toList_toArray]
  refine ⟨by have := aCW (k := fs.length) (by omega); obtain ⟨c5, e5, -, -⟩ := this; have : w.length ≤ 4 := (by simp only [aED, List.mem_cons, List.not_mem_nil, or_false] at hw; rcases hw with rfl | rfl | rfl | rfl <;> decide); rw [e5]; simp only [List.length_singleton]; omega, ?_⟩
  refine aH.fG (oQ (a := a4) (sd := sd4) hc hl (by omega) 3 (by omega) (aG ..)) ?_
  rintro r_ h' ⟨px, a5, sd5, rfl, x0, x1, -, ha5, rfl⟩
  have x1 := x1 (by omega)
  have wp : IntKind.i64.wrap (1 + px) = 1 + px := IntWalk.i64_in _ (by omega)
  rw [aK]
  simp -dsimp -implicitDefEqProofs only [go_sem, ↓reduceIte, Tryz.f46, bJ, bX, bK, bB, bW, bA, aA, aM, Option.toArray_none, Option.toArray_some, List.filterMap_cons, List.filterMap_nil, List.elem_cons_self, List.nil_append, List.append_nil, List.toList_toArray, wp]
  intro nf qf
  have af : ¬ nf = ns := by grind
  have bf : ¬ nf = n8 := by grind
  have cf : ¬ nf = n9 := by grind
  have zf : cK g1 (.row 3 (OV.cells es)) o nf = none := by grind
  have aCX : ¬ nf = ns := af
  have oB : ¬ ns = nf := Ne.symm aCX
  have bU : (nf = ns) = False := eq_false aCX
  have bV : (ns = nf) = False := eq_false oB
  have aF1 : ¬ nf = n8 := bf
  have a43 : ¬ n8 = nf := Ne.symm aF1
  have oC : (nf = n8) = False := eq_false aF1
  have oD : (n8 = nf) = False := eq_false a43
  have uQ : ¬ nf = n9 := cf
  have uR : ¬ n9 = nf := Ne.symm uQ
  have dK : (nf = n9) = False := eq_false uQ
  have dM : (n9 = nf) = False := eq_false uR
  simp -dsimp -implicitDefEqProofs only [go_sem, ↓reduceIte, Tryz.f46, bJ, bX, oD, bK, bB, bV, bW, bA, dM, oC, bU, dK, aA, aM, Option.toArray_none, Option.toArray_some, List.filterMap_cons, List.filterMap_nil, List.elem_cons_self, List.nil_append, List.append_nil, List.toList_toArray, wp, bR oB, aK]
  refine aH.fG (oQ (a := a5) (sd := sd5) hc hl (by omega) 3 (by omega) (aG ..)) ?_
  rintro r_ h' ⟨py, a6, sd6, rfl, y0, y1, -, ha6, rfl⟩
  have y1 := y1 (by omega)
  have wq : IntKind.i64.wrap (1 + py) = 1 + py := IntWalk.i64_in _ (by omega)
  rw [aK]
  simp -dsimp -implicitDefEqProofs only [go_sem, ↓reduceIte, Tryz.f46, bJ, bX, oD, bK, bB, bV, bW, bA, dM, oC, bU, dK, aA, aM, Option.toArray_none, Option.toArray_some, List.filterMap_cons, List.filterMap_nil, List.elem_cons_self, List.nil_append, List.append_nil, List.toList_toArray, wq]
  refine aH.fG (aPM (a := a6) (sd := sd6) hc hl (by omega) 2 (by omega) (aG ..)) ?_
  rintro r_ h' ⟨b, a7, sd7, rfl, ha7, rfl⟩
  rw [aK]
  generalize hnm : w ++ Go.Lib.itoa fs.length = nm
  generalize hpar : 1 + px = par at *
  apply aEC
  case m =>
   intro key
   cases b
   ·simp -dsimp -implicitDefEqProofs only [go_sem, ↓reduceIte, Tryz.f46, bJ, bX, oD, bK, bB, bV, bW, bA, dM, oC, bU, dK, aA, aM, Option.toArray_none, Option.toArray_some, List.filterMap_cons, List.filterMap_nil, List.elem_cons_self, List.nil_append, List.append_nil, List.toList_toArray]
    refine cS (keep := aMF) (ib := a41) (mk := a42) mix (by kernel_rfl) (fun x : ISt => [(0, .op ns 3 0 0), (1, I n), (2, I L0), (3, .bool pl), (8, .op n8 1 0 0), (9, .op n9 1 0 0), (10, I fs.length), (11, .op nf 3 0 0), (12, I x.1), (13, I x.2.1)]) (fun x => aR (aR (cK x.2.2.2.2.1 (.row 5 (OV.cells x.2.2.2.1)) x.2.2.2.2.2.1) nf (.row 3 [[.v (.str nm), .v (I par), .v (jR 5 x.2.1 x.2.2.2.2.2.1)]])) ns (jG c x.2.2.2.2.2.2.1 x.2.2.2.2.2.2.2)) (fun x => aJ8 fs par a7 (aR (aR (cK g1 (.row 3 (OV.cells es)) o) n8 (.row 1 [[.v .bH]])) n9 (.row 1 [[.v (jR 3 fs.length o)]])) ns nf x) (fun x => x.1.toNat - x.2.1) ((1 + py), 0, [], [], aR (aR (cK g1 (.row 3 (OV.cells es)) o) n8 (.row 1 [[.v .bH]])) n9 (.row 1 [[.v (jR 3 fs.length o)]]), none, a7, sd7) ⟨by simp [cV, bZ], aB.le_refl _, by omega, by omega, rfl, trivial, eU.nil _, ⟨by rw [aA _ _ _ _ eE, aA _ _ _ _ gD]; exact iL zs fun m e => (hon m e).1, by rw [aA _ _ _ _ uQ, aA _ _ _ _ aF1]; exact zf⟩, rfl, (fun m e => by cases e), (fun e h => by cases h), by simp⟩ ?_
    exact key.get
   ·simp -dsimp -implicitDefEqProofs only [go_sem, ↓reduceIte, Tryz.f46, bJ, bX, oD, bK, bB, bV, bW, bA, dM, oC, bU, dK, aA, aM, Option.toArray_none, Option.toArray_some, List.filterMap_cons, List.filterMap_nil, List.elem_cons_self, List.nil_append, List.append_nil, List.toList_toArray]
    refine cS (keep := aMF) (ib := a41) (mk := a42) mix (by kernel_rfl) (fun x : ISt => [(0, .op ns 3 0 0), (1, I n), (2, I L0), (3, .bool pl), (8, .op n8 1 0 0), (9, .op n9 1 0 0), (10, I fs.length), (11, .op nf 3 0 0), (12, I x.1), (13, I x.2.1)]) (fun x => aR (aR (cK x.2.2.2.2.1 (.row 5 (OV.cells x.2.2.2.1)) x.2.2.2.2.2.1) nf (.row 3 [[.v (.str nm), .v (I par), .v (jR 5 x.2.1 x.2.2.2.2.2.1)]])) ns (jG c x.2.2.2.2.2.2.1 x.2.2.2.2.2.2.2)) (fun x => aJ8 fs par a7 (aR (aR (cK g1 (.row 3 (OV.cells es)) o) n8 (.row 1 [[.v .bH]])) n9 (.row 1 [[.v (jR 3 fs.length o)]])) ns nf x) (fun x => x.1.toNat - x.2.1) (par, 0, [], [], aR (aR (cK g1 (.row 3 (OV.cells es)) o) n8 (.row 1 [[.v .bH]])) n9 (.row 1 [[.v (jR 3 fs.length o)]]), none, a7, sd7) ⟨by simp [cV, bZ], aB.le_refl _, by omega, by omega, rfl, trivial, eU.nil _, ⟨by rw [aA _ _ _ _ eE, aA _ _ _ _ gD]; exact iL zs fun m e => (hon m e).1, by rw [aA _ _ _ _ uQ, aA _ _ _ _ aF1]; exact zf⟩, rfl, (fun m e => by cases e), (fun e h => by cases h), by simp⟩ ?_
    exact key.get
  case t =>
   rintro ⟨cnt, i, outs, eo, g2, oo, a8, sd8⟩ hii
   obtain ⟨hcnt, hi, hol, aBE, aRR, ⟨ws, wf⟩, sF, aEE, hgd, ha8⟩ := id hii
   simp only at hcnt hi hol aBE aRR ws wf sF aEE hgd ha8 ⊢
   simp -dsimp -implicitDefEqProofs only [go_sem, ↓reduceIte, Tryz.f46, bJ, bX, oD, bK, bB, bV, bW, bA, dM, oC, bU, dK, aA, aM, Option.toArray_none, Option.toArray_some, List.filterMap_cons, List.filterMap_nil, List.elem_cons_self, List.nil_append, List.append_nil, List.toList_toArray]
   have hkeep : ∀ q R S, (aR (aR (cK g1 (.row 3 (OV.cells es)) o) n8 (.row 1 [[.v .bH]])) n9 (.row 1 [[.v (jR 3 fs.length o)]])) q = some R → cK g2 S oo q = some R := fun q R S hq => by
    have h2 := aRR.keep hq
    cases oo with
    |none => exact h2
    |some m5 =>
     rw [iK] at sF
     rw [aJ, aA _ _ _ _ (fun e => by rw [e, sF] at h2; cases h2)]
     exact h2
   have hk9 := fun S => hkeep n9 _ S (aG ..)
   refine ⟨fun kJ => ?_, fun aE6 => ?_⟩
   ·intro ng qg
    have an : ¬ ng = ns := by grind
    have bn : ¬ ng = nf := by grind
    have zn : cK g2 (.row 5 (OV.cells eo)) oo ng = none := by grind
    have gS : ¬ ng = ns := an
    have iD : ¬ ns = ng := Ne.symm gS
    have bG : (ng = ns) = False := eq_false gS
    have bF : (ns = ng) = False := eq_false iD
    have xP : ¬ ng = nf := bn
    have aMG : ¬ nf = ng := Ne.symm xP
    have lG : (ng = nf) = False := eq_false xP
    have lH : (nf = ng) = False := eq_false aMG
    have zof : cK g2 (.row 5 (OV.cells eo)) oo nf = none := iL wf fun m e => (aEE m e).2
    have hpr : aBA ⟨fs⟩ n9 (aR (cK g2 (.row 5 (OV.cells eo)) oo) nf (.row 3 [[.v (.str nm), .v (I par), .v (jR 5 i oo)]])) := by
     refine ⟨es, o, hor, ?_, hfo, fun m e => ?_⟩
     ·rw [aA _ _ _ _ uR]; exact hk9 _
     ·have hm := hon m e
      subst e
      have h3 := hkeep m (.row 3 (OV.cells es)) (.row 5 (OV.cells eo)) (by rw [aA _ _ _ _ hm.2.2, aA _ _ _ _ hm.2.1, aJ, aG])
      rw [aA _ _ _ _ (fun q => by rw [q, zof] at h3; cases h3)]
      exact h3
    simp -dsimp -implicitDefEqProofs only [go_sem, ↓reduceIte, Tryz.f46, bV, bF, bU, lH, bG, lG, aA, aM, Option.toArray_none, Option.toArray_some, List.filterMap_cons, List.filterMap_nil, List.elem_cons_self, List.nil_append, List.append_nil, List.toList_toArray, kV]
    rw [show ∀ H : aB, aR H ng (bP.row 4 [[Cell.v (aD.op ns 3 0 0), Cell.v (aD.op n9 1 0 0), Cell.v (I L0), Cell.v (aD.bool pl)]]) = aR H ng (kV ns n9 L0 pl) from fun _ => rfl]
    refine aH.fG (bJT hc hl iD hdr.aUE (by simp only [aE.aI]; omega) 5 par _ a8 sd8 L0 (by rw [aA _ _ _ _ oB]; exact iL ws fun m e => (aEE m e).1) (by rw [aA _ _ _ _ xP]; exact zn) hpr ⟨by omega, by omega, by omega⟩) ?_
    rintro r_ h' ⟨x5, e5, g', a9, sd9, L9, hx, rfl, aRS, ⟨v1, v2⟩, rfl, vJ, hd5, hL9, ha9⟩
    obtain ⟨g4, rfl, w4, z4f⟩ := eU.under zof aRS
    simp only [aM, bV, bF, bU, lH, bG, lG, if_false] at v1 v2
    have hx5 := hx
    rw [aC.sH] at hx
    obtain ⟨y4, rfl, yD⟩ := hx
    have aZ9 : x5.s ≤ 39 := by have := hL9.2.2; omega
    cases oo with
    |none =>
     rw [jZ] at sF
     subst sF
     obtain rfl : outs = [] := List.length_eq_zero_iff.1 aBE.length
     obtain rfl : i = 0 := hol.symm
     simp only [aO, kW] at *
     simp -dsimp -implicitDefEqProofs only [go_sem, ↓reduceIte, Tryz.f46, bV, bF, bU, lH, bG, lG, aA, aM, Option.toArray_none, Option.toArray_some, List.filterMap_cons, List.filterMap_nil, List.elem_cons_self, List.nil_append, List.append_nil, List.toList_toArray, OV.eN, OV.b7, OV.jH, yD.flat, yD.one]
     have ht := dW []
     refine ⟨by decide, by decide, by decide, fun m qm => ?_⟩
     have am : ¬ m = ns := by grind
     have bm : ¬ m = nf := by grind
     have dm : g4 m = none := by grind
     have em : ¬ m = ng := by grind
     skip
     have eH : ¬ m = ns := am
     have fM : ¬ ns = m := Ne.symm eH
     have cN : (m = ns) = False := eq_false eH
     have cO : (ns = m) = False := eq_false fM
     have kP : ¬ m = nf := bm
     have pJ : ¬ nf = m := Ne.symm kP
     have eK : (m = nf) = False := eq_false kP
     have eM : (nf = m) = False := eq_false pJ
     have fV : ¬ m = ng := em
     have kO : ¬ ng = m := Ne.symm fV
     have iQ : (m = ng) = False := eq_false fV
     have iR : (ng = m) = False := eq_false kO
     simp -dsimp -implicitDefEqProofs only [go_sem, ↓reduceIte, Tryz.f46, bV, bF, cO, bU, lH, eM, bG, lG, iR, cN, eK, iQ, aA, aM, Option.toArray_none, Option.toArray_some, List.filterMap_cons, List.filterMap_nil, List.elem_cons_self, List.nil_append, List.append_nil, List.toList_toArray]
     refine ⟨(cnt, 0 + 1, [] ++ [x5], [] ++ [[.v (.int .i64 x5.aP), .v (.int .i64 x5.bC), .v (.int .i64 x5.cR), .v (.int .i64 x5.cD), y4]], g4, some m, a9, sd9), ⟨rfl, IntWalk.i64_in _ (by omega)⟩, ?_, hii.next kJ hx5 w4 ⟨v1, z4f⟩ dm ⟨am, bm⟩ ⟨aZ9, by omega, vJ⟩ (by omega), by simp only; omega⟩
     intro q_
     simp only [aM, aJ, bY, gG, dW, cA, iT, iU, OV.eN, OV.b7, OV.jH, List.nil_append, List.map_cons, List.map_nil, ht]
     grind
    |some m5 =>
     rw [iK] at sF
     obtain ⟨g5, rfl, w5, z45⟩ := eU.under sF w4
     have k1 := (aEE m5 rfl).1
     have k2 := (aEE m5 rfl).2
     have k3 : ¬ m5 = ng := fun e => by rw [aJ, e, aG] at zn; cases zn
     have qG : ¬ m5 = ns := k1
     have sT : ¬ ns = m5 := Ne.symm qG
     have sU : (m5 = ns) = False := eq_false qG
     have sV : (ns = m5) = False := eq_false sT
     have qH : ¬ m5 = nf := k2
     have sW : ¬ nf = m5 := Ne.symm qH
     have sX : (m5 = nf) = False := eq_false qH
     have sY : (nf = m5) = False := eq_false sW
     have aCY : ¬ m5 = ng := k3
     have aMH : ¬ ng = m5 := Ne.symm aCY
     have xQ : (m5 = ng) = False := eq_false aCY
     have xR : (ng = m5) = False := eq_false aMH
     simp only [aJ, bY] at *
     simp -dsimp -implicitDefEqProofs only [go_sem, ↓reduceIte, Tryz.f46, bV, bF, sV, bU, lH, sY, bG, lG, xR, sU, sX, xQ, aA, aM, Option.toArray_none, Option.toArray_some, List.filterMap_cons, List.filterMap_nil, List.elem_cons_self, List.nil_append, List.append_nil, List.toList_toArray, OV.eN, OV.b7, OV.jH, yD.flat, yD.one, cA]
     simp only [aM, bV, bF, sV, bU, lH, sY, bG, lG, xR, sU, sX, xQ, if_false] at v1 v2 z4f
     have ht : List.take i (OV.cells eo) = OV.cells eo := List.take_of_length_le (by rw [cA]; have := aBE.length; omega)
     refine ⟨by decide, by decide, by decide, by have := aBE.length; omega, by omega, by omega, fun m qm => ?_⟩
     have am : ¬ m = ns := by grind
     have bm : ¬ m = nf := by grind
     have dm : g5 m = none := by grind
     have em : ¬ m = ng := by grind
     have fm : ¬ m = m5 := (by grind); have aRT := eq_false fm; have aRU := eq_false (Ne.symm fm); have bBU := fm; have bBV := Ne.symm fm
     have eH : ¬ m = ns := am
     have fM : ¬ ns = m := Ne.symm eH
     have cN : (m = ns) = False := eq_false eH
     have cO : (ns = m) = False := eq_false fM
     have kP : ¬ m = nf := bm
     have pJ : ¬ nf = m := Ne.symm kP
     have eK : (m = nf) = False := eq_false kP
     have eM : (nf = m) = False := eq_false pJ
     have fV : ¬ m = ng := em
     have kO : ¬ ng = m := Ne.symm fV
     have iQ : (m = ng) = False := eq_false fV
     have iR : (ng = m) = False := eq_false kO
     simp -dsimp -implicitDefEqProofs only [go_sem, ↓reduceIte, Tryz.f46, bV, bF, cO, bU, lH, eM, bG, lG, iR, cN, eK, iQ, aRT, eK, iQ, cN, aRU, sX, xQ, sU, eM, sY, lH, bU, iR, xR, lG, bG, cO, sV, bV, bF, aA, aM, Option.toArray_none, Option.toArray_some, List.filterMap_cons, List.filterMap_nil, List.elem_cons_self, List.nil_append, List.append_nil, List.toList_toArray]
     refine ⟨(cnt, i + 1, outs ++ [x5], eo ++ [[.v (.int .i64 x5.aP), .v (.int .i64 x5.bC), .v (.int .i64 x5.cR), .v (.int .i64 x5.cD), y4]], g5, some m, a9, sd9), ⟨rfl, IntWalk.i64_in _ (by omega)⟩, ?_, hii.next kJ hx5 w5 ⟨v1, z4f⟩ dm ⟨am, bm⟩ ⟨aZ9, by omega, vJ⟩ (by omega), by simp only; omega⟩
     intro q_
     simp only [aM, aJ, bY, gG, dW, cA, iT, iU, OV.eN, OV.b7, OV.jH, List.nil_append, List.map_cons, List.map_nil, ht]
     grind
   ·simp -dsimp -implicitDefEqProofs only [go_sem, ↓reduceIte, Tryz.f46, bJ, bX, oD, bK, bB, bV, bW, bA, dM, oC, bU, dK, aA, aM, Option.toArray_none, Option.toArray_some, List.filterMap_cons, List.filterMap_nil, List.elem_cons_self, List.nil_append, List.append_nil, List.toList_toArray, hk9]
    refine ⟨by decide, by rw [mT]; rfl, ?_⟩
    cases oo with
    |none =>
     rw [jZ] at sF
     subst sF
     have := aBE.length
     simp at this
     rw [this] at hol
     simp at hol
     omega
    |some m5 =>
    have aRS := aB1 (sz := 5) aRR sF
    have hgo := aHB aBE (sz := 5) sF
    have hei : eo.length = i := by rw [← aBE.length]; exact hol
    rw [iK] at sF
    obtain ⟨k1, k2⟩ := aEE m5 rfl
    have qG : ¬ m5 = ns := k1
    have sT : ¬ ns = m5 := Ne.symm qG
    have sU : (m5 = ns) = False := eq_false qG
    have sV : (ns = m5) = False := eq_false sT
    have qH : ¬ m5 = nf := k2
    have sW : ¬ nf = m5 := Ne.symm qH
    have sX : (m5 = nf) = False := eq_false qH
    have sY : (nf = m5) = False := eq_false sW
    simp only [aJ, bY, aHA] at *
    have a0A : (⟨nm, par, outs⟩ : aT).o [.v (.str nm), .v (I par), .sl m5 5 eo] := ⟨_, rfl, hgo⟩
    have hgood : aBD ⟨fs⟩ fs.length ⟨nm, par, outs⟩ := ⟨⟨w, hw, hnm.symm⟩, by simp only [aT.aW]; omega, by simp only [aT.aQ]; omega, hgd⟩
    have ws' : aR g2 m5 (.row 5 (OV.cells eo)) ns = none := by rw [aA _ _ _ _ sT]; exact ws
    have wf' : aR g2 m5 (.row 5 (OV.cells eo)) nf = none := by rw [aA _ _ _ _ sW]; exact wf
    have bPV := hk9 (.row 5 (OV.cells eo))
    clear hkeep
    generalize aR g2 m5 (.row 5 (OV.cells eo)) = g6 at *
    have hz8 : cK g1 (.row 3 (OV.cells es)) o n8 = none := iL z18 fun m e => (hon m e).2.1
    have hz9 : cK g1 (.row 3 (OV.cells es)) o n9 = none := iL z19 fun m e => (hon m e).2.2
    obtain ⟨g7, rfl, w7, z78, z79⟩ := eU.yX hz8 (by rw [aA _ _ _ _ kS]; exact hz9) aRS
    simp only [aM, bJ, bX, oD, bK, bB, bV, bW, bA, dM, oC, bU, dK, if_false] at ws' wf' z79
    cases o with
    |none =>
     rw [jZ] at hgs
     subst hgs
     obtain rfl : fs = [] := List.length_eq_zero_iff.1 hor.length
     simp only [aO, kW] at *
     simp -dsimp -implicitDefEqProofs only [go_sem, ↓reduceIte, Tryz.f46, bJ, bX, oD, bK, bB, bV, bW, bA, dM, oC, bU, dK, aA, aM, Option.toArray_none, Option.toArray_some, List.filterMap_cons, List.filterMap_nil, List.elem_cons_self, List.nil_append, List.append_nil, List.toList_toArray]
     have ht := dW []
     refine ⟨by decide, fun m qm => ?_⟩
     have am : ¬ m = ns := by grind
     have bm : ¬ m = n8 := by grind
     have cm : ¬ m = n9 := by grind
     have em : ¬ m = nf := by grind
     have dm : g7 m = none := by grind
     skip
     have eH : ¬ m = ns := am
     have fM : ¬ ns = m := Ne.symm eH
     have cN : (m = ns) = False := eq_false eH
     have cO : (ns = m) = False := eq_false fM
     have iS : ¬ m = n8 := bm
     have mB : ¬ n8 = m := Ne.symm iS
     have kA : (m = n8) = False := eq_false iS
     have kB : (n8 = m) = False := eq_false mB
     have gK : ¬ m = n9 := cm
     have j1 : ¬ n9 = m := Ne.symm gK
     have dI : (m = n9) = False := eq_false gK
     have dJ : (n9 = m) = False := eq_false j1
     have kP : ¬ m = nf := em
     have pJ : ¬ nf = m := Ne.symm kP
     have eK : (m = nf) = False := eq_false kP
     have eM : (nf = m) = False := eq_false pJ
     simp -dsimp -implicitDefEqProofs only [go_sem, ↓reduceIte, Tryz.f46, bJ, bX, oD, kB, bK, bB, bV, cO, bW, bA, dM, dJ, oC, bU, dK, eM, kA, cN, dI, eK, aA, aM, Option.toArray_none, Option.toArray_some, List.filterMap_cons, List.filterMap_nil, List.elem_cons_self, List.nil_append, List.append_nil, List.toList_toArray]
     refine ⟨([] ++ [⟨nm, par, outs⟩], [] ++ [[.v (.str nm), .v (I par), .sl m5 5 eo]], g7, some m, a8, sd8), ?_, ?_, hdd.next hlt hgood a0A (by simpa only [OV.dQ, OV.hU, OV.pD, List.nil_append, List.append_nil] using w7) ⟨ws', z78, z79⟩ dm ⟨am, bm, cm⟩ (by omega), by simp only [List.length_append, List.length_singleton]; omega⟩
     ·rw [IntWalk.i64_in _ (by first | omega | (simp only [List.length_nil]; omega))]
      simp only [List.length_append, List.length_singleton, List.length_nil]
      rfl
     ·intro q_
      simp only [aM, aJ, bY, gG, dW, cA, iT, iU, OV.eN, OV.b7, OV.jH, OV.vA, List.nil_append, List.map_cons, List.map_nil, List.length_append, List.length_singleton, List.length_nil, hei, ht]
      grind
    |some m0 =>
     rw [iK] at hgs
     obtain ⟨g8, rfl, w8, z80⟩ := eU.under hgs w7
     obtain ⟨k3, k4, k5⟩ := hon m0 rfl
     have jT : ¬ m0 = ns := k3
     have lF : ¬ ns = m0 := Ne.symm jT
     have gM : (m0 = ns) = False := eq_false jT
     have gN : (ns = m0) = False := eq_false lF
     have nC : ¬ m0 = n8 := k4
     have nZ : ¬ n8 = m0 := Ne.symm nC
     have kC : (m0 = n8) = False := eq_false nC
     have kD : (n8 = m0) = False := eq_false nZ
     have nD : ¬ m0 = n9 := k5
     have oA : ¬ n9 = m0 := Ne.symm nD
     have jK : (m0 = n9) = False := eq_false nD
     have jL : (n9 = m0) = False := eq_false oA
     simp only [aJ, bY] at *
     have k6 : ¬ m0 = nf := fun e => by rw [e, aG] at zf; cases zf
     have aCZ : ¬ m0 = nf := k6
     have aMI : ¬ nf = m0 := Ne.symm aCZ
     have uS : (m0 = nf) = False := eq_false aCZ
     have uT : (nf = m0) = False := eq_false aMI
     simp only [aM, bJ, bX, oD, kD, bK, bB, bV, gN, bW, bA, dM, jL, oC, bU, dK, uT, kC, gM, jK, uS, if_false] at ws' wf' z78 z79
     simp -dsimp -implicitDefEqProofs only [go_sem, ↓reduceIte, Tryz.f46, bJ, bX, oD, kD, bK, bB, bV, gN, bW, bA, dM, jL, oC, bU, dK, uT, kC, gM, jK, uS, aA, aM, Option.toArray_none, Option.toArray_some, List.filterMap_cons, List.filterMap_nil, List.elem_cons_self, List.nil_append, List.append_nil, List.toList_toArray, cA]
     have ht : List.take fs.length (OV.cells es) = OV.cells es := List.take_of_length_le (by rw [cA]; have := hor.length; omega)
     refine ⟨by decide, by have := hor.length; omega, by omega, by omega, fun m qm => ?_⟩
     have am : ¬ m = ns := by grind
     have bm : ¬ m = n8 := by grind
     have cm : ¬ m = n9 := by grind
     have em : ¬ m = nf := by grind
     have dm : g8 m = none := by grind
     have fm : ¬ m = m0 := (by grind); have sD := eq_false fm; have sE := eq_false (Ne.symm fm); have aBC := fm; have aEB := Ne.symm fm
     have eH : ¬ m = ns := am
     have fM : ¬ ns = m := Ne.symm eH
     have cN : (m = ns) = False := eq_false eH
     have cO : (ns = m) = False := eq_false fM
     have iS : ¬ m = n8 := bm
     have mB : ¬ n8 = m := Ne.symm iS
     have kA : (m = n8) = False := eq_false iS
     have kB : (n8 = m) = False := eq_false mB
     have gK : ¬ m = n9 := cm
     have j1 : ¬ n9 = m := Ne.symm gK
     have dI : (m = n9) = False := eq_false gK
     have dJ : (n9 = m) = False := eq_false j1
     have kP : ¬ m = nf := em
     have pJ : ¬ nf = m := Ne.symm kP
     have eK : (m = nf) = False := eq_false kP
     have eM : (nf = m) = False := eq_false pJ
     simp -dsimp -implicitDefEqProofs only [go_sem, ↓reduceIte, Tryz.f46, bJ, bX, oD, kB, bK, bB, bV, cO, bW, bA, dM, dJ, oC, bU, dK, eM, kA, cN, dI, eK, sD, kA, dI, eK, cN, sE, kC, jK, uS, gM, kB, kD, bX, oD, bJ, dJ, jL, bW, dM, bA, eM, uT, oC, dK, bU, cO, gN, bK, bB, bV, aA, aM, Option.toArray_none, Option.toArray_some, List.filterMap_cons, List.filterMap_nil, List.elem_cons_self, List.nil_append, List.append_nil, List.toList_toArray]
     refine ⟨(fs ++ [⟨nm, par, outs⟩], es ++ [[.v (.str nm), .v (I par), .sl m5 5 eo]], g8, some m, a8, sd8), ?_, ?_, hdd.next hlt hgood a0A (by simpa only [OV.dQ, OV.hU, OV.pD, List.nil_append, List.append_nil] using w8) ⟨ws', z78, z79⟩ dm ⟨am, bm, cm⟩ (by omega), by simp only [List.length_append, List.length_singleton]; omega⟩
     ·rw [IntWalk.i64_in _ (by first | omega | (simp only [List.length_nil]; omega))]
      simp only [List.length_append, List.length_singleton, List.length_nil]
      rfl
     ·intro q_
      simp only [aM, aJ, bY, gG, dW, cA, iT, iU, OV.eN, OV.b7, OV.jH, OV.vA, List.nil_append, List.map_cons, List.map_nil, List.length_append, List.length_singleton, List.length_nil, hei, ht]
      grind
 ·have hfe : es.length = fs.length := hor.length.symm
  refine ⟨_, _, Shift.of (Sub.refl _) ?_, fs, es, o, g1, a3, sd3, by omega, hdr, hor, hnew, zs, hgs, fun m e => (hon m e).1, hfo, rfl, by omega, rfl⟩
  have y8 : cK g1 (.row 3 (OV.cells es)) o n8 = none := iL z18 fun m e => (hon m e).2.1
  have y9 : cK g1 (.row 3 (OV.cells es)) o n9 = none := iL z19 fun m e => (hon m e).2.2
  intro q_
  simp only [aM]
  grind
set_option maxRecDepth 100000
open Go.Proofs
set_option linter.unusedVariables false
set_option linter.unusedSimpArgs false
@[go_sem] def bJX : List Nat := [0, 2]
@[go_sem] def ib5 : List Nat := []
@[go_sem] def mk5 : Marks := fun _ => ([], .nil, [])
theorem bJY (c : List Int) : fL Tryz.prog 5 [.sl 1 (c.map fun n => [.int .u8 n]) false] (.bool (decide (4096 < c.length))) := by
 refine fT 6 bJX ib5 mk5 mix Tryz.func5 rfl (by kernel_rfl) (by simp) fun h => ?_
 simp -dsimp -implicitDefEqProofs only [go_sem, ↓reduceIte, Tryz.f5]
 exact fun _ => decide_eq_decide.2 (by omega)
@[go_sem] def a0B : List Nat := [0, 1, 4, 5, 10, 14, 25]
@[go_sem] def bJZ : List Nat := []
@[go_sem] def bJ0 : Marks := fun id => match id with | 6 => ([], (.op 0 (.op 1 (.op 2 (.op 3 (.op 4 (.op 5 (.op 6 (.op 7 (.op 8 .nil))))))))), []) | _ => ([], .nil, [])
theorem aRV (a : List Int) (hl : a.length ≤ 1048576) : fL Tryz.prog 15 [ints a, ints a] (.bool true) := by
 refine fT 26 a0B bJZ bJ0 mix Tryz.func15 rfl (by kernel_rfl) (by simp) fun h => ?_
 simp -dsimp -implicitDefEqProofs only [go_sem, ↓reduceIte, Tryz.f15]
 refine fun _ _ => ?_
 refine cS (keep := a0B) (ib := bJZ) (mk := bJ0) mix (by kernel_rfl) (fun k : Nat => [(0, ints a), (1, ints a), (5, I k)]) (fun _ => h) (fun k => k ≤ a.length) (fun k => a.length - k) 0 ⟨by simp [cV, bZ], aB.le_refl _, Nat.zero_le _⟩ ?_
 intro k hk
 rcases Nat.lt_or_ge k a.length with hlt | hge
 ·have ea : a[k]? = some a[k] := List.getElem?_eq_getElem hlt
  simp -dsimp -implicitDefEqProofs only [go_sem, ↓reduceIte, Tryz.f15, hlt, ea]
  exact fun _ => ⟨k + 1, IntWalk.i64_in _ (by omega), hlt, by omega⟩
 ·obtain rfl : k = a.length := by omega
  simp -dsimp -implicitDefEqProofs only [go_sem, ↓reduceIte, Tryz.f15, Nat.lt_irrefl, Int.lt_irrefl]
@[go_sem] def bBX : List Nat := [0, 1, 2, 3, 4]
@[go_sem] def bPY : List Nat := [2, 3]
@[go_sem] def bPZ : Marks := fun _ => ([], .nil, [])
theorem a45 (x : e8) (hl : x.iO.length ≤ 1048576) : fL Tryz.prog 12 [.agg x.c, .agg x.c] (.bool true) := by
 have hs := aRV x.iO hl
 simp only [e8.aU]
 refine fT 24 bBX bPY bPZ mix Tryz.func12 rfl (by kernel_rfl) (by simp) fun h => ?_
 simp -dsimp -implicitDefEqProofs only [go_sem, ↓reduceIte, Tryz.f12]
 first | refine aH.mk (hs) ?_ | refine aF.mk (hs) ?_ | refine aH.bS (hs) ?_ | refine aF.mk (bM.eQ (hs)) ?_
 simp -dsimp -implicitDefEqProofs only [go_sem, ↓reduceIte, Tryz.f12]
@[go_sem] def bBY : List Nat := [0, 2]
@[go_sem] def bP0 : List Nat := []
@[go_sem] def bP1 : Marks := fun _ => ([], .nil, [])
theorem bJ1 (c : List Int) {g : aB} : iH Tryz.prog 21 [.sl 1 (c.map fun n => [.int .u8 n]) false] g fun r h' => ∃ ns, r = .op ns 3 0 0 ∧ g ns = none ∧ h' = aR g ns (jG c 0 0) := by
 refine aDS 6 bBY bP0 bP1 mix Tryz.func21 rfl (by kernel_rfl) (by simp) ?_
 simp -dsimp -implicitDefEqProofs only [go_sem, ↓reduceIte, Tryz.f21]
 intro n q
 exact ⟨_, aB.le_refl _, n, rfl, q, rfl⟩
open Go.Proofs
set_option linter.unusedVariables false
set_option linter.unusedSimpArgs false
end Go.Hl

/-
  Contracts of functions and laws of the layer over the walk.
-/
import Derived.Test.YtgkipnacdihfnaaGreatVvG
import Derived.Test.YtgkipnacdihfnaaGreatVvB
import Derived.Test.YtgkipnacdihfnaaGreatVvD
namespace Go.Hl
set_option maxRecDepth 100000
open Go.Proofs
set_option linter.unusedVariables false
set_option linter.unusedSimpArgs false
def bG6 (p : aE) (ns ng np : Nat) (c : List Int) (pl : Bool) (vars : Int) (dp : Nat) (B : aA) (R : Nat → Nat → Int → Prop) : aD → aA → Prop := fun r h' =>
 ∃ (x : aB) (e : List OV) (g' : aA) (a' : Nat) (sd' L' : Int), x.o e ∧ r = .agg (e.map OV.val) ∧ fM B (OV.b5 e) g' ∧ (g' ns = none ∧ g' ng = none) ∧ h' = aT (aT g' ns (iM c a' sd')) ng (kK ns np L' pl) ∧
  x.ok p p.aI.length vars ∧ x.d ≤ dp + 1 ∧ R x.s a' L'
def a3H (p : aE) (ns ng np : Nat) (c : List Int) (pl : Bool) (vars : Int) (dp a : Nat) (L : Int) (B : aA) : aD → aA → Prop :=
 bG6 p ns ng np c pl vars dp B fun s a' L' => (L' ≤ L - 1 ∧ L - (s + 1) ≤ L' ∧ s + 3 * mL L' ≤ 3 * mL L) ∧ (a ≤ a' ∧ a' ≤ a + 14 * (s + 1))
def aY3 (p : aE) (ns ng np : Nat) (c : List Int) (pl : Bool) (vars : Int) (dp a : Nat) (L : Int) (B : aA) : aD → aA → Prop :=
 bG6 p ns ng np c pl vars dp B fun s a' L' => (L' ≤ L ∧ L - s ≤ L' ∧ s + 3 * mL L' ≤ 3 * mL L + 3) ∧ (a ≤ a' ∧ a' ≤ a + 10 + 14 * s)
def a9N (dp a : Nat) (vars L : Int) : Prop := (0 ≤ vars ∧ vars + dp ≤ 1000) ∧ a + 42 * mL L + 100 * dp ≤ 800000000 ∧ (-2000000 + 10000 * (dp : Int) ≤ L ∧ L ≤ 1000)
def aY4 (P : Program) (f : FuncId) (p : aE) (ns ng np : Nat) (c : List Int) (pl : Bool) (dp : Nat) : Prop := ∀ (vars : Int) (B : aA) (a : Nat) (sd L : Int), B ns = none → B ng = none → aAW p np B → a9N dp a vars L →
 fF P f [.op ng 4 0 0, I vars, I p.aI.length, I dp] (aT (aT B ns (iM c a sd)) ng (kK ns np L pl)) (a3H p ns ng np c pl vars dp a L B)
def a6A (P : Program) (f : FuncId) (p : aE) (ns ng np : Nat) (c : List Int) (pl : Bool) (dp : Nat) : Prop := ∀ (vars : Int) (B : aA) (a : Nat) (sd L : Int), B ns = none → B ng = none → aAW p np B → (0 ≤ vars ∧ vars + dp ≤ 1000) → a + 42 * mL L + 42 + 100 * dp ≤ 800000050 → (-2000000 + 10000 * (dp : Int) ≤ L ∧ L ≤ 1000 ∧ 1 ≤ L) →
 fF P f [.op ng 4 0 0, I vars, I p.aI.length, I dp] (aT (aT B ns (iM c a sd)) ng (kK ns np L pl)) (aY3 p ns ng np c pl vars dp a L B)
def aFL (p : aE) : Prop := ∀ f ∈ p.aI, (1 ≤ f.aZ ∧ f.aZ ≤ 3) ∧ (1 ≤ f.aW.length ∧ f.aW.length ≤ 3)
theorem aTF {p : aE} {k n vars : Int} (h : (k = 1 ∧ kI n) ∨ (k = 2 ∧ 0 ≤ n ∧ n < vars)) : (aB.mk k n 0 0 []).ok p p.aI.length vars := by
 refine (aB.cR _ _ _ _).2 ⟨?_, fun j hj => by simp [aB.aK] at hj⟩
 rw [dQ (by simp only [aB.aO]; omega)]
 simp only [aB.aO, aB.aX, aB.cN, aB.cA, aB.aK, List.length_nil]
 rcases h with ⟨rfl, h⟩ | ⟨rfl, h⟩
 ·exact ⟨rfl, trivial, trivial, fun _ => h, fun q => by omega, fun q => absurd rfl q⟩
 ·exact ⟨rfl, trivial, trivial, fun q => by omega, fun _ => by omega, fun _ q => absurd rfl q⟩
theorem aY5 (k n : Int) : (aB.mk k n 0 0 []).d = 1 := by rw [aB.aWV]; rfl
theorem aL4 (k n : Int) : (aB.mk k n 0 0 []).s = 0 := by rw [aY1]; rfl
theorem aHZ {p : aE} {ns ng np : Nat} {c : List Int} {pl : Bool} {vars : Int} {dp a : Nat} {L : Int} {B H : aA} {k n : Int} {a' : Nat} {sd' : Int} (h : (k = 1 ∧ kI n) ∨ (k = 2 ∧ 0 ≤ n ∧ n < vars)) (hB1 : B ns = none) (hB2 : B ng = none) (ha : a ≤ a' ∧ a' ≤ a + 14) (hle : (aT (aT B ns (iM c a' sd')) ng (kK ns np (L - 1) pl)).le H) :
  ∃ r1 g2, Shift (.agg [I k, I n, I 0, I 0, .bI]) H r1 g2 ∧ a3H p ns ng np c pl vars dp a L B r1 g2 := by
 refine ⟨_, _, Shift.of (aPG k n) hle, _, _, B, a', sd', L - 1, aY2 k n, rfl, by rw [aJV]; exact fM.nil B, ⟨hB1, hB2⟩, rfl, aTF h, by rw [aY5]; omega, ?_, by rw [aL4]; omega⟩
 rw [aL4]
 unfold mL
 omega
theorem aY6 {p : aE} {ns ng np : Nat} {c : List Int} {pl : Bool} {vars : Int} {dp a : Nat} {L : Int} {B g' H : aA} {x : aB} {e : List OV} {a' : Nat} {sd' L' : Int} (hx : x.o e) (w : fM B (OV.b5 e) g') (z : g' ns = none ∧ g' ng = none) (hok : x.ok p p.aI.length vars) (hd : x.d ≤ dp + 1)
  (hL : L' ≤ L - 1 ∧ (L - 1) - x.s ≤ L' ∧ x.s + 3 * mL L' ≤ 3 * mL (L - 1) + 3) (ha : a ≤ a' ∧ a' ≤ a + 14 * (x.s + 1)) (h1 : ¬ L - 1 < 1) (hle : (aT (aT g' ns (iM c a' sd')) ng (kK ns np L' pl)).le H) :
  ∃ r1 g2, Shift (.agg (e.map OV.val)) H r1 g2 ∧ a3H p ns ng np c pl vars dp a L B r1 g2 :=
 ⟨_, _, Shift.of (Sub.refl _) hle, x, e, g', a', sd', L', hx, rfl, w, z, rfl, hok, hd, ⟨by omega, by omega, by unfold mL at hL ⊢; omega⟩, ha⟩
abbrev GSt := Int × Nat × List aB × List (List OV) × aA × Option Nat × Nat × Int × Int
def y7 (p : aE) (vars : Int) (dp a2 : Nat) (L : Int) (B : aA) (ns ng n8 n9 : Nat) : GSt → Prop := fun (K, i, kids, es, g1, o, a3, _, L3) =>
 (3 ≤ K ∧ K ≤ 9) ∧ i ≤ (dN K).toNat ∧ kids.length = i ∧ OR aB.o kids es ∧ fM B (OV.cC es) g1 ∧ (g1 ns = none ∧ g1 ng = none ∧ g1 n8 = none ∧ g1 n9 = none) ∧ yL g1 es o ∧ (∀ m, o = some m → ¬ m = ns ∧ ¬ m = ng ∧ ¬ m = n8 ∧ ¬ m = n9) ∧
  (∀ (j : Nat) (h : j < kids.length), kids[j].ok p p.aI.length (iL K j vars)) ∧ aB.dL kids ≤ dp ∧ (L3 ≤ L - 1 ∧ (L - 1) - p7 aB.s kids ≤ L3 ∧ p7 aB.s kids + 3 * mL L3 ≤ 3 * mL (L - 1) + i) ∧ (a2 ≤ a3 ∧ a3 ≤ a2 + 14 * p7 aB.s kids)
theorem aL5 (x : aB) : ∀ l : List aB, aB.dL (l ++ [x]) = max (aB.dL l) x.d
 | [] => by simp [aB.dL]
 |y :: l => by rw [List.cons_append, aB.dL, aB.dL, aL5 x l]; omega
theorem y7.next {p : aE} {vars : Int} {dp a2 : Nat} {L : Int} {B : aA} {ns ng n8 n9 : Nat} {K : Int} {i : Nat} {kids : List aB} {es : List (List OV)} {g1 g5 : aA} {o : Option Nat} {a3 a5 : Nat} {y6 sd5 L3 L5 : Int} {x : aB} {e : List OV} {m : Nat}
  (h : y7 p vars dp a2 L B ns ng n8 n9 (K, i, kids, es, g1, o, a3, y6, L3)) (hlt : (i : Int) < dN K) (hx : x.o e) (w : fM g1 (OV.b5 e) g5) (z : g5 ns = none ∧ g5 ng = none ∧ g5 n8 = none ∧ g5 n9 = none) (hm : g5 m = none) (hm2 : ¬ m = ns ∧ ¬ m = ng ∧ ¬ m = n8 ∧ ¬ m = n9)
  (hok : x.ok p p.aI.length (iL K i vars)) (hd : x.d ≤ dp) (hL : L5 ≤ L3 - 1 ∧ L3 - (x.s + 1) ≤ L5 ∧ x.s + 3 * mL L5 ≤ 3 * mL L3) (ha : a3 ≤ a5 ∧ a5 ≤ a3 + 14 * (x.s + 1)) : y7 p vars dp a2 L B ns ng n8 n9 (K, i + 1, kids ++ [x], es ++ [e], g5, some m, a5, sd5, L5) := by
 obtain ⟨hK, hi, hlen, hor, hnew, -, -, -, a9O, hdl, hL3, ha3⟩ := h
 refine ⟨hK, by omega, by rw [List.length_append, hlen]; rfl, OR.append hor ⟨hx, trivial⟩, fM.snoc hnew w, z, hm, fun b q => by cases q; exact hm2, fun j hj => ?_, by rw [aL5]; omega, ?_, ?_⟩
 ·rcases Nat.lt_or_ge j kids.length with h2 | h2
  ·rw [List.getElem_append_left h2]; exact a9O j h2
  ·obtain rfl : j = kids.length := by rw [List.length_append] at hj; simp at hj; omega
   rw [List.getElem_append_right (Nat.le_refl _)]
   simp only [Nat.sub_self, List.getElem_cons_zero]
   rw [hlen]; exact hok
 ·rw [aCC]; refine ⟨by omega, by omega, by omega⟩
 ·rw [aCC]; omega
theorem aY7 {p : aE} {ns ng np : Nat} {c : List Int} {pl : Bool} {vars : Int} {dp a a2 : Nat} {L : Int} {B H : aA} {n8 n9 : Nat} {K : Int} {i : Nat} {kids : List aB} {es : List (List OV)} {g1 : aA} {o : Option Nat} {a3 : Nat} {y6 L3 : Int}
  (h : y7 p vars dp a2 L B ns ng n8 n9 (K, i, kids, es, g1, o, a3, y6, L3)) (hi : (i : Int) = dN K) (ha : a ≤ a2 ∧ a2 ≤ a + 4) (h1 : ¬ L - 1 < 1) (hle : (aT (aT (cQ g1 (.row 5 (OV.cells es)) o) ns (iM c a3 y6)) ng (kK ns np L3 pl)).le H) :
  ∃ r1 g2, Shift (.agg [I K, I 0, I 0, I 0, gQ 5 i o]) H r1 g2 ∧ a3H p ns ng np c pl vars dp a L B r1 g2 := by
 obtain ⟨hK, -, hlen, hor, hnew, ⟨zs, zg, -, -⟩, hgs, hon, hok, hdl, hL, ha3⟩ := h
 have hes : es.length = i := by rw [← hor.length]; exact hlen
 have hk3 : i ≤ 3 := by
  have : dN K ≤ 3 := by unfold dN; split <;> (try split) <;> (try split) <;> (try split) <;> omega
  omega
 rw [← hes]
 have hat : ∀ q, B q = B q := fun _ => rfl
 have z (q : Nat) (hq : g1 q = none) (hqo : ∀ m, o = some m → ¬ m = q) : cQ g1 (.row 5 (OV.cells es)) o q = none := iK hq hqo
 refine ⟨_, _, Shift.of (Sub.agg (.cons (.refl _) (.cons (.refl _) (.cons (.refl _) (.cons (.refl _) (.cons aKO .nil)))))) hle, .mk K 0 0 0 kids, [.v (I K), .v (I 0), .v (I 0), .v (I 0), gov 5 es o], _, a3, y6, L3, (aB.rU _ _).2 ⟨_, rfl, aGU hor hgs⟩, rfl,
  by simpa only [OV.fD, OV.jG, OV.rO, List.nil_append, List.append_nil] using aBK hnew hgs, ⟨z ns zs fun m e => (hon m e).1, z ng zg fun m e => (hon m e).2.1⟩, rfl, (aB.cR _ _ _ _).2 ⟨?_, hok⟩, by rw [aB.aWV]; simp only [aB.aK]; omega, ?_, ?_⟩
 ·rw [dQ (by simp only [aB.aO]; omega)]
  simp only [aB.aO, aB.aX, aB.cN, aB.cA, aB.aK]
  refine ⟨by omega, trivial, trivial, fun q => by omega, fun q => by omega, fun _ _ => trivial⟩
 ·rw [aY1]; unfold mL at hL ⊢; refine ⟨by omega, by omega, by omega⟩
 ·rw [aY1]; omega
theorem share {T G : Prop} (m : T → G) (t : T) : G := m t
@[go_sem] def zA : List Nat := [0, 1, 2, 3, 8, 9, 10, 11, 34, 43, 49, 52, 55, 58, 61, 65, 68, 86, 92, 102]
@[go_sem] def aPH : List Nat := [113]
@[go_sem] def aPI : Marks := fun id => match id with | 32 => ([1, 7, 9, 11], (.op 0 (.op 2 (.op 3 (.op 4 (.op 5 (.op 6 (.op 1 (.op 7 (.op 8 (.op 9 (.op 10 (.op 11 .nil)))))))))))), [(1, 7)]) | _ => ([], .nil, [])
set_option maxHeartbeats 8000000 in
theorem aH0 {p : aE} {ns ng np : Nat} {c : List Int} {pl : Bool} (hc : ∀ x ∈ c, InB x) (hl : c.length ≤ 4096) (hne : ¬ ns = ng) (hP : aFL p) {dp : Nat} (ih : ∀ d, d + 1 = dp → aY4 Tryz.prog 48 p ns ng np c pl d) (hcall : 1 ≤ dp → a6A Tryz.prog 81 p ns ng np c pl dp) : aY4 Tryz.prog 48 p ns ng np c pl dp := by
 intro vars B a sd L hB1 hB2 hprog ⟨hv, ha, hL⟩
 have iH : ¬ ns = ng := hne
 have gW : ¬ ng = ns := Ne.symm iH
 have bF : (ns = ng) = False := eq_false iH
 have bG : (ng = ns) = False := eq_false gW
 have w1 : IntKind.i64.wrap (L - 1) = L - 1 := IntWalk.i64_in _ (by omega)
 refine gK 117 zA aPH aPI mix Tryz.func48 rfl (by kernel_rfl) (by simp) ?_
 simp -dsimp -implicitDefEqProofs only [go_sem, ↓reduceIte, Tryz.f48, kK]
 intro n8 q8
 have a8 : ¬ n8 = ng := by grind
 have b8 : ¬ n8 = ns := by grind
 have z8 : B n8 = none := by grind
 have aCE : ¬ n8 = ng := a8
 have iV : ¬ ng = n8 := Ne.symm aCE
 have cE : (n8 = ng) = False := eq_false aCE
 have cF : (ng = n8) = False := eq_false iV
 have uF : ¬ n8 = ns := b8
 have gH : ¬ ns = n8 := Ne.symm uF
 have bL : (n8 = ns) = False := eq_false uF
 have bM : (ns = n8) = False := eq_false gH
 simp -dsimp -implicitDefEqProofs only [go_sem, ↓reduceIte, Tryz.f48, cE, bL, cF, bG, bM, bF, aC, aL, kK, Option.toArray_none, Option.toArray_some, List.filterMap_cons, List.filterMap_nil, List.elem_cons_self, List.nil_append, List.append_nil, List.toList_toArray, w1, bO iV, bO gH, aM]
 rw [show (cB.row 4 [[.v (.op ns 3 0 0), .v (.op np 1 0 0), .v (.int .i64 (L - 1)), .v (.bool pl)]]) = kK ns np (L - 1) pl from rfl]
 refine ⟨fun h1 => ⟨fun h2 => ?_, fun h2 => ?_⟩, fun h1 => ?_⟩
 ·refine aH.eM (aL1 (a := a) (sd := sd) hc hl (by omega) 5 (by omega) (by rw [aC _ _ _ _ iH, aG])) ?_
  rintro r_ h' ⟨b, a1, sd1, rfl, ha1, rfl⟩
  simp only [bO gW, aM]
  cases b
  ·simp -dsimp -implicitDefEqProofs only [go_sem, ↓reduceIte, Tryz.f48, cE, bL, cF, bG, bM, bF, aC, aL, Option.toArray_none, Option.toArray_some, List.filterMap_cons, List.filterMap_nil, List.elem_cons_self, List.nil_append, List.append_nil, List.toList_toArray]
   intro n9 q9
   have a9 : ¬ n9 = ng := by grind
   have b9 : ¬ n9 = ns := by grind
   have c9 : ¬ n9 = n8 := by grind
   have z9 : B n9 = none := by grind
   have aCF : ¬ n9 = ng := a9
   have jX : ¬ ng = n9 := Ne.symm aCF
   have c7 : (n9 = ng) = False := eq_false aCF
   have c8 : (ng = n9) = False := eq_false jX
   have mY : ¬ n9 = ns := b9
   have eK : ¬ ns = n9 := Ne.symm mY
   have bA : (n9 = ns) = False := eq_false mY
   have bB : (ns = n9) = False := eq_false eK
   have kG : ¬ n9 = n8 := c9
   have aCG : ¬ n8 = n9 := Ne.symm kG
   have bW : (n9 = n8) = False := eq_false kG
   have bX : (n8 = n9) = False := eq_false aCG
   simp -dsimp -implicitDefEqProofs only [go_sem, ↓reduceIte, Tryz.f48, cE, bL, bX, cF, bG, c8, bM, bF, bB, bW, c7, bA, aC, aL, kK, Option.toArray_none, Option.toArray_some, List.filterMap_cons, List.filterMap_nil, List.elem_cons_self, List.nil_append, List.append_nil, List.toList_toArray, bO jX, bO eK, aM]
   refine aH.eM (mX (a := a1) (sd := sd1) hc hl (by omega) 12 (by omega) (by rw [aC _ _ _ _ iH, aG])) ?_
   rintro r_ h' ⟨x, a2, y5, rfl, x0, x1, -, ha2, rfl⟩
   simp only [bO gW, aM]
   simp -dsimp -implicitDefEqProofs only [go_sem, ↓reduceIte, Tryz.f48, cE, bL, bX, cF, bG, c8, bM, bF, bB, bW, c7, bA, aC, aL, Option.toArray_none, Option.toArray_some, List.filterMap_cons, List.filterMap_nil, List.elem_cons_self, List.nil_append, List.append_nil, List.toList_toArray, bO jX, bO eK, aM]
   apply share
   case m =>
    intro key
    repeat' (with_reducible first | intro _ | refine And.intro ?_ ?_)
    all_goals try
     first
     |skip
      refine dA (keep := zA) (ib := aPH) (mk := aPI) mix (by kernel_rfl) (fun x : GSt => [(0, .op ng 4 0 0), (1, I vars), (2, I p.aI.length), (3, I dp), (8, .op n8 5 0 0), (9, .op n9 5 0 0), (10, I x.2.1)]) (fun x => aT (aT (aT (aT (cQ x.2.2.2.2.1 (.row 5 (OV.cells x.2.2.2.1)) x.2.2.2.2.2.1) n8 (tO 0 0 0 0 .bI)) n9 (tO x.1 0 0 0 (gQ 5 x.2.1 x.2.2.2.2.2.1))) ns (iM c x.2.2.2.2.2.2.1 x.2.2.2.2.2.2.2.1)) ng (kK ns np x.2.2.2.2.2.2.2.2 pl)) (fun x => y7 p vars dp a2 L B ns ng n8 n9 x) (fun x => (dN x.1).toNat - x.2.1) (7, 0, [], [], B, none, a2, y5, L - 1) ⟨by simp [dF, b6], aA.le_refl _, by decide, by decide, rfl, trivial, fM.nil B, ⟨hB1, hB2, z8, z9⟩, rfl, (fun m e => by cases e), (fun j h => by cases h), Nat.zero_le _, ⟨Int.le_refl _, by simp [p7], by simp [p7]⟩, by simp [p7]⟩ ?_
      exact key
     |skip
      refine dA (keep := zA) (ib := aPH) (mk := aPI) mix (by kernel_rfl) (fun x : GSt => [(0, .op ng 4 0 0), (1, I vars), (2, I p.aI.length), (3, I dp), (8, .op n8 5 0 0), (9, .op n9 5 0 0), (10, I x.2.1)]) (fun x => aT (aT (aT (aT (cQ x.2.2.2.2.1 (.row 5 (OV.cells x.2.2.2.1)) x.2.2.2.2.2.1) n8 (tO 0 0 0 0 .bI)) n9 (tO x.1 0 0 0 (gQ 5 x.2.1 x.2.2.2.2.2.1))) ns (iM c x.2.2.2.2.2.2.1 x.2.2.2.2.2.2.2.1)) ng (kK ns np x.2.2.2.2.2.2.2.2 pl)) (fun x => y7 p vars dp a2 L B ns ng n8 n9 x) (fun x => (dN x.1).toNat - x.2.1) (9, 0, [], [], B, none, a2, y5, L - 1) ⟨by simp [dF, b6], aA.le_refl _, by decide, by decide, rfl, trivial, fM.nil B, ⟨hB1, hB2, z8, z9⟩, rfl, (fun m e => by cases e), (fun j h => by cases h), Nat.zero_le _, ⟨Int.le_refl _, by simp [p7], by simp [p7]⟩, by simp [p7]⟩ ?_
      exact key
     |skip
      refine dA (keep := zA) (ib := aPH) (mk := aPI) mix (by kernel_rfl) (fun x : GSt => [(0, .op ng 4 0 0), (1, I vars), (2, I p.aI.length), (3, I dp), (8, .op n8 5 0 0), (9, .op n9 5 0 0), (10, I x.2.1)]) (fun x => aT (aT (aT (aT (cQ x.2.2.2.2.1 (.row 5 (OV.cells x.2.2.2.1)) x.2.2.2.2.2.1) n8 (tO 0 0 0 0 .bI)) n9 (tO x.1 0 0 0 (gQ 5 x.2.1 x.2.2.2.2.2.1))) ns (iM c x.2.2.2.2.2.2.1 x.2.2.2.2.2.2.2.1)) ng (kK ns np x.2.2.2.2.2.2.2.2 pl)) (fun x => y7 p vars dp a2 L B ns ng n8 n9 x) (fun x => (dN x.1).toNat - x.2.1) (8, 0, [], [], B, none, a2, y5, L - 1) ⟨by simp [dF, b6], aA.le_refl _, by decide, by decide, rfl, trivial, fM.nil B, ⟨hB1, hB2, z8, z9⟩, rfl, (fun m e => by cases e), (fun j h => by cases h), Nat.zero_le _, ⟨Int.le_refl _, by simp [p7], by simp [p7]⟩, by simp [p7]⟩ ?_
      exact key
     |skip
      refine dA (keep := zA) (ib := aPH) (mk := aPI) mix (by kernel_rfl) (fun x : GSt => [(0, .op ng 4 0 0), (1, I vars), (2, I p.aI.length), (3, I dp), (8, .op n8 5 0 0), (9, .op n9 5 0 0), (10, I x.2.1)]) (fun x => aT (aT (aT (aT (cQ x.2.2.2.2.1 (.row 5 (OV.cells x.2.2.2.1)) x.2.2.2.2.2.1) n8 (tO 0 0 0 0 .bI)) n9 (tO x.1 0 0 0 (gQ 5 x.2.1 x.2.2.2.2.2.1))) ns (iM c x.2.2.2.2.2.2.1 x.2.2.2.2.2.2.2.1)) ng (kK ns np x.2.2.2.2.2.2.2.2 pl)) (fun x => y7 p vars dp a2 L B ns ng n8 n9 x) (fun x => (dN x.1).toNat - x.2.1) (6, 0, [], [], B, none, a2, y5, L - 1) ⟨by simp [dF, b6], aA.le_refl _, by decide, by decide, rfl, trivial, fM.nil B, ⟨hB1, hB2, z8, z9⟩, rfl, (fun m e => by cases e), (fun j h => by cases h), Nat.zero_le _, ⟨Int.le_refl _, by simp [p7], by simp [p7]⟩, by simp [p7]⟩ ?_
      exact key
     |skip
      refine dA (keep := zA) (ib := aPH) (mk := aPI) mix (by kernel_rfl) (fun x : GSt => [(0, .op ng 4 0 0), (1, I vars), (2, I p.aI.length), (3, I dp), (8, .op n8 5 0 0), (9, .op n9 5 0 0), (10, I x.2.1)]) (fun x => aT (aT (aT (aT (cQ x.2.2.2.2.1 (.row 5 (OV.cells x.2.2.2.1)) x.2.2.2.2.2.1) n8 (tO 0 0 0 0 .bI)) n9 (tO x.1 0 0 0 (gQ 5 x.2.1 x.2.2.2.2.2.1))) ns (iM c x.2.2.2.2.2.2.1 x.2.2.2.2.2.2.2.1)) ng (kK ns np x.2.2.2.2.2.2.2.2 pl)) (fun x => y7 p vars dp a2 L B ns ng n8 n9 x) (fun x => (dN x.1).toNat - x.2.1) (3, 0, [], [], B, none, a2, y5, L - 1) ⟨by simp [dF, b6], aA.le_refl _, by decide, by decide, rfl, trivial, fM.nil B, ⟨hB1, hB2, z8, z9⟩, rfl, (fun m e => by cases e), (fun j h => by cases h), Nat.zero_le _, ⟨Int.le_refl _, by simp [p7], by simp [p7]⟩, by simp [p7]⟩ ?_
      exact key
     |skip
      refine dA (keep := zA) (ib := aPH) (mk := aPI) mix (by kernel_rfl) (fun x : GSt => [(0, .op ng 4 0 0), (1, I vars), (2, I p.aI.length), (3, I dp), (8, .op n8 5 0 0), (9, .op n9 5 0 0), (10, I x.2.1)]) (fun x => aT (aT (aT (aT (cQ x.2.2.2.2.1 (.row 5 (OV.cells x.2.2.2.1)) x.2.2.2.2.2.1) n8 (tO 0 0 0 0 .bI)) n9 (tO x.1 0 0 0 (gQ 5 x.2.1 x.2.2.2.2.2.1))) ns (iM c x.2.2.2.2.2.2.1 x.2.2.2.2.2.2.2.1)) ng (kK ns np x.2.2.2.2.2.2.2.2 pl)) (fun x => y7 p vars dp a2 L B ns ng n8 n9 x) (fun x => (dN x.1).toNat - x.2.1) (4, 0, [], [], B, none, a2, y5, L - 1) ⟨by simp [dF, b6], aA.le_refl _, by decide, by decide, rfl, trivial, fM.nil B, ⟨hB1, hB2, z8, z9⟩, rfl, (fun m e => by cases e), (fun j h => by cases h), Nat.zero_le _, ⟨Int.le_refl _, by simp [p7], by simp [p7]⟩, by simp [p7]⟩ ?_
      exact key
     |skip
      refine dA (keep := zA) (ib := aPH) (mk := aPI) mix (by kernel_rfl) (fun x : GSt => [(0, .op ng 4 0 0), (1, I vars), (2, I p.aI.length), (3, I dp), (8, .op n8 5 0 0), (9, .op n9 5 0 0), (10, I x.2.1)]) (fun x => aT (aT (aT (aT (cQ x.2.2.2.2.1 (.row 5 (OV.cells x.2.2.2.1)) x.2.2.2.2.2.1) n8 (tO 0 0 0 0 .bI)) n9 (tO x.1 0 0 0 (gQ 5 x.2.1 x.2.2.2.2.2.1))) ns (iM c x.2.2.2.2.2.2.1 x.2.2.2.2.2.2.2.1)) ng (kK ns np x.2.2.2.2.2.2.2.2 pl)) (fun x => y7 p vars dp a2 L B ns ng n8 n9 x) (fun x => (dN x.1).toNat - x.2.1) (5, 0, [], [], B, none, a2, y5, L - 1) ⟨by simp [dF, b6], aA.le_refl _, by decide, by decide, rfl, trivial, fM.nil B, ⟨hB1, hB2, z8, z9⟩, rfl, (fun m e => by cases e), (fun j h => by cases h), Nat.zero_le _, ⟨Int.le_refl _, by simp [p7], by simp [p7]⟩, by simp [p7]⟩ ?_
      exact key
    all_goals
     rw [show ∀ H : aA, aT H ng (cB.row 4 [[Cell.v (aD.op ns 3 0 0), Cell.v (aD.op np 1 0 0), Cell.v (I (L - 1)), Cell.v (aD.bool pl)]]) = aT H ng (kK ns np (L - 1) pl) from fun _ => rfl]
     refine aH.eM (hcall (by omega) vars _ a2 y5 (L - 1) (by rw [aC _ _ _ _ eK, aC _ _ _ _ gH]; exact hB1) (by rw [aC _ _ _ _ jX, aC _ _ _ _ iV]; exact hB2) (hprog.le (aA.aP z9 (aA.aP z8 (aA.le_refl _)))) ⟨by omega, by omega⟩ (by unfold mL at ha ⊢; omega) ⟨by omega, by omega, by omega⟩) ?_
     rintro r_ h' ⟨x, e, g', a', sd', L', hx, rfl, hnew, ⟨y1, y2⟩, rfl, hok, hd, hL', ha'⟩
     obtain ⟨g5, rfl, w5, z58, z59⟩ := fM.yJ z8 (by rw [aC _ _ _ _ kG]; exact z9) hnew
     simp only [aL, cE, bL, bX, cF, bG, c8, bM, bF, bB, bW, c7, bA, if_false] at y1 y2 z59
     rw [aB.rU] at hx
     obtain ⟨y4, rfl, xV⟩ := hx
     simp -dsimp -implicitDefEqProofs only [go_sem, ↓reduceIte, Tryz.f48, cE, bL, bX, cF, bG, c8, bM, bF, bB, bW, c7, bA, aC, aL, OV.fH, OV.cG, OV.jS, xV.flat, xV.one]
     exact aY6 (x := x) (a' := a') (sd' := sd') (L' := L') ((aB.rU _ _).2 ⟨y4, rfl, xV⟩) w5 ⟨y1, y2⟩ hok hd hL' (by omega) h1 (by
      intro q_
      simp only [aL]
      grind)
   case t =>
    rintro ⟨K, i, kids, es, g1, o, a3, y6, L3⟩ hgg
    obtain ⟨hK, hi, hlen, hor, hnew, ⟨zs, zg, z18, z19⟩, hgs, hon, hok, hdl, hL3, ha3⟩ := id hgg
    simp only at hi hlen hor hnew zs zg z18 z19 hgs hon hok hdl hL3 ha3 hK ⊢
    have hkn : 0 ≤ dN K ∧ dN K ≤ 3 := by unfold dN; split <;> (try split) <;> (try split) <;> (try split) <;> omega
    have wd : IntKind.i64.wrap ((dp : Int) - 1) = ((dp - 1 : Nat) : Int) := by rw [IntWalk.i64_in _ (by omega)]; omega
    have hml : 3 * mL (L - 1) + 3 = 3 * mL L := by unfold mL; omega
    have aZ6 : mL L ≤ 1000 := by unfold mL; omega
    have wv : IntKind.i64.wrap (vars + 1) = vars + 1 := IntWalk.i64_in _ (by omega)
    unfold tO
    simp -dsimp -implicitDefEqProofs only [go_sem, ↓reduceIte, Tryz.f48, cE, bL, bX, cF, bG, c8, bM, bF, bB, bW, c7, bA, aC, aL, Option.toArray_none, Option.toArray_some, List.filterMap_cons, List.filterMap_nil, List.elem_cons_self, List.nil_append, List.append_nil, List.toList_toArray]
    first | refine aH.mk ((tZ K)) ?_ | refine aF.mk ((tZ K)) ?_ | refine aH.bY ((tZ K)) ?_ | refine aF.mk (bQ.fJ ((tZ K))) ?_
    simp -dsimp -implicitDefEqProofs only [go_sem, ↓reduceIte, Tryz.f48, cE, bL, bX, cF, bG, c8, bM, bF, bB, bW, c7, bA, aC, aL, Option.toArray_none, Option.toArray_some, List.filterMap_cons, List.filterMap_nil, List.elem_cons_self, List.nil_append, List.append_nil, List.toList_toArray, wd, wv]
    refine ⟨fun hlt => ⟨fun k9 => ⟨fun i1 => ?_, fun i1 => ?_⟩, fun k9 => ?_⟩, fun hge => ⟨jH .., ?_⟩⟩
    ·have hV : vars + 1 = iL K i vars := by unfold iL; rw [if_pos ⟨k9, by omega⟩]
     cases o with
     |none =>
      rw [jN] at hgs
      subst hgs
      obtain rfl : kids = [] := List.length_eq_zero_iff.1 hor.length
      obtain rfl : i = 0 := hlen.symm
      simp only [aQ, iY]
      refine aH.eM (ih (dp - 1) (by omega) (vars + 1) _ a3 y6 L3 (by rw [aC _ _ _ _ eK, aC _ _ _ _ gH]; exact zs) (by rw [aC _ _ _ _ jX, aC _ _ _ _ iV]; exact zg) (hprog.le (aA.aP z9 (aA.aP z8 hnew.le))) ⟨by omega, by omega, by omega⟩) ?_
      rintro r_ h' ⟨x5, e5, g', a5, sd5, L5, hx, rfl, hnw, ⟨y1, y2⟩, rfl, uX, hd5, hL5, ha5⟩
      obtain ⟨g5, rfl, w5, z58, z59⟩ := fM.yJ z18 (by rw [aC _ _ _ _ kG]; exact z19) hnw
      simp only [aL, cE, bL, bX, cF, bG, c8, bM, bF, bB, bW, c7, bA, if_false] at y1 y2 z59
      have hx5 := hx
      rw [aB.rU] at hx
      obtain ⟨y4, rfl, xV⟩ := hx
      simp -dsimp -implicitDefEqProofs only [go_sem, ↓reduceIte, Tryz.f48, cE, bL, bX, cF, bG, c8, bM, bF, bB, bW, c7, bA, aC, aL, Option.toArray_none, Option.toArray_some, List.filterMap_cons, List.filterMap_nil, List.elem_cons_self, List.nil_append, List.append_nil, List.toList_toArray, OV.fH, OV.cG, OV.jS, xV.flat, xV.one]
      have ht := eA []
      refine ⟨by decide, by decide, by decide, fun m qm => ?_⟩
      have am : ¬ m = ns := by grind
      have bm : ¬ m = ng := by grind
      have cm : ¬ m = n8 := by grind
      have em : ¬ m = n9 := by grind
      have dm : g5 m = none := by grind
      skip
      have eO : ¬ m = ns := am
      have fR : ¬ ns = m := Ne.symm eO
      have cT : (m = ns) = False := eq_false eO
      have cU : (ns = m) = False := eq_false fR
      have fX : ¬ m = ng := bm
      have kA : ¬ ng = m := Ne.symm fX
      have iN : (m = ng) = False := eq_false fX
      have iO : (ng = m) = False := eq_false kA
      have iP : ¬ m = n8 := cm
      have l8 : ¬ n8 = m := Ne.symm iP
      have jY : (m = n8) = False := eq_false iP
      have jZ : (n8 = m) = False := eq_false l8
      have gL : ¬ m = n9 := em
      have jQ : ¬ n9 = m := Ne.symm gL
      have dR : (m = n9) = False := eq_false gL
      have dT : (n9 = m) = False := eq_false jQ
      simp -dsimp -implicitDefEqProofs only [go_sem, ↓reduceIte, Tryz.f48, cE, bL, bX, jZ, cF, bG, c8, iO, bM, bF, bB, cU, bW, c7, bA, dT, jY, iN, cT, dR, aC, aL, Option.toArray_none, Option.toArray_some, List.filterMap_cons, List.filterMap_nil, List.elem_cons_self, List.nil_append, List.append_nil, List.toList_toArray]
      refine ⟨(K, 0 + 1, [] ++ [x5], [] ++ [[.v (.int .i64 x5.aO), .v (.int .i64 x5.aX), .v (.int .i64 x5.cN), .v (.int .i64 x5.cA), y4]], g5, some m, a5, sd5, L5), IntWalk.i64_in _ (by omega), ?_, hgg.next hlt hx5 w5 ⟨y1, y2, z58, z59⟩ dm ⟨am, bm, cm, em⟩ (by rw [← hV]; exact uX) (by omega) hL5 ha5, by simp only; omega⟩
      intro q_
      simp only [aL, aJ, bE, gI, eA, cK, iQ, iR, OV.fH, OV.cG, OV.jS, List.nil_append, List.map_cons, List.map_nil, ht]
      grind
     |some m0 =>
      rw [iJ] at hgs
      obtain ⟨hm1, hm2, hm3, hm4⟩ := hon m0 rfl
      have jI : ¬ m0 = ns := hm1
      have kX : ¬ ns = m0 := Ne.symm jI
      have gO : (m0 = ns) = False := eq_false jI
      have gP : (ns = m0) = False := eq_false kX
      have pV : ¬ m0 = ng := hm2
      have pW : ¬ ng = m0 := Ne.symm pV
      have l9 : (m0 = ng) = False := eq_false pV
      have mA : (ng = m0) = False := eq_false pW
      have mZ : ¬ m0 = n8 := hm3
      have nQ : ¬ n8 = m0 := Ne.symm mZ
      have j2 : (m0 = n8) = False := eq_false mZ
      have j3 : (n8 = m0) = False := eq_false nQ
      have m6 : ¬ m0 = n9 := hm4
      have nR : ¬ n9 = m0 := Ne.symm m6
      have jC : (m0 = n9) = False := eq_false m6
      have jD : (n9 = m0) = False := eq_false nR
      have hBm : B m0 = none := by
       cases hb : B m0 with
       |none => rfl
       |some v => have := hnew.keep hb; rw [hgs] at this; cases this
      simp only [aJ, bE]
      refine aH.eM (ih (dp - 1) (by omega) (vars + 1) _ a3 y6 L3 (by rw [aC _ _ _ _ eK, aC _ _ _ _ gH, aC _ _ _ _ kX]; exact zs) (by rw [aC _ _ _ _ jX, aC _ _ _ _ iV, aC _ _ _ _ pW]; exact zg) (hprog.le (aA.aP z9 (aA.aP z8 (aA.aP hBm hnew.le)))) ⟨by omega, by omega, by omega⟩) ?_
      rintro r_ h' ⟨x5, e5, g', a5, sd5, L5, hx, rfl, hnw, ⟨y1, y2⟩, rfl, uX, hd5, hL5, ha5⟩
      obtain ⟨g5, rfl, w5, z50, z58, z59⟩ := fM.aKL hgs (by rw [aC _ _ _ _ nQ]; exact z18) (by rw [aC _ _ _ _ kG, aC _ _ _ _ nR]; exact z19) hnw
      simp only [aL, cE, bL, bX, j3, cF, bG, c8, mA, bM, bF, bB, gP, bW, c7, bA, jD, j2, l9, gO, jC, if_false] at y1 y2 z58 z59
      have hx5 := hx
      rw [aB.rU] at hx
      obtain ⟨y4, rfl, xV⟩ := hx
      simp -dsimp -implicitDefEqProofs only [go_sem, ↓reduceIte, Tryz.f48, cE, bL, bX, j3, cF, bG, c8, mA, bM, bF, bB, gP, bW, c7, bA, jD, j2, l9, gO, jC, aC, aL, Option.toArray_none, Option.toArray_some, List.filterMap_cons, List.filterMap_nil, List.elem_cons_self, List.nil_append, List.append_nil, List.toList_toArray, OV.fH, OV.cG, OV.jS, xV.flat, xV.one, cK]
      have ht : List.take i (OV.cells es) = OV.cells es := List.take_of_length_le (by rw [cK]; have := hor.length; omega)
      refine ⟨by decide, by decide, by decide, by have := hor.length; omega, by omega, by omega, fun m qm => ?_⟩
      have am : ¬ m = ns := by grind
      have bm : ¬ m = ng := by grind
      have cm : ¬ m = n8 := by grind
      have em : ¬ m = n9 := by grind
      have dm : g5 m = none := by grind
      have fm : ¬ m = m0 := (by grind); have rR := eq_false fm; have rS := eq_false (Ne.symm fm); have aAX := fm; have aD4 := Ne.symm fm
      have eO : ¬ m = ns := am
      have fR : ¬ ns = m := Ne.symm eO
      have cT : (m = ns) = False := eq_false eO
      have cU : (ns = m) = False := eq_false fR
      have fX : ¬ m = ng := bm
      have kA : ¬ ng = m := Ne.symm fX
      have iN : (m = ng) = False := eq_false fX
      have iO : (ng = m) = False := eq_false kA
      have iP : ¬ m = n8 := cm
      have l8 : ¬ n8 = m := Ne.symm iP
      have jY : (m = n8) = False := eq_false iP
      have jZ : (n8 = m) = False := eq_false l8
      have gL : ¬ m = n9 := em
      have jQ : ¬ n9 = m := Ne.symm gL
      have dR : (m = n9) = False := eq_false gL
      have dT : (n9 = m) = False := eq_false jQ
      simp -dsimp -implicitDefEqProofs only [go_sem, ↓reduceIte, Tryz.f48, cE, bL, bX, jZ, cF, bG, c8, iO, bM, bF, bB, cU, bW, c7, bA, dT, jY, iN, cT, dR, rR, jY, dR, iN, cT, rS, j2, jC, l9, gO, jZ, j3, bX, cE, bL, dT, jD, bW, c7, bA, iO, mA, cF, c8, bG, cU, gP, bM, bB, bF, aC, aL, Option.toArray_none, Option.toArray_some, List.filterMap_cons, List.filterMap_nil, List.elem_cons_self, List.nil_append, List.append_nil, List.toList_toArray]
      refine ⟨(K, i + 1, kids ++ [x5], es ++ [[.v (.int .i64 x5.aO), .v (.int .i64 x5.aX), .v (.int .i64 x5.cN), .v (.int .i64 x5.cA), y4]], g5, some m, a5, sd5, L5), IntWalk.i64_in _ (by omega), ?_, hgg.next hlt hx5 w5 ⟨y1, y2, z58, z59⟩ dm ⟨am, bm, cm, em⟩ (by rw [← hV]; exact uX) (by omega) hL5 ha5, by simp only; omega⟩
      intro q_
      simp only [aL, aJ, bE, gI, eA, cK, iQ, iR, OV.fH, OV.cG, OV.jS, List.nil_append, List.map_cons, List.map_nil, ht]
      grind
    ·have hV : vars = iL K i vars := by unfold iL; rw [if_neg (fun q => i1 (by omega))]
     cases o with
     |none =>
      rw [jN] at hgs
      subst hgs
      obtain rfl : kids = [] := List.length_eq_zero_iff.1 hor.length
      obtain rfl : i = 0 := hlen.symm
      simp only [aQ, iY]
      refine aH.eM (ih (dp - 1) (by omega) vars _ a3 y6 L3 (by rw [aC _ _ _ _ eK, aC _ _ _ _ gH]; exact zs) (by rw [aC _ _ _ _ jX, aC _ _ _ _ iV]; exact zg) (hprog.le (aA.aP z9 (aA.aP z8 hnew.le))) ⟨by omega, by omega, by omega⟩) ?_
      rintro r_ h' ⟨x5, e5, g', a5, sd5, L5, hx, rfl, hnw, ⟨y1, y2⟩, rfl, uX, hd5, hL5, ha5⟩
      obtain ⟨g5, rfl, w5, z58, z59⟩ := fM.yJ z18 (by rw [aC _ _ _ _ kG]; exact z19) hnw
      simp only [aL, cE, bL, bX, cF, bG, c8, bM, bF, bB, bW, c7, bA, if_false] at y1 y2 z59
      have hx5 := hx
      rw [aB.rU] at hx
      obtain ⟨y4, rfl, xV⟩ := hx
      simp -dsimp -implicitDefEqProofs only [go_sem, ↓reduceIte, Tryz.f48, cE, bL, bX, cF, bG, c8, bM, bF, bB, bW, c7, bA, aC, aL, Option.toArray_none, Option.toArray_some, List.filterMap_cons, List.filterMap_nil, List.elem_cons_self, List.nil_append, List.append_nil, List.toList_toArray, OV.fH, OV.cG, OV.jS, xV.flat, xV.one]
      have ht := eA []
      refine ⟨by decide, by decide, by decide, fun m qm => ?_⟩
      have am : ¬ m = ns := by grind
      have bm : ¬ m = ng := by grind
      have cm : ¬ m = n8 := by grind
      have em : ¬ m = n9 := by grind
      have dm : g5 m = none := by grind
      skip
      have eO : ¬ m = ns := am
      have fR : ¬ ns = m := Ne.symm eO
      have cT : (m = ns) = False := eq_false eO
      have cU : (ns = m) = False := eq_false fR
      have fX : ¬ m = ng := bm
      have kA : ¬ ng = m := Ne.symm fX
      have iN : (m = ng) = False := eq_false fX
      have iO : (ng = m) = False := eq_false kA
      have iP : ¬ m = n8 := cm
      have l8 : ¬ n8 = m := Ne.symm iP
      have jY : (m = n8) = False := eq_false iP
      have jZ : (n8 = m) = False := eq_false l8
      have gL : ¬ m = n9 := em
      have jQ : ¬ n9 = m := Ne.symm gL
      have dR : (m = n9) = False := eq_false gL
      have dT : (n9 = m) = False := eq_false jQ
      simp -dsimp -implicitDefEqProofs only [go_sem, ↓reduceIte, Tryz.f48, cE, bL, bX, jZ, cF, bG, c8, iO, bM, bF, bB, cU, bW, c7, bA, dT, jY, iN, cT, dR, aC, aL, Option.toArray_none, Option.toArray_some, List.filterMap_cons, List.filterMap_nil, List.elem_cons_self, List.nil_append, List.append_nil, List.toList_toArray]
      refine ⟨(K, 0 + 1, [] ++ [x5], [] ++ [[.v (.int .i64 x5.aO), .v (.int .i64 x5.aX), .v (.int .i64 x5.cN), .v (.int .i64 x5.cA), y4]], g5, some m, a5, sd5, L5), IntWalk.i64_in _ (by omega), ?_, hgg.next hlt hx5 w5 ⟨y1, y2, z58, z59⟩ dm ⟨am, bm, cm, em⟩ (by rw [← hV]; exact uX) (by omega) hL5 ha5, by simp only; omega⟩
      intro q_
      simp only [aL, aJ, bE, gI, eA, cK, iQ, iR, OV.fH, OV.cG, OV.jS, List.nil_append, List.map_cons, List.map_nil, ht]
      grind
     |some m0 =>
      rw [iJ] at hgs
      obtain ⟨hm1, hm2, hm3, hm4⟩ := hon m0 rfl
      have jI : ¬ m0 = ns := hm1
      have kX : ¬ ns = m0 := Ne.symm jI
      have gO : (m0 = ns) = False := eq_false jI
      have gP : (ns = m0) = False := eq_false kX
      have pV : ¬ m0 = ng := hm2
      have pW : ¬ ng = m0 := Ne.symm pV
      have l9 : (m0 = ng) = False := eq_false pV
      have mA : (ng = m0) = False := eq_false pW
      have mZ : ¬ m0 = n8 := hm3
      have nQ : ¬ n8 = m0 := Ne.symm mZ
      have j2 : (m0 = n8) = False := eq_false mZ
      have j3 : (n8 = m0) = False := eq_false nQ
      have m6 : ¬ m0 = n9 := hm4
      have nR : ¬ n9 = m0 := Ne.symm m6
      have jC : (m0 = n9) = False := eq_false m6
      have jD : (n9 = m0) = False := eq_false nR
      have hBm : B m0 = none := by
       cases hb : B m0 with
       |none => rfl
       |some v => have := hnew.keep hb; rw [hgs] at this; cases this
      simp only [aJ, bE]
      refine aH.eM (ih (dp - 1) (by omega) vars _ a3 y6 L3 (by rw [aC _ _ _ _ eK, aC _ _ _ _ gH, aC _ _ _ _ kX]; exact zs) (by rw [aC _ _ _ _ jX, aC _ _ _ _ iV, aC _ _ _ _ pW]; exact zg) (hprog.le (aA.aP z9 (aA.aP z8 (aA.aP hBm hnew.le)))) ⟨by omega, by omega, by omega⟩) ?_
      rintro r_ h' ⟨x5, e5, g', a5, sd5, L5, hx, rfl, hnw, ⟨y1, y2⟩, rfl, uX, hd5, hL5, ha5⟩
      obtain ⟨g5, rfl, w5, z50, z58, z59⟩ := fM.aKL hgs (by rw [aC _ _ _ _ nQ]; exact z18) (by rw [aC _ _ _ _ kG, aC _ _ _ _ nR]; exact z19) hnw
      simp only [aL, cE, bL, bX, j3, cF, bG, c8, mA, bM, bF, bB, gP, bW, c7, bA, jD, j2, l9, gO, jC, if_false] at y1 y2 z58 z59
      have hx5 := hx
      rw [aB.rU] at hx
      obtain ⟨y4, rfl, xV⟩ := hx
      simp -dsimp -implicitDefEqProofs only [go_sem, ↓reduceIte, Tryz.f48, cE, bL, bX, j3, cF, bG, c8, mA, bM, bF, bB, gP, bW, c7, bA, jD, j2, l9, gO, jC, aC, aL, Option.toArray_none, Option.toArray_some, List.filterMap_cons, List.filterMap_nil, List.elem_cons_self, List.nil_append, List.append_nil, List.toList_toArray, OV.fH, OV.cG, OV.jS, xV.flat, xV.one, cK]
      have ht : List.take i (OV.cells es) = OV.cells es := List.take_of_length_le (by rw [cK]; have := hor.length; omega)
      refine ⟨by decide, by decide, by decide, by have := hor.length; omega, by omega, by omega, fun m qm => ?_⟩
      have am : ¬ m = ns := by grind
      have bm : ¬ m = ng := by grind
      have cm : ¬ m = n8 := by grind
      have em : ¬ m = n9 := by grind
      have dm : g5 m = none := by grind
      have fm : ¬ m = m0 := (by grind); have rR := eq_false fm; have rS := eq_false (Ne.symm fm); have aAX := fm; have aD4 := Ne.symm fm
      have eO : ¬ m = ns := am
      have fR : ¬ ns = m := Ne.symm eO
      have cT : (m = ns) = False := eq_false eO
      have cU : (ns = m) = False := eq_false fR
      have fX : ¬ m = ng := bm
      have kA : ¬ ng = m := Ne.symm fX
      have iN : (m = ng) = False := eq_false fX
      have iO : (ng = m) = False := eq_false kA
      have iP : ¬ m = n8 := cm
      have l8 : ¬ n8 = m := Ne.symm iP
      have jY : (m = n8) = False := eq_false iP
      have jZ : (n8 = m) = False := eq_false l8
      have gL : ¬ m = n9 := em
      have jQ : ¬ n9 = m := Ne.symm gL
      have dR : (m = n9) = False := eq_false gL
      have dT : (n9 = m) = False := eq_false jQ
      simp -dsimp -implicitDefEqProofs only [go_sem, ↓reduceIte, Tryz.f48, cE, bL, bX, jZ, cF, bG, c8, iO, bM, bF, bB, cU, bW, c7, bA, dT, jY, iN, cT, dR, rR, jY, dR, iN, cT, rS, j2, jC, l9, gO, jZ, j3, bX, cE, bL, dT, jD, bW, c7, bA, iO, mA, cF, c8, bG, cU, gP, bM, bB, bF, aC, aL, Option.toArray_none, Option.toArray_some, List.filterMap_cons, List.filterMap_nil, List.elem_cons_self, List.nil_append, List.append_nil, List.toList_toArray]
      refine ⟨(K, i + 1, kids ++ [x5], es ++ [[.v (.int .i64 x5.aO), .v (.int .i64 x5.aX), .v (.int .i64 x5.cN), .v (.int .i64 x5.cA), y4]], g5, some m, a5, sd5, L5), IntWalk.i64_in _ (by omega), ?_, hgg.next hlt hx5 w5 ⟨y1, y2, z58, z59⟩ dm ⟨am, bm, cm, em⟩ (by rw [← hV]; exact uX) (by omega) hL5 ha5, by simp only; omega⟩
      intro q_
      simp only [aL, aJ, bE, gI, eA, cK, iQ, iR, OV.fH, OV.cG, OV.jS, List.nil_append, List.map_cons, List.map_nil, ht]
      grind
    ·have hV : vars = iL K i vars := by unfold iL; rw [if_neg (fun q => k9 q.1)]
     cases o with
     |none =>
      rw [jN] at hgs
      subst hgs
      obtain rfl : kids = [] := List.length_eq_zero_iff.1 hor.length
      obtain rfl : i = 0 := hlen.symm
      simp only [aQ, iY]
      refine aH.eM (ih (dp - 1) (by omega) vars _ a3 y6 L3 (by rw [aC _ _ _ _ eK, aC _ _ _ _ gH]; exact zs) (by rw [aC _ _ _ _ jX, aC _ _ _ _ iV]; exact zg) (hprog.le (aA.aP z9 (aA.aP z8 hnew.le))) ⟨by omega, by omega, by omega⟩) ?_
      rintro r_ h' ⟨x5, e5, g', a5, sd5, L5, hx, rfl, hnw, ⟨y1, y2⟩, rfl, uX, hd5, hL5, ha5⟩
      obtain ⟨g5, rfl, w5, z58, z59⟩ := fM.yJ z18 (by rw [aC _ _ _ _ kG]; exact z19) hnw
      simp only [aL, cE, bL, bX, cF, bG, c8, bM, bF, bB, bW, c7, bA, if_false] at y1 y2 z59
      have hx5 := hx
      rw [aB.rU] at hx
      obtain ⟨y4, rfl, xV⟩ := hx
      simp -dsimp -implicitDefEqProofs only [go_sem, ↓reduceIte, Tryz.f48, cE, bL, bX, cF, bG, c8, bM, bF, bB, bW, c7, bA, aC, aL, Option.toArray_none, Option.toArray_some, List.filterMap_cons, List.filterMap_nil, List.elem_cons_self, List.nil_append, List.append_nil, List.toList_toArray, OV.fH, OV.cG, OV.jS, xV.flat, xV.one]
      have ht := eA []
      refine ⟨by decide, by decide, by decide, fun m qm => ?_⟩
      have am : ¬ m = ns := by grind
      have bm : ¬ m = ng := by grind
      have cm : ¬ m = n8 := by grind
      have em : ¬ m = n9 := by grind
      have dm : g5 m = none := by grind
      skip
      have eO : ¬ m = ns := am
      have fR : ¬ ns = m := Ne.symm eO
      have cT : (m = ns) = False := eq_false eO
      have cU : (ns = m) = False := eq_false fR
      have fX : ¬ m = ng := bm
      have kA : ¬ ng = m := Ne.symm fX
      have iN : (m = ng) = False := eq_false fX
      have iO : (ng = m) = False := eq_false kA
      have iP : ¬ m = n8 := cm
      have l8 : ¬ n8 = m := Ne.symm iP
      have jY : (m = n8) = False := eq_false iP
      have jZ : (n8 = m) = False := eq_false l8
      have gL : ¬ m = n9 := em
      have jQ : ¬ n9 = m := Ne.symm gL
      have dR : (m = n9) = False := eq_false gL
      have dT : (n9 = m) = False := eq_false jQ
      simp -dsimp -implicitDefEqProofs only [go_sem, ↓reduceIte, Tryz.f48, cE, bL, bX, jZ, cF, bG, c8, iO, bM, bF, bB, cU, bW, c7, bA, dT, jY, iN, cT, dR, aC, aL, Option.toArray_none, Option.toArray_some, List.filterMap_cons, List.filterMap_nil, List.elem_cons_self, List.nil_append, List.append_nil, List.toList_toArray]
      refine ⟨(K, 0 + 1, [] ++ [x5], [] ++ [[.v (.int .i64 x5.aO), .v (.int .i64 x5.aX), .v (.int .i64 x5.cN), .v (.int .i64 x5.cA), y4]], g5, some m, a5, sd5, L5), IntWalk.i64_in _ (by omega), ?_, hgg.next hlt hx5 w5 ⟨y1, y2, z58, z59⟩ dm ⟨am, bm, cm, em⟩ (by rw [← hV]; exact uX) (by omega) hL5 ha5, by simp only; omega⟩
      intro q_
      simp only [aL, aJ, bE, gI, eA, cK, iQ, iR, OV.fH, OV.cG, OV.jS, List.nil_append, List.map_cons, List.map_nil, ht]
      grind
     |some m0 =>
      rw [iJ] at hgs
      obtain ⟨hm1, hm2, hm3, hm4⟩ := hon m0 rfl
      have jI : ¬ m0 = ns := hm1
      have kX : ¬ ns = m0 := Ne.symm jI
      have gO : (m0 = ns) = False := eq_false jI
      have gP : (ns = m0) = False := eq_false kX
      have pV : ¬ m0 = ng := hm2
      have pW : ¬ ng = m0 := Ne.symm pV
      have l9 : (m0 = ng) = False := eq_false pV
      have mA : (ng = m0) = False := eq_false pW
      have mZ : ¬ m0 = n8 := hm3
      have nQ : ¬ n8 = m0 := Ne.symm mZ
      have j2 : (m0 = n8) = False := eq_false mZ
      have j3 : (n8 = m0) = False := eq_false nQ
      have m6 : ¬ m0 = n9 := hm4
      have nR : ¬ n9 = m0 := Ne.symm m6
      have jC : (m0 = n9) = False := eq_false m6
      have jD : (n9 = m0) = False := eq_false nR
      have hBm : B m0 = none := by
       cases hb : B m0 with
       |none => rfl
       |some v => have := hnew.keep hb; rw [hgs] at this; cases this
      simp only [aJ, bE]
      refine aH.eM (ih (dp - 1) (by omega) vars _ a3 y6 L3 (by rw [aC _ _ _ _ eK, aC _ _ _ _ gH, aC _ _ _ _ kX]; exact zs) (by rw [aC _ _ _ _ jX, aC _ _ _ _ iV, aC _ _ _ _ pW]; exact zg) (hprog.le (aA.aP z9 (aA.aP z8 (aA.aP hBm hnew.le)))) ⟨by omega, by omega, by omega⟩) ?_
      rintro r_ h' ⟨x5, e5, g', a5, sd5, L5, hx, rfl, hnw, ⟨y1, y2⟩, rfl, uX, hd5, hL5, ha5⟩
      obtain ⟨g5, rfl, w5, z50, z58, z59⟩ := fM.aKL hgs (by rw [aC _ _ _ _ nQ]; exact z18) (by rw [aC _ _ _ _ kG, aC _ _ _ _ nR]; exact z19) hnw
      simp only [aL, cE, bL, bX, j3, cF, bG, c8, mA, bM, bF, bB, gP, bW, c7, bA, jD, j2, l9, gO, jC, if_false] at y1 y2 z58 z59
      have hx5 := hx
      rw [aB.rU] at hx
      obtain ⟨y4, rfl, xV⟩ := hx
      simp -dsimp -implicitDefEqProofs only [go_sem, ↓reduceIte, Tryz.f48, cE, bL, bX, j3, cF, bG, c8, mA, bM, bF, bB, gP, bW, c7, bA, jD, j2, l9, gO, jC, aC, aL, Option.toArray_none, Option.toArray_some, List.filterMap_cons, List.filterMap_nil, List.elem_cons_self, List.nil_append, List.append_nil, List.toList_toArray, OV.fH, OV.cG, OV.jS, xV.flat, xV.one, cK]
      have ht : List.take i (OV.cells es) = OV.cells es := List.take_of_length_le (by rw [cK]; have := hor.length; omega)
      refine ⟨by decide, by decide, by decide, by have := hor.length; omega, by omega, by omega, fun m qm => ?_⟩
      have am : ¬ m = ns := by grind
      have bm : ¬ m = ng := by grind
      have cm : ¬ m = n8 := by grind
      have em : ¬ m = n9 := by grind
      have dm : g5 m = none := by grind
      have fm : ¬ m = m0 := (by grind); have rR := eq_false fm; have rS := eq_false (Ne.symm fm); have aAX := fm; have aD4 := Ne.symm fm
      have eO : ¬ m = ns := am
      have fR : ¬ ns = m := Ne.symm eO
      have cT : (m = ns) = False := eq_false eO
      have cU : (ns = m) = False := eq_false fR
      have fX : ¬ m = ng := bm
      have kA : ¬ ng = m := Ne.symm fX
      have iN : (m = ng) = False := eq_false fX
      have iO : (ng = m) = False := eq_false kA
      have iP : ¬ m = n8 := cm
      have l8 : ¬ n8 = m := Ne.symm iP
      have jY : (m = n8) = False := eq_false iP
      have jZ : (n8 = m) = False := eq_false l8
      have gL : ¬ m = n9 := em
      have jQ : ¬ n9 = m := Ne.symm gL
      have dR : (m = n9) = False := eq_false gL
      have dT : (n9 = m) = False := eq_false jQ
      simp -dsimp -implicitDefEqProofs only [go_sem, ↓reduceIte, Tryz.f48, cE, bL, bX, jZ, cF, bG, c8, iO, bM, bF, bB, cU, bW, c7, bA, dT, jY, iN, cT, dR, rR, jY, dR, iN, cT, rS, j2, jC, l9, gO, jZ, j3, bX, cE, bL, dT, jD, bW, c7, bA, iO, mA, cF, c8, bG, cU, gP, bM, bB, bF, aC, aL, Option.toArray_none, Option.toArray_some, List.filterMap_cons, List.filterMap_nil, List.elem_cons_self, List.nil_append, List.append_nil, List.toList_toArray]
      refine ⟨(K, i + 1, kids ++ [x5], es ++ [[.v (.int .i64 x5.aO), .v (.int .i64 x5.aX), .v (.int .i64 x5.cN), .v (.int .i64 x5.cA), y4]], g5, some m, a5, sd5, L5), IntWalk.i64_in _ (by omega), ?_, hgg.next hlt hx5 w5 ⟨y1, y2, z58, z59⟩ dm ⟨am, bm, cm, em⟩ (by rw [← hV]; exact uX) (by omega) hL5 ha5, by simp only; omega⟩
      intro q_
      simp only [aL, aJ, bE, gI, eA, cK, iQ, iR, OV.fH, OV.cG, OV.jS, List.nil_append, List.map_cons, List.map_nil, ht]
      grind
    ·have hi2 : (i : Int) = dN K := by omega
     have y8 : cQ g1 (.row 5 (OV.cells es)) o n8 = none := iK z18 fun m e => (hon m e).2.2.1
     have y9 : cQ g1 (.row 5 (OV.cells es)) o n9 = none := iK z19 fun m e => (hon m e).2.2.2
     exact aY7 (vars := vars) (a := a) (L := L) hgg hi2 (by omega) h1 (by
      intro q_
      simp only [aL]
      grind)
  ·simp -dsimp -implicitDefEqProofs only [go_sem, ↓reduceIte, Tryz.f48, cE, bL, cF, bG, bM, bF, aC, aL, Option.toArray_none, Option.toArray_some, List.filterMap_cons, List.filterMap_nil, List.elem_cons_self, List.nil_append, List.append_nil, List.toList_toArray]
   refine aH.eM (aTE (np := np) (a := a1) (sd := sd1) (L := L - 1) (pl := pl) (B := aT B n8 (.row 5 [[.v (I 0), .v (I 0), .v (I 0), .v (I 0), .v .bI]])) hc hl hne vars (by omega) (by rw [aC _ _ _ _ gH]; exact hB1) (by rw [aC _ _ _ _ iV]; exact hB2) (by omega)) ?_
   rintro r_ h' ⟨k, n, a', sd', rfl, hkn, ha', rfl⟩
   simp -dsimp -implicitDefEqProofs only [go_sem, ↓reduceIte, Tryz.f48, cE, bL, cF, bG, bM, bF, aC, aL, bO iV, bO gH, aM]
   exact aHZ (a := a) (a' := a') (sd' := sd') hkn hB1 hB2 (by omega) (by
    intro q_
    simp only [aL]
    grind)
 ·refine aH.eM (aTE (np := np) (a := a) (sd := sd) (L := L - 1) (pl := pl) (B := aT B n8 (.row 5 [[.v (I 0), .v (I 0), .v (I 0), .v (I 0), .v .bI]])) hc hl hne vars (by omega) (by rw [aC _ _ _ _ gH]; exact hB1) (by rw [aC _ _ _ _ iV]; exact hB2) (by omega)) ?_
  rintro r_ h' ⟨k, n, a', sd', rfl, hkn, ha', rfl⟩
  simp -dsimp -implicitDefEqProofs only [go_sem, ↓reduceIte, Tryz.f48, cE, bL, cF, bG, bM, bF, aC, aL, bO iV, bO gH, aM]
  exact aHZ (a := a) (a' := a') (sd' := sd') hkn hB1 hB2 (by omega) (by
   intro q_
   simp only [aL]
   grind)
 ·refine aH.eM (aTE (np := np) (a := a) (sd := sd) (L := L - 1) (pl := pl) (B := aT B n8 (.row 5 [[.v (I 0), .v (I 0), .v (I 0), .v (I 0), .v .bI]])) hc hl hne vars (by omega) (by rw [aC _ _ _ _ gH]; exact hB1) (by rw [aC _ _ _ _ iV]; exact hB2) (by omega)) ?_
  rintro r_ h' ⟨k, n, a', sd', rfl, hkn, ha', rfl⟩
  simp -dsimp -implicitDefEqProofs only [go_sem, ↓reduceIte, Tryz.f48, cE, bL, cF, bG, bM, bF, aC, aL, bO iV, bO gH, aM]
  exact aHZ (a := a) (a' := a') (sd' := sd') hkn hB1 hB2 (by omega) (by
   intro q_
   simp only [aL]
   grind)
set_option maxRecDepth 100000
open Go.Proofs
set_option linter.unusedVariables false
set_option linter.unusedSimpArgs false
theorem aU8 {p : aE} {ns ng np : Nat} {c : List Int} {pl : Bool} {vars : Int} {dp a : Nat} {L : Int} {B H : aA} {k n : Int} {a' : Nat} {sd' : Int} (h : (k = 1 ∧ kI n) ∨ (k = 2 ∧ 0 ≤ n ∧ n < vars)) (hB1 : B ns = none) (hB2 : B ng = none) (ha : a ≤ a' ∧ a' ≤ a + 10) (hle : (aT (aT B ns (iM c a' sd')) ng (kK ns np L pl)).le H) :
  ∃ r1 g2, Shift (.agg [I k, I n, I 0, I 0, .bI]) H r1 g2 ∧ aY3 p ns ng np c pl vars dp a L B r1 g2 := by
 refine ⟨_, _, Shift.of (aPG k n) hle, _, _, B, a', sd', L, aY2 k n, rfl, by rw [aJV]; exact fM.nil B, ⟨hB1, hB2⟩, rfl, aTF h, by rw [aY5]; omega, ?_, by rw [aL4]; omega⟩
 rw [aL4]
 omega
structure bMS (T : Prop) : Prop where
 get : T
theorem aL7 {T G : Prop} (m : bMS T → G) (t : T) : G := m ⟨t⟩
abbrev CSt := Int × Nat × List aB × List (List OV) × aA × Option Nat × Nat × Int × Int × Int
def aH1 (p : aE) (f : aS) (vars : Int) (dp a : Nat) (L : Int) (B : aA) (ns ng n8 n9 : Nat) : CSt → Prop := fun (K, i, kids, es, g1, o, a3, _, L3, cnt) =>
 ((K = 10 ∧ cnt = 0) ∨ (K = 11 ∧ 0 ≤ cnt ∧ cnt ≤ 8 ∧ (f.aW.length : Int) = f.aZ)) ∧ i ≤ f.aZ.toNat ∧ kids.length = i ∧ OR aB.o kids es ∧ fM B (OV.cC es) g1 ∧ (g1 ns = none ∧ g1 ng = none ∧ g1 n8 = none ∧ g1 n9 = none) ∧ yL g1 es o ∧ (∀ m, o = some m → ¬ m = ns ∧ ¬ m = ng ∧ ¬ m = n8 ∧ ¬ m = n9) ∧
  (∀ (j : Nat) (h : j < kids.length), kids[j].ok p p.aI.length vars) ∧ aB.dL kids ≤ dp ∧ (L3 ≤ L ∧ L - p7 aB.s kids ≤ L3 ∧ p7 aB.s kids + 3 * mL L3 ≤ 3 * mL L + i) ∧ (a ≤ a3 ∧ a3 ≤ a + 10 + 14 * p7 aB.s kids)
theorem aH1.next {p : aE} {f : aS} {vars : Int} {dp a : Nat} {L : Int} {B : aA} {ns ng n8 n9 : Nat} {K cnt : Int} {i : Nat} {kids : List aB} {es : List (List OV)} {g1 g5 : aA} {o : Option Nat} {a3 a5 : Nat} {y6 sd5 L3 L5 : Int} {x : aB} {e : List OV} {m : Nat}
  (h : aH1 p f vars dp a L B ns ng n8 n9 (K, i, kids, es, g1, o, a3, y6, L3, cnt)) (hlt : (i : Int) < f.aZ) (hx : x.o e) (w : fM g1 (OV.b5 e) g5) (z : g5 ns = none ∧ g5 ng = none ∧ g5 n8 = none ∧ g5 n9 = none) (hm : g5 m = none) (hm2 : ¬ m = ns ∧ ¬ m = ng ∧ ¬ m = n8 ∧ ¬ m = n9)
  (hok : x.ok p p.aI.length vars) (hd : x.d ≤ dp) (hL : L5 ≤ L3 - 1 ∧ L3 - (x.s + 1) ≤ L5 ∧ x.s + 3 * mL L5 ≤ 3 * mL L3) (ha : a3 ≤ a5 ∧ a5 ≤ a3 + 14 * (x.s + 1)) : aH1 p f vars dp a L B ns ng n8 n9 (K, i + 1, kids ++ [x], es ++ [e], g5, some m, a5, sd5, L5, cnt) := by
 obtain ⟨hK, hi, hlen, hor, hnew, -, -, -, a9O, hdl, hL3, ha3⟩ := h
 refine ⟨hK, by omega, by rw [List.length_append, hlen]; rfl, OR.append hor ⟨hx, trivial⟩, fM.snoc hnew w, z, hm, fun b q => by cases q; exact hm2, fun j hj => ?_, by rw [aL5]; omega, ?_, ?_⟩
 ·rcases Nat.lt_or_ge j kids.length with h2 | h2
  ·rw [List.getElem_append_left h2]; exact a9O j h2
  ·obtain rfl : j = kids.length := by rw [List.length_append] at hj; simp at hj; omega
   rw [List.getElem_append_right (Nat.le_refl _)]
   simp only [Nat.sub_self, List.getElem_cons_zero]
   exact hok
 ·rw [aCC]; refine ⟨by omega, by omega, by omega⟩
 ·rw [aCC]; omega
theorem aU9 {p : aE} {f : aS} {ns ng np : Nat} {c : List Int} {pl : Bool} {vars : Int} {dp a k : Nat} {L y cnt : Int} {B H : aA} {n8 n9 : Nat} {K : Int} {i : Nat} {kids : List aB} {es : List (List OV)} {g1 : aA} {o : Option Nat} {a3 : Nat} {y6 L3 : Int} (hf : p.aI[k]? = some f) (hf1 : 1 ≤ f.aZ ∧ f.aZ ≤ 3) (hy : 0 ≤ y ∧ y < f.aW.length)
  (h : aH1 p f vars dp a L B ns ng n8 n9 (K, i, kids, es, g1, o, a3, y6, L3, cnt)) (hi : (i : Int) = f.aZ) (hle : (aT (aT (cQ g1 (.row 5 (OV.cells es)) o) ns (iM c a3 y6)) ng (kK ns np L3 pl)).le H) :
  ∃ r1 g2, Shift (.agg [I K, I k, I y, I cnt, gQ 5 i o]) H r1 g2 ∧ aY3 p ns ng np c pl vars dp a L B r1 g2 := by
 obtain ⟨hK, -, hlen, hor, hnew, ⟨zs, zg, -, -⟩, hgs, hon, hok, hdl, hL, ha3⟩ := h
 have hes : es.length = i := by rw [← hor.length]; exact hlen
 have hkl : k < p.aI.length := by rcases Nat.lt_or_ge k p.aI.length with h | h; exact h; rw [List.getElem?_eq_none h] at hf; cases hf
 rw [← hes]
 have z (q : Nat) (hq : g1 q = none) (hqo : ∀ m, o = some m → ¬ m = q) : cQ g1 (.row 5 (OV.cells es)) o q = none := iK hq hqo
 refine ⟨_, _, Shift.of (Sub.agg (.cons (.refl _) (.cons (.refl _) (.cons (.refl _) (.cons (.refl _) (.cons aKO .nil)))))) hle, .mk K k y cnt kids, [.v (I K), .v (I k), .v (I y), .v (I cnt), gov 5 es o], _, a3, y6, L3, (aB.rU _ _).2 ⟨_, rfl, aGU hor hgs⟩, rfl,
  by simpa only [OV.fD, OV.jG, OV.rO, List.nil_append, List.append_nil] using aBK hnew hgs, ⟨z ns zs fun m e => (hon m e).1, z ng zg fun m e => (hon m e).2.1⟩, rfl, (aB.cR _ _ _ _).2 ⟨?_, fun j hj => ?_⟩, by rw [aB.aWV]; simp only [aB.aK]; omega, ?_, ?_⟩
 ·unfold l3
  rw [if_pos (show (aB.mk K k y cnt kids).aO = 10 ∨ (aB.mk K k y cnt kids).aO = 11 from by simp only [aB.aO]; omega)]
  simp only [aB.aO, aB.aX, aB.cN, aB.cA, aB.aK]
  refine ⟨by omega, by omega, fun f' hf' => ?_⟩
  rw [Int.toNat_natCast, hf] at hf'
  cases hf'
  refine ⟨hy.1, by omega, by omega, fun q => by omega, fun q => by omega⟩
 ·have hm : iL (aB.mk K k y cnt kids).aO j vars = vars := by unfold iL; rw [if_neg (by simp only [aB.aO]; omega)]
  rw [hm]
  exact hok j hj
 ·rw [aY1]; refine ⟨by omega, by omega, by omega⟩
 ·rw [aY1]; omega
@[go_sem] def aL8 : List Nat := [0, 1, 2, 3, 8, 9, 10, 11, 13, 61, 74]
@[go_sem] def a3J : List Nat := [85]
@[go_sem] def a3K : Marks := fun id => match id with | 4 => ([3, 6, 8], (.op 0 (.op 1 (.op 2 (.op 7 (.op 3 (.op 4 (.op 5 (.op 6 (.op 8 (.op 9 (.op 10 .nil))))))))))), []) | 5 => ([3, 7, 8, 9, 11], (.op 0 (.op 1 (.op 2 (.op 4 (.op 5 (.op 6 (.op 3 (.op 7 (.op 8 (.op 9 (.op 10 (.op 11 .nil)))))))))))), [(3, 8)]) | 6 => ([3, 4, 8, 14, 15], (.op 0 (.op 1 (.op 2 (.op 5 (.op 6 (.op 7 (.op 3 (.op 8 (.op 4 (.op 9 (.op 10 (.op 11 (.op 12 (.op 13 (.op 14 (.op 15 (.op 16 .nil))))))))))))))))), [(8, 4)]) | 12 => ([1, 7, 9, 11], (.op 0 (.op 2 (.op 3 (.op 4 (.op 5 (.op 6 (.op 1 (.op 7 (.op 8 (.op 9 (.op 10 (.op 11 .nil)))))))))))), [(1, 7)]) | _ => ([], .nil, [])
set_option maxHeartbeats 8000000 in
theorem aQ9 {p : aE} {ns ng np : Nat} {c : List Int} {pl : Bool} (hc : ∀ x ∈ c, InB x) (hl : c.length ≤ 4096) (hne : ¬ ns = ng) (hP : aFL p) (hpl : p.aI.length ≤ 100) {dp : Nat} (hdp : 1 ≤ dp) (ih : ∀ d, d + 1 = dp → aY4 Tryz.prog 48 p ns ng np c pl d) : a6A Tryz.prog 81 p ns ng np c pl dp := by
 intro vars B a sd L hB1 hB2 hprog hv ha hL
 have iH : ¬ ns = ng := hne
 have gW : ¬ ng = ns := Ne.symm iH
 have bF : (ns = ng) = False := eq_false iH
 have bG : (ng = ns) = False := eq_false gW
 refine gK 89 aL8 a3J a3K mix Tryz.func81 rfl (by kernel_rfl) (by simp) ?_
 simp -dsimp -implicitDefEqProofs only [go_sem, ↓reduceIte, Tryz.f81, kK]
 intro n8 q8
 have a8 : ¬ n8 = ng := by grind
 have b8 : ¬ n8 = ns := by grind
 have z8 : B n8 = none := by grind
 have aCE : ¬ n8 = ng := a8
 have iV : ¬ ng = n8 := Ne.symm aCE
 have cE : (n8 = ng) = False := eq_false aCE
 have cF : (ng = n8) = False := eq_false iV
 have uF : ¬ n8 = ns := b8
 have gH : ¬ ns = n8 := Ne.symm uF
 have bL : (n8 = ns) = False := eq_false uF
 have bM : (ns = n8) = False := eq_false gH
 simp -dsimp -implicitDefEqProofs only [go_sem, ↓reduceIte, Tryz.f81, cE, bL, cF, bG, bM, bF, aC, aL, kK, Option.toArray_none, Option.toArray_some, List.filterMap_cons, List.filterMap_nil, List.elem_cons_self, List.nil_append, List.append_nil, List.toList_toArray, bO iV, bO gH, aM]
 rw [show ∀ H : aA, aT H ng (cB.row 4 [[Cell.v (aD.op ns 3 0 0), Cell.v (aD.op np 1 0 0), Cell.v (I L), Cell.v (aD.bool pl)]]) = aT H ng (kK ns np L pl) from fun _ => rfl]
 refine ⟨fun h0 => ?_, fun h0 => ?_⟩
 ·refine aH.eM (aTE (np := np) (a := a) (sd := sd) (L := L) (pl := pl) (B := aT B n8 (.row 5 [[.v (I 0), .v (I 0), .v (I 0), .v (I 0), .v .bI]])) hc hl hne vars (by omega) (by rw [aC _ _ _ _ gH]; exact hB1) (by rw [aC _ _ _ _ iV]; exact hB2) (by omega)) ?_
  rintro r_ h' ⟨k, n, a', sd', rfl, hkn, ha', rfl⟩
  simp -dsimp -implicitDefEqProofs only [go_sem, ↓reduceIte, Tryz.f81, cE, bL, cF, bG, bM, bF, aC, aL, bO iV, bO gH, aM]
  exact aU8 (a := a) (a' := a') (sd' := sd') hkn hB1 hB2 (by omega) (by
   intro q_
   simp only [aL]
   grind)
 ·obtain ⟨esF, oF, horF, hBp, honF, hBm⟩ := id hprog
  cases oF with
  |none => exact absurd (by rw [honF rfl]; rfl) h0
  |some mF =>
  have hBm := hBm mF rfl
  have p1 : ¬ np = ns := fun q => by rw [q, hB1] at hBp; cases hBp
  have p2 : ¬ np = ng := fun q => by rw [q, hB2] at hBp; cases hBp
  have p3 : ¬ np = n8 := fun q => by rw [q, z8] at hBp; cases hBp
  have m1 : ¬ mF = ns := fun q => by rw [q, hB1] at hBm; cases hBm
  have m2 : ¬ mF = ng := fun q => by rw [q, hB2] at hBm; cases hBm
  have m3 : ¬ mF = n8 := fun q => by rw [q, z8] at hBm; cases hBm
  have aTG : ¬ np = ns := p1
  have a3L : ¬ ns = np := Ne.symm aTG
  have w6 : (np = ns) = False := eq_false aTG
  have w9 : (ns = np) = False := eq_false a3L
  have aTH : ¬ np = ng := p2
  have a3M : ¬ ng = np := Ne.symm aTH
  have xA : (np = ng) = False := eq_false aTH
  have xB : (ng = np) = False := eq_false a3M
  have aTI : ¬ np = n8 := p3
  have a3N : ¬ n8 = np := Ne.symm aTI
  have xC : (np = n8) = False := eq_false aTI
  have xD : (n8 = np) = False := eq_false a3N
  have aTJ : ¬ mF = ns := m1
  have a3O : ¬ ns = mF := Ne.symm aTJ
  have uG : (mF = ns) = False := eq_false aTJ
  have uH : (ns = mF) = False := eq_false a3O
  have aTK : ¬ mF = ng := m2
  have a3P : ¬ ng = mF := Ne.symm aTK
  have uI : (mF = ng) = False := eq_false aTK
  have uJ : (ng = mF) = False := eq_false a3P
  have aTL : ¬ mF = n8 := m3
  have a3Q : ¬ n8 = mF := Ne.symm aTL
  have uK : (mF = n8) = False := eq_false aTL
  have uL : (n8 = mF) = False := eq_false a3Q
  refine aH.eM (mX (a := a) (sd := sd) hc hl (by omega) p.aI.length (by omega) (by rw [aC _ _ _ _ iH, aG])) ?_
  rintro r_ h' ⟨x, a2, y5, rfl, x0, x1, -, ha2, rfl⟩
  simp only [bO gW, aM]
  have x1 := x1 (by omega)
  obtain ⟨k, rfl⟩ : ∃ k : Nat, x = k := ⟨x.toNat, by omega⟩
  have hk : k < p.aI.length := by omega
  have hf : p.aI[k]? = some p.aI[k] := List.getElem?_eq_getElem hk
  obtain ⟨hf1, hf2⟩ := hP _ (List.getElem_mem hk)
  generalize p.aI[k] = f at hf hf1 hf2
  obtain ⟨ef, hef, hfo⟩ := horF.a7F k f hf
  obtain ⟨y, rfl, hy⟩ := hfo
  obtain ⟨n5, eo, rfl, hyR⟩ := hy.some (by omega)
  have hcell := aI8 hef
  have hes : esF.length = p.aI.length := horF.length.symm
  have hyl : eo.length = f.aW.length := hyR.length.symm
  simp only [List.map_cons, List.map_nil, OV.jS, OV.yK] at hcell
  simp -dsimp -implicitDefEqProofs only [go_sem, ↓reduceIte, Tryz.f81, cE, bL, xD, cF, bG, xB, bM, bF, w9, xC, xA, w6, cE, bL, uL, cF, bG, uJ, bM, bF, uH, uK, uI, uG, aC, aL, Option.toArray_none, Option.toArray_some, List.filterMap_cons, List.filterMap_nil, List.elem_cons_self, List.nil_append, List.append_nil, List.toList_toArray, kK, hBp, hBm, hcell, bE, cK]
  intro n9 q9
  have a9 : ¬ n9 = ng := by grind
  have b9 : ¬ n9 = ns := by grind
  have c9 : ¬ n9 = n8 := by grind
  have z9 : B n9 = none := by grind
  have p4 : ¬ np = n9 := fun q => by rw [q, z9] at hBp; cases hBp
  have m4 : ¬ mF = n9 := fun q => by rw [q, z9] at hBm; cases hBm
  have aCF : ¬ n9 = ng := a9
  have jX : ¬ ng = n9 := Ne.symm aCF
  have c7 : (n9 = ng) = False := eq_false aCF
  have c8 : (ng = n9) = False := eq_false jX
  have mY : ¬ n9 = ns := b9
  have eK : ¬ ns = n9 := Ne.symm mY
  have bA : (n9 = ns) = False := eq_false mY
  have bB : (ns = n9) = False := eq_false eK
  have kG : ¬ n9 = n8 := c9
  have aCG : ¬ n8 = n9 := Ne.symm kG
  have bW : (n9 = n8) = False := eq_false kG
  have bX : (n8 = n9) = False := eq_false aCG
  have aTM : ¬ np = n9 := p4
  have a3R : ¬ n9 = np := Ne.symm aTM
  have zQ : (np = n9) = False := eq_false aTM
  have zR : (n9 = np) = False := eq_false a3R
  have aTN : ¬ mF = n9 := m4
  have a3S : ¬ n9 = mF := Ne.symm aTN
  have xE : (mF = n9) = False := eq_false aTN
  have xF : (n9 = mF) = False := eq_false a3S
  simp -dsimp -implicitDefEqProofs only [go_sem, ↓reduceIte, Tryz.f81, cE, bL, xD, bX, cF, bG, xB, c8, bM, bF, w9, bB, xC, xA, w6, zQ, bW, c7, bA, zR, cE, bL, uL, bX, cF, bG, uJ, c8, bM, bF, uH, bB, uK, uI, uG, xE, bW, c7, bA, xF, aC, aL, Option.toArray_none, Option.toArray_some, List.filterMap_cons, List.filterMap_nil, List.elem_cons_self, List.nil_append, List.append_nil, List.toList_toArray, kK, hBp, hBm, hcell, bE, cK, bO jX, bO eK, aM]
  rw [show ∀ H : aA, aT H ng (cB.row 4 [[Cell.v (aD.op ns 3 0 0), Cell.v (aD.op np 1 0 0), Cell.v (I L), Cell.v (aD.bool pl)]]) = aT H ng (kK ns np L pl) from fun _ => rfl]
  refine ⟨hk, fun _ => ?_⟩
  refine aH.eM (mX (a := a2) (sd := y5) hc hl (by omega) eo.length (by omega) (by rw [aC _ _ _ _ iH, aG])) ?_
  rintro r_ h' ⟨y, a3, y6, rfl, y0, y1, -, ha3, rfl⟩
  have y1 := y1 (by omega)
  simp only [bO gW, aM]
  simp -dsimp -implicitDefEqProofs only [go_sem, ↓reduceIte, Tryz.f81, cE, bL, xD, bX, cF, bG, xB, c8, bM, bF, w9, bB, xC, xA, w6, zQ, bW, c7, bA, zR, cE, bL, uL, bX, cF, bG, uJ, c8, bM, bF, uH, bB, uK, uI, uG, xE, bW, c7, bA, xF, aC, aL, Option.toArray_none, Option.toArray_some, List.filterMap_cons, List.filterMap_nil, List.elem_cons_self, List.nil_append, List.append_nil, List.toList_toArray, hBp, hBm, hcell, bE, cK, bO jX, bO eK, bO gW, aM]
  refine fun _ => ?_
  apply aL7
  case m =>
   intro key
   refine ⟨fun h1 => ?_, fun h1 => ?_⟩
   ·simp -dsimp -implicitDefEqProofs only [go_sem, ↓reduceIte, Tryz.f81, cE, bL, xD, bX, cF, bG, xB, c8, bM, bF, w9, bB, xC, xA, w6, zQ, bW, c7, bA, zR, cE, bL, uL, bX, cF, bG, uJ, c8, bM, bF, uH, bB, uK, uI, uG, xE, bW, c7, bA, xF, aC, aL, Option.toArray_none, Option.toArray_some, List.filterMap_cons, List.filterMap_nil, List.elem_cons_self, List.nil_append, List.append_nil, List.toList_toArray, kK, hBp, hBm, hcell, bE, cK]
    rw [show ∀ H : aA, aT H ng (cB.row 4 [[Cell.v (aD.op ns 3 0 0), Cell.v (aD.op np 1 0 0), Cell.v (I L), Cell.v (aD.bool pl)]]) = aT H ng (kK ns np L pl) from fun _ => rfl]
    refine aH.eM (aL1 (a := a3) (sd := y6) hc hl (by omega) 2 (by omega) (by rw [aC _ _ _ _ iH, aG])) ?_
    rintro r_ h' ⟨b, a4, sd4, rfl, ha4, rfl⟩
    simp only [bO gW, aM]
    cases b
    ·simp -dsimp -implicitDefEqProofs only [go_sem, ↓reduceIte, Tryz.f81, cE, bL, xD, bX, cF, bG, xB, c8, bM, bF, w9, bB, xC, xA, w6, zQ, bW, c7, bA, zR, cE, bL, uL, bX, cF, bG, uJ, c8, bM, bF, uH, bB, uK, uI, uG, xE, bW, c7, bA, xF, aC, aL, Option.toArray_none, Option.toArray_some, List.filterMap_cons, List.filterMap_nil, List.elem_cons_self, List.nil_append, List.append_nil, List.toList_toArray, bO jX, bO eK, bO gW, aM]
     refine dA (keep := aL8) (ib := a3J) (mk := a3K) mix (by kernel_rfl) (fun x : CSt => [(0, .op ng 4 0 0), (1, I vars), (2, I p.aI.length), (3, I dp), (8, .op n8 5 0 0), (9, .op n9 5 0 0), (10, .op mF 3 k 0), (11, I x.2.1)]) (fun x => aT (aT (aT (aT (cQ x.2.2.2.2.1 (.row 5 (OV.cells x.2.2.2.1)) x.2.2.2.2.2.1) n8 (tO 0 0 0 0 .bI)) n9 (tO x.1 k y x.2.2.2.2.2.2.2.2.2 (gQ 5 x.2.1 x.2.2.2.2.2.1))) ns (iM c x.2.2.2.2.2.2.1 x.2.2.2.2.2.2.2.1)) ng (kK ns np x.2.2.2.2.2.2.2.2.1 pl)) (fun x => aH1 p f vars dp a L B ns ng n8 n9 x) (fun x => f.aZ.toNat - x.2.1) (10, 0, [], [], B, none, a4, sd4, L, 0) ⟨by simp [dF, b6], aA.le_refl _, by omega, Nat.zero_le _, rfl, trivial, fM.nil B, ⟨hB1, hB2, z8, z9⟩, rfl, (fun m e => by cases e), (fun j h => by cases h), Nat.zero_le _, ⟨Int.le_refl _, by simp [p7], by simp [p7]⟩, by simp [p7]; omega⟩ ?_
     exact key.get
    ·simp -dsimp -implicitDefEqProofs only [go_sem, ↓reduceIte, Tryz.f81, cE, bL, xD, bX, cF, bG, xB, c8, bM, bF, w9, bB, xC, xA, w6, zQ, bW, c7, bA, zR, cE, bL, uL, bX, cF, bG, uJ, c8, bM, bF, uH, bB, uK, uI, uG, xE, bW, c7, bA, xF, aC, aL, Option.toArray_none, Option.toArray_some, List.filterMap_cons, List.filterMap_nil, List.elem_cons_self, List.nil_append, List.append_nil, List.toList_toArray, kK, bO jX, bO eK, bO gW, aM]
     rw [show ∀ H : aA, aT H ng (cB.row 4 [[Cell.v (aD.op ns 3 0 0), Cell.v (aD.op np 1 0 0), Cell.v (I L), Cell.v (aD.bool pl)]]) = aT H ng (kK ns np L pl) from fun _ => rfl]
     refine aH.eM (mX (a := a4) (sd := sd4) hc hl (by omega) 4 (by omega) (by rw [aC _ _ _ _ iH, aG])) ?_
     rintro r_ h' ⟨cnt, a5, sd5, rfl, c0, c1, -, ha5, rfl⟩
     have c1 := c1 (by omega)
     simp only [bO gW, aM]
     simp -dsimp -implicitDefEqProofs only [go_sem, ↓reduceIte, Tryz.f81, cE, bL, xD, bX, cF, bG, xB, c8, bM, bF, w9, bB, xC, xA, w6, zQ, bW, c7, bA, zR, cE, bL, uL, bX, cF, bG, uJ, c8, bM, bF, uH, bB, uK, uI, uG, xE, bW, c7, bA, xF, aC, aL, Option.toArray_none, Option.toArray_some, List.filterMap_cons, List.filterMap_nil, List.elem_cons_self, List.nil_append, List.append_nil, List.toList_toArray, bO jX, bO eK, bO gW, aM]
     refine dA (keep := aL8) (ib := a3J) (mk := a3K) mix (by kernel_rfl) (fun x : CSt => [(0, .op ng 4 0 0), (1, I vars), (2, I p.aI.length), (3, I dp), (8, .op n8 5 0 0), (9, .op n9 5 0 0), (10, .op mF 3 k 0), (11, I x.2.1)]) (fun x => aT (aT (aT (aT (cQ x.2.2.2.2.1 (.row 5 (OV.cells x.2.2.2.1)) x.2.2.2.2.2.1) n8 (tO 0 0 0 0 .bI)) n9 (tO x.1 k y x.2.2.2.2.2.2.2.2.2 (gQ 5 x.2.1 x.2.2.2.2.2.1))) ns (iM c x.2.2.2.2.2.2.1 x.2.2.2.2.2.2.2.1)) ng (kK ns np x.2.2.2.2.2.2.2.2.1 pl)) (fun x => aH1 p f vars dp a L B ns ng n8 n9 x) (fun x => f.aZ.toNat - x.2.1) (11, 0, [], [], B, none, a5, sd5, L, cnt) ⟨by simp [dF, b6], aA.le_refl _, by omega, Nat.zero_le _, rfl, trivial, fM.nil B, ⟨hB1, hB2, z8, z9⟩, rfl, (fun m e => by cases e), (fun j h => by cases h), Nat.zero_le _, ⟨Int.le_refl _, by simp [p7], by simp [p7]⟩, by simp [p7]; omega⟩ ?_
     exact key.get
   ·refine dA (keep := aL8) (ib := a3J) (mk := a3K) mix (by kernel_rfl) (fun x : CSt => [(0, .op ng 4 0 0), (1, I vars), (2, I p.aI.length), (3, I dp), (8, .op n8 5 0 0), (9, .op n9 5 0 0), (10, .op mF 3 k 0), (11, I x.2.1)]) (fun x => aT (aT (aT (aT (cQ x.2.2.2.2.1 (.row 5 (OV.cells x.2.2.2.1)) x.2.2.2.2.2.1) n8 (tO 0 0 0 0 .bI)) n9 (tO x.1 k y x.2.2.2.2.2.2.2.2.2 (gQ 5 x.2.1 x.2.2.2.2.2.1))) ns (iM c x.2.2.2.2.2.2.1 x.2.2.2.2.2.2.2.1)) ng (kK ns np x.2.2.2.2.2.2.2.2.1 pl)) (fun x => aH1 p f vars dp a L B ns ng n8 n9 x) (fun x => f.aZ.toNat - x.2.1) (10, 0, [], [], B, none, a3, y6, L, 0) ⟨by simp [dF, b6], aA.le_refl _, by omega, Nat.zero_le _, rfl, trivial, fM.nil B, ⟨hB1, hB2, z8, z9⟩, rfl, (fun m e => by cases e), (fun j h => by cases h), Nat.zero_le _, ⟨Int.le_refl _, by simp [p7], by simp [p7]⟩, by simp [p7]; omega⟩ ?_
    exact key.get
  case t =>
   rintro ⟨K, i, kids, es, g1, o, a3, y6, L3, cnt⟩ hgg
   obtain ⟨hK, hi, hlen, hor, hnew, ⟨zs, zg, z18, z19⟩, hgs, hon, hok, hdl, hL3, ha3⟩ := id hgg
   simp only at hi hlen hor hnew zs zg z18 z19 hgs hon hok hdl hL3 ha3 hK ⊢
   have wd : IntKind.i64.wrap ((dp : Int) - 1) = ((dp - 1 : Nat) : Int) := by rw [IntWalk.i64_in _ (by omega)]; omega
   have aZ6 : mL L ≤ 1000 := by unfold mL; omega
   have hGm := hnew.keep hBm
   have hom : ∀ R, cQ g1 R o mF = some (.row 3 (OV.cells esF)) := by
    intro R
    cases o with
    |none => exact hGm
    |some m5 =>
     rw [iJ] at hgs
     rw [aJ, aC _ _ _ _ (fun q => by rw [← q, hGm] at hgs; cases hgs)]
     exact hGm
   unfold tO
   simp -dsimp -implicitDefEqProofs only [go_sem, ↓reduceIte, Tryz.f81, cE, bL, bX, cF, bG, c8, bM, bF, bB, bW, c7, bA, cE, bL, uL, bX, cF, bG, uJ, c8, bM, bF, uH, bB, uK, uI, uG, xE, bW, c7, bA, xF, aC, aL, Option.toArray_none, Option.toArray_some, List.filterMap_cons, List.filterMap_nil, List.elem_cons_self, List.nil_append, List.append_nil, List.toList_toArray, wd, hom, hcell]
   refine ⟨fun hlt => ?_, fun hge => ⟨jH .., ?_⟩⟩
   ·have hV : vars = vars := rfl
    cases o with
    |none =>
     rw [jN] at hgs
     subst hgs
     obtain rfl : kids = [] := List.length_eq_zero_iff.1 hor.length
     obtain rfl : i = 0 := hlen.symm
     simp only [aQ, iY]
     refine aH.eM (ih (dp - 1) (by omega) vars _ a3 y6 L3 (by rw [aC _ _ _ _ eK, aC _ _ _ _ gH]; exact zs) (by rw [aC _ _ _ _ jX, aC _ _ _ _ iV]; exact zg) (hprog.le (aA.aP z9 (aA.aP z8 hnew.le))) ⟨by omega, by omega, by omega⟩) ?_
     rintro r_ h' ⟨x5, e5, g', a5, sd5, L5, hx, rfl, hnw, ⟨y1, y2⟩, rfl, uX, hd5, hL5, ha5⟩
     obtain ⟨g5, rfl, w5, z58, z59⟩ := fM.yJ z18 (by rw [aC _ _ _ _ kG]; exact z19) hnw
     simp only [aL, cE, bL, bX, cF, bG, c8, bM, bF, bB, bW, c7, bA, if_false] at y1 y2 z59
     have hx5 := hx
     rw [aB.rU] at hx
     obtain ⟨y4, rfl, xV⟩ := hx
     simp -dsimp -implicitDefEqProofs only [go_sem, ↓reduceIte, Tryz.f81, cE, bL, bX, cF, bG, c8, bM, bF, bB, bW, c7, bA, aC, aL, Option.toArray_none, Option.toArray_some, List.filterMap_cons, List.filterMap_nil, List.elem_cons_self, List.nil_append, List.append_nil, List.toList_toArray, OV.fH, OV.cG, OV.jS, xV.flat, xV.one]
     have ht := eA []
     refine ⟨by decide, by decide, by decide, fun m qm => ?_⟩
     have am : ¬ m = ns := by grind
     have bm : ¬ m = ng := by grind
     have cm : ¬ m = n8 := by grind
     have em : ¬ m = n9 := by grind
     have dm : g5 m = none := by grind
     skip
     have eO : ¬ m = ns := am
     have fR : ¬ ns = m := Ne.symm eO
     have cT : (m = ns) = False := eq_false eO
     have cU : (ns = m) = False := eq_false fR
     have fX : ¬ m = ng := bm
     have kA : ¬ ng = m := Ne.symm fX
     have iN : (m = ng) = False := eq_false fX
     have iO : (ng = m) = False := eq_false kA
     have iP : ¬ m = n8 := cm
     have l8 : ¬ n8 = m := Ne.symm iP
     have jY : (m = n8) = False := eq_false iP
     have jZ : (n8 = m) = False := eq_false l8
     have gL : ¬ m = n9 := em
     have jQ : ¬ n9 = m := Ne.symm gL
     have dR : (m = n9) = False := eq_false gL
     have dT : (n9 = m) = False := eq_false jQ
     simp -dsimp -implicitDefEqProofs only [go_sem, ↓reduceIte, Tryz.f81, cE, bL, bX, jZ, cF, bG, c8, iO, bM, bF, bB, cU, bW, c7, bA, dT, jY, iN, cT, dR, aC, aL, Option.toArray_none, Option.toArray_some, List.filterMap_cons, List.filterMap_nil, List.elem_cons_self, List.nil_append, List.append_nil, List.toList_toArray]
     refine ⟨(K, 0 + 1, [] ++ [x5], [] ++ [[.v (.int .i64 x5.aO), .v (.int .i64 x5.aX), .v (.int .i64 x5.cN), .v (.int .i64 x5.cA), y4]], g5, some m, a5, sd5, L5, cnt), IntWalk.i64_in _ (by omega), ?_, hgg.next hlt hx5 w5 ⟨y1, y2, z58, z59⟩ dm ⟨am, bm, cm, em⟩ (by rw [← hV]; exact uX) (by omega) hL5 ha5, by simp only; omega⟩
     intro q_
     simp only [aL, aJ, bE, gI, eA, cK, iQ, iR, OV.fH, OV.cG, OV.jS, List.nil_append, List.map_cons, List.map_nil, ht]
     grind
    |some m0 =>
     rw [iJ] at hgs
     obtain ⟨hm1, hm2, hm3, hm4⟩ := hon m0 rfl
     have jI : ¬ m0 = ns := hm1
     have kX : ¬ ns = m0 := Ne.symm jI
     have gO : (m0 = ns) = False := eq_false jI
     have gP : (ns = m0) = False := eq_false kX
     have pV : ¬ m0 = ng := hm2
     have pW : ¬ ng = m0 := Ne.symm pV
     have l9 : (m0 = ng) = False := eq_false pV
     have mA : (ng = m0) = False := eq_false pW
     have mZ : ¬ m0 = n8 := hm3
     have nQ : ¬ n8 = m0 := Ne.symm mZ
     have j2 : (m0 = n8) = False := eq_false mZ
     have j3 : (n8 = m0) = False := eq_false nQ
     have m6 : ¬ m0 = n9 := hm4
     have nR : ¬ n9 = m0 := Ne.symm m6
     have jC : (m0 = n9) = False := eq_false m6
     have jD : (n9 = m0) = False := eq_false nR
     have hBm : B m0 = none := by
      cases hb : B m0 with
      |none => rfl
      |some v => have := hnew.keep hb; rw [hgs] at this; cases this
     simp only [aJ, bE]
     refine aH.eM (ih (dp - 1) (by omega) vars _ a3 y6 L3 (by rw [aC _ _ _ _ eK, aC _ _ _ _ gH, aC _ _ _ _ kX]; exact zs) (by rw [aC _ _ _ _ jX, aC _ _ _ _ iV, aC _ _ _ _ pW]; exact zg) (hprog.le (aA.aP z9 (aA.aP z8 (aA.aP hBm hnew.le)))) ⟨by omega, by omega, by omega⟩) ?_
     rintro r_ h' ⟨x5, e5, g', a5, sd5, L5, hx, rfl, hnw, ⟨y1, y2⟩, rfl, uX, hd5, hL5, ha5⟩
     obtain ⟨g5, rfl, w5, z50, z58, z59⟩ := fM.aKL hgs (by rw [aC _ _ _ _ nQ]; exact z18) (by rw [aC _ _ _ _ kG, aC _ _ _ _ nR]; exact z19) hnw
     simp only [aL, cE, bL, bX, j3, cF, bG, c8, mA, bM, bF, bB, gP, bW, c7, bA, jD, j2, l9, gO, jC, if_false] at y1 y2 z58 z59
     have hx5 := hx
     rw [aB.rU] at hx
     obtain ⟨y4, rfl, xV⟩ := hx
     simp -dsimp -implicitDefEqProofs only [go_sem, ↓reduceIte, Tryz.f81, cE, bL, bX, j3, cF, bG, c8, mA, bM, bF, bB, gP, bW, c7, bA, jD, j2, l9, gO, jC, aC, aL, Option.toArray_none, Option.toArray_some, List.filterMap_cons, List.filterMap_nil, List.elem_cons_self, List.nil_append, List.append_nil, List.toList_toArray, OV.fH, OV.cG, OV.jS, xV.flat, xV.one, cK]
     have ht : List.take i (OV.cells es) = OV.cells es := List.take_of_length_le (by rw [cK]; have := hor.length; omega)
     refine ⟨by decide, by decide, by decide, by have := hor.length; omega, by omega, by omega, fun m qm => ?_⟩
     have am : ¬ m = ns := by grind
     have bm : ¬ m = ng := by grind
     have cm : ¬ m = n8 := by grind
     have em : ¬ m = n9 := by grind
     have dm : g5 m = none := by grind
     have fm : ¬ m = m0 := (by grind); have rR := eq_false fm; have rS := eq_false (Ne.symm fm); have aAX := fm; have aD4 := Ne.symm fm
     have eO : ¬ m = ns := am
     have fR : ¬ ns = m := Ne.symm eO
     have cT : (m = ns) = False := eq_false eO
     have cU : (ns = m) = False := eq_false fR
     have fX : ¬ m = ng := bm
     have kA : ¬ ng = m := Ne.symm fX
     have iN : (m = ng) = False := eq_false fX
     have iO : (ng = m) = False := eq_false kA
     have iP : ¬ m = n8 := cm
     have l8 : ¬ n8 = m := Ne.symm iP
     have jY : (m = n8) = False := eq_false iP
     have jZ : (n8 = m) = False := eq_false l8
     have gL : ¬ m = n9 := em
     have jQ : ¬ n9 = m := Ne.symm gL
     have dR : (m = n9) = False := eq_false gL
     have dT : (n9 = m) = False := eq_false jQ
     simp -dsimp -implicitDefEqProofs only [go_sem, ↓reduceIte, Tryz.f81, cE, bL, bX, jZ, cF, bG, c8, iO, bM, bF, bB, cU, bW, c7, bA, dT, jY, iN, cT, dR, rR, jY, dR, iN, cT, rS, j2, jC, l9, gO, jZ, j3, bX, cE, bL, dT, jD, bW, c7, bA, iO, mA, cF, c8, bG, cU, gP, bM, bB, bF, aC, aL, Option.toArray_none, Option.toArray_some, List.filterMap_cons, List.filterMap_nil, List.elem_cons_self, List.nil_append, List.append_nil, List.toList_toArray]
     refine ⟨(K, i + 1, kids ++ [x5], es ++ [[.v (.int .i64 x5.aO), .v (.int .i64 x5.aX), .v (.int .i64 x5.cN), .v (.int .i64 x5.cA), y4]], g5, some m, a5, sd5, L5, cnt), IntWalk.i64_in _ (by omega), ?_, hgg.next hlt hx5 w5 ⟨y1, y2, z58, z59⟩ dm ⟨am, bm, cm, em⟩ (by rw [← hV]; exact uX) (by omega) hL5 ha5, by simp only; omega⟩
     intro q_
     simp only [aL, aJ, bE, gI, eA, cK, iQ, iR, OV.fH, OV.cG, OV.jS, List.nil_append, List.map_cons, List.map_nil, ht]
     grind
   ·have hi2 : (i : Int) = f.aZ := by omega
    have y8 : cQ g1 (.row 5 (OV.cells es)) o n8 = none := iK z18 fun m e => (hon m e).2.2.1
    have y9 : cQ g1 (.row 5 (OV.cells es)) o n9 = none := iK z19 fun m e => (hon m e).2.2.2
    exact aU9 hf hf1 ⟨y0, by omega⟩ hgg hi2 (by
     intro q_
     simp only [aL]
     grind)
open Go.Proofs
set_option linter.unusedVariables false
set_option linter.unusedSimpArgs false
theorem bG8 {p : aE} {ns ng np : Nat} {c : List Int} {pl : Bool} (hc : ∀ x ∈ c, InB x) (hl : c.length ≤ 4096) (hne : ¬ ns = ng) (hP : aFL p) (hpl : p.aI.length ≤ 100) (dp : Nat) : aY4 Tryz.prog 48 p ns ng np c pl dp := by
 induction dp with
 |zero => exact aH0 hc hl hne hP (fun d h => by omega) (fun h => by omega)
 |succ d ih =>
  have hd : ∀ d', d' + 1 = d + 1 → aY4 Tryz.prog 48 p ns ng np c pl d' := fun d' h => by
   cases h
   exact ih
  exact aH0 hc hl hne hP hd (fun _ => aQ9 hc hl hne hP hpl (by omega) hd)
def aD5 : List (List UInt8) := [[102], [103], [115, 116, 101, 112], [104, 50]]
def aAY (p : aE) (k : Nat) (f : aS) : Prop := (∃ w ∈ aD5, f.j5 = w ++ Go.Lib.itoa k) ∧ (1 ≤ f.aZ ∧ f.aZ ≤ 3) ∧ (1 ≤ f.aW.length ∧ f.aW.length ≤ 3) ∧ ∀ e ∈ f.aW, e.s ≤ 39 ∧ e.d ≤ 6 ∧ e.ok p k f.aZ
def xR (fs : List aS) : Prop := ∀ (j : Nat) (f : aS), fs[j]? = some f → aAY ⟨fs⟩ j f
theorem aVA {p q : aE} {m : Nat} (hpq : ∀ j, j < m → q.aI[j]? = p.aI[j]?) {e : aB} {vars : Int} (h : l3 p e vars m) : l3 q e vars m := by
 unfold l3 at h ⊢
 split
 ·rename_i hk
  rw [if_pos hk] at h
  exact ⟨h.1, h.2.1, fun f ef => h.2.2 f (by rw [hpq _ (by omega)] at ef; exact ef)⟩
 ·rename_i hk
  rw [if_neg hk] at h
  exact h
theorem aB.aTO {p q : aE} {m : Nat} (hpq : ∀ j, j < m → q.aI[j]? = p.aI[j]?) (e : aB) (vars : Int) (h : e.ok p m vars) : e.ok q m vars := by
 have h1 := (aB.cR _ _ _ _).1 h
 refine (aB.cR _ _ _ _).2 ⟨aVA hpq h1.1, fun j hj => ?_⟩
 have hs := aB.aBM (List.getElem_mem hj)
 exact aB.aTO hpq e.aK[j] _ (h1.2 j hj)
termination_by e.s
theorem xR.snoc {fs : List aS} (h : xR fs) {f : aS} (hf : aAY ⟨fs⟩ fs.length f) : xR (fs ++ [f]) := by
 have up : ∀ {k : Nat} {g : aS}, k ≤ fs.length → aAY ⟨fs⟩ k g → aAY ⟨fs ++ [f]⟩ k g := fun {k g} hk ⟨h1, h2, h3, h4⟩ => ⟨h1, h2, h3, fun e he => ⟨(h4 e he).1, (h4 e he).2.1, aB.aTO (fun j hj => by simp only [aE.aI]; rw [List.getElem?_append_left (by omega)]) e _ (h4 e he).2.2⟩⟩
 intro j g hg
 rcases Nat.lt_or_ge j fs.length with h1 | h1
 ·rw [List.getElem?_append_left h1] at hg
  exact up (by omega) (h j g hg)
 ·have hj : j < (fs ++ [f]).length := by rcases Nat.lt_or_ge j (fs ++ [f]).length with q | q; exact q; rw [List.getElem?_eq_none q] at hg; cases hg
  rw [List.length_append, List.length_singleton] at hj
  obtain rfl : j = fs.length := by omega
  rw [List.getElem?_append_right (Nat.le_refl _), Nat.sub_self] at hg
  cases hg
  exact up (Nat.le_refl _) hf
theorem xR.get {fs : List aS} (h : xR fs) {f : aS} (hf : f ∈ fs) : ∃ j, j < fs.length ∧ fs[j]? = some f ∧ aAY ⟨fs⟩ j f := by
 obtain ⟨j, hj, e⟩ := List.mem_iff_getElem.1 hf
 have e2 : fs[j]? = some f := by rw [List.getElem?_eq_getElem hj, e]
 exact ⟨j, hj, e2, h j f e2⟩
theorem xR.aTP {fs : List aS} (h : xR fs) : aFL ⟨fs⟩ := fun f hf => by
 obtain ⟨j, -, -, hg⟩ := h.get hf
 exact ⟨hg.2.1, hg.2.2.1⟩
theorem aCH {k : Nat} (h : k ≤ 2) : ∃ c : UInt8, Go.Lib.itoa k = [c] ∧ Dig c ∧ c.toNat = 48 + k := by
 refine ⟨UInt8.ofNat (48 + k), by rw [aY0 _ (by omega), Int.toNat_natCast, a3F (by omega)], ?_⟩
 match k, h with
 |0, _ => exact ⟨⟨by decide, by decide⟩, rfl⟩
 |1, _ => exact ⟨⟨by decide, by decide⟩, rfl⟩
 |2, _ => exact ⟨⟨by decide, by decide⟩, rfl⟩
theorem a3T {w : List UInt8} (hw : w ∈ aD5) {c : UInt8} (hc : Dig c) : aAP (w ++ [c]) := by
 simp only [aD5, List.mem_cons, List.not_mem_nil, or_false] at hw
 rcases hw with rfl | rfl | rfl | rfl
 all_goals
  refine ⟨by simp, by simp, fun x hx => by cases hx; exact ⟨by decide, by decide⟩, fun x hx => ?_⟩
  simp only [List.cons_append, List.nil_append, List.mem_cons, List.not_mem_nil, or_false] at hx
 ·rcases hx with rfl | rfl <;> first | exact .inr hc | exact .inl ⟨by decide, by decide⟩
 ·rcases hx with rfl | rfl <;> first | exact .inr hc | exact .inl ⟨by decide, by decide⟩
 ·rcases hx with rfl | rfl | rfl | rfl | rfl <;> first | exact .inr hc | exact .inl ⟨by decide, by decide⟩
 ·rcases hx with rfl | rfl | rfl <;> first | exact .inr hc | exact .inl ⟨by decide, by decide⟩ | exact .inr ⟨by decide, by decide⟩
theorem xR.bG9 {fs : List aS} (h : xR fs) (hl : fs.length ≤ 3) : (⟨fs⟩ : aE).ok := by
 have hsz : ∀ {l : List aB}, (∀ e ∈ l, e.s ≤ 39) → p7 aB.s l ≤ 40 * l.length := fun {l} hl => by
  rw [lC]
  induction l with
  |nil => simp
  |cons x l ih =>
   have h1 := hl x (.head _)
   have h2 := ih fun e he => hl e (.tail _ he)
   simp only [List.length_cons, List.map_cons, List.sum_cons]
   omega
 refine ⟨by simp only [aE.aI]; omega, fun k f hf => ?_⟩
 ·have hk : k < fs.length := by rcases Nat.lt_or_ge k fs.length with q | q; exact q; rw [show (⟨fs⟩ : aE).aI = fs from rfl, List.getElem?_eq_none q] at hf; cases hf
  obtain ⟨⟨w, hw, hn⟩, h2, h3, h4⟩ := h k f hf
  obtain ⟨c, ec, dc, cv⟩ := aCH (k := k) (by omega)
  have h5 := hsz fun e he => (h4 e he).1
  refine ⟨by rw [hn, ec]; exact a3T hw dc, by omega, by omega, fun g hg q => ?_, by omega, fun e he => ⟨by omega, ⟨by omega, by simp only [aE.aI]; omega⟩, by have := (h4 e he).1; omega, by have := (h4 e he).2.1; omega, (h4 e he).2.2⟩⟩
  obtain ⟨j, hj, e⟩ := List.mem_iff_getElem.1 hg
  rw [List.length_take] at hj
  rw [List.getElem_take] at e
  obtain ⟨⟨w2, hw2, hn2⟩, -⟩ := h j g (by rw [List.getElem?_eq_getElem (by simp only [aE.aI] at hj; omega)]; exact congrArg some e)
  obtain ⟨c2, ec2, -, cv2⟩ := aCH (k := j) (by omega)
  rw [hn, hn2, ec, ec2] at q
  have q2 := congrArg List.getLast? q
  simp only [List.getLast?_append, List.getLast?_singleton, Option.some_or, Option.some.injEq] at q2
  rw [q2] at cv2
  omega
set_option maxRecDepth 100000
open Go.Proofs
set_option linter.unusedVariables false
set_option linter.unusedSimpArgs false
abbrev DSt := List aS × List (List OV) × aA × Option Nat × Nat × Int
def aTQ (n : Nat) (a : Nat) (B : aA) (ns n8 n9 : Nat) : DSt → Prop := fun (fs, es, g1, o, a3, _) =>
 fs.length ≤ n ∧ xR fs ∧ OR aS.o fs es ∧ fM B (OV.cC es) g1 ∧ (g1 ns = none ∧ g1 n8 = none ∧ g1 n9 = none) ∧ yL g1 es o ∧ (∀ m, o = some m → ¬ m = ns ∧ ¬ m = n8 ∧ ¬ m = n9) ∧ (o = none → fs = []) ∧ (a ≤ a3 ∧ a3 ≤ a + 5000 * fs.length)
abbrev ISt := Int × Nat × List aB × List (List OV) × aA × Option Nat × Nat × Int
def aJX (fs : List aS) (par : Int) (a : Nat) (B1 : aA) (ns nf : Nat) : ISt → Prop := fun (cnt, i, outs, eo, g2, oo, a8, _) =>
 (1 ≤ cnt ∧ cnt ≤ 3) ∧ (i : Int) ≤ cnt ∧ outs.length = i ∧ OR aB.o outs eo ∧ fM B1 (OV.cC eo) g2 ∧ (g2 ns = none ∧ g2 nf = none) ∧ yL g2 eo oo ∧ (∀ m, oo = some m → ¬ m = ns ∧ ¬ m = nf) ∧ (∀ e ∈ outs, e.s ≤ 39 ∧ e.d ≤ 6 ∧ e.ok ⟨fs⟩ fs.length par) ∧ (a ≤ a8 ∧ a8 ≤ a + 600 * i)
theorem aJX.next {fs : List aS} {par : Int} {a : Nat} {B1 : aA} {ns nf : Nat} {cnt : Int} {i : Nat} {outs : List aB} {eo : List (List OV)} {g2 g5 : aA} {oo : Option Nat} {a8 a9 : Nat} {sd8 sd9 : Int} {x : aB} {e : List OV} {m : Nat}
  (h : aJX fs par a B1 ns nf (cnt, i, outs, eo, g2, oo, a8, sd8)) (hlt : (i : Int) < cnt) (hx : x.o e) (w : fM g2 (OV.b5 e) g5) (z : g5 ns = none ∧ g5 nf = none) (hm : g5 m = none) (hm2 : ¬ m = ns ∧ ¬ m = nf) (hg : x.s ≤ 39 ∧ x.d ≤ 6 ∧ x.ok ⟨fs⟩ fs.length par) (ha : a8 ≤ a9 ∧ a9 ≤ a8 + 600) :
  aJX fs par a B1 ns nf (cnt, i + 1, outs ++ [x], eo ++ [e], g5, some m, a9, sd9) := by
 obtain ⟨hcnt, hi, hol, hor, hnew, -, -, -, hgd, ha8⟩ := h
 refine ⟨hcnt, by omega, by rw [List.length_append, hol]; rfl, OR.append hor ⟨hx, trivial⟩, fM.snoc hnew w, z, hm, fun b q => by cases q; exact hm2, fun y hy => ?_, by omega⟩
 rcases List.mem_append.1 hy with hy | hy
 ·exact hgd y hy
 ·rw [List.mem_singleton.1 hy]; exact hg
theorem aTQ.next {n a : Nat} {B : aA} {ns n8 n9 : Nat} {fs : List aS} {es : List (List OV)} {g1 g8 : aA} {o : Option Nat} {a3 a8 : Nat} {y6 sd8 : Int} {f : aS} {e : List OV} {m : Nat}
  (h : aTQ n a B ns n8 n9 (fs, es, g1, o, a3, y6)) (hlt : fs.length < n) (hf : aAY ⟨fs⟩ fs.length f) (hx : f.o e) (w : fM g1 (OV.b5 e) g8) (z : g8 ns = none ∧ g8 n8 = none ∧ g8 n9 = none) (hm : g8 m = none) (hm2 : ¬ m = ns ∧ ¬ m = n8 ∧ ¬ m = n9) (ha : a3 ≤ a8 ∧ a8 ≤ a3 + 5000) :
  aTQ n a B ns n8 n9 (fs ++ [f], es ++ [e], g8, some m, a8, sd8) := by
 obtain ⟨hfl, hdr, hor, hnew, -, -, -, -, ha3⟩ := h
 exact ⟨by rw [List.length_append, List.length_singleton]; omega, hdr.snoc hf, OR.append hor ⟨hx, trivial⟩, fM.snoc hnew w, z, hm, fun b q => by cases q; exact hm2, (fun q => (by cases q)), by rw [List.length_append, List.length_singleton]; omega⟩
@[go_sem] def aL9 : List Nat := [0, 1, 2, 3, 8, 9, 10, 11, 12, 13, 14, 18, 35, 40]
@[go_sem] def a3U : List Nat := [22, 55, 61]
@[go_sem] def a3V : Marks := fun id => match id with | 13 => ([1, 4, 6, 8, 10], (.op 0 (.op 2 (.op 3 (.op 5 (.op 1 (.op 4 (.op 6 (.op 7 (.op 8 (.op 9 (.op 10 .nil))))))))))), [(1, 6)]) | _ => ([], .nil, [])
set_option maxHeartbeats 8000000 in
theorem bHA {L0 : Int} (hL0 : 1 ≤ L0 ∧ L0 ≤ 14) {ns : Nat} {c : List Int} {pl : Bool} (hc : ∀ x ∈ c, InB x) (hl : c.length ≤ 4096) {n : Nat} (hn : n ≤ 3) {B : aA} (hB : B ns = none) {a : Nat} (ha : a ≤ 700000000) {sd : Int} :
  fF Tryz.prog 46 [.op ns 3 0 0, I n, I L0, .bool pl] (aT B ns (iM c a sd)) fun r h' => ∃ (fs : List aS) (es : List (List OV)) (o : Option Nat) (g1 : aA) (a' : Nat) (sd' : Int), fs.length = n ∧ xR fs ∧ OR aS.o fs es ∧ fM B (OV.cC es) g1 ∧ g1 ns = none ∧ yL g1 es o ∧ (∀ m, o = some m → ¬ m = ns) ∧ (o = none → fs = []) ∧ r = .agg [gQ 3 fs.length o] ∧ (a ≤ a' ∧ a' ≤ a + 5000 * n) ∧ h' = aT (cQ g1 (.row 3 (OV.cells es)) o) ns (iM c a' sd') := by
 have bQF : mL L0 ≤ 13 := (by unfold mL; omega)
 refine gK 65 aL9 a3U a3V mix Tryz.func46 rfl (by kernel_rfl) (by simp) ?_
 simp -dsimp -implicitDefEqProofs only [go_sem, ↓reduceIte, Tryz.f46, kK]
 intro n8 q8
 have b8 : ¬ n8 = ns := by grind
 have z8 : B n8 = none := by grind
 have uF : ¬ n8 = ns := b8
 have gH : ¬ ns = n8 := Ne.symm uF
 have bL : (n8 = ns) = False := eq_false uF
 have bM : (ns = n8) = False := eq_false gH
 intro n9 q9
 have b9 : ¬ n9 = ns := by grind
 have c9 : ¬ n9 = n8 := by grind
 have z9 : B n9 = none := by grind
 have mY : ¬ n9 = ns := b9
 have eK : ¬ ns = n9 := Ne.symm mY
 have bA : (n9 = ns) = False := eq_false mY
 have bB : (ns = n9) = False := eq_false eK
 have kG : ¬ n9 = n8 := c9
 have aCG : ¬ n8 = n9 := Ne.symm kG
 have bW : (n9 = n8) = False := eq_false kG
 have bX : (n8 = n9) = False := eq_false aCG
 simp only [bO gH, bO eK, aM]
 refine dA (keep := aL9) (ib := a3U) (mk := a3V) mix (by kernel_rfl) (fun x : DSt => [(0, .op ns 3 0 0), (1, I n), (2, I L0), (3, .bool pl), (8, .op n8 1 0 0), (9, .op n9 1 0 0), (10, I x.1.length)]) (fun x => aT (aT (aT (cQ x.2.2.1 (.row 3 (OV.cells x.2.1)) x.2.2.2.1) n8 (.row 1 [[.v .bI]])) n9 (.row 1 [[.v (gQ 3 x.1.length x.2.2.2.1)]])) ns (iM c x.2.2.2.2.1 x.2.2.2.2.2)) (fun x => aTQ n a B ns n8 n9 x) (fun x => n - x.1.length) ([], [], B, none, a, sd) ⟨by simp [dF, b6], aA.le_refl _, Nat.zero_le _, (fun j f h => by cases h), trivial, fM.nil B, ⟨hB, z8, z9⟩, rfl, (fun m e => by cases e), (fun _ => rfl), by simp⟩ ?_
 rintro ⟨fs, es, g1, o, a3, y6⟩ hdd
 obtain ⟨hfl, hdr, hor, hnew, ⟨zs, z18, z19⟩, hgs, hon, hfo, ha3⟩ := id hdd
 simp only at hfl hdr hor hnew zs z18 z19 hgs hon hfo ha3 ⊢
 simp -dsimp -implicitDefEqProofs only [go_sem, ↓reduceIte, Tryz.f46, bL, bX, bM, bB, bW, bA, aC, aL, Option.toArray_none, Option.toArray_some, List.filterMap_cons, List.filterMap_nil, List.elem_cons_self, List.nil_append, List.append_nil, List.toList_toArray]
 refine ⟨fun hlt => ⟨by decide, by decide, ?_⟩, fun hge => ⟨jH .., ?_⟩⟩
 ·refine aH.eM (bG5 (a := a3) (sd := y6) hc hl (by omega) aD5 true (by decide) (by decide) (aG ..)) ?_
  rintro r_ h' ⟨w, a4, sd4, rfl, hw, ha4, rfl⟩
  rw [aM]
  simp -dsimp -implicitDefEqProofs only [go_sem, ↓reduceIte, Tryz.f46, bL, bX, bM, bB, bW, bA, aC, aL, Option.toArray_none, Option.toArray_some, List.filterMap_cons, List.filterMap_nil, List.elem_cons_self, List.nil_append, List.append_nil, List.toList_toArray]
  first | refine aH.mk ((aFK 4 fs.length (by omega) (by omega) (by omega))) ?_ | refine aF.mk ((aFK 4 fs.length (by omega) (by omega) (by omega))) ?_ | refine aH.bY ((aFK 4 fs.length (by omega) (by omega) (by omega))) ?_ | refine aF.mk (bQ.fJ ((aFK 4 fs.length (by omega) (by omega) (by omega)))) ?_
  simp -dsimp -implicitDefEqProofs only [go_sem, ↓reduceIte, Tryz.f46, bL, bX, bM, bB, bW, bA, aC, aL, Option.toArray_none, Option.toArray_some, List.filterMap_cons, List.filterMap_nil, List.elem_cons_self, List.nil_append, List.append_nil, List.toList_toArray]
  refine ⟨by have := aCH (k := fs.length) (by omega); obtain ⟨c5, e5, -, -⟩ := this; have : w.length ≤ 4 := (by simp only [aD5, List.mem_cons, List.not_mem_nil, or_false] at hw; rcases hw with rfl | rfl | rfl | rfl <;> decide); rw [e5]; simp only [List.length_singleton]; omega, ?_⟩
  refine aH.eM (mX (a := a4) (sd := sd4) hc hl (by omega) 3 (by omega) (aG ..)) ?_
  rintro r_ h' ⟨px, a5, sd5, rfl, x0, x1, -, ha5, rfl⟩
  have x1 := x1 (by omega)
  have wp : IntKind.i64.wrap (1 + px) = 1 + px := IntWalk.i64_in _ (by omega)
  rw [aM]
  simp -dsimp -implicitDefEqProofs only [go_sem, ↓reduceIte, Tryz.f46, bL, bX, bM, bB, bW, bA, aC, aL, Option.toArray_none, Option.toArray_some, List.filterMap_cons, List.filterMap_nil, List.elem_cons_self, List.nil_append, List.append_nil, List.toList_toArray, wp]
  intro nf qf
  have af : ¬ nf = ns := by grind
  have bf : ¬ nf = n8 := by grind
  have cf : ¬ nf = n9 := by grind
  have zf : cQ g1 (.row 3 (OV.cells es)) o nf = none := by grind
  have aCI : ¬ nf = ns := af
  have nS : ¬ ns = nf := Ne.symm aCI
  have bS : (nf = ns) = False := eq_false aCI
  have bT : (ns = nf) = False := eq_false nS
  have aFM : ¬ nf = n8 := bf
  have a3W : ¬ n8 = nf := Ne.symm aFM
  have nT : (nf = n8) = False := eq_false aFM
  have nU : (n8 = nf) = False := eq_false a3W
  have uM : ¬ nf = n9 := cf
  have uN : ¬ n9 = nf := Ne.symm uM
  have dU : (nf = n9) = False := eq_false uM
  have dV : (n9 = nf) = False := eq_false uN
  simp -dsimp -implicitDefEqProofs only [go_sem, ↓reduceIte, Tryz.f46, bL, bX, nU, bM, bB, bT, bW, bA, dV, nT, bS, dU, aC, aL, Option.toArray_none, Option.toArray_some, List.filterMap_cons, List.filterMap_nil, List.elem_cons_self, List.nil_append, List.append_nil, List.toList_toArray, wp, bO nS, aM]
  refine aH.eM (mX (a := a5) (sd := sd5) hc hl (by omega) 3 (by omega) (aG ..)) ?_
  rintro r_ h' ⟨py, a6, sd6, rfl, y0, y1, -, ha6, rfl⟩
  have y1 := y1 (by omega)
  have wq : IntKind.i64.wrap (1 + py) = 1 + py := IntWalk.i64_in _ (by omega)
  rw [aM]
  simp -dsimp -implicitDefEqProofs only [go_sem, ↓reduceIte, Tryz.f46, bL, bX, nU, bM, bB, bT, bW, bA, dV, nT, bS, dU, aC, aL, Option.toArray_none, Option.toArray_some, List.filterMap_cons, List.filterMap_nil, List.elem_cons_self, List.nil_append, List.append_nil, List.toList_toArray, wq]
  refine aH.eM (aL1 (a := a6) (sd := sd6) hc hl (by omega) 2 (by omega) (aG ..)) ?_
  rintro r_ h' ⟨b, a7, sd7, rfl, ha7, rfl⟩
  rw [aM]
  generalize hnm : w ++ Go.Lib.itoa fs.length = nm
  generalize hpar : 1 + px = par at *
  apply aL7
  case m =>
   intro key
   cases b
   ·simp -dsimp -implicitDefEqProofs only [go_sem, ↓reduceIte, Tryz.f46, bL, bX, nU, bM, bB, bT, bW, bA, dV, nT, bS, dU, aC, aL, Option.toArray_none, Option.toArray_some, List.filterMap_cons, List.filterMap_nil, List.elem_cons_self, List.nil_append, List.append_nil, List.toList_toArray]
    refine dA (keep := aL9) (ib := a3U) (mk := a3V) mix (by kernel_rfl) (fun x : ISt => [(0, .op ns 3 0 0), (1, I n), (2, I L0), (3, .bool pl), (8, .op n8 1 0 0), (9, .op n9 1 0 0), (10, I fs.length), (11, .op nf 3 0 0), (12, I x.1), (13, I x.2.1)]) (fun x => aT (aT (cQ x.2.2.2.2.1 (.row 5 (OV.cells x.2.2.2.1)) x.2.2.2.2.2.1) nf (.row 3 [[.v (.str nm), .v (I par), .v (gQ 5 x.2.1 x.2.2.2.2.2.1)]])) ns (iM c x.2.2.2.2.2.2.1 x.2.2.2.2.2.2.2)) (fun x => aJX fs par a7 (aT (aT (cQ g1 (.row 3 (OV.cells es)) o) n8 (.row 1 [[.v .bI]])) n9 (.row 1 [[.v (gQ 3 fs.length o)]])) ns nf x) (fun x => x.1.toNat - x.2.1) ((1 + py), 0, [], [], aT (aT (cQ g1 (.row 3 (OV.cells es)) o) n8 (.row 1 [[.v .bI]])) n9 (.row 1 [[.v (gQ 3 fs.length o)]]), none, a7, sd7) ⟨by simp [dF, b6], aA.le_refl _, by omega, by omega, rfl, trivial, fM.nil _, ⟨by rw [aC _ _ _ _ eK, aC _ _ _ _ gH]; exact iK zs fun m e => (hon m e).1, by rw [aC _ _ _ _ uM, aC _ _ _ _ aFM]; exact zf⟩, rfl, (fun m e => by cases e), (fun e h => by cases h), by simp⟩ ?_
    exact key.get
   ·simp -dsimp -implicitDefEqProofs only [go_sem, ↓reduceIte, Tryz.f46, bL, bX, nU, bM, bB, bT, bW, bA, dV, nT, bS, dU, aC, aL, Option.toArray_none, Option.toArray_some, List.filterMap_cons, List.filterMap_nil, List.elem_cons_self, List.nil_append, List.append_nil, List.toList_toArray]
    refine dA (keep := aL9) (ib := a3U) (mk := a3V) mix (by kernel_rfl) (fun x : ISt => [(0, .op ns 3 0 0), (1, I n), (2, I L0), (3, .bool pl), (8, .op n8 1 0 0), (9, .op n9 1 0 0), (10, I fs.length), (11, .op nf 3 0 0), (12, I x.1), (13, I x.2.1)]) (fun x => aT (aT (cQ x.2.2.2.2.1 (.row 5 (OV.cells x.2.2.2.1)) x.2.2.2.2.2.1) nf (.row 3 [[.v (.str nm), .v (I par), .v (gQ 5 x.2.1 x.2.2.2.2.2.1)]])) ns (iM c x.2.2.2.2.2.2.1 x.2.2.2.2.2.2.2)) (fun x => aJX fs par a7 (aT (aT (cQ g1 (.row 3 (OV.cells es)) o) n8 (.row 1 [[.v .bI]])) n9 (.row 1 [[.v (gQ 3 fs.length o)]])) ns nf x) (fun x => x.1.toNat - x.2.1) (par, 0, [], [], aT (aT (cQ g1 (.row 3 (OV.cells es)) o) n8 (.row 1 [[.v .bI]])) n9 (.row 1 [[.v (gQ 3 fs.length o)]]), none, a7, sd7) ⟨by simp [dF, b6], aA.le_refl _, by omega, by omega, rfl, trivial, fM.nil _, ⟨by rw [aC _ _ _ _ eK, aC _ _ _ _ gH]; exact iK zs fun m e => (hon m e).1, by rw [aC _ _ _ _ uM, aC _ _ _ _ aFM]; exact zf⟩, rfl, (fun m e => by cases e), (fun e h => by cases h), by simp⟩ ?_
    exact key.get
  case t =>
   rintro ⟨cnt, i, outs, eo, g2, oo, a8, sd8⟩ hii
   obtain ⟨hcnt, hi, hol, aAZ, aRA, ⟨ws, wf⟩, rT, aD6, hgd, ha8⟩ := id hii
   simp only at hcnt hi hol aAZ aRA ws wf rT aD6 hgd ha8 ⊢
   simp -dsimp -implicitDefEqProofs only [go_sem, ↓reduceIte, Tryz.f46, bL, bX, nU, bM, bB, bT, bW, bA, dV, nT, bS, dU, aC, aL, Option.toArray_none, Option.toArray_some, List.filterMap_cons, List.filterMap_nil, List.elem_cons_self, List.nil_append, List.append_nil, List.toList_toArray]
   have hkeep : ∀ q R S, (aT (aT (cQ g1 (.row 3 (OV.cells es)) o) n8 (.row 1 [[.v .bI]])) n9 (.row 1 [[.v (gQ 3 fs.length o)]])) q = some R → cQ g2 S oo q = some R := fun q R S hq => by
    have h2 := aRA.keep hq
    cases oo with
    |none => exact h2
    |some m5 =>
     rw [iJ] at rT
     rw [aJ, aC _ _ _ _ (fun e => by rw [e, rT] at h2; cases h2)]
     exact h2
   have hk9 := fun S => hkeep n9 _ S (aG ..)
   refine ⟨fun nD => ?_, fun aKZ => ?_⟩
   ·intro ng qg
    have an : ¬ ng = ns := by grind
    have bn : ¬ ng = nf := by grind
    have zn : cQ g2 (.row 5 (OV.cells eo)) oo ng = none := by grind
    have gW : ¬ ng = ns := an
    have iH : ¬ ns = ng := Ne.symm gW
    have bG : (ng = ns) = False := eq_false gW
    have bF : (ns = ng) = False := eq_false iH
    have xG : ¬ ng = nf := bn
    have aMA : ¬ nf = ng := Ne.symm xG
    have kY : (ng = nf) = False := eq_false xG
    have kZ : (nf = ng) = False := eq_false aMA
    have zof : cQ g2 (.row 5 (OV.cells eo)) oo nf = none := iK wf fun m e => (aD6 m e).2
    have hpr : aAW ⟨fs⟩ n9 (aT (cQ g2 (.row 5 (OV.cells eo)) oo) nf (.row 3 [[.v (.str nm), .v (I par), .v (gQ 5 i oo)]])) := by
     refine ⟨es, o, hor, ?_, hfo, fun m e => ?_⟩
     ·rw [aC _ _ _ _ uN]; exact hk9 _
     ·have hm := hon m e
      subst e
      have h3 := hkeep m (.row 3 (OV.cells es)) (.row 5 (OV.cells eo)) (by rw [aC _ _ _ _ hm.2.2, aC _ _ _ _ hm.2.1, aJ, aG])
      rw [aC _ _ _ _ (fun q => by rw [q, zof] at h3; cases h3)]
      exact h3
    simp -dsimp -implicitDefEqProofs only [go_sem, ↓reduceIte, Tryz.f46, bT, bF, bS, kZ, bG, kY, aC, aL, Option.toArray_none, Option.toArray_some, List.filterMap_cons, List.filterMap_nil, List.elem_cons_self, List.nil_append, List.append_nil, List.toList_toArray, kK]
    rw [show ∀ H : aA, aT H ng (cB.row 4 [[Cell.v (aD.op ns 3 0 0), Cell.v (aD.op n9 1 0 0), Cell.v (I L0), Cell.v (aD.bool pl)]]) = aT H ng (kK ns n9 L0 pl) from fun _ => rfl]
    refine aH.eM (bG8 hc hl iH hdr.aTP (by simp only [aE.aI]; omega) 5 par _ a8 sd8 L0 (by rw [aC _ _ _ _ nS]; exact iK ws fun m e => (aD6 m e).1) (by rw [aC _ _ _ _ xG]; exact zn) hpr ⟨by omega, by omega, by omega⟩) ?_
    rintro r_ h' ⟨x5, e5, g', a9, sd9, L9, hx, rfl, aRB, ⟨v1, v2⟩, rfl, uX, hd5, hL9, ha9⟩
    obtain ⟨g4, rfl, w4, z4f⟩ := fM.under zof aRB
    simp only [aL, bT, bF, bS, kZ, bG, kY, if_false] at v1 v2
    have hx5 := hx
    rw [aB.rU] at hx
    obtain ⟨y4, rfl, xV⟩ := hx
    have aY9 : x5.s ≤ 39 := by have := hL9.2.2; omega
    cases oo with
    |none =>
     rw [jN] at rT
     subst rT
     obtain rfl : outs = [] := List.length_eq_zero_iff.1 aAZ.length
     obtain rfl : i = 0 := hol.symm
     simp only [aQ, iY] at *
     simp -dsimp -implicitDefEqProofs only [go_sem, ↓reduceIte, Tryz.f46, bT, bF, bS, kZ, bG, kY, aC, aL, Option.toArray_none, Option.toArray_some, List.filterMap_cons, List.filterMap_nil, List.elem_cons_self, List.nil_append, List.append_nil, List.toList_toArray, OV.fH, OV.cG, OV.jS, xV.flat, xV.one]
     have ht := eA []
     refine ⟨by decide, by decide, by decide, fun m qm => ?_⟩
     have am : ¬ m = ns := by grind
     have bm : ¬ m = nf := by grind
     have dm : g4 m = none := by grind
     have em : ¬ m = ng := by grind
     skip
     have eO : ¬ m = ns := am
     have fR : ¬ ns = m := Ne.symm eO
     have cT : (m = ns) = False := eq_false eO
     have cU : (ns = m) = False := eq_false fR
     have kB : ¬ m = nf := bm
     have o5 : ¬ nf = m := Ne.symm kB
     have eQ : (m = nf) = False := eq_false kB
     have eT : (nf = m) = False := eq_false o5
     have fX : ¬ m = ng := em
     have kA : ¬ ng = m := Ne.symm fX
     have iN : (m = ng) = False := eq_false fX
     have iO : (ng = m) = False := eq_false kA
     simp -dsimp -implicitDefEqProofs only [go_sem, ↓reduceIte, Tryz.f46, bT, bF, cU, bS, kZ, eT, bG, kY, iO, cT, eQ, iN, aC, aL, Option.toArray_none, Option.toArray_some, List.filterMap_cons, List.filterMap_nil, List.elem_cons_self, List.nil_append, List.append_nil, List.toList_toArray]
     refine ⟨(cnt, 0 + 1, [] ++ [x5], [] ++ [[.v (.int .i64 x5.aO), .v (.int .i64 x5.aX), .v (.int .i64 x5.cN), .v (.int .i64 x5.cA), y4]], g4, some m, a9, sd9), ⟨rfl, IntWalk.i64_in _ (by omega)⟩, ?_, hii.next nD hx5 w4 ⟨v1, z4f⟩ dm ⟨am, bm⟩ ⟨aY9, by omega, uX⟩ (by omega), by simp only; omega⟩
     intro q_
     simp only [aL, aJ, bE, gI, eA, cK, iQ, iR, OV.fH, OV.cG, OV.jS, List.nil_append, List.map_cons, List.map_nil, ht]
     grind
    |some m5 =>
     rw [iJ] at rT
     obtain ⟨g5, rfl, w5, z45⟩ := fM.under rT w4
     have k1 := (aD6 m5 rfl).1
     have k2 := (aD6 m5 rfl).2
     have k3 : ¬ m5 = ng := fun e => by rw [aJ, e, aG] at zn; cases zn
     have pX : ¬ m5 = ns := k1
     have sA : ¬ ns = m5 := Ne.symm pX
     have sB : (m5 = ns) = False := eq_false pX
     have sC : (ns = m5) = False := eq_false sA
     have pY : ¬ m5 = nf := k2
     have sD : ¬ nf = m5 := Ne.symm pY
     have sE : (m5 = nf) = False := eq_false pY
     have sF : (nf = m5) = False := eq_false sD
     have aCJ : ¬ m5 = ng := k3
     have aMB : ¬ ng = m5 := Ne.symm aCJ
     have xH : (m5 = ng) = False := eq_false aCJ
     have xI : (ng = m5) = False := eq_false aMB
     simp only [aJ, bE] at *
     simp -dsimp -implicitDefEqProofs only [go_sem, ↓reduceIte, Tryz.f46, bT, bF, sC, bS, kZ, sF, bG, kY, xI, sB, sE, xH, aC, aL, Option.toArray_none, Option.toArray_some, List.filterMap_cons, List.filterMap_nil, List.elem_cons_self, List.nil_append, List.append_nil, List.toList_toArray, OV.fH, OV.cG, OV.jS, xV.flat, xV.one, cK]
     simp only [aL, bT, bF, sC, bS, kZ, sF, bG, kY, xI, sB, sE, xH, if_false] at v1 v2 z4f
     have ht : List.take i (OV.cells eo) = OV.cells eo := List.take_of_length_le (by rw [cK]; have := aAZ.length; omega)
     refine ⟨by decide, by decide, by decide, by have := aAZ.length; omega, by omega, by omega, fun m qm => ?_⟩
     have am : ¬ m = ns := by grind
     have bm : ¬ m = nf := by grind
     have dm : g5 m = none := by grind
     have em : ¬ m = ng := by grind
     have fm : ¬ m = m5 := (by grind); have aRC := eq_false fm; have aRD := eq_false (Ne.symm fm); have a9T := fm; have a9U := Ne.symm fm
     have eO : ¬ m = ns := am
     have fR : ¬ ns = m := Ne.symm eO
     have cT : (m = ns) = False := eq_false eO
     have cU : (ns = m) = False := eq_false fR
     have kB : ¬ m = nf := bm
     have o5 : ¬ nf = m := Ne.symm kB
     have eQ : (m = nf) = False := eq_false kB
     have eT : (nf = m) = False := eq_false o5
     have fX : ¬ m = ng := em
     have kA : ¬ ng = m := Ne.symm fX
     have iN : (m = ng) = False := eq_false fX
     have iO : (ng = m) = False := eq_false kA
     simp -dsimp -implicitDefEqProofs only [go_sem, ↓reduceIte, Tryz.f46, bT, bF, cU, bS, kZ, eT, bG, kY, iO, cT, eQ, iN, aRC, eQ, iN, cT, aRD, sE, xH, sB, eT, sF, kZ, bS, iO, xI, kY, bG, cU, sC, bT, bF, aC, aL, Option.toArray_none, Option.toArray_some, List.filterMap_cons, List.filterMap_nil, List.elem_cons_self, List.nil_append, List.append_nil, List.toList_toArray]
     refine ⟨(cnt, i + 1, outs ++ [x5], eo ++ [[.v (.int .i64 x5.aO), .v (.int .i64 x5.aX), .v (.int .i64 x5.cN), .v (.int .i64 x5.cA), y4]], g5, some m, a9, sd9), ⟨rfl, IntWalk.i64_in _ (by omega)⟩, ?_, hii.next nD hx5 w5 ⟨v1, z4f⟩ dm ⟨am, bm⟩ ⟨aY9, by omega, uX⟩ (by omega), by simp only; omega⟩
     intro q_
     simp only [aL, aJ, bE, gI, eA, cK, iQ, iR, OV.fH, OV.cG, OV.jS, List.nil_append, List.map_cons, List.map_nil, ht]
     grind
   ·simp -dsimp -implicitDefEqProofs only [go_sem, ↓reduceIte, Tryz.f46, bL, bX, nU, bM, bB, bT, bW, bA, dV, nT, bS, dU, aC, aL, Option.toArray_none, Option.toArray_some, List.filterMap_cons, List.filterMap_nil, List.elem_cons_self, List.nil_append, List.append_nil, List.toList_toArray, hk9]
    refine ⟨by decide, by rw [jH]; rfl, ?_⟩
    cases oo with
    |none =>
     rw [jN] at rT
     subst rT
     have := aAZ.length
     simp at this
     rw [this] at hol
     simp at hol
     omega
    |some m5 =>
    have aRB := aBK (sz := 5) aRA rT
    have hgo := aGU aAZ (sz := 5) rT
    have hei : eo.length = i := by rw [← aAZ.length]; exact hol
    rw [iJ] at rT
    obtain ⟨k1, k2⟩ := aD6 m5 rfl
    have pX : ¬ m5 = ns := k1
    have sA : ¬ ns = m5 := Ne.symm pX
    have sB : (m5 = ns) = False := eq_false pX
    have sC : (ns = m5) = False := eq_false sA
    have pY : ¬ m5 = nf := k2
    have sD : ¬ nf = m5 := Ne.symm pY
    have sE : (m5 = nf) = False := eq_false pY
    have sF : (nf = m5) = False := eq_false sD
    simp only [aJ, bE, aGT] at *
    have aZA : (⟨nm, par, outs⟩ : aS).o [.v (.str nm), .v (I par), .sl m5 5 eo] := ⟨_, rfl, hgo⟩
    have hgood : aAY ⟨fs⟩ fs.length ⟨nm, par, outs⟩ := ⟨⟨w, hw, hnm.symm⟩, by simp only [aS.aZ]; omega, by simp only [aS.aW]; omega, hgd⟩
    have ws' : aT g2 m5 (.row 5 (OV.cells eo)) ns = none := by rw [aC _ _ _ _ sA]; exact ws
    have wf' : aT g2 m5 (.row 5 (OV.cells eo)) nf = none := by rw [aC _ _ _ _ sD]; exact wf
    have bMW := hk9 (.row 5 (OV.cells eo))
    clear hkeep
    generalize aT g2 m5 (.row 5 (OV.cells eo)) = g6 at *
    have hz8 : cQ g1 (.row 3 (OV.cells es)) o n8 = none := iK z18 fun m e => (hon m e).2.1
    have hz9 : cQ g1 (.row 3 (OV.cells es)) o n9 = none := iK z19 fun m e => (hon m e).2.2
    obtain ⟨g7, rfl, w7, z78, z79⟩ := fM.yJ hz8 (by rw [aC _ _ _ _ kG]; exact hz9) aRB
    simp only [aL, bL, bX, nU, bM, bB, bT, bW, bA, dV, nT, bS, dU, if_false] at ws' wf' z79
    cases o with
    |none =>
     rw [jN] at hgs
     subst hgs
     obtain rfl : fs = [] := List.length_eq_zero_iff.1 hor.length
     simp only [aQ, iY] at *
     simp -dsimp -implicitDefEqProofs only [go_sem, ↓reduceIte, Tryz.f46, bL, bX, nU, bM, bB, bT, bW, bA, dV, nT, bS, dU, aC, aL, Option.toArray_none, Option.toArray_some, List.filterMap_cons, List.filterMap_nil, List.elem_cons_self, List.nil_append, List.append_nil, List.toList_toArray]
     have ht := eA []
     refine ⟨by decide, fun m qm => ?_⟩
     have am : ¬ m = ns := by grind
     have bm : ¬ m = n8 := by grind
     have cm : ¬ m = n9 := by grind
     have em : ¬ m = nf := by grind
     have dm : g7 m = none := by grind
     skip
     have eO : ¬ m = ns := am
     have fR : ¬ ns = m := Ne.symm eO
     have cT : (m = ns) = False := eq_false eO
     have cU : (ns = m) = False := eq_false fR
     have iP : ¬ m = n8 := bm
     have l8 : ¬ n8 = m := Ne.symm iP
     have jY : (m = n8) = False := eq_false iP
     have jZ : (n8 = m) = False := eq_false l8
     have gL : ¬ m = n9 := cm
     have jQ : ¬ n9 = m := Ne.symm gL
     have dR : (m = n9) = False := eq_false gL
     have dT : (n9 = m) = False := eq_false jQ
     have kB : ¬ m = nf := em
     have o5 : ¬ nf = m := Ne.symm kB
     have eQ : (m = nf) = False := eq_false kB
     have eT : (nf = m) = False := eq_false o5
     simp -dsimp -implicitDefEqProofs only [go_sem, ↓reduceIte, Tryz.f46, bL, bX, nU, jZ, bM, bB, bT, cU, bW, bA, dV, dT, nT, bS, dU, eT, jY, cT, dR, eQ, aC, aL, Option.toArray_none, Option.toArray_some, List.filterMap_cons, List.filterMap_nil, List.elem_cons_self, List.nil_append, List.append_nil, List.toList_toArray]
     refine ⟨([] ++ [⟨nm, par, outs⟩], [] ++ [[.v (.str nm), .v (I par), .sl m5 5 eo]], g7, some m, a8, sd8), ?_, ?_, hdd.next hlt hgood aZA (by simpa only [OV.fD, OV.jG, OV.rO, List.nil_append, List.append_nil] using w7) ⟨ws', z78, z79⟩ dm ⟨am, bm, cm⟩ (by omega), by simp only [List.length_append, List.length_singleton]; omega⟩
     ·rw [IntWalk.i64_in _ (by first | omega | (simp only [List.length_nil]; omega))]
      simp only [List.length_append, List.length_singleton, List.length_nil]
      rfl
     ·intro q_
      simp only [aL, aJ, bE, gI, eA, cK, iQ, iR, OV.fH, OV.cG, OV.jS, OV.yK, List.nil_append, List.map_cons, List.map_nil, List.length_append, List.length_singleton, List.length_nil, hei, ht]
      grind
    |some m0 =>
     rw [iJ] at hgs
     obtain ⟨g8, rfl, w8, z80⟩ := fM.under hgs w7
     obtain ⟨k3, k4, k5⟩ := hon m0 rfl
     have jI : ¬ m0 = ns := k3
     have kX : ¬ ns = m0 := Ne.symm jI
     have gO : (m0 = ns) = False := eq_false jI
     have gP : (ns = m0) = False := eq_false kX
     have mZ : ¬ m0 = n8 := k4
     have nQ : ¬ n8 = m0 := Ne.symm mZ
     have j2 : (m0 = n8) = False := eq_false mZ
     have j3 : (n8 = m0) = False := eq_false nQ
     have m6 : ¬ m0 = n9 := k5
     have nR : ¬ n9 = m0 := Ne.symm m6
     have jC : (m0 = n9) = False := eq_false m6
     have jD : (n9 = m0) = False := eq_false nR
     simp only [aJ, bE] at *
     have k6 : ¬ m0 = nf := fun e => by rw [e, aG] at zf; cases zf
     have aCK : ¬ m0 = nf := k6
     have aMC : ¬ nf = m0 := Ne.symm aCK
     have uO : (m0 = nf) = False := eq_false aCK
     have uP : (nf = m0) = False := eq_false aMC
     simp only [aL, bL, bX, nU, j3, bM, bB, bT, gP, bW, bA, dV, jD, nT, bS, dU, uP, j2, gO, jC, uO, if_false] at ws' wf' z78 z79
     simp -dsimp -implicitDefEqProofs only [go_sem, ↓reduceIte, Tryz.f46, bL, bX, nU, j3, bM, bB, bT, gP, bW, bA, dV, jD, nT, bS, dU, uP, j2, gO, jC, uO, aC, aL, Option.toArray_none, Option.toArray_some, List.filterMap_cons, List.filterMap_nil, List.elem_cons_self, List.nil_append, List.append_nil, List.toList_toArray, cK]
     have ht : List.take fs.length (OV.cells es) = OV.cells es := List.take_of_length_le (by rw [cK]; have := hor.length; omega)
     refine ⟨by decide, by have := hor.length; omega, by omega, by omega, fun m qm => ?_⟩
     have am : ¬ m = ns := by grind
     have bm : ¬ m = n8 := by grind
     have cm : ¬ m = n9 := by grind
     have em : ¬ m = nf := by grind
     have dm : g8 m = none := by grind
     have fm : ¬ m = m0 := (by grind); have rR := eq_false fm; have rS := eq_false (Ne.symm fm); have aAX := fm; have aD4 := Ne.symm fm
     have eO : ¬ m = ns := am
     have fR : ¬ ns = m := Ne.symm eO
     have cT : (m = ns) = False := eq_false eO
     have cU : (ns = m) = False := eq_false fR
     have iP : ¬ m = n8 := bm
     have l8 : ¬ n8 = m := Ne.symm iP
     have jY : (m = n8) = False := eq_false iP
     have jZ : (n8 = m) = False := eq_false l8
     have gL : ¬ m = n9 := cm
     have jQ : ¬ n9 = m := Ne.symm gL
     have dR : (m = n9) = False := eq_false gL
     have dT : (n9 = m) = False := eq_false jQ
     have kB : ¬ m = nf := em
     have o5 : ¬ nf = m := Ne.symm kB
     have eQ : (m = nf) = False := eq_false kB
     have eT : (nf = m) = False := eq_false o5
     simp -dsimp -implicitDefEqProofs only [go_sem, ↓reduceIte, Tryz.f46, bL, bX, nU, jZ, bM, bB, bT, cU, bW, bA, dV, dT, nT, bS, dU, eT, jY, cT, dR, eQ, rR, jY, dR, eQ, cT, rS, j2, jC, uO, gO, jZ, j3, bX, nU, bL, dT, jD, bW, dV, bA, eT, uP, nT, dU, bS, cU, gP, bM, bB, bT, aC, aL, Option.toArray_none, Option.toArray_some, List.filterMap_cons, List.filterMap_nil, List.elem_cons_self, List.nil_append, List.append_nil, List.toList_toArray]
     refine ⟨(fs ++ [⟨nm, par, outs⟩], es ++ [[.v (.str nm), .v (I par), .sl m5 5 eo]], g8, some m, a8, sd8), ?_, ?_, hdd.next hlt hgood aZA (by simpa only [OV.fD, OV.jG, OV.rO, List.nil_append, List.append_nil] using w8) ⟨ws', z78, z79⟩ dm ⟨am, bm, cm⟩ (by omega), by simp only [List.length_append, List.length_singleton]; omega⟩
     ·rw [IntWalk.i64_in _ (by first | omega | (simp only [List.length_nil]; omega))]
      simp only [List.length_append, List.length_singleton, List.length_nil]
      rfl
     ·intro q_
      simp only [aL, aJ, bE, gI, eA, cK, iQ, iR, OV.fH, OV.cG, OV.jS, OV.yK, List.nil_append, List.map_cons, List.map_nil, List.length_append, List.length_singleton, List.length_nil, hei, ht]
      grind
 ·have hfe : es.length = fs.length := hor.length.symm
  refine ⟨_, _, Shift.of (Sub.refl _) ?_, fs, es, o, g1, a3, y6, by omega, hdr, hor, hnew, zs, hgs, fun m e => (hon m e).1, hfo, rfl, by omega, rfl⟩
  have y8 : cQ g1 (.row 3 (OV.cells es)) o n8 = none := iK z18 fun m e => (hon m e).2.1
  have y9 : cQ g1 (.row 3 (OV.cells es)) o n9 = none := iK z19 fun m e => (hon m e).2.2
  intro q_
  simp only [aL]
  grind
set_option maxRecDepth 100000
open Go.Proofs
set_option linter.unusedVariables false
set_option linter.unusedSimpArgs false
theorem Shift.own {h h' : aA} (e : List OV) (ho : qV h' (OV.b5 e)) (hl : h.le (kQ h' (bP (OV.b5 e)))) : Shift (.agg (e.map OV.val)) h' (.agg (e.map OV.sZ)) h := fun E w v R rx =>
 ⟨E, (Ev.kQ _).forget hl, (R.kQ _).forget hl, (fL.aN4 R e v ho (fun p hp => eW.2 ⟨p.2, hp⟩) rx).rG fun b hb => pF.le hl hb⟩
theorem a3Y {B g' : aA} {l : List (Nat × cB)} {ns : Nat} {X : cB} (w : fM B l g') (z : g' ns = none) : (aT B ns X).le (kQ (aT g' ns X) (bP l)) := fun m => by
 by_cases e : m = ns
 ·subst e
  have hn : m ∉ bP l := fun q => by
   obtain ⟨o, ho⟩ := eW.1 q
   have := w.pN _ ho
   simp only at this
   rw [z] at this; cases this
  rw [mO hn]; exact .inr (by rw [aG, aG])
 ·by_cases e2 : m ∈ bP l
  ·rw [aC _ _ _ _ e]; exact .inl (w.fresh m e2)
  ·rw [mO e2, aC _ _ _ _ e, aC _ _ _ _ e, w.upto m e2]; exact .inr rfl
theorem aZB {B g' : aA} {l : List (Nat × cB)} {ns : Nat} {X : cB} (w : fM B l g') (z : g' ns = none) : qV (aT g' ns X) l := fun p hp => by
 have := w.pN p hp
 rw [aC _ _ _ _ (fun e => by rw [e, z] at this; cases this)]; exact this
def aZC (l : List Int) : cB := .row 1 ((l.map fun n => [I n]).map (List.map .v))
theorem aVC (l : List Int) (x : Int) : aZC (l ++ [x]) = .row 1 (((l.map fun n => [I n]).map (List.map Cell.v)) ++ [[.v (I x)]]) := by simp [aZC]
@[go_sem] def aZD : List Nat := [0, 1, 4, 5, 6, 10]
@[go_sem] def bHC : List Nat := [7, 16]
@[go_sem] def bHD : Marks := fun _ => ([], .nil, [])
theorem rF {ns : Nat} {c : List Int} (hc : ∀ x ∈ c, InB x) (hl : c.length ≤ 4096) (size : Int) (hsz : size ≤ 1000) {B : aA} (hB : B ns = none) {a : Nat} (ha : a ≤ 800000000) {sd : Int} :
  fF Tryz.prog 49 [.op ns 3 0 0, I size] (aT B ns (iM c a sd)) fun r h' => ∃ l a' sd', l.length = size.toNat ∧ fG l ∧ r = ints l ∧ (a ≤ a' ∧ a' ≤ a + 8 * size.toNat) ∧ h' = aT B ns (iM c a' sd') := by
 refine gK 19 aZD bHC bHD mix Tryz.func49 rfl (by kernel_rfl) (by simp) ?_
 simp -dsimp -implicitDefEqProofs only [go_sem, ↓reduceIte, Tryz.f49]
 refine ⟨by decide, ?_⟩
 refine dA (keep := aZD) (ib := bHC) (mk := bHD) mix (by kernel_rfl) (fun x : List Int × Option Nat × Nat × Int => [(0, .op ns 3 0 0), (1, I size), (5, jM 1 x.1.length x.2.1), (6, I x.1.length)]) (fun x => aT (cQ B (aZC x.1) x.2.1) ns (iM c x.2.2.1 x.2.2.2)) (fun x => (x.1.length ≤ size.toNat ∧ fG x.1) ∧ gX B x.1 x.2.1 ∧ (∀ m, x.2.1 = some m → ¬ m = ns) ∧ (a ≤ x.2.2.1 ∧ x.2.2.1 ≤ a + 8 * x.1.length)) (fun x => size.toNat - x.1.length) ([], none, a, sd) ⟨by simp [dF, b6, jM], aA.le_refl _, ⟨Nat.zero_le _, fun x hx => by cases hx⟩, rfl, (fun m e => by cases e), by simp⟩ ?_
 rintro ⟨l, o, a1, sd1⟩ ⟨⟨hll, hnl⟩, hos, hon, ha1⟩
 simp only at hll hnl hos hon ha1 ⊢
 simp -dsimp -implicitDefEqProofs only [go_sem, ↓reduceIte, Tryz.f49]
 refine ⟨fun hlt => ?_, fun hge => ?_⟩
 ·refine aH.eM (a9J (a := a1) (sd := sd1) hc hl (by omega) (aG ..)) ?_
  rintro r_ h' ⟨x, a2, y5, rfl, hx, ha2, rfl⟩
  rw [aM]
  simp -dsimp -implicitDefEqProofs only [go_sem, ↓reduceIte, Tryz.f49]
  refine ⟨by decide, by decide, ?_⟩
  have hnx : fG (l ++ [x]) := fun y hy => by
   rcases List.mem_append.1 hy with hy | hy
   ·exact hnl y hy
   ·rw [List.mem_singleton.1 hy]; exact hx
  have hstep : (l ++ [x]).length = l.length + 1 := by simp
  cases o with
  |none =>
   rw [bH] at hos
   subst hos
   simp -dsimp -implicitDefEqProofs only [go_sem, ↓reduceIte, Tryz.f49, bU, aQ]
   refine ⟨by decide, fun n ⟨d1, z1⟩ => ⟨([x], some n, a2, y5), ⟨rfl, IntWalk.i64_in _ (by omega)⟩, ?_, ⟨⟨by simp only [List.length_singleton]; omega, hnx⟩, z1, fun m e => by cases e; exact d1, by show a ≤ a2 ∧ a2 ≤ a + 8 * 1; simp only [List.length_nil] at ha1; omega⟩, by simp only [List.length_singleton, List.length_nil] at hlt ⊢; omega⟩⟩
   simp only [aJ]
   rw [bO d1]
   exact aA.le_refl _
  |some m0 =>
   rw [aV] at hos
   have k1 := hon m0 rfl
   have jI : ¬ m0 = ns := k1
   have kX : ¬ ns = m0 := Ne.symm jI
   have gO : (m0 = ns) = False := eq_false jI
   have gP : (ns = m0) = False := eq_false kX
   simp -dsimp -implicitDefEqProofs only [go_sem, ↓reduceIte, Tryz.f49, aY, aJ, gO, gP, aC, aL, aZC]
   refine ⟨by decide, Nat.le_refl _, by omega, by omega, fun b hb => ?_⟩
   have b1 : ¬ b = ns := by grind
   have b2 : ¬ b = m0 := by grind
   have b3 : B b = none := by grind
   refine ⟨(l ++ [x], some b, a2, y5), ⟨by rw [hstep]; rfl, by rw [hstep, IntWalk.i64_in _ (by omega)]; rfl⟩, ?_, ⟨⟨by rw [hstep]; omega, hnx⟩, b3, fun m e => by cases e; exact b1, by show a ≤ a2 ∧ a2 ≤ a + 8 * (l ++ [x]).length; rw [hstep]; omega⟩, by show size.toNat - (l ++ [x]).length < _; rw [hstep]; omega⟩
   simp only [aJ]
   have hr := aVC l x
   unfold aZC at hr
   rw [List.take_of_length_le (by simp), hr]
   intro q_
   simp only [aL]
   grind
 ·have he : l.length = size.toNat := by omega
  cases o with
  |none =>
   rw [bH] at hos
   subst hos
   exact ⟨ints [], _, Shift.of (Sub.loose _ _ _) (aA.le_refl _), [], a1, sd1, he, hnl, rfl, by omega, rfl⟩
  |some m0 =>
   rw [aV] at hos
   have k1 := hon m0 rfl
   exact ⟨ints l, aT B ns (iM c a1 sd1), fQ l (by rw [aC _ _ _ _ k1]; exact hos) (by rw [aJ, bO k1]; exact aA.le_refl _) rfl, l, a1, sd1, he, hnl, rfl, by omega, rfl⟩
set_option maxRecDepth 100000
open Go.Proofs
set_option linter.unusedVariables false
set_option linter.unusedSimpArgs false
@[go_sem] def bHE : List Nat := [0, 2]
@[go_sem] def ib5 : List Nat := []
@[go_sem] def mk5 : Marks := fun _ => ([], .nil, [])
theorem a6C (c : List Int) : gV Tryz.prog 5 [.sl 1 (c.map fun n => [.int .u8 n]) false] (.bool (decide (4096 < c.length))) := by
 refine gD 6 bHE ib5 mk5 mix Tryz.func5 rfl (by kernel_rfl) (by simp) fun h => ?_
 simp -dsimp -implicitDefEqProofs only [go_sem, ↓reduceIte, Tryz.f5]
 exact fun _ => decide_eq_decide.2 (by omega)
@[go_sem] def aZE : List Nat := [0, 1, 4, 5, 10, 14, 25]
@[go_sem] def bHF : List Nat := []
@[go_sem] def bHG : Marks := fun id => match id with | 6 => ([], (.op 0 (.op 1 (.op 2 (.op 3 (.op 4 (.op 5 (.op 6 (.op 7 (.op 8 .nil))))))))), []) | _ => ([], .nil, [])
theorem a9W (a : List Int) (hl : a.length ≤ 1048576) : gV Tryz.prog 15 [ints a, ints a] (.bool true) := by
 refine gD 26 aZE bHF bHG mix Tryz.func15 rfl (by kernel_rfl) (by simp) fun h => ?_
 simp -dsimp -implicitDefEqProofs only [go_sem, ↓reduceIte, Tryz.f15]
 refine fun _ _ => ?_
 refine dA (keep := aZE) (ib := bHF) (mk := bHG) mix (by kernel_rfl) (fun k : Nat => [(0, ints a), (1, ints a), (5, I k)]) (fun _ => h) (fun k => k ≤ a.length) (fun k => a.length - k) 0 ⟨by simp [dF, b6], aA.le_refl _, Nat.zero_le _⟩ ?_
 intro k hk
 rcases Nat.lt_or_ge k a.length with hlt | hge
 ·have ea : a[k]? = some a[k] := List.getElem?_eq_getElem hlt
  simp -dsimp -implicitDefEqProofs only [go_sem, ↓reduceIte, Tryz.f15, hlt, ea]
  exact fun _ => ⟨k + 1, IntWalk.i64_in _ (by omega), hlt, by omega⟩
 ·obtain rfl : k = a.length := by omega
  simp -dsimp -implicitDefEqProofs only [go_sem, ↓reduceIte, Tryz.f15, Nat.lt_irrefl, Int.lt_irrefl]
@[go_sem] def a9X : List Nat := [0, 1, 2, 3, 4]
@[go_sem] def bMY : List Nat := [2, 3]
@[go_sem] def bMZ : Marks := fun _ => ([], .nil, [])
theorem a3Z (x : lI) (hl : x.vH.length ≤ 1048576) : gV Tryz.prog 12 [.agg x.c, .agg x.c] (.bool true) := by
 have hs := a9W x.vH hl
 simp only [lI.aR]
 refine gD 24 a9X bMY bMZ mix Tryz.func12 rfl (by kernel_rfl) (by simp) fun h => ?_
 simp -dsimp -implicitDefEqProofs only [go_sem, ↓reduceIte, Tryz.f12]
 first | refine aH.mk (hs) ?_ | refine aF.mk (hs) ?_ | refine aH.bY (hs) ?_ | refine aF.mk (bQ.fJ (hs)) ?_
 simp -dsimp -implicitDefEqProofs only [go_sem, ↓reduceIte, Tryz.f12]
@[go_sem] def a9Y : List Nat := [0, 2]
@[go_sem] def bM0 : List Nat := []
@[go_sem] def bM1 : Marks := fun _ => ([], .nil, [])
theorem aZF (c : List Int) {g : aA} : fF Tryz.prog 21 [.sl 1 (c.map fun n => [.int .u8 n]) false] g fun r h' => ∃ ns, r = .op ns 3 0 0 ∧ g ns = none ∧ h' = aT g ns (iM c 0 0) := by
 refine aBJ 6 a9Y bM0 bM1 mix Tryz.func21 rfl (by kernel_rfl) (by simp) ?_
 simp -dsimp -implicitDefEqProofs only [go_sem, ↓reduceIte, Tryz.f21]
 intro n q
 exact ⟨_, aA.le_refl _, n, rfl, q, rfl⟩
@[go_sem] def bHH : List Nat := [0, 1, 4, 5]
@[go_sem] def ib7 : List Nat := []
@[go_sem] def mk7 : Marks := fun _ => ([], .nil, [])
theorem aZG {c : List Int} (hc : ∀ x ∈ c, InB x) (hl : c.length ≤ 4096) (n : Int) (hn : n ≤ 100000) {g : aA} : fF Tryz.prog 7 [.sl 1 (c.map fun n => [.int .u8 n]) false, I n] g fun r h' => ∃ x, r = I x ∧ 0 ≤ x ∧ (1 ≤ n → x < n) ∧ (n ≤ 1 → x = 0) ∧ h' = g := by
 refine aBJ 11 bHH ib7 mk7 mix Tryz.func7 rfl (by kernel_rfl) (by simp) ?_
 simp -dsimp -implicitDefEqProofs only [go_sem, ↓reduceIte, Tryz.f7]
 refine aH.eM (aZF c) ?_
 rintro r_ h' ⟨ns, rfl, hns, rfl⟩
 simp -dsimp -implicitDefEqProofs only [go_sem, ↓reduceIte, Tryz.f7]
 refine aH.eM (mX (a := 0) (sd := 0) hc hl (by omega) n hn (aG ..)) ?_
 rintro r_ h' ⟨x, a', sd', rfl, x0, x1, x2, ha', rfl⟩
 simp -dsimp -implicitDefEqProofs only [go_sem, ↓reduceIte, Tryz.f7]
 rw [aM]
 exact ⟨g, aA.aP hns (aA.le_refl _), x, rfl, x0, x1, x2, rfl⟩
end Go.Hl

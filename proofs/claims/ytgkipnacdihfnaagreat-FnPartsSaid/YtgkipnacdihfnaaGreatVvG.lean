/-
  Contracts of functions and laws of the layer over the walk.
-/
import Derived.Test.YtgkipnacdihfnaaGreatVvF
import Derived.Test.YtgkipnacdihfnaaGreatVvB
namespace Go.Hl
set_option maxRecDepth 100000
open Go.Proofs
set_option linter.unusedVariables false
set_option linter.unusedSimpArgs false
def pU (x : bQ) (k inp : Int) : Prop :=
 (x.j0 = 1 ∧ x.fA = 0 ∧ x.fB = 0 ∧ 0 ≤ x.bC ∧ x.bC ≤ inp - 1) ∨ (x.j0 = 2 ∧ x.fA = 0 ∧ x.fB = 0 ∧ jA x.bC) ∨
 ((3 ≤ x.j0 ∧ x.j0 ≤ 6) ∧ x.bC = 0 ∧ (0 ≤ x.fA ∧ x.fA ≤ k - 1) ∧ (0 ≤ x.fB ∧ x.fB ≤ k - 1)) ∨ (x.j0 = 7 ∧ x.bC = 0 ∧ x.fB = 0 ∧ 0 ≤ x.fA ∧ x.fA ≤ k - 1)
instance (x : bQ) (k inp : Int) : Decidable (pU x k inp) := by unfold pU jA; infer_instance
def aL4 (s : Int) (l : List Int) : Prop := ∀ r ∈ l, 0 ≤ r ∧ r ≤ s - 1
instance (s : Int) (l : List Int) : Decidable (aL4 s l) := by unfold aL4; infer_instance
def aT0 (s : Int) (l : List gI) : Prop := ∀ g ∈ l, 0 ≤ g.aIZ ∧ g.aIZ ≤ s - 1
instance (s : Int) (l : List gI) : Decidable (aT0 s l) := by unfold aT0; infer_instance
def aCS (inp : Int) (l : List bQ) : Prop := ∀ (k : Nat) (h : k < l.length), pU l[k] k inp
instance (inp : Int) (l : List bQ) : Decidable (aCS inp l) := by unfold aCS; infer_instance
structure jS.ok (t : jS) : Prop where
 inp : 0 ≤ t.dH ∧ t.dH ≤ 12
 lens : t.aS.length ≤ 3200 ∧ t.iC.length ≤ 3200 ∧ 1 ≤ t.aQ.length ∧ t.aQ.length ≤ 12
 code : aCS t.dH t.aS
 gds : aT0 t.aS.length t.iC
 outs : aL4 t.aS.length t.aQ
theorem jS.dB (t : jS) : t.ok ↔ (0 ≤ t.dH ∧ t.dH ≤ 12) ∧ (t.aS.length ≤ 3200 ∧ t.iC.length ≤ 3200 ∧ 1 ≤ t.aQ.length ∧ t.aQ.length ≤ 12) ∧ aCS t.dH t.aS ∧ aT0 t.aS.length t.iC ∧ aL4 t.aS.length t.aQ :=
 ⟨fun ⟨a, b, c, d, e⟩ => ⟨a, b, c, d, e⟩, fun ⟨a, b, c, d, e⟩ => ⟨a, b, c, d, e⟩⟩
instance (t : jS) : Decidable t.ok := decidable_of_iff _ t.dB.symm
@[go_sem] def a4E : List Nat := [0, 1, 2, 3, 4, 6, 8, 9, 27, 42, 64]
@[go_sem] def bI7 : List Nat := [3, 4]
@[go_sem] def bI8 : Marks := fun _ => ([], .nil, [])
theorem a4F (t : jS) (x : bQ) (k : Int) (hk : 0 ≤ k ∧ k ≤ 3200) (hi : 0 ≤ t.dH ∧ t.dH ≤ 12) : fL Tryz.prog 153 [.agg t.c, .agg x.c, I k] (.bool (decide (pU x k t.dH))) := by
 rw [bQ.aU, jS.aU]
 have ek : IntKind.i64.wrap (k - 1) = k - 1 := IntWalk.i64_in _ (by omega)
 have ei : IntKind.i64.wrap (t.dH - 1) = t.dH - 1 := IntWalk.i64_in _ (by omega)
 refine fT 81 a4E bI7 bI8 mix Tryz.func153 rfl (by kernel_rfl) (by simp) fun h => ?_
 simp -dsimp -implicitDefEqProofs only [go_sem, ↓reduceIte, Tryz.f153, ek, ei]
 repeat' (with_reducible first | intro _ | refine And.intro ?_ ?_)
 all_goals first
  |exact (decide_eq_false (by unfold pU jA; omega)).symm
  |skip
   first | refine aH.mk (within x.bC 0 (t.dH - 1)) ?_ | refine aF.mk (within x.bC 0 (t.dH - 1)) ?_ | refine aH.bS (within x.bC 0 (t.dH - 1)) ?_ | refine aF.mk (bM.eQ (within x.bC 0 (t.dH - 1))) ?_
   simp -dsimp -implicitDefEqProofs only [go_sem, ↓reduceIte, Tryz.f153]
   exact decide_eq_decide.2 (by unfold pU jA; omega)
  |skip
   first | refine aH.mk (mK x.bC) ?_ | refine aF.mk (mK x.bC) ?_ | refine aH.bS (mK x.bC) ?_ | refine aF.mk (bM.eQ (mK x.bC)) ?_
   simp -dsimp -implicitDefEqProofs only [go_sem, ↓reduceIte, Tryz.f153]
   exact decide_eq_decide.2 (by unfold pU jA; omega)
  |skip
   first | refine aH.mk (within x.fA 0 (k - 1)) ?_ | refine aF.mk (within x.fA 0 (k - 1)) ?_ | refine aH.bS (within x.fA 0 (k - 1)) ?_ | refine aF.mk (bM.eQ (within x.fA 0 (k - 1))) ?_
   simp -dsimp -implicitDefEqProofs only [go_sem, ↓reduceIte, Tryz.f153]
   exact decide_eq_decide.2 (by unfold pU jA; omega)
  |skip
   first | refine aH.mk (within x.fA 0 (k - 1)) ?_ | refine aF.mk (within x.fA 0 (k - 1)) ?_ | refine aH.bS (within x.fA 0 (k - 1)) ?_ | refine aF.mk (bM.eQ (within x.fA 0 (k - 1))) ?_
   simp -dsimp -implicitDefEqProofs only [go_sem, ↓reduceIte, Tryz.f153]
   refine ⟨fun q => ?_, fun q => (decide_eq_false (by unfold pU jA; omega)).symm⟩
   rw [ek]
   first | refine aH.mk (within x.fB 0 (k - 1)) ?_ | refine aF.mk (within x.fB 0 (k - 1)) ?_ | refine aH.bS (within x.fB 0 (k - 1)) ?_ | refine aF.mk (bM.eQ (within x.fB 0 (k - 1))) ?_
   simp -dsimp -implicitDefEqProofs only [go_sem, ↓reduceIte, Tryz.f153]
   first
   |exact decide_eq_decide.2 (by unfold pU jA; omega)
   |exact ⟨fun q => decide_eq_decide.2 (by unfold pU jA; omega), fun q => (decide_eq_false (by unfold pU jA; omega)).symm⟩
  |skip
   first | refine aH.mk (within x.fA 0 (k - 1)) ?_ | refine aF.mk (within x.fA 0 (k - 1)) ?_ | refine aH.bS (within x.fA 0 (k - 1)) ?_ | refine aF.mk (bM.eQ (within x.fA 0 (k - 1))) ?_
   simp -dsimp -implicitDefEqProofs only [go_sem, ↓reduceIte, Tryz.f153]
   refine ⟨fun q => ?_, fun q => (decide_eq_false (by unfold pU jA; omega)).symm⟩
   first
   |exact decide_eq_decide.2 (by unfold pU jA; omega)
   |exact ⟨fun q => decide_eq_decide.2 (by unfold pU jA; omega), fun q => (decide_eq_false (by unfold pU jA; omega)).symm⟩
  |skip
   first | refine aH.mk (within x.fA 0 (k - 1)) ?_ | refine aF.mk (within x.fA 0 (k - 1)) ?_ | refine aH.bS (within x.fA 0 (k - 1)) ?_ | refine aF.mk (bM.eQ (within x.fA 0 (k - 1))) ?_
   simp -dsimp -implicitDefEqProofs only [go_sem, ↓reduceIte, Tryz.f153]
   refine ⟨fun q => ?_, fun q => (decide_eq_false (by unfold pU jA; omega)).symm⟩
   rw [ek]
   first | refine aH.mk (within x.fB 0 (k - 1)) ?_ | refine aF.mk (within x.fB 0 (k - 1)) ?_ | refine aH.bS (within x.fB 0 (k - 1)) ?_ | refine aF.mk (bM.eQ (within x.fB 0 (k - 1))) ?_
   simp -dsimp -implicitDefEqProofs only [go_sem, ↓reduceIte, Tryz.f153]
   trace_state
   sorry
@[go_sem] def a4G : List Nat := [0, 1, 3]
@[go_sem] def bI9 : List Nat := []
@[go_sem] def bJA : Marks := fun _ => ([], .nil, [])
theorem aRI (r c : Int) (hc : 0 ≤ c ∧ c ≤ 3200) (n : Nat) {h0 : aB} (hn : h0 n = some (.row 1 [[.v (I c)]])) : bM Tryz.prog 154 [I r, .op n 1 0 0] (.bool (!decide (0 ≤ r ∧ r ≤ c - 1))) h0 := by
 have hg (h : aB) (hle : h0.le h) := aB.aG4 hle hn
 have e1 : IntKind.i64.wrap (c - 1) = c - 1 := IntWalk.i64_in _ (by omega)
 refine aB0 9 a4G bI9 bJA mix Tryz.func154 rfl (by kernel_rfl) (by simp) fun h hle => ?_
 simp -dsimp -implicitDefEqProofs only [go_sem, ↓reduceIte, Tryz.f154]
 have hn' := hg h hle
 simp -dsimp -implicitDefEqProofs only [go_sem, ↓reduceIte, Tryz.f154, hn', e1]
 first | refine aH.mk (within r 0 (c - 1)) ?_ | refine aF.mk (within r 0 (c - 1)) ?_ | refine aH.bS (within r 0 (c - 1)) ?_ | refine aF.mk (bM.eQ (within r 0 (c - 1))) ?_
 simp -dsimp -implicitDefEqProofs only [go_sem, ↓reduceIte, Tryz.f154]
@[go_sem] def aL5 : List Nat := [0, 1, 2, 3, 4, 5, 7, 30, 35, 36, 37, 38, 46, 49, 50, 51, 52, 60]
@[go_sem] def aZO : List Nat := [1]
@[go_sem] def aZP : Marks := fun _ => ([], .nil, [])
theorem aVR (t : jS) (hc : t.aS.length ≤ 1048576) (hg : t.iC.length ≤ 1048576) (ho : t.aQ.length ≤ 1048576) : fL Tryz.prog 128 [.agg t.c] (.bool (decide t.ok)) := by
 have no : ¬ t.ok → false = decide t.ok := fun q => (decide_eq_false q).symm
 rw [jS.aU]
 refine fT 67 aL5 aZO aZP mix Tryz.func128 rfl (by kernel_rfl) (by simp) fun h => ?_
 simp -dsimp -implicitDefEqProofs only [go_sem, ↓reduceIte, Tryz.f128]
 first | refine aH.mk (within t.dH 0 12) ?_ | refine aF.mk (within t.dH 0 12) ?_ | refine aH.bS (within t.dH 0 12) ?_ | refine aF.mk (bM.eQ (within t.dH 0 12)) ?_
 simp -dsimp -implicitDefEqProofs only [go_sem, ↓reduceIte, Tryz.f128]
 repeat' (with_reducible first | intro _ | refine And.intro ?_ ?_)
 ·first | refine aH.mk (within t.aQ.length 1 12) ?_ | refine aF.mk (within t.aQ.length 1 12) ?_ | refine aH.bS (within t.aQ.length 1 12) ?_ | refine aF.mk (bM.eQ (within t.aQ.length 1 12)) ?_
  simp -dsimp -implicitDefEqProofs only [go_sem, ↓reduceIte, Tryz.f128]
  repeat' (with_reducible first | intro _ | refine And.intro ?_ ?_)
  ·exact no fun q => by have := q.lens; omega
  rename_i n hn _
  have e1 : IntKind.i64.wrap ((t.aS.length : Int) - 1) = t.aS.length - 1 := IntWalk.i64_in _ (by omega)
  rw [aK]
  refine cS (keep := aL5) (ib := aZO) (mk := aZP) mix (by kernel_rfl) (fun k : Nat => [(1, .ip 4 [[I t.dH, eZ 4 bQ.c t.aS, eZ 2 gI.c t.iC, ints t.aQ]] 0 0), (3, .op n 1 0 0), (35, eZ 4 bQ.c t.aS), (36, I t.aS.length), (37, I k)]) (fun _ => aR h n (.row 1 [[.v (I t.aS.length)]])) (fun k => k ≤ t.aS.length ∧ ∀ (j : Nat) (hj : j < t.aS.length), j < k → pU t.aS[j] j t.dH) (fun k => t.aS.length - k) 0 (by simp [cV, bZ, aB.le_refl]) ?_
  intro k ⟨hk, hp⟩
  rcases Nat.lt_or_ge k t.aS.length with hlt | hge
  ·have ea : t.aS[k]? = some t.aS[k] := List.getElem?_eq_getElem hlt
   have hins := a4F t t.aS[k] k (by omega) (by omega)
   rw [bQ.aU, jS.aU] at hins
   simp -dsimp -implicitDefEqProofs only [go_sem, ↓reduceIte, Tryz.f128, ea, bQ.aU]
   repeat' (with_reducible first | intro _ | refine And.intro ?_ ?_)
   all_goals try omega
   rename_i b hbb
   have hle : ∀ X, (aR h n (.row 1 [[.v (I t.aS.length)]])).le (aR (aR h n (.row 1 [[.v (I t.aS.length)]])) b X) := fun X => aB.aY (by rw [aA _ _ _ _ hbb.1]; exact hbb.2) (aB.le_refl _)
   have aL6 : ∀ X, h.le (aR (aR h n (.row 1 [[.v (I t.aS.length)]])) b X) := fun X => aB.le_trans (aB.aY hn (aB.le_refl _)) (hle X)
   rw [aK]
   first | refine aH.mk (hins) ?_ | refine aF.mk (hins) ?_ | refine aH.bS (hins) ?_ | refine aF.mk (bM.eQ (hins)) ?_
   simp -dsimp -implicitDefEqProofs only [go_sem, ↓reduceIte, Tryz.f128]
   refine ⟨fun hq => ⟨no fun q => hq (q.code k hlt), aL6 _⟩, fun hq => ⟨k + 1, IntWalk.i64_in _ (by omega), hle _, ⟨by omega, ?_⟩, by omega⟩⟩
   intro j hj hjk
   rcases Nat.lt_succ_iff_lt_or_eq.1 hjk with z | rfl
   ·exact hp j hj z
   ·exact hq
  have hk' : k = t.aS.length := by omega
  subst hk'
  have hcode : aCS t.dH t.aS := fun j hj => hp j hj hj
  simp -dsimp -implicitDefEqProofs only [go_sem, ↓reduceIte, Tryz.f128, Nat.lt_irrefl]
  intro _
  refine cS (keep := aL5) (ib := aZO) (mk := aZP) mix (by kernel_rfl) (fun k : Nat => [(1, .ip 4 [[I t.dH, eZ 4 bQ.c t.aS, eZ 2 gI.c t.iC, ints t.aQ]] 0 0), (3, .op n 1 0 0), (49, eZ 2 gI.c t.iC), (50, I t.iC.length), (51, I k)]) (fun _ => aR h n (.row 1 [[.v (I t.aS.length)]])) (fun k => k ≤ t.iC.length ∧ ∀ g ∈ t.iC.take k, 0 ≤ g.aIZ ∧ g.aIZ ≤ (t.aS.length : Int) - 1) (fun k => t.iC.length - k) 0 (by simp [cV, bZ, aB.le_refl]) ?_
  intro k ⟨hk2, hp2⟩
  rcases Nat.lt_or_ge k t.iC.length with hlt | hge
  ·have ea : t.iC[k]? = some t.iC[k] := List.getElem?_eq_getElem hlt
   have hins := within t.iC[k].aIZ 0 (t.aS.length - 1)
   simp -dsimp -implicitDefEqProofs only [go_sem, ↓reduceIte, Tryz.f128, ea, gI.aU]
   repeat' (with_reducible first | intro _ | refine And.intro ?_ ?_)
   all_goals try omega
   rename_i b hbb
   have hle : ∀ X, (aR h n (.row 1 [[.v (I t.aS.length)]])).le (aR (aR h n (.row 1 [[.v (I t.aS.length)]])) b X) := fun X => aB.aY (by rw [aA _ _ _ _ hbb.1]; exact hbb.2) (aB.le_refl _)
   have aL6 : ∀ X, h.le (aR (aR h n (.row 1 [[.v (I t.aS.length)]])) b X) := fun X => aB.le_trans (aB.aY hn (aB.le_refl _)) (hle X)
   have nA : ¬ b = n := hbb.1
   have nP : ¬ n = b := Ne.symm nA
   have kH : (b = n) = False := eq_false nA
   have kI : (n = b) = False := eq_false nP
   rw [aK]
   simp -dsimp -implicitDefEqProofs only [go_sem, ↓reduceIte, Tryz.f128, kH, kI, aA, e1]
   first | refine aH.mk (hins) ?_ | refine aF.mk (hins) ?_ | refine aH.bS (hins) ?_ | refine aF.mk (bM.eQ (hins)) ?_
   simp -dsimp -implicitDefEqProofs only [go_sem, ↓reduceIte, Tryz.f128]
   refine ⟨fun hq => ⟨no fun q => hq (q.gds _ (List.getElem_mem hlt)), aL6 _⟩, fun hq => ⟨k + 1, IntWalk.i64_in _ (by omega), hle _, ⟨by omega, oZ hlt hp2 hq⟩, by omega⟩⟩
  have hk' : k = t.iC.length := by omega
  subst hk'
  rw [List.take_length] at hp2
  simp -dsimp -implicitDefEqProofs only [go_sem, ↓reduceIte, Tryz.f128, Nat.lt_irrefl]
  refine aH.bS (rR t.aQ (fun r => !decide (0 ≤ r ∧ r ≤ (t.aS.length : Int) - 1)) 154 [.op n 1 0 0] fun r _ => aRI r t.aS.length (by omega) n (by simp [aM])) ?_
  simp -dsimp -implicitDefEqProofs only [go_sem, ↓reduceIte, Tryz.f128]
  refine ⟨?_, aB.aY hn (aB.le_refl _)⟩
  rw [aKZ, decide_eq_decide]
  exact ⟨fun q => ⟨by omega, by omega, hcode, hp2, q⟩, fun q => q.outs⟩
 all_goals exact no fun q => by have := q.lens; have := q.inp; omega
set_option maxRecDepth 100000
open Go.Proofs
set_option linter.unusedVariables false
set_option linter.unusedSimpArgs false
theorem Shift.bJB {x y : aD} {h h' : aB} (s : Shift x h' y h) (n : Int) : Shift (.iI [x, I n]) h' (.iI [y, I n]) h := fun E w v R r => by
 cases r with
 |iI _ vs hl hr =>
  match vs, hl with
  | [v0, v1], _ =>
   obtain ⟨E', ev, R', r'⟩ := s E w v0 R (hr 0 x v0 rfl rfl)
   have h1 := hr 1 (I n) v1 rfl rfl
   cases h1
   refine ⟨E', ev, R', .iI _ _ rfl fun i z u hz hu => ?_⟩
   match i with
   |0 => cases hz; cases hu; exact r'
   |1 => cases hz; cases hu; exact .int _ _
   |i + 2 => cases hz
def jJ (l : List (List Int)) : bP := .row 1 ((l.map fun s => [ints s]).map (List.map .v))
theorem aRJ (l : List (List Int)) (s : List Int) : jJ (l ++ [s]) = .row 1 (((l.map fun s => [ints s]).map (List.map Cell.v)) ++ [[.v (ints s)]]) := by simp [jJ]
theorem pH (l : List (List Int)) {k : Nat} (h : l.length = k) (s : List Int) : bP.row 1 (List.take k ((l.map fun s => [ints s]).map (List.map Cell.v)) ++ [[.v (aD.sl 1 (s.map fun n => [I n]) false)]]) = jJ (l ++ [s]) := by
 rw [aRJ, List.take_of_length_le (by simp [h])]
@[go_sem] def aT1 : List Nat := [0, 1, 2, 4, 6, 9, 10, 11, 12, 13, 20]
@[go_sem] def a7G : List Nat := [2]
@[go_sem] def a7H : Marks := fun _ => ([], .nil, [])
theorem bJC (t : jS) (ht : t.ok) (ls : List (List Int)) (hl : ls.length ≤ 100) (hls : ∀ l ∈ ls, (l.length : Int) = t.dH ∧ eD l) : fL Tryz.prog 105 [.agg t.c, c7 ls] (I 0) := by
 have hv := aVR t (by have := ht.lens; omega) (by have := ht.lens; omega) (by have := ht.lens; omega)
 rw [decide_eq_true ht] at hv
 rw [jS.aU] at hv ⊢
 refine fT 22 aT1 a7G a7H mix Tryz.func105 rfl (by kernel_rfl) (by simp) fun h => ?_
 simp -dsimp -implicitDefEqProofs only [go_sem, ↓reduceIte, Tryz.f105]
 first | refine aH.mk (hv) ?_ | refine aF.mk (hv) ?_ | refine aH.bS (hv) ?_ | refine aF.mk (bM.eQ (hv)) ?_
 simp -dsimp -implicitDefEqProofs only [go_sem, ↓reduceIte, Tryz.f105]
 refine fun _ => ?_
 refine cS (keep := aT1) (ib := a7G) (mk := a7H) mix (by kernel_rfl) (fun k : Nat => [(2, .ip 4 [[I t.dH, eZ 4 bQ.c t.aS, eZ 2 gI.c t.iC, ints t.aQ]] 0 0), (10, c7 ls), (11, I ls.length), (12, I k)]) (fun _ => h) (fun k => k ≤ ls.length) (fun k => ls.length - k) 0 ⟨by simp [cV, bZ], aB.le_refl _, Nat.zero_le _⟩ ?_
 intro k hk
 rcases Nat.lt_or_ge k ls.length with hlt | hge
 ·have ea : ls[k]? = some ls[k] := List.getElem?_eq_getElem hlt
  have hn := kL ls[k] t.dH
  rw [decide_eq_true (hls _ (List.getElem_mem hlt))] at hn
  simp -dsimp -implicitDefEqProofs only [go_sem, ↓reduceIte, Tryz.f105, hlt, ea]
  first | refine aH.mk (hn) ?_ | refine aF.mk (hn) ?_ | refine aH.bS (hn) ?_ | refine aF.mk (bM.eQ (hn)) ?_
  simp -dsimp -implicitDefEqProofs only [go_sem, ↓reduceIte, Tryz.f105, hlt, ea]
  exact ⟨k + 1, IntWalk.i64_in _ (by omega), hlt, by omega⟩
 ·obtain rfl : k = ls.length := by omega
  simp -dsimp -implicitDefEqProofs only [go_sem, ↓reduceIte, Tryz.f105, Nat.lt_irrefl, Int.lt_irrefl]
@[go_sem] def a4H : List Nat := [0, 1, 3, 4]
@[go_sem] def bJD : List Nat := []
@[go_sem] def bJE : Marks := fun _ => ([], .nil, [])
theorem aZQ (n : Int) {sz : Nat} (hsz : 1 ≤ sz ∧ sz ≤ 1048576) : fL Tryz.prog 106 [I n, .ip 1 [[I ((sz : Int) - 1)]] 0 0] (ints (lP n sz)) := by
 have e1 : IntKind.i64.wrap ((sz : Int) - 1 + 1) = (sz : Int) := by rw [IntWalk.i64_in _ (by omega)]; omega
 have e2 := aLG (x := [aD.int .i64 0]) hsz.1
 refine rP 12 a4H bJD bJE mix Tryz.func106 rfl (by kernel_rfl) (by simp) fun h => ?_
 simp -dsimp -implicitDefEqProofs only [go_sem, ↓reduceIte, Tryz.f106, e1, Int.toNat_natCast, e2]
 refine ⟨Nat.zero_lt_one, by omega, by omega, by omega, fun m hm => ⟨by omega, ?_⟩⟩
 rw [aK, show Int.toNat 0 = 0 from rfl, aHO]
 exact fH _ hm (aB.le_refl _) (aA2 n sz).symm
@[go_sem] def aZR : List Nat := [0, 1, 2, 3, 5, 6, 7, 8, 9, 11, 12, 16, 17, 18, 19, 27, 28, 35, 48, 61, 74, 82, 91]
@[go_sem] def bJF : List Nat := [3, 5, 13, 105]
@[go_sem] def bJG : Marks := fun id => match id with | 11 => ([2, 4, 7, 9], (.op 0 (.op 1 (.op 5 (.op 6 (.op 2 (.op 3 (.op 4 (.op 7 (.op 8 (.op 9 (.op 10 (.op 11 .nil)))))))))))), []) | 13 => ([2, 4, 7, 9], (.op 0 (.op 1 (.op 5 (.op 6 (.op 2 (.op 3 (.op 4 (.op 7 (.op 8 (.op 9 (.op 10 (.op 11 .nil)))))))))))), []) | 15 => ([2, 4, 7, 9], (.op 0 (.op 1 (.op 5 (.op 6 (.op 2 (.op 3 (.op 4 (.op 7 (.op 8 (.op 9 (.op 10 (.op 11 .nil)))))))))))), []) | 21 => ([2, 4, 7, 9], (.op 0 (.op 1 (.op 5 (.op 6 (.op 2 (.op 3 (.op 4 (.op 7 (.op 8 (.op 9 (.op 10 (.op 11 .nil)))))))))))), []) | _ => ([], .nil, [])
theorem aVS (t : jS) {sz : Nat} (hsz : 1 ≤ sz ∧ sz ≤ 1048576) (hins : ∀ i c, t.aS[i]? = some c → cH t.dH i c) (hcl : t.aS.length ≤ 3200) (args : List (List Int)) (ha : ∀ s ∈ args, bN sz s) (hal : (args.length : Int) = t.dH)
  (hdiv : ∀ (i : Nat) (c : bQ), t.aS[i]? = some c → c.j0 = 6 → ¬ (qD sz args t.aS c.fB.toNat).getD 0 0 = 0) : fL Tryz.prog 75 [.agg t.c, c7 args, I ((sz : Int) - 1)] (.iI [c7 (pG sz args t.aS t.aS.length), I 0]) := by
 rw [jS.aU]
 refine rP 109 aZR bJF bJG mix Tryz.func75 rfl (by kernel_rfl) (by simp) fun h => ?_
 simp -dsimp -implicitDefEqProofs only [go_sem, ↓reduceIte, Tryz.f75]
 refine ⟨by decide, fun _ => ?_⟩
 refine cS (keep := aZR) (ib := bJF) (mk := bJG) mix (by kernel_rfl) (fun x : Nat × Option Nat => [(1, c7 args), (8, jC 1 x.1 x.2), (9, .fn (.func 106) [] [.ip 1 [[I ((sz : Int) - 1)]] 0 0]), (16, eZ 4 bQ.c t.aS), (17, I t.aS.length), (18, I x.1)]) (fun x => cK h (jJ (pG sz args t.aS x.1)) x.2) (fun x => x.1 ≤ t.aS.length ∧ fK h (pG sz args t.aS x.1) x.2) (fun x => t.aS.length - x.1) (0, none) ⟨by simp [cV, bZ, jC], aB.le_refl _, Nat.zero_le _, rfl⟩ ?_
 rintro ⟨k, o⟩ ⟨hk, hos⟩
 simp only at hk hos ⊢
 have hml := lE sz args t.aS k
 rcases Nat.lt_or_ge k t.aS.length with hlt | hge
 ·have ek : t.aS[k]? = some t.aS[k] := List.getElem?_eq_getElem hlt
  have hin := hins k _ ek
  have hdk := hdiv k _ ek
  have hst : pG sz args t.aS (k + 1) = pG sz args t.aS k ++ [opS sz args (pG sz args t.aS k) t.aS[k]] := by
   rw [pG, show t.aS.getD k ⟨0, 0, 0, 0⟩ = t.aS[k] by rw [List.getD_eq_getElem?_getD, ek]; rfl]
  generalize hc : t.aS[k] = c at *
  have hconst := aZQ c.bC hsz
  generalize hR : pG sz args t.aS k = R at *
  have hgR : ∀ i : Int, 0 ≤ i ∧ i < k → R[i.toNat]? = some (R.getD i.toNat []) ∧ bN sz (R.getD i.toNat []) := fun i hi => by
   refine ⟨iP (by omega), ?_⟩
   have h1 := zT (sz := sz) hins ha hal i.toNat (by omega)
   rwa [qD, wF sz args t.aS (k := k) (by omega) _ (by omega), hR] at h1
  cases o with
  |none =>
   rw [bD] at hos
   subst hos
   obtain rfl : k = 0 := hml.symm
   simp -dsimp -implicitDefEqProofs only [go_sem, ↓reduceIte, Tryz.f75, bO, aO, hlt, ek, bQ.aU]
   intro m hm
   rw [aK]
   first | refine aH.mk (hconst) ?_ | refine aF.mk (hconst) ?_ | refine aH.bS (hconst) ?_ | refine aF.mk (bM.eQ (hconst)) ?_
   simp -dsimp -implicitDefEqProofs only [go_sem, ↓reduceIte, Tryz.f75]
   have hnext : ∀ (g : aB) (b : Nat) (s : List Int), s = opS sz args [] c → h b = none → (aR h b (jJ [s])).le g → ∃ x' : Nat × Option Nat, (aD.os b 1 0 1 = jC 1 x'.1 x'.2 ∧ IntKind.i64.wrap (((0 : Nat) : Int) + 1) = (x'.1 : Int)) ∧ (cK h (jJ (pG sz args t.aS x'.1)) x'.2).le g ∧ (x'.1 ≤ t.aS.length ∧ fK h (pG sz args t.aS x'.1) x'.2) ∧ t.aS.length - x'.1 < t.aS.length - 0 := fun g b s e z l => by
    subst e
    exact ⟨(1, some b), ⟨rfl, IntWalk.i64_in _ (by omega)⟩, by simp only [aJ, hst]; exact l, ⟨hlt, z⟩, by simp only; omega⟩
   rcases (show c.j0 = 1 ∨ c.j0 = 2 by unfold cH at hin; omega) with h1 | h1
   ·have hn : 0 ≤ c.bC ∧ c.bC < args.length := by unfold cH at hin; omega
    have ea : args[c.bC.toNat]? = some (args.getD c.bC.toNat []) := iP (by omega)
    simp -dsimp -implicitDefEqProofs only [go_sem, ↓reduceIte, Tryz.f75, h1, ea]
    refine ⟨hn.1, hn.2, by decide, by decide, by decide, fun b ⟨b1, b2⟩ => hnext _ b _ (by rw [opS, if_pos h1]) b2 (aB.hZ (aB.aY hm (aB.le_refl _)))⟩
   ·simp -dsimp -implicitDefEqProofs only [go_sem, ↓reduceIte, Tryz.f75, h1]
    refine ⟨by decide, by decide, by decide, fun b ⟨b1, b2⟩ => hnext _ b _ (by rw [opS, if_neg (by omega), if_pos h1]) b2 (aB.hZ (aB.aY hm (aB.le_refl _)))⟩
  |some n =>
   rw [aV] at hos
   simp -dsimp -implicitDefEqProofs only [go_sem, ↓reduceIte, Tryz.f75, aX, aJ, hlt, ek, bQ.aU]
   refine fun m ⟨dm, zm⟩ => ?_
   have uD : ¬ m = n := dm
   have aCK : ¬ n = m := Ne.symm uD
   have m7 : (m = n) = False := eq_false uD
   have m8 : (n = m) = False := eq_false aCK
   rw [aK]
   first | refine aH.mk (hconst) ?_ | refine aF.mk (hconst) ?_ | refine aH.bS (hconst) ?_ | refine aF.mk (bM.eQ (hconst)) ?_
   simp -dsimp -implicitDefEqProofs only [go_sem, ↓reduceIte, Tryz.f75]
   have hnext : ∀ (g : aB) (b : Nat) (s : List Int), s = opS sz args R c → h b = none → (aR h b (jJ (R ++ [s]))).le g → ∃ x' : Nat × Option Nat, (aD.os b 1 0 (k + 1) = jC 1 x'.1 x'.2 ∧ IntKind.i64.wrap ((k : Int) + 1) = (x'.1 : Int)) ∧ (cK h (jJ (pG sz args t.aS x'.1)) x'.2).le g ∧ (x'.1 ≤ t.aS.length ∧ fK h (pG sz args t.aS x'.1) x'.2) ∧ t.aS.length - x'.1 < t.aS.length - k := fun g b s e z l => by
    subst e
    exact ⟨(k + 1, some b), ⟨rfl, IntWalk.i64_in _ (by omega)⟩, by simp only [aJ, hst]; exact l, ⟨hlt, z⟩, by simp only; omega⟩
   have aRK : ∀ X Y, h.le (aR (aR (aR h n X) m Y) n .gone) := fun X Y q => by
    by_cases e1 : q = n
    ·subst e1; exact .inl hos
    by_cases e2 : q = m
    ·subst e2; exact .inl zm
    rw [aA _ _ _ _ e1, aA _ _ _ _ e2, aA _ _ _ _ e1]; exact .inr rfl
   rcases (show c.j0 = 1 ∨ c.j0 = 2 ∨ c.j0 = 3 ∨ c.j0 = 4 ∨ c.j0 = 5 ∨ c.j0 = 6 ∨ c.j0 = 7 by unfold cH at hin; omega) with h1 | h1 | h1 | h1 | h1 | h1 | h1
   ·have hn : 0 ≤ c.bC ∧ c.bC < args.length := by unfold cH at hin; omega
    have ea : args[c.bC.toNat]? = some (args.getD c.bC.toNat []) := iP (by omega)
    simp -dsimp -implicitDefEqProofs only [go_sem, ↓reduceIte, Tryz.f75, h1, ea, m7, m8, aA, jJ]
    refine ⟨hn.1, hn.2, by decide, by decide, by decide, by omega, by omega, by omega, fun b ⟨b1, b2, b3⟩ => hnext _ b _ (by rw [opS, if_pos h1]) b3 ?_⟩
    rw [pH R hml]
    exact aB.hZ (aRK _ _)
   ·simp -dsimp -implicitDefEqProofs only [go_sem, ↓reduceIte, Tryz.f75, h1, m7, m8, aA, jJ]
    refine ⟨by decide, by decide, by decide, by omega, by omega, by omega, fun b ⟨b1, b2, b3⟩ => hnext _ b _ (by rw [opS, if_neg (by omega), if_pos h1]) b3 ?_⟩
    rw [pH R hml]
    exact aB.hZ (aRK _ _)
   ·have na := hgR c.fA (by unfold cH at hin; omega)
    have nb := hgR c.fB (by unfold cH at hin; omega)
    have i0 : (0 ≤ c.fA ∧ c.fA < k) ∧ 0 ≤ c.fB ∧ c.fB < k := by unfold cH at hin; omega
    have hop : 3 ≤ c.j0 → opS sz args R c = opW c.j0 (R.getD c.fA.toNat []) (R.getD c.fB.toNat []) := fun q => by rw [opS, if_neg (by omega), if_neg (by omega)]
    have hcall := aAN (added (R.getD c.fA.toNat []) (R.getD c.fB.toNat []) (by rw [nb.2.1, na.2.1]) (by rw [na.2.1]; omega) (rM na.2.2) (rM nb.2.2))
    simp -dsimp -implicitDefEqProofs only [go_sem, ↓reduceIte, Tryz.f75, h1, jJ, na.1, nb.1, m7, m8, aA]
    refine ⟨by omega, by omega, by omega, by omega, aF.mk hcall ?_⟩
    simp -dsimp -implicitDefEqProofs only [go_sem, ↓reduceIte, Tryz.f75, h1, jJ, m7, m8, aA]
    refine ⟨by decide, by decide, by decide, by omega, by omega, by omega, fun b ⟨b1, b2, b3⟩ => hnext _ b _ (by rw [hop (by omega), h1]) b3 ?_⟩
    rw [pH R hml]
    exact aB.hZ (aRK _ _)
   ·have na := hgR c.fA (by unfold cH at hin; omega)
    have nb := hgR c.fB (by unfold cH at hin; omega)
    have i0 : (0 ≤ c.fA ∧ c.fA < k) ∧ 0 ≤ c.fB ∧ c.fB < k := by unfold cH at hin; omega
    have hop : 3 ≤ c.j0 → opS sz args R c = opW c.j0 (R.getD c.fA.toNat []) (R.getD c.fB.toNat []) := fun q => by rw [opS, if_neg (by omega), if_neg (by omega)]
    have hcall := reduced (R.getD c.fA.toNat []) (R.getD c.fB.toNat []) (by rw [nb.2.1, na.2.1]) (by rw [na.2.1]; omega) na.2.2 nb.2.2
    simp -dsimp -implicitDefEqProofs only [go_sem, ↓reduceIte, Tryz.f75, h1, jJ, na.1, nb.1, m7, m8, aA]
    refine ⟨by omega, by omega, by omega, by omega, aF.mk hcall ?_⟩
    simp -dsimp -implicitDefEqProofs only [go_sem, ↓reduceIte, Tryz.f75, h1, jJ, m7, m8, aA]
    refine ⟨by decide, by decide, by decide, by omega, by omega, by omega, fun b ⟨b1, b2, b3⟩ => hnext _ b _ (by rw [hop (by omega), h1]) b3 ?_⟩
    rw [pH R hml]
    exact aB.hZ (aRK _ _)
   ·have na := hgR c.fA (by unfold cH at hin; omega)
    have nb := hgR c.fB (by unfold cH at hin; omega)
    have i0 : (0 ≤ c.fA ∧ c.fA < k) ∧ 0 ≤ c.fB ∧ c.fB < k := by unfold cH at hin; omega
    have hop : 3 ≤ c.j0 → opS sz args R c = opW c.j0 (R.getD c.fA.toNat []) (R.getD c.fB.toNat []) := fun q => by rw [opS, if_neg (by omega), if_neg (by omega)]
    have hcall := product (R.getD c.fA.toNat []) (R.getD c.fB.toNat []) (by rw [nb.2.1, na.2.1]) (by rw [na.2.1]; omega) na.2.2 nb.2.2
    simp -dsimp -implicitDefEqProofs only [go_sem, ↓reduceIte, Tryz.f75, h1, jJ, na.1, nb.1, m7, m8, aA]
    refine ⟨by omega, by omega, by omega, by omega, aF.mk hcall ?_⟩
    simp -dsimp -implicitDefEqProofs only [go_sem, ↓reduceIte, Tryz.f75, h1, jJ, m7, m8, aA]
    refine ⟨by decide, by decide, by decide, by omega, by omega, by omega, fun b ⟨b1, b2, b3⟩ => hnext _ b _ (by rw [hop (by omega), h1]) b3 ?_⟩
    rw [pH R hml]
    exact aB.hZ (aRK _ _)
   ·have na := hgR c.fA (by unfold cH at hin; omega)
    have nb := hgR c.fB (by unfold cH at hin; omega)
    have i0 : (0 ≤ c.fA ∧ c.fA < k) ∧ 0 ≤ c.fB ∧ c.fB < k := by unfold cH at hin; omega
    have hop : 3 ≤ c.j0 → opS sz args R c = opW c.j0 (R.getD c.fA.toNat []) (R.getD c.fB.toNat []) := fun q => by rw [opS, if_neg (by omega), if_neg (by omega)]
    have hcall := quotient (R.getD c.fA.toNat []) (R.getD c.fB.toNat []) (by rw [nb.2.1, na.2.1]) (by rw [na.2.1]; omega) (by rw [na.2.1]; omega) na.2.2 nb.2.2
    have hz : ¬ (R.getD c.fB.toNat []).getD 0 0 = 0 := by
     have h2 := hdk h1
     rwa [qD, wF sz args t.aS (k := k) (by omega) _ (by omega), hR] at h2
    have gz : (R.getD c.fB.toNat [])[Int.toNat 0]? = some ((R.getD c.fB.toNat []).getD 0 0) := dS (by rw [nb.2.1]; exact hsz.1)
    have lz := nb.2.1
    simp -dsimp -implicitDefEqProofs only [go_sem, ↓reduceIte, Tryz.f75, h1, jJ, na.1, nb.1, gz, hz, m7, m8, aA]
    refine ⟨by omega, by omega, by rw [lz]; omega, by omega, by omega, by omega, by omega, aF.mk hcall ?_⟩
    simp -dsimp -implicitDefEqProofs only [go_sem, ↓reduceIte, Tryz.f75, h1, jJ, m7, m8, aA]
    refine ⟨by decide, by decide, by decide, by omega, by omega, by omega, fun b ⟨b1, b2, b3⟩ => hnext _ b _ (by rw [hop (by omega), h1]) b3 ?_⟩
    rw [pH R hml]
    exact aB.hZ (aRK _ _)
   ·have na := hgR c.fA (by unfold cH at hin; omega)
    have hop : 3 ≤ c.j0 → opS sz args R c = opW c.j0 (R.getD c.fA.toNat []) (R.getD c.fB.toNat []) := fun q => by rw [opS, if_neg (by omega), if_neg (by omega)]
    have i0 : 0 ≤ c.fA ∧ c.fA < k := by unfold cH at hin; omega
    have hcall := scaled (R.getD c.fA.toNat []) 1000002 (by unfold jA; omega) (by rw [na.2.1]; omega) na.2.2
    simp -dsimp -implicitDefEqProofs only [go_sem, ↓reduceIte, Tryz.f75, h1, jJ, na.1, m7, m8, aA]
    refine ⟨by omega, by omega, aH.mk hcall ?_⟩
    simp -dsimp -implicitDefEqProofs only [go_sem, ↓reduceIte, Tryz.f75, h1, jJ, m7, m8, aA]
    refine ⟨by decide, by decide, by decide, by omega, by omega, by omega, fun b ⟨b1, b2, b3⟩ => hnext _ b _ (by rw [hop (by omega), h1]) b3 ?_⟩
    rw [pH R hml]
    exact aB.hZ (aRK _ _)
 ·have hk' : k = t.aS.length := by omega
  subst hk'
  cases o with
  |none =>
   rw [bD] at hos
   simp -dsimp -implicitDefEqProofs only [go_sem, ↓reduceIte, Tryz.f75, bO, aO, Nat.lt_irrefl, Int.lt_irrefl]
   rw [hos]
   exact Shift.of (Sub.iI (.cons (Sub.loose _ _ _) (.cons (.refl _) .nil))) (aB.le_refl _)
  |some n =>
   rw [aV] at hos
   simp -dsimp -implicitDefEqProofs only [go_sem, ↓reduceIte, Tryz.f75, aX, aJ, Nat.lt_irrefl, Int.lt_irrefl]
   have h1 := l3 (pG sz args t.aS t.aS.length) hos (aB.le_refl _) hml.symm
   exact h1.bJB 0
set_option maxRecDepth 100000
open Go.Proofs
set_option linter.unusedVariables false
set_option linter.unusedSimpArgs false
def yC (sz : Nat) : List Int := List.replicate sz 0
def vI (r : Int) (s : List Int) (A : List (List Int)) : List (List Int) := A.set r.toNat (j5 (A.getD r.toNat []) s)
def nR (c : bQ) (rg : List (List Int)) (k : Nat) (A : List (List Int)) : List (List Int) :=
 if c.j0 = 3 then vI c.fB (A.getD k []) (vI c.fA (A.getD k []) A)
 else if c.j0 = 4 then vI c.fB (lY (A.getD k []) 1000002) (vI c.fA (A.getD k []) A)
 else if c.j0 = 5 then vI c.fB (mulL (A.getD k []) (rg.getD c.fA.toNat [])) (vI c.fA (mulL (A.getD k []) (rg.getD c.fB.toNat [])) A)
 else if c.j0 = 6 then vI c.fB (lY (mulL (lA (A.getD k []) (rg.getD c.fB.toNat [])) (rg.getD k [])) 1000002) (vI c.fA (lA (A.getD k []) (rg.getD c.fB.toNat [])) A)
 else if c.j0 = 7 then vI c.fA (lY (A.getD k []) 1000002) A
 else A
def rI (code : List bQ) (rg A : List (List Int)) : Nat → Nat → List (List Int)
 |0, _ => A
 |n + 1, j => nR (code.getD j ⟨0, 0, 0, 0⟩) rg j (rI code rg A n (j + 1))
def rV (outs ws : List Int) (A : List (List Int)) : Nat → List (List Int)
 |0 => A
 |k + 1 => (rV outs ws A k).set (outs.getD k 0).toNat (((rV outs ws A k).getD (outs.getD k 0).toNat []).set 0 ((((rV outs ws A k).getD (outs.getD k 0).toNat []).getD 0 0 + ws.getD k 0) % 1000003))
def jU (sz n : Nat) (A : List (List Int)) : Prop := A.length = n ∧ ∀ s ∈ A, bN sz s
theorem jU.get {sz n : Nat} {A : List (List Int)} (h : jU sz n A) {i : Nat} (hi : i < n) : A[i]? = some (A.getD i []) ∧ bN sz (A.getD i []) := by
 have h1 := iP (env := A) (i := i) (by rw [h.1]; exact hi)
 exact ⟨h1, h.2 _ (List.mem_of_getElem? h1)⟩
theorem jU.set {sz n : Nat} {A : List (List Int)} (h : jU sz n A) {s : List Int} (hs : bN sz s) (i : Nat) : jU sz n (A.set i s) := ⟨by rw [List.length_set]; exact h.1, fun x hx => by
 rcases List.mem_or_eq_of_mem_set hx with hx | rfl
 ·exact h.2 x hx
 ·exact hs⟩
theorem jU.put {sz n : Nat} {A : List (List Int)} (h : jU sz n A) {r : Int} (hr : r.toNat < n) {s : List Int} (hs : bN sz s) : jU sz n (vI r s A) := h.set (q0 (h.get hr).2 hs) _
theorem aJ3 (A : List (List Int)) (k : Nat) (s : List Int) : bP.row 1 (((A.map fun s => [ints s]).map (List.map Cell.v)).set k [.v (ints s)]) = jJ (A.set k s) := by
 rw [jJ, List.map_set, List.map_set]; rfl
@[go_sem] def a4I : List Nat := [0, 1, 2]
@[go_sem] def bJH : List Nat := []
@[go_sem] def bJI : Marks := fun id => match id with | 0 => ([0, 2, 5, 9], (.op 1 (.op 3 (.op 6 (.op 0 (.op 2 (.op 4 (.op 5 (.op 7 (.op 8 (.op 9 .nil)))))))))), []) | _ => ([], .nil, [])
theorem aL7 {sz n : Nat} (hsz : 1 ≤ sz ∧ sz ≤ 1048576) {A : List (List Int)} (hA : jU sz n A) {r : Int} (hr : 0 ≤ r ∧ r < n) {s : List Int} (hs : bN sz s) {g : aB} {nb b : Nat} (hb : g nb = some (.row 1 [[.v (.os b 1 0 n)]])) (hg : g b = some (jJ A)) :
  iH Tryz.prog 111 [I r, ints s, .op nb 1 0 0] g fun r_ h' => h' = aR g b (jJ (vI r s A)) := by
 have hq := hA.get (i := r.toNat) (by omega)
 have hcall := aAN (added (A.getD r.toNat []) s (by rw [hs.1, hq.2.1]) (by rw [hq.2.1]; omega) (rM hq.2.2) (rM hs.2))
 unfold jJ at hg
 refine aDS 14 a4I bJH bJI mix Tryz.func111 rfl (by kernel_rfl) (by simp) ?_
 simp -dsimp -implicitDefEqProofs only [go_sem, ↓reduceIte, Tryz.f111, hb, hg, hq.1]
 refine ⟨hr.1, hr.2, aF.mk hcall ?_⟩
 simp -dsimp -implicitDefEqProofs only [go_sem, ↓reduceIte, Tryz.f111, hb, hg, hq.1]
 exact ⟨hr.1, hr.2, _, by have h1 := aJ3 A r.toNat (j5 (A.getD r.toNat []) s); rw [h1]; exact aB.le_refl _, rfl⟩
theorem aZS {b sz : Nat} : ∀ (N : List Nat) (A pre : List (List Int)) (g : aB), N.length = A.length → N.Nodup → (∀ k n, N[k]? = some n → g n = some (sS (A.getD k [])) ∧ ¬ n = b) → (∀ s ∈ A, s.length = sz) → g b = some (.row 1 ((pre.map fun s => [ints s]).map (List.map .v) ++ (N.map fun n => [aD.os n 1 0 sz]).map (List.map .v))) →
  ∃ g' : aB, g'.wk g ∧ g' b = some (jJ (pre ++ A)) ∧ ∀ q, ¬ q = b → q ∉ N → g' q = g q
 | [], [], pre, g, _, _, _, _, hb => ⟨g, aB.jN (aB.le_refl _), by rw [hb, List.append_nil, List.map_nil, List.map_nil, List.append_nil]; rfl, fun _ _ _ => rfl⟩
 | [], _ :: _, _, _, h, _, _, _, _ => by simp at h
 | _ :: _, [], _, _, h, _, _, _, _ => by simp at h
 |n :: N, s :: A, pre, g, hl, hnd, hN, hs, hb => by
  obtain ⟨hn, hnb⟩ := hN 0 n rfl
  rw [show (s :: A).getD 0 [] = s from rfl] at hn
  have hsl := hs s (.head _)
  have hnn : n ∉ N := (List.nodup_cons.1 hnd).1
  have hat : ∀ (es : List (List Cell)) i j x, iZ es i j = some x → ∃ e ∈ es, x ∈ e := fun es i j x hx => by
   obtain ⟨e, h1, h2⟩ := kX hx
   exact ⟨e, List.mem_of_getElem? h1, List.mem_of_getElem? h2⟩
  have hw := aB.aTH (m := n) (b := b) hn hb (Ne.symm hnb) (fun i j x hx => by
   obtain ⟨e, he, hxe⟩ := hat _ i j _ hx
   rcases List.mem_append.1 he with he | he
   ·obtain ⟨e1, h1, rfl⟩ := List.mem_map.1 he
    obtain ⟨r, _, rfl⟩ := List.mem_map.1 h1
    simp only [List.map_cons, List.map_nil, List.mem_singleton, Cell.v.injEq] at hxe
    subst hxe; rfl
   ·obtain ⟨e1, h1, rfl⟩ := List.mem_map.1 he
    obtain ⟨r, _, rfl⟩ := List.mem_map.1 h1
    simp only [List.map_cons, List.map_nil, List.mem_singleton, Cell.v.injEq] at hxe
    subst hxe
    simp [fY, hsl])
  have hrow : (((pre.map fun s => [ints s]).map (List.map Cell.v) ++ ((n :: N).map fun n => [aD.os n 1 0 sz]).map (List.map Cell.v))).map (List.map (Cell.xZ n (eT ((s.map fun n => [I n]).map (List.map Cell.v))))) = ((pre ++ [s]).map fun s => [ints s]).map (List.map .v) ++ (N.map fun n => [aD.os n 1 0 sz]).map (List.map .v) := by
   rw [aO5, List.map_append, List.map_append, List.map_append, List.append_assoc]
   congr 1
   ·simp only [List.map_map]
    exact List.map_congr_left fun r _ => rfl
   ·rw [List.map_cons, List.map_cons, List.map_cons]
    show _ :: _ = [_] ++ _
    rw [List.singleton_append]
    congr 1
    ·simp only [List.map_cons, List.map_nil, Cell.xZ, aD.fE, if_true, List.drop_zero]
     rw [List.take_of_length_le (by rw [List.length_map, hsl]; exact Nat.le_refl _)]
    ·simp only [List.map_map]
     refine List.map_congr_left fun r hr => ?_
     have h1 : ¬ r = n := fun e => hnn (e ▸ hr)
     simp [Cell.xZ, aD.fE, h1]
  rw [hrow] at hw
  obtain ⟨g', w1, w2, w3⟩ := aZS N A (pre ++ [s]) (aR (aR g n .gone) b (.row 1 (((pre ++ [s]).map fun s => [ints s]).map (List.map Cell.v) ++ (N.map fun n => [aD.os n 1 0 sz]).map (List.map Cell.v)))) (by simpa using hl) (List.nodup_cons.1 hnd).2 (fun k m hm => by
   have h1 := hN (k + 1) m (by simpa using hm)
   have h2 : ¬ m = n := fun e => hnn (e ▸ List.mem_of_getElem? hm)
   refine ⟨?_, h1.2⟩
   rw [aA _ _ _ _ h1.2, aA _ _ _ _ h2]
   simpa using h1.1) (fun x hx => hs x (.tail _ hx)) (aG _ _ _)
  refine ⟨g', w1.trans hw, by rw [w2, List.append_assoc]; rfl, fun q h1 h2 => ?_⟩
  have h3 : ¬ q = n := fun e => h2 (e ▸ .head _)
  rw [w3 q h1 fun h => h2 (.tail _ h), aA _ _ _ _ h1, aA _ _ _ _ h3]
theorem aVT {sz n : Nat} (hsz : 1 ≤ sz) {inp : Int} {k : Nat} (hk : k < n) {c : bQ} (hc : cH inp k c) {rg : List (List Int)} (hrg : jU sz n rg) {A : List (List Int)} (hA : jU sz n A) : jU sz n (nR c rg k A) := by
 have h0 := (hA.get hk).2
 unfold cH at hc
 unfold nR
 have hr : ∀ x : Int, 0 ≤ x ∧ x < k → bN sz (rg.getD x.toNat []) := fun x hx => (hrg.get (by omega)).2
 by_cases h3 : c.j0 = 3
 ·rw [if_pos h3]; exact (hA.put (by omega) h0).put (by omega) h0
 rw [if_neg h3]
 by_cases h4 : c.j0 = 4
 ·rw [if_pos h4]; exact (hA.put (by omega) h0).put (by omega) (fS _ h0)
 rw [if_neg h4]
 by_cases h5 : c.j0 = 5
 ·rw [if_pos h5]; exact (hA.put (by omega) (hH _ h0)).put (by omega) (hH _ h0)
 rw [if_neg h5]
 by_cases h6 : c.j0 = 6
 ·rw [if_pos h6]; exact (hA.put (by omega) (pR _ h0)).put (by omega) (fS _ (hH _ (pR _ h0)))
 rw [if_neg h6]
 by_cases h7 : c.j0 = 7
 ·rw [if_pos h7]; exact hA.put (by omega) (fS _ h0)
 ·rw [if_neg h7]; exact hA
theorem tP {sz : Nat} (hsz : 1 ≤ sz ∧ sz ≤ 1048576) {inp : Int} {code : List bQ} (hins : ∀ i c, code[i]? = some c → cH inp i c) {rg : List (List Int)} (hrg : jU sz code.length rg) {A : List (List Int)} (hA : jU sz code.length A) : ∀ n j, n + j = code.length → jU sz code.length (rI code rg A n j)
 |0, _, _ => hA
 |n + 1, j, h => by
  have ec : code[j]? = some code[j] := List.getElem?_eq_getElem (by omega)
  rw [rI, show code.getD j ⟨0, 0, 0, 0⟩ = code[j] by rw [List.getD_eq_getElem?_getD, ec]; rfl]
  exact aVT hsz.1 (by omega) (hins j _ ec) hrg (tP hsz hins hrg hA n (j + 1) (by omega))
structure aBB (h : aB) (nb b sz : Nat) (N : List Nat) (A : List (List Int)) (g : aB) : Prop where
 ser : jU sz N.length A
 nodup : N.Nodup
 out : ∀ n ∈ N, ¬ n = nb ∧ ¬ n = b ∧ h n = none
 get : ∀ k n, N[k]? = some n → g n = some (sS (A.getD k []))
 bk : g b = some (.row 1 ((N.map fun n => [aD.os n 1 0 sz]).map (List.map .v)))
 nbk : g nb = some (.row 1 [[.v (.os b 1 0 N.length)]])
 keep : ∀ q o, h q = some o → g q = some o
 bn : h b = none ∧ h nb = none ∧ ¬ b = nb
theorem aH6 (sz : Nat) : bN sz (yC sz) := ⟨by simp [yC], fun x hx => by rw [(List.mem_replicate.1 hx).2]; unfold jA; omega⟩
theorem aL8 (sz : Nat) : bP.row 1 ((List.replicate sz [aD.int IntKind.i64 0]).map (List.map .v)) = sS (yC sz) := by rw [sS, yC]; simp [List.map_replicate]
theorem aBB.first {h : aB} {nb n b sz : Nat} (hn : h nb = none) (n1 : ¬ n = nb) (n2 : h n = none) (b1 : ¬ b = n) (b2 : ¬ b = nb) (b3 : h b = none) {X : bP} :
  aBB h nb b sz [n] [yC sz] (aR (aR (aR (aR h nb X) n (sS (yC sz))) b (.row 1 [[.v (.os n 1 0 sz)]])) nb (.row 1 [[.v (.os b 1 0 1)]])) := by
 refine ⟨⟨rfl, fun s hs => by rw [List.mem_singleton.1 hs]; exact aH6 sz⟩, by simp, fun m hm => by rw [List.mem_singleton.1 hm]; exact ⟨n1, Ne.symm b1, n2⟩, fun k m hk => ?_, ?_, aG _ _ _, fun q o hq => ?_, b3, hn, b2⟩
 ·match k with
  |0 =>
   cases hk
   rw [aA _ _ _ _ n1, aA _ _ _ _ (Ne.symm b1), aG]; rfl
  |k + 1 => cases hk
 ·rw [aA _ _ _ _ b2, aG]; rfl
 ·rw [aA _ _ _ _ (fun e => by rw [e, hn] at hq; cases hq), aA _ _ _ _ (fun e => by rw [e, b3] at hq; cases hq), aA _ _ _ _ (fun e => by rw [e, n2] at hq; cases hq), aA _ _ _ _ (fun e => by rw [e, hn] at hq; cases hq)]; exact hq
theorem aBB.free {h g : aB} {nb b sz : Nat} {N : List Nat} {A : List (List Int)} (H : aBB h nb b sz N A g) {n : Nat} (hn : g n = none) : ¬ n = nb ∧ ¬ n = b ∧ n ∉ N ∧ h n = none := by
 refine ⟨(fun e => by rw [e, H.nbk] at hn; cases hn), (fun e => by rw [e, H.bk] at hn; cases hn), fun e => ?_, ?_⟩
 ·obtain ⟨k, hk, ek⟩ := List.mem_iff_getElem.1 e
  have := H.get k n (by rw [List.getElem?_eq_getElem hk, ek])
  rw [this] at hn; cases hn
 ·cases hq : h n with
  |none => rfl
  |some o => rw [H.keep n o hq] at hn; cases hn
theorem aBB.more {h g : aB} {nb b sz : Nat} {N : List Nat} {A : List (List Int)} (H : aBB h nb b sz N A g) {n b' : Nat} (hn : g n = none) (b1 : ¬ b' = n) (hb : g b' = none) :
  aBB h nb b' sz (N ++ [n]) (A ++ [yC sz]) (aR (aR (aR (aR g n (sS (yC sz))) b .gone) b' (.row 1 ((N.map fun n => [aD.os n 1 0 sz]).map (List.map .v) ++ [[.v (.os n 1 0 sz)]]))) nb (.row 1 [[.v (.os b' 1 0 (N.length + 1))]])) := by
 obtain ⟨f1, f2, f3, f4⟩ := H.free hn
 obtain ⟨e1, e2, e3, e4⟩ := H.free hb
 obtain ⟨g1, g2, g3⟩ := H.bn
 have hl := H.ser.1
 refine ⟨⟨by simp [hl], fun s hs => ?_⟩, ?_, fun m hm => ?_, fun k m hk => ?_, ?_, ?_, fun q o hq => ?_, e4, g2, e1⟩
 ·rcases List.mem_append.1 hs with hs | hs
  ·exact H.ser.2 s hs
  ·rw [List.mem_singleton.1 hs]; exact aH6 sz
 ·rw [List.nodup_append]
  exact ⟨H.nodup, by simp, fun x hx y hy e => by rw [List.mem_singleton.1 hy] at e; exact f3 (e ▸ hx)⟩
 ·rcases List.mem_append.1 hm with hm | hm
  ·have := H.out m hm
   exact ⟨this.1, fun e => e3 (e ▸ hm), this.2.2⟩
  ·rw [List.mem_singleton.1 hm]
   exact ⟨f1, Ne.symm b1, f4⟩
 ·rcases Nat.lt_or_ge k N.length with h1 | h1
  ·rw [List.getElem?_append_left h1] at hk
   have hmem := List.mem_of_getElem? hk
   have ho := H.out m hmem
   rw [aA _ _ _ _ ho.1, aA _ _ _ _ (fun e => e3 (by rw [← e]; exact hmem)), aA _ _ _ _ ho.2.1, aA _ _ _ _ (fun e => f3 (by rw [← e]; exact hmem)), H.get k m hk, List.getD_eq_getElem?_getD, List.getD_eq_getElem?_getD, List.getElem?_append_left (by omega)]
  ·rw [List.getElem?_append_right h1] at hk
   have h2 : k - N.length = 0 := by
    rcases Nat.eq_zero_or_pos (k - N.length) with q | q
    ·exact q
    ·rw [List.getElem?_eq_none (by rw [List.length_singleton]; exact q)] at hk; cases hk
   rw [h2] at hk
   cases hk
   rw [aA _ _ _ _ f1, aA _ _ _ _ (Ne.symm b1), aA _ _ _ _ f2, aG, List.getD_eq_getElem?_getD, List.getElem?_append_right (by omega), show k - A.length = 0 by omega]; rfl
 ·rw [aA _ _ _ _ e1, aG, List.map_append, List.map_append]; rfl
 ·rw [aG, List.length_append]; rfl
 ·have hgq := H.keep q o hq
  rw [aA _ _ _ _ (fun e => by rw [e, g2] at hq; cases hq), aA _ _ _ _ (fun e => by rw [e, e4] at hq; cases hq), aA _ _ _ _ (fun e => by rw [e, g1] at hq; cases hq), aA _ _ _ _ (fun e => by rw [e, f4] at hq; cases hq)]; exact hgq
theorem aBB.set {h g : aB} {nb b sz : Nat} {N : List Nat} {A : List (List Int)} (H : aBB h nb b sz N A g) {r n : Nat} (hr : N[r]? = some n) {s : List Int} (hs : bN sz s) : aBB h nb b sz N (A.set r s) (aR g n (sS s)) := by
 have hrl : r < N.length := (List.getElem?_eq_some_iff.1 hr).1
 have hl := H.ser.1
 have ho := H.out n (List.mem_of_getElem? hr)
 refine ⟨H.ser.set hs r, H.nodup, H.out, fun k m hk => ?_, ?_, ?_, fun q o hq => ?_, H.bn⟩
 ·by_cases e : k = r
  ·subst e
   rw [hr] at hk
   cases hk
   rw [aG, List.getD_eq_getElem?_getD, List.getElem?_set_self (by omega)]; rfl
  ·have hne : ¬ m = n := fun q => by
    subst q
    have hkl : k < N.length := (List.getElem?_eq_some_iff.1 hk).1
    exact e ((List.getElem?_inj hkl H.nodup).1 (hk.trans hr.symm))
   rw [aA _ _ _ _ hne, H.get k m hk, List.getD_eq_getElem?_getD, List.getD_eq_getElem?_getD, List.getElem?_set_ne (Ne.symm e)]
 ·rw [aA _ _ _ _ (Ne.symm ho.2.1)]; exact H.bk
 ·rw [aA _ _ _ _ (Ne.symm ho.1)]; exact H.nbk
 ·rw [aA _ _ _ _ (fun e => by rw [e, ho.2.2] at hq; cases hq)]; exact H.keep q o hq
theorem aBB.seal {h g : aB} {nb b sz : Nat} {N : List Nat} {A : List (List Int)} (H : aBB h nb b sz N A g) : (aR (aR h nb (.row 1 [[.v (.os b 1 0 N.length)]])) b (jJ A)).wk g := by
 obtain ⟨g', w1, w2, w3⟩ := aZS (b := b) (sz := sz) N A [] g H.ser.1.symm H.nodup (fun k n hk => ⟨H.get k n hk, (H.out n (List.mem_of_getElem? hk)).2.1⟩) (fun s hs => (H.ser.2 s hs).1) H.bk
 refine aB.wk.trans (aB.jN fun q => ?_) w1
 by_cases e : q = b
 ·subst e; rw [aG]; exact .inr w2.symm
 rw [aA _ _ _ _ e]
 by_cases e2 : q = nb
 ·subst e2
  rw [aG, w3 q e fun hq => (H.out q hq).1 rfl]; exact .inr H.nbk.symm
 rw [aA _ _ _ _ e2]
 cases hq : h q with
 |none => exact .inl rfl
 |some o =>
  right
  rw [w3 q e fun hn => by rw [(H.out q hn).2.2] at hq; cases hq]
  exact (H.keep q o hq).symm
@[go_sem] def aL9 : List Nat := [0, 1, 2, 3, 6, 7, 9, 10, 11, 12, 13, 14, 15, 16, 18, 19, 20, 21, 32, 33, 34, 35, 61, 75, 76, 88, 101, 125, 150]
@[go_sem] def a4J : List Nat := [3, 17, 28]
@[go_sem] def a4K : Marks := fun id => match id with | 5 => ([0, 2, 3, 5, 6], (.op 1 (.op 0 (.op 2 (.op 3 (.op 4 (.op 5 (.op 6 .nil))))))), [(0, 2), (0, 3)]) | 10 => ([0, 3, 4, 7, 9, 13, 14, 16], (.op 1 (.op 5 (.op 10 (.op 11 (.op 12 (.op 0 (.op 2 (.op 3 (.op 4 (.op 6 (.op 7 (.op 8 (.op 9 (.op 13 (.op 14 (.op 15 (.op 16 .nil))))))))))))))))), [(0, 14), (3, 14)]) | 15 => ([1, 4, 5, 8, 9, 10], (.op 0 (.op 2 (.op 6 (.op 1 (.op 3 (.op 4 (.op 5 (.op 7 (.op 8 (.op 9 (.op 10 (.op 11 .nil)))))))))))), [(1, 9), (4, 9), (5, 9), (5, 10), (8, 9), (8, 10)]) | 23 => ([2, 4, 5], (.op 0 (.op 1 (.op 3 (.op 2 (.op 4 (.op 5 .nil)))))), [(2, 4)]) | 25 => ([2, 6, 8, 9, 10], (.op 0 (.op 1 (.op 3 (.op 4 (.op 5 (.op 2 (.op 6 (.op 7 (.op 8 (.op 9 (.op 10 .nil))))))))))), [(2, 9)]) | 26 => ([2, 6, 8, 9, 10], (.op 0 (.op 1 (.op 3 (.op 4 (.op 5 (.op 2 (.op 6 (.op 7 (.op 8 (.op 9 (.op 10 .nil))))))))))), [(2, 9)]) | 30 => ([2, 7, 8, 9, 10], (.op 0 (.op 1 (.op 3 (.op 4 (.op 5 (.op 6 (.op 2 (.op 7 (.op 8 (.op 9 (.op 10 .nil))))))))))), [(2, 8), (2, 9)]) | 32 => ([2, 4, 5], (.op 0 (.op 1 (.op 3 (.op 2 (.op 4 (.op 5 .nil)))))), [(2, 4)]) | _ => ([], .nil, [])
set_option maxHeartbeats 4000000 in
theorem aZT (t : jS) {sz : Nat} (hsz : 1 ≤ sz ∧ sz ≤ 1048576) (hins : ∀ i c, t.aS[i]? = some c → cH t.dH i c) (hcl : 1 ≤ t.aS.length ∧ t.aS.length ≤ 3200) (rg : List (List Int)) (hrg : jU sz t.aS.length rg) (ws : List Int) (hws : ws.length = t.aQ.length) (hwn : eD ws) (hol : t.aQ.length ≤ 100) (ho : ∀ r ∈ t.aQ, 0 ≤ r ∧ r < t.aS.length) :
  fL Tryz.prog 77 [.agg t.c, c7 rg, ints ws] (c7 (rI t.aS rg (rV t.aQ ws (List.replicate t.aS.length (yC sz)) t.aQ.length) t.aS.length 0)) := by
 rw [jS.aU]
 refine rP 159 aL9 a4J a4K mix Tryz.func77 rfl (by kernel_rfl) (by simp) fun h => ?_
 simp -dsimp -implicitDefEqProofs only [go_sem, ↓reduceIte, Tryz.f77]
 refine ⟨by decide, fun nb hnb hlc => ?_⟩
 rw [aK]
 have hrl : rg.length = t.aS.length := hrg.1
 refine cS (keep := aL9) (ib := a4J) (mk := a4K) mix (by kernel_rfl) (fun x : Nat × aB => [(1, c7 rg), (2, ints ws), (3, .ip 4 [[I t.dH, eZ 4 bQ.c t.aS, eZ 2 gI.c t.iC, ints t.aQ]] 0 0), (7, .op nb 1 0 0), (18, c7 rg), (19, I rg.length), (20, I x.1)]) (fun x => x.2) (fun x => x.1 ≤ t.aS.length ∧ ((x.1 = 0 ∧ x.2 = aR h nb (.row 1 [[.v (.sl 1 [] true)]])) ∨ ∃ b N, N.length = x.1 ∧ aBB h nb b sz N (List.replicate x.1 (yC sz)) x.2)) (fun x => t.aS.length - x.1) (0, aR h nb (.row 1 [[.v (.sl 1 [] true)]])) ⟨by simp [cV, bZ], aB.le_refl _, Nat.zero_le _, .inl ⟨rfl, rfl⟩⟩ ?_
 rintro ⟨k, g⟩ ⟨hk, hg⟩
 simp only at hk hg ⊢
 rcases Nat.lt_or_ge k t.aS.length with hlt | hge
 ·have er := hrg.get hlt
  have lr := er.2.1
  rcases hg with ⟨rfl, rfl⟩ | ⟨b, N, hN, H⟩
  ·simp -dsimp -implicitDefEqProofs only [go_sem, ↓reduceIte, Tryz.f77, er.1, hrl, hlt, lr]
   refine fun _ => ⟨by decide, Nat.le_refl _, by omega, by omega, fun n ⟨n1, n2⟩ => ?_⟩
   have jP : ¬ n = nb := n1
   have kN : ¬ nb = n := Ne.symm jP
   have gU : (n = nb) = False := eq_false jP
   have gV : (nb = n) = False := eq_false kN
   refine ⟨by rw [aA _ _ _ _ kN, aG], by decide, by decide, by decide, fun b ⟨b1, b2, b3⟩ => ?_⟩
   have dC : ¬ b = nb := b2
   have jO : ¬ nb = b := Ne.symm dC
   have eV : (b = nb) = False := eq_false dC
   have eW : (nb = b) = False := eq_false jO
   have nA : ¬ b = n := b1
   have nP : ¬ n = b := Ne.symm nA
   have kH : (b = n) = False := eq_false nA
   have kI : (n = b) = False := eq_false nP
   simp -dsimp -implicitDefEqProofs only [go_sem, ↓reduceIte, Tryz.f77, gU, kI, gV, eW, kH, eV, aA, aM, aL8]
   exact ⟨(1, _), ⟨hrl.symm, IntWalk.i64_in _ (by omega)⟩, aB.le_refl _, ⟨hlt, .inr ⟨b, [n], rfl, aBB.first hnb n1 n2 b1 b2 b3⟩⟩, by simp only; omega⟩
  ·have hb := H.bk
   have hnb := H.nbk
   simp -dsimp -implicitDefEqProofs only [go_sem, ↓reduceIte, Tryz.f77, er.1, hrl, hlt, lr, hnb, hb]
   refine fun _ => ⟨by decide, Nat.le_refl _, by omega, by omega, fun n n2 => ?_⟩
   obtain ⟨f1, f2, f3, f4⟩ := H.free n2
   have jP : ¬ n = nb := f1
   have kN : ¬ nb = n := Ne.symm jP
   have gU : (n = nb) = False := eq_false jP
   have gV : (nb = n) = False := eq_false kN
   have nP : ¬ n = b := f2
   have nA : ¬ b = n := Ne.symm nP
   have kI : (n = b) = False := eq_false nP
   have kH : (b = n) = False := eq_false nA
   refine ⟨by rw [aA _ _ _ _ kN]; exact hnb, by decide, by decide, by decide, ?_⟩
   have dC : ¬ b = nb := H.bn.2.2
   have jO : ¬ nb = b := Ne.symm dC
   have eV : (b = nb) = False := eq_false dC
   have eW : (nb = b) = False := eq_false jO
   simp -dsimp -implicitDefEqProofs only [go_sem, ↓reduceIte, Tryz.f77, gU, kI, gV, eW, kH, eV, aA, hnb, hb]
   refine ⟨Nat.le_refl _, by omega, by omega, fun c ⟨c1, c2⟩ => ?_⟩
   obtain ⟨x1, x2, x3, x4⟩ := H.free c2
   have aZU : ¬ c = nb := x1
   have bBA : ¬ nb = c := Ne.symm aZU
   have bBB : (c = nb) = False := eq_false aZU
   have bBC : (nb = c) = False := eq_false bBA
   have aPO : ¬ c = b := x2
   have aZV : ¬ b = c := Ne.symm aPO
   have a7I : (c = b) = False := eq_false aPO
   have a7J : (b = c) = False := eq_false aZV
   have a7K : ¬ c = n := c1
   have bJK : ¬ n = c := Ne.symm a7K
   have bJL : (c = n) = False := eq_false a7K
   have bJM : (n = c) = False := eq_false bJK
   simp -dsimp -implicitDefEqProofs only [go_sem, ↓reduceIte, Tryz.f77, gU, kI, bJM, gV, eW, bBC, kH, eV, a7J, bJL, bBB, a7I, aA, hnb, hb, aL8]
   rw [List.take_of_length_le (by simp)]
   exact ⟨(k + 1, _), ⟨hrl.symm, IntWalk.i64_in _ (by omega)⟩, aB.le_refl _, ⟨hlt, .inr ⟨c, N ++ [n], by rw [List.length_append, hN]; rfl, by rw [List.replicate_succ']; exact H.more n2 c1 c2⟩⟩, by simp only; omega⟩
 ·have hk' : k = t.aS.length := by omega
  subst hk'
  rcases hg with ⟨h0, _⟩ | ⟨b, N, hN, H⟩
  ·omega
  simp -dsimp -implicitDefEqProofs only [go_sem, ↓reduceIte, Tryz.f77, hrl, Nat.lt_irrefl, Int.lt_irrefl]
  refine fun _ => ?_
  clear hk hge
  have hsw : ∀ k, k ≤ t.aQ.length → jU sz t.aS.length (rV t.aQ ws (List.replicate t.aS.length (yC sz)) k) := fun k => by
   induction k with
   |zero => exact fun _ => hN ▸ H.ser
   |succ k ih =>
    intro hk
    have h1 := ih (by omega)
    have hr := ho (t.aQ.getD k 0) (by rw [List.getD_eq_getElem?_getD, List.getElem?_eq_getElem (by omega)]; exact List.getElem_mem _)
    have h2 := (h1.get (i := (t.aQ.getD k 0).toNat) (by omega)).2
    refine h1.set ⟨by rw [List.length_set]; exact h2.1, fun x hx => ?_⟩ _
    rcases List.mem_or_eq_of_mem_set hx with hx | rfl
    ·exact h2.2 x hx
    ·exact mZ _
  refine cS (keep := aL9) (ib := a4J) (mk := a4K) mix (by kernel_rfl) (fun x : Nat × aB => [(1, c7 rg), (2, ints ws), (3, .ip 4 [[I t.dH, eZ 4 bQ.c t.aS, eZ 2 gI.c t.iC, ints t.aQ]] 0 0), (7, .op nb 1 0 0), (32, ints t.aQ), (33, I t.aQ.length), (34, I x.1)]) (fun x => x.2) (fun x => x.1 ≤ t.aQ.length ∧ aBB h nb b sz N (rV t.aQ ws (List.replicate t.aS.length (yC sz)) x.1) x.2) (fun x => t.aQ.length - x.1) (0, g) ⟨by simp [cV, bZ], aB.le_refl _, Nat.zero_le _, H⟩ ?_
  clear H g
  rintro ⟨k, g⟩ ⟨hk, H⟩
  simp only at hk H ⊢
  have hb := H.bk
  have bBD := H.nbk
  rcases Nat.lt_or_ge k t.aQ.length with hlt | hge
  ·have eo : t.aQ[k]? = some (t.aQ.getD k 0) := dS hlt
   have ew : ws[k]? = some (ws.getD k 0) := dS (by omega)
   have hr := ho _ (List.mem_of_getElem? eo)
   have hsn := hsw (k + 1) hlt
   have hs0 := hsw k (by omega)
   have hst : rV t.aQ ws (List.replicate t.aS.length (yC sz)) (k + 1) = (rV t.aQ ws (List.replicate t.aS.length (yC sz)) k).set (t.aQ.getD k 0).toNat (((rV t.aQ ws (List.replicate t.aS.length (yC sz)) k).getD (t.aQ.getD k 0).toNat []).set 0 ((((rV t.aQ ws (List.replicate t.aS.length (yC sz)) k).getD (t.aQ.getD k 0).toNat []).getD 0 0 + ws.getD k 0) % 1000003)) := rfl
   generalize hA1 : rV t.aQ ws (List.replicate t.aS.length (yC sz)) (k + 1) = A1 at *
   generalize rV t.aQ ws (List.replicate t.aS.length (yC sz)) k = A at *
   generalize t.aQ.getD k 0 = r at *
   have er : N[r.toNat]? = some (N[r.toNat]'(by omega)) := List.getElem?_eq_getElem (by omega)
   generalize N[r.toNat]'(by omega) = n at er
   have hgn := H.get _ _ er
   have hq := hs0.get (i := r.toNat) (by omega)
   have e0 : (A.getD r.toNat [])[Int.toNat 0]? = some ((A.getD r.toNat []).getD 0 0) := dS (by rw [hq.2.1]; exact hsz.1)
   have hout := H.out n (List.mem_of_getElem? er)
   have jP : ¬ n = nb := hout.1
   have kN : ¬ nb = n := Ne.symm jP
   have gU : (n = nb) = False := eq_false jP
   have gV : (nb = n) = False := eq_false kN
   have nP : ¬ n = b := hout.2.1
   have nA : ¬ b = n := Ne.symm nP
   have kI : (n = b) = False := eq_false nP
   have kH : (b = n) = False := eq_false nA
   have dC : ¬ b = nb := H.bn.2.2
   have jO : ¬ nb = b := Ne.symm dC
   have eV : (b = nb) = False := eq_false dC
   have eW : (nb = b) = False := eq_false jO
   unfold sS at hgn
   simp -dsimp -implicitDefEqProofs only [go_sem, ↓reduceIte, Tryz.f77, eo, ew, hlt, bBD, hb, er, hgn, e0, gU, kI, gV, eW, kH, eV, aA]
   have n1 := hq.2.2.get 0
   have n2 := hwn.get k
   refine ⟨by omega, hr.1, by omega, hr.1, by omega, by omega, aH.mk (aDY _ _) ?_⟩
   simp -dsimp -implicitDefEqProofs only [go_sem, ↓reduceIte, Tryz.f77, eo, ew, hlt, bBD, hb, er, hgn, e0, gU, kI, gV, eW, kH, eV, aA]
   have hrow : bP.row 1 ((((A.getD r.toNat []).map fun n => [I n]).map (List.map Cell.v)).set (Int.toNat 0) [Cell.v (I (((A.getD r.toNat []).getD 0 0 + ws.getD k 0) % 1000003))]) = sS ((A.getD r.toNat []).set 0 (((A.getD r.toNat []).getD 0 0 + ws.getD k 0) % 1000003)) := by
    rw [show Int.toNat 0 = 0 from rfl, vB I]; rfl
   have hset := H.set er (s := (A.getD r.toNat []).set 0 (((A.getD r.toNat []).getD 0 0 + ws.getD k 0) % 1000003)) ⟨by rw [List.length_set]; exact hq.2.1, fun x hx => by
    rcases List.mem_or_eq_of_mem_set hx with hx | rfl
    ·exact hq.2.2 x hx
    ·exact mZ _⟩
   rw [← hst] at hset
   refine ⟨by omega, (k + 1, _), IntWalk.i64_in _ (by omega), by rw [hrow]; exact aB.le_refl _, ⟨hlt, ?_⟩, by simp only; omega⟩
   simp only [hA1]
   exact hset
  ·have hk' : k = t.aQ.length := by omega
   subst hk'
   simp -dsimp -implicitDefEqProofs only [go_sem, ↓reduceIte, Tryz.f77, Nat.lt_irrefl, Int.lt_irrefl]
   refine fun _ => ?_
   have hs0 := hsw _ (Nat.le_refl _)
   have hsl := H.seal
   generalize rV t.aQ ws (List.replicate t.aS.length (yC sz)) t.aQ.length = A0 at *
   clear hb bBD
   rw [hN] at hsl
   refine aB2 (keep := aL9) (ib := a4J) (mk := a4K) mix (by kernel_rfl) (fun x : Nat => [(1, c7 rg), (3, .ip 4 [[I t.dH, eZ 4 bQ.c t.aS, eZ 2 gI.c t.iC, ints t.aQ]] 0 0), (7, .op nb 1 0 0), (12, I ((x : Int) - 1))]) (fun x => aR (aR h nb (.row 1 [[.v (.os b 1 0 t.aS.length)]])) b (jJ (rI t.aS rg A0 (t.aS.length - x) x))) (fun x => x ≤ t.aS.length) (fun x => x) t.aS.length ⟨?_, ?_, Nat.le_refl _⟩ ?_
   ·have wl : IntKind.i64.wrap ((t.aS.length : Int) - 1) = t.aS.length - 1 := IntWalk.i64_in _ (by omega)
    simp [cV, bZ, wl]
   ·rw [Nat.sub_self]; exact hsl
   obtain ⟨bn1, bn2, bn3⟩ := H.bn
   have dC : ¬ b = nb := bn3
   have jO : ¬ nb = b := Ne.symm dC
   have eV : (b = nb) = False := eq_false dC
   have eW : (nb = b) = False := eq_false jO
   intro x hx
   cases x with
   |zero =>
    simp -dsimp -implicitDefEqProofs only [go_sem, ↓reduceIte, Tryz.f77, eV, eW, aA]
    refine ⟨fun q => absurd q (by omega), fun _ => ?_⟩
    exact l3 _ bn1 (by
     intro q_
     simp only [aM, Nat.sub_zero]
     by_cases e1 : q_ = b
     ·rw [if_pos e1, if_pos e1]; exact .inr rfl
     ·rw [if_neg e1, if_neg e1]
      by_cases e2 : q_ = nb
      ·subst e2; exact .inl hnb
      ·rw [if_neg e2]; exact .inr rfl) (tP hsz hins hrg hs0 t.aS.length 0 rfl).1.symm
   |succ y =>
    have hst : rI t.aS rg A0 (t.aS.length - y) y = nR (t.aS.getD y ⟨0, 0, 0, 0⟩) rg y (rI t.aS rg A0 (t.aS.length - (y + 1)) (y + 1)) := by
     rw [show t.aS.length - y = (t.aS.length - (y + 1)) + 1 by omega, rI]
    have hA := tP hsz hins hrg hs0 (t.aS.length - (y + 1)) (y + 1) (by omega)
    generalize rI t.aS rg A0 (t.aS.length - (y + 1)) (y + 1) = A at *
    have ec : t.aS[y]? = some t.aS[y] := List.getElem?_eq_getElem (by omega)
    have hin := hins y _ ec
    rw [show t.aS.getD y ⟨0, 0, 0, 0⟩ = t.aS[y] by rw [List.getD_eq_getElem?_getD, ec]; rfl] at hst
    generalize t.aS[y] = c at *
    have eA := hA.get (i := y) (by omega)
    have wy : ((y + 1 : Nat) : Int) - 1 = (y : Int) := by omega
    have wy2 : IntKind.i64.wrap ((y : Int) - 1) = (y : Int) - 1 := IntWalk.i64_in _ (by omega)
    rw [wy]
    simp -dsimp -implicitDefEqProofs only [go_sem, ↓reduceIte, Tryz.f77, ec, jJ, eA.1, eV, eW, aA, wy2, bQ.aU]
    refine ⟨by omega, by omega, fun n ⟨n1, n2, n3⟩ => ?_⟩
    have nP : ¬ n = b := n1
    have nA : ¬ b = n := Ne.symm nP
    have kI : (n = b) = False := eq_false nP
    have kH : (b = n) = False := eq_false nA
    have jP : ¬ n = nb := n2
    have kN : ¬ nb = n := Ne.symm jP
    have gU : (n = nb) = False := eq_false jP
    have gV : (nb = n) = False := eq_false kN
    refine ⟨⟨by rw [aA _ _ _ _ nA, aG], by rw [aA _ _ _ _ kN, aA _ _ _ _ jO, aG]⟩, ⟨by rw [aA _ _ _ _ nA], by rw [aA _ _ _ _ kN]⟩, ?_⟩
    simp only [aK]
    have hnext : ∀ g : aB, (aR (aR h nb (.row 1 [[.v (.os b 1 0 t.aS.length)]])) b (jJ (nR c rg y A))).le g → ∃ x' : Nat, (y : Int) - 1 = (x' : Int) - 1 ∧ (aR (aR h nb (.row 1 [[.v (.os b 1 0 t.aS.length)]])) b (jJ (rI t.aS rg A0 (t.aS.length - x') x'))).wk g ∧ x' ≤ t.aS.length ∧ x' < y + 1 := fun g l => ⟨y, rfl, by rw [hst]; exact aB.jN l, by omega, Nat.lt_succ_self _⟩
    have aZW : ∀ (X Y R Z : bP), (aR (aR h nb X) b Y).le (aR (aR (aR (aR h nb X) b Z) n R) b Y) := fun X Y R Z q_ => by
     by_cases e1 : q_ = b
     ·rw [e1, aG, aG]; exact .inr rfl
     rw [aA _ _ _ _ e1, aA _ _ _ _ e1]
     by_cases e2 : q_ = n
     ·rw [e2, aA _ _ _ _ n2]; exact .inl n3
     ·rw [aA _ _ _ _ e2, aA _ _ _ _ e1]; exact .inr rfl
    have aL6 : ∀ (X Y R : bP), (aR (aR h nb X) b Y).le (aR (aR (aR h nb X) b Y) n R) := fun X Y R => aB.aY (by rw [aA _ _ _ _ n1, aA _ _ _ _ n2]; exact n3) (aB.le_refl _)
    have hown := eA.2
    have gnb : ∀ (X Y R : bP), (aR (aR (aR h nb X) b Y) n R) nb = some X := fun X Y R => by rw [aA _ _ _ _ kN, aA _ _ _ _ jO, aG]
    have a4L : ∀ (X Y R W : bP), (aR (aR (aR (aR h nb X) b Y) n R) b W) nb = some X := fun X Y R W => by rw [aA _ _ _ _ jO, aA _ _ _ _ kN, aA _ _ _ _ jO, aG]
    have gb1 : ∀ (X Y R : bP), (aR (aR (aR h nb X) b Y) n R) b = some Y := fun X Y R => by rw [aA _ _ _ _ nA, aG]
    rcases (show c.j0 = 1 ∨ c.j0 = 2 ∨ c.j0 = 3 ∨ c.j0 = 4 ∨ c.j0 = 5 ∨ c.j0 = 6 ∨ c.j0 = 7 by unfold cH at hin; omega) with h1 | h1 | h1 | h1 | h1 | h1 | h1
    ·simp -dsimp -implicitDefEqProofs only [go_sem, ↓reduceIte, Tryz.f77, h1]
     refine hnext _ ?_
     rw [nR, if_neg (by omega), if_neg (by omega), if_neg (by omega), if_neg (by omega), if_neg (by omega)]
     exact aL6 _ _ _
    ·simp -dsimp -implicitDefEqProofs only [go_sem, ↓reduceIte, Tryz.f77, h1]
     refine hnext _ ?_
     rw [nR, if_neg (by omega), if_neg (by omega), if_neg (by omega), if_neg (by omega), if_neg (by omega)]
     exact aL6 _ _ _
    ·have i0 : (0 ≤ c.fA ∧ c.fA < y) ∧ 0 ≤ c.fB ∧ c.fB < y := by unfold cH at hin; omega
     have era := hrg.get (i := c.fA.toNat) (by omega)
     have erb := hrg.get (i := c.fB.toNat) (by omega)
     have ery := hrg.get (i := y) (by omega)
     simp -dsimp -implicitDefEqProofs only [go_sem, ↓reduceIte, Tryz.f77, h1]
     refine aH.fG (aL7 hsz hA (r := c.fA) ⟨i0.1.1, by omega⟩ hown (gnb _ _ _) (gb1 _ _ _)) ?_
     rintro r_ h' rfl
     simp -dsimp -implicitDefEqProofs only [go_sem, ↓reduceIte, Tryz.f77, h1, kI, gU, kH, eV, gV, eW, aA]
     refine aH.fG (aL7 hsz (hA.put (r := c.fA) (by omega) hown) (r := c.fB) ⟨i0.2.1, by omega⟩ hown (a4L _ _ _ _) (aG _ _ _)) ?_
     rintro r_ h' rfl
     rw [aK]
     simp -dsimp -implicitDefEqProofs only [go_sem, ↓reduceIte, Tryz.f77, wy2]
     refine hnext _ ?_
     rw [nR, if_pos h1]
     exact aZW _ _ _ _
    ·have i0 : (0 ≤ c.fA ∧ c.fA < y) ∧ 0 ≤ c.fB ∧ c.fB < y := by unfold cH at hin; omega
     have era := hrg.get (i := c.fA.toNat) (by omega)
     have erb := hrg.get (i := c.fB.toNat) (by omega)
     have ery := hrg.get (i := y) (by omega)
     simp -dsimp -implicitDefEqProofs only [go_sem, ↓reduceIte, Tryz.f77, h1]
     refine aH.fG (aL7 hsz hA (r := c.fA) ⟨i0.1.1, by omega⟩ hown (gnb _ _ _) (gb1 _ _ _)) ?_
     rintro r_ h' rfl
     simp -dsimp -implicitDefEqProofs only [go_sem, ↓reduceIte, Tryz.f77, h1, kI, gU, kH, eV, gV, eW, aA]
     refine aH.mk (scaled _ 1000002 (by unfold jA; omega) (by rw [hown.1]; omega) hown.2) ?_
     simp -dsimp -implicitDefEqProofs only [go_sem, ↓reduceIte, Tryz.f77, h1, kI, gU, kH, eV, gV, eW, aA]
     refine aH.fG (aL7 hsz (hA.put (r := c.fA) (by omega) hown) (r := c.fB) ⟨i0.2.1, by omega⟩ (fS _ hown) (a4L _ _ _ _) (aG _ _ _)) ?_
     rintro r_ h' rfl
     rw [aK]
     simp -dsimp -implicitDefEqProofs only [go_sem, ↓reduceIte, Tryz.f77, wy2]
     refine hnext _ ?_
     rw [nR, if_neg (by omega), if_pos h1]
     exact aZW _ _ _ _
    ·have i0 : (0 ≤ c.fA ∧ c.fA < y) ∧ 0 ≤ c.fB ∧ c.fB < y := by unfold cH at hin; omega
     have era := hrg.get (i := c.fA.toNat) (by omega)
     have erb := hrg.get (i := c.fB.toNat) (by omega)
     have ery := hrg.get (i := y) (by omega)
     simp -dsimp -implicitDefEqProofs only [go_sem, ↓reduceIte, Tryz.f77, h1, era.1, erb.1, hrl]
     simp only [aK]
     refine ⟨i0.2.1, by omega, aH.mk (product _ _ (by rw [erb.2.1, hown.1]) (by rw [hown.1]; omega) hown.2 erb.2.2) ?_⟩
     simp -dsimp -implicitDefEqProofs only [go_sem, ↓reduceIte, Tryz.f77, h1]
     refine aH.fG (aL7 hsz hA (r := c.fA) ⟨i0.1.1, by omega⟩ (hH _ hown) (gnb _ _ _) (gb1 _ _ _)) ?_
     rintro r_ h' rfl
     simp -dsimp -implicitDefEqProofs only [go_sem, ↓reduceIte, Tryz.f77, h1, kI, gU, kH, eV, gV, eW, aA, era.1, hrl]
     refine ⟨i0.1.1, by omega, aH.mk (product _ _ (by rw [era.2.1, hown.1]) (by rw [hown.1]; omega) hown.2 era.2.2) ?_⟩
     simp -dsimp -implicitDefEqProofs only [go_sem, ↓reduceIte, Tryz.f77, h1, kI, gU, kH, eV, gV, eW, aA]
     refine aH.fG (aL7 hsz (hA.put (r := c.fA) (by omega) (hH _ hown)) (r := c.fB) ⟨i0.2.1, by omega⟩ (hH _ hown) (a4L _ _ _ _) (aG _ _ _)) ?_
     rintro r_ h' rfl
     rw [aK]
     simp -dsimp -implicitDefEqProofs only [go_sem, ↓reduceIte, Tryz.f77, wy2]
     refine hnext _ ?_
     rw [nR, if_neg (by omega), if_neg (by omega), if_pos h1]
     exact aZW _ _ _ _
    ·have i0 : (0 ≤ c.fA ∧ c.fA < y) ∧ 0 ≤ c.fB ∧ c.fB < y := by unfold cH at hin; omega
     have era := hrg.get (i := c.fA.toNat) (by omega)
     have erb := hrg.get (i := c.fB.toNat) (by omega)
     have ery := hrg.get (i := y) (by omega)
     simp -dsimp -implicitDefEqProofs only [go_sem, ↓reduceIte, Tryz.f77, h1, era.1, erb.1, hrl]
     simp only [aK]
     have hpart := pR (rg.getD c.fB.toNat []) hown
     refine ⟨i0.2.1, by omega, aH.mk (quotient _ _ (by rw [erb.2.1, hown.1]) (by rw [hown.1]; omega) (by rw [hown.1]; omega) hown.2 erb.2.2) ?_⟩
     simp -dsimp -implicitDefEqProofs only [go_sem, ↓reduceIte, Tryz.f77, h1]
     refine aH.fG (aL7 hsz hA (r := c.fA) ⟨i0.1.1, by omega⟩ hpart (gnb _ _ _) (gb1 _ _ _)) ?_
     rintro r_ h' rfl
     simp -dsimp -implicitDefEqProofs only [go_sem, ↓reduceIte, Tryz.f77, h1, kI, gU, kH, eV, gV, eW, aA, ery.1, hrl]
     refine ⟨by omega, aH.mk (product _ _ (by rw [ery.2.1, hpart.1]) (by rw [hpart.1]; omega) hpart.2 ery.2.2) ?_⟩
     simp -dsimp -implicitDefEqProofs only [go_sem, ↓reduceIte, Tryz.f77, h1, kI, gU, kH, eV, gV, eW, aA]
     refine aH.mk (scaled _ 1000002 (by unfold jA; omega) (by rw [(hH _ hpart).1]; omega) (hH _ hpart).2) ?_
     simp -dsimp -implicitDefEqProofs only [go_sem, ↓reduceIte, Tryz.f77, h1, kI, gU, kH, eV, gV, eW, aA]
     refine aH.fG (aL7 hsz (hA.put (r := c.fA) (by omega) hpart) (r := c.fB) ⟨i0.2.1, by omega⟩ (fS _ (hH _ hpart)) (a4L _ _ _ _) (aG _ _ _)) ?_
     rintro r_ h' rfl
     rw [aK]
     simp -dsimp -implicitDefEqProofs only [go_sem, ↓reduceIte, Tryz.f77, wy2]
     refine hnext _ ?_
     rw [nR, if_neg (by omega), if_neg (by omega), if_neg (by omega), if_pos h1]
     exact aZW _ _ _ _
    ·have i0 : 0 ≤ c.fA ∧ c.fA < y := by unfold cH at hin; omega
     simp -dsimp -implicitDefEqProofs only [go_sem, ↓reduceIte, Tryz.f77, h1]
     refine aH.mk (scaled _ 1000002 (by unfold jA; omega) (by rw [hown.1]; omega) hown.2) ?_
     simp -dsimp -implicitDefEqProofs only [go_sem, ↓reduceIte, Tryz.f77, h1, kI, gU, kH, eV, gV, eW, aA]
     refine aH.fG (aL7 hsz hA (r := c.fA) ⟨i0.1, by omega⟩ (fS _ hown) (gnb _ _ _) (gb1 _ _ _)) ?_
     rintro r_ h' rfl
     simp -dsimp -implicitDefEqProofs only [go_sem, ↓reduceIte, Tryz.f77, wy2]
     refine hnext _ ?_
     rw [nR, if_neg (by omega), if_neg (by omega), if_neg (by omega), if_neg (by omega), if_pos h1]
     exact aZW _ _ _ _
set_option maxRecDepth 100000
open Go.Proofs
set_option linter.unusedVariables false
set_option linter.unusedSimpArgs false
def byK (code : List bQ) (L : List (List Int)) (sz inp : Nat) : Nat → List (List Int)
 |0 => List.replicate inp (yC sz)
 |k + 1 => if (code.getD k ⟨0, 0, 0, 0⟩).j0 = 1 then (byK code L sz inp k).set (code.getD k ⟨0, 0, 0, 0⟩).bC.toNat (j5 ((byK code L sz inp k).getD (code.getD k ⟨0, 0, 0, 0⟩).bC.toNat []) (L.getD k [])) else byK code L sz inp k
theorem zY {sz : Nat} {code : List bQ} {inp : Nat} (hins : ∀ i c, code[i]? = some c → cH inp i c) {L : List (List Int)} (hL : jU sz code.length L) : ∀ k, k ≤ code.length → jU sz inp (byK code L sz inp k)
 |0, _ => ⟨by simp [byK], fun s hs => by rw [(List.mem_replicate.1 hs).2]; exact aH6 sz⟩
 |k + 1, h => by
  have ih := zY hins hL k (by omega)
  have ec : code[k]? = some code[k] := List.getElem?_eq_getElem (by omega)
  have hc := hins k _ ec
  rw [byK, show code.getD k ⟨0, 0, 0, 0⟩ = code[k] by rw [List.getD_eq_getElem?_getD, ec]; rfl]
  split
  ·rename_i h1
   unfold cH at hc
   exact ih.set (q0 (ih.get (by omega)).2 (hL.get (by omega)).2) _
  ·exact ih
@[go_sem] def aRL : List Nat := [0, 1, 2, 4, 5, 6, 7, 8, 12, 18, 19, 20, 28, 29, 30, 31, 37]
@[go_sem] def bBE : List Nat := [2, 24]
@[go_sem] def bBF : Marks := fun id => match id with | 12 => ([2, 5, 7, 14], (.op 0 (.op 1 (.op 3 (.op 4 (.op 8 (.op 9 (.op 10 (.op 11 (.op 2 (.op 5 (.op 6 (.op 7 (.op 12 (.op 13 (.op 14 .nil))))))))))))))), []) | _ => ([], .nil, [])
set_option maxHeartbeats 4000000 in
theorem aZX (t : jS) {sz inp : Nat} (hsz : 1 ≤ sz ∧ sz ≤ 1048576) (hinp : t.dH = inp) (bJO : inp ≤ 12) (hins : ∀ i c, t.aS[i]? = some c → cH inp i c) (hcl : 1 ≤ t.aS.length ∧ t.aS.length ≤ 3200) (L : List (List Int)) (hL : jU sz t.aS.length L) :
  fL Tryz.prog 44 [.agg t.c, c7 L] (c7 (byK t.aS L sz inp t.aS.length)) := by
 rw [jS.aU, hinp]
 have e0 := hL.get (i := 0) (by omega)
 have ll := hL.1
 have e00 : L[Int.toNat 0]? = some (L.getD 0 []) := e0.1
 have l0 := e0.2.1
 refine rP 54 aRL bBE bBF mix Tryz.func44 rfl (by kernel_rfl) (by simp) fun h => ?_
 simp -dsimp -implicitDefEqProofs only [go_sem, ↓reduceIte, Tryz.f44, e00, ll, l0]
 refine ⟨by decide, fun b0 hb0 _ => ⟨fun _ => ⟨by omega, fun _ => ?_⟩, fun q => absurd (by omega) q⟩⟩
 refine aB2 (keep := aRL) (ib := bBE) (mk := bBF) mix (by kernel_rfl) (fun x : Nat × Nat => [(1, c7 L), (2, .ip 4 [[I inp, eZ 4 bQ.c t.aS, eZ 2 gI.c t.iC, ints t.aQ]] 0 0), (5, .os x.2 1 0 x.1), (6, I sz), (18, I inp), (19, I x.1)]) (fun x => aR h x.2 (jJ (List.replicate x.1 (yC sz)))) (fun x => x.1 ≤ inp ∧ h x.2 = none) (fun x => inp - x.1) (0, b0) ⟨by simp [cV, bZ], aB.jN (aB.le_refl _), Nat.zero_le _, hb0⟩ ?_
 rintro ⟨k, b⟩ ⟨hk, hb⟩
 simp only at hk hb ⊢
 rcases Nat.lt_or_ge k inp with hlt | hge
 ·simp -dsimp -implicitDefEqProofs only [go_sem, ↓reduceIte, Tryz.f44, hlt, jJ, List.length_replicate]
  refine ⟨by decide, Nat.le_refl _, by omega, by omega, fun m ⟨m1, m2⟩ => ?_⟩
  have lC : ¬ m = b := m1
  have fJ : ¬ b = m := Ne.symm lC
  have kG : (m = b) = False := eq_false lC
  have kF : (b = m) = False := eq_false fJ
  refine ⟨by decide, by decide, by decide, ?_⟩
  simp -dsimp -implicitDefEqProofs only [go_sem, ↓reduceIte, Tryz.f44, kG, kF, aA]
  rw [List.length_replicate]
  refine ⟨Nat.le_refl _, by omega, by omega, fun c ⟨c1, c2, c3⟩ => ?_⟩
  have aZY : ¬ c = m := c1
  have a7L : ¬ m = c := Ne.symm aZY
  have bRX : (c = m) = False := eq_false aZY
  have bRY : (m = c) = False := eq_false a7L
  have aPO : ¬ c = b := c2
  have aZV : ¬ b = c := Ne.symm aPO
  have a7I : (c = b) = False := eq_false aPO
  have a7J : (b = c) = False := eq_false aZV
  have hzl : (yC sz).length = sz := (aH6 sz).1
  refine ⟨(k + 1, c), ⟨rfl, IntWalk.i64_in _ (by omega)⟩, ?_, ⟨hlt, c3⟩, by simp only; omega⟩
  refine aCJ (m := m) (b := c) (List.replicate k (yC sz)) (yC sz) ?_ ?_ aZY ?_
  ·rw [aA _ _ _ _ a7L, aA _ _ _ _ lC, aG]; exact congrArg some (aL8 sz)
  ·rw [aG, List.take_of_length_le (by simp), hzl]
  ·rw [List.replicate_succ']
   intro q_
   by_cases e1 : q_ = c
   ·rw [e1, aG, aG]; exact .inr rfl
   rw [aA _ _ _ _ e1, aA _ _ _ _ e1]
   by_cases e2 : q_ = m
   ·rw [e2]; exact .inl m2
   by_cases e3 : q_ = b
   ·rw [e3]; exact .inl hb
   rw [aA _ _ _ _ e2, aA _ _ _ _ e1, aA _ _ _ _ e3, aA _ _ _ _ e2, aA _ _ _ _ e3]; exact .inr rfl
 ·have hk' : k = inp := by omega
  subst hk'
  simp -dsimp -implicitDefEqProofs only [go_sem, ↓reduceIte, Tryz.f44, Int.lt_irrefl, Nat.lt_irrefl]
  refine fun _ => ?_
  refine cS (keep := aRL) (ib := bBE) (mk := bBF) mix (by kernel_rfl) (fun x : Nat => [(1, c7 L), (5, .os b 1 0 k), (28, eZ 4 bQ.c t.aS), (29, I t.aS.length), (30, I x)]) (fun x => aR h b (jJ (byK t.aS L sz k x))) (fun x => x ≤ t.aS.length) (fun x => t.aS.length - x) 0 ⟨by simp [cV, bZ], aB.le_refl _, Nat.zero_le _⟩ ?_
  intro x hx
  have hB := zY hins hL x hx
  rcases Nat.lt_or_ge x t.aS.length with hlt | aE6
  ·have ec : t.aS[x]? = some t.aS[x] := List.getElem?_eq_getElem hlt
   have hc := hins x _ ec
   have hst : byK t.aS L sz k (x + 1) = if t.aS[x].j0 = 1 then (byK t.aS L sz k x).set t.aS[x].bC.toNat (j5 ((byK t.aS L sz k x).getD t.aS[x].bC.toNat []) (L.getD x [])) else byK t.aS L sz k x := by
    rw [byK, show t.aS.getD x ⟨0, 0, 0, 0⟩ = t.aS[x] by rw [List.getD_eq_getElem?_getD, ec]; rfl]
   generalize byK t.aS L sz k x = A at *
   generalize t.aS[x] = c at *
   have eL := hL.get hlt
   simp -dsimp -implicitDefEqProofs only [go_sem, ↓reduceIte, Tryz.f44, hlt, ec, bQ.aU]
   refine fun n ⟨n1, n2⟩ => ?_
   have nP : ¬ n = b := n1
   have nA : ¬ b = n := Ne.symm nP
   have kI : (n = b) = False := eq_false nP
   have kH : (b = n) = False := eq_false nA
   simp only [aK]
   refine ⟨fun h1 => ?_, fun h1 => ⟨x + 1, IntWalk.i64_in _ (by omega), ?_, hlt, by omega⟩⟩
   ·have hn : 0 ≤ c.bC ∧ c.bC < k := by unfold cH at hc; omega
    have eA := hB.get (i := c.bC.toNat) (by omega)
    have hcall := aAN (added (A.getD c.bC.toNat []) (L.getD x []) (by rw [eL.2.1, eA.2.1]) (by rw [eA.2.1]; omega) (rM eA.2.2) (rM eL.2.2))
    simp -dsimp -implicitDefEqProofs only [go_sem, ↓reduceIte, Tryz.f44, jJ, kI, kH, aA, eA.1, eL.1, ll]
    refine ⟨hlt, hn.1, hn.2, aF.mk hcall ?_⟩
    simp -dsimp -implicitDefEqProofs only [go_sem, ↓reduceIte, Tryz.f44, jJ, kI, kH, aA, eA.1, eL.1, ll]
    refine ⟨hn.1, hn.2, x + 1, IntWalk.i64_in _ (by omega), ?_, hlt, by omega⟩
    rw [hst, if_pos h1]
    have hr := aJ3 A c.bC.toNat (j5 (A.getD c.bC.toNat []) (L.getD x []))
    intro q_
    by_cases e1 : q_ = b
    ·rw [e1, aG, aG]; exact .inr (congrArg some hr.symm)
    rw [aA _ _ _ _ e1, aA _ _ _ _ e1]
    by_cases e2 : q_ = n
    ·rw [e2]; exact .inl n2
    rw [aA _ _ _ _ e2, aA _ _ _ _ e2, aA _ _ _ _ e1]; exact .inr rfl
   ·rw [hst, if_neg h1]
    exact aB.aY (by rw [aA _ _ _ _ n1]; exact n2) (aB.le_refl _)
  ·have hx' : x = t.aS.length := by omega
   subst hx'
   simp -dsimp -implicitDefEqProofs only [go_sem, ↓reduceIte, Tryz.f44, Int.lt_irrefl, Nat.lt_irrefl]
   exact l3 _ hb (aB.le_refl _) hB.1.symm
set_option maxRecDepth 100000
open Go.Proofs
set_option linter.unusedVariables false
set_option linter.unusedSimpArgs false
theorem zE {sz n : Nat} (hsz : 1 ≤ sz) {outs ws : List Int} (ho : ∀ r ∈ outs, 0 ≤ r ∧ r < n) (hwn : eD ws) : ∀ k, k ≤ outs.length → jU sz n (rV outs ws (List.replicate n (yC sz)) k)
 |0, _ => ⟨by simp [rV], fun s hs => by rw [(List.mem_replicate.1 hs).2]; exact aH6 sz⟩
 |k + 1, hk => by
  have h1 := zE hsz ho hwn k (by omega)
  have hr := ho (outs.getD k 0) (by rw [List.getD_eq_getElem?_getD, List.getElem?_eq_getElem (by omega)]; exact List.getElem_mem _)
  have h2 := (h1.get (i := (outs.getD k 0).toNat) (by omega)).2
  refine h1.set ⟨by rw [List.length_set]; exact h2.1, fun x hx => ?_⟩ _
  rcases List.mem_or_eq_of_mem_set hx with hx | rfl
  ·exact h2.2 x hx
  ·exact mZ _
@[go_sem] def bBG : List Nat := [0, 1, 2, 3, 4, 8, 9, 24]
@[go_sem] def bPJ : List Nat := [4, 13]
@[go_sem] def bPK : Marks := fun _ => ([], .nil, [])
theorem a4M (t : jS) (ht : t.ok) (args ws dir : List Int) (h1 : (args.length : Int) = t.dH ∧ eD args) (h2 : (dir.length : Int) = t.dH ∧ eD dir) (h3 : ws.length = t.aQ.length ∧ eD ws) : fL Tryz.prog 74 [.agg t.c, ints args, ints ws, ints dir] (I 0) := by
 have hr := bJC t ht [args, dir] (by simp) (fun l hl => by
  simp only [List.mem_cons, List.not_mem_nil, or_false] at hl
  rcases hl with rfl | rfl
  ·exact h1
  ·exact h2)
 have hn := kL ws t.aQ.length
 rw [decide_eq_true ⟨by omega, h3.2⟩] at hn
 rw [jS.aU] at hr ⊢
 refine fT 26 bBG bPJ bPK mix Tryz.func74 rfl (by kernel_rfl) (by simp) fun h => ?_
 simp -dsimp -implicitDefEqProofs only [go_sem, ↓reduceIte, Tryz.f74]
 refine ⟨by decide, by decide, aH.mk (fL.sub (.cons (.refl _) (.cons (Sub.loose 1 [[ints args], [ints dir]] true) .nil)) hr) ?_⟩
 simp -dsimp -implicitDefEqProofs only [go_sem, ↓reduceIte, Tryz.f74]
 refine fun _ => ?_
 first | refine aH.mk (hn) ?_ | refine aF.mk (hn) ?_ | refine aH.bS (hn) ?_ | refine aF.mk (bM.eQ (hn)) ?_
 simp -dsimp -implicitDefEqProofs only [go_sem, ↓reduceIte, Tryz.f74]
@[go_sem] def bBH : List Nat := [0, 1, 2, 3, 4, 8, 9, 10, 11, 12, 19, 30]
@[go_sem] def bPL : List Nat := [4]
@[go_sem] def bPM : Marks := fun id => match id with | 4 => ([3, 4], (.op 0 (.op 1 (.op 2 (.op 3 (.op 4 (.op 5 (.op 6 (.op 7 (.op 8 (.op 9 .nil)))))))))), []) | _ => ([], .nil, [])
theorem bJP (t : jS) (ht : t.ok) (hins : ∀ i c, t.aS[i]? = some c → cH t.dH i c) (args ws dir : List Int) (h1 : (args.length : Int) = t.dH ∧ eD args) (h2 : (dir.length : Int) = t.dH ∧ eD dir) (h3 : ws.length = t.aQ.length ∧ eD ws) (hc1 : 1 ≤ t.aS.length)
  (hdiv : ∀ (i : Nat) (c : bQ), t.aS[i]? = some c → c.j0 = 6 → ¬ (qD 2 (cY args dir) t.aS c.fB.toNat).getD 0 0 = 0) :
  fL Tryz.prog 42 [.agg t.c, ints args, ints ws, ints dir] (.iI [c7 (rI t.aS (pG 2 (cY args dir) t.aS t.aS.length) (rV t.aQ ws (List.replicate t.aS.length (yC 2)) t.aQ.length) t.aS.length 0), I 0]) := by
 have bJO := ht.inp
 have hlen := nY (args := args) (dir := dir) (by omega)
 have hser := pS h1.2 h2.2
 have hsw := a4M t ht args ws dir h1 h2 h3
 have hl := lines args dir (by omega) (by omega)
 have hrg := aVS t (sz := 2) ⟨by decide, by decide⟩ hins ht.lens.1 (cY args dir) hser (by rw [hlen]; exact h1.1) hdiv
 have hsr : jU 2 t.aS.length (pG 2 (cY args dir) t.aS t.aS.length) := ⟨lE _ _ _ _, fun s hs => by
  obtain ⟨i, hi, rfl⟩ := List.mem_iff_getElem.1 hs
  rw [lE] at hi
  have h := zT (sz := 2) hins hser (by rw [hlen]; exact h1.1) i hi
  rwa [qD, List.getD_eq_getElem?_getD, List.getElem?_eq_getElem (by rw [lE]; exact hi)] at h⟩
 have had := aZT t (sz := 2) ⟨by decide, by decide⟩ hins ⟨hc1, ht.lens.1⟩ _ hsr ws h3.1 h3.2 (by have := ht.lens; omega) (fun r hr => by have := ht.outs r hr; omega)
 rw [show (((2 : Nat) : Int) - 1) = 1 from rfl] at hrg
 rw [jS.aU] at hsw hrg had ⊢
 refine fT 36 bBH bPL bPM mix Tryz.func42 rfl (by kernel_rfl) (by simp) fun h => ?_
 simp -dsimp -implicitDefEqProofs only [go_sem, ↓reduceIte, Tryz.f42]
 first | refine aH.mk (hsw) ?_ | refine aF.mk (hsw) ?_ | refine aH.bS (hsw) ?_ | refine aF.mk (bM.eQ (hsw)) ?_
 simp -dsimp -implicitDefEqProofs only [go_sem, ↓reduceIte, Tryz.f42]
 first | refine aH.mk (hl) ?_ | refine aF.mk (hl) ?_ | refine aH.bS (hl) ?_ | refine aF.mk (bM.eQ (hl)) ?_
 simp -dsimp -implicitDefEqProofs only [go_sem, ↓reduceIte, Tryz.f42]
 first | refine aH.mk (hrg) ?_ | refine aF.mk (hrg) ?_ | refine aH.bS (hrg) ?_ | refine aF.mk (bM.eQ (hrg)) ?_
 simp -dsimp -implicitDefEqProofs only [go_sem, ↓reduceIte, Tryz.f42]
 first | refine aH.mk (had) ?_ | refine aF.mk (had) ?_ | refine aH.bS (had) ?_ | refine aF.mk (bM.eQ (had)) ?_
 simp -dsimp -implicitDefEqProofs only [go_sem, ↓reduceIte, Tryz.f42]
@[go_sem] def bBI : List Nat := [0, 1, 2, 3, 6, 7, 8, 9, 19]
@[go_sem] def bPN : List Nat := [3]
@[go_sem] def bPO : Marks := fun _ => ([], .nil, [])
theorem aPP (t : jS) {inp : Nat} (hinp : t.dH = inp) (ht : t.ok) (hins : ∀ i c, t.aS[i]? = some c → cH inp i c) (args ws : List Int) (h1 : args.length = inp ∧ eD args) (h3 : ws.length = t.aQ.length ∧ eD ws) (hc1 : 1 ≤ t.aS.length)
  (hdiv : ∀ (i : Nat) (c : bQ), t.aS[i]? = some c → c.j0 = 6 → ¬ (qD 2 (cY args args) t.aS c.fB.toNat).getD 0 0 = 0) :
  fL Tryz.prog 19 [.agg t.c, ints args, ints ws] (.iI [ints ((byK t.aS (rI t.aS (pG 2 (cY args args) t.aS t.aS.length) (rV t.aQ ws (List.replicate t.aS.length (yC 2)) t.aQ.length) t.aS.length 0) 2 inp t.aS.length).map (·.getD 0 0)), I 0]) := by
 have bJO := ht.inp
 have ha1 : (args.length : Int) = t.dH ∧ eD args := ⟨by omega, h1.2⟩
 have bJQ : ∀ i c, t.aS[i]? = some c → cH t.dH i c := by rw [hinp]; exact hins
 have hsw := bJP t ht bJQ args ws args ha1 ha1 h3 hc1 hdiv
 have hser := pS (args := args) (dir := args) h1.2 h1.2
 have hlen := nY (args := args) (dir := args) rfl
 have hsr : jU 2 t.aS.length (pG 2 (cY args args) t.aS t.aS.length) := ⟨lE _ _ _ _, fun s hs => by
  obtain ⟨i, hi, rfl⟩ := List.mem_iff_getElem.1 hs
  rw [lE] at hi
  have h := zT (sz := 2) hins hser (by rw [hlen, h1.1]) i hi
  rwa [qD, List.getD_eq_getElem?_getD, List.getElem?_eq_getElem (by rw [lE]; exact hi)] at h⟩
 generalize pG 2 (cY args args) t.aS t.aS.length = rg at *
 have hA0 : jU 2 t.aS.length (rV t.aQ ws (List.replicate t.aS.length (yC 2)) t.aQ.length) := zE (by decide) (fun r hr => by have := ht.outs r hr; omega) h3.2 _ (Nat.le_refl _)
 generalize rV t.aQ ws (List.replicate t.aS.length (yC 2)) t.aQ.length = A0 at *
 have hA := tP (sz := 2) ⟨by decide, by decide⟩ hins hsr hA0 t.aS.length 0 rfl
 generalize rI t.aS rg A0 t.aS.length 0 = A at *
 have hby := aZX t (sz := 2) ⟨by decide, by decide⟩ hinp (by omega) hins ⟨hc1, ht.lens.1⟩ A hA
 have hB := zY hins hA t.aS.length (Nat.le_refl _)
 generalize byK t.aS A 2 inp t.aS.length = B at *
 have hf := xE B (by have := hB.1; omega) (fun s hs => by have := (hB.2 s hs).1; omega)
 rw [jS.aU] at hsw hby ⊢
 refine fT 25 bBI bPN bPO mix Tryz.func19 rfl (by kernel_rfl) (by simp) fun h => ?_
 simp -dsimp -implicitDefEqProofs only [go_sem, ↓reduceIte, Tryz.f19]
 first | refine aH.mk (hsw) ?_ | refine aF.mk (hsw) ?_ | refine aH.bS (hsw) ?_ | refine aF.mk (bM.eQ (hsw)) ?_
 simp -dsimp -implicitDefEqProofs only [go_sem, ↓reduceIte, Tryz.f19]
 first | refine aH.mk (hby) ?_ | refine aF.mk (hby) ?_ | refine aH.bS (hby) ?_ | refine aF.mk (bM.eQ (hby)) ?_
 simp -dsimp -implicitDefEqProofs only [go_sem, ↓reduceIte, Tryz.f19]
 first | refine aH.mk (hf) ?_ | refine aF.mk (hf) ?_ | refine aH.bS (hf) ?_ | refine aF.mk (bM.eQ (hf)) ?_
 simp -dsimp -implicitDefEqProofs only [go_sem, ↓reduceIte, Tryz.f19]
open Go.Proofs
set_option linter.unusedVariables false
set_option linter.unusedSimpArgs false
def Cg (x y : Int) : Prop := ∃ q : Int, x = y + 1000003 * q
theorem Cg.refl (x : Int) : Cg x x := ⟨0, by omega⟩
theorem Cg.symm {x y : Int} (h : Cg x y) : Cg y x := by obtain ⟨q, h⟩ := h; exact ⟨-q, by omega⟩
theorem Cg.trans {x y z : Int} (h : Cg x y) (k : Cg y z) : Cg x z := by obtain ⟨q, h⟩ := h; obtain ⟨r, k⟩ := k; exact ⟨q + r, by omega⟩
theorem Cg.add {a b c d : Int} (h : Cg a b) (k : Cg c d) : Cg (a + c) (b + d) := by obtain ⟨q, h⟩ := h; obtain ⟨r, k⟩ := k; exact ⟨q + r, by omega⟩
theorem Cg.mul {a b c d : Int} (h : Cg a b) (k : Cg c d) : Cg (a * c) (b * d) := by
 obtain ⟨q, rfl⟩ := h; obtain ⟨r, rfl⟩ := k; exact ⟨q * d + b * r + 1000003 * q * r, by grind⟩
theorem Cg.mod (x : Int) : Cg (x % 1000003) x := ⟨-(x / 1000003), by omega⟩
theorem Cg.of_eq {x y : Int} (h : x = y) : Cg x y := h ▸ Cg.refl x
theorem Cg.num {x y : Int} (h : Cg x y) (hx : jA x) (hy : jA y) : x = y := by
 obtain ⟨q, h⟩ := h
 unfold jA at hx hy
 omega
theorem Cg.neg (x : Int) : Cg (x * 1000002 % 1000003) (-x) := (Cg.mod _).trans ⟨x, by omega⟩
def pX (A : List (List Int)) (k : Nat) : Int := (A.getD k []).getD 0 0
def pI (a d : Nat → Int) : Nat → Int
 |0 => 0
 |m + 1 => pI a d m + a m * d m
theorem aJ4 {a a' d : Nat → Int} : ∀ m, (∀ k, k < m → a' k = a k) → pI a' d m = pI a d m
 |0, _ => rfl
 |m + 1, h => by rw [pI, pI, aJ4 m fun k hk => h k (by omega), h m (by omega)]
theorem aMA {a a' d : Nat → Int} {r : Nat} {s : Int} (h : ∀ k, ¬ k = r → a' k = a k) (hr : Cg (a' r) (a r + s)) : ∀ m, r < m → Cg (pI a' d m) (pI a d m + s * d r)
 |0, q => by omega
 |m + 1, q => by
  rw [pI, pI]
  by_cases e : m = r
  ·subst e
   rw [aJ4 m fun k hk => h k (by omega)]
   exact ((Cg.refl _).add (hr.mul (Cg.refl _))).trans (Cg.of_eq (by grind))
  ·rw [h m e]
   exact ((aMA h hr m (by omega)).add (Cg.refl _)).trans (Cg.of_eq (by grind))
theorem aE9 {s : List Int} (h : bN 2 s) : ∃ x y, s = [x, y] := by
 match s, h.1 with
 | [x, y], _ => exact ⟨x, y, rfl⟩
theorem aZZ {s t : List Int} (hs : bN 2 s) (ht : bN 2 t) : Cg ((j5 s t).getD 0 0) (s.getD 0 0 + t.getD 0 0) := by
 obtain ⟨x, y, rfl⟩ := aE9 hs; obtain ⟨z, w, rfl⟩ := aE9 ht; exact Cg.mod _
theorem aRM {s : List Int} (hs : bN 2 s) : Cg ((lY s 1000002).getD 0 0) (-(s.getD 0 0)) := by
 obtain ⟨x, y, rfl⟩ := aE9 hs; exact Cg.neg x
theorem aRN {s t : List Int} (hs : bN 2 s) : Cg ((mulL s t).getD 0 0) (s.getD 0 0 * t.getD 0 0) := by
 obtain ⟨x, y, rfl⟩ := aE9 hs
 obtain ⟨u, e⟩ := zN x [y] t
 rw [e]; exact Cg.mod _
theorem bBJ {s t : List Int} (hs : bN 2 s) : Cg ((lA s t).getD 0 0) (s.getD 0 0 * o5 (t.getD 0 0)) := by
 obtain ⟨x, y, rfl⟩ := aE9 hs
 obtain ⟨u, e⟩ := vY x [y] t 1
 rw [lA, show ([x, y] : List Int).length = 1 + 1 from rfl, e]; exact Cg.mod _
theorem aZ0 {s t : List Int} (hs : bN 2 s) (ht : bN 2 t) : Cg ((j5 s t).getD 1 0) (s.getD 1 0 + t.getD 1 0) := by
 obtain ⟨x, y, rfl⟩ := aE9 hs; obtain ⟨z, w, rfl⟩ := aE9 ht; exact Cg.mod _
theorem aZ1 {s : List Int} (hs : bN 2 s) : Cg ((lY s 1000002).getD 1 0) (-(s.getD 1 0)) := by
 obtain ⟨x, y, rfl⟩ := aE9 hs; exact Cg.neg y
theorem bBK {s t : List Int} (hs : bN 2 s) (ht : bN 2 t) : Cg ((aLC s t).getD 1 0) (s.getD 1 0 - t.getD 1 0) :=
 (aZ0 hs (fS _ ht)).trans (((Cg.refl _).add (aZ1 ht)).trans (Cg.of_eq (by omega)))
theorem bBL {s t : List Int} (hs : bN 2 s) (ht : bN 2 t) : Cg ((mulL s t).getD 1 0) (s.getD 0 0 * t.getD 1 0 + s.getD 1 0 * t.getD 0 0) := by
 obtain ⟨x, y, rfl⟩ := aE9 hs; obtain ⟨z, w, rfl⟩ := aE9 ht
 show Cg (((0 + x * w) % 1000003 + y * z) % 1000003) (x * w + y * z)
 exact (Cg.mod _).trans (((Cg.mod _).add (Cg.refl _)).trans (Cg.of_eq (by omega)))
theorem bBM {s t : List Int} (hs : bN 2 s) (ht : bN 2 t) : Cg ((lA s t).getD 1 0) ((s.getD 1 0 - (lA s t).getD 0 0 * t.getD 1 0) * o5 (t.getD 0 0)) := by
 obtain ⟨x, y, rfl⟩ := aE9 hs; obtain ⟨z, w, rfl⟩ := aE9 ht
 show Cg ((y - (lA [x, y] [z, w]).getD 0 0 * w) % 1000003 * o5 z % 1000003) ((y - (lA [x, y] [z, w]).getD 0 0 * w) * o5 z)
 exact (Cg.mod _).trans ((Cg.mod _).mul (Cg.refl _))
theorem aT2 {n : Nat} {A : List (List Int)} (hA : jU 2 n A) {r : Int} (hr : r.toNat < n) {s : List Int} (hs : bN 2 s) : (∀ k, ¬ k = r.toNat → pX (vI r s A) k = pX A k) ∧ Cg (pX (vI r s A) r.toNat) (pX A r.toNat + s.getD 0 0) := by
 refine ⟨fun k hk => ?_, ?_⟩
 ·rw [pX, pX, vI, List.getD_eq_getElem?_getD (l := A.set _ _), List.getElem?_set_ne (Ne.symm hk), ← List.getD_eq_getElem?_getD]
 ·rw [pX, vI, List.getD_eq_getElem?_getD (l := A.set _ _), List.getElem?_set_self (by rw [hA.1]; exact hr)]
  exact aZZ (hA.get hr).2 hs
theorem aMB {n : Nat} {A : List (List Int)} (hA : jU 2 n A) {r : Int} {s : List Int} (hs : bN 2 s) {d : Nat → Int} {m : Nat} (hr : r.toNat < m) (hm : m ≤ n) : Cg (pI (pX (vI r s A)) d m) (pI (pX A) d m + s.getD 0 0 * d r.toNat) :=
 aMA (aT2 hA (by omega) hs).1 (aT2 hA (by omega) hs).2 m hr
theorem aH7 {S T own D1 e1 xa e2 xb : Int} (hB : Cg T (S + e1 * xa + e2 * xb)) (h : Cg (own * D1) (e1 * xa + e2 * xb)) : Cg (S + own * D1) (T + 0) :=
 ((Cg.refl S).add h).trans ((Cg.of_eq (by omega)).trans (hB.symm.trans (Cg.of_eq (by omega))))
theorem sw7 {S T own D1 e1 xa : Int} (hB : Cg T (S + e1 * xa)) (hd : Cg D1 (-xa)) (he : Cg e1 (-own)) : Cg (S + own * D1) (T + 0) :=
 aH7 (e1 := e1) (xa := xa) (e2 := 0) (xb := 0) (hB.trans (Cg.of_eq (by omega))) (((Cg.refl own).mul hd).trans ((Cg.of_eq (by grind)).trans ((he.mul (Cg.refl xa)).symm.trans (Cg.of_eq (by omega)))))
theorem sw3 {S T own D1 xa xb : Int} (hB : Cg T (S + own * xa + own * xb)) (hd : Cg D1 (xa + xb)) : Cg (S + own * D1) (T + 0) :=
 aH7 hB (((Cg.refl own).mul hd).trans (Cg.of_eq (by grind)))
theorem sw4 {S T own D1 e2 xa xb : Int} (hB : Cg T (S + own * xa + e2 * xb)) (hd : Cg D1 (xa - xb)) (he : Cg e2 (-own)) : Cg (S + own * D1) (T + 0) :=
 aH7 hB (((Cg.refl own).mul hd).trans ((Cg.of_eq (by grind)).trans ((Cg.refl (own * xa)).add (he.mul (Cg.refl xb)).symm)))
theorem sw5 {S T own D1 e1 e2 xa xb va vb : Int} (hB : Cg T (S + e1 * xa + e2 * xb)) (hd : Cg D1 (va * xb + xa * vb)) (h1 : Cg e1 (own * vb)) (h2 : Cg e2 (own * va)) : Cg (S + own * D1) (T + 0) :=
 aH7 hB (((Cg.refl own).mul hd).trans ((Cg.of_eq (by grind)).trans ((h1.mul (Cg.refl xa)).add (h2.mul (Cg.refl xb))).symm))
theorem sw6 {S T own D1 e1 e2 xa xb q iv : Int} (hB : Cg T (S + e1 * xa + e2 * xb)) (hd : Cg D1 ((xa - q * xb) * iv)) (h1 : Cg e1 (own * iv)) (h2 : Cg e2 (-(own * iv * q))) : Cg (S + own * D1) (T + 0) :=
 aH7 hB (((Cg.refl own).mul hd).trans ((Cg.of_eq (by grind)).trans ((h1.mul (Cg.refl xa)).add (h2.mul (Cg.refl xb))).symm))
theorem bBN {x y : Int} (h : Cg x y) : Cg (-x) (-y) := by obtain ⟨q, h⟩ := h; exact ⟨-q, by omega⟩
theorem aRO {n y : Nat} (hy : y < n) {c : bQ} {inp : Int} (hc : cH inp y c) {rg : List (List Int)} (hrg : jU 2 n rg) {A : List (List Int)} (hA : jU 2 n A) {D : Nat → List Int} (hD : ∀ k, k < n → bN 2 (D k)) (hv : ∀ k, k < n → (D k).getD 0 0 = pX rg k)
  (h2 : c.j0 = 2 → (D y).getD 1 0 = 0) (hop : 3 ≤ c.j0 → D y = opW c.j0 (D c.fA.toNat) (D c.fB.toNat)) :
  Cg (pI (pX A) (fun k => (D k).getD 1 0) y + pX A y * (D y).getD 1 0) (pI (pX (nR c rg y A)) (fun k => (D k).getD 1 0) y + if c.j0 = 1 then pX A y * (D y).getD 1 0 else 0) := by
 have h0 := (hA.get hy).2
 have hc' := hc
 unfold cH at hc
 have dy := hD y hy
 by_cases e1 : c.j0 = 1
 ·rw [if_pos e1, nR, if_neg (by omega), if_neg (by omega), if_neg (by omega), if_neg (by omega), if_neg (by omega)]; exact Cg.refl _
 rw [if_neg e1]
 by_cases e2 : c.j0 = 2
 ·rw [h2 e2, nR, if_neg (by omega), if_neg (by omega), if_neg (by omega), if_neg (by omega), if_neg (by omega)]
  exact Cg.of_eq (by omega)
 have hop := hop (by omega)
 have ia : 0 ≤ c.fA ∧ c.fA < y := by omega
 have da := hD c.fA.toNat (by omega)
 have va := hv c.fA.toNat (by omega)
 have two : 3 ≤ c.j0 → ¬ c.j0 = 7 → ∀ s1 s2, bN 2 s1 → bN 2 s2 → Cg (pI (pX (vI c.fB s2 (vI c.fA s1 A))) (fun k => (D k).getD 1 0) y) (pI (pX A) (fun k => (D k).getD 1 0) y + s1.getD 0 0 * (D c.fA.toNat).getD 1 0 + s2.getD 0 0 * (D c.fB.toNat).getD 1 0) := fun q q2 s1 s2 z1 z2 =>
  (aMB (hA.put (by omega) z1) z2 (d := fun k => (D k).getD 1 0) (m := y) (by omega) (by omega)).trans ((aMB hA z1 (d := fun k => (D k).getD 1 0) (m := y) (by omega) (by omega)).add (Cg.refl _))
 have one : ∀ s1, bN 2 s1 → Cg (pI (pX (vI c.fA s1 A)) (fun k => (D k).getD 1 0) y) (pI (pX A) (fun k => (D k).getD 1 0) y + s1.getD 0 0 * (D c.fA.toNat).getD 1 0) := fun s1 z1 => aMB hA z1 (d := fun k => (D k).getD 1 0) (m := y) (by omega) (by omega)
 by_cases e7 : c.j0 = 7
 ·rw [nR, if_neg (by omega), if_neg (by omega), if_neg (by omega), if_neg (by omega), if_pos e7]
  rw [e7] at hop
  exact sw7 (one _ (fS 1000002 h0)) (by rw [hop]; exact aZ1 da) (aRM h0)
 have ib : 0 ≤ c.fB ∧ c.fB < y := by omega
 have db := hD c.fB.toNat (by omega)
 have vb := hv c.fB.toNat (by omega)
 have two := two (by omega) e7
 by_cases e3 : c.j0 = 3
 ·rw [nR, if_pos e3]
  rw [e3] at hop
  exact sw3 (two _ _ h0 h0) (by rw [hop]; exact aZ0 da db)
 by_cases e4 : c.j0 = 4
 ·rw [nR, if_neg e3, if_pos e4]
  rw [e4] at hop
  exact sw4 (two _ _ h0 (fS 1000002 h0)) (by rw [hop]; exact bBK da db) (aRM h0)
 by_cases e5 : c.j0 = 5
 ·rw [nR, if_neg e3, if_neg e4, if_pos e5]
  rw [e5] at hop
  exact sw5 (va := pX rg c.fA.toNat) (vb := pX rg c.fB.toNat) (two _ _ (hH _ h0) (hH _ h0)) (by rw [hop, ← va, ← vb]; exact bBL da db) (aRN h0) (aRN h0)
 ·have e6 : c.j0 = 6 := by omega
  rw [nR, if_neg e3, if_neg e4, if_neg e5, if_pos e6]
  rw [e6] at hop
  have vy := hv y hy
  have hp := pR (rg.getD c.fB.toNat []) h0
  have hq1 : Cg ((lA (A.getD y []) (rg.getD c.fB.toNat [])).getD 0 0) ((A.getD y []).getD 0 0 * o5 (pX rg c.fB.toNat)) := bBJ h0
  exact sw6 (q := pX rg y) (iv := o5 (pX rg c.fB.toNat)) (two _ _ hp (fS 1000002 (hH _ hp))) (by rw [← vy, ← vb, hop]; exact bBM da db) hq1
   ((aRM (hH _ hp)).trans (bBN ((aRN (t := rg.getD y []) hp).trans (hq1.mul (Cg.refl (pX rg y))))))
theorem aVU {n y k : Nat} {c : bQ} {inp : Int} (hc : cH inp y c) (hy : y ≤ k) (rg A : List (List Int)) : pX (nR c rg y A) k = pX A k := by
 unfold cH at hc
 have hp : ∀ (r : Int) s B, 0 ≤ r ∧ r < y → pX (vI r s B) k = pX B k := fun r s B hr => by
  rw [pX, pX, vI, List.getD_eq_getElem?_getD (l := B.set _ _), List.getElem?_set_ne (by omega), ← List.getD_eq_getElem?_getD]
 unfold nR
 by_cases h3 : c.j0 = 3
 ·rw [if_pos h3, hp _ _ _ (by omega), hp _ _ _ (by omega)]
 rw [if_neg h3]
 by_cases h4 : c.j0 = 4
 ·rw [if_pos h4, hp _ _ _ (by omega), hp _ _ _ (by omega)]
 rw [if_neg h4]
 by_cases h5 : c.j0 = 5
 ·rw [if_pos h5, hp _ _ _ (by omega), hp _ _ _ (by omega)]
 rw [if_neg h5]
 by_cases h6 : c.j0 = 6
 ·rw [if_pos h6, hp _ _ _ (by omega), hp _ _ _ (by omega)]
 rw [if_neg h6]
 by_cases h7 : c.j0 = 7
 ·rw [if_pos h7, hp _ _ _ (by omega)]
 ·rw [if_neg h7]
theorem aFZ {code : List bQ} {j : Nat} {c : bQ} (e : code[j]? = some c) : code.getD j ⟨0, 0, 0, 0⟩ = c := by rw [List.getD_eq_getElem?_getD, e]; rfl
theorem aPQ {code : List bQ} {inp : Int} (hins : ∀ i c, code[i]? = some c → cH inp i c) (rg A0 : List (List Int)) : ∀ j k, j ≤ code.length → j ≤ k + 1 → pX (rI code rg A0 (code.length - j) j) k = pX (rI code rg A0 code.length 0) k
 |0, k, _, _ => rfl
 |j + 1, k, hj, hk => by
  rw [← aPQ hins rg A0 j k (by omega) (by omega)]
  have ec : code[j]? = some code[j] := List.getElem?_eq_getElem (by omega)
  rw [show code.length - j = (code.length - (j + 1)) + 1 by omega, rI, aFZ ec, aVU (n := 0) (hins j _ ec) (by omega)]
def dIn (code : List bQ) (d : Nat → Int) (k : Nat) : Int := if (code.getD k ⟨0, 0, 0, 0⟩).j0 = 1 then d k else 0
theorem aJ5 {code : List bQ} {inp : Int} (hins : ∀ i c, code[i]? = some c → cH inp i c) {rg A0 : List (List Int)} (hrg : jU 2 code.length rg) (hA0 : jU 2 code.length A0) {D : Nat → List Int} (hD : ∀ k, k < code.length → bN 2 (D k)) (hv : ∀ k, k < code.length → (D k).getD 0 0 = pX rg k)
  (h2 : ∀ y c, code[y]? = some c → c.j0 = 2 → (D y).getD 1 0 = 0) (hop : ∀ y c, code[y]? = some c → 3 ≤ c.j0 → D y = opW c.j0 (D c.fA.toNat) (D c.fB.toNat)) :
  ∀ j, j ≤ code.length → Cg (pI (pX (rI code rg A0 (code.length - j) j)) (fun k => (D k).getD 1 0) j) (pI (pX (rI code rg A0 code.length 0)) (dIn code fun k => (D k).getD 1 0) j)
 |0, _ => Cg.refl _
 |y + 1, hy => by
  have ih := aJ5 hins hrg hA0 hD hv h2 hop y (by omega)
  have ec : code[y]? = some code[y] := List.getElem?_eq_getElem (by omega)
  have hA := tP (sz := 2) ⟨by decide, by decide⟩ hins hrg hA0 (code.length - (y + 1)) (y + 1) (by omega)
  have hk := aPQ hins rg A0 (y + 1) y hy (Nat.le_refl _)
  have hs : rI code rg A0 (code.length - y) y = nR code[y] rg y (rI code rg A0 (code.length - (y + 1)) (y + 1)) := by
   rw [show code.length - y = (code.length - (y + 1)) + 1 by omega, rI, aFZ ec]
  rw [hs] at ih
  generalize rI code rg A0 (code.length - (y + 1)) (y + 1) = A at *
  have hst := aRO (by omega) (hins y _ ec) hrg hA hD hv (h2 y _ ec) (hop y _ ec)
  rw [pI, pI]
  refine hst.trans (ih.add (Cg.of_eq ?_))
  rw [← hk, dIn, aFZ ec]
  split
  ·rfl
  ·omega
theorem aZ2 {code : List bQ} {inp : Nat} (hins : ∀ i c, code[i]? = some c → cH inp i c) {L : List (List Int)} (hL : jU 2 code.length L) {i : Nat} (hi : i < inp) {d : Nat → Int} (hd : ∀ k c, code[k]? = some c → c.j0 = 1 → d k = if c.bC.toNat = i then 1 else 0) : ∀ k, k ≤ code.length → Cg (pX (byK code L 2 inp k) i) (pI (pX L) (dIn code d) k)
 |0, _ => Cg.of_eq (by rw [pX, byK, List.getD_eq_getElem?_getD (l := List.replicate _ _), List.getElem?_replicate, if_pos hi]; rfl)
 |k + 1, hk => by
  have ih := aZ2 hins hL hi hd k (by omega)
  have ec : code[k]? = some code[k] := List.getElem?_eq_getElem (by omega)
  have hB := zY hins hL k (by omega)
  have hc := hins k _ ec
  have hd := hd k _ ec
  rw [pI, dIn, byK, aFZ ec]
  generalize code[k] = c at *
  by_cases h1 : c.j0 = 1
  ·rw [if_pos h1, if_pos h1, hd h1]
   have hn : 0 ≤ c.bC ∧ c.bC < inp := by unfold cH at hc; omega
   by_cases e : c.bC.toNat = i
   ·rw [if_pos e]
    have h2 : Cg (pX ((byK code L 2 inp k).set c.bC.toNat (j5 ((byK code L 2 inp k).getD c.bC.toNat []) (L.getD k []))) i) (pX (byK code L 2 inp k) i + pX L k) := by
     rw [pX, List.getD_eq_getElem?_getD (l := List.set _ _ _), e, List.getElem?_set_self (by rw [hB.1]; exact hi)]
     have := aZZ (hB.get (i := i) hi).2 (hL.get (i := k) (by omega)).2
     exact this
    exact h2.trans (ih.add (Cg.of_eq (by omega)))
   ·rw [if_neg e]
    have h2 : pX ((byK code L 2 inp k).set c.bC.toNat (j5 ((byK code L 2 inp k).getD c.bC.toNat []) (L.getD k []))) i = pX (byK code L 2 inp k) i := by
     rw [pX, pX, List.getD_eq_getElem?_getD (l := List.set _ _ _), List.getElem?_set_ne e, ← List.getD_eq_getElem?_getD]
    rw [h2]
    exact ih.trans (Cg.of_eq (by omega))
  ·rw [if_neg h1, if_neg h1]
   exact ih.trans (Cg.of_eq (by omega))
theorem aT3 {outs ws : List Int} {n : Nat} (ho : ∀ r ∈ outs, 0 ≤ r ∧ r < n) (hwn : eD ws) {d : Nat → Int} : ∀ k, k ≤ outs.length → Cg (pI (pX (rV outs ws (List.replicate n (yC 2)) k)) d n) (pI (fun k => ws.getD k 0) (fun k => d (outs.getD k 0).toNat) k)
 |0, _ => by
  have hz : ∀ m, pI (pX (List.replicate n (yC 2))) d m = 0 := fun m => by
   induction m with
   |zero => rfl
   |succ m ih =>
    have h0 : pX (List.replicate n (yC 2)) m = 0 := by
     rw [pX, List.getD_eq_getElem?_getD (l := List.replicate _ _), List.getElem?_replicate]
     split <;> rfl
    rw [pI, ih, h0]; omega
  exact Cg.of_eq (hz n)
 |k + 1, hk => by
  have ih := aT3 ho hwn (d := d) k (by omega)
  have hr := ho (outs.getD k 0) (by rw [List.getD_eq_getElem?_getD, List.getElem?_eq_getElem (by omega)]; exact List.getElem_mem _)
  have hs := zE (sz := 2) (by decide) ho hwn k (by omega)
  rw [rV, pI]
  generalize rV outs ws (List.replicate n (yC 2)) k = A at *
  generalize outs.getD k 0 = r at *
  have hq := hs.get (i := r.toNat) (by omega)
  have h1 : ∀ q, ¬ q = r.toNat → pX (A.set r.toNat ((A.getD r.toNat []).set 0 (((A.getD r.toNat []).getD 0 0 + ws.getD k 0) % 1000003))) q = pX A q := fun q hq => by
   rw [pX, pX, List.getD_eq_getElem?_getD (l := List.set A _ _), List.getElem?_set_ne (Ne.symm hq), ← List.getD_eq_getElem?_getD]
  have h2 : Cg (pX (A.set r.toNat ((A.getD r.toNat []).set 0 (((A.getD r.toNat []).getD 0 0 + ws.getD k 0) % 1000003))) r.toNat) (pX A r.toNat + ws.getD k 0) := by
   rw [pX, List.getD_eq_getElem?_getD (l := List.set A _ _), List.getElem?_set_self (by rw [hs.1]; omega), Option.getD_some, List.getD_eq_getElem?_getD (l := List.set _ 0 _), List.getElem?_set_self (by rw [hq.2.1]; decide)]
   exact Cg.mod _
  exact (aMA h1 h2 n (by omega)).trans (ih.add (Cg.refl _))
theorem aPR {code : List bQ} {inp : Nat} (hins : ∀ i c, code[i]? = some c → cH inp i c) {outs : List Int} (ho : ∀ r ∈ outs, 0 ≤ r ∧ r < code.length) (hol : 1 ≤ outs.length) {rg : List (List Int)} (hrg : jU 2 code.length rg) {args : List Int} (na : eD args) (hal : args.length = inp) (hv : ∀ i k, k < code.length → (qD 2 (cY args (gF inp i)) code k).getD 0 0 = pX rg k) {i : Nat} (hi : i < inp) :
  pX (byK code (rI code rg (rV outs (gF outs.length 0) (List.replicate code.length (yC 2)) outs.length) code.length 0) 2 inp code.length) i = (qD 2 (cY args (gF inp i)) code (outs.getD 0 0).toNat).getD 1 0 := by
 have hser := pS na (rH inp i)
 have hll := nY (args := args) (dir := gF inp i) (by rw [rG, hal])
 have hwn := rH outs.length 0
 have hA0 := zE (sz := 2) (by decide) ho hwn outs.length (Nat.le_refl _)
 have hD : ∀ k, k < code.length → bN 2 (qD 2 (cY args (gF inp i)) code k) := fun k hk => zT hins hser (by rw [hll, hal]) k hk
 have hps := aT3 ho hwn (d := fun k => (qD 2 (cY args (gF inp i)) code k).getD 1 0) outs.length (Nat.le_refl _)
 have h1 := aJ5 hins hrg hA0 hD (hv i) (fun y c ec h2 => by rw [aL2 ec h2]; rfl) (fun y c ec h3 => aRG ec (hins y c ec) (by omega) (by omega)) code.length (Nat.le_refl _)
 rw [Nat.sub_self, rI] at h1
 generalize rV outs (gF outs.length 0) (List.replicate code.length (yC 2)) outs.length = A0 at *
 have hA := tP (sz := 2) ⟨by decide, by decide⟩ hins hrg hA0 code.length 0 rfl
 generalize rI code rg A0 code.length 0 = A at *
 have h2 := aZ2 hins hA hi (d := fun k => (qD 2 (cY args (gF inp i)) code k).getD 1 0) (fun k c ec h1 => by
  have hc := hins k c ec
  have hn : 0 ≤ c.bC ∧ c.bC < inp := by unfold cH at hc; omega
  rw [aRF ec h1, aJ0 (by omega) (by rw [rG]; omega)]
  show (gF inp i).getD c.bC.toNat 0 = _
  split
  ·rename_i e
   rw [gF, List.getD_eq_getElem?_getD, e, List.getElem?_set_self (by rw [List.length_replicate]; exact hi)]; rfl
  ·rename_i e
   exact aJ1 (Ne.symm e)) code.length (Nat.le_refl _)
 have hB := zY hins hA code.length (Nat.le_refl _)
 have hone : ∀ m, 1 ≤ m → m ≤ outs.length → pI (fun k => (gF outs.length 0).getD k 0) (fun k => (qD 2 (cY args (gF inp i)) code (outs.getD k 0).toNat).getD 1 0) m = (qD 2 (cY args (gF inp i)) code (outs.getD 0 0).toNat).getD 1 0 := fun m => by
  induction m with
  |zero => intro q; omega
  |succ m ih =>
   intro _ hm
   rw [pI]
   rcases Nat.eq_zero_or_pos m with e | e
   ·subst e
    rw [pI, gF, List.getD_eq_getElem?_getD (l := List.set _ _ _), List.getElem?_set_self (by rw [List.length_replicate]; exact hm)]
    simp
   ·rw [ih e (by omega), aJ1 (by omega)]; omega
 rw [hone _ hol (Nat.le_refl _)] at hps
 have hr0 := ho (outs.getD 0 0) (by rw [List.getD_eq_getElem?_getD, List.getElem?_eq_getElem hol]; exact List.getElem_mem _)
 exact (h2.trans (h1.symm.trans hps)).num ((hB.get hi).2.2.get 0) ((hD _ (by omega)).2.get 1)
end Go.Hl

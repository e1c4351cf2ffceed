/-
  Contracts of functions and laws of the layer over the walk.
-/
import Derived.Test.YtpnelljgohjjdaaGreatVvA
namespace Go.Hl
set_option maxRecDepth 100000
open Go.Proofs
set_option linter.unusedVariables false
set_option linter.unusedSimpArgs false
@[go_sem] def aHW : List Nat := [0, 1, 4, 5, 9, 18, 27, 36, 45, 56]
@[go_sem] def aWF : List Nat := []
@[go_sem] def aWG : Marks := fun _ => ([], .nil, [])
theorem aHP (l : List aA) (hk : ∀ x ∈ l, aG9 Tryz.prog 113 (OS aA.o 5 x.aM)) : aG9 Tryz.prog 113 (OS aA.o 5 l) := by
 intro y k hy h0 h1
 rcases hy with ⟨rfl, hl⟩ | ⟨n, es, rfl, hor⟩
 ·rw [OV.pO, vU, OV.rP]
  refine eI 58 aHW aWF aWG mix Tryz.func113 rfl (by kernel_rfl) (by simp) fun h => ?_
  simp -dsimp -implicitDefEqProofs only [go_sem, ↓reduceIte, Tryz.f113]
  refine cS (keep := aHW) (ib := aWF) (mk := aWG) mix (by kernel_rfl) (fun _ : Unit => [(0, .sl 5 [] false), (1, I k), (5, I 0)]) (fun _ => h) (fun _ => True) (fun _ => 0) () (by simp [dA, cH, aB.le_refl]) ?_
  intro _ _
  simp -dsimp -implicitDefEqProofs only [go_sem, ↓reduceIte, Tryz.f113, eU, Int.lt_irrefl]
  first | done | (intro _; simp) | simp
 ·rw [OV.tW, aAJ, OV.mO]
  rw [OV.mO] at h1
  have hlen : (OV.cN (OV.cE k es)).length = es.length := by rw [iV, OV.e6]
  refine eI 58 aHW aWF aWG mix Tryz.func113 rfl (by kernel_rfl) (by simp) fun h => ?_
  simp -dsimp -implicitDefEqProofs only [go_sem, ↓reduceIte, Tryz.f113, hlen]
  refine cS (keep := aHW) (ib := aWF) (mk := aWG) mix (by kernel_rfl) (fun i : Nat => [(0, .sl 5 (OV.cN (OV.cE k es)) false), (1, I (k + OV.cV (es.take i))), (5, I i)]) (fun _ => h) (fun i => i ≤ es.length) (fun i => es.length - i) 0 (by simp [dA, cH, OV.cV, aB.le_refl]) ?_
  intro i hi
  rcases Nat.lt_or_ge i es.length with hlt | hge
  ·have hll : i < l.length := by rw [hor.length]; exact hlt
   obtain ⟨A, e, B, rfl, hA, he⟩ := hor.split i hll
   have t1 : (A ++ e :: B).take i = A := by rw [← hA]; simp
   have t0 : A ++ e :: B = (A ++ [e]) ++ B := by simp
   have t3 : (A ++ e :: B).take (i + 1) = A ++ [e] := by rw [t0]; exact List.take_left' (by simp [hA])
   clear t0
   have hct := OV.fF A (e :: B)
   rw [OV.cV] at hct
   rw [t1]
   have wR := OV.iU A e
   have hD : OV.cN (OV.cE k (A ++ e :: B)) = OV.cN (OV.cE k A) ++ (OV.rE (k + (OV.cV A : Int)) e).map OV.mK :: OV.cN (OV.cE (k + (OV.cV A : Int) + (OV.jP e : Int)) B) := by
    rw [OV.kB, lZ, OV.cE, pC]
   have hA2 : (OV.cN (OV.cE k A)).length = i := by rw [iV, OV.e6, hA]
   have vK : (i : Int) < (A ++ e :: B).length := by omega
   rw [aA.pS] at he
   obtain ⟨s6, rfl, mI⟩ := he
   simp only [OV.jV, OV.k5, OV.vJ, Nat.add_zero, iZ] at hct wR
   generalize hkk : k + (OV.cV A : Int) = kk at hD ⊢
   have gm : (OV.cN (OV.cE k (A ++ [.v (.int .i64 l[i].a6), .v (.int .i64 l[i].bQ), .v (.int .i64 l[i].c9), .v (.int .i64 l[i].cU), s6] :: B)))[i]? = some ((OV.rE kk [.v (.int .i64 l[i].a6), .v (.int .i64 l[i].bQ), .v (.int .i64 l[i].c9), .v (.int .i64 l[i].cU), s6]).map OV.mK) := by rw [hD]; exact p0 hA2
   simp only [OV.jW, OV.k6, OV.aHN, nD, k7, nE, OV.vJ, iZ, iL, jM, aAI] at gm
   clear hD
   generalize OV.cN (OV.cE k (A ++ [.v (.int .i64 l[i].a6), .v (.int .i64 l[i].bQ), .v (.int .i64 l[i].c9), .v (.int .i64 l[i].cU), s6] :: B)) = DD at gm hlen ⊢
   have l6 : IntKind.i64.wrap (kk + 1) = kk + 1 := IntWalk.i64_in _ (by omega)
   have rQ : IntKind.i64.wrap (kk + 1 + 1) = kk + 1 + 1 := IntWalk.i64_in _ (by omega)
   have aRH : IntKind.i64.wrap (kk + 1 + 1 + 1) = kk + 1 + 1 + 1 := IntWalk.i64_in _ (by omega)
   have aRI : IntKind.i64.wrap (kk + 1 + 1 + 1 + 1) = kk + 1 + 1 + 1 + 1 := IntWalk.i64_in _ (by omega)
   simp -dsimp -implicitDefEqProofs only [go_sem, ↓reduceIte, Tryz.f113, hlen, vK, gm, eq_self, decide_true, Bool.not_true, bne_self_eq_false, l6, rQ, aRH, aRI]
   repeat' (with_reducible first | intro _ | refine And.intro ?_ ?_)
   all_goals try omega
   all_goals try (exact absurd rfl (by assumption))
   refine aJ.mk ((hk l[i] (List.getElem_mem hll)) s6 (kk + 1 + 1 + 1 + 1) mI (by omega) (by omega)) ?_
   have oD : ∃ z : Int, z = kk + 1 + 1 + 1 + 1 + (s6.ct : Int) := ⟨_, rfl⟩
   obtain ⟨kk0, oD⟩ := oD
   rw [← oD]
   simp -dsimp -implicitDefEqProofs only [go_sem, ↓reduceIte, Tryz.f113, hlen, vK, gm, eq_self, decide_true, Bool.not_true, bne_self_eq_false, l6, rQ, aRH, aRI]
   repeat' (with_reducible first | intro _ | refine And.intro ?_ ?_)
   all_goals try omega
   all_goals try (exact absurd rfl (by assumption))
   refine ⟨i + 1, ?_⟩
   simp only [t3, wR]
   repeat' (with_reducible first | intro _ | refine And.intro ?_ ?_)
   all_goals first | rfl | trivial | omega | exact aB.le_refl _ | (rw [IntWalk.i64_in _ (by omega)]; omega)
  ·have vK : i = es.length := by omega
   subst vK
   rw [List.take_length]
   simp -dsimp -implicitDefEqProofs only [go_sem, ↓reduceIte, Tryz.f113, hlen, Int.lt_irrefl, Nat.lt_irrefl]
   first | done | (intro _; rfl) | rfl
theorem aJN (l : List aA) : aG9 Tryz.prog 113 (OS aA.o 5 l) :=
 aHP l fun x hx => aJN x.aM
termination_by SizeOf.sizeOf l
decreasing_by
 have h1 := List.sizeOf_lt_of_mem hx
 cases x
 simp only [aA.mk.sizeOf_spec, aA.aM] at h1 ⊢
 omega
@[go_sem] def aNY : List Nat := [0, 1, 4, 5, 9, 19, 28, 39]
@[go_sem] def a5Y : List Nat := []
@[go_sem] def a5Z : Marks := fun id => match id with | 4 => ([], (.op 0 (.op 1 (.op 2 (.op 3 (.op 4 (.op 5 (.op 6 (.op 7 .nil)))))))), []) | _ => ([], .nil, [])
theorem aTI (l : List aV) : aG9 Tryz.prog 97 (OS aV.o 3 l) := by
 intro y k hy h0 h1
 rcases hy with ⟨rfl, hl⟩ | ⟨n, es, rfl, hor⟩
 ·rw [OV.pO, vU, OV.rP]
  refine eI 41 aNY a5Y a5Z mix Tryz.func97 rfl (by kernel_rfl) (by simp) fun h => ?_
  simp -dsimp -implicitDefEqProofs only [go_sem, ↓reduceIte, Tryz.f97]
  refine cS (keep := aNY) (ib := a5Y) (mk := a5Z) mix (by kernel_rfl) (fun _ : Unit => [(0, .sl 3 [] false), (1, I k), (5, I 0)]) (fun _ => h) (fun _ => True) (fun _ => 0) () (by simp [dA, cH, aB.le_refl]) ?_
  intro _ _
  simp -dsimp -implicitDefEqProofs only [go_sem, ↓reduceIte, Tryz.f97, eU, Int.lt_irrefl]
  first | done | (intro _; simp) | simp
 ·rw [OV.tW, aAJ, OV.mO]
  rw [OV.mO] at h1
  have hlen : (OV.cN (OV.cE k es)).length = es.length := by rw [iV, OV.e6]
  refine eI 41 aNY a5Y a5Z mix Tryz.func97 rfl (by kernel_rfl) (by simp) fun h => ?_
  simp -dsimp -implicitDefEqProofs only [go_sem, ↓reduceIte, Tryz.f97, hlen]
  refine cS (keep := aNY) (ib := a5Y) (mk := a5Z) mix (by kernel_rfl) (fun i : Nat => [(0, .sl 3 (OV.cN (OV.cE k es)) false), (1, I (k + OV.cV (es.take i))), (5, I i)]) (fun _ => h) (fun i => i ≤ es.length) (fun i => es.length - i) 0 (by simp [dA, cH, OV.cV, aB.le_refl]) ?_
  intro i hi
  rcases Nat.lt_or_ge i es.length with hlt | hge
  ·have hll : i < l.length := by rw [hor.length]; exact hlt
   obtain ⟨A, e, B, rfl, hA, he⟩ := hor.split i hll
   have t1 : (A ++ e :: B).take i = A := by rw [← hA]; simp
   have t0 : A ++ e :: B = (A ++ [e]) ++ B := by simp
   have t3 : (A ++ e :: B).take (i + 1) = A ++ [e] := by rw [t0]; exact List.take_left' (by simp [hA])
   clear t0
   have hct := OV.fF A (e :: B)
   rw [OV.cV] at hct
   rw [t1]
   have wR := OV.iU A e
   have hD : OV.cN (OV.cE k (A ++ e :: B)) = OV.cN (OV.cE k A) ++ (OV.rE (k + (OV.cV A : Int)) e).map OV.mK :: OV.cN (OV.cE (k + (OV.cV A : Int) + (OV.jP e : Int)) B) := by
    rw [OV.kB, lZ, OV.cE, pC]
   have hA2 : (OV.cN (OV.cE k A)).length = i := by rw [iV, OV.e6, hA]
   have vK : (i : Int) < (A ++ e :: B).length := by omega
   obtain ⟨zM, rfl, o_2⟩ := he
   simp only [OV.jV, OV.k5, OV.vJ, Nat.add_zero, iZ] at hct wR
   generalize hkk : k + (OV.cV A : Int) = kk at hD ⊢
   have gm : (OV.cN (OV.cE k (A ++ [.v (.str l[i].eC), .v (.int .i64 l[i].bE), zM] :: B)))[i]? = some ((OV.rE kk [.v (.str l[i].eC), .v (.int .i64 l[i].bE), zM]).map OV.mK) := by rw [hD]; exact p0 hA2
   simp only [OV.jW, OV.k6, OV.aHN, nD, k7, nE, OV.vJ, iZ, iL, jM, aAI] at gm
   clear hD
   generalize OV.cN (OV.cE k (A ++ [.v (.str l[i].eC), .v (.int .i64 l[i].bE), zM] :: B)) = DD at gm hlen ⊢
   have l6 : IntKind.i64.wrap (kk + 1) = kk + 1 := IntWalk.i64_in _ (by omega)
   have rQ : IntKind.i64.wrap (kk + 1 + 1) = kk + 1 + 1 := IntWalk.i64_in _ (by omega)
   simp -dsimp -implicitDefEqProofs only [go_sem, ↓reduceIte, Tryz.f97, hlen, vK, gm, eq_self, decide_true, Bool.not_true, bne_self_eq_false, l6, rQ]
   repeat' (with_reducible first | intro _ | refine And.intro ?_ ?_)
   all_goals try omega
   all_goals try (exact absurd rfl (by assumption))
   first | refine aJ.mk (aJK (kk) (by omega)) ?_ | refine aL.mk (aJK (kk) (by omega)) ?_
   simp -dsimp -implicitDefEqProofs only [go_sem, ↓reduceIte, Tryz.f97, hlen, vK, gm, eq_self, decide_true, Bool.not_true, bne_self_eq_false, l6, rQ]
   repeat' (with_reducible first | intro _ | refine And.intro ?_ ?_)
   all_goals try omega
   all_goals try (exact absurd rfl (by assumption))
   refine aJ.mk ((aJN l[i].aZ) zM (kk + 1 + 1) o_2 (by omega) (by omega)) ?_
   have oD : ∃ z : Int, z = kk + 1 + 1 + (zM.ct : Int) := ⟨_, rfl⟩
   obtain ⟨kk0, oD⟩ := oD
   rw [← oD]
   simp -dsimp -implicitDefEqProofs only [go_sem, ↓reduceIte, Tryz.f97, hlen, vK, gm, eq_self, decide_true, Bool.not_true, bne_self_eq_false, l6, rQ]
   repeat' (with_reducible first | intro _ | refine And.intro ?_ ?_)
   all_goals try omega
   all_goals try (exact absurd rfl (by assumption))
   refine ⟨i + 1, ?_⟩
   simp only [t3, wR]
   repeat' (with_reducible first | intro _ | refine And.intro ?_ ?_)
   all_goals first | rfl | trivial | omega | exact aB.le_refl _ | (rw [IntWalk.i64_in _ (by omega)]; omega)
  ·have vK : i = es.length := by omega
   subst vK
   rw [List.take_length]
   simp -dsimp -implicitDefEqProofs only [go_sem, ↓reduceIte, Tryz.f97, hlen, Int.lt_irrefl, Nat.lt_irrefl]
   first | done | (intro _; rfl) | rfl
@[go_sem] def bCU : List Nat := [0, 1, 2, 4, 10]
@[go_sem] def bQR : List Nat := [2]
@[go_sem] def bQS : Marks := fun _ => ([], .nil, [])
theorem aNZ (x : aI) : a0X Tryz.prog 73 x.o := by
 intro e k he h0 h1
 obtain ⟨pJ, rfl, kF⟩ := he
 simp only [OV.iM, OV.jQ, OV.vV, OV.iN, OV.jR, OV.vW, Nat.add_zero, Nat.zero_add, eU, Int.add_zero, Int.zero_add, kF.oY, kF.pI, iL, jM, aAI] at h1 ⊢
 refine eI 12 bCU bQR bQS mix Tryz.func73 rfl (by kernel_rfl) (by simp) fun h => ?_
 simp -dsimp -implicitDefEqProofs only [go_sem, ↓reduceIte, Tryz.f73, kF.dC, kF.dX]
 repeat' (with_reducible first | intro _ | refine And.intro ?_ ?_)
 all_goals try omega
 refine aJ.mk (aTI x.aH pJ (k) kF (by omega) (by omega)) ?_
 simp -dsimp -implicitDefEqProofs only [go_sem, ↓reduceIte, Tryz.f73, kF.dC, kF.dX]
 repeat' (with_reducible first | intro _ | refine And.intro ?_ ?_)
 all_goals try omega
 all_goals first | done | rfl | trivial | (congr 1; omega) | omega | (simp only [go_sem]; omega)
@[go_sem] def aN0 : List Nat := [0, 1, 4, 5, 9, 17]
@[go_sem] def a50 : List Nat := []
@[go_sem] def a51 : Marks := fun _ => ([], .nil, [])
theorem tD (l : List Int) : aG9 Tryz.prog 37 (OS (oP I) 1 l) := by
 intro y k hy h0 h1
 rcases hy with ⟨rfl, hl⟩ | ⟨n, es, rfl, hor⟩
 ·rw [OV.pO, vU, OV.rP]
  refine eI 21 aN0 a50 a51 mix Tryz.func37 rfl (by kernel_rfl) (by simp) fun h => ?_
  simp -dsimp -implicitDefEqProofs only [go_sem, ↓reduceIte, Tryz.f37]
  refine cS (keep := aN0) (ib := a50) (mk := a51) mix (by kernel_rfl) (fun _ : Unit => [(0, .sl 1 [] false), (1, I k), (5, I 0)]) (fun _ => h) (fun _ => True) (fun _ => 0) () (by simp [dA, cH, aB.le_refl]) ?_
  intro _ _
  simp -dsimp -implicitDefEqProofs only [go_sem, ↓reduceIte, Tryz.f37, eU, Int.lt_irrefl]
  first | done | (intro _; simp) | simp
 ·rw [OV.tW, aAJ, OV.mO]
  rw [OV.mO] at h1
  have hlen : (OV.cN (OV.cE k es)).length = es.length := by rw [iV, OV.e6]
  refine eI 21 aN0 a50 a51 mix Tryz.func37 rfl (by kernel_rfl) (by simp) fun h => ?_
  simp -dsimp -implicitDefEqProofs only [go_sem, ↓reduceIte, Tryz.f37, hlen]
  refine cS (keep := aN0) (ib := a50) (mk := a51) mix (by kernel_rfl) (fun i : Nat => [(0, .sl 1 (OV.cN (OV.cE k es)) false), (1, I (k + OV.cV (es.take i))), (5, I i)]) (fun _ => h) (fun i => i ≤ es.length) (fun i => es.length - i) 0 (by simp [dA, cH, OV.cV, aB.le_refl]) ?_
  intro i hi
  rcases Nat.lt_or_ge i es.length with hlt | hge
  ·have hll : i < l.length := by rw [hor.length]; exact hlt
   obtain ⟨A, e, B, rfl, hA, he⟩ := hor.split i hll
   have t1 : (A ++ e :: B).take i = A := by rw [← hA]; simp
   have t0 : A ++ e :: B = (A ++ [e]) ++ B := by simp
   have t3 : (A ++ e :: B).take (i + 1) = A ++ [e] := by rw [t0]; exact List.take_left' (by simp [hA])
   clear t0
   have hct := OV.fF A (e :: B)
   rw [OV.cV] at hct
   rw [t1]
   have wR := OV.iU A e
   have hD : OV.cN (OV.cE k (A ++ e :: B)) = OV.cN (OV.cE k A) ++ (OV.rE (k + (OV.cV A : Int)) e).map OV.mK :: OV.cN (OV.cE (k + (OV.cV A : Int) + (OV.jP e : Int)) B) := by
    rw [OV.kB, lZ, OV.cE, pC]
   have hA2 : (OV.cN (OV.cE k A)).length = i := by rw [iV, OV.e6, hA]
   have vK : (i : Int) < (A ++ e :: B).length := by omega
   obtain rfl : _ = _ := he
   simp only [OV.jV, OV.k5, OV.vJ, Nat.add_zero, iZ] at hct wR
   generalize hkk : k + (OV.cV A : Int) = kk at hD ⊢
   have gm : (OV.cN (OV.cE k (A ++ [.v (.int .i64 l[i])] :: B)))[i]? = some ((OV.rE kk [.v (.int .i64 l[i])]).map OV.mK) := by rw [hD]; exact p0 hA2
   simp only [OV.jW, OV.k6, OV.aHN, nD, k7, nE, OV.vJ, iZ, iL, jM, aAI] at gm
   clear hD
   generalize OV.cN (OV.cE k (A ++ [.v (.int .i64 l[i])] :: B)) = DD at gm hlen ⊢
   have l6 : IntKind.i64.wrap (kk + 1) = kk + 1 := IntWalk.i64_in _ (by omega)
   simp -dsimp -implicitDefEqProofs only [go_sem, ↓reduceIte, Tryz.f37, hlen, vK, gm, eq_self, decide_true, Bool.not_true, bne_self_eq_false, l6]
   repeat' (with_reducible first | intro _ | refine And.intro ?_ ?_)
   all_goals try omega
   all_goals try (exact absurd rfl (by assumption))
   refine ⟨i + 1, ?_⟩
   simp only [t3, wR]
   repeat' (with_reducible first | intro _ | refine And.intro ?_ ?_)
   all_goals first | rfl | trivial | omega | exact aB.le_refl _ | (rw [IntWalk.i64_in _ (by omega)]; omega)
  ·have vK : i = es.length := by omega
   subst vK
   rw [List.take_length]
   simp -dsimp -implicitDefEqProofs only [go_sem, ↓reduceIte, Tryz.f37, hlen, Int.lt_irrefl, Nat.lt_irrefl]
   first | done | (intro _; rfl) | rfl
@[go_sem] def aN1 : List Nat := [0, 1, 4, 5, 9, 19]
@[go_sem] def a52 : List Nat := []
@[go_sem] def a53 : Marks := fun _ => ([], .nil, [])
theorem aN2 (l : List (List Int)) : aG9 Tryz.prog 74 (OS (oS (oP I) 1) 1 l) := by
 intro y k hy h0 h1
 rcases hy with ⟨rfl, hl⟩ | ⟨n, es, rfl, hor⟩
 ·rw [OV.pO, vU, OV.rP]
  refine eI 21 aN1 a52 a53 mix Tryz.func74 rfl (by kernel_rfl) (by simp) fun h => ?_
  simp -dsimp -implicitDefEqProofs only [go_sem, ↓reduceIte, Tryz.f74]
  refine cS (keep := aN1) (ib := a52) (mk := a53) mix (by kernel_rfl) (fun _ : Unit => [(0, .sl 1 [] false), (1, I k), (5, I 0)]) (fun _ => h) (fun _ => True) (fun _ => 0) () (by simp [dA, cH, aB.le_refl]) ?_
  intro _ _
  simp -dsimp -implicitDefEqProofs only [go_sem, ↓reduceIte, Tryz.f74, eU, Int.lt_irrefl]
  first | done | (intro _; simp) | simp
 ·rw [OV.tW, aAJ, OV.mO]
  rw [OV.mO] at h1
  have hlen : (OV.cN (OV.cE k es)).length = es.length := by rw [iV, OV.e6]
  refine eI 21 aN1 a52 a53 mix Tryz.func74 rfl (by kernel_rfl) (by simp) fun h => ?_
  simp -dsimp -implicitDefEqProofs only [go_sem, ↓reduceIte, Tryz.f74, hlen]
  refine cS (keep := aN1) (ib := a52) (mk := a53) mix (by kernel_rfl) (fun i : Nat => [(0, .sl 1 (OV.cN (OV.cE k es)) false), (1, I (k + OV.cV (es.take i))), (5, I i)]) (fun _ => h) (fun i => i ≤ es.length) (fun i => es.length - i) 0 (by simp [dA, cH, OV.cV, aB.le_refl]) ?_
  intro i hi
  rcases Nat.lt_or_ge i es.length with hlt | hge
  ·have hll : i < l.length := by rw [hor.length]; exact hlt
   obtain ⟨A, e, B, rfl, hA, he⟩ := hor.split i hll
   have t1 : (A ++ e :: B).take i = A := by rw [← hA]; simp
   have t0 : A ++ e :: B = (A ++ [e]) ++ B := by simp
   have t3 : (A ++ e :: B).take (i + 1) = A ++ [e] := by rw [t0]; exact List.take_left' (by simp [hA])
   clear t0
   have hct := OV.fF A (e :: B)
   rw [OV.cV] at hct
   rw [t1]
   have wR := OV.iU A e
   have hD : OV.cN (OV.cE k (A ++ e :: B)) = OV.cN (OV.cE k A) ++ (OV.rE (k + (OV.cV A : Int)) e).map OV.mK :: OV.cN (OV.cE (k + (OV.cV A : Int) + (OV.jP e : Int)) B) := by
    rw [OV.kB, lZ, OV.cE, pC]
   have hA2 : (OV.cN (OV.cE k A)).length = i := by rw [iV, OV.e6, hA]
   have vK : (i : Int) < (A ++ e :: B).length := by omega
   obtain ⟨pJ, rfl, kF⟩ := he
   simp only [OV.jV, OV.k5, OV.vJ, Nat.add_zero, iZ] at hct wR
   generalize hkk : k + (OV.cV A : Int) = kk at hD ⊢
   have gm : (OV.cN (OV.cE k (A ++ [pJ] :: B)))[i]? = some ((OV.rE kk [pJ]).map OV.mK) := by rw [hD]; exact p0 hA2
   simp only [OV.jW, OV.k6, OV.aHN, nD, k7, nE, OV.vJ, iZ, iL, jM, aAI] at gm
   clear hD
   generalize OV.cN (OV.cE k (A ++ [pJ] :: B)) = DD at gm hlen ⊢
   simp -dsimp -implicitDefEqProofs only [go_sem, ↓reduceIte, Tryz.f74, hlen, vK, gm, eq_self, decide_true, Bool.not_true, bne_self_eq_false]
   repeat' (with_reducible first | intro _ | refine And.intro ?_ ?_)
   all_goals try omega
   all_goals try (exact absurd rfl (by assumption))
   refine aJ.mk ((tD l[i]) pJ (kk) kF (by omega) (by omega)) ?_
   have oD : ∃ z : Int, z = kk + (pJ.ct : Int) := ⟨_, rfl⟩
   obtain ⟨kk0, oD⟩ := oD
   rw [← oD]
   simp -dsimp -implicitDefEqProofs only [go_sem, ↓reduceIte, Tryz.f74, hlen, vK, gm, eq_self, decide_true, Bool.not_true, bne_self_eq_false]
   repeat' (with_reducible first | intro _ | refine And.intro ?_ ?_)
   all_goals try omega
   all_goals try (exact absurd rfl (by assumption))
   refine ⟨i + 1, ?_⟩
   simp only [t3, wR]
   repeat' (with_reducible first | intro _ | refine And.intro ?_ ?_)
   all_goals first | rfl | trivial | omega | exact aB.le_refl _ | (rw [IntWalk.i64_in _ (by omega)]; omega)
  ·have vK : i = es.length := by omega
   subst vK
   rw [List.take_length]
   simp -dsimp -implicitDefEqProofs only [go_sem, ↓reduceIte, Tryz.f74, hlen, Int.lt_irrefl, Nat.lt_irrefl]
   first | done | (intro _; rfl) | rfl
@[go_sem] def bCV : List Nat := [0, 1, 2, 4, 10, 16, 22]
@[go_sem] def bQT : List Nat := [2]
@[go_sem] def bQU : Marks := fun _ => ([], .nil, [])
theorem a05 (x : e7) : a0X Tryz.prog 36 x.o := by
 intro e k he h0 h1
 obtain ⟨pJ, w6, s6, rfl, kF, oE, mI⟩ := he
 simp only [OV.iM, OV.jQ, OV.vV, OV.iN, OV.jR, OV.vW, Nat.add_zero, Nat.zero_add, eU, Int.add_zero, Int.zero_add, kF.oY, kF.pI, oE.oY, oE.pI, mI.oY, mI.pI, iL, jM, aAI] at h1 ⊢
 refine eI 24 bCV bQT bQU mix Tryz.func36 rfl (by kernel_rfl) (by simp) fun h => ?_
 simp -dsimp -implicitDefEqProofs only [go_sem, ↓reduceIte, Tryz.f36, kF.dC, kF.dX, oE.dC, oE.dX, mI.dC, mI.dX]
 repeat' (with_reducible first | intro _ | refine And.intro ?_ ?_)
 all_goals try omega
 have zO := aNZ x.bN [pJ] (k) ⟨pJ, rfl, kF⟩ (by omega) (by simp only [OV.iM, OV.jQ, OV.vV, OV.iN, OV.jR, OV.vW, Nat.add_zero, Nat.zero_add, eU, Int.add_zero, Int.zero_add, kF.oY, kF.pI, oE.oY, oE.pI, mI.oY, mI.pI]; omega)
 simp only [OV.iM, OV.jQ, OV.vV, OV.iN, OV.jR, OV.vW, Nat.add_zero, Nat.zero_add, eU, Int.add_zero, Int.zero_add, kF.oY, kF.pI, oE.oY, oE.pI, mI.oY, mI.pI, iL, jM, aAI, Int.natCast_add, ← Int.add_assoc] at zO
 refine aJ.mk zO ?_
 simp -dsimp -implicitDefEqProofs only [go_sem, ↓reduceIte, Tryz.f36, kF.dC, kF.dX, oE.dC, oE.dX, mI.dC, mI.dX]
 repeat' (with_reducible first | intro _ | refine And.intro ?_ ?_)
 all_goals try omega
 refine aJ.mk (tD x.cX w6 (k + (pJ.ct : Int)) oE (by omega) (by omega)) ?_
 simp -dsimp -implicitDefEqProofs only [go_sem, ↓reduceIte, Tryz.f36, kF.dC, kF.dX, oE.dC, oE.dX, mI.dC, mI.dX]
 repeat' (with_reducible first | intro _ | refine And.intro ?_ ?_)
 all_goals try omega
 refine aJ.mk (aN2 x.bO s6 (k + (pJ.ct : Int) + (w6.ct : Int)) mI (by omega) (by omega)) ?_
 simp -dsimp -implicitDefEqProofs only [go_sem, ↓reduceIte, Tryz.f36, kF.dC, kF.dX, oE.dC, oE.dX, mI.dC, mI.dX]
 repeat' (with_reducible first | intro _ | refine And.intro ?_ ?_)
 all_goals try omega
 all_goals first | done | rfl | trivial | (congr 1; omega) | omega | (simp only [go_sem]; omega)
@[go_sem] def aN3 : List Nat := [0, 1, 4, 5, 9, 19]
@[go_sem] def a54 : List Nat := []
@[go_sem] def a55 : Marks := fun _ => ([], .nil, [])
theorem aTJ (l : List Bool) : aG9 Tryz.prog 38 (OS (oP aD.bool) 1 l) := by
 intro y k hy h0 h1
 rcases hy with ⟨rfl, hl⟩ | ⟨n, es, rfl, hor⟩
 ·rw [OV.pO, vU, OV.rP]
  refine eI 23 aN3 a54 a55 mix Tryz.func38 rfl (by kernel_rfl) (by simp) fun h => ?_
  simp -dsimp -implicitDefEqProofs only [go_sem, ↓reduceIte, Tryz.f38]
  refine cS (keep := aN3) (ib := a54) (mk := a55) mix (by kernel_rfl) (fun _ : Unit => [(0, .sl 1 [] false), (1, I k), (5, I 0)]) (fun _ => h) (fun _ => True) (fun _ => 0) () (by simp [dA, cH, aB.le_refl]) ?_
  intro _ _
  simp -dsimp -implicitDefEqProofs only [go_sem, ↓reduceIte, Tryz.f38, eU, Int.lt_irrefl]
  first | done | (intro _; simp) | simp
 ·rw [OV.tW, aAJ, OV.mO]
  rw [OV.mO] at h1
  have hlen : (OV.cN (OV.cE k es)).length = es.length := by rw [iV, OV.e6]
  refine eI 23 aN3 a54 a55 mix Tryz.func38 rfl (by kernel_rfl) (by simp) fun h => ?_
  simp -dsimp -implicitDefEqProofs only [go_sem, ↓reduceIte, Tryz.f38, hlen]
  refine cS (keep := aN3) (ib := a54) (mk := a55) mix (by kernel_rfl) (fun i : Nat => [(0, .sl 1 (OV.cN (OV.cE k es)) false), (1, I (k + OV.cV (es.take i))), (5, I i)]) (fun _ => h) (fun i => i ≤ es.length) (fun i => es.length - i) 0 (by simp [dA, cH, OV.cV, aB.le_refl]) ?_
  intro i hi
  rcases Nat.lt_or_ge i es.length with hlt | hge
  ·have hll : i < l.length := by rw [hor.length]; exact hlt
   obtain ⟨A, e, B, rfl, hA, he⟩ := hor.split i hll
   have t1 : (A ++ e :: B).take i = A := by rw [← hA]; simp
   have t0 : A ++ e :: B = (A ++ [e]) ++ B := by simp
   have t3 : (A ++ e :: B).take (i + 1) = A ++ [e] := by rw [t0]; exact List.take_left' (by simp [hA])
   clear t0
   have hct := OV.fF A (e :: B)
   rw [OV.cV] at hct
   rw [t1]
   have wR := OV.iU A e
   have hD : OV.cN (OV.cE k (A ++ e :: B)) = OV.cN (OV.cE k A) ++ (OV.rE (k + (OV.cV A : Int)) e).map OV.mK :: OV.cN (OV.cE (k + (OV.cV A : Int) + (OV.jP e : Int)) B) := by
    rw [OV.kB, lZ, OV.cE, pC]
   have hA2 : (OV.cN (OV.cE k A)).length = i := by rw [iV, OV.e6, hA]
   have vK : (i : Int) < (A ++ e :: B).length := by omega
   obtain rfl : _ = _ := he
   simp only [OV.jV, OV.k5, OV.vJ, Nat.add_zero, iZ] at hct wR
   generalize hkk : k + (OV.cV A : Int) = kk at hD ⊢
   have gm : (OV.cN (OV.cE k (A ++ [.v (.bool l[i])] :: B)))[i]? = some ((OV.rE kk [.v (.bool l[i])]).map OV.mK) := by rw [hD]; exact p0 hA2
   simp only [OV.jW, OV.k6, OV.aHN, nD, k7, nE, OV.vJ, iZ, iL, jM, aAI] at gm
   clear hD
   generalize OV.cN (OV.cE k (A ++ [.v (.bool l[i])] :: B)) = DD at gm hlen ⊢
   have l6 : IntKind.i64.wrap (kk + 1) = kk + 1 := IntWalk.i64_in _ (by omega)
   simp -dsimp -implicitDefEqProofs only [go_sem, ↓reduceIte, Tryz.f38, hlen, vK, gm, eq_self, decide_true, Bool.not_true, bne_self_eq_false, l6]
   repeat' (with_reducible first | intro _ | refine And.intro ?_ ?_)
   all_goals try omega
   all_goals try (exact absurd rfl (by assumption))
   refine ⟨i + 1, ?_⟩
   simp only [t3, wR]
   repeat' (with_reducible first | intro _ | refine And.intro ?_ ?_)
   all_goals first | rfl | trivial | omega | exact aB.le_refl _ | (rw [IntWalk.i64_in _ (by omega)]; omega)
  ·have vK : i = es.length := by omega
   subst vK
   rw [List.take_length]
   simp -dsimp -implicitDefEqProofs only [go_sem, ↓reduceIte, Tryz.f38, hlen, Int.lt_irrefl, Nat.lt_irrefl]
   first | done | (intro _; rfl) | rfl
@[go_sem] def aN4 : List Nat := [0, 1, 4, 5, 9, 18, 27, 38]
@[go_sem] def a56 : List Nat := []
@[go_sem] def a57 : Marks := fun _ => ([], .nil, [])
theorem aTK (l : List bI) : aG9 Tryz.prog 39 (OS bI.o 3 l) := by
 intro y k hy h0 h1
 rcases hy with ⟨rfl, hl⟩ | ⟨n, es, rfl, hor⟩
 ·rw [OV.pO, vU, OV.rP]
  refine eI 40 aN4 a56 a57 mix Tryz.func39 rfl (by kernel_rfl) (by simp) fun h => ?_
  simp -dsimp -implicitDefEqProofs only [go_sem, ↓reduceIte, Tryz.f39]
  refine cS (keep := aN4) (ib := a56) (mk := a57) mix (by kernel_rfl) (fun _ : Unit => [(0, .sl 3 [] false), (1, I k), (5, I 0)]) (fun _ => h) (fun _ => True) (fun _ => 0) () (by simp [dA, cH, aB.le_refl]) ?_
  intro _ _
  simp -dsimp -implicitDefEqProofs only [go_sem, ↓reduceIte, Tryz.f39, eU, Int.lt_irrefl]
  first | done | (intro _; simp) | simp
 ·rw [OV.tW, aAJ, OV.mO]
  rw [OV.mO] at h1
  have hlen : (OV.cN (OV.cE k es)).length = es.length := by rw [iV, OV.e6]
  refine eI 40 aN4 a56 a57 mix Tryz.func39 rfl (by kernel_rfl) (by simp) fun h => ?_
  simp -dsimp -implicitDefEqProofs only [go_sem, ↓reduceIte, Tryz.f39, hlen]
  refine cS (keep := aN4) (ib := a56) (mk := a57) mix (by kernel_rfl) (fun i : Nat => [(0, .sl 3 (OV.cN (OV.cE k es)) false), (1, I (k + OV.cV (es.take i))), (5, I i)]) (fun _ => h) (fun i => i ≤ es.length) (fun i => es.length - i) 0 (by simp [dA, cH, OV.cV, aB.le_refl]) ?_
  intro i hi
  rcases Nat.lt_or_ge i es.length with hlt | hge
  ·have hll : i < l.length := by rw [hor.length]; exact hlt
   obtain ⟨A, e, B, rfl, hA, he⟩ := hor.split i hll
   have t1 : (A ++ e :: B).take i = A := by rw [← hA]; simp
   have t0 : A ++ e :: B = (A ++ [e]) ++ B := by simp
   have t3 : (A ++ e :: B).take (i + 1) = A ++ [e] := by rw [t0]; exact List.take_left' (by simp [hA])
   clear t0
   have hct := OV.fF A (e :: B)
   rw [OV.cV] at hct
   rw [t1]
   have wR := OV.iU A e
   have hD : OV.cN (OV.cE k (A ++ e :: B)) = OV.cN (OV.cE k A) ++ (OV.rE (k + (OV.cV A : Int)) e).map OV.mK :: OV.cN (OV.cE (k + (OV.cV A : Int) + (OV.jP e : Int)) B) := by
    rw [OV.kB, lZ, OV.cE, pC]
   have hA2 : (OV.cN (OV.cE k A)).length = i := by rw [iV, OV.e6, hA]
   have vK : (i : Int) < (A ++ e :: B).length := by omega
   obtain ⟨zM, rfl, o_2⟩ := he
   simp only [OV.jV, OV.k5, OV.vJ, Nat.add_zero, iZ] at hct wR
   generalize hkk : k + (OV.cV A : Int) = kk at hD ⊢
   have gm : (OV.cN (OV.cE k (A ++ [.v (.int .i64 l[i].cM), .v (.int .i64 l[i].gB), zM] :: B)))[i]? = some ((OV.rE kk [.v (.int .i64 l[i].cM), .v (.int .i64 l[i].gB), zM]).map OV.mK) := by rw [hD]; exact p0 hA2
   simp only [OV.jW, OV.k6, OV.aHN, nD, k7, nE, OV.vJ, iZ, iL, jM, aAI] at gm
   clear hD
   generalize OV.cN (OV.cE k (A ++ [.v (.int .i64 l[i].cM), .v (.int .i64 l[i].gB), zM] :: B)) = DD at gm hlen ⊢
   have l6 : IntKind.i64.wrap (kk + 1) = kk + 1 := IntWalk.i64_in _ (by omega)
   have rQ : IntKind.i64.wrap (kk + 1 + 1) = kk + 1 + 1 := IntWalk.i64_in _ (by omega)
   simp -dsimp -implicitDefEqProofs only [go_sem, ↓reduceIte, Tryz.f39, hlen, vK, gm, eq_self, decide_true, Bool.not_true, bne_self_eq_false, l6, rQ]
   repeat' (with_reducible first | intro _ | refine And.intro ?_ ?_)
   all_goals try omega
   all_goals try (exact absurd rfl (by assumption))
   refine aJ.mk ((tD l[i].iJ) zM (kk + 1 + 1) o_2 (by omega) (by omega)) ?_
   have oD : ∃ z : Int, z = kk + 1 + 1 + (zM.ct : Int) := ⟨_, rfl⟩
   obtain ⟨kk0, oD⟩ := oD
   rw [← oD]
   simp -dsimp -implicitDefEqProofs only [go_sem, ↓reduceIte, Tryz.f39, hlen, vK, gm, eq_self, decide_true, Bool.not_true, bne_self_eq_false, l6, rQ]
   repeat' (with_reducible first | intro _ | refine And.intro ?_ ?_)
   all_goals try omega
   all_goals try (exact absurd rfl (by assumption))
   refine ⟨i + 1, ?_⟩
   simp only [t3, wR]
   repeat' (with_reducible first | intro _ | refine And.intro ?_ ?_)
   all_goals first | rfl | trivial | omega | exact aB.le_refl _ | (rw [IntWalk.i64_in _ (by omega)]; omega)
  ·have vK : i = es.length := by omega
   subst vK
   rw [List.take_length]
   simp -dsimp -implicitDefEqProofs only [go_sem, ↓reduceIte, Tryz.f39, hlen, Int.lt_irrefl, Nat.lt_irrefl]
   first | done | (intro _; rfl) | rfl
@[go_sem] def bCW : List Nat := [0, 1, 2, 4, 10, 16, 22, 28, 34]
@[go_sem] def bQV : List Nat := [2]
@[go_sem] def bQW : Marks := fun _ => ([], .nil, [])
theorem aEA (x : aR) : a0X Tryz.prog 13 x.o := by
 intro e k he h0 h1
 obtain ⟨pJ, w6, s6, y_5, y_6, y_7, y_8, rfl, kF, oE, mI, xZ, x5, x6, x7⟩ := he
 simp only [OV.iM, OV.jQ, OV.vV, OV.iN, OV.jR, OV.vW, Nat.add_zero, Nat.zero_add, eU, Int.add_zero, Int.zero_add, kF.oY, kF.pI, oE.oY, oE.pI, mI.oY, mI.pI, xZ.oY, xZ.pI, x5.oY, x5.pI, x6.oY, x6.pI, x7.oY, x7.pI, iL, jM, aAI] at h1 ⊢
 refine eI 36 bCW bQV bQW mix Tryz.func13 rfl (by kernel_rfl) (by simp) fun h => ?_
 simp -dsimp -implicitDefEqProofs only [go_sem, ↓reduceIte, Tryz.f13, kF.dC, kF.dX, oE.dC, oE.dX, mI.dC, mI.dX, xZ.dC, xZ.dX, x5.dC, x5.dX, x6.dC, x6.dX, x7.dC, x7.dX]
 repeat' (with_reducible first | intro _ | refine And.intro ?_ ?_)
 all_goals try omega
 have zO := a05 x.bF [pJ, .v (.int .i64 x.bF.b8), .v (.int .i64 x.bF.aX), w6, s6] (k) ⟨pJ, w6, s6, rfl, kF, oE, mI⟩ (by omega) (by simp only [OV.iM, OV.jQ, OV.vV, OV.iN, OV.jR, OV.vW, Nat.add_zero, Nat.zero_add, eU, Int.add_zero, Int.zero_add, kF.oY, kF.pI, oE.oY, oE.pI, mI.oY, mI.pI, xZ.oY, xZ.pI, x5.oY, x5.pI, x6.oY, x6.pI, x7.oY, x7.pI]; omega)
 simp only [OV.iM, OV.jQ, OV.vV, OV.iN, OV.jR, OV.vW, Nat.add_zero, Nat.zero_add, eU, Int.add_zero, Int.zero_add, kF.oY, kF.pI, oE.oY, oE.pI, mI.oY, mI.pI, xZ.oY, xZ.pI, x5.oY, x5.pI, x6.oY, x6.pI, x7.oY, x7.pI, iL, jM, aAI, Int.natCast_add, ← Int.add_assoc] at zO
 refine aJ.mk zO ?_
 simp -dsimp -implicitDefEqProofs only [go_sem, ↓reduceIte, Tryz.f13, kF.dC, kF.dX, oE.dC, oE.dX, mI.dC, mI.dX, xZ.dC, xZ.dX, x5.dC, x5.dX, x6.dC, x6.dX, x7.dC, x7.dX]
 repeat' (with_reducible first | intro _ | refine And.intro ?_ ?_)
 all_goals try omega
 refine aJ.mk (tD x.aY y_5 (k + (pJ.ct : Int) + (w6.ct : Int) + (s6.ct : Int)) xZ (by omega) (by omega)) ?_
 simp -dsimp -implicitDefEqProofs only [go_sem, ↓reduceIte, Tryz.f13, kF.dC, kF.dX, oE.dC, oE.dX, mI.dC, mI.dX, xZ.dC, xZ.dX, x5.dC, x5.dX, x6.dC, x6.dX, x7.dC, x7.dX]
 repeat' (with_reducible first | intro _ | refine And.intro ?_ ?_)
 all_goals try omega
 refine aJ.mk (aTJ x.cB y_6 (k + (pJ.ct : Int) + (w6.ct : Int) + (s6.ct : Int) + (y_5.ct : Int)) x5 (by omega) (by omega)) ?_
 simp -dsimp -implicitDefEqProofs only [go_sem, ↓reduceIte, Tryz.f13, kF.dC, kF.dX, oE.dC, oE.dX, mI.dC, mI.dX, xZ.dC, xZ.dX, x5.dC, x5.dX, x6.dC, x6.dX, x7.dC, x7.dX]
 repeat' (with_reducible first | intro _ | refine And.intro ?_ ?_)
 all_goals try omega
 refine aJ.mk (aTK x.b7 y_7 (k + (pJ.ct : Int) + (w6.ct : Int) + (s6.ct : Int) + (y_5.ct : Int) + (y_6.ct : Int)) x6 (by omega) (by omega)) ?_
 simp -dsimp -implicitDefEqProofs only [go_sem, ↓reduceIte, Tryz.f13, kF.dC, kF.dX, oE.dC, oE.dX, mI.dC, mI.dX, xZ.dC, xZ.dX, x5.dC, x5.dX, x6.dC, x6.dX, x7.dC, x7.dX]
 repeat' (with_reducible first | intro _ | refine And.intro ?_ ?_)
 all_goals try omega
 refine aJ.mk (tD x.b9 y_8 (k + (pJ.ct : Int) + (w6.ct : Int) + (s6.ct : Int) + (y_5.ct : Int) + (y_6.ct : Int) + (y_7.ct : Int)) x7 (by omega) (by omega)) ?_
 simp -dsimp -implicitDefEqProofs only [go_sem, ↓reduceIte, Tryz.f13, kF.dC, kF.dX, oE.dC, oE.dX, mI.dC, mI.dX, xZ.dC, xZ.dX, x5.dC, x5.dX, x6.dC, x6.dX, x7.dC, x7.dX]
 repeat' (with_reducible first | intro _ | refine And.intro ?_ ?_)
 all_goals try omega
 all_goals first | done | rfl | trivial | (congr 1; omega) | omega | (simp only [go_sem]; omega)
set_option maxRecDepth 100000
open Go.Proofs
set_option linter.unusedVariables false
set_option linter.unusedSimpArgs false
@[go_sem] def a1A : List Nat := [0, 1, 4, 5, 10, 12, 13, 14, 24]
@[go_sem] def bJM : List Nat := []
@[go_sem] def bJN : Marks := fun id => match id with | 6 => ([], (.op 0 (.op 1 (.op 2 (.op 3 (.op 4 (.op 5 (.op 6 (.op 7 (.op 8 .nil))))))))), []) | _ => ([], .nil, [])
theorem vX (a b : List Int) : e8 Tryz.prog 88 [(c5 1 (fun n => [I n]) a), (c5 1 (fun n => [I n]) b)] (.bool (decide (a = b))) := by
 refine eI 26 a1A bJM bJN mix Tryz.func88 rfl (by kernel_rfl) (by simp) fun h => ?_
 simp -dsimp -implicitDefEqProofs only [go_sem, ↓reduceIte, Tryz.f88]
 refine fun _ _ => ⟨fun hne => ?_, fun heq => ?_⟩
 ·exact (decide_eq_false fun e => hne (by rw [e])).symm
 ·refine fun _ => ?_
  refine cS (keep := a1A) (ib := bJM) (mk := bJN) mix (by kernel_rfl) (fun k : Nat => [(0, (c5 1 (fun n => [I n]) a)), (1, (c5 1 (fun n => [I n]) b)), (12, I a.length), (13, I k)]) (fun _ => h) (fun k => k ≤ a.length ∧ a.take k = b.take k) (fun k => a.length - k) 0 (by simp [dA, cH, aB.le_refl]) ?_
  intro k ⟨hk, hp⟩
  rcases Nat.lt_or_ge k a.length with hlt | hge
  ·have hlb : k < b.length := by omega
   have ea : a[k]? = some a[k] := List.getElem?_eq_getElem hlt
   have eb : b[k]? = some b[k] := List.getElem?_eq_getElem hlb
   simp -dsimp -implicitDefEqProofs only [go_sem, ↓reduceIte, Tryz.f88, ea, eb]
   refine ⟨fun _ => ⟨hlt, hlb, fun hne => ?_, fun he => ?_⟩, fun hn => absurd hlt hn⟩
   ·first
     |exact (decide_eq_false fun e => hne (getElem_of_eq e hlt)).symm
     |exact (decide_eq_false fun e => by have := getElem_of_eq e hlt (hb := hlb); rw [this] at hne; simp at hne).symm
   ·exact ⟨k + 1, by rw [IntWalk.i64_in _ (by omega)]; rfl, ⟨by omega, sS hlt hlb hp (by first | exact he | simpa using he)⟩, by omega⟩
  ·have hk' : k = a.length := by omega
   subst hk'
   simp -dsimp -implicitDefEqProofs only [go_sem, ↓reduceIte, Tryz.f88, Nat.lt_irrefl]
   exact (decide_eq_true (p8 heq hp)).symm
open Go.Proofs
set_option linter.unusedVariables false
set_option linter.unusedSimpArgs false
set_option maxRecDepth 100000
open Go.Proofs
set_option linter.unusedVariables false
set_option linter.unusedSimpArgs false
@[go_sem] def bCY : List Nat := [0, 1, 2, 3, 4]
@[go_sem] def bQX : List Nat := [2, 3]
@[go_sem] def bQY : Marks := fun _ => ([], .nil, [])
theorem a1B (a b : bI) : e8 Tryz.prog 58 [.agg a.c, .agg b.c] (.bool (decide (a = b))) := by
 simp only [bI.aN]
 refine eI 24 bCY bQX bQY mix Tryz.func58 rfl (by kernel_rfl) (by simp) fun h => ?_
 simp -dsimp -implicitDefEqProofs only [go_sem, ↓reduceIte, Tryz.f58]
 repeat' (with_reducible first | intro _ | refine And.intro ?_ ?_)
 all_goals try (first | (simp [bI.eq_iff, *]; done) | omega | (grind [bI.eq_iff]) | (simp [bI.eq_iff]; omega))
 first | refine aJ.mk (vX a.iJ b.iJ) ?_ | refine aL.mk (vX a.iJ b.iJ) ?_ | refine aJ.dF (vX a.iJ b.iJ) ?_ | refine aL.mk (cZ.gC (vX a.iJ b.iJ)) ?_
 simp -dsimp -implicitDefEqProofs only [go_sem, ↓reduceIte, Tryz.f58]
 all_goals try (first | (simp [bI.eq_iff, *]; done) | omega | (grind [bI.eq_iff]) | (simp [bI.eq_iff]; omega))
set_option maxRecDepth 100000
open Go.Proofs
set_option linter.unusedVariables false
set_option linter.unusedSimpArgs false
@[go_sem] def bCZ : List Nat := [0, 1, 2, 6]
@[go_sem] def bQZ : List Nat := []
@[go_sem] def bQ0 : Marks := fun _ => ([], .nil, [])
theorem fG (n a b : Int) : e8 Tryz.prog 44 [I n, I a, I b] (.bool (decide (a ≤ n ∧ n ≤ b))) := by
 refine eI 15 bCZ bQZ bQ0 mix Tryz.func44 rfl (by kernel_rfl) (by simp) fun h => ?_
 simp -dsimp -implicitDefEqProofs only [go_sem, ↓reduceIte, Tryz.f44]
 repeat' (with_reducible first | intro _ | refine And.intro ?_ ?_)
 all_goals try (first | (simp [*]; done) | omega | grind)
@[go_sem] def bC0 : List Nat := [0, 1, 2, 6]
@[go_sem] def bQ1 : List Nat := []
@[go_sem] def bQ2 : Marks := fun _ => ([], .nil, [])
theorem within (n a b : Int) : e8 Tryz.prog 56 [I n, I a, I b] (.bool (decide (a ≤ n ∧ n ≤ b))) := by
 refine eI 15 bC0 bQ1 bQ2 mix Tryz.func56 rfl (by kernel_rfl) (by simp) fun h => ?_
 simp -dsimp -implicitDefEqProofs only [go_sem, ↓reduceIte, Tryz.f56]
 repeat' (with_reducible first | intro _ | refine And.intro ?_ ?_)
 all_goals try (first | (simp [*]; done) | omega | grind)
@[go_sem] def bC1 : List Nat := [0, 2]
@[go_sem] def bQ3 : List Nat := []
@[go_sem] def bQ4 : Marks := fun _ => ([], .nil, [])
theorem k8 (n : Int) : e8 Tryz.prog 78 [I n] (.bool (decide (nZ n))) := by
 refine eI 5 bC1 bQ3 bQ4 mix Tryz.func78 rfl (by kernel_rfl) (by simp) fun h => ?_
 simp -dsimp -implicitDefEqProofs only [go_sem, ↓reduceIte, Tryz.f78]
 first | refine aJ.mk (fG n 0 1000002) ?_ | refine aL.mk (fG n 0 1000002) ?_ | refine aJ.dF (fG n 0 1000002) ?_ | refine aL.mk (cZ.gC (fG n 0 1000002)) ?_
 simp -dsimp -implicitDefEqProofs only [go_sem, ↓reduceIte, Tryz.f78]
 all_goals rfl
@[go_sem] def bC2 : List Nat := [0, 2]
@[go_sem] def bQ5 : List Nat := []
@[go_sem] def bQ6 : Marks := fun _ => ([], .nil, [])
theorem nF (n : Int) : e8 Tryz.prog 61 [I n] (.bool (decide (nZ n))) := by
 refine eI 5 bC2 bQ5 bQ6 mix Tryz.func61 rfl (by kernel_rfl) (by simp) fun h => ?_
 simp -dsimp -implicitDefEqProofs only [go_sem, ↓reduceIte, Tryz.f61]
 first | refine aJ.mk (within n 0 1000002) ?_ | refine aL.mk (within n 0 1000002) ?_ | refine aJ.dF (within n 0 1000002) ?_ | refine aL.mk (cZ.gC (within n 0 1000002)) ?_
 simp -dsimp -implicitDefEqProofs only [go_sem, ↓reduceIte, Tryz.f61]
 all_goals rfl
@[go_sem] def a1C : List Nat := [0, 2, 3, 7, 15]
@[go_sem] def bJO : List Nat := []
@[go_sem] def bJP : Marks := fun _ => ([], .nil, [])
theorem jY (l : List Int) : e8 Tryz.prog 77 [c5 1 (fun n => [I n]) l] (.bool (decide (pB l))) := by
 refine eI 16 a1C bJO bJP mix Tryz.func77 rfl (by kernel_rfl) (by simp) fun h => ?_
 simp -dsimp -implicitDefEqProofs only [go_sem, ↓reduceIte, Tryz.f77]
 refine cS (keep := a1C) (ib := bJO) (mk := bJP) mix (by kernel_rfl) (fun k : Nat => [(0, c5 1 (fun n => [I n]) l), (3, I k)]) (fun _ => h) (fun k => k ≤ (l).length ∧ ∀ x ∈ (l).take k, nZ x) (fun k => (l).length - k) 0 (by simp [dA, cH, aB.le_refl]) ?_
 intro k ⟨hk, hp⟩
 rcases Nat.lt_or_ge k (l).length with hlt | hge
 ·have ea : (l)[k]? = some (l)[k] := List.getElem?_eq_getElem hlt
  simp -dsimp -implicitDefEqProofs only [go_sem, ↓reduceIte, Tryz.f77, ea]
  repeat' (with_reducible first | intro _ | refine And.intro ?_ ?_)
  all_goals try omega
  first | refine aJ.mk (k8 l[k]) ?_ | refine aL.mk (k8 l[k]) ?_ | refine aJ.dF (k8 l[k]) ?_ | refine aL.mk (cZ.gC (k8 l[k])) ?_
  simp -dsimp -implicitDefEqProofs only [go_sem, ↓reduceIte, Tryz.f77]
  repeat' (with_reducible first | intro _ | refine And.intro ?_ ?_)
  ·rename_i he
   exact (decide_eq_false fun e => he (e _ (List.getElem_mem hlt))).symm
  ·rename_i he
   refine ⟨k + 1, ?_⟩
   repeat' (with_reducible refine And.intro ?_ ?_)
   all_goals try (rw [IntWalk.i64_in _ (by omega)]; first | rfl | omega)
   all_goals try omega
   all_goals try (repeat' (with_reducible first | exact aB.le_refl _ | refine (bD (by first | assumption | exact And.right (by assumption) | exact bU.2 (by assumption))).2 ?_))
   exact kG hlt hp he
 ·have hk' : k = (l).length := by omega
  subst hk'
  rw [List.take_length] at hp
  simp -dsimp -implicitDefEqProofs only [go_sem, ↓reduceIte, Tryz.f77, Nat.lt_irrefl]
  intro _
  exact (decide_eq_true hp).symm
@[go_sem] def a1D : List Nat := [0, 1, 4, 5, 7, 8, 9, 16]
@[go_sem] def bJQ : List Nat := []
@[go_sem] def bJR : Marks := fun _ => ([], .nil, [])
theorem aRL (a : List Int) (p : Int → Bool) (g : FuncId) (cap : List aD) {h0 : aB} (hc : ∀ x ∈ a, cZ Tryz.prog g ([(.int .i64 x)] ++ cap) (.bool (p x)) h0) : cZ Tryz.prog 89 [(c5 1 (fun n => [I n]) a), .fn (.func g) [] cap] (I (idxOf p a)) h0 := by
 refine aG4 19 a1D bJQ bJR mix Tryz.func89 rfl (by kernel_rfl) (by simp) fun h hle => ?_
 simp -dsimp -implicitDefEqProofs only [go_sem, ↓reduceIte, Tryz.f89, Tryz.f89]
 intro _
 refine cS (keep := a1D) (ib := bJQ) (mk := bJR) mix (by kernel_rfl) (fun k : Nat => [(0, (c5 1 (fun n => [I n]) a)), (1, .fn (.func g) [] cap), (7, I a.length), (8, I k)]) (fun _ => h) (fun k => k ≤ a.length ∧ ∀ x ∈ a.take k, p x = false) (fun k => a.length - k) 0 (by simp [dA, cH, aB.le_refl]) ?_
 intro k ⟨hk, hp⟩
 rcases Nat.lt_or_ge k a.length with hlt | hge
 ·have ea : a[k]? = some a[k] := List.getElem?_eq_getElem hlt
  simp -dsimp -implicitDefEqProofs only [go_sem, ↓reduceIte, Tryz.f89, Tryz.f89, ea]
  repeat' (with_reducible first | intro _ | refine And.intro ?_ ?_)
  all_goals try omega
  have hx := hc a[k] (List.getElem_mem hlt)
  refine aJ.dF (hx.mono hle) ?_
  cases hpk : p a[k] with
  |true =>
   simp -dsimp -implicitDefEqProofs only [go_sem, ↓reduceIte, Tryz.f89, Tryz.f89]
   repeat' (with_reducible first | intro _ | refine And.intro ?_ ?_)
   all_goals first | exact (sU hlt hp hpk).symm | rfl | (rw [sU hlt hp hpk])
  |false =>
   simp -dsimp -implicitDefEqProofs only [go_sem, ↓reduceIte, Tryz.f89, Tryz.f89]
   refine ⟨k + 1, ?_⟩
   repeat' (with_reducible refine And.intro ?_ ?_)
   all_goals try (rw [IntWalk.i64_in _ (by omega)]; first | rfl | omega)
   all_goals try omega
   exact kG (P := fun x => p x = false) hlt hp hpk
 ·have hk' : k = a.length := by omega
  subst hk'
  rw [List.take_length] at hp
  simp -dsimp -implicitDefEqProofs only [go_sem, ↓reduceIte, Tryz.f89, Tryz.f89, Nat.lt_irrefl]
  all_goals first | exact (sT hp).symm | rw [sT hp]
@[go_sem] def bC3 : List Nat := [0, 1, 4]
@[go_sem] def bQ7 : List Nat := []
@[go_sem] def bQ8 : Marks := fun _ => ([], .nil, [])
theorem vY (a : List Int) (p : Int → Bool) (g : FuncId) (cap : List aD) {h0 : aB} (hc : ∀ x ∈ a, cZ Tryz.prog g ([(.int .i64 x)] ++ cap) (.bool (p x)) h0) : cZ Tryz.prog 59 [(c5 1 (fun n => [I n]) a), .fn (.func g) [] cap] (.bool (a.any p)) h0 := by
 refine aG4 9 bC3 bQ7 bQ8 mix Tryz.func59 rfl (by kernel_rfl) (by simp) fun h hle => ?_
 simp -dsimp -implicitDefEqProofs only [go_sem, ↓reduceIte, Tryz.f59, Tryz.f59]
 refine aJ.dF ((aRL a p g cap hc).mono hle) ?_
 simp -dsimp -implicitDefEqProofs only [go_sem, ↓reduceIte, Tryz.f59, Tryz.f59]
 all_goals first | done | exact pA | rw [pA]
@[go_sem] def bC4 : List Nat := [0, 2]
@[go_sem] def bQ9 : List Nat := []
@[go_sem] def bRA : Marks := fun _ => ([], .nil, [])
theorem vZ (n : Int) : e8 Tryz.prog 60 [I n] (.bool (!decide (nZ n))) := by
 refine eI 6 bC4 bQ9 bRA mix Tryz.func60 rfl (by kernel_rfl) (by simp) fun h => ?_
 simp -dsimp -implicitDefEqProofs only [go_sem, ↓reduceIte, Tryz.f60]
 first | refine aJ.mk (nF n) ?_ | refine aL.mk (nF n) ?_ | refine aJ.dF (nF n) ?_ | refine aL.mk (cZ.gC (nF n)) ?_
 simp -dsimp -implicitDefEqProofs only [go_sem, ↓reduceIte, Tryz.f60]
@[go_sem] def bC5 : List Nat := [0, 1, 4]
@[go_sem] def bRB : List Nat := []
@[go_sem] def bRC : Marks := fun _ => ([], .nil, [])
theorem fW (l : List Int) (c : Int) : e8 Tryz.prog 25 [c5 1 (fun n => [I n]) l, I c] (.bool (decide ((l.length : Int) = c ∧ pB l))) := by
 refine eI 14 bC5 bRB bRC mix Tryz.func25 rfl (by kernel_rfl) (by simp) fun h => ?_
 simp -dsimp -implicitDefEqProofs only [go_sem, ↓reduceIte, Tryz.f25]
 repeat' (with_reducible first | intro _ | refine And.intro ?_ ?_)
 all_goals try (first | (simp [*]; done) | omega | grind)
 first | refine aJ.mk (vY l (fun n => !decide (nZ n)) 60 [] fun x _ => (vZ x).a5G) ?_ | refine aL.mk (vY l (fun n => !decide (nZ n)) 60 [] fun x _ => (vZ x).a5G) ?_ | refine aJ.dF (vY l (fun n => !decide (nZ n)) 60 [] fun x _ => (vZ x).a5G) ?_ | refine aL.mk (cZ.gC (vY l (fun n => !decide (nZ n)) 60 [] fun x _ => (vZ x).a5G)) ?_
 simp -dsimp -implicitDefEqProofs only [go_sem, ↓reduceIte, Tryz.f25]
 rename_i e
 rw [aWA, decide_eq_decide]
 exact ⟨fun q => ⟨e, q⟩, fun q => q.2⟩
set_option maxRecDepth 100000
open Go.Proofs
set_option linter.unusedVariables false
set_option linter.unusedSimpArgs false
def Low (c : UInt8) : Prop := 97 ≤ c.toNat ∧ c.toNat ≤ 122
def Dig (c : UInt8) : Prop := 48 ≤ c.toNat ∧ c.toNat ≤ 57
instance (c : UInt8) : Decidable (Low c) := inferInstanceAs (Decidable (_ ∧ _))
instance (c : UInt8) : Decidable (Dig c) := inferInstanceAs (Decidable (_ ∧ _))
def aEC (s : List UInt8) : Prop := 1 ≤ s.length ∧ s.length ≤ 12 ∧ (∀ c, s[0]? = some c → Low c) ∧ ∀ c ∈ s, Low c ∨ Dig c
noncomputable instance (s : List UInt8) : Decidable (aEC s) := Classical.propDecidable _
theorem aMF {s : List UInt8} {k : Nat} {c : UInt8} (h : k < s.length) (ec : s[k] = c) (hp : ∀ x ∈ s.take k, Low x ∨ Dig x) (he : Low c ∨ Dig c) : ∀ x ∈ s.take (k + 1), Low x ∨ Dig x :=
 kG (P := fun x => Low x ∨ Dig x) h hp (by rw [ec]; exact he)
theorem aRM {s : List UInt8} {k : Nat} {c : UInt8} (h : k < s.length) (ec : s[k] = c) (he : ¬ (Low c ∨ Dig c)) : false = decide (aEC s) :=
 (decide_eq_false fun e => he (ec ▸ e.2.2.2 _ (List.getElem_mem h))).symm
theorem aYQ {s : List UInt8} {k : Nat} {c : UInt8} (h : k < s.length) (h0 : (k : Int) = 0) (ec : s[k] = c) (he : ¬ Low c) : false = decide (aEC s) :=
 (decide_eq_false fun e => he (e.2.2.1 c (by have : k = 0 := by omega
                                             subst this; rw [List.getElem?_eq_getElem h, ec]))).symm
@[go_sem] def aN9 : List Nat := [0, 2, 3, 17, 21, 45]
@[go_sem] def a1E : List Nat := []
@[go_sem] def a1F : Marks := fun _ => ([], .nil, [])
theorem x9 (s : List UInt8) : e8 Tryz.prog 115 [.str s] (.bool (decide (aEC s))) := by
 cases s with
 |nil =>
  refine eI 46 aN9 a1E a1F mix Tryz.func115 rfl (by kernel_rfl) (by simp) fun h => ?_
  simp -dsimp -implicitDefEqProofs only [go_sem, ↓reduceIte, Tryz.f115]
  first | refine aJ.mk (fG 0 1 12) ?_ | refine aL.mk (fG 0 1 12) ?_ | refine aJ.dF (fG 0 1 12) ?_ | refine aL.mk (cZ.gC (fG 0 1 12)) ?_
  simp -dsimp -implicitDefEqProofs only [go_sem, ↓reduceIte, Tryz.f115]
  repeat' (with_reducible first | intro _ | refine And.intro ?_ ?_)
  all_goals try (first | (simp [aEC, *]; done) | omega | (grind [aEC]) | (simp [aEC]; omega))
 |cons c t =>
  refine eI 46 aN9 a1E a1F mix Tryz.func115 rfl (by kernel_rfl) (by simp) fun h => ?_
  simp -dsimp -implicitDefEqProofs only [go_sem, ↓reduceIte, Tryz.f115, List.getElem?_cons_zero, Int.toNat_zero]
  intro _
  first | refine aJ.mk (fG (c :: t).length 1 12) ?_ | refine aL.mk (fG (c :: t).length 1 12) ?_ | refine aJ.dF (fG (c :: t).length 1 12) ?_ | refine aL.mk (cZ.gC (fG (c :: t).length 1 12)) ?_
  simp -dsimp -implicitDefEqProofs only [go_sem, ↓reduceIte, Tryz.f115, List.getElem?_cons_zero, Int.toNat_zero]
  repeat' (with_reducible first | intro _ | refine And.intro ?_ ?_)
  all_goals try (first | (simp [aEC, Low, Dig, *]; done) | omega | (grind [aEC, Low, Dig]) | (simp [aEC, Low, Dig]; omega))
  rename_i h0 h1 h2 h3
  generalize hs : c :: t = s at *
  refine cS (keep := aN9) (ib := a1E) (mk := a1F) mix (by kernel_rfl) (fun k : Nat => [(0, .str s), (3, I k)]) (fun _ => h) (fun k => k ≤ s.length ∧ ∀ x ∈ s.take k, Low x ∨ Dig x) (fun k => s.length - k) 0 (by simp [dA, cH, aB.le_refl]) ?_
  intro k ⟨hk, hp⟩
  rcases Nat.lt_or_ge k s.length with hlt | hge
  ·generalize ec : s[k] = d
   have ea : s[k]? = some d := by rw [← ec]; exact List.getElem?_eq_getElem hlt
   simp -dsimp -implicitDefEqProofs only [go_sem, ↓reduceIte, Tryz.f115, ea, Int.toNat_natCast]
   repeat' (with_reducible first | intro _ | refine And.intro ?_ ?_)
   all_goals try omega
   all_goals try exact aRM hlt ec (by simp only [Low, Dig]; omega)
   all_goals
    refine ⟨k + 1, ?_⟩
    repeat' (with_reducible refine And.intro ?_ ?_)
    all_goals try (rw [IntWalk.i64_in _ (by omega)]; first | rfl | omega)
    all_goals try omega
    all_goals try (repeat' (with_reducible first | exact aB.le_refl _ | refine (bD (by first | assumption | exact And.right (by assumption) | exact bU.2 (by assumption))).2 ?_))
    exact aMF hlt ec hp (by simp only [Low, Dig]; omega)
  ·have hk' : k = s.length := by omega
   subst hk'
   rw [List.take_length] at hp
   simp -dsimp -implicitDefEqProofs only [go_sem, ↓reduceIte, Tryz.f115, Nat.lt_irrefl]
   have : s.length = t.length + 1 := by rw [← hs]; rfl
   exact fun _ => (decide_eq_true ⟨by omega, by omega, fun x hx => by rw [← hs] at hx; simp at hx; subst hx; simp only [Low]; omega, hp⟩).symm
@[go_sem] def aWI : List Nat := [0, 2, 3, 5, 6, 7, 34]
@[go_sem] def a9F : List Nat := []
@[go_sem] def a9G : Marks := fun _ => ([], .nil, [])
theorem aOA (s : List UInt8) : e8 Tryz.prog 121 [.str s] (.bool (decide (aEC s))) := by
 refine eI 44 aWI a9F a9G mix Tryz.func121 rfl (by kernel_rfl) (by simp) fun h => ?_
 simp -dsimp -implicitDefEqProofs only [go_sem, ↓reduceIte, Tryz.f121]
 repeat' (with_reducible first | intro _ | refine And.intro ?_ ?_)
 refine cS (keep := aWI) (ib := a9F) (mk := a9G) mix (by kernel_rfl) (fun k : Nat => [(0, .str s), (5, I s.length), (6, I k)]) (fun _ => h) (fun k => k ≤ s.length ∧ (∀ x ∈ s.take k, Low x ∨ Dig x) ∧ (0 < k → ∀ c, s[0]? = some c → Low c)) (fun k => s.length - k) 0 (by simp [dA, cH, aB.le_refl]) ?_
 intro k ⟨hk, hp, hz⟩
 rcases Nat.lt_or_ge k s.length with hlt | hge
 ·generalize ec : s[k] = d
  have ea : s[k]? = some d := by rw [← ec]; exact List.getElem?_eq_getElem hlt
  have hz' : Low d ∨ ¬ ((k : Int) = 0) → ∀ c, s[0]? = some c → Low c := by
   intro q c hc
   by_cases h0 : k = 0
   ·subst h0
    rw [ea] at hc
    obtain rfl := Option.some.inj hc
    exact q.resolve_right (by simp)
   ·exact hz (by omega) c hc
  simp -dsimp -implicitDefEqProofs only [go_sem, ↓reduceIte, Tryz.f121, ea, Int.toNat_natCast]
  repeat' (with_reducible first | intro _ | refine And.intro ?_ ?_)
  all_goals try omega
  all_goals try exact aRM hlt ec (by simp only [Low, Dig]; omega)
  all_goals try exact aYQ hlt (by omega) ec (by simp only [Low]; omega)
  all_goals
   refine ⟨k + 1, ?_⟩
   repeat' (with_reducible refine And.intro ?_ ?_)
   all_goals try (rw [IntWalk.i64_in _ (by omega)]; first | rfl | omega)
   all_goals try omega
   all_goals try (repeat' (with_reducible first | exact aB.le_refl _ | refine (bD (by first | assumption | exact And.right (by assumption) | exact bU.2 (by assumption))).2 ?_))
   all_goals first | exact aMF hlt ec hp (by simp only [Low, Dig]; omega) | exact fun _ => hz' (by simp only [Low]; omega)
 ·have hk' : k = s.length := by omega
  subst hk'
  rw [List.take_length] at hp
  simp -dsimp -implicitDefEqProofs only [go_sem, ↓reduceIte, Tryz.f121, Nat.lt_irrefl]
  repeat' (with_reducible first | intro _ | refine And.intro ?_ ?_)
  all_goals simp only [aEC, decide_eq_decide, eq_comm (a := false), decide_eq_false_iff_not]
  all_goals grind
set_option maxRecDepth 100000
open Go.Proofs
set_option linter.unusedVariables false
set_option linter.unusedSimpArgs false
mutual
def aA.d : aA → Nat
 | .mk _ _ _ _ kids => aA.dL kids + 1
def aA.dL : List aA → Nat
 | [] => 0
 |x :: l => max x.d (aA.dL l)
end
theorem aA.bJS (x : aA) : x.d = aA.dL x.aM + 1 := by cases x; rfl
theorem aA.aOB : ∀ {l : List aA} {k : Nat} (h : k < l.length), aA.dL (l.take (k + 1)) = max (aA.dL (l.take k)) l[k].d
 |x :: l, 0, _ => by simp [aA.dL]
 |x :: l, k + 1, h => by
  have := aA.aOB (l := l) (k := k) (by simpa using h)
  simp only [List.take_succ_cons, aA.dL, this, List.getElem_cons_succ]
  omega
mutual
theorem aA.bC6 : ∀ x : aA, x.d ≤ x.s + 1
 | .mk _ _ _ _ kids => by
  have := aA.a9H kids
  simp only [aA.d, aA.s]; omega
theorem aA.a9H : ∀ l : List aA, aA.dL l ≤ l.length + aA.sL l
 | [] => by simp [aA.dL]
 |x :: l => by
  have h1 := aA.bC6 x
  have h2 := aA.a9H l
  simp only [aA.dL, aA.sL, List.length_cons]; omega
end
theorem aA.aHC {x y : aA} (h : y ∈ x.aM) : y.s < x.s := by
 have h1 := gG aA.s h
 have h2 := List.length_pos_of_mem h
 rw [x.fR, eN]; omega
theorem aA.a1G (x : aA) {k : Nat} (h : k < x.aM.length) : k + ((x.aM.take k).map aA.s).sum + x.aM[k].s + 1 ≤ x.s := by
 have h1 := gI aA.s x.aM k h
 have h2 := mM aA.s x.aM (k + 1)
 rw [x.fR, eN]; omega
theorem aA.a9I (x : aA) : x.aM.length + ((x.aM.take x.aM.length).map aA.s).sum = x.s := by
 rw [List.take_length, x.fR, eN]
@[go_sem] def aWJ : List Nat := [0, 1, 2, 3, 5, 7, 8, 9, 10]
@[go_sem] def a9J : List Nat := [1]
@[go_sem] def a9K : Marks := fun _ => ([], .nil, [])
theorem aLR (x : aA) (hs : x.s ≤ 4294967296) (hc : ∀ y ∈ x.aM, e8 Tryz.prog 125 [.agg y.c] (I ((y.s : Int) + 1))) : e8 Tryz.prog 125 [.agg x.c] (I ((x.s : Int) + 1)) := by
 have hx := x.a9I
 rw [aA.aN x]
 refine eI 19 aWJ a9J a9K mix Tryz.func125 rfl (by kernel_rfl) (by simp) fun h => ?_
 simp -dsimp -implicitDefEqProofs only [go_sem, ↓reduceIte, Tryz.f125]
 repeat' (with_reducible first | intro _ | refine And.intro ?_ ?_)
 refine cS (keep := aWJ) (ib := a9J) (mk := a9K) mix (by kernel_rfl) (fun k : Nat => [(1, .ip 5 [x.c] 0 0), (3, I (1 + k + (((x.aM.take k).map aA.s).sum : Int))), (7, c5 5 aA.c x.aM), (8, I x.aM.length), (9, I k)]) (fun _ => h) (fun k => k ≤ x.aM.length) (fun k => x.aM.length - k) 0 (by simp [dA, cH, aB.le_refl, aA.aN]) ?_
 intro k hk
 rcases Nat.lt_or_ge k x.aM.length with hlt | hge
 ·have ea : x.aM[k]? = some x.aM[k] := List.getElem?_eq_getElem hlt
  have hp := x.a1G hlt
  have h1 := gI aA.s x.aM k hlt
  have hcy := hc x.aM[k] (List.getElem_mem hlt)
  simp only [aA.aN] at hcy
  simp -dsimp -implicitDefEqProofs only [go_sem, ↓reduceIte, Tryz.f125, ea, aA.aN, aF]
  repeat' (with_reducible first | intro _ | refine And.intro ?_ ?_)
  all_goals try omega
  first | refine aJ.mk (hcy) ?_ | refine aL.mk (hcy) ?_ | refine aJ.dF (hcy) ?_ | refine aL.mk (cZ.gC (hcy)) ?_
  simp -dsimp -implicitDefEqProofs only [go_sem, ↓reduceIte, Tryz.f125]
  rename_i n hn
  refine ⟨k + 1, ?_⟩
  repeat' (with_reducible refine And.intro ?_ ?_)
  all_goals try (rw [IntWalk.i64_in _ (by omega)]; first | rfl | omega)
  all_goals try omega
  all_goals try (repeat' (with_reducible first | exact aB.le_refl _ | refine (bD (by first | assumption | exact And.right (by assumption) | exact bU.2 (by assumption))).2 ?_))
  all_goals try (simp only [aA.aN]; done)
 ·have hk' : k = x.aM.length := by omega
  subst hk'
  simp -dsimp -implicitDefEqProofs only [go_sem, ↓reduceIte, Tryz.f125, Nat.lt_irrefl]
  omega
theorem aJO (x : aA) (hs : x.s ≤ 4294967296) : e8 Tryz.prog 125 [.agg x.c] (I ((x.s : Int) + 1)) :=
 aLR x hs fun y hy => aJO y (by have := aA.aHC hy; omega)
termination_by SizeOf.sizeOf x
decreasing_by exact aA.rO hy
@[go_sem] def aWK : List Nat := [0, 1, 2, 3, 5, 7, 8, 9, 10]
@[go_sem] def a9L : List Nat := [1]
@[go_sem] def a9M : Marks := fun _ => ([], .nil, [])
theorem aJP (x : aA) (hs : x.s ≤ 4294967296) (hc : ∀ y ∈ x.aM, e8 Tryz.prog 149 [.agg y.c] (I (y.d : Int))) : e8 Tryz.prog 149 [.agg x.c] (I (x.d : Int)) := by
 have hd := x.bC6
 rw [aA.bJS] at hd ⊢
 rw [aA.aN x]
 refine eI 20 aWK a9L a9M mix Tryz.func149 rfl (by kernel_rfl) (by simp) fun h => ?_
 simp -dsimp -implicitDefEqProofs only [go_sem, ↓reduceIte, Tryz.f149]
 repeat' (with_reducible first | intro _ | refine And.intro ?_ ?_)
 refine cS (keep := aWK) (ib := a9L) (mk := a9M) mix (by kernel_rfl) (fun k : Nat => [(1, .ip 5 [x.c] 0 0), (3, I (aA.dL (x.aM.take k) : Int)), (7, c5 5 aA.c x.aM), (8, I x.aM.length), (9, I k)]) (fun _ => h) (fun k => k ≤ x.aM.length) (fun k => x.aM.length - k) 0 (by simp [dA, cH, aB.le_refl, aA.aN, aA.dL]) ?_
 intro k hk
 rcases Nat.lt_or_ge k x.aM.length with hlt | hge
 ·have ea : x.aM[k]? = some x.aM[k] := List.getElem?_eq_getElem hlt
  have h1 := aA.aOB hlt
  have hcy := hc x.aM[k] (List.getElem_mem hlt)
  simp only [aA.aN] at hcy
  simp -dsimp -implicitDefEqProofs only [go_sem, ↓reduceIte, Tryz.f149, ea, aA.aN, aF]
  repeat' (with_reducible first | intro _ | refine And.intro ?_ ?_)
  all_goals try omega
  first | refine aJ.mk (hcy) ?_ | refine aL.mk (hcy) ?_ | refine aJ.dF (hcy) ?_ | refine aL.mk (cZ.gC (hcy)) ?_
  simp -dsimp -implicitDefEqProofs only [go_sem, ↓reduceIte, Tryz.f149]
  repeat' (with_reducible first | intro _ | refine And.intro ?_ ?_)
  all_goals try rfl
  rename_i n hn
  refine ⟨k + 1, ?_⟩
  repeat' (with_reducible refine And.intro ?_ ?_)
  all_goals try (rw [IntWalk.i64_in _ (by omega)]; first | rfl | omega)
  all_goals try omega
  all_goals try (repeat' (with_reducible first | exact aB.le_refl _ | refine (bD (by first | assumption | exact And.right (by assumption) | exact bU.2 (by assumption))).2 ?_))
  all_goals try (simp only [aA.aN]; done)
 ·have hk' : k = x.aM.length := by omega
  subst hk'
  simp -dsimp -implicitDefEqProofs only [go_sem, ↓reduceIte, Tryz.f149, Nat.lt_irrefl]
  rw [List.take_length, IntWalk.i64_in _ (by omega)]; omega
theorem aMG (x : aA) (hs : x.s ≤ 4294967296) : e8 Tryz.prog 149 [.agg x.c] (I (x.d : Int)) :=
 aJP x hs fun y hy => aMG y (by have := aA.aHC hy; omega)
termination_by SizeOf.sizeOf x
decreasing_by exact aA.rO hy
@[go_sem] def aWL : List Nat := [0, 1, 4, 5, 18]
@[go_sem] def a9N : List Nat := []
@[go_sem] def a9O : Marks := fun _ => ([], .nil, [])
theorem aOC (x : aA) (left : Int) (h0 : 0 ≤ left) (h9 : left ≤ 4294967296) (hs : x.s ≤ 4294967296) (hc : ∀ y ∈ x.aM, ∀ left : Int, 0 ≤ left → left ≤ 4294967296 → e8 Tryz.prog 116 [.ip 5 [y.c] 0 0, I left] (I (wL left (y.s + 1)))) : e8 Tryz.prog 116 [.ip 5 [x.c] 0 0, I left] (I (wL left (x.s + 1))) := by
 have hx := x.a9I
 rw [aA.aN x]
 refine eI 30 aWL a9N a9O mix Tryz.func116 rfl (by kernel_rfl) (by simp) fun h => ?_
 simp -dsimp -implicitDefEqProofs only [go_sem, ↓reduceIte, Tryz.f116]
 repeat' (with_reducible first | intro _ | refine And.intro ?_ ?_)
 refine cS (keep := aWL) (ib := a9N) (mk := a9O) mix (by kernel_rfl) (fun k : Nat => [(0, .ip 5 [x.c] 0 0), (1, I (wL left (1 + k + ((x.aM.take k).map aA.s).sum))), (5, I k)]) (fun _ => h) (fun k => k ≤ x.aM.length) (fun k => x.aM.length - k) 0 (by simp [dA, cH, aB.le_refl, aA.aN]; rw [IntWalk.i64_in _ (by omega)]; unfold wL; split <;> omega) ?_
 intro k hk
 rcases Nat.lt_or_ge k x.aM.length with hlt | hge
 ·have hp := x.a1G hlt
  have h1 := gI aA.s x.aM k hlt
  rcases o9 left (1 + k + ((x.aM.take k).map aA.s).sum) with ⟨e, hl⟩ | ⟨e, hl⟩
  ·rw [e, aA.aN x]
   simp -dsimp -implicitDefEqProofs only [go_sem, ↓reduceIte, Tryz.f116]
   repeat' (with_reducible first | intro _ | refine And.intro ?_ ?_)
   all_goals try omega
   exact (jI (by omega)).symm
  ·rw [e, aA.aN x]
   simp -dsimp -implicitDefEqProofs only [go_sem, ↓reduceIte, Tryz.f116]
   repeat' (with_reducible first | intro _ | refine And.intro ?_ ?_)
   all_goals try omega
   first | refine aL.mk ((hc x.aM[k] (List.getElem_mem hlt) _ hl (by omega)).sub (by repeat' (first | exact cD.nil | refine cD.cons ?_ ?_ | exact Sub.refl _ | (rw [aA.aN]; exact Sub.refl _) | exact Sub.dM rfl rfl rfl | exact Sub.ip (bS (by omega)) (by simp) | exact Sub.dM (bS (by omega)) rfl rfl | exact Sub.ip (by simp [*]) (by simp) | exact Sub.dM (by simp [*]) (by rfl) (by rfl)))) ?_ | refine aJ.mk ((hc x.aM[k] (List.getElem_mem hlt) _ hl (by omega)).sub (by repeat' (first | exact cD.nil | refine cD.cons ?_ ?_ | exact Sub.refl _ | (rw [aA.aN]; exact Sub.refl _) | exact Sub.dM rfl rfl rfl | exact Sub.ip (bS (by omega)) (by simp) | exact Sub.dM (bS (by omega)) rfl rfl | exact Sub.ip (by simp [*]) (by simp) | exact Sub.dM (by simp [*]) (by rfl) (by rfl)))) ?_
   simp -dsimp -implicitDefEqProofs only [go_sem, ↓reduceIte, Tryz.f116]
   refine ⟨k + 1, ?_⟩
   repeat' (with_reducible refine And.intro ?_ ?_)
   all_goals try (rw [IntWalk.i64_in _ (by omega)]; first | rfl | omega)
   all_goals try omega
   all_goals try (repeat' (with_reducible first | exact aB.le_refl _ | refine (bD (by first | assumption | exact And.right (by assumption) | exact bU.2 (by assumption))).2 ?_))
   all_goals try (simp only [aA.aN]; done)
   all_goals (rw [h1]; unfold wL; split <;> split <;> omega)
 ·have hk' : k = x.aM.length := by omega
  subst hk'
  rw [aA.aN x]
  simp -dsimp -implicitDefEqProofs only [go_sem, ↓reduceIte, Tryz.f116, Nat.lt_irrefl]
  rw [show 1 + x.aM.length + ((x.aM.take x.aM.length).map aA.s).sum = x.s + 1 by omega]
  exact fun _ => rfl
theorem aED (x : aA) (left : Int) (h0 : 0 ≤ left) (h9 : left ≤ 4294967296) (hs : x.s ≤ 4294967296) : e8 Tryz.prog 116 [.ip 5 [x.c] 0 0, I left] (I (wL left (x.s + 1))) :=
 aOC x left h0 h9 hs fun y hy left h0 h9 => aED y left h0 h9 (by have := aA.aHC hy; omega)
termination_by SizeOf.sizeOf x
decreasing_by exact aA.rO hy
@[go_sem] def a59 : List Nat := [0, 1, 4, 7]
@[go_sem] def bJT : List Nat := []
@[go_sem] def bJU : Marks := fun _ => ([], .nil, [])
theorem aOD (a b : Int) : e8 Tryz.prog 153 [I a, I b] (I (max a b)) := by
 refine eI 10 a59 bJT bJU mix Tryz.func153 rfl (by kernel_rfl) (by simp) fun h => ?_
 simp -dsimp -implicitDefEqProofs only [go_sem, ↓reduceIte, Tryz.f153]
 repeat' (with_reducible first | intro _ | refine And.intro ?_ ?_)
 all_goals omega
@[go_sem] def aWM : List Nat := [0, 2, 3, 4, 11]
@[go_sem] def a9P : List Nat := []
@[go_sem] def a9Q : Marks := fun _ => ([], .nil, [])
theorem aLS (x : aA) (hs : x.s ≤ 4294967296) (hc : ∀ y ∈ x.aM, e8 Tryz.prog 131 [.ip 5 [y.c] 0 0] (I (y.d : Int))) : e8 Tryz.prog 131 [.ip 5 [x.c] 0 0] (I (x.d : Int)) := by
 have hd := x.bC6
 rw [aA.bJS] at hd ⊢
 rw [aA.aN x]
 refine eI 25 aWM a9P a9Q mix Tryz.func131 rfl (by kernel_rfl) (by simp) fun h => ?_
 simp -dsimp -implicitDefEqProofs only [go_sem, ↓reduceIte, Tryz.f131]
 repeat' (with_reducible first | intro _ | refine And.intro ?_ ?_)
 refine cS (keep := aWM) (ib := a9P) (mk := a9Q) mix (by kernel_rfl) (fun k : Nat => [(0, .ip 5 [x.c] 0 0), (3, I (aA.dL (x.aM.take k) : Int)), (4, I k)]) (fun _ => h) (fun k => k ≤ x.aM.length) (fun k => x.aM.length - k) 0 (by simp [dA, cH, aB.le_refl, aA.aN, aA.dL]) ?_
 intro k hk
 rw [aA.aN x]
 rcases Nat.lt_or_ge k x.aM.length with hlt | hge
 ·have h1 := aA.aOB hlt
  simp -dsimp -implicitDefEqProofs only [go_sem, ↓reduceIte, Tryz.f131]
  repeat' (with_reducible first | intro _ | refine And.intro ?_ ?_)
  all_goals try omega
  first | refine aL.mk ((hc x.aM[k] (List.getElem_mem hlt)).sub (by repeat' (first | exact cD.nil | refine cD.cons ?_ ?_ | exact Sub.refl _ | (rw [aA.aN]; exact Sub.refl _) | exact Sub.dM rfl rfl rfl | exact Sub.ip (bS (by omega)) (by simp) | exact Sub.dM (bS (by omega)) rfl rfl | exact Sub.ip (by simp [*]) (by simp) | exact Sub.dM (by simp [*]) (by rfl) (by rfl)))) ?_ | refine aJ.mk ((hc x.aM[k] (List.getElem_mem hlt)).sub (by repeat' (first | exact cD.nil | refine cD.cons ?_ ?_ | exact Sub.refl _ | (rw [aA.aN]; exact Sub.refl _) | exact Sub.dM rfl rfl rfl | exact Sub.ip (bS (by omega)) (by simp) | exact Sub.dM (bS (by omega)) rfl rfl | exact Sub.ip (by simp [*]) (by simp) | exact Sub.dM (by simp [*]) (by rfl) (by rfl)))) ?_
  simp -dsimp -implicitDefEqProofs only [go_sem, ↓reduceIte, Tryz.f131]
  first | refine aJ.mk (aOD _ _) ?_ | refine aL.mk (aOD _ _) ?_ | refine aJ.dF (aOD _ _) ?_ | refine aL.mk (cZ.gC (aOD _ _)) ?_
  simp -dsimp -implicitDefEqProofs only [go_sem, ↓reduceIte, Tryz.f131]
  refine ⟨k + 1, ?_⟩
  repeat' (with_reducible refine And.intro ?_ ?_)
  all_goals try (rw [IntWalk.i64_in _ (by omega)]; first | rfl | omega)
  all_goals try omega
  all_goals try (repeat' (with_reducible first | exact aB.le_refl _ | refine (bD (by first | assumption | exact And.right (by assumption) | exact bU.2 (by assumption))).2 ?_))
  all_goals try (simp only [aA.aN]; done)
 ·have hk' : k = x.aM.length := by omega
  subst hk'
  simp -dsimp -implicitDefEqProofs only [go_sem, ↓reduceIte, Tryz.f131, Nat.lt_irrefl]
  intro _
  rw [List.take_length, IntWalk.i64_in _ (by omega)]; omega
theorem aJQ (x : aA) (hs : x.s ≤ 4294967296) : e8 Tryz.prog 131 [.ip 5 [x.c] 0 0] (I (x.d : Int)) :=
 aLS x hs fun y hy => aJQ y (by have := aA.aHC hy; omega)
termination_by SizeOf.sizeOf x
decreasing_by exact aA.rO hy
set_option maxRecDepth 100000
open Go.Proofs
set_option linter.unusedVariables false
set_option linter.unusedSimpArgs false
def gK (k : Int) : Int := if k = 1 ∨ k = 2 then 0 else if k = 3 ∨ k = 4 ∨ k = 5 ∨ k = 6 ∨ k = 9 then 2 else if k = 7 then 1 else if k = 8 then 3 else -1
def qB (p : aI) (e : aA) (vars funcs : Int) : Prop :=
 if e.a6 = 10 ∨ e.a6 = 11 then
  0 ≤ e.bQ ∧ e.bQ ≤ funcs - 1 ∧ ∀ f, p.aH[e.bQ.toNat]? = some f →
   0 ≤ e.c9 ∧ e.c9 ≤ (f.aZ.length : Int) - 1 ∧ (e.aM.length : Int) = f.bE ∧ (e.a6 = 10 → e.cU = 0) ∧ (e.a6 = 11 → 0 ≤ e.cU ∧ e.cU ≤ 8 ∧ (f.aZ.length : Int) = f.bE)
 else gK e.a6 = e.aM.length ∧ e.c9 = 0 ∧ e.cU = 0 ∧ (e.a6 = 1 → nZ e.bQ) ∧ (e.a6 = 2 → 0 ≤ e.bQ ∧ e.bQ ≤ vars - 1) ∧ (e.a6 ≠ 1 → e.a6 ≠ 2 → e.bQ = 0)
noncomputable instance (p : aI) (e : aA) (vars funcs : Int) : Decidable (qB p e vars funcs) := Classical.propDecidable _
def mP (kind : Int) (i : Nat) (vars : Int) : Int := if kind = 9 ∧ i = 1 then vars + 1 else vars
mutual
def aA.ok (p : aI) (funcs : Int) : aA → Int → Prop
 | .mk a b c d kids, vars => qB p (.mk a b c d kids) vars funcs ∧ aA.okL p funcs a kids 0 vars
def aA.okL (p : aI) (funcs : Int) (kind : Int) : List aA → Nat → Int → Prop
 | [], _, _ => True
 |x :: l, i, vars => x.ok p funcs (mP kind i vars) ∧ aA.okL p funcs kind l (i + 1) vars
end
noncomputable instance (p : aI) (funcs : Int) (e : aA) (vars : Int) : Decidable (e.ok p funcs vars) := Classical.propDecidable _
theorem aA.aWN (p : aI) (funcs kind : Int) : ∀ (l : List aA) (i : Nat) (vars : Int), aA.okL p funcs kind l i vars ↔ ∀ (k : Nat) (h : k < l.length), l[k].ok p funcs (mP kind (i + k) vars)
 | [], i, vars => by simp [aA.okL]
 |x :: l, i, vars => by
  rw [aA.okL, aA.aWN p funcs kind l (i + 1) vars]
  constructor
  ·rintro ⟨h1, h2⟩ k hk
   cases k with
   |zero => exact h1
   |succ k => have := h2 k (by simpa using hk); rw [show i + 1 + k = i + (k + 1) by omega] at this; exact this
  ·intro h
   refine ⟨h 0 (by simp), fun k hk => ?_⟩
   have := h (k + 1) (by simpa using hk)
   rw [show i + 1 + k = i + (k + 1) by omega]; exact this
theorem aA.eP (p : aI) (funcs : Int) (x : aA) (vars : Int) : x.ok p funcs vars ↔ qB p x vars funcs ∧ ∀ (k : Nat) (h : k < x.aM.length), x.aM[k].ok p funcs (mP x.a6 k vars) := by
 cases x with
 |mk a b c d kids =>
  rw [aA.ok, aA.aWN]
  simp only [Nat.zero_add, aA.aM, aA.a6]
theorem aI.aJR (p : aI) : p.aH.length ≤ p.s := by rw [p.fR, eN]; omega
theorem aI.aJS {p : aI} {f : aV} (h : f ∈ p.aH) : f.s + p.aH.length ≤ p.s := by
 have := gG aV.s h
 rw [p.fR, eN]; omega
theorem aV.aJT (f : aV) : f.aZ.length ≤ f.s := by rw [f.fR, eN]; omega
theorem aV.a9R {f : aV} {e : aA} (h : e ∈ f.aZ) : e.s < f.s := by
 have := gG aA.s h
 have := List.length_pos_of_mem h
 rw [f.fR, eN]; omega
@[go_sem] def a6A : List Nat := [0, 2, 3, 4, 7, 13, 15]
@[go_sem] def bJW : List Nat := []
@[go_sem] def bJX : Marks := fun _ => ([], .nil, [])
theorem aHZ (k : Int) : e8 Tryz.prog 164 [I k] (I (gK k)) := by
 refine eI 17 a6A bJW bJX mix Tryz.func164 rfl (by kernel_rfl) (by simp) fun h => ?_
 simp -dsimp -implicitDefEqProofs only [go_sem, ↓reduceIte, Tryz.f164]
 repeat' (with_reducible first | intro _ | refine And.intro ?_ ?_)
 all_goals try (first | (simp [gK, *]; done) | omega | (grind [gK]) | (simp [gK]; omega))
theorem tG {p : aI} {e : aA} {vars funcs : Int} (hk : e.a6 = 10 ∨ e.a6 = 11) {f : aV} (ef : p.aH[e.bQ.toNat]? = some f) : qB p e vars funcs ↔
  0 ≤ e.bQ ∧ e.bQ ≤ funcs - 1 ∧ 0 ≤ e.c9 ∧ e.c9 ≤ (f.aZ.length : Int) - 1 ∧ (e.aM.length : Int) = f.bE ∧ (e.a6 = 10 → e.cU = 0) ∧ (e.a6 = 11 → 0 ≤ e.cU ∧ e.cU ≤ 8 ∧ (f.aZ.length : Int) = f.bE) := by
 unfold qB
 rw [if_pos hk]
 simp [ef]
theorem aEE {p : aI} {e : aA} {vars funcs : Int} (hk : e.a6 = 10 ∨ e.a6 = 11) (hr : ¬ (0 ≤ e.bQ ∧ e.bQ ≤ funcs - 1)) : ¬ qB p e vars funcs := by
 unfold qB
 rw [if_pos hk]
 intro h
 exact hr ⟨h.1, h.2.1⟩
theorem fP {p : aI} {e : aA} {vars funcs : Int} (hk : ¬ (e.a6 = 10 ∨ e.a6 = 11)) : qB p e vars funcs ↔
  gK e.a6 = e.aM.length ∧ e.c9 = 0 ∧ e.cU = 0 ∧ (e.a6 = 1 → nZ e.bQ) ∧ (e.a6 = 2 → 0 ≤ e.bQ ∧ e.bQ ≤ vars - 1) ∧ (e.a6 ≠ 1 → e.a6 ≠ 2 → e.bQ = 0) := by
 unfold qB
 rw [if_neg hk]
@[go_sem] def aOE : List Nat := [0, 1, 2, 3, 8, 9, 21, 29, 62, 67, 114, 118, 119, 126]
@[go_sem] def a1H : List Nat := []
@[go_sem] def a1I : Marks := fun id => match id with | 4 => ([], (.op 0 (.op 1 (.op 2 (.op 3 (.op 4 (.op 5 (.op 6 (.op 7 (.op 8 (.op 9 .nil)))))))))), []) | 5 => ([], (.op 0 (.op 1 (.op 2 (.op 3 (.op 4 (.op 5 (.op 6 (.op 7 (.op 8 (.op 9 (.op 10 (.op 11 (.op 12 (.op 13 (.op 14 (.op 15 (.op 16 (.op 17 (.op 18 (.op 19 (.op 20 (.op 21 (.op 22 (.op 23 .nil)))))))))))))))))))))))), []) | 9 => ([], (.op 0 (.op 1 (.op 2 (.op 3 (.op 4 (.op 5 (.op 6 (.op 7 (.op 8 (.op 9 (.op 10 (.op 11 (.op 12 (.op 13 (.op 14 (.op 15 (.op 16 (.op 17 .nil)))))))))))))))))), []) | 10 => ([], (.op 0 (.op 1 (.op 2 (.op 3 (.op 4 (.op 5 (.op 6 (.op 7 (.op 8 (.op 9 (.op 10 (.op 11 (.op 12 (.op 13 (.op 14 (.op 15 (.op 16 (.op 17 (.op 18 (.op 19 (.op 20 (.op 21 (.op 22 (.op 23 (.op 24 .nil))))))))))))))))))))))))), []) | _ => ([], .nil, [])
theorem aWO (p : aI) (e : aA) (vars funcs : Int) (hv : 0 ≤ vars) (hv2 : vars ≤ 4294967296) (fH : 0 ≤ funcs) (hf : funcs ≤ p.aH.length) (hps : p.s ≤ 4294967296) : e8 Tryz.prog 154 [.ip 1 [p.c] 0 0, .ip 5 [e.c] 0 0, I vars, I funcs] (.bool (decide (qB p e vars funcs))) := by
 have hl := p.aJR
 have e1 : IntKind.i64.wrap (funcs - 1) = funcs - 1 := IntWalk.i64_in _ (by omega)
 have e2 : IntKind.i64.wrap (vars - 1) = vars - 1 := IntWalk.i64_in _ (by omega)
 rw [aA.aN]
 simp only [aI.aN]
 by_cases hk : e.a6 = 10 ∨ e.a6 = 11
 ·by_cases hr : 0 ≤ e.bQ ∧ e.bQ ≤ funcs - 1
  ·obtain ⟨f, ef⟩ : ∃ f, p.aH[e.bQ.toNat]? = some f := ⟨_, List.getElem?_eq_getElem (by omega)⟩
   have hn := tG (vars := vars) (funcs := funcs) hk ef
   have hfs := aI.aJS (List.mem_of_getElem? ef)
   have hos := f.aJT
   refine eI 140 aOE a1H a1I mix Tryz.func154 rfl (by kernel_rfl) (by simp) fun h => ?_
   simp -dsimp -implicitDefEqProofs only [go_sem, ↓reduceIte, Tryz.f154, e1, e2]
   repeat' (with_reducible first | intro _ | refine And.intro ?_ ?_)
   all_goals try omega
   all_goals (first | refine aJ.mk (fG e.bQ 0 (funcs - 1)) ?_ | refine aL.mk (fG e.bQ 0 (funcs - 1)) ?_)
   all_goals simp -dsimp -implicitDefEqProofs only [go_sem, ↓reduceIte, Tryz.f154, ef, aV.aN]
   all_goals repeat' (with_reducible first | intro _ | refine And.intro ?_ ?_)
   all_goals try omega
   all_goals try simp (disch := omega) only [IntWalk.i64_in]
   all_goals (first | refine aJ.mk (fG e.c9 0 (f.aZ.length - 1)) ?_ | refine aL.mk (fG e.c9 0 (f.aZ.length - 1)) ?_)
   all_goals simp -dsimp -implicitDefEqProofs only [go_sem, ↓reduceIte, Tryz.f154, ef, aV.aN]
   all_goals repeat' (with_reducible first | intro _ | refine And.intro ?_ ?_)
   all_goals try omega
   all_goals try (first | (simp [*]; done) | omega | grind)
   first | refine aJ.mk (fG e.cU 0 8) ?_ | refine aL.mk (fG e.cU 0 8) ?_ | refine aJ.dF (fG e.cU 0 8) ?_ | refine aL.mk (cZ.gC (fG e.cU 0 8)) ?_
   simp -dsimp -implicitDefEqProofs only [go_sem, ↓reduceIte, Tryz.f154, ef, aV.aN]
   repeat' (with_reducible first | intro _ | refine And.intro ?_ ?_)
   all_goals try (first | (simp [*]; done) | omega | grind)
  ·have hn := aEE (p := p) (vars := vars) hk hr
   refine eI 140 aOE a1H a1I mix Tryz.func154 rfl (by kernel_rfl) (by simp) fun h => ?_
   simp -dsimp -implicitDefEqProofs only [go_sem, ↓reduceIte, Tryz.f154, e1, e2]
   repeat' (with_reducible first | intro _ | refine And.intro ?_ ?_)
   all_goals try omega
   all_goals (first | refine aJ.mk (fG e.bQ 0 (funcs - 1)) ?_ | refine aL.mk (fG e.bQ 0 (funcs - 1)) ?_)
   all_goals simp -dsimp -implicitDefEqProofs only [go_sem, ↓reduceIte, Tryz.f154]
   all_goals repeat' (with_reducible first | intro _ | refine And.intro ?_ ?_)
   all_goals try (first | (simp [*]; done) | omega | grind)
 ·have hn := fP (p := p) (vars := vars) (funcs := funcs) hk
  refine eI 140 aOE a1H a1I mix Tryz.func154 rfl (by kernel_rfl) (by simp) fun h => ?_
  simp -dsimp -implicitDefEqProofs only [go_sem, ↓reduceIte, Tryz.f154, e1, e2]
  repeat' (with_reducible first | intro _ | refine And.intro ?_ ?_)
  all_goals try omega
  first | refine aJ.mk (aHZ e.a6) ?_ | refine aL.mk (aHZ e.a6) ?_ | refine aJ.dF (aHZ e.a6) ?_ | refine aL.mk (cZ.gC (aHZ e.a6)) ?_
  simp -dsimp -implicitDefEqProofs only [go_sem, ↓reduceIte, Tryz.f154]
  repeat' (with_reducible first | intro _ | refine And.intro ?_ ?_)
  all_goals try (first | (simp [*]; done) | omega | grind)
  ·first | refine aJ.mk (k8 e.bQ) ?_ | refine aL.mk (k8 e.bQ) ?_ | refine aJ.dF (k8 e.bQ) ?_ | refine aL.mk (cZ.gC (k8 e.bQ)) ?_
   simp -dsimp -implicitDefEqProofs only [go_sem, ↓reduceIte, Tryz.f154]
   all_goals try (first | (simp [*]; done) | omega | grind)
  ·all_goals try simp (disch := omega) only [IntWalk.i64_in]
   first | refine aJ.mk (fG e.bQ 0 (vars - 1)) ?_ | refine aL.mk (fG e.bQ 0 (vars - 1)) ?_ | refine aJ.dF (fG e.bQ 0 (vars - 1)) ?_ | refine aL.mk (cZ.gC (fG e.bQ 0 (vars - 1))) ?_
   simp -dsimp -implicitDefEqProofs only [go_sem, ↓reduceIte, Tryz.f154]
   all_goals try (first | (simp [*]; done) | omega | grind)
@[go_sem] def v5 : List Nat := [0, 1, 2, 3, 4, 6, 7, 8, 9, 10, 11, 12, 25, 26, 38, 52, 68, 69, 81, 82, 94, 95, 104, 125, 152, 154, 155, 156, 157, 168, 175]
@[go_sem] def aHD : List Nat := [3, 4]
@[go_sem] def aHE : Marks := fun _ => ([], .nil, [])
set_option maxRecDepth 100000
open Go.Proofs
set_option linter.unusedVariables false
set_option linter.unusedSimpArgs false
@[go_sem] def aWP : List Nat := [0, 1, 2, 3, 8, 9, 10, 16, 23, 35, 48]
@[go_sem] def a9S : List Nat := []
@[go_sem] def a9T : Marks := fun _ => ([], .nil, [])
theorem aOF (p : aI) (e : aA) (vars funcs : Int) (hv : 0 ≤ vars) (hv2 : vars + e.s ≤ 4294967296) (fH : 0 ≤ funcs) (hf : funcs ≤ p.aH.length) (hps : p.s ≤ 4294967296)
  (hc : ∀ y ∈ e.aM, ∀ vars : Int, 0 ≤ vars → vars + y.s ≤ 4294967296 → e8 Tryz.prog 132 [.ip 1 [p.c] 0 0, .ip 5 [y.c] 0 0, I vars, I funcs] (.bool (decide (y.ok p funcs vars)))) :
  e8 Tryz.prog 132 [.ip 1 [p.c] 0 0, .ip 5 [e.c] 0 0, I vars, I funcs] (.bool (decide (e.ok p funcs vars))) := by
 have hok := aA.eP p funcs e vars
 simp only [aA.aN, aI.aN]
 refine eI 49 aWP a9S a9T mix Tryz.func132 rfl (by kernel_rfl) (by simp) fun h => ?_
 simp -dsimp -implicitDefEqProofs only [go_sem, ↓reduceIte, Tryz.f132]
 first | refine aL.mk ((aWO p e vars funcs hv (by omega) fH hf hps).sub (by repeat' (first | exact cD.nil | refine cD.cons ?_ ?_ | exact Sub.refl _ | (rw [aA.aN]; exact Sub.refl _) | exact Sub.dM rfl rfl rfl | exact Sub.ip (bS (by omega)) (by simp) | exact Sub.dM (bS (by omega)) rfl rfl | exact Sub.ip (by simp [*]) (by simp) | exact Sub.dM (by simp [*]) (by rfl) (by rfl)))) ?_ | refine aJ.mk ((aWO p e vars funcs hv (by omega) fH hf hps).sub (by repeat' (first | exact cD.nil | refine cD.cons ?_ ?_ | exact Sub.refl _ | (rw [aA.aN]; exact Sub.refl _) | exact Sub.dM rfl rfl rfl | exact Sub.ip (bS (by omega)) (by simp) | exact Sub.dM (bS (by omega)) rfl rfl | exact Sub.ip (by simp [*]) (by simp) | exact Sub.dM (by simp [*]) (by rfl) (by rfl)))) ?_
 simp -dsimp -implicitDefEqProofs only [go_sem, ↓reduceIte, Tryz.f132]
 repeat' (with_reducible first | intro _ | refine And.intro ?_ ?_)
 ·rename_i hn
  exact (decide_eq_false fun q => hn (hok.1 q).1).symm
 ·rename_i hn
  refine cS (keep := aWP) (ib := a9S) (mk := a9T) mix (by kernel_rfl) (fun k : Nat => [(0, .ip 1 [p.c] 0 0), (1, .ip 5 [e.c] 0 0), (2, I vars), (3, I funcs), (9, I k)]) (fun _ => h) (fun k => k ≤ e.aM.length ∧ ∀ (j : Nat) (hj : j < e.aM.length), j < k → e.aM[j].ok p funcs (mP e.a6 j vars)) (fun k => e.aM.length - k) 0 (by simp [dA, cH, aB.le_refl, aA.aN, aI.aN]) ?_
  intro k ⟨hk, hp⟩
  simp only [aA.aN, aI.aN]
  rcases Nat.lt_or_ge k e.aM.length with hlt | hge
  ·have kD := aA.aHC (List.getElem_mem hlt)
   have nx (q : e.aM[k].ok p funcs (mP e.a6 k vars)) : ∀ (j : Nat) (hj : j < e.aM.length), j < k + 1 → e.aM[j].ok p funcs (mP e.a6 j vars) := by
    intro j hj hjk
    rcases Nat.lt_succ_iff_lt_or_eq.1 hjk with h1 | rfl
    ·exact hp j hj h1
    ·exact q
   have no (q : ¬ e.aM[k].ok p funcs (mP e.a6 k vars)) : false = decide (e.ok p funcs vars) := (decide_eq_false fun z => q ((hok.1 z).2 k hlt)).symm
   simp -dsimp -implicitDefEqProofs only [go_sem, ↓reduceIte, Tryz.f132]
   repeat' (with_reducible first | intro _ | refine And.intro ?_ ?_)
   all_goals try omega
   ·have em : mP e.a6 k vars = vars + 1 := if_pos ⟨by assumption, by omega⟩
    rw [em] at nx no
    all_goals try simp (disch := omega) only [IntWalk.i64_in]
    first | refine aL.mk ((hc e.aM[k] (List.getElem_mem hlt) (vars + 1) (by omega) (by omega)).sub (by repeat' (first | exact cD.nil | refine cD.cons ?_ ?_ | exact Sub.refl _ | (rw [aA.aN]; exact Sub.refl _) | exact Sub.dM rfl rfl rfl | exact Sub.ip (bS (by omega)) (by simp) | exact Sub.dM (bS (by omega)) rfl rfl | exact Sub.ip (by simp [*]) (by simp) | exact Sub.dM (by simp [*]) (by rfl) (by rfl)))) ?_ | refine aJ.mk ((hc e.aM[k] (List.getElem_mem hlt) (vars + 1) (by omega) (by omega)).sub (by repeat' (first | exact cD.nil | refine cD.cons ?_ ?_ | exact Sub.refl _ | (rw [aA.aN]; exact Sub.refl _) | exact Sub.dM rfl rfl rfl | exact Sub.ip (bS (by omega)) (by simp) | exact Sub.dM (bS (by omega)) rfl rfl | exact Sub.ip (by simp [*]) (by simp) | exact Sub.dM (by simp [*]) (by rfl) (by rfl)))) ?_
    simp -dsimp -implicitDefEqProofs only [go_sem, ↓reduceIte, Tryz.f132]
    repeat' (with_reducible first | intro _ | refine And.intro ?_ ?_)
    ·exact no (by assumption)
    ·refine ⟨k + 1, ?_⟩
     repeat' (with_reducible refine And.intro ?_ ?_)
     all_goals try (rw [IntWalk.i64_in _ (by omega)]; first | rfl | omega)
     all_goals try omega
     all_goals try (repeat' (with_reducible first | exact aB.le_refl _ | refine (bD (by first | assumption | exact And.right (by assumption) | exact bU.2 (by assumption))).2 ?_))
     all_goals try (simp only [aA.aN, aI.aN]; done)
     exact nx (by assumption)
   all_goals
    have em : mP e.a6 k vars = vars := if_neg (by omega)
    rw [em] at nx no
    first | refine aL.mk ((hc e.aM[k] (List.getElem_mem hlt) vars (by omega) (by omega)).sub (by repeat' (first | exact cD.nil | refine cD.cons ?_ ?_ | exact Sub.refl _ | (rw [aA.aN]; exact Sub.refl _) | exact Sub.dM rfl rfl rfl | exact Sub.ip (bS (by omega)) (by simp) | exact Sub.dM (bS (by omega)) rfl rfl | exact Sub.ip (by simp [*]) (by simp) | exact Sub.dM (by simp [*]) (by rfl) (by rfl)))) ?_ | refine aJ.mk ((hc e.aM[k] (List.getElem_mem hlt) vars (by omega) (by omega)).sub (by repeat' (first | exact cD.nil | refine cD.cons ?_ ?_ | exact Sub.refl _ | (rw [aA.aN]; exact Sub.refl _) | exact Sub.dM rfl rfl rfl | exact Sub.ip (bS (by omega)) (by simp) | exact Sub.dM (bS (by omega)) rfl rfl | exact Sub.ip (by simp [*]) (by simp) | exact Sub.dM (by simp [*]) (by rfl) (by rfl)))) ?_
    simp -dsimp -implicitDefEqProofs only [go_sem, ↓reduceIte, Tryz.f132]
    repeat' (with_reducible first | intro _ | refine And.intro ?_ ?_)
    ·exact no (by assumption)
    ·refine ⟨k + 1, ?_⟩
     repeat' (with_reducible refine And.intro ?_ ?_)
     all_goals try (rw [IntWalk.i64_in _ (by omega)]; first | rfl | omega)
     all_goals try omega
     all_goals try (repeat' (with_reducible first | exact aB.le_refl _ | refine (bD (by first | assumption | exact And.right (by assumption) | exact bU.2 (by assumption))).2 ?_))
     all_goals try (simp only [aA.aN, aI.aN]; done)
     exact nx (by assumption)
  ·have hk' : k = e.aM.length := by omega
   subst hk'
   simp -dsimp -implicitDefEqProofs only [go_sem, ↓reduceIte, Tryz.f132, Nat.lt_irrefl]
   exact fun _ => (decide_eq_true (hok.2 ⟨hn, fun j hj => hp j hj hj⟩)).symm
theorem aOG (p : aI) (e : aA) (vars funcs : Int) (hv : 0 ≤ vars) (hv2 : vars + e.s ≤ 4294967296) (fH : 0 ≤ funcs) (hf : funcs ≤ p.aH.length) (hps : p.s ≤ 4294967296) :
  e8 Tryz.prog 132 [.ip 1 [p.c] 0 0, .ip 5 [e.c] 0 0, I vars, I funcs] (.bool (decide (e.ok p funcs vars))) :=
 aOF p e vars funcs hv hv2 fH hf hps fun y hy vars hv hv2 => aOG p y vars funcs hv hv2 fH hf hps
termination_by SizeOf.sizeOf e
decreasing_by exact aA.rO hy
set_option maxRecDepth 100000
open Go.Proofs
set_option linter.unusedVariables false
set_option linter.unusedSimpArgs false
set_option maxHeartbeats 8000000 in
theorem aJU (p : aI) (e : aA) (vars funcs : Int) (hv : 0 ≤ vars) (hv2 : vars + e.s ≤ 4294967296) (fH : 0 ≤ funcs) (hf : funcs ≤ p.aH.length) (hps : p.s ≤ 4294967296)
  (hc : ∀ y ∈ e.aM, ∀ vars : Int, 0 ≤ vars → vars + y.s ≤ 4294967296 → e8 Tryz.prog 150 [.agg [c5 3 aV.c p.aH, I funcs], .agg y.c, I vars] (.bool (decide (y.ok p funcs vars)))) (hk : ¬ (e.a6 = 10 ∨ e.a6 = 11)) :
  e8 Tryz.prog 150 [.agg [c5 3 aV.c p.aH, I funcs], .agg e.c, I vars] (.bool (decide (e.ok p funcs vars))) := by
 have hok := aA.eP p funcs e vars
 have hl := p.aJR
 have e1 : IntKind.i64.wrap (funcs - 1) = funcs - 1 := IntWalk.i64_in _ (by omega)
 have e2 : IntKind.i64.wrap (vars - 1) = vars - 1 := IntWalk.i64_in _ (by omega)
 simp only [aA.aN]
 have no1 (hk : ¬ (e.a6 = 10 ∨ e.a6 = 11)) (q : ¬ (gK e.a6 = e.aM.length ∧ e.c9 = 0 ∧ e.cU = 0 ∧ (e.a6 = 1 → nZ e.bQ) ∧ (e.a6 = 2 → 0 ≤ e.bQ ∧ e.bQ ≤ vars - 1) ∧ (e.a6 ≠ 1 → e.a6 ≠ 2 → e.bQ = 0))) : false = decide (e.ok p funcs vars) :=
  (decide_eq_false fun z => q ((fP hk).1 (hok.1 z).1)).symm
 have bJY (hk : ¬ (e.a6 = 10 ∨ e.a6 = 11)) (q : gK e.a6 = e.aM.length ∧ e.c9 = 0 ∧ e.cU = 0 ∧ (e.a6 = 1 → nZ e.bQ) ∧ (e.a6 = 2 → 0 ≤ e.bQ ∧ e.bQ ≤ vars - 1) ∧ (e.a6 ≠ 1 → e.a6 ≠ 2 → e.bQ = 0)) : qB p e vars funcs := (fP hk).2 q
 refine eI 177 v5 aHD aHE mix Tryz.func150 rfl (by kernel_rfl) (by simp) fun h => ?_
 simp (maxSteps := 1000000) -dsimp -implicitDefEqProofs only [go_sem, ↓reduceIte, Tryz.f150, e1, e2]
 repeat' (with_reducible first | intro _ | refine And.intro ?_ ?_)
 all_goals try omega
 all_goals try (refine no1 (by omega) ?_; simp only [gK]; grind)
 ·first | refine aJ.mk (nF e.bQ) ?_ | refine aL.mk (nF e.bQ) ?_ | refine aJ.dF (nF e.bQ) ?_ | refine aL.mk (cZ.gC (nF e.bQ)) ?_
  simp (maxSteps := 1000000) -dsimp -implicitDefEqProofs only [go_sem, ↓reduceIte, Tryz.f150]
  rw [decide_eq_decide, hok, fP hk]
  have : e.aM.length = 0 := by omega
  constructor
  ·intro q
   exact ⟨by simp only [gK]; grind, fun k hk => by omega⟩
  ·intro q
   grind
 ·first | refine aJ.mk (within e.bQ 0 (vars - 1)) ?_ | refine aL.mk (within e.bQ 0 (vars - 1)) ?_ | refine aJ.dF (within e.bQ 0 (vars - 1)) ?_ | refine aL.mk (cZ.gC (within e.bQ 0 (vars - 1))) ?_
  simp (maxSteps := 1000000) -dsimp -implicitDefEqProofs only [go_sem, ↓reduceIte, Tryz.f150]
  rw [decide_eq_decide, hok, fP hk]
  have : e.aM.length = 0 := by omega
  constructor
  ·intro q
   exact ⟨by simp only [gK]; grind, fun k hk => by omega⟩
  ·intro q
   grind
 all_goals
  have hn := bJY hk (by simp only [gK]; grind)
  clear no1 bJY
  refine cS (keep := v5) (ib := aHD) (mk := aHE) mix (by kernel_rfl) (fun k : Nat => [(2, I vars), (3, .ip 2 [[c5 3 aV.c p.aH, I funcs]] 0 0), (4, .ip 5 [e.c] 0 0), (154, c5 5 aA.c e.aM), (155, I e.aM.length), (156, I k)]) (fun _ => h) (fun k => k ≤ e.aM.length ∧ ∀ (j : Nat) (hj : j < e.aM.length), j < k → e.aM[j].ok p funcs (mP e.a6 j vars)) (fun k => e.aM.length - k) 0 (by refine ⟨by simp [dA, cH, aA.aN], by repeat' (with_reducible first | exact aB.le_refl _ | refine (bD (by first | assumption | exact And.right (by assumption) | exact bU.2 (by assumption))).2 ?_), by simp⟩) ?_
  intro k ⟨hk, hp⟩
  simp only [aA.aN]
  rcases Nat.lt_or_ge k e.aM.length with hlt | hge
  ·have kD := aA.aHC (List.getElem_mem hlt)
   have nx (q : e.aM[k].ok p funcs (mP e.a6 k vars)) : ∀ (j : Nat) (hj : j < e.aM.length), j < k + 1 → e.aM[j].ok p funcs (mP e.a6 j vars) := by
    intro j hj hjk
    rcases Nat.lt_succ_iff_lt_or_eq.1 hjk with h1 | rfl
    ·exact hp j hj h1
    ·exact q
   have no (q : ¬ e.aM[k].ok p funcs (mP e.a6 k vars)) : false = decide (e.ok p funcs vars) := (decide_eq_false fun z => q ((hok.1 z).2 k hlt)).symm
   have ea : e.aM[k]? = some e.aM[k] := List.getElem?_eq_getElem hlt
   rcases Decidable.em (e.a6 = 9 ∧ k = 1) with e9 | e9
   ·have em : mP e.a6 k vars = vars + 1 := if_pos e9
    rw [em] at nx no
    have hcy := hc e.aM[k] (List.getElem_mem hlt) (vars + 1) (by omega) (by omega)
    simp only [aA.aN] at hcy
    simp (maxSteps := 1000000) -dsimp -implicitDefEqProofs only [go_sem, ↓reduceIte, Tryz.f150, ea, aA.aN, aF]
    repeat' (with_reducible first | intro _ | refine And.intro ?_ ?_)
    all_goals try omega
    all_goals try simp (disch := omega) only [IntWalk.i64_in]
    all_goals (first | refine aJ.mk (hcy) ?_ | refine aL.mk (hcy) ?_)
    all_goals simp (maxSteps := 1000000) -dsimp -implicitDefEqProofs only [go_sem, ↓reduceIte, Tryz.f150]
    all_goals repeat' (with_reducible first | intro _ | refine And.intro ?_ ?_)
    all_goals first | exact no (by assumption) | exact aB.le_refl _ | skip
    all_goals try (exact (bD (by assumption)).2 (aB.le_refl _))
    all_goals
     refine ⟨k + 1, ?_⟩
     repeat' (with_reducible refine And.intro ?_ ?_)
     all_goals try (rw [IntWalk.i64_in _ (by omega)]; first | rfl | omega)
     all_goals try omega
     all_goals try (repeat' (with_reducible first | exact aB.le_refl _ | refine (bD (by first | assumption | exact And.right (by assumption) | exact bU.2 (by assumption))).2 ?_))
     all_goals try (simp only [aA.aN]; done)
     exact nx (by assumption)
   ·have em : mP e.a6 k vars = vars := if_neg e9
    rw [em] at nx no
    have hcy := hc e.aM[k] (List.getElem_mem hlt) vars (by omega) (by omega)
    simp only [aA.aN] at hcy
    simp (maxSteps := 1000000) -dsimp -implicitDefEqProofs only [go_sem, ↓reduceIte, Tryz.f150, ea, aA.aN, aF]
    repeat' (with_reducible first | intro _ | refine And.intro ?_ ?_)
    all_goals try omega
    all_goals (first | refine aJ.mk (hcy) ?_ | refine aL.mk (hcy) ?_)
    all_goals simp (maxSteps := 1000000) -dsimp -implicitDefEqProofs only [go_sem, ↓reduceIte, Tryz.f150]
    all_goals repeat' (with_reducible first | intro _ | refine And.intro ?_ ?_)
    all_goals first | exact no (by assumption) | exact aB.le_refl _ | skip
    all_goals try (exact (bD (by assumption)).2 (aB.le_refl _))
    all_goals
     refine ⟨k + 1, ?_⟩
     repeat' (with_reducible refine And.intro ?_ ?_)
     all_goals try (rw [IntWalk.i64_in _ (by omega)]; first | rfl | omega)
     all_goals try omega
     all_goals try (repeat' (with_reducible first | exact aB.le_refl _ | refine (bD (by first | assumption | exact And.right (by assumption) | exact bU.2 (by assumption))).2 ?_))
     all_goals try (simp only [aA.aN]; done)
     exact nx (by assumption)
  ·have hk' : k = e.aM.length := by omega
   subst hk'
   simp (maxSteps := 1000000) -dsimp -implicitDefEqProofs only [go_sem, ↓reduceIte, Tryz.f150, Nat.lt_irrefl]
   exact (decide_eq_true (hok.2 ⟨hn, fun j hj => hp j hj hj⟩)).symm
set_option maxRecDepth 100000
open Go.Proofs
set_option linter.unusedVariables false
set_option linter.unusedSimpArgs false
theorem aEF {p : aI} {e : aA} {vars funcs : Int} {f : aV} (hk : e.a6 = 10 ∨ e.a6 = 11) (ef : p.aH[e.bQ.toNat]? = some f)
  (q : ¬ (0 ≤ e.c9 ∧ e.c9 ≤ (f.aZ.length : Int) - 1 ∧ (e.aM.length : Int) = f.bE ∧ (e.a6 = 10 → e.cU = 0) ∧ (e.a6 = 11 → 0 ≤ e.cU ∧ e.cU ≤ 8 ∧ (f.aZ.length : Int) = f.bE))) : false = decide (e.ok p funcs vars) :=
 (decide_eq_false fun z => q ((tG hk ef).1 ((aA.eP _ _ _ _).1 z).1).2.2).symm
theorem aRN {p : aI} {e : aA} {vars funcs : Int} (hk : e.a6 = 10 ∨ e.a6 = 11) (q : ¬ (0 ≤ e.bQ ∧ e.bQ ≤ funcs - 1)) : false = decide (e.ok p funcs vars) :=
 (decide_eq_false fun z => aEE hk q ((aA.eP _ _ _ _).1 z).1).symm
set_option maxHeartbeats 8000000 in
theorem aRO (p : aI) (e : aA) (vars funcs : Int) (hv : 0 ≤ vars) (hv2 : vars + e.s ≤ 4294967296) (fH : 0 ≤ funcs) (hf : funcs ≤ p.aH.length) (hps : p.s ≤ 4294967296)
  (hc : ∀ y ∈ e.aM, ∀ vars : Int, 0 ≤ vars → vars + y.s ≤ 4294967296 → e8 Tryz.prog 150 [.agg [c5 3 aV.c p.aH, I funcs], .agg y.c, I vars] (.bool (decide (y.ok p funcs vars)))) (hk : e.a6 = 10) :
  e8 Tryz.prog 150 [.agg [c5 3 aV.c p.aH, I funcs], .agg e.c, I vars] (.bool (decide (e.ok p funcs vars))) := by
 have hl := p.aJR
 have e1 : IntKind.i64.wrap (funcs - 1) = funcs - 1 := IntWalk.i64_in _ (by omega)
 simp only [aA.aN]
 by_cases hr : 0 ≤ e.bQ ∧ e.bQ ≤ funcs - 1
 ·obtain ⟨f, ef⟩ : ∃ f, p.aH[e.bQ.toNat]? = some f := ⟨_, List.getElem?_eq_getElem (by omega)⟩
  have hfs := aI.aJS (List.mem_of_getElem? ef)
  have hos := f.aJT
  have e3 : IntKind.i64.wrap ((f.aZ.length : Int) - 1) = f.aZ.length - 1 := IntWalk.i64_in _ (by omega)
  refine eI 177 v5 aHD aHE mix Tryz.func150 rfl (by kernel_rfl) (by simp) fun h => ?_
  simp -dsimp -implicitDefEqProofs only [go_sem, ↓reduceIte, Tryz.f150, e1, e3, hk]
  repeat' (with_reducible first | intro _ | refine And.intro ?_ ?_)
  all_goals try omega
  all_goals (first | refine aJ.mk (within e.bQ 0 (funcs - 1)) ?_ | refine aL.mk (within e.bQ 0 (funcs - 1)) ?_)
  all_goals simp -dsimp -implicitDefEqProofs only [go_sem, ↓reduceIte, Tryz.f150, ef, aV.aN, aF, hk, e3]
  all_goals repeat' (with_reducible first | intro _ | refine And.intro ?_ ?_)
  all_goals try omega
  all_goals try (refine aEF (by omega) ef ?_; omega)
  all_goals try (repeat' (with_reducible first | exact aB.le_refl _ | refine (bD (by first | assumption | exact And.right (by assumption) | exact bU.2 (by assumption))).2 ?_))
  all_goals (first | refine aJ.mk (within e.c9 0 (f.aZ.length - 1)) ?_ | refine aL.mk (within e.c9 0 (f.aZ.length - 1)) ?_)
  all_goals simp -dsimp -implicitDefEqProofs only [go_sem, ↓reduceIte, Tryz.f150, ef, aV.aN, aF, hk]
  all_goals repeat' (with_reducible first | intro _ | refine And.intro ?_ ?_)
  all_goals try omega
  all_goals try (refine aEF (by omega) ef ?_; omega)
  all_goals try (repeat' (with_reducible first | exact aB.le_refl _ | refine (bD (by first | assumption | exact And.right (by assumption) | exact bU.2 (by assumption))).2 ?_))
  all_goals
   have hn : qB p e vars funcs := (tG (by omega) ef).2 (by omega)
   have hok := aA.eP p funcs e vars
   clear hr hfs hos ef
   refine cS (keep := v5) (ib := aHD) (mk := aHE) mix (by kernel_rfl) (fun k : Nat => [(2, I vars), (3, .ip 2 [[c5 3 aV.c p.aH, I funcs]] 0 0), (4, .ip 5 [e.c] 0 0), (154, c5 5 aA.c e.aM), (155, I e.aM.length), (156, I k)]) (fun _ => h) (fun k => k ≤ e.aM.length ∧ ∀ (j : Nat) (hj : j < e.aM.length), j < k → e.aM[j].ok p funcs vars) (fun k => e.aM.length - k) 0 (by refine ⟨by simp [dA, cH, aA.aN, hk], by repeat' (with_reducible first | exact aB.le_refl _ | refine (bD (by first | assumption | exact And.right (by assumption) | exact bU.2 (by assumption))).2 ?_), by simp⟩) ?_
   intro k ⟨hk', hp⟩
   simp only [aA.aN]
   rcases Nat.lt_or_ge k e.aM.length with hlt | hge
   ·have kD := aA.aHC (List.getElem_mem hlt)
    have nx (q : e.aM[k].ok p funcs vars) : ∀ (j : Nat) (hj : j < e.aM.length), j < k + 1 → e.aM[j].ok p funcs vars := by
     intro j hj hjk
     rcases Nat.lt_succ_iff_lt_or_eq.1 hjk with h1 | rfl
     ·exact hp j hj h1
     ·exact q
    have no (q : ¬ e.aM[k].ok p funcs vars) : false = decide (e.ok p funcs vars) := (decide_eq_false fun z => q (by have := (hok.1 z).2 k hlt; rwa [show mP e.a6 k vars = vars from if_neg (by omega)] at this)).symm
    have ea : e.aM[k]? = some e.aM[k] := List.getElem?_eq_getElem hlt
    have hcy := hc e.aM[k] (List.getElem_mem hlt) vars (by omega) (by omega)
    simp only [aA.aN] at hcy
    simp -dsimp -implicitDefEqProofs only [go_sem, ↓reduceIte, Tryz.f150, ea, aA.aN, aF, hk]
    repeat' (with_reducible first | intro _ | refine And.intro ?_ ?_)
    all_goals try omega
    first | refine aJ.mk (hcy) ?_ | refine aL.mk (hcy) ?_ | refine aJ.dF (hcy) ?_ | refine aL.mk (cZ.gC (hcy)) ?_
    simp -dsimp -implicitDefEqProofs only [go_sem, ↓reduceIte, Tryz.f150]
    repeat' (with_reducible first | intro _ | refine And.intro ?_ ?_)
    all_goals first | exact no (by assumption) | skip
    all_goals try (repeat' (with_reducible first | exact aB.le_refl _ | refine (bD (by first | assumption | exact And.right (by assumption) | exact bU.2 (by assumption))).2 ?_))
    refine ⟨k + 1, ?_⟩
    repeat' (with_reducible refine And.intro ?_ ?_)
    all_goals try (rw [IntWalk.i64_in _ (by omega)]; first | rfl | omega)
    all_goals try omega
    all_goals try (repeat' (with_reducible first | exact aB.le_refl _ | refine (bD (by first | assumption | exact And.right (by assumption) | exact bU.2 (by assumption))).2 ?_))
    all_goals try (simp only [aA.aN, hk]; done)
    exact nx (by assumption)
   ·have hk'' : k = e.aM.length := by omega
    subst hk''
    simp -dsimp -implicitDefEqProofs only [go_sem, ↓reduceIte, Tryz.f150, Nat.lt_irrefl]
    exact (decide_eq_true (hok.2 ⟨hn, fun j hj => by rw [show mP e.a6 j vars = vars from if_neg (by omega)]; exact hp j hj hj⟩)).symm
 ·refine eI 177 v5 aHD aHE mix Tryz.func150 rfl (by kernel_rfl) (by simp) fun h => ?_
  simp -dsimp -implicitDefEqProofs only [go_sem, ↓reduceIte, Tryz.f150, e1, hk]
  repeat' (with_reducible first | intro _ | refine And.intro ?_ ?_)
  all_goals try omega
  all_goals (first | refine aJ.mk (within e.bQ 0 (funcs - 1)) ?_ | refine aL.mk (within e.bQ 0 (funcs - 1)) ?_)
  all_goals simp -dsimp -implicitDefEqProofs only [go_sem, ↓reduceIte, Tryz.f150]
  all_goals repeat' (with_reducible first | intro _ | refine And.intro ?_ ?_)
  all_goals try omega
  all_goals exact aRN (by omega) hr
set_option maxHeartbeats 8000000 in
theorem aRP (p : aI) (e : aA) (vars funcs : Int) (hv : 0 ≤ vars) (hv2 : vars + e.s ≤ 4294967296) (fH : 0 ≤ funcs) (hf : funcs ≤ p.aH.length) (hps : p.s ≤ 4294967296)
  (hc : ∀ y ∈ e.aM, ∀ vars : Int, 0 ≤ vars → vars + y.s ≤ 4294967296 → e8 Tryz.prog 150 [.agg [c5 3 aV.c p.aH, I funcs], .agg y.c, I vars] (.bool (decide (y.ok p funcs vars)))) (hk : e.a6 = 11) :
  e8 Tryz.prog 150 [.agg [c5 3 aV.c p.aH, I funcs], .agg e.c, I vars] (.bool (decide (e.ok p funcs vars))) := by
 have hl := p.aJR
 have e1 : IntKind.i64.wrap (funcs - 1) = funcs - 1 := IntWalk.i64_in _ (by omega)
 simp only [aA.aN]
 by_cases hr : 0 ≤ e.bQ ∧ e.bQ ≤ funcs - 1
 ·obtain ⟨f, ef⟩ : ∃ f, p.aH[e.bQ.toNat]? = some f := ⟨_, List.getElem?_eq_getElem (by omega)⟩
  have hfs := aI.aJS (List.mem_of_getElem? ef)
  have hos := f.aJT
  have e3 : IntKind.i64.wrap ((f.aZ.length : Int) - 1) = f.aZ.length - 1 := IntWalk.i64_in _ (by omega)
  refine eI 177 v5 aHD aHE mix Tryz.func150 rfl (by kernel_rfl) (by simp) fun h => ?_
  simp -dsimp -implicitDefEqProofs only [go_sem, ↓reduceIte, Tryz.f150, e1, e3, hk]
  repeat' (with_reducible first | intro _ | refine And.intro ?_ ?_)
  all_goals try omega
  all_goals (first | refine aJ.mk (within e.bQ 0 (funcs - 1)) ?_ | refine aL.mk (within e.bQ 0 (funcs - 1)) ?_)
  all_goals simp -dsimp -implicitDefEqProofs only [go_sem, ↓reduceIte, Tryz.f150, ef, aV.aN, aF, hk, e3]
  all_goals repeat' (with_reducible first | intro _ | refine And.intro ?_ ?_)
  all_goals try omega
  all_goals try (refine aEF (by omega) ef ?_; omega)
  all_goals try (repeat' (with_reducible first | exact aB.le_refl _ | refine (bD (by first | assumption | exact And.right (by assumption) | exact bU.2 (by assumption))).2 ?_))
  all_goals (first | refine aJ.mk (within e.c9 0 (f.aZ.length - 1)) ?_ | refine aL.mk (within e.c9 0 (f.aZ.length - 1)) ?_)
  all_goals simp -dsimp -implicitDefEqProofs only [go_sem, ↓reduceIte, Tryz.f150, ef, aV.aN, aF, hk]
  all_goals repeat' (with_reducible first | intro _ | refine And.intro ?_ ?_)
  all_goals try omega
  all_goals try (refine aEF (by omega) ef ?_; omega)
  all_goals try (repeat' (with_reducible first | exact aB.le_refl _ | refine (bD (by first | assumption | exact And.right (by assumption) | exact bU.2 (by assumption))).2 ?_))
  all_goals (first | refine aJ.mk (within e.cU 0 8) ?_ | refine aL.mk (within e.cU 0 8) ?_)
  all_goals simp -dsimp -implicitDefEqProofs only [go_sem, ↓reduceIte, Tryz.f150, aF, hk]
  all_goals repeat' (with_reducible first | intro _ | refine And.intro ?_ ?_)
  all_goals try (refine aEF (by omega) ef ?_; omega)
  all_goals try (repeat' (with_reducible first | exact aB.le_refl _ | refine (bD (by first | assumption | exact And.right (by assumption) | exact bU.2 (by assumption))).2 ?_))
  all_goals
   have hn : qB p e vars funcs := (tG (by omega) ef).2 (by omega)
   have hok := aA.eP p funcs e vars
   clear hr hfs hos ef
   refine cS (keep := v5) (ib := aHD) (mk := aHE) mix (by kernel_rfl) (fun k : Nat => [(2, I vars), (3, .ip 2 [[c5 3 aV.c p.aH, I funcs]] 0 0), (4, .ip 5 [e.c] 0 0), (154, c5 5 aA.c e.aM), (155, I e.aM.length), (156, I k)]) (fun _ => h) (fun k => k ≤ e.aM.length ∧ ∀ (j : Nat) (hj : j < e.aM.length), j < k → e.aM[j].ok p funcs vars) (fun k => e.aM.length - k) 0 (by refine ⟨by simp [dA, cH, aA.aN, hk], by repeat' (with_reducible first | exact aB.le_refl _ | refine (bD (by first | assumption | exact And.right (by assumption) | exact bU.2 (by assumption))).2 ?_), by simp⟩) ?_
   intro k ⟨hk', hp⟩
   simp only [aA.aN]
   rcases Nat.lt_or_ge k e.aM.length with hlt | hge
   ·have kD := aA.aHC (List.getElem_mem hlt)
    have nx (q : e.aM[k].ok p funcs vars) : ∀ (j : Nat) (hj : j < e.aM.length), j < k + 1 → e.aM[j].ok p funcs vars := by
     intro j hj hjk
     rcases Nat.lt_succ_iff_lt_or_eq.1 hjk with h1 | rfl
     ·exact hp j hj h1
     ·exact q
    have no (q : ¬ e.aM[k].ok p funcs vars) : false = decide (e.ok p funcs vars) := (decide_eq_false fun z => q (by have := (hok.1 z).2 k hlt; rwa [show mP e.a6 k vars = vars from if_neg (by omega)] at this)).symm
    have ea : e.aM[k]? = some e.aM[k] := List.getElem?_eq_getElem hlt
    have hcy := hc e.aM[k] (List.getElem_mem hlt) vars (by omega) (by omega)
    simp only [aA.aN] at hcy
    simp -dsimp -implicitDefEqProofs only [go_sem, ↓reduceIte, Tryz.f150, ea, aA.aN, aF, hk]
    repeat' (with_reducible first | intro _ | refine And.intro ?_ ?_)
    all_goals try omega
    first | refine aJ.mk (hcy) ?_ | refine aL.mk (hcy) ?_ | refine aJ.dF (hcy) ?_ | refine aL.mk (cZ.gC (hcy)) ?_
    simp -dsimp -implicitDefEqProofs only [go_sem, ↓reduceIte, Tryz.f150]
    repeat' (with_reducible first | intro _ | refine And.intro ?_ ?_)
    all_goals first | exact no (by assumption) | skip
    all_goals try (repeat' (with_reducible first | exact aB.le_refl _ | refine (bD (by first | assumption | exact And.right (by assumption) | exact bU.2 (by assumption))).2 ?_))
    refine ⟨k + 1, ?_⟩
    repeat' (with_reducible refine And.intro ?_ ?_)
    all_goals try (rw [IntWalk.i64_in _ (by omega)]; first | rfl | omega)
    all_goals try omega
    all_goals try (repeat' (with_reducible first | exact aB.le_refl _ | refine (bD (by first | assumption | exact And.right (by assumption) | exact bU.2 (by assumption))).2 ?_))
    all_goals try (simp only [aA.aN, hk]; done)
    exact nx (by assumption)
   ·have hk'' : k = e.aM.length := by omega
    subst hk''
    simp -dsimp -implicitDefEqProofs only [go_sem, ↓reduceIte, Tryz.f150, Nat.lt_irrefl]
    exact (decide_eq_true (hok.2 ⟨hn, fun j hj => by rw [show mP e.a6 j vars = vars from if_neg (by omega)]; exact hp j hj hj⟩)).symm
 ·refine eI 177 v5 aHD aHE mix Tryz.func150 rfl (by kernel_rfl) (by simp) fun h => ?_
  simp -dsimp -implicitDefEqProofs only [go_sem, ↓reduceIte, Tryz.f150, e1, hk]
  repeat' (with_reducible first | intro _ | refine And.intro ?_ ?_)
  all_goals try omega
  all_goals (first | refine aJ.mk (within e.bQ 0 (funcs - 1)) ?_ | refine aL.mk (within e.bQ 0 (funcs - 1)) ?_)
  all_goals simp -dsimp -implicitDefEqProofs only [go_sem, ↓reduceIte, Tryz.f150]
  all_goals repeat' (with_reducible first | intro _ | refine And.intro ?_ ?_)
  all_goals try omega
  all_goals exact aRN (by omega) hr
open Go.Proofs
set_option linter.unusedVariables false
set_option linter.unusedSimpArgs false
theorem aEG (p : aI) (e : aA) (vars funcs : Int) (hv : 0 ≤ vars) (hv2 : vars + e.s ≤ 4294967296) (fH : 0 ≤ funcs) (hf : funcs ≤ p.aH.length) (hps : p.s ≤ 4294967296) :
  e8 Tryz.prog 150 [.agg [c5 3 aV.c p.aH, I funcs], .agg e.c, I vars] (.bool (decide (e.ok p funcs vars))) := by
 by_cases h1 : e.a6 = 10
 ·exact aRO p e vars funcs hv hv2 fH hf hps (fun y hy vars hv hv2 => aEG p y vars funcs hv hv2 fH hf hps) h1
 ·by_cases h2 : e.a6 = 11
  ·exact aRP p e vars funcs hv hv2 fH hf hps (fun y hy vars hv hv2 => aEG p y vars funcs hv hv2 fH hf hps) h2
  ·exact aJU p e vars funcs hv hv2 fH hf hps (fun y hy vars hv hv2 => aEG p y vars funcs hv hv2 fH hf hps) (fun q => q.elim h1 h2)
termination_by SizeOf.sizeOf e
decreasing_by all_goals exact aA.rO hy
end Go.Hl

/-
  Contracts of functions and laws of the layer over the walk.
-/
import Derived.Test.YtpnelljgohjjdaaGreatVvC
namespace Go.Hl
set_option maxRecDepth 100000
open Go.Proofs
set_option linter.unusedVariables false
set_option linter.unusedSimpArgs false
@[go_sem] def bDL : List Nat := [0, 1, 2]
@[go_sem] def bRV : List Nat := []
@[go_sem] def bRW : Marks := fun _ => ([], .nil, [])
set_option maxHeartbeats 1000000 in
theorem aYV (x : bI) (hs : x.s ≤ 1048576) : pN Tryz.prog 64 [.agg x.c] (QA x.o) := by
 have hs' := x.fR
 try simp only [eN] at hs'
 simp only [bI.aN]
 refine sV 8 bDL bRV bRW mix Tryz.func64 rfl (by kernel_rfl) (by simp) fun h => ?_
 try simp -dsimp -implicitDefEqProofs only [go_sem, ↓reduceIte, Tryz.f64, aF, aC]
 intro n1 qn1
 have uB := qn1
 intro n2 qn2
 obtain ⟨aCA, kW, kX, a1T⟩ := eL (show ¬ n2 = n1 from qn2.1)
 have bT := qn2.2
 try simp -dsimp -implicitDefEqProofs only [go_sem, ↓reduceIte, Tryz.f64, aF, aC, kW, kX]
 refine aJ.tM (rS x.iJ (by omega)) uB ⟨aCA, bT⟩ ?_
 rintro r l_ gb ⟨a1Z, aTR, rfl, rfl⟩ wb uB bT
 try simp -dsimp -implicitDefEqProofs only [go_sem, ↓reduceIte, Tryz.f64, aF, aC, kW, kX, aTR.flat, aTR.one, OV.aO, OV.aE, OV.aS]
 try (with_reducible intro _)
 repeat' (with_reducible first | refine And.intro (by first | omega | decide | rfl | trivial | exact Nat.le_of_eq (cW _ _).symm | exact Nat.le_of_eq (cJ _).symm) ?_)
 refine ⟨_, gb, _, Shift.of (Sub.agg (cD.refl _)) (by intro q_; simp only [a7, aK, aG, aW, aQ, cA, bY, cO, cP, aP, aT, OV.aS, List.nil_append, List.length_append, List.length_cons, List.length_nil, Nat.zero_add]; grind), ⟨[.v (I x.cM), .v (I x.gB), a1Z], ?_, rfl, rfl⟩, ?_⟩
 ·exact ⟨a1Z, rfl, aTR⟩
 ·have hq := wb
  simpa only [OV.bL, OV.cF, OV.c8, List.nil_append, List.append_nil, List.append_assoc] using hq
@[go_sem] def bDM : List Nat := [0, 1, 2]
@[go_sem] def bRX : List Nat := [1]
@[go_sem] def bRY : Marks := fun id => match id with | 1 => ([6, 8], (.op 0 (.op 1 (.op 2 (.op 3 (.op 4 (.op 5 (.op 6 (.op 7 (.op 8 .nil))))))))), []) | _ => ([], .nil, [])
set_option maxHeartbeats 1000000 in
theorem aJ5 (x : bI) (hs : x.s ≤ 1048576) : pN Tryz.prog 48 [.agg x.c] (QA x.o) := by
 have hs' := x.fR
 try simp only [eN] at hs'
 simp only [bI.aN]
 refine sV 11 bDM bRX bRY mix Tryz.func48 rfl (by kernel_rfl) (by simp) fun h => ?_
 try simp -dsimp -implicitDefEqProofs only [go_sem, ↓reduceIte, Tryz.f48, aF, aC]
 intro n2 qn2
 have bT := qn2
 try simp -dsimp -implicitDefEqProofs only [go_sem, ↓reduceIte, Tryz.f48, aF, aC]
 refine aJ.wn1 (kV x.iJ (by omega)) bT ?_
 rintro r l_ gb ⟨a1Z, aTR, rfl, rfl⟩ wb bT
 try simp -dsimp -implicitDefEqProofs only [go_sem, ↓reduceIte, Tryz.f48, aF, aC, aTR.flat, aTR.one, OV.aO, OV.aE, OV.aS]
 try (with_reducible intro _)
 repeat' (with_reducible first | refine And.intro (by first | omega | decide | rfl | trivial | exact Nat.le_of_eq (cW _ _).symm | exact Nat.le_of_eq (cJ _).symm) ?_)
 refine ⟨_, gb, _, Shift.of (Sub.agg (cD.refl _)) (by intro q_; simp only [a7, aK, aG, aW, aQ, cA, bY, cO, cP, aP, aT, OV.aS, List.nil_append, List.length_append, List.length_cons, List.length_nil, Nat.zero_add]; grind), ⟨[.v (I x.cM), .v (I x.gB), a1Z], ?_, rfl, rfl⟩, ?_⟩
 ·exact ⟨a1Z, rfl, aTR⟩
 ·have hq := wb
  simpa only [OV.bL, OV.cF, OV.c8, List.nil_append, List.append_nil, List.append_assoc] using hq
@[go_sem] def aOO : List Nat := [0, 1, 2, 3, 5, 6, 8, 11, 12, 13, 14, 23, 24, 25, 26]
@[go_sem] def a6I : List Nat := [1, 33, 40]
@[go_sem] def a6J : Marks := fun id => match id with | 9 => ([1, 2, 3, 5, 7], (.op 0 (.op 1 (.op 2 (.op 3 (.op 4 (.op 5 (.op 6 (.op 7 .nil)))))))), [(1, 3)]) | _ => ([], .nil, [])
set_option maxHeartbeats 1000000 in
theorem aEI (x : aI) (hs : x.s ≤ 1048576) : pN Tryz.prog 90 [.agg x.c] (QA x.o) := by
 have hs' := x.fR
 try simp only [eN] at hs'
 simp only [aI.aN]
 refine sV 45 aOO a6I a6J mix Tryz.func90 rfl (by kernel_rfl) (by simp) fun h => ?_
 try simp -dsimp -implicitDefEqProofs only [go_sem, ↓reduceIte, Tryz.f90, aF, aC]
 intro n2 qn2
 have bT := qn2
 try simp -dsimp -implicitDefEqProofs only [go_sem, ↓reduceIte, Tryz.f90, aF, aC]
 intro n3 sE
 obtain ⟨dJ, a8, a9, mV⟩ := eL (show ¬ n3 = n2 from sE.1)
 have cK := sE.2
 try simp -dsimp -implicitDefEqProofs only [go_sem, ↓reduceIte, Tryz.f90, aF, aC, a8, a9]
 try (with_reducible intro _)
 refine aRJ (keep := aOO) (ib := a6I) (mk := a6J) mix (by kernel_rfl) (fun s : Nat × List (List OV) × aB × Option Nat => [(2, .op n2 1 0 0), (3, .op n3 1 0 0), (11, c5 3 aV.c x.aH), (12, I x.aH.length), (13, (I s.1))]) (fun s => (bK (bK (dD s.2.2.1 (.row 3 (OV.cells s.2.1)) s.2.2.2) n2 (.row 1 [[.v .bC]])) n3 (.row 1 [[.v (gV 3 s.2.1.length s.2.2.2)]]))) (fun s => s.1 ≤ x.aH.length ∧ OR aV.o (x.aH.take s.1) s.2.1 ∧ eM h (OV.bP s.2.1) s.2.2.1 ∧ s.2.2.1 n2 = none ∧ s.2.2.1 n3 = none ∧ tE s.2.2.1 s.2.1 s.2.2.2 ∧ ∀ n : Nat, s.2.2.2 = some n → n ≠ n2 ∧ n ≠ n3) (fun s => x.aH.length - s.1) (0, [], h, none) ?_ ?_
 ·exact ⟨by simp [dA, cH], aB.jA (by intro q_; simp only [a7, aK, aG, aW, aQ, cA, bY, cO, cP, aP, aT, OV.aS, List.nil_append, List.length_append, List.length_cons, List.length_nil, Nat.zero_add]; grind), Nat.zero_le _, trivial, eM.nil _, bT, cK, rfl, by simp⟩
 rintro ⟨ka, esa, ga_, oa_⟩ ⟨hkka, hora, hnewa, bT, cK, hosa, hona⟩
 simp only at hkka hora hnewa bT cK hosa hona ⊢
 have hlena : esa.length = ka := by have := hora.length; simp at this; omega
 rcases Nat.lt_or_ge ka x.aH.length with hlta | hgea
 ·have eaa : x.aH[ka]? = some x.aH[ka] := List.getElem?_eq_getElem hlta
  have hf := gG aV.s (List.getElem_mem hlta)
  have hf2 := (x.aH[ka]).fR
  simp only [eN] at hf2
  cases oa_ with
  |none =>
   rw [gW] at hosa
   subst hosa
   try simp -dsimp -implicitDefEqProofs only [go_sem, ↓reduceIte, Tryz.f90, aF, aC, a8, a9, eaa, hlta, aK, aW, aV.aN]
   intro n5 qn5
   obtain ⟨qC, eD, eE, aJ6⟩ := eL (show ¬ n5 = n3 from qn5.1)
   obtain ⟨mU, dP, dQ, aCB⟩ := eL (show ¬ n5 = n2 from qn5.2.1)
   have iO := qn5.2.2
   try simp -dsimp -implicitDefEqProofs only [go_sem, ↓reduceIte, Tryz.f90, aF, aC, a8, a9, eD, eE, dP, dQ, eaa, hlta, aK, aW, aV.aN]
   intro n6 qn6
   obtain ⟨aJ7, kH, kI, bDN⟩ := eL (show ¬ n6 = n5 from qn6.1)
   obtain ⟨aJ8, kJ, kK, bDO⟩ := eL (show ¬ n6 = n3 from qn6.2.1)
   obtain ⟨aJ9, kL, kM, bDP⟩ := eL (show ¬ n6 = n2 from qn6.2.2.1)
   have sY := qn6.2.2.2
   try simp -dsimp -implicitDefEqProofs only [go_sem, ↓reduceIte, Tryz.f90, aF, aC, a8, a9, eD, eE, dP, dQ, kH, kI, kJ, kK, kL, kM, eaa, hlta, aK, aW, aV.aN]
   try (with_reducible intro _)
   refine cS (keep := aOO) (ib := a6I) (mk := a6J) mix (by kernel_rfl) (fun s : Nat × List (List OV) × aB × Option Nat => [(2, .op n2 1 0 0), (3, .op n3 1 0 0), (11, c5 3 aV.c x.aH), (12, I x.aH.length), (13, (I ka)), (5, .op n5 3 0 0), (6, .op n6 3 0 0), (23, c5 5 aA.c x.aH[ka].aZ), (24, I x.aH[ka].aZ.length), (25, (I s.1))]) (fun s => (bK (bK (bK (bK (dD s.2.2.1 (.row 5 (OV.cells s.2.1)) s.2.2.2) n2 (.row 1 [[.v .bC]])) n3 (.row 1 [[.v (.bC)]])) n5 (.row 3 [[.v (.str x.aH[ka].eC), .v (I x.aH[ka].bE), .v (c5 5 aA.c x.aH[ka].aZ)]])) n6 (.row 3 [[.v (.str x.aH[ka].eC), .v (I x.aH[ka].bE), .v (gV 5 s.2.1.length s.2.2.2)]]))) (fun s => s.1 ≤ x.aH[ka].aZ.length ∧ OR aA.o (x.aH[ka].aZ.take s.1) s.2.1 ∧ eM ga_ (OV.bP s.2.1) s.2.2.1 ∧ s.2.2.1 n2 = none ∧ s.2.2.1 n3 = none ∧ s.2.2.1 n5 = none ∧ s.2.2.1 n6 = none ∧ tE s.2.2.1 s.2.1 s.2.2.2 ∧ ∀ n : Nat, s.2.2.2 = some n → n ≠ n2 ∧ n ≠ n3 ∧ n ≠ n5 ∧ n ≠ n6) (fun s => x.aH[ka].aZ.length - s.1) (0, [], ga_, none) ?_ ?_
   ·exact ⟨by simp [dA, cH], (by intro q_; simp only [a7, aK, aG, aW, aQ, cA, bY, cO, cP, aP, aT, OV.aS, List.nil_append, List.length_append, List.length_cons, List.length_nil, Nat.zero_add]; grind), Nat.zero_le _, trivial, eM.nil _, bT, cK, iO, sY, rfl, by simp⟩
   rintro ⟨ki, esi, gi_, rT⟩ ⟨hkki, hori, hnewi, bT, cK, iO, sY, hosi, honi⟩
   simp only at hkki hori hnewi bT cK iO sY hosi honi ⊢
   have hleni : esi.length = ki := by have := hori.length; simp at this; omega
   rcases Nat.lt_or_ge ki x.aH[ka].aZ.length with hlti | hgei
   ·have eai : x.aH[ka].aZ[ki]? = some x.aH[ka].aZ[ki] := List.getElem?_eq_getElem hlti
    have hxi := aF8 (x.aH[ka].aZ[ki]) (by have := gG aA.s (List.getElem_mem hlti); omega)
    simp only [aA.aN] at hxi
    cases rT with
    |none =>
     rw [gW] at hosi
     subst hosi
     try simp -dsimp -implicitDefEqProofs only [go_sem, ↓reduceIte, Tryz.f90, aF, aC, a8, a9, eD, eE, dP, dQ, kH, kI, kJ, kK, kL, kM, eaa, hlta, aK, aW, eai, hlti, aK, aW, aA.aN, aV.aN]
     intro n8 qn8
     obtain ⟨aCE, qD, qE, aTT⟩ := eL (show ¬ n8 = n6 from qn8.1)
     obtain ⟨aCF, qF, qG, aTU⟩ := eL (show ¬ n8 = n5 from qn8.2.1)
     obtain ⟨aCG, qH, qI, aTV⟩ := eL (show ¬ n8 = n3 from qn8.2.2.1)
     obtain ⟨aCH, qJ, qK, aTW⟩ := eL (show ¬ n8 = n2 from qn8.2.2.2.1)
     have aKA := qn8.2.2.2.2
     try simp -dsimp -implicitDefEqProofs only [go_sem, ↓reduceIte, Tryz.f90, aF, aC, a8, a9, eD, eE, dP, dQ, kH, kI, kJ, kK, kL, kM, qD, qE, qF, qG, qH, qI, qJ, qK, eaa, hlta, aK, aW, eai, hlti, aK, aW, aA.aN, aV.aN]
     refine aJ.wn5 (hxi) bT ⟨dJ, cK⟩ ⟨qC, mU, iO⟩ ⟨aJ7, aJ8, aJ9, sY⟩ ⟨aCE, aCF, aCG, aCH, aKA⟩ ?_
     rintro r l_ gb ⟨e_b, oeb, rfl, rfl⟩ wb bT cK iO sY aKA
     have oob := oeb
     rw [aA.pS] at oob
     obtain ⟨u6, rfl, iP⟩ := oob
     try simp -dsimp -implicitDefEqProofs only [go_sem, ↓reduceIte, Tryz.f90, aF, aC, a8, a9, eD, eE, dP, dQ, kH, kI, kJ, kK, kL, kM, qD, qE, qF, qG, qH, qI, qJ, qK, eaa, hlta, aK, aW, eai, hlti, aK, aW, iP.flat, iP.one, OV.aO, OV.aE, OV.aS, aA.aN, aV.aN]
     repeat' (with_reducible first | refine And.intro (by first | omega | decide | rfl | trivial | exact Nat.le_of_eq (cW _ _).symm | exact Nat.le_of_eq (cJ _).symm) ?_)
     intro mi qmi
     obtain ⟨aTX, aCI, aCJ, aTY⟩ := eL (show ¬ mi = n8 from qmi.1)
     obtain ⟨aCK, aCL, aCM, aTZ⟩ := eL (show ¬ mi = n6 from qmi.2.1)
     obtain ⟨qL, qM, qN, aCN⟩ := eL (show ¬ mi = n5 from qmi.2.2.1)
     obtain ⟨qO, qP, qQ, aCO⟩ := eL (show ¬ mi = n3 from qmi.2.2.2.1)
     obtain ⟨qR, qS, qT, aCP⟩ := eL (show ¬ mi = n2 from qmi.2.2.2.2.1)
     have aCQ := qmi.2.2.2.2.2
     try simp -dsimp -implicitDefEqProofs only [go_sem, ↓reduceIte, Tryz.f90, aF, aC, a8, a9, eD, eE, dP, dQ, kH, kI, kJ, kK, kL, kM, qD, qE, qF, qG, qH, qI, qJ, qK, aCI, aCJ, aCL, aCM, qM, qN, qP, qQ, qS, qT, eaa, hlta, aK, aW, eai, hlti, aK, aW, iP.flat, iP.one, OV.aO, OV.aE, OV.aS]
     refine ⟨(ki + 1, ([] : List (List OV)) ++ [[.v (.int .i64 x.aH[ka].aZ[ki].a6), .v (.int .i64 x.aH[ka].aZ[ki].bQ), .v (.int .i64 x.aH[ka].aZ[ki].c9), .v (.int .i64 x.aH[ka].aZ[ki].cU), u6]], gb, some mi), ?_⟩
     simp only
     refine ⟨?_, (by intro q_; simp only [a7, aK, aG, aW, aQ, cA, bY, cO, cP, aP, aT, OV.aS, List.nil_append, List.length_append, List.length_cons, List.length_nil, Nat.zero_add]; grind), ⟨by omega, OR.snoc hori hlti oeb, hnewi.snoc wb, bT, cK, iO, sY, aCQ, (fun n_ e_ => by obtain rfl := Option.some.inj e_; exact ⟨qR, qO, qL, aCK⟩)⟩, by omega⟩
     all_goals (repeat' (with_reducible refine And.intro ?_ ?_))
     all_goals first | rfl | trivial | (rw [IntWalk.i64_in _ (by omega)]; omega)
    |some ni =>
     rw [jD] at hosi
     have aKB := hosi
     have hni := honi ni rfl
     obtain ⟨aT0, oF, oG, aCR⟩ := eL (show ¬ ni = n2 from hni.1)
     obtain ⟨aT1, oH, oI, aCS⟩ := eL (show ¬ ni = n3 from hni.2.1)
     obtain ⟨aT2, oJ, oK, aCT⟩ := eL (show ¬ ni = n5 from hni.2.2.1)
     obtain ⟨bDQ, yA, yB, aT3⟩ := eL (show ¬ ni = n6 from hni.2.2.2)
     try simp -dsimp -implicitDefEqProofs only [go_sem, ↓reduceIte, Tryz.f90, aF, aC, a8, a9, eD, eE, dP, dQ, kH, kI, kJ, kK, kL, kM, oF, oG, oH, oI, oJ, oK, yA, yB, eaa, hlta, aK, aW, eai, hlti, aG, aQ, aA.aN, aV.aN]
     intro n8 qn8
     obtain ⟨aCE, qD, qE, aTT⟩ := eL (show ¬ n8 = n6 from qn8.1)
     obtain ⟨aCF, qF, qG, aTU⟩ := eL (show ¬ n8 = n5 from qn8.2.1)
     obtain ⟨aCG, qH, qI, aTV⟩ := eL (show ¬ n8 = n3 from qn8.2.2.1)
     obtain ⟨aCH, qJ, qK, aTW⟩ := eL (show ¬ n8 = n2 from qn8.2.2.2.1)
     obtain ⟨aT4, aCU, aCV, bDR⟩ := eL (show ¬ n8 = ni from qn8.2.2.2.2.1)
     have aKA := qn8.2.2.2.2.2
     try simp -dsimp -implicitDefEqProofs only [go_sem, ↓reduceIte, Tryz.f90, aF, aC, a8, a9, eD, eE, dP, dQ, kH, kI, kJ, kK, kL, kM, oF, oG, oH, oI, oJ, oK, yA, yB, qD, qE, qF, qG, qH, qI, qJ, qK, aCU, aCV, eaa, hlta, aK, aW, eai, hlti, aG, aQ, aA.aN, aV.aN]
     refine aJ.wn6 (hxi) aKB ⟨aCR, bT⟩ ⟨dJ, aCS, cK⟩ ⟨qC, mU, aCT, iO⟩ ⟨aJ7, aJ8, aJ9, aT3, sY⟩ ⟨aCE, aCF, aCG, aCH, aT4, aKA⟩ ?_
     rintro r l_ gb ⟨e_b, oeb, rfl, rfl⟩ wb aKB bT cK iO sY aKA
     have oob := oeb
     rw [aA.pS] at oob
     obtain ⟨u6, rfl, iP⟩ := oob
     try simp -dsimp -implicitDefEqProofs only [go_sem, ↓reduceIte, Tryz.f90, aF, aC, a8, a9, eD, eE, dP, dQ, kH, kI, kJ, kK, kL, kM, oF, oG, oH, oI, oJ, oK, yA, yB, qD, qE, qF, qG, qH, qI, qJ, qK, aCU, aCV, eaa, hlta, aK, aW, eai, hlti, aG, aQ, iP.flat, iP.one, OV.aO, OV.aE, OV.aS, aA.aN, aV.aN]
     repeat' (with_reducible first | refine And.intro (by first | omega | decide | rfl | trivial | exact Nat.le_of_eq (cW _ _).symm | exact Nat.le_of_eq (cJ _).symm) ?_)
     intro mi qmi
     obtain ⟨aTX, aCI, aCJ, aTY⟩ := eL (show ¬ mi = n8 from qmi.1)
     obtain ⟨aCK, aCL, aCM, aTZ⟩ := eL (show ¬ mi = n6 from qmi.2.1)
     obtain ⟨qL, qM, qN, aCN⟩ := eL (show ¬ mi = n5 from qmi.2.2.1)
     obtain ⟨qO, qP, qQ, aCO⟩ := eL (show ¬ mi = n3 from qmi.2.2.2.1)
     obtain ⟨qR, qS, qT, aCP⟩ := eL (show ¬ mi = n2 from qmi.2.2.2.2.1)
     obtain ⟨aT5, aCW, aCX, aT6⟩ := eL (show ¬ mi = ni from qmi.2.2.2.2.2.1)
     have aCQ := qmi.2.2.2.2.2.2
     try simp -dsimp -implicitDefEqProofs only [go_sem, ↓reduceIte, Tryz.f90, aF, aC, a8, a9, eD, eE, dP, dQ, kH, kI, kJ, kK, kL, kM, oF, oG, oH, oI, oJ, oK, yA, yB, qD, qE, qF, qG, qH, qI, qJ, qK, aCU, aCV, aCI, aCJ, aCL, aCM, qM, qN, qP, qQ, qS, qT, aCW, aCX, eaa, hlta, aK, aW, eai, hlti, aG, aQ, iP.flat, iP.one, OV.aO, OV.aE, OV.aS]
     refine ⟨(ki + 1, esi ++ [[.v (.int .i64 x.aH[ka].aZ[ki].a6), .v (.int .i64 x.aH[ka].aZ[ki].bQ), .v (.int .i64 x.aH[ka].aZ[ki].c9), .v (.int .i64 x.aH[ka].aZ[ki].cU), u6]], gb, some mi), ?_⟩
     simp only
     refine ⟨?_, (by intro q_; simp only [a7, aK, aG, aW, aQ, cA, bY, cO, cP, aP, aT, OV.aS, List.nil_append, List.length_append, List.length_cons, List.length_nil, Nat.zero_add]; grind), ⟨by omega, OR.snoc hori hlti oeb, hnewi.snoc wb, bT, cK, iO, sY, aCQ, (fun n_ e_ => by obtain rfl := Option.some.inj e_; exact ⟨qR, qO, qL, aCK⟩)⟩, by omega⟩
     all_goals (repeat' (with_reducible refine And.intro ?_ ?_))
     all_goals first | rfl | trivial | (rw [IntWalk.i64_in _ (by omega)]; omega)
   ·have aT7 : ki = x.aH[ka].aZ.length := by omega
    subst aT7
    rw [List.take_length] at hori
    have aCY : dD gi_ (.row 5 (OV.cells esi)) rT n2 = none := eK bT fun n_ e_ => (honi n_ e_).1
    have aCZ : dD gi_ (.row 5 (OV.cells esi)) rT n3 = none := eK cK fun n_ e_ => (honi n_ e_).2.1
    have aC0 : dD gi_ (.row 5 (OV.cells esi)) rT n5 = none := eK iO fun n_ e_ => (honi n_ e_).2.2.1
    have aT8 : dD gi_ (.row 5 (OV.cells esi)) rT n6 = none := eK sY fun n_ e_ => (honi n_ e_).2.2.2
    try simp -dsimp -implicitDefEqProofs only [go_sem, ↓reduceIte, Tryz.f90, aF, aC, a8, a9, eD, eE, dP, dQ, kH, kI, kJ, kK, kL, kM, eaa, hlta, aK, aW, eY, fV, OV.aO, OV.aE, OV.aS, Nat.lt_irrefl, aV.aN]
    try (with_reducible intro _)
    repeat' (with_reducible first | refine And.intro (by first | omega | decide | rfl | trivial | exact Nat.le_of_eq (cW _ _).symm | exact Nat.le_of_eq (cJ _).symm) ?_)
    have bT := aCY
    have cK := aCZ
    have iO := aC0
    have sY := aT8
    have wf := pE (sz := 5) hnewi hosi
    intro ma qma
    obtain ⟨bDS, aT9, aUA, bDT⟩ := eL (show ¬ ma = n6 from qma.1)
    obtain ⟨aUB, aC1, aC2, aUC⟩ := eL (show ¬ ma = n5 from qma.2.1)
    obtain ⟨qU, aC3, aC4, aUD⟩ := eL (show ¬ ma = n3 from qma.2.2.1)
    obtain ⟨qV, aC5, aC6, aUE⟩ := eL (show ¬ ma = n2 from qma.2.2.2.1)
    have aUF := qma.2.2.2.2
    try simp -dsimp -implicitDefEqProofs only [go_sem, ↓reduceIte, Tryz.f90, aF, aC, a8, a9, eD, eE, dP, dQ, kH, kI, kJ, kK, kL, kM, aT9, aUA, aC1, aC2, aC3, aC4, aC5, aC6, eaa, hlta, aK, aW, eY, fV, OV.aO, OV.aE, OV.aS]
    refine ⟨(ka + 1, ([] : List (List OV)) ++ [[.v (.str x.aH[ka].eC), .v (I x.aH[ka].bE), (x8 5 esi rT)]], (dD gi_ (.row 5 (OV.cells esi)) rT), some ma), ?_⟩
    simp only
    refine ⟨?_, (aB.wk.trans (b := (bK (bK (dD (dD gi_ (.row 5 (OV.cells esi)) rT) (.row 3 (OV.cells ([] : List (List OV)) ++ [[Cell.v (.str x.aH[ka].eC), Cell.v (I x.aH[ka].bE), Cell.v (gV 5 esi.length rT)]])) (some ma)) n2 (.row 1 [[.v .bC]])) n3 (.row 1 [[.v (gV 3 (([] : List (List OV)) ++ [[.v (.str x.aH[ka].eC), .v (I x.aH[ka].bE), (x8 5 esi rT)]]).length (some ma))]]))) (aB.aF4 (m := ma) (sz := 3) (es := (OV.cells ([] : List (List OV)) ++ [[Cell.v (.str x.aH[ka].eC), Cell.v (I x.aH[ka].bE), Cell.v (gV 5 esi.length rT)]])) (es' := OV.cells (([] : List (List OV)) ++ [[.v (.str x.aH[ka].eC), .v (I x.aH[ka].bE), (x8 5 esi rT)]])) (fun q_ hq_ => by simp only [a7, aG, if_neg hq_]) (by simp [a7, aG, qV, qU]) (by simp [a7, aG, qV, qU]) (by rw [bY]; exact gD.sub (xs := [(.str x.aH[ka].eC), (I x.aH[ka].bE), (gV 5 esi.length rT)]) (ys := [(.str x.aH[ka].eC), (I x.aH[ka].bE), (x8 5 esi rT).val]) (cD.cons (Sub.refl _) (cD.cons (Sub.refl _) (cD.cons pD cD.nil))) _)) (aB.jA (by intro q_; simp only [a7, aK, aG, aW, aQ, cA, bY, cO, cP, aP, aT, OV.aS, List.nil_append, List.length_append, List.length_cons, List.length_nil, Nat.zero_add]; grind))), ⟨by omega, OR.snoc hora hlta ⟨_, rfl, sX hori hosi⟩, hnewa.snoc (by simpa only [OV.bL, OV.cF, OV.c8, List.nil_append, List.append_nil] using wf), bT, cK, aUF, (fun n_ e_ => by obtain rfl := Option.some.inj e_; exact ⟨qV, qU⟩)⟩, by omega⟩
    all_goals (repeat' (with_reducible refine And.intro ?_ ?_))
    all_goals first | rfl | trivial | (rw [IntWalk.i64_in _ (by omega)]; omega)
  |some na =>
   rw [jD] at hosa
   have u7 := hosa
   have hna := hona na rfl
   obtain ⟨bDV, j5, j6, aKC⟩ := eL (show ¬ na = n2 from hna.1)
   obtain ⟨bDW, j7, j8, aKD⟩ := eL (show ¬ na = n3 from hna.2)
   try simp -dsimp -implicitDefEqProofs only [go_sem, ↓reduceIte, Tryz.f90, aF, aC, a8, a9, j5, j6, j7, j8, eaa, hlta, aG, aQ, aV.aN]
   intro n5 qn5
   obtain ⟨qC, eD, eE, aJ6⟩ := eL (show ¬ n5 = n3 from qn5.1)
   obtain ⟨mU, dP, dQ, aCB⟩ := eL (show ¬ n5 = n2 from qn5.2.1)
   obtain ⟨aKE, kY, kZ, bDX⟩ := eL (show ¬ n5 = na from qn5.2.2.1)
   have iO := qn5.2.2.2
   try simp -dsimp -implicitDefEqProofs only [go_sem, ↓reduceIte, Tryz.f90, aF, aC, a8, a9, j5, j6, j7, j8, eD, eE, dP, dQ, kY, kZ, eaa, hlta, aG, aQ, aV.aN]
   intro n6 qn6
   obtain ⟨aJ7, kH, kI, bDN⟩ := eL (show ¬ n6 = n5 from qn6.1)
   obtain ⟨aJ8, kJ, kK, bDO⟩ := eL (show ¬ n6 = n3 from qn6.2.1)
   obtain ⟨aJ9, kL, kM, bDP⟩ := eL (show ¬ n6 = n2 from qn6.2.2.1)
   obtain ⟨a10, u9, vA, bR0⟩ := eL (show ¬ n6 = na from qn6.2.2.2.1)
   have sY := qn6.2.2.2.2
   try simp -dsimp -implicitDefEqProofs only [go_sem, ↓reduceIte, Tryz.f90, aF, aC, a8, a9, j5, j6, j7, j8, eD, eE, dP, dQ, kY, kZ, kH, kI, kJ, kK, kL, kM, u9, vA, eaa, hlta, aG, aQ, aV.aN]
   try (with_reducible intro _)
   refine cS (keep := aOO) (ib := a6I) (mk := a6J) mix (by kernel_rfl) (fun s : Nat × List (List OV) × aB × Option Nat => [(2, .op n2 1 0 0), (3, .op n3 1 0 0), (11, c5 3 aV.c x.aH), (12, I x.aH.length), (13, (I ka)), (5, .op n5 3 0 0), (6, .op n6 3 0 0), (23, c5 5 aA.c x.aH[ka].aZ), (24, I x.aH[ka].aZ.length), (25, (I s.1))]) (fun s => (bK (bK (bK (bK (bK (dD s.2.2.1 (.row 5 (OV.cells s.2.1)) s.2.2.2) na (.row 3 (OV.cells esa))) n2 (.row 1 [[.v .bC]])) n3 (.row 1 [[.v (.os na 3 0 esa.length)]])) n5 (.row 3 [[.v (.str x.aH[ka].eC), .v (I x.aH[ka].bE), .v (c5 5 aA.c x.aH[ka].aZ)]])) n6 (.row 3 [[.v (.str x.aH[ka].eC), .v (I x.aH[ka].bE), .v (gV 5 s.2.1.length s.2.2.2)]]))) (fun s => s.1 ≤ x.aH[ka].aZ.length ∧ OR aA.o (x.aH[ka].aZ.take s.1) s.2.1 ∧ eM ga_ (OV.bP s.2.1) s.2.2.1 ∧ s.2.2.1 na = none ∧ s.2.2.1 n2 = none ∧ s.2.2.1 n3 = none ∧ s.2.2.1 n5 = none ∧ s.2.2.1 n6 = none ∧ tE s.2.2.1 s.2.1 s.2.2.2 ∧ ∀ n : Nat, s.2.2.2 = some n → n ≠ na ∧ n ≠ n2 ∧ n ≠ n3 ∧ n ≠ n5 ∧ n ≠ n6) (fun s => x.aH[ka].aZ.length - s.1) (0, [], ga_, none) ?_ ?_
   ·exact ⟨by simp [dA, cH], (by intro q_; simp only [a7, aK, aG, aW, aQ, cA, bY, cO, cP, aP, aT, OV.aS, List.nil_append, List.length_append, List.length_cons, List.length_nil, Nat.zero_add]; grind), Nat.zero_le _, trivial, eM.nil _, u7, bT, cK, iO, sY, rfl, by simp⟩
   rintro ⟨ki, esi, gi_, rT⟩ ⟨hkki, hori, hnewi, u7, bT, cK, iO, sY, hosi, honi⟩
   simp only at hkki hori hnewi u7 bT cK iO sY hosi honi ⊢
   have hleni : esi.length = ki := by have := hori.length; simp at this; omega
   rcases Nat.lt_or_ge ki x.aH[ka].aZ.length with hlti | hgei
   ·have eai : x.aH[ka].aZ[ki]? = some x.aH[ka].aZ[ki] := List.getElem?_eq_getElem hlti
    have hxi := aF8 (x.aH[ka].aZ[ki]) (by have := gG aA.s (List.getElem_mem hlti); omega)
    simp only [aA.aN] at hxi
    cases rT with
    |none =>
     rw [gW] at hosi
     subst hosi
     try simp -dsimp -implicitDefEqProofs only [go_sem, ↓reduceIte, Tryz.f90, aF, aC, a8, a9, j5, j6, j7, j8, eD, eE, dP, dQ, kY, kZ, kH, kI, kJ, kK, kL, kM, u9, vA, eaa, hlta, aG, aQ, eai, hlti, aK, aW, aA.aN, aV.aN]
     intro n8 qn8
     obtain ⟨aCE, qD, qE, aTT⟩ := eL (show ¬ n8 = n6 from qn8.1)
     obtain ⟨aCF, qF, qG, aTU⟩ := eL (show ¬ n8 = n5 from qn8.2.1)
     obtain ⟨aCG, qH, qI, aTV⟩ := eL (show ¬ n8 = n3 from qn8.2.2.1)
     obtain ⟨aCH, qJ, qK, aTW⟩ := eL (show ¬ n8 = n2 from qn8.2.2.2.1)
     obtain ⟨aUG, aC7, aC8, bDY⟩ := eL (show ¬ n8 = na from qn8.2.2.2.2.1)
     have aKA := qn8.2.2.2.2.2
     try simp -dsimp -implicitDefEqProofs only [go_sem, ↓reduceIte, Tryz.f90, aF, aC, a8, a9, j5, j6, j7, j8, eD, eE, dP, dQ, kY, kZ, kH, kI, kJ, kK, kL, kM, u9, vA, qD, qE, qF, qG, qH, qI, qJ, qK, aC7, aC8, eaa, hlta, aG, aQ, eai, hlti, aK, aW, aA.aN, aV.aN]
     refine aJ.wn6 (hxi) u7 ⟨aKC, bT⟩ ⟨dJ, aKD, cK⟩ ⟨qC, mU, aKE, iO⟩ ⟨aJ7, aJ8, aJ9, a10, sY⟩ ⟨aCE, aCF, aCG, aCH, aUG, aKA⟩ ?_
     rintro r l_ gb ⟨e_b, oeb, rfl, rfl⟩ wb u7 bT cK iO sY aKA
     have oob := oeb
     rw [aA.pS] at oob
     obtain ⟨u6, rfl, iP⟩ := oob
     try simp -dsimp -implicitDefEqProofs only [go_sem, ↓reduceIte, Tryz.f90, aF, aC, a8, a9, j5, j6, j7, j8, eD, eE, dP, dQ, kY, kZ, kH, kI, kJ, kK, kL, kM, u9, vA, qD, qE, qF, qG, qH, qI, qJ, qK, aC7, aC8, eaa, hlta, aG, aQ, eai, hlti, aK, aW, iP.flat, iP.one, OV.aO, OV.aE, OV.aS, aA.aN, aV.aN]
     repeat' (with_reducible first | refine And.intro (by first | omega | decide | rfl | trivial | exact Nat.le_of_eq (cW _ _).symm | exact Nat.le_of_eq (cJ _).symm) ?_)
     intro mi qmi
     obtain ⟨aTX, aCI, aCJ, aTY⟩ := eL (show ¬ mi = n8 from qmi.1)
     obtain ⟨aCK, aCL, aCM, aTZ⟩ := eL (show ¬ mi = n6 from qmi.2.1)
     obtain ⟨qL, qM, qN, aCN⟩ := eL (show ¬ mi = n5 from qmi.2.2.1)
     obtain ⟨qO, qP, qQ, aCO⟩ := eL (show ¬ mi = n3 from qmi.2.2.2.1)
     obtain ⟨qR, qS, qT, aCP⟩ := eL (show ¬ mi = n2 from qmi.2.2.2.2.1)
     obtain ⟨aC9, aDA, aDB, aUH⟩ := eL (show ¬ mi = na from qmi.2.2.2.2.2.1)
     have aCQ := qmi.2.2.2.2.2.2
     try simp -dsimp -implicitDefEqProofs only [go_sem, ↓reduceIte, Tryz.f90, aF, aC, a8, a9, j5, j6, j7, j8, eD, eE, dP, dQ, kY, kZ, kH, kI, kJ, kK, kL, kM, u9, vA, qD, qE, qF, qG, qH, qI, qJ, qK, aC7, aC8, aCI, aCJ, aCL, aCM, qM, qN, qP, qQ, qS, qT, aDA, aDB, eaa, hlta, aG, aQ, eai, hlti, aK, aW, iP.flat, iP.one, OV.aO, OV.aE, OV.aS]
     refine ⟨(ki + 1, ([] : List (List OV)) ++ [[.v (.int .i64 x.aH[ka].aZ[ki].a6), .v (.int .i64 x.aH[ka].aZ[ki].bQ), .v (.int .i64 x.aH[ka].aZ[ki].c9), .v (.int .i64 x.aH[ka].aZ[ki].cU), u6]], gb, some mi), ?_⟩
     simp only
     refine ⟨?_, (by intro q_; simp only [a7, aK, aG, aW, aQ, cA, bY, cO, cP, aP, aT, OV.aS, List.nil_append, List.length_append, List.length_cons, List.length_nil, Nat.zero_add]; grind), ⟨by omega, OR.snoc hori hlti oeb, hnewi.snoc wb, u7, bT, cK, iO, sY, aCQ, (fun n_ e_ => by obtain rfl := Option.some.inj e_; exact ⟨aC9, qR, qO, qL, aCK⟩)⟩, by omega⟩
     all_goals (repeat' (with_reducible refine And.intro ?_ ?_))
     all_goals first | rfl | trivial | (rw [IntWalk.i64_in _ (by omega)]; omega)
    |some ni =>
     rw [jD] at hosi
     have aKB := hosi
     have hni := honi ni rfl
     obtain ⟨bDZ, aAR, aAS, aUI⟩ := eL (show ¬ ni = na from hni.1)
     obtain ⟨aT0, oF, oG, aCR⟩ := eL (show ¬ ni = n2 from hni.2.1)
     obtain ⟨aT1, oH, oI, aCS⟩ := eL (show ¬ ni = n3 from hni.2.2.1)
     obtain ⟨aT2, oJ, oK, aCT⟩ := eL (show ¬ ni = n5 from hni.2.2.2.1)
     obtain ⟨bDQ, yA, yB, aT3⟩ := eL (show ¬ ni = n6 from hni.2.2.2.2)
     try simp -dsimp -implicitDefEqProofs only [go_sem, ↓reduceIte, Tryz.f90, aF, aC, a8, a9, j5, j6, j7, j8, eD, eE, dP, dQ, kY, kZ, kH, kI, kJ, kK, kL, kM, u9, vA, aAR, aAS, oF, oG, oH, oI, oJ, oK, yA, yB, eaa, hlta, aG, aQ, eai, hlti, aG, aQ, aA.aN, aV.aN]
     intro n8 qn8
     obtain ⟨aCE, qD, qE, aTT⟩ := eL (show ¬ n8 = n6 from qn8.1)
     obtain ⟨aCF, qF, qG, aTU⟩ := eL (show ¬ n8 = n5 from qn8.2.1)
     obtain ⟨aCG, qH, qI, aTV⟩ := eL (show ¬ n8 = n3 from qn8.2.2.1)
     obtain ⟨aCH, qJ, qK, aTW⟩ := eL (show ¬ n8 = n2 from qn8.2.2.2.1)
     obtain ⟨aUG, aC7, aC8, bDY⟩ := eL (show ¬ n8 = na from qn8.2.2.2.2.1)
     obtain ⟨aT4, aCU, aCV, bDR⟩ := eL (show ¬ n8 = ni from qn8.2.2.2.2.2.1)
     have aKA := qn8.2.2.2.2.2.2
     try simp -dsimp -implicitDefEqProofs only [go_sem, ↓reduceIte, Tryz.f90, aF, aC, a8, a9, j5, j6, j7, j8, eD, eE, dP, dQ, kY, kZ, kH, kI, kJ, kK, kL, kM, u9, vA, aAR, aAS, oF, oG, oH, oI, oJ, oK, yA, yB, qD, qE, qF, qG, qH, qI, qJ, qK, aC7, aC8, aCU, aCV, eaa, hlta, aG, aQ, eai, hlti, aG, aQ, aA.aN, aV.aN]
     refine aJ.wn7 (hxi) aKB ⟨aUI, u7⟩ ⟨aKC, aCR, bT⟩ ⟨dJ, aKD, aCS, cK⟩ ⟨qC, mU, aKE, aCT, iO⟩ ⟨aJ7, aJ8, aJ9, a10, aT3, sY⟩ ⟨aCE, aCF, aCG, aCH, aUG, aT4, aKA⟩ ?_
     rintro r l_ gb ⟨e_b, oeb, rfl, rfl⟩ wb aKB u7 bT cK iO sY aKA
     have oob := oeb
     rw [aA.pS] at oob
     obtain ⟨u6, rfl, iP⟩ := oob
     try simp -dsimp -implicitDefEqProofs only [go_sem, ↓reduceIte, Tryz.f90, aF, aC, a8, a9, j5, j6, j7, j8, eD, eE, dP, dQ, kY, kZ, kH, kI, kJ, kK, kL, kM, u9, vA, aAR, aAS, oF, oG, oH, oI, oJ, oK, yA, yB, qD, qE, qF, qG, qH, qI, qJ, qK, aC7, aC8, aCU, aCV, eaa, hlta, aG, aQ, eai, hlti, aG, aQ, iP.flat, iP.one, OV.aO, OV.aE, OV.aS, aA.aN, aV.aN]
     repeat' (with_reducible first | refine And.intro (by first | omega | decide | rfl | trivial | exact Nat.le_of_eq (cW _ _).symm | exact Nat.le_of_eq (cJ _).symm) ?_)
     intro mi qmi
     obtain ⟨aTX, aCI, aCJ, aTY⟩ := eL (show ¬ mi = n8 from qmi.1)
     obtain ⟨aCK, aCL, aCM, aTZ⟩ := eL (show ¬ mi = n6 from qmi.2.1)
     obtain ⟨qL, qM, qN, aCN⟩ := eL (show ¬ mi = n5 from qmi.2.2.1)
     obtain ⟨qO, qP, qQ, aCO⟩ := eL (show ¬ mi = n3 from qmi.2.2.2.1)
     obtain ⟨qR, qS, qT, aCP⟩ := eL (show ¬ mi = n2 from qmi.2.2.2.2.1)
     obtain ⟨aC9, aDA, aDB, aUH⟩ := eL (show ¬ mi = na from qmi.2.2.2.2.2.1)
     obtain ⟨aT5, aCW, aCX, aT6⟩ := eL (show ¬ mi = ni from qmi.2.2.2.2.2.2.1)
     have aCQ := qmi.2.2.2.2.2.2.2
     try simp -dsimp -implicitDefEqProofs only [go_sem, ↓reduceIte, Tryz.f90, aF, aC, a8, a9, j5, j6, j7, j8, eD, eE, dP, dQ, kY, kZ, kH, kI, kJ, kK, kL, kM, u9, vA, aAR, aAS, oF, oG, oH, oI, oJ, oK, yA, yB, qD, qE, qF, qG, qH, qI, qJ, qK, aC7, aC8, aCU, aCV, aCI, aCJ, aCL, aCM, qM, qN, qP, qQ, qS, qT, aDA, aDB, aCW, aCX, eaa, hlta, aG, aQ, eai, hlti, aG, aQ, iP.flat, iP.one, OV.aO, OV.aE, OV.aS]
     refine ⟨(ki + 1, esi ++ [[.v (.int .i64 x.aH[ka].aZ[ki].a6), .v (.int .i64 x.aH[ka].aZ[ki].bQ), .v (.int .i64 x.aH[ka].aZ[ki].c9), .v (.int .i64 x.aH[ka].aZ[ki].cU), u6]], gb, some mi), ?_⟩
     simp only
     refine ⟨?_, (by intro q_; simp only [a7, aK, aG, aW, aQ, cA, bY, cO, cP, aP, aT, OV.aS, List.nil_append, List.length_append, List.length_cons, List.length_nil, Nat.zero_add]; grind), ⟨by omega, OR.snoc hori hlti oeb, hnewi.snoc wb, u7, bT, cK, iO, sY, aCQ, (fun n_ e_ => by obtain rfl := Option.some.inj e_; exact ⟨aC9, qR, qO, qL, aCK⟩)⟩, by omega⟩
     all_goals (repeat' (with_reducible refine And.intro ?_ ?_))
     all_goals first | rfl | trivial | (rw [IntWalk.i64_in _ (by omega)]; omega)
   ·have aT7 : ki = x.aH[ka].aZ.length := by omega
    subst aT7
    rw [List.take_length] at hori
    have aUJ : dD gi_ (.row 5 (OV.cells esi)) rT na = none := eK u7 fun n_ e_ => (honi n_ e_).1
    have aCY : dD gi_ (.row 5 (OV.cells esi)) rT n2 = none := eK bT fun n_ e_ => (honi n_ e_).2.1
    have aCZ : dD gi_ (.row 5 (OV.cells esi)) rT n3 = none := eK cK fun n_ e_ => (honi n_ e_).2.2.1
    have aC0 : dD gi_ (.row 5 (OV.cells esi)) rT n5 = none := eK iO fun n_ e_ => (honi n_ e_).2.2.2.1
    have aT8 : dD gi_ (.row 5 (OV.cells esi)) rT n6 = none := eK sY fun n_ e_ => (honi n_ e_).2.2.2.2
    try simp -dsimp -implicitDefEqProofs only [go_sem, ↓reduceIte, Tryz.f90, aF, aC, a8, a9, j5, j6, j7, j8, eD, eE, dP, dQ, kY, kZ, kH, kI, kJ, kK, kL, kM, u9, vA, eaa, hlta, aG, aQ, eY, fV, OV.aO, OV.aE, OV.aS, Nat.lt_irrefl, aV.aN]
    try (with_reducible intro _)
    repeat' (with_reducible first | refine And.intro (by first | omega | decide | rfl | trivial | exact Nat.le_of_eq (cW _ _).symm | exact Nat.le_of_eq (cJ _).symm) ?_)
    have u7 := aUJ
    have bT := aCY
    have cK := aCZ
    have iO := aC0
    have sY := aT8
    have wf := pE (sz := 5) hnewi hosi
    intro ma qma
    obtain ⟨bDS, aT9, aUA, bDT⟩ := eL (show ¬ ma = n6 from qma.1)
    obtain ⟨aUB, aC1, aC2, aUC⟩ := eL (show ¬ ma = n5 from qma.2.1)
    obtain ⟨qU, aC3, aC4, aUD⟩ := eL (show ¬ ma = n3 from qma.2.2.1)
    obtain ⟨qV, aC5, aC6, aUE⟩ := eL (show ¬ ma = n2 from qma.2.2.2.1)
    obtain ⟨bD0, aUK, aUL, bD1⟩ := eL (show ¬ ma = na from qma.2.2.2.2.1)
    have aUF := qma.2.2.2.2.2
    try simp -dsimp -implicitDefEqProofs only [go_sem, ↓reduceIte, Tryz.f90, aF, aC, a8, a9, j5, j6, j7, j8, eD, eE, dP, dQ, kY, kZ, kH, kI, kJ, kK, kL, kM, u9, vA, aT9, aUA, aC1, aC2, aC3, aC4, aC5, aC6, aUK, aUL, eaa, hlta, aG, aQ, eY, fV, OV.aO, OV.aE, OV.aS]
    refine ⟨(ka + 1, esa ++ [[.v (.str x.aH[ka].eC), .v (I x.aH[ka].bE), (x8 5 esi rT)]], (dD gi_ (.row 5 (OV.cells esi)) rT), some ma), ?_⟩
    simp only
    refine ⟨?_, (aB.wk.trans (b := (bK (bK (dD (dD gi_ (.row 5 (OV.cells esi)) rT) (.row 3 (OV.cells esa ++ [[Cell.v (.str x.aH[ka].eC), Cell.v (I x.aH[ka].bE), Cell.v (gV 5 esi.length rT)]])) (some ma)) n2 (.row 1 [[.v .bC]])) n3 (.row 1 [[.v (gV 3 (esa ++ [[.v (.str x.aH[ka].eC), .v (I x.aH[ka].bE), (x8 5 esi rT)]]).length (some ma))]]))) (aB.aF4 (m := ma) (sz := 3) (es := (OV.cells esa ++ [[Cell.v (.str x.aH[ka].eC), Cell.v (I x.aH[ka].bE), Cell.v (gV 5 esi.length rT)]])) (es' := OV.cells (esa ++ [[.v (.str x.aH[ka].eC), .v (I x.aH[ka].bE), (x8 5 esi rT)]])) (fun q_ hq_ => by simp only [a7, aG, if_neg hq_]) (by simp [a7, aG, qV, qU]) (by simp [a7, aG, qV, qU]) (by rw [bY]; exact gD.sub (xs := [(.str x.aH[ka].eC), (I x.aH[ka].bE), (gV 5 esi.length rT)]) (ys := [(.str x.aH[ka].eC), (I x.aH[ka].bE), (x8 5 esi rT).val]) (cD.cons (Sub.refl _) (cD.cons (Sub.refl _) (cD.cons pD cD.nil))) _)) (aB.jA (by intro q_; simp only [a7, aK, aG, aW, aQ, cA, bY, cO, cP, aP, aT, OV.aS, List.nil_append, List.length_append, List.length_cons, List.length_nil, Nat.zero_add]; grind))), ⟨by omega, OR.snoc hora hlta ⟨_, rfl, sX hori hosi⟩, hnewa.snoc (by simpa only [OV.bL, OV.cF, OV.c8, List.nil_append, List.append_nil] using wf), bT, cK, aUF, (fun n_ e_ => by obtain rfl := Option.some.inj e_; exact ⟨qV, qU⟩)⟩, by omega⟩
    all_goals (repeat' (with_reducible refine And.intro ?_ ?_))
    all_goals first | rfl | trivial | (rw [IntWalk.i64_in _ (by omega)]; omega)
 ·have bD2 : ka = x.aH.length := by omega
  subst bD2
  rw [List.take_length] at hora
  have bD3 : dD ga_ (.row 3 (OV.cells esa)) oa_ n2 = none := eK bT fun n_ e_ => (hona n_ e_).1
  have bD4 : dD ga_ (.row 3 (OV.cells esa)) oa_ n3 = none := eK cK fun n_ e_ => (hona n_ e_).2
  try simp -dsimp -implicitDefEqProofs only [go_sem, ↓reduceIte, Tryz.f90, aF, aC, a8, a9, eY, fV, Nat.lt_irrefl]
  try (with_reducible intro _)
  refine ⟨_, (dD ga_ (.row 3 (OV.cells esa)) oa_), _, Shift.of (Sub.agg (cD.cons pD cD.nil)) (by intro q_; simp only [a7, aK, aG, aW, aQ, cA, bY, cO, cP, aP, aT, OV.aS, List.nil_append, List.length_append, List.length_cons, List.length_nil, Nat.zero_add]; grind), ⟨[(x8 3 esa oa_)], ?_, rfl, rfl⟩, ?_⟩
  ·exact ⟨(x8 3 esa oa_), rfl, sX hora hosa⟩
  ·have hq := (pE (sz := 3) hnewa hosa)
   simpa only [OV.bL, OV.cF, OV.c8, List.nil_append, List.append_nil, List.append_assoc] using hq
@[go_sem] def aOP : List Nat := [0, 2, 3, 4, 5, 6, 14, 44]
@[go_sem] def a6K : List Nat := [60, 66]
@[go_sem] def a6L : Marks := fun id => match id with | 5 => ([17, 18], (.op 0 (.op 1 (.op 2 (.op 3 (.op 4 (.op 5 (.op 6 (.op 7 (.op 8 (.op 9 (.op 10 (.op 11 (.op 12 (.op 13 (.op 14 (.op 15 (.op 16 (.op 17 (.op 18 .nil))))))))))))))))))), []) | 9 => ([1, 12, 14, 16], (.op 0 (.op 2 (.op 3 (.op 4 (.op 5 (.op 6 (.op 7 (.op 8 (.op 9 (.op 10 (.op 11 (.op 1 (.op 12 (.op 13 (.op 14 (.op 15 (.op 16 .nil))))))))))))))))), [(1, 12)]) | _ => ([], .nil, [])
set_option maxHeartbeats 1000000 in
theorem aBY (x : aI) (hs : x.s ≤ 1048576) : pN Tryz.prog 79 [.ip 1 [x.c] 0 0] (QA x.o) := by
 have hs' := x.fR
 try simp only [eN] at hs'
 simp only [aI.aN]
 refine sV 70 aOP a6K a6L mix Tryz.func79 rfl (by kernel_rfl) (by simp) fun h => ?_
 try simp -dsimp -implicitDefEqProofs only [go_sem, ↓reduceIte, Tryz.f79, aF, aC]
 intro n2 qn2
 have bT := qn2
 try simp -dsimp -implicitDefEqProofs only [go_sem, ↓reduceIte, Tryz.f79, aF, aC]
 intro n3 sE
 obtain ⟨dJ, a8, a9, mV⟩ := eL (show ¬ n3 = n2 from sE.1)
 have cK := sE.2
 try simp -dsimp -implicitDefEqProofs only [go_sem, ↓reduceIte, Tryz.f79, aF, aC, a8, a9]
 try (with_reducible intro _)
 refine aRJ (keep := aOP) (ib := a6K) (mk := a6L) mix (by kernel_rfl) (fun s : Nat × List (List OV) × aB × Option Nat => [(0, .ip 1 [[c5 3 aV.c x.aH]] 0 0), (2, .op n2 1 0 0), (3, .op n3 1 0 0), (4, (I s.1))]) (fun s => (bK (bK (dD s.2.2.1 (.row 3 (OV.cells s.2.1)) s.2.2.2) n2 (.row 1 [[.v .bC]])) n3 (.row 1 [[.v (gV 3 s.2.1.length s.2.2.2)]]))) (fun s => s.1 ≤ x.aH.length ∧ OR aV.o (x.aH.take s.1) s.2.1 ∧ eM h (OV.bP s.2.1) s.2.2.1 ∧ s.2.2.1 n2 = none ∧ s.2.2.1 n3 = none ∧ tE s.2.2.1 s.2.1 s.2.2.2 ∧ ∀ n : Nat, s.2.2.2 = some n → n ≠ n2 ∧ n ≠ n3) (fun s => x.aH.length - s.1) (0, [], h, none) ?_ ?_
 ·exact ⟨by simp [dA, cH], aB.jA (by intro q_; simp only [a7, aK, aG, aW, aQ, cA, bY, cO, cP, aP, aT, OV.aS, List.nil_append, List.length_append, List.length_cons, List.length_nil, Nat.zero_add]; grind), Nat.zero_le _, trivial, eM.nil _, bT, cK, rfl, by simp⟩
 rintro ⟨ka, esa, ga_, oa_⟩ ⟨hkka, hora, hnewa, bT, cK, hosa, hona⟩
 simp only at hkka hora hnewa bT cK hosa hona ⊢
 have hlena : esa.length = ka := by have := hora.length; simp at this; omega
 rcases Nat.lt_or_ge ka x.aH.length with hlta | hgea
 ·have eaa : x.aH[ka]? = some x.aH[ka] := List.getElem?_eq_getElem hlta
  have hf := gG aV.s (List.getElem_mem hlta)
  have hf2 := (x.aH[ka]).fR
  simp only [eN] at hf2
  cases oa_ with
  |none =>
   rw [gW] at hosa
   subst hosa
   try simp -dsimp -implicitDefEqProofs only [go_sem, ↓reduceIte, Tryz.f79, aF, aC, a8, a9, eaa, hlta, aK, aW, aV.aN]
   try (with_reducible intro _)
   intro n5 qn5
   obtain ⟨qC, eD, eE, aJ6⟩ := eL (show ¬ n5 = n3 from qn5.1)
   obtain ⟨mU, dP, dQ, aCB⟩ := eL (show ¬ n5 = n2 from qn5.2.1)
   have iO := qn5.2.2
   try simp -dsimp -implicitDefEqProofs only [go_sem, ↓reduceIte, Tryz.f79, aF, aC, a8, a9, eD, eE, dP, dQ, eaa, hlta, aK, aW, aV.aN]
   try (with_reducible intro _)
   refine cS (keep := aOP) (ib := a6K) (mk := a6L) mix (by kernel_rfl) (fun s : Nat × List (List OV) × aB × Option Nat => [(0, .ip 1 [[c5 3 aV.c x.aH]] 0 0), (2, .op n2 1 0 0), (3, .op n3 1 0 0), (4, (I ka)), (5, .op n5 3 0 0), (6, (I s.1))]) (fun s => (bK (bK (bK (dD s.2.2.1 (.row 5 (OV.cells s.2.1)) s.2.2.2) n2 (.row 1 [[.v .bC]])) n3 (.row 1 [[.v (.bC)]])) n5 (.row 3 [[.v (.str x.aH[ka].eC), .v (I x.aH[ka].bE), .v (gV 5 s.2.1.length s.2.2.2)]]))) (fun s => s.1 ≤ x.aH[ka].aZ.length ∧ OR aA.o (x.aH[ka].aZ.take s.1) s.2.1 ∧ eM ga_ (OV.bP s.2.1) s.2.2.1 ∧ s.2.2.1 n2 = none ∧ s.2.2.1 n3 = none ∧ s.2.2.1 n5 = none ∧ tE s.2.2.1 s.2.1 s.2.2.2 ∧ ∀ n : Nat, s.2.2.2 = some n → n ≠ n2 ∧ n ≠ n3 ∧ n ≠ n5) (fun s => x.aH[ka].aZ.length - s.1) (0, [], ga_, none) ?_ ?_
   ·exact ⟨by simp [dA, cH], (by intro q_; simp only [a7, aK, aG, aW, aQ, cA, bY, cO, cP, aP, aT, OV.aS, List.nil_append, List.length_append, List.length_cons, List.length_nil, Nat.zero_add]; grind), Nat.zero_le _, trivial, eM.nil _, bT, cK, iO, rfl, by simp⟩
   rintro ⟨ki, esi, gi_, rT⟩ ⟨hkki, hori, hnewi, bT, cK, iO, hosi, honi⟩
   simp only at hkki hori hnewi bT cK iO hosi honi ⊢
   have hleni : esi.length = ki := by have := hori.length; simp at this; omega
   rcases Nat.lt_or_ge ki x.aH[ka].aZ.length with hlti | hgei
   ·have eai : x.aH[ka].aZ[ki]? = some x.aH[ka].aZ[ki] := List.getElem?_eq_getElem hlti
    have hxi := aTQ (x.aH[ka].aZ[ki]) (by have := gG aA.s (List.getElem_mem hlti); omega)
    cases rT with
    |none =>
     rw [gW] at hosi
     subst hosi
     try simp -dsimp -implicitDefEqProofs only [go_sem, ↓reduceIte, Tryz.f79, aF, aC, a8, a9, eD, eE, dP, dQ, eaa, hlta, aK, aW, eai, hlti, aK, aW, aA.aN, aV.aN]
     try (with_reducible intro _)
     refine aJ.wn3 (pN.sub (by repeat' (first | exact cD.nil | refine cD.cons ?_ ?_ | exact Sub.refl _ | (rw [aA.aN]; exact Sub.refl _) | exact Sub.dM rfl rfl rfl | exact Sub.ip (bS (by omega)) (by simp) | exact Sub.dM (bS (by omega)) rfl rfl | exact Sub.ip (by simp [*]) (by simp) | exact Sub.dM (by simp [*]) (by rfl) (by rfl))) hxi) bT ⟨dJ, cK⟩ ⟨qC, mU, iO⟩ ?_
     rintro r l_ gb ⟨e_b, oeb, rfl, rfl⟩ wb bT cK iO
     have oob := oeb
     rw [aA.pS] at oob
     obtain ⟨u6, rfl, iP⟩ := oob
     try simp -dsimp -implicitDefEqProofs only [go_sem, ↓reduceIte, Tryz.f79, aF, aC, a8, a9, eD, eE, dP, dQ, eaa, hlta, aK, aW, eai, hlti, aK, aW, iP.flat, iP.one, OV.aO, OV.aE, OV.aS, aA.aN, aV.aN]
     repeat' (with_reducible first | refine And.intro (by first | omega | decide | rfl | trivial | exact Nat.le_of_eq (cW _ _).symm | exact Nat.le_of_eq (cJ _).symm) ?_)
     intro mi qmi
     obtain ⟨qL, qM, qN, aCN⟩ := eL (show ¬ mi = n5 from qmi.1)
     obtain ⟨qO, qP, qQ, aCO⟩ := eL (show ¬ mi = n3 from qmi.2.1)
     obtain ⟨qR, qS, qT, aCP⟩ := eL (show ¬ mi = n2 from qmi.2.2.1)
     have aCQ := qmi.2.2.2
     try simp -dsimp -implicitDefEqProofs only [go_sem, ↓reduceIte, Tryz.f79, aF, aC, a8, a9, eD, eE, dP, dQ, qM, qN, qP, qQ, qS, qT, eaa, hlta, aK, aW, eai, hlti, aK, aW, iP.flat, iP.one, OV.aO, OV.aE, OV.aS]
     refine ⟨(ki + 1, ([] : List (List OV)) ++ [[.v (.int .i64 x.aH[ka].aZ[ki].a6), .v (.int .i64 x.aH[ka].aZ[ki].bQ), .v (.int .i64 x.aH[ka].aZ[ki].c9), .v (.int .i64 x.aH[ka].aZ[ki].cU), u6]], gb, some mi), ?_⟩
     simp only
     refine ⟨?_, (by intro q_; simp only [a7, aK, aG, aW, aQ, cA, bY, cO, cP, aP, aT, OV.aS, List.nil_append, List.length_append, List.length_cons, List.length_nil, Nat.zero_add]; grind), ⟨by omega, OR.snoc hori hlti oeb, hnewi.snoc wb, bT, cK, iO, aCQ, (fun n_ e_ => by obtain rfl := Option.some.inj e_; exact ⟨qR, qO, qL⟩)⟩, by omega⟩
     all_goals (repeat' (with_reducible refine And.intro ?_ ?_))
     all_goals first | rfl | trivial | (rw [IntWalk.i64_in _ (by omega)]; omega)
    |some ni =>
     rw [jD] at hosi
     have aKB := hosi
     have hni := honi ni rfl
     obtain ⟨aT0, oF, oG, aCR⟩ := eL (show ¬ ni = n2 from hni.1)
     obtain ⟨aT1, oH, oI, aCS⟩ := eL (show ¬ ni = n3 from hni.2.1)
     obtain ⟨aT2, oJ, oK, aCT⟩ := eL (show ¬ ni = n5 from hni.2.2)
     try simp -dsimp -implicitDefEqProofs only [go_sem, ↓reduceIte, Tryz.f79, aF, aC, a8, a9, eD, eE, dP, dQ, oF, oG, oH, oI, oJ, oK, eaa, hlta, aK, aW, eai, hlti, aG, aQ, aA.aN, aV.aN]
     try (with_reducible intro _)
     refine aJ.wn4 (pN.sub (by repeat' (first | exact cD.nil | refine cD.cons ?_ ?_ | exact Sub.refl _ | (rw [aA.aN]; exact Sub.refl _) | exact Sub.dM rfl rfl rfl | exact Sub.ip (bS (by omega)) (by simp) | exact Sub.dM (bS (by omega)) rfl rfl | exact Sub.ip (by simp [*]) (by simp) | exact Sub.dM (by simp [*]) (by rfl) (by rfl))) hxi) aKB ⟨aCR, bT⟩ ⟨dJ, aCS, cK⟩ ⟨qC, mU, aCT, iO⟩ ?_
     rintro r l_ gb ⟨e_b, oeb, rfl, rfl⟩ wb aKB bT cK iO
     have oob := oeb
     rw [aA.pS] at oob
     obtain ⟨u6, rfl, iP⟩ := oob
     try simp -dsimp -implicitDefEqProofs only [go_sem, ↓reduceIte, Tryz.f79, aF, aC, a8, a9, eD, eE, dP, dQ, oF, oG, oH, oI, oJ, oK, eaa, hlta, aK, aW, eai, hlti, aG, aQ, iP.flat, iP.one, OV.aO, OV.aE, OV.aS, aA.aN, aV.aN]
     repeat' (with_reducible first | refine And.intro (by first | omega | decide | rfl | trivial | exact Nat.le_of_eq (cW _ _).symm | exact Nat.le_of_eq (cJ _).symm) ?_)
     intro mi qmi
     obtain ⟨qL, qM, qN, aCN⟩ := eL (show ¬ mi = n5 from qmi.1)
     obtain ⟨qO, qP, qQ, aCO⟩ := eL (show ¬ mi = n3 from qmi.2.1)
     obtain ⟨qR, qS, qT, aCP⟩ := eL (show ¬ mi = n2 from qmi.2.2.1)
     obtain ⟨aT5, aCW, aCX, aT6⟩ := eL (show ¬ mi = ni from qmi.2.2.2.1)
     have aCQ := qmi.2.2.2.2
     try simp -dsimp -implicitDefEqProofs only [go_sem, ↓reduceIte, Tryz.f79, aF, aC, a8, a9, eD, eE, dP, dQ, oF, oG, oH, oI, oJ, oK, qM, qN, qP, qQ, qS, qT, aCW, aCX, eaa, hlta, aK, aW, eai, hlti, aG, aQ, iP.flat, iP.one, OV.aO, OV.aE, OV.aS]
     refine ⟨(ki + 1, esi ++ [[.v (.int .i64 x.aH[ka].aZ[ki].a6), .v (.int .i64 x.aH[ka].aZ[ki].bQ), .v (.int .i64 x.aH[ka].aZ[ki].c9), .v (.int .i64 x.aH[ka].aZ[ki].cU), u6]], gb, some mi), ?_⟩
     simp only
     refine ⟨?_, (by intro q_; simp only [a7, aK, aG, aW, aQ, cA, bY, cO, cP, aP, aT, OV.aS, List.nil_append, List.length_append, List.length_cons, List.length_nil, Nat.zero_add]; grind), ⟨by omega, OR.snoc hori hlti oeb, hnewi.snoc wb, bT, cK, iO, aCQ, (fun n_ e_ => by obtain rfl := Option.some.inj e_; exact ⟨qR, qO, qL⟩)⟩, by omega⟩
     all_goals (repeat' (with_reducible refine And.intro ?_ ?_))
     all_goals first | rfl | trivial | (rw [IntWalk.i64_in _ (by omega)]; omega)
   ·have aT7 : ki = x.aH[ka].aZ.length := by omega
    subst aT7
    rw [List.take_length] at hori
    have aCY : dD gi_ (.row 5 (OV.cells esi)) rT n2 = none := eK bT fun n_ e_ => (honi n_ e_).1
    have aCZ : dD gi_ (.row 5 (OV.cells esi)) rT n3 = none := eK cK fun n_ e_ => (honi n_ e_).2.1
    have aC0 : dD gi_ (.row 5 (OV.cells esi)) rT n5 = none := eK iO fun n_ e_ => (honi n_ e_).2.2
    try simp -dsimp -implicitDefEqProofs only [go_sem, ↓reduceIte, Tryz.f79, aF, aC, a8, a9, eD, eE, dP, dQ, eaa, hlta, aK, aW, eY, fV, OV.aO, OV.aE, OV.aS, Nat.lt_irrefl, aV.aN]
    try (with_reducible intro _)
    repeat' (with_reducible first | refine And.intro (by first | omega | decide | rfl | trivial | exact Nat.le_of_eq (cW _ _).symm | exact Nat.le_of_eq (cJ _).symm) ?_)
    have bT := aCY
    have cK := aCZ
    have iO := aC0
    have wf := pE (sz := 5) hnewi hosi
    intro ma qma
    obtain ⟨aUB, aC1, aC2, aUC⟩ := eL (show ¬ ma = n5 from qma.1)
    obtain ⟨qU, aC3, aC4, aUD⟩ := eL (show ¬ ma = n3 from qma.2.1)
    obtain ⟨qV, aC5, aC6, aUE⟩ := eL (show ¬ ma = n2 from qma.2.2.1)
    have aUF := qma.2.2.2
    try simp -dsimp -implicitDefEqProofs only [go_sem, ↓reduceIte, Tryz.f79, aF, aC, a8, a9, eD, eE, dP, dQ, aC1, aC2, aC3, aC4, aC5, aC6, eaa, hlta, aK, aW, eY, fV, OV.aO, OV.aE, OV.aS]
    refine ⟨(ka + 1, ([] : List (List OV)) ++ [[.v (.str x.aH[ka].eC), .v (I x.aH[ka].bE), (x8 5 esi rT)]], (dD gi_ (.row 5 (OV.cells esi)) rT), some ma), ?_⟩
    simp only
    refine ⟨?_, (aB.wk.trans (b := (bK (bK (dD (dD gi_ (.row 5 (OV.cells esi)) rT) (.row 3 (OV.cells ([] : List (List OV)) ++ [[Cell.v (.str x.aH[ka].eC), Cell.v (I x.aH[ka].bE), Cell.v (gV 5 esi.length rT)]])) (some ma)) n2 (.row 1 [[.v .bC]])) n3 (.row 1 [[.v (gV 3 (([] : List (List OV)) ++ [[.v (.str x.aH[ka].eC), .v (I x.aH[ka].bE), (x8 5 esi rT)]]).length (some ma))]]))) (aB.aF4 (m := ma) (sz := 3) (es := (OV.cells ([] : List (List OV)) ++ [[Cell.v (.str x.aH[ka].eC), Cell.v (I x.aH[ka].bE), Cell.v (gV 5 esi.length rT)]])) (es' := OV.cells (([] : List (List OV)) ++ [[.v (.str x.aH[ka].eC), .v (I x.aH[ka].bE), (x8 5 esi rT)]])) (fun q_ hq_ => by simp only [a7, aG, if_neg hq_]) (by simp [a7, aG, qV, qU]) (by simp [a7, aG, qV, qU]) (by rw [bY]; exact gD.sub (xs := [(.str x.aH[ka].eC), (I x.aH[ka].bE), (gV 5 esi.length rT)]) (ys := [(.str x.aH[ka].eC), (I x.aH[ka].bE), (x8 5 esi rT).val]) (cD.cons (Sub.refl _) (cD.cons (Sub.refl _) (cD.cons pD cD.nil))) _)) (aB.jA (by intro q_; simp only [a7, aK, aG, aW, aQ, cA, bY, cO, cP, aP, aT, OV.aS, List.nil_append, List.length_append, List.length_cons, List.length_nil, Nat.zero_add]; grind))), ⟨by omega, OR.snoc hora hlta ⟨_, rfl, sX hori hosi⟩, hnewa.snoc (by simpa only [OV.bL, OV.cF, OV.c8, List.nil_append, List.append_nil] using wf), bT, cK, aUF, (fun n_ e_ => by obtain rfl := Option.some.inj e_; exact ⟨qV, qU⟩)⟩, by omega⟩
    all_goals (repeat' (with_reducible refine And.intro ?_ ?_))
    all_goals first | rfl | trivial | (rw [IntWalk.i64_in _ (by omega)]; omega)
  |some na =>
   rw [jD] at hosa
   have u7 := hosa
   have hna := hona na rfl
   obtain ⟨bDV, j5, j6, aKC⟩ := eL (show ¬ na = n2 from hna.1)
   obtain ⟨bDW, j7, j8, aKD⟩ := eL (show ¬ na = n3 from hna.2)
   try simp -dsimp -implicitDefEqProofs only [go_sem, ↓reduceIte, Tryz.f79, aF, aC, a8, a9, j5, j6, j7, j8, eaa, hlta, aG, aQ, aV.aN]
   try (with_reducible intro _)
   intro n5 qn5
   obtain ⟨qC, eD, eE, aJ6⟩ := eL (show ¬ n5 = n3 from qn5.1)
   obtain ⟨mU, dP, dQ, aCB⟩ := eL (show ¬ n5 = n2 from qn5.2.1)
   obtain ⟨aKE, kY, kZ, bDX⟩ := eL (show ¬ n5 = na from qn5.2.2.1)
   have iO := qn5.2.2.2
   try simp -dsimp -implicitDefEqProofs only [go_sem, ↓reduceIte, Tryz.f79, aF, aC, a8, a9, j5, j6, j7, j8, eD, eE, dP, dQ, kY, kZ, eaa, hlta, aG, aQ, aV.aN]
   try (with_reducible intro _)
   refine cS (keep := aOP) (ib := a6K) (mk := a6L) mix (by kernel_rfl) (fun s : Nat × List (List OV) × aB × Option Nat => [(0, .ip 1 [[c5 3 aV.c x.aH]] 0 0), (2, .op n2 1 0 0), (3, .op n3 1 0 0), (4, (I ka)), (5, .op n5 3 0 0), (6, (I s.1))]) (fun s => (bK (bK (bK (bK (dD s.2.2.1 (.row 5 (OV.cells s.2.1)) s.2.2.2) na (.row 3 (OV.cells esa))) n2 (.row 1 [[.v .bC]])) n3 (.row 1 [[.v (.os na 3 0 esa.length)]])) n5 (.row 3 [[.v (.str x.aH[ka].eC), .v (I x.aH[ka].bE), .v (gV 5 s.2.1.length s.2.2.2)]]))) (fun s => s.1 ≤ x.aH[ka].aZ.length ∧ OR aA.o (x.aH[ka].aZ.take s.1) s.2.1 ∧ eM ga_ (OV.bP s.2.1) s.2.2.1 ∧ s.2.2.1 na = none ∧ s.2.2.1 n2 = none ∧ s.2.2.1 n3 = none ∧ s.2.2.1 n5 = none ∧ tE s.2.2.1 s.2.1 s.2.2.2 ∧ ∀ n : Nat, s.2.2.2 = some n → n ≠ na ∧ n ≠ n2 ∧ n ≠ n3 ∧ n ≠ n5) (fun s => x.aH[ka].aZ.length - s.1) (0, [], ga_, none) ?_ ?_
   ·exact ⟨by simp [dA, cH], (by intro q_; simp only [a7, aK, aG, aW, aQ, cA, bY, cO, cP, aP, aT, OV.aS, List.nil_append, List.length_append, List.length_cons, List.length_nil, Nat.zero_add]; grind), Nat.zero_le _, trivial, eM.nil _, u7, bT, cK, iO, rfl, by simp⟩
   rintro ⟨ki, esi, gi_, rT⟩ ⟨hkki, hori, hnewi, u7, bT, cK, iO, hosi, honi⟩
   simp only at hkki hori hnewi u7 bT cK iO hosi honi ⊢
   have hleni : esi.length = ki := by have := hori.length; simp at this; omega
   rcases Nat.lt_or_ge ki x.aH[ka].aZ.length with hlti | hgei
   ·have eai : x.aH[ka].aZ[ki]? = some x.aH[ka].aZ[ki] := List.getElem?_eq_getElem hlti
    have hxi := aTQ (x.aH[ka].aZ[ki]) (by have := gG aA.s (List.getElem_mem hlti); omega)
    cases rT with
    |none =>
     rw [gW] at hosi
     subst hosi
     try simp -dsimp -implicitDefEqProofs only [go_sem, ↓reduceIte, Tryz.f79, aF, aC, a8, a9, j5, j6, j7, j8, eD, eE, dP, dQ, kY, kZ, eaa, hlta, aG, aQ, eai, hlti, aK, aW, aA.aN, aV.aN]
     try (with_reducible intro _)
     refine aJ.wn4 (pN.sub (by repeat' (first | exact cD.nil | refine cD.cons ?_ ?_ | exact Sub.refl _ | (rw [aA.aN]; exact Sub.refl _) | exact Sub.dM rfl rfl rfl | exact Sub.ip (bS (by omega)) (by simp) | exact Sub.dM (bS (by omega)) rfl rfl | exact Sub.ip (by simp [*]) (by simp) | exact Sub.dM (by simp [*]) (by rfl) (by rfl))) hxi) u7 ⟨aKC, bT⟩ ⟨dJ, aKD, cK⟩ ⟨qC, mU, aKE, iO⟩ ?_
     rintro r l_ gb ⟨e_b, oeb, rfl, rfl⟩ wb u7 bT cK iO
     have oob := oeb
     rw [aA.pS] at oob
     obtain ⟨u6, rfl, iP⟩ := oob
     try simp -dsimp -implicitDefEqProofs only [go_sem, ↓reduceIte, Tryz.f79, aF, aC, a8, a9, j5, j6, j7, j8, eD, eE, dP, dQ, kY, kZ, eaa, hlta, aG, aQ, eai, hlti, aK, aW, iP.flat, iP.one, OV.aO, OV.aE, OV.aS, aA.aN, aV.aN]
     repeat' (with_reducible first | refine And.intro (by first | omega | decide | rfl | trivial | exact Nat.le_of_eq (cW _ _).symm | exact Nat.le_of_eq (cJ _).symm) ?_)
     intro mi qmi
     obtain ⟨qL, qM, qN, aCN⟩ := eL (show ¬ mi = n5 from qmi.1)
     obtain ⟨qO, qP, qQ, aCO⟩ := eL (show ¬ mi = n3 from qmi.2.1)
     obtain ⟨qR, qS, qT, aCP⟩ := eL (show ¬ mi = n2 from qmi.2.2.1)
     obtain ⟨aC9, aDA, aDB, aUH⟩ := eL (show ¬ mi = na from qmi.2.2.2.1)
     have aCQ := qmi.2.2.2.2
     try simp -dsimp -implicitDefEqProofs only [go_sem, ↓reduceIte, Tryz.f79, aF, aC, a8, a9, j5, j6, j7, j8, eD, eE, dP, dQ, kY, kZ, qM, qN, qP, qQ, qS, qT, aDA, aDB, eaa, hlta, aG, aQ, eai, hlti, aK, aW, iP.flat, iP.one, OV.aO, OV.aE, OV.aS]
     refine ⟨(ki + 1, ([] : List (List OV)) ++ [[.v (.int .i64 x.aH[ka].aZ[ki].a6), .v (.int .i64 x.aH[ka].aZ[ki].bQ), .v (.int .i64 x.aH[ka].aZ[ki].c9), .v (.int .i64 x.aH[ka].aZ[ki].cU), u6]], gb, some mi), ?_⟩
     simp only
     refine ⟨?_, (by intro q_; simp only [a7, aK, aG, aW, aQ, cA, bY, cO, cP, aP, aT, OV.aS, List.nil_append, List.length_append, List.length_cons, List.length_nil, Nat.zero_add]; grind), ⟨by omega, OR.snoc hori hlti oeb, hnewi.snoc wb, u7, bT, cK, iO, aCQ, (fun n_ e_ => by obtain rfl := Option.some.inj e_; exact ⟨aC9, qR, qO, qL⟩)⟩, by omega⟩
     all_goals (repeat' (with_reducible refine And.intro ?_ ?_))
     all_goals first | rfl | trivial | (rw [IntWalk.i64_in _ (by omega)]; omega)
    |some ni =>
     rw [jD] at hosi
     have aKB := hosi
     have hni := honi ni rfl
     obtain ⟨bDZ, aAR, aAS, aUI⟩ := eL (show ¬ ni = na from hni.1)
     obtain ⟨aT0, oF, oG, aCR⟩ := eL (show ¬ ni = n2 from hni.2.1)
     obtain ⟨aT1, oH, oI, aCS⟩ := eL (show ¬ ni = n3 from hni.2.2.1)
     obtain ⟨aT2, oJ, oK, aCT⟩ := eL (show ¬ ni = n5 from hni.2.2.2)
     try simp -dsimp -implicitDefEqProofs only [go_sem, ↓reduceIte, Tryz.f79, aF, aC, a8, a9, j5, j6, j7, j8, eD, eE, dP, dQ, kY, kZ, aAR, aAS, oF, oG, oH, oI, oJ, oK, eaa, hlta, aG, aQ, eai, hlti, aG, aQ, aA.aN, aV.aN]
     try (with_reducible intro _)
     refine aJ.wn5 (pN.sub (by repeat' (first | exact cD.nil | refine cD.cons ?_ ?_ | exact Sub.refl _ | (rw [aA.aN]; exact Sub.refl _) | exact Sub.dM rfl rfl rfl | exact Sub.ip (bS (by omega)) (by simp) | exact Sub.dM (bS (by omega)) rfl rfl | exact Sub.ip (by simp [*]) (by simp) | exact Sub.dM (by simp [*]) (by rfl) (by rfl))) hxi) aKB ⟨aUI, u7⟩ ⟨aKC, aCR, bT⟩ ⟨dJ, aKD, aCS, cK⟩ ⟨qC, mU, aKE, aCT, iO⟩ ?_
     rintro r l_ gb ⟨e_b, oeb, rfl, rfl⟩ wb aKB u7 bT cK iO
     have oob := oeb
     rw [aA.pS] at oob
     obtain ⟨u6, rfl, iP⟩ := oob
     try simp -dsimp -implicitDefEqProofs only [go_sem, ↓reduceIte, Tryz.f79, aF, aC, a8, a9, j5, j6, j7, j8, eD, eE, dP, dQ, kY, kZ, aAR, aAS, oF, oG, oH, oI, oJ, oK, eaa, hlta, aG, aQ, eai, hlti, aG, aQ, iP.flat, iP.one, OV.aO, OV.aE, OV.aS, aA.aN, aV.aN]
     repeat' (with_reducible first | refine And.intro (by first | omega | decide | rfl | trivial | exact Nat.le_of_eq (cW _ _).symm | exact Nat.le_of_eq (cJ _).symm) ?_)
     intro mi qmi
     obtain ⟨qL, qM, qN, aCN⟩ := eL (show ¬ mi = n5 from qmi.1)
     obtain ⟨qO, qP, qQ, aCO⟩ := eL (show ¬ mi = n3 from qmi.2.1)
     obtain ⟨qR, qS, qT, aCP⟩ := eL (show ¬ mi = n2 from qmi.2.2.1)
     obtain ⟨aC9, aDA, aDB, aUH⟩ := eL (show ¬ mi = na from qmi.2.2.2.1)
     obtain ⟨aT5, aCW, aCX, aT6⟩ := eL (show ¬ mi = ni from qmi.2.2.2.2.1)
     have aCQ := qmi.2.2.2.2.2
     try simp -dsimp -implicitDefEqProofs only [go_sem, ↓reduceIte, Tryz.f79, aF, aC, a8, a9, j5, j6, j7, j8, eD, eE, dP, dQ, kY, kZ, aAR, aAS, oF, oG, oH, oI, oJ, oK, qM, qN, qP, qQ, qS, qT, aDA, aDB, aCW, aCX, eaa, hlta, aG, aQ, eai, hlti, aG, aQ, iP.flat, iP.one, OV.aO, OV.aE, OV.aS]
     refine ⟨(ki + 1, esi ++ [[.v (.int .i64 x.aH[ka].aZ[ki].a6), .v (.int .i64 x.aH[ka].aZ[ki].bQ), .v (.int .i64 x.aH[ka].aZ[ki].c9), .v (.int .i64 x.aH[ka].aZ[ki].cU), u6]], gb, some mi), ?_⟩
     simp only
     refine ⟨?_, (by intro q_; simp only [a7, aK, aG, aW, aQ, cA, bY, cO, cP, aP, aT, OV.aS, List.nil_append, List.length_append, List.length_cons, List.length_nil, Nat.zero_add]; grind), ⟨by omega, OR.snoc hori hlti oeb, hnewi.snoc wb, u7, bT, cK, iO, aCQ, (fun n_ e_ => by obtain rfl := Option.some.inj e_; exact ⟨aC9, qR, qO, qL⟩)⟩, by omega⟩
     all_goals (repeat' (with_reducible refine And.intro ?_ ?_))
     all_goals first | rfl | trivial | (rw [IntWalk.i64_in _ (by omega)]; omega)
   ·have aT7 : ki = x.aH[ka].aZ.length := by omega
    subst aT7
    rw [List.take_length] at hori
    have aUJ : dD gi_ (.row 5 (OV.cells esi)) rT na = none := eK u7 fun n_ e_ => (honi n_ e_).1
    have aCY : dD gi_ (.row 5 (OV.cells esi)) rT n2 = none := eK bT fun n_ e_ => (honi n_ e_).2.1
    have aCZ : dD gi_ (.row 5 (OV.cells esi)) rT n3 = none := eK cK fun n_ e_ => (honi n_ e_).2.2.1
    have aC0 : dD gi_ (.row 5 (OV.cells esi)) rT n5 = none := eK iO fun n_ e_ => (honi n_ e_).2.2.2
    try simp -dsimp -implicitDefEqProofs only [go_sem, ↓reduceIte, Tryz.f79, aF, aC, a8, a9, j5, j6, j7, j8, eD, eE, dP, dQ, kY, kZ, eaa, hlta, aG, aQ, eY, fV, OV.aO, OV.aE, OV.aS, Nat.lt_irrefl, aV.aN]
    try (with_reducible intro _)
    repeat' (with_reducible first | refine And.intro (by first | omega | decide | rfl | trivial | exact Nat.le_of_eq (cW _ _).symm | exact Nat.le_of_eq (cJ _).symm) ?_)
    have u7 := aUJ
    have bT := aCY
    have cK := aCZ
    have iO := aC0
    have wf := pE (sz := 5) hnewi hosi
    intro ma qma
    obtain ⟨aUB, aC1, aC2, aUC⟩ := eL (show ¬ ma = n5 from qma.1)
    obtain ⟨qU, aC3, aC4, aUD⟩ := eL (show ¬ ma = n3 from qma.2.1)
    obtain ⟨qV, aC5, aC6, aUE⟩ := eL (show ¬ ma = n2 from qma.2.2.1)
    obtain ⟨bD0, aUK, aUL, bD1⟩ := eL (show ¬ ma = na from qma.2.2.2.1)
    have aUF := qma.2.2.2.2
    try simp -dsimp -implicitDefEqProofs only [go_sem, ↓reduceIte, Tryz.f79, aF, aC, a8, a9, j5, j6, j7, j8, eD, eE, dP, dQ, kY, kZ, aC1, aC2, aC3, aC4, aC5, aC6, aUK, aUL, eaa, hlta, aG, aQ, eY, fV, OV.aO, OV.aE, OV.aS]
    refine ⟨(ka + 1, esa ++ [[.v (.str x.aH[ka].eC), .v (I x.aH[ka].bE), (x8 5 esi rT)]], (dD gi_ (.row 5 (OV.cells esi)) rT), some ma), ?_⟩
    simp only
    refine ⟨?_, (aB.wk.trans (b := (bK (bK (dD (dD gi_ (.row 5 (OV.cells esi)) rT) (.row 3 (OV.cells esa ++ [[Cell.v (.str x.aH[ka].eC), Cell.v (I x.aH[ka].bE), Cell.v (gV 5 esi.length rT)]])) (some ma)) n2 (.row 1 [[.v .bC]])) n3 (.row 1 [[.v (gV 3 (esa ++ [[.v (.str x.aH[ka].eC), .v (I x.aH[ka].bE), (x8 5 esi rT)]]).length (some ma))]]))) (aB.aF4 (m := ma) (sz := 3) (es := (OV.cells esa ++ [[Cell.v (.str x.aH[ka].eC), Cell.v (I x.aH[ka].bE), Cell.v (gV 5 esi.length rT)]])) (es' := OV.cells (esa ++ [[.v (.str x.aH[ka].eC), .v (I x.aH[ka].bE), (x8 5 esi rT)]])) (fun q_ hq_ => by simp only [a7, aG, if_neg hq_]) (by simp [a7, aG, qV, qU]) (by simp [a7, aG, qV, qU]) (by rw [bY]; exact gD.sub (xs := [(.str x.aH[ka].eC), (I x.aH[ka].bE), (gV 5 esi.length rT)]) (ys := [(.str x.aH[ka].eC), (I x.aH[ka].bE), (x8 5 esi rT).val]) (cD.cons (Sub.refl _) (cD.cons (Sub.refl _) (cD.cons pD cD.nil))) _)) (aB.jA (by intro q_; simp only [a7, aK, aG, aW, aQ, cA, bY, cO, cP, aP, aT, OV.aS, List.nil_append, List.length_append, List.length_cons, List.length_nil, Nat.zero_add]; grind))), ⟨by omega, OR.snoc hora hlta ⟨_, rfl, sX hori hosi⟩, hnewa.snoc (by simpa only [OV.bL, OV.cF, OV.c8, List.nil_append, List.append_nil] using wf), bT, cK, aUF, (fun n_ e_ => by obtain rfl := Option.some.inj e_; exact ⟨qV, qU⟩)⟩, by omega⟩
    all_goals (repeat' (with_reducible refine And.intro ?_ ?_))
    all_goals first | rfl | trivial | (rw [IntWalk.i64_in _ (by omega)]; omega)
 ·have bD2 : ka = x.aH.length := by omega
  subst bD2
  rw [List.take_length] at hora
  have bD3 : dD ga_ (.row 3 (OV.cells esa)) oa_ n2 = none := eK bT fun n_ e_ => (hona n_ e_).1
  have bD4 : dD ga_ (.row 3 (OV.cells esa)) oa_ n3 = none := eK cK fun n_ e_ => (hona n_ e_).2
  try simp -dsimp -implicitDefEqProofs only [go_sem, ↓reduceIte, Tryz.f79, aF, aC, a8, a9, eY, fV, Nat.lt_irrefl]
  try (with_reducible intro _)
  refine ⟨_, (dD ga_ (.row 3 (OV.cells esa)) oa_), _, Shift.of (Sub.agg (cD.cons pD cD.nil)) (by intro q_; simp only [a7, aK, aG, aW, aQ, cA, bY, cO, cP, aP, aT, OV.aS, List.nil_append, List.length_append, List.length_cons, List.length_nil, Nat.zero_add]; grind), ⟨[(x8 3 esa oa_)], ?_, rfl, rfl⟩, ?_⟩
  ·exact ⟨(x8 3 esa oa_), rfl, sX hora hosa⟩
  ·have hq := (pE (sz := 3) hnewa hosa)
   simpa only [OV.bL, OV.cF, OV.c8, List.nil_append, List.append_nil, List.append_assoc] using hq
set_option maxRecDepth 100000
open Go.Proofs
set_option linter.unusedVariables false
set_option linter.unusedSimpArgs false
@[go_sem] def a11 : List Nat := [0, 1, 2, 3, 5, 18, 19, 20, 21]
@[go_sem] def bKQ : List Nat := [1, 28]
@[go_sem] def bKR : Marks := fun id => match id with | 1 => ([2, 9, 11, 12], (.op 0 (.op 1 (.op 3 (.op 4 (.op 5 (.op 6 (.op 7 (.op 8 (.alt 2 (.alt 9 (.op 10 (.op 11 (.op 12 .nil))) 11 (.op 9 (.op 10 (.op 12 .nil)))) 11 (.op 2 (.op 9 (.op 10 (.op 12 .nil))))))))))))), []) | 5 => ([1, 3, 5, 7], (.op 0 (.op 2 (.op 1 (.op 3 (.op 4 (.op 5 (.op 6 (.op 7 .nil)))))))), [(1, 3)]) | _ => ([], .nil, [])
set_option maxHeartbeats 1000000 in
theorem aRS (x : e7) (hs : x.s ≤ 1048576) : pN Tryz.prog 62 [.agg x.c] (QA x.o) := by
 have hs' := x.fR
 have jX := x.bN.fR
 try simp only [eN] at hs'
 simp only [e7.aN]
 refine sV 33 a11 bKQ bKR mix Tryz.func62 rfl (by kernel_rfl) (by simp) fun h => ?_
 try simp -dsimp -implicitDefEqProofs only [go_sem, ↓reduceIte, Tryz.f62, aF, aC]
 intro n2 qn2
 have bT := qn2
 try simp -dsimp -implicitDefEqProofs only [go_sem, ↓reduceIte, Tryz.f62, aF, aC]
 try (with_reducible refine And.intro Nat.zero_lt_one ?_)
 refine ⟨?_, ?_⟩
 rotate_left
 focus
  intro n3 sE
  obtain ⟨dJ, a8, a9, mV⟩ := eL (show ¬ n3 = n2 from sE.1)
  have cK := sE.2
  try simp -dsimp -implicitDefEqProofs only [go_sem, ↓reduceIte, Tryz.f62, aF, aC, a8, a9, OV.aO, OV.aE, OV.aS]
  refine aJ.tM ((aEI x.bN (by omega))) bT ⟨dJ, cK⟩ ?_
  rintro r l_ gc0 ⟨aUM, aDC, rfl, rfl⟩ wc0 bT cK
  have aDD := aDC
  obtain ⟨pK, rfl, bA⟩ := aDD
  try simp -dsimp -implicitDefEqProofs only [go_sem, ↓reduceIte, Tryz.f62, aF, aC, a8, a9, bA.flat, bA.one, OV.aO, OV.aE, OV.aS]
  refine aJ.tM (rS x.cX (by omega)) bT ⟨dJ, cK⟩ ?_
  rintro r l_ gc1 ⟨mQ, bG, rfl, rfl⟩ wc1 bT cK
  try simp -dsimp -implicitDefEqProofs only [go_sem, ↓reduceIte, Tryz.f62, aF, aC, a8, a9, bA.flat, bA.one, bG.flat, bG.one, OV.aO, OV.aE, OV.aS]
  repeat' (with_reducible first | refine And.intro (by first | omega | decide | rfl | trivial | exact Nat.le_of_eq (cW _ _).symm | exact Nat.le_of_eq (cJ _).symm) ?_)
  try (with_reducible intro _)
 rotate_right
 refine aJ.wn1 ((aEI x.bN (by omega))) bT ?_
 rintro r l_ gc0 ⟨aUM, aDC, rfl, rfl⟩ wc0 bT
 have aDD := aDC
 obtain ⟨pK, rfl, bA⟩ := aDD
 try simp -dsimp -implicitDefEqProofs only [go_sem, ↓reduceIte, Tryz.f62, aF, aC, bA.flat, bA.one, OV.aO, OV.aE, OV.aS]
 try (with_reducible refine And.intro Nat.zero_lt_one ?_)
 refine ⟨?_, ?_⟩
 rotate_left
 focus
  intro n3 sE
  obtain ⟨dJ, a8, a9, mV⟩ := eL (show ¬ n3 = n2 from sE.1)
  have cK := sE.2
  try simp -dsimp -implicitDefEqProofs only [go_sem, ↓reduceIte, Tryz.f62, aF, aC, a8, a9, bA.flat, bA.one, OV.aO, OV.aE, OV.aS]
  refine aJ.tM (rS x.cX (by omega)) bT ⟨dJ, cK⟩ ?_
  rintro r l_ gc1 ⟨mQ, bG, rfl, rfl⟩ wc1 bT cK
  try simp -dsimp -implicitDefEqProofs only [go_sem, ↓reduceIte, Tryz.f62, aF, aC, a8, a9, bA.flat, bA.one, bG.flat, bG.one, OV.aO, OV.aE, OV.aS]
  repeat' (with_reducible first | refine And.intro (by first | omega | decide | rfl | trivial | exact Nat.le_of_eq (cW _ _).symm | exact Nat.le_of_eq (cJ _).symm) ?_)
  try (with_reducible intro _)
 rotate_right
 refine aJ.wn1 (rS x.cX (by omega)) bT ?_
 rintro r l_ gc1 ⟨mQ, bG, rfl, rfl⟩ wc1 bT
 try simp -dsimp -implicitDefEqProofs only [go_sem, ↓reduceIte, Tryz.f62, aF, aC, bA.flat, bA.one, bG.flat, bG.one, OV.aO, OV.aE, OV.aS]
 repeat' (with_reducible first | refine And.intro (by first | omega | decide | rfl | trivial | exact Nat.le_of_eq (cW _ _).symm | exact Nat.le_of_eq (cJ _).symm) ?_)
 intro n3 sE
 obtain ⟨dJ, a8, a9, mV⟩ := eL (show ¬ n3 = n2 from sE.1)
 have cK := sE.2
 try simp -dsimp -implicitDefEqProofs only [go_sem, ↓reduceIte, Tryz.f62, aF, aC, a8, a9, bA.flat, bA.one, bG.flat, bG.one, OV.aO, OV.aE, OV.aS]
 try (with_reducible intro _)
 all_goals
  refine cS (keep := a11) (ib := bKQ) (mk := bKR) mix (by kernel_rfl) (fun s : Nat × List (List OV) × aB × Option Nat => [(2, .op n2 5 0 0), (3, .op n3 5 0 0), (18, c5 1 (fun l => [c5 1 (fun n => [I n]) l]) x.bO), (19, I x.bO.length), (20, (I s.1))]) (fun s => (bK (bK (dD s.2.2.1 (.row 1 (OV.cells s.2.1)) s.2.2.2) n2 (.row 5 [[.v (.bC), .v (.int .i64 0), .v (.int .i64 0), .v (.bC), .v (.bC)]])) n3 (.row 5 [[.v (pK.val), .v (I x.b8), .v (I x.aX), .v (mQ.val), .v (gV 1 s.2.1.length s.2.2.2)]]))) (fun s => s.1 ≤ x.bO.length ∧ OR (oS (oP I) 1) (x.bO.take s.1) s.2.1 ∧ eM gc1 (OV.bP s.2.1) s.2.2.1 ∧ s.2.2.1 n2 = none ∧ s.2.2.1 n3 = none ∧ tE s.2.2.1 s.2.1 s.2.2.2 ∧ ∀ n : Nat, s.2.2.2 = some n → n ≠ n2 ∧ n ≠ n3) (fun s => x.bO.length - s.1) (0, [], gc1, none) ?_ ?_
  ·exact ⟨by simp [dA, cH], (by intro q_; simp only [a7, aK, aG, aW, aQ, cA, bY, cO, cP, aP, aT, OV.aS, List.nil_append, List.length_append, List.length_cons, List.length_nil, Nat.zero_add]; grind), Nat.zero_le _, trivial, eM.nil _, bT, cK, rfl, by simp⟩
  rintro ⟨k, es, g_, o_⟩ ⟨hkk, hor, hnew, bT, cK, hos, hon⟩
  simp only at hkk hor hnew bT cK hos hon ⊢
  have hlen : es.length = k := by have := hor.length; simp at this; omega
  rcases Nat.lt_or_ge k x.bO.length with hlt | hge
  ·have ea : x.bO[k]? = some x.bO[k] := List.getElem?_eq_getElem hlt
   have hx := rS x.bO[k] (by have := gG (fun x : List Int => x.length) (List.getElem_mem hlt); (try simp only at this); omega)
   cases o_ with
   |none =>
    rw [gW] at hos
    subst hos
    try simp -dsimp -implicitDefEqProofs only [go_sem, ↓reduceIte, Tryz.f62, aF, aC, a8, a9, ea, hlt, aK, aW, bA.flat, bA.one, bG.flat, bG.one]
    try (with_reducible intro _)
    refine aJ.tM (hx) bT ⟨dJ, cK⟩ ?_
    rintro r l_ gc ⟨aKF, vB, rfl, rfl⟩ wc bT cK
    try simp -dsimp -implicitDefEqProofs only [go_sem, ↓reduceIte, Tryz.f62, aF, aC, a8, a9, ea, hlt, aK, aW, bA.flat, bA.one, bG.flat, bG.one, vB.flat, vB.one, OV.aO, OV.aE, OV.aS]
    repeat' (with_reducible first | refine And.intro (by first | omega | decide | rfl | trivial | exact Nat.le_of_eq (cW _ _).symm | exact Nat.le_of_eq (cJ _).symm) ?_)
    intro m qm
    obtain ⟨rU, rV, rW, aEJ⟩ := eL (show ¬ m = n3 from qm.1)
    obtain ⟨l9, mA, mB, w7⟩ := eL (show ¬ m = n2 from qm.2.1)
    have z_m := qm.2.2
    try simp -dsimp -implicitDefEqProofs only [go_sem, ↓reduceIte, Tryz.f62, aF, aC, a8, a9, rV, rW, mA, mB, ea, hlt, aK, aW, bA.flat, bA.one, bG.flat, bG.one, vB.flat, vB.one, OV.aO, OV.aE, OV.aS]
    refine ⟨(k + 1, ([] : List (List OV)) ++ [[aKF]], gc, some m), ?_⟩
    simp only
    refine ⟨?_, (by intro q_; simp only [a7, aK, aG, aW, aQ, cA, bY, cO, cP, aP, aT, OV.aS, List.nil_append, List.length_append, List.length_cons, List.length_nil, Nat.zero_add]; grind), ⟨by omega, OR.snoc hor hlt ⟨aKF, rfl, vB⟩, hnew.snoc (by simpa only [OV.bL, OV.cF, List.append_nil] using wc), bT, cK, z_m, (fun n_ e_ => by obtain rfl := Option.some.inj e_; exact ⟨l9, rU⟩)⟩, by omega⟩
    all_goals (repeat' (with_reducible refine And.intro ?_ ?_))
    all_goals first | rfl | trivial | (rw [IntWalk.i64_in _ (by omega)]; omega)
   |some n =>
    rw [jD] at hos
    have z_n := hos
    have hn := hon n rfl
    obtain ⟨aMI, lD, lE, w8⟩ := eL (show ¬ n = n2 from hn.1)
    obtain ⟨aWY, rH, rI, aEK⟩ := eL (show ¬ n = n3 from hn.2)
    try simp -dsimp -implicitDefEqProofs only [go_sem, ↓reduceIte, Tryz.f62, aF, aC, a8, a9, lD, lE, rH, rI, ea, hlt, aG, aQ, bA.flat, bA.one, bG.flat, bG.one]
    try (with_reducible intro _)
    refine aJ.wn3 (hx) z_n ⟨w8, bT⟩ ⟨dJ, aEK, cK⟩ ?_
    rintro r l_ gc ⟨aKF, vB, rfl, rfl⟩ wc z_n bT cK
    try simp -dsimp -implicitDefEqProofs only [go_sem, ↓reduceIte, Tryz.f62, aF, aC, a8, a9, lD, lE, rH, rI, ea, hlt, aG, aQ, bA.flat, bA.one, bG.flat, bG.one, vB.flat, vB.one, OV.aO, OV.aE, OV.aS]
    repeat' (with_reducible first | refine And.intro (by first | omega | decide | rfl | trivial | exact Nat.le_of_eq (cW _ _).symm | exact Nat.le_of_eq (cJ _).symm) ?_)
    intro m qm
    obtain ⟨rU, rV, rW, aEJ⟩ := eL (show ¬ m = n3 from qm.1)
    obtain ⟨l9, mA, mB, w7⟩ := eL (show ¬ m = n2 from qm.2.1)
    obtain ⟨aYT, aF6, aF7, aYU⟩ := eL (show ¬ m = n from qm.2.2.1)
    have z_m := qm.2.2.2
    try simp -dsimp -implicitDefEqProofs only [go_sem, ↓reduceIte, Tryz.f62, aF, aC, a8, a9, lD, lE, rH, rI, rV, rW, mA, mB, aF6, aF7, ea, hlt, aG, aQ, bA.flat, bA.one, bG.flat, bG.one, vB.flat, vB.one, OV.aO, OV.aE, OV.aS]
    refine ⟨(k + 1, es ++ [[aKF]], gc, some m), ?_⟩
    simp only
    refine ⟨?_, (by intro q_; simp only [a7, aK, aG, aW, aQ, cA, bY, cO, cP, aP, aT, OV.aS, List.nil_append, List.length_append, List.length_cons, List.length_nil, Nat.zero_add]; grind), ⟨by omega, OR.snoc hor hlt ⟨aKF, rfl, vB⟩, hnew.snoc (by simpa only [OV.bL, OV.cF, List.append_nil] using wc), bT, cK, z_m, (fun n_ e_ => by obtain rfl := Option.some.inj e_; exact ⟨l9, rU⟩)⟩, by omega⟩
    all_goals (repeat' (with_reducible refine And.intro ?_ ?_))
    all_goals first | rfl | trivial | (rw [IntWalk.i64_in _ (by omega)]; omega)
  ·have hk2 : k = x.bO.length := by omega
   subst hk2
   rw [List.take_length] at hor
   have aMJ : dD g_ (.row 1 (OV.cells es)) o_ n2 = none := eK bT fun n_ e_ => (hon n_ e_).1
   have aWZ : dD g_ (.row 1 (OV.cells es)) o_ n3 = none := eK cK fun n_ e_ => (hon n_ e_).2
   try simp -dsimp -implicitDefEqProofs only [go_sem, ↓reduceIte, Tryz.f62, aF, aC, a8, a9, eY, fV, bA.flat, bA.one, bG.flat, bG.one, Nat.lt_irrefl]
   try (with_reducible intro _)
   refine ⟨_, (dD g_ (.row 1 (OV.cells es)) o_), _, Shift.of (Sub.agg (cD.cons (Sub.refl _) (cD.cons (Sub.refl _) (cD.cons (Sub.refl _) (cD.cons (Sub.refl _) (cD.cons pD cD.nil)))))) (by intro q_; simp only [a7, aK, aG, aW, aQ, cA, bY, cO, cP, aP, aT, OV.aS, List.nil_append, List.length_append, List.length_cons, List.length_nil, Nat.zero_add]; grind), ⟨[pK, .v (I x.b8), .v (I x.aX), mQ, (x8 1 es o_)], ?_, rfl, rfl⟩, ?_⟩
   ·exact ⟨pK, mQ, (x8 1 es o_), rfl, bA, bG, sX hor hos⟩
   ·have hq := (eM.append (eM.append wc0 wc1) (pE (sz := 1) hnew hos))
    simpa only [OV.bL, OV.cF, OV.c8, List.nil_append, List.append_nil, List.append_assoc] using hq
@[go_sem] def a12 : List Nat := [0, 2, 3, 4, 29]
@[go_sem] def bKS : List Nat := [42]
@[go_sem] def bKT : Marks := fun id => match id with | 1 => ([3, 16, 18, 19], (.op 0 (.op 1 (.op 2 (.op 4 (.op 5 (.op 6 (.op 7 (.op 8 (.op 9 (.op 10 (.op 11 (.op 12 (.op 13 (.op 14 (.op 15 (.alt 3 (.alt 16 (.op 17 (.op 18 (.op 19 .nil))) 18 (.op 16 (.op 17 (.op 19 .nil)))) 18 (.op 3 (.op 16 (.op 17 (.op 19 .nil)))))))))))))))))))), []) | 5 => ([1, 9, 11, 13], (.op 0 (.op 2 (.op 3 (.op 4 (.op 5 (.op 6 (.op 7 (.op 8 (.op 1 (.op 9 (.op 10 (.op 11 (.op 12 (.op 13 .nil)))))))))))))), [(1, 9)]) | _ => ([], .nil, [])
set_option maxHeartbeats 1000000 in
theorem aMK (x : e7) (hs : x.s ≤ 1048576) : pN Tryz.prog 46 [.ip 5 [x.c] 0 0] (QA x.o) := by
 have hs' := x.fR
 have jX := x.bN.fR
 try simp only [eN] at hs'
 simp only [e7.aN]
 refine sV 46 a12 bKS bKT mix Tryz.func46 rfl (by kernel_rfl) (by simp) fun h => ?_
 try simp -dsimp -implicitDefEqProofs only [go_sem, ↓reduceIte, Tryz.f46, aF, aC]
 intro n2 qn2
 have bT := qn2
 try simp -dsimp -implicitDefEqProofs only [go_sem, ↓reduceIte, Tryz.f46, aF, aC]
 try (with_reducible refine And.intro Nat.zero_lt_one ?_)
 refine ⟨?_, ?_⟩
 rotate_left
 focus
  intro n3 sE
  obtain ⟨dJ, a8, a9, mV⟩ := eL (show ¬ n3 = n2 from sE.1)
  have cK := sE.2
  try simp -dsimp -implicitDefEqProofs only [go_sem, ↓reduceIte, Tryz.f46, aF, aC, a8, a9, OV.aO, OV.aE, OV.aS]
  refine aJ.tM (pN.sub (by repeat' (first | exact cD.nil | refine cD.cons ?_ ?_ | exact Sub.refl _ | (rw [aA.aN]; exact Sub.refl _) | exact Sub.dM rfl rfl rfl | exact Sub.ip (bS (by omega)) (by simp) | exact Sub.dM (bS (by omega)) rfl rfl | exact Sub.ip (by simp [*]) (by simp) | exact Sub.dM (by simp [*]) (by rfl) (by rfl))) (aBY x.bN (by omega))) bT ⟨dJ, cK⟩ ?_
  rintro r l_ gc0 ⟨aUM, aDC, rfl, rfl⟩ wc0 bT cK
  have aDD := aDC
  obtain ⟨pK, rfl, bA⟩ := aDD
  try simp -dsimp -implicitDefEqProofs only [go_sem, ↓reduceIte, Tryz.f46, aF, aC, a8, a9, bA.flat, bA.one, OV.aO, OV.aE, OV.aS]
  refine aJ.tM (kV x.cX (by omega)) bT ⟨dJ, cK⟩ ?_
  rintro r l_ gc1 ⟨mQ, bG, rfl, rfl⟩ wc1 bT cK
  try simp -dsimp -implicitDefEqProofs only [go_sem, ↓reduceIte, Tryz.f46, aF, aC, a8, a9, bA.flat, bA.one, bG.flat, bG.one, OV.aO, OV.aE, OV.aS]
  repeat' (with_reducible first | refine And.intro (by first | omega | decide | rfl | trivial | exact Nat.le_of_eq (cW _ _).symm | exact Nat.le_of_eq (cJ _).symm) ?_)
  try (with_reducible intro _)
 rotate_right
 refine aJ.wn1 (pN.sub (by repeat' (first | exact cD.nil | refine cD.cons ?_ ?_ | exact Sub.refl _ | (rw [aA.aN]; exact Sub.refl _) | exact Sub.dM rfl rfl rfl | exact Sub.ip (bS (by omega)) (by simp) | exact Sub.dM (bS (by omega)) rfl rfl | exact Sub.ip (by simp [*]) (by simp) | exact Sub.dM (by simp [*]) (by rfl) (by rfl))) (aBY x.bN (by omega))) bT ?_
 rintro r l_ gc0 ⟨aUM, aDC, rfl, rfl⟩ wc0 bT
 have aDD := aDC
 obtain ⟨pK, rfl, bA⟩ := aDD
 try simp -dsimp -implicitDefEqProofs only [go_sem, ↓reduceIte, Tryz.f46, aF, aC, bA.flat, bA.one, OV.aO, OV.aE, OV.aS]
 try (with_reducible refine And.intro Nat.zero_lt_one ?_)
 refine ⟨?_, ?_⟩
 rotate_left
 focus
  intro n3 sE
  obtain ⟨dJ, a8, a9, mV⟩ := eL (show ¬ n3 = n2 from sE.1)
  have cK := sE.2
  try simp -dsimp -implicitDefEqProofs only [go_sem, ↓reduceIte, Tryz.f46, aF, aC, a8, a9, bA.flat, bA.one, OV.aO, OV.aE, OV.aS]
  refine aJ.tM (kV x.cX (by omega)) bT ⟨dJ, cK⟩ ?_
  rintro r l_ gc1 ⟨mQ, bG, rfl, rfl⟩ wc1 bT cK
  try simp -dsimp -implicitDefEqProofs only [go_sem, ↓reduceIte, Tryz.f46, aF, aC, a8, a9, bA.flat, bA.one, bG.flat, bG.one, OV.aO, OV.aE, OV.aS]
  repeat' (with_reducible first | refine And.intro (by first | omega | decide | rfl | trivial | exact Nat.le_of_eq (cW _ _).symm | exact Nat.le_of_eq (cJ _).symm) ?_)
  try (with_reducible intro _)
 rotate_right
 refine aJ.wn1 (kV x.cX (by omega)) bT ?_
 rintro r l_ gc1 ⟨mQ, bG, rfl, rfl⟩ wc1 bT
 try simp -dsimp -implicitDefEqProofs only [go_sem, ↓reduceIte, Tryz.f46, aF, aC, bA.flat, bA.one, bG.flat, bG.one, OV.aO, OV.aE, OV.aS]
 repeat' (with_reducible first | refine And.intro (by first | omega | decide | rfl | trivial | exact Nat.le_of_eq (cW _ _).symm | exact Nat.le_of_eq (cJ _).symm) ?_)
 intro n3 sE
 obtain ⟨dJ, a8, a9, mV⟩ := eL (show ¬ n3 = n2 from sE.1)
 have cK := sE.2
 try simp -dsimp -implicitDefEqProofs only [go_sem, ↓reduceIte, Tryz.f46, aF, aC, a8, a9, bA.flat, bA.one, bG.flat, bG.one, OV.aO, OV.aE, OV.aS]
 try (with_reducible intro _)
 all_goals
  refine cS (keep := a12) (ib := bKS) (mk := bKT) mix (by kernel_rfl) (fun s : Nat × List (List OV) × aB × Option Nat => [(0, .ip 5 [[c5 3 aV.c x.bN.aH, I x.b8, I x.aX, c5 1 (fun n => [I n]) x.cX, c5 1 (fun l => [c5 1 (fun n => [I n]) l]) x.bO]] 0 0), (2, .op n2 5 0 0), (3, .op n3 5 0 0), (4, (I s.1))]) (fun s => (bK (bK (dD s.2.2.1 (.row 1 (OV.cells s.2.1)) s.2.2.2) n2 (.row 5 [[.v (.bC), .v (.int .i64 0), .v (.int .i64 0), .v (.bC), .v (.bC)]])) n3 (.row 5 [[.v (pK.val), .v (I x.b8), .v (I x.aX), .v (mQ.val), .v (gV 1 s.2.1.length s.2.2.2)]]))) (fun s => s.1 ≤ x.bO.length ∧ OR (oS (oP I) 1) (x.bO.take s.1) s.2.1 ∧ eM gc1 (OV.bP s.2.1) s.2.2.1 ∧ s.2.2.1 n2 = none ∧ s.2.2.1 n3 = none ∧ tE s.2.2.1 s.2.1 s.2.2.2 ∧ ∀ n : Nat, s.2.2.2 = some n → n ≠ n2 ∧ n ≠ n3) (fun s => x.bO.length - s.1) (0, [], gc1, none) ?_ ?_
  ·exact ⟨by simp [dA, cH], (by intro q_; simp only [a7, aK, aG, aW, aQ, cA, bY, cO, cP, aP, aT, OV.aS, List.nil_append, List.length_append, List.length_cons, List.length_nil, Nat.zero_add]; grind), Nat.zero_le _, trivial, eM.nil _, bT, cK, rfl, by simp⟩
  rintro ⟨k, es, g_, o_⟩ ⟨hkk, hor, hnew, bT, cK, hos, hon⟩
  simp only at hkk hor hnew bT cK hos hon ⊢
  have hlen : es.length = k := by have := hor.length; simp at this; omega
  rcases Nat.lt_or_ge k x.bO.length with hlt | hge
  ·have ea : x.bO[k]? = some x.bO[k] := List.getElem?_eq_getElem hlt
   have hx := kV x.bO[k] (by have := gG (fun x : List Int => x.length) (List.getElem_mem hlt); (try simp only at this); omega)
   cases o_ with
   |none =>
    rw [gW] at hos
    subst hos
    try simp -dsimp -implicitDefEqProofs only [go_sem, ↓reduceIte, Tryz.f46, aF, aC, a8, a9, ea, hlt, aK, aW, bA.flat, bA.one, bG.flat, bG.one]
    try (with_reducible intro _)
    refine aJ.tM (hx) bT ⟨dJ, cK⟩ ?_
    rintro r l_ gc ⟨aKF, vB, rfl, rfl⟩ wc bT cK
    try simp -dsimp -implicitDefEqProofs only [go_sem, ↓reduceIte, Tryz.f46, aF, aC, a8, a9, ea, hlt, aK, aW, bA.flat, bA.one, bG.flat, bG.one, vB.flat, vB.one, OV.aO, OV.aE, OV.aS]
    repeat' (with_reducible first | refine And.intro (by first | omega | decide | rfl | trivial | exact Nat.le_of_eq (cW _ _).symm | exact Nat.le_of_eq (cJ _).symm) ?_)
    intro m qm
    obtain ⟨rU, rV, rW, aEJ⟩ := eL (show ¬ m = n3 from qm.1)
    obtain ⟨l9, mA, mB, w7⟩ := eL (show ¬ m = n2 from qm.2.1)
    have z_m := qm.2.2
    try simp -dsimp -implicitDefEqProofs only [go_sem, ↓reduceIte, Tryz.f46, aF, aC, a8, a9, rV, rW, mA, mB, ea, hlt, aK, aW, bA.flat, bA.one, bG.flat, bG.one, vB.flat, vB.one, OV.aO, OV.aE, OV.aS]
    refine ⟨(k + 1, ([] : List (List OV)) ++ [[aKF]], gc, some m), ?_⟩
    simp only
    refine ⟨?_, (by intro q_; simp only [a7, aK, aG, aW, aQ, cA, bY, cO, cP, aP, aT, OV.aS, List.nil_append, List.length_append, List.length_cons, List.length_nil, Nat.zero_add]; grind), ⟨by omega, OR.snoc hor hlt ⟨aKF, rfl, vB⟩, hnew.snoc (by simpa only [OV.bL, OV.cF, List.append_nil] using wc), bT, cK, z_m, (fun n_ e_ => by obtain rfl := Option.some.inj e_; exact ⟨l9, rU⟩)⟩, by omega⟩
    all_goals (repeat' (with_reducible refine And.intro ?_ ?_))
    all_goals first | rfl | trivial | (rw [IntWalk.i64_in _ (by omega)]; omega)
   |some n =>
    rw [jD] at hos
    have z_n := hos
    have hn := hon n rfl
    obtain ⟨aMI, lD, lE, w8⟩ := eL (show ¬ n = n2 from hn.1)
    obtain ⟨aWY, rH, rI, aEK⟩ := eL (show ¬ n = n3 from hn.2)
    try simp -dsimp -implicitDefEqProofs only [go_sem, ↓reduceIte, Tryz.f46, aF, aC, a8, a9, lD, lE, rH, rI, ea, hlt, aG, aQ, bA.flat, bA.one, bG.flat, bG.one]
    try (with_reducible intro _)
    refine aJ.wn3 (hx) z_n ⟨w8, bT⟩ ⟨dJ, aEK, cK⟩ ?_
    rintro r l_ gc ⟨aKF, vB, rfl, rfl⟩ wc z_n bT cK
    try simp -dsimp -implicitDefEqProofs only [go_sem, ↓reduceIte, Tryz.f46, aF, aC, a8, a9, lD, lE, rH, rI, ea, hlt, aG, aQ, bA.flat, bA.one, bG.flat, bG.one, vB.flat, vB.one, OV.aO, OV.aE, OV.aS]
    repeat' (with_reducible first | refine And.intro (by first | omega | decide | rfl | trivial | exact Nat.le_of_eq (cW _ _).symm | exact Nat.le_of_eq (cJ _).symm) ?_)
    intro m qm
    obtain ⟨rU, rV, rW, aEJ⟩ := eL (show ¬ m = n3 from qm.1)
    obtain ⟨l9, mA, mB, w7⟩ := eL (show ¬ m = n2 from qm.2.1)
    obtain ⟨aYT, aF6, aF7, aYU⟩ := eL (show ¬ m = n from qm.2.2.1)
    have z_m := qm.2.2.2
    try simp -dsimp -implicitDefEqProofs only [go_sem, ↓reduceIte, Tryz.f46, aF, aC, a8, a9, lD, lE, rH, rI, rV, rW, mA, mB, aF6, aF7, ea, hlt, aG, aQ, bA.flat, bA.one, bG.flat, bG.one, vB.flat, vB.one, OV.aO, OV.aE, OV.aS]
    refine ⟨(k + 1, es ++ [[aKF]], gc, some m), ?_⟩
    simp only
    refine ⟨?_, (by intro q_; simp only [a7, aK, aG, aW, aQ, cA, bY, cO, cP, aP, aT, OV.aS, List.nil_append, List.length_append, List.length_cons, List.length_nil, Nat.zero_add]; grind), ⟨by omega, OR.snoc hor hlt ⟨aKF, rfl, vB⟩, hnew.snoc (by simpa only [OV.bL, OV.cF, List.append_nil] using wc), bT, cK, z_m, (fun n_ e_ => by obtain rfl := Option.some.inj e_; exact ⟨l9, rU⟩)⟩, by omega⟩
    all_goals (repeat' (with_reducible refine And.intro ?_ ?_))
    all_goals first | rfl | trivial | (rw [IntWalk.i64_in _ (by omega)]; omega)
  ·have hk2 : k = x.bO.length := by omega
   subst hk2
   rw [List.take_length] at hor
   have aMJ : dD g_ (.row 1 (OV.cells es)) o_ n2 = none := eK bT fun n_ e_ => (hon n_ e_).1
   have aWZ : dD g_ (.row 1 (OV.cells es)) o_ n3 = none := eK cK fun n_ e_ => (hon n_ e_).2
   try simp -dsimp -implicitDefEqProofs only [go_sem, ↓reduceIte, Tryz.f46, aF, aC, a8, a9, eY, fV, bA.flat, bA.one, bG.flat, bG.one, Nat.lt_irrefl]
   try (with_reducible intro _)
   refine ⟨_, (dD g_ (.row 1 (OV.cells es)) o_), _, Shift.of (Sub.agg (cD.cons (Sub.refl _) (cD.cons (Sub.refl _) (cD.cons (Sub.refl _) (cD.cons (Sub.refl _) (cD.cons pD cD.nil)))))) (by intro q_; simp only [a7, aK, aG, aW, aQ, cA, bY, cO, cP, aP, aT, OV.aS, List.nil_append, List.length_append, List.length_cons, List.length_nil, Nat.zero_add]; grind), ⟨[pK, .v (I x.b8), .v (I x.aX), mQ, (x8 1 es o_)], ?_, rfl, rfl⟩, ?_⟩
   ·exact ⟨pK, mQ, (x8 1 es o_), rfl, bA, bG, sX hor hos⟩
   ·have hq := (eM.append (eM.append wc0 wc1) (pE (sz := 1) hnew hos))
    simpa only [OV.bL, OV.cF, OV.c8, List.nil_append, List.append_nil, List.append_assoc] using hq
@[go_sem] def a13 : List Nat := [0, 1, 2, 3, 5, 20, 21, 22, 23]
@[go_sem] def bKU : List Nat := [1, 30]
@[go_sem] def bKV : Marks := fun id => match id with | 1 => ([2, 5, 8, 11, 13, 14], (.op 0 (.op 1 (.op 3 (.op 4 (.op 6 (.op 7 (.op 9 (.op 10 (.alt 2 (.alt 5 (.alt 8 (.alt 11 (.op 12 (.op 13 (.op 14 .nil))) 13 (.op 11 (.op 12 (.op 14 .nil)))) 13 (.op 8 (.op 11 (.op 12 (.op 14 .nil))))) 13 (.op 5 (.op 8 (.op 11 (.op 12 (.op 14 .nil)))))) 13 (.op 2 (.op 5 (.op 8 (.op 11 (.op 12 (.op 14 .nil))))))))))))))), []) | 5 => ([1, 2, 3, 5, 7], (.op 0 (.op 1 (.op 2 (.op 3 (.op 4 (.op 5 (.op 6 (.op 7 .nil)))))))), [(1, 3)]) | _ => ([], .nil, [])
set_option maxHeartbeats 1000000 in
theorem aOQ (x : aR) (hs : x.s ≤ 1048576) : pN Tryz.prog 26 [.agg x.c] (QA x.o) := by
 have hs' := x.fR
 have jX := x.bF.fR
 try simp only [eN] at hs'
 simp only [aR.aN]
 refine sV 35 a13 bKU bKV mix Tryz.func26 rfl (by kernel_rfl) (by simp) fun h => ?_
 try simp -dsimp -implicitDefEqProofs only [go_sem, ↓reduceIte, Tryz.f26, aF, aC]
 intro n2 qn2
 have bT := qn2
 try simp -dsimp -implicitDefEqProofs only [go_sem, ↓reduceIte, Tryz.f26, aF, aC]
 try (with_reducible refine And.intro Nat.zero_lt_one ?_)
 refine ⟨?_, ?_⟩
 rotate_left
 focus
  intro n3 sE
  obtain ⟨dJ, a8, a9, mV⟩ := eL (show ¬ n3 = n2 from sE.1)
  have cK := sE.2
  try simp -dsimp -implicitDefEqProofs only [go_sem, ↓reduceIte, Tryz.f26, aF, aC, a8, a9, OV.aO, OV.aE, OV.aS]
  refine aJ.tM ((aRS x.bF (by omega))) bT ⟨dJ, cK⟩ ?_
  rintro r l_ gc0 ⟨aUM, aDC, rfl, rfl⟩ wc0 bT cK
  have aDD := aDC
  obtain ⟨pK, zG, zH, rfl, bA, bV, bW⟩ := aDD
  try simp -dsimp -implicitDefEqProofs only [go_sem, ↓reduceIte, Tryz.f26, aF, aC, a8, a9, bA.flat, bA.one, bV.flat, bV.one, bW.flat, bW.one, OV.aO, OV.aE, OV.aS]
  refine aJ.tM (rS x.aY (by omega)) bT ⟨dJ, cK⟩ ?_
  rintro r l_ gc1 ⟨mQ, bG, rfl, rfl⟩ wc1 bT cK
  try simp -dsimp -implicitDefEqProofs only [go_sem, ↓reduceIte, Tryz.f26, aF, aC, a8, a9, bA.flat, bA.one, bV.flat, bV.one, bW.flat, bW.one, bG.flat, bG.one, OV.aO, OV.aE, OV.aS]
  refine aJ.tM (aON x.cB (by omega)) bT ⟨dJ, cK⟩ ?_
  rintro r l_ gc2 ⟨w9, dK, rfl, rfl⟩ wc2 bT cK
  try simp -dsimp -implicitDefEqProofs only [go_sem, ↓reduceIte, Tryz.f26, aF, aC, a8, a9, bA.flat, bA.one, bV.flat, bV.one, bW.flat, bW.one, bG.flat, bG.one, dK.flat, dK.one, OV.aO, OV.aE, OV.aS]
  refine aJ.tM (rS x.b9 (by omega)) bT ⟨dJ, cK⟩ ?_
  rintro r l_ gc3 ⟨oL, c7, rfl, rfl⟩ wc3 bT cK
  try simp -dsimp -implicitDefEqProofs only [go_sem, ↓reduceIte, Tryz.f26, aF, aC, a8, a9, bA.flat, bA.one, bV.flat, bV.one, bW.flat, bW.one, bG.flat, bG.one, dK.flat, dK.one, c7.flat, c7.one, OV.aO, OV.aE, OV.aS]
  repeat' (with_reducible first | refine And.intro (by first | omega | decide | rfl | trivial | exact Nat.le_of_eq (cW _ _).symm | exact Nat.le_of_eq (cJ _).symm) ?_)
  try (with_reducible intro _)
 rotate_right
 refine aJ.wn1 ((aRS x.bF (by omega))) bT ?_
 rintro r l_ gc0 ⟨aUM, aDC, rfl, rfl⟩ wc0 bT
 have aDD := aDC
 obtain ⟨pK, zG, zH, rfl, bA, bV, bW⟩ := aDD
 try simp -dsimp -implicitDefEqProofs only [go_sem, ↓reduceIte, Tryz.f26, aF, aC, bA.flat, bA.one, bV.flat, bV.one, bW.flat, bW.one, OV.aO, OV.aE, OV.aS]
 try (with_reducible refine And.intro Nat.zero_lt_one ?_)
 refine ⟨?_, ?_⟩
 rotate_left
 focus
  intro n3 sE
  obtain ⟨dJ, a8, a9, mV⟩ := eL (show ¬ n3 = n2 from sE.1)
  have cK := sE.2
  try simp -dsimp -implicitDefEqProofs only [go_sem, ↓reduceIte, Tryz.f26, aF, aC, a8, a9, bA.flat, bA.one, bV.flat, bV.one, bW.flat, bW.one, OV.aO, OV.aE, OV.aS]
  refine aJ.tM (rS x.aY (by omega)) bT ⟨dJ, cK⟩ ?_
  rintro r l_ gc1 ⟨mQ, bG, rfl, rfl⟩ wc1 bT cK
  try simp -dsimp -implicitDefEqProofs only [go_sem, ↓reduceIte, Tryz.f26, aF, aC, a8, a9, bA.flat, bA.one, bV.flat, bV.one, bW.flat, bW.one, bG.flat, bG.one, OV.aO, OV.aE, OV.aS]
  refine aJ.tM (aON x.cB (by omega)) bT ⟨dJ, cK⟩ ?_
  rintro r l_ gc2 ⟨w9, dK, rfl, rfl⟩ wc2 bT cK
  try simp -dsimp -implicitDefEqProofs only [go_sem, ↓reduceIte, Tryz.f26, aF, aC, a8, a9, bA.flat, bA.one, bV.flat, bV.one, bW.flat, bW.one, bG.flat, bG.one, dK.flat, dK.one, OV.aO, OV.aE, OV.aS]
  refine aJ.tM (rS x.b9 (by omega)) bT ⟨dJ, cK⟩ ?_
  rintro r l_ gc3 ⟨oL, c7, rfl, rfl⟩ wc3 bT cK
  try simp -dsimp -implicitDefEqProofs only [go_sem, ↓reduceIte, Tryz.f26, aF, aC, a8, a9, bA.flat, bA.one, bV.flat, bV.one, bW.flat, bW.one, bG.flat, bG.one, dK.flat, dK.one, c7.flat, c7.one, OV.aO, OV.aE, OV.aS]
  repeat' (with_reducible first | refine And.intro (by first | omega | decide | rfl | trivial | exact Nat.le_of_eq (cW _ _).symm | exact Nat.le_of_eq (cJ _).symm) ?_)
  try (with_reducible intro _)
 rotate_right
 refine aJ.wn1 (rS x.aY (by omega)) bT ?_
 rintro r l_ gc1 ⟨mQ, bG, rfl, rfl⟩ wc1 bT
 try simp -dsimp -implicitDefEqProofs only [go_sem, ↓reduceIte, Tryz.f26, aF, aC, bA.flat, bA.one, bV.flat, bV.one, bW.flat, bW.one, bG.flat, bG.one, OV.aO, OV.aE, OV.aS]
 try (with_reducible refine And.intro Nat.zero_lt_one ?_)
 refine ⟨?_, ?_⟩
 rotate_left
 focus
  intro n3 sE
  obtain ⟨dJ, a8, a9, mV⟩ := eL (show ¬ n3 = n2 from sE.1)
  have cK := sE.2
  try simp -dsimp -implicitDefEqProofs only [go_sem, ↓reduceIte, Tryz.f26, aF, aC, a8, a9, bA.flat, bA.one, bV.flat, bV.one, bW.flat, bW.one, bG.flat, bG.one, OV.aO, OV.aE, OV.aS]
  refine aJ.tM (aON x.cB (by omega)) bT ⟨dJ, cK⟩ ?_
  rintro r l_ gc2 ⟨w9, dK, rfl, rfl⟩ wc2 bT cK
  try simp -dsimp -implicitDefEqProofs only [go_sem, ↓reduceIte, Tryz.f26, aF, aC, a8, a9, bA.flat, bA.one, bV.flat, bV.one, bW.flat, bW.one, bG.flat, bG.one, dK.flat, dK.one, OV.aO, OV.aE, OV.aS]
  refine aJ.tM (rS x.b9 (by omega)) bT ⟨dJ, cK⟩ ?_
  rintro r l_ gc3 ⟨oL, c7, rfl, rfl⟩ wc3 bT cK
  try simp -dsimp -implicitDefEqProofs only [go_sem, ↓reduceIte, Tryz.f26, aF, aC, a8, a9, bA.flat, bA.one, bV.flat, bV.one, bW.flat, bW.one, bG.flat, bG.one, dK.flat, dK.one, c7.flat, c7.one, OV.aO, OV.aE, OV.aS]
  repeat' (with_reducible first | refine And.intro (by first | omega | decide | rfl | trivial | exact Nat.le_of_eq (cW _ _).symm | exact Nat.le_of_eq (cJ _).symm) ?_)
  try (with_reducible intro _)
 rotate_right
 refine aJ.wn1 (aON x.cB (by omega)) bT ?_
 rintro r l_ gc2 ⟨w9, dK, rfl, rfl⟩ wc2 bT
 try simp -dsimp -implicitDefEqProofs only [go_sem, ↓reduceIte, Tryz.f26, aF, aC, bA.flat, bA.one, bV.flat, bV.one, bW.flat, bW.one, bG.flat, bG.one, dK.flat, dK.one, OV.aO, OV.aE, OV.aS]
 try (with_reducible refine And.intro Nat.zero_lt_one ?_)
 refine ⟨?_, ?_⟩
 rotate_left
 focus
  intro n3 sE
  obtain ⟨dJ, a8, a9, mV⟩ := eL (show ¬ n3 = n2 from sE.1)
  have cK := sE.2
  try simp -dsimp -implicitDefEqProofs only [go_sem, ↓reduceIte, Tryz.f26, aF, aC, a8, a9, bA.flat, bA.one, bV.flat, bV.one, bW.flat, bW.one, bG.flat, bG.one, dK.flat, dK.one, OV.aO, OV.aE, OV.aS]
  refine aJ.tM (rS x.b9 (by omega)) bT ⟨dJ, cK⟩ ?_
  rintro r l_ gc3 ⟨oL, c7, rfl, rfl⟩ wc3 bT cK
  try simp -dsimp -implicitDefEqProofs only [go_sem, ↓reduceIte, Tryz.f26, aF, aC, a8, a9, bA.flat, bA.one, bV.flat, bV.one, bW.flat, bW.one, bG.flat, bG.one, dK.flat, dK.one, c7.flat, c7.one, OV.aO, OV.aE, OV.aS]
  repeat' (with_reducible first | refine And.intro (by first | omega | decide | rfl | trivial | exact Nat.le_of_eq (cW _ _).symm | exact Nat.le_of_eq (cJ _).symm) ?_)
  try (with_reducible intro _)
 rotate_right
 refine aJ.wn1 (rS x.b9 (by omega)) bT ?_
 rintro r l_ gc3 ⟨oL, c7, rfl, rfl⟩ wc3 bT
 try simp -dsimp -implicitDefEqProofs only [go_sem, ↓reduceIte, Tryz.f26, aF, aC, bA.flat, bA.one, bV.flat, bV.one, bW.flat, bW.one, bG.flat, bG.one, dK.flat, dK.one, c7.flat, c7.one, OV.aO, OV.aE, OV.aS]
 repeat' (with_reducible first | refine And.intro (by first | omega | decide | rfl | trivial | exact Nat.le_of_eq (cW _ _).symm | exact Nat.le_of_eq (cJ _).symm) ?_)
 intro n3 sE
 obtain ⟨dJ, a8, a9, mV⟩ := eL (show ¬ n3 = n2 from sE.1)
 have cK := sE.2
 try simp -dsimp -implicitDefEqProofs only [go_sem, ↓reduceIte, Tryz.f26, aF, aC, a8, a9, bA.flat, bA.one, bV.flat, bV.one, bW.flat, bW.one, bG.flat, bG.one, dK.flat, dK.one, c7.flat, c7.one, OV.aO, OV.aE, OV.aS]
 try (with_reducible intro _)
 all_goals
  refine cS (keep := a13) (ib := bKU) (mk := bKV) mix (by kernel_rfl) (fun s : Nat × List (List OV) × aB × Option Nat => [(2, .op n2 9 0 0), (3, .op n3 9 0 0), (20, c5 3 bI.c x.b7), (21, I x.b7.length), (22, (I s.1))]) (fun s => (bK (bK (dD s.2.2.1 (.row 3 (OV.cells s.2.1)) s.2.2.2) n2 (.row 9 [[.v (.bC), .v (.int .i64 0), .v (.int .i64 0), .v (.bC), .v (.bC), .v (.bC), .v (.bC), .v (.bC), .v (.bC)]])) n3 (.row 9 [[.v (pK.val), .v (.int .i64 x.bF.b8), .v (.int .i64 x.bF.aX), .v (zG.val), .v (zH.val), .v (mQ.val), .v (w9.val), .v (gV 3 s.2.1.length s.2.2.2), .v (oL.val)]]))) (fun s => s.1 ≤ x.b7.length ∧ OR bI.o (x.b7.take s.1) s.2.1 ∧ eM gc3 (OV.bP s.2.1) s.2.2.1 ∧ s.2.2.1 n2 = none ∧ s.2.2.1 n3 = none ∧ tE s.2.2.1 s.2.1 s.2.2.2 ∧ ∀ n : Nat, s.2.2.2 = some n → n ≠ n2 ∧ n ≠ n3) (fun s => x.b7.length - s.1) (0, [], gc3, none) ?_ ?_
  ·exact ⟨by simp [dA, cH], (by intro q_; simp only [a7, aK, aG, aW, aQ, cA, bY, cO, cP, aP, aT, OV.aS, List.nil_append, List.length_append, List.length_cons, List.length_nil, Nat.zero_add]; grind), Nat.zero_le _, trivial, eM.nil _, bT, cK, rfl, by simp⟩
  rintro ⟨k, es, g_, o_⟩ ⟨hkk, hor, hnew, bT, cK, hos, hon⟩
  simp only at hkk hor hnew bT cK hos hon ⊢
  have hlen : es.length = k := by have := hor.length; simp at this; omega
  rcases Nat.lt_or_ge k x.b7.length with hlt | hge
  ·have ea : x.b7[k]? = some x.b7[k] := List.getElem?_eq_getElem hlt
   have hx := aYV x.b7[k] (by have := gG bI.s (List.getElem_mem hlt); omega)
   simp only [bI.aN] at hx
   cases o_ with
   |none =>
    rw [gW] at hos
    subst hos
    try simp -dsimp -implicitDefEqProofs only [go_sem, ↓reduceIte, Tryz.f26, aF, aC, a8, a9, ea, hlt, aK, aW, bA.flat, bA.one, bV.flat, bV.one, bW.flat, bW.one, bG.flat, bG.one, dK.flat, dK.one, c7.flat, c7.one, bI.aN]
    intro n5 qn5
    obtain ⟨qC, eD, eE, aJ6⟩ := eL (show ¬ n5 = n3 from qn5.1)
    obtain ⟨mU, dP, dQ, aCB⟩ := eL (show ¬ n5 = n2 from qn5.2.1)
    have iO := qn5.2.2
    try simp -dsimp -implicitDefEqProofs only [go_sem, ↓reduceIte, Tryz.f26, aF, aC, a8, a9, eD, eE, dP, dQ, ea, hlt, aK, aW, bA.flat, bA.one, bV.flat, bV.one, bW.flat, bW.one, bG.flat, bG.one, dK.flat, dK.one, c7.flat, c7.one, bI.aN]
    refine aJ.wn3 (hx) bT ⟨dJ, cK⟩ ⟨qC, mU, iO⟩ ?_
    rintro r l_ gb ⟨e_b, oeb, rfl, rfl⟩ wb bT cK iO
    have oob := oeb
    obtain ⟨aKG, rfl, rX⟩ := oob
    try simp -dsimp -implicitDefEqProofs only [go_sem, ↓reduceIte, Tryz.f26, aF, aC, a8, a9, eD, eE, dP, dQ, ea, hlt, aK, aW, bA.flat, bA.one, bV.flat, bV.one, bW.flat, bW.one, bG.flat, bG.one, dK.flat, dK.one, c7.flat, c7.one, rX.flat, rX.one, OV.aO, OV.aE, OV.aS, bI.aN]
    repeat' (with_reducible first | refine And.intro (by first | omega | decide | rfl | trivial | exact Nat.le_of_eq (cW _ _).symm | exact Nat.le_of_eq (cJ _).symm) ?_)
    intro m qm
    obtain ⟨a1U, aJY, aJZ, a1V⟩ := eL (show ¬ m = n5 from qm.1)
    obtain ⟨rU, rV, rW, aEJ⟩ := eL (show ¬ m = n3 from qm.2.1)
    obtain ⟨l9, mA, mB, w7⟩ := eL (show ¬ m = n2 from qm.2.2.1)
    have z_m := qm.2.2.2
    try simp -dsimp -implicitDefEqProofs only [go_sem, ↓reduceIte, Tryz.f26, aF, aC, a8, a9, eD, eE, dP, dQ, aJY, aJZ, rV, rW, mA, mB, ea, hlt, aK, aW, bA.flat, bA.one, bV.flat, bV.one, bW.flat, bW.one, bG.flat, bG.one, dK.flat, dK.one, c7.flat, c7.one, rX.flat, rX.one, OV.aO, OV.aE, OV.aS]
    refine ⟨(k + 1, ([] : List (List OV)) ++ [[.v (.int .i64 x.b7[k].cM), .v (.int .i64 x.b7[k].gB), aKG]], gb, some m), ?_⟩
    simp only
    refine ⟨?_, (by intro q_; simp only [a7, aK, aG, aW, aQ, cA, bY, cO, cP, aP, aT, OV.aS, List.nil_append, List.length_append, List.length_cons, List.length_nil, Nat.zero_add]; grind), ⟨by omega, OR.snoc hor hlt oeb, hnew.snoc wb, bT, cK, z_m, (fun n_ e_ => by obtain rfl := Option.some.inj e_; exact ⟨l9, rU⟩)⟩, by omega⟩
    all_goals (repeat' (with_reducible refine And.intro ?_ ?_))
    all_goals first | rfl | trivial | (rw [IntWalk.i64_in _ (by omega)]; omega)
   |some n =>
    rw [jD] at hos
    have z_n := hos
    have hn := hon n rfl
    obtain ⟨aMI, lD, lE, w8⟩ := eL (show ¬ n = n2 from hn.1)
    obtain ⟨aWY, rH, rI, aEK⟩ := eL (show ¬ n = n3 from hn.2)
    try simp -dsimp -implicitDefEqProofs only [go_sem, ↓reduceIte, Tryz.f26, aF, aC, a8, a9, lD, lE, rH, rI, ea, hlt, aG, aQ, bA.flat, bA.one, bV.flat, bV.one, bW.flat, bW.one, bG.flat, bG.one, dK.flat, dK.one, c7.flat, c7.one, bI.aN]
    intro n5 qn5
    obtain ⟨qC, eD, eE, aJ6⟩ := eL (show ¬ n5 = n3 from qn5.1)
    obtain ⟨mU, dP, dQ, aCB⟩ := eL (show ¬ n5 = n2 from qn5.2.1)
    obtain ⟨a1Y, aJ3, aJ4, bKO⟩ := eL (show ¬ n5 = n from qn5.2.2.1)
    have iO := qn5.2.2.2
    try simp -dsimp -implicitDefEqProofs only [go_sem, ↓reduceIte, Tryz.f26, aF, aC, a8, a9, lD, lE, rH, rI, eD, eE, dP, dQ, aJ3, aJ4, ea, hlt, aG, aQ, bA.flat, bA.one, bV.flat, bV.one, bW.flat, bW.one, bG.flat, bG.one, dK.flat, dK.one, c7.flat, c7.one, bI.aN]
    refine aJ.wn4 (hx) z_n ⟨w8, bT⟩ ⟨dJ, aEK, cK⟩ ⟨qC, mU, a1Y, iO⟩ ?_
    rintro r l_ gb ⟨e_b, oeb, rfl, rfl⟩ wb z_n bT cK iO
    have oob := oeb
    obtain ⟨aKG, rfl, rX⟩ := oob
    try simp -dsimp -implicitDefEqProofs only [go_sem, ↓reduceIte, Tryz.f26, aF, aC, a8, a9, lD, lE, rH, rI, eD, eE, dP, dQ, aJ3, aJ4, ea, hlt, aG, aQ, bA.flat, bA.one, bV.flat, bV.one, bW.flat, bW.one, bG.flat, bG.one, dK.flat, dK.one, c7.flat, c7.one, rX.flat, rX.one, OV.aO, OV.aE, OV.aS, bI.aN]
    repeat' (with_reducible first | refine And.intro (by first | omega | decide | rfl | trivial | exact Nat.le_of_eq (cW _ _).symm | exact Nat.le_of_eq (cJ _).symm) ?_)
    intro m qm
    obtain ⟨a1U, aJY, aJZ, a1V⟩ := eL (show ¬ m = n5 from qm.1)
    obtain ⟨rU, rV, rW, aEJ⟩ := eL (show ¬ m = n3 from qm.2.1)
    obtain ⟨l9, mA, mB, w7⟩ := eL (show ¬ m = n2 from qm.2.2.1)
    obtain ⟨aYT, aF6, aF7, aYU⟩ := eL (show ¬ m = n from qm.2.2.2.1)
    have z_m := qm.2.2.2.2
    try simp -dsimp -implicitDefEqProofs only [go_sem, ↓reduceIte, Tryz.f26, aF, aC, a8, a9, lD, lE, rH, rI, eD, eE, dP, dQ, aJ3, aJ4, aJY, aJZ, rV, rW, mA, mB, aF6, aF7, ea, hlt, aG, aQ, bA.flat, bA.one, bV.flat, bV.one, bW.flat, bW.one, bG.flat, bG.one, dK.flat, dK.one, c7.flat, c7.one, rX.flat, rX.one, OV.aO, OV.aE, OV.aS]
    refine ⟨(k + 1, es ++ [[.v (.int .i64 x.b7[k].cM), .v (.int .i64 x.b7[k].gB), aKG]], gb, some m), ?_⟩
    simp only
    refine ⟨?_, (by intro q_; simp only [a7, aK, aG, aW, aQ, cA, bY, cO, cP, aP, aT, OV.aS, List.nil_append, List.length_append, List.length_cons, List.length_nil, Nat.zero_add]; grind), ⟨by omega, OR.snoc hor hlt oeb, hnew.snoc wb, bT, cK, z_m, (fun n_ e_ => by obtain rfl := Option.some.inj e_; exact ⟨l9, rU⟩)⟩, by omega⟩
    all_goals (repeat' (with_reducible refine And.intro ?_ ?_))
    all_goals first | rfl | trivial | (rw [IntWalk.i64_in _ (by omega)]; omega)
  ·have hk2 : k = x.b7.length := by omega
   subst hk2
   rw [List.take_length] at hor
   have aMJ : dD g_ (.row 3 (OV.cells es)) o_ n2 = none := eK bT fun n_ e_ => (hon n_ e_).1
   have aWZ : dD g_ (.row 3 (OV.cells es)) o_ n3 = none := eK cK fun n_ e_ => (hon n_ e_).2
   try simp -dsimp -implicitDefEqProofs only [go_sem, ↓reduceIte, Tryz.f26, aF, aC, a8, a9, eY, fV, bA.flat, bA.one, bV.flat, bV.one, bW.flat, bW.one, bG.flat, bG.one, dK.flat, dK.one, c7.flat, c7.one, Nat.lt_irrefl]
   try (with_reducible intro _)
   refine ⟨_, (dD g_ (.row 3 (OV.cells es)) o_), _, Shift.of (Sub.agg (cD.cons (Sub.refl _) (cD.cons (Sub.refl _) (cD.cons (Sub.refl _) (cD.cons (Sub.refl _) (cD.cons (Sub.refl _) (cD.cons (Sub.refl _) (cD.cons (Sub.refl _) (cD.cons pD (cD.cons (Sub.refl _) cD.nil)))))))))) (by intro q_; simp only [a7, aK, aG, aW, aQ, cA, bY, cO, cP, aP, aT, OV.aS, List.nil_append, List.length_append, List.length_cons, List.length_nil, Nat.zero_add]; grind), ⟨[pK, .v (.int .i64 x.bF.b8), .v (.int .i64 x.bF.aX), zG, zH, mQ, w9, (x8 3 es o_), oL], ?_, rfl, rfl⟩, ?_⟩
   ·exact ⟨pK, zG, zH, mQ, w9, (x8 3 es o_), oL, rfl, bA, bV, bW, bG, dK, sX hor hos, c7⟩
   ·have hq := (eM.append (eM.append (eM.append (eM.append wc0 wc1) wc2) wc3) (pE (sz := 3) hnew hos))
    refine eM.perm (a := _) hq ?_
    simp only [OV.bL, OV.cF, OV.c8, OV.lY, List.nil_append, List.append_nil, List.append_assoc]
    first | exact List.Perm.refl _ | (simp only [← List.append_assoc]; exact aF3 _ _ _) | (simp only [← List.append_assoc]; exact aKH _ _)
end Go.Hl

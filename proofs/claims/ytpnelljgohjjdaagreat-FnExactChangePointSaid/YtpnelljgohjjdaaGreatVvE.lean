/-
  Contracts of functions and laws of the layer over the walk.
-/
import Derived.Test.YtpnelljgohjjdaaGreatVvD
import Derived.Test.YtpnelljgohjjdaaGreatHlD
import Derived.Test.YtpnelljgohjjdaaGreatVvC
namespace Go.Hl
set_option maxRecDepth 100000
open Go.Proofs
set_option linter.unusedVariables false
set_option linter.unusedSimpArgs false
@[go_sem] def aUP : List Nat := [0, 2, 3, 4, 32]
@[go_sem] def bD6 : List Nat := [14, 45]
@[go_sem] def bD7 : Marks := fun id => match id with | 1 => ([3, 8, 14, 19, 21, 22], (.op 0 (.op 1 (.op 2 (.op 4 (.op 5 (.op 6 (.op 7 (.op 9 (.op 10 (.op 11 (.op 12 (.op 13 (.op 15 (.op 16 (.op 17 (.op 18 (.alt 3 (.alt 8 (.alt 14 (.alt 19 (.op 20 (.op 21 (.op 22 .nil))) 21 (.op 19 (.op 20 (.op 22 .nil)))) 21 (.op 14 (.op 19 (.op 20 (.op 22 .nil))))) 21 (.op 8 (.op 14 (.op 19 (.op 20 (.op 22 .nil)))))) 21 (.op 3 (.op 8 (.op 14 (.op 19 (.op 20 (.op 22 .nil))))))))))))))))))))))), []) | 5 => ([1, 9, 11, 13], (.op 0 (.op 2 (.op 3 (.op 4 (.op 5 (.op 6 (.op 7 (.op 8 (.op 1 (.op 9 (.op 10 (.op 11 (.op 12 (.op 13 .nil)))))))))))))), [(1, 9)]) | _ => ([], .nil, [])
set_option maxHeartbeats 1000000 in
theorem aLV (x : aR) (hs : x.s ≤ 1048576) : pN Tryz.prog 19 [.ip 9 [x.c] 0 0] (QA x.o) := by
 have hs' := x.fR
 have jX := x.bF.fR
 try simp only [eN] at hs'
 simp only [aR.aN]
 refine sV 49 aUP bD6 bD7 mix Tryz.func19 rfl (by kernel_rfl) (by simp) fun h => ?_
 try simp -dsimp -implicitDefEqProofs only [go_sem, ↓reduceIte, Tryz.f19, aF, aC]
 intro n2 qn2
 have bT := qn2
 try simp -dsimp -implicitDefEqProofs only [go_sem, ↓reduceIte, Tryz.f19, aF, aC]
 try (with_reducible refine And.intro Nat.zero_lt_one ?_)
 refine ⟨?_, ?_⟩
 rotate_left
 focus
  intro n3 sE
  obtain ⟨dJ, a8, a9, mV⟩ := eL (show ¬ n3 = n2 from sE.1)
  have cK := sE.2
  try simp -dsimp -implicitDefEqProofs only [go_sem, ↓reduceIte, Tryz.f19, aF, aC, a8, a9, OV.aO, OV.aE, OV.aS]
  refine aJ.tM (pN.sub (by repeat' (first | exact cD.nil | refine cD.cons ?_ ?_ | exact Sub.refl _ | (rw [aA.aN]; exact Sub.refl _) | exact Sub.dM rfl rfl rfl | exact Sub.ip (bS (by omega)) (by simp) | exact Sub.dM (bS (by omega)) rfl rfl | exact Sub.ip (by simp [*]) (by simp) | exact Sub.dM (by simp [*]) (by rfl) (by rfl))) (aMK x.bF (by omega))) bT ⟨dJ, cK⟩ ?_
  rintro r l_ gc0 ⟨aUM, aDC, rfl, rfl⟩ wc0 bT cK
  have aDD := aDC
  obtain ⟨pK, zG, zH, rfl, bA, bV, bW⟩ := aDD
  try simp -dsimp -implicitDefEqProofs only [go_sem, ↓reduceIte, Tryz.f19, aF, aC, a8, a9, bA.flat, bA.one, bV.flat, bV.one, bW.flat, bW.one, OV.aO, OV.aE, OV.aS]
  refine aJ.tM (kV x.aY (by omega)) bT ⟨dJ, cK⟩ ?_
  rintro r l_ gc1 ⟨mQ, bG, rfl, rfl⟩ wc1 bT cK
  try simp -dsimp -implicitDefEqProofs only [go_sem, ↓reduceIte, Tryz.f19, aF, aC, a8, a9, bA.flat, bA.one, bV.flat, bV.one, bW.flat, bW.one, bG.flat, bG.one, OV.aO, OV.aE, OV.aS]
  try (with_reducible refine And.intro Nat.zero_lt_one ?_)
  refine ⟨fun a14 => ?_, fun bD8 => ?_⟩
  rotate_left
  focus
   repeat' (with_reducible first | refine And.intro (by first | omega | decide | rfl | trivial | exact Nat.le_of_eq (cW _ _).symm | exact Nat.le_of_eq (cJ _).symm) ?_)
   intro mc2 aEL
   obtain ⟨aW0, aW1, aW2, v7⟩ := eL (show ¬ mc2 = n3 from aEL.1)
   obtain ⟨aOR, aOS, aOT, rY⟩ := eL (show ¬ mc2 = n2 from aEL.2.1)
   have aKI := aEL.2.2
   simp only [u3 rY, u3 v7]
   obtain ⟨w9, gc2, dK, vc2, wc2, aDE⟩ := aHX aD.bool (l := x.cB) (sz := 1) aKI
   simp only [← aDE, ← vc2]
   have bT : gc2 n2 = none := by rw [aDE, aC _ _ _ _ rY]; exact bT
   have cK : gc2 n3 = none := by rw [aDE, aC _ _ _ _ v7]; exact cK
   try simp -dsimp -implicitDefEqProofs only [go_sem, ↓reduceIte, Tryz.f19, aF, aC, a8, a9, bA.flat, bA.one, bV.flat, bV.one, bW.flat, bW.one, bG.flat, bG.one, dK.flat, dK.one, OV.aO, OV.aE, OV.aS]
   refine aJ.tM (kV x.b9 (by omega)) bT ⟨dJ, cK⟩ ?_
   rintro r l_ gc3 ⟨oL, c7, rfl, rfl⟩ wc3 bT cK
   try simp -dsimp -implicitDefEqProofs only [go_sem, ↓reduceIte, Tryz.f19, aF, aC, a8, a9, bA.flat, bA.one, bV.flat, bV.one, bW.flat, bW.one, bG.flat, bG.one, dK.flat, dK.one, c7.flat, c7.one, OV.aO, OV.aE, OV.aS]
   repeat' (with_reducible first | refine And.intro (by first | omega | decide | rfl | trivial | exact Nat.le_of_eq (cW _ _).symm | exact Nat.le_of_eq (cJ _).symm) ?_)
   try (with_reducible intro _)
  rotate_right
  try simp -dsimp -implicitDefEqProofs only [go_sem, ↓reduceIte, Tryz.f19, aF, aC, a8, a9, bA.flat, bA.one, bV.flat, bV.one, bW.flat, bW.one, bG.flat, bG.one, OV.aO, OV.aE, OV.aS]
  refine aJ.tM (kV x.b9 (by omega)) bT ⟨dJ, cK⟩ ?_
  rintro r l_ gc3 ⟨oL, c7, rfl, rfl⟩ wc3 bT cK
  try simp -dsimp -implicitDefEqProofs only [go_sem, ↓reduceIte, Tryz.f19, aF, aC, a8, a9, bA.flat, bA.one, bV.flat, bV.one, bW.flat, bW.one, bG.flat, bG.one, c7.flat, c7.one, OV.aO, OV.aE, OV.aS]
  repeat' (with_reducible first | refine And.intro (by first | omega | decide | rfl | trivial | exact Nat.le_of_eq (cW _ _).symm | exact Nat.le_of_eq (cJ _).symm) ?_)
  try (with_reducible intro _)
 rotate_right
 refine aJ.wn1 (pN.sub (by repeat' (first | exact cD.nil | refine cD.cons ?_ ?_ | exact Sub.refl _ | (rw [aA.aN]; exact Sub.refl _) | exact Sub.dM rfl rfl rfl | exact Sub.ip (bS (by omega)) (by simp) | exact Sub.dM (bS (by omega)) rfl rfl | exact Sub.ip (by simp [*]) (by simp) | exact Sub.dM (by simp [*]) (by rfl) (by rfl))) (aMK x.bF (by omega))) bT ?_
 rintro r l_ gc0 ⟨aUM, aDC, rfl, rfl⟩ wc0 bT
 have aDD := aDC
 obtain ⟨pK, zG, zH, rfl, bA, bV, bW⟩ := aDD
 try simp -dsimp -implicitDefEqProofs only [go_sem, ↓reduceIte, Tryz.f19, aF, aC, bA.flat, bA.one, bV.flat, bV.one, bW.flat, bW.one, OV.aO, OV.aE, OV.aS]
 try (with_reducible refine And.intro Nat.zero_lt_one ?_)
 refine ⟨?_, ?_⟩
 rotate_left
 focus
  intro n3 sE
  obtain ⟨dJ, a8, a9, mV⟩ := eL (show ¬ n3 = n2 from sE.1)
  have cK := sE.2
  try simp -dsimp -implicitDefEqProofs only [go_sem, ↓reduceIte, Tryz.f19, aF, aC, a8, a9, bA.flat, bA.one, bV.flat, bV.one, bW.flat, bW.one, OV.aO, OV.aE, OV.aS]
  refine aJ.tM (kV x.aY (by omega)) bT ⟨dJ, cK⟩ ?_
  rintro r l_ gc1 ⟨mQ, bG, rfl, rfl⟩ wc1 bT cK
  try simp -dsimp -implicitDefEqProofs only [go_sem, ↓reduceIte, Tryz.f19, aF, aC, a8, a9, bA.flat, bA.one, bV.flat, bV.one, bW.flat, bW.one, bG.flat, bG.one, OV.aO, OV.aE, OV.aS]
  try (with_reducible refine And.intro Nat.zero_lt_one ?_)
  refine ⟨fun a14 => ?_, fun bD8 => ?_⟩
  rotate_left
  focus
   repeat' (with_reducible first | refine And.intro (by first | omega | decide | rfl | trivial | exact Nat.le_of_eq (cW _ _).symm | exact Nat.le_of_eq (cJ _).symm) ?_)
   intro mc2 aEL
   obtain ⟨aW0, aW1, aW2, v7⟩ := eL (show ¬ mc2 = n3 from aEL.1)
   obtain ⟨aOR, aOS, aOT, rY⟩ := eL (show ¬ mc2 = n2 from aEL.2.1)
   have aKI := aEL.2.2
   simp only [u3 rY, u3 v7]
   obtain ⟨w9, gc2, dK, vc2, wc2, aDE⟩ := aHX aD.bool (l := x.cB) (sz := 1) aKI
   simp only [← aDE, ← vc2]
   have bT : gc2 n2 = none := by rw [aDE, aC _ _ _ _ rY]; exact bT
   have cK : gc2 n3 = none := by rw [aDE, aC _ _ _ _ v7]; exact cK
   try simp -dsimp -implicitDefEqProofs only [go_sem, ↓reduceIte, Tryz.f19, aF, aC, a8, a9, bA.flat, bA.one, bV.flat, bV.one, bW.flat, bW.one, bG.flat, bG.one, dK.flat, dK.one, OV.aO, OV.aE, OV.aS]
   refine aJ.tM (kV x.b9 (by omega)) bT ⟨dJ, cK⟩ ?_
   rintro r l_ gc3 ⟨oL, c7, rfl, rfl⟩ wc3 bT cK
   try simp -dsimp -implicitDefEqProofs only [go_sem, ↓reduceIte, Tryz.f19, aF, aC, a8, a9, bA.flat, bA.one, bV.flat, bV.one, bW.flat, bW.one, bG.flat, bG.one, dK.flat, dK.one, c7.flat, c7.one, OV.aO, OV.aE, OV.aS]
   repeat' (with_reducible first | refine And.intro (by first | omega | decide | rfl | trivial | exact Nat.le_of_eq (cW _ _).symm | exact Nat.le_of_eq (cJ _).symm) ?_)
   try (with_reducible intro _)
  rotate_right
  try simp -dsimp -implicitDefEqProofs only [go_sem, ↓reduceIte, Tryz.f19, aF, aC, a8, a9, bA.flat, bA.one, bV.flat, bV.one, bW.flat, bW.one, bG.flat, bG.one, OV.aO, OV.aE, OV.aS]
  refine aJ.tM (kV x.b9 (by omega)) bT ⟨dJ, cK⟩ ?_
  rintro r l_ gc3 ⟨oL, c7, rfl, rfl⟩ wc3 bT cK
  try simp -dsimp -implicitDefEqProofs only [go_sem, ↓reduceIte, Tryz.f19, aF, aC, a8, a9, bA.flat, bA.one, bV.flat, bV.one, bW.flat, bW.one, bG.flat, bG.one, c7.flat, c7.one, OV.aO, OV.aE, OV.aS]
  repeat' (with_reducible first | refine And.intro (by first | omega | decide | rfl | trivial | exact Nat.le_of_eq (cW _ _).symm | exact Nat.le_of_eq (cJ _).symm) ?_)
  try (with_reducible intro _)
 rotate_right
 refine aJ.wn1 (kV x.aY (by omega)) bT ?_
 rintro r l_ gc1 ⟨mQ, bG, rfl, rfl⟩ wc1 bT
 try simp -dsimp -implicitDefEqProofs only [go_sem, ↓reduceIte, Tryz.f19, aF, aC, bA.flat, bA.one, bV.flat, bV.one, bW.flat, bW.one, bG.flat, bG.one, OV.aO, OV.aE, OV.aS]
 try (with_reducible refine And.intro Nat.zero_lt_one ?_)
 refine ⟨?_, ?_⟩
 rotate_left
 focus
  intro n3 sE
  obtain ⟨dJ, a8, a9, mV⟩ := eL (show ¬ n3 = n2 from sE.1)
  have cK := sE.2
  try simp -dsimp -implicitDefEqProofs only [go_sem, ↓reduceIte, Tryz.f19, aF, aC, a8, a9, bA.flat, bA.one, bV.flat, bV.one, bW.flat, bW.one, bG.flat, bG.one, OV.aO, OV.aE, OV.aS]
  try (with_reducible refine And.intro Nat.zero_lt_one ?_)
  refine ⟨fun a14 => ?_, fun bD8 => ?_⟩
  rotate_left
  focus
   repeat' (with_reducible first | refine And.intro (by first | omega | decide | rfl | trivial | exact Nat.le_of_eq (cW _ _).symm | exact Nat.le_of_eq (cJ _).symm) ?_)
   intro mc2 aEL
   obtain ⟨aW0, aW1, aW2, v7⟩ := eL (show ¬ mc2 = n3 from aEL.1)
   obtain ⟨aOR, aOS, aOT, rY⟩ := eL (show ¬ mc2 = n2 from aEL.2.1)
   have aKI := aEL.2.2
   simp only [u3 rY, u3 v7]
   obtain ⟨w9, gc2, dK, vc2, wc2, aDE⟩ := aHX aD.bool (l := x.cB) (sz := 1) aKI
   simp only [← aDE, ← vc2]
   have bT : gc2 n2 = none := by rw [aDE, aC _ _ _ _ rY]; exact bT
   have cK : gc2 n3 = none := by rw [aDE, aC _ _ _ _ v7]; exact cK
   try simp -dsimp -implicitDefEqProofs only [go_sem, ↓reduceIte, Tryz.f19, aF, aC, a8, a9, bA.flat, bA.one, bV.flat, bV.one, bW.flat, bW.one, bG.flat, bG.one, dK.flat, dK.one, OV.aO, OV.aE, OV.aS]
   refine aJ.tM (kV x.b9 (by omega)) bT ⟨dJ, cK⟩ ?_
   rintro r l_ gc3 ⟨oL, c7, rfl, rfl⟩ wc3 bT cK
   try simp -dsimp -implicitDefEqProofs only [go_sem, ↓reduceIte, Tryz.f19, aF, aC, a8, a9, bA.flat, bA.one, bV.flat, bV.one, bW.flat, bW.one, bG.flat, bG.one, dK.flat, dK.one, c7.flat, c7.one, OV.aO, OV.aE, OV.aS]
   repeat' (with_reducible first | refine And.intro (by first | omega | decide | rfl | trivial | exact Nat.le_of_eq (cW _ _).symm | exact Nat.le_of_eq (cJ _).symm) ?_)
   try (with_reducible intro _)
  rotate_right
  try simp -dsimp -implicitDefEqProofs only [go_sem, ↓reduceIte, Tryz.f19, aF, aC, a8, a9, bA.flat, bA.one, bV.flat, bV.one, bW.flat, bW.one, bG.flat, bG.one, OV.aO, OV.aE, OV.aS]
  refine aJ.tM (kV x.b9 (by omega)) bT ⟨dJ, cK⟩ ?_
  rintro r l_ gc3 ⟨oL, c7, rfl, rfl⟩ wc3 bT cK
  try simp -dsimp -implicitDefEqProofs only [go_sem, ↓reduceIte, Tryz.f19, aF, aC, a8, a9, bA.flat, bA.one, bV.flat, bV.one, bW.flat, bW.one, bG.flat, bG.one, c7.flat, c7.one, OV.aO, OV.aE, OV.aS]
  repeat' (with_reducible first | refine And.intro (by first | omega | decide | rfl | trivial | exact Nat.le_of_eq (cW _ _).symm | exact Nat.le_of_eq (cJ _).symm) ?_)
  try (with_reducible intro _)
 rotate_right
 try (with_reducible refine And.intro Nat.zero_lt_one ?_)
 refine ⟨fun a14 => ?_, fun bD8 => ?_⟩
 rotate_left
 focus
  repeat' (with_reducible first | refine And.intro (by first | omega | decide | rfl | trivial | exact Nat.le_of_eq (cW _ _).symm | exact Nat.le_of_eq (cJ _).symm) ?_)
  intro mc2 aEL
  obtain ⟨aOR, aOS, aOT, rY⟩ := eL (show ¬ mc2 = n2 from aEL.1)
  have aKI := aEL.2
  simp only [u3 rY]
  obtain ⟨w9, gc2, dK, vc2, wc2, aDE⟩ := aHX aD.bool (l := x.cB) (sz := 1) aKI
  simp only [← aDE, ← vc2]
  have bT : gc2 n2 = none := by rw [aDE, aC _ _ _ _ rY]; exact bT
  try simp -dsimp -implicitDefEqProofs only [go_sem, ↓reduceIte, Tryz.f19, aF, aC, bA.flat, bA.one, bV.flat, bV.one, bW.flat, bW.one, bG.flat, bG.one, dK.flat, dK.one, OV.aO, OV.aE, OV.aS]
  try (with_reducible refine And.intro Nat.zero_lt_one ?_)
  refine ⟨?_, ?_⟩
  rotate_left
  focus
   intro n3 sE
   obtain ⟨dJ, a8, a9, mV⟩ := eL (show ¬ n3 = n2 from by grind)
   have cK : gc2 n3 = none := by rw [aDE, bU]; grind
   try simp -dsimp -implicitDefEqProofs only [go_sem, ↓reduceIte, Tryz.f19, aF, aC, a8, a9, bA.flat, bA.one, bV.flat, bV.one, bW.flat, bW.one, bG.flat, bG.one, dK.flat, dK.one, OV.aO, OV.aE, OV.aS]
   refine aJ.tM (kV x.b9 (by omega)) bT ⟨dJ, cK⟩ ?_
   rintro r l_ gc3 ⟨oL, c7, rfl, rfl⟩ wc3 bT cK
   try simp -dsimp -implicitDefEqProofs only [go_sem, ↓reduceIte, Tryz.f19, aF, aC, a8, a9, bA.flat, bA.one, bV.flat, bV.one, bW.flat, bW.one, bG.flat, bG.one, dK.flat, dK.one, c7.flat, c7.one, OV.aO, OV.aE, OV.aS]
   repeat' (with_reducible first | refine And.intro (by first | omega | decide | rfl | trivial | exact Nat.le_of_eq (cW _ _).symm | exact Nat.le_of_eq (cJ _).symm) ?_)
   try (with_reducible intro _)
  rotate_right
  refine aJ.wn1 (kV x.b9 (by omega)) bT ?_
  rintro r l_ gc3 ⟨oL, c7, rfl, rfl⟩ wc3 bT
  try simp -dsimp -implicitDefEqProofs only [go_sem, ↓reduceIte, Tryz.f19, aF, aC, bA.flat, bA.one, bV.flat, bV.one, bW.flat, bW.one, bG.flat, bG.one, dK.flat, dK.one, c7.flat, c7.one, OV.aO, OV.aE, OV.aS]
  repeat' (with_reducible first | refine And.intro (by first | omega | decide | rfl | trivial | exact Nat.le_of_eq (cW _ _).symm | exact Nat.le_of_eq (cJ _).symm) ?_)
  intro n3 sE
  obtain ⟨dJ, a8, a9, mV⟩ := eL (show ¬ n3 = n2 from sE.1)
  have cK := sE.2
  try simp -dsimp -implicitDefEqProofs only [go_sem, ↓reduceIte, Tryz.f19, aF, aC, a8, a9, bA.flat, bA.one, bV.flat, bV.one, bW.flat, bW.one, bG.flat, bG.one, dK.flat, dK.one, c7.flat, c7.one, OV.aO, OV.aE, OV.aS]
  try (with_reducible intro _)
 rotate_right
 try simp -dsimp -implicitDefEqProofs only [go_sem, ↓reduceIte, Tryz.f19, aF, aC, bA.flat, bA.one, bV.flat, bV.one, bW.flat, bW.one, bG.flat, bG.one, OV.aO, OV.aE, OV.aS]
 try (with_reducible refine And.intro Nat.zero_lt_one ?_)
 refine ⟨?_, ?_⟩
 rotate_left
 focus
  intro n3 sE
  obtain ⟨dJ, a8, a9, mV⟩ := eL (show ¬ n3 = n2 from sE.1)
  have cK := sE.2
  try simp -dsimp -implicitDefEqProofs only [go_sem, ↓reduceIte, Tryz.f19, aF, aC, a8, a9, bA.flat, bA.one, bV.flat, bV.one, bW.flat, bW.one, bG.flat, bG.one, OV.aO, OV.aE, OV.aS]
  refine aJ.tM (kV x.b9 (by omega)) bT ⟨dJ, cK⟩ ?_
  rintro r l_ gc3 ⟨oL, c7, rfl, rfl⟩ wc3 bT cK
  try simp -dsimp -implicitDefEqProofs only [go_sem, ↓reduceIte, Tryz.f19, aF, aC, a8, a9, bA.flat, bA.one, bV.flat, bV.one, bW.flat, bW.one, bG.flat, bG.one, c7.flat, c7.one, OV.aO, OV.aE, OV.aS]
  repeat' (with_reducible first | refine And.intro (by first | omega | decide | rfl | trivial | exact Nat.le_of_eq (cW _ _).symm | exact Nat.le_of_eq (cJ _).symm) ?_)
  try (with_reducible intro _)
 rotate_right
 refine aJ.wn1 (kV x.b9 (by omega)) bT ?_
 rintro r l_ gc3 ⟨oL, c7, rfl, rfl⟩ wc3 bT
 try simp -dsimp -implicitDefEqProofs only [go_sem, ↓reduceIte, Tryz.f19, aF, aC, bA.flat, bA.one, bV.flat, bV.one, bW.flat, bW.one, bG.flat, bG.one, c7.flat, c7.one, OV.aO, OV.aE, OV.aS]
 repeat' (with_reducible first | refine And.intro (by first | omega | decide | rfl | trivial | exact Nat.le_of_eq (cW _ _).symm | exact Nat.le_of_eq (cJ _).symm) ?_)
 intro n3 sE
 obtain ⟨dJ, a8, a9, mV⟩ := eL (show ¬ n3 = n2 from sE.1)
 have cK := sE.2
 try simp -dsimp -implicitDefEqProofs only [go_sem, ↓reduceIte, Tryz.f19, aF, aC, a8, a9, bA.flat, bA.one, bV.flat, bV.one, bW.flat, bW.one, bG.flat, bG.one, c7.flat, c7.one, OV.aO, OV.aE, OV.aS]
 try (with_reducible intro _)
 all_goals first
  |have q_c := a14
   refine cS (keep := aUP) (ib := bD6) (mk := bD7) mix (by kernel_rfl) (fun s : Nat × List (List OV) × aB × Option Nat => [(0, .ip 9 [[(c5 3 aV.c x.bF.bN.aH), (.int .i64 x.bF.b8), (.int .i64 x.bF.aX), (c5 1 (fun n => [I n]) x.bF.cX), (c5 1 (fun x => [c5 1 (fun n => [I n]) x]) x.bF.bO), (c5 1 (fun n => [I n]) x.aY), (c5 1 (fun b => [.bool b]) x.cB), (c5 3 bI.c x.b7), (c5 1 (fun n => [I n]) x.b9)]] 0 0), (2, .op n2 9 0 0), (3, .op n3 9 0 0), (4, (I s.1))]) (fun s => (bK (bK (dD s.2.2.1 (.row 3 (OV.cells s.2.1)) s.2.2.2) n2 (.row 9 [[.v (.bC), .v (.int .i64 0), .v (.int .i64 0), .v (.bC), .v (.bC), .v (.bC), .v (.bC), .v (.bC), .v (.bC)]])) n3 (.row 9 [[.v (pK.val), .v (.int .i64 x.bF.b8), .v (.int .i64 x.bF.aX), .v (zG.val), .v (zH.val), .v (mQ.val), .v (.sl 1 [] true), .v (gV 3 s.2.1.length s.2.2.2), .v (oL.val)]]))) (fun s => s.1 ≤ x.b7.length ∧ OR bI.o (x.b7.take s.1) s.2.1 ∧ eM gc3 (OV.bP s.2.1) s.2.2.1 ∧ s.2.2.1 n2 = none ∧ s.2.2.1 n3 = none ∧ tE s.2.2.1 s.2.1 s.2.2.2 ∧ ∀ n : Nat, s.2.2.2 = some n → n ≠ n2 ∧ n ≠ n3) (fun s => x.b7.length - s.1) (0, [], gc3, none) ?_ ?_
   ·exact ⟨by simp [dA, cH], (by intro q_; simp only [a7, aK, aG, aW, aQ, cA, bY, cO, cP, aP, aT, OV.aS, List.nil_append, List.length_append, List.length_cons, List.length_nil, Nat.zero_add]; grind), Nat.zero_le _, trivial, eM.nil _, bT, cK, rfl, by simp⟩
   rintro ⟨k, es, g_, o_⟩ ⟨hkk, hor, hnew, bT, cK, hos, hon⟩
   simp only at hkk hor hnew bT cK hos hon ⊢
   have hlen : es.length = k := by have := hor.length; simp at this; omega
   rcases Nat.lt_or_ge k x.b7.length with hlt | hge
   ·have ea : x.b7[k]? = some x.b7[k] := List.getElem?_eq_getElem hlt
    have hx := aJ5 x.b7[k] (by have := gG bI.s (List.getElem_mem hlt); omega)
    simp only [bI.aN] at hx
    cases o_ with
    |none =>
     rw [gW] at hos
     subst hos
     try simp -dsimp -implicitDefEqProofs only [go_sem, ↓reduceIte, Tryz.f19, aF, aC, a8, a9, ea, hlt, aK, aW, bA.flat, bA.one, bV.flat, bV.one, bW.flat, bW.one, bG.flat, bG.one, c7.flat, c7.one, bI.aN]
     try (with_reducible intro _)
     refine aJ.tM (hx) bT ⟨dJ, cK⟩ ?_
     rintro r l_ gb ⟨e_b, oeb, rfl, rfl⟩ wb bT cK
     have oob := oeb
     obtain ⟨aKG, rfl, rX⟩ := oob
     try simp -dsimp -implicitDefEqProofs only [go_sem, ↓reduceIte, Tryz.f19, aF, aC, a8, a9, ea, hlt, aK, aW, bA.flat, bA.one, bV.flat, bV.one, bW.flat, bW.one, bG.flat, bG.one, c7.flat, c7.one, rX.flat, rX.one, OV.aO, OV.aE, OV.aS, bI.aN]
     repeat' (with_reducible first | refine And.intro (by first | omega | decide | rfl | trivial | exact Nat.le_of_eq (cW _ _).symm | exact Nat.le_of_eq (cJ _).symm) ?_)
     intro m qm
     obtain ⟨rU, rV, rW, aEJ⟩ := eL (show ¬ m = n3 from qm.1)
     obtain ⟨l9, mA, mB, w7⟩ := eL (show ¬ m = n2 from qm.2.1)
     have z_m := qm.2.2
     try simp -dsimp -implicitDefEqProofs only [go_sem, ↓reduceIte, Tryz.f19, aF, aC, a8, a9, rV, rW, mA, mB, ea, hlt, aK, aW, bA.flat, bA.one, bV.flat, bV.one, bW.flat, bW.one, bG.flat, bG.one, c7.flat, c7.one, rX.flat, rX.one, OV.aO, OV.aE, OV.aS]
     refine ⟨(k + 1, ([] : List (List OV)) ++ [[.v (.int .i64 x.b7[k].cM), .v (.int .i64 x.b7[k].gB), aKG]], gb, some m), ?_⟩
     simp only
     refine ⟨?_, (by intro q_; simp only [a7, aK, aG, aW, aQ, cA, bY, cO, cP, aP, aT, OV.aS, List.nil_append, List.length_append, List.length_cons, List.length_nil, Nat.zero_add]; grind), ⟨by omega, OR.snoc hor hlt oeb, hnew.snoc wb, bT, cK, z_m, (fun n_ e_ => by obtain rfl := Option.some.inj e_; exact ⟨l9, rU⟩)⟩, by omega⟩
     all_goals (repeat' (with_reducible refine And.intro ?_ ?_))
     all_goals first | rfl | trivial | (rw [IntWalk.i64_in _ (by omega)]; omega)
    |some n =>
     rw [jD] at hos
     have z_n := hos
     have hn := hon n rfl
     obtain ⟨aMI, lD, lE, w8⟩ := eL (show ¬ n = n2 from hn.1)
     obtain ⟨aWY, rH, rI, aEK⟩ := eL (show ¬ n = n3 from hn.2)
     try simp -dsimp -implicitDefEqProofs only [go_sem, ↓reduceIte, Tryz.f19, aF, aC, a8, a9, lD, lE, rH, rI, ea, hlt, aG, aQ, bA.flat, bA.one, bV.flat, bV.one, bW.flat, bW.one, bG.flat, bG.one, c7.flat, c7.one, bI.aN]
     try (with_reducible intro _)
     refine aJ.wn3 (hx) z_n ⟨w8, bT⟩ ⟨dJ, aEK, cK⟩ ?_
     rintro r l_ gb ⟨e_b, oeb, rfl, rfl⟩ wb z_n bT cK
     have oob := oeb
     obtain ⟨aKG, rfl, rX⟩ := oob
     try simp -dsimp -implicitDefEqProofs only [go_sem, ↓reduceIte, Tryz.f19, aF, aC, a8, a9, lD, lE, rH, rI, ea, hlt, aG, aQ, bA.flat, bA.one, bV.flat, bV.one, bW.flat, bW.one, bG.flat, bG.one, c7.flat, c7.one, rX.flat, rX.one, OV.aO, OV.aE, OV.aS, bI.aN]
     repeat' (with_reducible first | refine And.intro (by first | omega | decide | rfl | trivial | exact Nat.le_of_eq (cW _ _).symm | exact Nat.le_of_eq (cJ _).symm) ?_)
     intro m qm
     obtain ⟨rU, rV, rW, aEJ⟩ := eL (show ¬ m = n3 from qm.1)
     obtain ⟨l9, mA, mB, w7⟩ := eL (show ¬ m = n2 from qm.2.1)
     obtain ⟨aYT, aF6, aF7, aYU⟩ := eL (show ¬ m = n from qm.2.2.1)
     have z_m := qm.2.2.2
     try simp -dsimp -implicitDefEqProofs only [go_sem, ↓reduceIte, Tryz.f19, aF, aC, a8, a9, lD, lE, rH, rI, rV, rW, mA, mB, aF6, aF7, ea, hlt, aG, aQ, bA.flat, bA.one, bV.flat, bV.one, bW.flat, bW.one, bG.flat, bG.one, c7.flat, c7.one, rX.flat, rX.one, OV.aO, OV.aE, OV.aS]
     refine ⟨(k + 1, es ++ [[.v (.int .i64 x.b7[k].cM), .v (.int .i64 x.b7[k].gB), aKG]], gb, some m), ?_⟩
     simp only
     refine ⟨?_, (by intro q_; simp only [a7, aK, aG, aW, aQ, cA, bY, cO, cP, aP, aT, OV.aS, List.nil_append, List.length_append, List.length_cons, List.length_nil, Nat.zero_add]; grind), ⟨by omega, OR.snoc hor hlt oeb, hnew.snoc wb, bT, cK, z_m, (fun n_ e_ => by obtain rfl := Option.some.inj e_; exact ⟨l9, rU⟩)⟩, by omega⟩
     all_goals (repeat' (with_reducible refine And.intro ?_ ?_))
     all_goals first | rfl | trivial | (rw [IntWalk.i64_in _ (by omega)]; omega)
   ·have hk2 : k = x.b7.length := by omega
    subst hk2
    rw [List.take_length] at hor
    have aMJ : dD g_ (.row 3 (OV.cells es)) o_ n2 = none := eK bT fun n_ e_ => (hon n_ e_).1
    have aWZ : dD g_ (.row 3 (OV.cells es)) o_ n3 = none := eK cK fun n_ e_ => (hon n_ e_).2
    try simp -dsimp -implicitDefEqProofs only [go_sem, ↓reduceIte, Tryz.f19, aF, aC, a8, a9, eY, fV, bA.flat, bA.one, bV.flat, bV.one, bW.flat, bW.one, bG.flat, bG.one, c7.flat, c7.one, Nat.lt_irrefl]
    try (with_reducible intro _)
    refine ⟨_, (dD g_ (.row 3 (OV.cells es)) o_), _, Shift.of (Sub.agg (cD.cons (Sub.refl _) (cD.cons (Sub.refl _) (cD.cons (Sub.refl _) (cD.cons (Sub.refl _) (cD.cons (Sub.refl _) (cD.cons (Sub.refl _) (cD.cons (Sub.refl _) (cD.cons pD (cD.cons (Sub.refl _) cD.nil)))))))))) (by intro q_; simp only [a7, aK, aG, aW, aQ, cA, bY, cO, cP, aP, aT, OV.aS, List.nil_append, List.length_append, List.length_cons, List.length_nil, Nat.zero_add]; grind), ⟨[pK, .v (.int .i64 x.bF.b8), .v (.int .i64 x.bF.aX), zG, zH, mQ, (.nil 1), (x8 3 es o_), oL], ?_, rfl, rfl⟩, ?_⟩
    ·exact ⟨pK, zG, zH, mQ, (.nil 1), (x8 3 es o_), oL, rfl, bA, bV, bW, bG, (.inl ⟨rfl, by simpa using a14⟩), sX hor hos, c7⟩
    ·have hq := (eM.append (eM.append (eM.append wc0 wc1) wc3) (pE (sz := 3) hnew hos))
     refine eM.perm (a := _) hq ?_
     simp only [OV.bL, OV.cF, OV.c8, OV.lY, List.nil_append, List.append_nil, List.append_assoc]
     first | exact List.Perm.refl _ | (simp only [← List.append_assoc]; exact aF3 _ _ _) | (simp only [← List.append_assoc]; exact aKH _ _)
  |skip
   refine cS (keep := aUP) (ib := bD6) (mk := bD7) mix (by kernel_rfl) (fun s : Nat × List (List OV) × aB × Option Nat => [(0, .ip 9 [[(c5 3 aV.c x.bF.bN.aH), (.int .i64 x.bF.b8), (.int .i64 x.bF.aX), (c5 1 (fun n => [I n]) x.bF.cX), (c5 1 (fun x => [c5 1 (fun n => [I n]) x]) x.bF.bO), (c5 1 (fun n => [I n]) x.aY), (c5 1 (fun b => [.bool b]) x.cB), (c5 3 bI.c x.b7), (c5 1 (fun n => [I n]) x.b9)]] 0 0), (2, .op n2 9 0 0), (3, .op n3 9 0 0), (4, (I s.1))]) (fun s => (bK (bK (dD s.2.2.1 (.row 3 (OV.cells s.2.1)) s.2.2.2) n2 (.row 9 [[.v (.bC), .v (.int .i64 0), .v (.int .i64 0), .v (.bC), .v (.bC), .v (.bC), .v (.bC), .v (.bC), .v (.bC)]])) n3 (.row 9 [[.v (pK.val), .v (.int .i64 x.bF.b8), .v (.int .i64 x.bF.aX), .v (zG.val), .v (zH.val), .v (mQ.val), .v (w9.val), .v (gV 3 s.2.1.length s.2.2.2), .v (oL.val)]]))) (fun s => s.1 ≤ x.b7.length ∧ OR bI.o (x.b7.take s.1) s.2.1 ∧ eM gc3 (OV.bP s.2.1) s.2.2.1 ∧ s.2.2.1 n2 = none ∧ s.2.2.1 n3 = none ∧ tE s.2.2.1 s.2.1 s.2.2.2 ∧ ∀ n : Nat, s.2.2.2 = some n → n ≠ n2 ∧ n ≠ n3) (fun s => x.b7.length - s.1) (0, [], gc3, none) ?_ ?_
   ·exact ⟨by simp [dA, cH], (by intro q_; simp only [a7, aK, aG, aW, aQ, cA, bY, cO, cP, aP, aT, OV.aS, List.nil_append, List.length_append, List.length_cons, List.length_nil, Nat.zero_add]; grind), Nat.zero_le _, trivial, eM.nil _, bT, cK, rfl, by simp⟩
   rintro ⟨k, es, g_, o_⟩ ⟨hkk, hor, hnew, bT, cK, hos, hon⟩
   simp only at hkk hor hnew bT cK hos hon ⊢
   have hlen : es.length = k := by have := hor.length; simp at this; omega
   rcases Nat.lt_or_ge k x.b7.length with hlt | hge
   ·have ea : x.b7[k]? = some x.b7[k] := List.getElem?_eq_getElem hlt
    have hx := aJ5 x.b7[k] (by have := gG bI.s (List.getElem_mem hlt); omega)
    simp only [bI.aN] at hx
    cases o_ with
    |none =>
     rw [gW] at hos
     subst hos
     try simp -dsimp -implicitDefEqProofs only [go_sem, ↓reduceIte, Tryz.f19, aF, aC, a8, a9, ea, hlt, aK, aW, bA.flat, bA.one, bV.flat, bV.one, bW.flat, bW.one, bG.flat, bG.one, dK.flat, dK.one, c7.flat, c7.one, bI.aN]
     try (with_reducible intro _)
     refine aJ.tM (hx) bT ⟨dJ, cK⟩ ?_
     rintro r l_ gb ⟨e_b, oeb, rfl, rfl⟩ wb bT cK
     have oob := oeb
     obtain ⟨aKG, rfl, rX⟩ := oob
     try simp -dsimp -implicitDefEqProofs only [go_sem, ↓reduceIte, Tryz.f19, aF, aC, a8, a9, ea, hlt, aK, aW, bA.flat, bA.one, bV.flat, bV.one, bW.flat, bW.one, bG.flat, bG.one, dK.flat, dK.one, c7.flat, c7.one, rX.flat, rX.one, OV.aO, OV.aE, OV.aS, bI.aN]
     repeat' (with_reducible first | refine And.intro (by first | omega | decide | rfl | trivial | exact Nat.le_of_eq (cW _ _).symm | exact Nat.le_of_eq (cJ _).symm) ?_)
     intro m qm
     obtain ⟨rU, rV, rW, aEJ⟩ := eL (show ¬ m = n3 from qm.1)
     obtain ⟨l9, mA, mB, w7⟩ := eL (show ¬ m = n2 from qm.2.1)
     have z_m := qm.2.2
     try simp -dsimp -implicitDefEqProofs only [go_sem, ↓reduceIte, Tryz.f19, aF, aC, a8, a9, rV, rW, mA, mB, ea, hlt, aK, aW, bA.flat, bA.one, bV.flat, bV.one, bW.flat, bW.one, bG.flat, bG.one, dK.flat, dK.one, c7.flat, c7.one, rX.flat, rX.one, OV.aO, OV.aE, OV.aS]
     refine ⟨(k + 1, ([] : List (List OV)) ++ [[.v (.int .i64 x.b7[k].cM), .v (.int .i64 x.b7[k].gB), aKG]], gb, some m), ?_⟩
     simp only
     refine ⟨?_, (by intro q_; simp only [a7, aK, aG, aW, aQ, cA, bY, cO, cP, aP, aT, OV.aS, List.nil_append, List.length_append, List.length_cons, List.length_nil, Nat.zero_add]; grind), ⟨by omega, OR.snoc hor hlt oeb, hnew.snoc wb, bT, cK, z_m, (fun n_ e_ => by obtain rfl := Option.some.inj e_; exact ⟨l9, rU⟩)⟩, by omega⟩
     all_goals (repeat' (with_reducible refine And.intro ?_ ?_))
     all_goals first | rfl | trivial | (rw [IntWalk.i64_in _ (by omega)]; omega)
    |some n =>
     rw [jD] at hos
     have z_n := hos
     have hn := hon n rfl
     obtain ⟨aMI, lD, lE, w8⟩ := eL (show ¬ n = n2 from hn.1)
     obtain ⟨aWY, rH, rI, aEK⟩ := eL (show ¬ n = n3 from hn.2)
     try simp -dsimp -implicitDefEqProofs only [go_sem, ↓reduceIte, Tryz.f19, aF, aC, a8, a9, lD, lE, rH, rI, ea, hlt, aG, aQ, bA.flat, bA.one, bV.flat, bV.one, bW.flat, bW.one, bG.flat, bG.one, dK.flat, dK.one, c7.flat, c7.one, bI.aN]
     try (with_reducible intro _)
     refine aJ.wn3 (hx) z_n ⟨w8, bT⟩ ⟨dJ, aEK, cK⟩ ?_
     rintro r l_ gb ⟨e_b, oeb, rfl, rfl⟩ wb z_n bT cK
     have oob := oeb
     obtain ⟨aKG, rfl, rX⟩ := oob
     try simp -dsimp -implicitDefEqProofs only [go_sem, ↓reduceIte, Tryz.f19, aF, aC, a8, a9, lD, lE, rH, rI, ea, hlt, aG, aQ, bA.flat, bA.one, bV.flat, bV.one, bW.flat, bW.one, bG.flat, bG.one, dK.flat, dK.one, c7.flat, c7.one, rX.flat, rX.one, OV.aO, OV.aE, OV.aS, bI.aN]
     repeat' (with_reducible first | refine And.intro (by first | omega | decide | rfl | trivial | exact Nat.le_of_eq (cW _ _).symm | exact Nat.le_of_eq (cJ _).symm) ?_)
     intro m qm
     obtain ⟨rU, rV, rW, aEJ⟩ := eL (show ¬ m = n3 from qm.1)
     obtain ⟨l9, mA, mB, w7⟩ := eL (show ¬ m = n2 from qm.2.1)
     obtain ⟨aYT, aF6, aF7, aYU⟩ := eL (show ¬ m = n from qm.2.2.1)
     have z_m := qm.2.2.2
     try simp -dsimp -implicitDefEqProofs only [go_sem, ↓reduceIte, Tryz.f19, aF, aC, a8, a9, lD, lE, rH, rI, rV, rW, mA, mB, aF6, aF7, ea, hlt, aG, aQ, bA.flat, bA.one, bV.flat, bV.one, bW.flat, bW.one, bG.flat, bG.one, dK.flat, dK.one, c7.flat, c7.one, rX.flat, rX.one, OV.aO, OV.aE, OV.aS]
     refine ⟨(k + 1, es ++ [[.v (.int .i64 x.b7[k].cM), .v (.int .i64 x.b7[k].gB), aKG]], gb, some m), ?_⟩
     simp only
     refine ⟨?_, (by intro q_; simp only [a7, aK, aG, aW, aQ, cA, bY, cO, cP, aP, aT, OV.aS, List.nil_append, List.length_append, List.length_cons, List.length_nil, Nat.zero_add]; grind), ⟨by omega, OR.snoc hor hlt oeb, hnew.snoc wb, bT, cK, z_m, (fun n_ e_ => by obtain rfl := Option.some.inj e_; exact ⟨l9, rU⟩)⟩, by omega⟩
     all_goals (repeat' (with_reducible refine And.intro ?_ ?_))
     all_goals first | rfl | trivial | (rw [IntWalk.i64_in _ (by omega)]; omega)
   ·have hk2 : k = x.b7.length := by omega
    subst hk2
    rw [List.take_length] at hor
    have aMJ : dD g_ (.row 3 (OV.cells es)) o_ n2 = none := eK bT fun n_ e_ => (hon n_ e_).1
    have aWZ : dD g_ (.row 3 (OV.cells es)) o_ n3 = none := eK cK fun n_ e_ => (hon n_ e_).2
    try simp -dsimp -implicitDefEqProofs only [go_sem, ↓reduceIte, Tryz.f19, aF, aC, a8, a9, eY, fV, bA.flat, bA.one, bV.flat, bV.one, bW.flat, bW.one, bG.flat, bG.one, dK.flat, dK.one, c7.flat, c7.one, Nat.lt_irrefl]
    try (with_reducible intro _)
    refine ⟨_, (dD g_ (.row 3 (OV.cells es)) o_), _, Shift.of (Sub.agg (cD.cons (Sub.refl _) (cD.cons (Sub.refl _) (cD.cons (Sub.refl _) (cD.cons (Sub.refl _) (cD.cons (Sub.refl _) (cD.cons (Sub.refl _) (cD.cons (Sub.refl _) (cD.cons pD (cD.cons (Sub.refl _) cD.nil)))))))))) (by intro q_; simp only [a7, aK, aG, aW, aQ, cA, bY, cO, cP, aP, aT, OV.aS, List.nil_append, List.length_append, List.length_cons, List.length_nil, Nat.zero_add]; grind), ⟨[pK, .v (.int .i64 x.bF.b8), .v (.int .i64 x.bF.aX), zG, zH, mQ, w9, (x8 3 es o_), oL], ?_, rfl, rfl⟩, ?_⟩
    ·exact ⟨pK, zG, zH, mQ, w9, (x8 3 es o_), oL, rfl, bA, bV, bW, bG, dK, sX hor hos, c7⟩
    ·have hq := (eM.append (eM.append (eM.append (eM.append wc0 wc1) wc2) wc3) (pE (sz := 3) hnew hos))
     refine eM.perm (a := _) hq ?_
     simp only [OV.bL, OV.cF, OV.c8, OV.lY, List.nil_append, List.append_nil, List.append_assoc]
     first | exact List.Perm.refl _ | (simp only [← List.append_assoc]; exact aF3 _ _ _) | (simp only [← List.append_assoc]; exact aKH _ _)
open Go.Proofs
set_option linter.unusedVariables false
set_option linter.unusedSimpArgs false
def rZ : aR := ⟨⟨⟨[]⟩, 0, 0, [], []⟩, [], [], [], []⟩
theorem qW : a9D rZ.o [(.bC), (.int .i64 0), (.int .i64 0), (.bC), (.bC), (.bC), (.bC), (.bC), (.bC)] := ⟨[(.nil 3), .v (.int .i64 0), .v (.int .i64 0), (.nil 1), (.nil 1), (.nil 1), (.nil 1), (.nil 3), (.nil 1)], ⟨(.nil 3), (.nil 1), (.nil 1), (.nil 1), (.nil 1), (.nil 3), (.nil 1), rfl, OS.nil, OS.nil, OS.nil, OS.nil, OS.nil, OS.nil, OS.nil⟩, rfl, Sub.agg (cD.cons (Sub.nil _ _) (cD.cons (Sub.refl _) (cD.cons (Sub.refl _) (cD.cons (Sub.nil _ _) (cD.cons (Sub.nil _ _) (cD.cons (Sub.nil _ _) (cD.cons (Sub.nil _ _) (cD.cons (Sub.nil _ _) (cD.cons (Sub.nil _ _) cD.nil)))))))))⟩
open Go.Proofs
set_option linter.unusedVariables false
set_option linter.unusedSimpArgs false
open Go.Proofs
set_option linter.unusedVariables false
set_option linter.unusedSimpArgs false
theorem aKJ (f : bI → Nat) : ∀ (l : List bI) (k : Nat) (p : bI), ((l.set k p).map f).sum ≤ (l.map f).sum + f p
 | [], k, p => by simp
 |a :: l, 0, p => by simp; omega
 |a :: l, k + 1, p => by have := aKJ f l k p; simp only [List.set_cons_succ, List.map_cons, List.sum_cons]; omega
def aUQ (j : e7) (k : Int) : Prop := 0 ≤ k ∧ k ≤ (j.bO.length : Int) - 1
noncomputable instance (j : e7) (k : Int) : Decidable (aUQ j k) := Classical.propDecidable _
set_option maxRecDepth 100000
open Go.Proofs
set_option linter.unusedVariables false
set_option linter.unusedSimpArgs false
def mW (s : aR) (k : Int) : aR := { s with aY := s.aY.set k.toNat (s.aY.getD k.toNat 0 + 1), cB := s.cB.set k.toNat false, b7 := s.b7.set k.toNat ⟨0, 0, []⟩, b9 := s.b9.set k.toNat (-1) }
@[go_sem] def bEA : List Nat := [0, 1]
@[go_sem] def bR1 : List Nat := [24]
@[go_sem] def bR2 : Marks := fun _ => ([], .nil, [])
set_option maxHeartbeats 2000000 in
theorem aYX (s : aR) (k : Int) (h0 g : aB) (nb : Nat) (e : List OV) (oe : s.o e) (hnb : g nb = none) (wn : eM h0 (OV.bZ e) g) (l1 : s.aY.length = s.bF.bO.length ∧ s.cB.length = s.bF.bO.length ∧ s.b7.length = s.bF.bO.length ∧ s.b9.length = s.bF.bO.length) (ht : aUQ s.bF k) (hst : ∀ x ∈ s.aY, 0 ≤ x ∧ x ≤ 50) :
  fO Tryz.prog 51 [.op nb 9 0 0, I k] (bK g nb (.row 9 (OV.cells [e]))) (a09 h0 nb 9 fun v e' => (mW s k).o e') := by
 have hk1 := ht.1
 have hk2 := ht.2
 have oe1 := oe
 obtain ⟨jZ, mD, kN, aYY, aLW, aGB, aGC, rfl, oM, pU, oN, oO, pF, oQ, oT⟩ := oe1
 have kn : k.toNat < s.cB.length := by omega
 have ks : k.toNat < s.aY.length := by omega
 have ko : k.toNat < s.b9.length := by omega
 have kp : k.toNat < s.b7.length := by omega
 have gk : s.cB[k.toNat]? = some s.cB[k.toNat] := List.getElem?_eq_getElem kn
 have gs : s.aY[k.toNat]? = some s.aY[k.toNat] := List.getElem?_eq_getElem ks
 have gd : s.aY.getD k.toNat 0 = s.aY[k.toNat] := by rw [List.getD_eq_getElem?_getD, gs]; rfl
 have go : s.b9[k.toNat]? = some s.b9[k.toNat] := List.getElem?_eq_getElem ko
 have hb := hst s.aY[k.toNat] (List.getElem_mem ks)
 obtain ⟨n7, es, rfl, hor⟩ := oQ.some (by omega)
 rcases oO.aEB with ⟨rfl, h5⟩ | ⟨n5, rfl⟩
 ·rw [h5] at ks; simp at ks
 rcases pF.aEB with ⟨rfl, h6⟩ | ⟨n6, rfl⟩
 ·rw [h6] at kn; simp at kn
 rcases oT.aEB with ⟨rfl, h8⟩ | ⟨n8, rfl⟩
 ·rw [h8] at ko; simp at ko
 have g5 := wn.aRK [jZ, .v (.int .i64 s.bF.b8), .v (.int .i64 s.bF.aX), mD, kN] (c := I)
 have g6 := wn.aRK ([jZ, .v (.int .i64 s.bF.b8), .v (.int .i64 s.bF.aX), mD, kN] ++ [OV.sl n5 1 (s.aY.map fun x => [.v (I x)])]) (c := .bool)
 have g7 := wn.a08 ([jZ, .v (.int .i64 s.bF.b8), .v (.int .i64 s.bF.aX), mD, kN] ++ [OV.sl n5 1 (s.aY.map fun x => [.v (I x)]), OV.sl n6 1 (s.cB.map fun x => [.v (.bool x)])])
 have g8 := wn.aRK ([jZ, .v (.int .i64 s.bF.b8), .v (.int .i64 s.bF.aX), mD, kN] ++ [OV.sl n5 1 (s.aY.map fun x => [.v (I x)]), OV.sl n6 1 (s.cB.map fun x => [.v (.bool x)]), OV.sl n7 3 es]) (c := I)
 have v8 : ¬ n5 = nb := lM g5 hnb
 have yC : ¬ nb = n5 := Ne.symm v8
 have s7 : (n5 = nb) = False := eq_false v8
 have s8 : (nb = n5) = False := eq_false yC
 have p1 : ¬ n6 = nb := lM g6 hnb
 have mX : ¬ nb = n6 := Ne.symm p1
 have lS : (n6 = nb) = False := eq_false p1
 have lT : (nb = n6) = False := eq_false mX
 have aEM : ¬ n7 = nb := lM g7 hnb
 have aEN : ¬ nb = n7 := Ne.symm aEM
 have yD : (n7 = nb) = False := eq_false aEM
 have yE : (nb = n7) = False := eq_false aEN
 have aEO : ¬ n8 = nb := lM g8 hnb
 have aEP : ¬ nb = n8 := Ne.symm aEO
 have yF : (n8 = nb) = False := eq_false aEO
 have yG : (nb = n8) = False := eq_false aEP
 have aEQ : ¬ n5 = n6 := wn.tT [jZ, .v (.int .i64 s.bF.b8), .v (.int .i64 s.bF.aX), mD, kN] (m := n6) (by first | exact List.mem_cons_self | exact List.mem_cons_of_mem _ List.mem_cons_self | exact List.mem_cons_of_mem _ (List.mem_cons_of_mem _ List.mem_cons_self))
 have aOU : ¬ n6 = n5 := Ne.symm aEQ
 have yH : (n5 = n6) = False := eq_false aEQ
 have yI : (n6 = n5) = False := eq_false aOU
 have aER : ¬ n5 = n7 := wn.tT [jZ, .v (.int .i64 s.bF.b8), .v (.int .i64 s.bF.aX), mD, kN] (m := n7) (by first | exact List.mem_cons_self | exact List.mem_cons_of_mem _ List.mem_cons_self | exact List.mem_cons_of_mem _ (List.mem_cons_of_mem _ List.mem_cons_self))
 have aOV : ¬ n7 = n5 := Ne.symm aER
 have yJ : (n5 = n7) = False := eq_false aER
 have yK : (n7 = n5) = False := eq_false aOV
 have aES : ¬ n5 = n8 := wn.tT [jZ, .v (.int .i64 s.bF.b8), .v (.int .i64 s.bF.aX), mD, kN] (m := n8) (by first | exact List.mem_cons_self | exact List.mem_cons_of_mem _ List.mem_cons_self | exact List.mem_cons_of_mem _ (List.mem_cons_of_mem _ List.mem_cons_self))
 have aOW : ¬ n8 = n5 := Ne.symm aES
 have yL : (n5 = n8) = False := eq_false aES
 have yM : (n8 = n5) = False := eq_false aOW
 have aET : ¬ n6 = n7 := wn.tT ([jZ, .v (.int .i64 s.bF.b8), .v (.int .i64 s.bF.aX), mD, kN] ++ [OV.sl n5 1 (s.aY.map fun x => [.v (I x)])]) (m := n7) (by first | exact List.mem_cons_self | exact List.mem_cons_of_mem _ List.mem_cons_self | exact List.mem_cons_of_mem _ (List.mem_cons_of_mem _ List.mem_cons_self))
 have aOX : ¬ n7 = n6 := Ne.symm aET
 have yN : (n6 = n7) = False := eq_false aET
 have yO : (n7 = n6) = False := eq_false aOX
 have aEU : ¬ n6 = n8 := wn.tT ([jZ, .v (.int .i64 s.bF.b8), .v (.int .i64 s.bF.aX), mD, kN] ++ [OV.sl n5 1 (s.aY.map fun x => [.v (I x)])]) (m := n8) (by first | exact List.mem_cons_self | exact List.mem_cons_of_mem _ List.mem_cons_self | exact List.mem_cons_of_mem _ (List.mem_cons_of_mem _ List.mem_cons_self))
 have aOY : ¬ n8 = n6 := Ne.symm aEU
 have yP : (n6 = n8) = False := eq_false aEU
 have yQ : (n8 = n6) = False := eq_false aOY
 have aEV : ¬ n7 = n8 := wn.tT ([jZ, .v (.int .i64 s.bF.b8), .v (.int .i64 s.bF.aX), mD, kN] ++ [OV.sl n5 1 (s.aY.map fun x => [.v (I x)]), OV.sl n6 1 (s.cB.map fun x => [.v (.bool x)])]) (m := n8) (by first | exact List.mem_cons_self | exact List.mem_cons_of_mem _ List.mem_cons_self | exact List.mem_cons_of_mem _ (List.mem_cons_of_mem _ List.mem_cons_self))
 have aOZ : ¬ n8 = n7 := Ne.symm aEV
 have yR : (n7 = n8) = False := eq_false aEV
 have yS : (n8 = n7) = False := eq_false aOZ
 have hv5 := OV.pT I n5 1 s.aY
 have hv6 := OV.pT aD.bool n6 1 s.cB
 have hv7 := OV.p9 n7 3 es
 have hv8 := OV.pT I n8 1 s.b9
 have hel : es.length = s.b7.length := hor.length.symm
 obtain ⟨ek, hek, oek⟩ := hor.bCX k.toNat s.b7[k.toNat] (List.getElem?_eq_getElem kp)
 have bEB := oek
 obtain ⟨bR3, rfl, bR4⟩ := bEB
 have hck := aME hek
 simp only [aP, aT, OV.aS] at hck
 have wn1 := wn.aYO [jZ, .v (.int .i64 s.bF.b8), .v (.int .i64 s.bF.aX), mD, kN] (c := I) (l' := s.aY.set k.toNat (s.aY[k.toNat] + 1))
 have tM := wn1.aYO ([jZ, .v (.int .i64 s.bF.b8), .v (.int .i64 s.bF.aX), mD, kN] ++ [OV.sl n5 1 ((s.aY.set k.toNat (s.aY[k.toNat] + 1)).map fun x => [.v (I x)])]) (c := .bool) (l' := s.cB.set k.toNat false)
 obtain ⟨g3, aHQ, wn3⟩ := tM.a9E ([jZ, .v (.int .i64 s.bF.b8), .v (.int .i64 s.bF.aX), mD, kN] ++ [OV.sl n5 1 ((s.aY.set k.toNat (s.aY[k.toNat] + 1)).map fun x => [.v (I x)]), OV.sl n6 1 ((s.cB.set k.toNat false).map fun x => [.v (.bool x)])]) (k := k.toNat) (enew := [.v (I 0), .v (I 0), .nil 1]) (eM.nil _) (by omega)
 have wn4 := wn3.aYO ([jZ, .v (.int .i64 s.bF.b8), .v (.int .i64 s.bF.aX), mD, kN] ++ [OV.sl n5 1 ((s.aY.set k.toNat (s.aY[k.toNat] + 1)).map fun x => [.v (I x)]), OV.sl n6 1 ((s.cB.set k.toNat false).map fun x => [.v (.bool x)]), OV.sl n7 3 (es.set k.toNat [.v (I 0), .v (I 0), .nil 1])]) (c := I) (l' := s.b9.set k.toNat (-1))
 have hcs := aHB es k.toNat [.v (I 0), .v (I 0), .nil 1] _ rfl
 simp only [aP, aT, OV.aS, OV.pZ] at hcs
 refine wJ 33 bEA bR1 bR2 mix Tryz.func51 rfl (by kernel_rfl) (by simp) ?_
 simp -dsimp -implicitDefEqProofs only [go_sem, ↓reduceIte, Tryz.f51]
 simp -dsimp -implicitDefEqProofs only [go_sem, ↓reduceIte, Tryz.f51, OV.aO, OV.aE, OV.aS, aF, aC, oM.flat, oM.one, pU.flat, pU.one, oN.flat, oN.one, oO.flat, oO.one, pF.flat, pF.one, oQ.flat, oQ.one, oT.flat, oT.one, s8, lT, yE, yG, s7, yH, yJ, yL, lS, yI, yN, yP, yD, yK, yO, yR, yF, yM, yQ, yS, iS, aP, aT, gk, gs, go, hv5, hv6, hv7, hv8, g5, g6, g7, g8, hck]
 rw [IntWalk.i64_in _ (by omega)]
 refine ⟨hk1, by omega, hk1, by omega, hk1, by omega, Nat.zero_lt_one, hk1, by omega, hk1, by omega, ?_⟩
 rw [aB9 aD.bool, aB9 I, aB9 I, hcs]
 have ef : (mW s k).bF = s.bF := rfl
 refine ⟨_, ?hl, _, _, ⟨jZ, mD, kN, _, _, _, _, rfl, oM, pU, oN, OS.mk (by rw [mW, gd]; exact uZ (s.aY.set k.toNat (s.aY[k.toNat] + 1))), OS.mk (uZ (s.cB.set k.toNat false)), OS.mk (hor.set k.toNat ⟨0, 0, []⟩ _ ⟨.nil 1, rfl, OS.nil⟩), OS.mk (uZ (s.b9.set k.toNat (-1)))⟩, rfl, ?hn, wn4⟩
 case hl =>
  simp only [iS, aP, aT, OV.aS, OV.p9, List.length_map, List.length_set, ef]
  exact aB.le_trans (aB.fT (aB.fT aHQ)) (jJ (by repeat' (first | exact gJ _ _ | refine jK (by simp only [dZ, ↓reduceIte, eq_self, if_true, s8, lT, yE, yG, s7, yH, yJ, yL, lS, yI, yN, yP, yD, yK, yO, yR, yF, yM, yQ, yS]) ?_ | refine fM (by first | exact .inr (by assumption) | exact .inl (by simp)) ?_)))
 case hn =>
  rw [aC _ _ _ _ aEP]
  exact aB.le_none aHQ (by rw [aC _ _ _ _ aEN, aC _ _ _ _ mX, aC _ _ _ _ yC]; exact hnb)
@[go_sem] def bEC : List Nat := [0, 1, 4, 12]
@[go_sem] def bR5 : List Nat := []
@[go_sem] def bR6 : Marks := fun id => match id with | 4 => ([3, 8, 13, 17, 19, 21], (.op 0 (.op 1 (.op 2 (.op 4 (.op 5 (.op 6 (.op 7 (.op 9 (.op 10 (.op 11 (.op 12 (.op 14 (.op 15 (.op 3 (.op 8 (.op 13 (.op 16 (.op 17 (.op 18 (.op 19 (.op 20 (.op 21 .nil)))))))))))))))))))))), []) | _ => ([], .nil, [])
set_option maxHeartbeats 2000000 in
theorem forget (s : aR) (k : Int) (h0 g : aB) (nb : Nat) (e : List OV) (oe : s.o e) (hnb : g nb = none) (wn : eM h0 (OV.bZ e) g) (l1 : s.aY.length = s.bF.bO.length ∧ s.cB.length = s.bF.bO.length ∧ s.b7.length = s.bF.bO.length ∧ s.b9.length = s.bF.bO.length) (ht : aUQ s.bF k) (hst : ∀ x ∈ s.aY, 0 ≤ x ∧ x ≤ 50) :
  fO Tryz.prog 29 [.op nb 9 0 0, I k] (bK g nb (.row 9 (OV.cells [e]))) (a09 h0 nb 9 fun v e' => (s.aY[k.toNat]? = some 50 → v = .bool false ∧ s.o e') ∧ (¬ s.aY[k.toNat]? = some 50 → v = .bool true ∧ (mW s k).o e')) := by
 have hk1 := ht.1
 have hk2 := ht.2
 have oe1 := oe
 obtain ⟨jZ, mD, kN, aYY, aLW, aGB, aGC, rfl, oM, pU, oN, oO, pF, oQ, oT⟩ := oe1
 have kn : k.toNat < s.cB.length := by omega
 have ks : k.toNat < s.aY.length := by omega
 have ko : k.toNat < s.b9.length := by omega
 have kp : k.toNat < s.b7.length := by omega
 have gk : s.cB[k.toNat]? = some s.cB[k.toNat] := List.getElem?_eq_getElem kn
 have gs : s.aY[k.toNat]? = some s.aY[k.toNat] := List.getElem?_eq_getElem ks
 have gd : s.aY.getD k.toNat 0 = s.aY[k.toNat] := by rw [List.getD_eq_getElem?_getD, gs]; rfl
 have go : s.b9[k.toNat]? = some s.b9[k.toNat] := List.getElem?_eq_getElem ko
 have hb := hst s.aY[k.toNat] (List.getElem_mem ks)
 obtain ⟨n7, es, rfl, hor⟩ := oQ.some (by omega)
 rcases oO.aEB with ⟨rfl, h5⟩ | ⟨n5, rfl⟩
 ·rw [h5] at ks; simp at ks
 rcases pF.aEB with ⟨rfl, h6⟩ | ⟨n6, rfl⟩
 ·rw [h6] at kn; simp at kn
 rcases oT.aEB with ⟨rfl, h8⟩ | ⟨n8, rfl⟩
 ·rw [h8] at ko; simp at ko
 have g5 := wn.aRK [jZ, .v (.int .i64 s.bF.b8), .v (.int .i64 s.bF.aX), mD, kN] (c := I)
 have g6 := wn.aRK ([jZ, .v (.int .i64 s.bF.b8), .v (.int .i64 s.bF.aX), mD, kN] ++ [OV.sl n5 1 (s.aY.map fun x => [.v (I x)])]) (c := .bool)
 have g7 := wn.a08 ([jZ, .v (.int .i64 s.bF.b8), .v (.int .i64 s.bF.aX), mD, kN] ++ [OV.sl n5 1 (s.aY.map fun x => [.v (I x)]), OV.sl n6 1 (s.cB.map fun x => [.v (.bool x)])])
 have g8 := wn.aRK ([jZ, .v (.int .i64 s.bF.b8), .v (.int .i64 s.bF.aX), mD, kN] ++ [OV.sl n5 1 (s.aY.map fun x => [.v (I x)]), OV.sl n6 1 (s.cB.map fun x => [.v (.bool x)]), OV.sl n7 3 es]) (c := I)
 have v8 : ¬ n5 = nb := lM g5 hnb
 have yC : ¬ nb = n5 := Ne.symm v8
 have s7 : (n5 = nb) = False := eq_false v8
 have s8 : (nb = n5) = False := eq_false yC
 have p1 : ¬ n6 = nb := lM g6 hnb
 have mX : ¬ nb = n6 := Ne.symm p1
 have lS : (n6 = nb) = False := eq_false p1
 have lT : (nb = n6) = False := eq_false mX
 have aEM : ¬ n7 = nb := lM g7 hnb
 have aEN : ¬ nb = n7 := Ne.symm aEM
 have yD : (n7 = nb) = False := eq_false aEM
 have yE : (nb = n7) = False := eq_false aEN
 have aEO : ¬ n8 = nb := lM g8 hnb
 have aEP : ¬ nb = n8 := Ne.symm aEO
 have yF : (n8 = nb) = False := eq_false aEO
 have yG : (nb = n8) = False := eq_false aEP
 have aEQ : ¬ n5 = n6 := wn.tT [jZ, .v (.int .i64 s.bF.b8), .v (.int .i64 s.bF.aX), mD, kN] (m := n6) (by first | exact List.mem_cons_self | exact List.mem_cons_of_mem _ List.mem_cons_self | exact List.mem_cons_of_mem _ (List.mem_cons_of_mem _ List.mem_cons_self))
 have aOU : ¬ n6 = n5 := Ne.symm aEQ
 have yH : (n5 = n6) = False := eq_false aEQ
 have yI : (n6 = n5) = False := eq_false aOU
 have aER : ¬ n5 = n7 := wn.tT [jZ, .v (.int .i64 s.bF.b8), .v (.int .i64 s.bF.aX), mD, kN] (m := n7) (by first | exact List.mem_cons_self | exact List.mem_cons_of_mem _ List.mem_cons_self | exact List.mem_cons_of_mem _ (List.mem_cons_of_mem _ List.mem_cons_self))
 have aOV : ¬ n7 = n5 := Ne.symm aER
 have yJ : (n5 = n7) = False := eq_false aER
 have yK : (n7 = n5) = False := eq_false aOV
 have aES : ¬ n5 = n8 := wn.tT [jZ, .v (.int .i64 s.bF.b8), .v (.int .i64 s.bF.aX), mD, kN] (m := n8) (by first | exact List.mem_cons_self | exact List.mem_cons_of_mem _ List.mem_cons_self | exact List.mem_cons_of_mem _ (List.mem_cons_of_mem _ List.mem_cons_self))
 have aOW : ¬ n8 = n5 := Ne.symm aES
 have yL : (n5 = n8) = False := eq_false aES
 have yM : (n8 = n5) = False := eq_false aOW
 have aET : ¬ n6 = n7 := wn.tT ([jZ, .v (.int .i64 s.bF.b8), .v (.int .i64 s.bF.aX), mD, kN] ++ [OV.sl n5 1 (s.aY.map fun x => [.v (I x)])]) (m := n7) (by first | exact List.mem_cons_self | exact List.mem_cons_of_mem _ List.mem_cons_self | exact List.mem_cons_of_mem _ (List.mem_cons_of_mem _ List.mem_cons_self))
 have aOX : ¬ n7 = n6 := Ne.symm aET
 have yN : (n6 = n7) = False := eq_false aET
 have yO : (n7 = n6) = False := eq_false aOX
 have aEU : ¬ n6 = n8 := wn.tT ([jZ, .v (.int .i64 s.bF.b8), .v (.int .i64 s.bF.aX), mD, kN] ++ [OV.sl n5 1 (s.aY.map fun x => [.v (I x)])]) (m := n8) (by first | exact List.mem_cons_self | exact List.mem_cons_of_mem _ List.mem_cons_self | exact List.mem_cons_of_mem _ (List.mem_cons_of_mem _ List.mem_cons_self))
 have aOY : ¬ n8 = n6 := Ne.symm aEU
 have yP : (n6 = n8) = False := eq_false aEU
 have yQ : (n8 = n6) = False := eq_false aOY
 have aEV : ¬ n7 = n8 := wn.tT ([jZ, .v (.int .i64 s.bF.b8), .v (.int .i64 s.bF.aX), mD, kN] ++ [OV.sl n5 1 (s.aY.map fun x => [.v (I x)]), OV.sl n6 1 (s.cB.map fun x => [.v (.bool x)])]) (m := n8) (by first | exact List.mem_cons_self | exact List.mem_cons_of_mem _ List.mem_cons_self | exact List.mem_cons_of_mem _ (List.mem_cons_of_mem _ List.mem_cons_self))
 have aOZ : ¬ n8 = n7 := Ne.symm aEV
 have yR : (n7 = n8) = False := eq_false aEV
 have yS : (n8 = n7) = False := eq_false aOZ
 have hv5 := OV.pT I n5 1 s.aY
 have hv6 := OV.pT aD.bool n6 1 s.cB
 have hv7 := OV.p9 n7 3 es
 have hv8 := OV.pT I n8 1 s.b9
 have hel : es.length = s.b7.length := hor.length.symm
 obtain ⟨ek, hek, oek⟩ := hor.bCX k.toNat s.b7[k.toNat] (List.getElem?_eq_getElem kp)
 have bEB := oek
 obtain ⟨bR3, rfl, bR4⟩ := bEB
 have hck := aME hek
 simp only [aP, aT, OV.aS] at hck
 have wn1 := wn.aYO [jZ, .v (.int .i64 s.bF.b8), .v (.int .i64 s.bF.aX), mD, kN] (c := I) (l' := s.aY.set k.toNat (s.aY[k.toNat] + 1))
 have tM := wn1.aYO ([jZ, .v (.int .i64 s.bF.b8), .v (.int .i64 s.bF.aX), mD, kN] ++ [OV.sl n5 1 ((s.aY.set k.toNat (s.aY[k.toNat] + 1)).map fun x => [.v (I x)])]) (c := .bool) (l' := s.cB.set k.toNat false)
 obtain ⟨g3, aHQ, wn3⟩ := tM.a9E ([jZ, .v (.int .i64 s.bF.b8), .v (.int .i64 s.bF.aX), mD, kN] ++ [OV.sl n5 1 ((s.aY.set k.toNat (s.aY[k.toNat] + 1)).map fun x => [.v (I x)]), OV.sl n6 1 ((s.cB.set k.toNat false).map fun x => [.v (.bool x)])]) (k := k.toNat) (enew := [.v (I 0), .v (I 0), .nil 1]) (eM.nil _) (by omega)
 have wn4 := wn3.aYO ([jZ, .v (.int .i64 s.bF.b8), .v (.int .i64 s.bF.aX), mD, kN] ++ [OV.sl n5 1 ((s.aY.set k.toNat (s.aY[k.toNat] + 1)).map fun x => [.v (I x)]), OV.sl n6 1 ((s.cB.set k.toNat false).map fun x => [.v (.bool x)]), OV.sl n7 3 (es.set k.toNat [.v (I 0), .v (I 0), .nil 1])]) (c := I) (l' := s.b9.set k.toNat (-1))
 have hcs := aHB es k.toNat [.v (I 0), .v (I 0), .nil 1] _ rfl
 simp only [aP, aT, OV.aS, OV.pZ] at hcs
 have bR7 : (OV.cells es).set k.toNat [.v (I 0), .v (I 0), .v (.sl 1 [] true)] = OV.cells (es.set k.toNat [.v (I 0), .v (I 0), .nil 1]) := hcs
 have wk7 := gD.setAt (xs := [I 0, I 0, .bC]) (ys := [I 0, I 0, .sl 1 [] true]) (.cons (.refl _) (.cons (.refl _) (.cons (Sub.nil 1 true) .nil))) (OV.cells es) k.toNat
 simp only [List.map_cons, List.map_nil] at wk7
 refine fO.shift (K' := fun r h' => ∃ g1 : aB, g1.wk h' ∧ a09 h0 nb 9 (fun v e' => (s.aY[k.toNat]? = some 50 → v = .bool false ∧ s.o e') ∧ (¬ s.aY[k.toNat]? = some 50 → v = .bool true ∧ (mW s k).o e')) r g1) ?_ fun r h' q => q
 refine wJ 41 bEC bR5 bR6 mix Tryz.func29 rfl (by kernel_rfl) (by simp) ?_
 simp -dsimp -implicitDefEqProofs only [go_sem, ↓reduceIte, Tryz.f29]
 simp -dsimp -implicitDefEqProofs only [go_sem, ↓reduceIte, Tryz.f29, OV.aO, OV.aE, OV.aS, aF, aC, oM.flat, oM.one, pU.flat, pU.one, oN.flat, oN.one, oO.flat, oO.one, pF.flat, pF.one, oQ.flat, oQ.one, oT.flat, oT.one, s8, lT, yE, yG, s7, yH, yJ, yL, lS, yI, yN, yP, yD, yK, yO, yR, yF, yM, yQ, yS, iS, aP, aT, gk, gs, go, hv5, hv6, hv7, hv8, g5, g6, g7, g8, hck]
 refine ⟨hk1, by omega, fun hq => ?_, fun hq => ?_⟩
 ·exact ⟨_, aB.le_refl _, _, aB.jA (aB.le_refl _), _, g, ⟨fun _ => ⟨rfl, oe⟩, fun z => absurd (by rw [hq]) z⟩, by simp only [iS, aP, aT, OV.aS, hv5, hv6, hv7, hv8], hnb, wn⟩
 rw [IntWalk.i64_in _ (by omega)]
 refine ⟨hk1, by omega, hk1, by omega, hk1, by omega, hk1, by omega, hk1, by omega, ?_⟩
 rw [aB9 aD.bool, aB9 I, aB9 I]
 have ef : (mW s k).bF = s.bF := rfl
 refine ⟨_, aB.le_refl _, _, ?hl, [jZ, .v (I s.bF.b8), .v (I s.bF.aX), mD, kN, OV.sl n5 1 ((s.aY.set k.toNat (s.aY[k.toNat] + 1)).map fun x => [.v (I x)]), OV.sl n6 1 ((s.cB.set k.toNat false).map fun x => [.v (.bool x)]), OV.sl n7 3 (es.set k.toNat [.v (I 0), .v (I 0), .nil 1]), OV.sl n8 1 ((s.b9.set k.toNat (-1)).map fun x => [.v (I x)])], _, ⟨fun z => absurd (Option.some.inj z) hq, fun _ => ⟨rfl, jZ, mD, kN, _, _, _, _, rfl, oM, pU, oN, OS.mk (by rw [mW, gd]; exact uZ (s.aY.set k.toNat (s.aY[k.toNat] + 1))), OS.mk (uZ (s.cB.set k.toNat false)), OS.mk (hor.set k.toNat ⟨0, 0, []⟩ _ ⟨.nil 1, rfl, OS.nil⟩), OS.mk (uZ (s.b9.set k.toNat (-1)))⟩⟩, rfl, ?hn, wn4⟩
 case hl =>
  simp only [iS, aP, aT, OV.aS, OV.p9, List.length_map, List.length_set, ef]
  refine aB.wk.trans (aB.jA ?_) (aB.aF4 (g := bK (bK (bK (bK (bK g nb (.row 9 [[.v jZ.val, .v (I s.bF.b8), .v (I s.bF.aX), .v mD.val, .v kN.val, .v (.os n5 1 0 s.aY.length), .v (.os n6 1 0 s.cB.length), .v (.os n7 3 0 es.length), .v (.os n8 1 0 s.b9.length)]])) n5 (.row 1 (((s.aY.set k.toNat (s.aY[k.toNat] + 1)).map fun x => [I x]).map (List.map .v)))) n6 (.row 1 (((s.cB.set k.toNat false).map fun x => [aD.bool x]).map (List.map .v)))) n7 (.row 3 (OV.cells (es.set k.toNat [.v (I 0), .v (I 0), .nil 1])))) n8 (.row 1 (((s.b9.set k.toNat (-1)).map fun x => [I x]).map (List.map .v)))) (m := n7) (sz := 3) (es := (OV.cells es).set k.toNat [.v (I 0), .v (I 0), .v .bC]) (es' := OV.cells (es.set k.toNat [.v (I 0), .v (I 0), .nil 1])) (fun q hq => by simp only [dZ, if_neg hq]) (by simp only [dZ, ↓reduceIte, s8, lT, yE, yG, s7, yH, yJ, yL, lS, yI, yN, yP, yD, yK, yO, yR, yF, yM, yQ, yS]) (by simp only [dZ, ↓reduceIte, s8, lT, yE, yG, s7, yH, yJ, yL, lS, yI, yN, yP, yD, yK, yO, yR, yF, yM, yQ, yS]) (by rw [← bR7]; exact wk7))
  exact aB.le_trans (aB.fT (aB.fT aHQ)) (jJ (by repeat' (first | exact gJ _ _ | refine jK (by simp only [dZ, ↓reduceIte, eq_self, if_true, s8, lT, yE, yG, s7, yH, yJ, yL, lS, yI, yN, yP, yD, yK, yO, yR, yF, yM, yQ, yS]) ?_ | refine fM (by first | exact .inr (by assumption) | exact .inl (by simp)) ?_)))
 case hn =>
  rw [aC _ _ _ _ aEP]
  exact aB.le_none aHQ (by rw [aC _ _ _ _ aEN, aC _ _ _ _ mX, aC _ _ _ _ yC]; exact hnb)
open Go.Proofs
set_option linter.unusedVariables false
set_option linter.unusedSimpArgs false
theorem aR.aMM {s : aR} (h : s.ok) : ∀ x ∈ s.aY, 0 ≤ x ∧ x ≤ 50 := by
 intro x hx
 obtain ⟨k, hk, rfl⟩ := List.mem_iff_getElem.1 hx
 have l := h.2.1
 exact (h.2.2 k s.aY[k] (s.b9[k]'(by omega)) (s.cB[k]'(by omega)) (s.b7[k]'(by omega)) (List.getElem?_eq_getElem hk) (List.getElem?_eq_getElem _) (List.getElem?_eq_getElem _) (List.getElem?_eq_getElem _)).1
open Go.Proofs
set_option linter.unusedVariables false
set_option linter.unusedSimpArgs false
theorem a93 (n : Int) : n.tmod 1000003 = n % 1000003 ∨ n.tmod 1000003 = n % 1000003 - 1000003 := by
 by_cases h : 0 ≤ n
 ·exact .inl (Int.tmod_eq_emod_of_nonneg h)
 ·have h1 : n.tmod 1000003 = -((-n) % 1000003) := by
   have h2 : n = -(-n) := by omega
   rw [h2, Int.neg_tmod, Int.tmod_eq_emod_of_nonneg (by omega), Int.neg_neg]
  rw [h1]; omega
@[go_sem] def a6N : List Nat := [0, 2]
@[go_sem] def bKW : List Nat := []
@[go_sem] def bKX : Marks := fun _ => ([], .nil, [])
theorem iD (n : Int) : e8 Tryz.prog 166 [I n] (I (n % 1000003)) := by
 refine eI 7 a6N bKW bKX mix Tryz.func166 rfl (by kernel_rfl) (by simp) fun h => ?_
 simp -dsimp -implicitDefEqProofs only [go_sem, ↓reduceIte, Tryz.f166]
 rcases a93 n with h | h
 all_goals
  rw [h, IntWalk.i64_in _ (by omega), Int.tmod_eq_emod_of_nonneg (by omega)]
  omega
@[go_sem] def a6O : List Nat := [0, 2, 3, 7]
@[go_sem] def bKY : List Nat := []
@[go_sem] def bKZ : Marks := fun _ => ([], .nil, [])
theorem dI (n : Int) : e8 Tryz.prog 159 [I n] (I (n % 1000003)) := by
 refine eI 11 a6O bKY bKZ mix Tryz.func159 rfl (by kernel_rfl) (by simp) fun h => ?_
 simp -dsimp -implicitDefEqProofs only [go_sem, ↓reduceIte, Tryz.f159]
 rcases a93 n with h | h
 all_goals
  rw [h]
  refine ⟨fun q => ?_, fun q => ?_⟩
  all_goals first | omega | (rw [IntWalk.i64_in _ (by omega)]; omega)
@[go_sem] def a6P : List Nat := [0, 1, 4]
@[go_sem] def bK0 : List Nat := []
@[go_sem] def bK1 : Marks := fun _ => ([], .nil, [])
theorem aRT (a b : Int) : e8 Tryz.prog 160 [I a, I b] (I ((a + b) % 1000003)) := by
 refine eI 11 a6P bK0 bK1 mix Tryz.func160 rfl (by kernel_rfl) (by simp) fun h => ?_
 simp -dsimp -implicitDefEqProofs only [go_sem, ↓reduceIte, Tryz.f160]
 first | refine aJ.mk (iD a) ?_ | refine aL.mk (iD a) ?_ | refine aJ.dF (iD a) ?_ | refine aL.mk (cZ.gC (iD a)) ?_
 simp -dsimp -implicitDefEqProofs only [go_sem, ↓reduceIte, Tryz.f160]
 first | refine aJ.mk (iD b) ?_ | refine aL.mk (iD b) ?_ | refine aJ.dF (iD b) ?_ | refine aL.mk (cZ.gC (iD b)) ?_
 simp -dsimp -implicitDefEqProofs only [go_sem, ↓reduceIte, Tryz.f160]
 rw [IntWalk.i64_in _ (by omega), Int.tmod_eq_emod_of_nonneg (by omega)]
 omega
@[go_sem] def a6Q : List Nat := [0, 1, 4]
@[go_sem] def bK2 : List Nat := []
@[go_sem] def bK3 : Marks := fun _ => ([], .nil, [])
theorem hP (a b : Int) : e8 Tryz.prog 156 [I a, I b] (I ((a + b) % 1000003)) := by
 refine eI 11 a6Q bK2 bK3 mix Tryz.func156 rfl (by kernel_rfl) (by simp) fun h => ?_
 simp -dsimp -implicitDefEqProofs only [go_sem, ↓reduceIte, Tryz.f156]
 first | refine aJ.mk (dI a) ?_ | refine aL.mk (dI a) ?_ | refine aJ.dF (dI a) ?_ | refine aL.mk (cZ.gC (dI a)) ?_
 simp -dsimp -implicitDefEqProofs only [go_sem, ↓reduceIte, Tryz.f156]
 first | refine aJ.mk (dI b) ?_ | refine aL.mk (dI b) ?_ | refine aJ.dF (dI b) ?_ | refine aL.mk (cZ.gC (dI b)) ?_
 simp -dsimp -implicitDefEqProofs only [go_sem, ↓reduceIte, Tryz.f156]
 rw [IntWalk.i64_in _ (by omega), Int.tmod_eq_emod_of_nonneg (by omega)]
 omega
def aAT (a b : List Int) : List Int := List.zipWith (fun x y => (x + y) % 1000003) a b
theorem a17 {a b : List Int} (h : b.length = a.length) : (aAT a b).length = a.length := by simp [aAT, h]
open Go.Proofs
set_option linter.unusedVariables false
set_option linter.unusedSimpArgs false
def fK (n : Nat) (s : List Int) : Prop := s.length = n ∧ pB s
def wP (a : List Int) (n : Int) : List Int := a.map fun x => x * n % 1000003
def bED (a b : List Int) : List Int := aAT a (wP b 1000002)
def cvS (a b : List Int) (k : Nat) : Nat → Int
 |0 => 0
 |i + 1 => (cvS a b k i + a.getD i 0 * b.getD (k - i) 0) % 1000003
def mulL (a b : List Int) : List Int := (List.range a.length).map fun k => cvS a b k (k + 1)
def pwN (b : Int) (n : Nat) : Int := b ^ n % 1000003
def sF (x : Int) : Int := pwN (x % 1000003) 1000001
def dvS (o b : List Int) (k : Nat) (r : Int) : Nat → Int
 |0 => r
 |i + 1 => (dvS o b k r i - o.getD i 0 * b.getD (k - i) 0) % 1000003
def oU (a b : List Int) : Nat → List Int
 |0 => []
 |k + 1 => oU a b k ++ [dvS (oU a b k) b k (a.getD k 0) k * sF (b.getD 0 0) % 1000003]
def xA (a b : List Int) : List Int := oU a b a.length
def tU (n : Int) (sz : Nat) : List Int := (List.replicate sz 0).set 0 n
def dE : aA := .mk 0 0 0 0 []
def aA.pV (e : aA) (i : Nat) : aA := e.aM.getD i dE
def aI.outs (p : aI) (f : Int) : List aA := ((p.aH[f.toNat]?).map (·.aZ)).getD []
def aI.out (p : aI) (f i : Int) : aA := (p.outs f).getD i.toNat dE
abbrev Out (α : Type) := Except Int (α × Nat)
def Out.andThen {α β : Type} (x : Out α) (f : α → Nat → Out β) : Out β := match x with
 | .ok (a, t) => f a t
 | .error c => .error c
def sG (ev : Nat → aA → Out (List Int)) : List aA → Nat → Out (List (List Int))
 | [], t => .ok ([], t)
 |e :: l, t => (ev t e).andThen fun v t => (sG ev l t).andThen fun vs t => .ok (v :: vs, t)
def aAU (f : List (List Int) → Nat → Out (List (List Int))) : Nat → List (List Int) → Nat → Out (List (List Int))
 |0, vs, t => .ok (vs, t)
 |n + 1, vs, t => (f vs t).andThen fun vs t => aAU f n vs t
def opE (k : Int) (vs : List (List Int)) (t : Nat) : Out (List Int) :=
 if k = 3 then .ok (aAT (vs.getD 0 []) (vs.getD 1 []), t)
 else if k = 4 then .ok (bED (vs.getD 0 []) (vs.getD 1 []), t)
 else if k = 5 then .ok (mulL (vs.getD 0 []) (vs.getD 1 []), t)
 else if k = 7 then .ok (wP (vs.getD 0 []) 1000002, t)
 else if (vs.getD 1 []).getD 0 0 = 0 then .error 6
 else .ok (xA (vs.getD 0 []) (vs.getD 1 []), t)
def mY (p : aI) (sz : Nat) : Nat → Nat → aA → List (List Int) → Out (List Int)
 |0, _, _, _ => .error 7
 |n + 1, t, e, env =>
  if t = 3000 then .error 7
  else if e.a6 = 1 then .ok (tU e.bQ sz, t + 1)
  else if e.a6 = 2 then .ok (env.getD e.bQ.toNat [], t + 1)
  else if e.a6 = 8 then (mY p sz n (t + 1) (e.pV 0) env).andThen fun c t => if c.getD 0 0 = 0 then mY p sz n t (e.pV 1) env else mY p sz n t (e.pV 2) env
  else if e.a6 = 9 then (mY p sz n (t + 1) (e.pV 0) env).andThen fun v t => mY p sz n t (e.pV 1) (env ++ [v])
  else (sG (fun t e => mY p sz n t e env) e.aM (t + 1)).andThen fun vs t =>
   if e.a6 = 10 then mY p sz n t (p.out e.bQ e.c9) vs
   else if e.a6 = 11 then (aAU (fun vs t => sG (fun t e => mY p sz n t e vs) (p.outs e.bQ) t) e.cU.toNat vs t).andThen fun vs t => .ok (vs.getD e.c9.toNat [], t)
   else opE e.a6 vs t
def lN {α : Type} (X : Out α) (v : α) (t : Nat) (c : Int) : Prop := match X with
 | .ok (w, u) => c = 0 ∧ v = w ∧ t = u
 | .error d => c = d ∧ d ≠ 0
def sZ {α : Type} (c : Int) (X : Out α) : Out α := if c = 0 then X else .error c
theorem fD {α : Type} (X : Out α) : sZ 0 X = X := if_pos rfl
theorem lU {α : Type} {c : Int} (X : Out α) (h : ¬ c = 0) : sZ c X = .error c := if_neg h
theorem jB {α : Type} {c : Int} (v : α) (t : Nat) (h : ¬ c = 0) : lN (.error c : Out α) v t c := ⟨rfl, h⟩
theorem uC {α : Type} (v : α) (t : Nat) : lN (.ok (v, t) : Out α) v t 0 := ⟨rfl, rfl, rfl⟩
theorem jE {α : Type} (v : α) (t : Nat) (c : Int) : lN (sZ c (.ok (v, t))) v t c := by
 by_cases e : c = 0
 ·subst e; rw [fD]; exact uC v t
 ·rw [lU _ e]; exact jB v t e
theorem lN.then {α β : Type} {X : Out α} {F : α → Nat → Out β} {v : α} {t : Nat} {c : Int} {v2 : β} {t2 : Nat} {c2 : Int} (h : lN X v t c) (h2 : lN (sZ c (F v t)) v2 t2 c2) : lN (X.andThen F) v2 t2 c2 := by
 cases X with
 |ok p =>
  obtain ⟨w, u⟩ := p
  obtain ⟨rfl, rfl, rfl⟩ := h
  rw [fD] at h2
  exact h2
 |error d =>
  obtain ⟨rfl, h⟩ := h
  rw [lU _ h] at h2
  exact h2
theorem lN.err {α : Type} {X : Out α} {v : α} {t : Nat} {c : Int} (h : lN X v t c) (hc : ¬ c = 0) : X = .error c := by
 cases X with
 |ok p => exact absurd h.1 hc
 |error d => rw [h.1]
theorem lN.fQ {α β : Type} {c0 : Int} {X : Out α} {F : α → Nat → Out β} {v : α} {t : Nat} {c : Int} {v2 : β} {t2 : Nat} {c2 : Int} (h : lN (sZ c0 X) v t c) (h2 : lN (sZ c (F v t)) v2 t2 c2) : lN (sZ c0 (X.andThen F)) v2 t2 c2 := by
 by_cases e : c0 = 0
 ·subst e
  rw [fD] at h ⊢
  exact h.then h2
 ·rw [lU _ e] at h ⊢
  obtain ⟨rfl, h⟩ := h
  rw [lU _ h] at h2
  exact h2
theorem lN.bK5 {α : Type} {c0 : Int} {X : Out α} {v : α} {t : Nat} {c : Int} (h : lN (sZ c0 X) v t c) (hc : c = 0) : c0 = 0 := by
 by_cases e : c0 = 0
 ·exact e
 ·rw [lU _ e] at h
  exact h.1.symm.trans hc
theorem Out.lO {α β γ : Type} (x : Out α) (f : α → Nat → Out β) (g : β → Nat → Out γ) : (x.andThen f).andThen g = x.andThen fun a t => (f a t).andThen g := by
 cases x <;> rfl
theorem Out.andThen_ok {α β : Type} (a : α) (t : Nat) (f : α → Nat → Out β) : Out.andThen (.ok (a, t)) f = f a t := rfl
theorem aBB (ev : Nat → aA → Out (List Int)) (e : aA) : ∀ (l : List aA) (t : Nat), sG ev (l ++ [e]) t = (sG ev l t).andThen fun vs t => (ev t e).andThen fun v t => .ok (vs ++ [v], t)
 | [], t => rfl
 |x :: l, t => by
  simp only [List.cons_append, sG, aBB ev e l, Out.lO, Out.andThen_ok]
theorem aKK (f : List (List Int) → Nat → Out (List (List Int))) : ∀ (n : Nat) (vs : List (List Int)) (t : Nat), aAU f (n + 1) vs t = (aAU f n vs t).andThen f
 |0, vs, t => by
  show (f vs t).andThen (fun vs t => .ok (vs, t)) = f vs t
  cases f vs t with
  |ok p => rfl
  |error c => rfl
 |n + 1, vs, t => by
  show (f vs t).andThen (fun vs t => aAU f (n + 1) vs t) = ((f vs t).andThen fun vs t => aAU f n vs t).andThen f
  rw [Out.lO]
  congr 1
  funext a t
  exact aKK f n a t
theorem r6 (n : Int) : nZ (n % 1000003) := by unfold nZ; omega
theorem fK.len {n : Nat} {s : List Int} (h : fK n s) : s.length = n := h.1
theorem aMN {n : Nat} {a b : List Int} (ha : fK n a) (hb : fK n b) : fK n (aAT a b) := by
 refine ⟨by simp [aAT, ha.1, hb.1], fun x hx => ?_⟩
 obtain ⟨i, hi, rfl⟩ := List.mem_iff_getElem.1 hx
 simp only [aAT, List.getElem_zipWith]
 exact r6 _
theorem uJ {n : Nat} {a : List Int} (k : Int) (ha : fK n a) : fK n (wP a k) := by
 refine ⟨by simp [wP, ha.1], fun x hx => ?_⟩
 obtain ⟨y, _, rfl⟩ := List.mem_map.1 hx
 exact r6 _
theorem aY0 {n : Nat} {a b : List Int} (ha : fK n a) (hb : fK n b) : fK n (bED a b) := aMN ha (uJ _ hb)
theorem bEE (a b : List Int) (k : Nat) : ∀ i, nZ (cvS a b k i)
 |0 => by unfold cvS nZ; omega
 |i + 1 => r6 _
theorem aY1 {n : Nat} {a : List Int} (b : List Int) (ha : fK n a) : fK n (mulL a b) := by
 refine ⟨by simp [mulL, ha.1], fun x hx => ?_⟩
 obtain ⟨k, _, rfl⟩ := List.mem_map.1 hx
 exact bEE _ _ _ _
theorem pW (a b : List Int) : ∀ k, (oU a b k).length = k
 |0 => rfl
 |k + 1 => by rw [oU, List.length_append, pW a b k]; rfl
theorem xB (a b : List Int) : ∀ k, pB (oU a b k)
 |0 => fun x hx => by cases hx
 |k + 1 => fun x hx => by
  rw [oU, List.mem_append, List.mem_singleton] at hx
  rcases hx with hx | rfl
  ·exact xB a b k x hx
  ·exact r6 _
theorem aY2 {n : Nat} {a : List Int} (b : List Int) (ha : fK n a) : fK n (xA a b) := ⟨by rw [xA, pW, ha.1], xB _ _ _⟩
theorem tH {n : Int} {sz : Nat} (h : nZ n) : fK sz (tU n sz) := by
 refine ⟨by simp [tU], fun x hx => ?_⟩
 rw [tU] at hx
 rcases List.mem_or_eq_of_mem_set hx with hx | rfl
 ·have := (List.mem_replicate.1 hx).2
  subst this; unfold nZ; omega
 ·exact h
theorem pB.get {l : List Int} (h : pB l) (i : Nat) : nZ (l.getD i 0) := by
 rw [List.getD_eq_getElem?_getD]
 rcases Nat.lt_or_ge i l.length with hi | hi
 ·rw [List.getElem?_eq_getElem hi]; exact h _ (List.getElem_mem hi)
 ·rw [List.getElem?_eq_none hi]; unfold nZ; simp
def hR (s s' : List Int) : Prop := (s = [] ∧ s' = []) ∨ ∃ x a b, s = x :: a ∧ s' = x :: b
theorem bEF : hR [] [] := .inl ⟨rfl, rfl⟩
def eR : List (List Int) → List (List Int) → Prop
 | [], [] => True
 |s :: l, s' :: l' => hR s s' ∧ eR l l'
 | _, _ => False
theorem eR.get : ∀ {l l' : List (List Int)}, eR l l' → ∀ i, hR (l.getD i []) (l'.getD i [])
 | [], [], _, i => by simp [bEF]
 |s :: l, s' :: l', h, 0 => h.1
 |s :: l, s' :: l', h, i + 1 => by simpa using eR.get h.2 i
 | [], _ :: _, h, _ => h.elim
 | _ :: _, [], h, _ => h.elim
theorem eR.len : ∀ {l l' : List (List Int)}, eR l l' → l.length = l'.length
 | [], [], _ => rfl
 |s :: l, s' :: l', h => by simp [eR.len h.2]
 | [], _ :: _, h => h.elim
 | _ :: _, [], h => h.elim
def evF (p : aI) (sz : Nat) (f : Int) (args : List (List Int)) : Out (List (List Int)) := sG (fun t e => mY p sz 3001 t e args) (p.outs f) 0
theorem a18 (b : Int) : ∀ n : Nat, (b % 1000003) ^ n % 1000003 = b ^ n % 1000003
 |0 => by rw [Int.pow_zero, Int.pow_zero]
 |n + 1 => by
  rw [Int.pow_succ, Int.pow_succ, Int.mul_emod, a18 b n, Int.emod_emod_of_dvd _ (Int.dvd_refl _), ← Int.mul_emod]
theorem aW3 (x b : Int) (n : Nat) : x * b ^ n % 1000003 = (if n % 2 = 1 then x * b % 1000003 else x) * (b * b % 1000003) ^ (n / 2) % 1000003 := by
 have h2 : b ^ n = (b * b) ^ (n / 2) * b ^ (n % 2) := by
  rw [show b * b = b ^ 2 by rw [Int.pow_succ, Int.pow_succ, Int.pow_zero, Int.one_mul], ← Int.pow_mul, ← Int.pow_add]
  congr 1; omega
 have h3 : ∀ y : Int, y * (b * b % 1000003) ^ (n / 2) % 1000003 = y * (b * b) ^ (n / 2) % 1000003 := fun y => by
  rw [Int.mul_emod, a18, ← Int.mul_emod]
 rw [h3, h2]
 split
 ·rename_i h
  rw [h, Int.pow_succ, Int.pow_zero, Int.one_mul, Int.mul_emod (x * b % 1000003), Int.emod_emod_of_dvd _ (Int.dvd_refl _), ← Int.mul_emod]
  congr 1
  rw [Int.mul_comm ((b * b) ^ (n / 2)) b, Int.mul_assoc]
 ·rename_i h
  have : n % 2 = 0 := by omega
  rw [this, Int.pow_zero, Int.mul_one]
theorem aW4 (x b : Int) (hx : 0 ≤ x ∧ x < 1000003) : x * b ^ 0 % 1000003 = x := by
 rw [Int.pow_zero, Int.mul_one]; omega
theorem a19 {x b m T : Int} (hm : 0 ≤ m) (h : m % 2 = 1) (hp : x * b ^ m.toNat % 1000003 = T) : (x * b % 1000003) * (b * b % 1000003) ^ (m / 2).toNat % 1000003 = T := by
 rw [← hp, aW3 x b m.toNat, if_pos (by omega), show (m / 2).toNat = m.toNat / 2 by omega]
theorem aW5 {x b m T : Int} (hm : 0 ≤ m) (h : ¬ m % 2 = 1) (hp : x * b ^ m.toNat % 1000003 = T) : x * (b * b % 1000003) ^ (m / 2).toNat % 1000003 = T := by
 rw [← hp, aW3 x b m.toNat, if_neg (by omega), show (m / 2).toNat = m.toNat / 2 by omega]
theorem aRU (y : Int) : 0 ≤ y % 1000003 ∧ y % 1000003 < 1000003 := by omega
theorem eZ {l : List Int} {i : Nat} (h : i < l.length) : l[i]? = some (l.getD i 0) := by
 rw [List.getD_eq_getElem?_getD, List.getElem?_eq_getElem h]; rfl
theorem num_inv (x : Int) : nZ (sF x) := r6 _
theorem aAV (o b : List Int) (k : Nat) {r : Int} (hr : nZ r) : ∀ i, nZ (dvS o b k r i)
 |0 => hr
 |i + 1 => r6 _
theorem aGD (a b : List Int) {k : Nat} : ∀ n, k ≤ n → (oU a b n).take k = oU a b k
 |0, h => by
  have : k = 0 := by omega
  subst this; rfl
 |n + 1, h => by
  rcases Nat.lt_or_ge k (n + 1) with h1 | h1
  ·rw [oU, List.take_append_of_le_length (by rw [pW]; omega), aGD a b n (by omega)]
  ·have : k = n + 1 := by omega
   subst this
   rw [List.take_of_length_le (by rw [pW]; omega)]
theorem aAW (a b : List Int) : (xA a b).length = a.length := pW _ _ _
theorem a6R (a b : List Int) {k : Nat} (hk : k ≤ a.length) : upL (xA a b) k = oU a b k ++ List.replicate (a.length - k) 0 := by
 rw [upL, aAW, xA, aGD a b _ hk]
theorem aRV {a b : List Int} {k i : Nat} (hk : k ≤ a.length) (hi : i < k) : (upL (xA a b) k)[i]? = some ((oU a b k).getD i 0) := by
 rw [a6R a b hk, List.getElem?_append_left (by rw [pW]; exact hi)]
 exact eZ (by rw [pW]; exact hi)
theorem a2A {a b : List Int} {k : Nat} (hk : k < a.length) : (xA a b)[k]'(by rw [aAW]; exact hk) = dvS (oU a b k) b k (a.getD k 0) k * sF (b.getD 0 0) % 1000003 := by
 have h := aRV (a := a) (b := b) (k := k + 1) (i := k) (by omega) (by omega)
 have h2 : (oU a b (k + 1)).getD k 0 = dvS (oU a b k) b k (a.getD k 0) k * sF (b.getD 0 0) % 1000003 := by
  rw [oU, List.getD_eq_getElem?_getD, List.getElem?_append_right (by rw [pW]; omega), pW, Nat.sub_self]; rfl
 rw [h2, upL, List.getElem?_append_left (by rw [List.length_take, aAW]; omega), List.getElem?_take_of_lt (by omega), List.getElem?_eq_getElem (by rw [aAW]; exact hk)] at h
 exact Option.some.inj h
theorem num_mul {x y : Int} (hx : nZ x) (hy : nZ y) : 0 ≤ x * y ∧ x * y ≤ 1000004000004 := by
 refine ⟨Int.mul_nonneg hx.1 hy.1, ?_⟩
 have := Int.mul_le_mul hx.2 hy.2 hy.1 (by omega)
 omega
theorem aAX (a : List Int) (n : Int) : (wP a n).length = a.length := by simp [wP]
theorem a2B (a b : List Int) : (mulL a b).length = a.length := by simp [mulL]
theorem a6S {n : Int} (h0 : 0 ≤ n) (h1 : n ≤ 9223372036854775807) : (IntKind.i64.wrap n).tmod 1000003 = n % 1000003 := by
 rw [IntWalk.i64_in _ (by omega), Int.tmod_eq_emod_of_nonneg h0]
theorem a94 {p : aI} {sz n st : Nat} {e : aA} {env : List (List Int)} (h3 : ¬ st = 3000) (hk : e.a6 = 1) : mY p sz (n + 1) st e env = .ok (tU e.bQ sz, st + 1) := by rw [mY, if_neg h3, if_pos hk]
theorem a95 {p : aI} {sz n st : Nat} {e : aA} {env : List (List Int)} (h3 : ¬ st = 3000) (hk : e.a6 = 2) : mY p sz (n + 1) st e env = .ok (env.getD e.bQ.toNat [], st + 1) := by rw [mY, if_neg h3, if_neg (by omega), if_pos hk]
theorem a2C {p : aI} {sz n st : Nat} {e : aA} {env : List (List Int)} (h3 : ¬ st = 3000) (hk : e.a6 = 8) : mY p sz (n + 1) st e env = (mY p sz n (st + 1) (e.pV 0) env).andThen fun c t => if c.getD 0 0 = 0 then mY p sz n t (e.pV 1) env else mY p sz n t (e.pV 2) env := by rw [mY, if_neg h3, if_neg (by omega), if_neg (by omega), if_pos hk]
theorem a96 {p : aI} {sz n st : Nat} {e : aA} {env : List (List Int)} (h3 : ¬ st = 3000) (hk : e.a6 = 9) : mY p sz (n + 1) st e env = (mY p sz n (st + 1) (e.pV 0) env).andThen fun v t => mY p sz n t (e.pV 1) (env ++ [v]) := by rw [mY, if_neg h3, if_neg (by omega), if_neg (by omega), if_neg (by omega), if_pos hk]
theorem a2D {p : aI} {sz n st : Nat} {e : aA} {env : List (List Int)} (h3 : ¬ st = 3000) (hk : e.a6 = 10) : mY p sz (n + 1) st e env = (sG (fun t e => mY p sz n t e env) e.aM (st + 1)).andThen fun vs t => mY p sz n t (p.out e.bQ e.c9) vs := by
 rw [mY, if_neg h3, if_neg (by omega), if_neg (by omega), if_neg (by omega), if_neg (by omega)]; simp only [if_pos hk]
theorem a2E {p : aI} {sz n st : Nat} {e : aA} {env : List (List Int)} (h3 : ¬ st = 3000) (hk : e.a6 = 11) : mY p sz (n + 1) st e env = (sG (fun t e => mY p sz n t e env) e.aM (st + 1)).andThen fun vs t => (aAU (fun vs t => sG (fun t e => mY p sz n t e vs) (p.outs e.bQ) t) e.cU.toNat vs t).andThen fun vs t => .ok (vs.getD e.c9.toNat [], t) := by
 have h : ¬ e.a6 = 10 := by omega
 rw [mY, if_neg h3, if_neg (by omega), if_neg (by omega), if_neg (by omega), if_neg (by omega)]; simp only [if_neg h, if_pos hk]
theorem aUR {p : aI} {sz n st : Nat} {e : aA} {env : List (List Int)} (h3 : ¬ st = 3000) (hk : e.a6 = 3 ∨ e.a6 = 4 ∨ e.a6 = 5 ∨ e.a6 = 6 ∨ e.a6 = 7) : mY p sz (n + 1) st e env = (sG (fun t e => mY p sz n t e env) e.aM (st + 1)).andThen fun vs t => opE e.a6 vs t := by
 have h : ¬ e.a6 = 10 := by omega
 have h2 : ¬ e.a6 = 11 := by omega
 rw [mY, if_neg h3, if_neg (by omega), if_neg (by omega), if_neg (by omega), if_neg (by omega)]; simp only [if_neg h, if_neg h2]
theorem aA.iX {e : aA} {i : Nat} (h : i < e.aM.length) : e.aM[i]? = some (e.pV i) := by
 rw [aA.pV, List.getD_eq_getElem?_getD, List.getElem?_eq_getElem h]; rfl
theorem aA.vC {e : aA} {i : Nat} (h : i < e.aM.length) : e.pV i = e.aM[i] := by
 have := aA.iX h
 rw [List.getElem?_eq_getElem h] at this
 exact (Option.some.inj this).symm
theorem aA.gX {p : aI} {funcs vars : Int} {e : aA} {i : Nat} (hok : e.ok p funcs vars) (h : i < e.aM.length) : (e.pV i).ok p funcs (mP e.a6 i vars) := by
 rw [aA.vC h]; exact ((aA.eP _ _ _ _).1 hok).2 i h
theorem aA.ld5 (x : aA) : (if 5 ≤ x.c.length then some (aD.agg (List.take 5 x.c)) else none) = some (.agg x.c) := by
 rw [if_pos (by rw [aA.aI7]; exact Nat.le_refl _), List.take_of_length_le (by rw [aA.aI7]; exact Nat.le_refl _)]
theorem kP {k : Int} {i : Nat} {v : Int} (h : ¬ (k = 9 ∧ i = 1)) : mP k i v = v := if_neg h
theorem aMO {sz : Nat} {env : List (List Int)} (h : ∀ s ∈ env, fK sz s) {i : Nat} (hi : i < env.length) : fK sz (env.getD i []) := by
 rw [List.getD_eq_getElem?_getD, List.getElem?_eq_getElem hi]; exact h _ (List.getElem_mem hi)
theorem aH2 {env : List (List Int)} {i : Nat} (hi : i < env.length) : env[i]? = some (env.getD i []) := by
 rw [List.getD_eq_getElem?_getD, List.getElem?_eq_getElem hi]; rfl
theorem fE {p : aI} {funcs vars : Int} {e : aA} (hok : e.ok p funcs vars) (hk : ¬ (e.a6 = 10 ∨ e.a6 = 11)) : gK e.a6 = e.aM.length := ((fP hk).1 ((aA.eP _ _ _ _).1 hok).1).1
theorem fU {p : aI} {funcs vars : Int} {e : aA} (hok : e.ok p funcs vars) (hk : ¬ e.a6 = 9) : ∀ x ∈ e.aM, x.ok p funcs vars := fun x hx => by
 obtain ⟨i, hi, rfl⟩ := List.mem_iff_getElem.1 hx
 have := ((aA.eP _ _ _ _).1 hok).2 i hi
 rwa [kP (fun q => hk q.1)] at this
structure bK7 (p : aI) (e : aA) (f : aV) : Prop where
 get : p.aH[e.bQ.toNat]? = some f
 lo : 0 ≤ e.bQ
 hi : e.bQ < p.aH.length
 pk : 0 ≤ e.c9
 pk2 : e.c9.toNat < f.aZ.length
 kids : (e.aM.length : Int) = f.bE
 params : 0 ≤ f.bE ∧ f.bE ≤ 12
 outs : 1 ≤ f.aZ.length ∧ f.aZ.length ≤ 12
 oks : ∀ x ∈ f.aZ, x.ok p e.bQ f.bE
 eq : p.outs e.bQ = f.aZ
 out : f.aZ[e.c9.toNat]? = some (p.out e.bQ e.c9)
 loop : e.a6 = 11 → 0 ≤ e.cU ∧ e.cU ≤ 8 ∧ (f.aZ.length : Int) = f.bE
theorem uD {p : aI} (hp : p.ok) {e : aA} {funcs vars : Int} (hok : e.ok p funcs vars) (hf : funcs ≤ p.aH.length) (hk : e.a6 = 10 ∨ e.a6 = 11) : ∃ f, bK7 p e f := by
 have h1 := ((aA.eP _ _ _ _).1 hok).1
 have h2 := h1
 unfold qB at h1
 rw [if_pos hk] at h1
 have hlt : e.bQ.toNat < p.aH.length := by omega
 have ef : p.aH[e.bQ.toNat]? = some p.aH[e.bQ.toNat] := List.getElem?_eq_getElem hlt
 rw [tG hk ef] at h2
 obtain ⟨n1, n2, n3, n4, n5, n6, n7⟩ := h2
 have hF := hp.2 _ _ ef
 have heq : p.outs e.bQ = p.aH[e.bQ.toNat].aZ := by rw [aI.outs, ef]; rfl
 refine ⟨_, ⟨ef, n1, by omega, n3, by omega, n5, hF.2.1, by have := hF.2.2.1; omega, fun x hx => ?_, heq, ?_, n7⟩⟩
 ·have := (hF.2.2.2.2.2 x hx).2.2.2.2
  rwa [show ((e.bQ.toNat : Nat) : Int) = e.bQ by omega] at this
 ·rw [aI.out, heq, List.getD_eq_getElem?_getD, List.getElem?_eq_getElem (by omega)]; rfl
def aGE {α : Type} (X : Out α) : Prop := ∀ c, X = .error c → c = 6 ∨ c = 7
theorem aGE.ok {α : Type} {v : α} {t : Nat} : aGE (.ok (v, t) : Out α) := fun c h => by cases h
theorem aGE.then {α β : Type} {X : Out α} {F : α → Nat → Out β} (h : aGE X) (hf : ∀ v t, aGE (F v t)) : aGE (X.andThen F) := fun c hc => by
 cases X with
 |ok p => exact hf p.1 p.2 c hc
 |error d => exact h c (by cases hc; rfl)
theorem aEW {ev : Nat → aA → Out (List Int)} (h : ∀ t e, aGE (ev t e)) : ∀ (l : List aA) (t : Nat), aGE (sG ev l t)
 | [], t => .ok
 |e :: l, t => (h t e).then fun v t => (aEW h l t).then fun vs t => .ok
theorem aKL {f : List (List Int) → Nat → Out (List (List Int))} (h : ∀ vs t, aGE (f vs t)) : ∀ (n : Nat) (vs : List (List Int)) (t : Nat), aGE (aAU f n vs t)
 |0, vs, t => .ok
 |n + 1, vs, t => (h vs t).then fun a t => aKL h n a t
theorem a6U (k : Int) (vs : List (List Int)) (t : Nat) : aGE (opE k vs t) := by
 unfold opE
 repeat' split
 all_goals first | exact .ok | (intro c h; cases h; exact .inl rfl)
theorem aW7 (p : aI) (sz : Nat) : ∀ (n t : Nat) (e : aA) (env : List (List Int)), aGE (mY p sz n t e env)
 |0, t, e, env => fun c h => by rw [mY] at h; cases h; exact .inr rfl
 |n + 1, t, e, env => by
  have ih := aW7 p sz n
  rw [mY]
  split
  ·intro c h; cases h; exact .inr rfl
  split
  ·exact .ok
  split
  ·exact .ok
  split
  ·refine (ih _ _ _).then fun v t => ?_
   split
   ·exact ih _ _ _
   ·exact ih _ _ _
  split
  ·exact (ih _ _ _).then fun v t => ih _ _ _
  refine (aEW (fun t e => ih t e env) _ _).then fun vs t => ?_
  split
  ·exact ih _ _ _
  split
  ·exact (aKL (fun vs t => aEW (fun t e => ih t e vs) _ t) _ _ _).then fun vs t => .ok
  ·exact a6U _ _ _
theorem aW8 (p : aI) (sz : Nat) (f : Int) (args : List (List Int)) : aGE (evF p sz f args) := aEW (fun t e => aW7 p sz 3001 t e args) _ _
def okP {α : Type} (P : α → Prop) (X : Out α) : Prop := ∀ v u, X = .ok (v, u) → P v
theorem okP.then {α β : Type} {P : α → Prop} {Q : β → Prop} {X : Out α} {F : α → Nat → Out β} (h : okP P X) (hf : ∀ v t, P v → okP Q (F v t)) : okP Q (X.andThen F) := fun w u hw => by
 cases X with
 |ok p => obtain ⟨v, t⟩ := p; exact hf v t (h v t rfl) w u hw
 |error c => cases hw
theorem okP.err {α : Type} {P : α → Prop} {c : Int} : okP P (.error c : Out α) := fun w u e => by cases e
def bK8 (sz n : Nat) (l : List (List Int)) : Prop := l.length = n ∧ ∀ s ∈ l, fK sz s
theorem bK8.get {sz n i : Nat} {l : List (List Int)} (h : bK8 sz n l) (hi : i < n) : fK sz (l.getD i []) := by
 rw [List.getD_eq_getElem?_getD, List.getElem?_eq_getElem (by rw [h.1]; exact hi)]; exact h.2 _ (List.getElem_mem _)
theorem xC {p : aI} {e : aA} {vars funcs : Int} (h : qB p e vars funcs) : e.a6 = 1 ∨ e.a6 = 2 ∨ e.a6 = 3 ∨ e.a6 = 4 ∨ e.a6 = 5 ∨ e.a6 = 6 ∨ e.a6 = 7 ∨ e.a6 = 8 ∨ e.a6 = 9 ∨ e.a6 = 10 ∨ e.a6 = 11 := by
 by_cases hk : e.a6 = 10 ∨ e.a6 = 11
 ·omega
 ·have h1 := ((fP hk).1 h).1
  unfold gK at h1
  repeat' (split at h1)
  all_goals omega
theorem aBC {p : aI} (hp : p.ok) {f : Int} (hf : 0 ≤ f ∧ f < p.aH.length) : ∃ F, p.aH[f.toNat]? = some F ∧ (1 ≤ F.aZ.length ∧ F.aZ.length ≤ 12) ∧ (0 ≤ F.bE ∧ F.bE ≤ 12) ∧ p.outs f = F.aZ ∧ ∀ x ∈ F.aZ, x.ok p f F.bE := by
 have hlt : f.toNat < p.aH.length := by omega
 have ef : p.aH[f.toNat]? = some p.aH[f.toNat] := List.getElem?_eq_getElem hlt
 have hF := hp.2 _ _ ef
 refine ⟨_, ef, by have := hF.2.2.1; omega, hF.2.1, by rw [aI.outs, ef]; rfl, fun x hx => ?_⟩
 have := (hF.2.2.2.2.2 x hx).2.2.2.2
 rwa [show ((f.toNat : Nat) : Int) = f by omega] at this
set_option maxRecDepth 100000
open Go.Proofs
set_option linter.unusedVariables false
set_option linter.unusedSimpArgs false
@[go_sem] def a6V : List Nat := [0, 1, 4]
@[go_sem] def bK9 : List Nat := []
@[go_sem] def bLA : Marks := fun _ => ([], .nil, [])
theorem minus (a b : Int) : e8 Tryz.prog 161 [I a, I b] (I ((a - b) % 1000003)) := by
 refine eI 10 a6V bK9 bLA mix Tryz.func161 rfl (by kernel_rfl) (by simp) fun h => ?_
 simp -dsimp -implicitDefEqProofs only [go_sem, ↓reduceIte, Tryz.f161]
 first | refine aJ.mk (iD b) ?_ | refine aL.mk (iD b) ?_ | refine aJ.dF (iD b) ?_ | refine aL.mk (cZ.gC (iD b)) ?_
 simp -dsimp -implicitDefEqProofs only [go_sem, ↓reduceIte, Tryz.f161]
 rw [IntWalk.i64_in _ (by omega)]
 first | refine aJ.mk (aRT a (1000003 - b % 1000003)) ?_ | refine aL.mk (aRT a (1000003 - b % 1000003)) ?_ | refine aJ.dF (aRT a (1000003 - b % 1000003)) ?_ | refine aL.mk (cZ.gC (aRT a (1000003 - b % 1000003))) ?_
 simp -dsimp -implicitDefEqProofs only [go_sem, ↓reduceIte, Tryz.f161]
 omega
@[go_sem] def aW9 : List Nat := [0, 1, 4, 5, 6, 8, 12, 17]
@[go_sem] def a97 : List Nat := []
@[go_sem] def a98 : Marks := fun _ => ([], .nil, [])
theorem Power (a n : Int) (hn : 0 ≤ n) (hn2 : n ≤ 4294967296) : e8 Tryz.prog 167 [I a, I n] (I (pwN (a % 1000003) n.toNat)) := by
 refine eI 27 aW9 a97 a98 mix Tryz.func167 rfl (by kernel_rfl) (by simp) fun h => ?_
 simp -dsimp -implicitDefEqProofs only [go_sem, ↓reduceIte, Tryz.f167]
 refine ⟨fun q => absurd q (by omega), fun _ => ?_⟩
 first | refine aJ.mk (iD a) ?_ | refine aL.mk (iD a) ?_ | refine aJ.dF (iD a) ?_ | refine aL.mk (cZ.gC (iD a)) ?_
 simp -dsimp -implicitDefEqProofs only [go_sem, ↓reduceIte, Tryz.f167]
 generalize hT : pwN (a % 1000003) n.toNat = T
 refine tF (keep := aW9) (ib := a97) (mk := a98) mix (by kernel_rfl) (fun x : Int × Int × Int => [(1, I x.2.2), (5, I x.1), (6, I x.2.1)]) (fun x => (0 ≤ x.1 ∧ x.1 < 1000003) ∧ (0 ≤ x.2.1 ∧ x.2.1 < 1000003) ∧ (0 ≤ x.2.2 ∧ x.2.2 ≤ 4294967296) ∧ x.1 * x.2.1 ^ x.2.2.toNat % 1000003 = T) (fun x => x.2.2.toNat) (1, a % 1000003, n) ⟨by simp [dA, cH], ⟨by simp, by simp⟩, aRU _, ⟨hn, hn2⟩, by rw [Int.one_mul]; exact hT⟩ ?_
 rintro ⟨x, b, m⟩ ⟨hx, hb, hm, hp⟩
 simp only at hx hb hm hp ⊢
 simp -dsimp -implicitDefEqProofs only [go_sem, ↓reduceIte, Tryz.f167]
 have h1 := num_mul (x := x) (y := b) (by unfold nZ; omega) (by unfold nZ; omega)
 have h2 := num_mul (x := b) (y := b) (by unfold nZ; omega) (by unfold nZ; omega)
 rw [Int.tmod_eq_emod_of_nonneg hm.1, Int.tdiv_eq_ediv_of_nonneg hm.1, IntWalk.i64_in (m / 2) (by omega), a6S h1.1 (by omega), a6S h2.1 (by omega)]
 refine ⟨fun hg => ⟨fun ho => ⟨(x * b % 1000003, b * b % 1000003, m / 2), ⟨rfl, rfl, rfl⟩, ⟨aRU _, aRU _, (show 0 ≤ m / 2 ∧ m / 2 ≤ 4294967296 by omega), a19 hm.1 ho hp⟩, by simp only; omega⟩, fun ho => ⟨(x, b * b % 1000003, m / 2), ⟨rfl, rfl, rfl⟩, ⟨hx, aRU _, (show 0 ≤ m / 2 ∧ m / 2 ≤ 4294967296 by omega), aW5 hm.1 ho hp⟩, by simp only; omega⟩⟩, fun hg => ?_⟩
 have : m.toNat = 0 := by omega
 rw [this, aW4 x b hx] at hp
 exact hp
@[go_sem] def a6W : List Nat := [0, 2]
@[go_sem] def bLB : List Nat := []
@[go_sem] def bLC : Marks := fun _ => ([], .nil, [])
theorem aH3 (a : Int) : e8 Tryz.prog 163 [I a] (I (sF a)) := by
 refine eI 5 a6W bLB bLC mix Tryz.func163 rfl (by kernel_rfl) (by simp) fun h => ?_
 simp -dsimp -implicitDefEqProofs only [go_sem, ↓reduceIte, Tryz.f163]
 first | refine aJ.mk (Power a 1000001 (by decide) (by decide)) ?_ | refine aL.mk (Power a 1000001 (by decide) (by decide)) ?_ | refine aJ.dF (Power a 1000001 (by decide) (by decide)) ?_ | refine aL.mk (cZ.gC (Power a 1000001 (by decide) (by decide))) ?_
 simp -dsimp -implicitDefEqProofs only [go_sem, ↓reduceIte, Tryz.f163]
 rfl
theorem kQ {h h' : aB} {n : Nat} (l : List Int) (h0 : h n = none) (hl : (bK h n (.row 1 ((l.map fun n => [I n]).map (List.map .v)))).le h') {len : Nat} (e : len = l.length) : Shift (.os n 1 0 len) h' (c5 1 (fun n => [I n]) l) h :=
 lW (l.map fun n => [I n]) h0 hl len (by rw [List.length_map]; exact e)
theorem aUS (n : Int) (sz : Nat) : (tU n sz).length = sz := by simp [tU]
theorem a6X {sz : Nat} {x : List aD} (h : 0 < sz) : (List.replicate sz x)[Int.toNat 0]? = some x := by
 show (List.replicate sz x)[0]? = some x
 rw [List.getElem?_replicate, if_pos h]
theorem a2F (n : Int) (sz : Nat) : ((List.replicate sz [aD.int .i64 0]).map (List.map Cell.v)).set 0 [Cell.v (I n)] = ((tU n sz).map fun n => [I n]).map (List.map .v) := by
 rw [a58, tU, aB9 I]
open Go.Proofs
set_option linter.unusedVariables false
set_option linter.unusedSimpArgs false
abbrev mR (l : List (List Int)) : aD := c5 1 (fun s => [ints s]) l
open Go.Proofs
set_option linter.unusedVariables false
set_option linter.unusedSimpArgs false
theorem bEH (m : Nat) (es : List (List aD)) (x : aA) : nQ m es x.c = x.c := by rw [aA.aN]; rfl
theorem a2G (m sz k : Nat) (x : aA) : iC m sz k x.c = true := by rw [aA.aN]; rfl
theorem aNG.a16 {P : Program} {N : Nat} {c : Code} {Q : Exit → cG → aB → Prop} {τ : cG} {h : aB} {t : Tag (c, Q)} (n : Nat) {es : List (List aD)} (hh : h n = none) (hb : τ.all (fun p => iK n 1 es.length p.2) = true)
  (x : aNG P N c Q (τ.map fun p => (p.1, p.2.fZ n es)) (bK h n .gone) ()) : aNG P N c Q τ (bK h n (.row 1 (es.map (List.map .v)))) t := by
 have y := q0.uP (c := c) (Q := Q) (τ := τ) (N := N) (P := P) (h := bK h n (.row 1 (es.map (List.map .v)))) n (sz := 1) (es := es.map (List.map .v)) (aU _ _ _) (by simpa using hb)
 rw [aF, rC] at y
 exact y x
theorem aJ.aHH {P : Program} {f : FuncId} {h : aB} {K : aD → aB → Prop} {t : Tag K} {nb m k len : Nat} {x : aD} {es : List (List aD)} (hx : x.fZ m es = x) (hx2 : iK m 1 es.length x = true) (hne : ¬ nb = m) (hl : len = es.length) (hm : h m = none) (a : fO P f [.op nb k 0 0, x, .sl 1 es false] (bK h m .gone) K) :
  aJ P f [.op nb k 0 0, x, .os m 1 0 len] (bK h m (.row 1 (es.map (List.map .v)))) K t := by
 subst hl
 refine aJ.a16 m (aU _ _ _) (by simp [iC, iK, hx2, hne]) ?_
 rw [aF, rC]
 have h1 : nQ m es [.op nb k 0 0, x, .os m 1 0 es.length] = [.op nb k 0 0, x, .sl 1 es false] := by
  simp only [nQ, aD.fZ, hx, if_neg hne, if_true, List.drop_zero, List.take_length]
 rw [h1]
 exact a
theorem aJ.a6Y {P : Program} {f : FuncId} {h : aB} {K : aD → aB → Prop} {t : Tag K} {nb m k len : Nat} {e : aA} {es : List (List aD)} (hne : ¬ nb = m) (hl : len = es.length) (hm : h m = none) (a : fO P f [.op nb k 0 0, .agg e.c, .sl 1 es false] (bK h m .gone) K) :
  aJ P f [.op nb k 0 0, .agg e.c, .os m 1 0 len] (bK h m (.row 1 (es.map (List.map .v)))) K t := by
 subst hl
 refine aJ.a16 m (aU _ _ _) (by simp [iC, iK, a2G, hne]) ?_
 rw [aF, rC]
 have h1 : nQ m es [.op nb k 0 0, .agg e.c, .os m 1 0 es.length] = [.op nb k 0 0, .agg e.c, .sl 1 es false] := by
  simp only [nQ, aD.fZ, bEH, if_neg hne, if_true, List.drop_zero, List.take_length]
 rw [h1]
 exact a
theorem yT {sz : Nat} {env : List (List Int)} {s : List Int} (he : ∀ x ∈ env, fK sz x) (hs : fK sz s) : ∀ x ∈ env ++ [s], fK sz x := fun x hx => by
 rcases List.mem_append.1 hx with hx | hx
 ·exact he x hx
 ·rw [List.mem_singleton.1 hx]; exact hs
theorem aEX : nZ 0 := by unfold nZ; simp
open Go.Proofs
set_option linter.unusedVariables false
set_option linter.unusedSimpArgs false
set_option maxRecDepth 100000
open Go.Proofs
set_option linter.unusedVariables false
set_option linter.unusedSimpArgs false
@[go_sem] def a6Z : List Nat := [0, 1, 4]
@[go_sem] def bLD : List Nat := []
@[go_sem] def bLE : Marks := fun _ => ([], .nil, [])
theorem cT (a b : Int) (ha : nZ a) (hb : nZ b) : e8 Tryz.prog 155 [I a, I b] (I (a * b % 1000003)) := by
 refine eI 11 a6Z bLD bLE mix Tryz.func155 rfl (by kernel_rfl) (by simp) fun h => ?_
 simp -dsimp -implicitDefEqProofs only [go_sem, ↓reduceIte, Tryz.f155]
 first | refine aJ.mk (dI a) ?_ | refine aL.mk (dI a) ?_ | refine aJ.dF (dI a) ?_ | refine aL.mk (cZ.gC (dI a)) ?_
 simp -dsimp -implicitDefEqProofs only [go_sem, ↓reduceIte, Tryz.f155]
 first | refine aJ.mk (dI b) ?_ | refine aL.mk (dI b) ?_ | refine aJ.dF (dI b) ?_ | refine aL.mk (cZ.gC (dI b)) ?_
 simp -dsimp -implicitDefEqProofs only [go_sem, ↓reduceIte, Tryz.f155]
 have h1 := num_mul ha hb
 have h2 := ha
 have h3 := hb
 unfold nZ at h2 h3
 rw [Int.emod_eq_of_lt h2.1 (by omega), Int.emod_eq_of_lt h3.1 (by omega), a6S h1.1 (by omega)]
@[go_sem] def aXA : List Nat := [0, 1, 4, 5, 6, 8, 12, 15]
@[go_sem] def a99 : List Nat := []
@[go_sem] def bAA : Marks := fun _ => ([], .nil, [])
theorem aBD (a n : Int) (hn : 0 ≤ n) (hn2 : n ≤ 4294967296) : e8 Tryz.prog 165 [I a, I n] (I (pwN (a % 1000003) n.toNat)) := by
 refine eI 25 aXA a99 bAA mix Tryz.func165 rfl (by kernel_rfl) (by simp) fun h => ?_
 simp -dsimp -implicitDefEqProofs only [go_sem, ↓reduceIte, Tryz.f165]
 refine ⟨fun q => absurd q (by omega), fun _ => ?_⟩
 first | refine aJ.mk (dI a) ?_ | refine aL.mk (dI a) ?_ | refine aJ.dF (dI a) ?_ | refine aL.mk (cZ.gC (dI a)) ?_
 simp -dsimp -implicitDefEqProofs only [go_sem, ↓reduceIte, Tryz.f165]
 generalize hT : pwN (a % 1000003) n.toNat = T
 refine tF (keep := aXA) (ib := a99) (mk := bAA) mix (by kernel_rfl) (fun x : Int × Int × Int => [(1, I x.2.2), (5, I x.1), (6, I x.2.1)]) (fun x => (0 ≤ x.1 ∧ x.1 < 1000003) ∧ (0 ≤ x.2.1 ∧ x.2.1 < 1000003) ∧ (0 ≤ x.2.2 ∧ x.2.2 ≤ 4294967296) ∧ x.1 * x.2.1 ^ x.2.2.toNat % 1000003 = T) (fun x => x.2.2.toNat) (1, a % 1000003, n) ⟨by simp [dA, cH], ⟨by simp, by simp⟩, aRU _, ⟨hn, hn2⟩, by rw [Int.one_mul]; exact hT⟩ ?_
 rintro ⟨x, b, m⟩ ⟨hx, hb, hm, hp⟩
 simp only at hx hb hm hp ⊢
 have nx : nZ x := by unfold nZ; omega
 have nb : nZ b := by unfold nZ; omega
 simp -dsimp -implicitDefEqProofs only [go_sem, ↓reduceIte, Tryz.f165]
 rw [Int.tmod_eq_emod_of_nonneg hm.1]
 refine ⟨fun hg => ⟨fun ho => ?_, fun ho => ?_⟩, fun hg => ?_⟩
 ·first | refine aJ.mk (cT x b nx nb) ?_ | refine aL.mk (cT x b nx nb) ?_ | refine aJ.dF (cT x b nx nb) ?_ | refine aL.mk (cZ.gC (cT x b nx nb)) ?_
  simp -dsimp -implicitDefEqProofs only [go_sem, ↓reduceIte, Tryz.f165]
  first | refine aJ.mk (cT b b nb nb) ?_ | refine aL.mk (cT b b nb nb) ?_ | refine aJ.dF (cT b b nb nb) ?_ | refine aL.mk (cZ.gC (cT b b nb nb)) ?_
  simp -dsimp -implicitDefEqProofs only [go_sem, ↓reduceIte, Tryz.f165]
  rw [Int.tdiv_eq_ediv_of_nonneg hm.1, IntWalk.i64_in (m / 2) (by omega)]
  exact ⟨(x * b % 1000003, b * b % 1000003, m / 2), ⟨rfl, rfl, rfl⟩, ⟨aRU _, aRU _, (show 0 ≤ m / 2 ∧ m / 2 ≤ 4294967296 by omega), a19 hm.1 ho hp⟩, by simp only; omega⟩
 ·first | refine aJ.mk (cT b b nb nb) ?_ | refine aL.mk (cT b b nb nb) ?_ | refine aJ.dF (cT b b nb nb) ?_ | refine aL.mk (cZ.gC (cT b b nb nb)) ?_
  simp -dsimp -implicitDefEqProofs only [go_sem, ↓reduceIte, Tryz.f165]
  rw [Int.tdiv_eq_ediv_of_nonneg hm.1, IntWalk.i64_in (m / 2) (by omega)]
  exact ⟨(x, b * b % 1000003, m / 2), ⟨rfl, rfl, rfl⟩, ⟨hx, aRU _, (show 0 ≤ m / 2 ∧ m / 2 ≤ 4294967296 by omega), aW5 hm.1 ho hp⟩, by simp only; omega⟩
 ·have : m.toNat = 0 := by omega
  rw [this, aW4 x b hx] at hp
  exact hp
@[go_sem] def a60 : List Nat := [0, 2]
@[go_sem] def bLF : List Nat := []
@[go_sem] def bLG : Marks := fun _ => ([], .nil, [])
theorem aAY (a : Int) : e8 Tryz.prog 157 [I a] (I (sF a)) := by
 refine eI 5 a60 bLF bLG mix Tryz.func157 rfl (by kernel_rfl) (by simp) fun h => ?_
 simp -dsimp -implicitDefEqProofs only [go_sem, ↓reduceIte, Tryz.f157]
 first | refine aJ.mk (aBD a 1000001 (by decide) (by decide)) ?_ | refine aL.mk (aBD a 1000001 (by decide) (by decide)) ?_ | refine aJ.dF (aBD a 1000001 (by decide) (by decide)) ?_ | refine aL.mk (cZ.gC (aBD a 1000001 (by decide) (by decide))) ?_
 simp -dsimp -implicitDefEqProofs only [go_sem, ↓reduceIte, Tryz.f157]
 rfl
@[go_sem] def a61 : List Nat := [0, 1, 4]
@[go_sem] def bLH : List Nat := []
@[go_sem] def bLI : Marks := fun _ => ([], .nil, [])
theorem tI (a b : Int) (ha : nZ a) (hb : nZ b) : e8 Tryz.prog 158 [I a, I b] (I ((a - b) % 1000003)) := by
 unfold nZ at ha hb
 refine eI 9 a61 bLH bLI mix Tryz.func158 rfl (by kernel_rfl) (by simp) fun h => ?_
 simp -dsimp -implicitDefEqProofs only [go_sem, ↓reduceIte, Tryz.f158]
 rw [IntWalk.i64_in _ (by omega)]
 first | refine aJ.mk (dI (a - b)) ?_ | refine aL.mk (dI (a - b)) ?_ | refine aJ.dF (dI (a - b)) ?_ | refine aL.mk (cZ.gC (dI (a - b))) ?_
 simp -dsimp -implicitDefEqProofs only [go_sem, ↓reduceIte, Tryz.f158]
@[go_sem] def aXB : List Nat := [0, 1, 4, 5, 9]
@[go_sem] def bAB : List Nat := []
@[go_sem] def bAC : Marks := fun _ => ([], .nil, [])
theorem nG (n : Int) (sz : Nat) (hs : sz ≤ 1048576) : e8 Tryz.prog 134 [I n, I sz] (ints (tU n sz)) := by
 rcases Nat.eq_zero_or_pos sz with rfl | hp
 ·refine tB 14 aXB bAB bAC mix Tryz.func134 rfl (by kernel_rfl) (by simp) fun h => ?_
  simp -dsimp -implicitDefEqProofs only [go_sem, ↓reduceIte, Tryz.f134]
  refine ⟨Nat.zero_lt_one, by omega, by omega, fun m hm => ⟨fun q => absurd q (by omega), fun _ => ?_⟩⟩
  exact kQ [] hm (aB.le_refl _) rfl
 ·have e2 := a6X (x := [aD.int .i64 0]) hp
  refine tB 14 aXB bAB bAC mix Tryz.func134 rfl (by kernel_rfl) (by simp) fun h => ?_
  simp -dsimp -implicitDefEqProofs only [go_sem, ↓reduceIte, Tryz.f134, Int.toNat_natCast, e2]
  refine ⟨Nat.zero_lt_one, Nat.le_refl _, by omega, by omega, fun m hm => ⟨fun _ => ⟨by omega, ?_⟩, fun q => absurd q (by omega)⟩⟩
  rw [aF, show Int.toNat 0 = 0 from rfl, a2F]
  exact kQ _ hm (aB.le_refl _) (aUS n sz).symm
@[go_sem] def aXC : List Nat := [0, 1, 4, 5, 6, 11]
@[go_sem] def bAD : List Nat := [7, 21]
@[go_sem] def bAE : Marks := fun _ => ([], .nil, [])
theorem tJ (a : List Int) (m : Int) (hm : nZ m) (hl : a.length ≤ 1048576) (ha : pB a) : e8 Tryz.prog 135 [ints a, I m] (ints (wP a m)) := by
 have hc := aAX a m
 refine tB 24 aXC bAD bAE mix Tryz.func135 rfl (by kernel_rfl) (by simp) fun h => ?_
 simp -dsimp -implicitDefEqProofs only [go_sem, ↓reduceIte, Tryz.f135]
 refine ⟨Nat.zero_lt_one, ?_⟩
 refine cS (keep := aXC) (ib := bAD) (mk := bAE) mix (by kernel_rfl) (fun x : Nat × Option Nat => [(0, ints a), (1, I m), (5, nO 1 ((wP a m).take x.1).length x.2), (6, I x.1)]) (fun x => dD h (.row 1 ((((wP a m).take x.1).map fun n => [I n]).map (List.map .v))) x.2) (fun x => x.1 ≤ a.length ∧ lQ h ((wP a m).take x.1) x.2) (fun x => a.length - x.1) (0, none) ⟨by simp [dA, cH, nO], by simp only [aK]; exact aB.le_refl _, Nat.zero_le _, by simp [lQ]⟩ ?_
 rintro ⟨k, o⟩ ⟨hk, hos⟩
 simp only at hk hos ⊢
 rcases Nat.lt_or_ge k a.length with hlt | hge
 ·have ea : a[k]? = some a[k] := List.getElem?_eq_getElem hlt
  have hy : (wP a m).take (k + 1) = (wP a m).take k ++ [(wP a m)[k]'(by omega)] := List.take_succ_eq_append_getElem (by omega)
  have hv : (wP a m)[k]'(by omega) = a[k] * m % 1000003 := by simp [wP]
  have hlk : ((wP a m).take k).length = k := by rw [List.length_take]; omega
  rw [hv] at hy
  cases o with
  |none =>
   rw [dB] at hos
   rw [hos] at hy ⊢
   simp -dsimp -implicitDefEqProofs only [go_sem, ↓reduceIte, Tryz.f135, dN, aK, hlt, ea]
   intro _
   first | refine aJ.mk (cT a[k] m (ha _ (List.getElem_mem hlt)) hm) ?_ | refine aL.mk (cT a[k] m (ha _ (List.getElem_mem hlt)) hm) ?_ | refine aJ.dF (cT a[k] m (ha _ (List.getElem_mem hlt)) hm) ?_ | refine aL.mk (cZ.gC (cT a[k] m (ha _ (List.getElem_mem hlt)) hm)) ?_
   simp -dsimp -implicitDefEqProofs only [go_sem, ↓reduceIte, Tryz.f135]
   repeat' (with_reducible first | intro _ | refine And.intro ?_ ?_)
   all_goals try (first | omega | decide)
   rename_i b hb
   refine ⟨(k + 1, some b), ?_⟩
   simp only [hy]
   refine ⟨⟨rfl, ?_⟩, aB.le_refl _, ⟨by omega, hb⟩, by omega⟩
   rw [IntWalk.i64_in _ (by omega)]; rfl
  |some n =>
   rw [cQ] at hos
   simp -dsimp -implicitDefEqProofs only [go_sem, ↓reduceIte, Tryz.f135, cI, aG, hlt, ea]
   intro _
   first | refine aJ.mk (cT a[k] m (ha _ (List.getElem_mem hlt)) hm) ?_ | refine aL.mk (cT a[k] m (ha _ (List.getElem_mem hlt)) hm) ?_ | refine aJ.dF (cT a[k] m (ha _ (List.getElem_mem hlt)) hm) ?_ | refine aL.mk (cZ.gC (cT a[k] m (ha _ (List.getElem_mem hlt)) hm)) ?_
   simp -dsimp -implicitDefEqProofs only [go_sem, ↓reduceIte, Tryz.f135]
   repeat' (with_reducible first | intro _ | refine And.intro ?_ ?_)
   all_goals try (first | omega | decide | exact Nat.le_refl _)
   rename_i b hb
   refine ⟨(k + 1, some b), ?_⟩
   simp only [hy, aG, cI, cQ]
   refine ⟨⟨by rw [List.length_append]; rfl, ?_⟩, ?_, ⟨by omega, hb.2⟩, by omega⟩
   ·rw [IntWalk.i64_in _ (by omega)]; rfl
   ·rw [← jN]; exact qA hos
 ·have hk' : k = a.length := by omega
  subst hk'
  rw [List.take_of_length_le (by omega)] at hos ⊢
  cases o with
  |none =>
   rw [dB] at hos
   simp -dsimp -implicitDefEqProofs only [go_sem, ↓reduceIte, Tryz.f135, dN, aK, Nat.lt_irrefl, Int.lt_irrefl]
   intro _
   rw [hos]
   exact Shift.of (Sub.loose _ _ _) (aB.le_refl _)
  |some n =>
   rw [cQ] at hos
   simp -dsimp -implicitDefEqProofs only [go_sem, ↓reduceIte, Tryz.f135, cI, aG, Nat.lt_irrefl, Int.lt_irrefl]
   intro _
   exact kQ _ hos (aB.le_refl _) rfl
@[go_sem] def aXD : List Nat := [0, 1, 4, 5, 6, 11]
@[go_sem] def bAF : List Nat := [7, 24]
@[go_sem] def bAG : Marks := fun id => match id with | 5 => ([11], (.op 0 (.op 1 (.op 2 (.op 3 (.op 4 (.op 5 (.op 6 (.op 7 (.op 8 (.op 9 (.op 10 (.op 11 (.op 12 .nil))))))))))))), []) | _ => ([], .nil, [])
theorem aAZ (a b : List Int) (hab : b.length = a.length) (hl : a.length ≤ 1048576) (ha : pB a) (hb : pB b) : e8 Tryz.prog 138 [ints a, ints b] (ints (aAT a b)) := by
 have hc := a17 hab
 refine tB 27 aXD bAF bAG mix Tryz.func138 rfl (by kernel_rfl) (by simp) fun h => ?_
 simp -dsimp -implicitDefEqProofs only [go_sem, ↓reduceIte, Tryz.f138]
 refine ⟨Nat.zero_lt_one, ?_⟩
 refine cS (keep := aXD) (ib := bAF) (mk := bAG) mix (by kernel_rfl) (fun x : Nat × Option Nat => [(0, ints a), (1, ints b), (5, nO 1 ((aAT a b).take x.1).length x.2), (6, I x.1)]) (fun x => dD h (.row 1 ((((aAT a b).take x.1).map fun n => [I n]).map (List.map .v))) x.2) (fun x => x.1 ≤ a.length ∧ lQ h ((aAT a b).take x.1) x.2) (fun x => a.length - x.1) (0, none) ⟨by simp [dA, cH, nO], by simp only [aK]; exact aB.le_refl _, Nat.zero_le _, by simp [lQ]⟩ ?_
 rintro ⟨k, o⟩ ⟨hk, hos⟩
 simp only at hk hos ⊢
 rcases Nat.lt_or_ge k a.length with hlt | hge
 ·have ea : a[k]? = some a[k] := List.getElem?_eq_getElem hlt
  have eb : b[k]? = some (b[k]'(by omega)) := List.getElem?_eq_getElem (by omega)
  have hy : (aAT a b).take (k + 1) = (aAT a b).take k ++ [(aAT a b)[k]'(by omega)] := List.take_succ_eq_append_getElem (by omega)
  have hv : (aAT a b)[k]'(by omega) = (a[k] + b[k]'(by omega)) % 1000003 := by simp [aAT]
  have hlk : ((aAT a b).take k).length = k := by rw [List.length_take]; omega
  rw [hv] at hy
  cases o with
  |none =>
   rw [dB] at hos
   rw [hos] at hy ⊢
   simp -dsimp -implicitDefEqProofs only [go_sem, ↓reduceIte, Tryz.f138, dN, aK, hlt, ea, eb]
   intro _
   refine ⟨by omega, ?_⟩
   first | refine aJ.mk (hP a[k] (b[k]'(by omega))) ?_ | refine aL.mk (hP a[k] (b[k]'(by omega))) ?_ | refine aJ.dF (hP a[k] (b[k]'(by omega))) ?_ | refine aL.mk (cZ.gC (hP a[k] (b[k]'(by omega)))) ?_
   simp -dsimp -implicitDefEqProofs only [go_sem, ↓reduceIte, Tryz.f138]
   repeat' (with_reducible first | intro _ | refine And.intro ?_ ?_)
   all_goals try (first | omega | decide)
   rename_i b hb
   refine ⟨(k + 1, some b), ?_⟩
   simp only [hy]
   refine ⟨⟨rfl, ?_⟩, aB.le_refl _, ⟨by omega, hb⟩, by omega⟩
   rw [IntWalk.i64_in _ (by omega)]; rfl
  |some n =>
   rw [cQ] at hos
   simp -dsimp -implicitDefEqProofs only [go_sem, ↓reduceIte, Tryz.f138, cI, aG, hlt, ea, eb]
   intro _
   refine ⟨by omega, ?_⟩
   first | refine aJ.mk (hP a[k] (b[k]'(by omega))) ?_ | refine aL.mk (hP a[k] (b[k]'(by omega))) ?_ | refine aJ.dF (hP a[k] (b[k]'(by omega))) ?_ | refine aL.mk (cZ.gC (hP a[k] (b[k]'(by omega)))) ?_
   simp -dsimp -implicitDefEqProofs only [go_sem, ↓reduceIte, Tryz.f138]
   repeat' (with_reducible first | intro _ | refine And.intro ?_ ?_)
   all_goals try (first | omega | decide | exact Nat.le_refl _)
   rename_i b hb
   refine ⟨(k + 1, some b), ?_⟩
   simp only [hy, aG, cI, cQ]
   refine ⟨⟨by rw [List.length_append]; rfl, ?_⟩, ?_, ⟨by omega, hb.2⟩, by omega⟩
   ·rw [IntWalk.i64_in _ (by omega)]; rfl
   ·rw [← jN]; exact qA hos
 ·have hk' : k = a.length := by omega
  subst hk'
  rw [List.take_of_length_le (by omega)] at hos ⊢
  cases o with
  |none =>
   rw [dB] at hos
   simp -dsimp -implicitDefEqProofs only [go_sem, ↓reduceIte, Tryz.f138, dN, aK, Nat.lt_irrefl, Int.lt_irrefl]
   intro _
   rw [hos]
   exact Shift.of (Sub.loose _ _ _) (aB.le_refl _)
  |some n =>
   rw [cQ] at hos
   simp -dsimp -implicitDefEqProofs only [go_sem, ↓reduceIte, Tryz.f138, cI, aG, Nat.lt_irrefl, Int.lt_irrefl]
   intro _
   exact kQ _ hos (aB.le_refl _) rfl
@[go_sem] def a62 : List Nat := [0, 1, 4]
@[go_sem] def bLJ : List Nat := []
@[go_sem] def bLK : Marks := fun _ => ([], .nil, [])
theorem aO1 (a b : List Int) (hab : b.length = a.length) (hl : a.length ≤ 1048576) (ha : pB a) (hb : pB b) : e8 Tryz.prog 139 [ints a, ints b] (ints (bED a b)) := by
 refine eI 9 a62 bLJ bLK mix Tryz.func139 rfl (by kernel_rfl) (by simp) fun h => ?_
 simp -dsimp -implicitDefEqProofs only [go_sem, ↓reduceIte, Tryz.f139]
 first | refine aJ.mk (tJ b 1000002 (by unfold nZ; omega) (by omega) hb) ?_ | refine aL.mk (tJ b 1000002 (by unfold nZ; omega) (by omega) hb) ?_ | refine aJ.dF (tJ b 1000002 (by unfold nZ; omega) (by omega) hb) ?_ | refine aL.mk (cZ.gC (tJ b 1000002 (by unfold nZ; omega) (by omega) hb)) ?_
 simp -dsimp -implicitDefEqProofs only [go_sem, ↓reduceIte, Tryz.f139]
 first | refine aJ.mk (aAZ a (wP b 1000002) (by rw [aAX]; exact hab) hl ha (uJ _ ⟨rfl, hb⟩).2) ?_ | refine aL.mk (aAZ a (wP b 1000002) (by rw [aAX]; exact hab) hl ha (uJ _ ⟨rfl, hb⟩).2) ?_ | refine aJ.dF (aAZ a (wP b 1000002) (by rw [aAX]; exact hab) hl ha (uJ _ ⟨rfl, hb⟩).2) ?_ | refine aL.mk (cZ.gC (aAZ a (wP b 1000002) (by rw [aAX]; exact hab) hl ha (uJ _ ⟨rfl, hb⟩).2)) ?_
 simp -dsimp -implicitDefEqProofs only [go_sem, ↓reduceIte, Tryz.f139]
 rfl
@[go_sem] def aH4 : List Nat := [0, 1, 4, 5, 6, 7, 8, 13, 18]
@[go_sem] def aXE : List Nat := [9, 36]
@[go_sem] def aXF : Marks := fun id => match id with | 9 => ([], (.op 0 (.op 1 (.op 2 (.op 3 (.op 4 (.op 5 (.op 6 (.op 7 (.op 8 (.op 9 (.op 10 (.op 11 (.op 12 (.op 13 .nil)))))))))))))), []) | _ => ([], .nil, [])
theorem aO2 (a b : List Int) (hab : b.length = a.length) (hl : a.length ≤ 1048576) (ha : pB a) (hb : pB b) : e8 Tryz.prog 140 [ints a, ints b] (ints (mulL a b)) := by
 have hc := a2B a b
 refine tB 39 aH4 aXE aXF mix Tryz.func140 rfl (by kernel_rfl) (by simp) fun h => ?_
 simp -dsimp -implicitDefEqProofs only [go_sem, ↓reduceIte, Tryz.f140]
 refine ⟨Nat.zero_lt_one, ?_⟩
 refine cS (keep := aH4) (ib := aXE) (mk := aXF) mix (by kernel_rfl) (fun x : Nat × Option Nat => [(0, ints a), (1, ints b), (5, nO 1 ((mulL a b).take x.1).length x.2), (6, I x.1)]) (fun x => dD h (.row 1 ((((mulL a b).take x.1).map fun n => [I n]).map (List.map .v))) x.2) (fun x => x.1 ≤ a.length ∧ lQ h ((mulL a b).take x.1) x.2) (fun x => a.length - x.1) (0, none) ⟨by simp [dA, cH, nO], by simp only [aK]; exact aB.le_refl _, Nat.zero_le _, by simp [lQ]⟩ ?_
 rintro ⟨k, o⟩ ⟨hk, hos⟩
 simp only at hk hos ⊢
 rcases Nat.lt_or_ge k a.length with hlt | hge
 ·have hy : (mulL a b).take (k + 1) = (mulL a b).take k ++ [(mulL a b)[k]'(by omega)] := List.take_succ_eq_append_getElem (by omega)
  have hv : (mulL a b)[k]'(by omega) = cvS a b k (k + 1) := by simp [mulL]
  have hlk : ((mulL a b).take k).length = k := by rw [List.length_take]; omega
  rw [hv] at hy
  cases o with
  |none =>
   rw [dB] at hos
   rw [hos] at hy ⊢
   simp -dsimp -implicitDefEqProofs only [go_sem, ↓reduceIte, Tryz.f140, dN, aK, hlt]
   intro _
   refine tF (keep := aH4) (ib := aXE) (mk := aXF) mix (by kernel_rfl) (fun i : Nat => [(0, ints a), (1, ints b), (5, .sl 1 [] true), (6, I k), (7, I (cvS a b k i)), (8, I i)]) (fun i => i ≤ k + 1) (fun i => k + 1 - i) 0 ⟨by simp [dA, cH, cvS], Nat.zero_le _⟩ ?_
   intro i hi
   rcases Nat.lt_or_ge i (k + 1) with aAP | a6H
   ·have ea := eZ (l := a) (i := i) (by omega)
    have eb := eZ (l := b) (i := k - i) (by omega)
    have ew : IntKind.i64.wrap ((k : Int) - (i : Int)) = ((k - i : Nat) : Int) := by rw [IntWalk.i64_in _ (by omega)]; omega
    simp -dsimp -implicitDefEqProofs only [go_sem, ↓reduceIte, Tryz.f140, ea, eb, ew]
    refine ⟨fun _ => ⟨by omega, by omega, ?_⟩, fun q => absurd (by omega) q⟩
    first | refine aJ.mk (cT (a.getD i 0) (b.getD (k - i) 0) (ha.get i) (hb.get (k - i))) ?_ | refine aL.mk (cT (a.getD i 0) (b.getD (k - i) 0) (ha.get i) (hb.get (k - i))) ?_ | refine aJ.dF (cT (a.getD i 0) (b.getD (k - i) 0) (ha.get i) (hb.get (k - i))) ?_ | refine aL.mk (cZ.gC (cT (a.getD i 0) (b.getD (k - i) 0) (ha.get i) (hb.get (k - i)))) ?_
    simp -dsimp -implicitDefEqProofs only [go_sem, ↓reduceIte, Tryz.f140]
    first | refine aJ.mk (hP (cvS a b k i) (a.getD i 0 * b.getD (k - i) 0 % 1000003)) ?_ | refine aL.mk (hP (cvS a b k i) (a.getD i 0 * b.getD (k - i) 0 % 1000003)) ?_ | refine aJ.dF (hP (cvS a b k i) (a.getD i 0 * b.getD (k - i) 0 % 1000003)) ?_ | refine aL.mk (cZ.gC (hP (cvS a b k i) (a.getD i 0 * b.getD (k - i) 0 % 1000003))) ?_
    simp -dsimp -implicitDefEqProofs only [go_sem, ↓reduceIte, Tryz.f140]
    refine ⟨i + 1, ⟨?_, by rw [IntWalk.i64_in _ (by omega)]; rfl⟩, by omega, by omega⟩
    rw [cvS]
    omega
   ·have hi' : i = k + 1 := by omega
    subst hi'
    simp -dsimp -implicitDefEqProofs only [go_sem, ↓reduceIte, Tryz.f140, hlt]
    refine ⟨fun q => absurd q (by omega), fun _ => ?_⟩
    repeat' (with_reducible first | intro _ | refine And.intro ?_ ?_)
    all_goals try (first | omega | decide)
    rename_i b hb
    refine ⟨(k + 1, some b), ?_⟩
    simp only [hy]
    refine ⟨⟨rfl, ?_⟩, aB.le_refl _, ⟨by omega, hb⟩, by omega⟩
    rw [IntWalk.i64_in _ (by omega)]; rfl
  |some n =>
   rw [cQ] at hos
   simp -dsimp -implicitDefEqProofs only [go_sem, ↓reduceIte, Tryz.f140, cI, aG, hlt]
   intro _
   refine tF (keep := aH4) (ib := aXE) (mk := aXF) mix (by kernel_rfl) (fun i : Nat => [(0, ints a), (1, ints b), (5, .os n 1 0 ((mulL a b).take k).length), (6, I k), (7, I (cvS a b k i)), (8, I i)]) (fun i => i ≤ k + 1) (fun i => k + 1 - i) 0 ⟨by simp [dA, cH, cvS], Nat.zero_le _⟩ ?_
   intro i hi
   rcases Nat.lt_or_ge i (k + 1) with aAP | a6H
   ·have ea := eZ (l := a) (i := i) (by omega)
    have eb := eZ (l := b) (i := k - i) (by omega)
    have ew : IntKind.i64.wrap ((k : Int) - (i : Int)) = ((k - i : Nat) : Int) := by rw [IntWalk.i64_in _ (by omega)]; omega
    simp -dsimp -implicitDefEqProofs only [go_sem, ↓reduceIte, Tryz.f140, ea, eb, ew]
    refine ⟨fun _ => ⟨by omega, by omega, ?_⟩, fun q => absurd (by omega) q⟩
    first | refine aJ.mk (cT (a.getD i 0) (b.getD (k - i) 0) (ha.get i) (hb.get (k - i))) ?_ | refine aL.mk (cT (a.getD i 0) (b.getD (k - i) 0) (ha.get i) (hb.get (k - i))) ?_ | refine aJ.dF (cT (a.getD i 0) (b.getD (k - i) 0) (ha.get i) (hb.get (k - i))) ?_ | refine aL.mk (cZ.gC (cT (a.getD i 0) (b.getD (k - i) 0) (ha.get i) (hb.get (k - i)))) ?_
    simp -dsimp -implicitDefEqProofs only [go_sem, ↓reduceIte, Tryz.f140]
    first | refine aJ.mk (hP (cvS a b k i) (a.getD i 0 * b.getD (k - i) 0 % 1000003)) ?_ | refine aL.mk (hP (cvS a b k i) (a.getD i 0 * b.getD (k - i) 0 % 1000003)) ?_ | refine aJ.dF (hP (cvS a b k i) (a.getD i 0 * b.getD (k - i) 0 % 1000003)) ?_ | refine aL.mk (cZ.gC (hP (cvS a b k i) (a.getD i 0 * b.getD (k - i) 0 % 1000003))) ?_
    simp -dsimp -implicitDefEqProofs only [go_sem, ↓reduceIte, Tryz.f140]
    refine ⟨i + 1, ⟨?_, by rw [IntWalk.i64_in _ (by omega)]; rfl⟩, by omega, by omega⟩
    rw [cvS]
    omega
   ·have hi' : i = k + 1 := by omega
    subst hi'
    simp -dsimp -implicitDefEqProofs only [go_sem, ↓reduceIte, Tryz.f140, hlt]
    refine ⟨fun q => absurd q (by omega), fun _ => ?_⟩
    repeat' (with_reducible first | intro _ | refine And.intro ?_ ?_)
    all_goals try (first | omega | decide | exact Nat.le_refl _)
    rename_i b hb
    refine ⟨(k + 1, some b), ?_⟩
    simp only [hy, aG, cI, cQ]
    refine ⟨⟨by rw [List.length_append]; rfl, ?_⟩, ?_, ⟨by omega, hb.2⟩, by omega⟩
    ·rw [IntWalk.i64_in _ (by omega)]; rfl
    ·rw [← jN]; exact qA hos
 ·have hk' : k = a.length := by omega
  subst hk'
  rw [List.take_of_length_le (by omega)] at hos ⊢
  cases o with
  |none =>
   rw [dB] at hos
   simp -dsimp -implicitDefEqProofs only [go_sem, ↓reduceIte, Tryz.f140, dN, aK, Nat.lt_irrefl, Int.lt_irrefl]
   intro _
   rw [hos]
   exact Shift.of (Sub.loose _ _ _) (aB.le_refl _)
  |some n =>
   rw [cQ] at hos
   simp -dsimp -implicitDefEqProofs only [go_sem, ↓reduceIte, Tryz.f140, cI, aG, Nat.lt_irrefl, Int.lt_irrefl]
   intro _
   exact kQ _ hos (aB.le_refl _) rfl
@[go_sem] def aH5 : List Nat := [0, 1, 4, 5, 6, 7, 8, 9, 18, 27]
@[go_sem] def aXG : List Nat := [10, 47]
@[go_sem] def aXH : Marks := fun id => match id with | 10 => ([4], (.op 0 (.op 1 (.op 2 (.op 3 (.op 5 (.op 6 (.op 7 (.op 8 (.op 9 (.op 10 (.op 4 (.op 11 (.op 12 (.op 13 .nil)))))))))))))), []) | _ => ([], .nil, [])
theorem bEI (a b : List Int) (hab : b.length = a.length) (hl : a.length ≤ 1048576) (h0 : 0 < a.length) (ha : pB a) (hb : pB b) : e8 Tryz.prog 141 [ints a, ints b] (ints (xA a b)) := by
 have hc := aAW a b
 have e0 : b[Int.toNat 0]? = some (b.getD 0 0) := eZ (l := b) (i := 0) (by omega)
 refine tB 50 aH5 aXG aXH mix Tryz.func141 rfl (by kernel_rfl) (by simp) fun h => ?_
 simp -dsimp -implicitDefEqProofs only [go_sem, ↓reduceIte, Tryz.f141, e0]
 refine ⟨Nat.zero_lt_one, by omega, ?_⟩
 first | refine aJ.mk (aAY (b.getD 0 0)) ?_ | refine aL.mk (aAY (b.getD 0 0)) ?_ | refine aJ.dF (aAY (b.getD 0 0)) ?_ | refine aL.mk (cZ.gC (aAY (b.getD 0 0))) ?_
 simp -dsimp -implicitDefEqProofs only [go_sem, ↓reduceIte, Tryz.f141]
 refine cS (keep := aH5) (ib := aXG) (mk := aXH) mix (by kernel_rfl) (fun x : Nat × Option Nat => [(0, ints a), (1, ints b), (6, I (sF (b.getD 0 0))), (5, nO 1 ((xA a b).take x.1).length x.2), (7, I x.1)]) (fun x => dD h (.row 1 ((((xA a b).take x.1).map fun n => [I n]).map (List.map .v))) x.2) (fun x => x.1 ≤ a.length ∧ lQ h ((xA a b).take x.1) x.2) (fun x => a.length - x.1) (0, none) ⟨by simp [dA, cH, nO], by simp only [aK]; exact aB.le_refl _, Nat.zero_le _, by simp [lQ]⟩ ?_
 rintro ⟨k, o⟩ ⟨hk, hos⟩
 simp only at hk hos ⊢
 rcases Nat.lt_or_ge k a.length with hlt | hge
 ·have hy : (xA a b).take (k + 1) = (xA a b).take k ++ [(xA a b)[k]'(by omega)] := List.take_succ_eq_append_getElem (by omega)
  have hv := a2A (a := a) (b := b) hlt
  have hlk : ((xA a b).take k).length = k := by rw [List.length_take]; omega
  have ek := eZ hlt
  rw [hv] at hy
  cases o with
  |none =>
   rw [dB] at hos
   rw [hos] at hy ⊢
   have hk0 : k = 0 := by rw [hos] at hlk; exact hlk.symm
   subst hk0
   simp -dsimp -implicitDefEqProofs only [go_sem, ↓reduceIte, Tryz.f141, dN, aK, hlt, ek]
   intro _
   refine tF (keep := aH5) (ib := aXG) (mk := aXH) mix (by kernel_rfl) (fun _ : Unit => [(0, ints a), (1, ints b), (5, .sl 1 [] true), (6, I (sF (b.getD 0 0))), (7, I (0 : Nat)), (8, I (a.getD 0 0)), (9, I (0 : Nat))]) (fun _ => True) (fun _ => 0) () ⟨by simp [dA, cH], trivial⟩ ?_
   intro _ _
   simp -dsimp -implicitDefEqProofs only [go_sem, ↓reduceIte, Tryz.f141, Nat.lt_irrefl, Int.lt_irrefl]
   try (refine ⟨fun q => absurd q (by omega), fun _ => ?_⟩)
   first | refine aJ.mk (cT (a.getD 0 0) (sF (b.getD 0 0)) (ha.get 0) (num_inv _)) ?_ | refine aL.mk (cT (a.getD 0 0) (sF (b.getD 0 0)) (ha.get 0) (num_inv _)) ?_ | refine aJ.dF (cT (a.getD 0 0) (sF (b.getD 0 0)) (ha.get 0) (num_inv _)) ?_ | refine aL.mk (cZ.gC (cT (a.getD 0 0) (sF (b.getD 0 0)) (ha.get 0) (num_inv _))) ?_
   simp -dsimp -implicitDefEqProofs only [go_sem, ↓reduceIte, Tryz.f141]
   repeat' (with_reducible first | intro _ | refine And.intro ?_ ?_)
   all_goals try (first | omega | decide)
   rename_i b hb
   refine ⟨(0 + 1, some b), ?_⟩
   simp only [hy]
   refine ⟨⟨rfl, ?_⟩, aB.le_refl _, ⟨by omega, hb⟩, by omega⟩
   rw [IntWalk.i64_in _ (by omega)]; rfl
  |some n =>
   rw [cQ] at hos
   simp -dsimp -implicitDefEqProofs only [go_sem, ↓reduceIte, Tryz.f141, cI, aG, hlt, ek]
   intro _
   have htk : (xA a b).take k = oU a b k := aGD a b _ hk
   refine tF (keep := aH5) (ib := aXG) (mk := aXH) mix (by kernel_rfl) (fun i : Nat => [(0, ints a), (1, ints b), (5, .os n 1 0 ((xA a b).take k).length), (6, I (sF (b.getD 0 0))), (7, I k), (8, I (dvS (oU a b k) b k (a.getD k 0) i)), (9, I i)]) (fun i => i ≤ k) (fun i => k - i) 0 ⟨by simp [dA, cH, dvS], Nat.zero_le _⟩ ?_
   intro i hi
   rcases Nat.lt_or_ge i k with aAP | a6H
   ·have ei : ((xA a b).take k)[i]? = some ((oU a b k).getD i 0) := by rw [htk]; exact eZ (by rw [pW]; exact aAP)
    have eb := eZ (l := b) (i := k - i) (by omega)
    have ew : IntKind.i64.wrap ((k : Int) - (i : Int)) = ((k - i : Nat) : Int) := by rw [IntWalk.i64_in _ (by omega)]; omega
    simp -dsimp -implicitDefEqProofs only [go_sem, ↓reduceIte, Tryz.f141, aAP, ei, eb, ew]
    refine ⟨by omega, by omega, ?_⟩
    first | refine aJ.mk (cT ((oU a b k).getD i 0) (b.getD (k - i) 0) ((xB a b k).get i) (hb.get (k - i))) ?_ | refine aL.mk (cT ((oU a b k).getD i 0) (b.getD (k - i) 0) ((xB a b k).get i) (hb.get (k - i))) ?_ | refine aJ.dF (cT ((oU a b k).getD i 0) (b.getD (k - i) 0) ((xB a b k).get i) (hb.get (k - i))) ?_ | refine aL.mk (cZ.gC (cT ((oU a b k).getD i 0) (b.getD (k - i) 0) ((xB a b k).get i) (hb.get (k - i)))) ?_
    simp -dsimp -implicitDefEqProofs only [go_sem, ↓reduceIte, Tryz.f141]
    first | refine aJ.mk (tI (dvS (oU a b k) b k (a.getD k 0) i) ((oU a b k).getD i 0 * b.getD (k - i) 0 % 1000003) (aAV _ _ _ (ha.get k) i) (r6 _)) ?_ | refine aL.mk (tI (dvS (oU a b k) b k (a.getD k 0) i) ((oU a b k).getD i 0 * b.getD (k - i) 0 % 1000003) (aAV _ _ _ (ha.get k) i) (r6 _)) ?_ | refine aJ.dF (tI (dvS (oU a b k) b k (a.getD k 0) i) ((oU a b k).getD i 0 * b.getD (k - i) 0 % 1000003) (aAV _ _ _ (ha.get k) i) (r6 _)) ?_ | refine aL.mk (cZ.gC (tI (dvS (oU a b k) b k (a.getD k 0) i) ((oU a b k).getD i 0 * b.getD (k - i) 0 % 1000003) (aAV _ _ _ (ha.get k) i) (r6 _))) ?_
    simp -dsimp -implicitDefEqProofs only [go_sem, ↓reduceIte, Tryz.f141]
    refine ⟨i + 1, ⟨?_, by rw [IntWalk.i64_in _ (by omega)]; rfl⟩, by omega, by omega⟩
    rw [dvS]
    omega
   ·have hi' : i = k := by omega
    subst hi'
    simp -dsimp -implicitDefEqProofs only [go_sem, ↓reduceIte, Tryz.f141, Nat.lt_irrefl, Int.lt_irrefl]
    first | refine aJ.mk (cT (dvS (oU a b i) b i (a.getD i 0) i) (sF (b.getD 0 0)) (aAV _ _ _ (ha.get i) i) (num_inv _)) ?_ | refine aL.mk (cT (dvS (oU a b i) b i (a.getD i 0) i) (sF (b.getD 0 0)) (aAV _ _ _ (ha.get i) i) (num_inv _)) ?_ | refine aJ.dF (cT (dvS (oU a b i) b i (a.getD i 0) i) (sF (b.getD 0 0)) (aAV _ _ _ (ha.get i) i) (num_inv _)) ?_ | refine aL.mk (cZ.gC (cT (dvS (oU a b i) b i (a.getD i 0) i) (sF (b.getD 0 0)) (aAV _ _ _ (ha.get i) i) (num_inv _))) ?_
    simp -dsimp -implicitDefEqProofs only [go_sem, ↓reduceIte, Tryz.f141]
    repeat' (with_reducible first | intro _ | refine And.intro ?_ ?_)
    all_goals try (first | omega | decide | exact Nat.le_refl _)
    rename_i b hb
    refine ⟨(i + 1, some b), ?_⟩
    simp only [hy, aG, cI, cQ]
    refine ⟨⟨by rw [List.length_append]; rfl, ?_⟩, ?_, ⟨by omega, hb.2⟩, by omega⟩
    ·rw [IntWalk.i64_in _ (by omega)]; rfl
    ·rw [← jN]; exact qA hos
 ·have hk' : k = a.length := by omega
  subst hk'
  rw [List.take_of_length_le (by omega)] at hos ⊢
  cases o with
  |none =>
   rw [dB] at hos
   simp -dsimp -implicitDefEqProofs only [go_sem, ↓reduceIte, Tryz.f141, dN, aK, Nat.lt_irrefl, Int.lt_irrefl]
   intro _
   rw [hos]
   exact Shift.of (Sub.loose _ _ _) (aB.le_refl _)
  |some n =>
   rw [cQ] at hos
   simp -dsimp -implicitDefEqProofs only [go_sem, ↓reduceIte, Tryz.f141, cI, aG, Nat.lt_irrefl, Int.lt_irrefl]
   intro _
   exact kQ _ hos (aB.le_refl _) rfl
theorem aHI {h h' : aB} {n : Nat} (l : List (List Int)) (h0 : h n = none) (hl : (bK h n (.row 1 ((l.map fun s => [ints s]).map (List.map .v)))).le h') {len : Nat} (e : len = l.length) : Shift (.os n 1 0 len) h' (c5 1 (fun s => [ints s]) l) h :=
 lW (l.map fun s => [ints s]) h0 hl len (by rw [List.length_map]; exact e)
@[go_sem] def aXI : List Nat := [0, 1, 4, 5, 6, 11]
@[go_sem] def bAH : List Nat := [7, 19, 23]
@[go_sem] def bAI : Marks := fun _ => ([], .nil, [])
theorem aO3 (env : List (List Int)) (s : List Int) (hl : env.length ≤ 1048576) : e8 Tryz.prog 136 [c5 1 (fun s => [ints s]) env, ints s] (c5 1 (fun s => [ints s]) (env ++ [s])) := by
 refine tB 25 aXI bAH bAI mix Tryz.func136 rfl (by kernel_rfl) (by simp) fun h => ?_
 simp -dsimp -implicitDefEqProofs only [go_sem, ↓reduceIte, Tryz.f136]
 refine ⟨Nat.zero_lt_one, ?_⟩
 refine cS (keep := aXI) (ib := bAH) (mk := bAI) mix (by kernel_rfl) (fun x : Nat × Option Nat => [(0, c5 1 (fun s => [ints s]) env), (1, ints s), (5, nO 1 (env.take x.1).length x.2), (6, I x.1)]) (fun x => dD h (.row 1 (((env.take x.1).map fun s => [ints s]).map (List.map .v))) x.2) (fun x => x.1 ≤ env.length ∧ lQ h (env.take x.1) x.2) (fun x => env.length - x.1) (0, none) ⟨by simp [dA, cH, nO], by simp only [aK]; exact aB.le_refl _, Nat.zero_le _, by simp [lQ]⟩ ?_
 rintro ⟨k, o⟩ ⟨hk, hos⟩
 simp only at hk hos ⊢
 rcases Nat.lt_or_ge k env.length with hlt | hge
 ·have ea : env[k]? = some env[k] := List.getElem?_eq_getElem hlt
  have hy : env.take (k + 1) = env.take k ++ [env[k]] := List.take_succ_eq_append_getElem hlt
  have hlk : (env.take k).length = k := by rw [List.length_take]; omega
  cases o with
  |none =>
   rw [dB] at hos
   rw [hos] at hy ⊢
   simp -dsimp -implicitDefEqProofs only [go_sem, ↓reduceIte, Tryz.f136, dN, aK, hlt, ea]
   intro _
   repeat' (with_reducible first | intro _ | refine And.intro ?_ ?_)
   all_goals try (first | omega | decide)
   rename_i b hb
   refine ⟨(k + 1, some b), ?_⟩
   simp only [hy]
   refine ⟨⟨rfl, ?_⟩, aB.le_refl _, ⟨by omega, hb⟩, by omega⟩
   rw [IntWalk.i64_in _ (by omega)]; rfl
  |some n =>
   rw [cQ] at hos
   simp -dsimp -implicitDefEqProofs only [go_sem, ↓reduceIte, Tryz.f136, cI, aG, hlt, ea]
   intro _
   repeat' (with_reducible first | intro _ | refine And.intro ?_ ?_)
   all_goals try (first | omega | decide | exact Nat.le_refl _)
   rename_i b hb
   refine ⟨(k + 1, some b), ?_⟩
   simp only [hy, aG, cI, cQ]
   refine ⟨⟨by rw [List.length_append]; rfl, ?_⟩, ?_, ⟨by omega, hb.2⟩, by omega⟩
   ·rw [IntWalk.i64_in _ (by omega)]; rfl
   ·rw [← jN]; exact qA hos
 ·have hk' : k = env.length := by omega
  subst hk'
  rw [List.take_length] at hos ⊢
  cases o with
  |none =>
   rw [dB] at hos
   simp -dsimp -implicitDefEqProofs only [go_sem, ↓reduceIte, Tryz.f136, dN, aK, Nat.lt_irrefl, Int.lt_irrefl]
   subst hos
   exact fun _ => ⟨Nat.zero_lt_one, Nat.zero_lt_one, Nat.zero_lt_one, fun n hn => aHI [s] hn (aB.le_refl _) rfl⟩
  |some n =>
   rw [cQ] at hos
   simp -dsimp -implicitDefEqProofs only [go_sem, ↓reduceIte, Tryz.f136, cI, aG, Nat.lt_irrefl, Int.lt_irrefl]
   exact fun _ => ⟨Nat.zero_lt_one, Nat.zero_lt_one, Nat.zero_lt_one, Nat.le_refl _, by omega, by omega, fun m hm => aHI (env ++ [s]) hm.2 (by rw [← jN]; exact qA hos) (by rw [List.length_append]; rfl)⟩
end Go.Hl

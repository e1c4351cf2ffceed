/-
  Contracts of functions and laws of the layer over the walk.
-/
import Derived.Test.YtenkidkcfjbcgaaGreatDoorVvE
import Derived.Test.YtenkidkcfjbcgaaGreatDoorVvC
import Derived.Test.YtenkidkcfjbcgaaGreatDoorHlD
import Derived.Test.YtenkidkcfjbcgaaGreatDoorVvA
namespace Go.Hl
open Go.Proofs
set_option linter.unusedVariables false
set_option linter.unusedSimpArgs false
theorem kids_end {B g H : Heap} {nb : Nat} {R' : HObj} {k n c d : Int} {l : List DExpr} {es : List (List OV)} {o : Option Nat} (hor : OR DExpr.o l es) (w : New B (OV.rowsRows es) g) (z : g nb = none) (hs : gside g es o) (hon : ∀ m, o = some m → ¬ m = nb)
    (hle : (upd (oheap g (.row 5 (OV.cells es)) o) nb R').le H) :
    ∃ r1 g1, Shift (.agg [I k, I n, I c, I d, onil 5 es.length o]) H r1 g1 ∧ ∃ l' g', QA (DExpr.mk k n c d l).o (fun x => x) r1 l' ∧ New B l' g' ∧ g' nb = none ∧ g1 = upd g' nb R' :=
  ⟨_, _, Shift.of (Sub.agg (.cons (.refl _) (.cons (.refl _) (.cons (.refl _) (.cons (.refl _) (.cons gov_sub .nil)))))) hle, _, _, ⟨[.v (I k), .v (I n), .v (I c), .v (I d), gov 5 es o], (DExpr.o_iff _ _).2 ⟨_, rfl, gov_os hor hs⟩, rfl, rfl⟩,
    by simpa only [OV.row_cons, OV.row_nil, OV.v_rows, List.nil_append, List.append_nil] using gov_new w hs, oheap_at z hon, rfl⟩
theorem gside_free {g : Heap} {es : List (List OV)} {o : Option Nat} (hs : gside g es o) : ∀ m, o = some m → g m = none := fun m e => by subst e; exact hs
theorem gside_more {g h : Heap} {es : List (List OV)} {o : Option Nat} (hs : gside g es o) (hl : h.le g) : gside h es o := by
  cases o with
  | none => exact hs
  | some m => exact Heap.le_none hl hs
theorem oheap_keep {g : Heap} {R X : HObj} {o : Option Nat} {n : Nat} (hg : g n = some X) (hs : ∀ m, o = some m → g m = none) : oheap g R o n = some X := by
  cases o with
  | none => exact hg
  | some m => rw [oheap_some, upd_ne _ _ _ _ (fun e => by rw [e, hs m rfl] at hg; cases hg)]; exact hg
theorem oheap_mono {g h : Heap} (R : HObj) (o : Option Nat) (hl : g.le h) : (oheap g R o).le (oheap h R o) := by
  cases o with
  | none => exact hl
  | some m => exact Heap.le_both hl
def keep91 : List Nat := [0, 1, 4, 5, 6, 17, 32, 39, 52]
def ib91 : List Nat := []
def mk91 : Marks := fun _ => ([], .nil, [])
set_option maxRecDepth 100000 in
set_option maxHeartbeats 1000000 in
theorem namedSH {nb : Nat} {p : DProgram} {t : List UInt8} (ht : t.length ≤ 1048600) (hps : p.s ≤ 4194304) {ex : RSt → DExpr × RSt} (hex : ExC t ex)
    {D : Int} (hcall : ∀ s, Good 62 t s → s.b = false → s.d = D → BX Tryz.prog 39 [.op nb 6 0 0] nb (rds p t s) (rds p t (ex s).2) (QA (ex s).1.o)) (name : List UInt8) {s : RSt} (g0 : Good 62 t s) (hd0 : s.b = false → s.d = D) :
    BX Tryz.prog 91 [.op nb 6 0 0, .str name] nb (rds p t s) (rds p t (callS ex p t name s).2) (QA (callS ex p t name s).1.o) := by
  intro B hB
  have g1 := (numSs_b g0).good g0
  have hd1 : (numSs t s).b = false → (numSs t s).d = D := fun q => by
    have q1 := (numSs_b g0).ok q
    rw [q1.2.1]; exact hd0 q1.1
  have hpl : p.fFuncs.length ≤ 4194304 := by have := DProgram.s_eq p; rw [szs_eq] at this; omega
  refine fnKF 60 keep91 ib91 mk91 mix Tryz.func91 rfl (by kernel_rfl) (by simp) ?_
  simp (maxSteps := 1000000) -dsimp -implicitDefEqProofs only [go_sem, ↓reduceIte, keep91, ib91, mk91, Tryz.f91, rds]
  intro n4 q4
  have d_n4_nb : ¬ n4 = nb := q4.1
  have d_nb_n4 : ¬ nb = n4 := Ne.symm d_n4_nb
  have e_n4_nb : (n4 = nb) = False := eq_false d_n4_nb
  have e_nb_n4 : (nb = n4) = False := eq_false d_nb_n4
  simp (maxSteps := 1000000) -dsimp -implicitDefEqProofs only [go_sem, ↓reduceIte, keep91, ib91, mk91, Tryz.f91, e_n4_nb, e_nb_n4, upd_ne, upd_get, upd_swap d_nb_n4, upd_upd, rds]
  intro n5 q5
  have a5 : ¬ n5 = nb := by grind
  have b5 : ¬ n5 = n4 := by grind
  have d_n5_nb : ¬ n5 = nb := a5
  have d_nb_n5 : ¬ nb = n5 := Ne.symm d_n5_nb
  have e_n5_nb : (n5 = nb) = False := eq_false d_n5_nb
  have e_nb_n5 : (nb = n5) = False := eq_false d_nb_n5
  have d_n5_n4 : ¬ n5 = n4 := b5
  have d_n4_n5 : ¬ n4 = n5 := Ne.symm d_n5_n4
  have e_n5_n4 : (n5 = n4) = False := eq_false d_n5_n4
  have e_n4_n5 : (n4 = n5) = False := eq_false d_n4_n5
  have q4n : B n4 = none := q4.2
  have q5n : B n5 = none := by grind
  simp (maxSteps := 1000000) -dsimp -implicitDefEqProofs only [go_sem, ↓reduceIte, keep91, ib91, mk91, Tryz.f91, e_n4_nb, e_n4_n5, e_nb_n4, e_nb_n5, e_n5_n4, e_n5_nb, upd_ne, upd_get, upd_swap d_nb_n4, upd_swap d_nb_n5, upd_upd, Option.toArray_none, Option.toArray_some, List.filterMap_cons, List.filterMap_nil, List.elem_cons_self, List.nil_append, List.append_nil, List.toList_toArray]
  refine loopF (keep := keep91) (ib := ib91) (mk := mk91) mix (by kernel_rfl) (fun i : Nat => [(0, .op nb 6 0 0), (1, .str name), (4, .op n4 5 0 0), (5, .op n5 5 0 0), (6, I i)]) (fun i => upd (upd (upd B n4 (.row 5 [[.v (I 0), .v (I 0), .v (I 0), .v (I 0), .v .nilsl]])) n5 (.row 5 [[.v (I 10), .v (I (lastN name p.fFuncs i)), .v (I 0), .v (I 0), .v .nilsl]])) nb (rds p t s)) (fun i => i ≤ p.fFuncs.length) (fun i => p.fFuncs.length - i) 0 ⟨by simp [SatL, tget], Heap.le_refl _, Nat.zero_le _⟩ ?_
  intro i hi
  rcases Nat.lt_or_ge i p.fFuncs.length with hlt | hge
  · have ei : p.fFuncs[i]? = some p.fFuncs[i] := List.getElem?_eq_getElem hlt
    have hL : lastN name p.fFuncs (i + 1) = if p.fFuncs[i].fName = name then (i : Int) else lastN name p.fFuncs i := by rw [lastN, ei]; simp
    simp (maxSteps := 1000000) -dsimp -implicitDefEqProofs only [go_sem, ↓reduceIte, keep91, ib91, mk91, Tryz.f91, e_n4_nb, e_n4_n5, e_nb_n4, e_nb_n5, e_n5_n4, e_n5_nb, upd_ne, upd_get, upd_swap d_nb_n4, upd_swap d_nb_n5, upd_upd, Option.toArray_none, Option.toArray_some, List.filterMap_cons, List.filterMap_nil, List.elem_cons_self, List.nil_append, List.append_nil, List.toList_toArray, rds, ei, DFunc.c_eq]
    refine fun _ => ⟨fun _ => ⟨hlt, fun he => ⟨i + 1, IntWalk.i64_in _ (by omega), by rw [hL, if_pos he]; exact Heap.le_refl _, by omega, by omega⟩, fun he => ⟨i + 1, IntWalk.i64_in _ (by omega), by rw [hL, if_neg he]; exact Heap.le_refl _, by omega, by omega⟩⟩, fun q => absurd hlt q⟩
  · have hi' : i = p.fFuncs.length := by omega
    subst hi'
    simp (maxSteps := 1000000) -dsimp -implicitDefEqProofs only [go_sem, ↓reduceIte, keep91, ib91, mk91, Tryz.f91, e_n4_nb, e_n4_n5, e_nb_n4, e_nb_n5, e_n5_n4, e_n5_nb, upd_ne, upd_get, upd_swap d_nb_n4, upd_swap d_nb_n5, upd_upd, Option.toArray_none, Option.toArray_some, List.filterMap_cons, List.filterMap_nil, List.elem_cons_self, List.nil_append, List.append_nil, List.toList_toArray, rds, Nat.lt_irrefl]
    intro _
    unfold callS
    generalize lastN name p.fFuncs p.fFuncs.length = num
    refine HFnF.mkH (numberS ht g0.le (upd_same ..)) ?_
    rintro r_ h' ⟨rfl, rfl⟩
    rw [upd_upd]
    generalize numSs t s = s1 at *
    generalize numS t s = pick
    simp (maxSteps := 1000000) -dsimp -implicitDefEqProofs only [go_sem, ↓reduceIte, keep91, ib91, mk91, Tryz.f91, e_n4_nb, e_n4_n5, e_nb_n4, e_nb_n5, e_n5_n4, e_n5_nb, upd_ne, upd_get, upd_swap d_nb_n4, upd_swap d_nb_n5, upd_upd]
    refine HFnF.mkH (takeSH ht [94] (by simp) g1.le (upd_same ..)) ?_
    rintro r_ h' ⟨rfl, rfl⟩
    rw [upd_upd, callS2]
    cases hk : tkS t [94] s1
    · rw [if_neg (by simp), if_neg (by simp)]
      simp (maxSteps := 1000000) -dsimp -implicitDefEqProofs only [go_sem, ↓reduceIte, keep91, ib91, mk91, Tryz.f91, e_n4_nb, e_n4_n5, e_nb_n4, e_nb_n5, e_n5_n4, e_n5_nb, upd_ne, upd_get, upd_swap d_nb_n4, upd_swap d_nb_n5, upd_upd, Bool.false_eq_true, rds]
      refine ⟨fun hn => ⟨fun hb => ?_, fun hb => ?_⟩, fun hn => ?_⟩
      · rw [callS3, if_pos (.inr hb)]
        exact kids_end (R' := rds p t (s1).fail) (es := []) (o := none) trivial (New.nil B) hB rfl (by simp) (Heap.le_both (Heap.le_upd q4n (Heap.le_upd q5n (Heap.le_upd q4n (Heap.le_refl _)))))
      · rw [callS3, if_neg (by rw [hb]; simp; omega)]
        refine HFnF.mkH (kidsSH (s := s1) ht hex hcall g1 hd1 _ _ _ _ (B := upd B n4 (.row 5 [[.v (I 0), .v (I 0), .v (I 0), .v (I 0), .v .nilsl]])) (by rw [upd_ne _ _ _ _ d_nb_n4]; exact hB) (by rw [upd_ne _ _ _ _ d_n5_n4]; exact q5n) d_n5_nb) ?_
        rintro r_ h' ⟨rfl, es, o, g', hor, w, z1, z2, hs, hon, rfl⟩
        obtain ⟨g8, rfl, w8, z84⟩ := New.under q4n w
        have z8b : g8 nb = none := by rwa [upd_ne _ _ _ _ d_nb_n4] at z1
        have z85 : g8 n5 = none := by rwa [upd_ne _ _ _ _ d_n5_n4] at z2
        have hfr := gside_free hs
        have hs8 := gside_more hs (Heap.le_upd (o := .row 5 [[.v (I 0), .v (I 0), .v (I 0), .v (I 0), .v .nilsl]]) z84 (Heap.le_refl _))
        have ho4 := oheap_keep (R := .row 5 (OV.cells es)) (upd_same g8 n4 (.row 5 [[.v (I 0), .v (I 0), .v (I 0), .v (I 0), .v .nilsl]])) hfr
        have hn4 : ∀ m, o = some m → ¬ m = n4 := fun m e q => by have := hfr m e; rw [q, upd_same] at this; cases this
        simp only [boxE]
        simp (maxSteps := 1000000) -dsimp -implicitDefEqProofs only [go_sem, ↓reduceIte, keep91, ib91, mk91, Tryz.f91, e_n4_nb, e_n4_n5, e_nb_n4, e_nb_n5, e_n5_n4, e_n5_nb, upd_ne, upd_get, upd_swap d_nb_n4, upd_swap d_nb_n5, upd_upd, onil_flat, onil_cells, ho4]
        exact kids_end (R' := rds p t (listS ex t (s1)).2) hor w8 z8b hs8 (fun m e => (hon m e).1) (Heap.le_both (Heap.le_upd (oheap_at z84 hn4) (Heap.le_upd (oheap_at z85 fun m e => (hon m e).2) (oheap_mono _ _ (Heap.le_upd z84 (Heap.le_refl _))))))
      · rw [callS3, if_pos (.inl hn)]
        exact kids_end (R' := rds p t (s1).fail) (es := []) (o := none) trivial (New.nil B) hB rfl (by simp) (Heap.le_both (Heap.le_upd q4n (Heap.le_upd q5n (Heap.le_upd q4n (Heap.le_refl _)))))
    · rw [if_pos rfl, if_pos rfl]
      have g2 := (Bnd.adv g1 (tkS_len1 g1 hk)).good g1
      simp (maxSteps := 1000000) -dsimp -implicitDefEqProofs only [go_sem, ↓reduceIte, keep91, ib91, mk91, Tryz.f91, e_n4_nb, e_n4_n5, e_nb_n4, e_nb_n5, e_n5_n4, e_n5_nb, upd_ne, upd_get, upd_swap d_nb_n4, upd_swap d_nb_n5, upd_upd]
      refine HFnF.mkH (numberS ht g2.le (upd_same ..)) ?_
      rintro r_ h' ⟨rfl, rfl⟩
      rw [upd_upd]
      have g3 := (numSs_b g2).good g2
      have hd3 : (numSs t (s1.adv 1)).b = false → (numSs t (s1.adv 1)).d = D := fun q => by
        have q1 := (numSs_b g2).ok q
        rw [q1.2.1]; exact hd1 q1.1
      generalize numSs t (s1.adv 1) = s3 at *
      simp (maxSteps := 1000000) -dsimp -implicitDefEqProofs only [go_sem, ↓reduceIte, keep91, ib91, mk91, Tryz.f91, e_n4_nb, e_n4_n5, e_nb_n4, e_nb_n5, e_n5_n4, e_n5_nb, upd_ne, upd_get, upd_swap d_nb_n4, upd_swap d_nb_n5, upd_upd, rds]
      refine ⟨fun hn => ⟨fun hb => ?_, fun hb => ?_⟩, fun hn => ?_⟩
      · rw [callS3, if_pos (.inr hb)]
        exact kids_end (R' := rds p t (s3).fail) (es := []) (o := none) trivial (New.nil B) hB rfl (by simp) (Heap.le_both (Heap.le_upd q4n (Heap.le_upd q5n (Heap.le_upd q4n (Heap.le_refl _)))))
      · rw [callS3, if_neg (by rw [hb]; simp; omega)]
        refine HFnF.mkH (kidsSH (s := s3) ht hex hcall g3 hd3 _ _ _ _ (B := upd B n4 (.row 5 [[.v (I 0), .v (I 0), .v (I 0), .v (I 0), .v .nilsl]])) (by rw [upd_ne _ _ _ _ d_nb_n4]; exact hB) (by rw [upd_ne _ _ _ _ d_n5_n4]; exact q5n) d_n5_nb) ?_
        rintro r_ h' ⟨rfl, es, o, g', hor, w, z1, z2, hs, hon, rfl⟩
        obtain ⟨g8, rfl, w8, z84⟩ := New.under q4n w
        have z8b : g8 nb = none := by rwa [upd_ne _ _ _ _ d_nb_n4] at z1
        have z85 : g8 n5 = none := by rwa [upd_ne _ _ _ _ d_n5_n4] at z2
        have hfr := gside_free hs
        have hs8 := gside_more hs (Heap.le_upd (o := .row 5 [[.v (I 0), .v (I 0), .v (I 0), .v (I 0), .v .nilsl]]) z84 (Heap.le_refl _))
        have ho4 := oheap_keep (R := .row 5 (OV.cells es)) (upd_same g8 n4 (.row 5 [[.v (I 0), .v (I 0), .v (I 0), .v (I 0), .v .nilsl]])) hfr
        have hn4 : ∀ m, o = some m → ¬ m = n4 := fun m e q => by have := hfr m e; rw [q, upd_same] at this; cases this
        simp only [boxE]
        simp (maxSteps := 1000000) -dsimp -implicitDefEqProofs only [go_sem, ↓reduceIte, keep91, ib91, mk91, Tryz.f91, e_n4_nb, e_n4_n5, e_nb_n4, e_nb_n5, e_n5_n4, e_n5_nb, upd_ne, upd_get, upd_swap d_nb_n4, upd_swap d_nb_n5, upd_upd, onil_flat, onil_cells, ho4]
        exact kids_end (R' := rds p t (listS ex t (s3)).2) hor w8 z8b hs8 (fun m e => (hon m e).1) (Heap.le_both (Heap.le_upd (oheap_at z84 hn4) (Heap.le_upd (oheap_at z85 fun m e => (hon m e).2) (oheap_mono _ _ (Heap.le_upd z84 (Heap.le_refl _))))))
      · rw [callS3, if_pos (.inl hn)]
        exact kids_end (R' := rds p t (s3).fail) (es := []) (o := none) trivial (New.nil B) hB rfl (by simp) (Heap.le_both (Heap.le_upd q4n (Heap.le_upd q5n (Heap.le_upd q4n (Heap.le_refl _)))))
open Go.Proofs
set_option linter.unusedVariables false
set_option linter.unusedSimpArgs false
theorem opS_at {t : List UInt8} {s : RSt} {j : Nat} (hj : j < 4) (hno : ∀ i : Nat, i < j → tkS t [signB ((i : Int) + 3)] s = false) (h : tkS t [signB ((j : Int) + 3)] s = true) : opS t s = (j : Int) + 3 ∧ opSs t s = s.adv 1 := by
  obtain ⟨g0, g1, g2, g3⟩ := sign_ix
  have h0 := hno 0
  have h1 := hno 1
  have h2 := hno 2
  rw [g0] at h0
  rw [g1] at h1
  rw [g2] at h2
  unfold opSs opS
  rcases (by omega : j = 0 ∨ j = 1 ∨ j = 2 ∨ j = 3) with rfl | rfl | rfl | rfl
  · rw [g0] at h; simp [h]
  · rw [g1] at h; simp [h, h0 (by omega)]
  · rw [g2] at h; simp [h, h0 (by omega), h1 (by omega)]
  · rw [g3] at h; simp [h, h0 (by omega), h1 (by omega), h2 (by omega)]
theorem opS_none {t : List UInt8} {s : RSt} (hno : ∀ i : Nat, i < 4 → tkS t [signB ((i : Int) + 3)] s = false) : opS t s = 0 ∧ opSs t s = s := by
  obtain ⟨g0, g1, g2, g3⟩ := sign_ix
  have h0 := hno 0 (by omega)
  have h1 := hno 1 (by omega)
  have h2 := hno 2 (by omega)
  have h3 := hno 3 (by omega)
  rw [g0] at h0
  rw [g1] at h1
  rw [g2] at h2
  rw [g3] at h3
  unfold opSs opS
  simp [h0, h1, h2, h3]
def keep90 : List Nat := [0, 2, 3, 4, 21, 27, 40]
def ib90 : List Nat := [10, 49]
def mk90 : Marks := fun id => match id with | 2 => ([1, 3, 5, 7], (.op 0 (.op 2 (.op 1 (.op 3 (.op 4 (.op 5 (.op 6 (.op 7 .nil)))))))), [(1, 3)]) | 13 => ([1, 3, 5, 7], (.op 0 (.op 2 (.op 1 (.op 3 (.op 4 (.op 5 (.op 6 (.op 7 .nil)))))))), [(1, 3)]) | _ => ([], .nil, [])
set_option maxRecDepth 100000 in
set_option maxHeartbeats 1000000 in
theorem binarySH {nb : Nat} {p : DProgram} {t : List UInt8} (ht : t.length ≤ 1048600) {ex : RSt → DExpr × RSt} (hex : ExC t ex)
    {D : Int} (hcall : ∀ s, Good 62 t s → s.b = false → s.d = D → BX Tryz.prog 39 [.op nb 6 0 0] nb (rds p t s) (rds p t (ex s).2) (QA (ex s).1.o)) {s : RSt} (g0 : Good 62 t s) (hb0 : s.b = false) (hd0 : s.d = D) :
    BX Tryz.prog 90 [.op nb 6 0 0] nb (rds p t s) (rds p t (binS ex t s).2) (QA (binS ex t s).1.o) := by
  intro B hB
  have b1 := hex s g0 hb0
  have g1 := b1.good g0
  have b2 := b1.trans (needS_b (x := [32]) g1)
  have g2 := b2.good g0
  have b3 := b2.trans (opSs_b g2)
  have g3 := b3.good g0
  have b4 := b3.trans (needS_b (x := [32]) g3)
  have g4 := b4.good g0
  unfold binS binS1
  refine fnKF 55 keep90 ib90 mk90 mix Tryz.func90 rfl (by kernel_rfl) (by simp) ?_
  simp (maxSteps := 1000000) -dsimp -implicitDefEqProofs only [go_sem, ↓reduceIte, keep90, ib90, mk90, Tryz.f90]
  intro n2 q2
  have d_n2_nb : ¬ n2 = nb := q2.1
  have d_nb_n2 : ¬ nb = n2 := Ne.symm d_n2_nb
  have e_n2_nb : (n2 = nb) = False := eq_false d_n2_nb
  have e_nb_n2 : (nb = n2) = False := eq_false d_nb_n2
  have q2n : B n2 = none := q2.2
  try simp (maxSteps := 1000000) -dsimp -implicitDefEqProofs only [go_sem, ↓reduceIte, keep90, ib90, mk90, Tryz.f90, e_n2_nb, e_nb_n2, upd_ne, upd_get, upd_swap d_nb_n2, upd_upd]
  intro n3 q3
  have a3 : ¬ n3 = nb := by grind
  have b3n : ¬ n3 = n2 := by grind
  have q3n : B n3 = none := by grind
  have d_n3_nb : ¬ n3 = nb := a3
  have d_nb_n3 : ¬ nb = n3 := Ne.symm d_n3_nb
  have e_n3_nb : (n3 = nb) = False := eq_false d_n3_nb
  have e_nb_n3 : (nb = n3) = False := eq_false d_nb_n3
  have d_n3_n2 : ¬ n3 = n2 := b3n
  have d_n2_n3 : ¬ n2 = n3 := Ne.symm d_n3_n2
  have e_n3_n2 : (n3 = n2) = False := eq_false d_n3_n2
  have e_n2_n3 : (n2 = n3) = False := eq_false d_n2_n3
  simp (maxSteps := 1000000) -dsimp -implicitDefEqProofs only [go_sem, ↓reduceIte, keep90, ib90, mk90, Tryz.f90, e_n2_nb, e_n2_n3, e_nb_n2, e_nb_n3, e_n3_n2, e_n3_nb, upd_ne, upd_get, upd_swap d_nb_n2, upd_swap d_nb_n3, upd_upd, Option.toArray_none, Option.toArray_some, List.filterMap_cons, List.filterMap_nil, List.elem_cons_self, List.nil_append, List.append_nil, List.toList_toArray]
  refine HFnF.mkH (hcall s g0 hb0 hd0 _ (by simp only [upd_get, e_n2_nb, e_n2_n3, e_nb_n2, e_nb_n3, e_n3_n2, e_n3_nb, if_false]; exact hB)) ?_
  rintro r_ h' ⟨l, g9, ⟨ea, oa, rfl, rfl⟩, w9, z9, rfl⟩
  obtain ⟨g8, rfl, w8, z82, z83'⟩ := New.under2 q2n (by rw [upd_ne _ _ _ _ d_n3_n2]; exact q3n) w9
  have z83 := (upd_none.1 z83').2
  have z8b : g8 nb = none := by simpa only [upd_get, e_n2_nb, e_n2_n3, e_nb_n2, e_nb_n3, e_n3_n2, e_n3_nb, if_false] using z9
  have hd1 : (ex s).2.b = false → (ex s).2.d = D := fun q => (b1.ok q).2.1.trans hd0
  generalize hra : ex s = ra at *
  obtain ⟨a, s1⟩ := ra
  simp only at oa b1 g1 b2 g2 b3 g3 b4 g4 hd1 ⊢
  have oa1 := oa
  rw [DExpr.o_iff] at oa1
  obtain ⟨ya, rfl, osa⟩ := oa1
  simp (maxSteps := 1000000) -dsimp -implicitDefEqProofs only [go_sem, ↓reduceIte, keep90, ib90, mk90, Tryz.f90, e_n2_nb, e_n2_n3, e_nb_n2, e_nb_n3, e_n3_n2, e_n3_nb, upd_ne, upd_get, upd_swap d_nb_n2, upd_swap d_nb_n3, upd_upd, Option.toArray_none, Option.toArray_some, List.filterMap_cons, List.filterMap_nil, List.elem_cons_self, List.nil_append, List.append_nil, List.toList_toArray, protF, OV.map_val, OV.map_val_nil, OV.val_v, osa.flat, osa.one]
  refine ⟨by decide, by decide, by decide, fun m qm => ?_⟩
  have am : ¬ m = nb := by grind
  have bm : ¬ m = n2 := by grind
  have cm : ¬ m = n3 := by grind
  have z8m : g8 m = none := by grind
  have d_m_nb : ¬ m = nb := am
  have d_nb_m : ¬ nb = m := Ne.symm d_m_nb
  have e_m_nb : (m = nb) = False := eq_false d_m_nb
  have e_nb_m : (nb = m) = False := eq_false d_nb_m
  have d_m_n2 : ¬ m = n2 := bm
  have d_n2_m : ¬ n2 = m := Ne.symm d_m_n2
  have e_m_n2 : (m = n2) = False := eq_false d_m_n2
  have e_n2_m : (n2 = m) = False := eq_false d_n2_m
  have d_m_n3 : ¬ m = n3 := cm
  have d_n3_m : ¬ n3 = m := Ne.symm d_m_n3
  have e_m_n3 : (m = n3) = False := eq_false d_m_n3
  have e_n3_m : (n3 = m) = False := eq_false d_n3_m
  simp (maxSteps := 1000000) -dsimp -implicitDefEqProofs only [go_sem, ↓reduceIte, keep90, ib90, mk90, Tryz.f90, e_n2_nb, e_n2_n3, e_n2_m, e_nb_n2, e_nb_n3, e_nb_m, e_n3_n2, e_n3_nb, e_n3_m, e_m_n2, e_m_nb, e_m_n3, upd_ne, upd_get, upd_swap d_nb_n2, upd_swap d_nb_n3, upd_swap d_nb_m, upd_upd]
  refine HFnF.mkH (needSH ht [32] (by simp) g1.le (upd_same ..)) ?_
  rintro r_ h' ⟨rfl, rfl⟩
  rw [upd_upd]
  have hd2 : (needS t [32] s1).b = false → (needS t [32] s1).d = D := fun q => by
    have q1 := (needS_b (x := [32]) g1).ok q
    rw [q1.2.1]; exact hd1 q1.1
  generalize needS t [32] s1 = s2 at *
  have hnewA : New B (OV.rowsRows [[.v (I a.fKind), .v (I a.fNum), .v (I a.fPick), .v (I a.fCount), ya]]) g8 := by simpa only [OV.rowsRows, List.append_nil] using w8
  simp (maxSteps := 1000000) -dsimp -implicitDefEqProofs only [go_sem, ↓reduceIte, keep90, ib90, mk90, Tryz.f90, e_n2_nb, e_n2_n3, e_n2_m, e_nb_n2, e_nb_n3, e_nb_m, e_n3_n2, e_n3_nb, e_n3_m, e_m_n2, e_m_nb, e_m_n3, upd_ne, upd_get, upd_swap d_nb_n2, upd_swap d_nb_n3, upd_swap d_nb_m, upd_upd]
  refine loopF (keep := keep90) (ib := ib90) (mk := mk90) mix (by kernel_rfl) (fun x : Nat × Bool => [(0, .op nb 6 0 0), (2, .op n2 5 0 0), (3, .op n3 5 0 0), (4, I ((x.1 : Int) + 3))]) (fun x => upd (upd (upd (upd g8 n2 (.row 5 [[.v (I 0), .v (I 0), .v (I 0), .v (I 0), .v .nilsl]])) m (.row 5 [[.v (I a.fKind), .v (I a.fNum), .v (I a.fPick), .v (I a.fCount), .v ya.val]])) n3 (boxE (if x.2 then (x.1 : Int) + 2 else 0) 0 0 0 (.os m 5 0 1))) nb (rds p t (if x.2 then s2.adv 1 else s2))) (fun x => x.1 ≤ 4 ∧ (x.2 = false → ∀ i : Nat, i < x.1 → tkS t [signB ((i : Int) + 3)] s2 = false) ∧ (x.2 = true → 1 ≤ x.1 ∧ opS t s2 = (x.1 : Int) + 2 ∧ opSs t s2 = s2.adv 1)) (fun x => 4 - x.1) (0, false) ⟨by simp [SatL, tget], (by
    intro q_
    simp only [upd_get, boxE, Bool.false_eq_true, if_false]
    grind), by omega, fun _ i h => by simp at h, fun h => by cases h⟩ ?_
  rintro ⟨j, b⟩ ⟨hj, hno, hyes⟩
  cases b with
  | true =>
    obtain ⟨j1, o1, o2⟩ := hyes rfl
    simp only at hj j1 o1 o2 ⊢
    have hK : ¬ (j : Int) + 2 = 0 := by omega
    simp (maxSteps := 1000000) -dsimp -implicitDefEqProofs only [go_sem, ↓reduceIte, keep90, ib90, mk90, Tryz.f90, e_n2_nb, e_n2_n3, e_n2_m, e_nb_n2, e_nb_n3, e_nb_m, e_n3_n2, e_n3_nb, e_n3_m, e_m_n2, e_m_nb, e_m_n3, upd_ne, upd_get, upd_swap d_nb_n2, upd_swap d_nb_n3, upd_swap d_nb_m, upd_upd, boxE, hK]
    refine ⟨fun _ => ?_, fun _ => ?_⟩
    · rw [o2] at b3 g3 b4 g4
      rw [o1, o2]
      refine HFnF.mkH (needSH ht [32] (by simp) g3.le (upd_same ..)) ?_
      rintro r_ h' ⟨rfl, rfl⟩
      rw [upd_upd]
      simp (maxSteps := 1000000) -dsimp -implicitDefEqProofs only [go_sem, ↓reduceIte, keep90, ib90, mk90, Tryz.f90, e_n2_nb, e_n2_n3, e_n2_m, e_nb_n2, e_nb_n3, e_nb_m, e_n3_n2, e_n3_nb, e_n3_m, e_m_n2, e_m_nb, e_m_n3, upd_ne, upd_get, upd_swap d_nb_n2, upd_swap d_nb_n3, upd_swap d_nb_m, upd_upd, rds, hK]
      refine ⟨fun hb4 => ?_, fun hb4 => ?_⟩
      · rw [binS2, if_pos (.inr hb4)]
        exact kids_end (R' := rds p t (needS t [32] (s2.adv 1)).fail) (es := [[.v (I a.fKind), .v (I a.fNum), .v (I a.fPick), .v (I a.fCount), ya]]) (o := some m) ⟨oa, trivial⟩ hnewA z8b z8m (fun a e => by cases e; exact am) (by
          intro q_
          simp only [upd_get, oheap_some, OV.cells, List.map_cons, List.map_nil, OV.val_v, rds, RSt.fail]
          grind)
      · rw [binS2, if_neg (by rw [hb4]; simp; omega)]
        have hd4 := (b4.ok hb4).2.1.trans hd0
        refine HFnF.mkH (hcall (needS t [32] (s2.adv 1)) g4 hb4 hd4 _ (by simp only [upd_get, e_n2_nb, e_n2_n3, e_n2_m, e_nb_n2, e_nb_n3, e_nb_m, e_n3_n2, e_n3_nb, e_n3_m, e_m_n2, e_m_nb, e_m_n3, if_false]; exact z8b)) ?_
        rintro r_ h' ⟨l, g9, ⟨eb, ob, rfl, rfl⟩, w9, z9, rfl⟩
        obtain ⟨g7, rfl, w7, z72, z7m', z73'⟩ := New.under3 z82 (by rw [upd_ne _ _ _ _ d_m_n2]; exact z8m) (by rw [upd_ne _ _ _ _ d_n3_m, upd_ne _ _ _ _ d_n3_n2]; exact z83) w9
        have z7m := (upd_none.1 z7m').2
        have z73 := (upd_none.1 (upd_none.1 z73').2).2
        have z7b : g7 nb = none := by simpa only [upd_get, e_n2_nb, e_n2_n3, e_n2_m, e_nb_n2, e_nb_n3, e_nb_m, e_n3_n2, e_n3_nb, e_n3_m, e_m_n2, e_m_nb, e_m_n3, if_false] using z9
        have g5 := (hex _ g4 hb4).good g4
        generalize hrb : ex (needS t [32] (s2.adv 1)) = rb at *
        obtain ⟨b, s5⟩ := rb
        simp only at ob g5 ⊢
        have ob1 := ob
        rw [DExpr.o_iff] at ob1
        obtain ⟨yb, rfl, osb⟩ := ob1
        simp (maxSteps := 1000000) -dsimp -implicitDefEqProofs only [go_sem, ↓reduceIte, keep90, ib90, mk90, Tryz.f90, e_n2_nb, e_n2_n3, e_n2_m, e_nb_n2, e_nb_n3, e_nb_m, e_n3_n2, e_n3_nb, e_n3_m, e_m_n2, e_m_nb, e_m_n3, upd_ne, upd_get, upd_swap d_nb_n2, upd_swap d_nb_n3, upd_swap d_nb_m, upd_upd, Option.toArray_none, Option.toArray_some, List.filterMap_cons, List.filterMap_nil, List.elem_cons_self, List.nil_append, List.append_nil, List.toList_toArray, protF, OV.map_val, OV.map_val_nil, OV.val_v, osa.flat, osa.one, osb.flat, osb.one]
        refine ⟨by decide, by decide, by decide, fun k qk => ?_⟩
        have ak : ¬ k = nb := by grind
        have bk : ¬ k = n2 := by grind
        have ck : ¬ k = n3 := by grind
        have dk : ¬ k = m := by grind
        have z7k : g7 k = none := by grind
        have d_k_nb : ¬ k = nb := ak
        have d_nb_k : ¬ nb = k := Ne.symm d_k_nb
        have e_k_nb : (k = nb) = False := eq_false d_k_nb
        have e_nb_k : (nb = k) = False := eq_false d_nb_k
        have d_k_n2 : ¬ k = n2 := bk
        have d_n2_k : ¬ n2 = k := Ne.symm d_k_n2
        have e_k_n2 : (k = n2) = False := eq_false d_k_n2
        have e_n2_k : (n2 = k) = False := eq_false d_n2_k
        have d_k_n3 : ¬ k = n3 := ck
        have d_n3_k : ¬ n3 = k := Ne.symm d_k_n3
        have e_k_n3 : (k = n3) = False := eq_false d_k_n3
        have e_n3_k : (n3 = k) = False := eq_false d_n3_k
        have d_k_m : ¬ k = m := dk
        have d_m_k : ¬ m = k := Ne.symm d_k_m
        have e_k_m : (k = m) = False := eq_false d_k_m
        have e_m_k : (m = k) = False := eq_false d_m_k
        simp (maxSteps := 1000000) -dsimp -implicitDefEqProofs only [go_sem, ↓reduceIte, keep90, ib90, mk90, Tryz.f90, e_n2_nb, e_n2_n3, e_n2_m, e_n2_k, e_nb_n2, e_nb_n3, e_nb_m, e_nb_k, e_n3_n2, e_n3_nb, e_n3_m, e_n3_k, e_m_n2, e_m_nb, e_m_n3, e_m_k, e_k_n2, e_k_nb, e_k_n3, e_k_m, upd_ne, upd_get, upd_swap d_nb_n2, upd_swap d_nb_n3, upd_swap d_nb_m, upd_swap d_nb_k, upd_upd]
        refine HFnF.mkH (needSH ht [41] (by simp) g5.le (upd_same ..)) ?_
        rintro r_ h' ⟨rfl, rfl⟩
        rw [upd_upd]
        simp (maxSteps := 1000000) -dsimp -implicitDefEqProofs only [go_sem, ↓reduceIte, keep90, ib90, mk90, Tryz.f90, e_n2_nb, e_n2_n3, e_n2_m, e_n2_k, e_nb_n2, e_nb_n3, e_nb_m, e_nb_k, e_n3_n2, e_n3_nb, e_n3_m, e_n3_k, e_m_n2, e_m_nb, e_m_n3, e_m_k, e_k_n2, e_k_nb, e_k_n3, e_k_m, upd_ne, upd_get, upd_swap d_nb_n2, upd_swap d_nb_n3, upd_swap d_nb_m, upd_swap d_nb_k, upd_upd]
        exact kids_end (R' := rds p t (needS t [41] s5)) (es := [[.v (I a.fKind), .v (I a.fNum), .v (I a.fPick), .v (I a.fCount), ya], [.v (I b.fKind), .v (I b.fNum), .v (I b.fPick), .v (I b.fCount), yb]]) (o := some k) ⟨oa, ob, trivial⟩ (by simpa only [OV.rowsRows, List.append_nil] using w8.append w7) z7b z7k (fun a e => by cases e; exact ak) (by
          intro q_
          simp only [upd_get, oheap_some, OV.cells, List.map_cons, List.map_nil, OV.val_v]
          grind)
    · rw [o2] at b3 g3 b4 g4
      rw [o1, o2]
      refine HFnF.mkH (needSH ht [32] (by simp) g3.le (upd_same ..)) ?_
      rintro r_ h' ⟨rfl, rfl⟩
      rw [upd_upd]
      simp (maxSteps := 1000000) -dsimp -implicitDefEqProofs only [go_sem, ↓reduceIte, keep90, ib90, mk90, Tryz.f90, e_n2_nb, e_n2_n3, e_n2_m, e_nb_n2, e_nb_n3, e_nb_m, e_n3_n2, e_n3_nb, e_n3_m, e_m_n2, e_m_nb, e_m_n3, upd_ne, upd_get, upd_swap d_nb_n2, upd_swap d_nb_n3, upd_swap d_nb_m, upd_upd, rds, hK]
      refine ⟨fun hb4 => ?_, fun hb4 => ?_⟩
      · rw [binS2, if_pos (.inr hb4)]
        exact kids_end (R' := rds p t (needS t [32] (s2.adv 1)).fail) (es := [[.v (I a.fKind), .v (I a.fNum), .v (I a.fPick), .v (I a.fCount), ya]]) (o := some m) ⟨oa, trivial⟩ hnewA z8b z8m (fun a e => by cases e; exact am) (by
          intro q_
          simp only [upd_get, oheap_some, OV.cells, List.map_cons, List.map_nil, OV.val_v, rds, RSt.fail]
          grind)
      · rw [binS2, if_neg (by rw [hb4]; simp; omega)]
        have hd4 := (b4.ok hb4).2.1.trans hd0
        refine HFnF.mkH (hcall (needS t [32] (s2.adv 1)) g4 hb4 hd4 _ (by simp only [upd_get, e_n2_nb, e_n2_n3, e_n2_m, e_nb_n2, e_nb_n3, e_nb_m, e_n3_n2, e_n3_nb, e_n3_m, e_m_n2, e_m_nb, e_m_n3, if_false]; exact z8b)) ?_
        rintro r_ h' ⟨l, g9, ⟨eb, ob, rfl, rfl⟩, w9, z9, rfl⟩
        obtain ⟨g7, rfl, w7, z72, z7m', z73'⟩ := New.under3 z82 (by rw [upd_ne _ _ _ _ d_m_n2]; exact z8m) (by rw [upd_ne _ _ _ _ d_n3_m, upd_ne _ _ _ _ d_n3_n2]; exact z83) w9
        have z7m := (upd_none.1 z7m').2
        have z73 := (upd_none.1 (upd_none.1 z73').2).2
        have z7b : g7 nb = none := by simpa only [upd_get, e_n2_nb, e_n2_n3, e_n2_m, e_nb_n2, e_nb_n3, e_nb_m, e_n3_n2, e_n3_nb, e_n3_m, e_m_n2, e_m_nb, e_m_n3, if_false] using z9
        have g5 := (hex _ g4 hb4).good g4
        generalize hrb : ex (needS t [32] (s2.adv 1)) = rb at *
        obtain ⟨b, s5⟩ := rb
        simp only at ob g5 ⊢
        have ob1 := ob
        rw [DExpr.o_iff] at ob1
        obtain ⟨yb, rfl, osb⟩ := ob1
        simp (maxSteps := 1000000) -dsimp -implicitDefEqProofs only [go_sem, ↓reduceIte, keep90, ib90, mk90, Tryz.f90, e_n2_nb, e_n2_n3, e_n2_m, e_nb_n2, e_nb_n3, e_nb_m, e_n3_n2, e_n3_nb, e_n3_m, e_m_n2, e_m_nb, e_m_n3, upd_ne, upd_get, upd_swap d_nb_n2, upd_swap d_nb_n3, upd_swap d_nb_m, upd_upd, Option.toArray_none, Option.toArray_some, List.filterMap_cons, List.filterMap_nil, List.elem_cons_self, List.nil_append, List.append_nil, List.toList_toArray, protF, OV.map_val, OV.map_val_nil, OV.val_v, osa.flat, osa.one, osb.flat, osb.one]
        refine ⟨by decide, by decide, by decide, fun k qk => ?_⟩
        have ak : ¬ k = nb := by grind
        have bk : ¬ k = n2 := by grind
        have ck : ¬ k = n3 := by grind
        have dk : ¬ k = m := by grind
        have z7k : g7 k = none := by grind
        have d_k_nb : ¬ k = nb := ak
        have d_nb_k : ¬ nb = k := Ne.symm d_k_nb
        have e_k_nb : (k = nb) = False := eq_false d_k_nb
        have e_nb_k : (nb = k) = False := eq_false d_nb_k
        have d_k_n2 : ¬ k = n2 := bk
        have d_n2_k : ¬ n2 = k := Ne.symm d_k_n2
        have e_k_n2 : (k = n2) = False := eq_false d_k_n2
        have e_n2_k : (n2 = k) = False := eq_false d_n2_k
        have d_k_n3 : ¬ k = n3 := ck
        have d_n3_k : ¬ n3 = k := Ne.symm d_k_n3
        have e_k_n3 : (k = n3) = False := eq_false d_k_n3
        have e_n3_k : (n3 = k) = False := eq_false d_n3_k
        have d_k_m : ¬ k = m := dk
        have d_m_k : ¬ m = k := Ne.symm d_k_m
        have e_k_m : (k = m) = False := eq_false d_k_m
        have e_m_k : (m = k) = False := eq_false d_m_k
        simp (maxSteps := 1000000) -dsimp -implicitDefEqProofs only [go_sem, ↓reduceIte, keep90, ib90, mk90, Tryz.f90, e_n2_nb, e_n2_n3, e_n2_m, e_n2_k, e_nb_n2, e_nb_n3, e_nb_m, e_nb_k, e_n3_n2, e_n3_nb, e_n3_m, e_n3_k, e_m_n2, e_m_nb, e_m_n3, e_m_k, e_k_n2, e_k_nb, e_k_n3, e_k_m, upd_ne, upd_get, upd_swap d_nb_n2, upd_swap d_nb_n3, upd_swap d_nb_m, upd_swap d_nb_k, upd_upd]
        refine HFnF.mkH (needSH ht [41] (by simp) g5.le (upd_same ..)) ?_
        rintro r_ h' ⟨rfl, rfl⟩
        rw [upd_upd]
        simp (maxSteps := 1000000) -dsimp -implicitDefEqProofs only [go_sem, ↓reduceIte, keep90, ib90, mk90, Tryz.f90, e_n2_nb, e_n2_n3, e_n2_m, e_n2_k, e_nb_n2, e_nb_n3, e_nb_m, e_nb_k, e_n3_n2, e_n3_nb, e_n3_m, e_n3_k, e_m_n2, e_m_nb, e_m_n3, e_m_k, e_k_n2, e_k_nb, e_k_n3, e_k_m, upd_ne, upd_get, upd_swap d_nb_n2, upd_swap d_nb_n3, upd_swap d_nb_m, upd_swap d_nb_k, upd_upd]
        exact kids_end (R' := rds p t (needS t [41] s5)) (es := [[.v (I a.fKind), .v (I a.fNum), .v (I a.fPick), .v (I a.fCount), ya], [.v (I b.fKind), .v (I b.fNum), .v (I b.fPick), .v (I b.fCount), yb]]) (o := some k) ⟨oa, ob, trivial⟩ (by simpa only [OV.rowsRows, List.append_nil] using w8.append w7) z7b z7k (fun a e => by cases e; exact ak) (by
          intro q_
          simp only [upd_get, oheap_some, OV.cells, List.map_cons, List.map_nil, OV.val_v]
          grind)
  | false =>
    have hno := hno rfl
    simp only [Bool.false_eq_true, if_false] at hj hno ⊢
    rcases Nat.lt_or_ge j 4 with hlt | hge
    · have hsg := l02Sign ((j : Int) + 3) (by omega)
      simp (maxSteps := 1000000) -dsimp -implicitDefEqProofs only [go_sem, ↓reduceIte, keep90, ib90, mk90, Tryz.f90, e_n2_nb, e_n2_n3, e_n2_m, e_nb_n2, e_nb_n3, e_nb_m, e_n3_n2, e_n3_nb, e_n3_m, e_m_n2, e_m_nb, e_m_n3, upd_ne, upd_get, upd_swap d_nb_n2, upd_swap d_nb_n3, upd_swap d_nb_m, upd_upd, boxE]
      refine ⟨fun _ => ?_, fun q => absurd (show (j : Int) + 3 ≤ 6 by omega) q⟩
      first | refine HFnF.mk (hsg) ?_ | refine CallSF.mk (hsg) ?_ | refine HFnF.mkAt (hsg) ?_ | refine CallSF.mk (FnAt.fn0 (hsg)) ?_
      simp (maxSteps := 1000000) -dsimp -implicitDefEqProofs only [go_sem, ↓reduceIte, keep90, ib90, mk90, Tryz.f90, e_n2_nb, e_n2_n3, e_n2_m, e_nb_n2, e_nb_n3, e_nb_m, e_n3_n2, e_n3_nb, e_n3_m, e_m_n2, e_m_nb, e_m_n3, upd_ne, upd_get, upd_swap d_nb_n2, upd_swap d_nb_n3, upd_swap d_nb_m, upd_upd]
      refine HFnF.mkH (takeSH ht [signB ((j : Int) + 3)] (by simp) g2.le (upd_same ..)) ?_
      rintro r_ h' ⟨rfl, rfl⟩
      rw [upd_upd]
      cases hk : tkS t [signB ((j : Int) + 3)] s2
      · simp (maxSteps := 1000000) -dsimp -implicitDefEqProofs only [go_sem, ↓reduceIte, keep90, ib90, mk90, Tryz.f90, e_n2_nb, e_n2_n3, e_n2_m, e_nb_n2, e_nb_n3, e_nb_m, e_n3_n2, e_n3_nb, e_n3_m, e_m_n2, e_m_nb, e_m_n3, upd_ne, upd_get, upd_swap d_nb_n2, upd_swap d_nb_n3, upd_swap d_nb_m, upd_upd, Bool.false_eq_true]
        refine ⟨(j + 1, false), by rw [IntWalk.i64_in _ (by omega)]; show (j : Int) + 3 + 1 = ((j + 1 : Nat) : Int) + 3; omega, Heap.le_refl _, ⟨by omega, fun _ i hi => ?_, fun q => by cases q⟩, by simp only; omega⟩
        rcases Nat.lt_or_ge i j with h | h
        · exact hno i h
        · obtain rfl : i = j := by simp only at hi; omega
          exact hk
      · obtain ⟨o1, o2⟩ := opS_at hlt hno hk
        simp (maxSteps := 1000000) -dsimp -implicitDefEqProofs only [go_sem, ↓reduceIte, keep90, ib90, mk90, Tryz.f90, e_n2_nb, e_n2_n3, e_n2_m, e_nb_n2, e_nb_n3, e_nb_m, e_n3_n2, e_n3_nb, e_n3_m, e_m_n2, e_m_nb, e_m_n3, upd_ne, upd_get, upd_swap d_nb_n2, upd_swap d_nb_n3, upd_swap d_nb_m, upd_upd]
        have ej : ((j + 1 : Nat) : Int) + 2 = (j : Int) + 3 := by omega
        refine ⟨(j + 1, true), by rw [IntWalk.i64_in _ (by omega)]; show (j : Int) + 3 + 1 = ((j + 1 : Nat) : Int) + 3; omega, by simp only [ej]; exact Heap.le_refl _, ⟨by omega, fun q => (by cases q), fun _ => ⟨by omega, by rw [o1]; simp only; omega, o2⟩⟩, by simp only; omega⟩
    · obtain rfl : j = 4 := by omega
      obtain ⟨o1, o2⟩ := opS_none hno
      simp (maxSteps := 1000000) -dsimp -implicitDefEqProofs only [go_sem, ↓reduceIte, keep90, ib90, mk90, Tryz.f90, e_n2_nb, e_n2_n3, e_n2_m, e_nb_n2, e_nb_n3, e_nb_m, e_n3_n2, e_n3_nb, e_n3_m, e_m_n2, e_m_nb, e_m_n3, upd_ne, upd_get, upd_swap d_nb_n2, upd_swap d_nb_n3, upd_swap d_nb_m, upd_upd, boxE]
      refine ⟨fun q => absurd q (by omega), fun _ => ?_⟩
      rw [o2] at b3 g3 b4 g4
      rw [o1, o2]
      refine HFnF.mkH (needSH ht [32] (by simp) g3.le (upd_same ..)) ?_
      rintro r_ h' ⟨rfl, rfl⟩
      rw [upd_upd]
      simp (maxSteps := 1000000) -dsimp -implicitDefEqProofs only [go_sem, ↓reduceIte, keep90, ib90, mk90, Tryz.f90, e_n2_nb, e_n2_n3, e_n2_m, e_nb_n2, e_nb_n3, e_nb_m, e_n3_n2, e_n3_nb, e_n3_m, e_m_n2, e_m_nb, e_m_n3, upd_ne, upd_get, upd_swap d_nb_n2, upd_swap d_nb_n3, upd_swap d_nb_m, upd_upd, rds]
      skip
      rw [binS2, if_pos (.inl rfl)]
      exact kids_end (R' := rds p t (needS t [32] (s2)).fail) (es := [[.v (I a.fKind), .v (I a.fNum), .v (I a.fPick), .v (I a.fCount), ya]]) (o := some m) ⟨oa, trivial⟩ hnewA z8b z8m (fun a e => by cases e; exact am) (by
        intro q_
        simp only [upd_get, oheap_some, OV.cells, List.map_cons, List.map_nil, OV.val_v, rds, RSt.fail]
        grind)
open Go.Proofs
set_option linter.unusedVariables false
set_option linter.unusedSimpArgs false
theorem q_store {B g H : Heap} {nb : Nat} {R' : HObj} {e : List OV} {x : DExpr} {r : HVal} (hx : x.o e) (w : New B (OV.rowsRow e) g) (z : g nb = none) (hr : Sub r (.agg (e.map OV.val))) (hle : (upd g nb R').le H) :
    ∃ r1 g1, Shift r H r1 g1 ∧ ∃ l' g', QA x.o (fun x => x) r1 l' ∧ New B l' g' ∧ g' nb = none ∧ g1 = upd g' nb R' :=
  ⟨_, _, Shift.of hr hle, _, g, ⟨e, hx, rfl, rfl⟩, w, z, rfl⟩
def keep63 : List Nat := [0, 2, 3, 4, 5, 6, 8, 14, 19, 20, 23, 26, 31, 43, 53]
def ib63 : List Nat := []
def mk63 : Marks := fun _ => ([], .nil, [])
set_option maxRecDepth 100000 in
set_option maxHeartbeats 1000000 in
theorem innerSH {nb : Nat} {p : DProgram} {t : List UInt8} (ht : t.length ≤ 1048600) (hps : p.s ≤ 4194304) {ex : RSt → DExpr × RSt} (hex : ExC t ex)
    {D : Int} (hcall : ∀ s, Good 62 t s → s.b = false → s.d = D → BX Tryz.prog 39 [.op nb 6 0 0] nb (rds p t s) (rds p t (ex s).2) (QA (ex s).1.o)) {s : RSt} (g0 : Good 62 t s) (hb0 : s.b = false) (hd0 : s.d = D) :
    BX Tryz.prog 63 [.op nb 6 0 0] nb (rds p t s) (rds p t (innerS ex p t s).2) (QA (innerS ex p t s).1.o) := by
  intro B hB
  unfold innerS
  have bw := Bnd.adv g0 (wordAt_len g0.hi)
  have gw := bw.good g0
  have hwl := wordAt_len g0.hi
  refine fnKF 60 keep63 ib63 mk63 mix Tryz.func63 rfl (by kernel_rfl) (by simp) ?_
  simp (maxSteps := 1000000) -dsimp -implicitDefEqProofs only [go_sem, ↓reduceIte, keep63, ib63, mk63, Tryz.f63]
  intro n2 q2
  have d_n2_nb : ¬ n2 = nb := q2.1
  have d_nb_n2 : ¬ nb = n2 := Ne.symm d_n2_nb
  have e_n2_nb : (n2 = nb) = False := eq_false d_n2_nb
  have e_nb_n2 : (nb = n2) = False := eq_false d_nb_n2
  have q2n : B n2 = none := q2.2
  try simp (maxSteps := 1000000) -dsimp -implicitDefEqProofs only [go_sem, ↓reduceIte, keep63, ib63, mk63, Tryz.f63, e_n2_nb, e_nb_n2, upd_ne, upd_get, upd_swap d_nb_n2, upd_upd]
  refine HFnF.mkH (takeSH ht [40] (by simp) g0.le (upd_same ..)) ?_
  rintro r_ h' ⟨rfl, rfl⟩
  rw [upd_upd]
  cases hk : tkS t [40] s
  · rw [if_neg (by simp), if_neg (by simp)]
    simp (maxSteps := 1000000) -dsimp -implicitDefEqProofs only [go_sem, ↓reduceIte, keep63, ib63, mk63, Tryz.f63, e_n2_nb, e_nb_n2, upd_ne, upd_get, upd_swap d_nb_n2, upd_upd, Bool.false_eq_true]
    refine HFnF.mkH (wordS_H ht g0.le (upd_same ..)) ?_
    rintro r_ h' ⟨rfl, rfl⟩
    rw [upd_upd]
    generalize wordAt t s.i = w at *
    simp (maxSteps := 1000000) -dsimp -implicitDefEqProofs only [go_sem, ↓reduceIte, keep63, ib63, mk63, Tryz.f63, e_n2_nb, e_nb_n2, upd_ne, upd_get, upd_swap d_nb_n2, upd_upd]
    refine HFnF.mkH (takeSH ht [46] (by simp) gw.le (upd_same ..)) ?_
    rintro r_ h' ⟨rfl, rfl⟩
    rw [upd_upd]
    have hdw : (s.adv w.length).b = false → (s.adv w.length).d = D := fun _ => hd0
    cases hk2 : tkS t [46] (s.adv w.length)
    · rw [if_neg (by simp), if_neg (by simp)]
      simp (maxSteps := 1000000) -dsimp -implicitDefEqProofs only [go_sem, ↓reduceIte, keep63, ib63, mk63, Tryz.f63, e_n2_nb, e_nb_n2, upd_ne, upd_get, upd_swap d_nb_n2, upd_upd, Bool.false_eq_true]
      intro n4 q4
      have a4 : ¬ n4 = nb := by grind
      have b4 : ¬ n4 = n2 := by grind
      have q4n : B n4 = none := by grind
      have d_n4_nb : ¬ n4 = nb := a4
      have d_nb_n4 : ¬ nb = n4 := Ne.symm d_n4_nb
      have e_n4_nb : (n4 = nb) = False := eq_false d_n4_nb
      have e_nb_n4 : (nb = n4) = False := eq_false d_nb_n4
      have d_n4_n2 : ¬ n4 = n2 := b4
      have d_n2_n4 : ¬ n2 = n4 := Ne.symm d_n4_n2
      have e_n4_n2 : (n4 = n2) = False := eq_false d_n4_n2
      have e_n2_n4 : (n2 = n4) = False := eq_false d_n2_n4
      simp (maxSteps := 1000000) -dsimp -implicitDefEqProofs only [go_sem, ↓reduceIte, keep63, ib63, mk63, Tryz.f63, e_n2_nb, e_n2_n4, e_nb_n2, e_nb_n4, e_n4_n2, e_n4_nb, upd_ne, upd_get, upd_swap d_nb_n2, upd_swap d_nb_n4, upd_upd]
      refine ⟨fun h7 => ?_, fun h7 => ⟨fun h8 => ?_, fun h8 => ⟨fun h9 => ?_, fun h9 => ?_⟩⟩⟩
      · have hK : kindW w = 7 := by rw [kindW, if_pos (show w = neg3 from h7)]
        rw [wordS, if_neg (by rw [hK]; decide), hK]
        refine HFnF.mkH (kidsSH (s := s.adv w.length) ht hex hcall gw hdw _ _ _ _ (B := upd B n2 (.row 5 [[.v (I 0), .v (I 0), .v (I 0), .v (I 0), .v .nilsl]])) (by rw [upd_ne _ _ _ _ d_nb_n2]; exact hB) (by rw [upd_ne _ _ _ _ d_n4_n2]; exact q4n) d_n4_nb) ?_
        rintro r_ h' ⟨rfl, es, o, g', hor, w9, z1, z2, hs, hon, rfl⟩
        obtain ⟨g8, rfl, w8, z82⟩ := New.under q2n w9
        have z8b : g8 nb = none := by rwa [upd_ne _ _ _ _ d_nb_n2] at z1
        have z84 : g8 n4 = none := by rwa [upd_ne _ _ _ _ d_n4_n2] at z2
        have hfr := gside_free hs
        have hs8 := gside_more hs (Heap.le_upd (o := .row 5 [[.v (I 0), .v (I 0), .v (I 0), .v (I 0), .v .nilsl]]) z82 (Heap.le_refl _))
        have ho2 := oheap_keep (R := .row 5 (OV.cells es)) (upd_same g8 n2 (.row 5 [[.v (I 0), .v (I 0), .v (I 0), .v (I 0), .v .nilsl]])) hfr
        have hn2 : ∀ m, o = some m → ¬ m = n2 := fun m e q => by have := hfr m e; rw [q, upd_same] at this; cases this
        simp only [boxE]
        simp (maxSteps := 1000000) -dsimp -implicitDefEqProofs only [go_sem, ↓reduceIte, keep63, ib63, mk63, Tryz.f63, e_n2_nb, e_n2_n4, e_nb_n2, e_nb_n4, e_n4_n2, e_n4_nb, upd_ne, upd_get, upd_swap d_nb_n2, upd_swap d_nb_n4, upd_upd, onil_flat, onil_cells, ho2]
        exact kids_end (R' := rds p t (listS ex t (s.adv w.length)).2) hor w8 z8b hs8 (fun m e => (hon m e).1) (Heap.le_both (Heap.le_upd (oheap_at z82 hn2) (Heap.le_upd (oheap_at z84 fun m e => (hon m e).2) (oheap_mono _ _ (Heap.le_upd z82 (Heap.le_refl _))))))
      · have hK : kindW w = 8 := by rw [kindW, if_neg (show ¬ w = neg3 from h7), if_pos (show w = if2 from h8)]
        rw [wordS, if_neg (by rw [hK]; decide), hK]
        refine HFnF.mkH (kidsSH (s := s.adv w.length) ht hex hcall gw hdw _ _ _ _ (B := upd B n2 (.row 5 [[.v (I 0), .v (I 0), .v (I 0), .v (I 0), .v .nilsl]])) (by rw [upd_ne _ _ _ _ d_nb_n2]; exact hB) (by rw [upd_ne _ _ _ _ d_n4_n2]; exact q4n) d_n4_nb) ?_
        rintro r_ h' ⟨rfl, es, o, g', hor, w9, z1, z2, hs, hon, rfl⟩
        obtain ⟨g8, rfl, w8, z82⟩ := New.under q2n w9
        have z8b : g8 nb = none := by rwa [upd_ne _ _ _ _ d_nb_n2] at z1
        have z84 : g8 n4 = none := by rwa [upd_ne _ _ _ _ d_n4_n2] at z2
        have hfr := gside_free hs
        have hs8 := gside_more hs (Heap.le_upd (o := .row 5 [[.v (I 0), .v (I 0), .v (I 0), .v (I 0), .v .nilsl]]) z82 (Heap.le_refl _))
        have ho2 := oheap_keep (R := .row 5 (OV.cells es)) (upd_same g8 n2 (.row 5 [[.v (I 0), .v (I 0), .v (I 0), .v (I 0), .v .nilsl]])) hfr
        have hn2 : ∀ m, o = some m → ¬ m = n2 := fun m e q => by have := hfr m e; rw [q, upd_same] at this; cases this
        simp only [boxE]
        simp (maxSteps := 1000000) -dsimp -implicitDefEqProofs only [go_sem, ↓reduceIte, keep63, ib63, mk63, Tryz.f63, e_n2_nb, e_n2_n4, e_nb_n2, e_nb_n4, e_n4_n2, e_n4_nb, upd_ne, upd_get, upd_swap d_nb_n2, upd_swap d_nb_n4, upd_upd, onil_flat, onil_cells, ho2]
        exact kids_end (R' := rds p t (listS ex t (s.adv w.length)).2) hor w8 z8b hs8 (fun m e => (hon m e).1) (Heap.le_both (Heap.le_upd (oheap_at z82 hn2) (Heap.le_upd (oheap_at z84 fun m e => (hon m e).2) (oheap_mono _ _ (Heap.le_upd z82 (Heap.le_refl _))))))
      · have hK : kindW w = 9 := by rw [kindW, if_neg (show ¬ w = neg3 from h7), if_neg (show ¬ w = if2 from h8), if_pos (show w = let3 from h9)]
        rw [wordS, if_neg (by rw [hK]; decide), hK]
        refine HFnF.mkH (kidsSH (s := s.adv w.length) ht hex hcall gw hdw _ _ _ _ (B := upd B n2 (.row 5 [[.v (I 0), .v (I 0), .v (I 0), .v (I 0), .v .nilsl]])) (by rw [upd_ne _ _ _ _ d_nb_n2]; exact hB) (by rw [upd_ne _ _ _ _ d_n4_n2]; exact q4n) d_n4_nb) ?_
        rintro r_ h' ⟨rfl, es, o, g', hor, w9, z1, z2, hs, hon, rfl⟩
        obtain ⟨g8, rfl, w8, z82⟩ := New.under q2n w9
        have z8b : g8 nb = none := by rwa [upd_ne _ _ _ _ d_nb_n2] at z1
        have z84 : g8 n4 = none := by rwa [upd_ne _ _ _ _ d_n4_n2] at z2
        have hfr := gside_free hs
        have hs8 := gside_more hs (Heap.le_upd (o := .row 5 [[.v (I 0), .v (I 0), .v (I 0), .v (I 0), .v .nilsl]]) z82 (Heap.le_refl _))
        have ho2 := oheap_keep (R := .row 5 (OV.cells es)) (upd_same g8 n2 (.row 5 [[.v (I 0), .v (I 0), .v (I 0), .v (I 0), .v .nilsl]])) hfr
        have hn2 : ∀ m, o = some m → ¬ m = n2 := fun m e q => by have := hfr m e; rw [q, upd_same] at this; cases this
        simp only [boxE]
        simp (maxSteps := 1000000) -dsimp -implicitDefEqProofs only [go_sem, ↓reduceIte, keep63, ib63, mk63, Tryz.f63, e_n2_nb, e_n2_n4, e_nb_n2, e_nb_n4, e_n4_n2, e_n4_nb, upd_ne, upd_get, upd_swap d_nb_n2, upd_swap d_nb_n4, upd_upd, onil_flat, onil_cells, ho2]
        exact kids_end (R' := rds p t (listS ex t (s.adv w.length)).2) hor w8 z8b hs8 (fun m e => (hon m e).1) (Heap.le_both (Heap.le_upd (oheap_at z82 hn2) (Heap.le_upd (oheap_at z84 fun m e => (hon m e).2) (oheap_mono _ _ (Heap.le_upd z82 (Heap.le_refl _))))))
      · have hK : kindW w = 0 := by rw [kindW, if_neg (show ¬ w = neg3 from h7), if_neg (show ¬ w = if2 from h8), if_neg (show ¬ w = let3 from h9)]
        rw [wordS, if_pos hK]
        cases w with
        | nil =>
          have hRD := specReadDecimal [] (by simp)
          simp (maxSteps := 1000000) -dsimp -implicitDefEqProofs only [go_sem, ↓reduceIte, keep63, ib63, mk63, Tryz.f63, e_n2_nb, e_n2_n4, e_nb_n2, e_nb_n4, e_n4_n2, e_n4_nb, upd_ne, upd_get, upd_swap d_nb_n2, upd_swap d_nb_n4, upd_upd]
          refine ⟨fun q => absurd q (by simp), fun _ => ?_⟩
          rw [if_neg (by simp)]
          first | refine HFnF.mk (specReadDecimal ([]) (by simp)) ?_ | refine CallSF.mk (specReadDecimal ([]) (by simp)) ?_ | refine HFnF.mkAt (specReadDecimal ([]) (by simp)) ?_ | refine CallSF.mk (FnAt.fn0 (specReadDecimal ([]) (by simp))) ?_
          simp (maxSteps := 1000000) -dsimp -implicitDefEqProofs only [go_sem, ↓reduceIte, keep63, ib63, mk63, Tryz.f63, e_n2_nb, e_n2_n4, e_nb_n2, e_nb_n4, e_n4_n2, e_n4_nb, upd_ne, upd_get, upd_swap d_nb_n2, upd_swap d_nb_n4, upd_upd, rds, Option.toArray_none, Option.toArray_some, List.filterMap_cons, List.filterMap_nil, List.elem_cons_self, List.nil_append, List.append_nil, List.toList_toArray]
          have hleq : ∀ X Y Z R', (upd B nb R').le (upd (upd (upd (upd B n2 X) n4 Y) n2 Z) nb R') := fun X Y Z R' => Heap.le_both (Heap.le_upd q2n (Heap.le_upd q4n (Heap.le_upd q2n (Heap.le_refl _))))
          refine ⟨fun hb => ?_, fun hb => ?_⟩
          · rw [show (HObj.row 6 [[.v (.ip 1 [[sls 3 DFunc.c p.fFuncs]] 0 0), .v (.str t), .v (I (s.adv 0).i), .v (I (s.adv 0).n), .v (I (s.adv 0).d), .v (.bool true)]]) = rds p t ((s.adv 0).orB (!decide (rdOK 999999999 ([])))) by simp [rds, RSt.orB, hb]]
            exact q_store (leaf_o 1 (rdS ([]))) (by rw [leaf_rows]; exact New.nil B) hB (leaf_sub 1 (rdS ([]))) (hleq _ _ _ _)
          · rw [show (HObj.row 6 [[.v (.ip 1 [[sls 3 DFunc.c p.fFuncs]] 0 0), .v (.str t), .v (I (s.adv 0).i), .v (I (s.adv 0).n), .v (I (s.adv 0).d), .v (.bool (s.adv 0).b)]]) = rds p t ((s.adv 0).orB (!decide (rdOK 999999999 ([])))) by simp [rds, RSt.orB, hb]]
            exact q_store (leaf_o 1 (rdS ([]))) (by rw [leaf_rows]; exact New.nil B) hB (leaf_sub 1 (rdS ([]))) (hleq _ _ _ _)
        | cons c w =>
          simp (maxSteps := 1000000) -dsimp -implicitDefEqProofs only [go_sem, ↓reduceIte, keep63, ib63, mk63, Tryz.f63, e_n2_nb, e_n2_n4, e_nb_n2, e_nb_n4, e_n4_n2, e_n4_nb, upd_ne, upd_get, upd_swap d_nb_n2, upd_swap d_nb_n4, upd_upd, Int.toNat_zero]
          refine fun _ => ⟨fun _ => ?_, fun q => absurd (by omega) q⟩
          refine ⟨fun hx => ?_, fun hx => ?_⟩
          · have hcx : (c :: w).head? = some 120 := by show some c = some 120; congr 1; exact UInt8.toNat_inj.1 (by show c.toNat = 120; omega)
            refine ⟨by omega, Nat.le_refl _, ?_⟩
            rw [show List.drop (Int.toNat 1) (c :: List.take w.length w) = w by simp, if_pos hcx]
            first | refine HFnF.mk (specReadDecimal (w) (by simp only [List.length_cons] at hwl; omega)) ?_ | refine CallSF.mk (specReadDecimal (w) (by simp only [List.length_cons] at hwl; omega)) ?_ | refine HFnF.mkAt (specReadDecimal (w) (by simp only [List.length_cons] at hwl; omega)) ?_ | refine CallSF.mk (FnAt.fn0 (specReadDecimal (w) (by simp only [List.length_cons] at hwl; omega))) ?_
            simp (maxSteps := 1000000) -dsimp -implicitDefEqProofs only [go_sem, ↓reduceIte, keep63, ib63, mk63, Tryz.f63, e_n2_nb, e_n2_n4, e_nb_n2, e_nb_n4, e_n4_n2, e_n4_nb, upd_ne, upd_get, upd_swap d_nb_n2, upd_swap d_nb_n4, upd_upd, rds, Option.toArray_none, Option.toArray_some, List.filterMap_cons, List.filterMap_nil, List.elem_cons_self, List.nil_append, List.append_nil, List.toList_toArray]
            have hleq : ∀ X Y Z R', (upd B nb R').le (upd (upd (upd (upd B n2 X) n4 Y) n2 Z) nb R') := fun X Y Z R' => Heap.le_both (Heap.le_upd q2n (Heap.le_upd q4n (Heap.le_upd q2n (Heap.le_refl _))))
            refine ⟨fun hb => ?_, fun hb => ?_⟩
            · rw [show (HObj.row 6 [[.v (.ip 1 [[sls 3 DFunc.c p.fFuncs]] 0 0), .v (.str t), .v (I (s.adv (w.length + 1)).i), .v (I (s.adv (w.length + 1)).n), .v (I (s.adv (w.length + 1)).d), .v (.bool true)]]) = rds p t ((s.adv (w.length + 1)).orB (!decide (rdOK 999999999 (w)))) by simp [rds, RSt.orB, hb]]
              exact q_store (leaf_o 2 (rdS (w))) (by rw [leaf_rows]; exact New.nil B) hB (leaf_sub 2 (rdS (w))) (hleq _ _ _ _)
            · rw [show (HObj.row 6 [[.v (.ip 1 [[sls 3 DFunc.c p.fFuncs]] 0 0), .v (.str t), .v (I (s.adv (w.length + 1)).i), .v (I (s.adv (w.length + 1)).n), .v (I (s.adv (w.length + 1)).d), .v (.bool (s.adv (w.length + 1)).b)]]) = rds p t ((s.adv (w.length + 1)).orB (!decide (rdOK 999999999 (w)))) by simp [rds, RSt.orB, hb]]
              exact q_store (leaf_o 2 (rdS (w))) (by rw [leaf_rows]; exact New.nil B) hB (leaf_sub 2 (rdS (w))) (hleq _ _ _ _)
          · have hcx : ¬ (c :: w).head? = some 120 := fun e => hx (by have e : c = 120 := Option.some.inj e; rw [e]; rfl)
            rw [if_neg hcx]
            first | refine HFnF.mk (specReadDecimal (c :: w) (by omega)) ?_ | refine CallSF.mk (specReadDecimal (c :: w) (by omega)) ?_ | refine HFnF.mkAt (specReadDecimal (c :: w) (by omega)) ?_ | refine CallSF.mk (FnAt.fn0 (specReadDecimal (c :: w) (by omega))) ?_
            simp (maxSteps := 1000000) -dsimp -implicitDefEqProofs only [go_sem, ↓reduceIte, keep63, ib63, mk63, Tryz.f63, e_n2_nb, e_n2_n4, e_nb_n2, e_nb_n4, e_n4_n2, e_n4_nb, upd_ne, upd_get, upd_swap d_nb_n2, upd_swap d_nb_n4, upd_upd, rds, Option.toArray_none, Option.toArray_some, List.filterMap_cons, List.filterMap_nil, List.elem_cons_self, List.nil_append, List.append_nil, List.toList_toArray]
            have hleq : ∀ X Y Z R', (upd B nb R').le (upd (upd (upd (upd B n2 X) n4 Y) n2 Z) nb R') := fun X Y Z R' => Heap.le_both (Heap.le_upd q2n (Heap.le_upd q4n (Heap.le_upd q2n (Heap.le_refl _))))
            refine ⟨fun hb => ?_, fun hb => ?_⟩
            · rw [show (HObj.row 6 [[.v (.ip 1 [[sls 3 DFunc.c p.fFuncs]] 0 0), .v (.str t), .v (I (s.adv (w.length + 1)).i), .v (I (s.adv (w.length + 1)).n), .v (I (s.adv (w.length + 1)).d), .v (.bool true)]]) = rds p t ((s.adv (w.length + 1)).orB (!decide (rdOK 999999999 (c :: w)))) by simp [rds, RSt.orB, hb]]
              exact q_store (leaf_o 1 (rdS (c :: w))) (by rw [leaf_rows]; exact New.nil B) hB (leaf_sub 1 (rdS (c :: w))) (hleq _ _ _ _)
            · rw [show (HObj.row 6 [[.v (.ip 1 [[sls 3 DFunc.c p.fFuncs]] 0 0), .v (.str t), .v (I (s.adv (w.length + 1)).i), .v (I (s.adv (w.length + 1)).n), .v (I (s.adv (w.length + 1)).d), .v (.bool (s.adv (w.length + 1)).b)]]) = rds p t ((s.adv (w.length + 1)).orB (!decide (rdOK 999999999 (c :: w)))) by simp [rds, RSt.orB, hb]]
              exact q_store (leaf_o 1 (rdS (c :: w))) (by rw [leaf_rows]; exact New.nil B) hB (leaf_sub 1 (rdS (c :: w))) (hleq _ _ _ _)
    · rw [if_pos rfl, if_pos rfl]
      have g2 := (Bnd.adv gw (tkS_len1 gw hk2)).good gw
      simp (maxSteps := 1000000) -dsimp -implicitDefEqProofs only [go_sem, ↓reduceIte, keep63, ib63, mk63, Tryz.f63, e_n2_nb, e_nb_n2, upd_ne, upd_get, upd_swap d_nb_n2, upd_upd]
      refine HFnF.mkH (namedSH ht hps hex hcall w g2 hdw (upd B n2 (.row 5 [[.v (I 0), .v (I 0), .v (I 0), .v (I 0), .v .nilsl]])) (by rw [upd_ne _ _ _ _ d_nb_n2]; exact hB)) ?_
      rintro r_ h' ⟨l, g9, ⟨e, oe, rfl, rfl⟩, w9, z9, rfl⟩
      obtain ⟨g8, rfl, w8, z82⟩ := New.under q2n w9
      have z8b : g8 nb = none := by rwa [upd_ne _ _ _ _ d_nb_n2] at z9
      have oe1 := oe
      rw [DExpr.o_iff] at oe1
      obtain ⟨y4, rfl, os4⟩ := oe1
      simp (maxSteps := 1000000) -dsimp -implicitDefEqProofs only [go_sem, ↓reduceIte, keep63, ib63, mk63, Tryz.f63, e_n2_nb, e_nb_n2, upd_ne, upd_get, upd_swap d_nb_n2, upd_upd, OV.map_val, OV.map_val_nil, OV.val_v, os4.flat, os4.one]
      exact q_store oe w8 z8b (Sub.refl _) (Heap.le_both (Heap.le_upd z82 (Heap.le_refl _)))
  · rw [if_pos rfl, if_pos rfl]
    have g2 := (Bnd.adv g0 (tkS_len1 g0 hk)).good g0
    simp (maxSteps := 1000000) -dsimp -implicitDefEqProofs only [go_sem, ↓reduceIte, keep63, ib63, mk63, Tryz.f63, e_n2_nb, e_nb_n2, upd_ne, upd_get, upd_swap d_nb_n2, upd_upd]
    refine HFnF.mkH (binarySH ht hex hcall g2 hb0 hd0 (upd B n2 (.row 5 [[.v (I 0), .v (I 0), .v (I 0), .v (I 0), .v .nilsl]])) (by rw [upd_ne _ _ _ _ d_nb_n2]; exact hB)) ?_
    rintro r_ h' ⟨l, g9, ⟨e, oe, rfl, rfl⟩, w9, z9, rfl⟩
    obtain ⟨g8, rfl, w8, z82⟩ := New.under q2n w9
    have z8b : g8 nb = none := by rwa [upd_ne _ _ _ _ d_nb_n2] at z9
    have oe1 := oe
    rw [DExpr.o_iff] at oe1
    obtain ⟨y4, rfl, os4⟩ := oe1
    simp (maxSteps := 1000000) -dsimp -implicitDefEqProofs only [go_sem, ↓reduceIte, keep63, ib63, mk63, Tryz.f63, e_n2_nb, e_nb_n2, upd_ne, upd_get, upd_swap d_nb_n2, upd_upd, OV.map_val, OV.map_val_nil, OV.val_v, os4.flat, os4.one]
    exact q_store oe w8 z8b (Sub.refl _) (Heap.le_both (Heap.le_upd z82 (Heap.le_refl _)))
open Go.Proofs
set_option linter.unusedVariables false
set_option linter.unusedSimpArgs false
def keep39 : List Nat := [0, 2, 3, 35]
def ib39 : List Nat := []
def mk39 : Marks := fun _ => ([], .nil, [])
set_option maxRecDepth 100000 in
set_option maxHeartbeats 1000000 in
theorem exprSH_step {nb : Nat} {p : DProgram} {t : List UInt8} (ht : t.length ≤ 1048600) (hps : p.s ≤ 4194304) {k : Nat}
    {s : RSt} (ih : ¬ (400 < s.n + 1 ∨ 60 < s.d + 1 ∨ s.b = true) → ∀ s, Good 62 t s → s.b = false → 60 ≤ s.d + k → BX Tryz.prog 39 [.op nb 6 0 0] nb (rds p t s) (rds p t (exS p t k s).2) (QA (exS p t k s).1.o)) (g0 : Good 62 t s) (hf : s.b = false → 60 ≤ s.d + k + 1) :
    BX Tryz.prog 39 [.op nb 6 0 0] nb (rds p t s) (rds p t (exS p t (k + 1) s).2) (QA (exS p t (k + 1) s).1.o) := by
  intro B hB
  have hd := g0.d
  have hn := g0.n
  have w1 : IntKind.i64.wrap (s.d + 1) = s.d + 1 := IntWalk.i64_in _ (by omega)
  have w2 : IntKind.i64.wrap (s.n + 1) = s.n + 1 := IntWalk.i64_in _ (by omega)
  refine fnKF 50 keep39 ib39 mk39 mix Tryz.func39 rfl (by kernel_rfl) (by simp) ?_
  simp (maxSteps := 1000000) -dsimp -implicitDefEqProofs only [go_sem, ↓reduceIte, keep39, ib39, mk39, Tryz.f39, rds, w1, w2]
  intro n2 q2
  have d_n2_nb : ¬ n2 = nb := q2.1
  have d_nb_n2 : ¬ nb = n2 := Ne.symm d_n2_nb
  have e_n2_nb : (n2 = nb) = False := eq_false d_n2_nb
  have e_nb_n2 : (nb = n2) = False := eq_false d_nb_n2
  have q2n : B n2 = none := q2.2
  simp (maxSteps := 1000000) -dsimp -implicitDefEqProofs only [go_sem, ↓reduceIte, keep39, ib39, mk39, Tryz.f39, e_n2_nb, e_nb_n2, upd_ne, upd_get, upd_swap d_nb_n2, upd_upd, w1, w2]
  refine ⟨fun hn1 => ⟨fun hd1 => ⟨fun hb => ?_, fun hb => ?_⟩, fun hd1 => ?_⟩, fun hn1 => ?_⟩
  · rw [exS, if_pos (.inr (.inr hb))]
    exact q_store zEo_o (by rw [zEo_rows]; exact New.nil B) hB zEo_sub (Heap.le_both (Heap.le_upd q2n (Heap.le_refl _)))
  · have hq : ¬ (400 < s.n + 1 ∨ 60 < s.d + 1 ∨ s.b = true) := by rw [hb]; rintro (q | q | q); exact hn1 q; exact hd1 q; cases q
    have ih := ih hq
    rw [exS, if_neg hq]
    have hf := hf hb
    have g1 : Good 62 t (nodes s) := ⟨g0.hi, ⟨by show 0 ≤ s.d + 1; omega, by show s.d + 1 ≤ 62; omega⟩, ⟨by show 0 ≤ s.n + 1; omega, by show s.n + 1 ≤ 401; omega⟩, fun _ => by show s.d + 1 ≤ 60; omega, fun _ => by show s.n + 1 ≤ 400; omega⟩
    have hI := innerSH (D := s.d + 1) (s := nodes s) ht hps (exS_b p t k) (fun s' g hb' hd' => ih s' g hb' (by omega)) g1 hb rfl (upd B n2 (.row 5 [[.v (I 0), .v (I 0), .v (I 0), .v (I 0), .v .nilsl]])) (by rw [upd_ne _ _ _ _ d_nb_n2]; exact hB)
    refine HFnF.mkH hI ?_
    rintro r_ h' ⟨l, g9, ⟨e, oe, rfl, rfl⟩, w9, z9, rfl⟩
    have bi := innerS_b (p := p) (exS_b p t k) g1 hb
    have gi := bi.good g1
    have hdi := gi.d
    generalize innerS (exS p t k) p t (nodes s) = R at *
    obtain ⟨a, s1⟩ := R
    simp only at oe hdi ⊢
    have w3 : IntKind.i64.wrap (s1.d - 1) = s1.d + -1 := IntWalk.i64_in _ (by omega)
    obtain ⟨g8, rfl, w8, z82⟩ := New.under q2n w9
    have z8b : g8 nb = none := by rwa [upd_ne _ _ _ _ d_nb_n2] at z9
    have oe1 := oe
    rw [DExpr.o_iff] at oe1
    obtain ⟨y4, rfl, os4⟩ := oe1
    simp (maxSteps := 1000000) -dsimp -implicitDefEqProofs only [go_sem, ↓reduceIte, keep39, ib39, mk39, Tryz.f39, e_n2_nb, e_nb_n2, upd_ne, upd_get, upd_swap d_nb_n2, upd_upd, OV.map_val, OV.map_val_nil, OV.val_v, os4.flat, os4.one, rds, w3]
    intro n3 q3
    have a3 : ¬ n3 = nb := by grind
    have b3 : ¬ n3 = n2 := by grind
    have z83 : g8 n3 = none := by grind
    have d_n3_nb : ¬ n3 = nb := a3
    have d_nb_n3 : ¬ nb = n3 := Ne.symm d_n3_nb
    have e_n3_nb : (n3 = nb) = False := eq_false d_n3_nb
    have e_nb_n3 : (nb = n3) = False := eq_false d_nb_n3
    have d_n3_n2 : ¬ n3 = n2 := b3
    have d_n2_n3 : ¬ n2 = n3 := Ne.symm d_n3_n2
    have e_n3_n2 : (n3 = n2) = False := eq_false d_n3_n2
    have e_n2_n3 : (n2 = n3) = False := eq_false d_n2_n3
    simp (maxSteps := 1000000) -dsimp -implicitDefEqProofs only [go_sem, ↓reduceIte, keep39, ib39, mk39, Tryz.f39, e_n2_nb, e_n2_n3, e_nb_n2, e_nb_n3, e_n3_n2, e_n3_nb, upd_ne, upd_get, upd_swap d_nb_n2, upd_swap d_nb_n3, upd_upd, OV.map_val, OV.map_val_nil, OV.val_v, os4.flat, os4.one, rds, w3]
    exact q_store (R' := rds p t (deeper s1 (-1))) oe w8 z8b (Sub.refl _) (by
      intro q_
      simp only [upd_get, rds, deeper]
      grind)
  · rw [exS, if_pos (.inr (.inl (by omega)))]
    exact q_store zEo_o (by rw [zEo_rows]; exact New.nil B) hB zEo_sub (Heap.le_both (Heap.le_upd q2n (Heap.le_refl _)))
  · rw [exS, if_pos (.inl (by omega))]
    exact q_store zEo_o (by rw [zEo_rows]; exact New.nil B) hB zEo_sub (Heap.le_both (Heap.le_upd q2n (Heap.le_refl _)))
theorem exprSH {nb : Nat} {p : DProgram} {t : List UInt8} (ht : t.length ≤ 1048600) (hps : p.s ≤ 4194304) : ∀ (n : Nat) (s : RSt), Good 62 t s → (s.b = false → 60 ≤ s.d + n) → BX Tryz.prog 39 [.op nb 6 0 0] nb (rds p t s) (rds p t (exS p t n s).2) (QA (exS p t n s).1.o)
  | 0, s, g, h => by
    have hq : 400 < s.n + 1 ∨ 60 < s.d + 1 ∨ s.b = true := by
      cases hb : s.b with
      | true => exact .inr (.inr rfl)
      | false => right; left; have := h hb; omega
    have e : exS p t 0 s = exS p t (0 + 1) s := by rw [exS, exS, if_pos hq]
    rw [e]
    exact exprSH_step ht hps (fun q => absurd hq q) g (fun hb => by have := h hb; omega)
  | n + 1, s, g, h => exprSH_step ht hps (fun _ s g hb hd => exprSH ht hps n s g (fun _ => hd)) g (fun hb => by have := h hb; omega)
open Go.Proofs
set_option linter.unusedVariables false
set_option linter.unusedSimpArgs false
def keep21 : List Nat := [0, 1, 2, 3, 8, 9, 10, 11, 43]
def ib21 : List Nat := []
def mk21 : Marks := fun _ => ([], .nil, [])
set_option maxRecDepth 100000 in
set_option maxHeartbeats 1000000 in
theorem l02ReadS {p : DProgram} (hp : p.ok) (hps : p.s ≤ 1048576) (t : List UInt8) (ht : t.length ≤ 20000) (vars funcs : Int) :
    FnN Tryz.prog 21 [.ip 1 [p.c] 0 0, .str t, I vars, I funcs] (QA ((readE p t vars funcs).getD zE).o (fun y => .tup [y, .bool (readE p t vars funcs).isSome])) := by
  have hR := rightS hp t vars funcs
  have hb := exS_b p t 60 s00 (good00 t) rfl
  have hcall := fun nb => exprSH (nb := nb) (p := p) (t := t) (by omega) (by omega) 60 s00 (good00 t) (fun _ => by decide)
  simp only [DProgram.c_eq]
  refine fnNF 46 keep21 ib21 mk21 mix Tryz.func21 rfl (by kernel_rfl) (by simp) fun h => ?_
  simp (maxSteps := 1000000) -dsimp -implicitDefEqProofs only [go_sem, ↓reduceIte, keep21, ib21, mk21, Tryz.f21]
  intro n8 q8
  try simp (maxSteps := 1000000) -dsimp -implicitDefEqProofs only [go_sem, ↓reduceIte, keep21, ib21, mk21, Tryz.f21]
  intro nb qb
  have d_nb_n8 : ¬ nb = n8 := qb.1
  have d_n8_nb : ¬ n8 = nb := Ne.symm d_nb_n8
  have e_nb_n8 : (nb = n8) = False := eq_false d_nb_n8
  have e_n8_nb : (n8 = nb) = False := eq_false d_n8_nb
  rw [show (HObj.row 6 [[.v (.ip 1 [[sls 3 DFunc.c p.fFuncs]] 0 0), .v (.str t), .v (I 0), .v (I 0), .v (I 0), .v (.bool false)]]) = rds p t s00 from rfl]
  refine HFnF.mkH (hcall nb _ (by simp only [upd_get, e_nb_n8, e_n8_nb, if_false]; exact qb.2)) ?_
  rintro r_ h' ⟨l, g9, ⟨e, oe, rfl, rfl⟩, w9, z9, rfl⟩
  obtain ⟨g8, rfl, w8, z88⟩ := New.under q8 w9
  have z8b : g8 nb = none := by simpa only [upd_get, e_nb_n8, e_n8_nb, if_false] using z9
  generalize exS p t 60 s00 = R at *
  obtain ⟨a, s2⟩ := R
  unfold Right at hR
  simp only at oe hb hR ⊢
  have oe1 := oe
  rw [DExpr.o_iff] at oe1
  obtain ⟨y4, rfl, os4⟩ := oe1
  simp (maxSteps := 1000000) -dsimp -implicitDefEqProofs only [go_sem, ↓reduceIte, keep21, ib21, mk21, Tryz.f21, e_nb_n8, e_n8_nb, upd_get, upd_swap d_n8_nb, OV.map_val, OV.map_val_nil, OV.val_v, os4.flat, os4.one]
  intro n11 q11
  have a1 : ¬ n11 = nb := by grind
  have a2 : ¬ n11 = n8 := by grind
  have z8n : g8 n11 = none := by grind
  have d_n11_nb : ¬ n11 = nb := a1
  have d_nb_n11 : ¬ nb = n11 := Ne.symm d_n11_nb
  have e_n11_nb : (n11 = nb) = False := eq_false d_n11_nb
  have e_nb_n11 : (nb = n11) = False := eq_false d_nb_n11
  have d_n11_n8 : ¬ n11 = n8 := a2
  have d_n8_n11 : ¬ n8 = n11 := Ne.symm d_n11_n8
  have e_n11_n8 : (n11 = n8) = False := eq_false d_n11_n8
  have e_n8_n11 : (n8 = n11) = False := eq_false d_n8_n11
  have zn11 : h n11 = none := Heap.le_none w8.le z8n
  have has : a.s ≤ 40000 := by have h1 : a.s ≤ 2 * (s2.i - 0) := hb.sz; have h2 : s2.i ≤ t.length := hb.hi; omega
  simp (maxSteps := 1000000) -dsimp -implicitDefEqProofs only [go_sem, ↓reduceIte, keep21, ib21, mk21, Tryz.f21, e_nb_n8, e_nb_n11, e_n8_nb, e_n8_n11, e_n11_nb, e_n11_n8, upd_ne, upd_get, upd_swap d_n11_n8, upd_upd, rds, Option.toArray_none, Option.toArray_some, List.filterMap_cons, List.filterMap_nil, List.elem_cons_self, List.nil_append, List.append_nil, List.toList_toArray]
  have hle : ∀ X Y Z, h.le (upd (upd (upd g8 nb X) n8 Y) n11 Z) := fun X Y Z => (le_upd zn11).2 ((le_upd q8).2 ((le_upd qb.2).2 w8.le))
  have hvw : ∀ X Y, View (upd (upd (upd g8 nb X) n8 Y) n11 (.row 5 (OV.cells [[.v (.int .i64 a.fKind), .v (.int .i64 a.fNum), .v (.int .i64 a.fPick), .v (.int .i64 a.fCount), y4]]))) (.op n11 5 0 0) (.ip 5 [a.c] 0 0) := fun X Y => View.box (DExpr.o_dat oe) (by rw [upd_ne _ _ _ _ d_n11_n8, upd_ne _ _ _ _ d_n11_nb]; exact z8n) ((w8.owns.up z8b).up (by rw [upd_ne _ _ _ _ d_n8_nb]; exact z88))
  simp only [OV.cells, List.map_cons, List.map_nil, OV.val_v] at hvw
  refine ⟨fun hb2 _ => ⟨fun hi2 => ?_, fun hi2 => ?_⟩, fun hb2 => ?_⟩
  · have hV := l02Expr p a vars funcs (by omega) (by omega)
    rw [DProgram.c_eq] at hV
    refine HFnF.lend0 hV (ViewL.cons (View.same _ _) (ViewL.cons (hvw _ _) (ViewL.cons (View.same _ _) (ViewL.cons (View.same _ _) ViewL.nil)))) rfl ?_
    by_cases hv : exprOK p a vars funcs
    · have hT := l02Text hp a vars (Stands.of hv) (by omega)
      rw [DProgram.c_eq] at hT
      rw [decide_eq_true hv]
      simp (maxSteps := 1000000) -dsimp -implicitDefEqProofs only [go_sem, ↓reduceIte, keep21, ib21, mk21, Tryz.f21, e_nb_n8, e_nb_n11, e_n8_nb, e_n8_n11, e_n11_nb, e_n11_n8, upd_ne, upd_get, upd_swap d_n11_n8, upd_upd, Option.toArray_none, Option.toArray_some, List.filterMap_cons, List.filterMap_nil, List.elem_cons_self, List.nil_append, List.append_nil, List.toList_toArray]
      refine HFnF.lend0 hT (ViewL.cons (View.same _ _) (ViewL.cons (hvw _ _) ViewL.nil)) rfl ?_
      simp (maxSteps := 1000000) -dsimp -implicitDefEqProofs only [go_sem, ↓reduceIte, keep21, ib21, mk21, Tryz.f21, e_nb_n8, e_nb_n11, e_n8_nb, e_n8_n11, e_n11_nb, e_n11_n8, upd_ne, upd_get, upd_swap d_n11_n8, upd_upd, Option.toArray_none, Option.toArray_some, List.filterMap_cons, List.filterMap_nil, List.elem_cons_self, List.nil_append, List.append_nil, List.toList_toArray, os4.flat, os4.one]
      refine ⟨fun hx => ?_, fun hx => ?_⟩
      · rw [hR.2 (fun q => hx q.2.2.2)]
        exact own_zero zE_z (wsub_tup [] [_]) (hle _ _ _)
      · rw [hR.1 ⟨hb2, hi2, hv, hx⟩]
        exact own_end (e := [.v (.int .i64 a.fKind), .v (.int .i64 a.fNum), .v (.int .i64 a.fPick), .v (.int .i64 a.fCount), y4]) (w := fun y => .tup [y, .bool true]) oe w8 ((le_upd z8n).2 ((le_upd z88).2 ((le_upd z8b).2 (Heap.le_refl _))))
    · rw [decide_eq_false hv]
      simp (maxSteps := 1000000) -dsimp -implicitDefEqProofs only [go_sem, ↓reduceIte, keep21, ib21, mk21, Tryz.f21, e_nb_n8, e_nb_n11, e_n8_nb, e_n8_n11, e_n11_nb, e_n11_n8, upd_ne, upd_get, upd_swap d_n11_n8, upd_upd, Option.toArray_none, Option.toArray_some, List.filterMap_cons, List.filterMap_nil, List.elem_cons_self, List.nil_append, List.append_nil, List.toList_toArray]
      rw [hR.2 (fun q => hv q.2.2.1)]
      exact own_zero zE_z (wsub_tup [] [_]) (hle _ _ _)
  · rw [hR.2 (fun q => hi2 q.2.1)]
    exact own_zero zE_z (wsub_tup [] [_]) (hle _ _ _)
  · rw [hR.2 (fun q => (by have := hb2.symm.trans q.1; cases this))]
    exact own_zero zE_z (wsub_tup [] [_]) (hle _ _ _)
open Go.Proofs
set_option linter.unusedVariables false
set_option linter.unusedSimpArgs false
def keep6 : List Nat := [0, 1, 2, 3, 4, 8, 9, 10, 11, 13, 30, 40]
def ib6 : List Nat := [4]
def mk6 : Marks := fun _ => ([], .nil, [])
set_option maxRecDepth 100000 in
set_option maxHeartbeats 1000000 in
theorem specReadExpr (p : DProgram) (hps : p.s ≤ 1048576) (t : List UInt8) (ht : t.length ≤ 1048576) (vars funcs : Int) :
    FnN Tryz.prog 6 [.agg p.c, .str t, I vars, I funcs] (QA (readERes p t vars funcs).1.o (fun y => .tup [y, I (readERes p t vars funcs).2])) := by
  have hV := l02Ok p (by omega)
  have hA := l02Vars vars
  have hW := l00In funcs 0 p.fFuncs.length
  have hE := fun (hp : p.ok) (h2 : t.length ≤ 20000) => l02ReadS hp hps t h2 vars funcs
  simp only [DProgram.c_eq] at hV hE ⊢
  refine fnNF 43 keep6 ib6 mk6 mix Tryz.func6 rfl (by kernel_rfl) (by simp) fun h => ?_
  simp (maxSteps := 1000000) -dsimp -implicitDefEqProofs only [go_sem, ↓reduceIte, keep6, ib6, mk6, Tryz.f6]
  intro n8 q8
  have hle : ∀ Y, h.le (upd h n8 Y) := fun Y => (le_upd q8).2 (Heap.le_refl _)
  try simp (maxSteps := 1000000) -dsimp -implicitDefEqProofs only [go_sem, ↓reduceIte, keep6, ib6, mk6, Tryz.f6]
  by_cases hp : p.ok
  · rw [decide_eq_true hp] at hV
    first | refine HFnF.mk (hV) ?_ | refine CallSF.mk (hV) ?_ | refine HFnF.mkAt (hV) ?_ | refine CallSF.mk (FnAt.fn0 (hV)) ?_
    simp (maxSteps := 1000000) -dsimp -implicitDefEqProofs only [go_sem, ↓reduceIte, keep6, ib6, mk6, Tryz.f6]
    by_cases hv : 0 ≤ vars ∧ vars ≤ 412
    · rw [decide_eq_true hv] at hA
      first | refine HFnF.mk (hA) ?_ | refine CallSF.mk (hA) ?_ | refine HFnF.mkAt (hA) ?_ | refine CallSF.mk (FnAt.fn0 (hA)) ?_
      simp (maxSteps := 1000000) -dsimp -implicitDefEqProofs only [go_sem, ↓reduceIte, keep6, ib6, mk6, Tryz.f6, Option.toArray_none, Option.toArray_some, List.filterMap_cons, List.filterMap_nil, List.elem_cons_self, List.nil_append, List.append_nil, List.toList_toArray]
      intro _
      by_cases hf : 0 ≤ funcs ∧ funcs ≤ p.fFuncs.length
      · rw [decide_eq_true hf] at hW
        first | refine HFnF.mk (hW) ?_ | refine CallSF.mk (hW) ?_ | refine HFnF.mkAt (hW) ?_ | refine CallSF.mk (FnAt.fn0 (hW)) ?_
        simp (maxSteps := 1000000) -dsimp -implicitDefEqProofs only [go_sem, ↓reduceIte, keep6, ib6, mk6, Tryz.f6, Option.toArray_none, Option.toArray_some, List.filterMap_cons, List.filterMap_nil, List.elem_cons_self, List.nil_append, List.append_nil, List.toList_toArray, upd_upd]
        refine fun _ => ⟨fun h2 => ?_, fun h2 => ?_⟩
        · rw [readERes_rng hp (fun q => by have := q.2.2; omega)]
          exact own_zero zE_z (wsub_tup [] [_]) (hle _)
        · have h20 : t.length ≤ 20000 := by omega
          have hS := fun e => readERes_some (p := p) (t := t) (vars := vars) (funcs := funcs) hp ⟨hv, hf, h20⟩ (e := e)
          have hN := readERes_none (p := p) (t := t) (vars := vars) (funcs := funcs) hp ⟨hv, hf, h20⟩
          refine HFnF.wn1 (hE hp h20) q8 ?_
          rintro r l g8 ⟨e, oe, rfl, rfl⟩ w8 z88
          cases hr : readE p t vars funcs with
          | none =>
            rw [hr] at oe
            have oe1 := oe
            rw [DExpr.o_iff] at oe1
            obtain ⟨y4, rfl, os4⟩ := oe1
            rw [hN hr]
            simp (maxSteps := 1000000) -dsimp -implicitDefEqProofs only [go_sem, ↓reduceIte, keep6, ib6, mk6, Tryz.f6, Option.isSome_none, OV.map_val, OV.map_val_nil, OV.val_v, os4.flat, os4.one]
            intro n10 q10
            have d_n10_n8 : ¬ n10 = n8 := q10.1
            have d_n8_n10 : ¬ n8 = n10 := Ne.symm d_n10_n8
            have e_n10_n8 : (n10 = n8) = False := eq_false d_n10_n8
            have e_n8_n10 : (n8 = n10) = False := eq_false d_n8_n10
            simp (maxSteps := 1000000) -dsimp -implicitDefEqProofs only [go_sem, ↓reduceIte, keep6, ib6, mk6, Tryz.f6, e_n10_n8, e_n8_n10, upd_ne, upd_get, upd_swap d_n10_n8, upd_upd, OV.val_v, os4.flat, os4.one]
            exact own_zero zE_z (wsub_tup [] [_]) ((le_upd (Heap.le_none w8.le q10.2)).2 ((le_upd q8).2 w8.le))
          | some a =>
            rw [hr] at oe
            have oe1 := oe
            rw [DExpr.o_iff] at oe1
            obtain ⟨y4, rfl, os4⟩ := oe1
            rw [hS a hr]
            simp (maxSteps := 1000000) -dsimp -implicitDefEqProofs only [go_sem, ↓reduceIte, keep6, ib6, mk6, Tryz.f6, Option.isSome_some, OV.map_val, OV.map_val_nil, OV.val_v, os4.flat, os4.one]
            intro n10 q10
            have d_n10_n8 : ¬ n10 = n8 := q10.1
            have d_n8_n10 : ¬ n8 = n10 := Ne.symm d_n10_n8
            have e_n10_n8 : (n10 = n8) = False := eq_false d_n10_n8
            have e_n8_n10 : (n8 = n10) = False := eq_false d_n8_n10
            simp (maxSteps := 1000000) -dsimp -implicitDefEqProofs only [go_sem, ↓reduceIte, keep6, ib6, mk6, Tryz.f6, e_n10_n8, e_n8_n10, upd_ne, upd_get, upd_swap d_n10_n8, upd_upd, OV.val_v, os4.flat, os4.one]
            exact own_end (e := [.v (.int .i64 a.fKind), .v (.int .i64 a.fNum), .v (.int .i64 a.fPick), .v (.int .i64 a.fCount), y4]) (w := fun y => .tup [y, I 0]) oe w8 ((le_upd q10.2).2 ((le_upd z88).2 (Heap.le_refl _)))
      · rw [decide_eq_false hf] at hW
        first | refine HFnF.mk (hW) ?_ | refine CallSF.mk (hW) ?_ | refine HFnF.mkAt (hW) ?_ | refine CallSF.mk (FnAt.fn0 (hW)) ?_
        simp (maxSteps := 1000000) -dsimp -implicitDefEqProofs only [go_sem, ↓reduceIte, keep6, ib6, mk6, Tryz.f6, Option.toArray_none, Option.toArray_some, List.filterMap_cons, List.filterMap_nil, List.elem_cons_self, List.nil_append, List.append_nil, List.toList_toArray, upd_upd]
        rw [readERes_rng hp (fun q => hf q.2.1)]
        exact own_zero zE_z (wsub_tup [] [_]) (hle _)
    · rw [decide_eq_false hv] at hA
      first | refine HFnF.mk (hA) ?_ | refine CallSF.mk (hA) ?_ | refine HFnF.mkAt (hA) ?_ | refine CallSF.mk (FnAt.fn0 (hA)) ?_
      simp (maxSteps := 1000000) -dsimp -implicitDefEqProofs only [go_sem, ↓reduceIte, keep6, ib6, mk6, Tryz.f6, Option.toArray_none, Option.toArray_some, List.filterMap_cons, List.filterMap_nil, List.elem_cons_self, List.nil_append, List.append_nil, List.toList_toArray, upd_upd]
      rw [readERes_rng hp (fun q => hv q.1)]
      exact own_zero zE_z (wsub_tup [] [_]) (hle _)
  · rw [decide_eq_false hp] at hV
    first | refine HFnF.mk (hV) ?_ | refine CallSF.mk (hV) ?_ | refine HFnF.mkAt (hV) ?_ | refine CallSF.mk (FnAt.fn0 (hV)) ?_
    simp (maxSteps := 1000000) -dsimp -implicitDefEqProofs only [go_sem, ↓reduceIte, keep6, ib6, mk6, Tryz.f6, upd_upd]
    rw [readERes_bad hp]
    exact own_zero zE_z (wsub_tup [] [_]) (hle _)
open Go.Proofs
set_option linter.unusedVariables false
set_option linter.unusedSimpArgs false
def keep3 : List Nat := [0, 1, 2, 3, 4, 8, 9, 10, 11, 12, 13, 14, 15, 16, 17, 18, 19, 22, 27, 55, 60, 76, 84, 87, 105, 110, 113]
def ib3 : List Nat := [4]
def mk3 : Marks := fun id => match id with | 12 => ([0, 2, 3], (.op 1 (.op 0 (.op 2 (.op 3 (.op 4 .nil))))), [(0, 2)]) | _ => ([], .nil, [])
set_option maxRecDepth 100000 in
set_option maxHeartbeats 4000000 in
theorem law_FnExactReadExpr (a : DProgram) (t : (List UInt8)) (vars : Int) (funcs : Int) (h : Heap) : HFn Tryz.prog 3 [.agg a.c, (.str t), (.int .i64 vars), (.int .i64 funcs)] h fun r _ => r = .bool true := by
  simp only [DProgram.c_eq, DExpr.c_eq]
  refine fnHF 114 keep3 ib3 mk3 mix Tryz.func3 rfl (by kernel_rfl) (by simp) ?_
  simp (maxSteps := 1000000) -dsimp -implicitDefEqProofs only [go_sem, ↓reduceIte, keep3, ib3, mk3, Tryz.f3, Bool.true_or, Bool.or_true, Bool.false_or, Bool.or_false, protF, eq_self, decide_true, Bool.not_true, bne_self_eq_false, upd_upd, upd_get, OV.map_val, OV.map_val_nil, OV.val_v, DProgram.c_eq, DExpr.c_eq]
  repeat' (with_reducible first | intro _ | refine And.intro ?_ ?_)
  all_goals try (first | exact ⟨_, Heap.le_refl _, rfl⟩ | exact ⟨_, Heap.le_refl _⟩)
  all_goals try omega
  have hz_t : t.length ≤ 1048576 := by omega
  refine HFnF.mk (sz_Program a 1048576 (by omega) (by omega)) ?_
  generalize hL0 : lft 1048576 (DProgram.s a) = L0
  have hs0 := lft_step hL0
  simp (maxSteps := 1000000) -dsimp -implicitDefEqProofs only [go_sem, ↓reduceIte, keep3, ib3, mk3, Tryz.f3, Bool.true_or, Bool.or_true, Bool.false_or, Bool.or_false, protF, eq_self, decide_true, Bool.not_true, bne_self_eq_false, upd_upd, upd_get, OV.map_val, OV.map_val_nil, OV.val_v, DProgram.c_eq, DExpr.c_eq]
  repeat' (with_reducible first | intro _ | refine And.intro ?_ ?_)
  all_goals try (first | exact ⟨_, Heap.le_refl _, rfl⟩ | exact ⟨_, Heap.le_refl _⟩)
  all_goals try omega
  have hn0 := hs0.2 (by omega)
  clear hs0 hL0
  have hz_a : (DProgram.s a) ≤ 1048576 := by omega
  have hseal := QA.fn0W (ReadExprI a (by omega) t (by omega) vars funcs) (fun e he => DExpr.o_dat he) (wrap_tup [] [I (readERes a t vars funcs).2])
  first | refine HFnF.mk (to_Program a hz_a) ?_ | refine CallSF.mk (to_Program a hz_a) ?_
  simp (maxSteps := 1000000) -dsimp -implicitDefEqProofs only [go_sem, ↓reduceIte, keep3, ib3, mk3, Tryz.f3, Bool.true_or, Bool.or_true, Bool.false_or, Bool.or_false, protF, eq_self, decide_true, Bool.not_true, bne_self_eq_false, upd_upd, upd_get, OV.map_val, OV.map_val_nil, OV.val_v, DProgram.c_eq, DExpr.c_eq]
  repeat' (with_reducible first | intro _ | refine And.intro ?_ ?_)
  all_goals try trivial
  first | refine HFnF.mk (QA.fn0W (specReadExpr a (by omega) t (by omega) vars funcs) (fun e he => DExpr.o_dat he) (wrap_tup [] [I (readERes a t vars funcs).2])) ?_ | refine CallSF.mk (QA.fn0W (specReadExpr a (by omega) t (by omega) vars funcs) (fun e he => DExpr.o_dat he) (wrap_tup [] [I (readERes a t vars funcs).2])) ?_
  simp (maxSteps := 1000000) -dsimp -implicitDefEqProofs only [go_sem, ↓reduceIte, keep3, ib3, mk3, Tryz.f3, Bool.true_or, Bool.or_true, Bool.false_or, Bool.or_false, protF, eq_self, decide_true, Bool.not_true, bne_self_eq_false, upd_upd, upd_get, OV.map_val, OV.map_val_nil, OV.val_v, DProgram.c_eq, DExpr.c_eq]
  intro nw0 qnw0
  have z0_nw0 := qnw0
  clear qnw0
  try simp (maxSteps := 1000000) -dsimp -implicitDefEqProofs only [go_sem, ↓reduceIte, keep3, ib3, mk3, Tryz.f3, Bool.true_or, Bool.or_true, Bool.false_or, Bool.or_false, protF, eq_self, decide_true, Bool.not_true, bne_self_eq_false, upd_upd, upd_get, OV.map_val, OV.map_val_nil, OV.val_v, DProgram.c_eq, DExpr.c_eq]
  refine HFnF.wn1 (toO_Program a hz_a) z0_nw0 ?_
  rintro r l1 g1 ⟨e0_, oe0, rfl, rfl⟩ w1 z1_nw0
  have oo0 := oe0
  obtain ⟨ya0_0, rfl, oa0_0⟩ := oo0
  have H0x_1 : Owns g1 (OV.rowsRow [ya0_0]) := w1.owns
  simp (maxSteps := 1000000) -dsimp -implicitDefEqProofs only [go_sem, ↓reduceIte, keep3, ib3, mk3, Tryz.f3, Bool.true_or, Bool.or_true, Bool.false_or, Bool.or_false, protF, eq_self, decide_true, Bool.not_true, bne_self_eq_false, upd_upd, upd_get, OV.map_val, OV.map_val_nil, OV.val_v, DProgram.c_eq, DExpr.c_eq, oa0_0.flat, oa0_0.one]
  intro nx0 qnx0
  have dnx0_nw0 : nx0 ≠ nw0 := fun e => by
    first
      | exact qnx0.1 e
      | (rw [if_pos e] at qnx0; cases qnx0)
  have enx0_nw0 : (nx0 = nw0) = False := eq_false dnx0_nw0
  have fnx0_nw0 : (nw0 = nx0) = False := eq_false (fun e => dnx0_nw0 e.symm)
  first
    | (rw [if_neg dnx0_nw0] at qnx0)
    | (replace qnx0 := qnx0.2)
  have z1_nx0 := qnx0
  clear qnx0
  try simp (maxSteps := 1000000) -dsimp -implicitDefEqProofs only [go_sem, ↓reduceIte, keep3, ib3, mk3, Tryz.f3, Bool.true_or, Bool.or_true, Bool.false_or, Bool.or_false, protF, eq_self, decide_true, Bool.not_true, bne_self_eq_false, upd_upd, upd_get, OV.map_val, OV.map_val_nil, OV.val_v, DProgram.c_eq, DExpr.c_eq, enx0_nw0, fnx0_nw0, oa0_0.flat, oa0_0.one]
  refine HFnF.wl2 (ReadExprI a (by omega) t (by omega) vars funcs) (ViewL.cons (View.aggD [ya0_0] (DProgram.o_dat oe0) (Owns.up2 z1_nw0 ⟨dnx0_nw0, z1_nx0⟩ H0x_1)) (ViewL.cons (View.same _ _) (ViewL.cons (View.same _ _) (ViewL.cons (View.same _ _) ViewL.nil)))) (QA.solid (fun e he => DExpr.o_sol _ e he) (fun x hx => by simp [HVal.solid, HVal.solidL, hx])) z1_nw0 ⟨dnx0_nw0, z1_nx0⟩ ?_
  rintro r l2 g2 ⟨eg_, oeg, rfl, rfl⟩ w2 z2_nw0 z2_nx0
  have oog := oeg
  rw [DExpr.o_iff] at oog
  obtain ⟨yg_4, rfl, og_4⟩ := oog
  have H0x_2 : Owns g2 (OV.rowsRow [ya0_0]) := fun p hp => w2.keep (H0x_1 p hp)
  have Hg_2 : Owns g2 (OV.rowsRow [.v (.int .i64 (readERes a t vars funcs).1.fKind), .v (.int .i64 (readERes a t vars funcs).1.fNum), .v (.int .i64 (readERes a t vars funcs).1.fPick), .v (.int .i64 (readERes a t vars funcs).1.fCount), yg_4]) := w2.owns
  have apH0x : ∀ m ∈ namesOf (OV.rowsRow [ya0_0]), m ∉ namesOf (OV.rowsRow [.v (.int .i64 (readERes a t vars funcs).1.fKind), .v (.int .i64 (readERes a t vars funcs).1.fNum), .v (.int .i64 (readERes a t vars funcs).1.fPick), .v (.int .i64 (readERes a t vars funcs).1.fCount), yg_4]) := fun m hm hq => by
    obtain ⟨x, hx⟩ := mem_namesOf.1 hm
    have h1 := w2.fresh m hq
    have h2 := H0x_1 (m, x) hx
    rw [h1] at h2; cases h2
  have nd0 := w1.nodup
  have ndg := w2.nodup
  simp (maxSteps := 1000000) -dsimp -implicitDefEqProofs only [go_sem, ↓reduceIte, keep3, ib3, mk3, Tryz.f3, Bool.true_or, Bool.or_true, Bool.false_or, Bool.or_false, protF, eq_self, decide_true, Bool.not_true, bne_self_eq_false, upd_upd, upd_get, OV.map_val, OV.map_val_nil, OV.val_v, DProgram.c_eq, DExpr.c_eq, enx0_nw0, fnx0_nw0, oa0_0.flat, oa0_0.one, og_4.flat, og_4.one]
  intro ng qng
  have dng_nx0 : ng ≠ nx0 := fun e => by
    first
      | exact qng.1 e
      | (rw [if_pos e] at qng; cases qng)
  have eng_nx0 : (ng = nx0) = False := eq_false dng_nx0
  have fng_nx0 : (nx0 = ng) = False := eq_false (fun e => dng_nx0 e.symm)
  first
    | (rw [if_neg dng_nx0] at qng)
    | (replace qng := qng.2)
  have dng_nw0 : ng ≠ nw0 := fun e => by
    first
      | exact qng.1 e
      | (rw [if_pos e] at qng; cases qng)
  have eng_nw0 : (ng = nw0) = False := eq_false dng_nw0
  have fng_nw0 : (nw0 = ng) = False := eq_false (fun e => dng_nw0 e.symm)
  first
    | (rw [if_neg dng_nw0] at qng)
    | (replace qng := qng.2)
  have z2_ng := qng
  clear qng
  try simp (maxSteps := 1000000) -dsimp -implicitDefEqProofs only [go_sem, ↓reduceIte, keep3, ib3, mk3, Tryz.f3, Bool.true_or, Bool.or_true, Bool.false_or, Bool.or_false, protF, eq_self, decide_true, Bool.not_true, bne_self_eq_false, upd_upd, upd_get, OV.map_val, OV.map_val_nil, OV.val_v, DProgram.c_eq, DExpr.c_eq, enx0_nw0, fnx0_nw0, eng_nx0, fng_nx0, eng_nw0, fng_nw0, oa0_0.flat, oa0_0.one, og_4.flat, og_4.one]
  refine HFnF.lend0 (eq_Expr (readERes a t vars funcs).1 (readERes a t vars funcs).1) (ViewL.cons (View.aggD [.v (.int .i64 (readERes a t vars funcs).1.fKind), .v (.int .i64 (readERes a t vars funcs).1.fNum), .v (.int .i64 (readERes a t vars funcs).1.fPick), .v (.int .i64 (readERes a t vars funcs).1.fCount), yg_4] (DExpr.o_dat oeg) (Owns.up3 z2_nw0 ⟨dnx0_nw0, z2_nx0⟩ ⟨dng_nx0, dng_nw0, z2_ng⟩ Hg_2)) (ViewL.cons (by first | exact View.same _ _ | (simp only [DProgram.c_eq, DExpr.c_eq]; exact View.same _ _)) ViewL.nil)) rfl ?_
  simp (maxSteps := 1000000) -dsimp -implicitDefEqProofs only [go_sem, ↓reduceIte, keep3, ib3, mk3, Tryz.f3, Bool.true_or, Bool.or_true, Bool.false_or, Bool.or_false, protF, eq_self, decide_true, Bool.not_true, bne_self_eq_false, upd_upd, upd_get, OV.map_val, OV.map_val_nil, OV.val_v, DProgram.c_eq, DExpr.c_eq, enx0_nw0, fnx0_nw0, eng_nx0, fng_nx0, eng_nw0, fng_nw0, oa0_0.flat, oa0_0.one, og_4.flat, og_4.one]
  repeat' (with_reducible first | intro _ | refine And.intro ?_ ?_)
  all_goals try (first | exact ⟨_, Heap.le_refl _, rfl⟩ | exact ⟨_, Heap.le_refl _⟩)
  all_goals try omega
  refine HFnF.mk (to_Program a hz_a) ?_
  simp (maxSteps := 1000000) -dsimp -implicitDefEqProofs only [go_sem, ↓reduceIte, keep3, ib3, mk3, Tryz.f3, Bool.true_or, Bool.or_true, Bool.false_or, Bool.or_false, protF, eq_self, decide_true, Bool.not_true, bne_self_eq_false, upd_upd, upd_get, OV.map_val, OV.map_val_nil, OV.val_v, DProgram.c_eq, DExpr.c_eq, enx0_nw0, fnx0_nw0, eng_nx0, fng_nx0, eng_nw0, fng_nw0, oa0_0.flat, oa0_0.one, og_4.flat, og_4.one]
  repeat' (with_reducible first | intro _ | refine And.intro ?_ ?_)
  all_goals try trivial
  refine HFnF.lend0 (eq_Program a a) (ViewL.cons (View.aggD [ya0_0] (DProgram.o_dat oe0) (Owns.up3 z2_nw0 ⟨dnx0_nw0, z2_nx0⟩ ⟨dng_nx0, dng_nw0, z2_ng⟩ H0x_2)) (ViewL.cons (by first | exact View.same _ _ | (simp only [DProgram.c_eq, DExpr.c_eq]; exact View.same _ _)) ViewL.nil)) rfl ?_
  simp (maxSteps := 1000000) -dsimp -implicitDefEqProofs only [go_sem, ↓reduceIte, keep3, ib3, mk3, Tryz.f3, Bool.true_or, Bool.or_true, Bool.false_or, Bool.or_false, protF, eq_self, decide_true, Bool.not_true, bne_self_eq_false, upd_upd, upd_get, OV.map_val, OV.map_val_nil, OV.val_v, DProgram.c_eq, DExpr.c_eq, enx0_nw0, fnx0_nw0, eng_nx0, fng_nx0, eng_nw0, fng_nw0, oa0_0.flat, oa0_0.one, og_4.flat, og_4.one]
  repeat' (with_reducible first | intro _ | refine And.intro ?_ ?_)
  all_goals try (first | exact ⟨_, Heap.le_refl _, rfl⟩ | exact ⟨_, Heap.le_refl _⟩)
  all_goals try omega
  have hct0 := DProgram.o_top a _ oe0
  refine HFnF.wc3 (mark_Program a [ya0_0] (1 : Int) _ oe0 (by omega) (by omega) (Owns.up3 z2_nw0 ⟨dnx0_nw0, z2_nx0⟩ ⟨dng_nx0, dng_nw0, z2_ng⟩ H0x_2) nd0) H0x_2 z2_nw0 ⟨dnx0_nw0, z2_nx0⟩ ⟨dng_nx0, dng_nw0, z2_ng⟩ ?_
  rintro g3 cg3 z3_nw0 z3_nx0 z3_ng
  obtain ⟨cc0, hcc0⟩ : ∃ z : Int, z = (1 : Int) + ((OV.ctTop [ya0_0] : Nat) : Int) := ⟨_, rfl⟩
  rw [← hcc0]
  have Hg_3 : Owns g3 (OV.rowsRow [.v (.int .i64 (readERes a t vars funcs).1.fKind), .v (.int .i64 (readERes a t vars funcs).1.fNum), .v (.int .i64 (readERes a t vars funcs).1.fPick), .v (.int .i64 (readERes a t vars funcs).1.fCount), yg_4]) := fun p hp => by
    have hm : p.1 ∈ namesOf (OV.rowsRow [.v (.int .i64 (readERes a t vars funcs).1.fKind), .v (.int .i64 (readERes a t vars funcs).1.fNum), .v (.int .i64 (readERes a t vars funcs).1.fPick), .v (.int .i64 (readERes a t vars funcs).1.fCount), yg_4]) := mem_namesOf.2 ⟨p.2, hp⟩
    rw [cg3.upto p.1 (fun hq => apH0x p.1 hq hm)]
    exact Hg_2 p hp
  simp (maxSteps := 1000000) -dsimp -implicitDefEqProofs only [go_sem, ↓reduceIte, keep3, ib3, mk3, Tryz.f3, Bool.true_or, Bool.or_true, Bool.false_or, Bool.or_false, protF, eq_self, decide_true, Bool.not_true, bne_self_eq_false, upd_upd, upd_get, OV.map_val, OV.map_val_nil, OV.val_v, DProgram.c_eq, DExpr.c_eq, enx0_nw0, fnx0_nw0, eng_nx0, fng_nx0, eng_nw0, fng_nw0, oa0_0.flat, oa0_0.one, og_4.flat, og_4.one]
  repeat' (with_reducible first | intro _ | refine And.intro ?_ ?_)
  all_goals try (first | exact ⟨_, Heap.le_refl _, rfl⟩ | exact ⟨_, Heap.le_refl _⟩)
  all_goals try omega
  refine HFnF.lend0 (eq_Expr (readERes a t vars funcs).1 (readERes a t vars funcs).1) (ViewL.cons (View.aggD [.v (.int .i64 (readERes a t vars funcs).1.fKind), .v (.int .i64 (readERes a t vars funcs).1.fNum), .v (.int .i64 (readERes a t vars funcs).1.fPick), .v (.int .i64 (readERes a t vars funcs).1.fCount), yg_4] (DExpr.o_dat oeg) (Owns.up3 z3_nw0 ⟨dnx0_nw0, z3_nx0⟩ ⟨dng_nx0, dng_nw0, z3_ng⟩ Hg_3)) (ViewL.cons (by first | exact View.same _ _ | (simp only [DProgram.c_eq, DExpr.c_eq]; exact View.same _ _)) ViewL.nil)) rfl ?_
  simp (maxSteps := 1000000) -dsimp -implicitDefEqProofs only [go_sem, ↓reduceIte, keep3, ib3, mk3, Tryz.f3, Bool.true_or, Bool.or_true, Bool.false_or, Bool.or_false, protF, eq_self, decide_true, Bool.not_true, bne_self_eq_false, upd_upd, upd_get, OV.map_val, OV.map_val_nil, OV.val_v, DProgram.c_eq, DExpr.c_eq, enx0_nw0, fnx0_nw0, eng_nx0, fng_nx0, eng_nw0, fng_nw0, oa0_0.flat, oa0_0.one, og_4.flat, og_4.one]
  repeat' (with_reducible first | intro _ | refine And.intro ?_ ?_)
  all_goals try (first | exact ⟨_, Heap.le_refl _, rfl⟩ | exact ⟨_, Heap.le_refl _⟩)
  all_goals try omega
  have hctg : OV.ctTop [.v (.int .i64 (readERes a t vars funcs).1.fKind), .v (.int .i64 (readERes a t vars funcs).1.fNum), .v (.int .i64 (readERes a t vars funcs).1.fPick), .v (.int .i64 (readERes a t vars funcs).1.fCount), yg_4] ≤ 4000000000000000000 := by have h1 := DExpr.o_top _ _ oeg; have h2 := readERes_s a t vars funcs; omega
  refine HFnF.wc3 (mark_Expr _ [.v (.int .i64 (readERes a t vars funcs).1.fKind), .v (.int .i64 (readERes a t vars funcs).1.fNum), .v (.int .i64 (readERes a t vars funcs).1.fPick), .v (.int .i64 (readERes a t vars funcs).1.fCount), yg_4] 1 _ oeg (by omega) (by omega) (Owns.up3 z3_nw0 ⟨dnx0_nw0, z3_nx0⟩ ⟨dng_nx0, dng_nw0, z3_ng⟩ Hg_3) ndg) Hg_3 z3_nw0 ⟨dnx0_nw0, z3_nx0⟩ ⟨dng_nx0, dng_nw0, z3_ng⟩ ?_
  rintro g4 cg4 z4_nw0 z4_nx0 z4_ng
  obtain ⟨ccg, hccg⟩ : ∃ z : Int, z = 1 + ((OV.ctTop [.v (.int .i64 (readERes a t vars funcs).1.fKind), .v (.int .i64 (readERes a t vars funcs).1.fNum), .v (.int .i64 (readERes a t vars funcs).1.fPick), .v (.int .i64 (readERes a t vars funcs).1.fCount), yg_4] : Nat) : Int) := ⟨_, rfl⟩
  rw [← hccg]
  simp (maxSteps := 1000000) -dsimp -implicitDefEqProofs only [go_sem, ↓reduceIte, keep3, ib3, mk3, Tryz.f3, Bool.true_or, Bool.or_true, Bool.false_or, Bool.or_false, protF, eq_self, decide_true, Bool.not_true, bne_self_eq_false, upd_upd, upd_get, OV.map_val, OV.map_val_nil, OV.val_v, DProgram.c_eq, DExpr.c_eq, enx0_nw0, fnx0_nw0, eng_nx0, fng_nx0, eng_nw0, fng_nw0, oa0_0.flat, oa0_0.one, og_4.flat, og_4.one]
  repeat' (with_reducible first | intro _ | refine And.intro ?_ ?_)
  all_goals try (first | exact ⟨_, Heap.le_refl _, rfl⟩ | exact ⟨_, Heap.le_refl _⟩)
  all_goals try omega
  have hh := held_Expr _ [.v (.int .i64 (readERes a t vars funcs).1.fKind), .v (.int .i64 (readERes a t vars funcs).1.fNum), .v (.int .i64 (readERes a t vars funcs).1.fPick), .v (.int .i64 (readERes a t vars funcs).1.fCount), yg_4] 1 oeg (by omega) (by omega)
  rw [← hccg] at hh
  refine HFnF.lend0 hh (ViewL.cons (View.aggM 1 [.v (.int .i64 (readERes a t vars funcs).1.fKind), .v (.int .i64 (readERes a t vars funcs).1.fNum), .v (.int .i64 (readERes a t vars funcs).1.fPick), .v (.int .i64 (readERes a t vars funcs).1.fCount), yg_4] (Owns.up3 z4_nw0 ⟨dnx0_nw0, z4_nx0⟩ ⟨dng_nx0, dng_nw0, z4_ng⟩ cg4.owns)) (ViewL.cons (View.same _ _) ViewL.nil)) rfl ?_
  simp (maxSteps := 1000000) -dsimp -implicitDefEqProofs only [go_sem, ↓reduceIte, keep3, ib3, mk3, Tryz.f3, Bool.true_or, Bool.or_true, Bool.false_or, Bool.or_false, protF, eq_self, decide_true, Bool.not_true, bne_self_eq_false, upd_upd, upd_get, OV.map_val, OV.map_val_nil, OV.val_v, DProgram.c_eq, DExpr.c_eq, enx0_nw0, fnx0_nw0, eng_nx0, fng_nx0, eng_nw0, fng_nw0, oa0_0.flat, oa0_0.one, og_4.flat, og_4.one]
  repeat' (with_reducible first | intro _ | refine And.intro ?_ ?_)
  all_goals try (first | exact ⟨_, Heap.le_refl _, rfl⟩ | exact ⟨_, Heap.le_refl _⟩)
  all_goals try omega
  first | refine HFnF.mk (to_Program a hz_a) ?_ | refine CallSF.mk (to_Program a hz_a) ?_
  simp (maxSteps := 1000000) -dsimp -implicitDefEqProofs only [go_sem, ↓reduceIte, keep3, ib3, mk3, Tryz.f3, Bool.true_or, Bool.or_true, Bool.false_or, Bool.or_false, protF, eq_self, decide_true, Bool.not_true, bne_self_eq_false, upd_upd, upd_get, OV.map_val, OV.map_val_nil, OV.val_v, DProgram.c_eq, DExpr.c_eq, enx0_nw0, fnx0_nw0, eng_nx0, fng_nx0, eng_nw0, fng_nw0, oa0_0.flat, oa0_0.one, og_4.flat, og_4.one]
  repeat' (with_reducible first | intro _ | refine And.intro ?_ ?_)
  all_goals try trivial
  first | refine HFnF.mk (hseal) ?_ | refine CallSF.mk (hseal) ?_
  simp (maxSteps := 1000000) -dsimp -implicitDefEqProofs only [go_sem, ↓reduceIte, keep3, ib3, mk3, Tryz.f3, Bool.true_or, Bool.or_true, Bool.false_or, Bool.or_false, protF, eq_self, decide_true, Bool.not_true, bne_self_eq_false, upd_upd, upd_get, OV.map_val, OV.map_val_nil, OV.val_v, DProgram.c_eq, DExpr.c_eq, enx0_nw0, fnx0_nw0, eng_nx0, fng_nx0, eng_nw0, fng_nw0, oa0_0.flat, oa0_0.one, og_4.flat, og_4.one]
  intro nh qnh
  have dnh_ng : nh ≠ ng := fun e => by
    first
      | exact qnh.1 e
      | (rw [if_pos e] at qnh; cases qnh)
  have enh_ng : (nh = ng) = False := eq_false dnh_ng
  have fnh_ng : (ng = nh) = False := eq_false (fun e => dnh_ng e.symm)
  first
    | (rw [if_neg dnh_ng] at qnh)
    | (replace qnh := qnh.2)
  have dnh_nx0 : nh ≠ nx0 := fun e => by
    first
      | exact qnh.1 e
      | (rw [if_pos e] at qnh; cases qnh)
  have enh_nx0 : (nh = nx0) = False := eq_false dnh_nx0
  have fnh_nx0 : (nx0 = nh) = False := eq_false (fun e => dnh_nx0 e.symm)
  first
    | (rw [if_neg dnh_nx0] at qnh)
    | (replace qnh := qnh.2)
  have dnh_nw0 : nh ≠ nw0 := fun e => by
    first
      | exact qnh.1 e
      | (rw [if_pos e] at qnh; cases qnh)
  have enh_nw0 : (nh = nw0) = False := eq_false dnh_nw0
  have fnh_nw0 : (nw0 = nh) = False := eq_false (fun e => dnh_nw0 e.symm)
  first
    | (rw [if_neg dnh_nw0] at qnh)
    | (replace qnh := qnh.2)
  have z4_nh := qnh
  clear qnh
  try simp (maxSteps := 1000000) -dsimp -implicitDefEqProofs only [go_sem, ↓reduceIte, keep3, ib3, mk3, Tryz.f3, Bool.true_or, Bool.or_true, Bool.false_or, Bool.or_false, protF, eq_self, decide_true, Bool.not_true, bne_self_eq_false, upd_upd, upd_get, OV.map_val, OV.map_val_nil, OV.val_v, DProgram.c_eq, DExpr.c_eq, enx0_nw0, fnx0_nw0, eng_nx0, fng_nx0, eng_nw0, fng_nw0, enh_ng, fnh_ng, enh_nx0, fnh_nx0, enh_nw0, fnh_nw0, oa0_0.flat, oa0_0.one, og_4.flat, og_4.one]
  have hrr := (eq_Expr (readERes a t vars funcs).1 (readERes a t vars funcs).1)
  rw [DExpr.c_eq] at hrr
  refine HFnF.mk hrr ?_
  simp (maxSteps := 1000000) -dsimp -implicitDefEqProofs only [go_sem, ↓reduceIte, keep3, ib3, mk3, Tryz.f3, Bool.true_or, Bool.or_true, Bool.false_or, Bool.or_false, protF, eq_self, decide_true, Bool.not_true, bne_self_eq_false, upd_upd, upd_get, OV.map_val, OV.map_val_nil, OV.val_v, DProgram.c_eq, DExpr.c_eq, enx0_nw0, fnx0_nw0, eng_nx0, fng_nx0, eng_nw0, fng_nw0, enh_ng, fnh_ng, enh_nx0, fnh_nx0, enh_nw0, fnh_nw0, oa0_0.flat, oa0_0.one, og_4.flat, og_4.one]
  repeat' (with_reducible first | intro _ | refine And.intro ?_ ?_)
  all_goals try (first | exact ⟨_, Heap.le_refl _, rfl⟩ | exact ⟨_, Heap.le_refl _⟩)
  all_goals try omega
  have hh := held_Expr _ [.v (.int .i64 (readERes a t vars funcs).1.fKind), .v (.int .i64 (readERes a t vars funcs).1.fNum), .v (.int .i64 (readERes a t vars funcs).1.fPick), .v (.int .i64 (readERes a t vars funcs).1.fCount), yg_4] 1 oeg (by omega) (by omega)
  rw [← hccg] at hh
  refine HFnF.lend0 hh (ViewL.cons (View.aggM 1 [.v (.int .i64 (readERes a t vars funcs).1.fKind), .v (.int .i64 (readERes a t vars funcs).1.fNum), .v (.int .i64 (readERes a t vars funcs).1.fPick), .v (.int .i64 (readERes a t vars funcs).1.fCount), yg_4] (Owns.up4 z4_nw0 ⟨dnx0_nw0, z4_nx0⟩ ⟨dng_nx0, dng_nw0, z4_ng⟩ ⟨dnh_ng, dnh_nx0, dnh_nw0, z4_nh⟩ cg4.owns)) (ViewL.cons (View.same _ _) ViewL.nil)) rfl ?_
  simp (maxSteps := 1000000) -dsimp -implicitDefEqProofs only [go_sem, ↓reduceIte, keep3, ib3, mk3, Tryz.f3, Bool.true_or, Bool.or_true, Bool.false_or, Bool.or_false, protF, eq_self, decide_true, Bool.not_true, bne_self_eq_false, upd_upd, upd_get, OV.map_val, OV.map_val_nil, OV.val_v, DProgram.c_eq, DExpr.c_eq, enx0_nw0, fnx0_nw0, eng_nx0, fng_nx0, eng_nw0, fng_nw0, enh_ng, fnh_ng, enh_nx0, fnh_nx0, enh_nw0, fnh_nw0, oa0_0.flat, oa0_0.one, og_4.flat, og_4.one]
  repeat' (with_reducible first | intro _ | refine And.intro ?_ ?_)
  all_goals try (first | exact ⟨_, Heap.le_refl _, rfl⟩ | exact ⟨_, Heap.le_refl _⟩)
  all_goals try omega

end Go.Hl

/-
  Contracts of functions and laws of the layer over the walk.
-/
import Derived.Test.YtgkipnacdihfnaaGreatDoorVvC
import Derived.Test.YtgkipnacdihfnaaGreatDoorVvB
import Derived.Test.YtgkipnacdihfnaaGreatDoorVvA
namespace Go.Hl
open Go.Proofs
set_option linter.unusedVariables false
set_option linter.unusedSimpArgs false
def keep72 : List Nat := [0]
def ib72 : List Nat := []
def mk72 : Marks := fun _ => ([], .nil, [])
theorem expr1 {nb : Nat} {p : DProgram} {t : List UInt8} {s : RSt} (hd : 0 ≤ s.d ∧ s.d ≤ 63) {g : Heap} (hg : g nb = some (rdr p t s)) : HFnD Tryz.prog 72 [.ip 1 [[.op nb 5 0 0]] 0 0] g fun _ h' => h' = upd g nb (rdr p t (deeper s (-1))) := by
  have w1 : IntKind.i64.wrap (s.d - 1) = s.d + -1 := IntWalk.i64_in _ (by omega)
  unfold rdr at hg
  refine fnHD 8 keep72 ib72 mk72 mix Tryz.func72 rfl (by kernel_rfl) (by simp) ?_
  simp (maxSteps := 1000000) -dsimp -implicitDefEqProofs only [go_sem, ↓reduceIte, keep72, ib72, mk72, Tryz.f72, hg, w1]
  exact ⟨_, Heap.le_refl _, rfl⟩
def zEo : List OV := [.v (I 0), .v (I 0), .v (I 0), .v (I 0), .nil 5]
theorem zEo_o : zE.o zEo := (DExpr.o_iff _ _).2 ⟨.nil 5, rfl, OS.nil⟩
theorem zEo_sub : Sub (.agg [I 0, I 0, I 0, I 0, .nilsl]) (.agg (zEo.map OV.val)) := Sub.agg (.cons (.refl _) (.cons (.refl _) (.cons (.refl _) (.cons (.refl _) (.cons (Sub.nil 5 true) .nil)))))
theorem zEo_rows : OV.rowsRow zEo = [] := by simp only [zEo, OV.row_cons, OV.row_nil, OV.v_rows, OV.nil_rows, List.append_nil]
/-- The zero expression is handed back. -/
theorem zE_end {B H H' : Heap} {nb : Nat} {R' : HObj} (hB : B nb = none) (hl : (upd B nb R').le H) : ∃ r1 g1, Shift (.agg [I 0, I 0, I 0, I 0, .nilsl]) H r1 g1 ∧ ∃ l g', QA zE.o (fun x => x) r1 l ∧ New B l g' ∧ g' nb = none ∧ g1 = upd g' nb R' :=
  ⟨_, _, Shift.of zEo_sub hl, _, B, ⟨zEo, zEo_o, rfl, rfl⟩, by rw [zEo_rows]; exact New.nil B, hB, rfl⟩
theorem zE_endD {B H : Heap} {nb : Nat} {R' : HObj} (hB : B nb = none) (hl : (upd B nb R').le H) : ∃ g : Heap, g.le H ∧ ∃ r1 g1, Shift (.agg [I 0, I 0, I 0, I 0, .nilsl]) g r1 g1 ∧ ∃ l g', QA zE.o (fun x => x) r1 l ∧ New B l g' ∧ g' nb = none ∧ g1 = upd g' nb R' :=
  ⟨_, hl, zE_end (H' := H) hB (Heap.le_refl _)⟩
theorem Bnd.dd {D D0 : Int} {t : List UInt8} {s r : RSt} {z : Nat} (h : Bnd D t s z r) (g : Good D0 t s) (hD : D ≤ 63 := by omega) : 0 ≤ r.d ∧ r.d ≤ 63 := ⟨Int.le_trans g.d.1 h.d.2, Int.le_trans h.d.1 hD⟩
theorem ex_end {B g2 H : Heap} {nb : Nat} {e : List OV} {x : DExpr} {R' : HObj} {r : HVal} (hx : x.o e) (w : New B (OV.rowsRow e) g2) (z : g2 nb = none) (hr : Sub r (.agg (e.map OV.val))) (hle : (upd g2 nb R').le H) :
    ∃ g : Heap, g.le H ∧ ∃ r1 g1, Shift r g r1 g1 ∧ ∃ l g', QA x.o (fun x => x) r1 l ∧ New B l g' ∧ g' nb = none ∧ g1 = upd g' nb R' :=
  ⟨_, hle, _, _, Shift.of hr (Heap.le_refl _), _, g2, ⟨e, hx, rfl, rfl⟩, w, z, rfl⟩
/-- A leaf. -/
theorem leaf_o (k n : Int) : (DExpr.mk k n 0 0 []).o [.v (I k), .v (I n), .v (I 0), .v (I 0), .nil 5] := (DExpr.o_iff _ _).2 ⟨.nil 5, rfl, OS.nil⟩
theorem leaf_sub (k n : Int) : Sub (.agg [I k, I n, I 0, I 0, .nilsl]) (.agg ([.v (I k), .v (I n), .v (I 0), .v (I 0), .nil 5].map OV.val)) := Sub.agg (.cons (.refl _) (.cons (.refl _) (.cons (.refl _) (.cons (.refl _) (.cons (Sub.nil 5 true) .nil)))))
theorem leaf_rows (k n : Int) : OV.rowsRow [.v (I k), .v (I n), .v (I 0), .v (I 0), .nil 5] = [] := by simp only [OV.row_cons, OV.row_nil, OV.v_rows, OV.nil_rows, List.append_nil]
theorem leaf_end {B H : Heap} {nb : Nat} {R' : HObj} {k n : Int} (hB : B nb = none) (hle : (upd B nb R').le H) :
    ∃ g : Heap, g.le H ∧ ∃ r1 g1, Shift (.agg [I k, I n, I 0, I 0, .nilsl]) g r1 g1 ∧ ∃ l g', QA (DExpr.mk k n 0 0 []).o (fun x => x) r1 l ∧ New B l g' ∧ g' nb = none ∧ g1 = upd g' nb R' :=
  ex_end (leaf_o k n) (by rw [leaf_rows]; exact New.nil B) hB (leaf_sub k n) hle
theorem sign_ix : signB (((0 : Nat) : Int) + 3) = 43 ∧ signB (((1 : Nat) : Int) + 3) = 45 ∧ signB (((2 : Nat) : Int) + 3) = 42 ∧ signB (((3 : Nat) : Int) + 3) = 47 := by decide
theorem opI_at {t : List UInt8} {s : RSt} {j : Nat} (hj : j < 4) (hno : ∀ i : Nat, i < j → tkI t [signB ((i : Int) + 3)] s = false) (h : tkI t [signB ((j : Int) + 3)] s = true) : opI t s = (j : Int) + 3 ∧ opIs t s = s.adv 1 := by
  obtain ⟨e0, e1, e2, e3⟩ := sign_ix
  unfold opIs opI
  match j, hj with
  | 0, _ => rw [e0] at h; simp [h]
  | 1, _ => have h0 := hno 0 (by omega); rw [e0] at h0; rw [e1] at h; simp [h, h0]
  | 2, _ => have h0 := hno 0 (by omega); have h1 := hno 1 (by omega); rw [e0] at h0; rw [e1] at h1; rw [e2] at h; simp [h, h0, h1]
  | 3, _ => have h0 := hno 0 (by omega); have h1 := hno 1 (by omega); have h2 := hno 2 (by omega); rw [e0] at h0; rw [e1] at h1; rw [e2] at h2; rw [e3] at h; simp [h, h0, h1, h2]
theorem opI_none {t : List UInt8} {s : RSt} (hno : ∀ i : Nat, i < 4 → tkI t [signB ((i : Int) + 3)] s = false) : opI t s = 7 ∧ opIs t s = s := by
  obtain ⟨e0, e1, e2, e3⟩ := sign_ix
  have h0 := hno 0 (by omega); have h1 := hno 1 (by omega); have h2 := hno 2 (by omega); have h3 := hno 3 (by omega)
  rw [e0] at h0; rw [e1] at h1; rw [e2] at h2; rw [e3] at h3
  unfold opIs opI
  simp [h0, h1, h2, h3]
def keep56 : List Nat := [0, 1, 2, 3, 4, 5, 6, 7, 8, 9, 10, 28, 35, 50, 80, 86, 92, 119, 125, 131, 137]
def ib56 : List Nat := [1, 46]
def mk56 : Marks := fun id => match id with | 10 => ([3, 8], (.op 0 (.op 1 (.op 2 (.op 4 (.op 5 (.op 6 (.op 7 (.op 3 (.op 8 (.op 9 (.op 10 .nil))))))))))), []) | 12 => ([0, 1, 4, 11], (.op 0 (.op 1 (.op 2 (.op 3 (.op 4 (.op 5 (.op 6 (.op 7 (.op 8 (.op 9 (.op 10 (.op 11 .nil)))))))))))), []) | 25 => ([0, 1, 4, 11], (.op 0 (.op 1 (.op 2 (.op 3 (.op 4 (.op 5 (.op 6 (.op 7 (.op 8 (.op 9 (.op 10 (.op 11 .nil)))))))))))), []) | 35 => ([0, 1, 4, 11], (.op 0 (.op 1 (.op 2 (.op 3 (.op 4 (.op 5 (.op 6 (.op 7 (.op 8 (.op 9 (.op 10 (.op 11 .nil)))))))))))), []) | _ => ([], .nil, [])
set_option maxRecDepth 100000 in
set_option maxHeartbeats 1000000 in
theorem exprIH_step {nb : Nat} {p : DProgram} {t : List UInt8} (ht : t.length ≤ 1048600) (hps : p.s ≤ 4194304) {k : Nat}
    {s : RSt} (ih : ¬ (s.b = true ∨ 60 < s.d + 1) → ∀ s, Good 62 t s → (s.b = false → 60 ≤ s.d + k) → BX Tryz.prog 56 [.op nb 5 0 0] nb (rdr p t s) (rdr p t (exI p t k s).2) (QA (exI p t k s).1.o)) (g0 : Good 62 t s) (hf : s.b = false → 60 ≤ s.d + k + 1) :
    BX Tryz.prog 56 [.op nb 5 0 0] nb (rdr p t s) (rdr p t (exI p t (k + 1) s).2) (QA (exI p t (k + 1) s).1.o) := by
  intro B hB
  have hd := g0.d
  have w1 : IntKind.i64.wrap (s.d + 1) = s.d + 1 := IntWalk.i64_in _ (by omega)
  refine fnDK 161 keep56 ib56 mk56 mix Tryz.func56 rfl (by kernel_rfl) (by simp) ?_
  simp (maxSteps := 1000000) -dsimp -implicitDefEqProofs only [go_sem, ↓reduceIte, keep56, ib56, mk56, Tryz.f56, rdr, w1]
  intro n2 q2
  have d_n2_nb : ¬ n2 = nb := q2.1
  have d_nb_n2 : ¬ nb = n2 := Ne.symm d_n2_nb
  have e_n2_nb : (n2 = nb) = False := eq_false d_n2_nb
  have e_nb_n2 : (nb = n2) = False := eq_false d_nb_n2
  have q2n : B n2 = none := q2.2
  simp (maxSteps := 1000000) -dsimp -implicitDefEqProofs only [go_sem, ↓reduceIte, keep56, ib56, mk56, Tryz.f56, e_n2_nb, e_nb_n2, upd_ne, upd_get, upd_swap d_nb_n2, upd_upd, w1]
  by_cases hq : s.b = true ∨ 60 < s.d + 1
  · rw [exI, if_pos hq]
    have hle : ∀ R' Z, (upd B nb R').le (upd (upd B n2 Z) nb R') := fun R' Z => Heap.le_both ((le_upd q2n).2 (Heap.le_refl _))
    refine ⟨fun hb => ⟨fun _ => zE_endD hB (hle _ _), fun hn => absurd hq (by rw [hb]; simp; omega)⟩, fun hb => zE_endD hB (hle _ _)⟩
  · have hb : s.b = false := by simpa using fun e => hq (.inl e)
    have hd1 : s.d + 1 ≤ 60 := by have : ¬ 60 < s.d + 1 := fun e => hq (.inr e); omega
    rw [exI, if_neg hq]
    have ih := ih hq
    refine ⟨fun _ => ⟨fun h6 => absurd h6 (by omega), fun _ => ?_⟩, fun q => absurd (q.symm.trans hb) (by simp)⟩
    have g1 : Good 62 t (deeper s 1) := ⟨g0.hi, ⟨by show 0 ≤ s.d + 1; omega, by show s.d + 1 ≤ 62; omega⟩, g0.n, fun _ => hd1, fun _ => g0.nn hb⟩
    have hR : (HObj.row 5 [[.v (sls 3 DFunc.c p.fFuncs), .v (.str t), .v (I s.i), .v (.bool s.b), .v (I (s.d + 1))]]) = rdr p t (deeper s 1) := rfl
    rw [hR]
    have hb1 : (deeper s 1).b = false := hb
    have hd2 : (deeper s 1).d = s.d + 1 := rfl
    have hf2 : ∀ s' : RSt, (s'.b = false → s'.d = s.d + 1) → (s'.b = false → 60 ≤ s'.d + k) := fun s' h q => by rw [h q]; have := hf hb; omega
    have hex := exI_b p t k
    generalize deeper s 1 = s1 at *
    refine HFnF.mkH (takeI ht [40] (by simp) g1.le (upd_same ..)) ?_
    rintro r_ h' ⟨rfl, rfl⟩
    rw [upd_upd]
    unfold innerI
    cases hk : tkI t [40] s1
    · simp (maxSteps := 1000000) -dsimp -implicitDefEqProofs only [go_sem, ↓reduceIte, keep56, ib56, mk56, Tryz.f56, Bool.false_eq_true]
      refine HFnF.mkH (runI ht g1.le (upd_same ..)) ?_
      rintro r_ h' ⟨rfl, rfl⟩
      rw [upd_upd]
      have hle : ∀ R' Z, (upd B nb R').le (upd (upd B n2 Z) nb R') := fun R' Z => Heap.le_both ((le_upd q2n).2 (Heap.le_refl _))
      have bw := Bnd.adv g1 (wordAt_len g1.hi)
      have gw := bw.good g1
      have hwl := wordAt_len g1.hi
      generalize wordAt t s1.i = w at *
      cases w with
      | nil =>
        rw [if_neg (by simp), if_pos rfl]
        simp (maxSteps := 1000000) -dsimp -implicitDefEqProofs only [go_sem, ↓reduceIte, keep56, ib56, mk56, Tryz.f56, e_n2_nb, e_nb_n2, upd_ne, upd_get, upd_swap d_nb_n2, upd_upd, rdr]
        refine HFnDF.mk (expr1 (s := s1.fail) ((Bnd.self g1).failed.dd g1) (upd_same ..)) ?_
        rintro r_ h' rfl
        rw [upd_upd]
        simp (maxSteps := 1000000) -dsimp -implicitDefEqProofs only [go_sem, ↓reduceIte, keep56, ib56, mk56, Tryz.f56, e_n2_nb, e_nb_n2, upd_ne, upd_get]
        exact zE_endD hB (hle _ _)
      | cons c w =>
        rw [if_neg (by simp), if_neg (by simp)]
        simp (maxSteps := 1000000) -dsimp -implicitDefEqProofs only [go_sem, ↓reduceIte, keep56, ib56, mk56, Tryz.f56, List.cons_ne_nil, decide_false]
        refine HFnF.mkH (takeI ht [46] (by simp) gw.le (upd_same ..)) ?_
        rintro r_ h' ⟨rfl, rfl⟩
        rw [upd_upd]
        have hdw : (s1.adv (c :: w).length).b = false → (s1.adv (c :: w).length).d = s.d + 1 := fun _ => hd2
        cases hk2 : tkI t [46] (s1.adv (c :: w).length)
        · rw [if_neg (by simp)]
          by_cases hdg : 48 ≤ c.toNat ∧ c.toNat ≤ 57
          · have hN : wordI (exI p t k) t (c :: w) (s1.adv (c :: w).length) = (.mk 1 (rdN (c :: w)) 0 0 [], (s1.adv (c :: w).length).orB (!decide (rdOK 1000002 (c :: w)))) := by
              rw [wordI, if_pos (by simp [digB, hdg.1, hdg.2])]
            rw [hN]
            simp (maxSteps := 1000000) -dsimp -implicitDefEqProofs only [go_sem, ↓reduceIte, keep56, ib56, mk56, Tryz.f56, Bool.false_eq_true, List.getElem?_cons_zero, Int.toNat_zero]
            refine ⟨fun _ => ⟨fun _ => ?_, fun q => absurd q (by omega)⟩, fun q => absurd q (by omega)⟩
            first | refine HFnF.mk (readDecimal (c :: w) 1000002 (by omega) (by omega)) ?_ | refine CallSF.mk (readDecimal (c :: w) 1000002 (by omega) (by omega)) ?_ | refine HFnF.mkAt (readDecimal (c :: w) 1000002 (by omega) (by omega)) ?_ | refine CallSF.mk (FnAt.fn0 (readDecimal (c :: w) 1000002 (by omega) (by omega))) ?_
            simp (maxSteps := 1000000) -dsimp -implicitDefEqProofs only [go_sem, ↓reduceIte, keep56, ib56, mk56, Tryz.f56, e_n2_nb, e_nb_n2, upd_ne, upd_get, upd_swap d_nb_n2, upd_upd, rdr, Option.toArray_none, Option.toArray_some, List.filterMap_cons, List.filterMap_nil, List.elem_cons_self, List.nil_append, List.append_nil, List.toList_toArray]
            refine ⟨fun _ => ?_, fun q => absurd (q.symm.trans hb1) (by simp)⟩
            have hR : (HObj.row 5 [[.v (sls 3 DFunc.c p.fFuncs), .v (.str t), .v (I (s1.adv (w.length + 1)).i), .v (.bool (!decide (rdOK 1000002 (c :: w)))), .v (I (s1.adv (w.length + 1)).d)]]) = rdr p t ((s1.adv (w.length + 1)).orB (!decide (rdOK 1000002 (c :: w)))) := by simp [rdr, RSt.orB, RSt.adv, hb1]
            rw [hR]
            refine HFnDF.mk (expr1 (s := (s1.adv (w.length + 1)).orB (!decide (rdOK 1000002 (c :: w)))) ((bw.or _).dd g1) (upd_same ..)) ?_
            rintro r_ h' rfl
            rw [upd_upd]
            simp (maxSteps := 1000000) -dsimp -implicitDefEqProofs only [go_sem, ↓reduceIte, keep56, ib56, mk56, Tryz.f56, e_n2_nb, e_nb_n2, upd_ne, upd_get]
            exact leaf_end hB (hle _ _)
          · have hnd : ¬ digB ((c :: w).headD 0) = true := by simpa [digB] using hdg
            simp (maxSteps := 1000000) -dsimp -implicitDefEqProofs only [go_sem, ↓reduceIte, keep56, ib56, mk56, Tryz.f56, Bool.false_eq_true, List.getElem?_cons_zero, Int.toNat_zero]
            refine ⟨fun q1 => ⟨fun q2 => absurd (And.intro q1 q2) (by omega), fun q2 => ?_⟩, fun q1 => ?_⟩
            · refine ⟨fun h7 => ?_, fun h7 => ⟨fun h8 => ?_, fun h8 => ⟨fun h9 => ?_, fun h9 => ⟨fun hx => ?_, fun hx => ?_⟩⟩⟩⟩
              · rw [wordI, if_neg hnd, if_pos (show c :: w = neg3 from h7)]
                refine HFnF.mkH (listIH (s := s1.adv (c :: w).length) ht hex (D := s.d + 1) (fun s' g h => ih s' g (hf2 s' h)) gw hdw _ (by rw [upd_ne _ _ _ _ d_nb_n2]; exact hB)) ?_
                rintro r_ h' ⟨l, g9, ⟨y, oy, rfl, rfl⟩, w9, z9, rfl⟩
                obtain ⟨g8, rfl, w8, z82⟩ := New.under q2n w9
                have z8b : g8 nb = none := by rwa [upd_ne _ _ _ _ d_nb_n2] at z9
                simp (maxSteps := 1000000) -dsimp -implicitDefEqProofs only [go_sem, ↓reduceIte, keep56, ib56, mk56, Tryz.f56, e_n2_nb, e_nb_n2, upd_ne, upd_get, upd_swap d_nb_n2, upd_upd, oy.flat, oy.one]
                refine HFnDF.mk (expr1 (s := (listI (exI p t k) t (s1.adv (c :: w).length)).2) ((bw.trans (listI_b hex gw)).dd g1) (upd_same ..)) ?_
                rintro r_ h' rfl
                rw [upd_upd]
                simp (maxSteps := 1000000) -dsimp -implicitDefEqProofs only [go_sem, ↓reduceIte, keep56, ib56, mk56, Tryz.f56, e_n2_nb, e_nb_n2, upd_ne, upd_get]
                exact ex_end (e := [.v (I 7), .v (I 0), .v (I 0), .v (I 0), y]) ((DExpr.o_iff _ _).2 ⟨y, rfl, oy⟩) (by simpa only [OV.row_cons, OV.row_nil, OV.v_rows, List.nil_append, List.append_nil] using w8) z8b (Sub.refl _) (Heap.le_both ((le_upd z82).2 (Heap.le_refl _)))
              · rw [wordI, if_neg hnd, if_neg (show ¬ c :: w = neg3 from h7), if_pos (show c :: w = if2 from h8)]
                refine HFnF.mkH (listIH (s := s1.adv (c :: w).length) ht hex (D := s.d + 1) (fun s' g h => ih s' g (hf2 s' h)) gw hdw _ (by rw [upd_ne _ _ _ _ d_nb_n2]; exact hB)) ?_
                rintro r_ h' ⟨l, g9, ⟨y, oy, rfl, rfl⟩, w9, z9, rfl⟩
                obtain ⟨g8, rfl, w8, z82⟩ := New.under q2n w9
                have z8b : g8 nb = none := by rwa [upd_ne _ _ _ _ d_nb_n2] at z9
                simp (maxSteps := 1000000) -dsimp -implicitDefEqProofs only [go_sem, ↓reduceIte, keep56, ib56, mk56, Tryz.f56, e_n2_nb, e_nb_n2, upd_ne, upd_get, upd_swap d_nb_n2, upd_upd, oy.flat, oy.one]
                refine HFnDF.mk (expr1 (s := (listI (exI p t k) t (s1.adv (c :: w).length)).2) ((bw.trans (listI_b hex gw)).dd g1) (upd_same ..)) ?_
                rintro r_ h' rfl
                rw [upd_upd]
                simp (maxSteps := 1000000) -dsimp -implicitDefEqProofs only [go_sem, ↓reduceIte, keep56, ib56, mk56, Tryz.f56, e_n2_nb, e_nb_n2, upd_ne, upd_get]
                exact ex_end (e := [.v (I 8), .v (I 0), .v (I 0), .v (I 0), y]) ((DExpr.o_iff _ _).2 ⟨y, rfl, oy⟩) (by simpa only [OV.row_cons, OV.row_nil, OV.v_rows, List.nil_append, List.append_nil] using w8) z8b (Sub.refl _) (Heap.le_both ((le_upd z82).2 (Heap.le_refl _)))
              · rw [wordI, if_neg hnd, if_neg (show ¬ c :: w = neg3 from h7), if_neg (show ¬ c :: w = if2 from h8), if_pos (show c :: w = let3 from h9)]
                refine HFnF.mkH (listIH (s := s1.adv (c :: w).length) ht hex (D := s.d + 1) (fun s' g h => ih s' g (hf2 s' h)) gw hdw _ (by rw [upd_ne _ _ _ _ d_nb_n2]; exact hB)) ?_
                rintro r_ h' ⟨l, g9, ⟨y, oy, rfl, rfl⟩, w9, z9, rfl⟩
                obtain ⟨g8, rfl, w8, z82⟩ := New.under q2n w9
                have z8b : g8 nb = none := by rwa [upd_ne _ _ _ _ d_nb_n2] at z9
                simp (maxSteps := 1000000) -dsimp -implicitDefEqProofs only [go_sem, ↓reduceIte, keep56, ib56, mk56, Tryz.f56, e_n2_nb, e_nb_n2, upd_ne, upd_get, upd_swap d_nb_n2, upd_upd, oy.flat, oy.one]
                refine HFnDF.mk (expr1 (s := (listI (exI p t k) t (s1.adv (c :: w).length)).2) ((bw.trans (listI_b hex gw)).dd g1) (upd_same ..)) ?_
                rintro r_ h' rfl
                rw [upd_upd]
                simp (maxSteps := 1000000) -dsimp -implicitDefEqProofs only [go_sem, ↓reduceIte, keep56, ib56, mk56, Tryz.f56, e_n2_nb, e_nb_n2, upd_ne, upd_get]
                exact ex_end (e := [.v (I 9), .v (I 0), .v (I 0), .v (I 0), y]) ((DExpr.o_iff _ _).2 ⟨y, rfl, oy⟩) (by simpa only [OV.row_cons, OV.row_nil, OV.v_rows, List.nil_append, List.append_nil] using w8) z8b (Sub.refl _) (Heap.le_both ((le_upd z82).2 (Heap.le_refl _)))
              · have hcx : (c :: w).headD 0 = 120 := by show c = 120; exact UInt8.toNat_inj.1 (by have : (c.toNat : Int) = 120 := hx; show c.toNat = 120; omega)
                rw [wordI, if_neg hnd, if_neg (show ¬ c :: w = neg3 from h7), if_neg (show ¬ c :: w = if2 from h8), if_neg (show ¬ c :: w = let3 from h9), if_pos hcx]
                refine ⟨by omega, Nat.le_refl _, ?_⟩
                rw [show List.drop (Int.toNat 1) (c :: List.take w.length w) = w by simp]
                have hwl2 : w.length ≤ 1048600 := by simp only [List.length_cons] at hwl; omega
                first | refine HFnF.mk (readDecimal w 812 hwl2 (by omega)) ?_ | refine CallSF.mk (readDecimal w 812 hwl2 (by omega)) ?_ | refine HFnF.mkAt (readDecimal w 812 hwl2 (by omega)) ?_ | refine CallSF.mk (FnAt.fn0 (readDecimal w 812 hwl2 (by omega))) ?_
                simp (maxSteps := 1000000) -dsimp -implicitDefEqProofs only [go_sem, ↓reduceIte, keep56, ib56, mk56, Tryz.f56, e_n2_nb, e_nb_n2, upd_ne, upd_get, upd_swap d_nb_n2, upd_upd, rdr, Option.toArray_none, Option.toArray_some, List.filterMap_cons, List.filterMap_nil, List.elem_cons_self, List.nil_append, List.append_nil, List.toList_toArray]
                refine ⟨fun _ => ?_, fun q => absurd (q.symm.trans hb1) (by simp)⟩
                have hR : (HObj.row 5 [[.v (sls 3 DFunc.c p.fFuncs), .v (.str t), .v (I (s1.adv (w.length + 1)).i), .v (.bool (!decide (rdOK 812 w))), .v (I (s1.adv (w.length + 1)).d)]]) = rdr p t ((s1.adv (w.length + 1)).orB (!decide (rdOK 812 w))) := by simp [rdr, RSt.orB, RSt.adv, hb1]
                rw [hR]
                refine HFnDF.mk (expr1 (s := (s1.adv (w.length + 1)).orB (!decide (rdOK 812 w))) ((bw.or _).dd g1) (upd_same ..)) ?_
                rintro r_ h' rfl
                rw [upd_upd]
                simp (maxSteps := 1000000) -dsimp -implicitDefEqProofs only [go_sem, ↓reduceIte, keep56, ib56, mk56, Tryz.f56, e_n2_nb, e_nb_n2, upd_ne, upd_get]
                exact leaf_end hB (hle _ _)
              · have hcx : ¬ (c :: w).headD 0 = 120 := fun e => hx (by have e : c = 120 := e; rw [e]; rfl)
                rw [wordI, if_neg hnd, if_neg (show ¬ c :: w = neg3 from h7), if_neg (show ¬ c :: w = if2 from h8), if_neg (show ¬ c :: w = let3 from h9), if_neg hcx]
                simp (maxSteps := 1000000) -dsimp -implicitDefEqProofs only [go_sem, ↓reduceIte, keep56, ib56, mk56, Tryz.f56, e_n2_nb, e_nb_n2, upd_ne, upd_get, upd_swap d_nb_n2, upd_upd, rdr]
                refine HFnDF.mk (expr1 (s := (s1.adv (c :: w).length).fail) (bw.failed.dd g1) (upd_same ..)) ?_
                rintro r_ h' rfl
                rw [upd_upd]
                simp (maxSteps := 1000000) -dsimp -implicitDefEqProofs only [go_sem, ↓reduceIte, keep56, ib56, mk56, Tryz.f56, e_n2_nb, e_nb_n2, upd_ne, upd_get]
                exact zE_endD hB (hle _ _)
            · refine ⟨fun h7 => ?_, fun h7 => ⟨fun h8 => ?_, fun h8 => ⟨fun h9 => ?_, fun h9 => ⟨fun hx => ?_, fun hx => ?_⟩⟩⟩⟩
              · rw [wordI, if_neg hnd, if_pos (show c :: w = neg3 from h7)]
                refine HFnF.mkH (listIH (s := s1.adv (c :: w).length) ht hex (D := s.d + 1) (fun s' g h => ih s' g (hf2 s' h)) gw hdw _ (by rw [upd_ne _ _ _ _ d_nb_n2]; exact hB)) ?_
                rintro r_ h' ⟨l, g9, ⟨y, oy, rfl, rfl⟩, w9, z9, rfl⟩
                obtain ⟨g8, rfl, w8, z82⟩ := New.under q2n w9
                have z8b : g8 nb = none := by rwa [upd_ne _ _ _ _ d_nb_n2] at z9
                simp (maxSteps := 1000000) -dsimp -implicitDefEqProofs only [go_sem, ↓reduceIte, keep56, ib56, mk56, Tryz.f56, e_n2_nb, e_nb_n2, upd_ne, upd_get, upd_swap d_nb_n2, upd_upd, oy.flat, oy.one]
                refine HFnDF.mk (expr1 (s := (listI (exI p t k) t (s1.adv (c :: w).length)).2) ((bw.trans (listI_b hex gw)).dd g1) (upd_same ..)) ?_
                rintro r_ h' rfl
                rw [upd_upd]
                simp (maxSteps := 1000000) -dsimp -implicitDefEqProofs only [go_sem, ↓reduceIte, keep56, ib56, mk56, Tryz.f56, e_n2_nb, e_nb_n2, upd_ne, upd_get]
                exact ex_end (e := [.v (I 7), .v (I 0), .v (I 0), .v (I 0), y]) ((DExpr.o_iff _ _).2 ⟨y, rfl, oy⟩) (by simpa only [OV.row_cons, OV.row_nil, OV.v_rows, List.nil_append, List.append_nil] using w8) z8b (Sub.refl _) (Heap.le_both ((le_upd z82).2 (Heap.le_refl _)))
              · rw [wordI, if_neg hnd, if_neg (show ¬ c :: w = neg3 from h7), if_pos (show c :: w = if2 from h8)]
                refine HFnF.mkH (listIH (s := s1.adv (c :: w).length) ht hex (D := s.d + 1) (fun s' g h => ih s' g (hf2 s' h)) gw hdw _ (by rw [upd_ne _ _ _ _ d_nb_n2]; exact hB)) ?_
                rintro r_ h' ⟨l, g9, ⟨y, oy, rfl, rfl⟩, w9, z9, rfl⟩
                obtain ⟨g8, rfl, w8, z82⟩ := New.under q2n w9
                have z8b : g8 nb = none := by rwa [upd_ne _ _ _ _ d_nb_n2] at z9
                simp (maxSteps := 1000000) -dsimp -implicitDefEqProofs only [go_sem, ↓reduceIte, keep56, ib56, mk56, Tryz.f56, e_n2_nb, e_nb_n2, upd_ne, upd_get, upd_swap d_nb_n2, upd_upd, oy.flat, oy.one]
                refine HFnDF.mk (expr1 (s := (listI (exI p t k) t (s1.adv (c :: w).length)).2) ((bw.trans (listI_b hex gw)).dd g1) (upd_same ..)) ?_
                rintro r_ h' rfl
                rw [upd_upd]
                simp (maxSteps := 1000000) -dsimp -implicitDefEqProofs only [go_sem, ↓reduceIte, keep56, ib56, mk56, Tryz.f56, e_n2_nb, e_nb_n2, upd_ne, upd_get]
                exact ex_end (e := [.v (I 8), .v (I 0), .v (I 0), .v (I 0), y]) ((DExpr.o_iff _ _).2 ⟨y, rfl, oy⟩) (by simpa only [OV.row_cons, OV.row_nil, OV.v_rows, List.nil_append, List.append_nil] using w8) z8b (Sub.refl _) (Heap.le_both ((le_upd z82).2 (Heap.le_refl _)))
              · rw [wordI, if_neg hnd, if_neg (show ¬ c :: w = neg3 from h7), if_neg (show ¬ c :: w = if2 from h8), if_pos (show c :: w = let3 from h9)]
                refine HFnF.mkH (listIH (s := s1.adv (c :: w).length) ht hex (D := s.d + 1) (fun s' g h => ih s' g (hf2 s' h)) gw hdw _ (by rw [upd_ne _ _ _ _ d_nb_n2]; exact hB)) ?_
                rintro r_ h' ⟨l, g9, ⟨y, oy, rfl, rfl⟩, w9, z9, rfl⟩
                obtain ⟨g8, rfl, w8, z82⟩ := New.under q2n w9
                have z8b : g8 nb = none := by rwa [upd_ne _ _ _ _ d_nb_n2] at z9
                simp (maxSteps := 1000000) -dsimp -implicitDefEqProofs only [go_sem, ↓reduceIte, keep56, ib56, mk56, Tryz.f56, e_n2_nb, e_nb_n2, upd_ne, upd_get, upd_swap d_nb_n2, upd_upd, oy.flat, oy.one]
                refine HFnDF.mk (expr1 (s := (listI (exI p t k) t (s1.adv (c :: w).length)).2) ((bw.trans (listI_b hex gw)).dd g1) (upd_same ..)) ?_
                rintro r_ h' rfl
                rw [upd_upd]
                simp (maxSteps := 1000000) -dsimp -implicitDefEqProofs only [go_sem, ↓reduceIte, keep56, ib56, mk56, Tryz.f56, e_n2_nb, e_nb_n2, upd_ne, upd_get]
                exact ex_end (e := [.v (I 9), .v (I 0), .v (I 0), .v (I 0), y]) ((DExpr.o_iff _ _).2 ⟨y, rfl, oy⟩) (by simpa only [OV.row_cons, OV.row_nil, OV.v_rows, List.nil_append, List.append_nil] using w8) z8b (Sub.refl _) (Heap.le_both ((le_upd z82).2 (Heap.le_refl _)))
              · have hcx : (c :: w).headD 0 = 120 := by show c = 120; exact UInt8.toNat_inj.1 (by have : (c.toNat : Int) = 120 := hx; show c.toNat = 120; omega)
                rw [wordI, if_neg hnd, if_neg (show ¬ c :: w = neg3 from h7), if_neg (show ¬ c :: w = if2 from h8), if_neg (show ¬ c :: w = let3 from h9), if_pos hcx]
                refine ⟨by omega, Nat.le_refl _, ?_⟩
                rw [show List.drop (Int.toNat 1) (c :: List.take w.length w) = w by simp]
                have hwl2 : w.length ≤ 1048600 := by simp only [List.length_cons] at hwl; omega
                first | refine HFnF.mk (readDecimal w 812 hwl2 (by omega)) ?_ | refine CallSF.mk (readDecimal w 812 hwl2 (by omega)) ?_ | refine HFnF.mkAt (readDecimal w 812 hwl2 (by omega)) ?_ | refine CallSF.mk (FnAt.fn0 (readDecimal w 812 hwl2 (by omega))) ?_
                simp (maxSteps := 1000000) -dsimp -implicitDefEqProofs only [go_sem, ↓reduceIte, keep56, ib56, mk56, Tryz.f56, e_n2_nb, e_nb_n2, upd_ne, upd_get, upd_swap d_nb_n2, upd_upd, rdr, Option.toArray_none, Option.toArray_some, List.filterMap_cons, List.filterMap_nil, List.elem_cons_self, List.nil_append, List.append_nil, List.toList_toArray]
                refine ⟨fun _ => ?_, fun q => absurd (q.symm.trans hb1) (by simp)⟩
                have hR : (HObj.row 5 [[.v (sls 3 DFunc.c p.fFuncs), .v (.str t), .v (I (s1.adv (w.length + 1)).i), .v (.bool (!decide (rdOK 812 w))), .v (I (s1.adv (w.length + 1)).d)]]) = rdr p t ((s1.adv (w.length + 1)).orB (!decide (rdOK 812 w))) := by simp [rdr, RSt.orB, RSt.adv, hb1]
                rw [hR]
                refine HFnDF.mk (expr1 (s := (s1.adv (w.length + 1)).orB (!decide (rdOK 812 w))) ((bw.or _).dd g1) (upd_same ..)) ?_
                rintro r_ h' rfl
                rw [upd_upd]
                simp (maxSteps := 1000000) -dsimp -implicitDefEqProofs only [go_sem, ↓reduceIte, keep56, ib56, mk56, Tryz.f56, e_n2_nb, e_nb_n2, upd_ne, upd_get]
                exact leaf_end hB (hle _ _)
              · have hcx : ¬ (c :: w).headD 0 = 120 := fun e => hx (by have e : c = 120 := e; rw [e]; rfl)
                rw [wordI, if_neg hnd, if_neg (show ¬ c :: w = neg3 from h7), if_neg (show ¬ c :: w = if2 from h8), if_neg (show ¬ c :: w = let3 from h9), if_neg hcx]
                simp (maxSteps := 1000000) -dsimp -implicitDefEqProofs only [go_sem, ↓reduceIte, keep56, ib56, mk56, Tryz.f56, e_n2_nb, e_nb_n2, upd_ne, upd_get, upd_swap d_nb_n2, upd_upd, rdr]
                refine HFnDF.mk (expr1 (s := (s1.adv (c :: w).length).fail) (bw.failed.dd g1) (upd_same ..)) ?_
                rintro r_ h' rfl
                rw [upd_upd]
                simp (maxSteps := 1000000) -dsimp -implicitDefEqProofs only [go_sem, ↓reduceIte, keep56, ib56, mk56, Tryz.f56, e_n2_nb, e_nb_n2, upd_ne, upd_get]
                exact zE_endD hB (hle _ _)
        · have bw2 := bw.trans (Bnd.adv gw (tkI_len1 gw hk2))
          have gw2 := bw2.good g1
          simp (maxSteps := 1000000) -dsimp -implicitDefEqProofs only [go_sem, ↓reduceIte, keep56, ib56, mk56, Tryz.f56]
          refine HFnF.mkH (callIH (s := (s1.adv (c :: w).length).adv 1) ht hps hex (D := s.d + 1) (fun s' g h => ih s' g (hf2 s' h)) (c :: w) gw2 (fun _ => hd2) _ (by rw [upd_ne _ _ _ _ d_nb_n2]; exact hB)) ?_
          rintro r_ h' ⟨l, g9, ⟨e, oe, rfl, rfl⟩, w9, z9, rfl⟩
          obtain ⟨g8, rfl, w8, z82⟩ := New.under q2n w9
          have z8b : g8 nb = none := by rwa [upd_ne _ _ _ _ d_nb_n2] at z9
          have bfin := (bw2.trans (callI_b (p := p) (name := c :: w) hex gw2)).dd g1
          generalize callI (exI p t k) p t (c :: w) ((s1.adv (c :: w).length).adv 1) = R at *
          have oe1 := oe
          rw [DExpr.o_iff] at oe1
          obtain ⟨y4, rfl, os4⟩ := oe1
          simp (maxSteps := 1000000) -dsimp -implicitDefEqProofs only [go_sem, ↓reduceIte, keep56, ib56, mk56, Tryz.f56, e_n2_nb, e_nb_n2, upd_ne, upd_get, upd_swap d_nb_n2, upd_upd, OV.map_val, OV.map_val_nil, OV.val_v, os4.flat, os4.one]
          refine HFnDF.mk (expr1 (s := R.2) (bfin) (upd_same ..)) ?_
          rintro r_ h' rfl
          rw [upd_upd]
          simp (maxSteps := 1000000) -dsimp -implicitDefEqProofs only [go_sem, ↓reduceIte, keep56, ib56, mk56, Tryz.f56, e_n2_nb, e_nb_n2, upd_ne, upd_get]
          exact ex_end oe w8 z8b (Sub.refl _) (Heap.le_both ((le_upd z82).2 (Heap.le_refl _)))
    · simp (maxSteps := 1000000) -dsimp -implicitDefEqProofs only [go_sem, ↓reduceIte, keep56, ib56, mk56, Tryz.f56]
      rw [if_pos rfl]
      have ba := Bnd.adv g1 (tkI_len1 g1 hk)
      have ga := ba.good g1
      refine HFnF.mkH (ih (s1.adv 1) ga (hf2 _ fun _ => hd2) _ (by rw [upd_ne _ _ _ _ d_nb_n2]; exact hB)) ?_
      rintro r_ h' ⟨l, g9, ⟨ea, oa, rfl, rfl⟩, w9, z9, rfl⟩
      obtain ⟨g8, rfl, w8, z82⟩ := New.under q2n w9
      have z8b : g8 nb = none := by rwa [upd_ne _ _ _ _ d_nb_n2] at z9
      have b2 := ba.trans (hex.ok ga hb1)
      have g2 := b2.good g1
      have b3 := b2.trans (wantI_b (x := [32]) g2)
      have g3 := b3.good g1
      have b4 := (b3.trans (opIs_b g3)).or (decide (opI t (wantI t [32] (exI p t k (s1.adv 1)).2) = 7))
      have g4 := b4.good g1
      have b5 := b4.trans (wantI_b (x := [32]) g4)
      have g5 := b5.good g1
      have b6 := b5.trans ((hex _ g5).le (D' := 63) (Nat.le_refl _) (by split <;> omega))
      have b7 := b6.trans (wantI_b (x := [41]) (b6.good g1))
      unfold binI binI1 binI2
      generalize hra : exI p t k (s1.adv 1) = ra at *
      obtain ⟨a, s2⟩ := ra
      simp only at oa b2 g2 b3 g3 b4 g4 b5 g5 b6 b7 ⊢
      have oa1 := oa
      rw [DExpr.o_iff] at oa1
      obtain ⟨ya, rfl, osa⟩ := oa1
      simp (maxSteps := 1000000) -dsimp -implicitDefEqProofs only [go_sem, ↓reduceIte, keep56, ib56, mk56, Tryz.f56, e_n2_nb, e_nb_n2, upd_ne, upd_get, upd_swap d_nb_n2, upd_upd, OV.map_val, OV.map_val_nil, OV.val_v, osa.flat, osa.one]
      intro n3 q3
      have a3 : ¬ n3 = nb := by grind
      have b3n : ¬ n3 = n2 := by grind
      have z83 : g8 n3 = none := by grind
      have d_n3_nb : ¬ n3 = nb := a3
      have d_nb_n3 : ¬ nb = n3 := Ne.symm d_n3_nb
      have e_n3_nb : (n3 = nb) = False := eq_false d_n3_nb
      have e_nb_n3 : (nb = n3) = False := eq_false d_nb_n3
      have d_n3_n2 : ¬ n3 = n2 := b3n
      have d_n2_n3 : ¬ n2 = n3 := Ne.symm d_n3_n2
      have e_n3_n2 : (n3 = n2) = False := eq_false d_n3_n2
      have e_n2_n3 : (n2 = n3) = False := eq_false d_n2_n3
      rw [upd_swap d_nb_n3]
      refine HFnF.mkH (wantIH ht [32] (by simp) g2.le (upd_same ..)) ?_
      rintro r_ h' ⟨rfl, rfl⟩
      rw [upd_upd]
      generalize wantI t [32] s2 = s3 at *
      simp (maxSteps := 1000000) -dsimp -implicitDefEqProofs only [go_sem, ↓reduceIte, keep56, ib56, mk56, Tryz.f56, e_n2_nb, e_n2_n3, e_nb_n2, e_nb_n3, e_n3_n2, e_n3_nb, upd_ne, upd_get, upd_swap d_nb_n2, upd_swap d_nb_n3, upd_upd]
      refine loopF (keep := keep56) (ib := ib56) (mk := mk56) mix (by kernel_rfl) (fun j : Nat => [(1, .ip 1 [[.op nb 5 0 0]] 0 0), (2, .op n2 5 0 0), (3, .op n3 5 0 0), (4, I ((j : Int) + 3))]) (fun _ => upd (upd (upd g8 n2 (.row 5 [[.v (I 0), .v (I 0), .v (I 0), .v (I 0), .v .nilsl]])) n3 (.row 5 [[.v (I a.fKind), .v (I a.fNum), .v (I a.fPick), .v (I a.fCount), .v ya.val]])) nb (rdr p t s3)) (fun j => j ≤ 4 ∧ ∀ i : Nat, i < j → tkI t [signB ((i : Int) + 3)] s3 = false) (fun j => 4 - j) 0 ⟨by simp [SatL, tget], Heap.le_refl _, by omega, fun i h => by omega⟩ ?_
      intro j ⟨hj, hno⟩
      rcases Nat.lt_or_ge j 4 with hlt | hge
      · have hsg := signI ((j : Int) + 3) (by omega)
        simp (maxSteps := 1000000) -dsimp -implicitDefEqProofs only [go_sem, ↓reduceIte, keep56, ib56, mk56, Tryz.f56, e_n2_nb, e_n2_n3, e_nb_n2, e_nb_n3, e_n3_n2, e_n3_nb, upd_ne, upd_get, upd_swap d_nb_n2, upd_swap d_nb_n3, upd_upd]
        refine ⟨fun _ => ?_, fun q => absurd (show (j : Int) + 3 ≤ 6 by omega) q⟩
        first | refine HFnF.mk (hsg) ?_ | refine CallSF.mk (hsg) ?_ | refine HFnF.mkAt (hsg) ?_ | refine CallSF.mk (FnAt.fn0 (hsg)) ?_
        simp (maxSteps := 1000000) -dsimp -implicitDefEqProofs only [go_sem, ↓reduceIte, keep56, ib56, mk56, Tryz.f56, e_n2_nb, e_n2_n3, e_nb_n2, e_nb_n3, e_n3_n2, e_n3_nb, upd_ne, upd_get, upd_swap d_nb_n2, upd_swap d_nb_n3, upd_upd, Option.toArray_none, Option.toArray_some, List.filterMap_cons, List.filterMap_nil, List.elem_cons_self, List.nil_append, List.append_nil, List.toList_toArray]
        refine ⟨by decide, by decide, ?_⟩
        rw [UInt8.ofNat_toNat]
        refine HFnF.mkH (takeI ht [signB ((j : Int) + 3)] (by simp) g3.le (upd_same ..)) ?_
        rintro r_ h' ⟨rfl, rfl⟩
        rw [upd_upd]
        cases hk3 : tkI t [signB ((j : Int) + 3)] s3
        · simp (maxSteps := 1000000) -dsimp -implicitDefEqProofs only [go_sem, ↓reduceIte, keep56, ib56, mk56, Tryz.f56, Bool.false_eq_true]
          refine ⟨j + 1, by rw [IntWalk.i64_in _ (by omega), show (j : Int) + 3 + 1 = ((j + 1 : Nat) : Int) + 3 by omega], ⟨by omega, fun i hi => ?_⟩, by omega⟩
          rcases Nat.lt_or_ge i j with h | h
          · exact hno i h
          · obtain rfl : i = j := by omega
            exact hk3
        · obtain ⟨o1, o2⟩ := opI_at hlt hno hk3
          rw [o1, o2, decide_eq_false (show ¬ (j : Int) + 3 = 7 by omega), orB_false] at b4 g4 b5 g5 b6 b7
          rw [o1, o2, decide_eq_false (show ¬ (j : Int) + 3 = 7 by omega), orB_false]
          have hK : ¬ (j : Int) + 3 > 6 := by omega
          have hb3 : s3.b = false := by simp only [tkI, Bool.and_eq_true, Bool.not_eq_true'] at hk3; exact hk3.1
          simp (maxSteps := 1000000) -dsimp -implicitDefEqProofs only [go_sem, ↓reduceIte, keep56, ib56, mk56, Tryz.f56, e_n2_nb, e_n2_n3, e_nb_n2, e_nb_n3, e_n3_n2, e_n3_nb, upd_ne, upd_get, upd_swap d_nb_n2, upd_swap d_nb_n3, upd_upd, rdr, Option.toArray_none, Option.toArray_some, List.filterMap_cons, List.filterMap_nil, List.elem_cons_self, List.nil_append, List.append_nil, List.toList_toArray]
          refine ⟨fun _ => ?_, fun q => absurd (q.symm.trans hb3) (by simp)⟩
          rw [show (HObj.row 5 [[.v (sls 3 DFunc.c p.fFuncs), .v (.str t), .v (I (s3.adv 1).i), .v (.bool (decide ((j : Int) + 3 > 6))), .v (I (s3.adv 1).d)]]) = rdr p t (s3.adv 1) by rw [rdr, show (s3.adv 1).b = false from hb3, decide_eq_false hK]]
          refine HFnF.mkH (wantIH ht [32] (by simp) g4.le (upd_same ..)) ?_
          rintro r_ h' ⟨rfl, rfl⟩
          rw [upd_upd]
          simp (maxSteps := 1000000) -dsimp -implicitDefEqProofs only [go_sem, ↓reduceIte, keep56, ib56, mk56, Tryz.f56, e_n2_nb, e_n2_n3, e_nb_n2, e_nb_n3, e_n3_n2, e_n3_nb, upd_ne, upd_get, upd_swap d_nb_n2, upd_swap d_nb_n3, upd_upd]
          refine HFnF.mkH (ih _ g5 (hf2 _ fun q => (b5.ok q).2.1.trans hd2) _ (by simp only [upd_get, e_n2_nb, e_n2_n3, e_nb_n2, e_nb_n3, e_n3_n2, e_n3_nb, if_false]; exact z8b)) ?_
          rintro r_ h' ⟨l, g9, ⟨eb, ob, rfl, rfl⟩, w9, z9, rfl⟩
          obtain ⟨g7, rfl, w7, z72, z73⟩ := New.under2 z82 (by simp only [upd_get, e_n2_nb, e_n2_n3, e_nb_n2, e_nb_n3, e_n3_n2, e_n3_nb, if_false]; exact z83) w9
          have z7b : g7 nb = none := by simpa only [upd_get, e_n2_nb, e_n2_n3, e_nb_n2, e_nb_n3, e_n3_n2, e_n3_nb, if_false] using z9
          have z73 := (upd_none.1 z73).2
          have g6 := b6.good g1
          generalize hrb : exI p t k (wantI t [32] (s3.adv 1)) = rb at *
          obtain ⟨b, s6⟩ := rb
          simp only at ob b6 b7 g6 ⊢
          have ob1 := ob
          rw [DExpr.o_iff] at ob1
          obtain ⟨yb, rfl, osb⟩ := ob1
          simp (maxSteps := 1000000) -dsimp -implicitDefEqProofs only [go_sem, ↓reduceIte, keep56, ib56, mk56, Tryz.f56, e_n2_nb, e_n2_n3, e_nb_n2, e_nb_n3, e_n3_n2, e_n3_nb, upd_ne, upd_get, upd_swap d_nb_n2, upd_swap d_nb_n3, upd_upd, OV.map_val, OV.map_val_nil, OV.val_v, osb.flat, osb.one]
          intro n5 q5
          have a5 : ¬ n5 = nb := by grind
          have b5n : ¬ n5 = n2 := by grind
          have c5n : ¬ n5 = n3 := by grind
          have z75 : g7 n5 = none := by grind
          have d_n5_nb : ¬ n5 = nb := a5
          have d_nb_n5 : ¬ nb = n5 := Ne.symm d_n5_nb
          have e_n5_nb : (n5 = nb) = False := eq_false d_n5_nb
          have e_nb_n5 : (nb = n5) = False := eq_false d_nb_n5
          have d_n5_n2 : ¬ n5 = n2 := b5n
          have d_n2_n5 : ¬ n2 = n5 := Ne.symm d_n5_n2
          have e_n5_n2 : (n5 = n2) = False := eq_false d_n5_n2
          have e_n2_n5 : (n2 = n5) = False := eq_false d_n2_n5
          have d_n5_n3 : ¬ n5 = n3 := c5n
          have d_n3_n5 : ¬ n3 = n5 := Ne.symm d_n5_n3
          have e_n5_n3 : (n5 = n3) = False := eq_false d_n5_n3
          have e_n3_n5 : (n3 = n5) = False := eq_false d_n3_n5
          rw [upd_swap d_nb_n5]
          refine HFnF.mkH (wantIH ht [41] (by simp) g6.le (upd_same ..)) ?_
          rintro r_ h' ⟨rfl, rfl⟩
          rw [upd_upd]
          simp (maxSteps := 1000000) -dsimp -implicitDefEqProofs only [go_sem, ↓reduceIte, keep56, ib56, mk56, Tryz.f56, e_n2_nb, e_n2_n3, e_n2_n5, e_nb_n2, e_nb_n3, e_nb_n5, e_n3_n2, e_n3_nb, e_n3_n5, e_n5_n2, e_n5_nb, e_n5_n3, upd_ne, upd_get, upd_swap d_nb_n2, upd_swap d_nb_n3, upd_upd, OV.map_val, OV.map_val_nil, OV.val_v, osa.flat, osa.one, osb.flat, osb.one]
          refine ⟨by decide, rfl, fun m qm => ?_⟩
          have am : ¬ m = nb := by grind
          have bm : ¬ m = n2 := by grind
          have cm : ¬ m = n3 := by grind
          have dm : ¬ m = n5 := by grind
          have z7m : g7 m = none := by grind
          have d_m_nb : ¬ m = nb := am
          have d_nb_m : ¬ nb = m := Ne.symm d_m_nb
          have e_m_nb : (m = nb) = False := eq_false d_m_nb
          have e_nb_m : (nb = m) = False := eq_false d_nb_m
          have d_m_n2 : ¬ m = n2 := bm
          have d_n2_m : ¬ n2 = m := Ne.symm d_m_n2
          have e_m_n2 : (m = n2) = False := eq_false d_m_n2
          have e_n2_m : (n2 = m) = False := eq_false d_n2_m
          have d_m_n3 : ¬ m = n3 := cm
          have d_n3_m : ¬ n3 = m := Ne.symm d_m_n3
          have e_m_n3 : (m = n3) = False := eq_false d_m_n3
          have e_n3_m : (n3 = m) = False := eq_false d_n3_m
          have d_m_n5 : ¬ m = n5 := dm
          have d_n5_m : ¬ n5 = m := Ne.symm d_m_n5
          have e_m_n5 : (m = n5) = False := eq_false d_m_n5
          have e_n5_m : (n5 = m) = False := eq_false d_n5_m
          simp (maxSteps := 1000000) -dsimp -implicitDefEqProofs only [go_sem, ↓reduceIte, keep56, ib56, mk56, Tryz.f56, e_n2_nb, e_n2_n3, e_n2_n5, e_n2_m, e_nb_n2, e_nb_n3, e_nb_n5, e_nb_m, e_n3_n2, e_n3_nb, e_n3_n5, e_n3_m, e_n5_n2, e_n5_nb, e_n5_n3, e_n5_m, e_m_n2, e_m_nb, e_m_n3, e_m_n5, upd_ne, upd_get, upd_swap d_nb_n2, upd_swap d_nb_n3, upd_swap d_nb_m, upd_upd]
          refine HFnDF.mk (expr1 (s := wantI t [41] s6) (b7.dd g1) (upd_same ..)) ?_
          rintro r_ h' rfl
          rw [upd_upd]
          simp (maxSteps := 1000000) -dsimp -implicitDefEqProofs only [go_sem, ↓reduceIte, keep56, ib56, mk56, Tryz.f56, e_n2_nb, e_n2_n3, e_n2_n5, e_n2_m, e_nb_n2, e_nb_n3, e_nb_n5, e_nb_m, e_n3_n2, e_n3_nb, e_n3_n5, e_n3_m, e_n5_n2, e_n5_nb, e_n5_n3, e_n5_m, e_m_n2, e_m_nb, e_m_n3, e_m_n5, upd_ne, upd_get]
          have hnew := w8.append w7
          refine ex_end (g2 := upd g7 m (.row 5 (OV.cells [[.v (I a.fKind), .v (I a.fNum), .v (I a.fPick), .v (I a.fCount), ya], [.v (I b.fKind), .v (I b.fNum), .v (I b.fPick), .v (I b.fCount), yb]]))) (e := [.v (I ((j : Int) + 3)), .v (I 0), .v (I 0), .v (I 0), .sl m 5 [[.v (I a.fKind), .v (I a.fNum), .v (I a.fPick), .v (I a.fCount), ya], [.v (I b.fKind), .v (I b.fNum), .v (I b.fPick), .v (I b.fCount), yb]]]) ((DExpr.o_iff _ _).2 ⟨_, rfl, OS.mk ⟨oa, ob, trivial⟩⟩) ?_ ?_ (Sub.refl _) ?_
          · have := hnew.row (n := m) (o := .row 5 (OV.cells [[.v (I a.fKind), .v (I a.fNum), .v (I a.fPick), .v (I a.fCount), ya], [.v (I b.fKind), .v (I b.fNum), .v (I b.fPick), .v (I b.fCount), yb]])) z7m
            simpa only [OV.row_cons, OV.row_nil, OV.v_rows, OV.sl_rows, OV.rowsRows, List.nil_append, List.append_nil, List.append_assoc] using this
          · rw [upd_ne _ _ _ _ d_nb_m]; exact z7b
          · intro q_
            simp only [upd_get, OV.cells, List.map_cons, List.map_nil, OV.val_v]
            grind
      · obtain rfl : j = 4 := by omega
        obtain ⟨o1, o2⟩ := opI_none hno
        rw [o1, o2, decide_eq_true rfl] at b4 g4 b5 g5 b6 b7
        rw [o1, o2, decide_eq_true rfl]
        simp (maxSteps := 1000000) -dsimp -implicitDefEqProofs only [go_sem, ↓reduceIte, keep56, ib56, mk56, Tryz.f56, e_n2_nb, e_n2_n3, e_nb_n2, e_nb_n3, e_n3_n2, e_n3_nb, upd_ne, upd_get, upd_swap d_nb_n2, upd_swap d_nb_n3, upd_upd, Option.toArray_none, Option.toArray_some, List.filterMap_cons, List.filterMap_nil, List.elem_cons_self, List.nil_append, List.append_nil, List.toList_toArray]
        refine ⟨fun q => absurd q (by omega), fun _ => ?_⟩
        simp (maxSteps := 1000000) -dsimp -implicitDefEqProofs only [go_sem, ↓reduceIte, keep56, ib56, mk56, Tryz.f56, e_n2_nb, e_n2_n3, e_nb_n2, e_nb_n3, e_n3_n2, e_n3_nb, upd_ne, upd_get, upd_swap d_nb_n2, upd_swap d_nb_n3, upd_upd, rdr, Option.toArray_none, Option.toArray_some, List.filterMap_cons, List.filterMap_nil, List.elem_cons_self, List.nil_append, List.append_nil, List.toList_toArray]
        refine ⟨fun hb3 => ?_, fun hb3 => ?_⟩
        · rw [show (HObj.row 5 [[.v (sls 3 DFunc.c p.fFuncs), .v (.str t), .v (I s3.i), .v (.bool (decide (((4 : Nat) : Int) + 3 > 6))), .v (I s3.d)]]) = rdr p t (s3.orB true) by rw [rdr, show (s3.orB true).b = true by simp [RSt.orB], decide_eq_true (by omega)]; rfl]
          refine HFnF.mkH (wantIH ht [32] (by simp) g4.le (upd_same ..)) ?_
          rintro r_ h' ⟨rfl, rfl⟩
          rw [upd_upd]
          simp (maxSteps := 1000000) -dsimp -implicitDefEqProofs only [go_sem, ↓reduceIte, keep56, ib56, mk56, Tryz.f56, e_n2_nb, e_n2_n3, e_nb_n2, e_nb_n3, e_n3_n2, e_n3_nb, upd_ne, upd_get, upd_swap d_nb_n2, upd_swap d_nb_n3, upd_upd]
          refine HFnF.mkH (ih _ g5 (hf2 _ fun q => (b5.ok q).2.1.trans hd2) _ (by simp only [upd_get, e_n2_nb, e_n2_n3, e_nb_n2, e_nb_n3, e_n3_n2, e_n3_nb, if_false]; exact z8b)) ?_
          rintro r_ h' ⟨l, g9, ⟨eb, ob, rfl, rfl⟩, w9, z9, rfl⟩
          obtain ⟨g7, rfl, w7, z72, z73⟩ := New.under2 z82 (by simp only [upd_get, e_n2_nb, e_n2_n3, e_nb_n2, e_nb_n3, e_n3_n2, e_n3_nb, if_false]; exact z83) w9
          have z7b : g7 nb = none := by simpa only [upd_get, e_n2_nb, e_n2_n3, e_nb_n2, e_nb_n3, e_n3_n2, e_n3_nb, if_false] using z9
          have z73 := (upd_none.1 z73).2
          have g6 := b6.good g1
          generalize hrb : exI p t k (wantI t [32] (s3.orB true)) = rb at *
          obtain ⟨b, s6⟩ := rb
          simp only at ob b6 b7 g6 ⊢
          have ob1 := ob
          rw [DExpr.o_iff] at ob1
          obtain ⟨yb, rfl, osb⟩ := ob1
          simp (maxSteps := 1000000) -dsimp -implicitDefEqProofs only [go_sem, ↓reduceIte, keep56, ib56, mk56, Tryz.f56, e_n2_nb, e_n2_n3, e_nb_n2, e_nb_n3, e_n3_n2, e_n3_nb, upd_ne, upd_get, upd_swap d_nb_n2, upd_swap d_nb_n3, upd_upd, OV.map_val, OV.map_val_nil, OV.val_v, osb.flat, osb.one]
          intro n5 q5
          have a5 : ¬ n5 = nb := by grind
          have b5n : ¬ n5 = n2 := by grind
          have c5n : ¬ n5 = n3 := by grind
          have z75 : g7 n5 = none := by grind
          have d_n5_nb : ¬ n5 = nb := a5
          have d_nb_n5 : ¬ nb = n5 := Ne.symm d_n5_nb
          have e_n5_nb : (n5 = nb) = False := eq_false d_n5_nb
          have e_nb_n5 : (nb = n5) = False := eq_false d_nb_n5
          have d_n5_n2 : ¬ n5 = n2 := b5n
          have d_n2_n5 : ¬ n2 = n5 := Ne.symm d_n5_n2
          have e_n5_n2 : (n5 = n2) = False := eq_false d_n5_n2
          have e_n2_n5 : (n2 = n5) = False := eq_false d_n2_n5
          have d_n5_n3 : ¬ n5 = n3 := c5n
          have d_n3_n5 : ¬ n3 = n5 := Ne.symm d_n5_n3
          have e_n5_n3 : (n5 = n3) = False := eq_false d_n5_n3
          have e_n3_n5 : (n3 = n5) = False := eq_false d_n3_n5
          rw [upd_swap d_nb_n5]
          refine HFnF.mkH (wantIH ht [41] (by simp) g6.le (upd_same ..)) ?_
          rintro r_ h' ⟨rfl, rfl⟩
          rw [upd_upd]
          simp (maxSteps := 1000000) -dsimp -implicitDefEqProofs only [go_sem, ↓reduceIte, keep56, ib56, mk56, Tryz.f56, e_n2_nb, e_n2_n3, e_n2_n5, e_nb_n2, e_nb_n3, e_nb_n5, e_n3_n2, e_n3_nb, e_n3_n5, e_n5_n2, e_n5_nb, e_n5_n3, upd_ne, upd_get, upd_swap d_nb_n2, upd_swap d_nb_n3, upd_upd, OV.map_val, OV.map_val_nil, OV.val_v, osa.flat, osa.one, osb.flat, osb.one]
          refine ⟨by decide, rfl, fun m qm => ?_⟩
          have am : ¬ m = nb := by grind
          have bm : ¬ m = n2 := by grind
          have cm : ¬ m = n3 := by grind
          have dm : ¬ m = n5 := by grind
          have z7m : g7 m = none := by grind
          have d_m_nb : ¬ m = nb := am
          have d_nb_m : ¬ nb = m := Ne.symm d_m_nb
          have e_m_nb : (m = nb) = False := eq_false d_m_nb
          have e_nb_m : (nb = m) = False := eq_false d_nb_m
          have d_m_n2 : ¬ m = n2 := bm
          have d_n2_m : ¬ n2 = m := Ne.symm d_m_n2
          have e_m_n2 : (m = n2) = False := eq_false d_m_n2
          have e_n2_m : (n2 = m) = False := eq_false d_n2_m
          have d_m_n3 : ¬ m = n3 := cm
          have d_n3_m : ¬ n3 = m := Ne.symm d_m_n3
          have e_m_n3 : (m = n3) = False := eq_false d_m_n3
          have e_n3_m : (n3 = m) = False := eq_false d_n3_m
          have d_m_n5 : ¬ m = n5 := dm
          have d_n5_m : ¬ n5 = m := Ne.symm d_m_n5
          have e_m_n5 : (m = n5) = False := eq_false d_m_n5
          have e_n5_m : (n5 = m) = False := eq_false d_n5_m
          simp (maxSteps := 1000000) -dsimp -implicitDefEqProofs only [go_sem, ↓reduceIte, keep56, ib56, mk56, Tryz.f56, e_n2_nb, e_n2_n3, e_n2_n5, e_n2_m, e_nb_n2, e_nb_n3, e_nb_n5, e_nb_m, e_n3_n2, e_n3_nb, e_n3_n5, e_n3_m, e_n5_n2, e_n5_nb, e_n5_n3, e_n5_m, e_m_n2, e_m_nb, e_m_n3, e_m_n5, upd_ne, upd_get, upd_swap d_nb_n2, upd_swap d_nb_n3, upd_swap d_nb_m, upd_upd]
          refine HFnDF.mk (expr1 (s := wantI t [41] s6) (b7.dd g1) (upd_same ..)) ?_
          rintro r_ h' rfl
          rw [upd_upd]
          simp (maxSteps := 1000000) -dsimp -implicitDefEqProofs only [go_sem, ↓reduceIte, keep56, ib56, mk56, Tryz.f56, e_n2_nb, e_n2_n3, e_n2_n5, e_n2_m, e_nb_n2, e_nb_n3, e_nb_n5, e_nb_m, e_n3_n2, e_n3_nb, e_n3_n5, e_n3_m, e_n5_n2, e_n5_nb, e_n5_n3, e_n5_m, e_m_n2, e_m_nb, e_m_n3, e_m_n5, upd_ne, upd_get]
          have hnew := w8.append w7
          refine ex_end (g2 := upd g7 m (.row 5 (OV.cells [[.v (I a.fKind), .v (I a.fNum), .v (I a.fPick), .v (I a.fCount), ya], [.v (I b.fKind), .v (I b.fNum), .v (I b.fPick), .v (I b.fCount), yb]]))) (e := [.v (I (7)), .v (I 0), .v (I 0), .v (I 0), .sl m 5 [[.v (I a.fKind), .v (I a.fNum), .v (I a.fPick), .v (I a.fCount), ya], [.v (I b.fKind), .v (I b.fNum), .v (I b.fPick), .v (I b.fCount), yb]]]) ((DExpr.o_iff _ _).2 ⟨_, rfl, OS.mk ⟨oa, ob, trivial⟩⟩) ?_ ?_ (Sub.refl _) ?_
          · have := hnew.row (n := m) (o := .row 5 (OV.cells [[.v (I a.fKind), .v (I a.fNum), .v (I a.fPick), .v (I a.fCount), ya], [.v (I b.fKind), .v (I b.fNum), .v (I b.fPick), .v (I b.fCount), yb]])) z7m
            simpa only [OV.row_cons, OV.row_nil, OV.v_rows, OV.sl_rows, OV.rowsRows, List.nil_append, List.append_nil, List.append_assoc] using this
          · rw [upd_ne _ _ _ _ d_nb_m]; exact z7b
          · intro q_
            simp only [upd_get, OV.cells, List.map_cons, List.map_nil, OV.val_v]
            grind
        · rw [show (HObj.row 5 [[.v (sls 3 DFunc.c p.fFuncs), .v (.str t), .v (I s3.i), .v (.bool true), .v (I s3.d)]]) = rdr p t (s3.orB true) by rw [rdr, show (s3.orB true).b = true by simp [RSt.orB]]; rfl]
          refine HFnF.mkH (wantIH ht [32] (by simp) g4.le (upd_same ..)) ?_
          rintro r_ h' ⟨rfl, rfl⟩
          rw [upd_upd]
          simp (maxSteps := 1000000) -dsimp -implicitDefEqProofs only [go_sem, ↓reduceIte, keep56, ib56, mk56, Tryz.f56, e_n2_nb, e_n2_n3, e_nb_n2, e_nb_n3, e_n3_n2, e_n3_nb, upd_ne, upd_get, upd_swap d_nb_n2, upd_swap d_nb_n3, upd_upd]
          refine HFnF.mkH (ih _ g5 (hf2 _ fun q => (b5.ok q).2.1.trans hd2) _ (by simp only [upd_get, e_n2_nb, e_n2_n3, e_nb_n2, e_nb_n3, e_n3_n2, e_n3_nb, if_false]; exact z8b)) ?_
          rintro r_ h' ⟨l, g9, ⟨eb, ob, rfl, rfl⟩, w9, z9, rfl⟩
          obtain ⟨g7, rfl, w7, z72, z73⟩ := New.under2 z82 (by simp only [upd_get, e_n2_nb, e_n2_n3, e_nb_n2, e_nb_n3, e_n3_n2, e_n3_nb, if_false]; exact z83) w9
          have z7b : g7 nb = none := by simpa only [upd_get, e_n2_nb, e_n2_n3, e_nb_n2, e_nb_n3, e_n3_n2, e_n3_nb, if_false] using z9
          have z73 := (upd_none.1 z73).2
          have g6 := b6.good g1
          generalize hrb : exI p t k (wantI t [32] (s3.orB true)) = rb at *
          obtain ⟨b, s6⟩ := rb
          simp only at ob b6 b7 g6 ⊢
          have ob1 := ob
          rw [DExpr.o_iff] at ob1
          obtain ⟨yb, rfl, osb⟩ := ob1
          simp (maxSteps := 1000000) -dsimp -implicitDefEqProofs only [go_sem, ↓reduceIte, keep56, ib56, mk56, Tryz.f56, e_n2_nb, e_n2_n3, e_nb_n2, e_nb_n3, e_n3_n2, e_n3_nb, upd_ne, upd_get, upd_swap d_nb_n2, upd_swap d_nb_n3, upd_upd, OV.map_val, OV.map_val_nil, OV.val_v, osb.flat, osb.one]
          intro n5 q5
          have a5 : ¬ n5 = nb := by grind
          have b5n : ¬ n5 = n2 := by grind
          have c5n : ¬ n5 = n3 := by grind
          have z75 : g7 n5 = none := by grind
          have d_n5_nb : ¬ n5 = nb := a5
          have d_nb_n5 : ¬ nb = n5 := Ne.symm d_n5_nb
          have e_n5_nb : (n5 = nb) = False := eq_false d_n5_nb
          have e_nb_n5 : (nb = n5) = False := eq_false d_nb_n5
          have d_n5_n2 : ¬ n5 = n2 := b5n
          have d_n2_n5 : ¬ n2 = n5 := Ne.symm d_n5_n2
          have e_n5_n2 : (n5 = n2) = False := eq_false d_n5_n2
          have e_n2_n5 : (n2 = n5) = False := eq_false d_n2_n5
          have d_n5_n3 : ¬ n5 = n3 := c5n
          have d_n3_n5 : ¬ n3 = n5 := Ne.symm d_n5_n3
          have e_n5_n3 : (n5 = n3) = False := eq_false d_n5_n3
          have e_n3_n5 : (n3 = n5) = False := eq_false d_n3_n5
          rw [upd_swap d_nb_n5]
          refine HFnF.mkH (wantIH ht [41] (by simp) g6.le (upd_same ..)) ?_
          rintro r_ h' ⟨rfl, rfl⟩
          rw [upd_upd]
          simp (maxSteps := 1000000) -dsimp -implicitDefEqProofs only [go_sem, ↓reduceIte, keep56, ib56, mk56, Tryz.f56, e_n2_nb, e_n2_n3, e_n2_n5, e_nb_n2, e_nb_n3, e_nb_n5, e_n3_n2, e_n3_nb, e_n3_n5, e_n5_n2, e_n5_nb, e_n5_n3, upd_ne, upd_get, upd_swap d_nb_n2, upd_swap d_nb_n3, upd_upd, OV.map_val, OV.map_val_nil, OV.val_v, osa.flat, osa.one, osb.flat, osb.one]
          refine ⟨by decide, rfl, fun m qm => ?_⟩
          have am : ¬ m = nb := by grind
          have bm : ¬ m = n2 := by grind
          have cm : ¬ m = n3 := by grind
          have dm : ¬ m = n5 := by grind
          have z7m : g7 m = none := by grind
          have d_m_nb : ¬ m = nb := am
          have d_nb_m : ¬ nb = m := Ne.symm d_m_nb
          have e_m_nb : (m = nb) = False := eq_false d_m_nb
          have e_nb_m : (nb = m) = False := eq_false d_nb_m
          have d_m_n2 : ¬ m = n2 := bm
          have d_n2_m : ¬ n2 = m := Ne.symm d_m_n2
          have e_m_n2 : (m = n2) = False := eq_false d_m_n2
          have e_n2_m : (n2 = m) = False := eq_false d_n2_m
          have d_m_n3 : ¬ m = n3 := cm
          have d_n3_m : ¬ n3 = m := Ne.symm d_m_n3
          have e_m_n3 : (m = n3) = False := eq_false d_m_n3
          have e_n3_m : (n3 = m) = False := eq_false d_n3_m
          have d_m_n5 : ¬ m = n5 := dm
          have d_n5_m : ¬ n5 = m := Ne.symm d_m_n5
          have e_m_n5 : (m = n5) = False := eq_false d_m_n5
          have e_n5_m : (n5 = m) = False := eq_false d_n5_m
          simp (maxSteps := 1000000) -dsimp -implicitDefEqProofs only [go_sem, ↓reduceIte, keep56, ib56, mk56, Tryz.f56, e_n2_nb, e_n2_n3, e_n2_n5, e_n2_m, e_nb_n2, e_nb_n3, e_nb_n5, e_nb_m, e_n3_n2, e_n3_nb, e_n3_n5, e_n3_m, e_n5_n2, e_n5_nb, e_n5_n3, e_n5_m, e_m_n2, e_m_nb, e_m_n3, e_m_n5, upd_ne, upd_get, upd_swap d_nb_n2, upd_swap d_nb_n3, upd_swap d_nb_m, upd_upd]
          refine HFnDF.mk (expr1 (s := wantI t [41] s6) (b7.dd g1) (upd_same ..)) ?_
          rintro r_ h' rfl
          rw [upd_upd]
          simp (maxSteps := 1000000) -dsimp -implicitDefEqProofs only [go_sem, ↓reduceIte, keep56, ib56, mk56, Tryz.f56, e_n2_nb, e_n2_n3, e_n2_n5, e_n2_m, e_nb_n2, e_nb_n3, e_nb_n5, e_nb_m, e_n3_n2, e_n3_nb, e_n3_n5, e_n3_m, e_n5_n2, e_n5_nb, e_n5_n3, e_n5_m, e_m_n2, e_m_nb, e_m_n3, e_m_n5, upd_ne, upd_get]
          have hnew := w8.append w7
          refine ex_end (g2 := upd g7 m (.row 5 (OV.cells [[.v (I a.fKind), .v (I a.fNum), .v (I a.fPick), .v (I a.fCount), ya], [.v (I b.fKind), .v (I b.fNum), .v (I b.fPick), .v (I b.fCount), yb]]))) (e := [.v (I (7)), .v (I 0), .v (I 0), .v (I 0), .sl m 5 [[.v (I a.fKind), .v (I a.fNum), .v (I a.fPick), .v (I a.fCount), ya], [.v (I b.fKind), .v (I b.fNum), .v (I b.fPick), .v (I b.fCount), yb]]]) ((DExpr.o_iff _ _).2 ⟨_, rfl, OS.mk ⟨oa, ob, trivial⟩⟩) ?_ ?_ (Sub.refl _) ?_
          · have := hnew.row (n := m) (o := .row 5 (OV.cells [[.v (I a.fKind), .v (I a.fNum), .v (I a.fPick), .v (I a.fCount), ya], [.v (I b.fKind), .v (I b.fNum), .v (I b.fPick), .v (I b.fCount), yb]])) z7m
            simpa only [OV.row_cons, OV.row_nil, OV.v_rows, OV.sl_rows, OV.rowsRows, List.nil_append, List.append_nil, List.append_assoc] using this
          · rw [upd_ne _ _ _ _ d_nb_m]; exact z7b
          · intro q_
            simp only [upd_get, OV.cells, List.map_cons, List.map_nil, OV.val_v]
            grind
theorem exprIH {nb : Nat} {p : DProgram} {t : List UInt8} (ht : t.length ≤ 1048600) (hps : p.s ≤ 4194304) : ∀ (n : Nat) (s : RSt), Good 62 t s → (s.b = false → 60 ≤ s.d + n) → BX Tryz.prog 56 [.op nb 5 0 0] nb (rdr p t s) (rdr p t (exI p t n s).2) (QA (exI p t n s).1.o)
  | 0, s, g, h => by
    have hq : s.b = true ∨ 60 < s.d + 1 := by
      cases hb : s.b with
      | true => exact .inl rfl
      | false => right; have := h hb; omega
    have e : exI p t 0 s = exI p t (0 + 1) s := by rw [exI, exI, if_pos hq]
    rw [e]
    exact exprIH_step ht hps (fun q => absurd hq q) g (fun hb => by have := h hb; omega)
  | n + 1, s, g, h => exprIH_step ht hps (fun _ => exprIH ht hps n) g (fun hb => by have := h hb; omega)
open Go.Proofs
set_option linter.unusedVariables false
set_option linter.unusedSimpArgs false
open Go.Proofs
set_option linter.unusedVariables false
set_option linter.unusedSimpArgs false
open Go.Proofs
set_option linter.unusedVariables false
set_option linter.unusedSimpArgs false
/-- A node in its box, with kids that have grown. -/
def boxE (k n c d : Int) (v : HVal) : HObj := .row 5 [[.v (I k), .v (I n), .v (I c), .v (I d), .v v]]
open Go.Proofs
set_option linter.unusedVariables false
set_option linter.unusedSimpArgs false
open Go.Proofs
set_option linter.unusedVariables false
set_option linter.unusedSimpArgs false
/-- What draws expressions, in its box. -/
def genB (ns np : Nat) (L : Int) (pl : Bool) : HObj := .row 4 [[.v (.op ns 3 0 0), .v (.op np 1 0 0), .v (I L), .v (.bool pl)]]
def mL (L : Int) : Nat := (L - 1).toNat
/-- The functions drawn so far. -/
def ProgIn (p : DProgram) (np : Nat) (B : Heap) : Prop := ∃ es o, OR DFunc.o p.fFuncs es ∧ B np = some (.row 1 [[.v (onil 3 p.fFuncs.length o)]]) ∧ (o = none → p.fFuncs = []) ∧ ∀ m, o = some m → B m = some (.row 3 (OV.cells es))
theorem ProgIn.le {p : DProgram} {np : Nat} {B B' : Heap} (h : ProgIn p np B) (hl : B.le B') : ProgIn p np B' := by
  obtain ⟨es, o, h1, h2, h3, h4⟩ := h
  exact ⟨es, o, h1, Heap.le_get hl h2, h3, fun m e => Heap.le_get hl (h4 m e)⟩
def keep58 : List Nat := [0, 1, 4, 14]
def ib58 : List Nat := []
def mk58 : Marks := fun _ => ([], .nil, [])
set_option maxRecDepth 100000 in
theorem leafH {ns ng np : Nat} {c : List Int} {pl : Bool} (hc : ∀ x ∈ c, InB x) (hl : c.length ≤ 4096) (hne : ¬ ns = ng) (vars : Int) (hv : vars ≤ 1000) {B : Heap} {a : Nat} {sd L : Int} (hB1 : B ns = none) (hB2 : B ng = none) (ha : a ≤ 800001000) :
    HFn Tryz.prog 58 [.op ng 4 0 0, I vars] (upd (upd B ns (srcB c a sd)) ng (genB ns np L pl)) fun r h' => ∃ k n a' sd', r = .agg [I k, I n, I 0, I 0, .nilsl] ∧ ((k = 1 ∧ Num n) ∨ (k = 2 ∧ 0 ≤ n ∧ n < vars)) ∧ (a ≤ a' ∧ a' ≤ a + 10) ∧ h' = upd (upd B ns (srcB c a' sd')) ng (genB ns np L pl) := by
  have d_ns_ng : ¬ ns = ng := hne
  have d_ng_ns : ¬ ng = ns := Ne.symm d_ns_ng
  have e_ns_ng : (ns = ng) = False := eq_false d_ns_ng
  have e_ng_ns : (ng = ns) = False := eq_false d_ng_ns
  have hg : (upd (upd B ns (srcB c a sd)) ng (genB ns np L pl)) ng = some (genB ns np L pl) := upd_same ..
  unfold genB at hg
  refine fnHF 28 keep58 ib58 mk58 mix Tryz.func58 rfl (by kernel_rfl) (by simp) ?_
  simp (maxSteps := 1000000) -dsimp -implicitDefEqProofs only [go_sem, ↓reduceIte, keep58, ib58, mk58, Tryz.f58]
  intro n4 q4
  have a4 : ¬ n4 = ng := by grind
  have b4 : ¬ n4 = ns := by grind
  have z4 : B n4 = none := by grind
  have d_n4_ng : ¬ n4 = ng := a4
  have d_ng_n4 : ¬ ng = n4 := Ne.symm d_n4_ng
  have e_n4_ng : (n4 = ng) = False := eq_false d_n4_ng
  have e_ng_n4 : (ng = n4) = False := eq_false d_ng_n4
  have d_n4_ns : ¬ n4 = ns := b4
  have d_ns_n4 : ¬ ns = n4 := Ne.symm d_n4_ns
  have e_n4_ns : (n4 = ns) = False := eq_false d_n4_ns
  have e_ns_n4 : (ns = n4) = False := eq_false d_ns_n4
  simp (maxSteps := 1000000) -dsimp -implicitDefEqProofs only [go_sem, ↓reduceIte, keep58, ib58, mk58, Tryz.f58, e_n4_ng, e_n4_ns, e_ng_n4, e_ng_ns, e_ns_n4, e_ns_ng, upd_ne, upd_get, genB, Option.toArray_none, Option.toArray_some, List.filterMap_cons, List.filterMap_nil, List.elem_cons_self, List.nil_append, List.append_nil, List.toList_toArray]
  have hle : ∀ X Y Z, (upd (upd B ns X) ng Y).le (upd (upd (upd B ns X) ng Y) n4 Z) := fun X Y Z => Heap.le_upd (by rw [upd_ne _ _ _ _ d_n4_ng, upd_ne _ _ _ _ d_n4_ns]; exact z4) (Heap.le_refl _)
  refine ⟨fun hp => ?_, fun hp => ?_⟩
  · refine HFnF.mkH (oneH (a := a) (sd := sd) hc hl (by omega) 4 (by omega) (by rw [upd_ne _ _ _ _ d_ns_n4, upd_ne _ _ _ _ d_ns_ng, upd_same])) ?_
    rintro r_ h' ⟨b, a1, sd1, rfl, ha1, rfl⟩
    simp only [upd_swap d_n4_ns, upd_swap d_ng_ns, upd_upd]
    cases b
    · simp (maxSteps := 1000000) -dsimp -implicitDefEqProofs only [go_sem, ↓reduceIte, keep58, ib58, mk58, Tryz.f58, e_n4_ng, e_n4_ns, e_ng_n4, e_ng_ns, e_ns_n4, e_ns_ng, upd_ne, upd_get, Option.toArray_none, Option.toArray_some, List.filterMap_cons, List.filterMap_nil, List.elem_cons_self, List.nil_append, List.append_nil, List.toList_toArray]
      refine HFnF.mkH (pickH (a := a1) (sd := sd1) hc hl (by omega) vars (by omega) (by rw [upd_ne _ _ _ _ d_ns_n4, upd_ne _ _ _ _ d_ns_ng, upd_same])) ?_
      rintro r_ h' ⟨x, a2, sd2, rfl, x0, x1, -, ha2, rfl⟩
      simp only [upd_swap d_n4_ns, upd_swap d_ng_ns, upd_upd]
      simp (maxSteps := 1000000) -dsimp -implicitDefEqProofs only [go_sem, ↓reduceIte, keep58, ib58, mk58, Tryz.f58, e_n4_ng, e_n4_ns, e_ng_n4, e_ng_ns, e_ns_n4, e_ns_ng, upd_ne, upd_get, upd_upd, Option.toArray_none, Option.toArray_some, List.filterMap_cons, List.filterMap_nil, List.elem_cons_self, List.nil_append, List.append_nil, List.toList_toArray]
      exact ⟨_, hle _ _ _, 2, x, a2, sd2, rfl, .inr ⟨rfl, x0, x1 (by omega)⟩, by omega, rfl⟩
    · simp (maxSteps := 1000000) -dsimp -implicitDefEqProofs only [go_sem, ↓reduceIte, keep58, ib58, mk58, Tryz.f58, e_n4_ng, e_n4_ns, e_ng_n4, e_ng_ns, e_ns_n4, e_ns_ng, upd_ne, upd_get, Option.toArray_none, Option.toArray_some, List.filterMap_cons, List.filterMap_nil, List.elem_cons_self, List.nil_append, List.append_nil, List.toList_toArray]
      refine HFnF.mkH (anyH (a := a1) (sd := sd1) hc hl (by omega) (by rw [upd_ne _ _ _ _ d_ns_n4, upd_ne _ _ _ _ d_ns_ng, upd_same])) ?_
      rintro r_ h' ⟨x, a2, sd2, rfl, hx, ha2, rfl⟩
      simp only [upd_swap d_n4_ns, upd_swap d_ng_ns, upd_upd]
      simp (maxSteps := 1000000) -dsimp -implicitDefEqProofs only [go_sem, ↓reduceIte, keep58, ib58, mk58, Tryz.f58, e_n4_ng, e_n4_ns, e_ng_n4, e_ng_ns, e_ns_n4, e_ns_ng, upd_ne, upd_get, upd_upd, Option.toArray_none, Option.toArray_some, List.filterMap_cons, List.filterMap_nil, List.elem_cons_self, List.nil_append, List.append_nil, List.toList_toArray]
      exact ⟨_, hle _ _ _, 1, x, a2, sd2, rfl, .inl ⟨rfl, hx⟩, by omega, rfl⟩
  · refine HFnF.mkH (anyH (a := a) (sd := sd) hc hl (by omega) (by rw [upd_ne _ _ _ _ d_ns_n4, upd_ne _ _ _ _ d_ns_ng, upd_same])) ?_
    rintro r_ h' ⟨x, a2, sd2, rfl, hx, ha2, rfl⟩
    simp only [upd_swap d_n4_ns, upd_swap d_ng_ns, upd_upd]
    simp (maxSteps := 1000000) -dsimp -implicitDefEqProofs only [go_sem, ↓reduceIte, keep58, ib58, mk58, Tryz.f58, e_n4_ng, e_n4_ns, e_ng_n4, e_ng_ns, e_ns_n4, e_ns_ng, upd_ne, upd_get, upd_upd, Option.toArray_none, Option.toArray_some, List.filterMap_cons, List.filterMap_nil, List.elem_cons_self, List.nil_append, List.append_nil, List.toList_toArray]
    exact ⟨_, hle _ _ _, 1, x, a2, sd2, rfl, .inl ⟨rfl, hx⟩, by omega, rfl⟩
open Go.Proofs
set_option linter.unusedVariables false
set_option linter.unusedSimpArgs false
/-- What drawing an expression brings. -/
def GenR (p : DProgram) (ns ng np : Nat) (c : List Int) (pl : Bool) (vars : Int) (dp : Nat) (B : Heap) (R : Nat → Nat → Int → Prop) : HVal → Heap → Prop := fun r h' =>
  ∃ (x : DExpr) (e : List OV) (g' : Heap) (a' : Nat) (sd' L' : Int), x.o e ∧ r = .agg (e.map OV.val) ∧ New B (OV.rowsRow e) g' ∧ (g' ns = none ∧ g' ng = none) ∧ h' = upd (upd g' ns (srcB c a' sd')) ng (genB ns np L' pl) ∧
    x.ok p p.fFuncs.length vars ∧ x.d ≤ dp + 1 ∧ R x.s a' L'
def GenQ (p : DProgram) (ns ng np : Nat) (c : List Int) (pl : Bool) (vars : Int) (dp a : Nat) (L : Int) (B : Heap) : HVal → Heap → Prop :=
  GenR p ns ng np c pl vars dp B fun s a' L' => (L' ≤ L - 1 ∧ L - (s + 1) ≤ L' ∧ s + 3 * mL L' ≤ 3 * mL L) ∧ (a ≤ a' ∧ a' ≤ a + 14 * (s + 1))
/-- What drawing a call brings. -/
def CallQ (p : DProgram) (ns ng np : Nat) (c : List Int) (pl : Bool) (vars : Int) (dp a : Nat) (L : Int) (B : Heap) : HVal → Heap → Prop :=
  GenR p ns ng np c pl vars dp B fun s a' L' => (L' ≤ L ∧ L - s ≤ L' ∧ s + 3 * mL L' ≤ 3 * mL L + 3) ∧ (a ≤ a' ∧ a' ≤ a + 10 + 14 * s)
def GenPre (dp a : Nat) (vars L : Int) : Prop := (0 ≤ vars ∧ vars + dp ≤ 1000) ∧ a + 42 * mL L + 100 * dp ≤ 800000000 ∧ (-2000000 + 10000 * (dp : Int) ≤ L ∧ L ≤ 1000)
def GenP (P : Program) (f : FuncId) (p : DProgram) (ns ng np : Nat) (c : List Int) (pl : Bool) (dp : Nat) : Prop := ∀ (vars : Int) (B : Heap) (a : Nat) (sd L : Int), B ns = none → B ng = none → ProgIn p np B → GenPre dp a vars L →
  HFn P f [.op ng 4 0 0, I vars, I p.fFuncs.length, I dp] (upd (upd B ns (srcB c a sd)) ng (genB ns np L pl)) (GenQ p ns ng np c pl vars dp a L B)
/-- What calls need. -/
def CallP (P : Program) (f : FuncId) (p : DProgram) (ns ng np : Nat) (c : List Int) (pl : Bool) (dp : Nat) : Prop := ∀ (vars : Int) (B : Heap) (a : Nat) (sd L : Int), B ns = none → B ng = none → ProgIn p np B → (0 ≤ vars ∧ vars + dp ≤ 1000) → a + 42 * mL L + 42 + 100 * dp ≤ 800000050 → (-2000000 + 10000 * (dp : Int) ≤ L ∧ L ≤ 1000 ∧ 1 ≤ L) →
  HFn P f [.op ng 4 0 0, I vars, I p.fFuncs.length, I dp] (upd (upd B ns (srcB c a sd)) ng (genB ns np L pl)) (CallQ p ns ng np c pl vars dp a L B)
/-- What is known of functions that have been drawn. -/
def FuncsIn (p : DProgram) : Prop := ∀ f ∈ p.fFuncs, (1 ≤ f.fParams ∧ f.fParams ≤ 3) ∧ (1 ≤ f.fOuts.length ∧ f.fOuts.length ≤ 3)
theorem leaf_ok {p : DProgram} {k n vars : Int} (h : (k = 1 ∧ Num n) ∨ (k = 2 ∧ 0 ≤ n ∧ n < vars)) : (DExpr.mk k n 0 0 []).ok p p.fFuncs.length vars := by
  refine (DExpr.ok_iff _ _ _ _).2 ⟨?_, fun j hj => by simp [DExpr.fKids] at hj⟩
  rw [nodeOK_plain (by simp only [DExpr.fKind]; omega)]
  simp only [DExpr.fKind, DExpr.fNum, DExpr.fPick, DExpr.fCount, DExpr.fKids, List.length_nil]
  rcases h with ⟨rfl, h⟩ | ⟨rfl, h⟩
  · exact ⟨rfl, trivial, trivial, fun _ => h, fun q => by omega, fun q => absurd rfl q⟩
  · exact ⟨rfl, trivial, trivial, fun q => by omega, fun _ => by omega, fun _ q => absurd rfl q⟩
theorem leaf_d (k n : Int) : (DExpr.mk k n 0 0 []).d = 1 := by rw [DExpr.d_eq]; rfl
theorem leaf_s (k n : Int) : (DExpr.mk k n 0 0 []).s = 0 := by rw [mk_s]; rfl
theorem leaf_gen {p : DProgram} {ns ng np : Nat} {c : List Int} {pl : Bool} {vars : Int} {dp a : Nat} {L : Int} {B H : Heap} {k n : Int} {a' : Nat} {sd' : Int} (h : (k = 1 ∧ Num n) ∨ (k = 2 ∧ 0 ≤ n ∧ n < vars)) (hB1 : B ns = none) (hB2 : B ng = none) (ha : a ≤ a' ∧ a' ≤ a + 14) (hle : (upd (upd B ns (srcB c a' sd')) ng (genB ns np (L - 1) pl)).le H) :
    ∃ r1 g2, Shift (.agg [I k, I n, I 0, I 0, .nilsl]) H r1 g2 ∧ GenQ p ns ng np c pl vars dp a L B r1 g2 := by
  refine ⟨_, _, Shift.of (leaf_sub k n) hle, _, _, B, a', sd', L - 1, leaf_o k n, rfl, by rw [leaf_rows]; exact New.nil B, ⟨hB1, hB2⟩, rfl, leaf_ok h, by rw [leaf_d]; omega, ?_, by rw [leaf_s]; omega⟩
  rw [leaf_s]
  unfold mL
  omega
theorem call_gen {p : DProgram} {ns ng np : Nat} {c : List Int} {pl : Bool} {vars : Int} {dp a : Nat} {L : Int} {B g' H : Heap} {x : DExpr} {e : List OV} {a' : Nat} {sd' L' : Int} (hx : x.o e) (w : New B (OV.rowsRow e) g') (z : g' ns = none ∧ g' ng = none) (hok : x.ok p p.fFuncs.length vars) (hd : x.d ≤ dp + 1)
    (hL : L' ≤ L - 1 ∧ (L - 1) - x.s ≤ L' ∧ x.s + 3 * mL L' ≤ 3 * mL (L - 1) + 3) (ha : a ≤ a' ∧ a' ≤ a + 14 * (x.s + 1)) (h1 : ¬ L - 1 < 1) (hle : (upd (upd g' ns (srcB c a' sd')) ng (genB ns np L' pl)).le H) :
    ∃ r1 g2, Shift (.agg (e.map OV.val)) H r1 g2 ∧ GenQ p ns ng np c pl vars dp a L B r1 g2 :=
  ⟨_, _, Shift.of (Sub.refl _) hle, x, e, g', a', sd', L', hx, rfl, w, z, rfl, hok, hd, ⟨by omega, by omega, by unfold mL at hL ⊢; omega⟩, ha⟩
/-- Where the drawing of kids stands: kind, round, kids, their rows, the heap, the list's name, choices, seed, what is left. -/
abbrev GSt := Int × Nat × List DExpr × List (List OV) × Heap × Option Nat × Nat × Int × Int
def GSide (p : DProgram) (vars : Int) (dp a2 : Nat) (L : Int) (B : Heap) (ns ng n8 n9 : Nat) : GSt → Prop := fun (K, i, kids, es, g1, o, a3, _, L3) =>
  (3 ≤ K ∧ K ≤ 9) ∧ i ≤ (kidsN K).toNat ∧ kids.length = i ∧ OR DExpr.o kids es ∧ New B (OV.rowsRows es) g1 ∧ (g1 ns = none ∧ g1 ng = none ∧ g1 n8 = none ∧ g1 n9 = none) ∧ gside g1 es o ∧ (∀ m, o = some m → ¬ m = ns ∧ ¬ m = ng ∧ ¬ m = n8 ∧ ¬ m = n9) ∧
    (∀ (j : Nat) (h : j < kids.length), kids[j].ok p p.fFuncs.length (moreV K j vars)) ∧ DExpr.dL kids ≤ dp ∧ (L3 ≤ L - 1 ∧ (L - 1) - szs DExpr.s kids ≤ L3 ∧ szs DExpr.s kids + 3 * mL L3 ≤ 3 * mL (L - 1) + i) ∧ (a2 ≤ a3 ∧ a3 ≤ a2 + 14 * szs DExpr.s kids)
theorem dL_snoc (x : DExpr) : ∀ l : List DExpr, DExpr.dL (l ++ [x]) = max (DExpr.dL l) x.d
  | [] => by simp [DExpr.dL]
  | y :: l => by rw [List.cons_append, DExpr.dL, DExpr.dL, dL_snoc x l]; omega
theorem GSide.next {p : DProgram} {vars : Int} {dp a2 : Nat} {L : Int} {B : Heap} {ns ng n8 n9 : Nat} {K : Int} {i : Nat} {kids : List DExpr} {es : List (List OV)} {g1 g5 : Heap} {o : Option Nat} {a3 a5 : Nat} {sd3 sd5 L3 L5 : Int} {x : DExpr} {e : List OV} {m : Nat}
    (h : GSide p vars dp a2 L B ns ng n8 n9 (K, i, kids, es, g1, o, a3, sd3, L3)) (hlt : (i : Int) < kidsN K) (hx : x.o e) (w : New g1 (OV.rowsRow e) g5) (z : g5 ns = none ∧ g5 ng = none ∧ g5 n8 = none ∧ g5 n9 = none) (hm : g5 m = none) (hm2 : ¬ m = ns ∧ ¬ m = ng ∧ ¬ m = n8 ∧ ¬ m = n9)
    (hok : x.ok p p.fFuncs.length (moreV K i vars)) (hd : x.d ≤ dp) (hL : L5 ≤ L3 - 1 ∧ L3 - (x.s + 1) ≤ L5 ∧ x.s + 3 * mL L5 ≤ 3 * mL L3) (ha : a3 ≤ a5 ∧ a5 ≤ a3 + 14 * (x.s + 1)) : GSide p vars dp a2 L B ns ng n8 n9 (K, i + 1, kids ++ [x], es ++ [e], g5, some m, a5, sd5, L5) := by
  obtain ⟨hK, hi, hlen, hor, hnew, -, -, -, hok0, hdl, hL3, ha3⟩ := h
  refine ⟨hK, by omega, by rw [List.length_append, hlen]; rfl, OR.append hor ⟨hx, trivial⟩, New.snoc hnew w, z, hm, fun b q => by cases q; exact hm2, fun j hj => ?_, by rw [dL_snoc]; omega, ?_, ?_⟩
  · rcases Nat.lt_or_ge j kids.length with h2 | h2
    · rw [List.getElem_append_left h2]; exact hok0 j h2
    · obtain rfl : j = kids.length := by rw [List.length_append] at hj; simp at hj; omega
      rw [List.getElem_append_right (Nat.le_refl _)]
      simp only [Nat.sub_self, List.getElem_cons_zero]
      rw [hlen]; exact hok
  · rw [szs_snoc]; refine ⟨by omega, by omega, by omega⟩
  · rw [szs_snoc]; omega
theorem kids_gen {p : DProgram} {ns ng np : Nat} {c : List Int} {pl : Bool} {vars : Int} {dp a a2 : Nat} {L : Int} {B H : Heap} {n8 n9 : Nat} {K : Int} {i : Nat} {kids : List DExpr} {es : List (List OV)} {g1 : Heap} {o : Option Nat} {a3 : Nat} {sd3 L3 : Int}
    (h : GSide p vars dp a2 L B ns ng n8 n9 (K, i, kids, es, g1, o, a3, sd3, L3)) (hi : (i : Int) = kidsN K) (ha : a ≤ a2 ∧ a2 ≤ a + 4) (h1 : ¬ L - 1 < 1) (hle : (upd (upd (oheap g1 (.row 5 (OV.cells es)) o) ns (srcB c a3 sd3)) ng (genB ns np L3 pl)).le H) :
    ∃ r1 g2, Shift (.agg [I K, I 0, I 0, I 0, onil 5 i o]) H r1 g2 ∧ GenQ p ns ng np c pl vars dp a L B r1 g2 := by
  obtain ⟨hK, -, hlen, hor, hnew, ⟨zs, zg, -, -⟩, hgs, hon, hok, hdl, hL, ha3⟩ := h
  have hes : es.length = i := by rw [← hor.length]; exact hlen
  have hk3 : i ≤ 3 := by
    have : kidsN K ≤ 3 := by unfold kidsN; split <;> (try split) <;> (try split) <;> (try split) <;> omega
    omega
  rw [← hes]
  have hat : ∀ q, B q = B q := fun _ => rfl
  have z (q : Nat) (hq : g1 q = none) (hqo : ∀ m, o = some m → ¬ m = q) : oheap g1 (.row 5 (OV.cells es)) o q = none := oheap_at hq hqo
  refine ⟨_, _, Shift.of (Sub.agg (.cons (.refl _) (.cons (.refl _) (.cons (.refl _) (.cons (.refl _) (.cons gov_sub .nil)))))) hle, .mk K 0 0 0 kids, [.v (I K), .v (I 0), .v (I 0), .v (I 0), gov 5 es o], _, a3, sd3, L3, (DExpr.o_iff _ _).2 ⟨_, rfl, gov_os hor hgs⟩, rfl,
    by simpa only [OV.row_cons, OV.row_nil, OV.v_rows, List.nil_append, List.append_nil] using gov_new hnew hgs, ⟨z ns zs fun m e => (hon m e).1, z ng zg fun m e => (hon m e).2.1⟩, rfl, (DExpr.ok_iff _ _ _ _).2 ⟨?_, hok⟩, by rw [DExpr.d_eq]; simp only [DExpr.fKids]; omega, ?_, ?_⟩
  · rw [nodeOK_plain (by simp only [DExpr.fKind]; omega)]
    simp only [DExpr.fKind, DExpr.fNum, DExpr.fPick, DExpr.fCount, DExpr.fKids]
    refine ⟨by omega, trivial, trivial, fun q => by omega, fun q => by omega, fun _ _ => trivial⟩
  · rw [mk_s]; unfold mL at hL ⊢; refine ⟨by omega, by omega, by omega⟩
  · rw [mk_s]; omega
theorem share {T G : Prop} (m : T → G) (t : T) : G := m t
def keep44 : List Nat := [0, 1, 2, 3, 8, 9, 10, 11, 34, 43, 49, 52, 55, 58, 61, 65, 68, 86, 92, 102]
def ib44 : List Nat := [113]
def mk44 : Marks := fun id => match id with | 32 => ([1, 7, 9, 11], (.op 0 (.op 2 (.op 3 (.op 4 (.op 5 (.op 6 (.op 1 (.op 7 (.op 8 (.op 9 (.op 10 (.op 11 .nil)))))))))))), [(1, 7)]) | _ => ([], .nil, [])
set_option maxRecDepth 100000 in
set_option maxHeartbeats 8000000 in
theorem exprG_step {p : DProgram} {ns ng np : Nat} {c : List Int} {pl : Bool} (hc : ∀ x ∈ c, InB x) (hl : c.length ≤ 4096) (hne : ¬ ns = ng) (hP : FuncsIn p) {dp : Nat} (ih : ∀ d, d + 1 = dp → GenP Tryz.prog 44 p ns ng np c pl d) (hcall : 1 ≤ dp → CallP Tryz.prog 59 p ns ng np c pl dp) : GenP Tryz.prog 44 p ns ng np c pl dp := by
  intro vars B a sd L hB1 hB2 hprog ⟨hv, ha, hL⟩
  have d_ns_ng : ¬ ns = ng := hne
  have d_ng_ns : ¬ ng = ns := Ne.symm d_ns_ng
  have e_ns_ng : (ns = ng) = False := eq_false d_ns_ng
  have e_ng_ns : (ng = ns) = False := eq_false d_ng_ns
  have w1 : IntKind.i64.wrap (L - 1) = L - 1 := IntWalk.i64_in _ (by omega)
  refine fnKF 117 keep44 ib44 mk44 mix Tryz.func44 rfl (by kernel_rfl) (by simp) ?_
  simp (maxSteps := 1000000) -dsimp -implicitDefEqProofs only [go_sem, ↓reduceIte, keep44, ib44, mk44, Tryz.f44, genB]
  intro n8 q8
  have a8 : ¬ n8 = ng := by grind
  have b8 : ¬ n8 = ns := by grind
  have z8 : B n8 = none := by grind
  have d_n8_ng : ¬ n8 = ng := a8
  have d_ng_n8 : ¬ ng = n8 := Ne.symm d_n8_ng
  have e_n8_ng : (n8 = ng) = False := eq_false d_n8_ng
  have e_ng_n8 : (ng = n8) = False := eq_false d_ng_n8
  have d_n8_ns : ¬ n8 = ns := b8
  have d_ns_n8 : ¬ ns = n8 := Ne.symm d_n8_ns
  have e_n8_ns : (n8 = ns) = False := eq_false d_n8_ns
  have e_ns_n8 : (ns = n8) = False := eq_false d_ns_n8
  simp (maxSteps := 1000000) -dsimp -implicitDefEqProofs only [go_sem, ↓reduceIte, keep44, ib44, mk44, Tryz.f44, e_n8_ng, e_n8_ns, e_ng_n8, e_ng_ns, e_ns_n8, e_ns_ng, upd_ne, upd_get, genB, Option.toArray_none, Option.toArray_some, List.filterMap_cons, List.filterMap_nil, List.elem_cons_self, List.nil_append, List.append_nil, List.toList_toArray, w1, upd_swap d_ng_n8, upd_swap d_ns_n8, upd_upd]
  rw [show (HObj.row 4 [[.v (.op ns 3 0 0), .v (.op np 1 0 0), .v (.int .i64 (L - 1)), .v (.bool pl)]]) = genB ns np (L - 1) pl from rfl]
  refine ⟨fun h1 => ⟨fun h2 => ?_, fun h2 => ?_⟩, fun h1 => ?_⟩
  · refine HFnF.mkH (oneH (a := a) (sd := sd) hc hl (by omega) 5 (by omega) (by rw [upd_ne _ _ _ _ d_ns_ng, upd_same])) ?_
    rintro r_ h' ⟨b, a1, sd1, rfl, ha1, rfl⟩
    simp only [upd_swap d_ng_ns, upd_upd]
    cases b
    · simp (maxSteps := 1000000) -dsimp -implicitDefEqProofs only [go_sem, ↓reduceIte, keep44, ib44, mk44, Tryz.f44, e_n8_ng, e_n8_ns, e_ng_n8, e_ng_ns, e_ns_n8, e_ns_ng, upd_ne, upd_get, Option.toArray_none, Option.toArray_some, List.filterMap_cons, List.filterMap_nil, List.elem_cons_self, List.nil_append, List.append_nil, List.toList_toArray]
      intro n9 q9
      have a9 : ¬ n9 = ng := by grind
      have b9 : ¬ n9 = ns := by grind
      have c9 : ¬ n9 = n8 := by grind
      have z9 : B n9 = none := by grind
      have d_n9_ng : ¬ n9 = ng := a9
      have d_ng_n9 : ¬ ng = n9 := Ne.symm d_n9_ng
      have e_n9_ng : (n9 = ng) = False := eq_false d_n9_ng
      have e_ng_n9 : (ng = n9) = False := eq_false d_ng_n9
      have d_n9_ns : ¬ n9 = ns := b9
      have d_ns_n9 : ¬ ns = n9 := Ne.symm d_n9_ns
      have e_n9_ns : (n9 = ns) = False := eq_false d_n9_ns
      have e_ns_n9 : (ns = n9) = False := eq_false d_ns_n9
      have d_n9_n8 : ¬ n9 = n8 := c9
      have d_n8_n9 : ¬ n8 = n9 := Ne.symm d_n9_n8
      have e_n9_n8 : (n9 = n8) = False := eq_false d_n9_n8
      have e_n8_n9 : (n8 = n9) = False := eq_false d_n8_n9
      simp (maxSteps := 1000000) -dsimp -implicitDefEqProofs only [go_sem, ↓reduceIte, keep44, ib44, mk44, Tryz.f44, e_n8_ng, e_n8_ns, e_n8_n9, e_ng_n8, e_ng_ns, e_ng_n9, e_ns_n8, e_ns_ng, e_ns_n9, e_n9_n8, e_n9_ng, e_n9_ns, upd_ne, upd_get, genB, Option.toArray_none, Option.toArray_some, List.filterMap_cons, List.filterMap_nil, List.elem_cons_self, List.nil_append, List.append_nil, List.toList_toArray, upd_swap d_ng_n9, upd_swap d_ns_n9, upd_upd]
      refine HFnF.mkH (pickH (a := a1) (sd := sd1) hc hl (by omega) 12 (by omega) (by rw [upd_ne _ _ _ _ d_ns_ng, upd_same])) ?_
      rintro r_ h' ⟨x, a2, sd2, rfl, x0, x1, -, ha2, rfl⟩
      simp only [upd_swap d_ng_ns, upd_upd]
      simp (maxSteps := 1000000) -dsimp -implicitDefEqProofs only [go_sem, ↓reduceIte, keep44, ib44, mk44, Tryz.f44, e_n8_ng, e_n8_ns, e_n8_n9, e_ng_n8, e_ng_ns, e_ng_n9, e_ns_n8, e_ns_ng, e_ns_n9, e_n9_n8, e_n9_ng, e_n9_ns, upd_ne, upd_get, Option.toArray_none, Option.toArray_some, List.filterMap_cons, List.filterMap_nil, List.elem_cons_self, List.nil_append, List.append_nil, List.toList_toArray, upd_swap d_ng_n9, upd_swap d_ns_n9, upd_upd]
      apply share
      case m =>
        intro key
        repeat' (with_reducible first | intro _ | refine And.intro ?_ ?_)
        all_goals try
          first
          | skip
            refine loopF (keep := keep44) (ib := ib44) (mk := mk44) mix (by kernel_rfl) (fun x : GSt => [(0, .op ng 4 0 0), (1, I vars), (2, I p.fFuncs.length), (3, I dp), (8, .op n8 5 0 0), (9, .op n9 5 0 0), (10, I x.2.1)]) (fun x => upd (upd (upd (upd (oheap x.2.2.2.2.1 (.row 5 (OV.cells x.2.2.2.1)) x.2.2.2.2.2.1) n8 (boxE 0 0 0 0 .nilsl)) n9 (boxE x.1 0 0 0 (onil 5 x.2.1 x.2.2.2.2.2.1))) ns (srcB c x.2.2.2.2.2.2.1 x.2.2.2.2.2.2.2.1)) ng (genB ns np x.2.2.2.2.2.2.2.2 pl)) (fun x => GSide p vars dp a2 L B ns ng n8 n9 x) (fun x => (kidsN x.1).toNat - x.2.1) (7, 0, [], [], B, none, a2, sd2, L - 1) ⟨by simp [SatL, tget], Heap.le_refl _, by decide, by decide, rfl, trivial, New.nil B, ⟨hB1, hB2, z8, z9⟩, rfl, (fun m e => by cases e), (fun j h => by cases h), Nat.zero_le _, ⟨Int.le_refl _, by simp [szs], by simp [szs]⟩, by simp [szs]⟩ ?_
            exact key
          | skip
            refine loopF (keep := keep44) (ib := ib44) (mk := mk44) mix (by kernel_rfl) (fun x : GSt => [(0, .op ng 4 0 0), (1, I vars), (2, I p.fFuncs.length), (3, I dp), (8, .op n8 5 0 0), (9, .op n9 5 0 0), (10, I x.2.1)]) (fun x => upd (upd (upd (upd (oheap x.2.2.2.2.1 (.row 5 (OV.cells x.2.2.2.1)) x.2.2.2.2.2.1) n8 (boxE 0 0 0 0 .nilsl)) n9 (boxE x.1 0 0 0 (onil 5 x.2.1 x.2.2.2.2.2.1))) ns (srcB c x.2.2.2.2.2.2.1 x.2.2.2.2.2.2.2.1)) ng (genB ns np x.2.2.2.2.2.2.2.2 pl)) (fun x => GSide p vars dp a2 L B ns ng n8 n9 x) (fun x => (kidsN x.1).toNat - x.2.1) (9, 0, [], [], B, none, a2, sd2, L - 1) ⟨by simp [SatL, tget], Heap.le_refl _, by decide, by decide, rfl, trivial, New.nil B, ⟨hB1, hB2, z8, z9⟩, rfl, (fun m e => by cases e), (fun j h => by cases h), Nat.zero_le _, ⟨Int.le_refl _, by simp [szs], by simp [szs]⟩, by simp [szs]⟩ ?_
            exact key
          | skip
            refine loopF (keep := keep44) (ib := ib44) (mk := mk44) mix (by kernel_rfl) (fun x : GSt => [(0, .op ng 4 0 0), (1, I vars), (2, I p.fFuncs.length), (3, I dp), (8, .op n8 5 0 0), (9, .op n9 5 0 0), (10, I x.2.1)]) (fun x => upd (upd (upd (upd (oheap x.2.2.2.2.1 (.row 5 (OV.cells x.2.2.2.1)) x.2.2.2.2.2.1) n8 (boxE 0 0 0 0 .nilsl)) n9 (boxE x.1 0 0 0 (onil 5 x.2.1 x.2.2.2.2.2.1))) ns (srcB c x.2.2.2.2.2.2.1 x.2.2.2.2.2.2.2.1)) ng (genB ns np x.2.2.2.2.2.2.2.2 pl)) (fun x => GSide p vars dp a2 L B ns ng n8 n9 x) (fun x => (kidsN x.1).toNat - x.2.1) (8, 0, [], [], B, none, a2, sd2, L - 1) ⟨by simp [SatL, tget], Heap.le_refl _, by decide, by decide, rfl, trivial, New.nil B, ⟨hB1, hB2, z8, z9⟩, rfl, (fun m e => by cases e), (fun j h => by cases h), Nat.zero_le _, ⟨Int.le_refl _, by simp [szs], by simp [szs]⟩, by simp [szs]⟩ ?_
            exact key
          | skip
            refine loopF (keep := keep44) (ib := ib44) (mk := mk44) mix (by kernel_rfl) (fun x : GSt => [(0, .op ng 4 0 0), (1, I vars), (2, I p.fFuncs.length), (3, I dp), (8, .op n8 5 0 0), (9, .op n9 5 0 0), (10, I x.2.1)]) (fun x => upd (upd (upd (upd (oheap x.2.2.2.2.1 (.row 5 (OV.cells x.2.2.2.1)) x.2.2.2.2.2.1) n8 (boxE 0 0 0 0 .nilsl)) n9 (boxE x.1 0 0 0 (onil 5 x.2.1 x.2.2.2.2.2.1))) ns (srcB c x.2.2.2.2.2.2.1 x.2.2.2.2.2.2.2.1)) ng (genB ns np x.2.2.2.2.2.2.2.2 pl)) (fun x => GSide p vars dp a2 L B ns ng n8 n9 x) (fun x => (kidsN x.1).toNat - x.2.1) (6, 0, [], [], B, none, a2, sd2, L - 1) ⟨by simp [SatL, tget], Heap.le_refl _, by decide, by decide, rfl, trivial, New.nil B, ⟨hB1, hB2, z8, z9⟩, rfl, (fun m e => by cases e), (fun j h => by cases h), Nat.zero_le _, ⟨Int.le_refl _, by simp [szs], by simp [szs]⟩, by simp [szs]⟩ ?_
            exact key
          | skip
            refine loopF (keep := keep44) (ib := ib44) (mk := mk44) mix (by kernel_rfl) (fun x : GSt => [(0, .op ng 4 0 0), (1, I vars), (2, I p.fFuncs.length), (3, I dp), (8, .op n8 5 0 0), (9, .op n9 5 0 0), (10, I x.2.1)]) (fun x => upd (upd (upd (upd (oheap x.2.2.2.2.1 (.row 5 (OV.cells x.2.2.2.1)) x.2.2.2.2.2.1) n8 (boxE 0 0 0 0 .nilsl)) n9 (boxE x.1 0 0 0 (onil 5 x.2.1 x.2.2.2.2.2.1))) ns (srcB c x.2.2.2.2.2.2.1 x.2.2.2.2.2.2.2.1)) ng (genB ns np x.2.2.2.2.2.2.2.2 pl)) (fun x => GSide p vars dp a2 L B ns ng n8 n9 x) (fun x => (kidsN x.1).toNat - x.2.1) (3, 0, [], [], B, none, a2, sd2, L - 1) ⟨by simp [SatL, tget], Heap.le_refl _, by decide, by decide, rfl, trivial, New.nil B, ⟨hB1, hB2, z8, z9⟩, rfl, (fun m e => by cases e), (fun j h => by cases h), Nat.zero_le _, ⟨Int.le_refl _, by simp [szs], by simp [szs]⟩, by simp [szs]⟩ ?_
            exact key
          | skip
            refine loopF (keep := keep44) (ib := ib44) (mk := mk44) mix (by kernel_rfl) (fun x : GSt => [(0, .op ng 4 0 0), (1, I vars), (2, I p.fFuncs.length), (3, I dp), (8, .op n8 5 0 0), (9, .op n9 5 0 0), (10, I x.2.1)]) (fun x => upd (upd (upd (upd (oheap x.2.2.2.2.1 (.row 5 (OV.cells x.2.2.2.1)) x.2.2.2.2.2.1) n8 (boxE 0 0 0 0 .nilsl)) n9 (boxE x.1 0 0 0 (onil 5 x.2.1 x.2.2.2.2.2.1))) ns (srcB c x.2.2.2.2.2.2.1 x.2.2.2.2.2.2.2.1)) ng (genB ns np x.2.2.2.2.2.2.2.2 pl)) (fun x => GSide p vars dp a2 L B ns ng n8 n9 x) (fun x => (kidsN x.1).toNat - x.2.1) (4, 0, [], [], B, none, a2, sd2, L - 1) ⟨by simp [SatL, tget], Heap.le_refl _, by decide, by decide, rfl, trivial, New.nil B, ⟨hB1, hB2, z8, z9⟩, rfl, (fun m e => by cases e), (fun j h => by cases h), Nat.zero_le _, ⟨Int.le_refl _, by simp [szs], by simp [szs]⟩, by simp [szs]⟩ ?_
            exact key
          | skip
            refine loopF (keep := keep44) (ib := ib44) (mk := mk44) mix (by kernel_rfl) (fun x : GSt => [(0, .op ng 4 0 0), (1, I vars), (2, I p.fFuncs.length), (3, I dp), (8, .op n8 5 0 0), (9, .op n9 5 0 0), (10, I x.2.1)]) (fun x => upd (upd (upd (upd (oheap x.2.2.2.2.1 (.row 5 (OV.cells x.2.2.2.1)) x.2.2.2.2.2.1) n8 (boxE 0 0 0 0 .nilsl)) n9 (boxE x.1 0 0 0 (onil 5 x.2.1 x.2.2.2.2.2.1))) ns (srcB c x.2.2.2.2.2.2.1 x.2.2.2.2.2.2.2.1)) ng (genB ns np x.2.2.2.2.2.2.2.2 pl)) (fun x => GSide p vars dp a2 L B ns ng n8 n9 x) (fun x => (kidsN x.1).toNat - x.2.1) (5, 0, [], [], B, none, a2, sd2, L - 1) ⟨by simp [SatL, tget], Heap.le_refl _, by decide, by decide, rfl, trivial, New.nil B, ⟨hB1, hB2, z8, z9⟩, rfl, (fun m e => by cases e), (fun j h => by cases h), Nat.zero_le _, ⟨Int.le_refl _, by simp [szs], by simp [szs]⟩, by simp [szs]⟩ ?_
            exact key
        all_goals
          rw [show ∀ H : Heap, upd H ng (HObj.row 4 [[Cell.v (HVal.op ns 3 0 0), Cell.v (HVal.op np 1 0 0), Cell.v (I (L - 1)), Cell.v (HVal.bool pl)]]) = upd H ng (genB ns np (L - 1) pl) from fun _ => rfl]
          refine HFnF.mkH (hcall (by omega) vars _ a2 sd2 (L - 1) (by rw [upd_ne _ _ _ _ d_ns_n9, upd_ne _ _ _ _ d_ns_n8]; exact hB1) (by rw [upd_ne _ _ _ _ d_ng_n9, upd_ne _ _ _ _ d_ng_n8]; exact hB2) (hprog.le (Heap.le_upd z9 (Heap.le_upd z8 (Heap.le_refl _)))) ⟨by omega, by omega⟩ (by unfold mL at ha ⊢; omega) ⟨by omega, by omega, by omega⟩) ?_
          rintro r_ h' ⟨x, e, g', a', sd', L', hx, rfl, hnew, ⟨y1, y2⟩, rfl, hok, hd, hL', ha'⟩
          obtain ⟨g5, rfl, w5, z58, z59⟩ := New.under2 z8 (by rw [upd_ne _ _ _ _ d_n9_n8]; exact z9) hnew
          simp only [upd_get, e_n8_ng, e_n8_ns, e_n8_n9, e_ng_n8, e_ng_ns, e_ng_n9, e_ns_n8, e_ns_ng, e_ns_n9, e_n9_n8, e_n9_ng, e_n9_ns, if_false] at y1 y2 z59
          rw [DExpr.o_iff] at hx
          obtain ⟨y4, rfl, os4⟩ := hx
          simp (maxSteps := 1000000) -dsimp -implicitDefEqProofs only [go_sem, ↓reduceIte, keep44, ib44, mk44, Tryz.f44, e_n8_ng, e_n8_ns, e_n8_n9, e_ng_n8, e_ng_ns, e_ng_n9, e_ns_n8, e_ns_ng, e_ns_n9, e_n9_n8, e_n9_ng, e_n9_ns, upd_ne, upd_get, OV.map_val, OV.map_val_nil, OV.val_v, os4.flat, os4.one]
          exact call_gen (x := x) (a' := a') (sd' := sd') (L' := L') ((DExpr.o_iff _ _).2 ⟨y4, rfl, os4⟩) w5 ⟨y1, y2⟩ hok hd hL' (by omega) h1 (by
            intro q_
            simp only [upd_get]
            grind)
      case t =>
        rintro ⟨K, i, kids, es, g1, o, a3, sd3, L3⟩ hgg
        obtain ⟨hK, hi, hlen, hor, hnew, ⟨zs, zg, z18, z19⟩, hgs, hon, hok, hdl, hL3, ha3⟩ := id hgg
        simp only at hi hlen hor hnew zs zg z18 z19 hgs hon hok hdl hL3 ha3 hK ⊢
        have hkn : 0 ≤ kidsN K ∧ kidsN K ≤ 3 := by unfold kidsN; split <;> (try split) <;> (try split) <;> (try split) <;> omega
        have wd : IntKind.i64.wrap ((dp : Int) - 1) = ((dp - 1 : Nat) : Int) := by rw [IntWalk.i64_in _ (by omega)]; omega
        have hml : 3 * mL (L - 1) + 3 = 3 * mL L := by unfold mL; omega
        have hml2 : mL L ≤ 1000 := by unfold mL; omega
        have wv : IntKind.i64.wrap (vars + 1) = vars + 1 := IntWalk.i64_in _ (by omega)
        unfold boxE
        simp (maxSteps := 1000000) -dsimp -implicitDefEqProofs only [go_sem, ↓reduceIte, keep44, ib44, mk44, Tryz.f44, e_n8_ng, e_n8_ns, e_n8_n9, e_ng_n8, e_ng_ns, e_ng_n9, e_ns_n8, e_ns_ng, e_ns_n9, e_n9_n8, e_n9_ng, e_n9_ns, upd_ne, upd_get, Option.toArray_none, Option.toArray_some, List.filterMap_cons, List.filterMap_nil, List.elem_cons_self, List.nil_append, List.append_nil, List.toList_toArray]
        first | refine HFnF.mk ((l02Kids K)) ?_ | refine CallSF.mk ((l02Kids K)) ?_ | refine HFnF.mkAt ((l02Kids K)) ?_ | refine CallSF.mk (FnAt.fn0 ((l02Kids K))) ?_
        simp (maxSteps := 1000000) -dsimp -implicitDefEqProofs only [go_sem, ↓reduceIte, keep44, ib44, mk44, Tryz.f44, e_n8_ng, e_n8_ns, e_n8_n9, e_ng_n8, e_ng_ns, e_ng_n9, e_ns_n8, e_ns_ng, e_ns_n9, e_n9_n8, e_n9_ng, e_n9_ns, upd_ne, upd_get, Option.toArray_none, Option.toArray_some, List.filterMap_cons, List.filterMap_nil, List.elem_cons_self, List.nil_append, List.append_nil, List.toList_toArray, wd, wv]
        refine ⟨fun hlt => ⟨fun k9 => ⟨fun i1 => ?_, fun i1 => ?_⟩, fun k9 => ?_⟩, fun hge => ⟨onil_flat .., ?_⟩⟩
        · have hV : vars + 1 = moreV K i vars := by unfold moreV; rw [if_pos ⟨k9, by omega⟩]
          cases o with
          | none =>
            rw [gside_none] at hgs
            subst hgs
            obtain rfl : kids = [] := List.length_eq_zero_iff.1 hor.length
            obtain rfl : i = 0 := hlen.symm
            simp only [oheap_none, onil_none]
            refine HFnF.mkH (ih (dp - 1) (by omega) (vars + 1) _ a3 sd3 L3 (by rw [upd_ne _ _ _ _ d_ns_n9, upd_ne _ _ _ _ d_ns_n8]; exact zs) (by rw [upd_ne _ _ _ _ d_ng_n9, upd_ne _ _ _ _ d_ng_n8]; exact zg) (hprog.le (Heap.le_upd z9 (Heap.le_upd z8 hnew.le))) ⟨by omega, by omega, by omega⟩) ?_
            rintro r_ h' ⟨x5, e5, g', a5, sd5, L5, hx, rfl, hnw, ⟨y1, y2⟩, rfl, hok5, hd5, hL5, ha5⟩
            obtain ⟨g5, rfl, w5, z58, z59⟩ := New.under2 z18 (by rw [upd_ne _ _ _ _ d_n9_n8]; exact z19) hnw
            simp only [upd_get, e_n8_ng, e_n8_ns, e_n8_n9, e_ng_n8, e_ng_ns, e_ng_n9, e_ns_n8, e_ns_ng, e_ns_n9, e_n9_n8, e_n9_ng, e_n9_ns, if_false] at y1 y2 z59
            have hx5 := hx
            rw [DExpr.o_iff] at hx
            obtain ⟨y4, rfl, os4⟩ := hx
            simp (maxSteps := 1000000) -dsimp -implicitDefEqProofs only [go_sem, ↓reduceIte, keep44, ib44, mk44, Tryz.f44, e_n8_ng, e_n8_ns, e_n8_n9, e_ng_n8, e_ng_ns, e_ng_n9, e_ns_n8, e_ns_ng, e_ns_n9, e_n9_n8, e_n9_ng, e_n9_ns, upd_ne, upd_get, Option.toArray_none, Option.toArray_some, List.filterMap_cons, List.filterMap_nil, List.elem_cons_self, List.nil_append, List.append_nil, List.toList_toArray, OV.map_val, OV.map_val_nil, OV.val_v, os4.flat, os4.one]
            have ht := take_cells []
            refine ⟨by decide, by decide, by decide, fun m qm => ?_⟩
            have am : ¬ m = ns := by grind
            have bm : ¬ m = ng := by grind
            have cm : ¬ m = n8 := by grind
            have em : ¬ m = n9 := by grind
            have dm : g5 m = none := by grind
            skip
            have d_m_ns : ¬ m = ns := am
            have d_ns_m : ¬ ns = m := Ne.symm d_m_ns
            have e_m_ns : (m = ns) = False := eq_false d_m_ns
            have e_ns_m : (ns = m) = False := eq_false d_ns_m
            have d_m_ng : ¬ m = ng := bm
            have d_ng_m : ¬ ng = m := Ne.symm d_m_ng
            have e_m_ng : (m = ng) = False := eq_false d_m_ng
            have e_ng_m : (ng = m) = False := eq_false d_ng_m
            have d_m_n8 : ¬ m = n8 := cm
            have d_n8_m : ¬ n8 = m := Ne.symm d_m_n8
            have e_m_n8 : (m = n8) = False := eq_false d_m_n8
            have e_n8_m : (n8 = m) = False := eq_false d_n8_m
            have d_m_n9 : ¬ m = n9 := em
            have d_n9_m : ¬ n9 = m := Ne.symm d_m_n9
            have e_m_n9 : (m = n9) = False := eq_false d_m_n9
            have e_n9_m : (n9 = m) = False := eq_false d_n9_m
            simp (maxSteps := 1000000) -dsimp -implicitDefEqProofs only [go_sem, ↓reduceIte, keep44, ib44, mk44, Tryz.f44, e_n8_ng, e_n8_ns, e_n8_n9, e_n8_m, e_ng_n8, e_ng_ns, e_ng_n9, e_ng_m, e_ns_n8, e_ns_ng, e_ns_n9, e_ns_m, e_n9_n8, e_n9_ng, e_n9_ns, e_n9_m, e_m_n8, e_m_ng, e_m_ns, e_m_n9, upd_ne, upd_get, Option.toArray_none, Option.toArray_some, List.filterMap_cons, List.filterMap_nil, List.elem_cons_self, List.nil_append, List.append_nil, List.toList_toArray]
            refine ⟨(K, 0 + 1, [] ++ [x5], [] ++ [[.v (.int .i64 x5.fKind), .v (.int .i64 x5.fNum), .v (.int .i64 x5.fPick), .v (.int .i64 x5.fCount), y4]], g5, some m, a5, sd5, L5), IntWalk.i64_in _ (by omega), ?_, hgg.next hlt hx5 w5 ⟨y1, y2, z58, z59⟩ dm ⟨am, bm, cm, em⟩ (by rw [← hV]; exact hok5) (by omega) hL5 ha5, by simp only; omega⟩
            intro q_
            simp only [upd_get, oheap_some, onil_some, cells_snoc, take_cells, cells_len, cells_one, cells_nil, OV.map_val, OV.map_val_nil, OV.val_v, List.nil_append, List.map_cons, List.map_nil, ht]
            grind
          | some m0 =>
            rw [gside_some] at hgs
            obtain ⟨hm1, hm2, hm3, hm4⟩ := hon m0 rfl
            have d_m0_ns : ¬ m0 = ns := hm1
            have d_ns_m0 : ¬ ns = m0 := Ne.symm d_m0_ns
            have e_m0_ns : (m0 = ns) = False := eq_false d_m0_ns
            have e_ns_m0 : (ns = m0) = False := eq_false d_ns_m0
            have d_m0_ng : ¬ m0 = ng := hm2
            have d_ng_m0 : ¬ ng = m0 := Ne.symm d_m0_ng
            have e_m0_ng : (m0 = ng) = False := eq_false d_m0_ng
            have e_ng_m0 : (ng = m0) = False := eq_false d_ng_m0
            have d_m0_n8 : ¬ m0 = n8 := hm3
            have d_n8_m0 : ¬ n8 = m0 := Ne.symm d_m0_n8
            have e_m0_n8 : (m0 = n8) = False := eq_false d_m0_n8
            have e_n8_m0 : (n8 = m0) = False := eq_false d_n8_m0
            have d_m0_n9 : ¬ m0 = n9 := hm4
            have d_n9_m0 : ¬ n9 = m0 := Ne.symm d_m0_n9
            have e_m0_n9 : (m0 = n9) = False := eq_false d_m0_n9
            have e_n9_m0 : (n9 = m0) = False := eq_false d_n9_m0
            have hBm : B m0 = none := by
              cases hb : B m0 with
              | none => rfl
              | some v => have := hnew.keep hb; rw [hgs] at this; cases this
            simp only [oheap_some, onil_some]
            refine HFnF.mkH (ih (dp - 1) (by omega) (vars + 1) _ a3 sd3 L3 (by rw [upd_ne _ _ _ _ d_ns_n9, upd_ne _ _ _ _ d_ns_n8, upd_ne _ _ _ _ d_ns_m0]; exact zs) (by rw [upd_ne _ _ _ _ d_ng_n9, upd_ne _ _ _ _ d_ng_n8, upd_ne _ _ _ _ d_ng_m0]; exact zg) (hprog.le (Heap.le_upd z9 (Heap.le_upd z8 (Heap.le_upd hBm hnew.le)))) ⟨by omega, by omega, by omega⟩) ?_
            rintro r_ h' ⟨x5, e5, g', a5, sd5, L5, hx, rfl, hnw, ⟨y1, y2⟩, rfl, hok5, hd5, hL5, ha5⟩
            obtain ⟨g5, rfl, w5, z50, z58, z59⟩ := New.under3 hgs (by rw [upd_ne _ _ _ _ d_n8_m0]; exact z18) (by rw [upd_ne _ _ _ _ d_n9_n8, upd_ne _ _ _ _ d_n9_m0]; exact z19) hnw
            simp only [upd_get, e_n8_ng, e_n8_ns, e_n8_n9, e_n8_m0, e_ng_n8, e_ng_ns, e_ng_n9, e_ng_m0, e_ns_n8, e_ns_ng, e_ns_n9, e_ns_m0, e_n9_n8, e_n9_ng, e_n9_ns, e_n9_m0, e_m0_n8, e_m0_ng, e_m0_ns, e_m0_n9, if_false] at y1 y2 z58 z59
            have hx5 := hx
            rw [DExpr.o_iff] at hx
            obtain ⟨y4, rfl, os4⟩ := hx
            simp (maxSteps := 1000000) -dsimp -implicitDefEqProofs only [go_sem, ↓reduceIte, keep44, ib44, mk44, Tryz.f44, e_n8_ng, e_n8_ns, e_n8_n9, e_n8_m0, e_ng_n8, e_ng_ns, e_ng_n9, e_ng_m0, e_ns_n8, e_ns_ng, e_ns_n9, e_ns_m0, e_n9_n8, e_n9_ng, e_n9_ns, e_n9_m0, e_m0_n8, e_m0_ng, e_m0_ns, e_m0_n9, upd_ne, upd_get, Option.toArray_none, Option.toArray_some, List.filterMap_cons, List.filterMap_nil, List.elem_cons_self, List.nil_append, List.append_nil, List.toList_toArray, OV.map_val, OV.map_val_nil, OV.val_v, os4.flat, os4.one, cells_len]
            have ht : List.take i (OV.cells es) = OV.cells es := List.take_of_length_le (by rw [cells_len]; have := hor.length; omega)
            refine ⟨by decide, by decide, by decide, by have := hor.length; omega, by omega, by omega, fun m qm => ?_⟩
            have am : ¬ m = ns := by grind
            have bm : ¬ m = ng := by grind
            have cm : ¬ m = n8 := by grind
            have em : ¬ m = n9 := by grind
            have dm : g5 m = none := by grind
            have fm : ¬ m = m0 := (by grind); have e_m_m0 := eq_false fm; have e_m0_m := eq_false (Ne.symm fm); have d_m_m0 := fm; have d_m0_m := Ne.symm fm
            have d_m_ns : ¬ m = ns := am
            have d_ns_m : ¬ ns = m := Ne.symm d_m_ns
            have e_m_ns : (m = ns) = False := eq_false d_m_ns
            have e_ns_m : (ns = m) = False := eq_false d_ns_m
            have d_m_ng : ¬ m = ng := bm
            have d_ng_m : ¬ ng = m := Ne.symm d_m_ng
            have e_m_ng : (m = ng) = False := eq_false d_m_ng
            have e_ng_m : (ng = m) = False := eq_false d_ng_m
            have d_m_n8 : ¬ m = n8 := cm
            have d_n8_m : ¬ n8 = m := Ne.symm d_m_n8
            have e_m_n8 : (m = n8) = False := eq_false d_m_n8
            have e_n8_m : (n8 = m) = False := eq_false d_n8_m
            have d_m_n9 : ¬ m = n9 := em
            have d_n9_m : ¬ n9 = m := Ne.symm d_m_n9
            have e_m_n9 : (m = n9) = False := eq_false d_m_n9
            have e_n9_m : (n9 = m) = False := eq_false d_n9_m
            simp (maxSteps := 1000000) -dsimp -implicitDefEqProofs only [go_sem, ↓reduceIte, keep44, ib44, mk44, Tryz.f44, e_n8_ng, e_n8_ns, e_n8_n9, e_n8_m, e_ng_n8, e_ng_ns, e_ng_n9, e_ng_m, e_ns_n8, e_ns_ng, e_ns_n9, e_ns_m, e_n9_n8, e_n9_ng, e_n9_ns, e_n9_m, e_m_n8, e_m_ng, e_m_ns, e_m_n9, e_m_m0, e_m_n8, e_m_n9, e_m_ng, e_m_ns, e_m0_m, e_m0_n8, e_m0_n9, e_m0_ng, e_m0_ns, e_n8_m, e_n8_m0, e_n8_n9, e_n8_ng, e_n8_ns, e_n9_m, e_n9_m0, e_n9_n8, e_n9_ng, e_n9_ns, e_ng_m, e_ng_m0, e_ng_n8, e_ng_n9, e_ng_ns, e_ns_m, e_ns_m0, e_ns_n8, e_ns_n9, e_ns_ng, upd_ne, upd_get, Option.toArray_none, Option.toArray_some, List.filterMap_cons, List.filterMap_nil, List.elem_cons_self, List.nil_append, List.append_nil, List.toList_toArray]
            refine ⟨(K, i + 1, kids ++ [x5], es ++ [[.v (.int .i64 x5.fKind), .v (.int .i64 x5.fNum), .v (.int .i64 x5.fPick), .v (.int .i64 x5.fCount), y4]], g5, some m, a5, sd5, L5), IntWalk.i64_in _ (by omega), ?_, hgg.next hlt hx5 w5 ⟨y1, y2, z58, z59⟩ dm ⟨am, bm, cm, em⟩ (by rw [← hV]; exact hok5) (by omega) hL5 ha5, by simp only; omega⟩
            intro q_
            simp only [upd_get, oheap_some, onil_some, cells_snoc, take_cells, cells_len, cells_one, cells_nil, OV.map_val, OV.map_val_nil, OV.val_v, List.nil_append, List.map_cons, List.map_nil, ht]
            grind
        · have hV : vars = moreV K i vars := by unfold moreV; rw [if_neg (fun q => i1 (by omega))]
          cases o with
          | none =>
            rw [gside_none] at hgs
            subst hgs
            obtain rfl : kids = [] := List.length_eq_zero_iff.1 hor.length
            obtain rfl : i = 0 := hlen.symm
            simp only [oheap_none, onil_none]
            refine HFnF.mkH (ih (dp - 1) (by omega) vars _ a3 sd3 L3 (by rw [upd_ne _ _ _ _ d_ns_n9, upd_ne _ _ _ _ d_ns_n8]; exact zs) (by rw [upd_ne _ _ _ _ d_ng_n9, upd_ne _ _ _ _ d_ng_n8]; exact zg) (hprog.le (Heap.le_upd z9 (Heap.le_upd z8 hnew.le))) ⟨by omega, by omega, by omega⟩) ?_
            rintro r_ h' ⟨x5, e5, g', a5, sd5, L5, hx, rfl, hnw, ⟨y1, y2⟩, rfl, hok5, hd5, hL5, ha5⟩
            obtain ⟨g5, rfl, w5, z58, z59⟩ := New.under2 z18 (by rw [upd_ne _ _ _ _ d_n9_n8]; exact z19) hnw
            simp only [upd_get, e_n8_ng, e_n8_ns, e_n8_n9, e_ng_n8, e_ng_ns, e_ng_n9, e_ns_n8, e_ns_ng, e_ns_n9, e_n9_n8, e_n9_ng, e_n9_ns, if_false] at y1 y2 z59
            have hx5 := hx
            rw [DExpr.o_iff] at hx
            obtain ⟨y4, rfl, os4⟩ := hx
            simp (maxSteps := 1000000) -dsimp -implicitDefEqProofs only [go_sem, ↓reduceIte, keep44, ib44, mk44, Tryz.f44, e_n8_ng, e_n8_ns, e_n8_n9, e_ng_n8, e_ng_ns, e_ng_n9, e_ns_n8, e_ns_ng, e_ns_n9, e_n9_n8, e_n9_ng, e_n9_ns, upd_ne, upd_get, Option.toArray_none, Option.toArray_some, List.filterMap_cons, List.filterMap_nil, List.elem_cons_self, List.nil_append, List.append_nil, List.toList_toArray, OV.map_val, OV.map_val_nil, OV.val_v, os4.flat, os4.one]
            have ht := take_cells []
            refine ⟨by decide, by decide, by decide, fun m qm => ?_⟩
            have am : ¬ m = ns := by grind
            have bm : ¬ m = ng := by grind
            have cm : ¬ m = n8 := by grind
            have em : ¬ m = n9 := by grind
            have dm : g5 m = none := by grind
            skip
            have d_m_ns : ¬ m = ns := am
            have d_ns_m : ¬ ns = m := Ne.symm d_m_ns
            have e_m_ns : (m = ns) = False := eq_false d_m_ns
            have e_ns_m : (ns = m) = False := eq_false d_ns_m
            have d_m_ng : ¬ m = ng := bm
            have d_ng_m : ¬ ng = m := Ne.symm d_m_ng
            have e_m_ng : (m = ng) = False := eq_false d_m_ng
            have e_ng_m : (ng = m) = False := eq_false d_ng_m
            have d_m_n8 : ¬ m = n8 := cm
            have d_n8_m : ¬ n8 = m := Ne.symm d_m_n8
            have e_m_n8 : (m = n8) = False := eq_false d_m_n8
            have e_n8_m : (n8 = m) = False := eq_false d_n8_m
            have d_m_n9 : ¬ m = n9 := em
            have d_n9_m : ¬ n9 = m := Ne.symm d_m_n9
            have e_m_n9 : (m = n9) = False := eq_false d_m_n9
            have e_n9_m : (n9 = m) = False := eq_false d_n9_m
            simp (maxSteps := 1000000) -dsimp -implicitDefEqProofs only [go_sem, ↓reduceIte, keep44, ib44, mk44, Tryz.f44, e_n8_ng, e_n8_ns, e_n8_n9, e_n8_m, e_ng_n8, e_ng_ns, e_ng_n9, e_ng_m, e_ns_n8, e_ns_ng, e_ns_n9, e_ns_m, e_n9_n8, e_n9_ng, e_n9_ns, e_n9_m, e_m_n8, e_m_ng, e_m_ns, e_m_n9, upd_ne, upd_get, Option.toArray_none, Option.toArray_some, List.filterMap_cons, List.filterMap_nil, List.elem_cons_self, List.nil_append, List.append_nil, List.toList_toArray]
            refine ⟨(K, 0 + 1, [] ++ [x5], [] ++ [[.v (.int .i64 x5.fKind), .v (.int .i64 x5.fNum), .v (.int .i64 x5.fPick), .v (.int .i64 x5.fCount), y4]], g5, some m, a5, sd5, L5), IntWalk.i64_in _ (by omega), ?_, hgg.next hlt hx5 w5 ⟨y1, y2, z58, z59⟩ dm ⟨am, bm, cm, em⟩ (by rw [← hV]; exact hok5) (by omega) hL5 ha5, by simp only; omega⟩
            intro q_
            simp only [upd_get, oheap_some, onil_some, cells_snoc, take_cells, cells_len, cells_one, cells_nil, OV.map_val, OV.map_val_nil, OV.val_v, List.nil_append, List.map_cons, List.map_nil, ht]
            grind
          | some m0 =>
            rw [gside_some] at hgs
            obtain ⟨hm1, hm2, hm3, hm4⟩ := hon m0 rfl
            have d_m0_ns : ¬ m0 = ns := hm1
            have d_ns_m0 : ¬ ns = m0 := Ne.symm d_m0_ns
            have e_m0_ns : (m0 = ns) = False := eq_false d_m0_ns
            have e_ns_m0 : (ns = m0) = False := eq_false d_ns_m0
            have d_m0_ng : ¬ m0 = ng := hm2
            have d_ng_m0 : ¬ ng = m0 := Ne.symm d_m0_ng
            have e_m0_ng : (m0 = ng) = False := eq_false d_m0_ng
            have e_ng_m0 : (ng = m0) = False := eq_false d_ng_m0
            have d_m0_n8 : ¬ m0 = n8 := hm3
            have d_n8_m0 : ¬ n8 = m0 := Ne.symm d_m0_n8
            have e_m0_n8 : (m0 = n8) = False := eq_false d_m0_n8
            have e_n8_m0 : (n8 = m0) = False := eq_false d_n8_m0
            have d_m0_n9 : ¬ m0 = n9 := hm4
            have d_n9_m0 : ¬ n9 = m0 := Ne.symm d_m0_n9
            have e_m0_n9 : (m0 = n9) = False := eq_false d_m0_n9
            have e_n9_m0 : (n9 = m0) = False := eq_false d_n9_m0
            have hBm : B m0 = none := by
              cases hb : B m0 with
              | none => rfl
              | some v => have := hnew.keep hb; rw [hgs] at this; cases this
            simp only [oheap_some, onil_some]
            refine HFnF.mkH (ih (dp - 1) (by omega) vars _ a3 sd3 L3 (by rw [upd_ne _ _ _ _ d_ns_n9, upd_ne _ _ _ _ d_ns_n8, upd_ne _ _ _ _ d_ns_m0]; exact zs) (by rw [upd_ne _ _ _ _ d_ng_n9, upd_ne _ _ _ _ d_ng_n8, upd_ne _ _ _ _ d_ng_m0]; exact zg) (hprog.le (Heap.le_upd z9 (Heap.le_upd z8 (Heap.le_upd hBm hnew.le)))) ⟨by omega, by omega, by omega⟩) ?_
            rintro r_ h' ⟨x5, e5, g', a5, sd5, L5, hx, rfl, hnw, ⟨y1, y2⟩, rfl, hok5, hd5, hL5, ha5⟩
            obtain ⟨g5, rfl, w5, z50, z58, z59⟩ := New.under3 hgs (by rw [upd_ne _ _ _ _ d_n8_m0]; exact z18) (by rw [upd_ne _ _ _ _ d_n9_n8, upd_ne _ _ _ _ d_n9_m0]; exact z19) hnw
            simp only [upd_get, e_n8_ng, e_n8_ns, e_n8_n9, e_n8_m0, e_ng_n8, e_ng_ns, e_ng_n9, e_ng_m0, e_ns_n8, e_ns_ng, e_ns_n9, e_ns_m0, e_n9_n8, e_n9_ng, e_n9_ns, e_n9_m0, e_m0_n8, e_m0_ng, e_m0_ns, e_m0_n9, if_false] at y1 y2 z58 z59
            have hx5 := hx
            rw [DExpr.o_iff] at hx
            obtain ⟨y4, rfl, os4⟩ := hx
            simp (maxSteps := 1000000) -dsimp -implicitDefEqProofs only [go_sem, ↓reduceIte, keep44, ib44, mk44, Tryz.f44, e_n8_ng, e_n8_ns, e_n8_n9, e_n8_m0, e_ng_n8, e_ng_ns, e_ng_n9, e_ng_m0, e_ns_n8, e_ns_ng, e_ns_n9, e_ns_m0, e_n9_n8, e_n9_ng, e_n9_ns, e_n9_m0, e_m0_n8, e_m0_ng, e_m0_ns, e_m0_n9, upd_ne, upd_get, Option.toArray_none, Option.toArray_some, List.filterMap_cons, List.filterMap_nil, List.elem_cons_self, List.nil_append, List.append_nil, List.toList_toArray, OV.map_val, OV.map_val_nil, OV.val_v, os4.flat, os4.one, cells_len]
            have ht : List.take i (OV.cells es) = OV.cells es := List.take_of_length_le (by rw [cells_len]; have := hor.length; omega)
            refine ⟨by decide, by decide, by decide, by have := hor.length; omega, by omega, by omega, fun m qm => ?_⟩
            have am : ¬ m = ns := by grind
            have bm : ¬ m = ng := by grind
            have cm : ¬ m = n8 := by grind
            have em : ¬ m = n9 := by grind
            have dm : g5 m = none := by grind
            have fm : ¬ m = m0 := (by grind); have e_m_m0 := eq_false fm; have e_m0_m := eq_false (Ne.symm fm); have d_m_m0 := fm; have d_m0_m := Ne.symm fm
            have d_m_ns : ¬ m = ns := am
            have d_ns_m : ¬ ns = m := Ne.symm d_m_ns
            have e_m_ns : (m = ns) = False := eq_false d_m_ns
            have e_ns_m : (ns = m) = False := eq_false d_ns_m
            have d_m_ng : ¬ m = ng := bm
            have d_ng_m : ¬ ng = m := Ne.symm d_m_ng
            have e_m_ng : (m = ng) = False := eq_false d_m_ng
            have e_ng_m : (ng = m) = False := eq_false d_ng_m
            have d_m_n8 : ¬ m = n8 := cm
            have d_n8_m : ¬ n8 = m := Ne.symm d_m_n8
            have e_m_n8 : (m = n8) = False := eq_false d_m_n8
            have e_n8_m : (n8 = m) = False := eq_false d_n8_m
            have d_m_n9 : ¬ m = n9 := em
            have d_n9_m : ¬ n9 = m := Ne.symm d_m_n9
            have e_m_n9 : (m = n9) = False := eq_false d_m_n9
            have e_n9_m : (n9 = m) = False := eq_false d_n9_m
            simp (maxSteps := 1000000) -dsimp -implicitDefEqProofs only [go_sem, ↓reduceIte, keep44, ib44, mk44, Tryz.f44, e_n8_ng, e_n8_ns, e_n8_n9, e_n8_m, e_ng_n8, e_ng_ns, e_ng_n9, e_ng_m, e_ns_n8, e_ns_ng, e_ns_n9, e_ns_m, e_n9_n8, e_n9_ng, e_n9_ns, e_n9_m, e_m_n8, e_m_ng, e_m_ns, e_m_n9, e_m_m0, e_m_n8, e_m_n9, e_m_ng, e_m_ns, e_m0_m, e_m0_n8, e_m0_n9, e_m0_ng, e_m0_ns, e_n8_m, e_n8_m0, e_n8_n9, e_n8_ng, e_n8_ns, e_n9_m, e_n9_m0, e_n9_n8, e_n9_ng, e_n9_ns, e_ng_m, e_ng_m0, e_ng_n8, e_ng_n9, e_ng_ns, e_ns_m, e_ns_m0, e_ns_n8, e_ns_n9, e_ns_ng, upd_ne, upd_get, Option.toArray_none, Option.toArray_some, List.filterMap_cons, List.filterMap_nil, List.elem_cons_self, List.nil_append, List.append_nil, List.toList_toArray]
            refine ⟨(K, i + 1, kids ++ [x5], es ++ [[.v (.int .i64 x5.fKind), .v (.int .i64 x5.fNum), .v (.int .i64 x5.fPick), .v (.int .i64 x5.fCount), y4]], g5, some m, a5, sd5, L5), IntWalk.i64_in _ (by omega), ?_, hgg.next hlt hx5 w5 ⟨y1, y2, z58, z59⟩ dm ⟨am, bm, cm, em⟩ (by rw [← hV]; exact hok5) (by omega) hL5 ha5, by simp only; omega⟩
            intro q_
            simp only [upd_get, oheap_some, onil_some, cells_snoc, take_cells, cells_len, cells_one, cells_nil, OV.map_val, OV.map_val_nil, OV.val_v, List.nil_append, List.map_cons, List.map_nil, ht]
            grind
        · have hV : vars = moreV K i vars := by unfold moreV; rw [if_neg (fun q => k9 q.1)]
          cases o with
          | none =>
            rw [gside_none] at hgs
            subst hgs
            obtain rfl : kids = [] := List.length_eq_zero_iff.1 hor.length
            obtain rfl : i = 0 := hlen.symm
            simp only [oheap_none, onil_none]
            refine HFnF.mkH (ih (dp - 1) (by omega) vars _ a3 sd3 L3 (by rw [upd_ne _ _ _ _ d_ns_n9, upd_ne _ _ _ _ d_ns_n8]; exact zs) (by rw [upd_ne _ _ _ _ d_ng_n9, upd_ne _ _ _ _ d_ng_n8]; exact zg) (hprog.le (Heap.le_upd z9 (Heap.le_upd z8 hnew.le))) ⟨by omega, by omega, by omega⟩) ?_
            rintro r_ h' ⟨x5, e5, g', a5, sd5, L5, hx, rfl, hnw, ⟨y1, y2⟩, rfl, hok5, hd5, hL5, ha5⟩
            obtain ⟨g5, rfl, w5, z58, z59⟩ := New.under2 z18 (by rw [upd_ne _ _ _ _ d_n9_n8]; exact z19) hnw
            simp only [upd_get, e_n8_ng, e_n8_ns, e_n8_n9, e_ng_n8, e_ng_ns, e_ng_n9, e_ns_n8, e_ns_ng, e_ns_n9, e_n9_n8, e_n9_ng, e_n9_ns, if_false] at y1 y2 z59
            have hx5 := hx
            rw [DExpr.o_iff] at hx
            obtain ⟨y4, rfl, os4⟩ := hx
            simp (maxSteps := 1000000) -dsimp -implicitDefEqProofs only [go_sem, ↓reduceIte, keep44, ib44, mk44, Tryz.f44, e_n8_ng, e_n8_ns, e_n8_n9, e_ng_n8, e_ng_ns, e_ng_n9, e_ns_n8, e_ns_ng, e_ns_n9, e_n9_n8, e_n9_ng, e_n9_ns, upd_ne, upd_get, Option.toArray_none, Option.toArray_some, List.filterMap_cons, List.filterMap_nil, List.elem_cons_self, List.nil_append, List.append_nil, List.toList_toArray, OV.map_val, OV.map_val_nil, OV.val_v, os4.flat, os4.one]
            have ht := take_cells []
            refine ⟨by decide, by decide, by decide, fun m qm => ?_⟩
            have am : ¬ m = ns := by grind
            have bm : ¬ m = ng := by grind
            have cm : ¬ m = n8 := by grind
            have em : ¬ m = n9 := by grind
            have dm : g5 m = none := by grind
            skip
            have d_m_ns : ¬ m = ns := am
            have d_ns_m : ¬ ns = m := Ne.symm d_m_ns
            have e_m_ns : (m = ns) = False := eq_false d_m_ns
            have e_ns_m : (ns = m) = False := eq_false d_ns_m
            have d_m_ng : ¬ m = ng := bm
            have d_ng_m : ¬ ng = m := Ne.symm d_m_ng
            have e_m_ng : (m = ng) = False := eq_false d_m_ng
            have e_ng_m : (ng = m) = False := eq_false d_ng_m
            have d_m_n8 : ¬ m = n8 := cm
            have d_n8_m : ¬ n8 = m := Ne.symm d_m_n8
            have e_m_n8 : (m = n8) = False := eq_false d_m_n8
            have e_n8_m : (n8 = m) = False := eq_false d_n8_m
            have d_m_n9 : ¬ m = n9 := em
            have d_n9_m : ¬ n9 = m := Ne.symm d_m_n9
            have e_m_n9 : (m = n9) = False := eq_false d_m_n9
            have e_n9_m : (n9 = m) = False := eq_false d_n9_m
            simp (maxSteps := 1000000) -dsimp -implicitDefEqProofs only [go_sem, ↓reduceIte, keep44, ib44, mk44, Tryz.f44, e_n8_ng, e_n8_ns, e_n8_n9, e_n8_m, e_ng_n8, e_ng_ns, e_ng_n9, e_ng_m, e_ns_n8, e_ns_ng, e_ns_n9, e_ns_m, e_n9_n8, e_n9_ng, e_n9_ns, e_n9_m, e_m_n8, e_m_ng, e_m_ns, e_m_n9, upd_ne, upd_get, Option.toArray_none, Option.toArray_some, List.filterMap_cons, List.filterMap_nil, List.elem_cons_self, List.nil_append, List.append_nil, List.toList_toArray]
            refine ⟨(K, 0 + 1, [] ++ [x5], [] ++ [[.v (.int .i64 x5.fKind), .v (.int .i64 x5.fNum), .v (.int .i64 x5.fPick), .v (.int .i64 x5.fCount), y4]], g5, some m, a5, sd5, L5), IntWalk.i64_in _ (by omega), ?_, hgg.next hlt hx5 w5 ⟨y1, y2, z58, z59⟩ dm ⟨am, bm, cm, em⟩ (by rw [← hV]; exact hok5) (by omega) hL5 ha5, by simp only; omega⟩
            intro q_
            simp only [upd_get, oheap_some, onil_some, cells_snoc, take_cells, cells_len, cells_one, cells_nil, OV.map_val, OV.map_val_nil, OV.val_v, List.nil_append, List.map_cons, List.map_nil, ht]
            grind
          | some m0 =>
            rw [gside_some] at hgs
            obtain ⟨hm1, hm2, hm3, hm4⟩ := hon m0 rfl
            have d_m0_ns : ¬ m0 = ns := hm1
            have d_ns_m0 : ¬ ns = m0 := Ne.symm d_m0_ns
            have e_m0_ns : (m0 = ns) = False := eq_false d_m0_ns
            have e_ns_m0 : (ns = m0) = False := eq_false d_ns_m0
            have d_m0_ng : ¬ m0 = ng := hm2
            have d_ng_m0 : ¬ ng = m0 := Ne.symm d_m0_ng
            have e_m0_ng : (m0 = ng) = False := eq_false d_m0_ng
            have e_ng_m0 : (ng = m0) = False := eq_false d_ng_m0
            have d_m0_n8 : ¬ m0 = n8 := hm3
            have d_n8_m0 : ¬ n8 = m0 := Ne.symm d_m0_n8
            have e_m0_n8 : (m0 = n8) = False := eq_false d_m0_n8
            have e_n8_m0 : (n8 = m0) = False := eq_false d_n8_m0
            have d_m0_n9 : ¬ m0 = n9 := hm4
            have d_n9_m0 : ¬ n9 = m0 := Ne.symm d_m0_n9
            have e_m0_n9 : (m0 = n9) = False := eq_false d_m0_n9
            have e_n9_m0 : (n9 = m0) = False := eq_false d_n9_m0
            have hBm : B m0 = none := by
              cases hb : B m0 with
              | none => rfl
              | some v => have := hnew.keep hb; rw [hgs] at this; cases this
            simp only [oheap_some, onil_some]
            refine HFnF.mkH (ih (dp - 1) (by omega) vars _ a3 sd3 L3 (by rw [upd_ne _ _ _ _ d_ns_n9, upd_ne _ _ _ _ d_ns_n8, upd_ne _ _ _ _ d_ns_m0]; exact zs) (by rw [upd_ne _ _ _ _ d_ng_n9, upd_ne _ _ _ _ d_ng_n8, upd_ne _ _ _ _ d_ng_m0]; exact zg) (hprog.le (Heap.le_upd z9 (Heap.le_upd z8 (Heap.le_upd hBm hnew.le)))) ⟨by omega, by omega, by omega⟩) ?_
            rintro r_ h' ⟨x5, e5, g', a5, sd5, L5, hx, rfl, hnw, ⟨y1, y2⟩, rfl, hok5, hd5, hL5, ha5⟩
            obtain ⟨g5, rfl, w5, z50, z58, z59⟩ := New.under3 hgs (by rw [upd_ne _ _ _ _ d_n8_m0]; exact z18) (by rw [upd_ne _ _ _ _ d_n9_n8, upd_ne _ _ _ _ d_n9_m0]; exact z19) hnw
            simp only [upd_get, e_n8_ng, e_n8_ns, e_n8_n9, e_n8_m0, e_ng_n8, e_ng_ns, e_ng_n9, e_ng_m0, e_ns_n8, e_ns_ng, e_ns_n9, e_ns_m0, e_n9_n8, e_n9_ng, e_n9_ns, e_n9_m0, e_m0_n8, e_m0_ng, e_m0_ns, e_m0_n9, if_false] at y1 y2 z58 z59
            have hx5 := hx
            rw [DExpr.o_iff] at hx
            obtain ⟨y4, rfl, os4⟩ := hx
            simp (maxSteps := 1000000) -dsimp -implicitDefEqProofs only [go_sem, ↓reduceIte, keep44, ib44, mk44, Tryz.f44, e_n8_ng, e_n8_ns, e_n8_n9, e_n8_m0, e_ng_n8, e_ng_ns, e_ng_n9, e_ng_m0, e_ns_n8, e_ns_ng, e_ns_n9, e_ns_m0, e_n9_n8, e_n9_ng, e_n9_ns, e_n9_m0, e_m0_n8, e_m0_ng, e_m0_ns, e_m0_n9, upd_ne, upd_get, Option.toArray_none, Option.toArray_some, List.filterMap_cons, List.filterMap_nil, List.elem_cons_self, List.nil_append, List.append_nil, List.toList_toArray, OV.map_val, OV.map_val_nil, OV.val_v, os4.flat, os4.one, cells_len]
            have ht : List.take i (OV.cells es) = OV.cells es := List.take_of_length_le (by rw [cells_len]; have := hor.length; omega)
            refine ⟨by decide, by decide, by decide, by have := hor.length; omega, by omega, by omega, fun m qm => ?_⟩
            have am : ¬ m = ns := by grind
            have bm : ¬ m = ng := by grind
            have cm : ¬ m = n8 := by grind
            have em : ¬ m = n9 := by grind
            have dm : g5 m = none := by grind
            have fm : ¬ m = m0 := (by grind); have e_m_m0 := eq_false fm; have e_m0_m := eq_false (Ne.symm fm); have d_m_m0 := fm; have d_m0_m := Ne.symm fm
            have d_m_ns : ¬ m = ns := am
            have d_ns_m : ¬ ns = m := Ne.symm d_m_ns
            have e_m_ns : (m = ns) = False := eq_false d_m_ns
            have e_ns_m : (ns = m) = False := eq_false d_ns_m
            have d_m_ng : ¬ m = ng := bm
            have d_ng_m : ¬ ng = m := Ne.symm d_m_ng
            have e_m_ng : (m = ng) = False := eq_false d_m_ng
            have e_ng_m : (ng = m) = False := eq_false d_ng_m
            have d_m_n8 : ¬ m = n8 := cm
            have d_n8_m : ¬ n8 = m := Ne.symm d_m_n8
            have e_m_n8 : (m = n8) = False := eq_false d_m_n8
            have e_n8_m : (n8 = m) = False := eq_false d_n8_m
            have d_m_n9 : ¬ m = n9 := em
            have d_n9_m : ¬ n9 = m := Ne.symm d_m_n9
            have e_m_n9 : (m = n9) = False := eq_false d_m_n9
            have e_n9_m : (n9 = m) = False := eq_false d_n9_m
            simp (maxSteps := 1000000) -dsimp -implicitDefEqProofs only [go_sem, ↓reduceIte, keep44, ib44, mk44, Tryz.f44, e_n8_ng, e_n8_ns, e_n8_n9, e_n8_m, e_ng_n8, e_ng_ns, e_ng_n9, e_ng_m, e_ns_n8, e_ns_ng, e_ns_n9, e_ns_m, e_n9_n8, e_n9_ng, e_n9_ns, e_n9_m, e_m_n8, e_m_ng, e_m_ns, e_m_n9, e_m_m0, e_m_n8, e_m_n9, e_m_ng, e_m_ns, e_m0_m, e_m0_n8, e_m0_n9, e_m0_ng, e_m0_ns, e_n8_m, e_n8_m0, e_n8_n9, e_n8_ng, e_n8_ns, e_n9_m, e_n9_m0, e_n9_n8, e_n9_ng, e_n9_ns, e_ng_m, e_ng_m0, e_ng_n8, e_ng_n9, e_ng_ns, e_ns_m, e_ns_m0, e_ns_n8, e_ns_n9, e_ns_ng, upd_ne, upd_get, Option.toArray_none, Option.toArray_some, List.filterMap_cons, List.filterMap_nil, List.elem_cons_self, List.nil_append, List.append_nil, List.toList_toArray]
            refine ⟨(K, i + 1, kids ++ [x5], es ++ [[.v (.int .i64 x5.fKind), .v (.int .i64 x5.fNum), .v (.int .i64 x5.fPick), .v (.int .i64 x5.fCount), y4]], g5, some m, a5, sd5, L5), IntWalk.i64_in _ (by omega), ?_, hgg.next hlt hx5 w5 ⟨y1, y2, z58, z59⟩ dm ⟨am, bm, cm, em⟩ (by rw [← hV]; exact hok5) (by omega) hL5 ha5, by simp only; omega⟩
            intro q_
            simp only [upd_get, oheap_some, onil_some, cells_snoc, take_cells, cells_len, cells_one, cells_nil, OV.map_val, OV.map_val_nil, OV.val_v, List.nil_append, List.map_cons, List.map_nil, ht]
            grind
        · have hi2 : (i : Int) = kidsN K := by omega
          have y8 : oheap g1 (.row 5 (OV.cells es)) o n8 = none := oheap_at z18 fun m e => (hon m e).2.2.1
          have y9 : oheap g1 (.row 5 (OV.cells es)) o n9 = none := oheap_at z19 fun m e => (hon m e).2.2.2
          exact kids_gen (vars := vars) (a := a) (L := L) hgg hi2 (by omega) h1 (by
            intro q_
            simp only [upd_get]
            grind)
    · simp (maxSteps := 1000000) -dsimp -implicitDefEqProofs only [go_sem, ↓reduceIte, keep44, ib44, mk44, Tryz.f44, e_n8_ng, e_n8_ns, e_ng_n8, e_ng_ns, e_ns_n8, e_ns_ng, upd_ne, upd_get, Option.toArray_none, Option.toArray_some, List.filterMap_cons, List.filterMap_nil, List.elem_cons_self, List.nil_append, List.append_nil, List.toList_toArray]
      refine HFnF.mkH (leafH (np := np) (a := a1) (sd := sd1) (L := L - 1) (pl := pl) (B := upd B n8 (.row 5 [[.v (I 0), .v (I 0), .v (I 0), .v (I 0), .v .nilsl]])) hc hl hne vars (by omega) (by rw [upd_ne _ _ _ _ d_ns_n8]; exact hB1) (by rw [upd_ne _ _ _ _ d_ng_n8]; exact hB2) (by omega)) ?_
      rintro r_ h' ⟨k, n, a', sd', rfl, hkn, ha', rfl⟩
      simp (maxSteps := 1000000) -dsimp -implicitDefEqProofs only [go_sem, ↓reduceIte, keep44, ib44, mk44, Tryz.f44, e_n8_ng, e_n8_ns, e_ng_n8, e_ng_ns, e_ns_n8, e_ns_ng, upd_ne, upd_get, upd_swap d_ng_n8, upd_swap d_ns_n8, upd_upd]
      exact leaf_gen (a := a) (a' := a') (sd' := sd') hkn hB1 hB2 (by omega) (by
        intro q_
        simp only [upd_get]
        grind)
  · refine HFnF.mkH (leafH (np := np) (a := a) (sd := sd) (L := L - 1) (pl := pl) (B := upd B n8 (.row 5 [[.v (I 0), .v (I 0), .v (I 0), .v (I 0), .v .nilsl]])) hc hl hne vars (by omega) (by rw [upd_ne _ _ _ _ d_ns_n8]; exact hB1) (by rw [upd_ne _ _ _ _ d_ng_n8]; exact hB2) (by omega)) ?_
    rintro r_ h' ⟨k, n, a', sd', rfl, hkn, ha', rfl⟩
    simp (maxSteps := 1000000) -dsimp -implicitDefEqProofs only [go_sem, ↓reduceIte, keep44, ib44, mk44, Tryz.f44, e_n8_ng, e_n8_ns, e_ng_n8, e_ng_ns, e_ns_n8, e_ns_ng, upd_ne, upd_get, upd_swap d_ng_n8, upd_swap d_ns_n8, upd_upd]
    exact leaf_gen (a := a) (a' := a') (sd' := sd') hkn hB1 hB2 (by omega) (by
      intro q_
      simp only [upd_get]
      grind)
  · refine HFnF.mkH (leafH (np := np) (a := a) (sd := sd) (L := L - 1) (pl := pl) (B := upd B n8 (.row 5 [[.v (I 0), .v (I 0), .v (I 0), .v (I 0), .v .nilsl]])) hc hl hne vars (by omega) (by rw [upd_ne _ _ _ _ d_ns_n8]; exact hB1) (by rw [upd_ne _ _ _ _ d_ng_n8]; exact hB2) (by omega)) ?_
    rintro r_ h' ⟨k, n, a', sd', rfl, hkn, ha', rfl⟩
    simp (maxSteps := 1000000) -dsimp -implicitDefEqProofs only [go_sem, ↓reduceIte, keep44, ib44, mk44, Tryz.f44, e_n8_ng, e_n8_ns, e_ng_n8, e_ng_ns, e_ns_n8, e_ns_ng, upd_ne, upd_get, upd_swap d_ng_n8, upd_swap d_ns_n8, upd_upd]
    exact leaf_gen (a := a) (a' := a') (sd' := sd') hkn hB1 hB2 (by omega) (by
      intro q_
      simp only [upd_get]
      grind)
end Go.Hl

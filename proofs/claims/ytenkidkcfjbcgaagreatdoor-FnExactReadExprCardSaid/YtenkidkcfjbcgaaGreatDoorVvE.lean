/-
  Contracts of functions and laws of the layer over the walk.
-/
import Derived.Test.YtenkidkcfjbcgaaGreatDoorVvD
import Derived.Test.YtenkidkcfjbcgaaGreatDoorVvC
import Derived.Test.YtenkidkcfjbcgaaGreatDoorHlD
namespace Go.Hl
open Go.Proofs
set_option linter.unusedVariables false
set_option linter.unusedSimpArgs false
def keep72 : List Nat := [0]
def ib72 : List Nat := []
def mk72 : Marks := fun _ => ([], .nil, [])
theorem expr1 {nb : Nat} {p : DProgram} {t : List UInt8} {s : RSt} (hd : 0 ≤ s.d ∧ s.d ≤ 63) {g : Heap} (hg : g nb = some (rdr p t s)) : HFnD Tryz.prog 72 [.ip 1 [[.op nb 5 0 0]] 0 0] g fun _ h' => h' = upd g nb (rdr p t (deeper s (-1))) := by
  have w1 : IntKind.i64.wrap (s.d - 1) = s.d + -1 := IntWalk.i64_in _ (by omega)
  unfold rdr at hg
  refine fnHD 8 keep72 ib72 mk72 mix Tryz.func72 rfl (by kernel_rfl) (by simp) ?_
  simp (maxSteps := 1000000) -dsimp -implicitDefEqProofs only [go_sem, ↓reduceIte, keep72, ib72, mk72, Tryz.f72, hg, w1]
  exact ⟨_, Heap.le_refl _, rfl⟩
def zEo : List OV := [.v (I 0), .v (I 0), .v (I 0), .v (I 0), .nil 5]
theorem zEo_o : zE.o zEo := (DExpr.o_iff _ _).2 ⟨.nil 5, rfl, OS.nil⟩
theorem zEo_sub : Sub (.agg [I 0, I 0, I 0, I 0, .nilsl]) (.agg (zEo.map OV.val)) := Sub.agg (.cons (.refl _) (.cons (.refl _) (.cons (.refl _) (.cons (.refl _) (.cons (Sub.nil 5 true) .nil)))))
theorem zEo_rows : OV.rowsRow zEo = [] := by simp only [zEo, OV.row_cons, OV.row_nil, OV.v_rows, OV.nil_rows, List.append_nil]
/-- The zero expression is handed back. -/
theorem zE_end {B H H' : Heap} {nb : Nat} {R' : HObj} (hB : B nb = none) (hl : (upd B nb R').le H) : ∃ r1 g1, Shift (.agg [I 0, I 0, I 0, I 0, .nilsl]) H r1 g1 ∧ ∃ l g', QA zE.o (fun x => x) r1 l ∧ New B l g' ∧ g' nb = none ∧ g1 = upd g' nb R' :=
  ⟨_, _, Shift.of zEo_sub hl, _, B, ⟨zEo, zEo_o, rfl, rfl⟩, by rw [zEo_rows]; exact New.nil B, hB, rfl⟩
theorem zE_endD {B H : Heap} {nb : Nat} {R' : HObj} (hB : B nb = none) (hl : (upd B nb R').le H) : ∃ g : Heap, g.le H ∧ ∃ r1 g1, Shift (.agg [I 0, I 0, I 0, I 0, .nilsl]) g r1 g1 ∧ ∃ l g', QA zE.o (fun x => x) r1 l ∧ New B l g' ∧ g' nb = none ∧ g1 = upd g' nb R' :=
  ⟨_, hl, zE_end (H' := H) hB (Heap.le_refl _)⟩
theorem Bnd.dd {D D0 : Int} {t : List UInt8} {s r : RSt} {z : Nat} (h : Bnd D t s z r) (g : Good D0 t s) (hD : D ≤ 63 := by omega) : 0 ≤ r.d ∧ r.d ≤ 63 := ⟨Int.le_trans g.d.1 h.d.2, Int.le_trans h.d.1 hD⟩
theorem ex_end {B g2 H : Heap} {nb : Nat} {e : List OV} {x : DExpr} {R' : HObj} {r : HVal} (hx : x.o e) (w : New B (OV.rowsRow e) g2) (z : g2 nb = none) (hr : Sub r (.agg (e.map OV.val))) (hle : (upd g2 nb R').le H) :
    ∃ g : Heap, g.le H ∧ ∃ r1 g1, Shift r g r1 g1 ∧ ∃ l g', QA x.o (fun x => x) r1 l ∧ New B l g' ∧ g' nb = none ∧ g1 = upd g' nb R' :=
  ⟨_, hle, _, _, Shift.of hr (Heap.le_refl _), _, g2, ⟨e, hx, rfl, rfl⟩, w, z, rfl⟩
/-- A leaf. -/
theorem leaf_o (k n : Int) : (DExpr.mk k n 0 0 []).o [.v (I k), .v (I n), .v (I 0), .v (I 0), .nil 5] := (DExpr.o_iff _ _).2 ⟨.nil 5, rfl, OS.nil⟩
theorem leaf_sub (k n : Int) : Sub (.agg [I k, I n, I 0, I 0, .nilsl]) (.agg ([.v (I k), .v (I n), .v (I 0), .v (I 0), .nil 5].map OV.val)) := Sub.agg (.cons (.refl _) (.cons (.refl _) (.cons (.refl _) (.cons (.refl _) (.cons (Sub.nil 5 true) .nil)))))
theorem leaf_rows (k n : Int) : OV.rowsRow [.v (I k), .v (I n), .v (I 0), .v (I 0), .nil 5] = [] := by simp only [OV.row_cons, OV.row_nil, OV.v_rows, OV.nil_rows, List.append_nil]
theorem leaf_end {B H : Heap} {nb : Nat} {R' : HObj} {k n : Int} (hB : B nb = none) (hle : (upd B nb R').le H) :
    ∃ g : Heap, g.le H ∧ ∃ r1 g1, Shift (.agg [I k, I n, I 0, I 0, .nilsl]) g r1 g1 ∧ ∃ l g', QA (DExpr.mk k n 0 0 []).o (fun x => x) r1 l ∧ New B l g' ∧ g' nb = none ∧ g1 = upd g' nb R' :=
  ex_end (leaf_o k n) (by rw [leaf_rows]; exact New.nil B) hB (leaf_sub k n) hle
theorem sign_ix : signB (((0 : Nat) : Int) + 3) = 43 ∧ signB (((1 : Nat) : Int) + 3) = 45 ∧ signB (((2 : Nat) : Int) + 3) = 42 ∧ signB (((3 : Nat) : Int) + 3) = 47 := by decide
theorem opI_at {t : List UInt8} {s : RSt} {j : Nat} (hj : j < 4) (hno : ∀ i : Nat, i < j → tkI t [signB ((i : Int) + 3)] s = false) (h : tkI t [signB ((j : Int) + 3)] s = true) : opI t s = (j : Int) + 3 ∧ opIs t s = s.adv 1 := by
  obtain ⟨e0, e1, e2, e3⟩ := sign_ix
  unfold opIs opI
  match j, hj with
  | 0, _ => rw [e0] at h; simp [h]
  | 1, _ => have h0 := hno 0 (by omega); rw [e0] at h0; rw [e1] at h; simp [h, h0]
  | 2, _ => have h0 := hno 0 (by omega); have h1 := hno 1 (by omega); rw [e0] at h0; rw [e1] at h1; rw [e2] at h; simp [h, h0, h1]
  | 3, _ => have h0 := hno 0 (by omega); have h1 := hno 1 (by omega); have h2 := hno 2 (by omega); rw [e0] at h0; rw [e1] at h1; rw [e2] at h2; rw [e3] at h; simp [h, h0, h1, h2]
theorem opI_none {t : List UInt8} {s : RSt} (hno : ∀ i : Nat, i < 4 → tkI t [signB ((i : Int) + 3)] s = false) : opI t s = 7 ∧ opIs t s = s := by
  obtain ⟨e0, e1, e2, e3⟩ := sign_ix
  have h0 := hno 0 (by omega); have h1 := hno 1 (by omega); have h2 := hno 2 (by omega); have h3 := hno 3 (by omega)
  rw [e0] at h0; rw [e1] at h1; rw [e2] at h2; rw [e3] at h3
  unfold opIs opI
  simp [h0, h1, h2, h3]
def keep48 : List Nat := [0, 1, 2, 3, 4, 5, 6, 7, 8, 9, 10, 28, 35, 50, 80, 86, 92, 119, 125, 131, 137]
def ib48 : List Nat := [1, 46]
def mk48 : Marks := fun id => match id with | 10 => ([3, 8], (.op 0 (.op 1 (.op 2 (.op 4 (.op 5 (.op 6 (.op 7 (.op 3 (.op 8 (.op 9 (.op 10 .nil))))))))))), []) | 12 => ([0, 1, 4, 11], (.op 0 (.op 1 (.op 2 (.op 3 (.op 4 (.op 5 (.op 6 (.op 7 (.op 8 (.op 9 (.op 10 (.op 11 .nil)))))))))))), []) | 25 => ([0, 1, 4, 11], (.op 0 (.op 1 (.op 2 (.op 3 (.op 4 (.op 5 (.op 6 (.op 7 (.op 8 (.op 9 (.op 10 (.op 11 .nil)))))))))))), []) | 35 => ([0, 1, 4, 11], (.op 0 (.op 1 (.op 2 (.op 3 (.op 4 (.op 5 (.op 6 (.op 7 (.op 8 (.op 9 (.op 10 (.op 11 .nil)))))))))))), []) | _ => ([], .nil, [])
set_option maxRecDepth 100000 in
set_option maxHeartbeats 1000000 in
theorem exprIH_step {nb : Nat} {p : DProgram} {t : List UInt8} (ht : t.length ≤ 1048600) (hps : p.s ≤ 4194304) {k : Nat}
    {s : RSt} (ih : ¬ (s.b = true ∨ 60 < s.d + 1) → ∀ s, Good 62 t s → (s.b = false → 60 ≤ s.d + k) → BX Tryz.prog 48 [.op nb 5 0 0] nb (rdr p t s) (rdr p t (exI p t k s).2) (QA (exI p t k s).1.o)) (g0 : Good 62 t s) (hf : s.b = false → 60 ≤ s.d + k + 1) :
    BX Tryz.prog 48 [.op nb 5 0 0] nb (rdr p t s) (rdr p t (exI p t (k + 1) s).2) (QA (exI p t (k + 1) s).1.o) := by
  intro B hB
  have hd := g0.d
  have w1 : IntKind.i64.wrap (s.d + 1) = s.d + 1 := IntWalk.i64_in _ (by omega)
  refine fnDK 161 keep48 ib48 mk48 mix Tryz.func48 rfl (by kernel_rfl) (by simp) ?_
  simp (maxSteps := 1000000) -dsimp -implicitDefEqProofs only [go_sem, ↓reduceIte, keep48, ib48, mk48, Tryz.f48, rdr, w1]
  intro n2 q2
  have d_n2_nb : ¬ n2 = nb := q2.1
  have d_nb_n2 : ¬ nb = n2 := Ne.symm d_n2_nb
  have e_n2_nb : (n2 = nb) = False := eq_false d_n2_nb
  have e_nb_n2 : (nb = n2) = False := eq_false d_nb_n2
  have q2n : B n2 = none := q2.2
  simp (maxSteps := 1000000) -dsimp -implicitDefEqProofs only [go_sem, ↓reduceIte, keep48, ib48, mk48, Tryz.f48, e_n2_nb, e_nb_n2, upd_ne, upd_get, upd_swap d_nb_n2, upd_upd, w1]
  by_cases hq : s.b = true ∨ 60 < s.d + 1
  · rw [exI, if_pos hq]
    have hle : ∀ R' Z, (upd B nb R').le (upd (upd B n2 Z) nb R') := fun R' Z => Heap.le_both ((le_upd q2n).2 (Heap.le_refl _))
    refine ⟨fun hb => ⟨fun _ => zE_endD hB (hle _ _), fun hn => absurd hq (by rw [hb]; simp; omega)⟩, fun hb => zE_endD hB (hle _ _)⟩
  · have hb : s.b = false := by simpa using fun e => hq (.inl e)
    have hd1 : s.d + 1 ≤ 60 := by have : ¬ 60 < s.d + 1 := fun e => hq (.inr e); omega
    rw [exI, if_neg hq]
    have ih := ih hq
    refine ⟨fun _ => ⟨fun h6 => absurd h6 (by omega), fun _ => ?_⟩, fun q => absurd (q.symm.trans hb) (by simp)⟩
    have g1 : Good 62 t (deeper s 1) := ⟨g0.hi, ⟨by show 0 ≤ s.d + 1; omega, by show s.d + 1 ≤ 62; omega⟩, g0.n, fun _ => hd1, fun _ => g0.nn hb⟩
    have hR : (HObj.row 5 [[.v (sls 3 DFunc.c p.fFuncs), .v (.str t), .v (I s.i), .v (.bool s.b), .v (I (s.d + 1))]]) = rdr p t (deeper s 1) := rfl
    rw [hR]
    have hb1 : (deeper s 1).b = false := hb
    have hd2 : (deeper s 1).d = s.d + 1 := rfl
    have hf2 : ∀ s' : RSt, (s'.b = false → s'.d = s.d + 1) → (s'.b = false → 60 ≤ s'.d + k) := fun s' h q => by rw [h q]; have := hf hb; omega
    have hex := exI_b p t k
    generalize deeper s 1 = s1 at *
    refine HFnF.mkH (takeI ht [40] (by simp) g1.le (upd_same ..)) ?_
    rintro r_ h' ⟨rfl, rfl⟩
    rw [upd_upd]
    unfold innerI
    cases hk : tkI t [40] s1
    · simp (maxSteps := 1000000) -dsimp -implicitDefEqProofs only [go_sem, ↓reduceIte, keep48, ib48, mk48, Tryz.f48, Bool.false_eq_true]
      refine HFnF.mkH (runI ht g1.le (upd_same ..)) ?_
      rintro r_ h' ⟨rfl, rfl⟩
      rw [upd_upd]
      have hle : ∀ R' Z, (upd B nb R').le (upd (upd B n2 Z) nb R') := fun R' Z => Heap.le_both ((le_upd q2n).2 (Heap.le_refl _))
      have bw := Bnd.adv g1 (wordAt_len g1.hi)
      have gw := bw.good g1
      have hwl := wordAt_len g1.hi
      generalize wordAt t s1.i = w at *
      cases w with
      | nil =>
        rw [if_neg (by simp), if_pos rfl]
        simp (maxSteps := 1000000) -dsimp -implicitDefEqProofs only [go_sem, ↓reduceIte, keep48, ib48, mk48, Tryz.f48, e_n2_nb, e_nb_n2, upd_ne, upd_get, upd_swap d_nb_n2, upd_upd, rdr]
        refine HFnDF.mk (expr1 (s := s1.fail) ((Bnd.self g1).failed.dd g1) (upd_same ..)) ?_
        rintro r_ h' rfl
        rw [upd_upd]
        simp (maxSteps := 1000000) -dsimp -implicitDefEqProofs only [go_sem, ↓reduceIte, keep48, ib48, mk48, Tryz.f48, e_n2_nb, e_nb_n2, upd_ne, upd_get]
        exact zE_endD hB (hle _ _)
      | cons c w =>
        rw [if_neg (by simp), if_neg (by simp)]
        simp (maxSteps := 1000000) -dsimp -implicitDefEqProofs only [go_sem, ↓reduceIte, keep48, ib48, mk48, Tryz.f48, List.cons_ne_nil, decide_false]
        refine HFnF.mkH (takeI ht [46] (by simp) gw.le (upd_same ..)) ?_
        rintro r_ h' ⟨rfl, rfl⟩
        rw [upd_upd]
        have hdw : (s1.adv (c :: w).length).b = false → (s1.adv (c :: w).length).d = s.d + 1 := fun _ => hd2
        cases hk2 : tkI t [46] (s1.adv (c :: w).length)
        · rw [if_neg (by simp)]
          by_cases hdg : 48 ≤ c.toNat ∧ c.toNat ≤ 57
          · have hN : wordI (exI p t k) t (c :: w) (s1.adv (c :: w).length) = (.mk 1 (rdN (c :: w)) 0 0 [], (s1.adv (c :: w).length).orB (!decide (rdOK 1000002 (c :: w)))) := by
              rw [wordI, if_pos (by simp [digB, hdg.1, hdg.2])]
            rw [hN]
            simp (maxSteps := 1000000) -dsimp -implicitDefEqProofs only [go_sem, ↓reduceIte, keep48, ib48, mk48, Tryz.f48, Bool.false_eq_true, List.getElem?_cons_zero, Int.toNat_zero]
            refine ⟨fun _ => ⟨fun _ => ?_, fun q => absurd q (by omega)⟩, fun q => absurd q (by omega)⟩
            first | refine HFnF.mk (readDecimal (c :: w) 1000002 (by omega) (by omega)) ?_ | refine CallSF.mk (readDecimal (c :: w) 1000002 (by omega) (by omega)) ?_ | refine HFnF.mkAt (readDecimal (c :: w) 1000002 (by omega) (by omega)) ?_ | refine CallSF.mk (FnAt.fn0 (readDecimal (c :: w) 1000002 (by omega) (by omega))) ?_
            simp (maxSteps := 1000000) -dsimp -implicitDefEqProofs only [go_sem, ↓reduceIte, keep48, ib48, mk48, Tryz.f48, e_n2_nb, e_nb_n2, upd_ne, upd_get, upd_swap d_nb_n2, upd_upd, rdr, Option.toArray_none, Option.toArray_some, List.filterMap_cons, List.filterMap_nil, List.elem_cons_self, List.nil_append, List.append_nil, List.toList_toArray]
            refine ⟨fun _ => ?_, fun q => absurd (q.symm.trans hb1) (by simp)⟩
            have hR : (HObj.row 5 [[.v (sls 3 DFunc.c p.fFuncs), .v (.str t), .v (I (s1.adv (w.length + 1)).i), .v (.bool (!decide (rdOK 1000002 (c :: w)))), .v (I (s1.adv (w.length + 1)).d)]]) = rdr p t ((s1.adv (w.length + 1)).orB (!decide (rdOK 1000002 (c :: w)))) := by simp [rdr, RSt.orB, RSt.adv, hb1]
            rw [hR]
            refine HFnDF.mk (expr1 (s := (s1.adv (w.length + 1)).orB (!decide (rdOK 1000002 (c :: w)))) ((bw.or _).dd g1) (upd_same ..)) ?_
            rintro r_ h' rfl
            rw [upd_upd]
            simp (maxSteps := 1000000) -dsimp -implicitDefEqProofs only [go_sem, ↓reduceIte, keep48, ib48, mk48, Tryz.f48, e_n2_nb, e_nb_n2, upd_ne, upd_get]
            exact leaf_end hB (hle _ _)
          · have hnd : ¬ digB ((c :: w).headD 0) = true := by simpa [digB] using hdg
            simp (maxSteps := 1000000) -dsimp -implicitDefEqProofs only [go_sem, ↓reduceIte, keep48, ib48, mk48, Tryz.f48, Bool.false_eq_true, List.getElem?_cons_zero, Int.toNat_zero]
            refine ⟨fun q1 => ⟨fun q2 => absurd (And.intro q1 q2) (by omega), fun q2 => ?_⟩, fun q1 => ?_⟩
            · refine ⟨fun h7 => ?_, fun h7 => ⟨fun h8 => ?_, fun h8 => ⟨fun h9 => ?_, fun h9 => ⟨fun hx => ?_, fun hx => ?_⟩⟩⟩⟩
              · rw [wordI, if_neg hnd, if_pos (show c :: w = neg3 from h7)]
                refine HFnF.mkH (listIH (s := s1.adv (c :: w).length) ht hex (D := s.d + 1) (fun s' g h => ih s' g (hf2 s' h)) gw hdw _ (by rw [upd_ne _ _ _ _ d_nb_n2]; exact hB)) ?_
                rintro r_ h' ⟨l, g9, ⟨y, oy, rfl, rfl⟩, w9, z9, rfl⟩
                obtain ⟨g8, rfl, w8, z82⟩ := New.under q2n w9
                have z8b : g8 nb = none := by rwa [upd_ne _ _ _ _ d_nb_n2] at z9
                simp (maxSteps := 1000000) -dsimp -implicitDefEqProofs only [go_sem, ↓reduceIte, keep48, ib48, mk48, Tryz.f48, e_n2_nb, e_nb_n2, upd_ne, upd_get, upd_swap d_nb_n2, upd_upd, oy.flat, oy.one]
                refine HFnDF.mk (expr1 (s := (listI (exI p t k) t (s1.adv (c :: w).length)).2) ((bw.trans (listI_b hex gw)).dd g1) (upd_same ..)) ?_
                rintro r_ h' rfl
                rw [upd_upd]
                simp (maxSteps := 1000000) -dsimp -implicitDefEqProofs only [go_sem, ↓reduceIte, keep48, ib48, mk48, Tryz.f48, e_n2_nb, e_nb_n2, upd_ne, upd_get]
                exact ex_end (e := [.v (I 7), .v (I 0), .v (I 0), .v (I 0), y]) ((DExpr.o_iff _ _).2 ⟨y, rfl, oy⟩) (by simpa only [OV.row_cons, OV.row_nil, OV.v_rows, List.nil_append, List.append_nil] using w8) z8b (Sub.refl _) (Heap.le_both ((le_upd z82).2 (Heap.le_refl _)))
              · rw [wordI, if_neg hnd, if_neg (show ¬ c :: w = neg3 from h7), if_pos (show c :: w = if2 from h8)]
                refine HFnF.mkH (listIH (s := s1.adv (c :: w).length) ht hex (D := s.d + 1) (fun s' g h => ih s' g (hf2 s' h)) gw hdw _ (by rw [upd_ne _ _ _ _ d_nb_n2]; exact hB)) ?_
                rintro r_ h' ⟨l, g9, ⟨y, oy, rfl, rfl⟩, w9, z9, rfl⟩
                obtain ⟨g8, rfl, w8, z82⟩ := New.under q2n w9
                have z8b : g8 nb = none := by rwa [upd_ne _ _ _ _ d_nb_n2] at z9
                simp (maxSteps := 1000000) -dsimp -implicitDefEqProofs only [go_sem, ↓reduceIte, keep48, ib48, mk48, Tryz.f48, e_n2_nb, e_nb_n2, upd_ne, upd_get, upd_swap d_nb_n2, upd_upd, oy.flat, oy.one]
                refine HFnDF.mk (expr1 (s := (listI (exI p t k) t (s1.adv (c :: w).length)).2) ((bw.trans (listI_b hex gw)).dd g1) (upd_same ..)) ?_
                rintro r_ h' rfl
                rw [upd_upd]
                simp (maxSteps := 1000000) -dsimp -implicitDefEqProofs only [go_sem, ↓reduceIte, keep48, ib48, mk48, Tryz.f48, e_n2_nb, e_nb_n2, upd_ne, upd_get]
                exact ex_end (e := [.v (I 8), .v (I 0), .v (I 0), .v (I 0), y]) ((DExpr.o_iff _ _).2 ⟨y, rfl, oy⟩) (by simpa only [OV.row_cons, OV.row_nil, OV.v_rows, List.nil_append, List.append_nil] using w8) z8b (Sub.refl _) (Heap.le_both ((le_upd z82).2 (Heap.le_refl _)))
              · rw [wordI, if_neg hnd, if_neg (show ¬ c :: w = neg3 from h7), if_neg (show ¬ c :: w = if2 from h8), if_pos (show c :: w = let3 from h9)]
                refine HFnF.mkH (listIH (s := s1.adv (c :: w).length) ht hex (D := s.d + 1) (fun s' g h => ih s' g (hf2 s' h)) gw hdw _ (by rw [upd_ne _ _ _ _ d_nb_n2]; exact hB)) ?_
                rintro r_ h' ⟨l, g9, ⟨y, oy, rfl, rfl⟩, w9, z9, rfl⟩
                obtain ⟨g8, rfl, w8, z82⟩ := New.under q2n w9
                have z8b : g8 nb = none := by rwa [upd_ne _ _ _ _ d_nb_n2] at z9
                simp (maxSteps := 1000000) -dsimp -implicitDefEqProofs only [go_sem, ↓reduceIte, keep48, ib48, mk48, Tryz.f48, e_n2_nb, e_nb_n2, upd_ne, upd_get, upd_swap d_nb_n2, upd_upd, oy.flat, oy.one]
                refine HFnDF.mk (expr1 (s := (listI (exI p t k) t (s1.adv (c :: w).length)).2) ((bw.trans (listI_b hex gw)).dd g1) (upd_same ..)) ?_
                rintro r_ h' rfl
                rw [upd_upd]
                simp (maxSteps := 1000000) -dsimp -implicitDefEqProofs only [go_sem, ↓reduceIte, keep48, ib48, mk48, Tryz.f48, e_n2_nb, e_nb_n2, upd_ne, upd_get]
                exact ex_end (e := [.v (I 9), .v (I 0), .v (I 0), .v (I 0), y]) ((DExpr.o_iff _ _).2 ⟨y, rfl, oy⟩) (by simpa only [OV.row_cons, OV.row_nil, OV.v_rows, List.nil_append, List.append_nil] using w8) z8b (Sub.refl _) (Heap.le_both ((le_upd z82).2 (Heap.le_refl _)))
              · have hcx : (c :: w).headD 0 = 120 := by show c = 120; exact UInt8.toNat_inj.1 (by have : (c.toNat : Int) = 120 := hx; show c.toNat = 120; omega)
                rw [wordI, if_neg hnd, if_neg (show ¬ c :: w = neg3 from h7), if_neg (show ¬ c :: w = if2 from h8), if_neg (show ¬ c :: w = let3 from h9), if_pos hcx]
                refine ⟨by omega, Nat.le_refl _, ?_⟩
                rw [show List.drop (Int.toNat 1) (c :: List.take w.length w) = w by simp]
                have hwl2 : w.length ≤ 1048600 := by simp only [List.length_cons] at hwl; omega
                first | refine HFnF.mk (readDecimal w 812 hwl2 (by omega)) ?_ | refine CallSF.mk (readDecimal w 812 hwl2 (by omega)) ?_ | refine HFnF.mkAt (readDecimal w 812 hwl2 (by omega)) ?_ | refine CallSF.mk (FnAt.fn0 (readDecimal w 812 hwl2 (by omega))) ?_
                simp (maxSteps := 1000000) -dsimp -implicitDefEqProofs only [go_sem, ↓reduceIte, keep48, ib48, mk48, Tryz.f48, e_n2_nb, e_nb_n2, upd_ne, upd_get, upd_swap d_nb_n2, upd_upd, rdr, Option.toArray_none, Option.toArray_some, List.filterMap_cons, List.filterMap_nil, List.elem_cons_self, List.nil_append, List.append_nil, List.toList_toArray]
                refine ⟨fun _ => ?_, fun q => absurd (q.symm.trans hb1) (by simp)⟩
                have hR : (HObj.row 5 [[.v (sls 3 DFunc.c p.fFuncs), .v (.str t), .v (I (s1.adv (w.length + 1)).i), .v (.bool (!decide (rdOK 812 w))), .v (I (s1.adv (w.length + 1)).d)]]) = rdr p t ((s1.adv (w.length + 1)).orB (!decide (rdOK 812 w))) := by simp [rdr, RSt.orB, RSt.adv, hb1]
                rw [hR]
                refine HFnDF.mk (expr1 (s := (s1.adv (w.length + 1)).orB (!decide (rdOK 812 w))) ((bw.or _).dd g1) (upd_same ..)) ?_
                rintro r_ h' rfl
                rw [upd_upd]
                simp (maxSteps := 1000000) -dsimp -implicitDefEqProofs only [go_sem, ↓reduceIte, keep48, ib48, mk48, Tryz.f48, e_n2_nb, e_nb_n2, upd_ne, upd_get]
                exact leaf_end hB (hle _ _)
              · have hcx : ¬ (c :: w).headD 0 = 120 := fun e => hx (by have e : c = 120 := e; rw [e]; rfl)
                rw [wordI, if_neg hnd, if_neg (show ¬ c :: w = neg3 from h7), if_neg (show ¬ c :: w = if2 from h8), if_neg (show ¬ c :: w = let3 from h9), if_neg hcx]
                simp (maxSteps := 1000000) -dsimp -implicitDefEqProofs only [go_sem, ↓reduceIte, keep48, ib48, mk48, Tryz.f48, e_n2_nb, e_nb_n2, upd_ne, upd_get, upd_swap d_nb_n2, upd_upd, rdr]
                refine HFnDF.mk (expr1 (s := (s1.adv (c :: w).length).fail) (bw.failed.dd g1) (upd_same ..)) ?_
                rintro r_ h' rfl
                rw [upd_upd]
                simp (maxSteps := 1000000) -dsimp -implicitDefEqProofs only [go_sem, ↓reduceIte, keep48, ib48, mk48, Tryz.f48, e_n2_nb, e_nb_n2, upd_ne, upd_get]
                exact zE_endD hB (hle _ _)
            · refine ⟨fun h7 => ?_, fun h7 => ⟨fun h8 => ?_, fun h8 => ⟨fun h9 => ?_, fun h9 => ⟨fun hx => ?_, fun hx => ?_⟩⟩⟩⟩
              · rw [wordI, if_neg hnd, if_pos (show c :: w = neg3 from h7)]
                refine HFnF.mkH (listIH (s := s1.adv (c :: w).length) ht hex (D := s.d + 1) (fun s' g h => ih s' g (hf2 s' h)) gw hdw _ (by rw [upd_ne _ _ _ _ d_nb_n2]; exact hB)) ?_
                rintro r_ h' ⟨l, g9, ⟨y, oy, rfl, rfl⟩, w9, z9, rfl⟩
                obtain ⟨g8, rfl, w8, z82⟩ := New.under q2n w9
                have z8b : g8 nb = none := by rwa [upd_ne _ _ _ _ d_nb_n2] at z9
                simp (maxSteps := 1000000) -dsimp -implicitDefEqProofs only [go_sem, ↓reduceIte, keep48, ib48, mk48, Tryz.f48, e_n2_nb, e_nb_n2, upd_ne, upd_get, upd_swap d_nb_n2, upd_upd, oy.flat, oy.one]
                refine HFnDF.mk (expr1 (s := (listI (exI p t k) t (s1.adv (c :: w).length)).2) ((bw.trans (listI_b hex gw)).dd g1) (upd_same ..)) ?_
                rintro r_ h' rfl
                rw [upd_upd]
                simp (maxSteps := 1000000) -dsimp -implicitDefEqProofs only [go_sem, ↓reduceIte, keep48, ib48, mk48, Tryz.f48, e_n2_nb, e_nb_n2, upd_ne, upd_get]
                exact ex_end (e := [.v (I 7), .v (I 0), .v (I 0), .v (I 0), y]) ((DExpr.o_iff _ _).2 ⟨y, rfl, oy⟩) (by simpa only [OV.row_cons, OV.row_nil, OV.v_rows, List.nil_append, List.append_nil] using w8) z8b (Sub.refl _) (Heap.le_both ((le_upd z82).2 (Heap.le_refl _)))
              · rw [wordI, if_neg hnd, if_neg (show ¬ c :: w = neg3 from h7), if_pos (show c :: w = if2 from h8)]
                refine HFnF.mkH (listIH (s := s1.adv (c :: w).length) ht hex (D := s.d + 1) (fun s' g h => ih s' g (hf2 s' h)) gw hdw _ (by rw [upd_ne _ _ _ _ d_nb_n2]; exact hB)) ?_
                rintro r_ h' ⟨l, g9, ⟨y, oy, rfl, rfl⟩, w9, z9, rfl⟩
                obtain ⟨g8, rfl, w8, z82⟩ := New.under q2n w9
                have z8b : g8 nb = none := by rwa [upd_ne _ _ _ _ d_nb_n2] at z9
                simp (maxSteps := 1000000) -dsimp -implicitDefEqProofs only [go_sem, ↓reduceIte, keep48, ib48, mk48, Tryz.f48, e_n2_nb, e_nb_n2, upd_ne, upd_get, upd_swap d_nb_n2, upd_upd, oy.flat, oy.one]
                refine HFnDF.mk (expr1 (s := (listI (exI p t k) t (s1.adv (c :: w).length)).2) ((bw.trans (listI_b hex gw)).dd g1) (upd_same ..)) ?_
                rintro r_ h' rfl
                rw [upd_upd]
                simp (maxSteps := 1000000) -dsimp -implicitDefEqProofs only [go_sem, ↓reduceIte, keep48, ib48, mk48, Tryz.f48, e_n2_nb, e_nb_n2, upd_ne, upd_get]
                exact ex_end (e := [.v (I 8), .v (I 0), .v (I 0), .v (I 0), y]) ((DExpr.o_iff _ _).2 ⟨y, rfl, oy⟩) (by simpa only [OV.row_cons, OV.row_nil, OV.v_rows, List.nil_append, List.append_nil] using w8) z8b (Sub.refl _) (Heap.le_both ((le_upd z82).2 (Heap.le_refl _)))
              · rw [wordI, if_neg hnd, if_neg (show ¬ c :: w = neg3 from h7), if_neg (show ¬ c :: w = if2 from h8), if_pos (show c :: w = let3 from h9)]
                refine HFnF.mkH (listIH (s := s1.adv (c :: w).length) ht hex (D := s.d + 1) (fun s' g h => ih s' g (hf2 s' h)) gw hdw _ (by rw [upd_ne _ _ _ _ d_nb_n2]; exact hB)) ?_
                rintro r_ h' ⟨l, g9, ⟨y, oy, rfl, rfl⟩, w9, z9, rfl⟩
                obtain ⟨g8, rfl, w8, z82⟩ := New.under q2n w9
                have z8b : g8 nb = none := by rwa [upd_ne _ _ _ _ d_nb_n2] at z9
                simp (maxSteps := 1000000) -dsimp -implicitDefEqProofs only [go_sem, ↓reduceIte, keep48, ib48, mk48, Tryz.f48, e_n2_nb, e_nb_n2, upd_ne, upd_get, upd_swap d_nb_n2, upd_upd, oy.flat, oy.one]
                refine HFnDF.mk (expr1 (s := (listI (exI p t k) t (s1.adv (c :: w).length)).2) ((bw.trans (listI_b hex gw)).dd g1) (upd_same ..)) ?_
                rintro r_ h' rfl
                rw [upd_upd]
                simp (maxSteps := 1000000) -dsimp -implicitDefEqProofs only [go_sem, ↓reduceIte, keep48, ib48, mk48, Tryz.f48, e_n2_nb, e_nb_n2, upd_ne, upd_get]
                exact ex_end (e := [.v (I 9), .v (I 0), .v (I 0), .v (I 0), y]) ((DExpr.o_iff _ _).2 ⟨y, rfl, oy⟩) (by simpa only [OV.row_cons, OV.row_nil, OV.v_rows, List.nil_append, List.append_nil] using w8) z8b (Sub.refl _) (Heap.le_both ((le_upd z82).2 (Heap.le_refl _)))
              · have hcx : (c :: w).headD 0 = 120 := by show c = 120; exact UInt8.toNat_inj.1 (by have : (c.toNat : Int) = 120 := hx; show c.toNat = 120; omega)
                rw [wordI, if_neg hnd, if_neg (show ¬ c :: w = neg3 from h7), if_neg (show ¬ c :: w = if2 from h8), if_neg (show ¬ c :: w = let3 from h9), if_pos hcx]
                refine ⟨by omega, Nat.le_refl _, ?_⟩
                rw [show List.drop (Int.toNat 1) (c :: List.take w.length w) = w by simp]
                have hwl2 : w.length ≤ 1048600 := by simp only [List.length_cons] at hwl; omega
                first | refine HFnF.mk (readDecimal w 812 hwl2 (by omega)) ?_ | refine CallSF.mk (readDecimal w 812 hwl2 (by omega)) ?_ | refine HFnF.mkAt (readDecimal w 812 hwl2 (by omega)) ?_ | refine CallSF.mk (FnAt.fn0 (readDecimal w 812 hwl2 (by omega))) ?_
                simp (maxSteps := 1000000) -dsimp -implicitDefEqProofs only [go_sem, ↓reduceIte, keep48, ib48, mk48, Tryz.f48, e_n2_nb, e_nb_n2, upd_ne, upd_get, upd_swap d_nb_n2, upd_upd, rdr, Option.toArray_none, Option.toArray_some, List.filterMap_cons, List.filterMap_nil, List.elem_cons_self, List.nil_append, List.append_nil, List.toList_toArray]
                refine ⟨fun _ => ?_, fun q => absurd (q.symm.trans hb1) (by simp)⟩
                have hR : (HObj.row 5 [[.v (sls 3 DFunc.c p.fFuncs), .v (.str t), .v (I (s1.adv (w.length + 1)).i), .v (.bool (!decide (rdOK 812 w))), .v (I (s1.adv (w.length + 1)).d)]]) = rdr p t ((s1.adv (w.length + 1)).orB (!decide (rdOK 812 w))) := by simp [rdr, RSt.orB, RSt.adv, hb1]
                rw [hR]
                refine HFnDF.mk (expr1 (s := (s1.adv (w.length + 1)).orB (!decide (rdOK 812 w))) ((bw.or _).dd g1) (upd_same ..)) ?_
                rintro r_ h' rfl
                rw [upd_upd]
                simp (maxSteps := 1000000) -dsimp -implicitDefEqProofs only [go_sem, ↓reduceIte, keep48, ib48, mk48, Tryz.f48, e_n2_nb, e_nb_n2, upd_ne, upd_get]
                exact leaf_end hB (hle _ _)
              · have hcx : ¬ (c :: w).headD 0 = 120 := fun e => hx (by have e : c = 120 := e; rw [e]; rfl)
                rw [wordI, if_neg hnd, if_neg (show ¬ c :: w = neg3 from h7), if_neg (show ¬ c :: w = if2 from h8), if_neg (show ¬ c :: w = let3 from h9), if_neg hcx]
                simp (maxSteps := 1000000) -dsimp -implicitDefEqProofs only [go_sem, ↓reduceIte, keep48, ib48, mk48, Tryz.f48, e_n2_nb, e_nb_n2, upd_ne, upd_get, upd_swap d_nb_n2, upd_upd, rdr]
                refine HFnDF.mk (expr1 (s := (s1.adv (c :: w).length).fail) (bw.failed.dd g1) (upd_same ..)) ?_
                rintro r_ h' rfl
                rw [upd_upd]
                simp (maxSteps := 1000000) -dsimp -implicitDefEqProofs only [go_sem, ↓reduceIte, keep48, ib48, mk48, Tryz.f48, e_n2_nb, e_nb_n2, upd_ne, upd_get]
                exact zE_endD hB (hle _ _)
        · have bw2 := bw.trans (Bnd.adv gw (tkI_len1 gw hk2))
          have gw2 := bw2.good g1
          simp (maxSteps := 1000000) -dsimp -implicitDefEqProofs only [go_sem, ↓reduceIte, keep48, ib48, mk48, Tryz.f48]
          refine HFnF.mkH (callIH (s := (s1.adv (c :: w).length).adv 1) ht hps hex (D := s.d + 1) (fun s' g h => ih s' g (hf2 s' h)) (c :: w) gw2 (fun _ => hd2) _ (by rw [upd_ne _ _ _ _ d_nb_n2]; exact hB)) ?_
          rintro r_ h' ⟨l, g9, ⟨e, oe, rfl, rfl⟩, w9, z9, rfl⟩
          obtain ⟨g8, rfl, w8, z82⟩ := New.under q2n w9
          have z8b : g8 nb = none := by rwa [upd_ne _ _ _ _ d_nb_n2] at z9
          have bfin := (bw2.trans (callI_b (p := p) (name := c :: w) hex gw2)).dd g1
          generalize callI (exI p t k) p t (c :: w) ((s1.adv (c :: w).length).adv 1) = R at *
          have oe1 := oe
          rw [DExpr.o_iff] at oe1
          obtain ⟨y4, rfl, os4⟩ := oe1
          simp (maxSteps := 1000000) -dsimp -implicitDefEqProofs only [go_sem, ↓reduceIte, keep48, ib48, mk48, Tryz.f48, e_n2_nb, e_nb_n2, upd_ne, upd_get, upd_swap d_nb_n2, upd_upd, OV.map_val, OV.map_val_nil, OV.val_v, os4.flat, os4.one]
          refine HFnDF.mk (expr1 (s := R.2) (bfin) (upd_same ..)) ?_
          rintro r_ h' rfl
          rw [upd_upd]
          simp (maxSteps := 1000000) -dsimp -implicitDefEqProofs only [go_sem, ↓reduceIte, keep48, ib48, mk48, Tryz.f48, e_n2_nb, e_nb_n2, upd_ne, upd_get]
          exact ex_end oe w8 z8b (Sub.refl _) (Heap.le_both ((le_upd z82).2 (Heap.le_refl _)))
    · simp (maxSteps := 1000000) -dsimp -implicitDefEqProofs only [go_sem, ↓reduceIte, keep48, ib48, mk48, Tryz.f48]
      rw [if_pos rfl]
      have ba := Bnd.adv g1 (tkI_len1 g1 hk)
      have ga := ba.good g1
      refine HFnF.mkH (ih (s1.adv 1) ga (hf2 _ fun _ => hd2) _ (by rw [upd_ne _ _ _ _ d_nb_n2]; exact hB)) ?_
      rintro r_ h' ⟨l, g9, ⟨ea, oa, rfl, rfl⟩, w9, z9, rfl⟩
      obtain ⟨g8, rfl, w8, z82⟩ := New.under q2n w9
      have z8b : g8 nb = none := by rwa [upd_ne _ _ _ _ d_nb_n2] at z9
      have b2 := ba.trans (hex.ok ga hb1)
      have g2 := b2.good g1
      have b3 := b2.trans (wantI_b (x := [32]) g2)
      have g3 := b3.good g1
      have b4 := (b3.trans (opIs_b g3)).or (decide (opI t (wantI t [32] (exI p t k (s1.adv 1)).2) = 7))
      have g4 := b4.good g1
      have b5 := b4.trans (wantI_b (x := [32]) g4)
      have g5 := b5.good g1
      have b6 := b5.trans ((hex _ g5).le (D' := 63) (Nat.le_refl _) (by split <;> omega))
      have b7 := b6.trans (wantI_b (x := [41]) (b6.good g1))
      unfold binI binI1 binI2
      generalize hra : exI p t k (s1.adv 1) = ra at *
      obtain ⟨a, s2⟩ := ra
      simp only at oa b2 g2 b3 g3 b4 g4 b5 g5 b6 b7 ⊢
      have oa1 := oa
      rw [DExpr.o_iff] at oa1
      obtain ⟨ya, rfl, osa⟩ := oa1
      simp (maxSteps := 1000000) -dsimp -implicitDefEqProofs only [go_sem, ↓reduceIte, keep48, ib48, mk48, Tryz.f48, e_n2_nb, e_nb_n2, upd_ne, upd_get, upd_swap d_nb_n2, upd_upd, OV.map_val, OV.map_val_nil, OV.val_v, osa.flat, osa.one]
      intro n3 q3
      have a3 : ¬ n3 = nb := by grind
      have b3n : ¬ n3 = n2 := by grind
      have z83 : g8 n3 = none := by grind
      have d_n3_nb : ¬ n3 = nb := a3
      have d_nb_n3 : ¬ nb = n3 := Ne.symm d_n3_nb
      have e_n3_nb : (n3 = nb) = False := eq_false d_n3_nb
      have e_nb_n3 : (nb = n3) = False := eq_false d_nb_n3
      have d_n3_n2 : ¬ n3 = n2 := b3n
      have d_n2_n3 : ¬ n2 = n3 := Ne.symm d_n3_n2
      have e_n3_n2 : (n3 = n2) = False := eq_false d_n3_n2
      have e_n2_n3 : (n2 = n3) = False := eq_false d_n2_n3
      rw [upd_swap d_nb_n3]
      refine HFnF.mkH (wantIH ht [32] (by simp) g2.le (upd_same ..)) ?_
      rintro r_ h' ⟨rfl, rfl⟩
      rw [upd_upd]
      generalize wantI t [32] s2 = s3 at *
      simp (maxSteps := 1000000) -dsimp -implicitDefEqProofs only [go_sem, ↓reduceIte, keep48, ib48, mk48, Tryz.f48, e_n2_nb, e_n2_n3, e_nb_n2, e_nb_n3, e_n3_n2, e_n3_nb, upd_ne, upd_get, upd_swap d_nb_n2, upd_swap d_nb_n3, upd_upd]
      refine loopF (keep := keep48) (ib := ib48) (mk := mk48) mix (by kernel_rfl) (fun j : Nat => [(1, .ip 1 [[.op nb 5 0 0]] 0 0), (2, .op n2 5 0 0), (3, .op n3 5 0 0), (4, I ((j : Int) + 3))]) (fun _ => upd (upd (upd g8 n2 (.row 5 [[.v (I 0), .v (I 0), .v (I 0), .v (I 0), .v .nilsl]])) n3 (.row 5 [[.v (I a.fKind), .v (I a.fNum), .v (I a.fPick), .v (I a.fCount), .v ya.val]])) nb (rdr p t s3)) (fun j => j ≤ 4 ∧ ∀ i : Nat, i < j → tkI t [signB ((i : Int) + 3)] s3 = false) (fun j => 4 - j) 0 ⟨by simp [SatL, tget], Heap.le_refl _, by omega, fun i h => by omega⟩ ?_
      intro j ⟨hj, hno⟩
      rcases Nat.lt_or_ge j 4 with hlt | hge
      · have hsg := signI ((j : Int) + 3) (by omega)
        simp (maxSteps := 1000000) -dsimp -implicitDefEqProofs only [go_sem, ↓reduceIte, keep48, ib48, mk48, Tryz.f48, e_n2_nb, e_n2_n3, e_nb_n2, e_nb_n3, e_n3_n2, e_n3_nb, upd_ne, upd_get, upd_swap d_nb_n2, upd_swap d_nb_n3, upd_upd]
        refine ⟨fun _ => ?_, fun q => absurd (show (j : Int) + 3 ≤ 6 by omega) q⟩
        first | refine HFnF.mk (hsg) ?_ | refine CallSF.mk (hsg) ?_ | refine HFnF.mkAt (hsg) ?_ | refine CallSF.mk (FnAt.fn0 (hsg)) ?_
        simp (maxSteps := 1000000) -dsimp -implicitDefEqProofs only [go_sem, ↓reduceIte, keep48, ib48, mk48, Tryz.f48, e_n2_nb, e_n2_n3, e_nb_n2, e_nb_n3, e_n3_n2, e_n3_nb, upd_ne, upd_get, upd_swap d_nb_n2, upd_swap d_nb_n3, upd_upd, Option.toArray_none, Option.toArray_some, List.filterMap_cons, List.filterMap_nil, List.elem_cons_self, List.nil_append, List.append_nil, List.toList_toArray]
        refine ⟨by decide, by decide, ?_⟩
        rw [UInt8.ofNat_toNat]
        refine HFnF.mkH (takeI ht [signB ((j : Int) + 3)] (by simp) g3.le (upd_same ..)) ?_
        rintro r_ h' ⟨rfl, rfl⟩
        rw [upd_upd]
        cases hk3 : tkI t [signB ((j : Int) + 3)] s3
        · simp (maxSteps := 1000000) -dsimp -implicitDefEqProofs only [go_sem, ↓reduceIte, keep48, ib48, mk48, Tryz.f48, Bool.false_eq_true]
          refine ⟨j + 1, by rw [IntWalk.i64_in _ (by omega), show (j : Int) + 3 + 1 = ((j + 1 : Nat) : Int) + 3 by omega], ⟨by omega, fun i hi => ?_⟩, by omega⟩
          rcases Nat.lt_or_ge i j with h | h
          · exact hno i h
          · obtain rfl : i = j := by omega
            exact hk3
        · obtain ⟨o1, o2⟩ := opI_at hlt hno hk3
          rw [o1, o2, decide_eq_false (show ¬ (j : Int) + 3 = 7 by omega), orB_false] at b4 g4 b5 g5 b6 b7
          rw [o1, o2, decide_eq_false (show ¬ (j : Int) + 3 = 7 by omega), orB_false]
          have hK : ¬ (j : Int) + 3 > 6 := by omega
          have hb3 : s3.b = false := by simp only [tkI, Bool.and_eq_true, Bool.not_eq_true'] at hk3; exact hk3.1
          simp (maxSteps := 1000000) -dsimp -implicitDefEqProofs only [go_sem, ↓reduceIte, keep48, ib48, mk48, Tryz.f48, e_n2_nb, e_n2_n3, e_nb_n2, e_nb_n3, e_n3_n2, e_n3_nb, upd_ne, upd_get, upd_swap d_nb_n2, upd_swap d_nb_n3, upd_upd, rdr, Option.toArray_none, Option.toArray_some, List.filterMap_cons, List.filterMap_nil, List.elem_cons_self, List.nil_append, List.append_nil, List.toList_toArray]
          refine ⟨fun _ => ?_, fun q => absurd (q.symm.trans hb3) (by simp)⟩
          rw [show (HObj.row 5 [[.v (sls 3 DFunc.c p.fFuncs), .v (.str t), .v (I (s3.adv 1).i), .v (.bool (decide ((j : Int) + 3 > 6))), .v (I (s3.adv 1).d)]]) = rdr p t (s3.adv 1) by rw [rdr, show (s3.adv 1).b = false from hb3, decide_eq_false hK]]
          refine HFnF.mkH (wantIH ht [32] (by simp) g4.le (upd_same ..)) ?_
          rintro r_ h' ⟨rfl, rfl⟩
          rw [upd_upd]
          simp (maxSteps := 1000000) -dsimp -implicitDefEqProofs only [go_sem, ↓reduceIte, keep48, ib48, mk48, Tryz.f48, e_n2_nb, e_n2_n3, e_nb_n2, e_nb_n3, e_n3_n2, e_n3_nb, upd_ne, upd_get, upd_swap d_nb_n2, upd_swap d_nb_n3, upd_upd]
          refine HFnF.mkH (ih _ g5 (hf2 _ fun q => (b5.ok q).2.1.trans hd2) _ (by simp only [upd_get, e_n2_nb, e_n2_n3, e_nb_n2, e_nb_n3, e_n3_n2, e_n3_nb, if_false]; exact z8b)) ?_
          rintro r_ h' ⟨l, g9, ⟨eb, ob, rfl, rfl⟩, w9, z9, rfl⟩
          obtain ⟨g7, rfl, w7, z72, z73⟩ := New.under2 z82 (by simp only [upd_get, e_n2_nb, e_n2_n3, e_nb_n2, e_nb_n3, e_n3_n2, e_n3_nb, if_false]; exact z83) w9
          have z7b : g7 nb = none := by simpa only [upd_get, e_n2_nb, e_n2_n3, e_nb_n2, e_nb_n3, e_n3_n2, e_n3_nb, if_false] using z9
          have z73 := (upd_none.1 z73).2
          have g6 := b6.good g1
          generalize hrb : exI p t k (wantI t [32] (s3.adv 1)) = rb at *
          obtain ⟨b, s6⟩ := rb
          simp only at ob b6 b7 g6 ⊢
          have ob1 := ob
          rw [DExpr.o_iff] at ob1
          obtain ⟨yb, rfl, osb⟩ := ob1
          simp (maxSteps := 1000000) -dsimp -implicitDefEqProofs only [go_sem, ↓reduceIte, keep48, ib48, mk48, Tryz.f48, e_n2_nb, e_n2_n3, e_nb_n2, e_nb_n3, e_n3_n2, e_n3_nb, upd_ne, upd_get, upd_swap d_nb_n2, upd_swap d_nb_n3, upd_upd, OV.map_val, OV.map_val_nil, OV.val_v, osb.flat, osb.one]
          intro n5 q5
          have a5 : ¬ n5 = nb := by grind
          have b5n : ¬ n5 = n2 := by grind
          have c5n : ¬ n5 = n3 := by grind
          have z75 : g7 n5 = none := by grind
          have d_n5_nb : ¬ n5 = nb := a5
          have d_nb_n5 : ¬ nb = n5 := Ne.symm d_n5_nb
          have e_n5_nb : (n5 = nb) = False := eq_false d_n5_nb
          have e_nb_n5 : (nb = n5) = False := eq_false d_nb_n5
          have d_n5_n2 : ¬ n5 = n2 := b5n
          have d_n2_n5 : ¬ n2 = n5 := Ne.symm d_n5_n2
          have e_n5_n2 : (n5 = n2) = False := eq_false d_n5_n2
          have e_n2_n5 : (n2 = n5) = False := eq_false d_n2_n5
          have d_n5_n3 : ¬ n5 = n3 := c5n
          have d_n3_n5 : ¬ n3 = n5 := Ne.symm d_n5_n3
          have e_n5_n3 : (n5 = n3) = False := eq_false d_n5_n3
          have e_n3_n5 : (n3 = n5) = False := eq_false d_n3_n5
          rw [upd_swap d_nb_n5]
          refine HFnF.mkH (wantIH ht [41] (by simp) g6.le (upd_same ..)) ?_
          rintro r_ h' ⟨rfl, rfl⟩
          rw [upd_upd]
          simp (maxSteps := 1000000) -dsimp -implicitDefEqProofs only [go_sem, ↓reduceIte, keep48, ib48, mk48, Tryz.f48, e_n2_nb, e_n2_n3, e_n2_n5, e_nb_n2, e_nb_n3, e_nb_n5, e_n3_n2, e_n3_nb, e_n3_n5, e_n5_n2, e_n5_nb, e_n5_n3, upd_ne, upd_get, upd_swap d_nb_n2, upd_swap d_nb_n3, upd_upd, OV.map_val, OV.map_val_nil, OV.val_v, osa.flat, osa.one, osb.flat, osb.one]
          refine ⟨by decide, rfl, fun m qm => ?_⟩
          have am : ¬ m = nb := by grind
          have bm : ¬ m = n2 := by grind
          have cm : ¬ m = n3 := by grind
          have dm : ¬ m = n5 := by grind
          have z7m : g7 m = none := by grind
          have d_m_nb : ¬ m = nb := am
          have d_nb_m : ¬ nb = m := Ne.symm d_m_nb
          have e_m_nb : (m = nb) = False := eq_false d_m_nb
          have e_nb_m : (nb = m) = False := eq_false d_nb_m
          have d_m_n2 : ¬ m = n2 := bm
          have d_n2_m : ¬ n2 = m := Ne.symm d_m_n2
          have e_m_n2 : (m = n2) = False := eq_false d_m_n2
          have e_n2_m : (n2 = m) = False := eq_false d_n2_m
          have d_m_n3 : ¬ m = n3 := cm
          have d_n3_m : ¬ n3 = m := Ne.symm d_m_n3
          have e_m_n3 : (m = n3) = False := eq_false d_m_n3
          have e_n3_m : (n3 = m) = False := eq_false d_n3_m
          have d_m_n5 : ¬ m = n5 := dm
          have d_n5_m : ¬ n5 = m := Ne.symm d_m_n5
          have e_m_n5 : (m = n5) = False := eq_false d_m_n5
          have e_n5_m : (n5 = m) = False := eq_false d_n5_m
          simp (maxSteps := 1000000) -dsimp -implicitDefEqProofs only [go_sem, ↓reduceIte, keep48, ib48, mk48, Tryz.f48, e_n2_nb, e_n2_n3, e_n2_n5, e_n2_m, e_nb_n2, e_nb_n3, e_nb_n5, e_nb_m, e_n3_n2, e_n3_nb, e_n3_n5, e_n3_m, e_n5_n2, e_n5_nb, e_n5_n3, e_n5_m, e_m_n2, e_m_nb, e_m_n3, e_m_n5, upd_ne, upd_get, upd_swap d_nb_n2, upd_swap d_nb_n3, upd_swap d_nb_m, upd_upd]
          refine HFnDF.mk (expr1 (s := wantI t [41] s6) (b7.dd g1) (upd_same ..)) ?_
          rintro r_ h' rfl
          rw [upd_upd]
          simp (maxSteps := 1000000) -dsimp -implicitDefEqProofs only [go_sem, ↓reduceIte, keep48, ib48, mk48, Tryz.f48, e_n2_nb, e_n2_n3, e_n2_n5, e_n2_m, e_nb_n2, e_nb_n3, e_nb_n5, e_nb_m, e_n3_n2, e_n3_nb, e_n3_n5, e_n3_m, e_n5_n2, e_n5_nb, e_n5_n3, e_n5_m, e_m_n2, e_m_nb, e_m_n3, e_m_n5, upd_ne, upd_get]
          have hnew := w8.append w7
          refine ex_end (g2 := upd g7 m (.row 5 (OV.cells [[.v (I a.fKind), .v (I a.fNum), .v (I a.fPick), .v (I a.fCount), ya], [.v (I b.fKind), .v (I b.fNum), .v (I b.fPick), .v (I b.fCount), yb]]))) (e := [.v (I ((j : Int) + 3)), .v (I 0), .v (I 0), .v (I 0), .sl m 5 [[.v (I a.fKind), .v (I a.fNum), .v (I a.fPick), .v (I a.fCount), ya], [.v (I b.fKind), .v (I b.fNum), .v (I b.fPick), .v (I b.fCount), yb]]]) ((DExpr.o_iff _ _).2 ⟨_, rfl, OS.mk ⟨oa, ob, trivial⟩⟩) ?_ ?_ (Sub.refl _) ?_
          · have := hnew.row (n := m) (o := .row 5 (OV.cells [[.v (I a.fKind), .v (I a.fNum), .v (I a.fPick), .v (I a.fCount), ya], [.v (I b.fKind), .v (I b.fNum), .v (I b.fPick), .v (I b.fCount), yb]])) z7m
            simpa only [OV.row_cons, OV.row_nil, OV.v_rows, OV.sl_rows, OV.rowsRows, List.nil_append, List.append_nil, List.append_assoc] using this
          · rw [upd_ne _ _ _ _ d_nb_m]; exact z7b
          · intro q_
            simp only [upd_get, OV.cells, List.map_cons, List.map_nil, OV.val_v]
            grind
      · obtain rfl : j = 4 := by omega
        obtain ⟨o1, o2⟩ := opI_none hno
        rw [o1, o2, decide_eq_true rfl] at b4 g4 b5 g5 b6 b7
        rw [o1, o2, decide_eq_true rfl]
        simp (maxSteps := 1000000) -dsimp -implicitDefEqProofs only [go_sem, ↓reduceIte, keep48, ib48, mk48, Tryz.f48, e_n2_nb, e_n2_n3, e_nb_n2, e_nb_n3, e_n3_n2, e_n3_nb, upd_ne, upd_get, upd_swap d_nb_n2, upd_swap d_nb_n3, upd_upd, Option.toArray_none, Option.toArray_some, List.filterMap_cons, List.filterMap_nil, List.elem_cons_self, List.nil_append, List.append_nil, List.toList_toArray]
        refine ⟨fun q => absurd q (by omega), fun _ => ?_⟩
        simp (maxSteps := 1000000) -dsimp -implicitDefEqProofs only [go_sem, ↓reduceIte, keep48, ib48, mk48, Tryz.f48, e_n2_nb, e_n2_n3, e_nb_n2, e_nb_n3, e_n3_n2, e_n3_nb, upd_ne, upd_get, upd_swap d_nb_n2, upd_swap d_nb_n3, upd_upd, rdr, Option.toArray_none, Option.toArray_some, List.filterMap_cons, List.filterMap_nil, List.elem_cons_self, List.nil_append, List.append_nil, List.toList_toArray]
        refine ⟨fun hb3 => ?_, fun hb3 => ?_⟩
        · rw [show (HObj.row 5 [[.v (sls 3 DFunc.c p.fFuncs), .v (.str t), .v (I s3.i), .v (.bool (decide (((4 : Nat) : Int) + 3 > 6))), .v (I s3.d)]]) = rdr p t (s3.orB true) by rw [rdr, show (s3.orB true).b = true by simp [RSt.orB], decide_eq_true (by omega)]; rfl]
          refine HFnF.mkH (wantIH ht [32] (by simp) g4.le (upd_same ..)) ?_
          rintro r_ h' ⟨rfl, rfl⟩
          rw [upd_upd]
          simp (maxSteps := 1000000) -dsimp -implicitDefEqProofs only [go_sem, ↓reduceIte, keep48, ib48, mk48, Tryz.f48, e_n2_nb, e_n2_n3, e_nb_n2, e_nb_n3, e_n3_n2, e_n3_nb, upd_ne, upd_get, upd_swap d_nb_n2, upd_swap d_nb_n3, upd_upd]
          refine HFnF.mkH (ih _ g5 (hf2 _ fun q => (b5.ok q).2.1.trans hd2) _ (by simp only [upd_get, e_n2_nb, e_n2_n3, e_nb_n2, e_nb_n3, e_n3_n2, e_n3_nb, if_false]; exact z8b)) ?_
          rintro r_ h' ⟨l, g9, ⟨eb, ob, rfl, rfl⟩, w9, z9, rfl⟩
          obtain ⟨g7, rfl, w7, z72, z73⟩ := New.under2 z82 (by simp only [upd_get, e_n2_nb, e_n2_n3, e_nb_n2, e_nb_n3, e_n3_n2, e_n3_nb, if_false]; exact z83) w9
          have z7b : g7 nb = none := by simpa only [upd_get, e_n2_nb, e_n2_n3, e_nb_n2, e_nb_n3, e_n3_n2, e_n3_nb, if_false] using z9
          have z73 := (upd_none.1 z73).2
          have g6 := b6.good g1
          generalize hrb : exI p t k (wantI t [32] (s3.orB true)) = rb at *
          obtain ⟨b, s6⟩ := rb
          simp only at ob b6 b7 g6 ⊢
          have ob1 := ob
          rw [DExpr.o_iff] at ob1
          obtain ⟨yb, rfl, osb⟩ := ob1
          simp (maxSteps := 1000000) -dsimp -implicitDefEqProofs only [go_sem, ↓reduceIte, keep48, ib48, mk48, Tryz.f48, e_n2_nb, e_n2_n3, e_nb_n2, e_nb_n3, e_n3_n2, e_n3_nb, upd_ne, upd_get, upd_swap d_nb_n2, upd_swap d_nb_n3, upd_upd, OV.map_val, OV.map_val_nil, OV.val_v, osb.flat, osb.one]
          intro n5 q5
          have a5 : ¬ n5 = nb := by grind
          have b5n : ¬ n5 = n2 := by grind
          have c5n : ¬ n5 = n3 := by grind
          have z75 : g7 n5 = none := by grind
          have d_n5_nb : ¬ n5 = nb := a5
          have d_nb_n5 : ¬ nb = n5 := Ne.symm d_n5_nb
          have e_n5_nb : (n5 = nb) = False := eq_false d_n5_nb
          have e_nb_n5 : (nb = n5) = False := eq_false d_nb_n5
          have d_n5_n2 : ¬ n5 = n2 := b5n
          have d_n2_n5 : ¬ n2 = n5 := Ne.symm d_n5_n2
          have e_n5_n2 : (n5 = n2) = False := eq_false d_n5_n2
          have e_n2_n5 : (n2 = n5) = False := eq_false d_n2_n5
          have d_n5_n3 : ¬ n5 = n3 := c5n
          have d_n3_n5 : ¬ n3 = n5 := Ne.symm d_n5_n3
          have e_n5_n3 : (n5 = n3) = False := eq_false d_n5_n3
          have e_n3_n5 : (n3 = n5) = False := eq_false d_n3_n5
          rw [upd_swap d_nb_n5]
          refine HFnF.mkH (wantIH ht [41] (by simp) g6.le (upd_same ..)) ?_
          rintro r_ h' ⟨rfl, rfl⟩
          rw [upd_upd]
          simp (maxSteps := 1000000) -dsimp -implicitDefEqProofs only [go_sem, ↓reduceIte, keep48, ib48, mk48, Tryz.f48, e_n2_nb, e_n2_n3, e_n2_n5, e_nb_n2, e_nb_n3, e_nb_n5, e_n3_n2, e_n3_nb, e_n3_n5, e_n5_n2, e_n5_nb, e_n5_n3, upd_ne, upd_get, upd_swap d_nb_n2, upd_swap d_nb_n3, upd_upd, OV.map_val, OV.map_val_nil, OV.val_v, osa.flat, osa.one, osb.flat, osb.one]
          refine ⟨by decide, rfl, fun m qm => ?_⟩
          have am : ¬ m = nb := by grind
          have bm : ¬ m = n2 := by grind
          have cm : ¬ m = n3 := by grind
          have dm : ¬ m = n5 := by grind
          have z7m : g7 m = none := by grind
          have d_m_nb : ¬ m = nb := am
          have d_nb_m : ¬ nb = m := Ne.symm d_m_nb
          have e_m_nb : (m = nb) = False := eq_false d_m_nb
          have e_nb_m : (nb = m) = False := eq_false d_nb_m
          have d_m_n2 : ¬ m = n2 := bm
          have d_n2_m : ¬ n2 = m := Ne.symm d_m_n2
          have e_m_n2 : (m = n2) = False := eq_false d_m_n2
          have e_n2_m : (n2 = m) = False := eq_false d_n2_m
          have d_m_n3 : ¬ m = n3 := cm
          have d_n3_m : ¬ n3 = m := Ne.symm d_m_n3
          have e_m_n3 : (m = n3) = False := eq_false d_m_n3
          have e_n3_m : (n3 = m) = False := eq_false d_n3_m
          have d_m_n5 : ¬ m = n5 := dm
          have d_n5_m : ¬ n5 = m := Ne.symm d_m_n5
          have e_m_n5 : (m = n5) = False := eq_false d_m_n5
          have e_n5_m : (n5 = m) = False := eq_false d_n5_m
          simp (maxSteps := 1000000) -dsimp -implicitDefEqProofs only [go_sem, ↓reduceIte, keep48, ib48, mk48, Tryz.f48, e_n2_nb, e_n2_n3, e_n2_n5, e_n2_m, e_nb_n2, e_nb_n3, e_nb_n5, e_nb_m, e_n3_n2, e_n3_nb, e_n3_n5, e_n3_m, e_n5_n2, e_n5_nb, e_n5_n3, e_n5_m, e_m_n2, e_m_nb, e_m_n3, e_m_n5, upd_ne, upd_get, upd_swap d_nb_n2, upd_swap d_nb_n3, upd_swap d_nb_m, upd_upd]
          refine HFnDF.mk (expr1 (s := wantI t [41] s6) (b7.dd g1) (upd_same ..)) ?_
          rintro r_ h' rfl
          rw [upd_upd]
          simp (maxSteps := 1000000) -dsimp -implicitDefEqProofs only [go_sem, ↓reduceIte, keep48, ib48, mk48, Tryz.f48, e_n2_nb, e_n2_n3, e_n2_n5, e_n2_m, e_nb_n2, e_nb_n3, e_nb_n5, e_nb_m, e_n3_n2, e_n3_nb, e_n3_n5, e_n3_m, e_n5_n2, e_n5_nb, e_n5_n3, e_n5_m, e_m_n2, e_m_nb, e_m_n3, e_m_n5, upd_ne, upd_get]
          have hnew := w8.append w7
          refine ex_end (g2 := upd g7 m (.row 5 (OV.cells [[.v (I a.fKind), .v (I a.fNum), .v (I a.fPick), .v (I a.fCount), ya], [.v (I b.fKind), .v (I b.fNum), .v (I b.fPick), .v (I b.fCount), yb]]))) (e := [.v (I (7)), .v (I 0), .v (I 0), .v (I 0), .sl m 5 [[.v (I a.fKind), .v (I a.fNum), .v (I a.fPick), .v (I a.fCount), ya], [.v (I b.fKind), .v (I b.fNum), .v (I b.fPick), .v (I b.fCount), yb]]]) ((DExpr.o_iff _ _).2 ⟨_, rfl, OS.mk ⟨oa, ob, trivial⟩⟩) ?_ ?_ (Sub.refl _) ?_
          · have := hnew.row (n := m) (o := .row 5 (OV.cells [[.v (I a.fKind), .v (I a.fNum), .v (I a.fPick), .v (I a.fCount), ya], [.v (I b.fKind), .v (I b.fNum), .v (I b.fPick), .v (I b.fCount), yb]])) z7m
            simpa only [OV.row_cons, OV.row_nil, OV.v_rows, OV.sl_rows, OV.rowsRows, List.nil_append, List.append_nil, List.append_assoc] using this
          · rw [upd_ne _ _ _ _ d_nb_m]; exact z7b
          · intro q_
            simp only [upd_get, OV.cells, List.map_cons, List.map_nil, OV.val_v]
            grind
        · rw [show (HObj.row 5 [[.v (sls 3 DFunc.c p.fFuncs), .v (.str t), .v (I s3.i), .v (.bool true), .v (I s3.d)]]) = rdr p t (s3.orB true) by rw [rdr, show (s3.orB true).b = true by simp [RSt.orB]]; rfl]
          refine HFnF.mkH (wantIH ht [32] (by simp) g4.le (upd_same ..)) ?_
          rintro r_ h' ⟨rfl, rfl⟩
          rw [upd_upd]
          simp (maxSteps := 1000000) -dsimp -implicitDefEqProofs only [go_sem, ↓reduceIte, keep48, ib48, mk48, Tryz.f48, e_n2_nb, e_n2_n3, e_nb_n2, e_nb_n3, e_n3_n2, e_n3_nb, upd_ne, upd_get, upd_swap d_nb_n2, upd_swap d_nb_n3, upd_upd]
          refine HFnF.mkH (ih _ g5 (hf2 _ fun q => (b5.ok q).2.1.trans hd2) _ (by simp only [upd_get, e_n2_nb, e_n2_n3, e_nb_n2, e_nb_n3, e_n3_n2, e_n3_nb, if_false]; exact z8b)) ?_
          rintro r_ h' ⟨l, g9, ⟨eb, ob, rfl, rfl⟩, w9, z9, rfl⟩
          obtain ⟨g7, rfl, w7, z72, z73⟩ := New.under2 z82 (by simp only [upd_get, e_n2_nb, e_n2_n3, e_nb_n2, e_nb_n3, e_n3_n2, e_n3_nb, if_false]; exact z83) w9
          have z7b : g7 nb = none := by simpa only [upd_get, e_n2_nb, e_n2_n3, e_nb_n2, e_nb_n3, e_n3_n2, e_n3_nb, if_false] using z9
          have z73 := (upd_none.1 z73).2
          have g6 := b6.good g1
          generalize hrb : exI p t k (wantI t [32] (s3.orB true)) = rb at *
          obtain ⟨b, s6⟩ := rb
          simp only at ob b6 b7 g6 ⊢
          have ob1 := ob
          rw [DExpr.o_iff] at ob1
          obtain ⟨yb, rfl, osb⟩ := ob1
          simp (maxSteps := 1000000) -dsimp -implicitDefEqProofs only [go_sem, ↓reduceIte, keep48, ib48, mk48, Tryz.f48, e_n2_nb, e_n2_n3, e_nb_n2, e_nb_n3, e_n3_n2, e_n3_nb, upd_ne, upd_get, upd_swap d_nb_n2, upd_swap d_nb_n3, upd_upd, OV.map_val, OV.map_val_nil, OV.val_v, osb.flat, osb.one]
          intro n5 q5
          have a5 : ¬ n5 = nb := by grind
          have b5n : ¬ n5 = n2 := by grind
          have c5n : ¬ n5 = n3 := by grind
          have z75 : g7 n5 = none := by grind
          have d_n5_nb : ¬ n5 = nb := a5
          have d_nb_n5 : ¬ nb = n5 := Ne.symm d_n5_nb
          have e_n5_nb : (n5 = nb) = False := eq_false d_n5_nb
          have e_nb_n5 : (nb = n5) = False := eq_false d_nb_n5
          have d_n5_n2 : ¬ n5 = n2 := b5n
          have d_n2_n5 : ¬ n2 = n5 := Ne.symm d_n5_n2
          have e_n5_n2 : (n5 = n2) = False := eq_false d_n5_n2
          have e_n2_n5 : (n2 = n5) = False := eq_false d_n2_n5
          have d_n5_n3 : ¬ n5 = n3 := c5n
          have d_n3_n5 : ¬ n3 = n5 := Ne.symm d_n5_n3
          have e_n5_n3 : (n5 = n3) = False := eq_false d_n5_n3
          have e_n3_n5 : (n3 = n5) = False := eq_false d_n3_n5
          rw [upd_swap d_nb_n5]
          refine HFnF.mkH (wantIH ht [41] (by simp) g6.le (upd_same ..)) ?_
          rintro r_ h' ⟨rfl, rfl⟩
          rw [upd_upd]
          simp (maxSteps := 1000000) -dsimp -implicitDefEqProofs only [go_sem, ↓reduceIte, keep48, ib48, mk48, Tryz.f48, e_n2_nb, e_n2_n3, e_n2_n5, e_nb_n2, e_nb_n3, e_nb_n5, e_n3_n2, e_n3_nb, e_n3_n5, e_n5_n2, e_n5_nb, e_n5_n3, upd_ne, upd_get, upd_swap d_nb_n2, upd_swap d_nb_n3, upd_upd, OV.map_val, OV.map_val_nil, OV.val_v, osa.flat, osa.one, osb.flat, osb.one]
          refine ⟨by decide, rfl, fun m qm => ?_⟩
          have am : ¬ m = nb := by grind
          have bm : ¬ m = n2 := by grind
          have cm : ¬ m = n3 := by grind
          have dm : ¬ m = n5 := by grind
          have z7m : g7 m = none := by grind
          have d_m_nb : ¬ m = nb := am
          have d_nb_m : ¬ nb = m := Ne.symm d_m_nb
          have e_m_nb : (m = nb) = False := eq_false d_m_nb
          have e_nb_m : (nb = m) = False := eq_false d_nb_m
          have d_m_n2 : ¬ m = n2 := bm
          have d_n2_m : ¬ n2 = m := Ne.symm d_m_n2
          have e_m_n2 : (m = n2) = False := eq_false d_m_n2
          have e_n2_m : (n2 = m) = False := eq_false d_n2_m
          have d_m_n3 : ¬ m = n3 := cm
          have d_n3_m : ¬ n3 = m := Ne.symm d_m_n3
          have e_m_n3 : (m = n3) = False := eq_false d_m_n3
          have e_n3_m : (n3 = m) = False := eq_false d_n3_m
          have d_m_n5 : ¬ m = n5 := dm
          have d_n5_m : ¬ n5 = m := Ne.symm d_m_n5
          have e_m_n5 : (m = n5) = False := eq_false d_m_n5
          have e_n5_m : (n5 = m) = False := eq_false d_n5_m
          simp (maxSteps := 1000000) -dsimp -implicitDefEqProofs only [go_sem, ↓reduceIte, keep48, ib48, mk48, Tryz.f48, e_n2_nb, e_n2_n3, e_n2_n5, e_n2_m, e_nb_n2, e_nb_n3, e_nb_n5, e_nb_m, e_n3_n2, e_n3_nb, e_n3_n5, e_n3_m, e_n5_n2, e_n5_nb, e_n5_n3, e_n5_m, e_m_n2, e_m_nb, e_m_n3, e_m_n5, upd_ne, upd_get, upd_swap d_nb_n2, upd_swap d_nb_n3, upd_swap d_nb_m, upd_upd]
          refine HFnDF.mk (expr1 (s := wantI t [41] s6) (b7.dd g1) (upd_same ..)) ?_
          rintro r_ h' rfl
          rw [upd_upd]
          simp (maxSteps := 1000000) -dsimp -implicitDefEqProofs only [go_sem, ↓reduceIte, keep48, ib48, mk48, Tryz.f48, e_n2_nb, e_n2_n3, e_n2_n5, e_n2_m, e_nb_n2, e_nb_n3, e_nb_n5, e_nb_m, e_n3_n2, e_n3_nb, e_n3_n5, e_n3_m, e_n5_n2, e_n5_nb, e_n5_n3, e_n5_m, e_m_n2, e_m_nb, e_m_n3, e_m_n5, upd_ne, upd_get]
          have hnew := w8.append w7
          refine ex_end (g2 := upd g7 m (.row 5 (OV.cells [[.v (I a.fKind), .v (I a.fNum), .v (I a.fPick), .v (I a.fCount), ya], [.v (I b.fKind), .v (I b.fNum), .v (I b.fPick), .v (I b.fCount), yb]]))) (e := [.v (I (7)), .v (I 0), .v (I 0), .v (I 0), .sl m 5 [[.v (I a.fKind), .v (I a.fNum), .v (I a.fPick), .v (I a.fCount), ya], [.v (I b.fKind), .v (I b.fNum), .v (I b.fPick), .v (I b.fCount), yb]]]) ((DExpr.o_iff _ _).2 ⟨_, rfl, OS.mk ⟨oa, ob, trivial⟩⟩) ?_ ?_ (Sub.refl _) ?_
          · have := hnew.row (n := m) (o := .row 5 (OV.cells [[.v (I a.fKind), .v (I a.fNum), .v (I a.fPick), .v (I a.fCount), ya], [.v (I b.fKind), .v (I b.fNum), .v (I b.fPick), .v (I b.fCount), yb]])) z7m
            simpa only [OV.row_cons, OV.row_nil, OV.v_rows, OV.sl_rows, OV.rowsRows, List.nil_append, List.append_nil, List.append_assoc] using this
          · rw [upd_ne _ _ _ _ d_nb_m]; exact z7b
          · intro q_
            simp only [upd_get, OV.cells, List.map_cons, List.map_nil, OV.val_v]
            grind
theorem exprIH {nb : Nat} {p : DProgram} {t : List UInt8} (ht : t.length ≤ 1048600) (hps : p.s ≤ 4194304) : ∀ (n : Nat) (s : RSt), Good 62 t s → (s.b = false → 60 ≤ s.d + n) → BX Tryz.prog 48 [.op nb 5 0 0] nb (rdr p t s) (rdr p t (exI p t n s).2) (QA (exI p t n s).1.o)
  | 0, s, g, h => by
    have hq : s.b = true ∨ 60 < s.d + 1 := by
      cases hb : s.b with
      | true => exact .inl rfl
      | false => right; have := h hb; omega
    have e : exI p t 0 s = exI p t (0 + 1) s := by rw [exI, exI, if_pos hq]
    rw [e]
    exact exprIH_step ht hps (fun q => absurd hq q) g (fun hb => by have := h hb; omega)
  | n + 1, s, g, h => exprIH_step ht hps (fun _ => exprIH ht hps n) g (fun hb => by have := h hb; omega)
open Go.Proofs
set_option linter.unusedVariables false
set_option linter.unusedSimpArgs false
/-- The expression that has a text, if it is valid with so many variables and functions. -/
noncomputable def readE (p : DProgram) (t : List UInt8) (vars funcs : Int) : Option DExpr := open Classical in if h : ∃ e : DExpr, exprOK p e vars funcs ∧ e.txt p = t then some (Classical.choose h) else none
theorem readE_ok {p : DProgram} {t : List UInt8} {vars funcs : Int} {e : DExpr} (h : readE p t vars funcs = some e) : exprOK p e vars funcs ∧ e.txt p = t := by
  unfold readE at h
  split at h
  · rename_i q; obtain rfl := Option.some.inj h; exact Classical.choose_spec q
  · cases h
def s00 : RSt := ⟨0, 0, 0, false⟩
/-- What is asked of what a reader has brought. -/
def Right (p : DProgram) (t : List UInt8) (vars funcs : Int) (r : DExpr × RSt) : Prop := r.2.b = false ∧ r.2.i = t.length ∧ exprOK p r.1 vars funcs ∧ r.1.txt p = t
theorem right_of {p : DProgram} {t : List UInt8} {vars funcs : Int} {r : DExpr × RSt} (key : ∀ e, exprOK p e vars funcs → e.txt p = t → r.1 = e ∧ r.2.b = false ∧ r.2.i = t.length) : (Right p t vars funcs r → readE p t vars funcs = some r.1) ∧ (¬ Right p t vars funcs r → readE p t vars funcs = none) := by
  constructor
  · intro h
    have hex : ∃ e : DExpr, exprOK p e vars funcs ∧ e.txt p = t := ⟨r.1, h.2.2.1, h.2.2.2⟩
    have hc := Classical.choose_spec hex
    have := (key _ hc.1 hc.2).1
    unfold readE
    rw [dif_pos hex, this]
  · intro h
    unfold readE
    rw [dif_neg]
    rintro ⟨e, h1, h2⟩
    obtain ⟨k1, k2, k3⟩ := key e h1 h2
    exact h ⟨k2, k3, by rw [k1]; exact h1, by rw [k1]; exact h2⟩
theorem rightI {p : DProgram} (hp : p.ok) (t : List UInt8) (vars funcs : Int) : (Right p t vars funcs (exI p t 60 s00) → readE p t vars funcs = some (exI p t 60 s00).1) ∧ (¬ Right p t vars funcs (exI p t 60 s00) → readE p t vars funcs = none) := by
  refine right_of fun e h1 h2 => ?_
  have hd : e.d ≤ 60 := by have := h1.2.2.2.1; omega
  have := exI_done (t := t) hp e vars (Rdb.of h1) 60 hd 0 (by omega) s00 [] rfl rfl (by show (0 : Int) + 0 ≤ 400; omega) (by show t.drop 0 = _; rw [h2]; simp) stop_nil
  rw [this, h2]
  exact ⟨rfl, rfl, by show 0 + t.length = _; omega⟩
theorem rightS {p : DProgram} (hp : p.ok) (t : List UInt8) (vars funcs : Int) : (Right p t vars funcs (exS p t 60 s00) → readE p t vars funcs = some (exS p t 60 s00).1) ∧ (¬ Right p t vars funcs (exS p t 60 s00) → readE p t vars funcs = none) := by
  refine right_of fun e h1 h2 => ?_
  have hd : e.d ≤ 60 := by have := h1.2.2.2.1; omega
  have hn := h1.2.2.1
  have := exS_done (t := t) hp e vars (Rdb.of h1) 60 hd 0 (by omega) s00 [] rfl rfl (by show (0 : Int) + ((e.s : Int) + 1) ≤ 400; omega) (by show t.drop 0 = _; rw [h2]; simp) stop_nil
  rw [this, h2]
  exact ⟨rfl, rfl, by show 0 + t.length = _; omega⟩
theorem good00 (t : List UInt8) : Good 62 t s00 := ⟨Nat.zero_le _, by decide, by decide, fun _ => by decide, fun _ => by decide⟩
/-- What the readers of an expression hand back. -/
noncomputable def readERes (p : DProgram) (t : List UInt8) (vars funcs : Int) : DExpr × Int :=
  open Classical in if ¬ p.ok then (zE, 1) else if ¬ ((0 ≤ vars ∧ vars ≤ 412) ∧ (0 ≤ funcs ∧ funcs ≤ p.fFuncs.length) ∧ t.length ≤ 20000) then (zE, 2) else match readE p t vars funcs with | some e => (e, 0) | none => (zE, 5)
open Go.Proofs
set_option linter.unusedVariables false
set_option linter.unusedSimpArgs false
theorem zE_z : ZeroO zE.o [I 0, I 0, I 0, I 0, .nilsl] := ⟨zEo, zEo_o, zEo_rows, zEo_sub⟩
def keep26 : List Nat := [0, 1, 2, 3, 4, 8, 9, 10, 11, 45]
def ib26 : List Nat := [4]
def mk26 : Marks := fun _ => ([], .nil, [])
set_option maxRecDepth 100000 in
set_option maxHeartbeats 1000000 in
theorem readExprI {p : DProgram} (hp : p.ok) (hps : p.s ≤ 1048576) (t : List UInt8) (ht : t.length ≤ 20000) (vars funcs : Int) :
    FnN Tryz.prog 26 [.agg p.c, .str t, I vars, I funcs] (QA ((readE p t vars funcs).getD zE).o (fun y => .tup [y, .bool (readE p t vars funcs).isSome])) := by
  have hR := rightI hp t vars funcs
  have hb := (exI_b p t 60).ok (good00 t) rfl
  have hcall := fun nb => exprIH (nb := nb) (p := p) (t := t) (by omega) (by omega) 60 s00 (good00 t) (fun _ => by decide)
  simp only [DProgram.c_eq]
  refine fnNF 48 keep26 ib26 mk26 mix Tryz.func26 rfl (by kernel_rfl) (by simp) fun h => ?_
  simp (maxSteps := 1000000) -dsimp -implicitDefEqProofs only [go_sem, ↓reduceIte, keep26, ib26, mk26, Tryz.f26]
  intro n8 q8
  try simp (maxSteps := 1000000) -dsimp -implicitDefEqProofs only [go_sem, ↓reduceIte, keep26, ib26, mk26, Tryz.f26]
  intro nb qb
  have d_nb_n8 : ¬ nb = n8 := qb.1
  have d_n8_nb : ¬ n8 = nb := Ne.symm d_nb_n8
  have e_nb_n8 : (nb = n8) = False := eq_false d_nb_n8
  have e_n8_nb : (n8 = nb) = False := eq_false d_n8_nb
  rw [show (HObj.row 5 [[.v (sls 3 DFunc.c p.fFuncs), .v (.str t), .v (I 0), .v (.bool false), .v (I 0)]]) = rdr p t s00 from rfl]
  refine HFnF.mkH (hcall nb _ (by simp only [upd_get, e_nb_n8, e_n8_nb, if_false]; exact qb.2)) ?_
  rintro r_ h' ⟨l, g9, ⟨e, oe, rfl, rfl⟩, w9, z9, rfl⟩
  obtain ⟨g8, rfl, w8, z88⟩ := New.under q8 w9
  have z8b : g8 nb = none := by simpa only [upd_get, e_nb_n8, e_n8_nb, if_false] using z9
  generalize exI p t 60 s00 = R at *
  obtain ⟨a, s2⟩ := R
  unfold Right at hR
  simp only at oe hb hR ⊢
  have oe1 := oe
  rw [DExpr.o_iff] at oe1
  obtain ⟨y4, rfl, os4⟩ := oe1
  simp (maxSteps := 1000000) -dsimp -implicitDefEqProofs only [go_sem, ↓reduceIte, keep26, ib26, mk26, Tryz.f26, e_nb_n8, e_n8_nb, upd_ne, upd_get, upd_swap d_n8_nb, OV.map_val, OV.map_val_nil, OV.val_v, os4.flat, os4.one]
  intro n11 q11
  have a1 : ¬ n11 = nb := by grind
  have a2 : ¬ n11 = n8 := by grind
  have z8n : g8 n11 = none := by grind
  have d_n11_nb : ¬ n11 = nb := a1
  have d_nb_n11 : ¬ nb = n11 := Ne.symm d_n11_nb
  have e_n11_nb : (n11 = nb) = False := eq_false d_n11_nb
  have e_nb_n11 : (nb = n11) = False := eq_false d_nb_n11
  have d_n11_n8 : ¬ n11 = n8 := a2
  have d_n8_n11 : ¬ n8 = n11 := Ne.symm d_n11_n8
  have e_n11_n8 : (n11 = n8) = False := eq_false d_n11_n8
  have e_n8_n11 : (n8 = n11) = False := eq_false d_n8_n11
  have zn11 : h n11 = none := Heap.le_none w8.le z8n
  have hle : ∀ X Y Z, h.le (upd (upd (upd g8 nb X) n8 Y) n11 Z) := fun X Y Z => (le_upd zn11).2 ((le_upd q8).2 ((le_upd qb.2).2 w8.le))
  have how : ∀ X Y Z, Owns (upd (upd (upd g8 nb X) n8 Y) n11 Z) (OV.rowsRow [.v (.int .i64 a.fKind), .v (.int .i64 a.fNum), .v (.int .i64 a.fPick), .v (.int .i64 a.fCount), y4]) := fun X Y Z => ((w8.owns.up z8b).up (by rw [upd_ne _ _ _ _ d_n8_nb]; exact z88)).up (by rw [upd_ne _ _ _ _ d_n11_n8, upd_ne _ _ _ _ d_n11_nb]; exact z8n)
  have hvw : ∀ X Y Z, View (upd (upd (upd g8 nb X) n8 Y) n11 Z) (.agg [.int .i64 a.fKind, .int .i64 a.fNum, .int .i64 a.fPick, .int .i64 a.fCount, y4.val]) (.agg a.c) := fun X Y Z => View.aggD [.v (.int .i64 a.fKind), .v (.int .i64 a.fNum), .v (.int .i64 a.fPick), .v (.int .i64 a.fCount), y4] (DExpr.o_dat oe) (how X Y Z)
  have has : a.s ≤ 40000 := by have h1 : a.s ≤ 2 * (s2.i - 0) := hb.sz; have h2 : s2.i ≤ t.length := hb.hi; omega
  simp (maxSteps := 1000000) -dsimp -implicitDefEqProofs only [go_sem, ↓reduceIte, keep26, ib26, mk26, Tryz.f26, e_nb_n8, e_nb_n11, e_n8_nb, e_n8_n11, e_n11_nb, e_n11_n8, upd_ne, upd_get, upd_swap d_n11_n8, upd_upd, rdr, Option.toArray_none, Option.toArray_some, List.filterMap_cons, List.filterMap_nil, List.elem_cons_self, List.nil_append, List.append_nil, List.toList_toArray]
  refine ⟨fun hb2 _ => ⟨fun hi2 => ?_, fun hi2 => ?_⟩, fun hb2 => ?_⟩
  · have hV := ValidExpr p a vars funcs (by omega) (by omega)
    rw [DProgram.c_eq] at hV
    refine HFnF.lend0 hV (ViewL.cons (View.same _ _) (ViewL.cons (hvw _ _ _) (ViewL.cons (View.same _ _) (ViewL.cons (View.same _ _) ViewL.nil)))) rfl ?_
    by_cases hv : exprOK p a vars funcs
    · have hT := textI hp a (Stands.of hv) (by omega)
      rw [DProgram.c_eq] at hT
      rw [decide_eq_true hv]
      simp (maxSteps := 1000000) -dsimp -implicitDefEqProofs only [go_sem, ↓reduceIte, keep26, ib26, mk26, Tryz.f26, e_nb_n8, e_nb_n11, e_n8_nb, e_n8_n11, e_n11_nb, e_n11_n8, upd_ne, upd_get, upd_swap d_n11_n8, upd_upd, Option.toArray_none, Option.toArray_some, List.filterMap_cons, List.filterMap_nil, List.elem_cons_self, List.nil_append, List.append_nil, List.toList_toArray]
      refine HFnF.lend0 hT (ViewL.cons (View.same _ _) (ViewL.cons (hvw _ _ _) ViewL.nil)) rfl ?_
      simp (maxSteps := 1000000) -dsimp -implicitDefEqProofs only [go_sem, ↓reduceIte, keep26, ib26, mk26, Tryz.f26, e_nb_n8, e_nb_n11, e_n8_nb, e_n8_n11, e_n11_nb, e_n11_n8, upd_ne, upd_get, upd_swap d_n11_n8, upd_upd, Option.toArray_none, Option.toArray_some, List.filterMap_cons, List.filterMap_nil, List.elem_cons_self, List.nil_append, List.append_nil, List.toList_toArray, os4.flat, os4.one]
      refine ⟨fun hx => ?_, fun hx => ?_⟩
      · rw [hR.2 (fun q => hx q.2.2.2)]
        exact own_zero zE_z (wsub_tup [] [_]) (hle _ _ _)
      · rw [hR.1 ⟨hb2, hi2, hv, hx⟩]
        exact own_end (e := [.v (.int .i64 a.fKind), .v (.int .i64 a.fNum), .v (.int .i64 a.fPick), .v (.int .i64 a.fCount), y4]) (w := fun y => .tup [y, .bool true]) oe w8 ((le_upd z8n).2 ((le_upd z88).2 ((le_upd z8b).2 (Heap.le_refl _))))
    · rw [decide_eq_false hv]
      simp (maxSteps := 1000000) -dsimp -implicitDefEqProofs only [go_sem, ↓reduceIte, keep26, ib26, mk26, Tryz.f26, e_nb_n8, e_nb_n11, e_n8_nb, e_n8_n11, e_n11_nb, e_n11_n8, upd_ne, upd_get, upd_swap d_n11_n8, upd_upd, Option.toArray_none, Option.toArray_some, List.filterMap_cons, List.filterMap_nil, List.elem_cons_self, List.nil_append, List.append_nil, List.toList_toArray]
      rw [hR.2 (fun q => hv q.2.2.1)]
      exact own_zero zE_z (wsub_tup [] [_]) (hle _ _ _)
  · rw [hR.2 (fun q => hi2 q.2.1)]
    exact own_zero zE_z (wsub_tup [] [_]) (hle _ _ _)
  · rw [hR.2 (fun q => (by have := hb2.symm.trans q.1; cases this))]
    exact own_zero zE_z (wsub_tup [] [_]) (hle _ _ _)
open Go.Proofs
set_option linter.unusedVariables false
set_option linter.unusedSimpArgs false
theorem readERes_bad {p : DProgram} {t : List UInt8} {vars funcs : Int} (h : ¬ p.ok) : readERes p t vars funcs = (zE, 1) := if_pos h
theorem readERes_rng {p : DProgram} {t : List UInt8} {vars funcs : Int} (h : p.ok) (h2 : ¬ ((0 ≤ vars ∧ vars ≤ 412) ∧ (0 ≤ funcs ∧ funcs ≤ p.fFuncs.length) ∧ t.length ≤ 20000)) : readERes p t vars funcs = (zE, 2) := by
  rw [readERes, if_neg (fun q => q h), if_pos h2]
theorem readERes_some {p : DProgram} {t : List UInt8} {vars funcs : Int} (h : p.ok) (h2 : (0 ≤ vars ∧ vars ≤ 412) ∧ (0 ≤ funcs ∧ funcs ≤ p.fFuncs.length) ∧ t.length ≤ 20000) {e : DExpr} (he : readE p t vars funcs = some e) : readERes p t vars funcs = (e, 0) := by
  rw [readERes, if_neg (fun q => q h), if_neg (fun q => q h2), he]
theorem readERes_none {p : DProgram} {t : List UInt8} {vars funcs : Int} (h : p.ok) (h2 : (0 ≤ vars ∧ vars ≤ 412) ∧ (0 ≤ funcs ∧ funcs ≤ p.fFuncs.length) ∧ t.length ≤ 20000) (he : readE p t vars funcs = none) : readERes p t vars funcs = (zE, 5) := by
  rw [readERes, if_neg (fun q => q h), if_neg (fun q => q h2), he]
theorem readERes_s (p : DProgram) (t : List UInt8) (vars funcs : Int) : (readERes p t vars funcs).1.s ≤ 400 := by
  unfold readERes
  split
  · rw [zE_s]; omega
  · split
    · rw [zE_s]; omega
    · split
      · rename_i e he
        have := (readE_ok he).1.2.2.1
        show e.s ≤ 400
        omega
      · rw [zE_s]; omega
def keep8 : List Nat := [0, 1, 2, 3, 4, 8, 9, 10, 11, 12, 17, 44]
def ib8 : List Nat := [4]
def mk8 : Marks := fun _ => ([], .nil, [])
set_option maxRecDepth 100000 in
set_option maxHeartbeats 1000000 in
theorem ReadExprI (p : DProgram) (hps : p.s ≤ 1048576) (t : List UInt8) (ht : t.length ≤ 1048576) (vars funcs : Int) :
    FnN Tryz.prog 8 [.agg p.c, .str t, I vars, I funcs] (QA (readERes p t vars funcs).1.o (fun y => .tup [y, I (readERes p t vars funcs).2])) := by
  have hV := ValidProgram p (by omega)
  have hA := areVars vars
  have hW := within funcs 0 p.fFuncs.length
  have hE := fun (hp : p.ok) (h2 : t.length ≤ 20000) => readExprI hp hps t h2 vars funcs
  simp only [DProgram.c_eq] at hV hE ⊢
  refine fnNF 47 keep8 ib8 mk8 mix Tryz.func8 rfl (by kernel_rfl) (by simp) fun h => ?_
  simp (maxSteps := 1000000) -dsimp -implicitDefEqProofs only [go_sem, ↓reduceIte, keep8, ib8, mk8, Tryz.f8]
  intro n8 q8
  have hle : ∀ Y, h.le (upd h n8 Y) := fun Y => (le_upd q8).2 (Heap.le_refl _)
  by_cases hp : p.ok
  · rw [decide_eq_true hp] at hV
    first | refine HFnF.mk (hV) ?_ | refine CallSF.mk (hV) ?_ | refine HFnF.mkAt (hV) ?_ | refine CallSF.mk (FnAt.fn0 (hV)) ?_
    simp (maxSteps := 1000000) -dsimp -implicitDefEqProofs only [go_sem, ↓reduceIte, keep8, ib8, mk8, Tryz.f8]
    by_cases hv : 0 ≤ vars ∧ vars ≤ 412
    · rw [decide_eq_true hv] at hA
      first | refine HFnF.mk (hA) ?_ | refine CallSF.mk (hA) ?_ | refine HFnF.mkAt (hA) ?_ | refine CallSF.mk (FnAt.fn0 (hA)) ?_
      simp (maxSteps := 1000000) -dsimp -implicitDefEqProofs only [go_sem, ↓reduceIte, keep8, ib8, mk8, Tryz.f8, Option.toArray_none, Option.toArray_some, List.filterMap_cons, List.filterMap_nil, List.elem_cons_self, List.nil_append, List.append_nil, List.toList_toArray]
      intro _
      by_cases hf : 0 ≤ funcs ∧ funcs ≤ p.fFuncs.length
      · rw [decide_eq_true hf] at hW
        first | refine HFnF.mk (hW) ?_ | refine CallSF.mk (hW) ?_ | refine HFnF.mkAt (hW) ?_ | refine CallSF.mk (FnAt.fn0 (hW)) ?_
        simp (maxSteps := 1000000) -dsimp -implicitDefEqProofs only [go_sem, ↓reduceIte, keep8, ib8, mk8, Tryz.f8, Option.toArray_none, Option.toArray_some, List.filterMap_cons, List.filterMap_nil, List.elem_cons_self, List.nil_append, List.append_nil, List.toList_toArray, upd_upd]
        refine fun _ => ⟨fun h2 => ?_, fun h2 => ?_⟩
        · rw [readERes_rng hp (fun q => by have := q.2.2; omega)]
          exact own_zero zE_z (wsub_tup [] [_]) (hle _)
        · have h20 : t.length ≤ 20000 := by omega
          have hS := fun e => readERes_some (p := p) (t := t) (vars := vars) (funcs := funcs) hp ⟨hv, hf, h20⟩ (e := e)
          have hN := readERes_none (p := p) (t := t) (vars := vars) (funcs := funcs) hp ⟨hv, hf, h20⟩
          refine HFnF.wn1 (hE hp h20) q8 ?_
          rintro r l g8 ⟨e, oe, rfl, rfl⟩ w8 z88
          cases hr : readE p t vars funcs with
          | none =>
            rw [hr] at oe
            have oe1 := oe
            rw [DExpr.o_iff] at oe1
            obtain ⟨y4, rfl, os4⟩ := oe1
            rw [hN hr]
            simp (maxSteps := 1000000) -dsimp -implicitDefEqProofs only [go_sem, ↓reduceIte, keep8, ib8, mk8, Tryz.f8, Option.isSome_none, OV.map_val, OV.map_val_nil, OV.val_v, os4.flat, os4.one]
            intro n10 q10
            have d_n10_n8 : ¬ n10 = n8 := q10.1
            have d_n8_n10 : ¬ n8 = n10 := Ne.symm d_n10_n8
            have e_n10_n8 : (n10 = n8) = False := eq_false d_n10_n8
            have e_n8_n10 : (n8 = n10) = False := eq_false d_n8_n10
            simp (maxSteps := 1000000) -dsimp -implicitDefEqProofs only [go_sem, ↓reduceIte, keep8, ib8, mk8, Tryz.f8, e_n10_n8, e_n8_n10, upd_ne, upd_get, upd_swap d_n10_n8, upd_upd, OV.val_v, os4.flat, os4.one]
            exact own_zero zE_z (wsub_tup [] [_]) ((le_upd (Heap.le_none w8.le q10.2)).2 ((le_upd q8).2 w8.le))
          | some a =>
            rw [hr] at oe
            have oe1 := oe
            rw [DExpr.o_iff] at oe1
            obtain ⟨y4, rfl, os4⟩ := oe1
            rw [hS a hr]
            simp (maxSteps := 1000000) -dsimp -implicitDefEqProofs only [go_sem, ↓reduceIte, keep8, ib8, mk8, Tryz.f8, Option.isSome_some, OV.map_val, OV.map_val_nil, OV.val_v, os4.flat, os4.one]
            intro n10 q10
            have d_n10_n8 : ¬ n10 = n8 := q10.1
            have d_n8_n10 : ¬ n8 = n10 := Ne.symm d_n10_n8
            have e_n10_n8 : (n10 = n8) = False := eq_false d_n10_n8
            have e_n8_n10 : (n8 = n10) = False := eq_false d_n8_n10
            simp (maxSteps := 1000000) -dsimp -implicitDefEqProofs only [go_sem, ↓reduceIte, keep8, ib8, mk8, Tryz.f8, e_n10_n8, e_n8_n10, upd_ne, upd_get, upd_swap d_n10_n8, upd_upd, OV.val_v, os4.flat, os4.one]
            exact own_end (e := [.v (.int .i64 a.fKind), .v (.int .i64 a.fNum), .v (.int .i64 a.fPick), .v (.int .i64 a.fCount), y4]) (w := fun y => .tup [y, I 0]) oe w8 ((le_upd q10.2).2 ((le_upd z88).2 (Heap.le_refl _)))
      · rw [decide_eq_false hf] at hW
        first | refine HFnF.mk (hW) ?_ | refine CallSF.mk (hW) ?_ | refine HFnF.mkAt (hW) ?_ | refine CallSF.mk (FnAt.fn0 (hW)) ?_
        simp (maxSteps := 1000000) -dsimp -implicitDefEqProofs only [go_sem, ↓reduceIte, keep8, ib8, mk8, Tryz.f8, Option.toArray_none, Option.toArray_some, List.filterMap_cons, List.filterMap_nil, List.elem_cons_self, List.nil_append, List.append_nil, List.toList_toArray, upd_upd]
        rw [readERes_rng hp (fun q => hf q.2.1)]
        exact own_zero zE_z (wsub_tup [] [_]) (hle _)
    · rw [decide_eq_false hv] at hA
      first | refine HFnF.mk (hA) ?_ | refine CallSF.mk (hA) ?_ | refine HFnF.mkAt (hA) ?_ | refine CallSF.mk (FnAt.fn0 (hA)) ?_
      simp (maxSteps := 1000000) -dsimp -implicitDefEqProofs only [go_sem, ↓reduceIte, keep8, ib8, mk8, Tryz.f8, Option.toArray_none, Option.toArray_some, List.filterMap_cons, List.filterMap_nil, List.elem_cons_self, List.nil_append, List.append_nil, List.toList_toArray, upd_upd]
      rw [readERes_rng hp (fun q => hv q.1)]
      exact own_zero zE_z (wsub_tup [] [_]) (hle _)
  · rw [decide_eq_false hp] at hV
    first | refine HFnF.mk (hV) ?_ | refine CallSF.mk (hV) ?_ | refine HFnF.mkAt (hV) ?_ | refine CallSF.mk (FnAt.fn0 (hV)) ?_
    simp (maxSteps := 1000000) -dsimp -implicitDefEqProofs only [go_sem, ↓reduceIte, keep8, ib8, mk8, Tryz.f8, upd_upd]
    rw [readERes_bad hp]
    exact own_zero zE_z (wsub_tup [] [_]) (hle _)
open Go.Proofs
set_option linter.unusedVariables false
set_option linter.unusedSimpArgs false
def keep81 : List Nat := [0, 1, 4, 37]
def ib81 : List Nat := []
def mk81 : Marks := fun id => match id with | 1 => ([3, 8, 17, 21, 25], (.op 0 (.op 1 (.op 2 (.op 5 (.op 6 (.op 7 (.op 10 (.op 11 (.op 3 (.op 4 (.op 8 (.op 9 (.op 12 (.op 13 (.op 14 (.op 15 (.op 16 (.op 18 (.op 19 (.op 20 (.op 22 (.op 23 (.op 24 (.op 26 (.op 27 (.op 30 (.op 17 (.op 21 (.op 25 (.op 28 (.op 29 (.op 31 (.op 32 .nil))))))))))))))))))))))))))))))))), []) | _ => ([], .nil, [])
set_option maxRecDepth 100000 in
theorem takeSH {nb : Nat} {p : DProgram} {t : List UInt8} (ht : t.length ≤ 1048600) (x : List UInt8) (hx : x.length ≤ 100) {s : RSt} (g0 : Good 63 t s) {g : Heap} (hg : g nb = some (rds p t s)) :
    HFn Tryz.prog 81 [.op nb 6 0 0, .str x] g fun r h' => r = .bool (tkS t x s) ∧ h' = upd g nb (rds p t (if tkS t x s then s.adv x.length else s)) := by
  have hB : (t.take (s.i + x.length)).drop s.i = (t.drop s.i).take x.length := by rw [List.drop_take, Nat.add_sub_cancel_left]
  have hi := g0.hi
  have hlen := fun h => tkS_len (x := x) g0 h
  have hsh := fun h => hasB_short (t := t) (x := x) (i := s.i) h
  unfold tkS at hlen ⊢
  unfold rds at hg
  have w1 : IntKind.i64.wrap ((t.length : Int) - (s.i : Int)) = (t.length : Int) - (s.i : Int) := IntWalk.i64_in _ (by omega)
  have w2 : IntKind.i64.wrap ((s.i : Int) + (x.length : Int)) = ((s.i + x.length : Nat) : Int) := by rw [IntWalk.i64_in _ (by omega)]; omega
  refine fnHF 47 keep81 ib81 mk81 mix Tryz.func81 rfl (by kernel_rfl) (by simp) ?_
  simp (maxSteps := 1000000) -dsimp -implicitDefEqProofs only [go_sem, ↓reduceIte, keep81, ib81, mk81, Tryz.f81, hg, Option.toArray_none, Option.toArray_some, List.filterMap_cons, List.filterMap_nil, List.elem_cons_self, List.nil_append, List.append_nil, List.toList_toArray, w1, w2]
  repeat' (with_reducible first | intro _ | refine And.intro ?_ ?_)
  all_goals first
    | omega
    | (have hh : hasB t s.i x = false := hsh (by omega)
       rw [hh]; exact ⟨g, Heap.le_refl _, rfl, (upd_self (o := rds p t s) hg).symm⟩)
    | (have hh : hasB t s.i x = true := by unfold hasB; exact decide_eq_true (by rw [← hB]; assumption)
       rw [hh]; exact ⟨_, Heap.le_refl _, rfl, rfl⟩)
    | (have hh : hasB t s.i x = false := by unfold hasB; exact decide_eq_false (by rw [← hB]; assumption)
       rw [hh]; exact ⟨g, Heap.le_refl _, rfl, (upd_self (o := rds p t s) hg).symm⟩)
def keep53 : List Nat := [0, 1, 7]
def ib53 : List Nat := []
def mk53 : Marks := fun _ => ([], .nil, [])
theorem needSH {nb : Nat} {p : DProgram} {t : List UInt8} (ht : t.length ≤ 1048600) (x : List UInt8) (hx : x.length ≤ 100) {s : RSt} (g0 : Good 63 t s) {g : Heap} (hg : g nb = some (rds p t s)) :
    HFn Tryz.prog 53 [.op nb 6 0 0, .str x] g fun r h' => r = .tup [] ∧ h' = upd g nb (rds p t (needS t x s)) := by
  have hT := takeSH ht x hx g0 hg
  have hw : needS t x s = if tkS t x s then s.adv x.length else s.fail := rfl
  rw [hw]
  cases hk : tkS t x s
  · rw [hk] at hT
    refine fnHF 11 keep53 ib53 mk53 mix Tryz.func53 rfl (by kernel_rfl) (by simp) ?_
    simp (maxSteps := 1000000) -dsimp -implicitDefEqProofs only [go_sem, ↓reduceIte, keep53, ib53, mk53, Tryz.f53]
    refine HFnF.mkH hT ?_
    rintro r_ h' ⟨rfl, rfl⟩
    simp (maxSteps := 1000000) -dsimp -implicitDefEqProofs only [go_sem, ↓reduceIte, keep53, ib53, mk53, Tryz.f53, rds, Bool.false_eq_true, upd_upd]
    exact ⟨_, Heap.le_refl _, rfl⟩
  · rw [hk] at hT
    refine fnHF 11 keep53 ib53 mk53 mix Tryz.func53 rfl (by kernel_rfl) (by simp) ?_
    simp (maxSteps := 1000000) -dsimp -implicitDefEqProofs only [go_sem, ↓reduceIte, keep53, ib53, mk53, Tryz.f53]
    refine HFnF.mkH hT ?_
    rintro r_ h' ⟨rfl, rfl⟩
    simp (maxSteps := 1000000) -dsimp -implicitDefEqProofs only [go_sem, ↓reduceIte, keep53, ib53, mk53, Tryz.f53]
    exact ⟨_, Heap.le_refl _, rfl⟩
def keep52 : List Nat := [0, 2, 3, 65]
def ib52 : List Nat := []
def mk52 : Marks := fun id => match id with | 2 => ([3, 7, 14, 18, 25, 29, 37, 41, 48, 52], (.op 0 (.op 1 (.op 2 (.op 4 (.op 5 (.op 6 (.op 3 (.op 7 (.op 8 (.op 9 (.op 10 (.op 11 (.op 12 (.op 13 (.op 15 (.op 16 (.op 17 (.op 14 (.op 18 (.op 19 (.op 20 (.op 21 (.op 22 (.op 23 (.op 24 (.op 26 (.op 27 (.op 28 (.op 25 (.op 29 (.op 30 (.op 31 (.op 32 (.op 33 (.op 34 (.op 35 (.op 36 (.op 38 (.op 39 (.op 40 (.op 37 (.op 41 (.op 42 (.op 43 (.op 44 (.op 45 (.op 46 (.op 47 (.op 49 (.op 50 (.op 51 (.op 48 (.op 52 (.op 53 (.op 54 (.op 55 (.op 56 (.op 57 .nil)))))))))))))))))))))))))))))))))))))))))))))))))))))))))), []) | 4 => ([3, 8], (.op 0 (.op 1 (.op 2 (.op 4 (.op 5 (.op 6 (.op 7 (.op 3 (.op 8 (.op 9 (.op 10 .nil))))))))))), []) | _ => ([], .nil, [])
set_option maxRecDepth 100000 in
theorem wordS_H {nb : Nat} {p : DProgram} {t : List UInt8} (ht : t.length ≤ 1048600) {s : RSt} (g0 : Good 63 t s) {g : Heap} (hg : g nb = some (rds p t s)) :
    HFn Tryz.prog 52 [.op nb 6 0 0] g fun r h' => r = .str (wordAt t s.i) ∧ h' = upd g nb (rds p t (s.adv (wordAt t s.i).length)) := by
  have hi := g0.hi
  have hwl := wordAt_len hi
  have hg1 := hg
  unfold rds at hg
  refine fnHF 83 keep52 ib52 mk52 mix Tryz.func52 rfl (by kernel_rfl) (by simp) ?_
  simp (maxSteps := 1000000) -dsimp -implicitDefEqProofs only [go_sem, ↓reduceIte, keep52, ib52, mk52, Tryz.f52, hg]
  refine loopF (keep := keep52) (ib := ib52) (mk := mk52) mix (by kernel_rfl) (fun k : Nat => [(0, .op nb 6 0 0), (3, I s.i)]) (fun k => upd g nb (rds p t (s.adv k))) (fun k => k ≤ (wordAt t s.i).length) (fun k => (wordAt t s.i).length - k) 0 ⟨by simp [SatL, tget], by rw [show s.adv 0 = s from rfl, upd_self hg1]; exact Heap.le_refl _, Nat.zero_le _⟩ ?_
  intro k hk
  rcases Nat.lt_or_ge k (wordAt t s.i).length with hlt | hge
  · obtain ⟨c, hc, hwb⟩ := wordAt_at hlt
    have hwb2 : (97 ≤ c.toNat ∧ c.toNat ≤ 122) ∨ (48 ≤ c.toNat ∧ c.toNat ≤ 57) := by simpa [isWB] using hwb
    have hlt2 : s.i + k < t.length := by omega
    simp (maxSteps := 1000000) -dsimp -implicitDefEqProofs only [go_sem, ↓reduceIte, keep52, ib52, mk52, Tryz.f52, rds, RSt.adv, Option.toArray_none, Option.toArray_some, List.filterMap_cons, List.filterMap_nil, List.elem_cons_self, List.nil_append, List.append_nil, List.toList_toArray, hc]
    repeat' (with_reducible first | intro _ | refine And.intro ?_ ?_)
    all_goals first
      | (exfalso; omega)
      | omega
      | (rw [IntWalk.i64_in _ (by omega)]; exact ⟨k + 1, by rw [upd_upd]; exact Heap.le_refl _, by omega, by omega⟩)
  · have hk' : k = (wordAt t s.i).length := by omega
    subst hk'
    have hsl := wordAt_slice (t := t) (i := s.i)
    rcases Nat.lt_or_ge (s.i + (wordAt t s.i).length) t.length with hlt | hge
    · have hc : t[s.i + (wordAt t s.i).length]? = some t[s.i + (wordAt t s.i).length] := List.getElem?_eq_getElem hlt
      have hwb := wordAt_end hc
      generalize t[s.i + (wordAt t s.i).length] = c at hc hwb
      have hwb2 : ¬ ((97 ≤ c.toNat ∧ c.toNat ≤ 122) ∨ (48 ≤ c.toNat ∧ c.toNat ≤ 57)) := fun q => by
        have : isWB c = true := by simpa [isWB] using q
        rw [hwb] at this; cases this
      simp (maxSteps := 1000000) -dsimp -implicitDefEqProofs only [go_sem, ↓reduceIte, keep52, ib52, mk52, Tryz.f52, rds, RSt.adv, Option.toArray_none, Option.toArray_some, List.filterMap_cons, List.filterMap_nil, List.elem_cons_self, List.nil_append, List.append_nil, List.toList_toArray, hc]
      repeat' (with_reducible first | intro _ | refine And.intro ?_ ?_)
      all_goals first
        | (exfalso; omega)
        | omega
        | exact ⟨_, Heap.le_refl _, by rw [hsl], rfl⟩
    · simp (maxSteps := 1000000) -dsimp -implicitDefEqProofs only [go_sem, ↓reduceIte, keep52, ib52, mk52, Tryz.f52, rds, RSt.adv, Option.toArray_none, Option.toArray_some, List.filterMap_cons, List.filterMap_nil, List.elem_cons_self, List.nil_append, List.append_nil, List.toList_toArray]
      repeat' (with_reducible first | intro _ | refine And.intro ?_ ?_)
      all_goals first
        | (exfalso; omega)
        | omega
        | exact ⟨_, Heap.le_refl _, by rw [hsl], rfl⟩
open Go.Proofs
set_option linter.unusedVariables false
set_option linter.unusedSimpArgs false
def keep54 : List Nat := [0, 2, 3, 4, 12]
def ib54 : List Nat := []
def mk54 : Marks := fun _ => ([], .nil, [])
theorem numberS {nb : Nat} {p : DProgram} {t : List UInt8} (ht : t.length ≤ 1048600) {s : RSt} (g0 : Good 63 t s) {g : Heap} (hg : g nb = some (rds p t s)) :
    HFn Tryz.prog 54 [.op nb 6 0 0] g fun r h' => r = I (numS t s) ∧ h' = upd g nb (rds p t (numSs t s)) := by
  have hwl := wordAt_len g0.hi
  refine fnHF 17 keep54 ib54 mk54 mix Tryz.func54 rfl (by kernel_rfl) (by simp) ?_
  simp (maxSteps := 1000000) -dsimp -implicitDefEqProofs only [go_sem, ↓reduceIte, keep54, ib54, mk54, Tryz.f54]
  refine HFnF.mkH (wordS_H ht g0 hg) ?_
  rintro r_ h' ⟨rfl, rfl⟩
  simp (maxSteps := 1000000) -dsimp -implicitDefEqProofs only [go_sem, ↓reduceIte, keep54, ib54, mk54, Tryz.f54]
  first | refine HFnF.mk (specReadDecimal (wordAt t s.i) (by omega)) ?_ | refine CallSF.mk (specReadDecimal (wordAt t s.i) (by omega)) ?_ | refine HFnF.mkAt (specReadDecimal (wordAt t s.i) (by omega)) ?_ | refine CallSF.mk (FnAt.fn0 (specReadDecimal (wordAt t s.i) (by omega))) ?_
  simp (maxSteps := 1000000) -dsimp -implicitDefEqProofs only [go_sem, ↓reduceIte, keep54, ib54, mk54, Tryz.f54, rds, Option.toArray_none, Option.toArray_some, List.filterMap_cons, List.filterMap_nil, List.elem_cons_self, List.nil_append, List.append_nil, List.toList_toArray, upd_upd]
  refine ⟨fun hb => ⟨_, Heap.le_refl _, rfl, ?_⟩, fun hb => ⟨_, Heap.le_refl _, rfl, ?_⟩⟩
  · simp [numSs, RSt.orB, hb, RSt.adv]
  · simp [numSs, RSt.orB, hb, RSt.adv]
open Go.Proofs
set_option linter.unusedVariables false
set_option linter.unusedSimpArgs false
theorem lsS_bad {ex : RSt → DExpr × RSt} {t : List UInt8} {s : RSt} (h : s.b = true) : ∀ (n : Nat) (kids : List DExpr), lsS ex t n kids s = (kids, s)
  | 0, _ => rfl
  | n + 1, _ => by rw [lsS, if_pos h]
/-- A node in its box, with kids that have grown. -/
def boxE (k n c d : Int) (v : HVal) : HObj := .row 5 [[.v (I k), .v (I n), .v (I c), .v (I d), .v v]]
/-- Kids have been read into a node. -/
def KidsQ (B : Heap) (nb ne : Nat) (R' : HObj) (k n c d : Int) (l : List DExpr) (h' : Heap) : Prop :=
  ∃ es o g', OR DExpr.o l es ∧ New B (OV.rowsRows es) g' ∧ g' nb = none ∧ g' ne = none ∧ gside g' es o ∧ (∀ m, o = some m → ¬ m = nb ∧ ¬ m = ne) ∧ h' = upd (upd (oheap g' (.row 5 (OV.cells es)) o) ne (boxE k n c d (onil 5 es.length o))) nb R'
def keep92 : List Nat := [0, 1, 7, 12, 26]
def ib92 : List Nat := [20]
def mk92 : Marks := fun id => match id with | 3 => ([3, 5, 6, 8, 10, 13], (.op 0 (.op 1 (.op 2 (.op 4 (.op 7 (.op 3 (.alt 5 (.op 6 (.op 8 (.op 9 (.op 11 (.op 12 (.alt 10 (.op 13 .nil) 13 (.op 10 .nil))))))) 6 (.op 5 (.op 8 (.op 9 (.op 11 (.op 12 (.alt 10 (.op 13 .nil) 13 (.op 10 .nil)))))))))))))), [(3, 5)]) | _ => ([], .nil, [])
set_option maxRecDepth 100000 in
set_option maxHeartbeats 1000000 in
theorem kidsSH {nb ne : Nat} {p : DProgram} {t : List UInt8} (ht : t.length ≤ 1048600) {ex : RSt → DExpr × RSt} (hex : ExC t ex)
    {D : Int} (hcall : ∀ s, Good 62 t s → s.b = false → s.d = D → BX Tryz.prog 39 [.op nb 6 0 0] nb (rds p t s) (rds p t (ex s).2) (QA (ex s).1.o)) {s : RSt} (g0 : Good 62 t s) (hd0 : s.b = false → s.d = D) (k n c d : Int)
    {B : Heap} (hB : B nb = none) (hE : B ne = none) (hne : ¬ ne = nb) :
    HFn Tryz.prog 92 [.op nb 6 0 0, .op ne 5 0 0] (upd (upd B ne (boxE k n c d .nilsl)) nb (rds p t s)) fun r h' => r = .tup [] ∧ KidsQ B nb ne (rds p t (listS ex t s).2) k n c d (listS ex t s).1 h' := by
  have hw1 := needS_b (x := [40]) g0
  have g1 := hw1.good g0
  have hd1 : (needS t [40] s).b = false → (needS t [40] s).d = D := fun q => by
    have q1 := hw1.ok q
    rw [q1.2.1]; exact hd0 q1.1
  have d_ne_nb : ¬ ne = nb := hne
  have d_nb_ne : ¬ nb = ne := Ne.symm d_ne_nb
  have e_ne_nb : (ne = nb) = False := eq_false d_ne_nb
  have e_nb_ne : (nb = ne) = False := eq_false d_nb_ne
  refine fnHF 29 keep92 ib92 mk92 mix Tryz.func92 rfl (by kernel_rfl) (by simp) ?_
  simp (maxSteps := 1000000) -dsimp -implicitDefEqProofs only [go_sem, ↓reduceIte, keep92, ib92, mk92, Tryz.f92]
  refine HFnF.mkH (needSH ht [40] (by simp) (g0.le) (upd_same ..)) ?_
  rintro r_ h' ⟨rfl, rfl⟩
  rw [upd_upd]
  simp (maxSteps := 1000000) -dsimp -implicitDefEqProofs only [go_sem, ↓reduceIte, keep92, ib92, mk92, Tryz.f92]
  refine HFnF.mkH (takeSH ht [41] (by simp) g1.le (upd_same ..)) ?_
  rintro r_ h' ⟨rfl, rfl⟩
  rw [upd_upd]
  cases hk : tkS t [41] (needS t [40] s)
  · have hL : listS ex t s = lsS ex t (t.length + 1) [] (needS t [40] s) := by rw [listS, if_neg (by rw [hk]; simp)]
    rw [hL]
    generalize needS t [40] s = s1 at *
    simp (maxSteps := 1000000) -dsimp -implicitDefEqProofs only [go_sem, ↓reduceIte, keep92, ib92, mk92, Tryz.f92]
    generalize hR : lsS ex t (t.length + 1) [] s1 = R
    refine loopF (keep := keep92) (ib := ib92) (mk := mk92) mix (by kernel_rfl) (fun x : Nat × List DExpr × RSt × List (List OV) × Heap × Option Nat => [(0, .op nb 6 0 0), (1, .op ne 5 0 0)]) (fun x => upd (upd (oheap x.2.2.2.2.1 (.row 5 (OV.cells x.2.2.2.1)) x.2.2.2.2.2) ne (boxE k n c d (onil 5 x.2.2.2.1.length x.2.2.2.2.2))) nb (rds p t x.2.2.1)) (fun x => Good 62 t x.2.2.1 ∧ (x.2.2.1.b = false → t.length + 1 ≤ x.1 + x.2.2.1.i) ∧ lsS ex t x.1 x.2.1 x.2.2.1 = R ∧ OR DExpr.o x.2.1 x.2.2.2.1 ∧ New B (OV.rowsRows x.2.2.2.1) x.2.2.2.2.1 ∧ (x.2.2.2.2.1 nb = none ∧ x.2.2.2.2.1 ne = none) ∧ gside x.2.2.2.2.1 x.2.2.2.1 x.2.2.2.2.2 ∧ (∀ m, x.2.2.2.2.2 = some m → ¬ m = nb ∧ ¬ m = ne) ∧ x.2.2.2.1.length + x.1 = t.length + 1 ∧ (x.2.2.1.b = false → x.2.2.1.d = D)) (fun x => x.1) (t.length + 1, [], s1, [], B, none) ⟨by simp [SatL, tget], Heap.le_refl _, g1, fun _ => Nat.le_add_right _ _, hR, trivial, New.nil B, ⟨hB, hE⟩, rfl, by simp, by simp, hd1⟩ ?_
    rintro ⟨nn, kids, s, es, g, o⟩ ⟨gs, hn, hls, hor, hnew, ⟨znb, zne⟩, hos, hon, hrn, hds⟩
    simp only at gs hn hls hor hnew znb zne hos hon hrn hds ⊢
    have hi := gs.hi
    have hlen := hor.length
    cases hb : s.b with
    | true =>
      rw [lsS_bad hb] at hls
      subst hls
      have hbr : rds p t s = .row 6 [[.v (.ip 1 [[sls 3 DFunc.c p.fFuncs]] 0 0), .v (.str t), .v (I s.i), .v (I s.n), .v (I s.d), .v (.bool true)]] := by rw [rds, hb]
      simp (maxSteps := 1000000) -dsimp -implicitDefEqProofs only [go_sem, ↓reduceIte, keep92, ib92, mk92, Tryz.f92, hbr]
      exact ⟨_, Heap.le_refl _, es, o, g, hor, hnew, znb, zne, hos, hon, by simp only [hbr]⟩
    | false =>
      have hn := hn hb
      match nn, hn with
      | 0, hn => omega
      | n0 + 1, hn =>
      have hbr : rds p t s = .row 6 [[.v (.ip 1 [[sls 3 DFunc.c p.fFuncs]] 0 0), .v (.str t), .v (I s.i), .v (I s.n), .v (I s.d), .v (.bool false)]] := by rw [rds, hb]
      rw [lsS, if_neg (by rw [hb]; simp)] at hls
      have hx := hex s gs hb
      have gx := hx.good gs
      have hd2 : (needS t [59, 32] (ex s).2).b = false → (needS t [59, 32] (ex s).2).d = D := fun q => by
        have q1 := (needS_b (x := [59, 32]) gx).ok q
        have q2 := hx.ok q1.1
        rw [q1.2.1, q2.2.1]; exact hds q2.1
      have hx2 : tkS t [41] (ex s).2 = true ∨ tkS t [41] (ex s).2 = false := by cases tkS t [41] (ex s).2 <;> simp
      cases o with
      | none =>
        rw [gside_none] at hos
        subst hos
        obtain rfl : kids = [] := List.length_eq_zero_iff.1 hlen
        simp only [oheap_none, onil_none, boxE] at *
        simp (maxSteps := 1000000) -dsimp -implicitDefEqProofs only [go_sem, ↓reduceIte, keep92, ib92, mk92, Tryz.f92, hbr, e_ne_nb, e_nb_ne, upd_get, Option.toArray_none, Option.toArray_some, List.filterMap_cons, List.filterMap_nil, List.elem_cons_self, List.nil_append, List.append_nil, List.toList_toArray]
        refine ⟨by decide, by decide, ?_, ?_⟩
        · rw [← hbr]
          refine HFnF.mkH (hcall s gs hb (hds hb) _ (by simp only [upd_get, e_ne_nb, e_nb_ne, if_false]; exact znb)) ?_
          rintro r_ h' ⟨l, g9, ⟨e, oe, rfl, rfl⟩, w9, z9, rfl⟩
          obtain ⟨g3, rfl, w3, z3e⟩ := New.under zne w9; have z3b : g3 nb = none := by simpa only [upd_get, e_ne_nb, e_nb_ne, if_false] using z9
          have oe1 := oe
          rw [DExpr.o_iff] at oe1
          obtain ⟨y4, rfl, os4⟩ := oe1
          have hnew2 := New.snoc hnew w3
          have hor2 := OR.append hor (l' := [(ex s).1]) (es' := [_]) ⟨oe, trivial⟩
          simp (maxSteps := 1000000) -dsimp -implicitDefEqProofs only [go_sem, ↓reduceIte, keep92, ib92, mk92, Tryz.f92, e_ne_nb, e_nb_ne, upd_get, upd_ne, upd_swap d_nb_ne, upd_upd, Option.toArray_none, Option.toArray_some, List.filterMap_cons, List.filterMap_nil, List.elem_cons_self, List.nil_append, List.append_nil, List.toList_toArray, protF, OV.map_val, OV.map_val_nil, OV.val_v, os4.flat, os4.one, cells_len]
          refine ⟨by decide, fun m qm => ⟨by decide, ?_⟩⟩
          have am : ¬ m = nb := by grind
          have bm : ¬ m = ne := by grind
          have cm : g3 m = none := by grind
          have d_m_nb : ¬ m = nb := am
          have d_nb_m : ¬ nb = m := Ne.symm d_m_nb
          have e_m_nb : (m = nb) = False := eq_false d_m_nb
          have e_nb_m : (nb = m) = False := eq_false d_nb_m
          have d_m_ne : ¬ m = ne := bm
          have d_ne_m : ¬ ne = m := Ne.symm d_m_ne
          have e_m_ne : (m = ne) = False := eq_false d_m_ne
          have e_ne_m : (ne = m) = False := eq_false d_ne_m
          skip
          simp (maxSteps := 1000000) -dsimp -implicitDefEqProofs only [go_sem, ↓reduceIte, keep92, ib92, mk92, Tryz.f92, e_ne_nb, e_ne_m, e_nb_ne, e_nb_m, e_m_ne, e_m_nb, upd_get, upd_ne, upd_swap d_nb_ne, upd_swap d_nb_m, upd_upd, Int.toNat_zero, OV.map_val, OV.map_val_nil, OV.val_v, os4.flat, os4.one]
          refine ⟨?_, ?_⟩
          · refine HFnF.wk (g := upd (upd (upd g3 m (.row 5 (OV.cells (([] : List (List OV)) ++ [[.v (.int .i64 (ex s).1.fKind), .v (.int .i64 (ex s).1.fNum), .v (.int .i64 (ex s).1.fPick), .v (.int .i64 (ex s).1.fCount), y4]])))) ne (boxE k n c d (.os m 5 0 (([] : List (List OV)) ++ [[.v (.int .i64 (ex s).1.fKind), .v (.int .i64 (ex s).1.fNum), .v (.int .i64 (ex s).1.fPick), .v (.int .i64 (ex s).1.fCount), y4]]).length))) nb (rds p t (ex s).2)) (Heap.wk_of_le (by
              intro q_
              simp only [upd_get, cells_snoc, take_cells, cells_len, cells_one, cells_nil, OV.map_val, OV.map_val_nil, OV.val_v, List.nil_append, List.map_cons, List.map_nil, List.length_append, List.length_cons, List.length_nil, Nat.zero_add, boxE]
              grind)) ?_
            refine HFnF.mkH (takeSH ht [41] (by simp) gx.le (upd_same ..)) ?_
            rintro r_ h' ⟨rfl, rfl⟩
            rw [upd_upd]
            rcases hx2 with hk2 | hk2
            · rw [if_pos hk2] at hls
              subst hls
              simp (maxSteps := 1000000) -dsimp -implicitDefEqProofs only [go_sem, ↓reduceIte, keep92, ib92, mk92, Tryz.f92, hk2]
              exact ⟨_, Heap.le_refl _, _, some m, g3, hor2, hnew2, z3b, z3e, cm, fun a e => by cases e; exact ⟨am, bm⟩, rfl⟩
            · rw [if_neg (by rw [hk2]; simp)] at hls
              simp (maxSteps := 1000000) -dsimp -implicitDefEqProofs only [go_sem, ↓reduceIte, keep92, ib92, mk92, Tryz.f92, hk2, Bool.false_eq_true]
              refine HFnF.mkH (needSH ht [59, 32] (by simp) gx.le (upd_same ..)) ?_
              rintro r_ h' ⟨rfl, rfl⟩
              rw [upd_upd]
              simp (maxSteps := 1000000) -dsimp -implicitDefEqProofs only [go_sem, ↓reduceIte, keep92, ib92, mk92, Tryz.f92]
              refine ⟨(n0, [] ++ [(ex s).1], needS t [59, 32] (ex s).2, ([] : List (List OV)) ++ [[.v (.int .i64 (ex s).1.fKind), .v (.int .i64 (ex s).1.fNum), .v (.int .i64 (ex s).1.fPick), .v (.int .i64 (ex s).1.fCount), y4]], g3, some m), Heap.le_refl _, ⟨(needS_b gx).good gx, fun q => ?_, hls, hor2, hnew2, ⟨z3b, z3e⟩, cm, fun a e => by cases e; exact ⟨am, bm⟩, by simp at hrn ⊢; omega, hd2⟩, Nat.lt_succ_self _⟩
              have hlo := hx.lo
              simp only [] at q ⊢
              rw [(needS_ok q).2, adv_i]
              simp only [List.length_cons, List.length_nil]
              omega
          · refine HFnF.wk (g := upd (upd (upd g3 m (.row 5 (OV.cells (([] : List (List OV)) ++ [[.v (.int .i64 (ex s).1.fKind), .v (.int .i64 (ex s).1.fNum), .v (.int .i64 (ex s).1.fPick), .v (.int .i64 (ex s).1.fCount), y4]])))) ne (boxE k n c d (.os m 5 0 (([] : List (List OV)) ++ [[.v (.int .i64 (ex s).1.fKind), .v (.int .i64 (ex s).1.fNum), .v (.int .i64 (ex s).1.fPick), .v (.int .i64 (ex s).1.fCount), y4]]).length))) nb (rds p t (ex s).2)) (Heap.wk_of_le (by
              intro q_
              simp only [upd_get, cells_snoc, take_cells, cells_len, cells_one, cells_nil, OV.map_val, OV.map_val_nil, OV.val_v, List.nil_append, List.map_cons, List.map_nil, List.length_append, List.length_cons, List.length_nil, Nat.zero_add, boxE]
              grind)) ?_
            refine HFnF.mkH (takeSH ht [41] (by simp) gx.le (upd_same ..)) ?_
            rintro r_ h' ⟨rfl, rfl⟩
            rw [upd_upd]
            rcases hx2 with hk2 | hk2
            · rw [if_pos hk2] at hls
              subst hls
              simp (maxSteps := 1000000) -dsimp -implicitDefEqProofs only [go_sem, ↓reduceIte, keep92, ib92, mk92, Tryz.f92, hk2]
              exact ⟨_, Heap.le_refl _, _, some m, g3, hor2, hnew2, z3b, z3e, cm, fun a e => by cases e; exact ⟨am, bm⟩, rfl⟩
            · rw [if_neg (by rw [hk2]; simp)] at hls
              simp (maxSteps := 1000000) -dsimp -implicitDefEqProofs only [go_sem, ↓reduceIte, keep92, ib92, mk92, Tryz.f92, hk2, Bool.false_eq_true]
              refine HFnF.mkH (needSH ht [59, 32] (by simp) gx.le (upd_same ..)) ?_
              rintro r_ h' ⟨rfl, rfl⟩
              rw [upd_upd]
              simp (maxSteps := 1000000) -dsimp -implicitDefEqProofs only [go_sem, ↓reduceIte, keep92, ib92, mk92, Tryz.f92]
              refine ⟨(n0, [] ++ [(ex s).1], needS t [59, 32] (ex s).2, ([] : List (List OV)) ++ [[.v (.int .i64 (ex s).1.fKind), .v (.int .i64 (ex s).1.fNum), .v (.int .i64 (ex s).1.fPick), .v (.int .i64 (ex s).1.fCount), y4]], g3, some m), Heap.le_refl _, ⟨(needS_b gx).good gx, fun q => ?_, hls, hor2, hnew2, ⟨z3b, z3e⟩, cm, fun a e => by cases e; exact ⟨am, bm⟩, by simp at hrn ⊢; omega, hd2⟩, Nat.lt_succ_self _⟩
              have hlo := hx.lo
              simp only [] at q ⊢
              rw [(needS_ok q).2, adv_i]
              simp only [List.length_cons, List.length_nil]
              omega
        · rw [← hbr]
          refine HFnF.mkH (hcall s gs hb (hds hb) _ (by simp only [upd_get, e_ne_nb, e_nb_ne, if_false]; exact znb)) ?_
          rintro r_ h' ⟨l, g9, ⟨e, oe, rfl, rfl⟩, w9, z9, rfl⟩
          obtain ⟨g3, rfl, w3, z3e⟩ := New.under zne w9; have z3b : g3 nb = none := by simpa only [upd_get, e_ne_nb, e_nb_ne, if_false] using z9
          have oe1 := oe
          rw [DExpr.o_iff] at oe1
          obtain ⟨y4, rfl, os4⟩ := oe1
          have hnew2 := New.snoc hnew w3
          have hor2 := OR.append hor (l' := [(ex s).1]) (es' := [_]) ⟨oe, trivial⟩
          simp (maxSteps := 1000000) -dsimp -implicitDefEqProofs only [go_sem, ↓reduceIte, keep92, ib92, mk92, Tryz.f92, e_ne_nb, e_nb_ne, upd_get, upd_ne, upd_swap d_nb_ne, upd_upd, Option.toArray_none, Option.toArray_some, List.filterMap_cons, List.filterMap_nil, List.elem_cons_self, List.nil_append, List.append_nil, List.toList_toArray, protF, OV.map_val, OV.map_val_nil, OV.val_v, os4.flat, os4.one, cells_len]
          refine ⟨by decide, fun m qm => ⟨by decide, ?_⟩⟩
          have am : ¬ m = nb := by grind
          have bm : ¬ m = ne := by grind
          have cm : g3 m = none := by grind
          have d_m_nb : ¬ m = nb := am
          have d_nb_m : ¬ nb = m := Ne.symm d_m_nb
          have e_m_nb : (m = nb) = False := eq_false d_m_nb
          have e_nb_m : (nb = m) = False := eq_false d_nb_m
          have d_m_ne : ¬ m = ne := bm
          have d_ne_m : ¬ ne = m := Ne.symm d_m_ne
          have e_m_ne : (m = ne) = False := eq_false d_m_ne
          have e_ne_m : (ne = m) = False := eq_false d_ne_m
          skip
          simp (maxSteps := 1000000) -dsimp -implicitDefEqProofs only [go_sem, ↓reduceIte, keep92, ib92, mk92, Tryz.f92, e_ne_nb, e_ne_m, e_nb_ne, e_nb_m, e_m_ne, e_m_nb, upd_get, upd_ne, upd_swap d_nb_ne, upd_swap d_nb_m, upd_upd, Int.toNat_zero, OV.map_val, OV.map_val_nil, OV.val_v, os4.flat, os4.one]
          refine ⟨?_, ?_⟩
          · refine HFnF.wk (g := upd (upd (upd g3 m (.row 5 (OV.cells (([] : List (List OV)) ++ [[.v (.int .i64 (ex s).1.fKind), .v (.int .i64 (ex s).1.fNum), .v (.int .i64 (ex s).1.fPick), .v (.int .i64 (ex s).1.fCount), y4]])))) ne (boxE k n c d (.os m 5 0 (([] : List (List OV)) ++ [[.v (.int .i64 (ex s).1.fKind), .v (.int .i64 (ex s).1.fNum), .v (.int .i64 (ex s).1.fPick), .v (.int .i64 (ex s).1.fCount), y4]]).length))) nb (rds p t (ex s).2)) (Heap.wk_of_le (by
              intro q_
              simp only [upd_get, cells_snoc, take_cells, cells_len, cells_one, cells_nil, OV.map_val, OV.map_val_nil, OV.val_v, List.nil_append, List.map_cons, List.map_nil, List.length_append, List.length_cons, List.length_nil, Nat.zero_add, boxE]
              grind)) ?_
            refine HFnF.mkH (takeSH ht [41] (by simp) gx.le (upd_same ..)) ?_
            rintro r_ h' ⟨rfl, rfl⟩
            rw [upd_upd]
            rcases hx2 with hk2 | hk2
            · rw [if_pos hk2] at hls
              subst hls
              simp (maxSteps := 1000000) -dsimp -implicitDefEqProofs only [go_sem, ↓reduceIte, keep92, ib92, mk92, Tryz.f92, hk2]
              exact ⟨_, Heap.le_refl _, _, some m, g3, hor2, hnew2, z3b, z3e, cm, fun a e => by cases e; exact ⟨am, bm⟩, rfl⟩
            · rw [if_neg (by rw [hk2]; simp)] at hls
              simp (maxSteps := 1000000) -dsimp -implicitDefEqProofs only [go_sem, ↓reduceIte, keep92, ib92, mk92, Tryz.f92, hk2, Bool.false_eq_true]
              refine HFnF.mkH (needSH ht [59, 32] (by simp) gx.le (upd_same ..)) ?_
              rintro r_ h' ⟨rfl, rfl⟩
              rw [upd_upd]
              simp (maxSteps := 1000000) -dsimp -implicitDefEqProofs only [go_sem, ↓reduceIte, keep92, ib92, mk92, Tryz.f92]
              refine ⟨(n0, [] ++ [(ex s).1], needS t [59, 32] (ex s).2, ([] : List (List OV)) ++ [[.v (.int .i64 (ex s).1.fKind), .v (.int .i64 (ex s).1.fNum), .v (.int .i64 (ex s).1.fPick), .v (.int .i64 (ex s).1.fCount), y4]], g3, some m), Heap.le_refl _, ⟨(needS_b gx).good gx, fun q => ?_, hls, hor2, hnew2, ⟨z3b, z3e⟩, cm, fun a e => by cases e; exact ⟨am, bm⟩, by simp at hrn ⊢; omega, hd2⟩, Nat.lt_succ_self _⟩
              have hlo := hx.lo
              simp only [] at q ⊢
              rw [(needS_ok q).2, adv_i]
              simp only [List.length_cons, List.length_nil]
              omega
          · refine HFnF.wk (g := upd (upd (upd g3 m (.row 5 (OV.cells (([] : List (List OV)) ++ [[.v (.int .i64 (ex s).1.fKind), .v (.int .i64 (ex s).1.fNum), .v (.int .i64 (ex s).1.fPick), .v (.int .i64 (ex s).1.fCount), y4]])))) ne (boxE k n c d (.os m 5 0 (([] : List (List OV)) ++ [[.v (.int .i64 (ex s).1.fKind), .v (.int .i64 (ex s).1.fNum), .v (.int .i64 (ex s).1.fPick), .v (.int .i64 (ex s).1.fCount), y4]]).length))) nb (rds p t (ex s).2)) (Heap.wk_of_le (by
              intro q_
              simp only [upd_get, cells_snoc, take_cells, cells_len, cells_one, cells_nil, OV.map_val, OV.map_val_nil, OV.val_v, List.nil_append, List.map_cons, List.map_nil, List.length_append, List.length_cons, List.length_nil, Nat.zero_add, boxE]
              grind)) ?_
            refine HFnF.mkH (takeSH ht [41] (by simp) gx.le (upd_same ..)) ?_
            rintro r_ h' ⟨rfl, rfl⟩
            rw [upd_upd]
            rcases hx2 with hk2 | hk2
            · rw [if_pos hk2] at hls
              subst hls
              simp (maxSteps := 1000000) -dsimp -implicitDefEqProofs only [go_sem, ↓reduceIte, keep92, ib92, mk92, Tryz.f92, hk2]
              exact ⟨_, Heap.le_refl _, _, some m, g3, hor2, hnew2, z3b, z3e, cm, fun a e => by cases e; exact ⟨am, bm⟩, rfl⟩
            · rw [if_neg (by rw [hk2]; simp)] at hls
              simp (maxSteps := 1000000) -dsimp -implicitDefEqProofs only [go_sem, ↓reduceIte, keep92, ib92, mk92, Tryz.f92, hk2, Bool.false_eq_true]
              refine HFnF.mkH (needSH ht [59, 32] (by simp) gx.le (upd_same ..)) ?_
              rintro r_ h' ⟨rfl, rfl⟩
              rw [upd_upd]
              simp (maxSteps := 1000000) -dsimp -implicitDefEqProofs only [go_sem, ↓reduceIte, keep92, ib92, mk92, Tryz.f92]
              refine ⟨(n0, [] ++ [(ex s).1], needS t [59, 32] (ex s).2, ([] : List (List OV)) ++ [[.v (.int .i64 (ex s).1.fKind), .v (.int .i64 (ex s).1.fNum), .v (.int .i64 (ex s).1.fPick), .v (.int .i64 (ex s).1.fCount), y4]], g3, some m), Heap.le_refl _, ⟨(needS_b gx).good gx, fun q => ?_, hls, hor2, hnew2, ⟨z3b, z3e⟩, cm, fun a e => by cases e; exact ⟨am, bm⟩, by simp at hrn ⊢; omega, hd2⟩, Nat.lt_succ_self _⟩
              have hlo := hx.lo
              simp only [] at q ⊢
              rw [(needS_ok q).2, adv_i]
              simp only [List.length_cons, List.length_nil]
              omega
      | some m0 =>
        rw [gside_some] at hos
        have hm0 := hon m0 rfl
        have d_m0_nb : ¬ m0 = nb := hm0.1
        have d_nb_m0 : ¬ nb = m0 := Ne.symm d_m0_nb
        have e_m0_nb : (m0 = nb) = False := eq_false d_m0_nb
        have e_nb_m0 : (nb = m0) = False := eq_false d_nb_m0
        have d_m0_ne : ¬ m0 = ne := hm0.2
        have d_ne_m0 : ¬ ne = m0 := Ne.symm d_m0_ne
        have e_m0_ne : (m0 = ne) = False := eq_false d_m0_ne
        have e_ne_m0 : (ne = m0) = False := eq_false d_ne_m0
        simp only [oheap_some, onil_some, boxE] at *
        have hlast : ∀ x, (List.take es.length (OV.cells es) ++ [x])[es.length]? = some x := fun x => by rw [take_cells]; simp [cells_len]
        have hset : ∀ x y, (List.take es.length (OV.cells es) ++ [x]).set es.length y = OV.cells es ++ [y] := fun x y => by rw [take_cells, List.set_append_right _ _ (by rw [cells_len]; exact Nat.le_refl _), cells_len, Nat.sub_self]; rfl
        simp (maxSteps := 1000000) -dsimp -implicitDefEqProofs only [go_sem, ↓reduceIte, keep92, ib92, mk92, Tryz.f92, hbr, e_ne_nb, e_ne_m0, e_nb_ne, e_nb_m0, e_m0_ne, e_m0_nb, upd_get, Option.toArray_none, Option.toArray_some, List.filterMap_cons, List.filterMap_nil, List.elem_cons_self, List.nil_append, List.append_nil, List.toList_toArray]
        refine ⟨by decide, by decide, ?_, fun _ => ?_⟩
        · rw [← hbr]
          refine HFnF.mkH (hcall s gs hb (hds hb) _ (by simp only [upd_get, e_ne_nb, e_nb_ne, e_m0_nb, e_nb_m0, e_m0_ne, e_ne_m0, if_false]; exact znb)) ?_
          rintro r_ h' ⟨l, g9, ⟨e, oe, rfl, rfl⟩, w9, z9, rfl⟩
          obtain ⟨g3, rfl, w3, z30, z3e'⟩ := New.under2 hos (by rw [upd_ne _ _ _ _ d_ne_m0]; exact zne) w9; have z3e := (upd_none.1 z3e').2; have z3b : g3 nb = none := by simpa only [upd_get, e_ne_nb, e_ne_m0, e_nb_ne, e_nb_m0, e_m0_ne, e_m0_nb, if_false] using z9
          have oe1 := oe
          rw [DExpr.o_iff] at oe1
          obtain ⟨y4, rfl, os4⟩ := oe1
          have hnew2 := New.snoc hnew w3
          have hor2 := OR.append hor (l' := [(ex s).1]) (es' := [_]) ⟨oe, trivial⟩
          simp (maxSteps := 1000000) -dsimp -implicitDefEqProofs only [go_sem, ↓reduceIte, keep92, ib92, mk92, Tryz.f92, e_ne_nb, e_nb_ne, e_m0_nb, e_nb_m0, e_m0_ne, e_ne_m0, upd_get, upd_ne, upd_swap d_nb_ne, upd_upd, Option.toArray_none, Option.toArray_some, List.filterMap_cons, List.filterMap_nil, List.elem_cons_self, List.nil_append, List.append_nil, List.toList_toArray, protF, OV.map_val, OV.map_val_nil, OV.val_v, os4.flat, os4.one, cells_len]
          refine fun _ => ⟨by decide, Nat.le_refl _, by omega, by omega, fun m qm => ⟨Nat.lt_succ_self _, ?_⟩⟩
          have am : ¬ m = nb := by grind
          have bm : ¬ m = ne := by grind
          have cm : g3 m = none := by grind
          have d_m_nb : ¬ m = nb := am
          have d_nb_m : ¬ nb = m := Ne.symm d_m_nb
          have e_m_nb : (m = nb) = False := eq_false d_m_nb
          have e_nb_m : (nb = m) = False := eq_false d_nb_m
          have d_m_ne : ¬ m = ne := bm
          have d_ne_m : ¬ ne = m := Ne.symm d_m_ne
          have e_m_ne : (m = ne) = False := eq_false d_m_ne
          have e_ne_m : (ne = m) = False := eq_false d_ne_m
          have dm : ¬ m = m0 := (by grind); have e_m_m0 := eq_false dm; have e_m0_m := eq_false (Ne.symm dm)
          simp (maxSteps := 1000000) -dsimp -implicitDefEqProofs only [go_sem, ↓reduceIte, keep92, ib92, mk92, Tryz.f92, e_ne_nb, e_ne_m, e_nb_ne, e_nb_m, e_m_ne, e_m_nb, e_m0_nb, e_m0_ne, e_nb_m0, e_nb_ne, e_ne_m0, e_ne_nb, e_m_m0, e_m0_m, hlast, hset, upd_get, upd_ne, upd_swap d_nb_ne, upd_swap d_nb_m, upd_upd, Int.toNat_zero, OV.map_val, OV.map_val_nil, OV.val_v, os4.flat, os4.one]
          refine ⟨?_, ?_⟩
          · refine HFnF.wk (g := upd (upd (upd g3 m (.row 5 (OV.cells (es ++ [[.v (.int .i64 (ex s).1.fKind), .v (.int .i64 (ex s).1.fNum), .v (.int .i64 (ex s).1.fPick), .v (.int .i64 (ex s).1.fCount), y4]])))) ne (boxE k n c d (.os m 5 0 (es ++ [[.v (.int .i64 (ex s).1.fKind), .v (.int .i64 (ex s).1.fNum), .v (.int .i64 (ex s).1.fPick), .v (.int .i64 (ex s).1.fCount), y4]]).length))) nb (rds p t (ex s).2)) (Heap.wk_of_le (by
              intro q_
              simp only [upd_get, cells_snoc, take_cells, cells_len, cells_one, cells_nil, OV.map_val, OV.map_val_nil, OV.val_v, List.nil_append, List.map_cons, List.map_nil, List.length_append, List.length_cons, List.length_nil, Nat.zero_add, boxE]
              grind)) ?_
            refine HFnF.mkH (takeSH ht [41] (by simp) gx.le (upd_same ..)) ?_
            rintro r_ h' ⟨rfl, rfl⟩
            rw [upd_upd]
            rcases hx2 with hk2 | hk2
            · rw [if_pos hk2] at hls
              subst hls
              simp (maxSteps := 1000000) -dsimp -implicitDefEqProofs only [go_sem, ↓reduceIte, keep92, ib92, mk92, Tryz.f92, hk2]
              exact ⟨_, Heap.le_refl _, _, some m, g3, hor2, hnew2, z3b, z3e, cm, fun a e => by cases e; exact ⟨am, bm⟩, rfl⟩
            · rw [if_neg (by rw [hk2]; simp)] at hls
              simp (maxSteps := 1000000) -dsimp -implicitDefEqProofs only [go_sem, ↓reduceIte, keep92, ib92, mk92, Tryz.f92, hk2, Bool.false_eq_true]
              refine HFnF.mkH (needSH ht [59, 32] (by simp) gx.le (upd_same ..)) ?_
              rintro r_ h' ⟨rfl, rfl⟩
              rw [upd_upd]
              simp (maxSteps := 1000000) -dsimp -implicitDefEqProofs only [go_sem, ↓reduceIte, keep92, ib92, mk92, Tryz.f92]
              refine ⟨(n0, kids ++ [(ex s).1], needS t [59, 32] (ex s).2, es ++ [[.v (.int .i64 (ex s).1.fKind), .v (.int .i64 (ex s).1.fNum), .v (.int .i64 (ex s).1.fPick), .v (.int .i64 (ex s).1.fCount), y4]], g3, some m), Heap.le_refl _, ⟨(needS_b gx).good gx, fun q => ?_, hls, hor2, hnew2, ⟨z3b, z3e⟩, cm, fun a e => by cases e; exact ⟨am, bm⟩, by simp at hrn ⊢; omega, hd2⟩, Nat.lt_succ_self _⟩
              have hlo := hx.lo
              simp only [] at q ⊢
              rw [(needS_ok q).2, adv_i]
              simp only [List.length_cons, List.length_nil]
              omega
          · refine HFnF.wk (g := upd (upd (upd g3 m (.row 5 (OV.cells (es ++ [[.v (.int .i64 (ex s).1.fKind), .v (.int .i64 (ex s).1.fNum), .v (.int .i64 (ex s).1.fPick), .v (.int .i64 (ex s).1.fCount), y4]])))) ne (boxE k n c d (.os m 5 0 (es ++ [[.v (.int .i64 (ex s).1.fKind), .v (.int .i64 (ex s).1.fNum), .v (.int .i64 (ex s).1.fPick), .v (.int .i64 (ex s).1.fCount), y4]]).length))) nb (rds p t (ex s).2)) (Heap.wk_of_le (by
              intro q_
              simp only [upd_get, cells_snoc, take_cells, cells_len, cells_one, cells_nil, OV.map_val, OV.map_val_nil, OV.val_v, List.nil_append, List.map_cons, List.map_nil, List.length_append, List.length_cons, List.length_nil, Nat.zero_add, boxE]
              grind)) ?_
            refine HFnF.mkH (takeSH ht [41] (by simp) gx.le (upd_same ..)) ?_
            rintro r_ h' ⟨rfl, rfl⟩
            rw [upd_upd]
            rcases hx2 with hk2 | hk2
            · rw [if_pos hk2] at hls
              subst hls
              simp (maxSteps := 1000000) -dsimp -implicitDefEqProofs only [go_sem, ↓reduceIte, keep92, ib92, mk92, Tryz.f92, hk2]
              exact ⟨_, Heap.le_refl _, _, some m, g3, hor2, hnew2, z3b, z3e, cm, fun a e => by cases e; exact ⟨am, bm⟩, rfl⟩
            · rw [if_neg (by rw [hk2]; simp)] at hls
              simp (maxSteps := 1000000) -dsimp -implicitDefEqProofs only [go_sem, ↓reduceIte, keep92, ib92, mk92, Tryz.f92, hk2, Bool.false_eq_true]
              refine HFnF.mkH (needSH ht [59, 32] (by simp) gx.le (upd_same ..)) ?_
              rintro r_ h' ⟨rfl, rfl⟩
              rw [upd_upd]
              simp (maxSteps := 1000000) -dsimp -implicitDefEqProofs only [go_sem, ↓reduceIte, keep92, ib92, mk92, Tryz.f92]
              refine ⟨(n0, kids ++ [(ex s).1], needS t [59, 32] (ex s).2, es ++ [[.v (.int .i64 (ex s).1.fKind), .v (.int .i64 (ex s).1.fNum), .v (.int .i64 (ex s).1.fPick), .v (.int .i64 (ex s).1.fCount), y4]], g3, some m), Heap.le_refl _, ⟨(needS_b gx).good gx, fun q => ?_, hls, hor2, hnew2, ⟨z3b, z3e⟩, cm, fun a e => by cases e; exact ⟨am, bm⟩, by simp at hrn ⊢; omega, hd2⟩, Nat.lt_succ_self _⟩
              have hlo := hx.lo
              simp only [] at q ⊢
              rw [(needS_ok q).2, adv_i]
              simp only [List.length_cons, List.length_nil]
              omega
        · rw [← hbr]
          refine HFnF.mkH (hcall s gs hb (hds hb) _ (by simp only [upd_get, e_ne_nb, e_nb_ne, e_m0_nb, e_nb_m0, e_m0_ne, e_ne_m0, if_false]; exact znb)) ?_
          rintro r_ h' ⟨l, g9, ⟨e, oe, rfl, rfl⟩, w9, z9, rfl⟩
          obtain ⟨g3, rfl, w3, z30, z3e'⟩ := New.under2 hos (by rw [upd_ne _ _ _ _ d_ne_m0]; exact zne) w9; have z3e := (upd_none.1 z3e').2; have z3b : g3 nb = none := by simpa only [upd_get, e_ne_nb, e_ne_m0, e_nb_ne, e_nb_m0, e_m0_ne, e_m0_nb, if_false] using z9
          have oe1 := oe
          rw [DExpr.o_iff] at oe1
          obtain ⟨y4, rfl, os4⟩ := oe1
          have hnew2 := New.snoc hnew w3
          have hor2 := OR.append hor (l' := [(ex s).1]) (es' := [_]) ⟨oe, trivial⟩
          simp (maxSteps := 1000000) -dsimp -implicitDefEqProofs only [go_sem, ↓reduceIte, keep92, ib92, mk92, Tryz.f92, e_ne_nb, e_nb_ne, e_m0_nb, e_nb_m0, e_m0_ne, e_ne_m0, upd_get, upd_ne, upd_swap d_nb_ne, upd_upd, Option.toArray_none, Option.toArray_some, List.filterMap_cons, List.filterMap_nil, List.elem_cons_self, List.nil_append, List.append_nil, List.toList_toArray, protF, OV.map_val, OV.map_val_nil, OV.val_v, os4.flat, os4.one, cells_len]
          refine ⟨by decide, Nat.le_refl _, by omega, by omega, fun m qm => ⟨Nat.lt_succ_self _, ?_⟩⟩
          have am : ¬ m = nb := by grind
          have bm : ¬ m = ne := by grind
          have cm : g3 m = none := by grind
          have d_m_nb : ¬ m = nb := am
          have d_nb_m : ¬ nb = m := Ne.symm d_m_nb
          have e_m_nb : (m = nb) = False := eq_false d_m_nb
          have e_nb_m : (nb = m) = False := eq_false d_nb_m
          have d_m_ne : ¬ m = ne := bm
          have d_ne_m : ¬ ne = m := Ne.symm d_m_ne
          have e_m_ne : (m = ne) = False := eq_false d_m_ne
          have e_ne_m : (ne = m) = False := eq_false d_ne_m
          have dm : ¬ m = m0 := (by grind); have e_m_m0 := eq_false dm; have e_m0_m := eq_false (Ne.symm dm)
          simp (maxSteps := 1000000) -dsimp -implicitDefEqProofs only [go_sem, ↓reduceIte, keep92, ib92, mk92, Tryz.f92, e_ne_nb, e_ne_m, e_nb_ne, e_nb_m, e_m_ne, e_m_nb, e_m0_nb, e_m0_ne, e_nb_m0, e_nb_ne, e_ne_m0, e_ne_nb, e_m_m0, e_m0_m, hlast, hset, upd_get, upd_ne, upd_swap d_nb_ne, upd_swap d_nb_m, upd_upd, Int.toNat_zero, OV.map_val, OV.map_val_nil, OV.val_v, os4.flat, os4.one]
          refine ⟨?_, ?_⟩
          · refine HFnF.wk (g := upd (upd (upd g3 m (.row 5 (OV.cells (es ++ [[.v (.int .i64 (ex s).1.fKind), .v (.int .i64 (ex s).1.fNum), .v (.int .i64 (ex s).1.fPick), .v (.int .i64 (ex s).1.fCount), y4]])))) ne (boxE k n c d (.os m 5 0 (es ++ [[.v (.int .i64 (ex s).1.fKind), .v (.int .i64 (ex s).1.fNum), .v (.int .i64 (ex s).1.fPick), .v (.int .i64 (ex s).1.fCount), y4]]).length))) nb (rds p t (ex s).2)) (Heap.wk_of_le (by
              intro q_
              simp only [upd_get, cells_snoc, take_cells, cells_len, cells_one, cells_nil, OV.map_val, OV.map_val_nil, OV.val_v, List.nil_append, List.map_cons, List.map_nil, List.length_append, List.length_cons, List.length_nil, Nat.zero_add, boxE]
              grind)) ?_
            refine HFnF.mkH (takeSH ht [41] (by simp) gx.le (upd_same ..)) ?_
            rintro r_ h' ⟨rfl, rfl⟩
            rw [upd_upd]
            rcases hx2 with hk2 | hk2
            · rw [if_pos hk2] at hls
              subst hls
              simp (maxSteps := 1000000) -dsimp -implicitDefEqProofs only [go_sem, ↓reduceIte, keep92, ib92, mk92, Tryz.f92, hk2]
              exact ⟨_, Heap.le_refl _, _, some m, g3, hor2, hnew2, z3b, z3e, cm, fun a e => by cases e; exact ⟨am, bm⟩, rfl⟩
            · rw [if_neg (by rw [hk2]; simp)] at hls
              simp (maxSteps := 1000000) -dsimp -implicitDefEqProofs only [go_sem, ↓reduceIte, keep92, ib92, mk92, Tryz.f92, hk2, Bool.false_eq_true]
              refine HFnF.mkH (needSH ht [59, 32] (by simp) gx.le (upd_same ..)) ?_
              rintro r_ h' ⟨rfl, rfl⟩
              rw [upd_upd]
              simp (maxSteps := 1000000) -dsimp -implicitDefEqProofs only [go_sem, ↓reduceIte, keep92, ib92, mk92, Tryz.f92]
              refine ⟨(n0, kids ++ [(ex s).1], needS t [59, 32] (ex s).2, es ++ [[.v (.int .i64 (ex s).1.fKind), .v (.int .i64 (ex s).1.fNum), .v (.int .i64 (ex s).1.fPick), .v (.int .i64 (ex s).1.fCount), y4]], g3, some m), Heap.le_refl _, ⟨(needS_b gx).good gx, fun q => ?_, hls, hor2, hnew2, ⟨z3b, z3e⟩, cm, fun a e => by cases e; exact ⟨am, bm⟩, by simp at hrn ⊢; omega, hd2⟩, Nat.lt_succ_self _⟩
              have hlo := hx.lo
              simp only [] at q ⊢
              rw [(needS_ok q).2, adv_i]
              simp only [List.length_cons, List.length_nil]
              omega
          · refine HFnF.wk (g := upd (upd (upd g3 m (.row 5 (OV.cells (es ++ [[.v (.int .i64 (ex s).1.fKind), .v (.int .i64 (ex s).1.fNum), .v (.int .i64 (ex s).1.fPick), .v (.int .i64 (ex s).1.fCount), y4]])))) ne (boxE k n c d (.os m 5 0 (es ++ [[.v (.int .i64 (ex s).1.fKind), .v (.int .i64 (ex s).1.fNum), .v (.int .i64 (ex s).1.fPick), .v (.int .i64 (ex s).1.fCount), y4]]).length))) nb (rds p t (ex s).2)) (Heap.wk_of_le (by
              intro q_
              simp only [upd_get, cells_snoc, take_cells, cells_len, cells_one, cells_nil, OV.map_val, OV.map_val_nil, OV.val_v, List.nil_append, List.map_cons, List.map_nil, List.length_append, List.length_cons, List.length_nil, Nat.zero_add, boxE]
              grind)) ?_
            refine HFnF.mkH (takeSH ht [41] (by simp) gx.le (upd_same ..)) ?_
            rintro r_ h' ⟨rfl, rfl⟩
            rw [upd_upd]
            rcases hx2 with hk2 | hk2
            · rw [if_pos hk2] at hls
              subst hls
              simp (maxSteps := 1000000) -dsimp -implicitDefEqProofs only [go_sem, ↓reduceIte, keep92, ib92, mk92, Tryz.f92, hk2]
              exact ⟨_, Heap.le_refl _, _, some m, g3, hor2, hnew2, z3b, z3e, cm, fun a e => by cases e; exact ⟨am, bm⟩, rfl⟩
            · rw [if_neg (by rw [hk2]; simp)] at hls
              simp (maxSteps := 1000000) -dsimp -implicitDefEqProofs only [go_sem, ↓reduceIte, keep92, ib92, mk92, Tryz.f92, hk2, Bool.false_eq_true]
              refine HFnF.mkH (needSH ht [59, 32] (by simp) gx.le (upd_same ..)) ?_
              rintro r_ h' ⟨rfl, rfl⟩
              rw [upd_upd]
              simp (maxSteps := 1000000) -dsimp -implicitDefEqProofs only [go_sem, ↓reduceIte, keep92, ib92, mk92, Tryz.f92]
              refine ⟨(n0, kids ++ [(ex s).1], needS t [59, 32] (ex s).2, es ++ [[.v (.int .i64 (ex s).1.fKind), .v (.int .i64 (ex s).1.fNum), .v (.int .i64 (ex s).1.fPick), .v (.int .i64 (ex s).1.fCount), y4]], g3, some m), Heap.le_refl _, ⟨(needS_b gx).good gx, fun q => ?_, hls, hor2, hnew2, ⟨z3b, z3e⟩, cm, fun a e => by cases e; exact ⟨am, bm⟩, by simp at hrn ⊢; omega, hd2⟩, Nat.lt_succ_self _⟩
              have hlo := hx.lo
              simp only [] at q ⊢
              rw [(needS_ok q).2, adv_i]
              simp only [List.length_cons, List.length_nil]
              omega
  · have hL : listS ex t s = ([], (needS t [40] s).adv 1) := by rw [listS, if_pos hk]
    rw [hL]
    simp (maxSteps := 1000000) -dsimp -implicitDefEqProofs only [go_sem, ↓reduceIte, keep92, ib92, mk92, Tryz.f92]
    exact ⟨_, Heap.le_refl _, [], none, B, trivial, New.nil B, hB, hE, rfl, by simp, rfl⟩
end Go.Hl

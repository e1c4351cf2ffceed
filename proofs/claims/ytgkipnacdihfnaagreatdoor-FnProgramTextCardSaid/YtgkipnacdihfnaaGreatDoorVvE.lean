/-
  Contracts of functions and laws of the layer over the walk.
-/
import Derived.Test.YtgkipnacdihfnaaGreatDoorVvD
import Derived.Test.YtgkipnacdihfnaaGreatDoorVvC
import Derived.Test.YtgkipnacdihfnaaGreatDoorVvB
import Derived.Test.YtgkipnacdihfnaaGreatDoorVvA
namespace Go.Hl
open Go.Proofs
set_option linter.unusedVariables false
set_option linter.unusedSimpArgs false
theorem leaf_call {p : DProgram} {ns ng np : Nat} {c : List Int} {pl : Bool} {vars : Int} {dp a : Nat} {L : Int} {B H : Heap} {k n : Int} {a' : Nat} {sd' : Int} (h : (k = 1 ∧ Num n) ∨ (k = 2 ∧ 0 ≤ n ∧ n < vars)) (hB1 : B ns = none) (hB2 : B ng = none) (ha : a ≤ a' ∧ a' ≤ a + 10) (hle : (upd (upd B ns (srcB c a' sd')) ng (genB ns np L pl)).le H) :
    ∃ r1 g2, Shift (.agg [I k, I n, I 0, I 0, .nilsl]) H r1 g2 ∧ CallQ p ns ng np c pl vars dp a L B r1 g2 := by
  refine ⟨_, _, Shift.of (leaf_sub k n) hle, _, _, B, a', sd', L, leaf_o k n, rfl, by rw [leaf_rows]; exact New.nil B, ⟨hB1, hB2⟩, rfl, leaf_ok h, by rw [leaf_d]; omega, ?_, by rw [leaf_s]; omega⟩
  rw [leaf_s]
  omega
structure Hold (T : Prop) : Prop where
  get : T
theorem share2 {T G : Prop} (m : Hold T → G) (t : T) : G := m ⟨t⟩
/-- Where the drawing of a call's kids stands. -/
abbrev CSt := Int × Nat × List DExpr × List (List OV) × Heap × Option Nat × Nat × Int × Int × Int
def CSide (p : DProgram) (f : DFunc) (vars : Int) (dp a : Nat) (L : Int) (B : Heap) (ns ng n8 n9 : Nat) : CSt → Prop := fun (K, i, kids, es, g1, o, a3, _, L3, cnt) =>
  ((K = 10 ∧ cnt = 0) ∨ (K = 11 ∧ 0 ≤ cnt ∧ cnt ≤ 8 ∧ (f.fOuts.length : Int) = f.fParams)) ∧ i ≤ f.fParams.toNat ∧ kids.length = i ∧ OR DExpr.o kids es ∧ New B (OV.rowsRows es) g1 ∧ (g1 ns = none ∧ g1 ng = none ∧ g1 n8 = none ∧ g1 n9 = none) ∧ gside g1 es o ∧ (∀ m, o = some m → ¬ m = ns ∧ ¬ m = ng ∧ ¬ m = n8 ∧ ¬ m = n9) ∧
    (∀ (j : Nat) (h : j < kids.length), kids[j].ok p p.fFuncs.length vars) ∧ DExpr.dL kids ≤ dp ∧ (L3 ≤ L ∧ L - szs DExpr.s kids ≤ L3 ∧ szs DExpr.s kids + 3 * mL L3 ≤ 3 * mL L + i) ∧ (a ≤ a3 ∧ a3 ≤ a + 10 + 14 * szs DExpr.s kids)
theorem CSide.next {p : DProgram} {f : DFunc} {vars : Int} {dp a : Nat} {L : Int} {B : Heap} {ns ng n8 n9 : Nat} {K cnt : Int} {i : Nat} {kids : List DExpr} {es : List (List OV)} {g1 g5 : Heap} {o : Option Nat} {a3 a5 : Nat} {sd3 sd5 L3 L5 : Int} {x : DExpr} {e : List OV} {m : Nat}
    (h : CSide p f vars dp a L B ns ng n8 n9 (K, i, kids, es, g1, o, a3, sd3, L3, cnt)) (hlt : (i : Int) < f.fParams) (hx : x.o e) (w : New g1 (OV.rowsRow e) g5) (z : g5 ns = none ∧ g5 ng = none ∧ g5 n8 = none ∧ g5 n9 = none) (hm : g5 m = none) (hm2 : ¬ m = ns ∧ ¬ m = ng ∧ ¬ m = n8 ∧ ¬ m = n9)
    (hok : x.ok p p.fFuncs.length vars) (hd : x.d ≤ dp) (hL : L5 ≤ L3 - 1 ∧ L3 - (x.s + 1) ≤ L5 ∧ x.s + 3 * mL L5 ≤ 3 * mL L3) (ha : a3 ≤ a5 ∧ a5 ≤ a3 + 14 * (x.s + 1)) : CSide p f vars dp a L B ns ng n8 n9 (K, i + 1, kids ++ [x], es ++ [e], g5, some m, a5, sd5, L5, cnt) := by
  obtain ⟨hK, hi, hlen, hor, hnew, -, -, -, hok0, hdl, hL3, ha3⟩ := h
  refine ⟨hK, by omega, by rw [List.length_append, hlen]; rfl, OR.append hor ⟨hx, trivial⟩, New.snoc hnew w, z, hm, fun b q => by cases q; exact hm2, fun j hj => ?_, by rw [dL_snoc]; omega, ?_, ?_⟩
  · rcases Nat.lt_or_ge j kids.length with h2 | h2
    · rw [List.getElem_append_left h2]; exact hok0 j h2
    · obtain rfl : j = kids.length := by rw [List.length_append] at hj; simp at hj; omega
      rw [List.getElem_append_right (Nat.le_refl _)]
      simp only [Nat.sub_self, List.getElem_cons_zero]
      exact hok
  · rw [szs_snoc]; refine ⟨by omega, by omega, by omega⟩
  · rw [szs_snoc]; omega
theorem kids_call {p : DProgram} {f : DFunc} {ns ng np : Nat} {c : List Int} {pl : Bool} {vars : Int} {dp a k : Nat} {L y cnt : Int} {B H : Heap} {n8 n9 : Nat} {K : Int} {i : Nat} {kids : List DExpr} {es : List (List OV)} {g1 : Heap} {o : Option Nat} {a3 : Nat} {sd3 L3 : Int} (hf : p.fFuncs[k]? = some f) (hf1 : 1 ≤ f.fParams ∧ f.fParams ≤ 3) (hy : 0 ≤ y ∧ y < f.fOuts.length)
    (h : CSide p f vars dp a L B ns ng n8 n9 (K, i, kids, es, g1, o, a3, sd3, L3, cnt)) (hi : (i : Int) = f.fParams) (hle : (upd (upd (oheap g1 (.row 5 (OV.cells es)) o) ns (srcB c a3 sd3)) ng (genB ns np L3 pl)).le H) :
    ∃ r1 g2, Shift (.agg [I K, I k, I y, I cnt, onil 5 i o]) H r1 g2 ∧ CallQ p ns ng np c pl vars dp a L B r1 g2 := by
  obtain ⟨hK, -, hlen, hor, hnew, ⟨zs, zg, -, -⟩, hgs, hon, hok, hdl, hL, ha3⟩ := h
  have hes : es.length = i := by rw [← hor.length]; exact hlen
  have hkl : k < p.fFuncs.length := by rcases Nat.lt_or_ge k p.fFuncs.length with h | h; exact h; rw [List.getElem?_eq_none h] at hf; cases hf
  rw [← hes]
  have z (q : Nat) (hq : g1 q = none) (hqo : ∀ m, o = some m → ¬ m = q) : oheap g1 (.row 5 (OV.cells es)) o q = none := oheap_at hq hqo
  refine ⟨_, _, Shift.of (Sub.agg (.cons (.refl _) (.cons (.refl _) (.cons (.refl _) (.cons (.refl _) (.cons gov_sub .nil)))))) hle, .mk K k y cnt kids, [.v (I K), .v (I k), .v (I y), .v (I cnt), gov 5 es o], _, a3, sd3, L3, (DExpr.o_iff _ _).2 ⟨_, rfl, gov_os hor hgs⟩, rfl,
    by simpa only [OV.row_cons, OV.row_nil, OV.v_rows, List.nil_append, List.append_nil] using gov_new hnew hgs, ⟨z ns zs fun m e => (hon m e).1, z ng zg fun m e => (hon m e).2.1⟩, rfl, (DExpr.ok_iff _ _ _ _).2 ⟨?_, fun j hj => ?_⟩, by rw [DExpr.d_eq]; simp only [DExpr.fKids]; omega, ?_, ?_⟩
  · unfold nodeOK
    rw [if_pos (show (DExpr.mk K k y cnt kids).fKind = 10 ∨ (DExpr.mk K k y cnt kids).fKind = 11 from by simp only [DExpr.fKind]; omega)]
    simp only [DExpr.fKind, DExpr.fNum, DExpr.fPick, DExpr.fCount, DExpr.fKids]
    refine ⟨by omega, by omega, fun f' hf' => ?_⟩
    rw [Int.toNat_natCast, hf] at hf'
    cases hf'
    refine ⟨hy.1, by omega, by omega, fun q => by omega, fun q => by omega⟩
  · have hm : moreV (DExpr.mk K k y cnt kids).fKind j vars = vars := by unfold moreV; rw [if_neg (by simp only [DExpr.fKind]; omega)]
    rw [hm]
    exact hok j hj
  · rw [mk_s]; refine ⟨by omega, by omega, by omega⟩
  · rw [mk_s]; omega
def keep59 : List Nat := [0, 1, 2, 3, 8, 9, 10, 11, 13, 61, 74]
def ib59 : List Nat := [85]
def mk59 : Marks := fun id => match id with | 4 => ([3, 6, 8], (.op 0 (.op 1 (.op 2 (.op 7 (.op 3 (.op 4 (.op 5 (.op 6 (.op 8 (.op 9 (.op 10 .nil))))))))))), []) | 5 => ([3, 7, 8, 9, 11], (.op 0 (.op 1 (.op 2 (.op 4 (.op 5 (.op 6 (.op 3 (.op 7 (.op 8 (.op 9 (.op 10 (.op 11 .nil)))))))))))), [(3, 8)]) | 6 => ([3, 4, 8, 14, 15], (.op 0 (.op 1 (.op 2 (.op 5 (.op 6 (.op 7 (.op 3 (.op 8 (.op 4 (.op 9 (.op 10 (.op 11 (.op 12 (.op 13 (.op 14 (.op 15 (.op 16 .nil))))))))))))))))), [(8, 4)]) | 12 => ([1, 7, 9, 11], (.op 0 (.op 2 (.op 3 (.op 4 (.op 5 (.op 6 (.op 1 (.op 7 (.op 8 (.op 9 (.op 10 (.op 11 .nil)))))))))))), [(1, 7)]) | _ => ([], .nil, [])
set_option maxRecDepth 100000 in
set_option maxHeartbeats 8000000 in
theorem callG_step {p : DProgram} {ns ng np : Nat} {c : List Int} {pl : Bool} (hc : ∀ x ∈ c, InB x) (hl : c.length ≤ 4096) (hne : ¬ ns = ng) (hP : FuncsIn p) (hpl : p.fFuncs.length ≤ 100) {dp : Nat} (hdp : 1 ≤ dp) (ih : ∀ d, d + 1 = dp → GenP Tryz.prog 44 p ns ng np c pl d) : CallP Tryz.prog 59 p ns ng np c pl dp := by
  intro vars B a sd L hB1 hB2 hprog hv ha hL
  have d_ns_ng : ¬ ns = ng := hne
  have d_ng_ns : ¬ ng = ns := Ne.symm d_ns_ng
  have e_ns_ng : (ns = ng) = False := eq_false d_ns_ng
  have e_ng_ns : (ng = ns) = False := eq_false d_ng_ns
  refine fnKF 89 keep59 ib59 mk59 mix Tryz.func59 rfl (by kernel_rfl) (by simp) ?_
  simp (maxSteps := 1000000) -dsimp -implicitDefEqProofs only [go_sem, ↓reduceIte, keep59, ib59, mk59, Tryz.f59, genB]
  intro n8 q8
  have a8 : ¬ n8 = ng := by grind
  have b8 : ¬ n8 = ns := by grind
  have z8 : B n8 = none := by grind
  have d_n8_ng : ¬ n8 = ng := a8
  have d_ng_n8 : ¬ ng = n8 := Ne.symm d_n8_ng
  have e_n8_ng : (n8 = ng) = False := eq_false d_n8_ng
  have e_ng_n8 : (ng = n8) = False := eq_false d_ng_n8
  have d_n8_ns : ¬ n8 = ns := b8
  have d_ns_n8 : ¬ ns = n8 := Ne.symm d_n8_ns
  have e_n8_ns : (n8 = ns) = False := eq_false d_n8_ns
  have e_ns_n8 : (ns = n8) = False := eq_false d_ns_n8
  simp (maxSteps := 1000000) -dsimp -implicitDefEqProofs only [go_sem, ↓reduceIte, keep59, ib59, mk59, Tryz.f59, e_n8_ng, e_n8_ns, e_ng_n8, e_ng_ns, e_ns_n8, e_ns_ng, upd_ne, upd_get, genB, Option.toArray_none, Option.toArray_some, List.filterMap_cons, List.filterMap_nil, List.elem_cons_self, List.nil_append, List.append_nil, List.toList_toArray, upd_swap d_ng_n8, upd_swap d_ns_n8, upd_upd]
  rw [show ∀ H : Heap, upd H ng (HObj.row 4 [[Cell.v (HVal.op ns 3 0 0), Cell.v (HVal.op np 1 0 0), Cell.v (I L), Cell.v (HVal.bool pl)]]) = upd H ng (genB ns np L pl) from fun _ => rfl]
  refine ⟨fun h0 => ?_, fun h0 => ?_⟩
  · refine HFnF.mkH (leafH (np := np) (a := a) (sd := sd) (L := L) (pl := pl) (B := upd B n8 (.row 5 [[.v (I 0), .v (I 0), .v (I 0), .v (I 0), .v .nilsl]])) hc hl hne vars (by omega) (by rw [upd_ne _ _ _ _ d_ns_n8]; exact hB1) (by rw [upd_ne _ _ _ _ d_ng_n8]; exact hB2) (by omega)) ?_
    rintro r_ h' ⟨k, n, a', sd', rfl, hkn, ha', rfl⟩
    simp (maxSteps := 1000000) -dsimp -implicitDefEqProofs only [go_sem, ↓reduceIte, keep59, ib59, mk59, Tryz.f59, e_n8_ng, e_n8_ns, e_ng_n8, e_ng_ns, e_ns_n8, e_ns_ng, upd_ne, upd_get, upd_swap d_ng_n8, upd_swap d_ns_n8, upd_upd]
    exact leaf_call (a := a) (a' := a') (sd' := sd') hkn hB1 hB2 (by omega) (by
      intro q_
      simp only [upd_get]
      grind)
  · obtain ⟨esF, oF, horF, hBp, honF, hBm⟩ := id hprog
    cases oF with
    | none => exact absurd (by rw [honF rfl]; rfl) h0
    | some mF =>
    have hBm := hBm mF rfl
    have p1 : ¬ np = ns := fun q => by rw [q, hB1] at hBp; cases hBp
    have p2 : ¬ np = ng := fun q => by rw [q, hB2] at hBp; cases hBp
    have p3 : ¬ np = n8 := fun q => by rw [q, z8] at hBp; cases hBp
    have m1 : ¬ mF = ns := fun q => by rw [q, hB1] at hBm; cases hBm
    have m2 : ¬ mF = ng := fun q => by rw [q, hB2] at hBm; cases hBm
    have m3 : ¬ mF = n8 := fun q => by rw [q, z8] at hBm; cases hBm
    have d_np_ns : ¬ np = ns := p1
    have d_ns_np : ¬ ns = np := Ne.symm d_np_ns
    have e_np_ns : (np = ns) = False := eq_false d_np_ns
    have e_ns_np : (ns = np) = False := eq_false d_ns_np
    have d_np_ng : ¬ np = ng := p2
    have d_ng_np : ¬ ng = np := Ne.symm d_np_ng
    have e_np_ng : (np = ng) = False := eq_false d_np_ng
    have e_ng_np : (ng = np) = False := eq_false d_ng_np
    have d_np_n8 : ¬ np = n8 := p3
    have d_n8_np : ¬ n8 = np := Ne.symm d_np_n8
    have e_np_n8 : (np = n8) = False := eq_false d_np_n8
    have e_n8_np : (n8 = np) = False := eq_false d_n8_np
    have d_mF_ns : ¬ mF = ns := m1
    have d_ns_mF : ¬ ns = mF := Ne.symm d_mF_ns
    have e_mF_ns : (mF = ns) = False := eq_false d_mF_ns
    have e_ns_mF : (ns = mF) = False := eq_false d_ns_mF
    have d_mF_ng : ¬ mF = ng := m2
    have d_ng_mF : ¬ ng = mF := Ne.symm d_mF_ng
    have e_mF_ng : (mF = ng) = False := eq_false d_mF_ng
    have e_ng_mF : (ng = mF) = False := eq_false d_ng_mF
    have d_mF_n8 : ¬ mF = n8 := m3
    have d_n8_mF : ¬ n8 = mF := Ne.symm d_mF_n8
    have e_mF_n8 : (mF = n8) = False := eq_false d_mF_n8
    have e_n8_mF : (n8 = mF) = False := eq_false d_n8_mF
    refine HFnF.mkH (pickH (a := a) (sd := sd) hc hl (by omega) p.fFuncs.length (by omega) (by rw [upd_ne _ _ _ _ d_ns_ng, upd_same])) ?_
    rintro r_ h' ⟨x, a2, sd2, rfl, x0, x1, -, ha2, rfl⟩
    simp only [upd_swap d_ng_ns, upd_upd]
    have x1 := x1 (by omega)
    obtain ⟨k, rfl⟩ : ∃ k : Nat, x = k := ⟨x.toNat, by omega⟩
    have hk : k < p.fFuncs.length := by omega
    have hf : p.fFuncs[k]? = some p.fFuncs[k] := List.getElem?_eq_getElem hk
    obtain ⟨hf1, hf2⟩ := hP _ (List.getElem_mem hk)
    generalize p.fFuncs[k] = f at hf hf1 hf2
    obtain ⟨ef, hef, hfo⟩ := horF.getE k f hf
    obtain ⟨y, rfl, hy⟩ := hfo
    obtain ⟨n5, eo, rfl, hyR⟩ := hy.some (by omega)
    have hcell := cells_get hef
    have hes : esF.length = p.fFuncs.length := horF.length.symm
    have hyl : eo.length = f.fOuts.length := hyR.length.symm
    simp only [List.map_cons, List.map_nil, OV.val_v, OV.val_sl] at hcell
    simp (maxSteps := 1000000) -dsimp -implicitDefEqProofs only [go_sem, ↓reduceIte, keep59, ib59, mk59, Tryz.f59, e_n8_ng, e_n8_ns, e_n8_np, e_ng_n8, e_ng_ns, e_ng_np, e_ns_n8, e_ns_ng, e_ns_np, e_np_n8, e_np_ng, e_np_ns, e_n8_ng, e_n8_ns, e_n8_mF, e_ng_n8, e_ng_ns, e_ng_mF, e_ns_n8, e_ns_ng, e_ns_mF, e_mF_n8, e_mF_ng, e_mF_ns, upd_ne, upd_get, Option.toArray_none, Option.toArray_some, List.filterMap_cons, List.filterMap_nil, List.elem_cons_self, List.nil_append, List.append_nil, List.toList_toArray, genB, hBp, hBm, hcell, onil_some, cells_len]
    intro n9 q9
    have a9 : ¬ n9 = ng := by grind
    have b9 : ¬ n9 = ns := by grind
    have c9 : ¬ n9 = n8 := by grind
    have z9 : B n9 = none := by grind
    have p4 : ¬ np = n9 := fun q => by rw [q, z9] at hBp; cases hBp
    have m4 : ¬ mF = n9 := fun q => by rw [q, z9] at hBm; cases hBm
    have d_n9_ng : ¬ n9 = ng := a9
    have d_ng_n9 : ¬ ng = n9 := Ne.symm d_n9_ng
    have e_n9_ng : (n9 = ng) = False := eq_false d_n9_ng
    have e_ng_n9 : (ng = n9) = False := eq_false d_ng_n9
    have d_n9_ns : ¬ n9 = ns := b9
    have d_ns_n9 : ¬ ns = n9 := Ne.symm d_n9_ns
    have e_n9_ns : (n9 = ns) = False := eq_false d_n9_ns
    have e_ns_n9 : (ns = n9) = False := eq_false d_ns_n9
    have d_n9_n8 : ¬ n9 = n8 := c9
    have d_n8_n9 : ¬ n8 = n9 := Ne.symm d_n9_n8
    have e_n9_n8 : (n9 = n8) = False := eq_false d_n9_n8
    have e_n8_n9 : (n8 = n9) = False := eq_false d_n8_n9
    have d_np_n9 : ¬ np = n9 := p4
    have d_n9_np : ¬ n9 = np := Ne.symm d_np_n9
    have e_np_n9 : (np = n9) = False := eq_false d_np_n9
    have e_n9_np : (n9 = np) = False := eq_false d_n9_np
    have d_mF_n9 : ¬ mF = n9 := m4
    have d_n9_mF : ¬ n9 = mF := Ne.symm d_mF_n9
    have e_mF_n9 : (mF = n9) = False := eq_false d_mF_n9
    have e_n9_mF : (n9 = mF) = False := eq_false d_n9_mF
    simp (maxSteps := 1000000) -dsimp -implicitDefEqProofs only [go_sem, ↓reduceIte, keep59, ib59, mk59, Tryz.f59, e_n8_ng, e_n8_ns, e_n8_np, e_n8_n9, e_ng_n8, e_ng_ns, e_ng_np, e_ng_n9, e_ns_n8, e_ns_ng, e_ns_np, e_ns_n9, e_np_n8, e_np_ng, e_np_ns, e_np_n9, e_n9_n8, e_n9_ng, e_n9_ns, e_n9_np, e_n8_ng, e_n8_ns, e_n8_mF, e_n8_n9, e_ng_n8, e_ng_ns, e_ng_mF, e_ng_n9, e_ns_n8, e_ns_ng, e_ns_mF, e_ns_n9, e_mF_n8, e_mF_ng, e_mF_ns, e_mF_n9, e_n9_n8, e_n9_ng, e_n9_ns, e_n9_mF, upd_ne, upd_get, Option.toArray_none, Option.toArray_some, List.filterMap_cons, List.filterMap_nil, List.elem_cons_self, List.nil_append, List.append_nil, List.toList_toArray, genB, hBp, hBm, hcell, onil_some, cells_len, upd_swap d_ng_n9, upd_swap d_ns_n9, upd_upd]
    rw [show ∀ H : Heap, upd H ng (HObj.row 4 [[Cell.v (HVal.op ns 3 0 0), Cell.v (HVal.op np 1 0 0), Cell.v (I L), Cell.v (HVal.bool pl)]]) = upd H ng (genB ns np L pl) from fun _ => rfl]
    refine ⟨hk, fun _ => ?_⟩
    refine HFnF.mkH (pickH (a := a2) (sd := sd2) hc hl (by omega) eo.length (by omega) (by rw [upd_ne _ _ _ _ d_ns_ng, upd_same])) ?_
    rintro r_ h' ⟨y, a3, sd3, rfl, y0, y1, -, ha3, rfl⟩
    have y1 := y1 (by omega)
    simp only [upd_swap d_ng_ns, upd_upd]
    simp (maxSteps := 1000000) -dsimp -implicitDefEqProofs only [go_sem, ↓reduceIte, keep59, ib59, mk59, Tryz.f59, e_n8_ng, e_n8_ns, e_n8_np, e_n8_n9, e_ng_n8, e_ng_ns, e_ng_np, e_ng_n9, e_ns_n8, e_ns_ng, e_ns_np, e_ns_n9, e_np_n8, e_np_ng, e_np_ns, e_np_n9, e_n9_n8, e_n9_ng, e_n9_ns, e_n9_np, e_n8_ng, e_n8_ns, e_n8_mF, e_n8_n9, e_ng_n8, e_ng_ns, e_ng_mF, e_ng_n9, e_ns_n8, e_ns_ng, e_ns_mF, e_ns_n9, e_mF_n8, e_mF_ng, e_mF_ns, e_mF_n9, e_n9_n8, e_n9_ng, e_n9_ns, e_n9_mF, upd_ne, upd_get, Option.toArray_none, Option.toArray_some, List.filterMap_cons, List.filterMap_nil, List.elem_cons_self, List.nil_append, List.append_nil, List.toList_toArray, hBp, hBm, hcell, onil_some, cells_len, upd_swap d_ng_n9, upd_swap d_ns_n9, upd_swap d_ng_ns, upd_upd]
    refine fun _ => ?_
    apply share2
    case m =>
      intro key
      refine ⟨fun h1 => ?_, fun h1 => ?_⟩
      · simp (maxSteps := 1000000) -dsimp -implicitDefEqProofs only [go_sem, ↓reduceIte, keep59, ib59, mk59, Tryz.f59, e_n8_ng, e_n8_ns, e_n8_np, e_n8_n9, e_ng_n8, e_ng_ns, e_ng_np, e_ng_n9, e_ns_n8, e_ns_ng, e_ns_np, e_ns_n9, e_np_n8, e_np_ng, e_np_ns, e_np_n9, e_n9_n8, e_n9_ng, e_n9_ns, e_n9_np, e_n8_ng, e_n8_ns, e_n8_mF, e_n8_n9, e_ng_n8, e_ng_ns, e_ng_mF, e_ng_n9, e_ns_n8, e_ns_ng, e_ns_mF, e_ns_n9, e_mF_n8, e_mF_ng, e_mF_ns, e_mF_n9, e_n9_n8, e_n9_ng, e_n9_ns, e_n9_mF, upd_ne, upd_get, Option.toArray_none, Option.toArray_some, List.filterMap_cons, List.filterMap_nil, List.elem_cons_self, List.nil_append, List.append_nil, List.toList_toArray, genB, hBp, hBm, hcell, onil_some, cells_len]
        rw [show ∀ H : Heap, upd H ng (HObj.row 4 [[Cell.v (HVal.op ns 3 0 0), Cell.v (HVal.op np 1 0 0), Cell.v (I L), Cell.v (HVal.bool pl)]]) = upd H ng (genB ns np L pl) from fun _ => rfl]
        refine HFnF.mkH (oneH (a := a3) (sd := sd3) hc hl (by omega) 2 (by omega) (by rw [upd_ne _ _ _ _ d_ns_ng, upd_same])) ?_
        rintro r_ h' ⟨b, a4, sd4, rfl, ha4, rfl⟩
        simp only [upd_swap d_ng_ns, upd_upd]
        cases b
        · simp (maxSteps := 1000000) -dsimp -implicitDefEqProofs only [go_sem, ↓reduceIte, keep59, ib59, mk59, Tryz.f59, e_n8_ng, e_n8_ns, e_n8_np, e_n8_n9, e_ng_n8, e_ng_ns, e_ng_np, e_ng_n9, e_ns_n8, e_ns_ng, e_ns_np, e_ns_n9, e_np_n8, e_np_ng, e_np_ns, e_np_n9, e_n9_n8, e_n9_ng, e_n9_ns, e_n9_np, e_n8_ng, e_n8_ns, e_n8_mF, e_n8_n9, e_ng_n8, e_ng_ns, e_ng_mF, e_ng_n9, e_ns_n8, e_ns_ng, e_ns_mF, e_ns_n9, e_mF_n8, e_mF_ng, e_mF_ns, e_mF_n9, e_n9_n8, e_n9_ng, e_n9_ns, e_n9_mF, upd_ne, upd_get, Option.toArray_none, Option.toArray_some, List.filterMap_cons, List.filterMap_nil, List.elem_cons_self, List.nil_append, List.append_nil, List.toList_toArray, upd_swap d_ng_n9, upd_swap d_ns_n9, upd_swap d_ng_ns, upd_upd]
          refine loopF (keep := keep59) (ib := ib59) (mk := mk59) mix (by kernel_rfl) (fun x : CSt => [(0, .op ng 4 0 0), (1, I vars), (2, I p.fFuncs.length), (3, I dp), (8, .op n8 5 0 0), (9, .op n9 5 0 0), (10, .op mF 3 k 0), (11, I x.2.1)]) (fun x => upd (upd (upd (upd (oheap x.2.2.2.2.1 (.row 5 (OV.cells x.2.2.2.1)) x.2.2.2.2.2.1) n8 (boxE 0 0 0 0 .nilsl)) n9 (boxE x.1 k y x.2.2.2.2.2.2.2.2.2 (onil 5 x.2.1 x.2.2.2.2.2.1))) ns (srcB c x.2.2.2.2.2.2.1 x.2.2.2.2.2.2.2.1)) ng (genB ns np x.2.2.2.2.2.2.2.2.1 pl)) (fun x => CSide p f vars dp a L B ns ng n8 n9 x) (fun x => f.fParams.toNat - x.2.1) (10, 0, [], [], B, none, a4, sd4, L, 0) ⟨by simp [SatL, tget], Heap.le_refl _, by omega, Nat.zero_le _, rfl, trivial, New.nil B, ⟨hB1, hB2, z8, z9⟩, rfl, (fun m e => by cases e), (fun j h => by cases h), Nat.zero_le _, ⟨Int.le_refl _, by simp [szs], by simp [szs]⟩, by simp [szs]; omega⟩ ?_
          exact key.get
        · simp (maxSteps := 1000000) -dsimp -implicitDefEqProofs only [go_sem, ↓reduceIte, keep59, ib59, mk59, Tryz.f59, e_n8_ng, e_n8_ns, e_n8_np, e_n8_n9, e_ng_n8, e_ng_ns, e_ng_np, e_ng_n9, e_ns_n8, e_ns_ng, e_ns_np, e_ns_n9, e_np_n8, e_np_ng, e_np_ns, e_np_n9, e_n9_n8, e_n9_ng, e_n9_ns, e_n9_np, e_n8_ng, e_n8_ns, e_n8_mF, e_n8_n9, e_ng_n8, e_ng_ns, e_ng_mF, e_ng_n9, e_ns_n8, e_ns_ng, e_ns_mF, e_ns_n9, e_mF_n8, e_mF_ng, e_mF_ns, e_mF_n9, e_n9_n8, e_n9_ng, e_n9_ns, e_n9_mF, upd_ne, upd_get, Option.toArray_none, Option.toArray_some, List.filterMap_cons, List.filterMap_nil, List.elem_cons_self, List.nil_append, List.append_nil, List.toList_toArray, genB, upd_swap d_ng_n9, upd_swap d_ns_n9, upd_swap d_ng_ns, upd_upd]
          rw [show ∀ H : Heap, upd H ng (HObj.row 4 [[Cell.v (HVal.op ns 3 0 0), Cell.v (HVal.op np 1 0 0), Cell.v (I L), Cell.v (HVal.bool pl)]]) = upd H ng (genB ns np L pl) from fun _ => rfl]
          refine HFnF.mkH (pickH (a := a4) (sd := sd4) hc hl (by omega) 4 (by omega) (by rw [upd_ne _ _ _ _ d_ns_ng, upd_same])) ?_
          rintro r_ h' ⟨cnt, a5, sd5, rfl, c0, c1, -, ha5, rfl⟩
          have c1 := c1 (by omega)
          simp only [upd_swap d_ng_ns, upd_upd]
          simp (maxSteps := 1000000) -dsimp -implicitDefEqProofs only [go_sem, ↓reduceIte, keep59, ib59, mk59, Tryz.f59, e_n8_ng, e_n8_ns, e_n8_np, e_n8_n9, e_ng_n8, e_ng_ns, e_ng_np, e_ng_n9, e_ns_n8, e_ns_ng, e_ns_np, e_ns_n9, e_np_n8, e_np_ng, e_np_ns, e_np_n9, e_n9_n8, e_n9_ng, e_n9_ns, e_n9_np, e_n8_ng, e_n8_ns, e_n8_mF, e_n8_n9, e_ng_n8, e_ng_ns, e_ng_mF, e_ng_n9, e_ns_n8, e_ns_ng, e_ns_mF, e_ns_n9, e_mF_n8, e_mF_ng, e_mF_ns, e_mF_n9, e_n9_n8, e_n9_ng, e_n9_ns, e_n9_mF, upd_ne, upd_get, Option.toArray_none, Option.toArray_some, List.filterMap_cons, List.filterMap_nil, List.elem_cons_self, List.nil_append, List.append_nil, List.toList_toArray, upd_swap d_ng_n9, upd_swap d_ns_n9, upd_swap d_ng_ns, upd_upd]
          refine loopF (keep := keep59) (ib := ib59) (mk := mk59) mix (by kernel_rfl) (fun x : CSt => [(0, .op ng 4 0 0), (1, I vars), (2, I p.fFuncs.length), (3, I dp), (8, .op n8 5 0 0), (9, .op n9 5 0 0), (10, .op mF 3 k 0), (11, I x.2.1)]) (fun x => upd (upd (upd (upd (oheap x.2.2.2.2.1 (.row 5 (OV.cells x.2.2.2.1)) x.2.2.2.2.2.1) n8 (boxE 0 0 0 0 .nilsl)) n9 (boxE x.1 k y x.2.2.2.2.2.2.2.2.2 (onil 5 x.2.1 x.2.2.2.2.2.1))) ns (srcB c x.2.2.2.2.2.2.1 x.2.2.2.2.2.2.2.1)) ng (genB ns np x.2.2.2.2.2.2.2.2.1 pl)) (fun x => CSide p f vars dp a L B ns ng n8 n9 x) (fun x => f.fParams.toNat - x.2.1) (11, 0, [], [], B, none, a5, sd5, L, cnt) ⟨by simp [SatL, tget], Heap.le_refl _, by omega, Nat.zero_le _, rfl, trivial, New.nil B, ⟨hB1, hB2, z8, z9⟩, rfl, (fun m e => by cases e), (fun j h => by cases h), Nat.zero_le _, ⟨Int.le_refl _, by simp [szs], by simp [szs]⟩, by simp [szs]; omega⟩ ?_
          exact key.get
      · refine loopF (keep := keep59) (ib := ib59) (mk := mk59) mix (by kernel_rfl) (fun x : CSt => [(0, .op ng 4 0 0), (1, I vars), (2, I p.fFuncs.length), (3, I dp), (8, .op n8 5 0 0), (9, .op n9 5 0 0), (10, .op mF 3 k 0), (11, I x.2.1)]) (fun x => upd (upd (upd (upd (oheap x.2.2.2.2.1 (.row 5 (OV.cells x.2.2.2.1)) x.2.2.2.2.2.1) n8 (boxE 0 0 0 0 .nilsl)) n9 (boxE x.1 k y x.2.2.2.2.2.2.2.2.2 (onil 5 x.2.1 x.2.2.2.2.2.1))) ns (srcB c x.2.2.2.2.2.2.1 x.2.2.2.2.2.2.2.1)) ng (genB ns np x.2.2.2.2.2.2.2.2.1 pl)) (fun x => CSide p f vars dp a L B ns ng n8 n9 x) (fun x => f.fParams.toNat - x.2.1) (10, 0, [], [], B, none, a3, sd3, L, 0) ⟨by simp [SatL, tget], Heap.le_refl _, by omega, Nat.zero_le _, rfl, trivial, New.nil B, ⟨hB1, hB2, z8, z9⟩, rfl, (fun m e => by cases e), (fun j h => by cases h), Nat.zero_le _, ⟨Int.le_refl _, by simp [szs], by simp [szs]⟩, by simp [szs]; omega⟩ ?_
        exact key.get
    case t =>
      rintro ⟨K, i, kids, es, g1, o, a3, sd3, L3, cnt⟩ hgg
      obtain ⟨hK, hi, hlen, hor, hnew, ⟨zs, zg, z18, z19⟩, hgs, hon, hok, hdl, hL3, ha3⟩ := id hgg
      simp only at hi hlen hor hnew zs zg z18 z19 hgs hon hok hdl hL3 ha3 hK ⊢
      have wd : IntKind.i64.wrap ((dp : Int) - 1) = ((dp - 1 : Nat) : Int) := by rw [IntWalk.i64_in _ (by omega)]; omega
      have hml2 : mL L ≤ 1000 := by unfold mL; omega
      have hGm := hnew.keep hBm
      have hom : ∀ R, oheap g1 R o mF = some (.row 3 (OV.cells esF)) := by
        intro R
        cases o with
        | none => exact hGm
        | some m5 =>
          rw [gside_some] at hgs
          rw [oheap_some, upd_ne _ _ _ _ (fun q => by rw [← q, hGm] at hgs; cases hgs)]
          exact hGm
      unfold boxE
      simp (maxSteps := 1000000) -dsimp -implicitDefEqProofs only [go_sem, ↓reduceIte, keep59, ib59, mk59, Tryz.f59, e_n8_ng, e_n8_ns, e_n8_n9, e_ng_n8, e_ng_ns, e_ng_n9, e_ns_n8, e_ns_ng, e_ns_n9, e_n9_n8, e_n9_ng, e_n9_ns, e_n8_ng, e_n8_ns, e_n8_mF, e_n8_n9, e_ng_n8, e_ng_ns, e_ng_mF, e_ng_n9, e_ns_n8, e_ns_ng, e_ns_mF, e_ns_n9, e_mF_n8, e_mF_ng, e_mF_ns, e_mF_n9, e_n9_n8, e_n9_ng, e_n9_ns, e_n9_mF, upd_ne, upd_get, Option.toArray_none, Option.toArray_some, List.filterMap_cons, List.filterMap_nil, List.elem_cons_self, List.nil_append, List.append_nil, List.toList_toArray, wd, hom, hcell]
      refine ⟨fun hlt => ?_, fun hge => ⟨onil_flat .., ?_⟩⟩
      · have hV : vars = vars := rfl
        cases o with
        | none =>
          rw [gside_none] at hgs
          subst hgs
          obtain rfl : kids = [] := List.length_eq_zero_iff.1 hor.length
          obtain rfl : i = 0 := hlen.symm
          simp only [oheap_none, onil_none]
          refine HFnF.mkH (ih (dp - 1) (by omega) vars _ a3 sd3 L3 (by rw [upd_ne _ _ _ _ d_ns_n9, upd_ne _ _ _ _ d_ns_n8]; exact zs) (by rw [upd_ne _ _ _ _ d_ng_n9, upd_ne _ _ _ _ d_ng_n8]; exact zg) (hprog.le (Heap.le_upd z9 (Heap.le_upd z8 hnew.le))) ⟨by omega, by omega, by omega⟩) ?_
          rintro r_ h' ⟨x5, e5, g', a5, sd5, L5, hx, rfl, hnw, ⟨y1, y2⟩, rfl, hok5, hd5, hL5, ha5⟩
          obtain ⟨g5, rfl, w5, z58, z59⟩ := New.under2 z18 (by rw [upd_ne _ _ _ _ d_n9_n8]; exact z19) hnw
          simp only [upd_get, e_n8_ng, e_n8_ns, e_n8_n9, e_ng_n8, e_ng_ns, e_ng_n9, e_ns_n8, e_ns_ng, e_ns_n9, e_n9_n8, e_n9_ng, e_n9_ns, if_false] at y1 y2 z59
          have hx5 := hx
          rw [DExpr.o_iff] at hx
          obtain ⟨y4, rfl, os4⟩ := hx
          simp (maxSteps := 1000000) -dsimp -implicitDefEqProofs only [go_sem, ↓reduceIte, keep59, ib59, mk59, Tryz.f59, e_n8_ng, e_n8_ns, e_n8_n9, e_ng_n8, e_ng_ns, e_ng_n9, e_ns_n8, e_ns_ng, e_ns_n9, e_n9_n8, e_n9_ng, e_n9_ns, upd_ne, upd_get, Option.toArray_none, Option.toArray_some, List.filterMap_cons, List.filterMap_nil, List.elem_cons_self, List.nil_append, List.append_nil, List.toList_toArray, OV.map_val, OV.map_val_nil, OV.val_v, os4.flat, os4.one]
          have ht := take_cells []
          refine ⟨by decide, by decide, by decide, fun m qm => ?_⟩
          have am : ¬ m = ns := by grind
          have bm : ¬ m = ng := by grind
          have cm : ¬ m = n8 := by grind
          have em : ¬ m = n9 := by grind
          have dm : g5 m = none := by grind
          skip
          have d_m_ns : ¬ m = ns := am
          have d_ns_m : ¬ ns = m := Ne.symm d_m_ns
          have e_m_ns : (m = ns) = False := eq_false d_m_ns
          have e_ns_m : (ns = m) = False := eq_false d_ns_m
          have d_m_ng : ¬ m = ng := bm
          have d_ng_m : ¬ ng = m := Ne.symm d_m_ng
          have e_m_ng : (m = ng) = False := eq_false d_m_ng
          have e_ng_m : (ng = m) = False := eq_false d_ng_m
          have d_m_n8 : ¬ m = n8 := cm
          have d_n8_m : ¬ n8 = m := Ne.symm d_m_n8
          have e_m_n8 : (m = n8) = False := eq_false d_m_n8
          have e_n8_m : (n8 = m) = False := eq_false d_n8_m
          have d_m_n9 : ¬ m = n9 := em
          have d_n9_m : ¬ n9 = m := Ne.symm d_m_n9
          have e_m_n9 : (m = n9) = False := eq_false d_m_n9
          have e_n9_m : (n9 = m) = False := eq_false d_n9_m
          simp (maxSteps := 1000000) -dsimp -implicitDefEqProofs only [go_sem, ↓reduceIte, keep59, ib59, mk59, Tryz.f59, e_n8_ng, e_n8_ns, e_n8_n9, e_n8_m, e_ng_n8, e_ng_ns, e_ng_n9, e_ng_m, e_ns_n8, e_ns_ng, e_ns_n9, e_ns_m, e_n9_n8, e_n9_ng, e_n9_ns, e_n9_m, e_m_n8, e_m_ng, e_m_ns, e_m_n9, upd_ne, upd_get, Option.toArray_none, Option.toArray_some, List.filterMap_cons, List.filterMap_nil, List.elem_cons_self, List.nil_append, List.append_nil, List.toList_toArray]
          refine ⟨(K, 0 + 1, [] ++ [x5], [] ++ [[.v (.int .i64 x5.fKind), .v (.int .i64 x5.fNum), .v (.int .i64 x5.fPick), .v (.int .i64 x5.fCount), y4]], g5, some m, a5, sd5, L5, cnt), IntWalk.i64_in _ (by omega), ?_, hgg.next hlt hx5 w5 ⟨y1, y2, z58, z59⟩ dm ⟨am, bm, cm, em⟩ (by rw [← hV]; exact hok5) (by omega) hL5 ha5, by simp only; omega⟩
          intro q_
          simp only [upd_get, oheap_some, onil_some, cells_snoc, take_cells, cells_len, cells_one, cells_nil, OV.map_val, OV.map_val_nil, OV.val_v, List.nil_append, List.map_cons, List.map_nil, ht]
          grind
        | some m0 =>
          rw [gside_some] at hgs
          obtain ⟨hm1, hm2, hm3, hm4⟩ := hon m0 rfl
          have d_m0_ns : ¬ m0 = ns := hm1
          have d_ns_m0 : ¬ ns = m0 := Ne.symm d_m0_ns
          have e_m0_ns : (m0 = ns) = False := eq_false d_m0_ns
          have e_ns_m0 : (ns = m0) = False := eq_false d_ns_m0
          have d_m0_ng : ¬ m0 = ng := hm2
          have d_ng_m0 : ¬ ng = m0 := Ne.symm d_m0_ng
          have e_m0_ng : (m0 = ng) = False := eq_false d_m0_ng
          have e_ng_m0 : (ng = m0) = False := eq_false d_ng_m0
          have d_m0_n8 : ¬ m0 = n8 := hm3
          have d_n8_m0 : ¬ n8 = m0 := Ne.symm d_m0_n8
          have e_m0_n8 : (m0 = n8) = False := eq_false d_m0_n8
          have e_n8_m0 : (n8 = m0) = False := eq_false d_n8_m0
          have d_m0_n9 : ¬ m0 = n9 := hm4
          have d_n9_m0 : ¬ n9 = m0 := Ne.symm d_m0_n9
          have e_m0_n9 : (m0 = n9) = False := eq_false d_m0_n9
          have e_n9_m0 : (n9 = m0) = False := eq_false d_n9_m0
          have hBm : B m0 = none := by
            cases hb : B m0 with
            | none => rfl
            | some v => have := hnew.keep hb; rw [hgs] at this; cases this
          simp only [oheap_some, onil_some]
          refine HFnF.mkH (ih (dp - 1) (by omega) vars _ a3 sd3 L3 (by rw [upd_ne _ _ _ _ d_ns_n9, upd_ne _ _ _ _ d_ns_n8, upd_ne _ _ _ _ d_ns_m0]; exact zs) (by rw [upd_ne _ _ _ _ d_ng_n9, upd_ne _ _ _ _ d_ng_n8, upd_ne _ _ _ _ d_ng_m0]; exact zg) (hprog.le (Heap.le_upd z9 (Heap.le_upd z8 (Heap.le_upd hBm hnew.le)))) ⟨by omega, by omega, by omega⟩) ?_
          rintro r_ h' ⟨x5, e5, g', a5, sd5, L5, hx, rfl, hnw, ⟨y1, y2⟩, rfl, hok5, hd5, hL5, ha5⟩
          obtain ⟨g5, rfl, w5, z50, z58, z59⟩ := New.under3 hgs (by rw [upd_ne _ _ _ _ d_n8_m0]; exact z18) (by rw [upd_ne _ _ _ _ d_n9_n8, upd_ne _ _ _ _ d_n9_m0]; exact z19) hnw
          simp only [upd_get, e_n8_ng, e_n8_ns, e_n8_n9, e_n8_m0, e_ng_n8, e_ng_ns, e_ng_n9, e_ng_m0, e_ns_n8, e_ns_ng, e_ns_n9, e_ns_m0, e_n9_n8, e_n9_ng, e_n9_ns, e_n9_m0, e_m0_n8, e_m0_ng, e_m0_ns, e_m0_n9, if_false] at y1 y2 z58 z59
          have hx5 := hx
          rw [DExpr.o_iff] at hx
          obtain ⟨y4, rfl, os4⟩ := hx
          simp (maxSteps := 1000000) -dsimp -implicitDefEqProofs only [go_sem, ↓reduceIte, keep59, ib59, mk59, Tryz.f59, e_n8_ng, e_n8_ns, e_n8_n9, e_n8_m0, e_ng_n8, e_ng_ns, e_ng_n9, e_ng_m0, e_ns_n8, e_ns_ng, e_ns_n9, e_ns_m0, e_n9_n8, e_n9_ng, e_n9_ns, e_n9_m0, e_m0_n8, e_m0_ng, e_m0_ns, e_m0_n9, upd_ne, upd_get, Option.toArray_none, Option.toArray_some, List.filterMap_cons, List.filterMap_nil, List.elem_cons_self, List.nil_append, List.append_nil, List.toList_toArray, OV.map_val, OV.map_val_nil, OV.val_v, os4.flat, os4.one, cells_len]
          have ht : List.take i (OV.cells es) = OV.cells es := List.take_of_length_le (by rw [cells_len]; have := hor.length; omega)
          refine ⟨by decide, by decide, by decide, by have := hor.length; omega, by omega, by omega, fun m qm => ?_⟩
          have am : ¬ m = ns := by grind
          have bm : ¬ m = ng := by grind
          have cm : ¬ m = n8 := by grind
          have em : ¬ m = n9 := by grind
          have dm : g5 m = none := by grind
          have fm : ¬ m = m0 := (by grind); have e_m_m0 := eq_false fm; have e_m0_m := eq_false (Ne.symm fm); have d_m_m0 := fm; have d_m0_m := Ne.symm fm
          have d_m_ns : ¬ m = ns := am
          have d_ns_m : ¬ ns = m := Ne.symm d_m_ns
          have e_m_ns : (m = ns) = False := eq_false d_m_ns
          have e_ns_m : (ns = m) = False := eq_false d_ns_m
          have d_m_ng : ¬ m = ng := bm
          have d_ng_m : ¬ ng = m := Ne.symm d_m_ng
          have e_m_ng : (m = ng) = False := eq_false d_m_ng
          have e_ng_m : (ng = m) = False := eq_false d_ng_m
          have d_m_n8 : ¬ m = n8 := cm
          have d_n8_m : ¬ n8 = m := Ne.symm d_m_n8
          have e_m_n8 : (m = n8) = False := eq_false d_m_n8
          have e_n8_m : (n8 = m) = False := eq_false d_n8_m
          have d_m_n9 : ¬ m = n9 := em
          have d_n9_m : ¬ n9 = m := Ne.symm d_m_n9
          have e_m_n9 : (m = n9) = False := eq_false d_m_n9
          have e_n9_m : (n9 = m) = False := eq_false d_n9_m
          simp (maxSteps := 1000000) -dsimp -implicitDefEqProofs only [go_sem, ↓reduceIte, keep59, ib59, mk59, Tryz.f59, e_n8_ng, e_n8_ns, e_n8_n9, e_n8_m, e_ng_n8, e_ng_ns, e_ng_n9, e_ng_m, e_ns_n8, e_ns_ng, e_ns_n9, e_ns_m, e_n9_n8, e_n9_ng, e_n9_ns, e_n9_m, e_m_n8, e_m_ng, e_m_ns, e_m_n9, e_m_m0, e_m_n8, e_m_n9, e_m_ng, e_m_ns, e_m0_m, e_m0_n8, e_m0_n9, e_m0_ng, e_m0_ns, e_n8_m, e_n8_m0, e_n8_n9, e_n8_ng, e_n8_ns, e_n9_m, e_n9_m0, e_n9_n8, e_n9_ng, e_n9_ns, e_ng_m, e_ng_m0, e_ng_n8, e_ng_n9, e_ng_ns, e_ns_m, e_ns_m0, e_ns_n8, e_ns_n9, e_ns_ng, upd_ne, upd_get, Option.toArray_none, Option.toArray_some, List.filterMap_cons, List.filterMap_nil, List.elem_cons_self, List.nil_append, List.append_nil, List.toList_toArray]
          refine ⟨(K, i + 1, kids ++ [x5], es ++ [[.v (.int .i64 x5.fKind), .v (.int .i64 x5.fNum), .v (.int .i64 x5.fPick), .v (.int .i64 x5.fCount), y4]], g5, some m, a5, sd5, L5, cnt), IntWalk.i64_in _ (by omega), ?_, hgg.next hlt hx5 w5 ⟨y1, y2, z58, z59⟩ dm ⟨am, bm, cm, em⟩ (by rw [← hV]; exact hok5) (by omega) hL5 ha5, by simp only; omega⟩
          intro q_
          simp only [upd_get, oheap_some, onil_some, cells_snoc, take_cells, cells_len, cells_one, cells_nil, OV.map_val, OV.map_val_nil, OV.val_v, List.nil_append, List.map_cons, List.map_nil, ht]
          grind
      · have hi2 : (i : Int) = f.fParams := by omega
        have y8 : oheap g1 (.row 5 (OV.cells es)) o n8 = none := oheap_at z18 fun m e => (hon m e).2.2.1
        have y9 : oheap g1 (.row 5 (OV.cells es)) o n9 = none := oheap_at z19 fun m e => (hon m e).2.2.2
        exact kids_call hf hf1 ⟨y0, by omega⟩ hgg hi2 (by
          intro q_
          simp only [upd_get]
          grind)
open Go.Proofs
set_option linter.unusedVariables false
set_option linter.unusedSimpArgs false
/-- The expression that has a text, if it is valid with so many variables and functions. -/
noncomputable def readE (p : DProgram) (t : List UInt8) (vars funcs : Int) : Option DExpr := open Classical in if h : ∃ e : DExpr, exprOK p e vars funcs ∧ e.txt p = t then some (Classical.choose h) else none
def s00 : RSt := ⟨0, 0, 0, false⟩
/-- What is asked of what a reader has brought. -/
def Right (p : DProgram) (t : List UInt8) (vars funcs : Int) (r : DExpr × RSt) : Prop := r.2.b = false ∧ r.2.i = t.length ∧ exprOK p r.1 vars funcs ∧ r.1.txt p = t
theorem right_of {p : DProgram} {t : List UInt8} {vars funcs : Int} {r : DExpr × RSt} (key : ∀ e, exprOK p e vars funcs → e.txt p = t → r.1 = e ∧ r.2.b = false ∧ r.2.i = t.length) : (Right p t vars funcs r → readE p t vars funcs = some r.1) ∧ (¬ Right p t vars funcs r → readE p t vars funcs = none) := by
  constructor
  · intro h
    have hex : ∃ e : DExpr, exprOK p e vars funcs ∧ e.txt p = t := ⟨r.1, h.2.2.1, h.2.2.2⟩
    have hc := Classical.choose_spec hex
    have := (key _ hc.1 hc.2).1
    unfold readE
    rw [dif_pos hex, this]
  · intro h
    unfold readE
    rw [dif_neg]
    rintro ⟨e, h1, h2⟩
    obtain ⟨k1, k2, k3⟩ := key e h1 h2
    exact h ⟨k2, k3, by rw [k1]; exact h1, by rw [k1]; exact h2⟩
theorem rightI {p : DProgram} (hp : p.ok) (t : List UInt8) (vars funcs : Int) : (Right p t vars funcs (exI p t 60 s00) → readE p t vars funcs = some (exI p t 60 s00).1) ∧ (¬ Right p t vars funcs (exI p t 60 s00) → readE p t vars funcs = none) := by
  refine right_of fun e h1 h2 => ?_
  have hd : e.d ≤ 60 := by have := h1.2.2.2.1; omega
  have := exI_done (t := t) hp e vars (Rdb.of h1) 60 hd 0 (by omega) s00 [] rfl rfl (by show (0 : Int) + 0 ≤ 400; omega) (by show t.drop 0 = _; rw [h2]; simp) stop_nil
  rw [this, h2]
  exact ⟨rfl, rfl, by show 0 + t.length = _; omega⟩
theorem good00 (t : List UInt8) : Good 62 t s00 := ⟨Nat.zero_le _, by decide, by decide, fun _ => by decide, fun _ => by decide⟩
open Go.Proofs
set_option linter.unusedVariables false
set_option linter.unusedSimpArgs false
/-! ### texts cut at more than one byte -/
theorem isPre_sub {s t : List UInt8} (h : s.isPrefixOf t = true) : ∃ r, t = s ++ r := by
  obtain ⟨r, e⟩ := List.isPrefixOf_iff_prefix.1 h
  exact ⟨r, e.symm⟩
/-- The first place of a separator whose byte c stands nowhere ahead of it. -/
theorem index_sep {sep : List UInt8} {c : UInt8} {k : Nat} (hc : sep[k]? = some c) (hn : ∀ j, j < k → sep[j]? ≠ some c) (l : List UInt8) : ∀ a : List UInt8, c ∉ a → Go.Lib.index (a ++ (sep ++ l)) sep = a.length
  | [], _ => by
    have hne : sep ++ l ≠ [] := fun e => by
      have : sep = [] := (List.append_eq_nil_iff.1 e).1
      rw [this] at hc; simp at hc
    rw [List.nil_append]
    match h : sep ++ l, hne with
    | x :: r, _ =>
      rw [Go.Lib.index, if_pos (by rw [← h]; exact List.isPrefixOf_iff_prefix.2 ⟨l, rfl⟩)]; rfl
  | x :: a, h => by
    have h' := h
    simp only [List.mem_cons, not_or] at h
    have hp : ¬ sep.isPrefixOf (x :: a ++ (sep ++ l)) = true := fun q => by
      obtain ⟨r, e⟩ := isPre_sub q
      have e1 : (x :: a ++ (sep ++ l))[k]? = some c := by rw [e, List.getElem?_append_left (List.getElem?_eq_some_iff.1 hc).1]; exact hc
      rcases Nat.lt_or_ge k (x :: a).length with hk | hk
      · rw [List.getElem?_append_left hk] at e1
        exact h' (List.mem_of_getElem? e1)
      · rw [List.getElem?_append_right hk] at e1
        have hkl := (List.getElem?_eq_some_iff.1 hc).1
        rw [List.getElem?_append_left (by omega)] at e1
        have hk2 : a.length + 1 ≤ k := by simpa using hk
        exact hn _ (by simp only [List.length_cons]; omega) e1
    rw [List.cons_append] at hp ⊢
    rw [Go.Lib.index, if_neg hp, index_sep hc hn l a h.2]
    have : ((a.length : Int) == -1) = false := by rw [beq_eq_false_iff_ne]; omega
    simp [this]
theorem index_no {sep : List UInt8} {c : UInt8} (hc : c ∈ sep) : ∀ a : List UInt8, c ∉ a → Go.Lib.index a sep = -1
  | [], _ => by
    cases sep with
    | nil => simp at hc
    | cons x r => simp [Go.Lib.index]
  | x :: a, h => by
    have hp : ¬ sep.isPrefixOf (x :: a) = true := fun q => by
      obtain ⟨r, e⟩ := isPre_sub q
      exact h (e ▸ List.mem_append_left _ hc)
    simp only [List.mem_cons, not_or] at h
    rw [Go.Lib.index, if_neg hp, index_no hc a h.2]; rfl
theorem cut_sep {sep : List UInt8} {c : UInt8} {k : Nat} (hc : sep[k]? = some c) (hn : ∀ j, j < k → sep[j]? ≠ some c) (a l : List UInt8) (h : c ∉ a) : Go.Lib.cut (a ++ (sep ++ l)) sep = (a, l, true) := by
  rw [Go.Lib.cut, index_sep hc hn l a h, if_pos (by omega)]
  simp [List.drop_append]
def sepB : List UInt8 := [32, 124, 32]
theorem bars_no {l : List (List UInt8)} (h : ∀ a ∈ l, (124 : UInt8) ∉ a) : ∀ a r, l = a :: r → Go.Lib.count (bars l) sepB = r.length ∧ Go.Lib.splitK sepB 0 r.length (bars l) = l := by
  have key : ∀ (r : List (List UInt8)) (a : List UInt8) (f : Nat), (∀ x ∈ a :: r, (124 : UInt8) ∉ x) → (bars (a :: r)).length < f → Go.Lib.countFrom sepB f (bars (a :: r)) = r.length ∧ Go.Lib.splitK sepB 0 r.length (bars (a :: r)) = a :: r := by
    intro r
    induction r with
    | nil =>
      intro a f ha hf
      match f, hf with
      | f + 1, hf =>
        have := index_no (sep := sepB) (c := 124) (by simp [sepB]) a (ha a (List.mem_cons_self ..))
        simp [bars, Go.Lib.countFrom, Go.Lib.splitK, this]
    | cons b r ih =>
      intro a f ha hf
      match f, hf with
      | f + 1, hf =>
        have e : bars (a :: b :: r) = a ++ (sepB ++ bars (b :: r)) := by simp [bars, sepB]
        have hi := index_sep (sep := sepB) (c := 124) (k := 1) rfl (fun j hj => by match j, hj with | 0, _ => simp [sepB]) (bars (b :: r)) a (ha a (List.mem_cons_self ..))
        have h1 := ih b f (fun x hx => ha x (List.mem_cons_of_mem _ hx)) (by rw [e] at hf; simp [sepB] at hf ⊢; omega)
        have ne : ((a.length : Int) == -1) = false := by rw [beq_eq_false_iff_ne]; omega
        have hd : (a ++ (sepB ++ bars (b :: r))).drop (a.length + 3) = bars (b :: r) := by
          rw [List.drop_append, List.drop_of_length_le (by omega)]
          simp [sepB]
        have ht : (a ++ (sepB ++ bars (b :: r))).take a.length = a := by simp
        have hs : sepB.length = 3 := rfl
        rw [e]
        refine ⟨?_, ?_⟩
        · rw [Go.Lib.countFrom, hi, ne]
          simp only [Bool.false_eq_true, if_false, Int.toNat_natCast, hs, hd, h1.1, List.length_cons]; omega
        · rw [List.length_cons, Go.Lib.splitK, hi, ne]
          simp only [Bool.false_eq_true, if_false, Int.toNat_natCast, hs, hd, h1.2, Nat.add_zero, ht]
  intro a r e
  subst e
  exact key r a _ h (by omega)
theorem split_bars {l : List (List UInt8)} (hne : l ≠ []) (h : ∀ a ∈ l, (124 : UInt8) ∉ a) : Go.Lib.split (bars l) sepB = l := by
  cases l with
  | nil => exact absurd rfl hne
  | cons a r =>
    obtain ⟨h1, h2⟩ := bars_no h a r rfl
    rw [Go.Lib.split, h1, h2]
/-! ### what stands in the texts of expressions -/
def TxtC (c : UInt8) : Prop := c ≠ 10 ∧ c ≠ 124
theorem txtC_dig {c : UInt8} (h : 48 ≤ c.toNat ∧ c.toNat ≤ 57) : TxtC c := ⟨fun e => by subst e; simp at h, fun e => by subst e; simp at h⟩
theorem txtC_low {c : UInt8} (h : Low c ∨ Dig c) : TxtC c := by
  rcases h with h | h
  · exact ⟨fun e => by subst e; revert h; decide, fun e => by subst e; revert h; decide⟩
  · exact ⟨fun e => by subst e; revert h; decide, fun e => by subst e; revert h; decide⟩
theorem itoa_txtC {n : Int} (h : 0 ≤ n) : ∀ c ∈ Go.Lib.itoa n, TxtC c := fun c hc => by
  rw [itoa_dec n h] at hc
  exact txtC_dig (dec_digits _ c hc)
theorem semis_txtC : ∀ l : List (List UInt8), (∀ a ∈ l, ∀ c ∈ a, TxtC c) → ∀ c ∈ semis l, TxtC c
  | [], _, c, hc => by simp [semis] at hc
  | [a], h, c, hc => h a (List.mem_cons_self ..) c hc
  | a :: b :: l, h, c, hc => by
    have ih := semis_txtC (b :: l) fun x hx => h x (List.mem_cons_of_mem _ hx)
    simp only [semis, List.mem_append, List.mem_cons] at hc
    rcases hc with hc | rfl | rfl | hc
    · exact h a (List.mem_cons_self ..) c hc
    · exact ⟨by decide, by decide⟩
    · exact ⟨by decide, by decide⟩
    · exact ih c hc
theorem bars_ten : ∀ l : List (List UInt8), (∀ a ∈ l, ∀ c ∈ a, TxtC c) → (10 : UInt8) ∉ bars l
  | [], _ => by simp [bars]
  | [a], h => fun q => (h a (List.mem_cons_self ..) 10 q).1 rfl
  | a :: b :: l, h => fun q => by
    have ih := bars_ten (b :: l) fun x hx => h x (List.mem_cons_of_mem _ hx)
    simp only [bars, List.mem_append, List.mem_cons] at q
    rcases q with q | q | q | q | q
    · exact (h a (List.mem_cons_self ..) 10 q).1 rfl
    · cases q
    · cases q
    · cases q
    · exact ih q
theorem signB_txtC (k : Int) : TxtC (signB k) := by
  unfold signB
  (repeat' split)
  all_goals exact ⟨by decide, by decide⟩
theorem DExpr.txt_chars {p : DProgram} (hp : p.ok) {funcs : Int} (e : DExpr) (vars : Int) (h : Stands p funcs e vars) : ∀ c ∈ e.txt p, TxtC c := by
  have ih : ∀ x ∈ e.fKids, ∀ c ∈ x.txt p, TxtC c := fun x hx => by
    obtain ⟨k, hk, ek⟩ := List.mem_iff_getElem.1 hx
    obtain ⟨v, hv⟩ := h.kid hk
    have hs := DExpr.kid_s hx
    subst ek
    exact DExpr.txt_chars hp e.fKids[k] v hv
  have ihm : ∀ a ∈ e.fKids.map (DExpr.txt p), ∀ c ∈ a, TxtC c := fun a ha => by
    obtain ⟨x, hx, rfl⟩ := List.mem_map.1 ha
    exact ih x hx
  have q40 : TxtC 40 := ⟨by decide, by decide⟩
  have q41 : TxtC 41 := ⟨by decide, by decide⟩
  have q32 : TxtC 32 := ⟨by decide, by decide⟩
  have q120 : TxtC 120 := ⟨by decide, by decide⟩
  intro c hc
  rw [DExpr.txt_eq] at hc
  split at hc
  · exact itoa_txtC (h.num (.inl (by assumption))).1 c hc
  · split at hc
    · rcases List.mem_cons.1 hc with rfl | hc
      · exact q120
      · exact itoa_txtC (h.num (.inr (by assumption))).1 c hc
    · split at hc
      · rename_i hk
        have h2 := h.two hk
        match hkl : e.fKids, h2 with
        | [a, b], _ =>
          rw [hkl] at hc ih
          simp only [List.map_cons, List.map_nil, List.getD_cons_zero, List.getD_cons_succ, List.mem_cons, List.mem_append, List.mem_nil_iff, _root_.or_false] at hc ih
          rcases hc with rfl | hc | rfl | rfl | rfl | hc | rfl
          · exact q40
          · exact ih a (.inl rfl) c hc
          · exact q32
          · exact signB_txtC _
          · exact q32
          · exact ih b (.inr rfl) c hc
          · exact q41
      · rename_i n1 n2 n3
        rcases List.mem_append.1 hc with hc | hc
        · unfold headT at hc
          have hk := h.kind
          split at hc
          · simp only [List.mem_cons, List.mem_nil_iff, _root_.or_false] at hc; rcases hc with rfl | rfl | rfl <;> exact ⟨by decide, by decide⟩
          · split at hc
            · simp only [List.mem_cons, List.mem_nil_iff, _root_.or_false] at hc; rcases hc with rfl | rfl <;> exact ⟨by decide, by decide⟩
            · split at hc
              · simp only [List.mem_cons, List.mem_nil_iff, _root_.or_false] at hc; rcases hc with rfl | rfl | rfl <;> exact ⟨by decide, by decide⟩
              · obtain ⟨f, ef, en, -, -, -, hi, hcn⟩ := h.call hp (by omega)
                have hnm := (hp.2 _ f ef).1.2.2.2
                rw [en] at hc
                split at hc
                · simp only [List.mem_append, List.mem_cons] at hc
                  rcases hc with hc | rfl | hc
                  · exact txtC_low (hnm c hc)
                  · exact ⟨by decide, by decide⟩
                  · exact itoa_txtC hi.1 c hc
                · simp only [List.mem_append, List.mem_cons] at hc
                  rcases hc with (hc | rfl | hc) | rfl | hc
                  · exact txtC_low (hnm c hc)
                  · exact ⟨by decide, by decide⟩
                  · exact itoa_txtC hi.1 c hc
                  · exact ⟨by decide, by decide⟩
                  · exact itoa_txtC hcn.1 c hc
        · simp only [List.mem_cons, List.mem_append, List.mem_nil_iff, _root_.or_false] at hc
          rcases hc with rfl | hc | rfl
          · exact q40
          · exact semis_txtC _ ihm c hc
          · exact q41
termination_by e.s
open Go.Proofs
set_option linter.unusedVariables false
set_option linter.unusedSimpArgs false
/-- The program of the first functions. -/
def DProgram.upto (p : DProgram) (k : Nat) : DProgram := ⟨p.fFuncs.take k⟩
theorem upto_get {p : DProgram} {k j : Nat} (h : j < k) : (p.upto k).fFuncs[j]? = p.fFuncs[j]? := List.getElem?_take_of_lt h
theorem nodeOK_upto {p : DProgram} {m k : Nat} (hmk : m ≤ k) {e : DExpr} {vars : Int} (h : nodeOK p e vars m) : nodeOK (p.upto k) e vars m := by
  unfold nodeOK at h ⊢
  split
  · rename_i hk
    rw [if_pos hk] at h
    exact ⟨h.1, h.2.1, fun f ef => h.2.2 f (by rw [upto_get (by omega)] at ef; exact ef)⟩
  · rename_i hk
    rw [if_neg hk] at h
    exact h
theorem DExpr.ok_upto {p : DProgram} {m k : Nat} (hmk : m ≤ k) (e : DExpr) (vars : Int) (h : e.ok p m vars) : e.ok (p.upto k) m vars := by
  have h1 := (DExpr.ok_iff _ _ _ _).1 h
  refine (DExpr.ok_iff _ _ _ _).2 ⟨nodeOK_upto hmk h1.1, fun j hj => ?_⟩
  have hs := DExpr.kid_s (List.getElem_mem hj)
  exact DExpr.ok_upto hmk e.fKids[j] _ (h1.2 j hj)
termination_by e.s
theorem exprOK_upto {p : DProgram} {m k : Nat} (hmk : m ≤ k) {e : DExpr} {vars : Int} (h : exprOK p e vars m) : exprOK (p.upto k) e vars m := by
  obtain ⟨h1, h2, h3, h4, h5⟩ := h
  refine ⟨h1, ⟨h2.1, ?_⟩, h3, h4, DExpr.ok_upto hmk e vars h5⟩
  rw [DProgram.upto, List.length_take]; omega
theorem DExpr.txt_upto {p : DProgram} {k : Nat} (e : DExpr) (vars : Int) (h : e.ok p k vars) : e.txt (p.upto k) = e.txt p := by
  have h1 := (DExpr.ok_iff _ _ _ _).1 h
  have hm : e.fKids.map (DExpr.txt (p.upto k)) = e.fKids.map (DExpr.txt p) := List.map_congr_left fun x hx => by
    obtain ⟨j, hj, ek⟩ := List.mem_iff_getElem.1 hx
    have hs := DExpr.kid_s hx
    subst ek
    exact DExpr.txt_upto e.fKids[j] _ (h1.2 j hj)
  have hh : ¬ e.fKind = 7 → ¬ e.fKind = 8 → ¬ e.fKind = 9 → ¬ e.fKind = 1 → ¬ e.fKind = 2 → ¬ (3 ≤ e.fKind ∧ e.fKind ≤ 6) → nameAt (p.upto k) e.fNum = nameAt p e.fNum := fun a b c d e' f => by
    have hn := h1.1
    unfold nodeOK at hn
    split at hn
    · unfold nameAt; rw [upto_get (by omega)]
    · have h2 := hn.1
      unfold kidsN at h2
      repeat' split at h2
      all_goals omega
  rw [DExpr.txt_eq, DExpr.txt_eq, hm]
  split
  · rfl
  · split
    · rfl
    · split
      · rfl
      · congr 1
        unfold headT
        split
        · rfl
        · split
          · rfl
          · split
            · rfl
            · rw [hh (by assumption) (by assumption) (by assumption) (by assumption) (by assumption) (by assumption)]
termination_by e.s
theorem ok_upto {p : DProgram} (hp : p.ok) (k : Nat) : (p.upto k).ok := by
  refine ⟨by have := hp.1; rw [DProgram.upto, List.length_take]; omega, fun j f ef => ?_⟩
  have hj : j < k ∧ j < p.fFuncs.length := by
    have := (List.getElem?_eq_some_iff.1 ef).1
    rw [DProgram.upto, List.length_take] at this; omega
  rw [upto_get hj.1] at ef
  obtain ⟨a, b, c, d, e, g⟩ := hp.2 j f ef
  refine ⟨a, b, c, fun x hx => d x ?_, e, fun y hy => ?_⟩
  · rw [DProgram.upto, List.take_take] at hx
    rwa [Nat.min_eq_left (by omega)] at hx
  · exact exprOK_upto (by omega) (g y hy)
theorem readE_of {p : DProgram} (hp : p.ok) {e : DExpr} {vars funcs : Int} (h : exprOK p e vars funcs) : readE p (e.txt p) vars funcs = some e := by
  have hd : e.d ≤ 60 := by have := h.2.2.2.1; omega
  have := exI_done (t := e.txt p) hp e vars (Rdb.of h) 60 hd 0 (by omega) s00 [] rfl rfl (by show (0 : Int) + 0 ≤ 400; omega) (by show (e.txt p).drop 0 = _; simp) stop_nil
  have h1 := (rightI hp (e.txt p) vars funcs).1 ⟨by rw [this]; rfl, by rw [this]; show 0 + (e.txt p).length = _; omega, by rw [this]; exact h, by rw [this]⟩
  rw [h1, this]
/-! ### the lines of a program -/
def lineT (p : DProgram) (f : DFunc) : List UInt8 := headF f ++ bars (f.fOuts.map (DExpr.txt p))
theorem itoa_no58 {n : Int} (h : 0 ≤ n) {c : UInt8} (hc : c = 32 ∨ c = 58) : c ∉ Go.Lib.itoa n := fun q => by
  rw [itoa_dec n h] at q
  have := dec_digits _ c q
  rcases hc with rfl | rfl <;> revert this <;> decide
theorem name_no58 {s : List UInt8} (h : IsNm s) {c : UInt8} (hc : c = 32 ∨ c = 58) : c ∉ s := fun q => by
  have := h.2.2.2 c q
  rcases hc with rfl | rfl <;> revert this <;> decide
theorem cut_head {p : DProgram} (hp : p.ok) {k : Nat} (hk : k < p.fFuncs.length) : Go.Lib.cut (lineT p p.fFuncs[k]) [58, 32] = (p.fFuncs[k].fName ++ 32 :: Go.Lib.itoa p.fFuncs[k].fParams, bars (p.fFuncs[k].fOuts.map (DExpr.txt p)), true) := by
  have hf := hp.2 k _ (List.getElem?_eq_getElem hk)
  have e : lineT p p.fFuncs[k] = (p.fFuncs[k].fName ++ 32 :: Go.Lib.itoa p.fFuncs[k].fParams) ++ ([58, 32] ++ bars (p.fFuncs[k].fOuts.map (DExpr.txt p))) := by simp [lineT, headF]
  rw [e]
  refine cut_sep (c := 58) (k := 0) rfl (fun j hj => by omega) _ _ fun q => ?_
  rcases List.mem_append.1 q with q | q
  · exact name_no58 hf.1 (.inr rfl) q
  · rcases List.mem_cons.1 q with q | q
    · cases q
    · exact itoa_no58 hf.2.1.1 (.inr rfl) q
theorem cut_name {p : DProgram} (hp : p.ok) {k : Nat} (hk : k < p.fFuncs.length) : Go.Lib.cut (p.fFuncs[k].fName ++ 32 :: Go.Lib.itoa p.fFuncs[k].fParams) [32] = (p.fFuncs[k].fName, Go.Lib.itoa p.fFuncs[k].fParams, true) := by
  have hf := hp.2 k _ (List.getElem?_eq_getElem hk)
  exact cut_hit 32 _ _ (name_no58 hf.1 (.inl rfl))
theorem outs_no {p : DProgram} (hp : p.ok) {k : Nat} (hk : k < p.fFuncs.length) : ∀ a ∈ p.fFuncs[k].fOuts.map (DExpr.txt p), ∀ c ∈ a, TxtC c := fun a ha => by
  obtain ⟨h1, h2, h3, h4, h5⟩ := func_facts hp hk
  obtain ⟨x, hx, rfl⟩ := List.mem_map.1 ha
  exact DExpr.txt_chars hp x _ (h3 x hx)
theorem split_outs {p : DProgram} (hp : p.ok) {k : Nat} (hk : k < p.fFuncs.length) : Go.Lib.split (bars (p.fFuncs[k].fOuts.map (DExpr.txt p))) [32, 124, 32] = p.fFuncs[k].fOuts.map (DExpr.txt p) := by
  have hf := hp.2 k _ (List.getElem?_eq_getElem hk)
  refine split_bars (fun e => ?_) fun a ha q => (outs_no hp hk a ha 124 q).2 rfl
  have h1 := congrArg List.length e
  have h2 := hf.2.2.1.1
  rw [List.length_map, List.length_nil] at h1
  omega
theorem line_ten {p : DProgram} (hp : p.ok) {k : Nat} (hk : k < p.fFuncs.length) : (10 : UInt8) ∉ lineT p p.fFuncs[k] := fun q => by
  have hf := hp.2 k _ (List.getElem?_eq_getElem hk)
  simp only [lineT, headF, List.mem_append, List.mem_cons, List.mem_nil_iff, _root_.or_false] at q
  rcases q with (((q | q) | q) | q) | q
  · exact (txtC_low (hf.1.2.2.2 10 q)).1 rfl
  · cases q
  · exact (itoa_txtC hf.2.1.1 10 q).1 rfl
  · rcases q with q | q <;> cases q
  · exact bars_ten _ (outs_no hp hk) q
theorem spB_lines {p : DProgram} (hp : p.ok) : ∀ (k : Nat) (hk : k ≤ p.fFuncs.length), spB 10 (((p.fFuncs.drop k).map (funcTxt p)).flatten) = (p.fFuncs.drop k).map (lineT p) ++ [[]] := fun k hk => by
  rcases Nat.lt_or_ge k p.fFuncs.length with hlt | hge
  · rw [List.drop_eq_getElem_cons hlt, List.map_cons, List.flatten_cons, List.map_cons, List.cons_append]
    rw [show funcTxt p p.fFuncs[k] = lineT p p.fFuncs[k] ++ [10] from rfl, List.append_assoc, List.singleton_append, spB_pre _ _ (line_ten hp hlt), spB_lines hp (k + 1) hlt]
  · rw [List.drop_of_length_le hge]; rfl
termination_by k => p.fFuncs.length - k
theorem spB_prog {p : DProgram} (hp : p.ok) : spB 10 (progTxt p) = p.fFuncs.map (lineT p) ++ [[]] := by
  have := spB_lines hp 0 (Nat.zero_le _)
  rw [progTxt, if_pos hp]; simpa using this
/-- The text without its last newline. -/
theorem spB_short {p : DProgram} (hp : p.ok) (hne : p.fFuncs ≠ []) : spB 10 ((progTxt p).take ((progTxt p).length - 1)) = p.fFuncs.map (lineT p) := by
  have key : ∀ (l : List (List UInt8)), l ≠ [] → (∀ a ∈ l, (10 : UInt8) ∉ a) → spB 10 (((l.map (· ++ [10])).flatten).take (((l.map (· ++ [10])).flatten).length - 1)) = l := by
    intro l
    induction l with
    | nil => intro h; exact absurd rfl h
    | cons a r ih =>
      intro _ h
      cases r with
      | nil =>
        simp only [List.map_cons, List.map_nil, List.flatten_cons, List.flatten_nil, List.append_nil, List.length_append, List.length_cons, List.length_nil, Nat.zero_add, Nat.add_sub_cancel, List.take_left]
        exact spB_one a (h a (List.mem_cons_self ..))
      | cons b r =>
        have h1 := ih (by simp) fun x hx => h x (List.mem_cons_of_mem _ hx)
        have hl : 1 ≤ (((b :: r).map (· ++ [10])).flatten).length := by simp; omega
        rw [List.map_cons, List.flatten_cons]
        generalize ((b :: r).map (· ++ [10])).flatten = L at *
        have e1 : (a ++ [10] ++ L).take ((a ++ [10] ++ L).length - 1) = a ++ 10 :: L.take (L.length - 1) := by
          have e2 : (a ++ [10] ++ L).length - 1 = a.length + ((L.length - 1) + 1) := by simp; omega
          rw [e2, List.append_assoc, List.take_length_add_append, List.singleton_append, List.take_succ_cons]
        rw [e1]
        rw [spB_pre _ _ (h a (List.mem_cons_self ..)), h1]
  have e : progTxt p = ((p.fFuncs.map (lineT p)).map (· ++ [10])).flatten := by
    rw [progTxt, if_pos hp, List.map_map]; rfl
  rw [e]
  refine key _ (fun q => hne (List.map_eq_nil_iff.1 q)) fun a ha => ?_
  obtain ⟨f, hf, rfl⟩ := List.mem_map.1 ha
  obtain ⟨k, hk, ek⟩ := List.mem_iff_getElem.1 hf
  subst ek
  exact line_ten hp hk
open Go.Proofs
set_option linter.unusedVariables false
set_option linter.unusedSimpArgs false
theorem itoa9 {n : Int} (h0 : 0 ≤ n) (h1 : n ≤ 999999999) : (Go.Lib.itoa n).length ≤ 9 := by
  rw [itoa_dec n h0]; exact (dec_len9 _).2 (by omega)
theorem sum_txt40 {p : DProgram} : ∀ l : List DExpr, (∀ x ∈ l, (x.txt p).length + 2 ≤ 40 * (x.s + 1)) → ((l.map (DExpr.txt p)).map fun a => a.length + 2).sum ≤ 40 * szs DExpr.s l
  | [], _ => Nat.zero_le _
  | x :: l, h => by
    have h1 := sum_txt40 l fun y hy => h y (List.mem_cons_of_mem _ hy)
    have h2 := h x (List.mem_cons_self ..)
    simp only [szs_eq, List.map_cons, List.sum_cons, List.length_cons] at h1 ⊢
    omega
theorem headT_len32 {p : DProgram} (hp : p.ok) {funcs vars : Int} {e : DExpr} (h : Stands p funcs e vars) (h7 : 7 ≤ e.fKind) : (headT p e.fKind e.fNum e.fPick e.fCount).length ≤ 32 := by
  have hk := h.kind
  unfold headT
  split
  · simp
  · split
    · simp
    · split
      · simp
      · have hc : e.fKind = 10 ∨ e.fKind = 11 := by omega
        obtain ⟨f, ef, en, hl, -, -, hi, hc2⟩ := h.call hp hc
        have i1 := itoa9 hi.1 (by have := hi.2; omega)
        have i2 := itoa9 hc2.1 (by have := hc2.2; omega)
        rw [en]
        split
        · simp only [List.length_append, List.length_cons]; omega
        · simp only [List.length_append, List.length_cons]; omega
theorem DExpr.txt_len40 {p : DProgram} (hp : p.ok) {funcs : Int} (e : DExpr) (vars : Int) (h : Stands p funcs e vars) : (e.txt p).length + 2 ≤ 40 * (e.s + 1) := by
  have ih : ∀ x ∈ e.fKids, (x.txt p).length + 2 ≤ 40 * (x.s + 1) := fun x hx => by
    obtain ⟨k, hk, ek⟩ := List.mem_iff_getElem.1 hx
    obtain ⟨v, hv⟩ := h.kid hk
    have hs := DExpr.kid_s hx
    subst ek
    exact DExpr.txt_len40 hp e.fKids[k] v hv
  have hsum := sum_txt40 e.fKids ih
  rw [← e.s_eq] at hsum
  rw [DExpr.txt_eq]
  split
  · have hn := h.num (.inl (by assumption)); have := itoa9 hn.1 (by have := hn.2; omega); omega
  · split
    · have hn := h.num (.inr (by assumption)); have := itoa9 hn.1 (by have := hn.2; omega); rw [List.length_cons]; omega
    · split
      · rename_i hk
        have h2 := h.two hk
        match hkl : e.fKids, h2 with
        | [a, b], _ =>
          rw [hkl] at hsum
          simp at hsum ⊢
          omega
      · have h1 := semis_len (e.fKids.map (DExpr.txt p))
        have hk := h.kind
        have hh := headT_len32 hp h (by omega)
        simp only [List.length_append, List.length_cons, List.length_nil]
        omega
termination_by e.s
/-- A program as they are drawn: so small that its text is not too long. -/
def Small (p : DProgram) : Prop := p.fFuncs.length ≤ 3 ∧ ∀ f ∈ p.fFuncs, f.fOuts.length ≤ 3 ∧ ∀ e ∈ f.fOuts, e.s ≤ 39
theorem small_line {p : DProgram} (hp : p.ok) (hs : Small p) {k : Nat} (hk : k < p.fFuncs.length) : (funcTxt p p.fFuncs[k]).length ≤ 4840 := by
  obtain ⟨h1, h2, h3, h4, h5⟩ := func_facts hp hk
  obtain ⟨s1, s2⟩ := hs.2 _ (List.getElem_mem hk)
  have b1 := bars_len (p.fFuncs[k].fOuts.map (DExpr.txt p))
  have b2 := sum_txt40 (p := p) p.fFuncs[k].fOuts fun x hx => DExpr.txt_len40 hp x _ (h3 x hx)
  have b3 : szs DExpr.s p.fFuncs[k].fOuts ≤ 40 * p.fFuncs[k].fOuts.length := by
    rw [szs_eq]
    generalize p.fFuncs[k].fOuts = l at s2
    clear h1 h2 h3 h4 h5 s1 b1 b2
    induction l with
    | nil => exact Nat.le_refl _
    | cons x l ih =>
      have h1 := ih fun y hy => s2 y (List.mem_cons_of_mem _ hy)
      have h2 := s2 x (List.mem_cons_self ..)
      simp only [List.length_cons, List.map_cons, List.sum_cons] at h1 ⊢
      omega
  rw [List.length_map] at b1
  simp only [funcTxt, List.length_append, List.length_cons, List.length_nil]
  omega
theorem small_txt {p : DProgram} (hp : p.ok) (hs : Small p) : (progTxt p).length ≤ 14520 := by
  have key : ∀ k, k ≤ p.fFuncs.length → (linesP p k).length ≤ 4840 * k := by
    intro k
    induction k with
    | zero => intro _; exact Nat.le_refl _
    | succ k ih =>
      intro hk
      have h1 := ih (by omega)
      have h2 := small_line hp hs (k := k) (by omega)
      rw [linesP_next (by omega), List.length_append]; omega
  have h1 := key _ (Nat.le_refl _)
  have h2 : progTxt p = linesP p p.fFuncs.length := by rw [progTxt, if_pos hp, linesP, List.take_of_length_le (by simp)]
  rw [h2]
  have := hs.1
  omega

open Go.Proofs
set_option linter.unusedVariables false
set_option linter.unusedSimpArgs false
theorem genG {p : DProgram} {ns ng np : Nat} {c : List Int} {pl : Bool} (hc : ∀ x ∈ c, InB x) (hl : c.length ≤ 4096) (hne : ¬ ns = ng) (hP : FuncsIn p) (hpl : p.fFuncs.length ≤ 100) (dp : Nat) : GenP Tryz.prog 44 p ns ng np c pl dp := by
  induction dp with
  | zero => exact exprG_step hc hl hne hP (fun d h => by omega) (fun h => by omega)
  | succ d ih =>
    have hd : ∀ d', d' + 1 = d + 1 → GenP Tryz.prog 44 p ns ng np c pl d' := fun d' h => by
      cases h
      exact ih
    exact exprG_step hc hl hne hP hd (fun _ => callG_step hc hl hne hP hpl (by omega) hd)
def words4 : List (List UInt8) := [[102], [103], [115, 116, 101, 112], [104, 50]]
/-- A drawn function. -/
def FnGood (p : DProgram) (k : Nat) (f : DFunc) : Prop := (∃ w ∈ words4, f.fName = w ++ Go.Lib.itoa k) ∧ (1 ≤ f.fParams ∧ f.fParams ≤ 3) ∧ (1 ≤ f.fOuts.length ∧ f.fOuts.length ≤ 3) ∧ ∀ e ∈ f.fOuts, e.s ≤ 39 ∧ e.d ≤ 6 ∧ e.ok p k f.fParams
def Drawn (fs : List DFunc) : Prop := ∀ (j : Nat) (f : DFunc), fs[j]? = some f → FnGood ⟨fs⟩ j f
theorem nodeOK_up {p q : DProgram} {m : Nat} (hpq : ∀ j, j < m → q.fFuncs[j]? = p.fFuncs[j]?) {e : DExpr} {vars : Int} (h : nodeOK p e vars m) : nodeOK q e vars m := by
  unfold nodeOK at h ⊢
  split
  · rename_i hk
    rw [if_pos hk] at h
    exact ⟨h.1, h.2.1, fun f ef => h.2.2 f (by rw [hpq _ (by omega)] at ef; exact ef)⟩
  · rename_i hk
    rw [if_neg hk] at h
    exact h
theorem DExpr.ok_up {p q : DProgram} {m : Nat} (hpq : ∀ j, j < m → q.fFuncs[j]? = p.fFuncs[j]?) (e : DExpr) (vars : Int) (h : e.ok p m vars) : e.ok q m vars := by
  have h1 := (DExpr.ok_iff _ _ _ _).1 h
  refine (DExpr.ok_iff _ _ _ _).2 ⟨nodeOK_up hpq h1.1, fun j hj => ?_⟩
  have hs := DExpr.kid_s (List.getElem_mem hj)
  exact DExpr.ok_up hpq e.fKids[j] _ (h1.2 j hj)
termination_by e.s
theorem Drawn.snoc {fs : List DFunc} (h : Drawn fs) {f : DFunc} (hf : FnGood ⟨fs⟩ fs.length f) : Drawn (fs ++ [f]) := by
  have up : ∀ {k : Nat} {g : DFunc}, k ≤ fs.length → FnGood ⟨fs⟩ k g → FnGood ⟨fs ++ [f]⟩ k g := fun {k g} hk ⟨h1, h2, h3, h4⟩ => ⟨h1, h2, h3, fun e he => ⟨(h4 e he).1, (h4 e he).2.1, DExpr.ok_up (fun j hj => by simp only [DProgram.fFuncs]; rw [List.getElem?_append_left (by omega)]) e _ (h4 e he).2.2⟩⟩
  intro j g hg
  rcases Nat.lt_or_ge j fs.length with h1 | h1
  · rw [List.getElem?_append_left h1] at hg
    exact up (by omega) (h j g hg)
  · have hj : j < (fs ++ [f]).length := by rcases Nat.lt_or_ge j (fs ++ [f]).length with q | q; exact q; rw [List.getElem?_eq_none q] at hg; cases hg
    rw [List.length_append, List.length_singleton] at hj
    obtain rfl : j = fs.length := by omega
    rw [List.getElem?_append_right (Nat.le_refl _), Nat.sub_self] at hg
    cases hg
    exact up (Nat.le_refl _) hf
theorem Drawn.get {fs : List DFunc} (h : Drawn fs) {f : DFunc} (hf : f ∈ fs) : ∃ j, j < fs.length ∧ fs[j]? = some f ∧ FnGood ⟨fs⟩ j f := by
  obtain ⟨j, hj, e⟩ := List.mem_iff_getElem.1 hf
  have e2 : fs[j]? = some f := by rw [List.getElem?_eq_getElem hj, e]
  exact ⟨j, hj, e2, h j f e2⟩
theorem Drawn.funcsIn {fs : List DFunc} (h : Drawn fs) : FuncsIn ⟨fs⟩ := fun f hf => by
  obtain ⟨j, -, -, hg⟩ := h.get hf
  exact ⟨hg.2.1, hg.2.2.1⟩
theorem itoa_low {k : Nat} (h : k ≤ 2) : ∃ c : UInt8, Go.Lib.itoa k = [c] ∧ Dig c ∧ c.toNat = 48 + k := by
  refine ⟨UInt8.ofNat (48 + k), by rw [itoa_dec _ (by omega), Int.toNat_natCast, dec_one (by omega)], ?_⟩
  match k, h with
  | 0, _ => exact ⟨⟨by decide, by decide⟩, rfl⟩
  | 1, _ => exact ⟨⟨by decide, by decide⟩, rfl⟩
  | 2, _ => exact ⟨⟨by decide, by decide⟩, rfl⟩
theorem nm_good {w : List UInt8} (hw : w ∈ words4) {c : UInt8} (hc : Dig c) : IsNm (w ++ [c]) := by
  simp only [words4, List.mem_cons, List.not_mem_nil, or_false] at hw
  rcases hw with rfl | rfl | rfl | rfl
  all_goals
    refine ⟨by simp, by simp, fun x hx => by cases hx; exact ⟨by decide, by decide⟩, fun x hx => ?_⟩
    simp only [List.cons_append, List.nil_append, List.mem_cons, List.not_mem_nil, or_false] at hx
  · rcases hx with rfl | rfl <;> first | exact .inr hc | exact .inl ⟨by decide, by decide⟩
  · rcases hx with rfl | rfl <;> first | exact .inr hc | exact .inl ⟨by decide, by decide⟩
  · rcases hx with rfl | rfl | rfl | rfl | rfl <;> first | exact .inr hc | exact .inl ⟨by decide, by decide⟩
  · rcases hx with rfl | rfl | rfl <;> first | exact .inr hc | exact .inl ⟨by decide, by decide⟩ | exact .inr ⟨by decide, by decide⟩
theorem Drawn.good {fs : List DFunc} (h : Drawn fs) (hl : fs.length ≤ 3) : (⟨fs⟩ : DProgram).ok ∧ Small ⟨fs⟩ := by
  have hsz : ∀ {l : List DExpr}, (∀ e ∈ l, e.s ≤ 39) → szs DExpr.s l ≤ 40 * l.length := fun {l} hl => by
    rw [szs_eq]
    induction l with
    | nil => simp
    | cons x l ih =>
      have h1 := hl x (.head _)
      have h2 := ih fun e he => hl e (.tail _ he)
      simp only [List.length_cons, List.map_cons, List.sum_cons]
      omega
  refine ⟨⟨by simp only [DProgram.fFuncs]; omega, fun k f hf => ?_⟩, hl, fun f hf => ?_⟩
  · have hk : k < fs.length := by rcases Nat.lt_or_ge k fs.length with q | q; exact q; rw [show (⟨fs⟩ : DProgram).fFuncs = fs from rfl, List.getElem?_eq_none q] at hf; cases hf
    obtain ⟨⟨w, hw, hn⟩, h2, h3, h4⟩ := h k f hf
    obtain ⟨c, ec, dc, cv⟩ := itoa_low (k := k) (by omega)
    have h5 := hsz fun e he => (h4 e he).1
    refine ⟨by rw [hn, ec]; exact nm_good hw dc, by omega, by omega, fun g hg q => ?_, by omega, fun e he => ⟨by omega, ⟨by omega, by simp only [DProgram.fFuncs]; omega⟩, by have := (h4 e he).1; omega, by have := (h4 e he).2.1; omega, (h4 e he).2.2⟩⟩
    obtain ⟨j, hj, e⟩ := List.mem_iff_getElem.1 hg
    rw [List.length_take] at hj
    rw [List.getElem_take] at e
    obtain ⟨⟨w2, hw2, hn2⟩, -⟩ := h j g (by rw [List.getElem?_eq_getElem (by simp only [DProgram.fFuncs] at hj; omega)]; exact congrArg some e)
    obtain ⟨c2, ec2, -, cv2⟩ := itoa_low (k := j) (by omega)
    rw [hn, hn2, ec, ec2] at q
    have q2 := congrArg List.getLast? q
    simp only [List.getLast?_append, List.getLast?_singleton, Option.some_or, Option.some.injEq] at q2
    rw [q2] at cv2
    omega
  · obtain ⟨j, -, -, -, -, h3, h4⟩ := h.get hf
    exact ⟨h3.2, fun e he => (h4 e he).1⟩
open Go.Proofs
set_option linter.unusedVariables false
set_option linter.unusedSimpArgs false
/-- Where the drawing of a program stands: functions, their rows, the heap, the list's name, choices, seed. -/
abbrev DSt := List DFunc × List (List OV) × Heap × Option Nat × Nat × Int
def DSide (n : Nat) (a : Nat) (B : Heap) (ns n8 n9 : Nat) : DSt → Prop := fun (fs, es, g1, o, a3, _) =>
  fs.length ≤ n ∧ Drawn fs ∧ OR DFunc.o fs es ∧ New B (OV.rowsRows es) g1 ∧ (g1 ns = none ∧ g1 n8 = none ∧ g1 n9 = none) ∧ gside g1 es o ∧ (∀ m, o = some m → ¬ m = ns ∧ ¬ m = n8 ∧ ¬ m = n9) ∧ (o = none → fs = []) ∧ (a ≤ a3 ∧ a3 ≤ a + 5000 * fs.length)
/-- Where the drawing of a function's outs stands. -/
abbrev ISt := Int × Nat × List DExpr × List (List OV) × Heap × Option Nat × Nat × Int
def ISide (fs : List DFunc) (par : Int) (a : Nat) (B1 : Heap) (ns nf : Nat) : ISt → Prop := fun (cnt, i, outs, eo, g2, oo, a8, _) =>
  (1 ≤ cnt ∧ cnt ≤ 3) ∧ (i : Int) ≤ cnt ∧ outs.length = i ∧ OR DExpr.o outs eo ∧ New B1 (OV.rowsRows eo) g2 ∧ (g2 ns = none ∧ g2 nf = none) ∧ gside g2 eo oo ∧ (∀ m, oo = some m → ¬ m = ns ∧ ¬ m = nf) ∧ (∀ e ∈ outs, e.s ≤ 39 ∧ e.d ≤ 6 ∧ e.ok ⟨fs⟩ fs.length par) ∧ (a ≤ a8 ∧ a8 ≤ a + 600 * i)
theorem ISide.next {fs : List DFunc} {par : Int} {a : Nat} {B1 : Heap} {ns nf : Nat} {cnt : Int} {i : Nat} {outs : List DExpr} {eo : List (List OV)} {g2 g5 : Heap} {oo : Option Nat} {a8 a9 : Nat} {sd8 sd9 : Int} {x : DExpr} {e : List OV} {m : Nat}
    (h : ISide fs par a B1 ns nf (cnt, i, outs, eo, g2, oo, a8, sd8)) (hlt : (i : Int) < cnt) (hx : x.o e) (w : New g2 (OV.rowsRow e) g5) (z : g5 ns = none ∧ g5 nf = none) (hm : g5 m = none) (hm2 : ¬ m = ns ∧ ¬ m = nf) (hg : x.s ≤ 39 ∧ x.d ≤ 6 ∧ x.ok ⟨fs⟩ fs.length par) (ha : a8 ≤ a9 ∧ a9 ≤ a8 + 600) :
    ISide fs par a B1 ns nf (cnt, i + 1, outs ++ [x], eo ++ [e], g5, some m, a9, sd9) := by
  obtain ⟨hcnt, hi, hol, hor, hnew, -, -, -, hgd, ha8⟩ := h
  refine ⟨hcnt, by omega, by rw [List.length_append, hol]; rfl, OR.append hor ⟨hx, trivial⟩, New.snoc hnew w, z, hm, fun b q => by cases q; exact hm2, fun y hy => ?_, by omega⟩
  rcases List.mem_append.1 hy with hy | hy
  · exact hgd y hy
  · rw [List.mem_singleton.1 hy]; exact hg
theorem DSide.next {n a : Nat} {B : Heap} {ns n8 n9 : Nat} {fs : List DFunc} {es : List (List OV)} {g1 g8 : Heap} {o : Option Nat} {a3 a8 : Nat} {sd3 sd8 : Int} {f : DFunc} {e : List OV} {m : Nat}
    (h : DSide n a B ns n8 n9 (fs, es, g1, o, a3, sd3)) (hlt : fs.length < n) (hf : FnGood ⟨fs⟩ fs.length f) (hx : f.o e) (w : New g1 (OV.rowsRow e) g8) (z : g8 ns = none ∧ g8 n8 = none ∧ g8 n9 = none) (hm : g8 m = none) (hm2 : ¬ m = ns ∧ ¬ m = n8 ∧ ¬ m = n9) (ha : a3 ≤ a8 ∧ a8 ≤ a3 + 5000) :
    DSide n a B ns n8 n9 (fs ++ [f], es ++ [e], g8, some m, a8, sd8) := by
  obtain ⟨hfl, hdr, hor, hnew, -, -, -, -, ha3⟩ := h
  exact ⟨by rw [List.length_append, List.length_singleton]; omega, hdr.snoc hf, OR.append hor ⟨hx, trivial⟩, New.snoc hnew w, z, hm, fun b q => by cases q; exact hm2, (fun q => (by cases q)), by rw [List.length_append, List.length_singleton]; omega⟩
def keep23 : List Nat := [0, 1, 2, 3, 8, 9, 10, 11, 12, 13, 14, 18, 35, 40]
def ib23 : List Nat := [22, 55, 61]
def mk23 : Marks := fun id => match id with | 13 => ([1, 4, 6, 8, 10], (.op 0 (.op 2 (.op 3 (.op 5 (.op 1 (.op 4 (.op 6 (.op 7 (.op 8 (.op 9 (.op 10 .nil))))))))))), [(1, 6)]) | _ => ([], .nil, [])
set_option maxRecDepth 100000 in
set_option maxHeartbeats 8000000 in
theorem drawH {ns : Nat} {c : List Int} {pl : Bool} (hc : ∀ x ∈ c, InB x) (hl : c.length ≤ 4096) {n : Nat} (hn : n ≤ 3) {B : Heap} (hB : B ns = none) {a : Nat} (ha : a ≤ 700000000) {sd : Int} :
    HFn Tryz.prog 23 [.op ns 3 0 0, I n, I 14, .bool pl] (upd B ns (srcB c a sd)) fun r h' => ∃ (fs : List DFunc) (e : List OV) (g' : Heap) (a' : Nat) (sd' : Int), fs.length = n ∧ Drawn fs ∧ (⟨fs⟩ : DProgram).o e ∧ r = .agg (e.map OV.val) ∧ New B (OV.rowsRow e) g' ∧ g' ns = none ∧ (a ≤ a' ∧ a' ≤ a + 5000 * n) ∧ h' = upd g' ns (srcB c a' sd') := by
  refine fnKF 65 keep23 ib23 mk23 mix Tryz.func23 rfl (by kernel_rfl) (by simp) ?_
  simp (maxSteps := 1000000) -dsimp -implicitDefEqProofs only [go_sem, ↓reduceIte, keep23, ib23, mk23, Tryz.f23, genB]
  intro n8 q8
  have b8 : ¬ n8 = ns := by grind
  have z8 : B n8 = none := by grind
  have d_n8_ns : ¬ n8 = ns := b8
  have d_ns_n8 : ¬ ns = n8 := Ne.symm d_n8_ns
  have e_n8_ns : (n8 = ns) = False := eq_false d_n8_ns
  have e_ns_n8 : (ns = n8) = False := eq_false d_ns_n8
  intro n9 q9
  have b9 : ¬ n9 = ns := by grind
  have c9 : ¬ n9 = n8 := by grind
  have z9 : B n9 = none := by grind
  have d_n9_ns : ¬ n9 = ns := b9
  have d_ns_n9 : ¬ ns = n9 := Ne.symm d_n9_ns
  have e_n9_ns : (n9 = ns) = False := eq_false d_n9_ns
  have e_ns_n9 : (ns = n9) = False := eq_false d_ns_n9
  have d_n9_n8 : ¬ n9 = n8 := c9
  have d_n8_n9 : ¬ n8 = n9 := Ne.symm d_n9_n8
  have e_n9_n8 : (n9 = n8) = False := eq_false d_n9_n8
  have e_n8_n9 : (n8 = n9) = False := eq_false d_n8_n9
  simp only [upd_swap d_ns_n8, upd_swap d_ns_n9, upd_upd]
  refine loopF (keep := keep23) (ib := ib23) (mk := mk23) mix (by kernel_rfl) (fun x : DSt => [(0, .op ns 3 0 0), (1, I n), (2, I 14), (3, .bool pl), (8, .op n8 1 0 0), (9, .op n9 1 0 0), (10, I x.1.length)]) (fun x => upd (upd (upd (oheap x.2.2.1 (.row 3 (OV.cells x.2.1)) x.2.2.2.1) n8 (.row 1 [[.v .nilsl]])) n9 (.row 1 [[.v (onil 3 x.1.length x.2.2.2.1)]])) ns (srcB c x.2.2.2.2.1 x.2.2.2.2.2)) (fun x => DSide n a B ns n8 n9 x) (fun x => n - x.1.length) ([], [], B, none, a, sd) ⟨by simp [SatL, tget], Heap.le_refl _, Nat.zero_le _, (fun j f h => by cases h), trivial, New.nil B, ⟨hB, z8, z9⟩, rfl, (fun m e => by cases e), (fun _ => rfl), by simp⟩ ?_
  rintro ⟨fs, es, g1, o, a3, sd3⟩ hdd
  obtain ⟨hfl, hdr, hor, hnew, ⟨zs, z18, z19⟩, hgs, hon, hfo, ha3⟩ := id hdd
  simp only at hfl hdr hor hnew zs z18 z19 hgs hon hfo ha3 ⊢
  simp (maxSteps := 1000000) -dsimp -implicitDefEqProofs only [go_sem, ↓reduceIte, keep23, ib23, mk23, Tryz.f23, e_n8_ns, e_n8_n9, e_ns_n8, e_ns_n9, e_n9_n8, e_n9_ns, upd_ne, upd_get, Option.toArray_none, Option.toArray_some, List.filterMap_cons, List.filterMap_nil, List.elem_cons_self, List.nil_append, List.append_nil, List.toList_toArray]
  refine ⟨fun hlt => ⟨by decide, by decide, ?_⟩, fun hge => ⟨onil_flat .., ?_⟩⟩
  · refine HFnF.mkH (textH (a := a3) (sd := sd3) hc hl (by omega) words4 true (by decide) (by decide) (upd_same ..)) ?_
    rintro r_ h' ⟨w, a4, sd4, rfl, hw, ha4, rfl⟩
    rw [upd_upd]
    simp (maxSteps := 1000000) -dsimp -implicitDefEqProofs only [go_sem, ↓reduceIte, keep23, ib23, mk23, Tryz.f23, e_n8_ns, e_n8_n9, e_ns_n8, e_ns_n9, e_n9_n8, e_n9_ns, upd_ne, upd_get, Option.toArray_none, Option.toArray_some, List.filterMap_cons, List.filterMap_nil, List.elem_cons_self, List.nil_append, List.append_nil, List.toList_toArray]
    first | refine HFnF.mk ((Decimal 4 fs.length (by omega) (by omega) (by omega))) ?_ | refine CallSF.mk ((Decimal 4 fs.length (by omega) (by omega) (by omega))) ?_ | refine HFnF.mkAt ((Decimal 4 fs.length (by omega) (by omega) (by omega))) ?_ | refine CallSF.mk (FnAt.fn0 ((Decimal 4 fs.length (by omega) (by omega) (by omega)))) ?_
    simp (maxSteps := 1000000) -dsimp -implicitDefEqProofs only [go_sem, ↓reduceIte, keep23, ib23, mk23, Tryz.f23, e_n8_ns, e_n8_n9, e_ns_n8, e_ns_n9, e_n9_n8, e_n9_ns, upd_ne, upd_get, Option.toArray_none, Option.toArray_some, List.filterMap_cons, List.filterMap_nil, List.elem_cons_self, List.nil_append, List.append_nil, List.toList_toArray]
    refine ⟨by have := itoa_low (k := fs.length) (by omega); obtain ⟨c5, e5, -, -⟩ := this; have : w.length ≤ 4 := (by simp only [words4, List.mem_cons, List.not_mem_nil, or_false] at hw; rcases hw with rfl | rfl | rfl | rfl <;> decide); rw [e5]; simp only [List.length_singleton]; omega, ?_⟩
    refine HFnF.mkH (pickH (a := a4) (sd := sd4) hc hl (by omega) 3 (by omega) (upd_same ..)) ?_
    rintro r_ h' ⟨px, a5, sd5, rfl, x0, x1, -, ha5, rfl⟩
    have x1 := x1 (by omega)
    have wp : IntKind.i64.wrap (1 + px) = 1 + px := IntWalk.i64_in _ (by omega)
    rw [upd_upd]
    simp (maxSteps := 1000000) -dsimp -implicitDefEqProofs only [go_sem, ↓reduceIte, keep23, ib23, mk23, Tryz.f23, e_n8_ns, e_n8_n9, e_ns_n8, e_ns_n9, e_n9_n8, e_n9_ns, upd_ne, upd_get, Option.toArray_none, Option.toArray_some, List.filterMap_cons, List.filterMap_nil, List.elem_cons_self, List.nil_append, List.append_nil, List.toList_toArray, wp]
    intro nf qf
    have af : ¬ nf = ns := by grind
    have bf : ¬ nf = n8 := by grind
    have cf : ¬ nf = n9 := by grind
    have zf : oheap g1 (.row 3 (OV.cells es)) o nf = none := by grind
    have d_nf_ns : ¬ nf = ns := af
    have d_ns_nf : ¬ ns = nf := Ne.symm d_nf_ns
    have e_nf_ns : (nf = ns) = False := eq_false d_nf_ns
    have e_ns_nf : (ns = nf) = False := eq_false d_ns_nf
    have d_nf_n8 : ¬ nf = n8 := bf
    have d_n8_nf : ¬ n8 = nf := Ne.symm d_nf_n8
    have e_nf_n8 : (nf = n8) = False := eq_false d_nf_n8
    have e_n8_nf : (n8 = nf) = False := eq_false d_n8_nf
    have d_nf_n9 : ¬ nf = n9 := cf
    have d_n9_nf : ¬ n9 = nf := Ne.symm d_nf_n9
    have e_nf_n9 : (nf = n9) = False := eq_false d_nf_n9
    have e_n9_nf : (n9 = nf) = False := eq_false d_n9_nf
    simp (maxSteps := 1000000) -dsimp -implicitDefEqProofs only [go_sem, ↓reduceIte, keep23, ib23, mk23, Tryz.f23, e_n8_ns, e_n8_n9, e_n8_nf, e_ns_n8, e_ns_n9, e_ns_nf, e_n9_n8, e_n9_ns, e_n9_nf, e_nf_n8, e_nf_ns, e_nf_n9, upd_ne, upd_get, Option.toArray_none, Option.toArray_some, List.filterMap_cons, List.filterMap_nil, List.elem_cons_self, List.nil_append, List.append_nil, List.toList_toArray, wp, upd_swap d_ns_nf, upd_upd]
    refine HFnF.mkH (pickH (a := a5) (sd := sd5) hc hl (by omega) 3 (by omega) (upd_same ..)) ?_
    rintro r_ h' ⟨py, a6, sd6, rfl, y0, y1, -, ha6, rfl⟩
    have y1 := y1 (by omega)
    have wq : IntKind.i64.wrap (1 + py) = 1 + py := IntWalk.i64_in _ (by omega)
    rw [upd_upd]
    simp (maxSteps := 1000000) -dsimp -implicitDefEqProofs only [go_sem, ↓reduceIte, keep23, ib23, mk23, Tryz.f23, e_n8_ns, e_n8_n9, e_n8_nf, e_ns_n8, e_ns_n9, e_ns_nf, e_n9_n8, e_n9_ns, e_n9_nf, e_nf_n8, e_nf_ns, e_nf_n9, upd_ne, upd_get, Option.toArray_none, Option.toArray_some, List.filterMap_cons, List.filterMap_nil, List.elem_cons_self, List.nil_append, List.append_nil, List.toList_toArray, wq]
    refine HFnF.mkH (oneH (a := a6) (sd := sd6) hc hl (by omega) 2 (by omega) (upd_same ..)) ?_
    rintro r_ h' ⟨b, a7, sd7, rfl, ha7, rfl⟩
    rw [upd_upd]
    generalize hnm : w ++ Go.Lib.itoa fs.length = nm
    generalize hpar : 1 + px = par at *
    apply share2
    case m =>
      intro key
      cases b
      · simp (maxSteps := 1000000) -dsimp -implicitDefEqProofs only [go_sem, ↓reduceIte, keep23, ib23, mk23, Tryz.f23, e_n8_ns, e_n8_n9, e_n8_nf, e_ns_n8, e_ns_n9, e_ns_nf, e_n9_n8, e_n9_ns, e_n9_nf, e_nf_n8, e_nf_ns, e_nf_n9, upd_ne, upd_get, Option.toArray_none, Option.toArray_some, List.filterMap_cons, List.filterMap_nil, List.elem_cons_self, List.nil_append, List.append_nil, List.toList_toArray]
        refine loopF (keep := keep23) (ib := ib23) (mk := mk23) mix (by kernel_rfl) (fun x : ISt => [(0, .op ns 3 0 0), (1, I n), (2, I 14), (3, .bool pl), (8, .op n8 1 0 0), (9, .op n9 1 0 0), (10, I fs.length), (11, .op nf 3 0 0), (12, I x.1), (13, I x.2.1)]) (fun x => upd (upd (oheap x.2.2.2.2.1 (.row 5 (OV.cells x.2.2.2.1)) x.2.2.2.2.2.1) nf (.row 3 [[.v (.str nm), .v (I par), .v (onil 5 x.2.1 x.2.2.2.2.2.1)]])) ns (srcB c x.2.2.2.2.2.2.1 x.2.2.2.2.2.2.2)) (fun x => ISide fs par a7 (upd (upd (oheap g1 (.row 3 (OV.cells es)) o) n8 (.row 1 [[.v .nilsl]])) n9 (.row 1 [[.v (onil 3 fs.length o)]])) ns nf x) (fun x => x.1.toNat - x.2.1) ((1 + py), 0, [], [], upd (upd (oheap g1 (.row 3 (OV.cells es)) o) n8 (.row 1 [[.v .nilsl]])) n9 (.row 1 [[.v (onil 3 fs.length o)]]), none, a7, sd7) ⟨by simp [SatL, tget], Heap.le_refl _, by omega, by omega, rfl, trivial, New.nil _, ⟨by rw [upd_ne _ _ _ _ d_ns_n9, upd_ne _ _ _ _ d_ns_n8]; exact oheap_at zs fun m e => (hon m e).1, by rw [upd_ne _ _ _ _ d_nf_n9, upd_ne _ _ _ _ d_nf_n8]; exact zf⟩, rfl, (fun m e => by cases e), (fun e h => by cases h), by simp⟩ ?_
        exact key.get
      · simp (maxSteps := 1000000) -dsimp -implicitDefEqProofs only [go_sem, ↓reduceIte, keep23, ib23, mk23, Tryz.f23, e_n8_ns, e_n8_n9, e_n8_nf, e_ns_n8, e_ns_n9, e_ns_nf, e_n9_n8, e_n9_ns, e_n9_nf, e_nf_n8, e_nf_ns, e_nf_n9, upd_ne, upd_get, Option.toArray_none, Option.toArray_some, List.filterMap_cons, List.filterMap_nil, List.elem_cons_self, List.nil_append, List.append_nil, List.toList_toArray]
        refine loopF (keep := keep23) (ib := ib23) (mk := mk23) mix (by kernel_rfl) (fun x : ISt => [(0, .op ns 3 0 0), (1, I n), (2, I 14), (3, .bool pl), (8, .op n8 1 0 0), (9, .op n9 1 0 0), (10, I fs.length), (11, .op nf 3 0 0), (12, I x.1), (13, I x.2.1)]) (fun x => upd (upd (oheap x.2.2.2.2.1 (.row 5 (OV.cells x.2.2.2.1)) x.2.2.2.2.2.1) nf (.row 3 [[.v (.str nm), .v (I par), .v (onil 5 x.2.1 x.2.2.2.2.2.1)]])) ns (srcB c x.2.2.2.2.2.2.1 x.2.2.2.2.2.2.2)) (fun x => ISide fs par a7 (upd (upd (oheap g1 (.row 3 (OV.cells es)) o) n8 (.row 1 [[.v .nilsl]])) n9 (.row 1 [[.v (onil 3 fs.length o)]])) ns nf x) (fun x => x.1.toNat - x.2.1) (par, 0, [], [], upd (upd (oheap g1 (.row 3 (OV.cells es)) o) n8 (.row 1 [[.v .nilsl]])) n9 (.row 1 [[.v (onil 3 fs.length o)]]), none, a7, sd7) ⟨by simp [SatL, tget], Heap.le_refl _, by omega, by omega, rfl, trivial, New.nil _, ⟨by rw [upd_ne _ _ _ _ d_ns_n9, upd_ne _ _ _ _ d_ns_n8]; exact oheap_at zs fun m e => (hon m e).1, by rw [upd_ne _ _ _ _ d_nf_n9, upd_ne _ _ _ _ d_nf_n8]; exact zf⟩, rfl, (fun m e => by cases e), (fun e h => by cases h), by simp⟩ ?_
        exact key.get
    case t =>
      rintro ⟨cnt, i, outs, eo, g2, oo, a8, sd8⟩ hii
      obtain ⟨hcnt, hi, hol, hor2, hnw2, ⟨ws, wf⟩, hgs2, hon2, hgd, ha8⟩ := id hii
      simp only at hcnt hi hol hor2 hnw2 ws wf hgs2 hon2 hgd ha8 ⊢
      simp (maxSteps := 1000000) -dsimp -implicitDefEqProofs only [go_sem, ↓reduceIte, keep23, ib23, mk23, Tryz.f23, e_n8_ns, e_n8_n9, e_n8_nf, e_ns_n8, e_ns_n9, e_ns_nf, e_n9_n8, e_n9_ns, e_n9_nf, e_nf_n8, e_nf_ns, e_nf_n9, upd_ne, upd_get, Option.toArray_none, Option.toArray_some, List.filterMap_cons, List.filterMap_nil, List.elem_cons_self, List.nil_append, List.append_nil, List.toList_toArray]
      have hkeep : ∀ q R S, (upd (upd (oheap g1 (.row 3 (OV.cells es)) o) n8 (.row 1 [[.v .nilsl]])) n9 (.row 1 [[.v (onil 3 fs.length o)]])) q = some R → oheap g2 S oo q = some R := fun q R S hq => by
        have h2 := hnw2.keep hq
        cases oo with
        | none => exact h2
        | some m5 =>
          rw [gside_some] at hgs2
          rw [oheap_some, upd_ne _ _ _ _ (fun e => by rw [e, hgs2] at h2; cases h2)]
          exact h2
      have hk9 := fun S => hkeep n9 _ S (upd_same ..)
      refine ⟨fun hlt2 => ?_, fun hge2 => ?_⟩
      · intro ng qg
        have an : ¬ ng = ns := by grind
        have bn : ¬ ng = nf := by grind
        have zn : oheap g2 (.row 5 (OV.cells eo)) oo ng = none := by grind
        have d_ng_ns : ¬ ng = ns := an
        have d_ns_ng : ¬ ns = ng := Ne.symm d_ng_ns
        have e_ng_ns : (ng = ns) = False := eq_false d_ng_ns
        have e_ns_ng : (ns = ng) = False := eq_false d_ns_ng
        have d_ng_nf : ¬ ng = nf := bn
        have d_nf_ng : ¬ nf = ng := Ne.symm d_ng_nf
        have e_ng_nf : (ng = nf) = False := eq_false d_ng_nf
        have e_nf_ng : (nf = ng) = False := eq_false d_nf_ng
        have zof : oheap g2 (.row 5 (OV.cells eo)) oo nf = none := oheap_at wf fun m e => (hon2 m e).2
        have hpr : ProgIn ⟨fs⟩ n9 (upd (oheap g2 (.row 5 (OV.cells eo)) oo) nf (.row 3 [[.v (.str nm), .v (I par), .v (onil 5 i oo)]])) := by
          refine ⟨es, o, hor, ?_, hfo, fun m e => ?_⟩
          · rw [upd_ne _ _ _ _ d_n9_nf]; exact hk9 _
          · have hm := hon m e
            subst e
            have h3 := hkeep m (.row 3 (OV.cells es)) (.row 5 (OV.cells eo)) (by rw [upd_ne _ _ _ _ hm.2.2, upd_ne _ _ _ _ hm.2.1, oheap_some, upd_same])
            rw [upd_ne _ _ _ _ (fun q => by rw [q, zof] at h3; cases h3)]
            exact h3
        simp (maxSteps := 1000000) -dsimp -implicitDefEqProofs only [go_sem, ↓reduceIte, keep23, ib23, mk23, Tryz.f23, e_ns_nf, e_ns_ng, e_nf_ns, e_nf_ng, e_ng_ns, e_ng_nf, upd_ne, upd_get, Option.toArray_none, Option.toArray_some, List.filterMap_cons, List.filterMap_nil, List.elem_cons_self, List.nil_append, List.append_nil, List.toList_toArray, genB]
        rw [show ∀ H : Heap, upd H ng (HObj.row 4 [[Cell.v (HVal.op ns 3 0 0), Cell.v (HVal.op n9 1 0 0), Cell.v (I 14), Cell.v (HVal.bool pl)]]) = upd H ng (genB ns n9 14 pl) from fun _ => rfl]
        refine HFnF.mkH (genG hc hl d_ns_ng hdr.funcsIn (by simp only [DProgram.fFuncs]; omega) 5 par _ a8 sd8 14 (by rw [upd_ne _ _ _ _ d_ns_nf]; exact oheap_at ws fun m e => (hon2 m e).1) (by rw [upd_ne _ _ _ _ d_ng_nf]; exact zn) hpr ⟨by omega, by rw [show mL 14 = 13 from rfl]; omega, by omega⟩) ?_
        rintro r_ h' ⟨x5, e5, g', a9, sd9, L9, hx, rfl, hnw3, ⟨v1, v2⟩, rfl, hok5, hd5, hL9, ha9⟩
        obtain ⟨g4, rfl, w4, z4f⟩ := New.under zof hnw3
        simp only [upd_get, e_ns_nf, e_ns_ng, e_nf_ns, e_nf_ng, e_ng_ns, e_ng_nf, if_false] at v1 v2
        have hx5 := hx
        rw [DExpr.o_iff] at hx
        obtain ⟨y4, rfl, os4⟩ := hx
        have hs39 : x5.s ≤ 39 := by have := hL9.2.2; rw [show mL 14 = 13 from rfl] at this; omega
        cases oo with
        | none =>
          rw [gside_none] at hgs2
          subst hgs2
          obtain rfl : outs = [] := List.length_eq_zero_iff.1 hor2.length
          obtain rfl : i = 0 := hol.symm
          simp only [oheap_none, onil_none] at *
          simp (maxSteps := 1000000) -dsimp -implicitDefEqProofs only [go_sem, ↓reduceIte, keep23, ib23, mk23, Tryz.f23, e_ns_nf, e_ns_ng, e_nf_ns, e_nf_ng, e_ng_ns, e_ng_nf, upd_ne, upd_get, Option.toArray_none, Option.toArray_some, List.filterMap_cons, List.filterMap_nil, List.elem_cons_self, List.nil_append, List.append_nil, List.toList_toArray, OV.map_val, OV.map_val_nil, OV.val_v, os4.flat, os4.one]
          have ht := take_cells []
          refine ⟨by decide, by decide, by decide, fun m qm => ?_⟩
          have am : ¬ m = ns := by grind
          have bm : ¬ m = nf := by grind
          have dm : g4 m = none := by grind
          have em : ¬ m = ng := by grind
          skip
          have d_m_ns : ¬ m = ns := am
          have d_ns_m : ¬ ns = m := Ne.symm d_m_ns
          have e_m_ns : (m = ns) = False := eq_false d_m_ns
          have e_ns_m : (ns = m) = False := eq_false d_ns_m
          have d_m_nf : ¬ m = nf := bm
          have d_nf_m : ¬ nf = m := Ne.symm d_m_nf
          have e_m_nf : (m = nf) = False := eq_false d_m_nf
          have e_nf_m : (nf = m) = False := eq_false d_nf_m
          have d_m_ng : ¬ m = ng := em
          have d_ng_m : ¬ ng = m := Ne.symm d_m_ng
          have e_m_ng : (m = ng) = False := eq_false d_m_ng
          have e_ng_m : (ng = m) = False := eq_false d_ng_m
          simp (maxSteps := 1000000) -dsimp -implicitDefEqProofs only [go_sem, ↓reduceIte, keep23, ib23, mk23, Tryz.f23, e_ns_nf, e_ns_ng, e_ns_m, e_nf_ns, e_nf_ng, e_nf_m, e_ng_ns, e_ng_nf, e_ng_m, e_m_ns, e_m_nf, e_m_ng, upd_ne, upd_get, Option.toArray_none, Option.toArray_some, List.filterMap_cons, List.filterMap_nil, List.elem_cons_self, List.nil_append, List.append_nil, List.toList_toArray]
          refine ⟨(cnt, 0 + 1, [] ++ [x5], [] ++ [[.v (.int .i64 x5.fKind), .v (.int .i64 x5.fNum), .v (.int .i64 x5.fPick), .v (.int .i64 x5.fCount), y4]], g4, some m, a9, sd9), ⟨rfl, IntWalk.i64_in _ (by omega)⟩, ?_, hii.next hlt2 hx5 w4 ⟨v1, z4f⟩ dm ⟨am, bm⟩ ⟨hs39, by omega, hok5⟩ (by omega), by simp only; omega⟩
          intro q_
          simp only [upd_get, oheap_some, onil_some, cells_snoc, take_cells, cells_len, cells_one, cells_nil, OV.map_val, OV.map_val_nil, OV.val_v, List.nil_append, List.map_cons, List.map_nil, ht]
          grind
        | some m5 =>
          rw [gside_some] at hgs2
          obtain ⟨g5, rfl, w5, z45⟩ := New.under hgs2 w4
          have k1 := (hon2 m5 rfl).1
          have k2 := (hon2 m5 rfl).2
          have k3 : ¬ m5 = ng := fun e => by rw [oheap_some, e, upd_same] at zn; cases zn
          have d_m5_ns : ¬ m5 = ns := k1
          have d_ns_m5 : ¬ ns = m5 := Ne.symm d_m5_ns
          have e_m5_ns : (m5 = ns) = False := eq_false d_m5_ns
          have e_ns_m5 : (ns = m5) = False := eq_false d_ns_m5
          have d_m5_nf : ¬ m5 = nf := k2
          have d_nf_m5 : ¬ nf = m5 := Ne.symm d_m5_nf
          have e_m5_nf : (m5 = nf) = False := eq_false d_m5_nf
          have e_nf_m5 : (nf = m5) = False := eq_false d_nf_m5
          have d_m5_ng : ¬ m5 = ng := k3
          have d_ng_m5 : ¬ ng = m5 := Ne.symm d_m5_ng
          have e_m5_ng : (m5 = ng) = False := eq_false d_m5_ng
          have e_ng_m5 : (ng = m5) = False := eq_false d_ng_m5
          simp only [oheap_some, onil_some] at *
          simp (maxSteps := 1000000) -dsimp -implicitDefEqProofs only [go_sem, ↓reduceIte, keep23, ib23, mk23, Tryz.f23, e_ns_nf, e_ns_ng, e_ns_m5, e_nf_ns, e_nf_ng, e_nf_m5, e_ng_ns, e_ng_nf, e_ng_m5, e_m5_ns, e_m5_nf, e_m5_ng, upd_ne, upd_get, Option.toArray_none, Option.toArray_some, List.filterMap_cons, List.filterMap_nil, List.elem_cons_self, List.nil_append, List.append_nil, List.toList_toArray, OV.map_val, OV.map_val_nil, OV.val_v, os4.flat, os4.one, cells_len]
          simp only [upd_get, e_ns_nf, e_ns_ng, e_ns_m5, e_nf_ns, e_nf_ng, e_nf_m5, e_ng_ns, e_ng_nf, e_ng_m5, e_m5_ns, e_m5_nf, e_m5_ng, if_false] at v1 v2 z4f
          have ht : List.take i (OV.cells eo) = OV.cells eo := List.take_of_length_le (by rw [cells_len]; have := hor2.length; omega)
          refine ⟨by decide, by decide, by decide, by have := hor2.length; omega, by omega, by omega, fun m qm => ?_⟩
          have am : ¬ m = ns := by grind
          have bm : ¬ m = nf := by grind
          have dm : g5 m = none := by grind
          have em : ¬ m = ng := by grind
          have fm : ¬ m = m5 := (by grind); have e_m_m5 := eq_false fm; have e_m5_m := eq_false (Ne.symm fm); have d_m_m5 := fm; have d_m5_m := Ne.symm fm
          have d_m_ns : ¬ m = ns := am
          have d_ns_m : ¬ ns = m := Ne.symm d_m_ns
          have e_m_ns : (m = ns) = False := eq_false d_m_ns
          have e_ns_m : (ns = m) = False := eq_false d_ns_m
          have d_m_nf : ¬ m = nf := bm
          have d_nf_m : ¬ nf = m := Ne.symm d_m_nf
          have e_m_nf : (m = nf) = False := eq_false d_m_nf
          have e_nf_m : (nf = m) = False := eq_false d_nf_m
          have d_m_ng : ¬ m = ng := em
          have d_ng_m : ¬ ng = m := Ne.symm d_m_ng
          have e_m_ng : (m = ng) = False := eq_false d_m_ng
          have e_ng_m : (ng = m) = False := eq_false d_ng_m
          simp (maxSteps := 1000000) -dsimp -implicitDefEqProofs only [go_sem, ↓reduceIte, keep23, ib23, mk23, Tryz.f23, e_ns_nf, e_ns_ng, e_ns_m, e_nf_ns, e_nf_ng, e_nf_m, e_ng_ns, e_ng_nf, e_ng_m, e_m_ns, e_m_nf, e_m_ng, e_m_m5, e_m_nf, e_m_ng, e_m_ns, e_m5_m, e_m5_nf, e_m5_ng, e_m5_ns, e_nf_m, e_nf_m5, e_nf_ng, e_nf_ns, e_ng_m, e_ng_m5, e_ng_nf, e_ng_ns, e_ns_m, e_ns_m5, e_ns_nf, e_ns_ng, upd_ne, upd_get, Option.toArray_none, Option.toArray_some, List.filterMap_cons, List.filterMap_nil, List.elem_cons_self, List.nil_append, List.append_nil, List.toList_toArray]
          refine ⟨(cnt, i + 1, outs ++ [x5], eo ++ [[.v (.int .i64 x5.fKind), .v (.int .i64 x5.fNum), .v (.int .i64 x5.fPick), .v (.int .i64 x5.fCount), y4]], g5, some m, a9, sd9), ⟨rfl, IntWalk.i64_in _ (by omega)⟩, ?_, hii.next hlt2 hx5 w5 ⟨v1, z4f⟩ dm ⟨am, bm⟩ ⟨hs39, by omega, hok5⟩ (by omega), by simp only; omega⟩
          intro q_
          simp only [upd_get, oheap_some, onil_some, cells_snoc, take_cells, cells_len, cells_one, cells_nil, OV.map_val, OV.map_val_nil, OV.val_v, List.nil_append, List.map_cons, List.map_nil, ht]
          grind
      · simp (maxSteps := 1000000) -dsimp -implicitDefEqProofs only [go_sem, ↓reduceIte, keep23, ib23, mk23, Tryz.f23, e_n8_ns, e_n8_n9, e_n8_nf, e_ns_n8, e_ns_n9, e_ns_nf, e_n9_n8, e_n9_ns, e_n9_nf, e_nf_n8, e_nf_ns, e_nf_n9, upd_ne, upd_get, Option.toArray_none, Option.toArray_some, List.filterMap_cons, List.filterMap_nil, List.elem_cons_self, List.nil_append, List.append_nil, List.toList_toArray, hk9]
        refine ⟨by decide, by rw [onil_flat]; rfl, ?_⟩
        cases oo with
        | none =>
          rw [gside_none] at hgs2
          subst hgs2
          have := hor2.length
          simp at this
          rw [this] at hol
          simp at hol
          omega
        | some m5 =>
        have hnw3 := gov_new (sz := 5) hnw2 hgs2
        have hgo := gov_os hor2 (sz := 5) hgs2
        have hei : eo.length = i := by rw [← hor2.length]; exact hol
        rw [gside_some] at hgs2
        obtain ⟨k1, k2⟩ := hon2 m5 rfl
        have d_m5_ns : ¬ m5 = ns := k1
        have d_ns_m5 : ¬ ns = m5 := Ne.symm d_m5_ns
        have e_m5_ns : (m5 = ns) = False := eq_false d_m5_ns
        have e_ns_m5 : (ns = m5) = False := eq_false d_ns_m5
        have d_m5_nf : ¬ m5 = nf := k2
        have d_nf_m5 : ¬ nf = m5 := Ne.symm d_m5_nf
        have e_m5_nf : (m5 = nf) = False := eq_false d_m5_nf
        have e_nf_m5 : (nf = m5) = False := eq_false d_nf_m5
        simp only [oheap_some, onil_some, gov_some] at *
        have hfo5 : (⟨nm, par, outs⟩ : DFunc).o [.v (.str nm), .v (I par), .sl m5 5 eo] := ⟨_, rfl, hgo⟩
        have hgood : FnGood ⟨fs⟩ fs.length ⟨nm, par, outs⟩ := ⟨⟨w, hw, hnm.symm⟩, by simp only [DFunc.fParams]; omega, by simp only [DFunc.fOuts]; omega, hgd⟩
        have ws' : upd g2 m5 (.row 5 (OV.cells eo)) ns = none := by rw [upd_ne _ _ _ _ d_ns_m5]; exact ws
        have wf' : upd g2 m5 (.row 5 (OV.cells eo)) nf = none := by rw [upd_ne _ _ _ _ d_nf_m5]; exact wf
        have hk9' := hk9 (.row 5 (OV.cells eo))
        clear hkeep
        generalize upd g2 m5 (.row 5 (OV.cells eo)) = g6 at *
        have hz8 : oheap g1 (.row 3 (OV.cells es)) o n8 = none := oheap_at z18 fun m e => (hon m e).2.1
        have hz9 : oheap g1 (.row 3 (OV.cells es)) o n9 = none := oheap_at z19 fun m e => (hon m e).2.2
        obtain ⟨g7, rfl, w7, z78, z79⟩ := New.under2 hz8 (by rw [upd_ne _ _ _ _ d_n9_n8]; exact hz9) hnw3
        simp only [upd_get, e_n8_ns, e_n8_n9, e_n8_nf, e_ns_n8, e_ns_n9, e_ns_nf, e_n9_n8, e_n9_ns, e_n9_nf, e_nf_n8, e_nf_ns, e_nf_n9, if_false] at ws' wf' z79
        cases o with
        | none =>
          rw [gside_none] at hgs
          subst hgs
          obtain rfl : fs = [] := List.length_eq_zero_iff.1 hor.length
          simp only [oheap_none, onil_none] at *
          simp (maxSteps := 1000000) -dsimp -implicitDefEqProofs only [go_sem, ↓reduceIte, keep23, ib23, mk23, Tryz.f23, e_n8_ns, e_n8_n9, e_n8_nf, e_ns_n8, e_ns_n9, e_ns_nf, e_n9_n8, e_n9_ns, e_n9_nf, e_nf_n8, e_nf_ns, e_nf_n9, upd_ne, upd_get, Option.toArray_none, Option.toArray_some, List.filterMap_cons, List.filterMap_nil, List.elem_cons_self, List.nil_append, List.append_nil, List.toList_toArray]
          have ht := take_cells []
          refine ⟨by decide, fun m qm => ?_⟩
          have am : ¬ m = ns := by grind
          have bm : ¬ m = n8 := by grind
          have cm : ¬ m = n9 := by grind
          have em : ¬ m = nf := by grind
          have dm : g7 m = none := by grind
          skip
          have d_m_ns : ¬ m = ns := am
          have d_ns_m : ¬ ns = m := Ne.symm d_m_ns
          have e_m_ns : (m = ns) = False := eq_false d_m_ns
          have e_ns_m : (ns = m) = False := eq_false d_ns_m
          have d_m_n8 : ¬ m = n8 := bm
          have d_n8_m : ¬ n8 = m := Ne.symm d_m_n8
          have e_m_n8 : (m = n8) = False := eq_false d_m_n8
          have e_n8_m : (n8 = m) = False := eq_false d_n8_m
          have d_m_n9 : ¬ m = n9 := cm
          have d_n9_m : ¬ n9 = m := Ne.symm d_m_n9
          have e_m_n9 : (m = n9) = False := eq_false d_m_n9
          have e_n9_m : (n9 = m) = False := eq_false d_n9_m
          have d_m_nf : ¬ m = nf := em
          have d_nf_m : ¬ nf = m := Ne.symm d_m_nf
          have e_m_nf : (m = nf) = False := eq_false d_m_nf
          have e_nf_m : (nf = m) = False := eq_false d_nf_m
          simp (maxSteps := 1000000) -dsimp -implicitDefEqProofs only [go_sem, ↓reduceIte, keep23, ib23, mk23, Tryz.f23, e_n8_ns, e_n8_n9, e_n8_nf, e_n8_m, e_ns_n8, e_ns_n9, e_ns_nf, e_ns_m, e_n9_n8, e_n9_ns, e_n9_nf, e_n9_m, e_nf_n8, e_nf_ns, e_nf_n9, e_nf_m, e_m_n8, e_m_ns, e_m_n9, e_m_nf, upd_ne, upd_get, Option.toArray_none, Option.toArray_some, List.filterMap_cons, List.filterMap_nil, List.elem_cons_self, List.nil_append, List.append_nil, List.toList_toArray]
          refine ⟨([] ++ [⟨nm, par, outs⟩], [] ++ [[.v (.str nm), .v (I par), .sl m5 5 eo]], g7, some m, a8, sd8), ?_, ?_, hdd.next hlt hgood hfo5 (by simpa only [OV.row_cons, OV.row_nil, OV.v_rows, List.nil_append, List.append_nil] using w7) ⟨ws', z78, z79⟩ dm ⟨am, bm, cm⟩ (by omega), by simp only [List.length_append, List.length_singleton]; omega⟩
          · rw [IntWalk.i64_in _ (by first | omega | (simp only [List.length_nil]; omega))]
            simp only [List.length_append, List.length_singleton, List.length_nil]
            rfl
          · intro q_
            simp only [upd_get, oheap_some, onil_some, cells_snoc, take_cells, cells_len, cells_one, cells_nil, OV.map_val, OV.map_val_nil, OV.val_v, OV.val_sl, List.nil_append, List.map_cons, List.map_nil, List.length_append, List.length_singleton, List.length_nil, hei, ht]
            grind
        | some m0 =>
          rw [gside_some] at hgs
          obtain ⟨g8, rfl, w8, z80⟩ := New.under hgs w7
          obtain ⟨k3, k4, k5⟩ := hon m0 rfl
          have d_m0_ns : ¬ m0 = ns := k3
          have d_ns_m0 : ¬ ns = m0 := Ne.symm d_m0_ns
          have e_m0_ns : (m0 = ns) = False := eq_false d_m0_ns
          have e_ns_m0 : (ns = m0) = False := eq_false d_ns_m0
          have d_m0_n8 : ¬ m0 = n8 := k4
          have d_n8_m0 : ¬ n8 = m0 := Ne.symm d_m0_n8
          have e_m0_n8 : (m0 = n8) = False := eq_false d_m0_n8
          have e_n8_m0 : (n8 = m0) = False := eq_false d_n8_m0
          have d_m0_n9 : ¬ m0 = n9 := k5
          have d_n9_m0 : ¬ n9 = m0 := Ne.symm d_m0_n9
          have e_m0_n9 : (m0 = n9) = False := eq_false d_m0_n9
          have e_n9_m0 : (n9 = m0) = False := eq_false d_n9_m0
          simp only [oheap_some, onil_some] at *
          have k6 : ¬ m0 = nf := fun e => by rw [e, upd_same] at zf; cases zf
          have d_m0_nf : ¬ m0 = nf := k6
          have d_nf_m0 : ¬ nf = m0 := Ne.symm d_m0_nf
          have e_m0_nf : (m0 = nf) = False := eq_false d_m0_nf
          have e_nf_m0 : (nf = m0) = False := eq_false d_nf_m0
          simp only [upd_get, e_n8_ns, e_n8_n9, e_n8_nf, e_n8_m0, e_ns_n8, e_ns_n9, e_ns_nf, e_ns_m0, e_n9_n8, e_n9_ns, e_n9_nf, e_n9_m0, e_nf_n8, e_nf_ns, e_nf_n9, e_nf_m0, e_m0_n8, e_m0_ns, e_m0_n9, e_m0_nf, if_false] at ws' wf' z78 z79
          simp (maxSteps := 1000000) -dsimp -implicitDefEqProofs only [go_sem, ↓reduceIte, keep23, ib23, mk23, Tryz.f23, e_n8_ns, e_n8_n9, e_n8_nf, e_n8_m0, e_ns_n8, e_ns_n9, e_ns_nf, e_ns_m0, e_n9_n8, e_n9_ns, e_n9_nf, e_n9_m0, e_nf_n8, e_nf_ns, e_nf_n9, e_nf_m0, e_m0_n8, e_m0_ns, e_m0_n9, e_m0_nf, upd_ne, upd_get, Option.toArray_none, Option.toArray_some, List.filterMap_cons, List.filterMap_nil, List.elem_cons_self, List.nil_append, List.append_nil, List.toList_toArray, cells_len]
          have ht : List.take fs.length (OV.cells es) = OV.cells es := List.take_of_length_le (by rw [cells_len]; have := hor.length; omega)
          refine ⟨by decide, by have := hor.length; omega, by omega, by omega, fun m qm => ?_⟩
          have am : ¬ m = ns := by grind
          have bm : ¬ m = n8 := by grind
          have cm : ¬ m = n9 := by grind
          have em : ¬ m = nf := by grind
          have dm : g8 m = none := by grind
          have fm : ¬ m = m0 := (by grind); have e_m_m0 := eq_false fm; have e_m0_m := eq_false (Ne.symm fm); have d_m_m0 := fm; have d_m0_m := Ne.symm fm
          have d_m_ns : ¬ m = ns := am
          have d_ns_m : ¬ ns = m := Ne.symm d_m_ns
          have e_m_ns : (m = ns) = False := eq_false d_m_ns
          have e_ns_m : (ns = m) = False := eq_false d_ns_m
          have d_m_n8 : ¬ m = n8 := bm
          have d_n8_m : ¬ n8 = m := Ne.symm d_m_n8
          have e_m_n8 : (m = n8) = False := eq_false d_m_n8
          have e_n8_m : (n8 = m) = False := eq_false d_n8_m
          have d_m_n9 : ¬ m = n9 := cm
          have d_n9_m : ¬ n9 = m := Ne.symm d_m_n9
          have e_m_n9 : (m = n9) = False := eq_false d_m_n9
          have e_n9_m : (n9 = m) = False := eq_false d_n9_m
          have d_m_nf : ¬ m = nf := em
          have d_nf_m : ¬ nf = m := Ne.symm d_m_nf
          have e_m_nf : (m = nf) = False := eq_false d_m_nf
          have e_nf_m : (nf = m) = False := eq_false d_nf_m
          simp (maxSteps := 1000000) -dsimp -implicitDefEqProofs only [go_sem, ↓reduceIte, keep23, ib23, mk23, Tryz.f23, e_n8_ns, e_n8_n9, e_n8_nf, e_n8_m, e_ns_n8, e_ns_n9, e_ns_nf, e_ns_m, e_n9_n8, e_n9_ns, e_n9_nf, e_n9_m, e_nf_n8, e_nf_ns, e_nf_n9, e_nf_m, e_m_n8, e_m_ns, e_m_n9, e_m_nf, e_m_m0, e_m_n8, e_m_n9, e_m_nf, e_m_ns, e_m0_m, e_m0_n8, e_m0_n9, e_m0_nf, e_m0_ns, e_n8_m, e_n8_m0, e_n8_n9, e_n8_nf, e_n8_ns, e_n9_m, e_n9_m0, e_n9_n8, e_n9_nf, e_n9_ns, e_nf_m, e_nf_m0, e_nf_n8, e_nf_n9, e_nf_ns, e_ns_m, e_ns_m0, e_ns_n8, e_ns_n9, e_ns_nf, upd_ne, upd_get, Option.toArray_none, Option.toArray_some, List.filterMap_cons, List.filterMap_nil, List.elem_cons_self, List.nil_append, List.append_nil, List.toList_toArray]
          refine ⟨(fs ++ [⟨nm, par, outs⟩], es ++ [[.v (.str nm), .v (I par), .sl m5 5 eo]], g8, some m, a8, sd8), ?_, ?_, hdd.next hlt hgood hfo5 (by simpa only [OV.row_cons, OV.row_nil, OV.v_rows, List.nil_append, List.append_nil] using w8) ⟨ws', z78, z79⟩ dm ⟨am, bm, cm⟩ (by omega), by simp only [List.length_append, List.length_singleton]; omega⟩
          · rw [IntWalk.i64_in _ (by first | omega | (simp only [List.length_nil]; omega))]
            simp only [List.length_append, List.length_singleton, List.length_nil]
            rfl
          · intro q_
            simp only [upd_get, oheap_some, onil_some, cells_snoc, take_cells, cells_len, cells_one, cells_nil, OV.map_val, OV.map_val_nil, OV.val_v, OV.val_sl, List.nil_append, List.map_cons, List.map_nil, List.length_append, List.length_singleton, List.length_nil, hei, ht]
            grind
  · have hfe : es.length = fs.length := hor.length.symm
    refine ⟨_, _, Shift.of (Sub.agg (.cons (hfe ▸ gov_sub (sz := 3) (es := es) (o := o)) .nil)) ?_, fs, [gov 3 es o], _, a3, sd3, by omega, hdr, ⟨_, rfl, gov_os hor hgs⟩, rfl, by simpa only [OV.rowsRow, OV.row_cons, OV.row_nil, List.append_nil] using gov_new hnew hgs, oheap_at zs fun m e => (hon m e).1, by omega, rfl⟩
    have y8 : oheap g1 (.row 3 (OV.cells es)) o n8 = none := oheap_at z18 fun m e => (hon m e).2.1
    have y9 : oheap g1 (.row 3 (OV.cells es)) o n9 = none := oheap_at z19 fun m e => (hon m e).2.2
    intro q_
    simp only [upd_get]
    grind
open Go.Proofs
set_option linter.unusedVariables false
set_option linter.unusedSimpArgs false
/-- A program that has been drawn. -/
def ProgQ (B : Heap) (ns : Nat) (c : List Int) (a : Nat) : HVal → Heap → Prop := fun r h' => ∃ (fs : List DFunc) (e : List OV) (g' : Heap) (a' : Nat) (sd' : Int), (1 ≤ fs.length ∧ fs.length ≤ 3) ∧ Drawn fs ∧ (⟨fs⟩ : DProgram).o e ∧ r = .agg (e.map OV.val) ∧ New B (OV.rowsRow e) g' ∧ g' ns = none ∧ (a ≤ a' ∧ a' ≤ a + 15004) ∧ h' = upd g' ns (srcB c a' sd')
def keep10 : List Nat := [0, 2]
def ib10 : List Nat := []
def mk10 : Marks := fun _ => ([], .nil, [])
set_option maxRecDepth 100000 in
theorem someH {ns : Nat} {c : List Int} (hc : ∀ x ∈ c, InB x) (hl : c.length ≤ 4096) {B : Heap} (hB : B ns = none) {a : Nat} (ha : a ≤ 600000000) {sd : Int} : HFn Tryz.prog 10 [.op ns 3 0 0] (upd B ns (srcB c a sd)) (ProgQ B ns c a) := by
  refine fnKF 10 keep10 ib10 mk10 mix Tryz.func10 rfl (by kernel_rfl) (by simp) ?_
  simp (maxSteps := 1000000) -dsimp -implicitDefEqProofs only [go_sem, ↓reduceIte, keep10, ib10, mk10, Tryz.f10, genB]
  intro n8 q8
  have b8 : ¬ n8 = ns := by grind
  have z8 : B n8 = none := by grind
  have d_n8_ns : ¬ n8 = ns := b8
  have d_ns_n8 : ¬ ns = n8 := Ne.symm d_n8_ns
  have e_n8_ns : (n8 = ns) = False := eq_false d_n8_ns
  have e_ns_n8 : (ns = n8) = False := eq_false d_ns_n8
  refine HFnF.mkH (pickH (a := a) (sd := sd) hc hl (by omega) 3 (by omega) (by rw [upd_ne _ _ _ _ d_ns_n8, upd_same])) ?_
  rintro r_ h' ⟨x, a1, sd1, rfl, x0, x1, -, ha1, rfl⟩
  have x1 := x1 (by omega)
  have wx : IntKind.i64.wrap (1 + x) = ((x.toNat + 1 : Nat) : Int) := by rw [IntWalk.i64_in _ (by omega)]; omega
  simp only [upd_swap d_n8_ns, upd_upd]
  simp (maxSteps := 1000000) -dsimp -implicitDefEqProofs only [go_sem, ↓reduceIte, keep10, ib10, mk10, Tryz.f10, e_n8_ns, e_ns_n8, upd_ne, upd_get, Option.toArray_none, Option.toArray_some, List.filterMap_cons, List.filterMap_nil, List.elem_cons_self, List.nil_append, List.append_nil, List.toList_toArray, wx]
  refine HFnF.mkH (oneH (a := a1) (sd := sd1) hc hl (by omega) 4 (by omega) (by rw [upd_ne _ _ _ _ d_ns_n8, upd_same])) ?_
  rintro r_ h' ⟨b, a2, sd2, rfl, ha2, rfl⟩
  simp only [upd_swap d_ns_n8, upd_upd]
  simp (maxSteps := 1000000) -dsimp -implicitDefEqProofs only [go_sem, ↓reduceIte, keep10, ib10, mk10, Tryz.f10, e_n8_ns, e_ns_n8, upd_ne, upd_get, Option.toArray_none, Option.toArray_some, List.filterMap_cons, List.filterMap_nil, List.elem_cons_self, List.nil_append, List.append_nil, List.toList_toArray, wx]
  refine HFnF.mkH (drawH (a := a2) (sd := sd2) (n := x.toNat + 1) (pl := b) (B := upd B n8 (.row 1 [[.v .nilsl]])) hc hl (by omega) (by rw [upd_ne _ _ _ _ d_ns_n8]; exact hB) (by omega)) ?_
  rintro r_ h' ⟨fs, e, g', a', sd', hfl, hdr, he, rfl, hnw, z1, ha', rfl⟩
  obtain ⟨g5, rfl, w5, z58⟩ := New.under z8 hnw
  simp only [upd_get, e_n8_ns, e_ns_n8, if_false] at z1
  obtain ⟨y, rfl, hy⟩ := id he
  simp (maxSteps := 1000000) -dsimp -implicitDefEqProofs only [go_sem, ↓reduceIte, keep10, ib10, mk10, Tryz.f10, e_n8_ns, e_ns_n8, upd_ne, upd_get, Option.toArray_none, Option.toArray_some, List.filterMap_cons, List.filterMap_nil, List.elem_cons_self, List.nil_append, List.append_nil, List.toList_toArray, OV.map_val, OV.map_val_nil, hy.flat, hy.one]
  refine ⟨_, _, Shift.of (Sub.refl _) ?_, fs, [y], g5, a', sd', by omega, hdr, he, rfl, w5, z1, by omega, rfl⟩
  intro q_
  simp only [upd_get]
  grind
def keep11 : List Nat := [0, 2]
def ib11 : List Nat := []
def mk11 : Marks := fun _ => ([], .nil, [])
theorem fromH (c : List Int) {g : Heap} : HFn Tryz.prog 11 [.sl 1 (c.map fun n => [.int .u8 n]) false] g fun r h' => ∃ ns, r = .op ns 3 0 0 ∧ g ns = none ∧ h' = upd g ns (srcB c 0 0) := by
  refine fnHF 6 keep11 ib11 mk11 mix Tryz.func11 rfl (by kernel_rfl) (by simp) ?_
  simp (maxSteps := 1000000) -dsimp -implicitDefEqProofs only [go_sem, ↓reduceIte, keep11, ib11, mk11, Tryz.f11]
  intro n q
  exact ⟨_, Heap.le_refl _, n, rfl, q, rfl⟩
def keep5 : List Nat := [0, 2]
def ib5 : List Nat := []
def mk5 : Marks := fun _ => ([], .nil, [])
set_option maxRecDepth 100000 in
theorem A2Program {c : List Int} (hc : ∀ x ∈ c, InB x) (hl : c.length ≤ 4096) : FnN Tryz.prog 5 [.sl 1 (c.map fun n => [.int .u8 n]) false] fun r l => ∃ fs : List DFunc, (1 ≤ fs.length ∧ fs.length ≤ 3) ∧ Drawn fs ∧ QA (⟨fs⟩ : DProgram).o (fun x => x) r l := by
  intro h
  refine fnKF 6 keep5 ib5 mk5 mix Tryz.func5 rfl (by kernel_rfl) (by simp) ?_
  simp (maxSteps := 1000000) -dsimp -implicitDefEqProofs only [go_sem, ↓reduceIte, keep5, ib5, mk5, Tryz.f5, genB]
  intro n8 q8
  refine HFnF.mkH (fromH c) ?_
  rintro r_ h' ⟨ns, rfl, hns, rfl⟩
  have b8 : ¬ n8 = ns := fun e => by rw [e, upd_same] at hns; cases hns
  have d_n8_ns : ¬ n8 = ns := b8
  have d_ns_n8 : ¬ ns = n8 := Ne.symm d_n8_ns
  have e_n8_ns : (n8 = ns) = False := eq_false d_n8_ns
  have e_ns_n8 : (ns = n8) = False := eq_false d_ns_n8
  rw [upd_ne _ _ _ _ d_ns_n8] at hns
  simp (maxSteps := 1000000) -dsimp -implicitDefEqProofs only [go_sem, ↓reduceIte, keep5, ib5, mk5, Tryz.f5]
  refine HFnF.mkH (someH (a := 0) (sd := 0) (B := upd h n8 (.row 1 [[.v .nilsl]])) hc hl (by rw [upd_ne _ _ _ _ d_ns_n8]; exact hns) (by omega)) ?_
  rintro r_ h' ⟨fs, e, g', a', sd', hfl, hdr, he, rfl, hnw, z1, -, rfl⟩
  obtain ⟨g5, rfl, w5, z58⟩ := New.under q8 hnw
  simp only [upd_get, e_n8_ns, e_ns_n8, if_false] at z1
  obtain ⟨y, rfl, hy⟩ := id he
  simp (maxSteps := 1000000) -dsimp -implicitDefEqProofs only [go_sem, ↓reduceIte, keep5, ib5, mk5, Tryz.f5, e_n8_ns, e_ns_n8, upd_ne, upd_get, Option.toArray_none, Option.toArray_some, List.filterMap_cons, List.filterMap_nil, List.elem_cons_self, List.nil_append, List.append_nil, List.toList_toArray, OV.map_val, OV.map_val_nil, hy.flat, hy.one]
  refine ⟨_, _, Shift.of (Sub.refl _) ?_, _, ⟨fs, hfl, hdr, [y], he, rfl, rfl⟩, w5⟩
  intro q_
  simp only [upd_get]
  grind
def keep4 : List Nat := [0, 1, 4]
def ib4 : List Nat := []
def mk4 : Marks := fun _ => ([], .nil, [])
theorem a2Long (c d : List Int) : Fn0 Tryz.prog 4 [.sl 1 (c.map fun n => [.int .u8 n]) false, .sl 1 (d.map fun n => [.int .u8 n]) false] (.bool (decide (3000 < c.length ∨ 3000 < d.length))) := by
  refine fn0F 13 keep4 ib4 mk4 mix Tryz.func4 rfl (by kernel_rfl) (by simp) fun h => ?_
  simp (maxSteps := 1000000) -dsimp -implicitDefEqProofs only [go_sem, ↓reduceIte, keep4, ib4, mk4, Tryz.f4]
  exact fun _ => ⟨fun h1 _ => decide_eq_decide.2 (by omega), fun h1 => (decide_eq_true (by omega)).symm⟩
def keep22 : List Nat := [0, 1, 2, 3]
def ib22 : List Nat := [2]
def mk22 : Marks := fun _ => ([], .nil, [])
theorem named1 (f : DFunc) (name : List UInt8) : Fn0 Tryz.prog 22 [.agg f.c, .ip 1 [[.str name]] 0 0] (.bool (decide (f.fName = name))) := by
  rw [DFunc.c_eq]
  refine fn0F 8 keep22 ib22 mk22 mix Tryz.func22 rfl (by kernel_rfl) (by simp) fun h => ?_
  simp (maxSteps := 1000000) -dsimp -implicitDefEqProofs only [go_sem, ↓reduceIte, keep22, ib22, mk22, Tryz.f22]
def atF (p : DProgram) (name : List UInt8) : Int := idxOf (fun f => decide (f.fName = name)) p.fFuncs
def keep9 : List Nat := [0, 1, 2, 3, 4, 5, 6, 9, 15]
def ib9 : List Nat := [2, 3]
def mk9 : Marks := fun _ => ([], .nil, [])
set_option maxRecDepth 100000 in
theorem FuncNamed {p : DProgram} (hp : p.ok) (hps : p.s ≤ 1048576) (name : List UInt8) : Fn0 Tryz.prog 9 [.agg p.c, .str name] (.tup [I (if atF p name < 0 then 0 else atF p name), I (if atF p name < 0 then 9 else 0)]) := by
  have hix := fun h0 => idxF_FuncS p.fFuncs (fun f => decide (f.fName = name)) 22 [.ip 1 [[.str name]] 0 0] (h0 := h0) fun f _ => (named1 f name).toAt
  have hV := ValidProgram p (by omega)
  rw [decide_eq_true hp] at hV
  unfold atF
  generalize idxOf (fun f => decide (f.fName = name)) p.fFuncs = num at *
  simp only [DProgram.c_eq] at hV ⊢
  refine fn0F 17 keep9 ib9 mk9 mix Tryz.func9 rfl (by kernel_rfl) (by simp) fun h => ?_
  simp (maxSteps := 1000000) -dsimp -implicitDefEqProofs only [go_sem, ↓reduceIte, keep9, ib9, mk9, Tryz.f9]
  first | refine HFnF.mk (hV) ?_ | refine CallSF.mk (hV) ?_ | refine HFnF.mkAt (hV) ?_ | refine CallSF.mk (FnAt.fn0 (hV)) ?_
  simp (maxSteps := 1000000) -dsimp -implicitDefEqProofs only [go_sem, ↓reduceIte, keep9, ib9, mk9, Tryz.f9]
  first | refine HFnF.mk (hix _) ?_ | refine CallSF.mk (hix _) ?_ | refine HFnF.mkAt (hix _) ?_ | refine CallSF.mk (FnAt.fn0 (hix _)) ?_
  simp (maxSteps := 1000000) -dsimp -implicitDefEqProofs only [go_sem, ↓reduceIte, keep9, ib9, mk9, Tryz.f9]
  exact ⟨fun h => by rw [if_pos h, if_pos h], fun h => by rw [if_neg h, if_neg h]⟩
open Go.Proofs
set_option linter.unusedVariables false
set_option linter.unusedSimpArgs false
open Go.Proofs
set_option linter.unusedVariables false
set_option linter.unusedSimpArgs false
def keep41 : List Nat := [0, 1, 4, 5, 60, 67, 83]
def ib41 : List Nat := []
def mk41 : Marks := fun id => match id with | 1 => ([], (.op 0 (.op 1 (.op 2 (.op 3 (.op 4 (.op 5 (.op 6 (.op 7 (.op 8 (.op 9 (.op 10 (.op 11 (.op 12 (.op 13 (.op 14 (.op 15 (.op 16 (.op 17 (.op 18 (.op 19 (.op 20 (.op 21 (.op 22 (.op 23 (.op 24 (.op 25 (.op 26 (.op 27 (.op 28 (.op 29 (.op 30 (.op 31 (.op 32 (.op 33 (.op 34 (.op 35 (.op 36 (.op 37 (.op 38 (.op 39 (.op 40 (.op 41 (.op 42 (.op 43 (.op 44 (.op 45 (.op 46 (.op 47 (.op 48 (.op 49 (.op 50 (.op 51 (.op 52 (.op 53 (.op 54 .nil))))))))))))))))))))))))))))))))))))))))))))))))))))))), []) | 6 => ([], (.op 0 (.op 1 (.op 2 (.op 3 (.op 4 (.op 5 (.op 6 (.op 7 (.op 8 (.op 9 (.op 10 (.op 11 (.op 12 (.op 13 .nil)))))))))))))), []) | _ => ([], .nil, [])
set_option maxRecDepth 100000 in
theorem l02Same_step (a b : DExpr) (hc : ∀ x ∈ a.fKids, ∀ y, Fn0 Tryz.prog 41 [.ip 5 [x.c] 0 0, .ip 5 [y.c] 0 0] (.bool (decide (x = y)))) : Fn0 Tryz.prog 41 [.ip 5 [a.c] 0 0, .ip 5 [b.c] 0 0] (.bool (decide (a = b))) := by
  rw [DExpr.c_eq a, DExpr.c_eq b]
  refine fn0F 84 keep41 ib41 mk41 mix Tryz.func41 rfl (by kernel_rfl) (by simp) fun h => ?_
  simp (maxSteps := 1000000) -dsimp -implicitDefEqProofs only [go_sem, ↓reduceIte, keep41, ib41, mk41, Tryz.f41]
  repeat' (with_reducible first | intro _ | refine And.intro ?_ ?_)
  all_goals try (first | (simp [DExpr.eq_iff, *]; done) | omega | (grind [DExpr.eq_iff]) | (simp [DExpr.eq_iff]; omega))
  rename_i e1 e2 e3 e4 e5
  refine loopF (keep := keep41) (ib := ib41) (mk := mk41) mix (by kernel_rfl) (fun k : Nat => [(0, .ip 5 [a.c] 0 0), (1, .ip 5 [b.c] 0 0), (5, I k)]) (fun _ => h) (fun k => k ≤ a.fKids.length ∧ a.fKids.take k = b.fKids.take k) (fun k => a.fKids.length - k) 0 (by simp [SatL, tget, Heap.le_refl, DExpr.c_eq]) ?_
  intro k ⟨hk, hp⟩
  rw [DExpr.c_eq a, DExpr.c_eq b]
  simp (maxSteps := 1000000) -dsimp -implicitDefEqProofs only [go_sem, ↓reduceIte, keep41, ib41, mk41, Tryz.f41]
  repeat' (with_reducible first | intro _ | refine And.intro ?_ ?_)
  all_goals try omega
  · rename_i hlt
    have hlb : k < b.fKids.length := by omega
    first | refine CallSF.mk ((hc a.fKids[k] (List.getElem_mem hlt) b.fKids[k]).sub (by repeat' (first | exact SubL.nil | refine SubL.cons ?_ ?_ | exact Sub.refl _ | (rw [DExpr.c_eq]; exact Sub.refl _) | exact Sub.ipAt rfl rfl rfl | exact Sub.ip (map_get (by omega)) (by simp) | exact Sub.ipAt (map_get (by omega)) rfl rfl | exact Sub.ip (by simp [*]) (by simp) | exact Sub.ipAt (by simp [*]) (by rfl) (by rfl)))) ?_ | refine HFnF.mk ((hc a.fKids[k] (List.getElem_mem hlt) b.fKids[k]).sub (by repeat' (first | exact SubL.nil | refine SubL.cons ?_ ?_ | exact Sub.refl _ | (rw [DExpr.c_eq]; exact Sub.refl _) | exact Sub.ipAt rfl rfl rfl | exact Sub.ip (map_get (by omega)) (by simp) | exact Sub.ipAt (map_get (by omega)) rfl rfl | exact Sub.ip (by simp [*]) (by simp) | exact Sub.ipAt (by simp [*]) (by rfl) (by rfl)))) ?_
    simp (maxSteps := 1000000) -dsimp -implicitDefEqProofs only [go_sem, ↓reduceIte, keep41, ib41, mk41, Tryz.f41]
    repeat' (with_reducible first | intro _ | refine And.intro ?_ ?_)
    · rename_i he
      exact (decide_eq_false fun e => he (by simp only [e])).symm
    · rename_i he
      refine ⟨k + 1, ?_⟩
      repeat' (with_reducible refine And.intro ?_ ?_)
      all_goals try (rw [IntWalk.i64_in _ (by omega)]; first | rfl | omega)
      all_goals try omega
      all_goals try (repeat' (with_reducible first | exact Heap.le_refl _ | refine (le_upd (by first | assumption | exact And.right (by assumption) | exact upd_none.2 (by assumption))).2 ?_))
      exact take_step hlt hlb hp he
  · have hk' : k = a.fKids.length := by omega
    subst hk'
    exact (decide_eq_true (DExpr.eq_iff.2 ⟨e1, e2, e3, e4, eq_of_take e5 hp⟩)).symm
theorem l02Same (a b : DExpr) : Fn0 Tryz.prog 41 [.ip 5 [a.c] 0 0, .ip 5 [b.c] 0 0] (.bool (decide (a = b))) :=
  l02Same_step a b fun x hx y => l02Same x y
termination_by SizeOf.sizeOf a
decreasing_by exact DExpr.kid_lt hx
def keep20 : List Nat := [0, 1, 4, 5, 38, 45, 61]
def ib20 : List Nat := []
def mk20 : Marks := fun id => match id with | 1 => ([], (.op 0 (.op 1 (.op 2 (.op 3 (.op 4 (.op 5 (.op 6 (.op 7 (.op 8 (.op 9 (.op 10 (.op 11 (.op 12 (.op 13 (.op 14 (.op 15 (.op 16 (.op 17 (.op 18 (.op 19 (.op 20 (.op 21 (.op 22 (.op 23 (.op 24 (.op 25 (.op 26 (.op 27 (.op 28 (.op 29 (.op 30 (.op 31 (.op 32 .nil))))))))))))))))))))))))))))))))), []) | 6 => ([], (.op 0 (.op 1 (.op 2 (.op 3 (.op 4 (.op 5 (.op 6 (.op 7 (.op 8 (.op 9 (.op 10 (.op 11 (.op 12 (.op 13 .nil)))))))))))))), []) | _ => ([], .nil, [])
set_option maxRecDepth 100000 in
theorem l02SameFunc (a b : DFunc) : Fn0 Tryz.prog 20 [.ip 3 [a.c] 0 0, .ip 3 [b.c] 0 0] (.bool (decide (a = b))) := by
  simp only [DFunc.c_eq]
  refine fn0F 62 keep20 ib20 mk20 mix Tryz.func20 rfl (by kernel_rfl) (by simp) fun h => ?_
  simp (maxSteps := 1000000) -dsimp -implicitDefEqProofs only [go_sem, ↓reduceIte, keep20, ib20, mk20, Tryz.f20]
  repeat' (with_reducible first | intro _ | refine And.intro ?_ ?_)
  all_goals try (first | (simp [DFunc.eq_iff, *]; done) | omega | (grind [DFunc.eq_iff]) | (simp [DFunc.eq_iff]; omega))
  rename_i e1 e2 e3
  refine loopF (keep := keep20) (ib := ib20) (mk := mk20) mix (by kernel_rfl) (fun k : Nat => [(0, .ip 3 [a.c] 0 0), (1, .ip 3 [b.c] 0 0), (5, I k)]) (fun _ => h) (fun k => k ≤ (a.fOuts).length ∧ (a.fOuts).take k = (b.fOuts).take k) (fun k => (a.fOuts).length - k) 0 (by simp [SatL, tget, Heap.le_refl, DFunc.c_eq]) ?_
  intro k ⟨hk, hp⟩
  simp only [DFunc.c_eq]
  simp (maxSteps := 1000000) -dsimp -implicitDefEqProofs only [go_sem, ↓reduceIte, keep20, ib20, mk20, Tryz.f20]
  repeat' (with_reducible first | intro _ | refine And.intro ?_ ?_)
  all_goals try omega
  · rename_i hlt
    have hlb : k < (b.fOuts).length := by omega
    first | refine CallSF.mk (((fun x _ y => l02Same x y) (a.fOuts)[k] (List.getElem_mem hlt) (b.fOuts)[k]).sub (by repeat' (first | exact SubL.nil | refine SubL.cons ?_ ?_ | exact Sub.refl _ | (rw [DExpr.c_eq]; exact Sub.refl _) | exact Sub.ipAt rfl rfl rfl | exact Sub.ip (map_get (by omega)) (by simp) | exact Sub.ipAt (map_get (by omega)) rfl rfl | exact Sub.ip (by simp [*]) (by simp) | exact Sub.ipAt (by simp [*]) (by rfl) (by rfl)))) ?_ | refine HFnF.mk (((fun x _ y => l02Same x y) (a.fOuts)[k] (List.getElem_mem hlt) (b.fOuts)[k]).sub (by repeat' (first | exact SubL.nil | refine SubL.cons ?_ ?_ | exact Sub.refl _ | (rw [DExpr.c_eq]; exact Sub.refl _) | exact Sub.ipAt rfl rfl rfl | exact Sub.ip (map_get (by omega)) (by simp) | exact Sub.ipAt (map_get (by omega)) rfl rfl | exact Sub.ip (by simp [*]) (by simp) | exact Sub.ipAt (by simp [*]) (by rfl) (by rfl)))) ?_
    simp (maxSteps := 1000000) -dsimp -implicitDefEqProofs only [go_sem, ↓reduceIte, keep20, ib20, mk20, Tryz.f20]
    repeat' (with_reducible first | intro _ | refine And.intro ?_ ?_)
    · rename_i he
      exact (decide_eq_false fun e => he (getElem_of_eq (congrArg DFunc.fOuts e) hlt)).symm
    · rename_i he
      refine ⟨k + 1, ?_⟩
      repeat' (with_reducible refine And.intro ?_ ?_)
      all_goals try (rw [IntWalk.i64_in _ (by omega)]; first | rfl | omega)
      all_goals try omega
      all_goals try (repeat' (with_reducible first | exact Heap.le_refl _ | refine (le_upd (by first | assumption | exact And.right (by assumption) | exact upd_none.2 (by assumption))).2 ?_))
      exact take_step hlt hlb hp he
  · have hk' : k = (a.fOuts).length := by omega
    subst hk'
    have hq := eq_of_take e3 hp
    exact (decide_eq_true (DFunc.eq_iff.2 ⟨e1, e2, hq⟩)).symm
end Go.Hl

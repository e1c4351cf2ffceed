/-
  Contracts of functions and laws of the layer over the walk.
-/
import Derived.Test.YthgfmobhhdmkpaaVvA
namespace Go.Hl
open Go.Proofs
set_option linter.unusedVariables false
set_option linter.unusedSimpArgs false


def keep90 : List Nat := [0, 1, 4, 5, 9]
def ib90 : List Nat := []
def mk90 : Marks := fun _ => ([], .nil, [])
set_option maxRecDepth 100000 in
theorem mark_ExprS_step (l : List DExpr) (hk : ∀ x ∈ l, MarkS Try.prog 90 (OS DExpr.o 5 x.fKids)) : MarkS Try.prog 90 (OS DExpr.o 5 l) := by
  intro y k h hy h0 h1 ho nd
  rcases hy with ⟨rfl, hl⟩ | ⟨n, es, rfl, hor⟩
  · rw [OV.mk_nil, OV.nil_rows, OV.ct_nil, OV.val_nil]
    refine fnHF 48 keep90 ib90 mk90 mix Try.func90 rfl (by kernel_rfl) (by simp) ?_
    simp (maxSteps := 1000000) -dsimp -implicitDefEqProofs only [go_sem, ↓reduceIte, keep90, ib90, mk90, Try.f90]
    refine loopF (keep := keep90) (ib := ib90) (mk := mk90) mix (by kernel_rfl) (fun _ : Unit => [(0, .sl 5 [] true), (1, I k), (5, I 0)]) (fun _ => h) (fun _ => True) (fun _ => 0) () (by simp [SatL, tget, Heap.le_refl]) ?_
    intro _ _
    simp (maxSteps := 1000000) -dsimp -implicitDefEqProofs only [go_sem, ↓reduceIte, keep90, ib90, mk90, Try.f90, zero_cast, Int.lt_irrefl]
    try intro _
    refine ⟨h, Heap.le_refl _, ?_⟩
    first | exact Chg.refl (by simp [Owns]) | exact ⟨by simp, Chg.refl (by simp [Owns])⟩
  · rw [OV.mk_sl, OV.sl_rows, OV.sl_rows, OV.ct_sl, OV.val_sl]
    rw [OV.ct_sl] at h1
    rw [OV.sl_rows] at ho nd
    generalize hL0 : (n, HObj.row 5 (OV.cells es)) :: OV.rowsRows es = L0 at nd ⊢
    refine fnHF 48 keep90 ib90 mk90 mix Try.func90 rfl (by kernel_rfl) (by simp) ?_
    simp (maxSteps := 1000000) -dsimp -implicitDefEqProofs only [go_sem, ↓reduceIte, keep90, ib90, mk90, Try.f90]
    refine loopF (keep := keep90) (ib := ib90) (mk := mk90) mix (by kernel_rfl) (fun x : Nat × Heap => [(0, .os n 5 0 es.length), (1, I (k + OV.ctRows (es.take x.1))), (5, I x.1)]) (fun x => x.2) (fun x => x.1 ≤ es.length ∧ Chg h x.2 L0 ((n, .row 5 (OV.cells (OV.mkRows k (es.take x.1) ++ es.drop x.1))) :: OV.rowsRows (OV.mkRows k (es.take x.1) ++ es.drop x.1))) (fun x => es.length - x.1) (0, h) (by
      refine ⟨by simp [SatL, tget, OV.ctRows], Heap.le_refl _, Nat.zero_le _, ?_⟩
      rw [← hL0]
      simpa [OV.mkRows] using Chg.refl ho) ?_
    rintro ⟨i, g⟩ ⟨hi, hc⟩
    simp only at hi hc ⊢
    rcases Nat.lt_or_ge i es.length with hlt | hge
    · have hll : i < l.length := by rw [hor.length]; exact hlt
      obtain ⟨A, e, B, rfl, hA, he⟩ := hor.split i hll
      have t1 : (A ++ e :: B).take i = A := by rw [← hA]; simp
      have t2 : (A ++ e :: B).drop i = e :: B := by rw [← hA]; simp
      have t0 : A ++ e :: B = (A ++ [e]) ++ B := by simp
      have t3 : (A ++ e :: B).take (i + 1) = A ++ [e] := by rw [t0]; exact List.take_left' (by simp [hA])
      have t4 : (A ++ e :: B).drop (i + 1) = B := by rw [t0]; exact List.drop_left' (by simp [hA])
      clear t0
      have hct := OV.ctRows_append A (e :: B)
      rw [OV.ctRows] at hct
      rw [t1, t2] at hc
      rw [t1]
      have hA2 : (OV.cells (OV.mkRows k A)).length = i := by rw [OV.cells, List.length_map, OV.mkRows_len, hA]
      have hs2 := OV.mkRows_snoc k A e
      have hs3 := OV.ctRows_snoc A e
      rw [DExpr.o_iff] at he
      obtain ⟨y_4, rfl, o_4⟩ := he
      simp only [OV.ctRow_cons, OV.ctRow_nil, OV.ct_v, Nat.add_zero, OV.mkRow_cons, OV.mkRow_nil, OV.mk_v, leaf_int, leaf_bool, leaf_str, one_cast] at hct hs2 hs3
      generalize hkk : k + (OV.ctRows A : Int) = kk at hs2 ⊢
      generalize OV.mkRows k A = A2 at hs2 hc hA2
      have gm : ∀ (c : List Cell) (Y : List (List Cell)), (OV.cells A2 ++ c :: Y)[i]? = some c := fun c Y => get_mid hA2
      have sm : ∀ (c c2 : List Cell) (Y : List (List Cell)), (OV.cells A2 ++ c :: Y).set i c2 = OV.cells A2 ++ c2 :: Y := fun c c2 Y => set_mid hA2
      have hc0 := hc
      simp only [List.append_assoc, List.cons_append, List.nil_append, List.append_nil, OV.row_cons, OV.row_nil, OV.v_rows, rowsRows_cons, rowsRows_app, cells_append, cells_cons, cellv_cons, cellv_nil, OV.val_v] at hc0
      have hgn := hc0.owns (n, _) List.mem_cons_self
      simp only at hgn
      have iw0_0 : IntKind.i64.wrap (kk + 1) = kk + 1 := IntWalk.i64_in _ (by omega)
      have iw0_1 : IntKind.i64.wrap (kk + 1 + 1) = kk + 1 + 1 := IntWalk.i64_in _ (by omega)
      have iw0_2 : IntKind.i64.wrap (kk + 1 + 1 + 1) = kk + 1 + 1 + 1 := IntWalk.i64_in _ (by omega)
      have iw0_3 : IntKind.i64.wrap (kk + 1 + 1 + 1 + 1) = kk + 1 + 1 + 1 + 1 := IntWalk.i64_in _ (by omega)
      simp (maxSteps := 1000000) -dsimp -implicitDefEqProofs only [go_sem, ↓reduceIte, keep90, ib90, mk90, Try.f90, hgn, gm, sm, upd_upd, upd_same, o_4.flat, o_4.one, iw0_0, iw0_1, iw0_2, iw0_3]
      repeat' (with_reducible first | intro _ | refine And.intro ?_ ?_)
      all_goals try omega
      have hq0 := hc0.trans (Chg.set (o' := .row 5 (OV.cells A2 ++ [.v (.int .i64 (kk)), .v (.int .i64 (kk + 1)), .v (.int .i64 (kk + 1 + 1)), .v (.int .i64 (kk + 1 + 1 + 1)), .v y_4.val] :: OV.cells B)) hc0.owns (hc0.nodup nd))
      have hg0 : upd g n (.row 5 (OV.cells A2 ++ [.v (.int .i64 (kk)), .v (.int .i64 (kk + 1)), .v (.int .i64 (kk + 1 + 1)), .v (.int .i64 (kk + 1 + 1 + 1)), .v y_4.val] :: OV.cells B)) n = some (.row 5 (OV.cells A2 ++ [.v (.int .i64 (kk)), .v (.int .i64 (kk + 1)), .v (.int .i64 (kk + 1 + 1)), .v (.int .i64 (kk + 1 + 1 + 1)), .v y_4.val] :: OV.cells B)) := upd_same _ _ _
      have hp0 : Chg h (upd g n (.row 5 (OV.cells A2 ++ [.v (.int .i64 (kk)), .v (.int .i64 (kk + 1)), .v (.int .i64 (kk + 1 + 1)), .v (.int .i64 (kk + 1 + 1 + 1)), .v y_4.val] :: OV.cells B))) L0 (((n, .row 5 (OV.cells A2 ++ [.v (.int .i64 (kk)), .v (.int .i64 (kk + 1)), .v (.int .i64 (kk + 1 + 1)), .v (.int .i64 (kk + 1 + 1 + 1)), .v y_4.val] :: OV.cells B)) :: (OV.rowsRows A2)) ++ (y_4.rows ++ (OV.rowsRows B))) := by simpa only [List.append_assoc, List.cons_append, List.nil_append, List.append_nil, OV.row_cons, OV.row_nil, OV.v_rows, rowsRows_cons, rowsRows_app, cells_append, cells_cons, cellv_cons, cellv_nil, OV.val_v] using hq0
      refine HFnF.mkH ((hk l[i] (List.getElem_mem hll)) y_4 (kk + 1 + 1 + 1 + 1) _ o_4 (by omega) (by omega) hp0.owns.right.left (nodup_mid (hp0.nodup nd))) ?_
      rintro r g0 ⟨rfl, hch0⟩
      have hr0 := hp0.trans (Chg.mid hp0.owns (hp0.nodup nd) hch0)
      have hg0r := hr0.owns (n, _) List.mem_cons_self
      simp only at hg0r
      have hkb0 : ∃ z : Int, z = kk + 1 + 1 + 1 + 1 + (y_4.ct : Int) := ⟨_, rfl⟩
      obtain ⟨kk0, hkb0⟩ := hkb0
      rw [← hkb0]
      simp (maxSteps := 1000000) -dsimp -implicitDefEqProofs only [go_sem, ↓reduceIte, keep90, ib90, mk90, Try.f90, hg0r, gm, sm, upd_upd, upd_same, o_4.flat, o_4.one, iw0_0, iw0_1, iw0_2, iw0_3]
      refine ⟨(i + 1, g0), ?_⟩
      simp only [t3, t4, hs2, hs3]
      refine ⟨?_, Heap.le_refl _, ⟨by omega, ?_⟩, by omega⟩
      · repeat' (with_reducible refine And.intro ?_ ?_)
        all_goals first | rfl | trivial | omega | (rw [IntWalk.i64_in _ (by omega)]; omega)
      · simpa only [List.append_assoc, List.cons_append, List.nil_append, List.append_nil, OV.row_cons, OV.row_nil, OV.v_rows, rowsRows_cons, rowsRows_app, cells_append, cells_cons, cellv_cons, cellv_nil, OV.val_v, o_4.mk_val, hkb0] using hr0
    · have hi2 : i = es.length := by omega
      subst hi2
      rw [List.take_length, List.drop_length, List.append_nil] at hc
      rw [List.take_length]
      simp (maxSteps := 1000000) -dsimp -implicitDefEqProofs only [go_sem, ↓reduceIte, keep90, ib90, mk90, Try.f90, Int.lt_irrefl, Nat.lt_irrefl]
      try intro _
      refine ⟨g, Heap.le_refl _, ?_⟩
      first | exact hc | exact ⟨rfl, hc⟩
theorem mark_ExprS (l : List DExpr) : MarkS Try.prog 90 (OS DExpr.o 5 l) :=
  mark_ExprS_step l fun x hx => mark_ExprS x.fKids
termination_by SizeOf.sizeOf l
decreasing_by
  have h1 := List.sizeOf_lt_of_mem hx
  cases x
  simp only [DExpr.mk.sizeOf_spec, DExpr.fKids] at h1 ⊢
  omega



def keep72 : List Nat := [0, 1, 4, 5, 9]
def ib72 : List Nat := []
def mk72 : Marks := fun _ => ([], .nil, [])
set_option maxRecDepth 100000 in
theorem mark_FuncS (l : List DFunc) : MarkS Try.prog 72 (OS DFunc.o 3 l) := by
  intro y k h hy h0 h1 ho nd
  rcases hy with ⟨rfl, hl⟩ | ⟨n, es, rfl, hor⟩
  · rw [OV.mk_nil, OV.nil_rows, OV.ct_nil, OV.val_nil]
    refine fnHF 35 keep72 ib72 mk72 mix Try.func72 rfl (by kernel_rfl) (by simp) ?_
    simp (maxSteps := 1000000) -dsimp -implicitDefEqProofs only [go_sem, ↓reduceIte, keep72, ib72, mk72, Try.f72]
    refine loopF (keep := keep72) (ib := ib72) (mk := mk72) mix (by kernel_rfl) (fun _ : Unit => [(0, .sl 3 [] true), (1, I k), (5, I 0)]) (fun _ => h) (fun _ => True) (fun _ => 0) () (by simp [SatL, tget, Heap.le_refl]) ?_
    intro _ _
    simp (maxSteps := 1000000) -dsimp -implicitDefEqProofs only [go_sem, ↓reduceIte, keep72, ib72, mk72, Try.f72, zero_cast, Int.lt_irrefl]
    try intro _
    refine ⟨h, Heap.le_refl _, ?_⟩
    first | exact Chg.refl (by simp [Owns]) | exact ⟨by simp, Chg.refl (by simp [Owns])⟩
  · rw [OV.mk_sl, OV.sl_rows, OV.sl_rows, OV.ct_sl, OV.val_sl]
    rw [OV.ct_sl] at h1
    rw [OV.sl_rows] at ho nd
    generalize hL0 : (n, HObj.row 3 (OV.cells es)) :: OV.rowsRows es = L0 at nd ⊢
    refine fnHF 35 keep72 ib72 mk72 mix Try.func72 rfl (by kernel_rfl) (by simp) ?_
    simp (maxSteps := 1000000) -dsimp -implicitDefEqProofs only [go_sem, ↓reduceIte, keep72, ib72, mk72, Try.f72]
    refine loopF (keep := keep72) (ib := ib72) (mk := mk72) mix (by kernel_rfl) (fun x : Nat × Heap => [(0, .os n 3 0 es.length), (1, I (k + OV.ctRows (es.take x.1))), (5, I x.1)]) (fun x => x.2) (fun x => x.1 ≤ es.length ∧ Chg h x.2 L0 ((n, .row 3 (OV.cells (OV.mkRows k (es.take x.1) ++ es.drop x.1))) :: OV.rowsRows (OV.mkRows k (es.take x.1) ++ es.drop x.1))) (fun x => es.length - x.1) (0, h) (by
      refine ⟨by simp [SatL, tget, OV.ctRows], Heap.le_refl _, Nat.zero_le _, ?_⟩
      rw [← hL0]
      simpa [OV.mkRows] using Chg.refl ho) ?_
    rintro ⟨i, g⟩ ⟨hi, hc⟩
    simp only at hi hc ⊢
    rcases Nat.lt_or_ge i es.length with hlt | hge
    · have hll : i < l.length := by rw [hor.length]; exact hlt
      obtain ⟨A, e, B, rfl, hA, he⟩ := hor.split i hll
      have t1 : (A ++ e :: B).take i = A := by rw [← hA]; simp
      have t2 : (A ++ e :: B).drop i = e :: B := by rw [← hA]; simp
      have t0 : A ++ e :: B = (A ++ [e]) ++ B := by simp
      have t3 : (A ++ e :: B).take (i + 1) = A ++ [e] := by rw [t0]; exact List.take_left' (by simp [hA])
      have t4 : (A ++ e :: B).drop (i + 1) = B := by rw [t0]; exact List.drop_left' (by simp [hA])
      clear t0
      have hct := OV.ctRows_append A (e :: B)
      rw [OV.ctRows] at hct
      rw [t1, t2] at hc
      rw [t1]
      have hA2 : (OV.cells (OV.mkRows k A)).length = i := by rw [OV.cells, List.length_map, OV.mkRows_len, hA]
      have hs2 := OV.mkRows_snoc k A e
      have hs3 := OV.ctRows_snoc A e
      obtain ⟨y_2, rfl, o_2⟩ := he
      simp only [OV.ctRow_cons, OV.ctRow_nil, OV.ct_v, Nat.add_zero, OV.mkRow_cons, OV.mkRow_nil, OV.mk_v, leaf_int, leaf_bool, leaf_str, one_cast] at hct hs2 hs3
      generalize hkk : k + (OV.ctRows A : Int) = kk at hs2 ⊢
      generalize OV.mkRows k A = A2 at hs2 hc hA2
      have gm : ∀ (c : List Cell) (Y : List (List Cell)), (OV.cells A2 ++ c :: Y)[i]? = some c := fun c Y => get_mid hA2
      have sm : ∀ (c c2 : List Cell) (Y : List (List Cell)), (OV.cells A2 ++ c :: Y).set i c2 = OV.cells A2 ++ c2 :: Y := fun c c2 Y => set_mid hA2
      have hc0 := hc
      simp only [List.append_assoc, List.cons_append, List.nil_append, List.append_nil, OV.row_cons, OV.row_nil, OV.v_rows, rowsRows_cons, rowsRows_app, cells_append, cells_cons, cellv_cons, cellv_nil, OV.val_v] at hc0
      have hgn := hc0.owns (n, _) List.mem_cons_self
      simp only at hgn
      have iw0_0 : IntKind.i64.wrap (kk + 1) = kk + 1 := IntWalk.i64_in _ (by omega)
      have iw0_1 : IntKind.i64.wrap (kk + 1 + 1) = kk + 1 + 1 := IntWalk.i64_in _ (by omega)
      simp (maxSteps := 1000000) -dsimp -implicitDefEqProofs only [go_sem, ↓reduceIte, keep72, ib72, mk72, Try.f72, hgn, gm, sm, upd_upd, upd_same, o_2.flat, o_2.one, iw0_0, iw0_1]
      repeat' (with_reducible first | intro _ | refine And.intro ?_ ?_)
      all_goals try omega
      refine HFnF.mk (markText (kk) (by omega)) ?_
      simp (maxSteps := 1000000) -dsimp -implicitDefEqProofs only [go_sem, ↓reduceIte, keep72, ib72, mk72, Try.f72, hgn, gm, sm, upd_upd, upd_same, o_2.flat, o_2.one, iw0_0, iw0_1]
      repeat' (with_reducible first | intro _ | refine And.intro ?_ ?_)
      all_goals try omega
      have hq0 := hc0.trans (Chg.set (o' := .row 3 (OV.cells A2 ++ [.v (.str (mtext (kk))), .v (.int .i64 (kk + 1)), .v y_2.val] :: OV.cells B)) hc0.owns (hc0.nodup nd))
      have hg0 : upd g n (.row 3 (OV.cells A2 ++ [.v (.str (mtext (kk))), .v (.int .i64 (kk + 1)), .v y_2.val] :: OV.cells B)) n = some (.row 3 (OV.cells A2 ++ [.v (.str (mtext (kk))), .v (.int .i64 (kk + 1)), .v y_2.val] :: OV.cells B)) := upd_same _ _ _
      have hp0 : Chg h (upd g n (.row 3 (OV.cells A2 ++ [.v (.str (mtext (kk))), .v (.int .i64 (kk + 1)), .v y_2.val] :: OV.cells B))) L0 (((n, .row 3 (OV.cells A2 ++ [.v (.str (mtext (kk))), .v (.int .i64 (kk + 1)), .v y_2.val] :: OV.cells B)) :: (OV.rowsRows A2)) ++ (y_2.rows ++ (OV.rowsRows B))) := by simpa only [List.append_assoc, List.cons_append, List.nil_append, List.append_nil, OV.row_cons, OV.row_nil, OV.v_rows, rowsRows_cons, rowsRows_app, cells_append, cells_cons, cellv_cons, cellv_nil, OV.val_v] using hq0
      refine HFnF.mkH ((mark_ExprS l[i].fOuts) y_2 (kk + 1 + 1) _ o_2 (by omega) (by omega) hp0.owns.right.left (nodup_mid (hp0.nodup nd))) ?_
      rintro r g0 ⟨rfl, hch0⟩
      have hr0 := hp0.trans (Chg.mid hp0.owns (hp0.nodup nd) hch0)
      have hg0r := hr0.owns (n, _) List.mem_cons_self
      simp only at hg0r
      have hkb0 : ∃ z : Int, z = kk + 1 + 1 + (y_2.ct : Int) := ⟨_, rfl⟩
      obtain ⟨kk0, hkb0⟩ := hkb0
      rw [← hkb0]
      simp (maxSteps := 1000000) -dsimp -implicitDefEqProofs only [go_sem, ↓reduceIte, keep72, ib72, mk72, Try.f72, hg0r, gm, sm, upd_upd, upd_same, o_2.flat, o_2.one, iw0_0, iw0_1]
      refine ⟨(i + 1, g0), ?_⟩
      simp only [t3, t4, hs2, hs3]
      refine ⟨?_, Heap.le_refl _, ⟨by omega, ?_⟩, by omega⟩
      · repeat' (with_reducible refine And.intro ?_ ?_)
        all_goals first | rfl | trivial | omega | (rw [IntWalk.i64_in _ (by omega)]; omega)
      · simpa only [List.append_assoc, List.cons_append, List.nil_append, List.append_nil, OV.row_cons, OV.row_nil, OV.v_rows, rowsRows_cons, rowsRows_app, cells_append, cells_cons, cellv_cons, cellv_nil, OV.val_v, o_2.mk_val, hkb0] using hr0
    · have hi2 : i = es.length := by omega
      subst hi2
      rw [List.take_length, List.drop_length, List.append_nil] at hc
      rw [List.take_length]
      simp (maxSteps := 1000000) -dsimp -implicitDefEqProofs only [go_sem, ↓reduceIte, keep72, ib72, mk72, Try.f72, Int.lt_irrefl, Nat.lt_irrefl]
      try intro _
      refine ⟨g, Heap.le_refl _, ?_⟩
      first | exact hc | exact ⟨rfl, hc⟩

def keep49 : List Nat := [0, 1, 2, 4]
def ib49 : List Nat := [2]
def mk49 : Marks := fun _ => ([], .nil, [])
set_option maxRecDepth 100000 in
theorem mark_Program (x : DProgram) : MarkA Try.prog 49 x.o := by
  intro e k h he h0 h1 ho nd
  obtain ⟨y_0, rfl, o_0⟩ := he
  simp only [OV.ctTop_cons, OV.ctTop_nil, OV.ctT_v, OV.mkTop_cons, OV.mkTop_nil, OV.mkT_v, Nat.add_zero, Nat.zero_add, zero_cast, Int.add_zero, Int.zero_add, o_0.ctT, o_0.mkT] at h1 ⊢
  have hc0 := Chg.refl ho
  simp only [List.append_assoc, List.cons_append, List.nil_append, List.append_nil, OV.row_cons, OV.row_nil, OV.v_rows, rowsRows_cons, rowsRows_app, cells_append, cells_cons, cellv_cons, cellv_nil, OV.val_v] at hc0 nd ⊢
  obtain ⟨L0, hL0⟩ : ∃ L : List (Nat × HObj), L = (y_0.rows) := ⟨_, rfl⟩
  replace hc0 : Chg h h L0 (y_0.rows) := by rw [hL0]; exact hc0
  rw [← hL0] at nd ⊢
  refine fnHF 10 keep49 ib49 mk49 mix Try.func49 rfl (by kernel_rfl) (by simp) ?_
  simp (maxSteps := 1000000) -dsimp -implicitDefEqProofs only [go_sem, ↓reduceIte, keep49, ib49, mk49, Try.f49, OV.map_val, OV.map_val_nil, OV.val_v, o_0.flat, o_0.one]
  have hp0 : Chg h h L0 ((([] : List (Nat × HObj))) ++ ((y_0.rows) ++ (([] : List (Nat × HObj))))) := by simpa only [List.append_assoc, List.cons_append, List.nil_append, List.append_nil, OV.row_cons, OV.row_nil, OV.v_rows, rowsRows_cons, rowsRows_app, cells_append, cells_cons, cellv_cons, cellv_nil, OV.val_v] using hc0
  refine HFnF.mkH (mark_FuncS x.fFuncs y_0 (k) _ o_0 (by omega) (by omega) hp0.owns.right.left (nodup_mid (hp0.nodup nd))) ?_
  rintro r g0 ⟨rfl, hch0⟩
  have hr0 := hp0.trans (Chg.mid hp0.owns (hp0.nodup nd) (by simpa only [List.append_assoc, List.cons_append, List.nil_append, List.append_nil, OV.row_cons, OV.row_nil, OV.v_rows, rowsRows_cons, rowsRows_app, cells_append, cells_cons, cellv_cons, cellv_nil, OV.val_v] using hch0))
  simp (maxSteps := 1000000) -dsimp -implicitDefEqProofs only [go_sem, ↓reduceIte, keep49, ib49, mk49, Try.f49, OV.map_val, OV.map_val_nil, OV.val_v, o_0.flat, o_0.one]
  refine ⟨g0, Heap.le_refl _, ?_⟩
  first
    | exact ⟨by congr 1; omega, by simpa only [List.append_assoc, List.cons_append, List.nil_append, List.append_nil, OV.row_cons, OV.row_nil, OV.v_rows, rowsRows_cons, rowsRows_app, cells_append, cells_cons, cellv_cons, cellv_nil, OV.val_v, Int.natCast_add, ← Int.add_assoc] using hr0⟩
    | exact ⟨by omega, by simpa only [List.append_assoc, List.cons_append, List.nil_append, List.append_nil, OV.row_cons, OV.row_nil, OV.v_rows, rowsRows_cons, rowsRows_app, cells_append, cells_cons, cellv_cons, cellv_nil, OV.val_v, Int.natCast_add, ← Int.add_assoc] using hr0⟩
    | simpa only [List.append_assoc, List.cons_append, List.nil_append, List.append_nil, OV.row_cons, OV.row_nil, OV.v_rows, rowsRows_cons, rowsRows_app, cells_append, cells_cons, cellv_cons, cellv_nil, OV.val_v, Int.natCast_add, ← Int.add_assoc] using hr0

def keep15 : List Nat := [0, 1, 4, 5, 9]
def ib15 : List Nat := []
def mk15 : Marks := fun _ => ([], .nil, [])
set_option maxRecDepth 100000 in
theorem mark_Int64S (l : List Int) : MarkS Try.prog 15 (OS (oP I) 1 l) := by
  intro y k h hy h0 h1 ho nd
  rcases hy with ⟨rfl, hl⟩ | ⟨n, es, rfl, hor⟩
  · rw [OV.mk_nil, OV.nil_rows, OV.ct_nil, OV.val_nil]
    refine fnHF 19 keep15 ib15 mk15 mix Try.func15 rfl (by kernel_rfl) (by simp) ?_
    simp (maxSteps := 1000000) -dsimp -implicitDefEqProofs only [go_sem, ↓reduceIte, keep15, ib15, mk15, Try.f15]
    refine loopF (keep := keep15) (ib := ib15) (mk := mk15) mix (by kernel_rfl) (fun _ : Unit => [(0, .sl 1 [] true), (1, I k), (5, I 0)]) (fun _ => h) (fun _ => True) (fun _ => 0) () (by simp [SatL, tget, Heap.le_refl]) ?_
    intro _ _
    simp (maxSteps := 1000000) -dsimp -implicitDefEqProofs only [go_sem, ↓reduceIte, keep15, ib15, mk15, Try.f15, zero_cast, Int.lt_irrefl]
    try intro _
    refine ⟨h, Heap.le_refl _, ?_⟩
    first | exact Chg.refl (by simp [Owns]) | exact ⟨by simp, Chg.refl (by simp [Owns])⟩
  · rw [OV.mk_sl, OV.sl_rows, OV.sl_rows, OV.ct_sl, OV.val_sl]
    rw [OV.ct_sl] at h1
    rw [OV.sl_rows] at ho nd
    generalize hL0 : (n, HObj.row 1 (OV.cells es)) :: OV.rowsRows es = L0 at nd ⊢
    refine fnHF 19 keep15 ib15 mk15 mix Try.func15 rfl (by kernel_rfl) (by simp) ?_
    simp (maxSteps := 1000000) -dsimp -implicitDefEqProofs only [go_sem, ↓reduceIte, keep15, ib15, mk15, Try.f15]
    refine loopF (keep := keep15) (ib := ib15) (mk := mk15) mix (by kernel_rfl) (fun x : Nat × Heap => [(0, .os n 1 0 es.length), (1, I (k + OV.ctRows (es.take x.1))), (5, I x.1)]) (fun x => x.2) (fun x => x.1 ≤ es.length ∧ Chg h x.2 L0 ((n, .row 1 (OV.cells (OV.mkRows k (es.take x.1) ++ es.drop x.1))) :: OV.rowsRows (OV.mkRows k (es.take x.1) ++ es.drop x.1))) (fun x => es.length - x.1) (0, h) (by
      refine ⟨by simp [SatL, tget, OV.ctRows], Heap.le_refl _, Nat.zero_le _, ?_⟩
      rw [← hL0]
      simpa [OV.mkRows] using Chg.refl ho) ?_
    rintro ⟨i, g⟩ ⟨hi, hc⟩
    simp only at hi hc ⊢
    rcases Nat.lt_or_ge i es.length with hlt | hge
    · have hll : i < l.length := by rw [hor.length]; exact hlt
      obtain ⟨A, e, B, rfl, hA, he⟩ := hor.split i hll
      have t1 : (A ++ e :: B).take i = A := by rw [← hA]; simp
      have t2 : (A ++ e :: B).drop i = e :: B := by rw [← hA]; simp
      have t0 : A ++ e :: B = (A ++ [e]) ++ B := by simp
      have t3 : (A ++ e :: B).take (i + 1) = A ++ [e] := by rw [t0]; exact List.take_left' (by simp [hA])
      have t4 : (A ++ e :: B).drop (i + 1) = B := by rw [t0]; exact List.drop_left' (by simp [hA])
      clear t0
      have hct := OV.ctRows_append A (e :: B)
      rw [OV.ctRows] at hct
      rw [t1, t2] at hc
      rw [t1]
      have hA2 : (OV.cells (OV.mkRows k A)).length = i := by rw [OV.cells, List.length_map, OV.mkRows_len, hA]
      have hs2 := OV.mkRows_snoc k A e
      have hs3 := OV.ctRows_snoc A e
      obtain rfl : _ = _ := he
      simp only [OV.ctRow_cons, OV.ctRow_nil, OV.ct_v, Nat.add_zero, OV.mkRow_cons, OV.mkRow_nil, OV.mk_v, leaf_int, leaf_bool, leaf_str, one_cast] at hct hs2 hs3
      generalize hkk : k + (OV.ctRows A : Int) = kk at hs2 ⊢
      generalize OV.mkRows k A = A2 at hs2 hc hA2
      have gm : ∀ (c : List Cell) (Y : List (List Cell)), (OV.cells A2 ++ c :: Y)[i]? = some c := fun c Y => get_mid hA2
      have sm : ∀ (c c2 : List Cell) (Y : List (List Cell)), (OV.cells A2 ++ c :: Y).set i c2 = OV.cells A2 ++ c2 :: Y := fun c c2 Y => set_mid hA2
      have hc0 := hc
      simp only [List.append_assoc, List.cons_append, List.nil_append, List.append_nil, OV.row_cons, OV.row_nil, OV.v_rows, rowsRows_cons, rowsRows_app, cells_append, cells_cons, cellv_cons, cellv_nil, OV.val_v] at hc0
      have hgn := hc0.owns (n, _) List.mem_cons_self
      simp only at hgn
      have iw0_0 : IntKind.i64.wrap (kk + 1) = kk + 1 := IntWalk.i64_in _ (by omega)
      simp (maxSteps := 1000000) -dsimp -implicitDefEqProofs only [go_sem, ↓reduceIte, keep15, ib15, mk15, Try.f15, hgn, gm, sm, upd_upd, upd_same, iw0_0]
      repeat' (with_reducible first | intro _ | refine And.intro ?_ ?_)
      all_goals try omega
      have hq0 := hc0.trans (Chg.set (o' := .row 1 (OV.cells A2 ++ [.v (.int .i64 (kk))] :: OV.cells B)) hc0.owns (hc0.nodup nd))
      have hg0 : upd g n (.row 1 (OV.cells A2 ++ [.v (.int .i64 (kk))] :: OV.cells B)) n = some (.row 1 (OV.cells A2 ++ [.v (.int .i64 (kk))] :: OV.cells B)) := upd_same _ _ _
      refine ⟨(i + 1, (upd g n (.row 1 (OV.cells A2 ++ [.v (.int .i64 (kk))] :: OV.cells B)))), ?_⟩
      simp only [t3, t4, hs2, hs3]
      refine ⟨?_, Heap.le_refl _, ⟨by omega, ?_⟩, by omega⟩
      · repeat' (with_reducible refine And.intro ?_ ?_)
        all_goals first | rfl | trivial | omega | (rw [IntWalk.i64_in _ (by omega)]; omega)
      · simpa only [List.append_assoc, List.cons_append, List.nil_append, List.append_nil, OV.row_cons, OV.row_nil, OV.v_rows, rowsRows_cons, rowsRows_app, cells_append, cells_cons, cellv_cons, cellv_nil, OV.val_v] using hq0
    · have hi2 : i = es.length := by omega
      subst hi2
      rw [List.take_length, List.drop_length, List.append_nil] at hc
      rw [List.take_length]
      simp (maxSteps := 1000000) -dsimp -implicitDefEqProofs only [go_sem, ↓reduceIte, keep15, ib15, mk15, Try.f15, Int.lt_irrefl, Nat.lt_irrefl]
      try intro _
      refine ⟨g, Heap.le_refl _, ?_⟩
      first | exact hc | exact ⟨rfl, hc⟩

def keep50 : List Nat := [0, 1, 4, 5, 9]
def ib50 : List Nat := []
def mk50 : Marks := fun _ => ([], .nil, [])
set_option maxRecDepth 100000 in
theorem mark_Int64SS (l : List (List Int)) : MarkS Try.prog 50 (OS (oS (oP I) 1) 1 l) := by
  intro y k h hy h0 h1 ho nd
  rcases hy with ⟨rfl, hl⟩ | ⟨n, es, rfl, hor⟩
  · rw [OV.mk_nil, OV.nil_rows, OV.ct_nil, OV.val_nil]
    refine fnHF 19 keep50 ib50 mk50 mix Try.func50 rfl (by kernel_rfl) (by simp) ?_
    simp (maxSteps := 1000000) -dsimp -implicitDefEqProofs only [go_sem, ↓reduceIte, keep50, ib50, mk50, Try.f50]
    refine loopF (keep := keep50) (ib := ib50) (mk := mk50) mix (by kernel_rfl) (fun _ : Unit => [(0, .sl 1 [] true), (1, I k), (5, I 0)]) (fun _ => h) (fun _ => True) (fun _ => 0) () (by simp [SatL, tget, Heap.le_refl]) ?_
    intro _ _
    simp (maxSteps := 1000000) -dsimp -implicitDefEqProofs only [go_sem, ↓reduceIte, keep50, ib50, mk50, Try.f50, zero_cast, Int.lt_irrefl]
    try intro _
    refine ⟨h, Heap.le_refl _, ?_⟩
    first | exact Chg.refl (by simp [Owns]) | exact ⟨by simp, Chg.refl (by simp [Owns])⟩
  · rw [OV.mk_sl, OV.sl_rows, OV.sl_rows, OV.ct_sl, OV.val_sl]
    rw [OV.ct_sl] at h1
    rw [OV.sl_rows] at ho nd
    generalize hL0 : (n, HObj.row 1 (OV.cells es)) :: OV.rowsRows es = L0 at nd ⊢
    refine fnHF 19 keep50 ib50 mk50 mix Try.func50 rfl (by kernel_rfl) (by simp) ?_
    simp (maxSteps := 1000000) -dsimp -implicitDefEqProofs only [go_sem, ↓reduceIte, keep50, ib50, mk50, Try.f50]
    refine loopF (keep := keep50) (ib := ib50) (mk := mk50) mix (by kernel_rfl) (fun x : Nat × Heap => [(0, .os n 1 0 es.length), (1, I (k + OV.ctRows (es.take x.1))), (5, I x.1)]) (fun x => x.2) (fun x => x.1 ≤ es.length ∧ Chg h x.2 L0 ((n, .row 1 (OV.cells (OV.mkRows k (es.take x.1) ++ es.drop x.1))) :: OV.rowsRows (OV.mkRows k (es.take x.1) ++ es.drop x.1))) (fun x => es.length - x.1) (0, h) (by
      refine ⟨by simp [SatL, tget, OV.ctRows], Heap.le_refl _, Nat.zero_le _, ?_⟩
      rw [← hL0]
      simpa [OV.mkRows] using Chg.refl ho) ?_
    rintro ⟨i, g⟩ ⟨hi, hc⟩
    simp only at hi hc ⊢
    rcases Nat.lt_or_ge i es.length with hlt | hge
    · have hll : i < l.length := by rw [hor.length]; exact hlt
      obtain ⟨A, e, B, rfl, hA, he⟩ := hor.split i hll
      have t1 : (A ++ e :: B).take i = A := by rw [← hA]; simp
      have t2 : (A ++ e :: B).drop i = e :: B := by rw [← hA]; simp
      have t0 : A ++ e :: B = (A ++ [e]) ++ B := by simp
      have t3 : (A ++ e :: B).take (i + 1) = A ++ [e] := by rw [t0]; exact List.take_left' (by simp [hA])
      have t4 : (A ++ e :: B).drop (i + 1) = B := by rw [t0]; exact List.drop_left' (by simp [hA])
      clear t0
      have hct := OV.ctRows_append A (e :: B)
      rw [OV.ctRows] at hct
      rw [t1, t2] at hc
      rw [t1]
      have hA2 : (OV.cells (OV.mkRows k A)).length = i := by rw [OV.cells, List.length_map, OV.mkRows_len, hA]
      have hs2 := OV.mkRows_snoc k A e
      have hs3 := OV.ctRows_snoc A e
      obtain ⟨y_0, rfl, o_0⟩ := he
      simp only [OV.ctRow_cons, OV.ctRow_nil, OV.ct_v, Nat.add_zero, OV.mkRow_cons, OV.mkRow_nil, OV.mk_v, leaf_int, leaf_bool, leaf_str, one_cast] at hct hs2 hs3
      generalize hkk : k + (OV.ctRows A : Int) = kk at hs2 ⊢
      generalize OV.mkRows k A = A2 at hs2 hc hA2
      have gm : ∀ (c : List Cell) (Y : List (List Cell)), (OV.cells A2 ++ c :: Y)[i]? = some c := fun c Y => get_mid hA2
      have sm : ∀ (c c2 : List Cell) (Y : List (List Cell)), (OV.cells A2 ++ c :: Y).set i c2 = OV.cells A2 ++ c2 :: Y := fun c c2 Y => set_mid hA2
      have hc0 := hc
      simp only [List.append_assoc, List.cons_append, List.nil_append, List.append_nil, OV.row_cons, OV.row_nil, OV.v_rows, rowsRows_cons, rowsRows_app, cells_append, cells_cons, cellv_cons, cellv_nil, OV.val_v] at hc0
      have hgn := hc0.owns (n, _) List.mem_cons_self
      simp only at hgn
      simp (maxSteps := 1000000) -dsimp -implicitDefEqProofs only [go_sem, ↓reduceIte, keep50, ib50, mk50, Try.f50, hgn, gm, sm, upd_upd, upd_same, o_0.flat, o_0.one]
      repeat' (with_reducible first | intro _ | refine And.intro ?_ ?_)
      all_goals try omega
      have hp0 : Chg h g L0 (((n, .row 1 (OV.cells A2 ++ [.v y_0.val] :: OV.cells B)) :: (OV.rowsRows A2)) ++ (y_0.rows ++ (OV.rowsRows B))) := by simpa only [List.append_assoc, List.cons_append, List.nil_append, List.append_nil, OV.row_cons, OV.row_nil, OV.v_rows, rowsRows_cons, rowsRows_app, cells_append, cells_cons, cellv_cons, cellv_nil, OV.val_v] using hc0
      refine HFnF.mkH ((mark_Int64S l[i]) y_0 (kk) _ o_0 (by omega) (by omega) hp0.owns.right.left (nodup_mid (hp0.nodup nd))) ?_
      rintro r g0 ⟨rfl, hch0⟩
      have hr0 := hp0.trans (Chg.mid hp0.owns (hp0.nodup nd) hch0)
      have hg0r := hr0.owns (n, _) List.mem_cons_self
      simp only at hg0r
      have hkb0 : ∃ z : Int, z = kk + (y_0.ct : Int) := ⟨_, rfl⟩
      obtain ⟨kk0, hkb0⟩ := hkb0
      rw [← hkb0]
      simp (maxSteps := 1000000) -dsimp -implicitDefEqProofs only [go_sem, ↓reduceIte, keep50, ib50, mk50, Try.f50, hg0r, gm, sm, upd_upd, upd_same, o_0.flat, o_0.one]
      refine ⟨(i + 1, g0), ?_⟩
      simp only [t3, t4, hs2, hs3]
      refine ⟨?_, Heap.le_refl _, ⟨by omega, ?_⟩, by omega⟩
      · repeat' (with_reducible refine And.intro ?_ ?_)
        all_goals first | rfl | trivial | omega | (rw [IntWalk.i64_in _ (by omega)]; omega)
      · simpa only [List.append_assoc, List.cons_append, List.nil_append, List.append_nil, OV.row_cons, OV.row_nil, OV.v_rows, rowsRows_cons, rowsRows_app, cells_append, cells_cons, cellv_cons, cellv_nil, OV.val_v, o_0.mk_val, hkb0] using hr0
    · have hi2 : i = es.length := by omega
      subst hi2
      rw [List.take_length, List.drop_length, List.append_nil] at hc
      rw [List.take_length]
      simp (maxSteps := 1000000) -dsimp -implicitDefEqProofs only [go_sem, ↓reduceIte, keep50, ib50, mk50, Try.f50, Int.lt_irrefl, Nat.lt_irrefl]
      try intro _
      refine ⟨g, Heap.le_refl _, ?_⟩
      first | exact hc | exact ⟨rfl, hc⟩

def keep22 : List Nat := [0, 1, 2, 4]
def ib22 : List Nat := [2]
def mk22 : Marks := fun _ => ([], .nil, [])
set_option maxRecDepth 100000 in
theorem mark_Job (x : DJob) : MarkA Try.prog 22 x.o := by
  intro e k h he h0 h1 ho nd
  obtain ⟨y_0, y_3, y_4, rfl, o_0, o_3, o_4⟩ := he
  simp only [OV.ctTop_cons, OV.ctTop_nil, OV.ctT_v, OV.mkTop_cons, OV.mkTop_nil, OV.mkT_v, Nat.add_zero, Nat.zero_add, zero_cast, Int.add_zero, Int.zero_add, o_0.ctT, o_0.mkT, o_3.ctT, o_3.mkT, o_4.ctT, o_4.mkT] at h1 ⊢
  have hc0 := Chg.refl ho
  simp only [List.append_assoc, List.cons_append, List.nil_append, List.append_nil, OV.row_cons, OV.row_nil, OV.v_rows, rowsRows_cons, rowsRows_app, cells_append, cells_cons, cellv_cons, cellv_nil, OV.val_v] at hc0 nd ⊢
  obtain ⟨L0, hL0⟩ : ∃ L : List (Nat × HObj), L = (y_0.rows ++ (y_3.rows ++ (y_4.rows))) := ⟨_, rfl⟩
  replace hc0 : Chg h h L0 (y_0.rows ++ (y_3.rows ++ (y_4.rows))) := by rw [hL0]; exact hc0
  rw [← hL0] at nd ⊢
  refine fnHF 18 keep22 ib22 mk22 mix Try.func22 rfl (by kernel_rfl) (by simp) ?_
  simp (maxSteps := 1000000) -dsimp -implicitDefEqProofs only [go_sem, ↓reduceIte, keep22, ib22, mk22, Try.f22, OV.map_val, OV.map_val_nil, OV.val_v, o_0.flat, o_0.one, o_3.flat, o_3.one, o_4.flat, o_4.one]
  have hp0 : Chg h h L0 ((([] : List (Nat × HObj))) ++ ((y_0.rows) ++ (y_3.rows ++ y_4.rows))) := by simpa only [List.append_assoc, List.cons_append, List.nil_append, List.append_nil, OV.row_cons, OV.row_nil, OV.v_rows, rowsRows_cons, rowsRows_app, cells_append, cells_cons, cellv_cons, cellv_nil, OV.val_v] using hc0
  have hs0 := mark_Program x.fProgram [y_0] (k) h ⟨y_0, rfl, o_0⟩ (by omega) (by simp only [OV.ctTop_cons, OV.ctTop_nil, OV.ctT_v, OV.mkTop_cons, OV.mkTop_nil, OV.mkT_v, Nat.add_zero, Nat.zero_add, zero_cast, Int.add_zero, Int.zero_add, o_0.ctT, o_0.mkT, o_3.ctT, o_3.mkT, o_4.ctT, o_4.mkT]; omega) (by simpa only [List.append_assoc, List.cons_append, List.nil_append, List.append_nil, OV.row_cons, OV.row_nil, OV.v_rows, rowsRows_cons, rowsRows_app, cells_append, cells_cons, cellv_cons, cellv_nil, OV.val_v] using hp0.owns.right.left) (by simpa only [List.append_assoc, List.cons_append, List.nil_append, List.append_nil, OV.row_cons, OV.row_nil, OV.v_rows, rowsRows_cons, rowsRows_app, cells_append, cells_cons, cellv_cons, cellv_nil, OV.val_v] using nodup_mid (hp0.nodup nd))
  simp only [OV.ctTop_cons, OV.ctTop_nil, OV.ctT_v, OV.mkTop_cons, OV.mkTop_nil, OV.mkT_v, Nat.add_zero, Nat.zero_add, zero_cast, Int.add_zero, Int.zero_add, o_0.ctT, o_0.mkT, o_3.ctT, o_3.mkT, o_4.ctT, o_4.mkT, List.append_assoc, List.cons_append, List.nil_append, List.append_nil, OV.row_cons, OV.row_nil, OV.v_rows, rowsRows_cons, rowsRows_app, cells_append, cells_cons, cellv_cons, cellv_nil, OV.val_v, OV.map_val, OV.map_val_nil, Int.natCast_add, ← Int.add_assoc] at hs0
  refine HFnF.mkH hs0 ?_
  rintro r g0 ⟨rfl, hch0⟩
  have hr0 := hp0.trans (Chg.mid hp0.owns (hp0.nodup nd) (by simpa only [List.append_assoc, List.cons_append, List.nil_append, List.append_nil, OV.row_cons, OV.row_nil, OV.v_rows, rowsRows_cons, rowsRows_app, cells_append, cells_cons, cellv_cons, cellv_nil, OV.val_v] using hch0))
  simp (maxSteps := 1000000) -dsimp -implicitDefEqProofs only [go_sem, ↓reduceIte, keep22, ib22, mk22, Try.f22, OV.map_val, OV.map_val_nil, OV.val_v, o_0.flat, o_0.one, o_3.flat, o_3.one, o_4.flat, o_4.one]
  have hp1 : Chg h g0 L0 (((y_0.mk (k)).rows) ++ ((y_3.rows) ++ (y_4.rows))) := by simpa only [List.append_assoc, List.cons_append, List.nil_append, List.append_nil, OV.row_cons, OV.row_nil, OV.v_rows, rowsRows_cons, rowsRows_app, cells_append, cells_cons, cellv_cons, cellv_nil, OV.val_v] using hr0
  refine HFnF.mkH (mark_Int64S x.fPoint y_3 (k + (y_0.ct : Int)) _ o_3 (by omega) (by omega) hp1.owns.right.left (nodup_mid (hp1.nodup nd))) ?_
  rintro r g1 ⟨rfl, hch1⟩
  have hr1 := hp1.trans (Chg.mid hp1.owns (hp1.nodup nd) (by simpa only [List.append_assoc, List.cons_append, List.nil_append, List.append_nil, OV.row_cons, OV.row_nil, OV.v_rows, rowsRows_cons, rowsRows_app, cells_append, cells_cons, cellv_cons, cellv_nil, OV.val_v] using hch1))
  simp (maxSteps := 1000000) -dsimp -implicitDefEqProofs only [go_sem, ↓reduceIte, keep22, ib22, mk22, Try.f22, OV.map_val, OV.map_val_nil, OV.val_v, o_0.flat, o_0.one, o_3.flat, o_3.one, o_4.flat, o_4.one]
  have hp2 : Chg h g1 L0 (((y_0.mk (k)).rows ++ (y_3.mk (k + (y_0.ct : Int))).rows) ++ ((y_4.rows) ++ (([] : List (Nat × HObj))))) := by simpa only [List.append_assoc, List.cons_append, List.nil_append, List.append_nil, OV.row_cons, OV.row_nil, OV.v_rows, rowsRows_cons, rowsRows_app, cells_append, cells_cons, cellv_cons, cellv_nil, OV.val_v] using hr1
  refine HFnF.mkH (mark_Int64SS x.fTerms y_4 (k + (y_0.ct : Int) + (y_3.ct : Int)) _ o_4 (by omega) (by omega) hp2.owns.right.left (nodup_mid (hp2.nodup nd))) ?_
  rintro r g2 ⟨rfl, hch2⟩
  have hr2 := hp2.trans (Chg.mid hp2.owns (hp2.nodup nd) (by simpa only [List.append_assoc, List.cons_append, List.nil_append, List.append_nil, OV.row_cons, OV.row_nil, OV.v_rows, rowsRows_cons, rowsRows_app, cells_append, cells_cons, cellv_cons, cellv_nil, OV.val_v] using hch2))
  simp (maxSteps := 1000000) -dsimp -implicitDefEqProofs only [go_sem, ↓reduceIte, keep22, ib22, mk22, Try.f22, OV.map_val, OV.map_val_nil, OV.val_v, o_0.flat, o_0.one, o_3.flat, o_3.one, o_4.flat, o_4.one]
  refine ⟨g2, Heap.le_refl _, ?_⟩
  first
    | exact ⟨by congr 1; omega, by simpa only [List.append_assoc, List.cons_append, List.nil_append, List.append_nil, OV.row_cons, OV.row_nil, OV.v_rows, rowsRows_cons, rowsRows_app, cells_append, cells_cons, cellv_cons, cellv_nil, OV.val_v, Int.natCast_add, ← Int.add_assoc] using hr2⟩
    | exact ⟨by omega, by simpa only [List.append_assoc, List.cons_append, List.nil_append, List.append_nil, OV.row_cons, OV.row_nil, OV.v_rows, rowsRows_cons, rowsRows_app, cells_append, cells_cons, cellv_cons, cellv_nil, OV.val_v, Int.natCast_add, ← Int.add_assoc] using hr2⟩
    | simpa only [List.append_assoc, List.cons_append, List.nil_append, List.append_nil, OV.row_cons, OV.row_nil, OV.v_rows, rowsRows_cons, rowsRows_app, cells_append, cells_cons, cellv_cons, cellv_nil, OV.val_v, Int.natCast_add, ← Int.add_assoc] using hr2


def keep38 : List Nat := [0, 1, 4, 5, 9]
def ib38 : List Nat := []
def mk38 : Marks := fun _ => ([], .nil, [])
set_option maxRecDepth 100000 in
theorem mark_BoolS (l : List Bool) : MarkS Try.prog 38 (OS (oP HVal.bool) 1 l) := by
  intro y k h hy h0 h1 ho nd
  rcases hy with ⟨rfl, hl⟩ | ⟨n, es, rfl, hor⟩
  · rw [OV.mk_nil, OV.nil_rows, OV.ct_nil, OV.val_nil]
    refine fnHF 21 keep38 ib38 mk38 mix Try.func38 rfl (by kernel_rfl) (by simp) ?_
    simp (maxSteps := 1000000) -dsimp -implicitDefEqProofs only [go_sem, ↓reduceIte, keep38, ib38, mk38, Try.f38]
    refine loopF (keep := keep38) (ib := ib38) (mk := mk38) mix (by kernel_rfl) (fun _ : Unit => [(0, .sl 1 [] true), (1, I k), (5, I 0)]) (fun _ => h) (fun _ => True) (fun _ => 0) () (by simp [SatL, tget, Heap.le_refl]) ?_
    intro _ _
    simp (maxSteps := 1000000) -dsimp -implicitDefEqProofs only [go_sem, ↓reduceIte, keep38, ib38, mk38, Try.f38, zero_cast, Int.lt_irrefl]
    try intro _
    refine ⟨h, Heap.le_refl _, ?_⟩
    first | exact Chg.refl (by simp [Owns]) | exact ⟨by simp, Chg.refl (by simp [Owns])⟩
  · rw [OV.mk_sl, OV.sl_rows, OV.sl_rows, OV.ct_sl, OV.val_sl]
    rw [OV.ct_sl] at h1
    rw [OV.sl_rows] at ho nd
    generalize hL0 : (n, HObj.row 1 (OV.cells es)) :: OV.rowsRows es = L0 at nd ⊢
    refine fnHF 21 keep38 ib38 mk38 mix Try.func38 rfl (by kernel_rfl) (by simp) ?_
    simp (maxSteps := 1000000) -dsimp -implicitDefEqProofs only [go_sem, ↓reduceIte, keep38, ib38, mk38, Try.f38]
    refine loopF (keep := keep38) (ib := ib38) (mk := mk38) mix (by kernel_rfl) (fun x : Nat × Heap => [(0, .os n 1 0 es.length), (1, I (k + OV.ctRows (es.take x.1))), (5, I x.1)]) (fun x => x.2) (fun x => x.1 ≤ es.length ∧ Chg h x.2 L0 ((n, .row 1 (OV.cells (OV.mkRows k (es.take x.1) ++ es.drop x.1))) :: OV.rowsRows (OV.mkRows k (es.take x.1) ++ es.drop x.1))) (fun x => es.length - x.1) (0, h) (by
      refine ⟨by simp [SatL, tget, OV.ctRows], Heap.le_refl _, Nat.zero_le _, ?_⟩
      rw [← hL0]
      simpa [OV.mkRows] using Chg.refl ho) ?_
    rintro ⟨i, g⟩ ⟨hi, hc⟩
    simp only at hi hc ⊢
    rcases Nat.lt_or_ge i es.length with hlt | hge
    · have hll : i < l.length := by rw [hor.length]; exact hlt
      obtain ⟨A, e, B, rfl, hA, he⟩ := hor.split i hll
      have t1 : (A ++ e :: B).take i = A := by rw [← hA]; simp
      have t2 : (A ++ e :: B).drop i = e :: B := by rw [← hA]; simp
      have t0 : A ++ e :: B = (A ++ [e]) ++ B := by simp
      have t3 : (A ++ e :: B).take (i + 1) = A ++ [e] := by rw [t0]; exact List.take_left' (by simp [hA])
      have t4 : (A ++ e :: B).drop (i + 1) = B := by rw [t0]; exact List.drop_left' (by simp [hA])
      clear t0
      have hct := OV.ctRows_append A (e :: B)
      rw [OV.ctRows] at hct
      rw [t1, t2] at hc
      rw [t1]
      have hA2 : (OV.cells (OV.mkRows k A)).length = i := by rw [OV.cells, List.length_map, OV.mkRows_len, hA]
      have hs2 := OV.mkRows_snoc k A e
      have hs3 := OV.ctRows_snoc A e
      obtain rfl : _ = _ := he
      simp only [OV.ctRow_cons, OV.ctRow_nil, OV.ct_v, Nat.add_zero, OV.mkRow_cons, OV.mkRow_nil, OV.mk_v, leaf_int, leaf_bool, leaf_str, one_cast] at hct hs2 hs3
      generalize hkk : k + (OV.ctRows A : Int) = kk at hs2 ⊢
      generalize OV.mkRows k A = A2 at hs2 hc hA2
      have gm : ∀ (c : List Cell) (Y : List (List Cell)), (OV.cells A2 ++ c :: Y)[i]? = some c := fun c Y => get_mid hA2
      have sm : ∀ (c c2 : List Cell) (Y : List (List Cell)), (OV.cells A2 ++ c :: Y).set i c2 = OV.cells A2 ++ c2 :: Y := fun c c2 Y => set_mid hA2
      have hc0 := hc
      simp only [List.append_assoc, List.cons_append, List.nil_append, List.append_nil, OV.row_cons, OV.row_nil, OV.v_rows, rowsRows_cons, rowsRows_app, cells_append, cells_cons, cellv_cons, cellv_nil, OV.val_v] at hc0
      have hgn := hc0.owns (n, _) List.mem_cons_self
      simp only at hgn
      have iw0_0 : IntKind.i64.wrap (kk + 1) = kk + 1 := IntWalk.i64_in _ (by omega)
      simp (maxSteps := 1000000) -dsimp -implicitDefEqProofs only [go_sem, ↓reduceIte, keep38, ib38, mk38, Try.f38, hgn, gm, sm, upd_upd, upd_same, iw0_0]
      repeat' (with_reducible first | intro _ | refine And.intro ?_ ?_)
      all_goals try omega
      have hq0 := hc0.trans (Chg.set (o' := .row 1 (OV.cells A2 ++ [.v (.bool (decide ((kk).tmod 3 = 0)))] :: OV.cells B)) hc0.owns (hc0.nodup nd))
      have hg0 : upd g n (.row 1 (OV.cells A2 ++ [.v (.bool (decide ((kk).tmod 3 = 0)))] :: OV.cells B)) n = some (.row 1 (OV.cells A2 ++ [.v (.bool (decide ((kk).tmod 3 = 0)))] :: OV.cells B)) := upd_same _ _ _
      refine ⟨(i + 1, (upd g n (.row 1 (OV.cells A2 ++ [.v (.bool (decide ((kk).tmod 3 = 0)))] :: OV.cells B)))), ?_⟩
      simp only [t3, t4, hs2, hs3]
      refine ⟨?_, Heap.le_refl _, ⟨by omega, ?_⟩, by omega⟩
      · repeat' (with_reducible refine And.intro ?_ ?_)
        all_goals first | rfl | trivial | omega | (rw [IntWalk.i64_in _ (by omega)]; omega)
      · simpa only [List.append_assoc, List.cons_append, List.nil_append, List.append_nil, OV.row_cons, OV.row_nil, OV.v_rows, rowsRows_cons, rowsRows_app, cells_append, cells_cons, cellv_cons, cellv_nil, OV.val_v] using hq0
    · have hi2 : i = es.length := by omega
      subst hi2
      rw [List.take_length, List.drop_length, List.append_nil] at hc
      rw [List.take_length]
      simp (maxSteps := 1000000) -dsimp -implicitDefEqProofs only [go_sem, ↓reduceIte, keep38, ib38, mk38, Try.f38, Int.lt_irrefl, Nat.lt_irrefl]
      try intro _
      refine ⟨g, Heap.le_refl _, ?_⟩
      first | exact hc | exact ⟨rfl, hc⟩


def keep39 : List Nat := [0, 1, 4, 5, 9]
def ib39 : List Nat := []
def mk39 : Marks := fun _ => ([], .nil, [])
set_option maxRecDepth 100000 in
theorem mark_PartS (l : List DPart) : MarkS Try.prog 39 (OS DPart.o 3 l) := by
  intro y k h hy h0 h1 ho nd
  rcases hy with ⟨rfl, hl⟩ | ⟨n, es, rfl, hor⟩
  · rw [OV.mk_nil, OV.nil_rows, OV.ct_nil, OV.val_nil]
    refine fnHF 34 keep39 ib39 mk39 mix Try.func39 rfl (by kernel_rfl) (by simp) ?_
    simp (maxSteps := 1000000) -dsimp -implicitDefEqProofs only [go_sem, ↓reduceIte, keep39, ib39, mk39, Try.f39]
    refine loopF (keep := keep39) (ib := ib39) (mk := mk39) mix (by kernel_rfl) (fun _ : Unit => [(0, .sl 3 [] true), (1, I k), (5, I 0)]) (fun _ => h) (fun _ => True) (fun _ => 0) () (by simp [SatL, tget, Heap.le_refl]) ?_
    intro _ _
    simp (maxSteps := 1000000) -dsimp -implicitDefEqProofs only [go_sem, ↓reduceIte, keep39, ib39, mk39, Try.f39, zero_cast, Int.lt_irrefl]
    try intro _
    refine ⟨h, Heap.le_refl _, ?_⟩
    first | exact Chg.refl (by simp [Owns]) | exact ⟨by simp, Chg.refl (by simp [Owns])⟩
  · rw [OV.mk_sl, OV.sl_rows, OV.sl_rows, OV.ct_sl, OV.val_sl]
    rw [OV.ct_sl] at h1
    rw [OV.sl_rows] at ho nd
    generalize hL0 : (n, HObj.row 3 (OV.cells es)) :: OV.rowsRows es = L0 at nd ⊢
    refine fnHF 34 keep39 ib39 mk39 mix Try.func39 rfl (by kernel_rfl) (by simp) ?_
    simp (maxSteps := 1000000) -dsimp -implicitDefEqProofs only [go_sem, ↓reduceIte, keep39, ib39, mk39, Try.f39]
    refine loopF (keep := keep39) (ib := ib39) (mk := mk39) mix (by kernel_rfl) (fun x : Nat × Heap => [(0, .os n 3 0 es.length), (1, I (k + OV.ctRows (es.take x.1))), (5, I x.1)]) (fun x => x.2) (fun x => x.1 ≤ es.length ∧ Chg h x.2 L0 ((n, .row 3 (OV.cells (OV.mkRows k (es.take x.1) ++ es.drop x.1))) :: OV.rowsRows (OV.mkRows k (es.take x.1) ++ es.drop x.1))) (fun x => es.length - x.1) (0, h) (by
      refine ⟨by simp [SatL, tget, OV.ctRows], Heap.le_refl _, Nat.zero_le _, ?_⟩
      rw [← hL0]
      simpa [OV.mkRows] using Chg.refl ho) ?_
    rintro ⟨i, g⟩ ⟨hi, hc⟩
    simp only at hi hc ⊢
    rcases Nat.lt_or_ge i es.length with hlt | hge
    · have hll : i < l.length := by rw [hor.length]; exact hlt
      obtain ⟨A, e, B, rfl, hA, he⟩ := hor.split i hll
      have t1 : (A ++ e :: B).take i = A := by rw [← hA]; simp
      have t2 : (A ++ e :: B).drop i = e :: B := by rw [← hA]; simp
      have t0 : A ++ e :: B = (A ++ [e]) ++ B := by simp
      have t3 : (A ++ e :: B).take (i + 1) = A ++ [e] := by rw [t0]; exact List.take_left' (by simp [hA])
      have t4 : (A ++ e :: B).drop (i + 1) = B := by rw [t0]; exact List.drop_left' (by simp [hA])
      clear t0
      have hct := OV.ctRows_append A (e :: B)
      rw [OV.ctRows] at hct
      rw [t1, t2] at hc
      rw [t1]
      have hA2 : (OV.cells (OV.mkRows k A)).length = i := by rw [OV.cells, List.length_map, OV.mkRows_len, hA]
      have hs2 := OV.mkRows_snoc k A e
      have hs3 := OV.ctRows_snoc A e
      obtain ⟨y_2, rfl, o_2⟩ := he
      simp only [OV.ctRow_cons, OV.ctRow_nil, OV.ct_v, Nat.add_zero, OV.mkRow_cons, OV.mkRow_nil, OV.mk_v, leaf_int, leaf_bool, leaf_str, one_cast] at hct hs2 hs3
      generalize hkk : k + (OV.ctRows A : Int) = kk at hs2 ⊢
      generalize OV.mkRows k A = A2 at hs2 hc hA2
      have gm : ∀ (c : List Cell) (Y : List (List Cell)), (OV.cells A2 ++ c :: Y)[i]? = some c := fun c Y => get_mid hA2
      have sm : ∀ (c c2 : List Cell) (Y : List (List Cell)), (OV.cells A2 ++ c :: Y).set i c2 = OV.cells A2 ++ c2 :: Y := fun c c2 Y => set_mid hA2
      have hc0 := hc
      simp only [List.append_assoc, List.cons_append, List.nil_append, List.append_nil, OV.row_cons, OV.row_nil, OV.v_rows, rowsRows_cons, rowsRows_app, cells_append, cells_cons, cellv_cons, cellv_nil, OV.val_v] at hc0
      have hgn := hc0.owns (n, _) List.mem_cons_self
      simp only at hgn
      have iw0_0 : IntKind.i64.wrap (kk + 1) = kk + 1 := IntWalk.i64_in _ (by omega)
      have iw0_1 : IntKind.i64.wrap (kk + 1 + 1) = kk + 1 + 1 := IntWalk.i64_in _ (by omega)
      simp (maxSteps := 1000000) -dsimp -implicitDefEqProofs only [go_sem, ↓reduceIte, keep39, ib39, mk39, Try.f39, hgn, gm, sm, upd_upd, upd_same, o_2.flat, o_2.one, iw0_0, iw0_1]
      repeat' (with_reducible first | intro _ | refine And.intro ?_ ?_)
      all_goals try omega
      have hq0 := hc0.trans (Chg.set (o' := .row 3 (OV.cells A2 ++ [.v (.int .i64 (kk)), .v (.int .i64 (kk + 1)), .v y_2.val] :: OV.cells B)) hc0.owns (hc0.nodup nd))
      have hg0 : upd g n (.row 3 (OV.cells A2 ++ [.v (.int .i64 (kk)), .v (.int .i64 (kk + 1)), .v y_2.val] :: OV.cells B)) n = some (.row 3 (OV.cells A2 ++ [.v (.int .i64 (kk)), .v (.int .i64 (kk + 1)), .v y_2.val] :: OV.cells B)) := upd_same _ _ _
      have hp0 : Chg h (upd g n (.row 3 (OV.cells A2 ++ [.v (.int .i64 (kk)), .v (.int .i64 (kk + 1)), .v y_2.val] :: OV.cells B))) L0 (((n, .row 3 (OV.cells A2 ++ [.v (.int .i64 (kk)), .v (.int .i64 (kk + 1)), .v y_2.val] :: OV.cells B)) :: (OV.rowsRows A2)) ++ (y_2.rows ++ (OV.rowsRows B))) := by simpa only [List.append_assoc, List.cons_append, List.nil_append, List.append_nil, OV.row_cons, OV.row_nil, OV.v_rows, rowsRows_cons, rowsRows_app, cells_append, cells_cons, cellv_cons, cellv_nil, OV.val_v] using hq0
      refine HFnF.mkH ((mark_Int64S l[i].fGrad) y_2 (kk + 1 + 1) _ o_2 (by omega) (by omega) hp0.owns.right.left (nodup_mid (hp0.nodup nd))) ?_
      rintro r g0 ⟨rfl, hch0⟩
      have hr0 := hp0.trans (Chg.mid hp0.owns (hp0.nodup nd) hch0)
      have hg0r := hr0.owns (n, _) List.mem_cons_self
      simp only at hg0r
      have hkb0 : ∃ z : Int, z = kk + 1 + 1 + (y_2.ct : Int) := ⟨_, rfl⟩
      obtain ⟨kk0, hkb0⟩ := hkb0
      rw [← hkb0]
      simp (maxSteps := 1000000) -dsimp -implicitDefEqProofs only [go_sem, ↓reduceIte, keep39, ib39, mk39, Try.f39, hg0r, gm, sm, upd_upd, upd_same, o_2.flat, o_2.one, iw0_0, iw0_1]
      refine ⟨(i + 1, g0), ?_⟩
      simp only [t3, t4, hs2, hs3]
      refine ⟨?_, Heap.le_refl _, ⟨by omega, ?_⟩, by omega⟩
      · repeat' (with_reducible refine And.intro ?_ ?_)
        all_goals first | rfl | trivial | omega | (rw [IntWalk.i64_in _ (by omega)]; omega)
      · simpa only [List.append_assoc, List.cons_append, List.nil_append, List.append_nil, OV.row_cons, OV.row_nil, OV.v_rows, rowsRows_cons, rowsRows_app, cells_append, cells_cons, cellv_cons, cellv_nil, OV.val_v, o_2.mk_val, hkb0] using hr0
    · have hi2 : i = es.length := by omega
      subst hi2
      rw [List.take_length, List.drop_length, List.append_nil] at hc
      rw [List.take_length]
      simp (maxSteps := 1000000) -dsimp -implicitDefEqProofs only [go_sem, ↓reduceIte, keep39, ib39, mk39, Try.f39, Int.lt_irrefl, Nat.lt_irrefl]
      try intro _
      refine ⟨g, Heap.le_refl _, ?_⟩
      first | exact hc | exact ⟨rfl, hc⟩

def keep14 : List Nat := [0, 1, 2, 4]
def ib14 : List Nat := [2]
def mk14 : Marks := fun _ => ([], .nil, [])
set_option maxRecDepth 100000 in
theorem mark_Service (x : DService) : MarkA Try.prog 14 x.o := by
  intro e k h he h0 h1 ho nd
  obtain ⟨y_0, y_3, y_4, y_5, y_6, y_7, y_8, rfl, o_0, o_3, o_4, o_5, o_6, o_7, o_8⟩ := he
  simp only [OV.ctTop_cons, OV.ctTop_nil, OV.ctT_v, OV.mkTop_cons, OV.mkTop_nil, OV.mkT_v, Nat.add_zero, Nat.zero_add, zero_cast, Int.add_zero, Int.zero_add, o_0.ctT, o_0.mkT, o_3.ctT, o_3.mkT, o_4.ctT, o_4.mkT, o_5.ctT, o_5.mkT, o_6.ctT, o_6.mkT, o_7.ctT, o_7.mkT, o_8.ctT, o_8.mkT] at h1 ⊢
  have hc0 := Chg.refl ho
  simp only [List.append_assoc, List.cons_append, List.nil_append, List.append_nil, OV.row_cons, OV.row_nil, OV.v_rows, rowsRows_cons, rowsRows_app, cells_append, cells_cons, cellv_cons, cellv_nil, OV.val_v] at hc0 nd ⊢
  obtain ⟨L0, hL0⟩ : ∃ L : List (Nat × HObj), L = (y_0.rows ++ (y_3.rows ++ (y_4.rows ++ (y_5.rows ++ (y_6.rows ++ (y_7.rows ++ (y_8.rows))))))) := ⟨_, rfl⟩
  replace hc0 : Chg h h L0 (y_0.rows ++ (y_3.rows ++ (y_4.rows ++ (y_5.rows ++ (y_6.rows ++ (y_7.rows ++ (y_8.rows))))))) := by rw [hL0]; exact hc0
  rw [← hL0] at nd ⊢
  refine fnHF 26 keep14 ib14 mk14 mix Try.func14 rfl (by kernel_rfl) (by simp) ?_
  simp (maxSteps := 1000000) -dsimp -implicitDefEqProofs only [go_sem, ↓reduceIte, keep14, ib14, mk14, Try.f14, OV.map_val, OV.map_val_nil, OV.val_v, o_0.flat, o_0.one, o_3.flat, o_3.one, o_4.flat, o_4.one, o_5.flat, o_5.one, o_6.flat, o_6.one, o_7.flat, o_7.one, o_8.flat, o_8.one]
  have hp0 : Chg h h L0 ((([] : List (Nat × HObj))) ++ ((y_0.rows ++ (y_3.rows ++ (y_4.rows))) ++ (y_5.rows ++ y_6.rows ++ y_7.rows ++ y_8.rows))) := by simpa only [List.append_assoc, List.cons_append, List.nil_append, List.append_nil, OV.row_cons, OV.row_nil, OV.v_rows, rowsRows_cons, rowsRows_app, cells_append, cells_cons, cellv_cons, cellv_nil, OV.val_v] using hc0
  have hs0 := mark_Job x.fJob [y_0, .v (.int .i64 x.fJob.fFunc), .v (.int .i64 x.fJob.fShared), y_3, y_4] (k) h ⟨y_0, y_3, y_4, rfl, o_0, o_3, o_4⟩ (by omega) (by simp only [OV.ctTop_cons, OV.ctTop_nil, OV.ctT_v, OV.mkTop_cons, OV.mkTop_nil, OV.mkT_v, Nat.add_zero, Nat.zero_add, zero_cast, Int.add_zero, Int.zero_add, o_0.ctT, o_0.mkT, o_3.ctT, o_3.mkT, o_4.ctT, o_4.mkT, o_5.ctT, o_5.mkT, o_6.ctT, o_6.mkT, o_7.ctT, o_7.mkT, o_8.ctT, o_8.mkT]; omega) (by simpa only [List.append_assoc, List.cons_append, List.nil_append, List.append_nil, OV.row_cons, OV.row_nil, OV.v_rows, rowsRows_cons, rowsRows_app, cells_append, cells_cons, cellv_cons, cellv_nil, OV.val_v] using hp0.owns.right.left) (by simpa only [List.append_assoc, List.cons_append, List.nil_append, List.append_nil, OV.row_cons, OV.row_nil, OV.v_rows, rowsRows_cons, rowsRows_app, cells_append, cells_cons, cellv_cons, cellv_nil, OV.val_v] using nodup_mid (hp0.nodup nd))
  simp only [OV.ctTop_cons, OV.ctTop_nil, OV.ctT_v, OV.mkTop_cons, OV.mkTop_nil, OV.mkT_v, Nat.add_zero, Nat.zero_add, zero_cast, Int.add_zero, Int.zero_add, o_0.ctT, o_0.mkT, o_3.ctT, o_3.mkT, o_4.ctT, o_4.mkT, o_5.ctT, o_5.mkT, o_6.ctT, o_6.mkT, o_7.ctT, o_7.mkT, o_8.ctT, o_8.mkT, List.append_assoc, List.cons_append, List.nil_append, List.append_nil, OV.row_cons, OV.row_nil, OV.v_rows, rowsRows_cons, rowsRows_app, cells_append, cells_cons, cellv_cons, cellv_nil, OV.val_v, OV.map_val, OV.map_val_nil, Int.natCast_add, ← Int.add_assoc] at hs0
  refine HFnF.mkH hs0 ?_
  rintro r g0 ⟨rfl, hch0⟩
  have hr0 := hp0.trans (Chg.mid hp0.owns (hp0.nodup nd) (by simpa only [List.append_assoc, List.cons_append, List.nil_append, List.append_nil, OV.row_cons, OV.row_nil, OV.v_rows, rowsRows_cons, rowsRows_app, cells_append, cells_cons, cellv_cons, cellv_nil, OV.val_v] using hch0))
  simp (maxSteps := 1000000) -dsimp -implicitDefEqProofs only [go_sem, ↓reduceIte, keep14, ib14, mk14, Try.f14, OV.map_val, OV.map_val_nil, OV.val_v, o_0.flat, o_0.one, o_3.flat, o_3.one, o_4.flat, o_4.one, o_5.flat, o_5.one, o_6.flat, o_6.one, o_7.flat, o_7.one, o_8.flat, o_8.one]
  have hp1 : Chg h g0 L0 (((y_0.mk (k)).rows ++ (y_3.mk (k + (y_0.ct : Int))).rows ++ (y_4.mk (k + (y_0.ct : Int) + (y_3.ct : Int))).rows) ++ ((y_5.rows) ++ (y_6.rows ++ y_7.rows ++ y_8.rows))) := by simpa only [List.append_assoc, List.cons_append, List.nil_append, List.append_nil, OV.row_cons, OV.row_nil, OV.v_rows, rowsRows_cons, rowsRows_app, cells_append, cells_cons, cellv_cons, cellv_nil, OV.val_v] using hr0
  refine HFnF.mkH (mark_Int64S x.fStamps y_5 (k + (y_0.ct : Int) + (y_3.ct : Int) + (y_4.ct : Int)) _ o_5 (by omega) (by omega) hp1.owns.right.left (nodup_mid (hp1.nodup nd))) ?_
  rintro r g1 ⟨rfl, hch1⟩
  have hr1 := hp1.trans (Chg.mid hp1.owns (hp1.nodup nd) (by simpa only [List.append_assoc, List.cons_append, List.nil_append, List.append_nil, OV.row_cons, OV.row_nil, OV.v_rows, rowsRows_cons, rowsRows_app, cells_append, cells_cons, cellv_cons, cellv_nil, OV.val_v] using hch1))
  simp (maxSteps := 1000000) -dsimp -implicitDefEqProofs only [go_sem, ↓reduceIte, keep14, ib14, mk14, Try.f14, OV.map_val, OV.map_val_nil, OV.val_v, o_0.flat, o_0.one, o_3.flat, o_3.one, o_4.flat, o_4.one, o_5.flat, o_5.one, o_6.flat, o_6.one, o_7.flat, o_7.one, o_8.flat, o_8.one]
  have hp2 : Chg h g1 L0 (((y_0.mk (k)).rows ++ (y_3.mk (k + (y_0.ct : Int))).rows ++ (y_4.mk (k + (y_0.ct : Int) + (y_3.ct : Int))).rows ++ (y_5.mk (k + (y_0.ct : Int) + (y_3.ct : Int) + (y_4.ct : Int))).rows) ++ ((y_6.rows) ++ (y_7.rows ++ y_8.rows))) := by simpa only [List.append_assoc, List.cons_append, List.nil_append, List.append_nil, OV.row_cons, OV.row_nil, OV.v_rows, rowsRows_cons, rowsRows_app, cells_append, cells_cons, cellv_cons, cellv_nil, OV.val_v] using hr1
  refine HFnF.mkH (mark_BoolS x.fKnown y_6 (k + (y_0.ct : Int) + (y_3.ct : Int) + (y_4.ct : Int) + (y_5.ct : Int)) _ o_6 (by omega) (by omega) hp2.owns.right.left (nodup_mid (hp2.nodup nd))) ?_
  rintro r g2 ⟨rfl, hch2⟩
  have hr2 := hp2.trans (Chg.mid hp2.owns (hp2.nodup nd) (by simpa only [List.append_assoc, List.cons_append, List.nil_append, List.append_nil, OV.row_cons, OV.row_nil, OV.v_rows, rowsRows_cons, rowsRows_app, cells_append, cells_cons, cellv_cons, cellv_nil, OV.val_v] using hch2))
  simp (maxSteps := 1000000) -dsimp -implicitDefEqProofs only [go_sem, ↓reduceIte, keep14, ib14, mk14, Try.f14, OV.map_val, OV.map_val_nil, OV.val_v, o_0.flat, o_0.one, o_3.flat, o_3.one, o_4.flat, o_4.one, o_5.flat, o_5.one, o_6.flat, o_6.one, o_7.flat, o_7.one, o_8.flat, o_8.one]
  have hp3 : Chg h g2 L0 (((y_0.mk (k)).rows ++ (y_3.mk (k + (y_0.ct : Int))).rows ++ (y_4.mk (k + (y_0.ct : Int) + (y_3.ct : Int))).rows ++ (y_5.mk (k + (y_0.ct : Int) + (y_3.ct : Int) + (y_4.ct : Int))).rows ++ (y_6.mk (k + (y_0.ct : Int) + (y_3.ct : Int) + (y_4.ct : Int) + (y_5.ct : Int))).rows) ++ ((y_7.rows) ++ (y_8.rows))) := by simpa only [List.append_assoc, List.cons_append, List.nil_append, List.append_nil, OV.row_cons, OV.row_nil, OV.v_rows, rowsRows_cons, rowsRows_app, cells_append, cells_cons, cellv_cons, cellv_nil, OV.val_v] using hr2
  refine HFnF.mkH (mark_PartS x.fParts y_7 (k + (y_0.ct : Int) + (y_3.ct : Int) + (y_4.ct : Int) + (y_5.ct : Int) + (y_6.ct : Int)) _ o_7 (by omega) (by omega) hp3.owns.right.left (nodup_mid (hp3.nodup nd))) ?_
  rintro r g3 ⟨rfl, hch3⟩
  have hr3 := hp3.trans (Chg.mid hp3.owns (hp3.nodup nd) (by simpa only [List.append_assoc, List.cons_append, List.nil_append, List.append_nil, OV.row_cons, OV.row_nil, OV.v_rows, rowsRows_cons, rowsRows_app, cells_append, cells_cons, cellv_cons, cellv_nil, OV.val_v] using hch3))
  simp (maxSteps := 1000000) -dsimp -implicitDefEqProofs only [go_sem, ↓reduceIte, keep14, ib14, mk14, Try.f14, OV.map_val, OV.map_val_nil, OV.val_v, o_0.flat, o_0.one, o_3.flat, o_3.one, o_4.flat, o_4.one, o_5.flat, o_5.one, o_6.flat, o_6.one, o_7.flat, o_7.one, o_8.flat, o_8.one]
  have hp4 : Chg h g3 L0 (((y_0.mk (k)).rows ++ (y_3.mk (k + (y_0.ct : Int))).rows ++ (y_4.mk (k + (y_0.ct : Int) + (y_3.ct : Int))).rows ++ (y_5.mk (k + (y_0.ct : Int) + (y_3.ct : Int) + (y_4.ct : Int))).rows ++ (y_6.mk (k + (y_0.ct : Int) + (y_3.ct : Int) + (y_4.ct : Int) + (y_5.ct : Int))).rows ++ (y_7.mk (k + (y_0.ct : Int) + (y_3.ct : Int) + (y_4.ct : Int) + (y_5.ct : Int) + (y_6.ct : Int))).rows) ++ ((y_8.rows) ++ (([] : List (Nat × HObj))))) := by simpa only [List.append_assoc, List.cons_append, List.nil_append, List.append_nil, OV.row_cons, OV.row_nil, OV.v_rows, rowsRows_cons, rowsRows_app, cells_append, cells_cons, cellv_cons, cellv_nil, OV.val_v] using hr3
  refine HFnF.mkH (mark_Int64S x.fOwners y_8 (k + (y_0.ct : Int) + (y_3.ct : Int) + (y_4.ct : Int) + (y_5.ct : Int) + (y_6.ct : Int) + (y_7.ct : Int)) _ o_8 (by omega) (by omega) hp4.owns.right.left (nodup_mid (hp4.nodup nd))) ?_
  rintro r g4 ⟨rfl, hch4⟩
  have hr4 := hp4.trans (Chg.mid hp4.owns (hp4.nodup nd) (by simpa only [List.append_assoc, List.cons_append, List.nil_append, List.append_nil, OV.row_cons, OV.row_nil, OV.v_rows, rowsRows_cons, rowsRows_app, cells_append, cells_cons, cellv_cons, cellv_nil, OV.val_v] using hch4))
  simp (maxSteps := 1000000) -dsimp -implicitDefEqProofs only [go_sem, ↓reduceIte, keep14, ib14, mk14, Try.f14, OV.map_val, OV.map_val_nil, OV.val_v, o_0.flat, o_0.one, o_3.flat, o_3.one, o_4.flat, o_4.one, o_5.flat, o_5.one, o_6.flat, o_6.one, o_7.flat, o_7.one, o_8.flat, o_8.one]
  refine ⟨g4, Heap.le_refl _, ?_⟩
  first
    | exact ⟨by congr 1; omega, by simpa only [List.append_assoc, List.cons_append, List.nil_append, List.append_nil, OV.row_cons, OV.row_nil, OV.v_rows, rowsRows_cons, rowsRows_app, cells_append, cells_cons, cellv_cons, cellv_nil, OV.val_v, Int.natCast_add, ← Int.add_assoc] using hr4⟩
    | exact ⟨by omega, by simpa only [List.append_assoc, List.cons_append, List.nil_append, List.append_nil, OV.row_cons, OV.row_nil, OV.v_rows, rowsRows_cons, rowsRows_app, cells_append, cells_cons, cellv_cons, cellv_nil, OV.val_v, Int.natCast_add, ← Int.add_assoc] using hr4⟩
    | simpa only [List.append_assoc, List.cons_append, List.nil_append, List.append_nil, OV.row_cons, OV.row_nil, OV.v_rows, rowsRows_cons, rowsRows_app, cells_append, cells_cons, cellv_cons, cellv_nil, OV.val_v, Int.natCast_add, ← Int.add_assoc] using hr4

open Go.Proofs
set_option linter.unusedVariables false
set_option linter.unusedSimpArgs false


def keep106 : List Nat := [0, 1, 4, 5, 9, 18, 27, 36, 45, 56]
def ib106 : List Nat := []
def mk106 : Marks := fun _ => ([], .nil, [])
set_option maxRecDepth 100000 in
theorem held_ExprS_step (l : List DExpr) (hk : ∀ x ∈ l, HeldS Try.prog 106 (OS DExpr.o 5 x.fKids)) : HeldS Try.prog 106 (OS DExpr.o 5 l) := by
  intro y k hy h0 h1
  rcases hy with ⟨rfl, hl⟩ | ⟨n, es, rfl, hor⟩
  · rw [OV.mk_nil, dat_nil, OV.ct_nil]
    refine fn0F 58 keep106 ib106 mk106 mix Try.func106 rfl (by kernel_rfl) (by simp) fun h => ?_
    simp (maxSteps := 1000000) -dsimp -implicitDefEqProofs only [go_sem, ↓reduceIte, keep106, ib106, mk106, Try.f106]
    refine loopF (keep := keep106) (ib := ib106) (mk := mk106) mix (by kernel_rfl) (fun _ : Unit => [(0, .sl 5 [] false), (1, I k), (5, I 0)]) (fun _ => h) (fun _ => True) (fun _ => 0) () (by simp [SatL, tget, Heap.le_refl]) ?_
    intro _ _
    simp (maxSteps := 1000000) -dsimp -implicitDefEqProofs only [go_sem, ↓reduceIte, keep106, ib106, mk106, Try.f106, zero_cast, Int.lt_irrefl]
    first | done | (intro _; simp) | simp
  · rw [OV.mk_sl, dat_sl, OV.ct_sl]
    rw [OV.ct_sl] at h1
    have hlen : (OV.datRows (OV.mkRows k es)).length = es.length := by rw [datRows_len, OV.mkRows_len]
    refine fn0F 58 keep106 ib106 mk106 mix Try.func106 rfl (by kernel_rfl) (by simp) fun h => ?_
    simp (maxSteps := 1000000) -dsimp -implicitDefEqProofs only [go_sem, ↓reduceIte, keep106, ib106, mk106, Try.f106, hlen]
    refine loopF (keep := keep106) (ib := ib106) (mk := mk106) mix (by kernel_rfl) (fun i : Nat => [(0, .sl 5 (OV.datRows (OV.mkRows k es)) false), (1, I (k + OV.ctRows (es.take i))), (5, I i)]) (fun _ => h) (fun i => i ≤ es.length) (fun i => es.length - i) 0 (by simp [SatL, tget, OV.ctRows, Heap.le_refl]) ?_
    intro i hi
    rcases Nat.lt_or_ge i es.length with hlt | hge
    · have hll : i < l.length := by rw [hor.length]; exact hlt
      obtain ⟨A, e, B, rfl, hA, he⟩ := hor.split i hll
      have t1 : (A ++ e :: B).take i = A := by rw [← hA]; simp
      have t0 : A ++ e :: B = (A ++ [e]) ++ B := by simp
      have t3 : (A ++ e :: B).take (i + 1) = A ++ [e] := by rw [t0]; exact List.take_left' (by simp [hA])
      clear t0
      have hct := OV.ctRows_append A (e :: B)
      rw [OV.ctRows] at hct
      rw [t1]
      have hs3 := OV.ctRows_snoc A e
      have hD : OV.datRows (OV.mkRows k (A ++ e :: B)) = OV.datRows (OV.mkRows k A) ++ (OV.mkRow (k + (OV.ctRows A : Int)) e).map OV.dat :: OV.datRows (OV.mkRows (k + (OV.ctRows A : Int) + (OV.ctRow e : Int)) B) := by
        rw [OV.mkRows_append, datRows_append, OV.mkRows, datRows_cons]
      have hA2 : (OV.datRows (OV.mkRows k A)).length = i := by rw [datRows_len, OV.mkRows_len, hA]
      have hi2 : (i : Int) < (A ++ e :: B).length := by omega
      rw [DExpr.o_iff] at he
      obtain ⟨y_4, rfl, o_4⟩ := he
      simp only [OV.ctRow_cons, OV.ctRow_nil, OV.ct_v, Nat.add_zero, one_cast] at hct hs3
      generalize hkk : k + (OV.ctRows A : Int) = kk at hD ⊢
      have gm : (OV.datRows (OV.mkRows k (A ++ [.v (.int .i64 l[i].fKind), .v (.int .i64 l[i].fNum), .v (.int .i64 l[i].fPick), .v (.int .i64 l[i].fCount), y_4] :: B)))[i]? = some ((OV.mkRow kk [.v (.int .i64 l[i].fKind), .v (.int .i64 l[i].fNum), .v (.int .i64 l[i].fPick), .v (.int .i64 l[i].fCount), y_4]).map OV.dat) := by rw [hD]; exact get_mid hA2
      simp only [OV.mkRow_cons, OV.mkRow_nil, OV.mk_v, leaf_int, leaf_bool, leaf_str, OV.ct_v, one_cast, map_dat_cons, map_dat_nil, dat_v] at gm
      clear hD
      generalize OV.datRows (OV.mkRows k (A ++ [.v (.int .i64 l[i].fKind), .v (.int .i64 l[i].fNum), .v (.int .i64 l[i].fPick), .v (.int .i64 l[i].fCount), y_4] :: B)) = DD at gm hlen ⊢
      have iw0_0 : IntKind.i64.wrap (kk + 1) = kk + 1 := IntWalk.i64_in _ (by omega)
      have iw0_1 : IntKind.i64.wrap (kk + 1 + 1) = kk + 1 + 1 := IntWalk.i64_in _ (by omega)
      have iw0_2 : IntKind.i64.wrap (kk + 1 + 1 + 1) = kk + 1 + 1 + 1 := IntWalk.i64_in _ (by omega)
      have iw0_3 : IntKind.i64.wrap (kk + 1 + 1 + 1 + 1) = kk + 1 + 1 + 1 + 1 := IntWalk.i64_in _ (by omega)
      simp (maxSteps := 1000000) -dsimp -implicitDefEqProofs only [go_sem, ↓reduceIte, keep106, ib106, mk106, Try.f106, hlen, hi2, gm, eq_self, decide_true, Bool.not_true, bne_self_eq_false, iw0_0, iw0_1, iw0_2, iw0_3]
      repeat' (with_reducible first | intro _ | refine And.intro ?_ ?_)
      all_goals try omega
      all_goals try (exact absurd rfl (by assumption))
      refine HFnF.mk ((hk l[i] (List.getElem_mem hll)) y_4 (kk + 1 + 1 + 1 + 1) o_4 (by omega) (by omega)) ?_
      have hkb0 : ∃ z : Int, z = kk + 1 + 1 + 1 + 1 + (y_4.ct : Int) := ⟨_, rfl⟩
      obtain ⟨kk0, hkb0⟩ := hkb0
      rw [← hkb0]
      simp (maxSteps := 1000000) -dsimp -implicitDefEqProofs only [go_sem, ↓reduceIte, keep106, ib106, mk106, Try.f106, hlen, hi2, gm, eq_self, decide_true, Bool.not_true, bne_self_eq_false, iw0_0, iw0_1, iw0_2, iw0_3]
      repeat' (with_reducible first | intro _ | refine And.intro ?_ ?_)
      all_goals try omega
      all_goals try (exact absurd rfl (by assumption))
      refine ⟨i + 1, ?_⟩
      simp only [t3, hs3]
      repeat' (with_reducible first | intro _ | refine And.intro ?_ ?_)
      all_goals first | rfl | trivial | omega | exact Heap.le_refl _ | (rw [IntWalk.i64_in _ (by omega)]; omega)
    · have hi2 : i = es.length := by omega
      subst hi2
      rw [List.take_length]
      simp (maxSteps := 1000000) -dsimp -implicitDefEqProofs only [go_sem, ↓reduceIte, keep106, ib106, mk106, Try.f106, hlen, Int.lt_irrefl, Nat.lt_irrefl]
      first | done | (intro _; rfl) | rfl
theorem held_ExprS (l : List DExpr) : HeldS Try.prog 106 (OS DExpr.o 5 l) :=
  held_ExprS_step l fun x hx => held_ExprS x.fKids
termination_by SizeOf.sizeOf l
decreasing_by
  have h1 := List.sizeOf_lt_of_mem hx
  cases x
  simp only [DExpr.mk.sizeOf_spec, DExpr.fKids] at h1 ⊢
  omega



def keep91 : List Nat := [0, 1, 4, 5, 9, 19, 28, 39]
def ib91 : List Nat := []
def mk91 : Marks := fun id => match id with | 4 => ([], (.op 0 (.op 1 (.op 2 (.op 3 (.op 4 (.op 5 (.op 6 (.op 7 .nil)))))))), []) | _ => ([], .nil, [])
set_option maxRecDepth 100000 in
theorem held_FuncS (l : List DFunc) : HeldS Try.prog 91 (OS DFunc.o 3 l) := by
  intro y k hy h0 h1
  rcases hy with ⟨rfl, hl⟩ | ⟨n, es, rfl, hor⟩
  · rw [OV.mk_nil, dat_nil, OV.ct_nil]
    refine fn0F 41 keep91 ib91 mk91 mix Try.func91 rfl (by kernel_rfl) (by simp) fun h => ?_
    simp (maxSteps := 1000000) -dsimp -implicitDefEqProofs only [go_sem, ↓reduceIte, keep91, ib91, mk91, Try.f91]
    refine loopF (keep := keep91) (ib := ib91) (mk := mk91) mix (by kernel_rfl) (fun _ : Unit => [(0, .sl 3 [] false), (1, I k), (5, I 0)]) (fun _ => h) (fun _ => True) (fun _ => 0) () (by simp [SatL, tget, Heap.le_refl]) ?_
    intro _ _
    simp (maxSteps := 1000000) -dsimp -implicitDefEqProofs only [go_sem, ↓reduceIte, keep91, ib91, mk91, Try.f91, zero_cast, Int.lt_irrefl]
    first | done | (intro _; simp) | simp
  · rw [OV.mk_sl, dat_sl, OV.ct_sl]
    rw [OV.ct_sl] at h1
    have hlen : (OV.datRows (OV.mkRows k es)).length = es.length := by rw [datRows_len, OV.mkRows_len]
    refine fn0F 41 keep91 ib91 mk91 mix Try.func91 rfl (by kernel_rfl) (by simp) fun h => ?_
    simp (maxSteps := 1000000) -dsimp -implicitDefEqProofs only [go_sem, ↓reduceIte, keep91, ib91, mk91, Try.f91, hlen]
    refine loopF (keep := keep91) (ib := ib91) (mk := mk91) mix (by kernel_rfl) (fun i : Nat => [(0, .sl 3 (OV.datRows (OV.mkRows k es)) false), (1, I (k + OV.ctRows (es.take i))), (5, I i)]) (fun _ => h) (fun i => i ≤ es.length) (fun i => es.length - i) 0 (by simp [SatL, tget, OV.ctRows, Heap.le_refl]) ?_
    intro i hi
    rcases Nat.lt_or_ge i es.length with hlt | hge
    · have hll : i < l.length := by rw [hor.length]; exact hlt
      obtain ⟨A, e, B, rfl, hA, he⟩ := hor.split i hll
      have t1 : (A ++ e :: B).take i = A := by rw [← hA]; simp
      have t0 : A ++ e :: B = (A ++ [e]) ++ B := by simp
      have t3 : (A ++ e :: B).take (i + 1) = A ++ [e] := by rw [t0]; exact List.take_left' (by simp [hA])
      clear t0
      have hct := OV.ctRows_append A (e :: B)
      rw [OV.ctRows] at hct
      rw [t1]
      have hs3 := OV.ctRows_snoc A e
      have hD : OV.datRows (OV.mkRows k (A ++ e :: B)) = OV.datRows (OV.mkRows k A) ++ (OV.mkRow (k + (OV.ctRows A : Int)) e).map OV.dat :: OV.datRows (OV.mkRows (k + (OV.ctRows A : Int) + (OV.ctRow e : Int)) B) := by
        rw [OV.mkRows_append, datRows_append, OV.mkRows, datRows_cons]
      have hA2 : (OV.datRows (OV.mkRows k A)).length = i := by rw [datRows_len, OV.mkRows_len, hA]
      have hi2 : (i : Int) < (A ++ e :: B).length := by omega
      obtain ⟨y_2, rfl, o_2⟩ := he
      simp only [OV.ctRow_cons, OV.ctRow_nil, OV.ct_v, Nat.add_zero, one_cast] at hct hs3
      generalize hkk : k + (OV.ctRows A : Int) = kk at hD ⊢
      have gm : (OV.datRows (OV.mkRows k (A ++ [.v (.str l[i].fName), .v (.int .i64 l[i].fParams), y_2] :: B)))[i]? = some ((OV.mkRow kk [.v (.str l[i].fName), .v (.int .i64 l[i].fParams), y_2]).map OV.dat) := by rw [hD]; exact get_mid hA2
      simp only [OV.mkRow_cons, OV.mkRow_nil, OV.mk_v, leaf_int, leaf_bool, leaf_str, OV.ct_v, one_cast, map_dat_cons, map_dat_nil, dat_v] at gm
      clear hD
      generalize OV.datRows (OV.mkRows k (A ++ [.v (.str l[i].fName), .v (.int .i64 l[i].fParams), y_2] :: B)) = DD at gm hlen ⊢
      have iw0_0 : IntKind.i64.wrap (kk + 1) = kk + 1 := IntWalk.i64_in _ (by omega)
      have iw0_1 : IntKind.i64.wrap (kk + 1 + 1) = kk + 1 + 1 := IntWalk.i64_in _ (by omega)
      simp (maxSteps := 1000000) -dsimp -implicitDefEqProofs only [go_sem, ↓reduceIte, keep91, ib91, mk91, Try.f91, hlen, hi2, gm, eq_self, decide_true, Bool.not_true, bne_self_eq_false, iw0_0, iw0_1]
      repeat' (with_reducible first | intro _ | refine And.intro ?_ ?_)
      all_goals try omega
      all_goals try (exact absurd rfl (by assumption))
      first | refine HFnF.mk (markText (kk) (by omega)) ?_ | refine CallSF.mk (markText (kk) (by omega)) ?_
      simp (maxSteps := 1000000) -dsimp -implicitDefEqProofs only [go_sem, ↓reduceIte, keep91, ib91, mk91, Try.f91, hlen, hi2, gm, eq_self, decide_true, Bool.not_true, bne_self_eq_false, iw0_0, iw0_1]
      repeat' (with_reducible first | intro _ | refine And.intro ?_ ?_)
      all_goals try omega
      all_goals try (exact absurd rfl (by assumption))
      refine HFnF.mk ((held_ExprS l[i].fOuts) y_2 (kk + 1 + 1) o_2 (by omega) (by omega)) ?_
      have hkb0 : ∃ z : Int, z = kk + 1 + 1 + (y_2.ct : Int) := ⟨_, rfl⟩
      obtain ⟨kk0, hkb0⟩ := hkb0
      rw [← hkb0]
      simp (maxSteps := 1000000) -dsimp -implicitDefEqProofs only [go_sem, ↓reduceIte, keep91, ib91, mk91, Try.f91, hlen, hi2, gm, eq_self, decide_true, Bool.not_true, bne_self_eq_false, iw0_0, iw0_1]
      repeat' (with_reducible first | intro _ | refine And.intro ?_ ?_)
      all_goals try omega
      all_goals try (exact absurd rfl (by assumption))
      refine ⟨i + 1, ?_⟩
      simp only [t3, hs3]
      repeat' (with_reducible first | intro _ | refine And.intro ?_ ?_)
      all_goals first | rfl | trivial | omega | exact Heap.le_refl _ | (rw [IntWalk.i64_in _ (by omega)]; omega)
    · have hi2 : i = es.length := by omega
      subst hi2
      rw [List.take_length]
      simp (maxSteps := 1000000) -dsimp -implicitDefEqProofs only [go_sem, ↓reduceIte, keep91, ib91, mk91, Try.f91, hlen, Int.lt_irrefl, Nat.lt_irrefl]
      first | done | (intro _; rfl) | rfl

def keep73 : List Nat := [0, 1, 2, 4, 10]
def ib73 : List Nat := [2]
def mk73 : Marks := fun _ => ([], .nil, [])
set_option maxRecDepth 100000 in
theorem held_Program (x : DProgram) : HeldA Try.prog 73 x.o := by
  intro e k he h0 h1
  obtain ⟨y_0, rfl, o_0⟩ := he
  simp only [OV.ctTop_cons, OV.ctTop_nil, OV.ctT_v, OV.mkTop_cons, OV.mkTop_nil, OV.mkT_v, Nat.add_zero, Nat.zero_add, zero_cast, Int.add_zero, Int.zero_add, o_0.ctT, o_0.mkT, map_dat_cons, map_dat_nil, dat_v] at h1 ⊢
  refine fn0F 12 keep73 ib73 mk73 mix Try.func73 rfl (by kernel_rfl) (by simp) fun h => ?_
  simp (maxSteps := 1000000) -dsimp -implicitDefEqProofs only [go_sem, ↓reduceIte, keep73, ib73, mk73, Try.f73, o_0.datflat, o_0.datone]
  repeat' (with_reducible first | intro _ | refine And.intro ?_ ?_)
  all_goals try omega
  refine HFnF.mk (held_FuncS x.fFuncs y_0 (k) o_0 (by omega) (by omega)) ?_
  simp (maxSteps := 1000000) -dsimp -implicitDefEqProofs only [go_sem, ↓reduceIte, keep73, ib73, mk73, Try.f73, o_0.datflat, o_0.datone]
  repeat' (with_reducible first | intro _ | refine And.intro ?_ ?_)
  all_goals try omega
  all_goals first | done | rfl | trivial | (congr 1; omega) | omega | (simp only [go_sem]; omega)

def keep16 : List Nat := [0, 1, 4, 5, 9, 17]
def ib16 : List Nat := []
def mk16 : Marks := fun _ => ([], .nil, [])
set_option maxRecDepth 100000 in
theorem held_Int64S (l : List Int) : HeldS Try.prog 16 (OS (oP I) 1 l) := by
  intro y k hy h0 h1
  rcases hy with ⟨rfl, hl⟩ | ⟨n, es, rfl, hor⟩
  · rw [OV.mk_nil, dat_nil, OV.ct_nil]
    refine fn0F 21 keep16 ib16 mk16 mix Try.func16 rfl (by kernel_rfl) (by simp) fun h => ?_
    simp (maxSteps := 1000000) -dsimp -implicitDefEqProofs only [go_sem, ↓reduceIte, keep16, ib16, mk16, Try.f16]
    refine loopF (keep := keep16) (ib := ib16) (mk := mk16) mix (by kernel_rfl) (fun _ : Unit => [(0, .sl 1 [] false), (1, I k), (5, I 0)]) (fun _ => h) (fun _ => True) (fun _ => 0) () (by simp [SatL, tget, Heap.le_refl]) ?_
    intro _ _
    simp (maxSteps := 1000000) -dsimp -implicitDefEqProofs only [go_sem, ↓reduceIte, keep16, ib16, mk16, Try.f16, zero_cast, Int.lt_irrefl]
    first | done | (intro _; simp) | simp
  · rw [OV.mk_sl, dat_sl, OV.ct_sl]
    rw [OV.ct_sl] at h1
    have hlen : (OV.datRows (OV.mkRows k es)).length = es.length := by rw [datRows_len, OV.mkRows_len]
    refine fn0F 21 keep16 ib16 mk16 mix Try.func16 rfl (by kernel_rfl) (by simp) fun h => ?_
    simp (maxSteps := 1000000) -dsimp -implicitDefEqProofs only [go_sem, ↓reduceIte, keep16, ib16, mk16, Try.f16, hlen]
    refine loopF (keep := keep16) (ib := ib16) (mk := mk16) mix (by kernel_rfl) (fun i : Nat => [(0, .sl 1 (OV.datRows (OV.mkRows k es)) false), (1, I (k + OV.ctRows (es.take i))), (5, I i)]) (fun _ => h) (fun i => i ≤ es.length) (fun i => es.length - i) 0 (by simp [SatL, tget, OV.ctRows, Heap.le_refl]) ?_
    intro i hi
    rcases Nat.lt_or_ge i es.length with hlt | hge
    · have hll : i < l.length := by rw [hor.length]; exact hlt
      obtain ⟨A, e, B, rfl, hA, he⟩ := hor.split i hll
      have t1 : (A ++ e :: B).take i = A := by rw [← hA]; simp
      have t0 : A ++ e :: B = (A ++ [e]) ++ B := by simp
      have t3 : (A ++ e :: B).take (i + 1) = A ++ [e] := by rw [t0]; exact List.take_left' (by simp [hA])
      clear t0
      have hct := OV.ctRows_append A (e :: B)
      rw [OV.ctRows] at hct
      rw [t1]
      have hs3 := OV.ctRows_snoc A e
      have hD : OV.datRows (OV.mkRows k (A ++ e :: B)) = OV.datRows (OV.mkRows k A) ++ (OV.mkRow (k + (OV.ctRows A : Int)) e).map OV.dat :: OV.datRows (OV.mkRows (k + (OV.ctRows A : Int) + (OV.ctRow e : Int)) B) := by
        rw [OV.mkRows_append, datRows_append, OV.mkRows, datRows_cons]
      have hA2 : (OV.datRows (OV.mkRows k A)).length = i := by rw [datRows_len, OV.mkRows_len, hA]
      have hi2 : (i : Int) < (A ++ e :: B).length := by omega
      obtain rfl : _ = _ := he
      simp only [OV.ctRow_cons, OV.ctRow_nil, OV.ct_v, Nat.add_zero, one_cast] at hct hs3
      generalize hkk : k + (OV.ctRows A : Int) = kk at hD ⊢
      have gm : (OV.datRows (OV.mkRows k (A ++ [.v (.int .i64 l[i])] :: B)))[i]? = some ((OV.mkRow kk [.v (.int .i64 l[i])]).map OV.dat) := by rw [hD]; exact get_mid hA2
      simp only [OV.mkRow_cons, OV.mkRow_nil, OV.mk_v, leaf_int, leaf_bool, leaf_str, OV.ct_v, one_cast, map_dat_cons, map_dat_nil, dat_v] at gm
      clear hD
      generalize OV.datRows (OV.mkRows k (A ++ [.v (.int .i64 l[i])] :: B)) = DD at gm hlen ⊢
      have iw0_0 : IntKind.i64.wrap (kk + 1) = kk + 1 := IntWalk.i64_in _ (by omega)
      simp (maxSteps := 1000000) -dsimp -implicitDefEqProofs only [go_sem, ↓reduceIte, keep16, ib16, mk16, Try.f16, hlen, hi2, gm, eq_self, decide_true, Bool.not_true, bne_self_eq_false, iw0_0]
      repeat' (with_reducible first | intro _ | refine And.intro ?_ ?_)
      all_goals try omega
      all_goals try (exact absurd rfl (by assumption))
      refine ⟨i + 1, ?_⟩
      simp only [t3, hs3]
      repeat' (with_reducible first | intro _ | refine And.intro ?_ ?_)
      all_goals first | rfl | trivial | omega | exact Heap.le_refl _ | (rw [IntWalk.i64_in _ (by omega)]; omega)
    · have hi2 : i = es.length := by omega
      subst hi2
      rw [List.take_length]
      simp (maxSteps := 1000000) -dsimp -implicitDefEqProofs only [go_sem, ↓reduceIte, keep16, ib16, mk16, Try.f16, hlen, Int.lt_irrefl, Nat.lt_irrefl]
      first | done | (intro _; rfl) | rfl

def keep74 : List Nat := [0, 1, 4, 5, 9, 19]
def ib74 : List Nat := []
def mk74 : Marks := fun _ => ([], .nil, [])
set_option maxRecDepth 100000 in
theorem held_Int64SS (l : List (List Int)) : HeldS Try.prog 74 (OS (oS (oP I) 1) 1 l) := by
  intro y k hy h0 h1
  rcases hy with ⟨rfl, hl⟩ | ⟨n, es, rfl, hor⟩
  · rw [OV.mk_nil, dat_nil, OV.ct_nil]
    refine fn0F 21 keep74 ib74 mk74 mix Try.func74 rfl (by kernel_rfl) (by simp) fun h => ?_
    simp (maxSteps := 1000000) -dsimp -implicitDefEqProofs only [go_sem, ↓reduceIte, keep74, ib74, mk74, Try.f74]
    refine loopF (keep := keep74) (ib := ib74) (mk := mk74) mix (by kernel_rfl) (fun _ : Unit => [(0, .sl 1 [] false), (1, I k), (5, I 0)]) (fun _ => h) (fun _ => True) (fun _ => 0) () (by simp [SatL, tget, Heap.le_refl]) ?_
    intro _ _
    simp (maxSteps := 1000000) -dsimp -implicitDefEqProofs only [go_sem, ↓reduceIte, keep74, ib74, mk74, Try.f74, zero_cast, Int.lt_irrefl]
    first | done | (intro _; simp) | simp
  · rw [OV.mk_sl, dat_sl, OV.ct_sl]
    rw [OV.ct_sl] at h1
    have hlen : (OV.datRows (OV.mkRows k es)).length = es.length := by rw [datRows_len, OV.mkRows_len]
    refine fn0F 21 keep74 ib74 mk74 mix Try.func74 rfl (by kernel_rfl) (by simp) fun h => ?_
    simp (maxSteps := 1000000) -dsimp -implicitDefEqProofs only [go_sem, ↓reduceIte, keep74, ib74, mk74, Try.f74, hlen]
    refine loopF (keep := keep74) (ib := ib74) (mk := mk74) mix (by kernel_rfl) (fun i : Nat => [(0, .sl 1 (OV.datRows (OV.mkRows k es)) false), (1, I (k + OV.ctRows (es.take i))), (5, I i)]) (fun _ => h) (fun i => i ≤ es.length) (fun i => es.length - i) 0 (by simp [SatL, tget, OV.ctRows, Heap.le_refl]) ?_
    intro i hi
    rcases Nat.lt_or_ge i es.length with hlt | hge
    · have hll : i < l.length := by rw [hor.length]; exact hlt
      obtain ⟨A, e, B, rfl, hA, he⟩ := hor.split i hll
      have t1 : (A ++ e :: B).take i = A := by rw [← hA]; simp
      have t0 : A ++ e :: B = (A ++ [e]) ++ B := by simp
      have t3 : (A ++ e :: B).take (i + 1) = A ++ [e] := by rw [t0]; exact List.take_left' (by simp [hA])
      clear t0
      have hct := OV.ctRows_append A (e :: B)
      rw [OV.ctRows] at hct
      rw [t1]
      have hs3 := OV.ctRows_snoc A e
      have hD : OV.datRows (OV.mkRows k (A ++ e :: B)) = OV.datRows (OV.mkRows k A) ++ (OV.mkRow (k + (OV.ctRows A : Int)) e).map OV.dat :: OV.datRows (OV.mkRows (k + (OV.ctRows A : Int) + (OV.ctRow e : Int)) B) := by
        rw [OV.mkRows_append, datRows_append, OV.mkRows, datRows_cons]
      have hA2 : (OV.datRows (OV.mkRows k A)).length = i := by rw [datRows_len, OV.mkRows_len, hA]
      have hi2 : (i : Int) < (A ++ e :: B).length := by omega
      obtain ⟨y_0, rfl, o_0⟩ := he
      simp only [OV.ctRow_cons, OV.ctRow_nil, OV.ct_v, Nat.add_zero, one_cast] at hct hs3
      generalize hkk : k + (OV.ctRows A : Int) = kk at hD ⊢
      have gm : (OV.datRows (OV.mkRows k (A ++ [y_0] :: B)))[i]? = some ((OV.mkRow kk [y_0]).map OV.dat) := by rw [hD]; exact get_mid hA2
      simp only [OV.mkRow_cons, OV.mkRow_nil, OV.mk_v, leaf_int, leaf_bool, leaf_str, OV.ct_v, one_cast, map_dat_cons, map_dat_nil, dat_v] at gm
      clear hD
      generalize OV.datRows (OV.mkRows k (A ++ [y_0] :: B)) = DD at gm hlen ⊢
      simp (maxSteps := 1000000) -dsimp -implicitDefEqProofs only [go_sem, ↓reduceIte, keep74, ib74, mk74, Try.f74, hlen, hi2, gm, eq_self, decide_true, Bool.not_true, bne_self_eq_false]
      repeat' (with_reducible first | intro _ | refine And.intro ?_ ?_)
      all_goals try omega
      all_goals try (exact absurd rfl (by assumption))
      refine HFnF.mk ((held_Int64S l[i]) y_0 (kk) o_0 (by omega) (by omega)) ?_
      have hkb0 : ∃ z : Int, z = kk + (y_0.ct : Int) := ⟨_, rfl⟩
      obtain ⟨kk0, hkb0⟩ := hkb0
      rw [← hkb0]
      simp (maxSteps := 1000000) -dsimp -implicitDefEqProofs only [go_sem, ↓reduceIte, keep74, ib74, mk74, Try.f74, hlen, hi2, gm, eq_self, decide_true, Bool.not_true, bne_self_eq_false]
      repeat' (with_reducible first | intro _ | refine And.intro ?_ ?_)
      all_goals try omega
      all_goals try (exact absurd rfl (by assumption))
      refine ⟨i + 1, ?_⟩
      simp only [t3, hs3]
      repeat' (with_reducible first | intro _ | refine And.intro ?_ ?_)
      all_goals first | rfl | trivial | omega | exact Heap.le_refl _ | (rw [IntWalk.i64_in _ (by omega)]; omega)
    · have hi2 : i = es.length := by omega
      subst hi2
      rw [List.take_length]
      simp (maxSteps := 1000000) -dsimp -implicitDefEqProofs only [go_sem, ↓reduceIte, keep74, ib74, mk74, Try.f74, hlen, Int.lt_irrefl, Nat.lt_irrefl]
      first | done | (intro _; rfl) | rfl

def keep51 : List Nat := [0, 1, 2, 4, 10, 16, 22]
def ib51 : List Nat := [2]
def mk51 : Marks := fun _ => ([], .nil, [])
set_option maxRecDepth 100000 in
theorem held_Job (x : DJob) : HeldA Try.prog 51 x.o := by
  intro e k he h0 h1
  obtain ⟨y_0, y_3, y_4, rfl, o_0, o_3, o_4⟩ := he
  simp only [OV.ctTop_cons, OV.ctTop_nil, OV.ctT_v, OV.mkTop_cons, OV.mkTop_nil, OV.mkT_v, Nat.add_zero, Nat.zero_add, zero_cast, Int.add_zero, Int.zero_add, o_0.ctT, o_0.mkT, o_3.ctT, o_3.mkT, o_4.ctT, o_4.mkT, map_dat_cons, map_dat_nil, dat_v] at h1 ⊢
  refine fn0F 24 keep51 ib51 mk51 mix Try.func51 rfl (by kernel_rfl) (by simp) fun h => ?_
  simp (maxSteps := 1000000) -dsimp -implicitDefEqProofs only [go_sem, ↓reduceIte, keep51, ib51, mk51, Try.f51, o_0.datflat, o_0.datone, o_3.datflat, o_3.datone, o_4.datflat, o_4.datone]
  repeat' (with_reducible first | intro _ | refine And.intro ?_ ?_)
  all_goals try omega
  have hs0 := held_Program x.fProgram [y_0] (k) ⟨y_0, rfl, o_0⟩ (by omega) (by simp only [OV.ctTop_cons, OV.ctTop_nil, OV.ctT_v, OV.mkTop_cons, OV.mkTop_nil, OV.mkT_v, Nat.add_zero, Nat.zero_add, zero_cast, Int.add_zero, Int.zero_add, o_0.ctT, o_0.mkT, o_3.ctT, o_3.mkT, o_4.ctT, o_4.mkT]; omega)
  simp only [OV.ctTop_cons, OV.ctTop_nil, OV.ctT_v, OV.mkTop_cons, OV.mkTop_nil, OV.mkT_v, Nat.add_zero, Nat.zero_add, zero_cast, Int.add_zero, Int.zero_add, o_0.ctT, o_0.mkT, o_3.ctT, o_3.mkT, o_4.ctT, o_4.mkT, map_dat_cons, map_dat_nil, dat_v, Int.natCast_add, ← Int.add_assoc] at hs0
  refine HFnF.mk hs0 ?_
  simp (maxSteps := 1000000) -dsimp -implicitDefEqProofs only [go_sem, ↓reduceIte, keep51, ib51, mk51, Try.f51, o_0.datflat, o_0.datone, o_3.datflat, o_3.datone, o_4.datflat, o_4.datone]
  repeat' (with_reducible first | intro _ | refine And.intro ?_ ?_)
  all_goals try omega
  refine HFnF.mk (held_Int64S x.fPoint y_3 (k + (y_0.ct : Int)) o_3 (by omega) (by omega)) ?_
  simp (maxSteps := 1000000) -dsimp -implicitDefEqProofs only [go_sem, ↓reduceIte, keep51, ib51, mk51, Try.f51, o_0.datflat, o_0.datone, o_3.datflat, o_3.datone, o_4.datflat, o_4.datone]
  repeat' (with_reducible first | intro _ | refine And.intro ?_ ?_)
  all_goals try omega
  refine HFnF.mk (held_Int64SS x.fTerms y_4 (k + (y_0.ct : Int) + (y_3.ct : Int)) o_4 (by omega) (by omega)) ?_
  simp (maxSteps := 1000000) -dsimp -implicitDefEqProofs only [go_sem, ↓reduceIte, keep51, ib51, mk51, Try.f51, o_0.datflat, o_0.datone, o_3.datflat, o_3.datone, o_4.datflat, o_4.datone]
  repeat' (with_reducible first | intro _ | refine And.intro ?_ ?_)
  all_goals try omega
  all_goals first | done | rfl | trivial | (congr 1; omega) | omega | (simp only [go_sem]; omega)


def keep52 : List Nat := [0, 1, 4, 5, 9, 19]
def ib52 : List Nat := []
def mk52 : Marks := fun _ => ([], .nil, [])
set_option maxRecDepth 100000 in
theorem held_BoolS (l : List Bool) : HeldS Try.prog 52 (OS (oP HVal.bool) 1 l) := by
  intro y k hy h0 h1
  rcases hy with ⟨rfl, hl⟩ | ⟨n, es, rfl, hor⟩
  · rw [OV.mk_nil, dat_nil, OV.ct_nil]
    refine fn0F 23 keep52 ib52 mk52 mix Try.func52 rfl (by kernel_rfl) (by simp) fun h => ?_
    simp (maxSteps := 1000000) -dsimp -implicitDefEqProofs only [go_sem, ↓reduceIte, keep52, ib52, mk52, Try.f52]
    refine loopF (keep := keep52) (ib := ib52) (mk := mk52) mix (by kernel_rfl) (fun _ : Unit => [(0, .sl 1 [] false), (1, I k), (5, I 0)]) (fun _ => h) (fun _ => True) (fun _ => 0) () (by simp [SatL, tget, Heap.le_refl]) ?_
    intro _ _
    simp (maxSteps := 1000000) -dsimp -implicitDefEqProofs only [go_sem, ↓reduceIte, keep52, ib52, mk52, Try.f52, zero_cast, Int.lt_irrefl]
    first | done | (intro _; simp) | simp
  · rw [OV.mk_sl, dat_sl, OV.ct_sl]
    rw [OV.ct_sl] at h1
    have hlen : (OV.datRows (OV.mkRows k es)).length = es.length := by rw [datRows_len, OV.mkRows_len]
    refine fn0F 23 keep52 ib52 mk52 mix Try.func52 rfl (by kernel_rfl) (by simp) fun h => ?_
    simp (maxSteps := 1000000) -dsimp -implicitDefEqProofs only [go_sem, ↓reduceIte, keep52, ib52, mk52, Try.f52, hlen]
    refine loopF (keep := keep52) (ib := ib52) (mk := mk52) mix (by kernel_rfl) (fun i : Nat => [(0, .sl 1 (OV.datRows (OV.mkRows k es)) false), (1, I (k + OV.ctRows (es.take i))), (5, I i)]) (fun _ => h) (fun i => i ≤ es.length) (fun i => es.length - i) 0 (by simp [SatL, tget, OV.ctRows, Heap.le_refl]) ?_
    intro i hi
    rcases Nat.lt_or_ge i es.length with hlt | hge
    · have hll : i < l.length := by rw [hor.length]; exact hlt
      obtain ⟨A, e, B, rfl, hA, he⟩ := hor.split i hll
      have t1 : (A ++ e :: B).take i = A := by rw [← hA]; simp
      have t0 : A ++ e :: B = (A ++ [e]) ++ B := by simp
      have t3 : (A ++ e :: B).take (i + 1) = A ++ [e] := by rw [t0]; exact List.take_left' (by simp [hA])
      clear t0
      have hct := OV.ctRows_append A (e :: B)
      rw [OV.ctRows] at hct
      rw [t1]
      have hs3 := OV.ctRows_snoc A e
      have hD : OV.datRows (OV.mkRows k (A ++ e :: B)) = OV.datRows (OV.mkRows k A) ++ (OV.mkRow (k + (OV.ctRows A : Int)) e).map OV.dat :: OV.datRows (OV.mkRows (k + (OV.ctRows A : Int) + (OV.ctRow e : Int)) B) := by
        rw [OV.mkRows_append, datRows_append, OV.mkRows, datRows_cons]
      have hA2 : (OV.datRows (OV.mkRows k A)).length = i := by rw [datRows_len, OV.mkRows_len, hA]
      have hi2 : (i : Int) < (A ++ e :: B).length := by omega
      obtain rfl : _ = _ := he
      simp only [OV.ctRow_cons, OV.ctRow_nil, OV.ct_v, Nat.add_zero, one_cast] at hct hs3
      generalize hkk : k + (OV.ctRows A : Int) = kk at hD ⊢
      have gm : (OV.datRows (OV.mkRows k (A ++ [.v (.bool l[i])] :: B)))[i]? = some ((OV.mkRow kk [.v (.bool l[i])]).map OV.dat) := by rw [hD]; exact get_mid hA2
      simp only [OV.mkRow_cons, OV.mkRow_nil, OV.mk_v, leaf_int, leaf_bool, leaf_str, OV.ct_v, one_cast, map_dat_cons, map_dat_nil, dat_v] at gm
      clear hD
      generalize OV.datRows (OV.mkRows k (A ++ [.v (.bool l[i])] :: B)) = DD at gm hlen ⊢
      have iw0_0 : IntKind.i64.wrap (kk + 1) = kk + 1 := IntWalk.i64_in _ (by omega)
      simp (maxSteps := 1000000) -dsimp -implicitDefEqProofs only [go_sem, ↓reduceIte, keep52, ib52, mk52, Try.f52, hlen, hi2, gm, eq_self, decide_true, Bool.not_true, bne_self_eq_false, iw0_0]
      repeat' (with_reducible first | intro _ | refine And.intro ?_ ?_)
      all_goals try omega
      all_goals try (exact absurd rfl (by assumption))
      refine ⟨i + 1, ?_⟩
      simp only [t3, hs3]
      repeat' (with_reducible first | intro _ | refine And.intro ?_ ?_)
      all_goals first | rfl | trivial | omega | exact Heap.le_refl _ | (rw [IntWalk.i64_in _ (by omega)]; omega)
    · have hi2 : i = es.length := by omega
      subst hi2
      rw [List.take_length]
      simp (maxSteps := 1000000) -dsimp -implicitDefEqProofs only [go_sem, ↓reduceIte, keep52, ib52, mk52, Try.f52, hlen, Int.lt_irrefl, Nat.lt_irrefl]
      first | done | (intro _; rfl) | rfl


def keep53 : List Nat := [0, 1, 4, 5, 9, 18, 27, 38]
def ib53 : List Nat := []
def mk53 : Marks := fun _ => ([], .nil, [])
set_option maxRecDepth 100000 in
theorem held_PartS (l : List DPart) : HeldS Try.prog 53 (OS DPart.o 3 l) := by
  intro y k hy h0 h1
  rcases hy with ⟨rfl, hl⟩ | ⟨n, es, rfl, hor⟩
  · rw [OV.mk_nil, dat_nil, OV.ct_nil]
    refine fn0F 40 keep53 ib53 mk53 mix Try.func53 rfl (by kernel_rfl) (by simp) fun h => ?_
    simp (maxSteps := 1000000) -dsimp -implicitDefEqProofs only [go_sem, ↓reduceIte, keep53, ib53, mk53, Try.f53]
    refine loopF (keep := keep53) (ib := ib53) (mk := mk53) mix (by kernel_rfl) (fun _ : Unit => [(0, .sl 3 [] false), (1, I k), (5, I 0)]) (fun _ => h) (fun _ => True) (fun _ => 0) () (by simp [SatL, tget, Heap.le_refl]) ?_
    intro _ _
    simp (maxSteps := 1000000) -dsimp -implicitDefEqProofs only [go_sem, ↓reduceIte, keep53, ib53, mk53, Try.f53, zero_cast, Int.lt_irrefl]
    first | done | (intro _; simp) | simp
  · rw [OV.mk_sl, dat_sl, OV.ct_sl]
    rw [OV.ct_sl] at h1
    have hlen : (OV.datRows (OV.mkRows k es)).length = es.length := by rw [datRows_len, OV.mkRows_len]
    refine fn0F 40 keep53 ib53 mk53 mix Try.func53 rfl (by kernel_rfl) (by simp) fun h => ?_
    simp (maxSteps := 1000000) -dsimp -implicitDefEqProofs only [go_sem, ↓reduceIte, keep53, ib53, mk53, Try.f53, hlen]
    refine loopF (keep := keep53) (ib := ib53) (mk := mk53) mix (by kernel_rfl) (fun i : Nat => [(0, .sl 3 (OV.datRows (OV.mkRows k es)) false), (1, I (k + OV.ctRows (es.take i))), (5, I i)]) (fun _ => h) (fun i => i ≤ es.length) (fun i => es.length - i) 0 (by simp [SatL, tget, OV.ctRows, Heap.le_refl]) ?_
    intro i hi
    rcases Nat.lt_or_ge i es.length with hlt | hge
    · have hll : i < l.length := by rw [hor.length]; exact hlt
      obtain ⟨A, e, B, rfl, hA, he⟩ := hor.split i hll
      have t1 : (A ++ e :: B).take i = A := by rw [← hA]; simp
      have t0 : A ++ e :: B = (A ++ [e]) ++ B := by simp
      have t3 : (A ++ e :: B).take (i + 1) = A ++ [e] := by rw [t0]; exact List.take_left' (by simp [hA])
      clear t0
      have hct := OV.ctRows_append A (e :: B)
      rw [OV.ctRows] at hct
      rw [t1]
      have hs3 := OV.ctRows_snoc A e
      have hD : OV.datRows (OV.mkRows k (A ++ e :: B)) = OV.datRows (OV.mkRows k A) ++ (OV.mkRow (k + (OV.ctRows A : Int)) e).map OV.dat :: OV.datRows (OV.mkRows (k + (OV.ctRows A : Int) + (OV.ctRow e : Int)) B) := by
        rw [OV.mkRows_append, datRows_append, OV.mkRows, datRows_cons]
      have hA2 : (OV.datRows (OV.mkRows k A)).length = i := by rw [datRows_len, OV.mkRows_len, hA]
      have hi2 : (i : Int) < (A ++ e :: B).length := by omega
      obtain ⟨y_2, rfl, o_2⟩ := he
      simp only [OV.ctRow_cons, OV.ctRow_nil, OV.ct_v, Nat.add_zero, one_cast] at hct hs3
      generalize hkk : k + (OV.ctRows A : Int) = kk at hD ⊢
      have gm : (OV.datRows (OV.mkRows k (A ++ [.v (.int .i64 l[i].fCode), .v (.int .i64 l[i].fValue), y_2] :: B)))[i]? = some ((OV.mkRow kk [.v (.int .i64 l[i].fCode), .v (.int .i64 l[i].fValue), y_2]).map OV.dat) := by rw [hD]; exact get_mid hA2
      simp only [OV.mkRow_cons, OV.mkRow_nil, OV.mk_v, leaf_int, leaf_bool, leaf_str, OV.ct_v, one_cast, map_dat_cons, map_dat_nil, dat_v] at gm
      clear hD
      generalize OV.datRows (OV.mkRows k (A ++ [.v (.int .i64 l[i].fCode), .v (.int .i64 l[i].fValue), y_2] :: B)) = DD at gm hlen ⊢
      have iw0_0 : IntKind.i64.wrap (kk + 1) = kk + 1 := IntWalk.i64_in _ (by omega)
      have iw0_1 : IntKind.i64.wrap (kk + 1 + 1) = kk + 1 + 1 := IntWalk.i64_in _ (by omega)
      simp (maxSteps := 1000000) -dsimp -implicitDefEqProofs only [go_sem, ↓reduceIte, keep53, ib53, mk53, Try.f53, hlen, hi2, gm, eq_self, decide_true, Bool.not_true, bne_self_eq_false, iw0_0, iw0_1]
      repeat' (with_reducible first | intro _ | refine And.intro ?_ ?_)
      all_goals try omega
      all_goals try (exact absurd rfl (by assumption))
      refine HFnF.mk ((held_Int64S l[i].fGrad) y_2 (kk + 1 + 1) o_2 (by omega) (by omega)) ?_
      have hkb0 : ∃ z : Int, z = kk + 1 + 1 + (y_2.ct : Int) := ⟨_, rfl⟩
      obtain ⟨kk0, hkb0⟩ := hkb0
      rw [← hkb0]
      simp (maxSteps := 1000000) -dsimp -implicitDefEqProofs only [go_sem, ↓reduceIte, keep53, ib53, mk53, Try.f53, hlen, hi2, gm, eq_self, decide_true, Bool.not_true, bne_self_eq_false, iw0_0, iw0_1]
      repeat' (with_reducible first | intro _ | refine And.intro ?_ ?_)
      all_goals try omega
      all_goals try (exact absurd rfl (by assumption))
      refine ⟨i + 1, ?_⟩
      simp only [t3, hs3]
      repeat' (with_reducible first | intro _ | refine And.intro ?_ ?_)
      all_goals first | rfl | trivial | omega | exact Heap.le_refl _ | (rw [IntWalk.i64_in _ (by omega)]; omega)
    · have hi2 : i = es.length := by omega
      subst hi2
      rw [List.take_length]
      simp (maxSteps := 1000000) -dsimp -implicitDefEqProofs only [go_sem, ↓reduceIte, keep53, ib53, mk53, Try.f53, hlen, Int.lt_irrefl, Nat.lt_irrefl]
      first | done | (intro _; rfl) | rfl

def keep23 : List Nat := [0, 1, 2, 4, 10, 16, 22, 28, 34]
def ib23 : List Nat := [2]
def mk23 : Marks := fun _ => ([], .nil, [])
set_option maxRecDepth 100000 in
theorem held_Service (x : DService) : HeldA Try.prog 23 x.o := by
  intro e k he h0 h1
  obtain ⟨y_0, y_3, y_4, y_5, y_6, y_7, y_8, rfl, o_0, o_3, o_4, o_5, o_6, o_7, o_8⟩ := he
  simp only [OV.ctTop_cons, OV.ctTop_nil, OV.ctT_v, OV.mkTop_cons, OV.mkTop_nil, OV.mkT_v, Nat.add_zero, Nat.zero_add, zero_cast, Int.add_zero, Int.zero_add, o_0.ctT, o_0.mkT, o_3.ctT, o_3.mkT, o_4.ctT, o_4.mkT, o_5.ctT, o_5.mkT, o_6.ctT, o_6.mkT, o_7.ctT, o_7.mkT, o_8.ctT, o_8.mkT, map_dat_cons, map_dat_nil, dat_v] at h1 ⊢
  refine fn0F 36 keep23 ib23 mk23 mix Try.func23 rfl (by kernel_rfl) (by simp) fun h => ?_
  simp (maxSteps := 1000000) -dsimp -implicitDefEqProofs only [go_sem, ↓reduceIte, keep23, ib23, mk23, Try.f23, o_0.datflat, o_0.datone, o_3.datflat, o_3.datone, o_4.datflat, o_4.datone, o_5.datflat, o_5.datone, o_6.datflat, o_6.datone, o_7.datflat, o_7.datone, o_8.datflat, o_8.datone]
  repeat' (with_reducible first | intro _ | refine And.intro ?_ ?_)
  all_goals try omega
  have hs0 := held_Job x.fJob [y_0, .v (.int .i64 x.fJob.fFunc), .v (.int .i64 x.fJob.fShared), y_3, y_4] (k) ⟨y_0, y_3, y_4, rfl, o_0, o_3, o_4⟩ (by omega) (by simp only [OV.ctTop_cons, OV.ctTop_nil, OV.ctT_v, OV.mkTop_cons, OV.mkTop_nil, OV.mkT_v, Nat.add_zero, Nat.zero_add, zero_cast, Int.add_zero, Int.zero_add, o_0.ctT, o_0.mkT, o_3.ctT, o_3.mkT, o_4.ctT, o_4.mkT, o_5.ctT, o_5.mkT, o_6.ctT, o_6.mkT, o_7.ctT, o_7.mkT, o_8.ctT, o_8.mkT]; omega)
  simp only [OV.ctTop_cons, OV.ctTop_nil, OV.ctT_v, OV.mkTop_cons, OV.mkTop_nil, OV.mkT_v, Nat.add_zero, Nat.zero_add, zero_cast, Int.add_zero, Int.zero_add, o_0.ctT, o_0.mkT, o_3.ctT, o_3.mkT, o_4.ctT, o_4.mkT, o_5.ctT, o_5.mkT, o_6.ctT, o_6.mkT, o_7.ctT, o_7.mkT, o_8.ctT, o_8.mkT, map_dat_cons, map_dat_nil, dat_v, Int.natCast_add, ← Int.add_assoc] at hs0
  refine HFnF.mk hs0 ?_
  simp (maxSteps := 1000000) -dsimp -implicitDefEqProofs only [go_sem, ↓reduceIte, keep23, ib23, mk23, Try.f23, o_0.datflat, o_0.datone, o_3.datflat, o_3.datone, o_4.datflat, o_4.datone, o_5.datflat, o_5.datone, o_6.datflat, o_6.datone, o_7.datflat, o_7.datone, o_8.datflat, o_8.datone]
  repeat' (with_reducible first | intro _ | refine And.intro ?_ ?_)
  all_goals try omega
  refine HFnF.mk (held_Int64S x.fStamps y_5 (k + (y_0.ct : Int) + (y_3.ct : Int) + (y_4.ct : Int)) o_5 (by omega) (by omega)) ?_
  simp (maxSteps := 1000000) -dsimp -implicitDefEqProofs only [go_sem, ↓reduceIte, keep23, ib23, mk23, Try.f23, o_0.datflat, o_0.datone, o_3.datflat, o_3.datone, o_4.datflat, o_4.datone, o_5.datflat, o_5.datone, o_6.datflat, o_6.datone, o_7.datflat, o_7.datone, o_8.datflat, o_8.datone]
  repeat' (with_reducible first | intro _ | refine And.intro ?_ ?_)
  all_goals try omega
  refine HFnF.mk (held_BoolS x.fKnown y_6 (k + (y_0.ct : Int) + (y_3.ct : Int) + (y_4.ct : Int) + (y_5.ct : Int)) o_6 (by omega) (by omega)) ?_
  simp (maxSteps := 1000000) -dsimp -implicitDefEqProofs only [go_sem, ↓reduceIte, keep23, ib23, mk23, Try.f23, o_0.datflat, o_0.datone, o_3.datflat, o_3.datone, o_4.datflat, o_4.datone, o_5.datflat, o_5.datone, o_6.datflat, o_6.datone, o_7.datflat, o_7.datone, o_8.datflat, o_8.datone]
  repeat' (with_reducible first | intro _ | refine And.intro ?_ ?_)
  all_goals try omega
  refine HFnF.mk (held_PartS x.fParts y_7 (k + (y_0.ct : Int) + (y_3.ct : Int) + (y_4.ct : Int) + (y_5.ct : Int) + (y_6.ct : Int)) o_7 (by omega) (by omega)) ?_
  simp (maxSteps := 1000000) -dsimp -implicitDefEqProofs only [go_sem, ↓reduceIte, keep23, ib23, mk23, Try.f23, o_0.datflat, o_0.datone, o_3.datflat, o_3.datone, o_4.datflat, o_4.datone, o_5.datflat, o_5.datone, o_6.datflat, o_6.datone, o_7.datflat, o_7.datone, o_8.datflat, o_8.datone]
  repeat' (with_reducible first | intro _ | refine And.intro ?_ ?_)
  all_goals try omega
  refine HFnF.mk (held_Int64S x.fOwners y_8 (k + (y_0.ct : Int) + (y_3.ct : Int) + (y_4.ct : Int) + (y_5.ct : Int) + (y_6.ct : Int) + (y_7.ct : Int)) o_8 (by omega) (by omega)) ?_
  simp (maxSteps := 1000000) -dsimp -implicitDefEqProofs only [go_sem, ↓reduceIte, keep23, ib23, mk23, Try.f23, o_0.datflat, o_0.datone, o_3.datflat, o_3.datone, o_4.datflat, o_4.datone, o_5.datflat, o_5.datone, o_6.datflat, o_6.datone, o_7.datflat, o_7.datone, o_8.datflat, o_8.datone]
  repeat' (with_reducible first | intro _ | refine And.intro ?_ ?_)
  all_goals try omega
  all_goals first | done | rfl | trivial | (congr 1; omega) | omega | (simp only [go_sem]; omega)


open Go.Proofs
set_option linter.unusedVariables false
set_option linter.unusedSimpArgs false
def keep63 : List Nat := [0, 1, 4, 5, 10, 12, 13, 14, 24]
def ib63 : List Nat := []
def mk63 : Marks := fun id => match id with | 6 => ([], (.op 0 (.op 1 (.op 2 (.op 3 (.op 4 (.op 5 (.op 6 (.op 7 (.op 8 .nil))))))))), []) | _ => ([], .nil, [])
set_option maxRecDepth 100000 in
theorem slEq_Int64S (a b : List Int) : Fn0 Try.prog 63 [(sls 1 (fun n => [I n]) a), (sls 1 (fun n => [I n]) b)] (.bool (decide (a = b))) := by
  refine fn0F 26 keep63 ib63 mk63 mix Try.func63 rfl (by kernel_rfl) (by simp) fun h => ?_
  simp -dsimp -implicitDefEqProofs only [go_sem, ↓reduceIte, keep63, ib63, mk63, Try.f63]
  refine fun _ _ => ⟨fun hne => ?_, fun heq => ?_⟩
  · exact (decide_eq_false fun e => hne (by rw [e])).symm
  · refine fun _ => ?_
    refine loopF (keep := keep63) (ib := ib63) (mk := mk63) mix (by kernel_rfl) (fun k : Nat => [(0, (sls 1 (fun n => [I n]) a)), (1, (sls 1 (fun n => [I n]) b)), (12, I a.length), (13, I k)]) (fun _ => h) (fun k => k ≤ a.length ∧ a.take k = b.take k) (fun k => a.length - k) 0 (by simp [SatL, tget, Heap.le_refl]) ?_
    intro k ⟨hk, hp⟩
    rcases Nat.lt_or_ge k a.length with hlt | hge
    · have hlb : k < b.length := by omega
      have ea : a[k]? = some a[k] := List.getElem?_eq_getElem hlt
      have eb : b[k]? = some b[k] := List.getElem?_eq_getElem hlb
      simp -dsimp -implicitDefEqProofs only [go_sem, ↓reduceIte, keep63, ib63, mk63, Try.f63, ea, eb]
      refine ⟨fun _ => ⟨hlt, hlb, fun hne => ?_, fun he => ?_⟩, fun hn => absurd hlt hn⟩
      · first
          | exact (decide_eq_false fun e => hne (getElem_of_eq e hlt)).symm
          | exact (decide_eq_false fun e => by have := getElem_of_eq e hlt (hb := hlb); rw [this] at hne; simp at hne).symm
      · exact ⟨k + 1, by rw [IntWalk.i64_in _ (by omega)]; rfl, ⟨by omega, take_step hlt hlb hp (by first | exact he | simpa using he)⟩, by omega⟩
    · have hk' : k = a.length := by omega
      subst hk'
      simp -dsimp -implicitDefEqProofs only [go_sem, ↓reduceIte, keep63, ib63, mk63, Try.f63, Nat.lt_irrefl]
      exact (decide_eq_true (eq_of_take heq hp)).symm

open Go.Proofs
set_option linter.unusedVariables false
set_option linter.unusedSimpArgs false
open Go.Proofs
set_option linter.unusedVariables false
set_option linter.unusedSimpArgs false
def keep34 : List Nat := [0, 1, 2, 3, 4]
def ib34 : List Nat := [2, 3]
def mk34 : Marks := fun _ => ([], .nil, [])
set_option maxRecDepth 100000 in
theorem samePart (a b : DPart) : Fn0 Try.prog 34 [.agg a.c, .agg b.c] (.bool (decide (a = b))) := by
  simp only [DPart.c_eq]
  refine fn0F 24 keep34 ib34 mk34 mix Try.func34 rfl (by kernel_rfl) (by simp) fun h => ?_
  simp (maxSteps := 1000000) -dsimp -implicitDefEqProofs only [go_sem, ↓reduceIte, keep34, ib34, mk34, Try.f34]
  repeat' (with_reducible first | intro _ | refine And.intro ?_ ?_)
  all_goals try (first | (simp [DPart.eq_iff, *]; done) | omega | (grind [DPart.eq_iff]) | (simp [DPart.eq_iff]; omega))
  first | refine HFnF.mk (slEq_Int64S a.fGrad b.fGrad) ?_ | refine CallSF.mk (slEq_Int64S a.fGrad b.fGrad) ?_ | refine HFnF.mkAt (slEq_Int64S a.fGrad b.fGrad) ?_ | refine CallSF.mk (FnAt.fn0 (slEq_Int64S a.fGrad b.fGrad)) ?_
  simp (maxSteps := 1000000) -dsimp -implicitDefEqProofs only [go_sem, ↓reduceIte, keep34, ib34, mk34, Try.f34]
  all_goals try (first | (simp [DPart.eq_iff, *]; done) | omega | (grind [DPart.eq_iff]) | (simp [DPart.eq_iff]; omega))
open Go.Proofs
set_option linter.unusedVariables false
set_option linter.unusedSimpArgs false
def keep55 : List Nat := [0, 1, 2, 6]
def ib55 : List Nat := []
def mk55 : Marks := fun _ => ([], .nil, [])
theorem l00In (n a b : Int) : Fn0 Try.prog 55 [I n, I a, I b] (.bool (decide (a ≤ n ∧ n ≤ b))) := by
  refine fn0F 15 keep55 ib55 mk55 mix Try.func55 rfl (by kernel_rfl) (by simp) fun h => ?_
  simp (maxSteps := 1000000) -dsimp -implicitDefEqProofs only [go_sem, ↓reduceIte, keep55, ib55, mk55, Try.f55]
  repeat' (with_reducible first | intro _ | refine And.intro ?_ ?_)
  all_goals try (first | (simp [*]; done) | omega | grind)
def keep32 : List Nat := [0, 1, 2, 6]
def ib32 : List Nat := []
def mk32 : Marks := fun _ => ([], .nil, [])
theorem within (n a b : Int) : Fn0 Try.prog 32 [I n, I a, I b] (.bool (decide (a ≤ n ∧ n ≤ b))) := by
  refine fn0F 15 keep32 ib32 mk32 mix Try.func32 rfl (by kernel_rfl) (by simp) fun h => ?_
  simp (maxSteps := 1000000) -dsimp -implicitDefEqProofs only [go_sem, ↓reduceIte, keep32, ib32, mk32, Try.f32]
  repeat' (with_reducible first | intro _ | refine And.intro ?_ ?_)
  all_goals try (first | (simp [*]; done) | omega | grind)
def keep75 : List Nat := [0, 2]
def ib75 : List Nat := []
def mk75 : Marks := fun _ => ([], .nil, [])
theorem l01Number (n : Int) : Fn0 Try.prog 75 [I n] (.bool (decide (Num n))) := by
  refine fn0F 5 keep75 ib75 mk75 mix Try.func75 rfl (by kernel_rfl) (by simp) fun h => ?_
  simp (maxSteps := 1000000) -dsimp -implicitDefEqProofs only [go_sem, ↓reduceIte, keep75, ib75, mk75, Try.f75]
  first | refine HFnF.mk (l00In n 0 1000002) ?_ | refine CallSF.mk (l00In n 0 1000002) ?_ | refine HFnF.mkAt (l00In n 0 1000002) ?_ | refine CallSF.mk (FnAt.fn0 (l00In n 0 1000002)) ?_
  simp (maxSteps := 1000000) -dsimp -implicitDefEqProofs only [go_sem, ↓reduceIte, keep75, ib75, mk75, Try.f75]
  all_goals rfl
def keep62 : List Nat := [0, 2]
def ib62 : List Nat := []
def mk62 : Marks := fun _ => ([], .nil, [])
theorem isNumber (n : Int) : Fn0 Try.prog 62 [I n] (.bool (decide (Num n))) := by
  refine fn0F 5 keep62 ib62 mk62 mix Try.func62 rfl (by kernel_rfl) (by simp) fun h => ?_
  simp (maxSteps := 1000000) -dsimp -implicitDefEqProofs only [go_sem, ↓reduceIte, keep62, ib62, mk62, Try.f62]
  first | refine HFnF.mk (within n 0 1000002) ?_ | refine CallSF.mk (within n 0 1000002) ?_ | refine HFnF.mkAt (within n 0 1000002) ?_ | refine CallSF.mk (FnAt.fn0 (within n 0 1000002)) ?_
  simp (maxSteps := 1000000) -dsimp -implicitDefEqProofs only [go_sem, ↓reduceIte, keep62, ib62, mk62, Try.f62]
  all_goals rfl
def keep67 : List Nat := [0, 2, 3, 7, 15]
def ib67 : List Nat := []
def mk67 : Marks := fun _ => ([], .nil, [])
set_option maxRecDepth 100000 in
theorem l01Numbers (l : List Int) : Fn0 Try.prog 67 [sls 1 (fun n => [I n]) l] (.bool (decide (Nums l))) := by
  refine fn0F 16 keep67 ib67 mk67 mix Try.func67 rfl (by kernel_rfl) (by simp) fun h => ?_
  simp (maxSteps := 1000000) -dsimp -implicitDefEqProofs only [go_sem, ↓reduceIte, keep67, ib67, mk67, Try.f67]
  refine loopF (keep := keep67) (ib := ib67) (mk := mk67) mix (by kernel_rfl) (fun k : Nat => [(0, sls 1 (fun n => [I n]) l), (3, I k)]) (fun _ => h) (fun k => k ≤ (l).length ∧ ∀ x ∈ (l).take k, Num x) (fun k => (l).length - k) 0 (by simp [SatL, tget, Heap.le_refl]) ?_
  intro k ⟨hk, hp⟩
  rcases Nat.lt_or_ge k (l).length with hlt | hge
  · have ea : (l)[k]? = some (l)[k] := List.getElem?_eq_getElem hlt
    simp (maxSteps := 1000000) -dsimp -implicitDefEqProofs only [go_sem, ↓reduceIte, keep67, ib67, mk67, Try.f67, ea]
    repeat' (with_reducible first | intro _ | refine And.intro ?_ ?_)
    all_goals try omega
    first | refine HFnF.mk (l01Number l[k]) ?_ | refine CallSF.mk (l01Number l[k]) ?_ | refine HFnF.mkAt (l01Number l[k]) ?_ | refine CallSF.mk (FnAt.fn0 (l01Number l[k])) ?_
    simp (maxSteps := 1000000) -dsimp -implicitDefEqProofs only [go_sem, ↓reduceIte, keep67, ib67, mk67, Try.f67]
    repeat' (with_reducible first | intro _ | refine And.intro ?_ ?_)
    · rename_i he
      exact (decide_eq_false fun e => he (e _ (List.getElem_mem hlt))).symm
    · rename_i he
      refine ⟨k + 1, ?_⟩
      repeat' (with_reducible refine And.intro ?_ ?_)
      all_goals try (rw [IntWalk.i64_in _ (by omega)]; first | rfl | omega)
      all_goals try omega
      all_goals try (repeat' (with_reducible first | exact Heap.le_refl _ | refine (le_upd (by first | assumption | exact And.right (by assumption) | exact upd_none.2 (by assumption))).2 ?_))
      exact all_step hlt hp he
  · have hk' : k = (l).length := by omega
    subst hk'
    rw [List.take_length] at hp
    simp (maxSteps := 1000000) -dsimp -implicitDefEqProofs only [go_sem, ↓reduceIte, keep67, ib67, mk67, Try.f67, Nat.lt_irrefl]
    intro _
    exact (decide_eq_true hp).symm
def keep97 : List Nat := [0, 1, 4, 5, 7, 8, 9, 16]
def ib97 : List Nat := []
def mk97 : Marks := fun _ => ([], .nil, [])
set_option maxRecDepth 100000 in
theorem idxF_Int64S (a : List Int) (p : Int → Bool) (g : FuncId) (cap : List HVal) {h0 : Heap} (hc : ∀ x ∈ a, FnAt Try.prog g ([(.int .i64 x)] ++ cap) (.bool (p x)) h0) : FnAt Try.prog 97 [(sls 1 (fun n => [I n]) a), .fn (.func g) [] cap] (I (idxOf p a)) h0 := by
  refine fnAtF 19 keep97 ib97 mk97 mix Try.func97 rfl (by kernel_rfl) (by simp) fun h hle => ?_
  simp -dsimp -implicitDefEqProofs only [go_sem, ↓reduceIte, keep97, ib97, mk97, Try.f97, Try.f97]
  intro _
  refine loopF (keep := keep97) (ib := ib97) (mk := mk97) mix (by kernel_rfl) (fun k : Nat => [(0, (sls 1 (fun n => [I n]) a)), (1, .fn (.func g) [] cap), (7, I a.length), (8, I k)]) (fun _ => h) (fun k => k ≤ a.length ∧ ∀ x ∈ a.take k, p x = false) (fun k => a.length - k) 0 (by simp [SatL, tget, Heap.le_refl]) ?_
  intro k ⟨hk, hp⟩
  rcases Nat.lt_or_ge k a.length with hlt | hge
  · have ea : a[k]? = some a[k] := List.getElem?_eq_getElem hlt
    simp -dsimp -implicitDefEqProofs only [go_sem, ↓reduceIte, keep97, ib97, mk97, Try.f97, Try.f97, ea]
    repeat' (with_reducible first | intro _ | refine And.intro ?_ ?_)
    all_goals try omega
    have hx := hc a[k] (List.getElem_mem hlt)
    refine HFnF.mkAt (hx.mono hle) ?_
    cases hpk : p a[k] with
    | true =>
      simp -dsimp -implicitDefEqProofs only [go_sem, ↓reduceIte, keep97, ib97, mk97, Try.f97, Try.f97]
      repeat' (with_reducible first | intro _ | refine And.intro ?_ ?_)
      all_goals first | exact (idxOf_some hlt hp hpk).symm | rfl | (rw [idxOf_some hlt hp hpk])
    | false =>
      simp -dsimp -implicitDefEqProofs only [go_sem, ↓reduceIte, keep97, ib97, mk97, Try.f97, Try.f97]
      refine ⟨k + 1, ?_⟩
      repeat' (with_reducible refine And.intro ?_ ?_)
      all_goals try (rw [IntWalk.i64_in _ (by omega)]; first | rfl | omega)
      all_goals try omega
      exact all_step (P := fun x => p x = false) hlt hp hpk
  · have hk' : k = a.length := by omega
    subst hk'
    rw [List.take_length] at hp
    simp -dsimp -implicitDefEqProofs only [go_sem, ↓reduceIte, keep97, ib97, mk97, Try.f97, Try.f97, Nat.lt_irrefl]
    all_goals first | exact (idxOf_none hp).symm | rw [idxOf_none hp]
def keep78 : List Nat := [0, 1, 4]
def ib78 : List Nat := []
def mk78 : Marks := fun _ => ([], .nil, [])
set_option maxRecDepth 100000 in
theorem hasF_Int64S (a : List Int) (p : Int → Bool) (g : FuncId) (cap : List HVal) {h0 : Heap} (hc : ∀ x ∈ a, FnAt Try.prog g ([(.int .i64 x)] ++ cap) (.bool (p x)) h0) : FnAt Try.prog 78 [(sls 1 (fun n => [I n]) a), .fn (.func g) [] cap] (.bool (a.any p)) h0 := by
  refine fnAtF 9 keep78 ib78 mk78 mix Try.func78 rfl (by kernel_rfl) (by simp) fun h hle => ?_
  simp -dsimp -implicitDefEqProofs only [go_sem, ↓reduceIte, keep78, ib78, mk78, Try.f78, Try.f78]
  refine HFnF.mkAt ((idxF_Int64S a p g cap hc).mono hle) ?_
  simp -dsimp -implicitDefEqProofs only [go_sem, ↓reduceIte, keep78, ib78, mk78, Try.f78, Try.f78]
  all_goals first | done | exact idxOf_nonneg | rw [idxOf_nonneg]

def keep79 : List Nat := [0, 2]
def ib79 : List Nat := []
def mk79 : Marks := fun _ => ([], .nil, [])
theorem areNumbers1 (n : Int) : Fn0 Try.prog 79 [I n] (.bool (!decide (Num n))) := by
  refine fn0F 6 keep79 ib79 mk79 mix Try.func79 rfl (by kernel_rfl) (by simp) fun h => ?_
  simp (maxSteps := 1000000) -dsimp -implicitDefEqProofs only [go_sem, ↓reduceIte, keep79, ib79, mk79, Try.f79]
  first | refine HFnF.mk (isNumber n) ?_ | refine CallSF.mk (isNumber n) ?_ | refine HFnF.mkAt (isNumber n) ?_ | refine CallSF.mk (FnAt.fn0 (isNumber n)) ?_
  simp (maxSteps := 1000000) -dsimp -implicitDefEqProofs only [go_sem, ↓reduceIte, keep79, ib79, mk79, Try.f79]
def keep59 : List Nat := [0, 1, 4]
def ib59 : List Nat := []
def mk59 : Marks := fun _ => ([], .nil, [])
theorem areNumbers (l : List Int) (c : Int) : Fn0 Try.prog 59 [sls 1 (fun n => [I n]) l, I c] (.bool (decide ((l.length : Int) = c ∧ Nums l))) := by
  refine fn0F 14 keep59 ib59 mk59 mix Try.func59 rfl (by kernel_rfl) (by simp) fun h => ?_
  simp (maxSteps := 1000000) -dsimp -implicitDefEqProofs only [go_sem, ↓reduceIte, keep59, ib59, mk59, Try.f59]
  repeat' (with_reducible first | intro _ | refine And.intro ?_ ?_)
  all_goals try (first | (simp [*]; done) | omega | grind)
  first | refine HFnF.mk (hasF_Int64S l (fun n => !decide (Num n)) 79 [] fun x _ => (areNumbers1 x).toAt) ?_ | refine CallSF.mk (hasF_Int64S l (fun n => !decide (Num n)) 79 [] fun x _ => (areNumbers1 x).toAt) ?_ | refine HFnF.mkAt (hasF_Int64S l (fun n => !decide (Num n)) 79 [] fun x _ => (areNumbers1 x).toAt) ?_ | refine CallSF.mk (FnAt.fn0 (hasF_Int64S l (fun n => !decide (Num n)) 79 [] fun x _ => (areNumbers1 x).toAt)) ?_
  simp (maxSteps := 1000000) -dsimp -implicitDefEqProofs only [go_sem, ↓reduceIte, keep59, ib59, mk59, Try.f59]
  rename_i e
  rw [any_not, decide_eq_decide]
  exact ⟨fun q => ⟨e, q⟩, fun q => q.2⟩
open Go.Proofs
set_option linter.unusedVariables false
set_option linter.unusedSimpArgs false
def Low (c : UInt8) : Prop := 97 ≤ c.toNat ∧ c.toNat ≤ 122
def Dig (c : UInt8) : Prop := 48 ≤ c.toNat ∧ c.toNat ≤ 57
instance (c : UInt8) : Decidable (Low c) := inferInstanceAs (Decidable (_ ∧ _))
instance (c : UInt8) : Decidable (Dig c) := inferInstanceAs (Decidable (_ ∧ _))
def IsNm (s : List UInt8) : Prop := 1 ≤ s.length ∧ s.length ≤ 12 ∧ (∀ c, s[0]? = some c → Low c) ∧ ∀ c ∈ s, Low c ∨ Dig c
noncomputable instance (s : List UInt8) : Decidable (IsNm s) := Classical.propDecidable _
theorem isNm_step {s : List UInt8} {k : Nat} {c : UInt8} (h : k < s.length) (ec : s[k] = c) (hp : ∀ x ∈ s.take k, Low x ∨ Dig x) (he : Low c ∨ Dig c) : ∀ x ∈ s.take (k + 1), Low x ∨ Dig x :=
  all_step (P := fun x => Low x ∨ Dig x) h hp (by rw [ec]; exact he)
theorem not_isNm {s : List UInt8} {k : Nat} {c : UInt8} (h : k < s.length) (ec : s[k] = c) (he : ¬ (Low c ∨ Dig c)) : false = decide (IsNm s) :=
  (decide_eq_false fun e => he (ec ▸ e.2.2.2 _ (List.getElem_mem h))).symm
theorem not_isNm0 {s : List UInt8} {k : Nat} {c : UInt8} (h : k < s.length) (h0 : (k : Int) = 0) (ec : s[k] = c) (he : ¬ Low c) : false = decide (IsNm s) :=
  (decide_eq_false fun e => he (e.2.2.1 c (by have : k = 0 := by omega
                                              subst this; rw [List.getElem?_eq_getElem h, ec]))).symm
def keep99 : List Nat := [0, 2, 3, 17, 21, 45]
def ib99 : List Nat := []
def mk99 : Marks := fun _ => ([], .nil, [])
set_option maxRecDepth 100000 in
theorem specIsName (s : List UInt8) : Fn0 Try.prog 99 [.str s] (.bool (decide (IsNm s))) := by
  cases s with
  | nil =>
    refine fn0F 46 keep99 ib99 mk99 mix Try.func99 rfl (by kernel_rfl) (by simp) fun h => ?_
    simp (maxSteps := 1000000) -dsimp -implicitDefEqProofs only [go_sem, ↓reduceIte, keep99, ib99, mk99, Try.f99]
    first | refine HFnF.mk (l00In 0 1 12) ?_ | refine CallSF.mk (l00In 0 1 12) ?_ | refine HFnF.mkAt (l00In 0 1 12) ?_ | refine CallSF.mk (FnAt.fn0 (l00In 0 1 12)) ?_
    simp (maxSteps := 1000000) -dsimp -implicitDefEqProofs only [go_sem, ↓reduceIte, keep99, ib99, mk99, Try.f99]
    repeat' (with_reducible first | intro _ | refine And.intro ?_ ?_)
    all_goals try (first | (simp [IsNm, *]; done) | omega | (grind [IsNm]) | (simp [IsNm]; omega))
  | cons c t =>
    refine fn0F 46 keep99 ib99 mk99 mix Try.func99 rfl (by kernel_rfl) (by simp) fun h => ?_
    simp (maxSteps := 1000000) -dsimp -implicitDefEqProofs only [go_sem, ↓reduceIte, keep99, ib99, mk99, Try.f99, List.getElem?_cons_zero, Int.toNat_zero]
    intro _
    first | refine HFnF.mk (l00In (c :: t).length 1 12) ?_ | refine CallSF.mk (l00In (c :: t).length 1 12) ?_ | refine HFnF.mkAt (l00In (c :: t).length 1 12) ?_ | refine CallSF.mk (FnAt.fn0 (l00In (c :: t).length 1 12)) ?_
    simp (maxSteps := 1000000) -dsimp -implicitDefEqProofs only [go_sem, ↓reduceIte, keep99, ib99, mk99, Try.f99, List.getElem?_cons_zero, Int.toNat_zero]
    repeat' (with_reducible first | intro _ | refine And.intro ?_ ?_)
    all_goals try (first | (simp [IsNm, Low, Dig, *]; done) | omega | (grind [IsNm, Low, Dig]) | (simp [IsNm, Low, Dig]; omega))
    rename_i h0 h1 h2 h3
    generalize hs : c :: t = s at *
    refine loopF (keep := keep99) (ib := ib99) (mk := mk99) mix (by kernel_rfl) (fun k : Nat => [(0, .str s), (3, I k)]) (fun _ => h) (fun k => k ≤ s.length ∧ ∀ x ∈ s.take k, Low x ∨ Dig x) (fun k => s.length - k) 0 (by simp [SatL, tget, Heap.le_refl]) ?_
    intro k ⟨hk, hp⟩
    rcases Nat.lt_or_ge k s.length with hlt | hge
    · generalize ec : s[k] = d
      have ea : s[k]? = some d := by rw [← ec]; exact List.getElem?_eq_getElem hlt
      simp (maxSteps := 1000000) -dsimp -implicitDefEqProofs only [go_sem, ↓reduceIte, keep99, ib99, mk99, Try.f99, ea, Int.toNat_natCast]
      repeat' (with_reducible first | intro _ | refine And.intro ?_ ?_)
      all_goals try omega
      all_goals try exact not_isNm hlt ec (by simp only [Low, Dig]; omega)
      all_goals
        refine ⟨k + 1, ?_⟩
        repeat' (with_reducible refine And.intro ?_ ?_)
        all_goals try (rw [IntWalk.i64_in _ (by omega)]; first | rfl | omega)
        all_goals try omega
        all_goals try (repeat' (with_reducible first | exact Heap.le_refl _ | refine (le_upd (by first | assumption | exact And.right (by assumption) | exact upd_none.2 (by assumption))).2 ?_))
        exact isNm_step hlt ec hp (by simp only [Low, Dig]; omega)
    · have hk' : k = s.length := by omega
      subst hk'
      rw [List.take_length] at hp
      simp (maxSteps := 1000000) -dsimp -implicitDefEqProofs only [go_sem, ↓reduceIte, keep99, ib99, mk99, Try.f99, Nat.lt_irrefl]
      have : s.length = t.length + 1 := by rw [← hs]; rfl
      exact fun _ => (decide_eq_true ⟨by omega, by omega, fun x hx => by rw [← hs] at hx; simp at hx; subst hx; simp only [Low]; omega, hp⟩).symm
def keep92 : List Nat := [0, 2, 3, 5, 6, 7, 34]
def ib92 : List Nat := []
def mk92 : Marks := fun _ => ([], .nil, [])
set_option maxRecDepth 100000 in
theorem IsName (s : List UInt8) : Fn0 Try.prog 92 [.str s] (.bool (decide (IsNm s))) := by
  refine fn0F 44 keep92 ib92 mk92 mix Try.func92 rfl (by kernel_rfl) (by simp) fun h => ?_
  simp (maxSteps := 1000000) -dsimp -implicitDefEqProofs only [go_sem, ↓reduceIte, keep92, ib92, mk92, Try.f92]
  repeat' (with_reducible first | intro _ | refine And.intro ?_ ?_)
  refine loopF (keep := keep92) (ib := ib92) (mk := mk92) mix (by kernel_rfl) (fun k : Nat => [(0, .str s), (5, I s.length), (6, I k)]) (fun _ => h) (fun k => k ≤ s.length ∧ (∀ x ∈ s.take k, Low x ∨ Dig x) ∧ (0 < k → ∀ c, s[0]? = some c → Low c)) (fun k => s.length - k) 0 (by simp [SatL, tget, Heap.le_refl]) ?_
  intro k ⟨hk, hp, hz⟩
  rcases Nat.lt_or_ge k s.length with hlt | hge
  · generalize ec : s[k] = d
    have ea : s[k]? = some d := by rw [← ec]; exact List.getElem?_eq_getElem hlt
    have hz' : Low d ∨ ¬ ((k : Int) = 0) → ∀ c, s[0]? = some c → Low c := by
      intro q c hc
      by_cases h0 : k = 0
      · subst h0
        rw [ea] at hc
        obtain rfl := Option.some.inj hc
        exact q.resolve_right (by simp)
      · exact hz (by omega) c hc
    simp (maxSteps := 1000000) -dsimp -implicitDefEqProofs only [go_sem, ↓reduceIte, keep92, ib92, mk92, Try.f92, ea, Int.toNat_natCast]
    repeat' (with_reducible first | intro _ | refine And.intro ?_ ?_)
    all_goals try omega
    all_goals try exact not_isNm hlt ec (by simp only [Low, Dig]; omega)
    all_goals try exact not_isNm0 hlt (by omega) ec (by simp only [Low]; omega)
    all_goals
      refine ⟨k + 1, ?_⟩
      repeat' (with_reducible refine And.intro ?_ ?_)
      all_goals try (rw [IntWalk.i64_in _ (by omega)]; first | rfl | omega)
      all_goals try omega
      all_goals try (repeat' (with_reducible first | exact Heap.le_refl _ | refine (le_upd (by first | assumption | exact And.right (by assumption) | exact upd_none.2 (by assumption))).2 ?_))
      all_goals first | exact isNm_step hlt ec hp (by simp only [Low, Dig]; omega) | exact fun _ => hz' (by simp only [Low]; omega)
  · have hk' : k = s.length := by omega
    subst hk'
    rw [List.take_length] at hp
    simp (maxSteps := 1000000) -dsimp -implicitDefEqProofs only [go_sem, ↓reduceIte, keep92, ib92, mk92, Try.f92, Nat.lt_irrefl]
    repeat' (with_reducible first | intro _ | refine And.intro ?_ ?_)
    all_goals simp only [IsNm, decide_eq_decide, eq_comm (a := false), decide_eq_false_iff_not]
    all_goals grind
end Go.Hl

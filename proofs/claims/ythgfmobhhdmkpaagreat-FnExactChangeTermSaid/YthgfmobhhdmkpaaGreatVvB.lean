/-
  Contracts of functions and laws of the layer over the walk.
-/
import Derived.Test.YthgfmobhhdmkpaaGreatVvA
namespace Go.Hl
open Go.Proofs
set_option linter.unusedVariables false
set_option linter.unusedSimpArgs false


def keep140 : List Nat := [0, 1, 4, 5, 9]
def ib140 : List Nat := []
def mk140 : Marks := fun _ => ([], .nil, [])
set_option maxRecDepth 100000 in
theorem mark_ExprS_step (l : List DExpr) (hk : ∀ x ∈ l, MarkS Tryz.prog 140 (OS DExpr.o 5 x.fKids)) : MarkS Tryz.prog 140 (OS DExpr.o 5 l) := by
  intro y k h hy h0 h1 ho nd
  rcases hy with ⟨rfl, hl⟩ | ⟨n, es, rfl, hor⟩
  · rw [OV.mk_nil, OV.nil_rows, OV.ct_nil, OV.val_nil]
    refine fnHF 48 keep140 ib140 mk140 mix Tryz.func140 rfl (by kernel_rfl) (by simp) ?_
    simp (maxSteps := 1000000) -dsimp -implicitDefEqProofs only [go_sem, ↓reduceIte, keep140, ib140, mk140, Tryz.f140]
    refine loopF (keep := keep140) (ib := ib140) (mk := mk140) mix (by kernel_rfl) (fun _ : Unit => [(0, .sl 5 [] true), (1, I k), (5, I 0)]) (fun _ => h) (fun _ => True) (fun _ => 0) () (by simp [SatL, tget, Heap.le_refl]) ?_
    intro _ _
    simp (maxSteps := 1000000) -dsimp -implicitDefEqProofs only [go_sem, ↓reduceIte, keep140, ib140, mk140, Tryz.f140, zero_cast, Int.lt_irrefl]
    try intro _
    refine ⟨h, Heap.le_refl _, ?_⟩
    first | exact Chg.refl (by simp [Owns]) | exact ⟨by simp, Chg.refl (by simp [Owns])⟩
  · rw [OV.mk_sl, OV.sl_rows, OV.sl_rows, OV.ct_sl, OV.val_sl]
    rw [OV.ct_sl] at h1
    rw [OV.sl_rows] at ho nd
    generalize hL0 : (n, HObj.row 5 (OV.cells es)) :: OV.rowsRows es = L0 at nd ⊢
    refine fnHF 48 keep140 ib140 mk140 mix Tryz.func140 rfl (by kernel_rfl) (by simp) ?_
    simp (maxSteps := 1000000) -dsimp -implicitDefEqProofs only [go_sem, ↓reduceIte, keep140, ib140, mk140, Tryz.f140]
    refine loopF (keep := keep140) (ib := ib140) (mk := mk140) mix (by kernel_rfl) (fun x : Nat × Heap => [(0, .os n 5 0 es.length), (1, I (k + OV.ctRows (es.take x.1))), (5, I x.1)]) (fun x => x.2) (fun x => x.1 ≤ es.length ∧ Chg h x.2 L0 ((n, .row 5 (OV.cells (OV.mkRows k (es.take x.1) ++ es.drop x.1))) :: OV.rowsRows (OV.mkRows k (es.take x.1) ++ es.drop x.1))) (fun x => es.length - x.1) (0, h) (by
      refine ⟨by simp [SatL, tget, OV.ctRows], Heap.le_refl _, Nat.zero_le _, ?_⟩
      rw [← hL0]
      simpa [OV.mkRows] using Chg.refl ho) ?_
    rintro ⟨i, g⟩ ⟨hi, hc⟩
    simp only at hi hc ⊢
    rcases Nat.lt_or_ge i es.length with hlt | hge
    · have hll : i < l.length := by rw [hor.length]; exact hlt
      obtain ⟨A, e, B, rfl, hA, he⟩ := hor.split i hll
      have t1 : (A ++ e :: B).take i = A := by rw [← hA]; simp
      have t2 : (A ++ e :: B).drop i = e :: B := by rw [← hA]; simp
      have t0 : A ++ e :: B = (A ++ [e]) ++ B := by simp
      have t3 : (A ++ e :: B).take (i + 1) = A ++ [e] := by rw [t0]; exact List.take_left' (by simp [hA])
      have t4 : (A ++ e :: B).drop (i + 1) = B := by rw [t0]; exact List.drop_left' (by simp [hA])
      clear t0
      have hct := OV.ctRows_append A (e :: B)
      rw [OV.ctRows] at hct
      rw [t1, t2] at hc
      rw [t1]
      have hA2 : (OV.cells (OV.mkRows k A)).length = i := by rw [OV.cells, List.length_map, OV.mkRows_len, hA]
      have hs2 := OV.mkRows_snoc k A e
      have hs3 := OV.ctRows_snoc A e
      rw [DExpr.o_iff] at he
      obtain ⟨y_4, rfl, o_4⟩ := he
      simp only [OV.ctRow_cons, OV.ctRow_nil, OV.ct_v, Nat.add_zero, OV.mkRow_cons, OV.mkRow_nil, OV.mk_v, leaf_int, leaf_bool, leaf_str, one_cast] at hct hs2 hs3
      generalize hkk : k + (OV.ctRows A : Int) = kk at hs2 ⊢
      generalize OV.mkRows k A = A2 at hs2 hc hA2
      have gm : ∀ (c : List Cell) (Y : List (List Cell)), (OV.cells A2 ++ c :: Y)[i]? = some c := fun c Y => get_mid hA2
      have sm : ∀ (c c2 : List Cell) (Y : List (List Cell)), (OV.cells A2 ++ c :: Y).set i c2 = OV.cells A2 ++ c2 :: Y := fun c c2 Y => set_mid hA2
      have hc0 := hc
      simp only [List.append_assoc, List.cons_append, List.nil_append, List.append_nil, OV.row_cons, OV.row_nil, OV.v_rows, rowsRows_cons, rowsRows_app, cells_append, cells_cons, cellv_cons, cellv_nil, OV.val_v] at hc0
      have hgn := hc0.owns (n, _) List.mem_cons_self
      simp only at hgn
      have iw0_0 : IntKind.i64.wrap (kk + 1) = kk + 1 := IntWalk.i64_in _ (by omega)
      have iw0_1 : IntKind.i64.wrap (kk + 1 + 1) = kk + 1 + 1 := IntWalk.i64_in _ (by omega)
      have iw0_2 : IntKind.i64.wrap (kk + 1 + 1 + 1) = kk + 1 + 1 + 1 := IntWalk.i64_in _ (by omega)
      have iw0_3 : IntKind.i64.wrap (kk + 1 + 1 + 1 + 1) = kk + 1 + 1 + 1 + 1 := IntWalk.i64_in _ (by omega)
      simp (maxSteps := 1000000) -dsimp -implicitDefEqProofs only [go_sem, ↓reduceIte, keep140, ib140, mk140, Tryz.f140, hgn, gm, sm, upd_upd, upd_same, o_4.flat, o_4.one, iw0_0, iw0_1, iw0_2, iw0_3]
      repeat' (with_reducible first | intro _ | refine And.intro ?_ ?_)
      all_goals try omega
      have hq0 := hc0.trans (Chg.set (o' := .row 5 (OV.cells A2 ++ [.v (.int .i64 (kk)), .v (.int .i64 (kk + 1)), .v (.int .i64 (kk + 1 + 1)), .v (.int .i64 (kk + 1 + 1 + 1)), .v y_4.val] :: OV.cells B)) hc0.owns (hc0.nodup nd))
      have hg0 : upd g n (.row 5 (OV.cells A2 ++ [.v (.int .i64 (kk)), .v (.int .i64 (kk + 1)), .v (.int .i64 (kk + 1 + 1)), .v (.int .i64 (kk + 1 + 1 + 1)), .v y_4.val] :: OV.cells B)) n = some (.row 5 (OV.cells A2 ++ [.v (.int .i64 (kk)), .v (.int .i64 (kk + 1)), .v (.int .i64 (kk + 1 + 1)), .v (.int .i64 (kk + 1 + 1 + 1)), .v y_4.val] :: OV.cells B)) := upd_same _ _ _
      have hp0 : Chg h (upd g n (.row 5 (OV.cells A2 ++ [.v (.int .i64 (kk)), .v (.int .i64 (kk + 1)), .v (.int .i64 (kk + 1 + 1)), .v (.int .i64 (kk + 1 + 1 + 1)), .v y_4.val] :: OV.cells B))) L0 (((n, .row 5 (OV.cells A2 ++ [.v (.int .i64 (kk)), .v (.int .i64 (kk + 1)), .v (.int .i64 (kk + 1 + 1)), .v (.int .i64 (kk + 1 + 1 + 1)), .v y_4.val] :: OV.cells B)) :: (OV.rowsRows A2)) ++ (y_4.rows ++ (OV.rowsRows B))) := by simpa only [List.append_assoc, List.cons_append, List.nil_append, List.append_nil, OV.row_cons, OV.row_nil, OV.v_rows, rowsRows_cons, rowsRows_app, cells_append, cells_cons, cellv_cons, cellv_nil, OV.val_v] using hq0
      refine HFnF.mkH ((hk l[i] (List.getElem_mem hll)) y_4 (kk + 1 + 1 + 1 + 1) _ o_4 (by omega) (by omega) hp0.owns.right.left (nodup_mid (hp0.nodup nd))) ?_
      rintro r g0 ⟨rfl, hch0⟩
      have hr0 := hp0.trans (Chg.mid hp0.owns (hp0.nodup nd) hch0)
      have hg0r := hr0.owns (n, _) List.mem_cons_self
      simp only at hg0r
      have hkb0 : ∃ z : Int, z = kk + 1 + 1 + 1 + 1 + (y_4.ct : Int) := ⟨_, rfl⟩
      obtain ⟨kk0, hkb0⟩ := hkb0
      rw [← hkb0]
      simp (maxSteps := 1000000) -dsimp -implicitDefEqProofs only [go_sem, ↓reduceIte, keep140, ib140, mk140, Tryz.f140, hg0r, gm, sm, upd_upd, upd_same, o_4.flat, o_4.one, iw0_0, iw0_1, iw0_2, iw0_3]
      refine ⟨(i + 1, g0), ?_⟩
      simp only [t3, t4, hs2, hs3]
      refine ⟨?_, Heap.le_refl _, ⟨by omega, ?_⟩, by omega⟩
      · repeat' (with_reducible refine And.intro ?_ ?_)
        all_goals first | rfl | trivial | omega | (rw [IntWalk.i64_in _ (by omega)]; omega)
      · simpa only [List.append_assoc, List.cons_append, List.nil_append, List.append_nil, OV.row_cons, OV.row_nil, OV.v_rows, rowsRows_cons, rowsRows_app, cells_append, cells_cons, cellv_cons, cellv_nil, OV.val_v, o_4.mk_val, hkb0] using hr0
    · have hi2 : i = es.length := by omega
      subst hi2
      rw [List.take_length, List.drop_length, List.append_nil] at hc
      rw [List.take_length]
      simp (maxSteps := 1000000) -dsimp -implicitDefEqProofs only [go_sem, ↓reduceIte, keep140, ib140, mk140, Tryz.f140, Int.lt_irrefl, Nat.lt_irrefl]
      try intro _
      refine ⟨g, Heap.le_refl _, ?_⟩
      first | exact hc | exact ⟨rfl, hc⟩
theorem mark_ExprS (l : List DExpr) : MarkS Tryz.prog 140 (OS DExpr.o 5 l) :=
  mark_ExprS_step l fun x hx => mark_ExprS x.fKids
termination_by SizeOf.sizeOf l
decreasing_by
  have h1 := List.sizeOf_lt_of_mem hx
  cases x
  simp only [DExpr.mk.sizeOf_spec, DExpr.fKids] at h1 ⊢
  omega



def keep116 : List Nat := [0, 1, 4, 5, 9]
def ib116 : List Nat := []
def mk116 : Marks := fun _ => ([], .nil, [])
set_option maxRecDepth 100000 in
theorem mark_FuncS (l : List DFunc) : MarkS Tryz.prog 116 (OS DFunc.o 3 l) := by
  intro y k h hy h0 h1 ho nd
  rcases hy with ⟨rfl, hl⟩ | ⟨n, es, rfl, hor⟩
  · rw [OV.mk_nil, OV.nil_rows, OV.ct_nil, OV.val_nil]
    refine fnHF 35 keep116 ib116 mk116 mix Tryz.func116 rfl (by kernel_rfl) (by simp) ?_
    simp (maxSteps := 1000000) -dsimp -implicitDefEqProofs only [go_sem, ↓reduceIte, keep116, ib116, mk116, Tryz.f116]
    refine loopF (keep := keep116) (ib := ib116) (mk := mk116) mix (by kernel_rfl) (fun _ : Unit => [(0, .sl 3 [] true), (1, I k), (5, I 0)]) (fun _ => h) (fun _ => True) (fun _ => 0) () (by simp [SatL, tget, Heap.le_refl]) ?_
    intro _ _
    simp (maxSteps := 1000000) -dsimp -implicitDefEqProofs only [go_sem, ↓reduceIte, keep116, ib116, mk116, Tryz.f116, zero_cast, Int.lt_irrefl]
    try intro _
    refine ⟨h, Heap.le_refl _, ?_⟩
    first | exact Chg.refl (by simp [Owns]) | exact ⟨by simp, Chg.refl (by simp [Owns])⟩
  · rw [OV.mk_sl, OV.sl_rows, OV.sl_rows, OV.ct_sl, OV.val_sl]
    rw [OV.ct_sl] at h1
    rw [OV.sl_rows] at ho nd
    generalize hL0 : (n, HObj.row 3 (OV.cells es)) :: OV.rowsRows es = L0 at nd ⊢
    refine fnHF 35 keep116 ib116 mk116 mix Tryz.func116 rfl (by kernel_rfl) (by simp) ?_
    simp (maxSteps := 1000000) -dsimp -implicitDefEqProofs only [go_sem, ↓reduceIte, keep116, ib116, mk116, Tryz.f116]
    refine loopF (keep := keep116) (ib := ib116) (mk := mk116) mix (by kernel_rfl) (fun x : Nat × Heap => [(0, .os n 3 0 es.length), (1, I (k + OV.ctRows (es.take x.1))), (5, I x.1)]) (fun x => x.2) (fun x => x.1 ≤ es.length ∧ Chg h x.2 L0 ((n, .row 3 (OV.cells (OV.mkRows k (es.take x.1) ++ es.drop x.1))) :: OV.rowsRows (OV.mkRows k (es.take x.1) ++ es.drop x.1))) (fun x => es.length - x.1) (0, h) (by
      refine ⟨by simp [SatL, tget, OV.ctRows], Heap.le_refl _, Nat.zero_le _, ?_⟩
      rw [← hL0]
      simpa [OV.mkRows] using Chg.refl ho) ?_
    rintro ⟨i, g⟩ ⟨hi, hc⟩
    simp only at hi hc ⊢
    rcases Nat.lt_or_ge i es.length with hlt | hge
    · have hll : i < l.length := by rw [hor.length]; exact hlt
      obtain ⟨A, e, B, rfl, hA, he⟩ := hor.split i hll
      have t1 : (A ++ e :: B).take i = A := by rw [← hA]; simp
      have t2 : (A ++ e :: B).drop i = e :: B := by rw [← hA]; simp
      have t0 : A ++ e :: B = (A ++ [e]) ++ B := by simp
      have t3 : (A ++ e :: B).take (i + 1) = A ++ [e] := by rw [t0]; exact List.take_left' (by simp [hA])
      have t4 : (A ++ e :: B).drop (i + 1) = B := by rw [t0]; exact List.drop_left' (by simp [hA])
      clear t0
      have hct := OV.ctRows_append A (e :: B)
      rw [OV.ctRows] at hct
      rw [t1, t2] at hc
      rw [t1]
      have hA2 : (OV.cells (OV.mkRows k A)).length = i := by rw [OV.cells, List.length_map, OV.mkRows_len, hA]
      have hs2 := OV.mkRows_snoc k A e
      have hs3 := OV.ctRows_snoc A e
      obtain ⟨y_2, rfl, o_2⟩ := he
      simp only [OV.ctRow_cons, OV.ctRow_nil, OV.ct_v, Nat.add_zero, OV.mkRow_cons, OV.mkRow_nil, OV.mk_v, leaf_int, leaf_bool, leaf_str, one_cast] at hct hs2 hs3
      generalize hkk : k + (OV.ctRows A : Int) = kk at hs2 ⊢
      generalize OV.mkRows k A = A2 at hs2 hc hA2
      have gm : ∀ (c : List Cell) (Y : List (List Cell)), (OV.cells A2 ++ c :: Y)[i]? = some c := fun c Y => get_mid hA2
      have sm : ∀ (c c2 : List Cell) (Y : List (List Cell)), (OV.cells A2 ++ c :: Y).set i c2 = OV.cells A2 ++ c2 :: Y := fun c c2 Y => set_mid hA2
      have hc0 := hc
      simp only [List.append_assoc, List.cons_append, List.nil_append, List.append_nil, OV.row_cons, OV.row_nil, OV.v_rows, rowsRows_cons, rowsRows_app, cells_append, cells_cons, cellv_cons, cellv_nil, OV.val_v] at hc0
      have hgn := hc0.owns (n, _) List.mem_cons_self
      simp only at hgn
      have iw0_0 : IntKind.i64.wrap (kk + 1) = kk + 1 := IntWalk.i64_in _ (by omega)
      have iw0_1 : IntKind.i64.wrap (kk + 1 + 1) = kk + 1 + 1 := IntWalk.i64_in _ (by omega)
      simp (maxSteps := 1000000) -dsimp -implicitDefEqProofs only [go_sem, ↓reduceIte, keep116, ib116, mk116, Tryz.f116, hgn, gm, sm, upd_upd, upd_same, o_2.flat, o_2.one, iw0_0, iw0_1]
      repeat' (with_reducible first | intro _ | refine And.intro ?_ ?_)
      all_goals try omega
      refine HFnF.mk (markText (kk) (by omega)) ?_
      simp (maxSteps := 1000000) -dsimp -implicitDefEqProofs only [go_sem, ↓reduceIte, keep116, ib116, mk116, Tryz.f116, hgn, gm, sm, upd_upd, upd_same, o_2.flat, o_2.one, iw0_0, iw0_1]
      repeat' (with_reducible first | intro _ | refine And.intro ?_ ?_)
      all_goals try omega
      have hq0 := hc0.trans (Chg.set (o' := .row 3 (OV.cells A2 ++ [.v (.str (mtext (kk))), .v (.int .i64 (kk + 1)), .v y_2.val] :: OV.cells B)) hc0.owns (hc0.nodup nd))
      have hg0 : upd g n (.row 3 (OV.cells A2 ++ [.v (.str (mtext (kk))), .v (.int .i64 (kk + 1)), .v y_2.val] :: OV.cells B)) n = some (.row 3 (OV.cells A2 ++ [.v (.str (mtext (kk))), .v (.int .i64 (kk + 1)), .v y_2.val] :: OV.cells B)) := upd_same _ _ _
      have hp0 : Chg h (upd g n (.row 3 (OV.cells A2 ++ [.v (.str (mtext (kk))), .v (.int .i64 (kk + 1)), .v y_2.val] :: OV.cells B))) L0 (((n, .row 3 (OV.cells A2 ++ [.v (.str (mtext (kk))), .v (.int .i64 (kk + 1)), .v y_2.val] :: OV.cells B)) :: (OV.rowsRows A2)) ++ (y_2.rows ++ (OV.rowsRows B))) := by simpa only [List.append_assoc, List.cons_append, List.nil_append, List.append_nil, OV.row_cons, OV.row_nil, OV.v_rows, rowsRows_cons, rowsRows_app, cells_append, cells_cons, cellv_cons, cellv_nil, OV.val_v] using hq0
      refine HFnF.mkH ((mark_ExprS l[i].fOuts) y_2 (kk + 1 + 1) _ o_2 (by omega) (by omega) hp0.owns.right.left (nodup_mid (hp0.nodup nd))) ?_
      rintro r g0 ⟨rfl, hch0⟩
      have hr0 := hp0.trans (Chg.mid hp0.owns (hp0.nodup nd) hch0)
      have hg0r := hr0.owns (n, _) List.mem_cons_self
      simp only at hg0r
      have hkb0 : ∃ z : Int, z = kk + 1 + 1 + (y_2.ct : Int) := ⟨_, rfl⟩
      obtain ⟨kk0, hkb0⟩ := hkb0
      rw [← hkb0]
      simp (maxSteps := 1000000) -dsimp -implicitDefEqProofs only [go_sem, ↓reduceIte, keep116, ib116, mk116, Tryz.f116, hg0r, gm, sm, upd_upd, upd_same, o_2.flat, o_2.one, iw0_0, iw0_1]
      refine ⟨(i + 1, g0), ?_⟩
      simp only [t3, t4, hs2, hs3]
      refine ⟨?_, Heap.le_refl _, ⟨by omega, ?_⟩, by omega⟩
      · repeat' (with_reducible refine And.intro ?_ ?_)
        all_goals first | rfl | trivial | omega | (rw [IntWalk.i64_in _ (by omega)]; omega)
      · simpa only [List.append_assoc, List.cons_append, List.nil_append, List.append_nil, OV.row_cons, OV.row_nil, OV.v_rows, rowsRows_cons, rowsRows_app, cells_append, cells_cons, cellv_cons, cellv_nil, OV.val_v, o_2.mk_val, hkb0] using hr0
    · have hi2 : i = es.length := by omega
      subst hi2
      rw [List.take_length, List.drop_length, List.append_nil] at hc
      rw [List.take_length]
      simp (maxSteps := 1000000) -dsimp -implicitDefEqProofs only [go_sem, ↓reduceIte, keep116, ib116, mk116, Tryz.f116, Int.lt_irrefl, Nat.lt_irrefl]
      try intro _
      refine ⟨g, Heap.le_refl _, ?_⟩
      first | exact hc | exact ⟨rfl, hc⟩

def keep71 : List Nat := [0, 1, 2, 4]
def ib71 : List Nat := [2]
def mk71 : Marks := fun _ => ([], .nil, [])
set_option maxRecDepth 100000 in
theorem mark_Program (x : DProgram) : MarkA Tryz.prog 71 x.o := by
  intro e k h he h0 h1 ho nd
  obtain ⟨y_0, rfl, o_0⟩ := he
  simp only [OV.ctTop_cons, OV.ctTop_nil, OV.ctT_v, OV.mkTop_cons, OV.mkTop_nil, OV.mkT_v, Nat.add_zero, Nat.zero_add, zero_cast, Int.add_zero, Int.zero_add, o_0.ctT, o_0.mkT] at h1 ⊢
  have hc0 := Chg.refl ho
  simp only [List.append_assoc, List.cons_append, List.nil_append, List.append_nil, OV.row_cons, OV.row_nil, OV.v_rows, rowsRows_cons, rowsRows_app, cells_append, cells_cons, cellv_cons, cellv_nil, OV.val_v] at hc0 nd ⊢
  obtain ⟨L0, hL0⟩ : ∃ L : List (Nat × HObj), L = (y_0.rows) := ⟨_, rfl⟩
  replace hc0 : Chg h h L0 (y_0.rows) := by rw [hL0]; exact hc0
  rw [← hL0] at nd ⊢
  refine fnHF 10 keep71 ib71 mk71 mix Tryz.func71 rfl (by kernel_rfl) (by simp) ?_
  simp (maxSteps := 1000000) -dsimp -implicitDefEqProofs only [go_sem, ↓reduceIte, keep71, ib71, mk71, Tryz.f71, OV.map_val, OV.map_val_nil, OV.val_v, o_0.flat, o_0.one]
  have hp0 : Chg h h L0 ((([] : List (Nat × HObj))) ++ ((y_0.rows) ++ (([] : List (Nat × HObj))))) := by simpa only [List.append_assoc, List.cons_append, List.nil_append, List.append_nil, OV.row_cons, OV.row_nil, OV.v_rows, rowsRows_cons, rowsRows_app, cells_append, cells_cons, cellv_cons, cellv_nil, OV.val_v] using hc0
  refine HFnF.mkH (mark_FuncS x.fFuncs y_0 (k) _ o_0 (by omega) (by omega) hp0.owns.right.left (nodup_mid (hp0.nodup nd))) ?_
  rintro r g0 ⟨rfl, hch0⟩
  have hr0 := hp0.trans (Chg.mid hp0.owns (hp0.nodup nd) (by simpa only [List.append_assoc, List.cons_append, List.nil_append, List.append_nil, OV.row_cons, OV.row_nil, OV.v_rows, rowsRows_cons, rowsRows_app, cells_append, cells_cons, cellv_cons, cellv_nil, OV.val_v] using hch0))
  simp (maxSteps := 1000000) -dsimp -implicitDefEqProofs only [go_sem, ↓reduceIte, keep71, ib71, mk71, Tryz.f71, OV.map_val, OV.map_val_nil, OV.val_v, o_0.flat, o_0.one]
  refine ⟨g0, Heap.le_refl _, ?_⟩
  first
    | exact ⟨by congr 1; omega, by simpa only [List.append_assoc, List.cons_append, List.nil_append, List.append_nil, OV.row_cons, OV.row_nil, OV.v_rows, rowsRows_cons, rowsRows_app, cells_append, cells_cons, cellv_cons, cellv_nil, OV.val_v, Int.natCast_add, ← Int.add_assoc] using hr0⟩
    | exact ⟨by omega, by simpa only [List.append_assoc, List.cons_append, List.nil_append, List.append_nil, OV.row_cons, OV.row_nil, OV.v_rows, rowsRows_cons, rowsRows_app, cells_append, cells_cons, cellv_cons, cellv_nil, OV.val_v, Int.natCast_add, ← Int.add_assoc] using hr0⟩
    | simpa only [List.append_assoc, List.cons_append, List.nil_append, List.append_nil, OV.row_cons, OV.row_nil, OV.v_rows, rowsRows_cons, rowsRows_app, cells_append, cells_cons, cellv_cons, cellv_nil, OV.val_v, Int.natCast_add, ← Int.add_assoc] using hr0

def keep16 : List Nat := [0, 1, 4, 5, 9]
def ib16 : List Nat := []
def mk16 : Marks := fun _ => ([], .nil, [])
set_option maxRecDepth 100000 in
theorem mark_Int64S (l : List Int) : MarkS Tryz.prog 16 (OS (oP I) 1 l) := by
  intro y k h hy h0 h1 ho nd
  rcases hy with ⟨rfl, hl⟩ | ⟨n, es, rfl, hor⟩
  · rw [OV.mk_nil, OV.nil_rows, OV.ct_nil, OV.val_nil]
    refine fnHF 19 keep16 ib16 mk16 mix Tryz.func16 rfl (by kernel_rfl) (by simp) ?_
    simp (maxSteps := 1000000) -dsimp -implicitDefEqProofs only [go_sem, ↓reduceIte, keep16, ib16, mk16, Tryz.f16]
    refine loopF (keep := keep16) (ib := ib16) (mk := mk16) mix (by kernel_rfl) (fun _ : Unit => [(0, .sl 1 [] true), (1, I k), (5, I 0)]) (fun _ => h) (fun _ => True) (fun _ => 0) () (by simp [SatL, tget, Heap.le_refl]) ?_
    intro _ _
    simp (maxSteps := 1000000) -dsimp -implicitDefEqProofs only [go_sem, ↓reduceIte, keep16, ib16, mk16, Tryz.f16, zero_cast, Int.lt_irrefl]
    try intro _
    refine ⟨h, Heap.le_refl _, ?_⟩
    first | exact Chg.refl (by simp [Owns]) | exact ⟨by simp, Chg.refl (by simp [Owns])⟩
  · rw [OV.mk_sl, OV.sl_rows, OV.sl_rows, OV.ct_sl, OV.val_sl]
    rw [OV.ct_sl] at h1
    rw [OV.sl_rows] at ho nd
    generalize hL0 : (n, HObj.row 1 (OV.cells es)) :: OV.rowsRows es = L0 at nd ⊢
    refine fnHF 19 keep16 ib16 mk16 mix Tryz.func16 rfl (by kernel_rfl) (by simp) ?_
    simp (maxSteps := 1000000) -dsimp -implicitDefEqProofs only [go_sem, ↓reduceIte, keep16, ib16, mk16, Tryz.f16]
    refine loopF (keep := keep16) (ib := ib16) (mk := mk16) mix (by kernel_rfl) (fun x : Nat × Heap => [(0, .os n 1 0 es.length), (1, I (k + OV.ctRows (es.take x.1))), (5, I x.1)]) (fun x => x.2) (fun x => x.1 ≤ es.length ∧ Chg h x.2 L0 ((n, .row 1 (OV.cells (OV.mkRows k (es.take x.1) ++ es.drop x.1))) :: OV.rowsRows (OV.mkRows k (es.take x.1) ++ es.drop x.1))) (fun x => es.length - x.1) (0, h) (by
      refine ⟨by simp [SatL, tget, OV.ctRows], Heap.le_refl _, Nat.zero_le _, ?_⟩
      rw [← hL0]
      simpa [OV.mkRows] using Chg.refl ho) ?_
    rintro ⟨i, g⟩ ⟨hi, hc⟩
    simp only at hi hc ⊢
    rcases Nat.lt_or_ge i es.length with hlt | hge
    · have hll : i < l.length := by rw [hor.length]; exact hlt
      obtain ⟨A, e, B, rfl, hA, he⟩ := hor.split i hll
      have t1 : (A ++ e :: B).take i = A := by rw [← hA]; simp
      have t2 : (A ++ e :: B).drop i = e :: B := by rw [← hA]; simp
      have t0 : A ++ e :: B = (A ++ [e]) ++ B := by simp
      have t3 : (A ++ e :: B).take (i + 1) = A ++ [e] := by rw [t0]; exact List.take_left' (by simp [hA])
      have t4 : (A ++ e :: B).drop (i + 1) = B := by rw [t0]; exact List.drop_left' (by simp [hA])
      clear t0
      have hct := OV.ctRows_append A (e :: B)
      rw [OV.ctRows] at hct
      rw [t1, t2] at hc
      rw [t1]
      have hA2 : (OV.cells (OV.mkRows k A)).length = i := by rw [OV.cells, List.length_map, OV.mkRows_len, hA]
      have hs2 := OV.mkRows_snoc k A e
      have hs3 := OV.ctRows_snoc A e
      obtain rfl : _ = _ := he
      simp only [OV.ctRow_cons, OV.ctRow_nil, OV.ct_v, Nat.add_zero, OV.mkRow_cons, OV.mkRow_nil, OV.mk_v, leaf_int, leaf_bool, leaf_str, one_cast] at hct hs2 hs3
      generalize hkk : k + (OV.ctRows A : Int) = kk at hs2 ⊢
      generalize OV.mkRows k A = A2 at hs2 hc hA2
      have gm : ∀ (c : List Cell) (Y : List (List Cell)), (OV.cells A2 ++ c :: Y)[i]? = some c := fun c Y => get_mid hA2
      have sm : ∀ (c c2 : List Cell) (Y : List (List Cell)), (OV.cells A2 ++ c :: Y).set i c2 = OV.cells A2 ++ c2 :: Y := fun c c2 Y => set_mid hA2
      have hc0 := hc
      simp only [List.append_assoc, List.cons_append, List.nil_append, List.append_nil, OV.row_cons, OV.row_nil, OV.v_rows, rowsRows_cons, rowsRows_app, cells_append, cells_cons, cellv_cons, cellv_nil, OV.val_v] at hc0
      have hgn := hc0.owns (n, _) List.mem_cons_self
      simp only at hgn
      have iw0_0 : IntKind.i64.wrap (kk + 1) = kk + 1 := IntWalk.i64_in _ (by omega)
      simp (maxSteps := 1000000) -dsimp -implicitDefEqProofs only [go_sem, ↓reduceIte, keep16, ib16, mk16, Tryz.f16, hgn, gm, sm, upd_upd, upd_same, iw0_0]
      repeat' (with_reducible first | intro _ | refine And.intro ?_ ?_)
      all_goals try omega
      have hq0 := hc0.trans (Chg.set (o' := .row 1 (OV.cells A2 ++ [.v (.int .i64 (kk))] :: OV.cells B)) hc0.owns (hc0.nodup nd))
      have hg0 : upd g n (.row 1 (OV.cells A2 ++ [.v (.int .i64 (kk))] :: OV.cells B)) n = some (.row 1 (OV.cells A2 ++ [.v (.int .i64 (kk))] :: OV.cells B)) := upd_same _ _ _
      refine ⟨(i + 1, (upd g n (.row 1 (OV.cells A2 ++ [.v (.int .i64 (kk))] :: OV.cells B)))), ?_⟩
      simp only [t3, t4, hs2, hs3]
      refine ⟨?_, Heap.le_refl _, ⟨by omega, ?_⟩, by omega⟩
      · repeat' (with_reducible refine And.intro ?_ ?_)
        all_goals first | rfl | trivial | omega | (rw [IntWalk.i64_in _ (by omega)]; omega)
      · simpa only [List.append_assoc, List.cons_append, List.nil_append, List.append_nil, OV.row_cons, OV.row_nil, OV.v_rows, rowsRows_cons, rowsRows_app, cells_append, cells_cons, cellv_cons, cellv_nil, OV.val_v] using hq0
    · have hi2 : i = es.length := by omega
      subst hi2
      rw [List.take_length, List.drop_length, List.append_nil] at hc
      rw [List.take_length]
      simp (maxSteps := 1000000) -dsimp -implicitDefEqProofs only [go_sem, ↓reduceIte, keep16, ib16, mk16, Tryz.f16, Int.lt_irrefl, Nat.lt_irrefl]
      try intro _
      refine ⟨g, Heap.le_refl _, ?_⟩
      first | exact hc | exact ⟨rfl, hc⟩

def keep72 : List Nat := [0, 1, 4, 5, 9]
def ib72 : List Nat := []
def mk72 : Marks := fun _ => ([], .nil, [])
set_option maxRecDepth 100000 in
theorem mark_Int64SS (l : List (List Int)) : MarkS Tryz.prog 72 (OS (oS (oP I) 1) 1 l) := by
  intro y k h hy h0 h1 ho nd
  rcases hy with ⟨rfl, hl⟩ | ⟨n, es, rfl, hor⟩
  · rw [OV.mk_nil, OV.nil_rows, OV.ct_nil, OV.val_nil]
    refine fnHF 19 keep72 ib72 mk72 mix Tryz.func72 rfl (by kernel_rfl) (by simp) ?_
    simp (maxSteps := 1000000) -dsimp -implicitDefEqProofs only [go_sem, ↓reduceIte, keep72, ib72, mk72, Tryz.f72]
    refine loopF (keep := keep72) (ib := ib72) (mk := mk72) mix (by kernel_rfl) (fun _ : Unit => [(0, .sl 1 [] true), (1, I k), (5, I 0)]) (fun _ => h) (fun _ => True) (fun _ => 0) () (by simp [SatL, tget, Heap.le_refl]) ?_
    intro _ _
    simp (maxSteps := 1000000) -dsimp -implicitDefEqProofs only [go_sem, ↓reduceIte, keep72, ib72, mk72, Tryz.f72, zero_cast, Int.lt_irrefl]
    try intro _
    refine ⟨h, Heap.le_refl _, ?_⟩
    first | exact Chg.refl (by simp [Owns]) | exact ⟨by simp, Chg.refl (by simp [Owns])⟩
  · rw [OV.mk_sl, OV.sl_rows, OV.sl_rows, OV.ct_sl, OV.val_sl]
    rw [OV.ct_sl] at h1
    rw [OV.sl_rows] at ho nd
    generalize hL0 : (n, HObj.row 1 (OV.cells es)) :: OV.rowsRows es = L0 at nd ⊢
    refine fnHF 19 keep72 ib72 mk72 mix Tryz.func72 rfl (by kernel_rfl) (by simp) ?_
    simp (maxSteps := 1000000) -dsimp -implicitDefEqProofs only [go_sem, ↓reduceIte, keep72, ib72, mk72, Tryz.f72]
    refine loopF (keep := keep72) (ib := ib72) (mk := mk72) mix (by kernel_rfl) (fun x : Nat × Heap => [(0, .os n 1 0 es.length), (1, I (k + OV.ctRows (es.take x.1))), (5, I x.1)]) (fun x => x.2) (fun x => x.1 ≤ es.length ∧ Chg h x.2 L0 ((n, .row 1 (OV.cells (OV.mkRows k (es.take x.1) ++ es.drop x.1))) :: OV.rowsRows (OV.mkRows k (es.take x.1) ++ es.drop x.1))) (fun x => es.length - x.1) (0, h) (by
      refine ⟨by simp [SatL, tget, OV.ctRows], Heap.le_refl _, Nat.zero_le _, ?_⟩
      rw [← hL0]
      simpa [OV.mkRows] using Chg.refl ho) ?_
    rintro ⟨i, g⟩ ⟨hi, hc⟩
    simp only at hi hc ⊢
    rcases Nat.lt_or_ge i es.length with hlt | hge
    · have hll : i < l.length := by rw [hor.length]; exact hlt
      obtain ⟨A, e, B, rfl, hA, he⟩ := hor.split i hll
      have t1 : (A ++ e :: B).take i = A := by rw [← hA]; simp
      have t2 : (A ++ e :: B).drop i = e :: B := by rw [← hA]; simp
      have t0 : A ++ e :: B = (A ++ [e]) ++ B := by simp
      have t3 : (A ++ e :: B).take (i + 1) = A ++ [e] := by rw [t0]; exact List.take_left' (by simp [hA])
      have t4 : (A ++ e :: B).drop (i + 1) = B := by rw [t0]; exact List.drop_left' (by simp [hA])
      clear t0
      have hct := OV.ctRows_append A (e :: B)
      rw [OV.ctRows] at hct
      rw [t1, t2] at hc
      rw [t1]
      have hA2 : (OV.cells (OV.mkRows k A)).length = i := by rw [OV.cells, List.length_map, OV.mkRows_len, hA]
      have hs2 := OV.mkRows_snoc k A e
      have hs3 := OV.ctRows_snoc A e
      obtain ⟨y_0, rfl, o_0⟩ := he
      simp only [OV.ctRow_cons, OV.ctRow_nil, OV.ct_v, Nat.add_zero, OV.mkRow_cons, OV.mkRow_nil, OV.mk_v, leaf_int, leaf_bool, leaf_str, one_cast] at hct hs2 hs3
      generalize hkk : k + (OV.ctRows A : Int) = kk at hs2 ⊢
      generalize OV.mkRows k A = A2 at hs2 hc hA2
      have gm : ∀ (c : List Cell) (Y : List (List Cell)), (OV.cells A2 ++ c :: Y)[i]? = some c := fun c Y => get_mid hA2
      have sm : ∀ (c c2 : List Cell) (Y : List (List Cell)), (OV.cells A2 ++ c :: Y).set i c2 = OV.cells A2 ++ c2 :: Y := fun c c2 Y => set_mid hA2
      have hc0 := hc
      simp only [List.append_assoc, List.cons_append, List.nil_append, List.append_nil, OV.row_cons, OV.row_nil, OV.v_rows, rowsRows_cons, rowsRows_app, cells_append, cells_cons, cellv_cons, cellv_nil, OV.val_v] at hc0
      have hgn := hc0.owns (n, _) List.mem_cons_self
      simp only at hgn
      simp (maxSteps := 1000000) -dsimp -implicitDefEqProofs only [go_sem, ↓reduceIte, keep72, ib72, mk72, Tryz.f72, hgn, gm, sm, upd_upd, upd_same, o_0.flat, o_0.one]
      repeat' (with_reducible first | intro _ | refine And.intro ?_ ?_)
      all_goals try omega
      have hp0 : Chg h g L0 (((n, .row 1 (OV.cells A2 ++ [.v y_0.val] :: OV.cells B)) :: (OV.rowsRows A2)) ++ (y_0.rows ++ (OV.rowsRows B))) := by simpa only [List.append_assoc, List.cons_append, List.nil_append, List.append_nil, OV.row_cons, OV.row_nil, OV.v_rows, rowsRows_cons, rowsRows_app, cells_append, cells_cons, cellv_cons, cellv_nil, OV.val_v] using hc0
      refine HFnF.mkH ((mark_Int64S l[i]) y_0 (kk) _ o_0 (by omega) (by omega) hp0.owns.right.left (nodup_mid (hp0.nodup nd))) ?_
      rintro r g0 ⟨rfl, hch0⟩
      have hr0 := hp0.trans (Chg.mid hp0.owns (hp0.nodup nd) hch0)
      have hg0r := hr0.owns (n, _) List.mem_cons_self
      simp only at hg0r
      have hkb0 : ∃ z : Int, z = kk + (y_0.ct : Int) := ⟨_, rfl⟩
      obtain ⟨kk0, hkb0⟩ := hkb0
      rw [← hkb0]
      simp (maxSteps := 1000000) -dsimp -implicitDefEqProofs only [go_sem, ↓reduceIte, keep72, ib72, mk72, Tryz.f72, hg0r, gm, sm, upd_upd, upd_same, o_0.flat, o_0.one]
      refine ⟨(i + 1, g0), ?_⟩
      simp only [t3, t4, hs2, hs3]
      refine ⟨?_, Heap.le_refl _, ⟨by omega, ?_⟩, by omega⟩
      · repeat' (with_reducible refine And.intro ?_ ?_)
        all_goals first | rfl | trivial | omega | (rw [IntWalk.i64_in _ (by omega)]; omega)
      · simpa only [List.append_assoc, List.cons_append, List.nil_append, List.append_nil, OV.row_cons, OV.row_nil, OV.v_rows, rowsRows_cons, rowsRows_app, cells_append, cells_cons, cellv_cons, cellv_nil, OV.val_v, o_0.mk_val, hkb0] using hr0
    · have hi2 : i = es.length := by omega
      subst hi2
      rw [List.take_length, List.drop_length, List.append_nil] at hc
      rw [List.take_length]
      simp (maxSteps := 1000000) -dsimp -implicitDefEqProofs only [go_sem, ↓reduceIte, keep72, ib72, mk72, Tryz.f72, Int.lt_irrefl, Nat.lt_irrefl]
      try intro _
      refine ⟨g, Heap.le_refl _, ?_⟩
      first | exact hc | exact ⟨rfl, hc⟩

def keep24 : List Nat := [0, 1, 2, 4]
def ib24 : List Nat := [2]
def mk24 : Marks := fun _ => ([], .nil, [])
set_option maxRecDepth 100000 in
theorem mark_Job (x : DJob) : MarkA Tryz.prog 24 x.o := by
  intro e k h he h0 h1 ho nd
  obtain ⟨y_0, y_3, y_4, rfl, o_0, o_3, o_4⟩ := he
  simp only [OV.ctTop_cons, OV.ctTop_nil, OV.ctT_v, OV.mkTop_cons, OV.mkTop_nil, OV.mkT_v, Nat.add_zero, Nat.zero_add, zero_cast, Int.add_zero, Int.zero_add, o_0.ctT, o_0.mkT, o_3.ctT, o_3.mkT, o_4.ctT, o_4.mkT] at h1 ⊢
  have hc0 := Chg.refl ho
  simp only [List.append_assoc, List.cons_append, List.nil_append, List.append_nil, OV.row_cons, OV.row_nil, OV.v_rows, rowsRows_cons, rowsRows_app, cells_append, cells_cons, cellv_cons, cellv_nil, OV.val_v] at hc0 nd ⊢
  obtain ⟨L0, hL0⟩ : ∃ L : List (Nat × HObj), L = (y_0.rows ++ (y_3.rows ++ (y_4.rows))) := ⟨_, rfl⟩
  replace hc0 : Chg h h L0 (y_0.rows ++ (y_3.rows ++ (y_4.rows))) := by rw [hL0]; exact hc0
  rw [← hL0] at nd ⊢
  refine fnHF 18 keep24 ib24 mk24 mix Tryz.func24 rfl (by kernel_rfl) (by simp) ?_
  simp (maxSteps := 1000000) -dsimp -implicitDefEqProofs only [go_sem, ↓reduceIte, keep24, ib24, mk24, Tryz.f24, OV.map_val, OV.map_val_nil, OV.val_v, o_0.flat, o_0.one, o_3.flat, o_3.one, o_4.flat, o_4.one]
  have hp0 : Chg h h L0 ((([] : List (Nat × HObj))) ++ ((y_0.rows) ++ (y_3.rows ++ y_4.rows))) := by simpa only [List.append_assoc, List.cons_append, List.nil_append, List.append_nil, OV.row_cons, OV.row_nil, OV.v_rows, rowsRows_cons, rowsRows_app, cells_append, cells_cons, cellv_cons, cellv_nil, OV.val_v] using hc0
  have hs0 := mark_Program x.fProgram [y_0] (k) h ⟨y_0, rfl, o_0⟩ (by omega) (by simp only [OV.ctTop_cons, OV.ctTop_nil, OV.ctT_v, OV.mkTop_cons, OV.mkTop_nil, OV.mkT_v, Nat.add_zero, Nat.zero_add, zero_cast, Int.add_zero, Int.zero_add, o_0.ctT, o_0.mkT, o_3.ctT, o_3.mkT, o_4.ctT, o_4.mkT]; omega) (by simpa only [List.append_assoc, List.cons_append, List.nil_append, List.append_nil, OV.row_cons, OV.row_nil, OV.v_rows, rowsRows_cons, rowsRows_app, cells_append, cells_cons, cellv_cons, cellv_nil, OV.val_v] using hp0.owns.right.left) (by simpa only [List.append_assoc, List.cons_append, List.nil_append, List.append_nil, OV.row_cons, OV.row_nil, OV.v_rows, rowsRows_cons, rowsRows_app, cells_append, cells_cons, cellv_cons, cellv_nil, OV.val_v] using nodup_mid (hp0.nodup nd))
  simp only [OV.ctTop_cons, OV.ctTop_nil, OV.ctT_v, OV.mkTop_cons, OV.mkTop_nil, OV.mkT_v, Nat.add_zero, Nat.zero_add, zero_cast, Int.add_zero, Int.zero_add, o_0.ctT, o_0.mkT, o_3.ctT, o_3.mkT, o_4.ctT, o_4.mkT, List.append_assoc, List.cons_append, List.nil_append, List.append_nil, OV.row_cons, OV.row_nil, OV.v_rows, rowsRows_cons, rowsRows_app, cells_append, cells_cons, cellv_cons, cellv_nil, OV.val_v, OV.map_val, OV.map_val_nil, Int.natCast_add, ← Int.add_assoc] at hs0
  refine HFnF.mkH hs0 ?_
  rintro r g0 ⟨rfl, hch0⟩
  have hr0 := hp0.trans (Chg.mid hp0.owns (hp0.nodup nd) (by simpa only [List.append_assoc, List.cons_append, List.nil_append, List.append_nil, OV.row_cons, OV.row_nil, OV.v_rows, rowsRows_cons, rowsRows_app, cells_append, cells_cons, cellv_cons, cellv_nil, OV.val_v] using hch0))
  simp (maxSteps := 1000000) -dsimp -implicitDefEqProofs only [go_sem, ↓reduceIte, keep24, ib24, mk24, Tryz.f24, OV.map_val, OV.map_val_nil, OV.val_v, o_0.flat, o_0.one, o_3.flat, o_3.one, o_4.flat, o_4.one]
  have hp1 : Chg h g0 L0 (((y_0.mk (k)).rows) ++ ((y_3.rows) ++ (y_4.rows))) := by simpa only [List.append_assoc, List.cons_append, List.nil_append, List.append_nil, OV.row_cons, OV.row_nil, OV.v_rows, rowsRows_cons, rowsRows_app, cells_append, cells_cons, cellv_cons, cellv_nil, OV.val_v] using hr0
  refine HFnF.mkH (mark_Int64S x.fPoint y_3 (k + (y_0.ct : Int)) _ o_3 (by omega) (by omega) hp1.owns.right.left (nodup_mid (hp1.nodup nd))) ?_
  rintro r g1 ⟨rfl, hch1⟩
  have hr1 := hp1.trans (Chg.mid hp1.owns (hp1.nodup nd) (by simpa only [List.append_assoc, List.cons_append, List.nil_append, List.append_nil, OV.row_cons, OV.row_nil, OV.v_rows, rowsRows_cons, rowsRows_app, cells_append, cells_cons, cellv_cons, cellv_nil, OV.val_v] using hch1))
  simp (maxSteps := 1000000) -dsimp -implicitDefEqProofs only [go_sem, ↓reduceIte, keep24, ib24, mk24, Tryz.f24, OV.map_val, OV.map_val_nil, OV.val_v, o_0.flat, o_0.one, o_3.flat, o_3.one, o_4.flat, o_4.one]
  have hp2 : Chg h g1 L0 (((y_0.mk (k)).rows ++ (y_3.mk (k + (y_0.ct : Int))).rows) ++ ((y_4.rows) ++ (([] : List (Nat × HObj))))) := by simpa only [List.append_assoc, List.cons_append, List.nil_append, List.append_nil, OV.row_cons, OV.row_nil, OV.v_rows, rowsRows_cons, rowsRows_app, cells_append, cells_cons, cellv_cons, cellv_nil, OV.val_v] using hr1
  refine HFnF.mkH (mark_Int64SS x.fTerms y_4 (k + (y_0.ct : Int) + (y_3.ct : Int)) _ o_4 (by omega) (by omega) hp2.owns.right.left (nodup_mid (hp2.nodup nd))) ?_
  rintro r g2 ⟨rfl, hch2⟩
  have hr2 := hp2.trans (Chg.mid hp2.owns (hp2.nodup nd) (by simpa only [List.append_assoc, List.cons_append, List.nil_append, List.append_nil, OV.row_cons, OV.row_nil, OV.v_rows, rowsRows_cons, rowsRows_app, cells_append, cells_cons, cellv_cons, cellv_nil, OV.val_v] using hch2))
  simp (maxSteps := 1000000) -dsimp -implicitDefEqProofs only [go_sem, ↓reduceIte, keep24, ib24, mk24, Tryz.f24, OV.map_val, OV.map_val_nil, OV.val_v, o_0.flat, o_0.one, o_3.flat, o_3.one, o_4.flat, o_4.one]
  refine ⟨g2, Heap.le_refl _, ?_⟩
  first
    | exact ⟨by congr 1; omega, by simpa only [List.append_assoc, List.cons_append, List.nil_append, List.append_nil, OV.row_cons, OV.row_nil, OV.v_rows, rowsRows_cons, rowsRows_app, cells_append, cells_cons, cellv_cons, cellv_nil, OV.val_v, Int.natCast_add, ← Int.add_assoc] using hr2⟩
    | exact ⟨by omega, by simpa only [List.append_assoc, List.cons_append, List.nil_append, List.append_nil, OV.row_cons, OV.row_nil, OV.v_rows, rowsRows_cons, rowsRows_app, cells_append, cells_cons, cellv_cons, cellv_nil, OV.val_v, Int.natCast_add, ← Int.add_assoc] using hr2⟩
    | simpa only [List.append_assoc, List.cons_append, List.nil_append, List.append_nil, OV.row_cons, OV.row_nil, OV.v_rows, rowsRows_cons, rowsRows_app, cells_append, cells_cons, cellv_cons, cellv_nil, OV.val_v, Int.natCast_add, ← Int.add_assoc] using hr2


def keep53 : List Nat := [0, 1, 4, 5, 9]
def ib53 : List Nat := []
def mk53 : Marks := fun _ => ([], .nil, [])
set_option maxRecDepth 100000 in
theorem mark_BoolS (l : List Bool) : MarkS Tryz.prog 53 (OS (oP HVal.bool) 1 l) := by
  intro y k h hy h0 h1 ho nd
  rcases hy with ⟨rfl, hl⟩ | ⟨n, es, rfl, hor⟩
  · rw [OV.mk_nil, OV.nil_rows, OV.ct_nil, OV.val_nil]
    refine fnHF 21 keep53 ib53 mk53 mix Tryz.func53 rfl (by kernel_rfl) (by simp) ?_
    simp (maxSteps := 1000000) -dsimp -implicitDefEqProofs only [go_sem, ↓reduceIte, keep53, ib53, mk53, Tryz.f53]
    refine loopF (keep := keep53) (ib := ib53) (mk := mk53) mix (by kernel_rfl) (fun _ : Unit => [(0, .sl 1 [] true), (1, I k), (5, I 0)]) (fun _ => h) (fun _ => True) (fun _ => 0) () (by simp [SatL, tget, Heap.le_refl]) ?_
    intro _ _
    simp (maxSteps := 1000000) -dsimp -implicitDefEqProofs only [go_sem, ↓reduceIte, keep53, ib53, mk53, Tryz.f53, zero_cast, Int.lt_irrefl]
    try intro _
    refine ⟨h, Heap.le_refl _, ?_⟩
    first | exact Chg.refl (by simp [Owns]) | exact ⟨by simp, Chg.refl (by simp [Owns])⟩
  · rw [OV.mk_sl, OV.sl_rows, OV.sl_rows, OV.ct_sl, OV.val_sl]
    rw [OV.ct_sl] at h1
    rw [OV.sl_rows] at ho nd
    generalize hL0 : (n, HObj.row 1 (OV.cells es)) :: OV.rowsRows es = L0 at nd ⊢
    refine fnHF 21 keep53 ib53 mk53 mix Tryz.func53 rfl (by kernel_rfl) (by simp) ?_
    simp (maxSteps := 1000000) -dsimp -implicitDefEqProofs only [go_sem, ↓reduceIte, keep53, ib53, mk53, Tryz.f53]
    refine loopF (keep := keep53) (ib := ib53) (mk := mk53) mix (by kernel_rfl) (fun x : Nat × Heap => [(0, .os n 1 0 es.length), (1, I (k + OV.ctRows (es.take x.1))), (5, I x.1)]) (fun x => x.2) (fun x => x.1 ≤ es.length ∧ Chg h x.2 L0 ((n, .row 1 (OV.cells (OV.mkRows k (es.take x.1) ++ es.drop x.1))) :: OV.rowsRows (OV.mkRows k (es.take x.1) ++ es.drop x.1))) (fun x => es.length - x.1) (0, h) (by
      refine ⟨by simp [SatL, tget, OV.ctRows], Heap.le_refl _, Nat.zero_le _, ?_⟩
      rw [← hL0]
      simpa [OV.mkRows] using Chg.refl ho) ?_
    rintro ⟨i, g⟩ ⟨hi, hc⟩
    simp only at hi hc ⊢
    rcases Nat.lt_or_ge i es.length with hlt | hge
    · have hll : i < l.length := by rw [hor.length]; exact hlt
      obtain ⟨A, e, B, rfl, hA, he⟩ := hor.split i hll
      have t1 : (A ++ e :: B).take i = A := by rw [← hA]; simp
      have t2 : (A ++ e :: B).drop i = e :: B := by rw [← hA]; simp
      have t0 : A ++ e :: B = (A ++ [e]) ++ B := by simp
      have t3 : (A ++ e :: B).take (i + 1) = A ++ [e] := by rw [t0]; exact List.take_left' (by simp [hA])
      have t4 : (A ++ e :: B).drop (i + 1) = B := by rw [t0]; exact List.drop_left' (by simp [hA])
      clear t0
      have hct := OV.ctRows_append A (e :: B)
      rw [OV.ctRows] at hct
      rw [t1, t2] at hc
      rw [t1]
      have hA2 : (OV.cells (OV.mkRows k A)).length = i := by rw [OV.cells, List.length_map, OV.mkRows_len, hA]
      have hs2 := OV.mkRows_snoc k A e
      have hs3 := OV.ctRows_snoc A e
      obtain rfl : _ = _ := he
      simp only [OV.ctRow_cons, OV.ctRow_nil, OV.ct_v, Nat.add_zero, OV.mkRow_cons, OV.mkRow_nil, OV.mk_v, leaf_int, leaf_bool, leaf_str, one_cast] at hct hs2 hs3
      generalize hkk : k + (OV.ctRows A : Int) = kk at hs2 ⊢
      generalize OV.mkRows k A = A2 at hs2 hc hA2
      have gm : ∀ (c : List Cell) (Y : List (List Cell)), (OV.cells A2 ++ c :: Y)[i]? = some c := fun c Y => get_mid hA2
      have sm : ∀ (c c2 : List Cell) (Y : List (List Cell)), (OV.cells A2 ++ c :: Y).set i c2 = OV.cells A2 ++ c2 :: Y := fun c c2 Y => set_mid hA2
      have hc0 := hc
      simp only [List.append_assoc, List.cons_append, List.nil_append, List.append_nil, OV.row_cons, OV.row_nil, OV.v_rows, rowsRows_cons, rowsRows_app, cells_append, cells_cons, cellv_cons, cellv_nil, OV.val_v] at hc0
      have hgn := hc0.owns (n, _) List.mem_cons_self
      simp only at hgn
      have iw0_0 : IntKind.i64.wrap (kk + 1) = kk + 1 := IntWalk.i64_in _ (by omega)
      simp (maxSteps := 1000000) -dsimp -implicitDefEqProofs only [go_sem, ↓reduceIte, keep53, ib53, mk53, Tryz.f53, hgn, gm, sm, upd_upd, upd_same, iw0_0]
      repeat' (with_reducible first | intro _ | refine And.intro ?_ ?_)
      all_goals try omega
      have hq0 := hc0.trans (Chg.set (o' := .row 1 (OV.cells A2 ++ [.v (.bool (decide ((kk).tmod 3 = 0)))] :: OV.cells B)) hc0.owns (hc0.nodup nd))
      have hg0 : upd g n (.row 1 (OV.cells A2 ++ [.v (.bool (decide ((kk).tmod 3 = 0)))] :: OV.cells B)) n = some (.row 1 (OV.cells A2 ++ [.v (.bool (decide ((kk).tmod 3 = 0)))] :: OV.cells B)) := upd_same _ _ _
      refine ⟨(i + 1, (upd g n (.row 1 (OV.cells A2 ++ [.v (.bool (decide ((kk).tmod 3 = 0)))] :: OV.cells B)))), ?_⟩
      simp only [t3, t4, hs2, hs3]
      refine ⟨?_, Heap.le_refl _, ⟨by omega, ?_⟩, by omega⟩
      · repeat' (with_reducible refine And.intro ?_ ?_)
        all_goals first | rfl | trivial | omega | (rw [IntWalk.i64_in _ (by omega)]; omega)
      · simpa only [List.append_assoc, List.cons_append, List.nil_append, List.append_nil, OV.row_cons, OV.row_nil, OV.v_rows, rowsRows_cons, rowsRows_app, cells_append, cells_cons, cellv_cons, cellv_nil, OV.val_v] using hq0
    · have hi2 : i = es.length := by omega
      subst hi2
      rw [List.take_length, List.drop_length, List.append_nil] at hc
      rw [List.take_length]
      simp (maxSteps := 1000000) -dsimp -implicitDefEqProofs only [go_sem, ↓reduceIte, keep53, ib53, mk53, Tryz.f53, Int.lt_irrefl, Nat.lt_irrefl]
      try intro _
      refine ⟨g, Heap.le_refl _, ?_⟩
      first | exact hc | exact ⟨rfl, hc⟩

def keep54 : List Nat := [0, 1, 4, 5, 9]
def ib54 : List Nat := []
def mk54 : Marks := fun _ => ([], .nil, [])
set_option maxRecDepth 100000 in
theorem mark_PartS (l : List DPart) : MarkS Tryz.prog 54 (OS DPart.o 3 l) := by
  intro y k h hy h0 h1 ho nd
  rcases hy with ⟨rfl, hl⟩ | ⟨n, es, rfl, hor⟩
  · rw [OV.mk_nil, OV.nil_rows, OV.ct_nil, OV.val_nil]
    refine fnHF 34 keep54 ib54 mk54 mix Tryz.func54 rfl (by kernel_rfl) (by simp) ?_
    simp (maxSteps := 1000000) -dsimp -implicitDefEqProofs only [go_sem, ↓reduceIte, keep54, ib54, mk54, Tryz.f54]
    refine loopF (keep := keep54) (ib := ib54) (mk := mk54) mix (by kernel_rfl) (fun _ : Unit => [(0, .sl 3 [] true), (1, I k), (5, I 0)]) (fun _ => h) (fun _ => True) (fun _ => 0) () (by simp [SatL, tget, Heap.le_refl]) ?_
    intro _ _
    simp (maxSteps := 1000000) -dsimp -implicitDefEqProofs only [go_sem, ↓reduceIte, keep54, ib54, mk54, Tryz.f54, zero_cast, Int.lt_irrefl]
    try intro _
    refine ⟨h, Heap.le_refl _, ?_⟩
    first | exact Chg.refl (by simp [Owns]) | exact ⟨by simp, Chg.refl (by simp [Owns])⟩
  · rw [OV.mk_sl, OV.sl_rows, OV.sl_rows, OV.ct_sl, OV.val_sl]
    rw [OV.ct_sl] at h1
    rw [OV.sl_rows] at ho nd
    generalize hL0 : (n, HObj.row 3 (OV.cells es)) :: OV.rowsRows es = L0 at nd ⊢
    refine fnHF 34 keep54 ib54 mk54 mix Tryz.func54 rfl (by kernel_rfl) (by simp) ?_
    simp (maxSteps := 1000000) -dsimp -implicitDefEqProofs only [go_sem, ↓reduceIte, keep54, ib54, mk54, Tryz.f54]
    refine loopF (keep := keep54) (ib := ib54) (mk := mk54) mix (by kernel_rfl) (fun x : Nat × Heap => [(0, .os n 3 0 es.length), (1, I (k + OV.ctRows (es.take x.1))), (5, I x.1)]) (fun x => x.2) (fun x => x.1 ≤ es.length ∧ Chg h x.2 L0 ((n, .row 3 (OV.cells (OV.mkRows k (es.take x.1) ++ es.drop x.1))) :: OV.rowsRows (OV.mkRows k (es.take x.1) ++ es.drop x.1))) (fun x => es.length - x.1) (0, h) (by
      refine ⟨by simp [SatL, tget, OV.ctRows], Heap.le_refl _, Nat.zero_le _, ?_⟩
      rw [← hL0]
      simpa [OV.mkRows] using Chg.refl ho) ?_
    rintro ⟨i, g⟩ ⟨hi, hc⟩
    simp only at hi hc ⊢
    rcases Nat.lt_or_ge i es.length with hlt | hge
    · have hll : i < l.length := by rw [hor.length]; exact hlt
      obtain ⟨A, e, B, rfl, hA, he⟩ := hor.split i hll
      have t1 : (A ++ e :: B).take i = A := by rw [← hA]; simp
      have t2 : (A ++ e :: B).drop i = e :: B := by rw [← hA]; simp
      have t0 : A ++ e :: B = (A ++ [e]) ++ B := by simp
      have t3 : (A ++ e :: B).take (i + 1) = A ++ [e] := by rw [t0]; exact List.take_left' (by simp [hA])
      have t4 : (A ++ e :: B).drop (i + 1) = B := by rw [t0]; exact List.drop_left' (by simp [hA])
      clear t0
      have hct := OV.ctRows_append A (e :: B)
      rw [OV.ctRows] at hct
      rw [t1, t2] at hc
      rw [t1]
      have hA2 : (OV.cells (OV.mkRows k A)).length = i := by rw [OV.cells, List.length_map, OV.mkRows_len, hA]
      have hs2 := OV.mkRows_snoc k A e
      have hs3 := OV.ctRows_snoc A e
      obtain ⟨y_2, rfl, o_2⟩ := he
      simp only [OV.ctRow_cons, OV.ctRow_nil, OV.ct_v, Nat.add_zero, OV.mkRow_cons, OV.mkRow_nil, OV.mk_v, leaf_int, leaf_bool, leaf_str, one_cast] at hct hs2 hs3
      generalize hkk : k + (OV.ctRows A : Int) = kk at hs2 ⊢
      generalize OV.mkRows k A = A2 at hs2 hc hA2
      have gm : ∀ (c : List Cell) (Y : List (List Cell)), (OV.cells A2 ++ c :: Y)[i]? = some c := fun c Y => get_mid hA2
      have sm : ∀ (c c2 : List Cell) (Y : List (List Cell)), (OV.cells A2 ++ c :: Y).set i c2 = OV.cells A2 ++ c2 :: Y := fun c c2 Y => set_mid hA2
      have hc0 := hc
      simp only [List.append_assoc, List.cons_append, List.nil_append, List.append_nil, OV.row_cons, OV.row_nil, OV.v_rows, rowsRows_cons, rowsRows_app, cells_append, cells_cons, cellv_cons, cellv_nil, OV.val_v] at hc0
      have hgn := hc0.owns (n, _) List.mem_cons_self
      simp only at hgn
      have iw0_0 : IntKind.i64.wrap (kk + 1) = kk + 1 := IntWalk.i64_in _ (by omega)
      have iw0_1 : IntKind.i64.wrap (kk + 1 + 1) = kk + 1 + 1 := IntWalk.i64_in _ (by omega)
      simp (maxSteps := 1000000) -dsimp -implicitDefEqProofs only [go_sem, ↓reduceIte, keep54, ib54, mk54, Tryz.f54, hgn, gm, sm, upd_upd, upd_same, o_2.flat, o_2.one, iw0_0, iw0_1]
      repeat' (with_reducible first | intro _ | refine And.intro ?_ ?_)
      all_goals try omega
      have hq0 := hc0.trans (Chg.set (o' := .row 3 (OV.cells A2 ++ [.v (.int .i64 (kk)), .v (.int .i64 (kk + 1)), .v y_2.val] :: OV.cells B)) hc0.owns (hc0.nodup nd))
      have hg0 : upd g n (.row 3 (OV.cells A2 ++ [.v (.int .i64 (kk)), .v (.int .i64 (kk + 1)), .v y_2.val] :: OV.cells B)) n = some (.row 3 (OV.cells A2 ++ [.v (.int .i64 (kk)), .v (.int .i64 (kk + 1)), .v y_2.val] :: OV.cells B)) := upd_same _ _ _
      have hp0 : Chg h (upd g n (.row 3 (OV.cells A2 ++ [.v (.int .i64 (kk)), .v (.int .i64 (kk + 1)), .v y_2.val] :: OV.cells B))) L0 (((n, .row 3 (OV.cells A2 ++ [.v (.int .i64 (kk)), .v (.int .i64 (kk + 1)), .v y_2.val] :: OV.cells B)) :: (OV.rowsRows A2)) ++ (y_2.rows ++ (OV.rowsRows B))) := by simpa only [List.append_assoc, List.cons_append, List.nil_append, List.append_nil, OV.row_cons, OV.row_nil, OV.v_rows, rowsRows_cons, rowsRows_app, cells_append, cells_cons, cellv_cons, cellv_nil, OV.val_v] using hq0
      refine HFnF.mkH ((mark_Int64S l[i].fGrad) y_2 (kk + 1 + 1) _ o_2 (by omega) (by omega) hp0.owns.right.left (nodup_mid (hp0.nodup nd))) ?_
      rintro r g0 ⟨rfl, hch0⟩
      have hr0 := hp0.trans (Chg.mid hp0.owns (hp0.nodup nd) hch0)
      have hg0r := hr0.owns (n, _) List.mem_cons_self
      simp only at hg0r
      have hkb0 : ∃ z : Int, z = kk + 1 + 1 + (y_2.ct : Int) := ⟨_, rfl⟩
      obtain ⟨kk0, hkb0⟩ := hkb0
      rw [← hkb0]
      simp (maxSteps := 1000000) -dsimp -implicitDefEqProofs only [go_sem, ↓reduceIte, keep54, ib54, mk54, Tryz.f54, hg0r, gm, sm, upd_upd, upd_same, o_2.flat, o_2.one, iw0_0, iw0_1]
      refine ⟨(i + 1, g0), ?_⟩
      simp only [t3, t4, hs2, hs3]
      refine ⟨?_, Heap.le_refl _, ⟨by omega, ?_⟩, by omega⟩
      · repeat' (with_reducible refine And.intro ?_ ?_)
        all_goals first | rfl | trivial | omega | (rw [IntWalk.i64_in _ (by omega)]; omega)
      · simpa only [List.append_assoc, List.cons_append, List.nil_append, List.append_nil, OV.row_cons, OV.row_nil, OV.v_rows, rowsRows_cons, rowsRows_app, cells_append, cells_cons, cellv_cons, cellv_nil, OV.val_v, o_2.mk_val, hkb0] using hr0
    · have hi2 : i = es.length := by omega
      subst hi2
      rw [List.take_length, List.drop_length, List.append_nil] at hc
      rw [List.take_length]
      simp (maxSteps := 1000000) -dsimp -implicitDefEqProofs only [go_sem, ↓reduceIte, keep54, ib54, mk54, Tryz.f54, Int.lt_irrefl, Nat.lt_irrefl]
      try intro _
      refine ⟨g, Heap.le_refl _, ?_⟩
      first | exact hc | exact ⟨rfl, hc⟩

def keep15 : List Nat := [0, 1, 2, 4]
def ib15 : List Nat := [2]
def mk15 : Marks := fun _ => ([], .nil, [])
set_option maxRecDepth 100000 in
theorem mark_Service (x : DService) : MarkA Tryz.prog 15 x.o := by
  intro e k h he h0 h1 ho nd
  obtain ⟨y_0, y_3, y_4, y_5, y_6, y_7, y_8, rfl, o_0, o_3, o_4, o_5, o_6, o_7, o_8⟩ := he
  simp only [OV.ctTop_cons, OV.ctTop_nil, OV.ctT_v, OV.mkTop_cons, OV.mkTop_nil, OV.mkT_v, Nat.add_zero, Nat.zero_add, zero_cast, Int.add_zero, Int.zero_add, o_0.ctT, o_0.mkT, o_3.ctT, o_3.mkT, o_4.ctT, o_4.mkT, o_5.ctT, o_5.mkT, o_6.ctT, o_6.mkT, o_7.ctT, o_7.mkT, o_8.ctT, o_8.mkT] at h1 ⊢
  have hc0 := Chg.refl ho
  simp only [List.append_assoc, List.cons_append, List.nil_append, List.append_nil, OV.row_cons, OV.row_nil, OV.v_rows, rowsRows_cons, rowsRows_app, cells_append, cells_cons, cellv_cons, cellv_nil, OV.val_v] at hc0 nd ⊢
  obtain ⟨L0, hL0⟩ : ∃ L : List (Nat × HObj), L = (y_0.rows ++ (y_3.rows ++ (y_4.rows ++ (y_5.rows ++ (y_6.rows ++ (y_7.rows ++ (y_8.rows))))))) := ⟨_, rfl⟩
  replace hc0 : Chg h h L0 (y_0.rows ++ (y_3.rows ++ (y_4.rows ++ (y_5.rows ++ (y_6.rows ++ (y_7.rows ++ (y_8.rows))))))) := by rw [hL0]; exact hc0
  rw [← hL0] at nd ⊢
  refine fnHF 26 keep15 ib15 mk15 mix Tryz.func15 rfl (by kernel_rfl) (by simp) ?_
  simp (maxSteps := 1000000) -dsimp -implicitDefEqProofs only [go_sem, ↓reduceIte, keep15, ib15, mk15, Tryz.f15, OV.map_val, OV.map_val_nil, OV.val_v, o_0.flat, o_0.one, o_3.flat, o_3.one, o_4.flat, o_4.one, o_5.flat, o_5.one, o_6.flat, o_6.one, o_7.flat, o_7.one, o_8.flat, o_8.one]
  have hp0 : Chg h h L0 ((([] : List (Nat × HObj))) ++ ((y_0.rows ++ (y_3.rows ++ (y_4.rows))) ++ (y_5.rows ++ y_6.rows ++ y_7.rows ++ y_8.rows))) := by simpa only [List.append_assoc, List.cons_append, List.nil_append, List.append_nil, OV.row_cons, OV.row_nil, OV.v_rows, rowsRows_cons, rowsRows_app, cells_append, cells_cons, cellv_cons, cellv_nil, OV.val_v] using hc0
  have hs0 := mark_Job x.fJob [y_0, .v (.int .i64 x.fJob.fFunc), .v (.int .i64 x.fJob.fShared), y_3, y_4] (k) h ⟨y_0, y_3, y_4, rfl, o_0, o_3, o_4⟩ (by omega) (by simp only [OV.ctTop_cons, OV.ctTop_nil, OV.ctT_v, OV.mkTop_cons, OV.mkTop_nil, OV.mkT_v, Nat.add_zero, Nat.zero_add, zero_cast, Int.add_zero, Int.zero_add, o_0.ctT, o_0.mkT, o_3.ctT, o_3.mkT, o_4.ctT, o_4.mkT, o_5.ctT, o_5.mkT, o_6.ctT, o_6.mkT, o_7.ctT, o_7.mkT, o_8.ctT, o_8.mkT]; omega) (by simpa only [List.append_assoc, List.cons_append, List.nil_append, List.append_nil, OV.row_cons, OV.row_nil, OV.v_rows, rowsRows_cons, rowsRows_app, cells_append, cells_cons, cellv_cons, cellv_nil, OV.val_v] using hp0.owns.right.left) (by simpa only [List.append_assoc, List.cons_append, List.nil_append, List.append_nil, OV.row_cons, OV.row_nil, OV.v_rows, rowsRows_cons, rowsRows_app, cells_append, cells_cons, cellv_cons, cellv_nil, OV.val_v] using nodup_mid (hp0.nodup nd))
  simp only [OV.ctTop_cons, OV.ctTop_nil, OV.ctT_v, OV.mkTop_cons, OV.mkTop_nil, OV.mkT_v, Nat.add_zero, Nat.zero_add, zero_cast, Int.add_zero, Int.zero_add, o_0.ctT, o_0.mkT, o_3.ctT, o_3.mkT, o_4.ctT, o_4.mkT, o_5.ctT, o_5.mkT, o_6.ctT, o_6.mkT, o_7.ctT, o_7.mkT, o_8.ctT, o_8.mkT, List.append_assoc, List.cons_append, List.nil_append, List.append_nil, OV.row_cons, OV.row_nil, OV.v_rows, rowsRows_cons, rowsRows_app, cells_append, cells_cons, cellv_cons, cellv_nil, OV.val_v, OV.map_val, OV.map_val_nil, Int.natCast_add, ← Int.add_assoc] at hs0
  refine HFnF.mkH hs0 ?_
  rintro r g0 ⟨rfl, hch0⟩
  have hr0 := hp0.trans (Chg.mid hp0.owns (hp0.nodup nd) (by simpa only [List.append_assoc, List.cons_append, List.nil_append, List.append_nil, OV.row_cons, OV.row_nil, OV.v_rows, rowsRows_cons, rowsRows_app, cells_append, cells_cons, cellv_cons, cellv_nil, OV.val_v] using hch0))
  simp (maxSteps := 1000000) -dsimp -implicitDefEqProofs only [go_sem, ↓reduceIte, keep15, ib15, mk15, Tryz.f15, OV.map_val, OV.map_val_nil, OV.val_v, o_0.flat, o_0.one, o_3.flat, o_3.one, o_4.flat, o_4.one, o_5.flat, o_5.one, o_6.flat, o_6.one, o_7.flat, o_7.one, o_8.flat, o_8.one]
  have hp1 : Chg h g0 L0 (((y_0.mk (k)).rows ++ (y_3.mk (k + (y_0.ct : Int))).rows ++ (y_4.mk (k + (y_0.ct : Int) + (y_3.ct : Int))).rows) ++ ((y_5.rows) ++ (y_6.rows ++ y_7.rows ++ y_8.rows))) := by simpa only [List.append_assoc, List.cons_append, List.nil_append, List.append_nil, OV.row_cons, OV.row_nil, OV.v_rows, rowsRows_cons, rowsRows_app, cells_append, cells_cons, cellv_cons, cellv_nil, OV.val_v] using hr0
  refine HFnF.mkH (mark_Int64S x.fStamps y_5 (k + (y_0.ct : Int) + (y_3.ct : Int) + (y_4.ct : Int)) _ o_5 (by omega) (by omega) hp1.owns.right.left (nodup_mid (hp1.nodup nd))) ?_
  rintro r g1 ⟨rfl, hch1⟩
  have hr1 := hp1.trans (Chg.mid hp1.owns (hp1.nodup nd) (by simpa only [List.append_assoc, List.cons_append, List.nil_append, List.append_nil, OV.row_cons, OV.row_nil, OV.v_rows, rowsRows_cons, rowsRows_app, cells_append, cells_cons, cellv_cons, cellv_nil, OV.val_v] using hch1))
  simp (maxSteps := 1000000) -dsimp -implicitDefEqProofs only [go_sem, ↓reduceIte, keep15, ib15, mk15, Tryz.f15, OV.map_val, OV.map_val_nil, OV.val_v, o_0.flat, o_0.one, o_3.flat, o_3.one, o_4.flat, o_4.one, o_5.flat, o_5.one, o_6.flat, o_6.one, o_7.flat, o_7.one, o_8.flat, o_8.one]
  have hp2 : Chg h g1 L0 (((y_0.mk (k)).rows ++ (y_3.mk (k + (y_0.ct : Int))).rows ++ (y_4.mk (k + (y_0.ct : Int) + (y_3.ct : Int))).rows ++ (y_5.mk (k + (y_0.ct : Int) + (y_3.ct : Int) + (y_4.ct : Int))).rows) ++ ((y_6.rows) ++ (y_7.rows ++ y_8.rows))) := by simpa only [List.append_assoc, List.cons_append, List.nil_append, List.append_nil, OV.row_cons, OV.row_nil, OV.v_rows, rowsRows_cons, rowsRows_app, cells_append, cells_cons, cellv_cons, cellv_nil, OV.val_v] using hr1
  refine HFnF.mkH (mark_BoolS x.fKnown y_6 (k + (y_0.ct : Int) + (y_3.ct : Int) + (y_4.ct : Int) + (y_5.ct : Int)) _ o_6 (by omega) (by omega) hp2.owns.right.left (nodup_mid (hp2.nodup nd))) ?_
  rintro r g2 ⟨rfl, hch2⟩
  have hr2 := hp2.trans (Chg.mid hp2.owns (hp2.nodup nd) (by simpa only [List.append_assoc, List.cons_append, List.nil_append, List.append_nil, OV.row_cons, OV.row_nil, OV.v_rows, rowsRows_cons, rowsRows_app, cells_append, cells_cons, cellv_cons, cellv_nil, OV.val_v] using hch2))
  simp (maxSteps := 1000000) -dsimp -implicitDefEqProofs only [go_sem, ↓reduceIte, keep15, ib15, mk15, Tryz.f15, OV.map_val, OV.map_val_nil, OV.val_v, o_0.flat, o_0.one, o_3.flat, o_3.one, o_4.flat, o_4.one, o_5.flat, o_5.one, o_6.flat, o_6.one, o_7.flat, o_7.one, o_8.flat, o_8.one]
  have hp3 : Chg h g2 L0 (((y_0.mk (k)).rows ++ (y_3.mk (k + (y_0.ct : Int))).rows ++ (y_4.mk (k + (y_0.ct : Int) + (y_3.ct : Int))).rows ++ (y_5.mk (k + (y_0.ct : Int) + (y_3.ct : Int) + (y_4.ct : Int))).rows ++ (y_6.mk (k + (y_0.ct : Int) + (y_3.ct : Int) + (y_4.ct : Int) + (y_5.ct : Int))).rows) ++ ((y_7.rows) ++ (y_8.rows))) := by simpa only [List.append_assoc, List.cons_append, List.nil_append, List.append_nil, OV.row_cons, OV.row_nil, OV.v_rows, rowsRows_cons, rowsRows_app, cells_append, cells_cons, cellv_cons, cellv_nil, OV.val_v] using hr2
  refine HFnF.mkH (mark_PartS x.fParts y_7 (k + (y_0.ct : Int) + (y_3.ct : Int) + (y_4.ct : Int) + (y_5.ct : Int) + (y_6.ct : Int)) _ o_7 (by omega) (by omega) hp3.owns.right.left (nodup_mid (hp3.nodup nd))) ?_
  rintro r g3 ⟨rfl, hch3⟩
  have hr3 := hp3.trans (Chg.mid hp3.owns (hp3.nodup nd) (by simpa only [List.append_assoc, List.cons_append, List.nil_append, List.append_nil, OV.row_cons, OV.row_nil, OV.v_rows, rowsRows_cons, rowsRows_app, cells_append, cells_cons, cellv_cons, cellv_nil, OV.val_v] using hch3))
  simp (maxSteps := 1000000) -dsimp -implicitDefEqProofs only [go_sem, ↓reduceIte, keep15, ib15, mk15, Tryz.f15, OV.map_val, OV.map_val_nil, OV.val_v, o_0.flat, o_0.one, o_3.flat, o_3.one, o_4.flat, o_4.one, o_5.flat, o_5.one, o_6.flat, o_6.one, o_7.flat, o_7.one, o_8.flat, o_8.one]
  have hp4 : Chg h g3 L0 (((y_0.mk (k)).rows ++ (y_3.mk (k + (y_0.ct : Int))).rows ++ (y_4.mk (k + (y_0.ct : Int) + (y_3.ct : Int))).rows ++ (y_5.mk (k + (y_0.ct : Int) + (y_3.ct : Int) + (y_4.ct : Int))).rows ++ (y_6.mk (k + (y_0.ct : Int) + (y_3.ct : Int) + (y_4.ct : Int) + (y_5.ct : Int))).rows ++ (y_7.mk (k + (y_0.ct : Int) + (y_3.ct : Int) + (y_4.ct : Int) + (y_5.ct : Int) + (y_6.ct : Int))).rows) ++ ((y_8.rows) ++ (([] : List (Nat × HObj))))) := by simpa only [List.append_assoc, List.cons_append, List.nil_append, List.append_nil, OV.row_cons, OV.row_nil, OV.v_rows, rowsRows_cons, rowsRows_app, cells_append, cells_cons, cellv_cons, cellv_nil, OV.val_v] using hr3
  refine HFnF.mkH (mark_Int64S x.fOwners y_8 (k + (y_0.ct : Int) + (y_3.ct : Int) + (y_4.ct : Int) + (y_5.ct : Int) + (y_6.ct : Int) + (y_7.ct : Int)) _ o_8 (by omega) (by omega) hp4.owns.right.left (nodup_mid (hp4.nodup nd))) ?_
  rintro r g4 ⟨rfl, hch4⟩
  have hr4 := hp4.trans (Chg.mid hp4.owns (hp4.nodup nd) (by simpa only [List.append_assoc, List.cons_append, List.nil_append, List.append_nil, OV.row_cons, OV.row_nil, OV.v_rows, rowsRows_cons, rowsRows_app, cells_append, cells_cons, cellv_cons, cellv_nil, OV.val_v] using hch4))
  simp (maxSteps := 1000000) -dsimp -implicitDefEqProofs only [go_sem, ↓reduceIte, keep15, ib15, mk15, Tryz.f15, OV.map_val, OV.map_val_nil, OV.val_v, o_0.flat, o_0.one, o_3.flat, o_3.one, o_4.flat, o_4.one, o_5.flat, o_5.one, o_6.flat, o_6.one, o_7.flat, o_7.one, o_8.flat, o_8.one]
  refine ⟨g4, Heap.le_refl _, ?_⟩
  first
    | exact ⟨by congr 1; omega, by simpa only [List.append_assoc, List.cons_append, List.nil_append, List.append_nil, OV.row_cons, OV.row_nil, OV.v_rows, rowsRows_cons, rowsRows_app, cells_append, cells_cons, cellv_cons, cellv_nil, OV.val_v, Int.natCast_add, ← Int.add_assoc] using hr4⟩
    | exact ⟨by omega, by simpa only [List.append_assoc, List.cons_append, List.nil_append, List.append_nil, OV.row_cons, OV.row_nil, OV.v_rows, rowsRows_cons, rowsRows_app, cells_append, cells_cons, cellv_cons, cellv_nil, OV.val_v, Int.natCast_add, ← Int.add_assoc] using hr4⟩
    | simpa only [List.append_assoc, List.cons_append, List.nil_append, List.append_nil, OV.row_cons, OV.row_nil, OV.v_rows, rowsRows_cons, rowsRows_app, cells_append, cells_cons, cellv_cons, cellv_nil, OV.val_v, Int.natCast_add, ← Int.add_assoc] using hr4

open Go.Proofs
set_option linter.unusedVariables false
set_option linter.unusedSimpArgs false


def keep155 : List Nat := [0, 1, 4, 5, 9, 18, 27, 36, 45, 56]
def ib155 : List Nat := []
def mk155 : Marks := fun _ => ([], .nil, [])
set_option maxRecDepth 100000 in
theorem held_ExprS_step (l : List DExpr) (hk : ∀ x ∈ l, HeldS Tryz.prog 155 (OS DExpr.o 5 x.fKids)) : HeldS Tryz.prog 155 (OS DExpr.o 5 l) := by
  intro y k hy h0 h1
  rcases hy with ⟨rfl, hl⟩ | ⟨n, es, rfl, hor⟩
  · rw [OV.mk_nil, dat_nil, OV.ct_nil]
    refine fn0F 58 keep155 ib155 mk155 mix Tryz.func155 rfl (by kernel_rfl) (by simp) fun h => ?_
    simp (maxSteps := 1000000) -dsimp -implicitDefEqProofs only [go_sem, ↓reduceIte, keep155, ib155, mk155, Tryz.f155]
    refine loopF (keep := keep155) (ib := ib155) (mk := mk155) mix (by kernel_rfl) (fun _ : Unit => [(0, .sl 5 [] false), (1, I k), (5, I 0)]) (fun _ => h) (fun _ => True) (fun _ => 0) () (by simp [SatL, tget, Heap.le_refl]) ?_
    intro _ _
    simp (maxSteps := 1000000) -dsimp -implicitDefEqProofs only [go_sem, ↓reduceIte, keep155, ib155, mk155, Tryz.f155, zero_cast, Int.lt_irrefl]
    first | done | (intro _; simp) | simp
  · rw [OV.mk_sl, dat_sl, OV.ct_sl]
    rw [OV.ct_sl] at h1
    have hlen : (OV.datRows (OV.mkRows k es)).length = es.length := by rw [datRows_len, OV.mkRows_len]
    refine fn0F 58 keep155 ib155 mk155 mix Tryz.func155 rfl (by kernel_rfl) (by simp) fun h => ?_
    simp (maxSteps := 1000000) -dsimp -implicitDefEqProofs only [go_sem, ↓reduceIte, keep155, ib155, mk155, Tryz.f155, hlen]
    refine loopF (keep := keep155) (ib := ib155) (mk := mk155) mix (by kernel_rfl) (fun i : Nat => [(0, .sl 5 (OV.datRows (OV.mkRows k es)) false), (1, I (k + OV.ctRows (es.take i))), (5, I i)]) (fun _ => h) (fun i => i ≤ es.length) (fun i => es.length - i) 0 (by simp [SatL, tget, OV.ctRows, Heap.le_refl]) ?_
    intro i hi
    rcases Nat.lt_or_ge i es.length with hlt | hge
    · have hll : i < l.length := by rw [hor.length]; exact hlt
      obtain ⟨A, e, B, rfl, hA, he⟩ := hor.split i hll
      have t1 : (A ++ e :: B).take i = A := by rw [← hA]; simp
      have t0 : A ++ e :: B = (A ++ [e]) ++ B := by simp
      have t3 : (A ++ e :: B).take (i + 1) = A ++ [e] := by rw [t0]; exact List.take_left' (by simp [hA])
      clear t0
      have hct := OV.ctRows_append A (e :: B)
      rw [OV.ctRows] at hct
      rw [t1]
      have hs3 := OV.ctRows_snoc A e
      have hD : OV.datRows (OV.mkRows k (A ++ e :: B)) = OV.datRows (OV.mkRows k A) ++ (OV.mkRow (k + (OV.ctRows A : Int)) e).map OV.dat :: OV.datRows (OV.mkRows (k + (OV.ctRows A : Int) + (OV.ctRow e : Int)) B) := by
        rw [OV.mkRows_append, datRows_append, OV.mkRows, datRows_cons]
      have hA2 : (OV.datRows (OV.mkRows k A)).length = i := by rw [datRows_len, OV.mkRows_len, hA]
      have hi2 : (i : Int) < (A ++ e :: B).length := by omega
      rw [DExpr.o_iff] at he
      obtain ⟨y_4, rfl, o_4⟩ := he
      simp only [OV.ctRow_cons, OV.ctRow_nil, OV.ct_v, Nat.add_zero, one_cast] at hct hs3
      generalize hkk : k + (OV.ctRows A : Int) = kk at hD ⊢
      have gm : (OV.datRows (OV.mkRows k (A ++ [.v (.int .i64 l[i].fKind), .v (.int .i64 l[i].fNum), .v (.int .i64 l[i].fPick), .v (.int .i64 l[i].fCount), y_4] :: B)))[i]? = some ((OV.mkRow kk [.v (.int .i64 l[i].fKind), .v (.int .i64 l[i].fNum), .v (.int .i64 l[i].fPick), .v (.int .i64 l[i].fCount), y_4]).map OV.dat) := by rw [hD]; exact get_mid hA2
      simp only [OV.mkRow_cons, OV.mkRow_nil, OV.mk_v, leaf_int, leaf_bool, leaf_str, OV.ct_v, one_cast, map_dat_cons, map_dat_nil, dat_v] at gm
      clear hD
      generalize OV.datRows (OV.mkRows k (A ++ [.v (.int .i64 l[i].fKind), .v (.int .i64 l[i].fNum), .v (.int .i64 l[i].fPick), .v (.int .i64 l[i].fCount), y_4] :: B)) = DD at gm hlen ⊢
      have iw0_0 : IntKind.i64.wrap (kk + 1) = kk + 1 := IntWalk.i64_in _ (by omega)
      have iw0_1 : IntKind.i64.wrap (kk + 1 + 1) = kk + 1 + 1 := IntWalk.i64_in _ (by omega)
      have iw0_2 : IntKind.i64.wrap (kk + 1 + 1 + 1) = kk + 1 + 1 + 1 := IntWalk.i64_in _ (by omega)
      have iw0_3 : IntKind.i64.wrap (kk + 1 + 1 + 1 + 1) = kk + 1 + 1 + 1 + 1 := IntWalk.i64_in _ (by omega)
      simp (maxSteps := 1000000) -dsimp -implicitDefEqProofs only [go_sem, ↓reduceIte, keep155, ib155, mk155, Tryz.f155, hlen, hi2, gm, eq_self, decide_true, Bool.not_true, bne_self_eq_false, iw0_0, iw0_1, iw0_2, iw0_3]
      repeat' (with_reducible first | intro _ | refine And.intro ?_ ?_)
      all_goals try omega
      all_goals try (exact absurd rfl (by assumption))
      refine HFnF.mk ((hk l[i] (List.getElem_mem hll)) y_4 (kk + 1 + 1 + 1 + 1) o_4 (by omega) (by omega)) ?_
      have hkb0 : ∃ z : Int, z = kk + 1 + 1 + 1 + 1 + (y_4.ct : Int) := ⟨_, rfl⟩
      obtain ⟨kk0, hkb0⟩ := hkb0
      rw [← hkb0]
      simp (maxSteps := 1000000) -dsimp -implicitDefEqProofs only [go_sem, ↓reduceIte, keep155, ib155, mk155, Tryz.f155, hlen, hi2, gm, eq_self, decide_true, Bool.not_true, bne_self_eq_false, iw0_0, iw0_1, iw0_2, iw0_3]
      repeat' (with_reducible first | intro _ | refine And.intro ?_ ?_)
      all_goals try omega
      all_goals try (exact absurd rfl (by assumption))
      refine ⟨i + 1, ?_⟩
      simp only [t3, hs3]
      repeat' (with_reducible first | intro _ | refine And.intro ?_ ?_)
      all_goals first | rfl | trivial | omega | exact Heap.le_refl _ | (rw [IntWalk.i64_in _ (by omega)]; omega)
    · have hi2 : i = es.length := by omega
      subst hi2
      rw [List.take_length]
      simp (maxSteps := 1000000) -dsimp -implicitDefEqProofs only [go_sem, ↓reduceIte, keep155, ib155, mk155, Tryz.f155, hlen, Int.lt_irrefl, Nat.lt_irrefl]
      first | done | (intro _; rfl) | rfl
theorem held_ExprS (l : List DExpr) : HeldS Tryz.prog 155 (OS DExpr.o 5 l) :=
  held_ExprS_step l fun x hx => held_ExprS x.fKids
termination_by SizeOf.sizeOf l
decreasing_by
  have h1 := List.sizeOf_lt_of_mem hx
  cases x
  simp only [DExpr.mk.sizeOf_spec, DExpr.fKids] at h1 ⊢
  omega



def keep141 : List Nat := [0, 1, 4, 5, 9, 19, 28, 39]
def ib141 : List Nat := []
def mk141 : Marks := fun id => match id with | 4 => ([], (.op 0 (.op 1 (.op 2 (.op 3 (.op 4 (.op 5 (.op 6 (.op 7 .nil)))))))), []) | _ => ([], .nil, [])
set_option maxRecDepth 100000 in
theorem held_FuncS (l : List DFunc) : HeldS Tryz.prog 141 (OS DFunc.o 3 l) := by
  intro y k hy h0 h1
  rcases hy with ⟨rfl, hl⟩ | ⟨n, es, rfl, hor⟩
  · rw [OV.mk_nil, dat_nil, OV.ct_nil]
    refine fn0F 41 keep141 ib141 mk141 mix Tryz.func141 rfl (by kernel_rfl) (by simp) fun h => ?_
    simp (maxSteps := 1000000) -dsimp -implicitDefEqProofs only [go_sem, ↓reduceIte, keep141, ib141, mk141, Tryz.f141]
    refine loopF (keep := keep141) (ib := ib141) (mk := mk141) mix (by kernel_rfl) (fun _ : Unit => [(0, .sl 3 [] false), (1, I k), (5, I 0)]) (fun _ => h) (fun _ => True) (fun _ => 0) () (by simp [SatL, tget, Heap.le_refl]) ?_
    intro _ _
    simp (maxSteps := 1000000) -dsimp -implicitDefEqProofs only [go_sem, ↓reduceIte, keep141, ib141, mk141, Tryz.f141, zero_cast, Int.lt_irrefl]
    first | done | (intro _; simp) | simp
  · rw [OV.mk_sl, dat_sl, OV.ct_sl]
    rw [OV.ct_sl] at h1
    have hlen : (OV.datRows (OV.mkRows k es)).length = es.length := by rw [datRows_len, OV.mkRows_len]
    refine fn0F 41 keep141 ib141 mk141 mix Tryz.func141 rfl (by kernel_rfl) (by simp) fun h => ?_
    simp (maxSteps := 1000000) -dsimp -implicitDefEqProofs only [go_sem, ↓reduceIte, keep141, ib141, mk141, Tryz.f141, hlen]
    refine loopF (keep := keep141) (ib := ib141) (mk := mk141) mix (by kernel_rfl) (fun i : Nat => [(0, .sl 3 (OV.datRows (OV.mkRows k es)) false), (1, I (k + OV.ctRows (es.take i))), (5, I i)]) (fun _ => h) (fun i => i ≤ es.length) (fun i => es.length - i) 0 (by simp [SatL, tget, OV.ctRows, Heap.le_refl]) ?_
    intro i hi
    rcases Nat.lt_or_ge i es.length with hlt | hge
    · have hll : i < l.length := by rw [hor.length]; exact hlt
      obtain ⟨A, e, B, rfl, hA, he⟩ := hor.split i hll
      have t1 : (A ++ e :: B).take i = A := by rw [← hA]; simp
      have t0 : A ++ e :: B = (A ++ [e]) ++ B := by simp
      have t3 : (A ++ e :: B).take (i + 1) = A ++ [e] := by rw [t0]; exact List.take_left' (by simp [hA])
      clear t0
      have hct := OV.ctRows_append A (e :: B)
      rw [OV.ctRows] at hct
      rw [t1]
      have hs3 := OV.ctRows_snoc A e
      have hD : OV.datRows (OV.mkRows k (A ++ e :: B)) = OV.datRows (OV.mkRows k A) ++ (OV.mkRow (k + (OV.ctRows A : Int)) e).map OV.dat :: OV.datRows (OV.mkRows (k + (OV.ctRows A : Int) + (OV.ctRow e : Int)) B) := by
        rw [OV.mkRows_append, datRows_append, OV.mkRows, datRows_cons]
      have hA2 : (OV.datRows (OV.mkRows k A)).length = i := by rw [datRows_len, OV.mkRows_len, hA]
      have hi2 : (i : Int) < (A ++ e :: B).length := by omega
      obtain ⟨y_2, rfl, o_2⟩ := he
      simp only [OV.ctRow_cons, OV.ctRow_nil, OV.ct_v, Nat.add_zero, one_cast] at hct hs3
      generalize hkk : k + (OV.ctRows A : Int) = kk at hD ⊢
      have gm : (OV.datRows (OV.mkRows k (A ++ [.v (.str l[i].fName), .v (.int .i64 l[i].fParams), y_2] :: B)))[i]? = some ((OV.mkRow kk [.v (.str l[i].fName), .v (.int .i64 l[i].fParams), y_2]).map OV.dat) := by rw [hD]; exact get_mid hA2
      simp only [OV.mkRow_cons, OV.mkRow_nil, OV.mk_v, leaf_int, leaf_bool, leaf_str, OV.ct_v, one_cast, map_dat_cons, map_dat_nil, dat_v] at gm
      clear hD
      generalize OV.datRows (OV.mkRows k (A ++ [.v (.str l[i].fName), .v (.int .i64 l[i].fParams), y_2] :: B)) = DD at gm hlen ⊢
      have iw0_0 : IntKind.i64.wrap (kk + 1) = kk + 1 := IntWalk.i64_in _ (by omega)
      have iw0_1 : IntKind.i64.wrap (kk + 1 + 1) = kk + 1 + 1 := IntWalk.i64_in _ (by omega)
      simp (maxSteps := 1000000) -dsimp -implicitDefEqProofs only [go_sem, ↓reduceIte, keep141, ib141, mk141, Tryz.f141, hlen, hi2, gm, eq_self, decide_true, Bool.not_true, bne_self_eq_false, iw0_0, iw0_1]
      repeat' (with_reducible first | intro _ | refine And.intro ?_ ?_)
      all_goals try omega
      all_goals try (exact absurd rfl (by assumption))
      first | refine HFnF.mk (markText (kk) (by omega)) ?_ | refine CallSF.mk (markText (kk) (by omega)) ?_
      simp (maxSteps := 1000000) -dsimp -implicitDefEqProofs only [go_sem, ↓reduceIte, keep141, ib141, mk141, Tryz.f141, hlen, hi2, gm, eq_self, decide_true, Bool.not_true, bne_self_eq_false, iw0_0, iw0_1]
      repeat' (with_reducible first | intro _ | refine And.intro ?_ ?_)
      all_goals try omega
      all_goals try (exact absurd rfl (by assumption))
      refine HFnF.mk ((held_ExprS l[i].fOuts) y_2 (kk + 1 + 1) o_2 (by omega) (by omega)) ?_
      have hkb0 : ∃ z : Int, z = kk + 1 + 1 + (y_2.ct : Int) := ⟨_, rfl⟩
      obtain ⟨kk0, hkb0⟩ := hkb0
      rw [← hkb0]
      simp (maxSteps := 1000000) -dsimp -implicitDefEqProofs only [go_sem, ↓reduceIte, keep141, ib141, mk141, Tryz.f141, hlen, hi2, gm, eq_self, decide_true, Bool.not_true, bne_self_eq_false, iw0_0, iw0_1]
      repeat' (with_reducible first | intro _ | refine And.intro ?_ ?_)
      all_goals try omega
      all_goals try (exact absurd rfl (by assumption))
      refine ⟨i + 1, ?_⟩
      simp only [t3, hs3]
      repeat' (with_reducible first | intro _ | refine And.intro ?_ ?_)
      all_goals first | rfl | trivial | omega | exact Heap.le_refl _ | (rw [IntWalk.i64_in _ (by omega)]; omega)
    · have hi2 : i = es.length := by omega
      subst hi2
      rw [List.take_length]
      simp (maxSteps := 1000000) -dsimp -implicitDefEqProofs only [go_sem, ↓reduceIte, keep141, ib141, mk141, Tryz.f141, hlen, Int.lt_irrefl, Nat.lt_irrefl]
      first | done | (intro _; rfl) | rfl

def keep117 : List Nat := [0, 1, 2, 4, 10]
def ib117 : List Nat := [2]
def mk117 : Marks := fun _ => ([], .nil, [])
set_option maxRecDepth 100000 in
theorem held_Program (x : DProgram) : HeldA Tryz.prog 117 x.o := by
  intro e k he h0 h1
  obtain ⟨y_0, rfl, o_0⟩ := he
  simp only [OV.ctTop_cons, OV.ctTop_nil, OV.ctT_v, OV.mkTop_cons, OV.mkTop_nil, OV.mkT_v, Nat.add_zero, Nat.zero_add, zero_cast, Int.add_zero, Int.zero_add, o_0.ctT, o_0.mkT, map_dat_cons, map_dat_nil, dat_v] at h1 ⊢
  refine fn0F 12 keep117 ib117 mk117 mix Tryz.func117 rfl (by kernel_rfl) (by simp) fun h => ?_
  simp (maxSteps := 1000000) -dsimp -implicitDefEqProofs only [go_sem, ↓reduceIte, keep117, ib117, mk117, Tryz.f117, o_0.datflat, o_0.datone]
  repeat' (with_reducible first | intro _ | refine And.intro ?_ ?_)
  all_goals try omega
  refine HFnF.mk (held_FuncS x.fFuncs y_0 (k) o_0 (by omega) (by omega)) ?_
  simp (maxSteps := 1000000) -dsimp -implicitDefEqProofs only [go_sem, ↓reduceIte, keep117, ib117, mk117, Tryz.f117, o_0.datflat, o_0.datone]
  repeat' (with_reducible first | intro _ | refine And.intro ?_ ?_)
  all_goals try omega
  all_goals first | done | rfl | trivial | (congr 1; omega) | omega | (simp only [go_sem]; omega)

def keep17 : List Nat := [0, 1, 4, 5, 9, 17]
def ib17 : List Nat := []
def mk17 : Marks := fun _ => ([], .nil, [])
set_option maxRecDepth 100000 in
theorem held_Int64S (l : List Int) : HeldS Tryz.prog 17 (OS (oP I) 1 l) := by
  intro y k hy h0 h1
  rcases hy with ⟨rfl, hl⟩ | ⟨n, es, rfl, hor⟩
  · rw [OV.mk_nil, dat_nil, OV.ct_nil]
    refine fn0F 21 keep17 ib17 mk17 mix Tryz.func17 rfl (by kernel_rfl) (by simp) fun h => ?_
    simp (maxSteps := 1000000) -dsimp -implicitDefEqProofs only [go_sem, ↓reduceIte, keep17, ib17, mk17, Tryz.f17]
    refine loopF (keep := keep17) (ib := ib17) (mk := mk17) mix (by kernel_rfl) (fun _ : Unit => [(0, .sl 1 [] false), (1, I k), (5, I 0)]) (fun _ => h) (fun _ => True) (fun _ => 0) () (by simp [SatL, tget, Heap.le_refl]) ?_
    intro _ _
    simp (maxSteps := 1000000) -dsimp -implicitDefEqProofs only [go_sem, ↓reduceIte, keep17, ib17, mk17, Tryz.f17, zero_cast, Int.lt_irrefl]
    first | done | (intro _; simp) | simp
  · rw [OV.mk_sl, dat_sl, OV.ct_sl]
    rw [OV.ct_sl] at h1
    have hlen : (OV.datRows (OV.mkRows k es)).length = es.length := by rw [datRows_len, OV.mkRows_len]
    refine fn0F 21 keep17 ib17 mk17 mix Tryz.func17 rfl (by kernel_rfl) (by simp) fun h => ?_
    simp (maxSteps := 1000000) -dsimp -implicitDefEqProofs only [go_sem, ↓reduceIte, keep17, ib17, mk17, Tryz.f17, hlen]
    refine loopF (keep := keep17) (ib := ib17) (mk := mk17) mix (by kernel_rfl) (fun i : Nat => [(0, .sl 1 (OV.datRows (OV.mkRows k es)) false), (1, I (k + OV.ctRows (es.take i))), (5, I i)]) (fun _ => h) (fun i => i ≤ es.length) (fun i => es.length - i) 0 (by simp [SatL, tget, OV.ctRows, Heap.le_refl]) ?_
    intro i hi
    rcases Nat.lt_or_ge i es.length with hlt | hge
    · have hll : i < l.length := by rw [hor.length]; exact hlt
      obtain ⟨A, e, B, rfl, hA, he⟩ := hor.split i hll
      have t1 : (A ++ e :: B).take i = A := by rw [← hA]; simp
      have t0 : A ++ e :: B = (A ++ [e]) ++ B := by simp
      have t3 : (A ++ e :: B).take (i + 1) = A ++ [e] := by rw [t0]; exact List.take_left' (by simp [hA])
      clear t0
      have hct := OV.ctRows_append A (e :: B)
      rw [OV.ctRows] at hct
      rw [t1]
      have hs3 := OV.ctRows_snoc A e
      have hD : OV.datRows (OV.mkRows k (A ++ e :: B)) = OV.datRows (OV.mkRows k A) ++ (OV.mkRow (k + (OV.ctRows A : Int)) e).map OV.dat :: OV.datRows (OV.mkRows (k + (OV.ctRows A : Int) + (OV.ctRow e : Int)) B) := by
        rw [OV.mkRows_append, datRows_append, OV.mkRows, datRows_cons]
      have hA2 : (OV.datRows (OV.mkRows k A)).length = i := by rw [datRows_len, OV.mkRows_len, hA]
      have hi2 : (i : Int) < (A ++ e :: B).length := by omega
      obtain rfl : _ = _ := he
      simp only [OV.ctRow_cons, OV.ctRow_nil, OV.ct_v, Nat.add_zero, one_cast] at hct hs3
      generalize hkk : k + (OV.ctRows A : Int) = kk at hD ⊢
      have gm : (OV.datRows (OV.mkRows k (A ++ [.v (.int .i64 l[i])] :: B)))[i]? = some ((OV.mkRow kk [.v (.int .i64 l[i])]).map OV.dat) := by rw [hD]; exact get_mid hA2
      simp only [OV.mkRow_cons, OV.mkRow_nil, OV.mk_v, leaf_int, leaf_bool, leaf_str, OV.ct_v, one_cast, map_dat_cons, map_dat_nil, dat_v] at gm
      clear hD
      generalize OV.datRows (OV.mkRows k (A ++ [.v (.int .i64 l[i])] :: B)) = DD at gm hlen ⊢
      have iw0_0 : IntKind.i64.wrap (kk + 1) = kk + 1 := IntWalk.i64_in _ (by omega)
      simp (maxSteps := 1000000) -dsimp -implicitDefEqProofs only [go_sem, ↓reduceIte, keep17, ib17, mk17, Tryz.f17, hlen, hi2, gm, eq_self, decide_true, Bool.not_true, bne_self_eq_false, iw0_0]
      repeat' (with_reducible first | intro _ | refine And.intro ?_ ?_)
      all_goals try omega
      all_goals try (exact absurd rfl (by assumption))
      refine ⟨i + 1, ?_⟩
      simp only [t3, hs3]
      repeat' (with_reducible first | intro _ | refine And.intro ?_ ?_)
      all_goals first | rfl | trivial | omega | exact Heap.le_refl _ | (rw [IntWalk.i64_in _ (by omega)]; omega)
    · have hi2 : i = es.length := by omega
      subst hi2
      rw [List.take_length]
      simp (maxSteps := 1000000) -dsimp -implicitDefEqProofs only [go_sem, ↓reduceIte, keep17, ib17, mk17, Tryz.f17, hlen, Int.lt_irrefl, Nat.lt_irrefl]
      first | done | (intro _; rfl) | rfl

def keep118 : List Nat := [0, 1, 4, 5, 9, 19]
def ib118 : List Nat := []
def mk118 : Marks := fun _ => ([], .nil, [])
set_option maxRecDepth 100000 in
theorem held_Int64SS (l : List (List Int)) : HeldS Tryz.prog 118 (OS (oS (oP I) 1) 1 l) := by
  intro y k hy h0 h1
  rcases hy with ⟨rfl, hl⟩ | ⟨n, es, rfl, hor⟩
  · rw [OV.mk_nil, dat_nil, OV.ct_nil]
    refine fn0F 21 keep118 ib118 mk118 mix Tryz.func118 rfl (by kernel_rfl) (by simp) fun h => ?_
    simp (maxSteps := 1000000) -dsimp -implicitDefEqProofs only [go_sem, ↓reduceIte, keep118, ib118, mk118, Tryz.f118]
    refine loopF (keep := keep118) (ib := ib118) (mk := mk118) mix (by kernel_rfl) (fun _ : Unit => [(0, .sl 1 [] false), (1, I k), (5, I 0)]) (fun _ => h) (fun _ => True) (fun _ => 0) () (by simp [SatL, tget, Heap.le_refl]) ?_
    intro _ _
    simp (maxSteps := 1000000) -dsimp -implicitDefEqProofs only [go_sem, ↓reduceIte, keep118, ib118, mk118, Tryz.f118, zero_cast, Int.lt_irrefl]
    first | done | (intro _; simp) | simp
  · rw [OV.mk_sl, dat_sl, OV.ct_sl]
    rw [OV.ct_sl] at h1
    have hlen : (OV.datRows (OV.mkRows k es)).length = es.length := by rw [datRows_len, OV.mkRows_len]
    refine fn0F 21 keep118 ib118 mk118 mix Tryz.func118 rfl (by kernel_rfl) (by simp) fun h => ?_
    simp (maxSteps := 1000000) -dsimp -implicitDefEqProofs only [go_sem, ↓reduceIte, keep118, ib118, mk118, Tryz.f118, hlen]
    refine loopF (keep := keep118) (ib := ib118) (mk := mk118) mix (by kernel_rfl) (fun i : Nat => [(0, .sl 1 (OV.datRows (OV.mkRows k es)) false), (1, I (k + OV.ctRows (es.take i))), (5, I i)]) (fun _ => h) (fun i => i ≤ es.length) (fun i => es.length - i) 0 (by simp [SatL, tget, OV.ctRows, Heap.le_refl]) ?_
    intro i hi
    rcases Nat.lt_or_ge i es.length with hlt | hge
    · have hll : i < l.length := by rw [hor.length]; exact hlt
      obtain ⟨A, e, B, rfl, hA, he⟩ := hor.split i hll
      have t1 : (A ++ e :: B).take i = A := by rw [← hA]; simp
      have t0 : A ++ e :: B = (A ++ [e]) ++ B := by simp
      have t3 : (A ++ e :: B).take (i + 1) = A ++ [e] := by rw [t0]; exact List.take_left' (by simp [hA])
      clear t0
      have hct := OV.ctRows_append A (e :: B)
      rw [OV.ctRows] at hct
      rw [t1]
      have hs3 := OV.ctRows_snoc A e
      have hD : OV.datRows (OV.mkRows k (A ++ e :: B)) = OV.datRows (OV.mkRows k A) ++ (OV.mkRow (k + (OV.ctRows A : Int)) e).map OV.dat :: OV.datRows (OV.mkRows (k + (OV.ctRows A : Int) + (OV.ctRow e : Int)) B) := by
        rw [OV.mkRows_append, datRows_append, OV.mkRows, datRows_cons]
      have hA2 : (OV.datRows (OV.mkRows k A)).length = i := by rw [datRows_len, OV.mkRows_len, hA]
      have hi2 : (i : Int) < (A ++ e :: B).length := by omega
      obtain ⟨y_0, rfl, o_0⟩ := he
      simp only [OV.ctRow_cons, OV.ctRow_nil, OV.ct_v, Nat.add_zero, one_cast] at hct hs3
      generalize hkk : k + (OV.ctRows A : Int) = kk at hD ⊢
      have gm : (OV.datRows (OV.mkRows k (A ++ [y_0] :: B)))[i]? = some ((OV.mkRow kk [y_0]).map OV.dat) := by rw [hD]; exact get_mid hA2
      simp only [OV.mkRow_cons, OV.mkRow_nil, OV.mk_v, leaf_int, leaf_bool, leaf_str, OV.ct_v, one_cast, map_dat_cons, map_dat_nil, dat_v] at gm
      clear hD
      generalize OV.datRows (OV.mkRows k (A ++ [y_0] :: B)) = DD at gm hlen ⊢
      simp (maxSteps := 1000000) -dsimp -implicitDefEqProofs only [go_sem, ↓reduceIte, keep118, ib118, mk118, Tryz.f118, hlen, hi2, gm, eq_self, decide_true, Bool.not_true, bne_self_eq_false]
      repeat' (with_reducible first | intro _ | refine And.intro ?_ ?_)
      all_goals try omega
      all_goals try (exact absurd rfl (by assumption))
      refine HFnF.mk ((held_Int64S l[i]) y_0 (kk) o_0 (by omega) (by omega)) ?_
      have hkb0 : ∃ z : Int, z = kk + (y_0.ct : Int) := ⟨_, rfl⟩
      obtain ⟨kk0, hkb0⟩ := hkb0
      rw [← hkb0]
      simp (maxSteps := 1000000) -dsimp -implicitDefEqProofs only [go_sem, ↓reduceIte, keep118, ib118, mk118, Tryz.f118, hlen, hi2, gm, eq_self, decide_true, Bool.not_true, bne_self_eq_false]
      repeat' (with_reducible first | intro _ | refine And.intro ?_ ?_)
      all_goals try omega
      all_goals try (exact absurd rfl (by assumption))
      refine ⟨i + 1, ?_⟩
      simp only [t3, hs3]
      repeat' (with_reducible first | intro _ | refine And.intro ?_ ?_)
      all_goals first | rfl | trivial | omega | exact Heap.le_refl _ | (rw [IntWalk.i64_in _ (by omega)]; omega)
    · have hi2 : i = es.length := by omega
      subst hi2
      rw [List.take_length]
      simp (maxSteps := 1000000) -dsimp -implicitDefEqProofs only [go_sem, ↓reduceIte, keep118, ib118, mk118, Tryz.f118, hlen, Int.lt_irrefl, Nat.lt_irrefl]
      first | done | (intro _; rfl) | rfl

def keep75 : List Nat := [0, 1, 2, 4, 10, 16, 22]
def ib75 : List Nat := [2]
def mk75 : Marks := fun _ => ([], .nil, [])
set_option maxRecDepth 100000 in
theorem held_Job (x : DJob) : HeldA Tryz.prog 75 x.o := by
  intro e k he h0 h1
  obtain ⟨y_0, y_3, y_4, rfl, o_0, o_3, o_4⟩ := he
  simp only [OV.ctTop_cons, OV.ctTop_nil, OV.ctT_v, OV.mkTop_cons, OV.mkTop_nil, OV.mkT_v, Nat.add_zero, Nat.zero_add, zero_cast, Int.add_zero, Int.zero_add, o_0.ctT, o_0.mkT, o_3.ctT, o_3.mkT, o_4.ctT, o_4.mkT, map_dat_cons, map_dat_nil, dat_v] at h1 ⊢
  refine fn0F 24 keep75 ib75 mk75 mix Tryz.func75 rfl (by kernel_rfl) (by simp) fun h => ?_
  simp (maxSteps := 1000000) -dsimp -implicitDefEqProofs only [go_sem, ↓reduceIte, keep75, ib75, mk75, Tryz.f75, o_0.datflat, o_0.datone, o_3.datflat, o_3.datone, o_4.datflat, o_4.datone]
  repeat' (with_reducible first | intro _ | refine And.intro ?_ ?_)
  all_goals try omega
  have hs0 := held_Program x.fProgram [y_0] (k) ⟨y_0, rfl, o_0⟩ (by omega) (by simp only [OV.ctTop_cons, OV.ctTop_nil, OV.ctT_v, OV.mkTop_cons, OV.mkTop_nil, OV.mkT_v, Nat.add_zero, Nat.zero_add, zero_cast, Int.add_zero, Int.zero_add, o_0.ctT, o_0.mkT, o_3.ctT, o_3.mkT, o_4.ctT, o_4.mkT]; omega)
  simp only [OV.ctTop_cons, OV.ctTop_nil, OV.ctT_v, OV.mkTop_cons, OV.mkTop_nil, OV.mkT_v, Nat.add_zero, Nat.zero_add, zero_cast, Int.add_zero, Int.zero_add, o_0.ctT, o_0.mkT, o_3.ctT, o_3.mkT, o_4.ctT, o_4.mkT, map_dat_cons, map_dat_nil, dat_v, Int.natCast_add, ← Int.add_assoc] at hs0
  refine HFnF.mk hs0 ?_
  simp (maxSteps := 1000000) -dsimp -implicitDefEqProofs only [go_sem, ↓reduceIte, keep75, ib75, mk75, Tryz.f75, o_0.datflat, o_0.datone, o_3.datflat, o_3.datone, o_4.datflat, o_4.datone]
  repeat' (with_reducible first | intro _ | refine And.intro ?_ ?_)
  all_goals try omega
  refine HFnF.mk (held_Int64S x.fPoint y_3 (k + (y_0.ct : Int)) o_3 (by omega) (by omega)) ?_
  simp (maxSteps := 1000000) -dsimp -implicitDefEqProofs only [go_sem, ↓reduceIte, keep75, ib75, mk75, Tryz.f75, o_0.datflat, o_0.datone, o_3.datflat, o_3.datone, o_4.datflat, o_4.datone]
  repeat' (with_reducible first | intro _ | refine And.intro ?_ ?_)
  all_goals try omega
  refine HFnF.mk (held_Int64SS x.fTerms y_4 (k + (y_0.ct : Int) + (y_3.ct : Int)) o_4 (by omega) (by omega)) ?_
  simp (maxSteps := 1000000) -dsimp -implicitDefEqProofs only [go_sem, ↓reduceIte, keep75, ib75, mk75, Tryz.f75, o_0.datflat, o_0.datone, o_3.datflat, o_3.datone, o_4.datflat, o_4.datone]
  repeat' (with_reducible first | intro _ | refine And.intro ?_ ?_)
  all_goals try omega
  all_goals first | done | rfl | trivial | (congr 1; omega) | omega | (simp only [go_sem]; omega)


def keep82 : List Nat := [0, 1, 4, 5, 9, 19]
def ib82 : List Nat := []
def mk82 : Marks := fun _ => ([], .nil, [])
set_option maxRecDepth 100000 in
theorem held_BoolS (l : List Bool) : HeldS Tryz.prog 82 (OS (oP HVal.bool) 1 l) := by
  intro y k hy h0 h1
  rcases hy with ⟨rfl, hl⟩ | ⟨n, es, rfl, hor⟩
  · rw [OV.mk_nil, dat_nil, OV.ct_nil]
    refine fn0F 23 keep82 ib82 mk82 mix Tryz.func82 rfl (by kernel_rfl) (by simp) fun h => ?_
    simp (maxSteps := 1000000) -dsimp -implicitDefEqProofs only [go_sem, ↓reduceIte, keep82, ib82, mk82, Tryz.f82]
    refine loopF (keep := keep82) (ib := ib82) (mk := mk82) mix (by kernel_rfl) (fun _ : Unit => [(0, .sl 1 [] false), (1, I k), (5, I 0)]) (fun _ => h) (fun _ => True) (fun _ => 0) () (by simp [SatL, tget, Heap.le_refl]) ?_
    intro _ _
    simp (maxSteps := 1000000) -dsimp -implicitDefEqProofs only [go_sem, ↓reduceIte, keep82, ib82, mk82, Tryz.f82, zero_cast, Int.lt_irrefl]
    first | done | (intro _; simp) | simp
  · rw [OV.mk_sl, dat_sl, OV.ct_sl]
    rw [OV.ct_sl] at h1
    have hlen : (OV.datRows (OV.mkRows k es)).length = es.length := by rw [datRows_len, OV.mkRows_len]
    refine fn0F 23 keep82 ib82 mk82 mix Tryz.func82 rfl (by kernel_rfl) (by simp) fun h => ?_
    simp (maxSteps := 1000000) -dsimp -implicitDefEqProofs only [go_sem, ↓reduceIte, keep82, ib82, mk82, Tryz.f82, hlen]
    refine loopF (keep := keep82) (ib := ib82) (mk := mk82) mix (by kernel_rfl) (fun i : Nat => [(0, .sl 1 (OV.datRows (OV.mkRows k es)) false), (1, I (k + OV.ctRows (es.take i))), (5, I i)]) (fun _ => h) (fun i => i ≤ es.length) (fun i => es.length - i) 0 (by simp [SatL, tget, OV.ctRows, Heap.le_refl]) ?_
    intro i hi
    rcases Nat.lt_or_ge i es.length with hlt | hge
    · have hll : i < l.length := by rw [hor.length]; exact hlt
      obtain ⟨A, e, B, rfl, hA, he⟩ := hor.split i hll
      have t1 : (A ++ e :: B).take i = A := by rw [← hA]; simp
      have t0 : A ++ e :: B = (A ++ [e]) ++ B := by simp
      have t3 : (A ++ e :: B).take (i + 1) = A ++ [e] := by rw [t0]; exact List.take_left' (by simp [hA])
      clear t0
      have hct := OV.ctRows_append A (e :: B)
      rw [OV.ctRows] at hct
      rw [t1]
      have hs3 := OV.ctRows_snoc A e
      have hD : OV.datRows (OV.mkRows k (A ++ e :: B)) = OV.datRows (OV.mkRows k A) ++ (OV.mkRow (k + (OV.ctRows A : Int)) e).map OV.dat :: OV.datRows (OV.mkRows (k + (OV.ctRows A : Int) + (OV.ctRow e : Int)) B) := by
        rw [OV.mkRows_append, datRows_append, OV.mkRows, datRows_cons]
      have hA2 : (OV.datRows (OV.mkRows k A)).length = i := by rw [datRows_len, OV.mkRows_len, hA]
      have hi2 : (i : Int) < (A ++ e :: B).length := by omega
      obtain rfl : _ = _ := he
      simp only [OV.ctRow_cons, OV.ctRow_nil, OV.ct_v, Nat.add_zero, one_cast] at hct hs3
      generalize hkk : k + (OV.ctRows A : Int) = kk at hD ⊢
      have gm : (OV.datRows (OV.mkRows k (A ++ [.v (.bool l[i])] :: B)))[i]? = some ((OV.mkRow kk [.v (.bool l[i])]).map OV.dat) := by rw [hD]; exact get_mid hA2
      simp only [OV.mkRow_cons, OV.mkRow_nil, OV.mk_v, leaf_int, leaf_bool, leaf_str, OV.ct_v, one_cast, map_dat_cons, map_dat_nil, dat_v] at gm
      clear hD
      generalize OV.datRows (OV.mkRows k (A ++ [.v (.bool l[i])] :: B)) = DD at gm hlen ⊢
      have iw0_0 : IntKind.i64.wrap (kk + 1) = kk + 1 := IntWalk.i64_in _ (by omega)
      simp (maxSteps := 1000000) -dsimp -implicitDefEqProofs only [go_sem, ↓reduceIte, keep82, ib82, mk82, Tryz.f82, hlen, hi2, gm, eq_self, decide_true, Bool.not_true, bne_self_eq_false, iw0_0]
      repeat' (with_reducible first | intro _ | refine And.intro ?_ ?_)
      all_goals try omega
      all_goals try (exact absurd rfl (by assumption))
      refine ⟨i + 1, ?_⟩
      simp only [t3, hs3]
      repeat' (with_reducible first | intro _ | refine And.intro ?_ ?_)
      all_goals first | rfl | trivial | omega | exact Heap.le_refl _ | (rw [IntWalk.i64_in _ (by omega)]; omega)
    · have hi2 : i = es.length := by omega
      subst hi2
      rw [List.take_length]
      simp (maxSteps := 1000000) -dsimp -implicitDefEqProofs only [go_sem, ↓reduceIte, keep82, ib82, mk82, Tryz.f82, hlen, Int.lt_irrefl, Nat.lt_irrefl]
      first | done | (intro _; rfl) | rfl


def keep83 : List Nat := [0, 1, 4, 5, 9, 18, 27, 38]
def ib83 : List Nat := []
def mk83 : Marks := fun _ => ([], .nil, [])
set_option maxRecDepth 100000 in
theorem held_PartS (l : List DPart) : HeldS Tryz.prog 83 (OS DPart.o 3 l) := by
  intro y k hy h0 h1
  rcases hy with ⟨rfl, hl⟩ | ⟨n, es, rfl, hor⟩
  · rw [OV.mk_nil, dat_nil, OV.ct_nil]
    refine fn0F 40 keep83 ib83 mk83 mix Tryz.func83 rfl (by kernel_rfl) (by simp) fun h => ?_
    simp (maxSteps := 1000000) -dsimp -implicitDefEqProofs only [go_sem, ↓reduceIte, keep83, ib83, mk83, Tryz.f83]
    refine loopF (keep := keep83) (ib := ib83) (mk := mk83) mix (by kernel_rfl) (fun _ : Unit => [(0, .sl 3 [] false), (1, I k), (5, I 0)]) (fun _ => h) (fun _ => True) (fun _ => 0) () (by simp [SatL, tget, Heap.le_refl]) ?_
    intro _ _
    simp (maxSteps := 1000000) -dsimp -implicitDefEqProofs only [go_sem, ↓reduceIte, keep83, ib83, mk83, Tryz.f83, zero_cast, Int.lt_irrefl]
    first | done | (intro _; simp) | simp
  · rw [OV.mk_sl, dat_sl, OV.ct_sl]
    rw [OV.ct_sl] at h1
    have hlen : (OV.datRows (OV.mkRows k es)).length = es.length := by rw [datRows_len, OV.mkRows_len]
    refine fn0F 40 keep83 ib83 mk83 mix Tryz.func83 rfl (by kernel_rfl) (by simp) fun h => ?_
    simp (maxSteps := 1000000) -dsimp -implicitDefEqProofs only [go_sem, ↓reduceIte, keep83, ib83, mk83, Tryz.f83, hlen]
    refine loopF (keep := keep83) (ib := ib83) (mk := mk83) mix (by kernel_rfl) (fun i : Nat => [(0, .sl 3 (OV.datRows (OV.mkRows k es)) false), (1, I (k + OV.ctRows (es.take i))), (5, I i)]) (fun _ => h) (fun i => i ≤ es.length) (fun i => es.length - i) 0 (by simp [SatL, tget, OV.ctRows, Heap.le_refl]) ?_
    intro i hi
    rcases Nat.lt_or_ge i es.length with hlt | hge
    · have hll : i < l.length := by rw [hor.length]; exact hlt
      obtain ⟨A, e, B, rfl, hA, he⟩ := hor.split i hll
      have t1 : (A ++ e :: B).take i = A := by rw [← hA]; simp
      have t0 : A ++ e :: B = (A ++ [e]) ++ B := by simp
      have t3 : (A ++ e :: B).take (i + 1) = A ++ [e] := by rw [t0]; exact List.take_left' (by simp [hA])
      clear t0
      have hct := OV.ctRows_append A (e :: B)
      rw [OV.ctRows] at hct
      rw [t1]
      have hs3 := OV.ctRows_snoc A e
      have hD : OV.datRows (OV.mkRows k (A ++ e :: B)) = OV.datRows (OV.mkRows k A) ++ (OV.mkRow (k + (OV.ctRows A : Int)) e).map OV.dat :: OV.datRows (OV.mkRows (k + (OV.ctRows A : Int) + (OV.ctRow e : Int)) B) := by
        rw [OV.mkRows_append, datRows_append, OV.mkRows, datRows_cons]
      have hA2 : (OV.datRows (OV.mkRows k A)).length = i := by rw [datRows_len, OV.mkRows_len, hA]
      have hi2 : (i : Int) < (A ++ e :: B).length := by omega
      obtain ⟨y_2, rfl, o_2⟩ := he
      simp only [OV.ctRow_cons, OV.ctRow_nil, OV.ct_v, Nat.add_zero, one_cast] at hct hs3
      generalize hkk : k + (OV.ctRows A : Int) = kk at hD ⊢
      have gm : (OV.datRows (OV.mkRows k (A ++ [.v (.int .i64 l[i].fCode), .v (.int .i64 l[i].fValue), y_2] :: B)))[i]? = some ((OV.mkRow kk [.v (.int .i64 l[i].fCode), .v (.int .i64 l[i].fValue), y_2]).map OV.dat) := by rw [hD]; exact get_mid hA2
      simp only [OV.mkRow_cons, OV.mkRow_nil, OV.mk_v, leaf_int, leaf_bool, leaf_str, OV.ct_v, one_cast, map_dat_cons, map_dat_nil, dat_v] at gm
      clear hD
      generalize OV.datRows (OV.mkRows k (A ++ [.v (.int .i64 l[i].fCode), .v (.int .i64 l[i].fValue), y_2] :: B)) = DD at gm hlen ⊢
      have iw0_0 : IntKind.i64.wrap (kk + 1) = kk + 1 := IntWalk.i64_in _ (by omega)
      have iw0_1 : IntKind.i64.wrap (kk + 1 + 1) = kk + 1 + 1 := IntWalk.i64_in _ (by omega)
      simp (maxSteps := 1000000) -dsimp -implicitDefEqProofs only [go_sem, ↓reduceIte, keep83, ib83, mk83, Tryz.f83, hlen, hi2, gm, eq_self, decide_true, Bool.not_true, bne_self_eq_false, iw0_0, iw0_1]
      repeat' (with_reducible first | intro _ | refine And.intro ?_ ?_)
      all_goals try omega
      all_goals try (exact absurd rfl (by assumption))
      refine HFnF.mk ((held_Int64S l[i].fGrad) y_2 (kk + 1 + 1) o_2 (by omega) (by omega)) ?_
      have hkb0 : ∃ z : Int, z = kk + 1 + 1 + (y_2.ct : Int) := ⟨_, rfl⟩
      obtain ⟨kk0, hkb0⟩ := hkb0
      rw [← hkb0]
      simp (maxSteps := 1000000) -dsimp -implicitDefEqProofs only [go_sem, ↓reduceIte, keep83, ib83, mk83, Tryz.f83, hlen, hi2, gm, eq_self, decide_true, Bool.not_true, bne_self_eq_false, iw0_0, iw0_1]
      repeat' (with_reducible first | intro _ | refine And.intro ?_ ?_)
      all_goals try omega
      all_goals try (exact absurd rfl (by assumption))
      refine ⟨i + 1, ?_⟩
      simp only [t3, hs3]
      repeat' (with_reducible first | intro _ | refine And.intro ?_ ?_)
      all_goals first | rfl | trivial | omega | exact Heap.le_refl _ | (rw [IntWalk.i64_in _ (by omega)]; omega)
    · have hi2 : i = es.length := by omega
      subst hi2
      rw [List.take_length]
      simp (maxSteps := 1000000) -dsimp -implicitDefEqProofs only [go_sem, ↓reduceIte, keep83, ib83, mk83, Tryz.f83, hlen, Int.lt_irrefl, Nat.lt_irrefl]
      first | done | (intro _; rfl) | rfl

def keep29 : List Nat := [0, 1, 2, 4, 10, 16, 22, 28, 34]
def ib29 : List Nat := [2]
def mk29 : Marks := fun _ => ([], .nil, [])
set_option maxRecDepth 100000 in
theorem held_Service (x : DService) : HeldA Tryz.prog 29 x.o := by
  intro e k he h0 h1
  obtain ⟨y_0, y_3, y_4, y_5, y_6, y_7, y_8, rfl, o_0, o_3, o_4, o_5, o_6, o_7, o_8⟩ := he
  simp only [OV.ctTop_cons, OV.ctTop_nil, OV.ctT_v, OV.mkTop_cons, OV.mkTop_nil, OV.mkT_v, Nat.add_zero, Nat.zero_add, zero_cast, Int.add_zero, Int.zero_add, o_0.ctT, o_0.mkT, o_3.ctT, o_3.mkT, o_4.ctT, o_4.mkT, o_5.ctT, o_5.mkT, o_6.ctT, o_6.mkT, o_7.ctT, o_7.mkT, o_8.ctT, o_8.mkT, map_dat_cons, map_dat_nil, dat_v] at h1 ⊢
  refine fn0F 36 keep29 ib29 mk29 mix Tryz.func29 rfl (by kernel_rfl) (by simp) fun h => ?_
  simp (maxSteps := 1000000) -dsimp -implicitDefEqProofs only [go_sem, ↓reduceIte, keep29, ib29, mk29, Tryz.f29, o_0.datflat, o_0.datone, o_3.datflat, o_3.datone, o_4.datflat, o_4.datone, o_5.datflat, o_5.datone, o_6.datflat, o_6.datone, o_7.datflat, o_7.datone, o_8.datflat, o_8.datone]
  repeat' (with_reducible first | intro _ | refine And.intro ?_ ?_)
  all_goals try omega
  have hs0 := held_Job x.fJob [y_0, .v (.int .i64 x.fJob.fFunc), .v (.int .i64 x.fJob.fShared), y_3, y_4] (k) ⟨y_0, y_3, y_4, rfl, o_0, o_3, o_4⟩ (by omega) (by simp only [OV.ctTop_cons, OV.ctTop_nil, OV.ctT_v, OV.mkTop_cons, OV.mkTop_nil, OV.mkT_v, Nat.add_zero, Nat.zero_add, zero_cast, Int.add_zero, Int.zero_add, o_0.ctT, o_0.mkT, o_3.ctT, o_3.mkT, o_4.ctT, o_4.mkT, o_5.ctT, o_5.mkT, o_6.ctT, o_6.mkT, o_7.ctT, o_7.mkT, o_8.ctT, o_8.mkT]; omega)
  simp only [OV.ctTop_cons, OV.ctTop_nil, OV.ctT_v, OV.mkTop_cons, OV.mkTop_nil, OV.mkT_v, Nat.add_zero, Nat.zero_add, zero_cast, Int.add_zero, Int.zero_add, o_0.ctT, o_0.mkT, o_3.ctT, o_3.mkT, o_4.ctT, o_4.mkT, o_5.ctT, o_5.mkT, o_6.ctT, o_6.mkT, o_7.ctT, o_7.mkT, o_8.ctT, o_8.mkT, map_dat_cons, map_dat_nil, dat_v, Int.natCast_add, ← Int.add_assoc] at hs0
  refine HFnF.mk hs0 ?_
  simp (maxSteps := 1000000) -dsimp -implicitDefEqProofs only [go_sem, ↓reduceIte, keep29, ib29, mk29, Tryz.f29, o_0.datflat, o_0.datone, o_3.datflat, o_3.datone, o_4.datflat, o_4.datone, o_5.datflat, o_5.datone, o_6.datflat, o_6.datone, o_7.datflat, o_7.datone, o_8.datflat, o_8.datone]
  repeat' (with_reducible first | intro _ | refine And.intro ?_ ?_)
  all_goals try omega
  refine HFnF.mk (held_Int64S x.fStamps y_5 (k + (y_0.ct : Int) + (y_3.ct : Int) + (y_4.ct : Int)) o_5 (by omega) (by omega)) ?_
  simp (maxSteps := 1000000) -dsimp -implicitDefEqProofs only [go_sem, ↓reduceIte, keep29, ib29, mk29, Tryz.f29, o_0.datflat, o_0.datone, o_3.datflat, o_3.datone, o_4.datflat, o_4.datone, o_5.datflat, o_5.datone, o_6.datflat, o_6.datone, o_7.datflat, o_7.datone, o_8.datflat, o_8.datone]
  repeat' (with_reducible first | intro _ | refine And.intro ?_ ?_)
  all_goals try omega
  refine HFnF.mk (held_BoolS x.fKnown y_6 (k + (y_0.ct : Int) + (y_3.ct : Int) + (y_4.ct : Int) + (y_5.ct : Int)) o_6 (by omega) (by omega)) ?_
  simp (maxSteps := 1000000) -dsimp -implicitDefEqProofs only [go_sem, ↓reduceIte, keep29, ib29, mk29, Tryz.f29, o_0.datflat, o_0.datone, o_3.datflat, o_3.datone, o_4.datflat, o_4.datone, o_5.datflat, o_5.datone, o_6.datflat, o_6.datone, o_7.datflat, o_7.datone, o_8.datflat, o_8.datone]
  repeat' (with_reducible first | intro _ | refine And.intro ?_ ?_)
  all_goals try omega
  refine HFnF.mk (held_PartS x.fParts y_7 (k + (y_0.ct : Int) + (y_3.ct : Int) + (y_4.ct : Int) + (y_5.ct : Int) + (y_6.ct : Int)) o_7 (by omega) (by omega)) ?_
  simp (maxSteps := 1000000) -dsimp -implicitDefEqProofs only [go_sem, ↓reduceIte, keep29, ib29, mk29, Tryz.f29, o_0.datflat, o_0.datone, o_3.datflat, o_3.datone, o_4.datflat, o_4.datone, o_5.datflat, o_5.datone, o_6.datflat, o_6.datone, o_7.datflat, o_7.datone, o_8.datflat, o_8.datone]
  repeat' (with_reducible first | intro _ | refine And.intro ?_ ?_)
  all_goals try omega
  refine HFnF.mk (held_Int64S x.fOwners y_8 (k + (y_0.ct : Int) + (y_3.ct : Int) + (y_4.ct : Int) + (y_5.ct : Int) + (y_6.ct : Int) + (y_7.ct : Int)) o_8 (by omega) (by omega)) ?_
  simp (maxSteps := 1000000) -dsimp -implicitDefEqProofs only [go_sem, ↓reduceIte, keep29, ib29, mk29, Tryz.f29, o_0.datflat, o_0.datone, o_3.datflat, o_3.datone, o_4.datflat, o_4.datone, o_5.datflat, o_5.datone, o_6.datflat, o_6.datone, o_7.datflat, o_7.datone, o_8.datflat, o_8.datone]
  repeat' (with_reducible first | intro _ | refine And.intro ?_ ?_)
  all_goals try omega
  all_goals first | done | rfl | trivial | (congr 1; omega) | omega | (simp only [go_sem]; omega)


open Go.Proofs
set_option linter.unusedVariables false
set_option linter.unusedSimpArgs false
def keep129 : List Nat := [0, 1, 4, 5, 10, 12, 13, 14, 24]
def ib129 : List Nat := []
def mk129 : Marks := fun id => match id with | 6 => ([], (.op 0 (.op 1 (.op 2 (.op 3 (.op 4 (.op 5 (.op 6 (.op 7 (.op 8 .nil))))))))), []) | _ => ([], .nil, [])
set_option maxRecDepth 100000 in
theorem slEq_Int64S (a b : List Int) : Fn0 Tryz.prog 129 [(sls 1 (fun n => [I n]) a), (sls 1 (fun n => [I n]) b)] (.bool (decide (a = b))) := by
  refine fn0F 26 keep129 ib129 mk129 mix Tryz.func129 rfl (by kernel_rfl) (by simp) fun h => ?_
  simp -dsimp -implicitDefEqProofs only [go_sem, ↓reduceIte, keep129, ib129, mk129, Tryz.f129]
  refine fun _ _ => ⟨fun hne => ?_, fun heq => ?_⟩
  · exact (decide_eq_false fun e => hne (by rw [e])).symm
  · refine fun _ => ?_
    refine loopF (keep := keep129) (ib := ib129) (mk := mk129) mix (by kernel_rfl) (fun k : Nat => [(0, (sls 1 (fun n => [I n]) a)), (1, (sls 1 (fun n => [I n]) b)), (12, I a.length), (13, I k)]) (fun _ => h) (fun k => k ≤ a.length ∧ a.take k = b.take k) (fun k => a.length - k) 0 (by simp [SatL, tget, Heap.le_refl]) ?_
    intro k ⟨hk, hp⟩
    rcases Nat.lt_or_ge k a.length with hlt | hge
    · have hlb : k < b.length := by omega
      have ea : a[k]? = some a[k] := List.getElem?_eq_getElem hlt
      have eb : b[k]? = some b[k] := List.getElem?_eq_getElem hlb
      simp -dsimp -implicitDefEqProofs only [go_sem, ↓reduceIte, keep129, ib129, mk129, Tryz.f129, ea, eb]
      refine ⟨fun _ => ⟨hlt, hlb, fun hne => ?_, fun he => ?_⟩, fun hn => absurd hlt hn⟩
      · first
          | exact (decide_eq_false fun e => hne (getElem_of_eq e hlt)).symm
          | exact (decide_eq_false fun e => by have := getElem_of_eq e hlt (hb := hlb); rw [this] at hne; simp at hne).symm
      · exact ⟨k + 1, by rw [IntWalk.i64_in _ (by omega)]; rfl, ⟨by omega, take_step hlt hlb hp (by first | exact he | simpa using he)⟩, by omega⟩
    · have hk' : k = a.length := by omega
      subst hk'
      simp -dsimp -implicitDefEqProofs only [go_sem, ↓reduceIte, keep129, ib129, mk129, Tryz.f129, Nat.lt_irrefl]
      exact (decide_eq_true (eq_of_take heq hp)).symm

open Go.Proofs
set_option linter.unusedVariables false
set_option linter.unusedSimpArgs false
open Go.Proofs
set_option linter.unusedVariables false
set_option linter.unusedSimpArgs false
def keep101 : List Nat := [0, 1, 2, 3, 4]
def ib101 : List Nat := [2, 3]
def mk101 : Marks := fun _ => ([], .nil, [])
set_option maxRecDepth 100000 in
theorem samePart (a b : DPart) : Fn0 Tryz.prog 101 [.agg a.c, .agg b.c] (.bool (decide (a = b))) := by
  simp only [DPart.c_eq]
  refine fn0F 24 keep101 ib101 mk101 mix Tryz.func101 rfl (by kernel_rfl) (by simp) fun h => ?_
  simp (maxSteps := 1000000) -dsimp -implicitDefEqProofs only [go_sem, ↓reduceIte, keep101, ib101, mk101, Tryz.f101]
  repeat' (with_reducible first | intro _ | refine And.intro ?_ ?_)
  all_goals try (first | (simp [DPart.eq_iff, *]; done) | omega | (grind [DPart.eq_iff]) | (simp [DPart.eq_iff]; omega))
  first | refine HFnF.mk (slEq_Int64S a.fGrad b.fGrad) ?_ | refine CallSF.mk (slEq_Int64S a.fGrad b.fGrad) ?_ | refine HFnF.mkAt (slEq_Int64S a.fGrad b.fGrad) ?_ | refine CallSF.mk (FnAt.fn0 (slEq_Int64S a.fGrad b.fGrad)) ?_
  simp (maxSteps := 1000000) -dsimp -implicitDefEqProofs only [go_sem, ↓reduceIte, keep101, ib101, mk101, Tryz.f101]
  all_goals try (first | (simp [DPart.eq_iff, *]; done) | omega | (grind [DPart.eq_iff]) | (simp [DPart.eq_iff]; omega))
open Go.Proofs
set_option linter.unusedVariables false
set_option linter.unusedSimpArgs false
def keep58 : List Nat := [0, 1, 2, 6]
def ib58 : List Nat := []
def mk58 : Marks := fun _ => ([], .nil, [])
theorem l00In (n a b : Int) : Fn0 Tryz.prog 58 [I n, I a, I b] (.bool (decide (a ≤ n ∧ n ≤ b))) := by
  refine fn0F 15 keep58 ib58 mk58 mix Tryz.func58 rfl (by kernel_rfl) (by simp) fun h => ?_
  simp (maxSteps := 1000000) -dsimp -implicitDefEqProofs only [go_sem, ↓reduceIte, keep58, ib58, mk58, Tryz.f58]
  repeat' (with_reducible first | intro _ | refine And.intro ?_ ?_)
  all_goals try (first | (simp [*]; done) | omega | grind)
def keep64 : List Nat := [0, 1, 2, 6]
def ib64 : List Nat := []
def mk64 : Marks := fun _ => ([], .nil, [])
theorem within (n a b : Int) : Fn0 Tryz.prog 64 [I n, I a, I b] (.bool (decide (a ≤ n ∧ n ≤ b))) := by
  refine fn0F 15 keep64 ib64 mk64 mix Tryz.func64 rfl (by kernel_rfl) (by simp) fun h => ?_
  simp (maxSteps := 1000000) -dsimp -implicitDefEqProofs only [go_sem, ↓reduceIte, keep64, ib64, mk64, Tryz.f64]
  repeat' (with_reducible first | intro _ | refine And.intro ?_ ?_)
  all_goals try (first | (simp [*]; done) | omega | grind)
def keep126 : List Nat := [0, 2]
def ib126 : List Nat := []
def mk126 : Marks := fun _ => ([], .nil, [])
theorem l01Number (n : Int) : Fn0 Tryz.prog 126 [I n] (.bool (decide (Num n))) := by
  refine fn0F 5 keep126 ib126 mk126 mix Tryz.func126 rfl (by kernel_rfl) (by simp) fun h => ?_
  simp (maxSteps := 1000000) -dsimp -implicitDefEqProofs only [go_sem, ↓reduceIte, keep126, ib126, mk126, Tryz.f126]
  first | refine HFnF.mk (l00In n 0 1000002) ?_ | refine CallSF.mk (l00In n 0 1000002) ?_ | refine HFnF.mkAt (l00In n 0 1000002) ?_ | refine CallSF.mk (FnAt.fn0 (l00In n 0 1000002)) ?_
  simp (maxSteps := 1000000) -dsimp -implicitDefEqProofs only [go_sem, ↓reduceIte, keep126, ib126, mk126, Tryz.f126]
  all_goals rfl
def keep125 : List Nat := [0, 2]
def ib125 : List Nat := []
def mk125 : Marks := fun _ => ([], .nil, [])
theorem isNumber (n : Int) : Fn0 Tryz.prog 125 [I n] (.bool (decide (Num n))) := by
  refine fn0F 5 keep125 ib125 mk125 mix Tryz.func125 rfl (by kernel_rfl) (by simp) fun h => ?_
  simp (maxSteps := 1000000) -dsimp -implicitDefEqProofs only [go_sem, ↓reduceIte, keep125, ib125, mk125, Tryz.f125]
  first | refine HFnF.mk (within n 0 1000002) ?_ | refine CallSF.mk (within n 0 1000002) ?_ | refine HFnF.mkAt (within n 0 1000002) ?_ | refine CallSF.mk (FnAt.fn0 (within n 0 1000002)) ?_
  simp (maxSteps := 1000000) -dsimp -implicitDefEqProofs only [go_sem, ↓reduceIte, keep125, ib125, mk125, Tryz.f125]
  all_goals rfl
def keep107 : List Nat := [0, 2, 3, 7, 15]
def ib107 : List Nat := []
def mk107 : Marks := fun _ => ([], .nil, [])
set_option maxRecDepth 100000 in
theorem l01Numbers (l : List Int) : Fn0 Tryz.prog 107 [sls 1 (fun n => [I n]) l] (.bool (decide (Nums l))) := by
  refine fn0F 16 keep107 ib107 mk107 mix Tryz.func107 rfl (by kernel_rfl) (by simp) fun h => ?_
  simp (maxSteps := 1000000) -dsimp -implicitDefEqProofs only [go_sem, ↓reduceIte, keep107, ib107, mk107, Tryz.f107]
  refine loopF (keep := keep107) (ib := ib107) (mk := mk107) mix (by kernel_rfl) (fun k : Nat => [(0, sls 1 (fun n => [I n]) l), (3, I k)]) (fun _ => h) (fun k => k ≤ (l).length ∧ ∀ x ∈ (l).take k, Num x) (fun k => (l).length - k) 0 (by simp [SatL, tget, Heap.le_refl]) ?_
  intro k ⟨hk, hp⟩
  rcases Nat.lt_or_ge k (l).length with hlt | hge
  · have ea : (l)[k]? = some (l)[k] := List.getElem?_eq_getElem hlt
    simp (maxSteps := 1000000) -dsimp -implicitDefEqProofs only [go_sem, ↓reduceIte, keep107, ib107, mk107, Tryz.f107, ea]
    repeat' (with_reducible first | intro _ | refine And.intro ?_ ?_)
    all_goals try omega
    first | refine HFnF.mk (l01Number l[k]) ?_ | refine CallSF.mk (l01Number l[k]) ?_ | refine HFnF.mkAt (l01Number l[k]) ?_ | refine CallSF.mk (FnAt.fn0 (l01Number l[k])) ?_
    simp (maxSteps := 1000000) -dsimp -implicitDefEqProofs only [go_sem, ↓reduceIte, keep107, ib107, mk107, Tryz.f107]
    repeat' (with_reducible first | intro _ | refine And.intro ?_ ?_)
    · rename_i he
      exact (decide_eq_false fun e => he (e _ (List.getElem_mem hlt))).symm
    · rename_i he
      refine ⟨k + 1, ?_⟩
      repeat' (with_reducible refine And.intro ?_ ?_)
      all_goals try (rw [IntWalk.i64_in _ (by omega)]; first | rfl | omega)
      all_goals try omega
      all_goals try (repeat' (with_reducible first | exact Heap.le_refl _ | refine (le_upd (by first | assumption | exact And.right (by assumption) | exact upd_none.2 (by assumption))).2 ?_))
      exact all_step hlt hp he
  · have hk' : k = (l).length := by omega
    subst hk'
    rw [List.take_length] at hp
    simp (maxSteps := 1000000) -dsimp -implicitDefEqProofs only [go_sem, ↓reduceIte, keep107, ib107, mk107, Tryz.f107, Nat.lt_irrefl]
    intro _
    exact (decide_eq_true hp).symm
def keep142 : List Nat := [0, 1, 4, 5, 7, 8, 9, 16]
def ib142 : List Nat := []
def mk142 : Marks := fun _ => ([], .nil, [])
set_option maxRecDepth 100000 in
theorem idxF_Int64S (a : List Int) (p : Int → Bool) (g : FuncId) (cap : List HVal) {h0 : Heap} (hc : ∀ x ∈ a, FnAt Tryz.prog g ([(.int .i64 x)] ++ cap) (.bool (p x)) h0) : FnAt Tryz.prog 142 [(sls 1 (fun n => [I n]) a), .fn (.func g) [] cap] (I (idxOf p a)) h0 := by
  refine fnAtF 19 keep142 ib142 mk142 mix Tryz.func142 rfl (by kernel_rfl) (by simp) fun h hle => ?_
  simp -dsimp -implicitDefEqProofs only [go_sem, ↓reduceIte, keep142, ib142, mk142, Tryz.f142, Tryz.f142]
  intro _
  refine loopF (keep := keep142) (ib := ib142) (mk := mk142) mix (by kernel_rfl) (fun k : Nat => [(0, (sls 1 (fun n => [I n]) a)), (1, .fn (.func g) [] cap), (7, I a.length), (8, I k)]) (fun _ => h) (fun k => k ≤ a.length ∧ ∀ x ∈ a.take k, p x = false) (fun k => a.length - k) 0 (by simp [SatL, tget, Heap.le_refl]) ?_
  intro k ⟨hk, hp⟩
  rcases Nat.lt_or_ge k a.length with hlt | hge
  · have ea : a[k]? = some a[k] := List.getElem?_eq_getElem hlt
    simp -dsimp -implicitDefEqProofs only [go_sem, ↓reduceIte, keep142, ib142, mk142, Tryz.f142, Tryz.f142, ea]
    repeat' (with_reducible first | intro _ | refine And.intro ?_ ?_)
    all_goals try omega
    have hx := hc a[k] (List.getElem_mem hlt)
    refine HFnF.mkAt (hx.mono hle) ?_
    cases hpk : p a[k] with
    | true =>
      simp -dsimp -implicitDefEqProofs only [go_sem, ↓reduceIte, keep142, ib142, mk142, Tryz.f142, Tryz.f142]
      repeat' (with_reducible first | intro _ | refine And.intro ?_ ?_)
      all_goals first | exact (idxOf_some hlt hp hpk).symm | rfl | (rw [idxOf_some hlt hp hpk])
    | false =>
      simp -dsimp -implicitDefEqProofs only [go_sem, ↓reduceIte, keep142, ib142, mk142, Tryz.f142, Tryz.f142]
      refine ⟨k + 1, ?_⟩
      repeat' (with_reducible refine And.intro ?_ ?_)
      all_goals try (rw [IntWalk.i64_in _ (by omega)]; first | rfl | omega)
      all_goals try omega
      exact all_step (P := fun x => p x = false) hlt hp hpk
  · have hk' : k = a.length := by omega
    subst hk'
    rw [List.take_length] at hp
    simp -dsimp -implicitDefEqProofs only [go_sem, ↓reduceIte, keep142, ib142, mk142, Tryz.f142, Tryz.f142, Nat.lt_irrefl]
    all_goals first | exact (idxOf_none hp).symm | rw [idxOf_none hp]
def keep123 : List Nat := [0, 1, 4]
def ib123 : List Nat := []
def mk123 : Marks := fun _ => ([], .nil, [])
set_option maxRecDepth 100000 in
theorem hasF_Int64S (a : List Int) (p : Int → Bool) (g : FuncId) (cap : List HVal) {h0 : Heap} (hc : ∀ x ∈ a, FnAt Tryz.prog g ([(.int .i64 x)] ++ cap) (.bool (p x)) h0) : FnAt Tryz.prog 123 [(sls 1 (fun n => [I n]) a), .fn (.func g) [] cap] (.bool (a.any p)) h0 := by
  refine fnAtF 9 keep123 ib123 mk123 mix Tryz.func123 rfl (by kernel_rfl) (by simp) fun h hle => ?_
  simp -dsimp -implicitDefEqProofs only [go_sem, ↓reduceIte, keep123, ib123, mk123, Tryz.f123, Tryz.f123]
  refine HFnF.mkAt ((idxF_Int64S a p g cap hc).mono hle) ?_
  simp -dsimp -implicitDefEqProofs only [go_sem, ↓reduceIte, keep123, ib123, mk123, Tryz.f123, Tryz.f123]
  all_goals first | done | exact idxOf_nonneg | rw [idxOf_nonneg]

def keep124 : List Nat := [0, 2]
def ib124 : List Nat := []
def mk124 : Marks := fun _ => ([], .nil, [])
theorem areNumbers1 (n : Int) : Fn0 Tryz.prog 124 [I n] (.bool (!decide (Num n))) := by
  refine fn0F 6 keep124 ib124 mk124 mix Tryz.func124 rfl (by kernel_rfl) (by simp) fun h => ?_
  simp (maxSteps := 1000000) -dsimp -implicitDefEqProofs only [go_sem, ↓reduceIte, keep124, ib124, mk124, Tryz.f124]
  first | refine HFnF.mk (isNumber n) ?_ | refine CallSF.mk (isNumber n) ?_ | refine HFnF.mkAt (isNumber n) ?_ | refine CallSF.mk (FnAt.fn0 (isNumber n)) ?_
  simp (maxSteps := 1000000) -dsimp -implicitDefEqProofs only [go_sem, ↓reduceIte, keep124, ib124, mk124, Tryz.f124]
def keep87 : List Nat := [0, 1, 4]
def ib87 : List Nat := []
def mk87 : Marks := fun _ => ([], .nil, [])
theorem areNumbers (l : List Int) (c : Int) : Fn0 Tryz.prog 87 [sls 1 (fun n => [I n]) l, I c] (.bool (decide ((l.length : Int) = c ∧ Nums l))) := by
  refine fn0F 14 keep87 ib87 mk87 mix Tryz.func87 rfl (by kernel_rfl) (by simp) fun h => ?_
  simp (maxSteps := 1000000) -dsimp -implicitDefEqProofs only [go_sem, ↓reduceIte, keep87, ib87, mk87, Tryz.f87]
  repeat' (with_reducible first | intro _ | refine And.intro ?_ ?_)
  all_goals try (first | (simp [*]; done) | omega | grind)
  first | refine HFnF.mk (hasF_Int64S l (fun n => !decide (Num n)) 124 [] fun x _ => (areNumbers1 x).toAt) ?_ | refine CallSF.mk (hasF_Int64S l (fun n => !decide (Num n)) 124 [] fun x _ => (areNumbers1 x).toAt) ?_ | refine HFnF.mkAt (hasF_Int64S l (fun n => !decide (Num n)) 124 [] fun x _ => (areNumbers1 x).toAt) ?_ | refine CallSF.mk (FnAt.fn0 (hasF_Int64S l (fun n => !decide (Num n)) 124 [] fun x _ => (areNumbers1 x).toAt)) ?_
  simp (maxSteps := 1000000) -dsimp -implicitDefEqProofs only [go_sem, ↓reduceIte, keep87, ib87, mk87, Tryz.f87]
  rename_i e
  rw [any_not, decide_eq_decide]
  exact ⟨fun q => ⟨e, q⟩, fun q => q.2⟩
open Go.Proofs
set_option linter.unusedVariables false
set_option linter.unusedSimpArgs false
def Low (c : UInt8) : Prop := 97 ≤ c.toNat ∧ c.toNat ≤ 122
def Dig (c : UInt8) : Prop := 48 ≤ c.toNat ∧ c.toNat ≤ 57
instance (c : UInt8) : Decidable (Low c) := inferInstanceAs (Decidable (_ ∧ _))
instance (c : UInt8) : Decidable (Dig c) := inferInstanceAs (Decidable (_ ∧ _))
def IsNm (s : List UInt8) : Prop := 1 ≤ s.length ∧ s.length ≤ 12 ∧ (∀ c, s[0]? = some c → Low c) ∧ ∀ c ∈ s, Low c ∨ Dig c
noncomputable instance (s : List UInt8) : Decidable (IsNm s) := Classical.propDecidable _
theorem isNm_step {s : List UInt8} {k : Nat} {c : UInt8} (h : k < s.length) (ec : s[k] = c) (hp : ∀ x ∈ s.take k, Low x ∨ Dig x) (he : Low c ∨ Dig c) : ∀ x ∈ s.take (k + 1), Low x ∨ Dig x :=
  all_step (P := fun x => Low x ∨ Dig x) h hp (by rw [ec]; exact he)
theorem not_isNm {s : List UInt8} {k : Nat} {c : UInt8} (h : k < s.length) (ec : s[k] = c) (he : ¬ (Low c ∨ Dig c)) : false = decide (IsNm s) :=
  (decide_eq_false fun e => he (ec ▸ e.2.2.2 _ (List.getElem_mem h))).symm
theorem not_isNm0 {s : List UInt8} {k : Nat} {c : UInt8} (h : k < s.length) (h0 : (k : Int) = 0) (ec : s[k] = c) (he : ¬ Low c) : false = decide (IsNm s) :=
  (decide_eq_false fun e => he (e.2.2.1 c (by have : k = 0 := by omega
                                              subst this; rw [List.getElem?_eq_getElem h, ec]))).symm
def keep145 : List Nat := [0, 2, 3, 17, 21, 45]
def ib145 : List Nat := []
def mk145 : Marks := fun _ => ([], .nil, [])
set_option maxRecDepth 100000 in
theorem specIsName (s : List UInt8) : Fn0 Tryz.prog 145 [.str s] (.bool (decide (IsNm s))) := by
  cases s with
  | nil =>
    refine fn0F 46 keep145 ib145 mk145 mix Tryz.func145 rfl (by kernel_rfl) (by simp) fun h => ?_
    simp (maxSteps := 1000000) -dsimp -implicitDefEqProofs only [go_sem, ↓reduceIte, keep145, ib145, mk145, Tryz.f145]
    first | refine HFnF.mk (l00In 0 1 12) ?_ | refine CallSF.mk (l00In 0 1 12) ?_ | refine HFnF.mkAt (l00In 0 1 12) ?_ | refine CallSF.mk (FnAt.fn0 (l00In 0 1 12)) ?_
    simp (maxSteps := 1000000) -dsimp -implicitDefEqProofs only [go_sem, ↓reduceIte, keep145, ib145, mk145, Tryz.f145]
    repeat' (with_reducible first | intro _ | refine And.intro ?_ ?_)
    all_goals try (first | (simp [IsNm, *]; done) | omega | (grind [IsNm]) | (simp [IsNm]; omega))
  | cons c t =>
    refine fn0F 46 keep145 ib145 mk145 mix Tryz.func145 rfl (by kernel_rfl) (by simp) fun h => ?_
    simp (maxSteps := 1000000) -dsimp -implicitDefEqProofs only [go_sem, ↓reduceIte, keep145, ib145, mk145, Tryz.f145, List.getElem?_cons_zero, Int.toNat_zero]
    intro _
    first | refine HFnF.mk (l00In (c :: t).length 1 12) ?_ | refine CallSF.mk (l00In (c :: t).length 1 12) ?_ | refine HFnF.mkAt (l00In (c :: t).length 1 12) ?_ | refine CallSF.mk (FnAt.fn0 (l00In (c :: t).length 1 12)) ?_
    simp (maxSteps := 1000000) -dsimp -implicitDefEqProofs only [go_sem, ↓reduceIte, keep145, ib145, mk145, Tryz.f145, List.getElem?_cons_zero, Int.toNat_zero]
    repeat' (with_reducible first | intro _ | refine And.intro ?_ ?_)
    all_goals try (first | (simp [IsNm, Low, Dig, *]; done) | omega | (grind [IsNm, Low, Dig]) | (simp [IsNm, Low, Dig]; omega))
    rename_i h0 h1 h2 h3
    generalize hs : c :: t = s at *
    refine loopF (keep := keep145) (ib := ib145) (mk := mk145) mix (by kernel_rfl) (fun k : Nat => [(0, .str s), (3, I k)]) (fun _ => h) (fun k => k ≤ s.length ∧ ∀ x ∈ s.take k, Low x ∨ Dig x) (fun k => s.length - k) 0 (by simp [SatL, tget, Heap.le_refl]) ?_
    intro k ⟨hk, hp⟩
    rcases Nat.lt_or_ge k s.length with hlt | hge
    · generalize ec : s[k] = d
      have ea : s[k]? = some d := by rw [← ec]; exact List.getElem?_eq_getElem hlt
      simp (maxSteps := 1000000) -dsimp -implicitDefEqProofs only [go_sem, ↓reduceIte, keep145, ib145, mk145, Tryz.f145, ea, Int.toNat_natCast]
      repeat' (with_reducible first | intro _ | refine And.intro ?_ ?_)
      all_goals try omega
      all_goals try exact not_isNm hlt ec (by simp only [Low, Dig]; omega)
      all_goals
        refine ⟨k + 1, ?_⟩
        repeat' (with_reducible refine And.intro ?_ ?_)
        all_goals try (rw [IntWalk.i64_in _ (by omega)]; first | rfl | omega)
        all_goals try omega
        all_goals try (repeat' (with_reducible first | exact Heap.le_refl _ | refine (le_upd (by first | assumption | exact And.right (by assumption) | exact upd_none.2 (by assumption))).2 ?_))
        exact isNm_step hlt ec hp (by simp only [Low, Dig]; omega)
    · have hk' : k = s.length := by omega
      subst hk'
      rw [List.take_length] at hp
      simp (maxSteps := 1000000) -dsimp -implicitDefEqProofs only [go_sem, ↓reduceIte, keep145, ib145, mk145, Tryz.f145, Nat.lt_irrefl]
      have : s.length = t.length + 1 := by rw [← hs]; rfl
      exact fun _ => (decide_eq_true ⟨by omega, by omega, fun x hx => by rw [← hs] at hx; simp at hx; subst hx; simp only [Low]; omega, hp⟩).symm
def keep149 : List Nat := [0, 2, 3, 5, 6, 7, 34]
def ib149 : List Nat := []
def mk149 : Marks := fun _ => ([], .nil, [])
set_option maxRecDepth 100000 in
theorem IsName (s : List UInt8) : Fn0 Tryz.prog 149 [.str s] (.bool (decide (IsNm s))) := by
  refine fn0F 44 keep149 ib149 mk149 mix Tryz.func149 rfl (by kernel_rfl) (by simp) fun h => ?_
  simp (maxSteps := 1000000) -dsimp -implicitDefEqProofs only [go_sem, ↓reduceIte, keep149, ib149, mk149, Tryz.f149]
  repeat' (with_reducible first | intro _ | refine And.intro ?_ ?_)
  refine loopF (keep := keep149) (ib := ib149) (mk := mk149) mix (by kernel_rfl) (fun k : Nat => [(0, .str s), (5, I s.length), (6, I k)]) (fun _ => h) (fun k => k ≤ s.length ∧ (∀ x ∈ s.take k, Low x ∨ Dig x) ∧ (0 < k → ∀ c, s[0]? = some c → Low c)) (fun k => s.length - k) 0 (by simp [SatL, tget, Heap.le_refl]) ?_
  intro k ⟨hk, hp, hz⟩
  rcases Nat.lt_or_ge k s.length with hlt | hge
  · generalize ec : s[k] = d
    have ea : s[k]? = some d := by rw [← ec]; exact List.getElem?_eq_getElem hlt
    have hz' : Low d ∨ ¬ ((k : Int) = 0) → ∀ c, s[0]? = some c → Low c := by
      intro q c hc
      by_cases h0 : k = 0
      · subst h0
        rw [ea] at hc
        obtain rfl := Option.some.inj hc
        exact q.resolve_right (by simp)
      · exact hz (by omega) c hc
    simp (maxSteps := 1000000) -dsimp -implicitDefEqProofs only [go_sem, ↓reduceIte, keep149, ib149, mk149, Tryz.f149, ea, Int.toNat_natCast]
    repeat' (with_reducible first | intro _ | refine And.intro ?_ ?_)
    all_goals try omega
    all_goals try exact not_isNm hlt ec (by simp only [Low, Dig]; omega)
    all_goals try exact not_isNm0 hlt (by omega) ec (by simp only [Low]; omega)
    all_goals
      refine ⟨k + 1, ?_⟩
      repeat' (with_reducible refine And.intro ?_ ?_)
      all_goals try (rw [IntWalk.i64_in _ (by omega)]; first | rfl | omega)
      all_goals try omega
      all_goals try (repeat' (with_reducible first | exact Heap.le_refl _ | refine (le_upd (by first | assumption | exact And.right (by assumption) | exact upd_none.2 (by assumption))).2 ?_))
      all_goals first | exact isNm_step hlt ec hp (by simp only [Low, Dig]; omega) | exact fun _ => hz' (by simp only [Low]; omega)
  · have hk' : k = s.length := by omega
    subst hk'
    rw [List.take_length] at hp
    simp (maxSteps := 1000000) -dsimp -implicitDefEqProofs only [go_sem, ↓reduceIte, keep149, ib149, mk149, Tryz.f149, Nat.lt_irrefl]
    repeat' (with_reducible first | intro _ | refine And.intro ?_ ?_)
    all_goals simp only [IsNm, decide_eq_decide, eq_comm (a := false), decide_eq_false_iff_not]
    all_goals grind
end Go.Hl

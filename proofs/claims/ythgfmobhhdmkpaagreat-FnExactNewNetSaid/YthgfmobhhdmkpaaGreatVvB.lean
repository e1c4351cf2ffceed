/-
  Contracts of functions and laws of the layer over the walk.
-/
import Derived.Test.YthgfmobhhdmkpaaGreatVvA
namespace Go.Hl
open Go.Proofs
set_option linter.unusedVariables false
set_option linter.unusedSimpArgs false


def keep140 : List Nat := [0, 1, 4, 5, 9]
def ib140 : List Nat := []
def mk140 : Marks := fun _ => ([], .nil, [])
set_option maxRecDepth 100000 in
theorem mark_ExprS_step (l : List DExpr) (hk : ∀ x ∈ l, MarkS Tryz.prog 140 (OS DExpr.o 5 x.fKids)) : MarkS Tryz.prog 140 (OS DExpr.o 5 l) := by
  intro y k h hy h0 h1 ho nd
  rcases hy with ⟨rfl, hl⟩ | ⟨n, es, rfl, hor⟩
  · rw [OV.mk_nil, OV.nil_rows, OV.ct_nil, OV.val_nil]
    refine fnHF 48 keep140 ib140 mk140 mix Tryz.func140 rfl (by kernel_rfl) (by simp) ?_
    simp (maxSteps := 1000000) -dsimp -implicitDefEqProofs only [go_sem, ↓reduceIte, keep140, ib140, mk140, Tryz.f140]
    refine loopF (keep := keep140) (ib := ib140) (mk := mk140) mix (by kernel_rfl) (fun _ : Unit => [(0, .sl 5 [] true), (1, I k), (5, I 0)]) (fun _ => h) (fun _ => True) (fun _ => 0) () (by simp [SatL, tget, Heap.le_refl]) ?_
    intro _ _
    simp (maxSteps := 1000000) -dsimp -implicitDefEqProofs only [go_sem, ↓reduceIte, keep140, ib140, mk140, Tryz.f140, zero_cast, Int.lt_irrefl]
    try intro _
    refine ⟨h, Heap.le_refl _, ?_⟩
    first | exact Chg.refl (by simp [Owns]) | exact ⟨by simp, Chg.refl (by simp [Owns])⟩
  · rw [OV.mk_sl, OV.sl_rows, OV.sl_rows, OV.ct_sl, OV.val_sl]
    rw [OV.ct_sl] at h1
    rw [OV.sl_rows] at ho nd
    generalize hL0 : (n, HObj.row 5 (OV.cells es)) :: OV.rowsRows es = L0 at nd ⊢
    refine fnHF 48 keep140 ib140 mk140 mix Tryz.func140 rfl (by kernel_rfl) (by simp) ?_
    simp (maxSteps := 1000000) -dsimp -implicitDefEqProofs only [go_sem, ↓reduceIte, keep140, ib140, mk140, Tryz.f140]
    refine loopF (keep := keep140) (ib := ib140) (mk := mk140) mix (by kernel_rfl) (fun x : Nat × Heap => [(0, .os n 5 0 es.length), (1, I (k + OV.ctRows (es.take x.1))), (5, I x.1)]) (fun x => x.2) (fun x => x.1 ≤ es.length ∧ Chg h x.2 L0 ((n, .row 5 (OV.cells (OV.mkRows k (es.take x.1) ++ es.drop x.1))) :: OV.rowsRows (OV.mkRows k (es.take x.1) ++ es.drop x.1))) (fun x => es.length - x.1) (0, h) (by
      refine ⟨by simp [SatL, tget, OV.ctRows], Heap.le_refl _, Nat.zero_le _, ?_⟩
      rw [← hL0]
      simpa [OV.mkRows] using Chg.refl ho) ?_
    rintro ⟨i, g⟩ ⟨hi, hc⟩
    simp only at hi hc ⊢
    rcases Nat.lt_or_ge i es.length with hlt | hge
    · have hll : i < l.length := by rw [hor.length]; exact hlt
      obtain ⟨A, e, B, rfl, hA, he⟩ := hor.split i hll
      have t1 : (A ++ e :: B).take i = A := by rw [← hA]; simp
      have t2 : (A ++ e :: B).drop i = e :: B := by rw [← hA]; simp
      have t0 : A ++ e :: B = (A ++ [e]) ++ B := by simp
      have t3 : (A ++ e :: B).take (i + 1) = A ++ [e] := by rw [t0]; exact List.take_left' (by simp [hA])
      have t4 : (A ++ e :: B).drop (i + 1) = B := by rw [t0]; exact List.drop_left' (by simp [hA])
      clear t0
      have hct := OV.ctRows_append A (e :: B)
      rw [OV.ctRows] at hct
      rw [t1, t2] at hc
      rw [t1]
      have hA2 : (OV.cells (OV.mkRows k A)).length = i := by rw [OV.cells, List.length_map, OV.mkRows_len, hA]
      have hs2 := OV.mkRows_snoc k A e
      have hs3 := OV.ctRows_snoc A e
      rw [DExpr.o_iff] at he
      obtain ⟨y_4, rfl, o_4⟩ := he
      simp only [OV.ctRow_cons, OV.ctRow_nil, OV.ct_v, Nat.add_zero, OV.mkRow_cons, OV.mkRow_nil, OV.mk_v, leaf_int, leaf_bool, leaf_str, one_cast] at hct hs2 hs3
      generalize hkk : k + (OV.ctRows A : Int) = kk at hs2 ⊢
      generalize OV.mkRows k A = A2 at hs2 hc hA2
      have gm : ∀ (c : List Cell) (Y : List (List Cell)), (OV.cells A2 ++ c :: Y)[i]? = some c := fun c Y => get_mid hA2
      have sm : ∀ (c c2 : List Cell) (Y : List (List Cell)), (OV.cells A2 ++ c :: Y).set i c2 = OV.cells A2 ++ c2 :: Y := fun c c2 Y => set_mid hA2
      have hc0 := hc
      simp only [List.append_assoc, List.cons_append, List.nil_append, List.append_nil, OV.row_cons, OV.row_nil, OV.v_rows, rowsRows_cons, rowsRows_app, cells_append, cells_cons, cellv_cons, cellv_nil, OV.val_v] at hc0
      have hgn := hc0.owns (n, _) List.mem_cons_self
      simp only at hgn
      have iw0_0 : IntKind.i64.wrap (kk + 1) = kk + 1 := IntWalk.i64_in _ (by omega)
      have iw0_1 : IntKind.i64.wrap (kk + 1 + 1) = kk + 1 + 1 := IntWalk.i64_in _ (by omega)
      have iw0_2 : IntKind.i64.wrap (kk + 1 + 1 + 1) = kk + 1 + 1 + 1 := IntWalk.i64_in _ (by omega)
      have iw0_3 : IntKind.i64.wrap (kk + 1 + 1 + 1 + 1) = kk + 1 + 1 + 1 + 1 := IntWalk.i64_in _ (by omega)
      simp (maxSteps := 1000000) -dsimp -implicitDefEqProofs only [go_sem, ↓reduceIte, keep140, ib140, mk140, Tryz.f140, hgn, gm, sm, upd_upd, upd_same, o_4.flat, o_4.one, iw0_0, iw0_1, iw0_2, iw0_3]
      repeat' (with_reducible first | intro _ | refine And.intro ?_ ?_)
      all_goals try omega
      have hq0 := hc0.trans (Chg.set (o' := .row 5 (OV.cells A2 ++ [.v (.int .i64 (kk)), .v (.int .i64 (kk + 1)), .v (.int .i64 (kk + 1 + 1)), .v (.int .i64 (kk + 1 + 1 + 1)), .v y_4.val] :: OV.cells B)) hc0.owns (hc0.nodup nd))
      have hg0 : upd g n (.row 5 (OV.cells A2 ++ [.v (.int .i64 (kk)), .v (.int .i64 (kk + 1)), .v (.int .i64 (kk + 1 + 1)), .v (.int .i64 (kk + 1 + 1 + 1)), .v y_4.val] :: OV.cells B)) n = some (.row 5 (OV.cells A2 ++ [.v (.int .i64 (kk)), .v (.int .i64 (kk + 1)), .v (.int .i64 (kk + 1 + 1)), .v (.int .i64 (kk + 1 + 1 + 1)), .v y_4.val] :: OV.cells B)) := upd_same _ _ _
      have hp0 : Chg h (upd g n (.row 5 (OV.cells A2 ++ [.v (.int .i64 (kk)), .v (.int .i64 (kk + 1)), .v (.int .i64 (kk + 1 + 1)), .v (.int .i64 (kk + 1 + 1 + 1)), .v y_4.val] :: OV.cells B))) L0 (((n, .row 5 (OV.cells A2 ++ [.v (.int .i64 (kk)), .v (.int .i64 (kk + 1)), .v (.int .i64 (kk + 1 + 1)), .v (.int .i64 (kk + 1 + 1 + 1)), .v y_4.val] :: OV.cells B)) :: (OV.rowsRows A2)) ++ (y_4.rows ++ (OV.rowsRows B))) := by simpa only [List.append_assoc, List.cons_append, List.nil_append, List.append_nil, OV.row_cons, OV.row_nil, OV.v_rows, rowsRows_cons, rowsRows_app, cells_append, cells_cons, cellv_cons, cellv_nil, OV.val_v] using hq0
      refine HFnF.mkH ((hk l[i] (List.getElem_mem hll)) y_4 (kk + 1 + 1 + 1 + 1) _ o_4 (by omega) (by omega) hp0.owns.right.left (nodup_mid (hp0.nodup nd))) ?_
      rintro r g0 ⟨rfl, hch0⟩
      have hr0 := hp0.trans (Chg.mid hp0.owns (hp0.nodup nd) hch0)
      have hg0r := hr0.owns (n, _) List.mem_cons_self
      simp only at hg0r
      have hkb0 : ∃ z : Int, z = kk + 1 + 1 + 1 + 1 + (y_4.ct : Int) := ⟨_, rfl⟩
      obtain ⟨kk0, hkb0⟩ := hkb0
      rw [← hkb0]
      simp (maxSteps := 1000000) -dsimp -implicitDefEqProofs only [go_sem, ↓reduceIte, keep140, ib140, mk140, Tryz.f140, hg0r, gm, sm, upd_upd, upd_same, o_4.flat, o_4.one, iw0_0, iw0_1, iw0_2, iw0_3]
      refine ⟨(i + 1, g0), ?_⟩
      simp only [t3, t4, hs2, hs3]
      refine ⟨?_, Heap.le_refl _, ⟨by omega, ?_⟩, by omega⟩
      · repeat' (with_reducible refine And.intro ?_ ?_)
        all_goals first | rfl | trivial | omega | (rw [IntWalk.i64_in _ (by omega)]; omega)
      · simpa only [List.append_assoc, List.cons_append, List.nil_append, List.append_nil, OV.row_cons, OV.row_nil, OV.v_rows, rowsRows_cons, rowsRows_app, cells_append, cells_cons, cellv_cons, cellv_nil, OV.val_v, o_4.mk_val, hkb0] using hr0
    · have hi2 : i = es.length := by omega
      subst hi2
      rw [List.take_length, List.drop_length, List.append_nil] at hc
      rw [List.take_length]
      simp (maxSteps := 1000000) -dsimp -implicitDefEqProofs only [go_sem, ↓reduceIte, keep140, ib140, mk140, Tryz.f140, Int.lt_irrefl, Nat.lt_irrefl]
      try intro _
      refine ⟨g, Heap.le_refl _, ?_⟩
      first | exact hc | exact ⟨rfl, hc⟩
theorem mark_ExprS (l : List DExpr) : MarkS Tryz.prog 140 (OS DExpr.o 5 l) :=
  mark_ExprS_step l fun x hx => mark_ExprS x.fKids
termination_by SizeOf.sizeOf l
decreasing_by
  have h1 := List.sizeOf_lt_of_mem hx
  cases x
  simp only [DExpr.mk.sizeOf_spec, DExpr.fKids] at h1 ⊢
  omega



def keep116 : List Nat := [0, 1, 4, 5, 9]
def ib116 : List Nat := []
def mk116 : Marks := fun _ => ([], .nil, [])
set_option maxRecDepth 100000 in
theorem mark_FuncS (l : List DFunc) : MarkS Tryz.prog 116 (OS DFunc.o 3 l) := by
  intro y k h hy h0 h1 ho nd
  rcases hy with ⟨rfl, hl⟩ | ⟨n, es, rfl, hor⟩
  · rw [OV.mk_nil, OV.nil_rows, OV.ct_nil, OV.val_nil]
    refine fnHF 35 keep116 ib116 mk116 mix Tryz.func116 rfl (by kernel_rfl) (by simp) ?_
    simp (maxSteps := 1000000) -dsimp -implicitDefEqProofs only [go_sem, ↓reduceIte, keep116, ib116, mk116, Tryz.f116]
    refine loopF (keep := keep116) (ib := ib116) (mk := mk116) mix (by kernel_rfl) (fun _ : Unit => [(0, .sl 3 [] true), (1, I k), (5, I 0)]) (fun _ => h) (fun _ => True) (fun _ => 0) () (by simp [SatL, tget, Heap.le_refl]) ?_
    intro _ _
    simp (maxSteps := 1000000) -dsimp -implicitDefEqProofs only [go_sem, ↓reduceIte, keep116, ib116, mk116, Tryz.f116, zero_cast, Int.lt_irrefl]
    try intro _
    refine ⟨h, Heap.le_refl _, ?_⟩
    first | exact Chg.refl (by simp [Owns]) | exact ⟨by simp, Chg.refl (by simp [Owns])⟩
  · rw [OV.mk_sl, OV.sl_rows, OV.sl_rows, OV.ct_sl, OV.val_sl]
    rw [OV.ct_sl] at h1
    rw [OV.sl_rows] at ho nd
    generalize hL0 : (n, HObj.row 3 (OV.cells es)) :: OV.rowsRows es = L0 at nd ⊢
    refine fnHF 35 keep116 ib116 mk116 mix Tryz.func116 rfl (by kernel_rfl) (by simp) ?_
    simp (maxSteps := 1000000) -dsimp -implicitDefEqProofs only [go_sem, ↓reduceIte, keep116, ib116, mk116, Tryz.f116]
    refine loopF (keep := keep116) (ib := ib116) (mk := mk116) mix (by kernel_rfl) (fun x : Nat × Heap => [(0, .os n 3 0 es.length), (1, I (k + OV.ctRows (es.take x.1))), (5, I x.1)]) (fun x => x.2) (fun x => x.1 ≤ es.length ∧ Chg h x.2 L0 ((n, .row 3 (OV.cells (OV.mkRows k (es.take x.1) ++ es.drop x.1))) :: OV.rowsRows (OV.mkRows k (es.take x.1) ++ es.drop x.1))) (fun x => es.length - x.1) (0, h) (by
      refine ⟨by simp [SatL, tget, OV.ctRows], Heap.le_refl _, Nat.zero_le _, ?_⟩
      rw [← hL0]
      simpa [OV.mkRows] using Chg.refl ho) ?_
    rintro ⟨i, g⟩ ⟨hi, hc⟩
    simp only at hi hc ⊢
    rcases Nat.lt_or_ge i es.length with hlt | hge
    · have hll : i < l.length := by rw [hor.length]; exact hlt
      obtain ⟨A, e, B, rfl, hA, he⟩ := hor.split i hll
      have t1 : (A ++ e :: B).take i = A := by rw [← hA]; simp
      have t2 : (A ++ e :: B).drop i = e :: B := by rw [← hA]; simp
      have t0 : A ++ e :: B = (A ++ [e]) ++ B := by simp
      have t3 : (A ++ e :: B).take (i + 1) = A ++ [e] := by rw [t0]; exact List.take_left' (by simp [hA])
      have t4 : (A ++ e :: B).drop (i + 1) = B := by rw [t0]; exact List.drop_left' (by simp [hA])
      clear t0
      have hct := OV.ctRows_append A (e :: B)
      rw [OV.ctRows] at hct
      rw [t1, t2] at hc
      rw [t1]
      have hA2 : (OV.cells (OV.mkRows k A)).length = i := by rw [OV.cells, List.length_map, OV.mkRows_len, hA]
      have hs2 := OV.mkRows_snoc k A e
      have hs3 := OV.ctRows_snoc A e
      obtain ⟨y_2, rfl, o_2⟩ := he
      simp only [OV.ctRow_cons, OV.ctRow_nil, OV.ct_v, Nat.add_zero, OV.mkRow_cons, OV.mkRow_nil, OV.mk_v, leaf_int, leaf_bool, leaf_str, one_cast] at hct hs2 hs3
      generalize hkk : k + (OV.ctRows A : Int) = kk at hs2 ⊢
      generalize OV.mkRows k A = A2 at hs2 hc hA2
      have gm : ∀ (c : List Cell) (Y : List (List Cell)), (OV.cells A2 ++ c :: Y)[i]? = some c := fun c Y => get_mid hA2
      have sm : ∀ (c c2 : List Cell) (Y : List (List Cell)), (OV.cells A2 ++ c :: Y).set i c2 = OV.cells A2 ++ c2 :: Y := fun c c2 Y => set_mid hA2
      have hc0 := hc
      simp only [List.append_assoc, List.cons_append, List.nil_append, List.append_nil, OV.row_cons, OV.row_nil, OV.v_rows, rowsRows_cons, rowsRows_app, cells_append, cells_cons, cellv_cons, cellv_nil, OV.val_v] at hc0
      have hgn := hc0.owns (n, _) List.mem_cons_self
      simp only at hgn
      have iw0_0 : IntKind.i64.wrap (kk + 1) = kk + 1 := IntWalk.i64_in _ (by omega)
      have iw0_1 : IntKind.i64.wrap (kk + 1 + 1) = kk + 1 + 1 := IntWalk.i64_in _ (by omega)
      simp (maxSteps := 1000000) -dsimp -implicitDefEqProofs only [go_sem, ↓reduceIte, keep116, ib116, mk116, Tryz.f116, hgn, gm, sm, upd_upd, upd_same, o_2.flat, o_2.one, iw0_0, iw0_1]
      repeat' (with_reducible first | intro _ | refine And.intro ?_ ?_)
      all_goals try omega
      refine HFnF.mk (markText (kk) (by omega)) ?_
      simp (maxSteps := 1000000) -dsimp -implicitDefEqProofs only [go_sem, ↓reduceIte, keep116, ib116, mk116, Tryz.f116, hgn, gm, sm, upd_upd, upd_same, o_2.flat, o_2.one, iw0_0, iw0_1]
      repeat' (with_reducible first | intro _ | refine And.intro ?_ ?_)
      all_goals try omega
      have hq0 := hc0.trans (Chg.set (o' := .row 3 (OV.cells A2 ++ [.v (.str (mtext (kk))), .v (.int .i64 (kk + 1)), .v y_2.val] :: OV.cells B)) hc0.owns (hc0.nodup nd))
      have hg0 : upd g n (.row 3 (OV.cells A2 ++ [.v (.str (mtext (kk))), .v (.int .i64 (kk + 1)), .v y_2.val] :: OV.cells B)) n = some (.row 3 (OV.cells A2 ++ [.v (.str (mtext (kk))), .v (.int .i64 (kk + 1)), .v y_2.val] :: OV.cells B)) := upd_same _ _ _
      have hp0 : Chg h (upd g n (.row 3 (OV.cells A2 ++ [.v (.str (mtext (kk))), .v (.int .i64 (kk + 1)), .v y_2.val] :: OV.cells B))) L0 (((n, .row 3 (OV.cells A2 ++ [.v (.str (mtext (kk))), .v (.int .i64 (kk + 1)), .v y_2.val] :: OV.cells B)) :: (OV.rowsRows A2)) ++ (y_2.rows ++ (OV.rowsRows B))) := by simpa only [List.append_assoc, List.cons_append, List.nil_append, List.append_nil, OV.row_cons, OV.row_nil, OV.v_rows, rowsRows_cons, rowsRows_app, cells_append, cells_cons, cellv_cons, cellv_nil, OV.val_v] using hq0
      refine HFnF.mkH ((mark_ExprS l[i].fOuts) y_2 (kk + 1 + 1) _ o_2 (by omega) (by omega) hp0.owns.right.left (nodup_mid (hp0.nodup nd))) ?_
      rintro r g0 ⟨rfl, hch0⟩
      have hr0 := hp0.trans (Chg.mid hp0.owns (hp0.nodup nd) hch0)
      have hg0r := hr0.owns (n, _) List.mem_cons_self
      simp only at hg0r
      have hkb0 : ∃ z : Int, z = kk + 1 + 1 + (y_2.ct : Int) := ⟨_, rfl⟩
      obtain ⟨kk0, hkb0⟩ := hkb0
      rw [← hkb0]
      simp (maxSteps := 1000000) -dsimp -implicitDefEqProofs only [go_sem, ↓reduceIte, keep116, ib116, mk116, Tryz.f116, hg0r, gm, sm, upd_upd, upd_same, o_2.flat, o_2.one, iw0_0, iw0_1]
      refine ⟨(i + 1, g0), ?_⟩
      simp only [t3, t4, hs2, hs3]
      refine ⟨?_, Heap.le_refl _, ⟨by omega, ?_⟩, by omega⟩
      · repeat' (with_reducible refine And.intro ?_ ?_)
        all_goals first | rfl | trivial | omega | (rw [IntWalk.i64_in _ (by omega)]; omega)
      · simpa only [List.append_assoc, List.cons_append, List.nil_append, List.append_nil, OV.row_cons, OV.row_nil, OV.v_rows, rowsRows_cons, rowsRows_app, cells_append, cells_cons, cellv_cons, cellv_nil, OV.val_v, o_2.mk_val, hkb0] using hr0
    · have hi2 : i = es.length := by omega
      subst hi2
      rw [List.take_length, List.drop_length, List.append_nil] at hc
      rw [List.take_length]
      simp (maxSteps := 1000000) -dsimp -implicitDefEqProofs only [go_sem, ↓reduceIte, keep116, ib116, mk116, Tryz.f116, Int.lt_irrefl, Nat.lt_irrefl]
      try intro _
      refine ⟨g, Heap.le_refl _, ?_⟩
      first | exact hc | exact ⟨rfl, hc⟩

def keep71 : List Nat := [0, 1, 2, 4]
def ib71 : List Nat := [2]
def mk71 : Marks := fun _ => ([], .nil, [])
set_option maxRecDepth 100000 in
theorem mark_Program (x : DProgram) : MarkA Tryz.prog 71 x.o := by
  intro e k h he h0 h1 ho nd
  obtain ⟨y_0, rfl, o_0⟩ := he
  simp only [OV.ctTop_cons, OV.ctTop_nil, OV.ctT_v, OV.mkTop_cons, OV.mkTop_nil, OV.mkT_v, Nat.add_zero, Nat.zero_add, zero_cast, Int.add_zero, Int.zero_add, o_0.ctT, o_0.mkT] at h1 ⊢
  have hc0 := Chg.refl ho
  simp only [List.append_assoc, List.cons_append, List.nil_append, List.append_nil, OV.row_cons, OV.row_nil, OV.v_rows, rowsRows_cons, rowsRows_app, cells_append, cells_cons, cellv_cons, cellv_nil, OV.val_v] at hc0 nd ⊢
  obtain ⟨L0, hL0⟩ : ∃ L : List (Nat × HObj), L = (y_0.rows) := ⟨_, rfl⟩
  replace hc0 : Chg h h L0 (y_0.rows) := by rw [hL0]; exact hc0
  rw [← hL0] at nd ⊢
  refine fnHF 10 keep71 ib71 mk71 mix Tryz.func71 rfl (by kernel_rfl) (by simp) ?_
  simp (maxSteps := 1000000) -dsimp -implicitDefEqProofs only [go_sem, ↓reduceIte, keep71, ib71, mk71, Tryz.f71, OV.map_val, OV.map_val_nil, OV.val_v, o_0.flat, o_0.one]
  have hp0 : Chg h h L0 ((([] : List (Nat × HObj))) ++ ((y_0.rows) ++ (([] : List (Nat × HObj))))) := by simpa only [List.append_assoc, List.cons_append, List.nil_append, List.append_nil, OV.row_cons, OV.row_nil, OV.v_rows, rowsRows_cons, rowsRows_app, cells_append, cells_cons, cellv_cons, cellv_nil, OV.val_v] using hc0
  refine HFnF.mkH (mark_FuncS x.fFuncs y_0 (k) _ o_0 (by omega) (by omega) hp0.owns.right.left (nodup_mid (hp0.nodup nd))) ?_
  rintro r g0 ⟨rfl, hch0⟩
  have hr0 := hp0.trans (Chg.mid hp0.owns (hp0.nodup nd) (by simpa only [List.append_assoc, List.cons_append, List.nil_append, List.append_nil, OV.row_cons, OV.row_nil, OV.v_rows, rowsRows_cons, rowsRows_app, cells_append, cells_cons, cellv_cons, cellv_nil, OV.val_v] using hch0))
  simp (maxSteps := 1000000) -dsimp -implicitDefEqProofs only [go_sem, ↓reduceIte, keep71, ib71, mk71, Tryz.f71, OV.map_val, OV.map_val_nil, OV.val_v, o_0.flat, o_0.one]
  refine ⟨g0, Heap.le_refl _, ?_⟩
  first
    | exact ⟨by congr 1; omega, by simpa only [List.append_assoc, List.cons_append, List.nil_append, List.append_nil, OV.row_cons, OV.row_nil, OV.v_rows, rowsRows_cons, rowsRows_app, cells_append, cells_cons, cellv_cons, cellv_nil, OV.val_v, Int.natCast_add, ← Int.add_assoc] using hr0⟩
    | exact ⟨by omega, by simpa only [List.append_assoc, List.cons_append, List.nil_append, List.append_nil, OV.row_cons, OV.row_nil, OV.v_rows, rowsRows_cons, rowsRows_app, cells_append, cells_cons, cellv_cons, cellv_nil, OV.val_v, Int.natCast_add, ← Int.add_assoc] using hr0⟩
    | simpa only [List.append_assoc, List.cons_append, List.nil_append, List.append_nil, OV.row_cons, OV.row_nil, OV.v_rows, rowsRows_cons, rowsRows_app, cells_append, cells_cons, cellv_cons, cellv_nil, OV.val_v, Int.natCast_add, ← Int.add_assoc] using hr0

def keep16 : List Nat := [0, 1, 4, 5, 9]
def ib16 : List Nat := []
def mk16 : Marks := fun _ => ([], .nil, [])
set_option maxRecDepth 100000 in
theorem mark_Int64S (l : List Int) : MarkS Tryz.prog 16 (OS (oP I) 1 l) := by
  intro y k h hy h0 h1 ho nd
  rcases hy with ⟨rfl, hl⟩ | ⟨n, es, rfl, hor⟩
  · rw [OV.mk_nil, OV.nil_rows, OV.ct_nil, OV.val_nil]
    refine fnHF 19 keep16 ib16 mk16 mix Tryz.func16 rfl (by kernel_rfl) (by simp) ?_
    simp (maxSteps := 1000000) -dsimp -implicitDefEqProofs only [go_sem, ↓reduceIte, keep16, ib16, mk16, Tryz.f16]
    refine loopF (keep := keep16) (ib := ib16) (mk := mk16) mix (by kernel_rfl) (fun _ : Unit => [(0, .sl 1 [] true), (1, I k), (5, I 0)]) (fun _ => h) (fun _ => True) (fun _ => 0) () (by simp [SatL, tget, Heap.le_refl]) ?_
    intro _ _
    simp (maxSteps := 1000000) -dsimp -implicitDefEqProofs only [go_sem, ↓reduceIte, keep16, ib16, mk16, Tryz.f16, zero_cast, Int.lt_irrefl]
    try intro _
    refine ⟨h, Heap.le_refl _, ?_⟩
    first | exact Chg.refl (by simp [Owns]) | exact ⟨by simp, Chg.refl (by simp [Owns])⟩
  · rw [OV.mk_sl, OV.sl_rows, OV.sl_rows, OV.ct_sl, OV.val_sl]
    rw [OV.ct_sl] at h1
    rw [OV.sl_rows] at ho nd
    generalize hL0 : (n, HObj.row 1 (OV.cells es)) :: OV.rowsRows es = L0 at nd ⊢
    refine fnHF 19 keep16 ib16 mk16 mix Tryz.func16 rfl (by kernel_rfl) (by simp) ?_
    simp (maxSteps := 1000000) -dsimp -implicitDefEqProofs only [go_sem, ↓reduceIte, keep16, ib16, mk16, Tryz.f16]
    refine loopF (keep := keep16) (ib := ib16) (mk := mk16) mix (by kernel_rfl) (fun x : Nat × Heap => [(0, .os n 1 0 es.length), (1, I (k + OV.ctRows (es.take x.1))), (5, I x.1)]) (fun x => x.2) (fun x => x.1 ≤ es.length ∧ Chg h x.2 L0 ((n, .row 1 (OV.cells (OV.mkRows k (es.take x.1) ++ es.drop x.1))) :: OV.rowsRows (OV.mkRows k (es.take x.1) ++ es.drop x.1))) (fun x => es.length - x.1) (0, h) (by
      refine ⟨by simp [SatL, tget, OV.ctRows], Heap.le_refl _, Nat.zero_le _, ?_⟩
      rw [← hL0]
      simpa [OV.mkRows] using Chg.refl ho) ?_
    rintro ⟨i, g⟩ ⟨hi, hc⟩
    simp only at hi hc ⊢
    rcases Nat.lt_or_ge i es.length with hlt | hge
    · have hll : i < l.length := by rw [hor.length]; exact hlt
      obtain ⟨A, e, B, rfl, hA, he⟩ := hor.split i hll
      have t1 : (A ++ e :: B).take i = A := by rw [← hA]; simp
      have t2 : (A ++ e :: B).drop i = e :: B := by rw [← hA]; simp
      have t0 : A ++ e :: B = (A ++ [e]) ++ B := by simp
      have t3 : (A ++ e :: B).take (i + 1) = A ++ [e] := by rw [t0]; exact List.take_left' (by simp [hA])
      have t4 : (A ++ e :: B).drop (i + 1) = B := by rw [t0]; exact List.drop_left' (by simp [hA])
      clear t0
      have hct := OV.ctRows_append A (e :: B)
      rw [OV.ctRows] at hct
      rw [t1, t2] at hc
      rw [t1]
      have hA2 : (OV.cells (OV.mkRows k A)).length = i := by rw [OV.cells, List.length_map, OV.mkRows_len, hA]
      have hs2 := OV.mkRows_snoc k A e
      have hs3 := OV.ctRows_snoc A e
      obtain rfl : _ = _ := he
      simp only [OV.ctRow_cons, OV.ctRow_nil, OV.ct_v, Nat.add_zero, OV.mkRow_cons, OV.mkRow_nil, OV.mk_v, leaf_int, leaf_bool, leaf_str, one_cast] at hct hs2 hs3
      generalize hkk : k + (OV.ctRows A : Int) = kk at hs2 ⊢
      generalize OV.mkRows k A = A2 at hs2 hc hA2
      have gm : ∀ (c : List Cell) (Y : List (List Cell)), (OV.cells A2 ++ c :: Y)[i]? = some c := fun c Y => get_mid hA2
      have sm : ∀ (c c2 : List Cell) (Y : List (List Cell)), (OV.cells A2 ++ c :: Y).set i c2 = OV.cells A2 ++ c2 :: Y := fun c c2 Y => set_mid hA2
      have hc0 := hc
      simp only [List.append_assoc, List.cons_append, List.nil_append, List.append_nil, OV.row_cons, OV.row_nil, OV.v_rows, rowsRows_cons, rowsRows_app, cells_append, cells_cons, cellv_cons, cellv_nil, OV.val_v] at hc0
      have hgn := hc0.owns (n, _) List.mem_cons_self
      simp only at hgn
      have iw0_0 : IntKind.i64.wrap (kk + 1) = kk + 1 := IntWalk.i64_in _ (by omega)
      simp (maxSteps := 1000000) -dsimp -implicitDefEqProofs only [go_sem, ↓reduceIte, keep16, ib16, mk16, Tryz.f16, hgn, gm, sm, upd_upd, upd_same, iw0_0]
      repeat' (with_reducible first | intro _ | refine And.intro ?_ ?_)
      all_goals try omega
      have hq0 := hc0.trans (Chg.set (o' := .row 1 (OV.cells A2 ++ [.v (.int .i64 (kk))] :: OV.cells B)) hc0.owns (hc0.nodup nd))
      have hg0 : upd g n (.row 1 (OV.cells A2 ++ [.v (.int .i64 (kk))] :: OV.cells B)) n = some (.row 1 (OV.cells A2 ++ [.v (.int .i64 (kk))] :: OV.cells B)) := upd_same _ _ _
      refine ⟨(i + 1, (upd g n (.row 1 (OV.cells A2 ++ [.v (.int .i64 (kk))] :: OV.cells B)))), ?_⟩
      simp only [t3, t4, hs2, hs3]
      refine ⟨?_, Heap.le_refl _, ⟨by omega, ?_⟩, by omega⟩
      · repeat' (with_reducible refine And.intro ?_ ?_)
        all_goals first | rfl | trivial | omega | (rw [IntWalk.i64_in _ (by omega)]; omega)
      · simpa only [List.append_assoc, List.cons_append, List.nil_append, List.append_nil, OV.row_cons, OV.row_nil, OV.v_rows, rowsRows_cons, rowsRows_app, cells_append, cells_cons, cellv_cons, cellv_nil, OV.val_v] using hq0
    · have hi2 : i = es.length := by omega
      subst hi2
      rw [List.take_length, List.drop_length, List.append_nil] at hc
      rw [List.take_length]
      simp (maxSteps := 1000000) -dsimp -implicitDefEqProofs only [go_sem, ↓reduceIte, keep16, ib16, mk16, Tryz.f16, Int.lt_irrefl, Nat.lt_irrefl]
      try intro _
      refine ⟨g, Heap.le_refl _, ?_⟩
      first | exact hc | exact ⟨rfl, hc⟩

def keep72 : List Nat := [0, 1, 4, 5, 9]
def ib72 : List Nat := []
def mk72 : Marks := fun _ => ([], .nil, [])
set_option maxRecDepth 100000 in
theorem mark_Int64SS (l : List (List Int)) : MarkS Tryz.prog 72 (OS (oS (oP I) 1) 1 l) := by
  intro y k h hy h0 h1 ho nd
  rcases hy with ⟨rfl, hl⟩ | ⟨n, es, rfl, hor⟩
  · rw [OV.mk_nil, OV.nil_rows, OV.ct_nil, OV.val_nil]
    refine fnHF 19 keep72 ib72 mk72 mix Tryz.func72 rfl (by kernel_rfl) (by simp) ?_
    simp (maxSteps := 1000000) -dsimp -implicitDefEqProofs only [go_sem, ↓reduceIte, keep72, ib72, mk72, Tryz.f72]
    refine loopF (keep := keep72) (ib := ib72) (mk := mk72) mix (by kernel_rfl) (fun _ : Unit => [(0, .sl 1 [] true), (1, I k), (5, I 0)]) (fun _ => h) (fun _ => True) (fun _ => 0) () (by simp [SatL, tget, Heap.le_refl]) ?_
    intro _ _
    simp (maxSteps := 1000000) -dsimp -implicitDefEqProofs only [go_sem, ↓reduceIte, keep72, ib72, mk72, Tryz.f72, zero_cast, Int.lt_irrefl]
    try intro _
    refine ⟨h, Heap.le_refl _, ?_⟩
    first | exact Chg.refl (by simp [Owns]) | exact ⟨by simp, Chg.refl (by simp [Owns])⟩
  · rw [OV.mk_sl, OV.sl_rows, OV.sl_rows, OV.ct_sl, OV.val_sl]
    rw [OV.ct_sl] at h1
    rw [OV.sl_rows] at ho nd
    generalize hL0 : (n, HObj.row 1 (OV.cells es)) :: OV.rowsRows es = L0 at nd ⊢
    refine fnHF 19 keep72 ib72 mk72 mix Tryz.func72 rfl (by kernel_rfl) (by simp) ?_
    simp (maxSteps := 1000000) -dsimp -implicitDefEqProofs only [go_sem, ↓reduceIte, keep72, ib72, mk72, Tryz.f72]
    refine loopF (keep := keep72) (ib := ib72) (mk := mk72) mix (by kernel_rfl) (fun x : Nat × Heap => [(0, .os n 1 0 es.length), (1, I (k + OV.ctRows (es.take x.1))), (5, I x.1)]) (fun x => x.2) (fun x => x.1 ≤ es.length ∧ Chg h x.2 L0 ((n, .row 1 (OV.cells (OV.mkRows k (es.take x.1) ++ es.drop x.1))) :: OV.rowsRows (OV.mkRows k (es.take x.1) ++ es.drop x.1))) (fun x => es.length - x.1) (0, h) (by
      refine ⟨by simp [SatL, tget, OV.ctRows], Heap.le_refl _, Nat.zero_le _, ?_⟩
      rw [← hL0]
      simpa [OV.mkRows] using Chg.refl ho) ?_
    rintro ⟨i, g⟩ ⟨hi, hc⟩
    simp only at hi hc ⊢
    rcases Nat.lt_or_ge i es.length with hlt | hge
    · have hll : i < l.length := by rw [hor.length]; exact hlt
      obtain ⟨A, e, B, rfl, hA, he⟩ := hor.split i hll
      have t1 : (A ++ e :: B).take i = A := by rw [← hA]; simp
      have t2 : (A ++ e :: B).drop i = e :: B := by rw [← hA]; simp
      have t0 : A ++ e :: B = (A ++ [e]) ++ B := by simp
      have t3 : (A ++ e :: B).take (i + 1) = A ++ [e] := by rw [t0]; exact List.take_left' (by simp [hA])
      have t4 : (A ++ e :: B).drop (i + 1) = B := by rw [t0]; exact List.drop_left' (by simp [hA])
      clear t0
      have hct := OV.ctRows_append A (e :: B)
      rw [OV.ctRows] at hct
      rw [t1, t2] at hc
      rw [t1]
      have hA2 : (OV.cells (OV.mkRows k A)).length = i := by rw [OV.cells, List.length_map, OV.mkRows_len, hA]
      have hs2 := OV.mkRows_snoc k A e
      have hs3 := OV.ctRows_snoc A e
      obtain ⟨y_0, rfl, o_0⟩ := he
      simp only [OV.ctRow_cons, OV.ctRow_nil, OV.ct_v, Nat.add_zero, OV.mkRow_cons, OV.mkRow_nil, OV.mk_v, leaf_int, leaf_bool, leaf_str, one_cast] at hct hs2 hs3
      generalize hkk : k + (OV.ctRows A : Int) = kk at hs2 ⊢
      generalize OV.mkRows k A = A2 at hs2 hc hA2
      have gm : ∀ (c : List Cell) (Y : List (List Cell)), (OV.cells A2 ++ c :: Y)[i]? = some c := fun c Y => get_mid hA2
      have sm : ∀ (c c2 : List Cell) (Y : List (List Cell)), (OV.cells A2 ++ c :: Y).set i c2 = OV.cells A2 ++ c2 :: Y := fun c c2 Y => set_mid hA2
      have hc0 := hc
      simp only [List.append_assoc, List.cons_append, List.nil_append, List.append_nil, OV.row_cons, OV.row_nil, OV.v_rows, rowsRows_cons, rowsRows_app, cells_append, cells_cons, cellv_cons, cellv_nil, OV.val_v] at hc0
      have hgn := hc0.owns (n, _) List.mem_cons_self
      simp only at hgn
      simp (maxSteps := 1000000) -dsimp -implicitDefEqProofs only [go_sem, ↓reduceIte, keep72, ib72, mk72, Tryz.f72, hgn, gm, sm, upd_upd, upd_same, o_0.flat, o_0.one]
      repeat' (with_reducible first | intro _ | refine And.intro ?_ ?_)
      all_goals try omega
      have hp0 : Chg h g L0 (((n, .row 1 (OV.cells A2 ++ [.v y_0.val] :: OV.cells B)) :: (OV.rowsRows A2)) ++ (y_0.rows ++ (OV.rowsRows B))) := by simpa only [List.append_assoc, List.cons_append, List.nil_append, List.append_nil, OV.row_cons, OV.row_nil, OV.v_rows, rowsRows_cons, rowsRows_app, cells_append, cells_cons, cellv_cons, cellv_nil, OV.val_v] using hc0
      refine HFnF.mkH ((mark_Int64S l[i]) y_0 (kk) _ o_0 (by omega) (by omega) hp0.owns.right.left (nodup_mid (hp0.nodup nd))) ?_
      rintro r g0 ⟨rfl, hch0⟩
      have hr0 := hp0.trans (Chg.mid hp0.owns (hp0.nodup nd) hch0)
      have hg0r := hr0.owns (n, _) List.mem_cons_self
      simp only at hg0r
      have hkb0 : ∃ z : Int, z = kk + (y_0.ct : Int) := ⟨_, rfl⟩
      obtain ⟨kk0, hkb0⟩ := hkb0
      rw [← hkb0]
      simp (maxSteps := 1000000) -dsimp -implicitDefEqProofs only [go_sem, ↓reduceIte, keep72, ib72, mk72, Tryz.f72, hg0r, gm, sm, upd_upd, upd_same, o_0.flat, o_0.one]
      refine ⟨(i + 1, g0), ?_⟩
      simp only [t3, t4, hs2, hs3]
      refine ⟨?_, Heap.le_refl _, ⟨by omega, ?_⟩, by omega⟩
      · repeat' (with_reducible refine And.intro ?_ ?_)
        all_goals first | rfl | trivial | omega | (rw [IntWalk.i64_in _ (by omega)]; omega)
      · simpa only [List.append_assoc, List.cons_append, List.nil_append, List.append_nil, OV.row_cons, OV.row_nil, OV.v_rows, rowsRows_cons, rowsRows_app, cells_append, cells_cons, cellv_cons, cellv_nil, OV.val_v, o_0.mk_val, hkb0] using hr0
    · have hi2 : i = es.length := by omega
      subst hi2
      rw [List.take_length, List.drop_length, List.append_nil] at hc
      rw [List.take_length]
      simp (maxSteps := 1000000) -dsimp -implicitDefEqProofs only [go_sem, ↓reduceIte, keep72, ib72, mk72, Tryz.f72, Int.lt_irrefl, Nat.lt_irrefl]
      try intro _
      refine ⟨g, Heap.le_refl _, ?_⟩
      first | exact hc | exact ⟨rfl, hc⟩

def keep24 : List Nat := [0, 1, 2, 4]
def ib24 : List Nat := [2]
def mk24 : Marks := fun _ => ([], .nil, [])
set_option maxRecDepth 100000 in
theorem mark_Job (x : DJob) : MarkA Tryz.prog 24 x.o := by
  intro e k h he h0 h1 ho nd
  obtain ⟨y_0, y_3, y_4, rfl, o_0, o_3, o_4⟩ := he
  simp only [OV.ctTop_cons, OV.ctTop_nil, OV.ctT_v, OV.mkTop_cons, OV.mkTop_nil, OV.mkT_v, Nat.add_zero, Nat.zero_add, zero_cast, Int.add_zero, Int.zero_add, o_0.ctT, o_0.mkT, o_3.ctT, o_3.mkT, o_4.ctT, o_4.mkT] at h1 ⊢
  have hc0 := Chg.refl ho
  simp only [List.append_assoc, List.cons_append, List.nil_append, List.append_nil, OV.row_cons, OV.row_nil, OV.v_rows, rowsRows_cons, rowsRows_app, cells_append, cells_cons, cellv_cons, cellv_nil, OV.val_v] at hc0 nd ⊢
  obtain ⟨L0, hL0⟩ : ∃ L : List (Nat × HObj), L = (y_0.rows ++ (y_3.rows ++ (y_4.rows))) := ⟨_, rfl⟩
  replace hc0 : Chg h h L0 (y_0.rows ++ (y_3.rows ++ (y_4.rows))) := by rw [hL0]; exact hc0
  rw [← hL0] at nd ⊢
  refine fnHF 18 keep24 ib24 mk24 mix Tryz.func24 rfl (by kernel_rfl) (by simp) ?_
  simp (maxSteps := 1000000) -dsimp -implicitDefEqProofs only [go_sem, ↓reduceIte, keep24, ib24, mk24, Tryz.f24, OV.map_val, OV.map_val_nil, OV.val_v, o_0.flat, o_0.one, o_3.flat, o_3.one, o_4.flat, o_4.one]
  have hp0 : Chg h h L0 ((([] : List (Nat × HObj))) ++ ((y_0.rows) ++ (y_3.rows ++ y_4.rows))) := by simpa only [List.append_assoc, List.cons_append, List.nil_append, List.append_nil, OV.row_cons, OV.row_nil, OV.v_rows, rowsRows_cons, rowsRows_app, cells_append, cells_cons, cellv_cons, cellv_nil, OV.val_v] using hc0
  have hs0 := mark_Program x.fProgram [y_0] (k) h ⟨y_0, rfl, o_0⟩ (by omega) (by simp only [OV.ctTop_cons, OV.ctTop_nil, OV.ctT_v, OV.mkTop_cons, OV.mkTop_nil, OV.mkT_v, Nat.add_zero, Nat.zero_add, zero_cast, Int.add_zero, Int.zero_add, o_0.ctT, o_0.mkT, o_3.ctT, o_3.mkT, o_4.ctT, o_4.mkT]; omega) (by simpa only [List.append_assoc, List.cons_append, List.nil_append, List.append_nil, OV.row_cons, OV.row_nil, OV.v_rows, rowsRows_cons, rowsRows_app, cells_append, cells_cons, cellv_cons, cellv_nil, OV.val_v] using hp0.owns.right.left) (by simpa only [List.append_assoc, List.cons_append, List.nil_append, List.append_nil, OV.row_cons, OV.row_nil, OV.v_rows, rowsRows_cons, rowsRows_app, cells_append, cells_cons, cellv_cons, cellv_nil, OV.val_v] using nodup_mid (hp0.nodup nd))
  simp only [OV.ctTop_cons, OV.ctTop_nil, OV.ctT_v, OV.mkTop_cons, OV.mkTop_nil, OV.mkT_v, Nat.add_zero, Nat.zero_add, zero_cast, Int.add_zero, Int.zero_add, o_0.ctT, o_0.mkT, o_3.ctT, o_3.mkT, o_4.ctT, o_4.mkT, List.append_assoc, List.cons_append, List.nil_append, List.append_nil, OV.row_cons, OV.row_nil, OV.v_rows, rowsRows_cons, rowsRows_app, cells_append, cells_cons, cellv_cons, cellv_nil, OV.val_v, OV.map_val, OV.map_val_nil, Int.natCast_add, ← Int.add_assoc] at hs0
  refine HFnF.mkH hs0 ?_
  rintro r g0 ⟨rfl, hch0⟩
  have hr0 := hp0.trans (Chg.mid hp0.owns (hp0.nodup nd) (by simpa only [List.append_assoc, List.cons_append, List.nil_append, List.append_nil, OV.row_cons, OV.row_nil, OV.v_rows, rowsRows_cons, rowsRows_app, cells_append, cells_cons, cellv_cons, cellv_nil, OV.val_v] using hch0))
  simp (maxSteps := 1000000) -dsimp -implicitDefEqProofs only [go_sem, ↓reduceIte, keep24, ib24, mk24, Tryz.f24, OV.map_val, OV.map_val_nil, OV.val_v, o_0.flat, o_0.one, o_3.flat, o_3.one, o_4.flat, o_4.one]
  have hp1 : Chg h g0 L0 (((y_0.mk (k)).rows) ++ ((y_3.rows) ++ (y_4.rows))) := by simpa only [List.append_assoc, List.cons_append, List.nil_append, List.append_nil, OV.row_cons, OV.row_nil, OV.v_rows, rowsRows_cons, rowsRows_app, cells_append, cells_cons, cellv_cons, cellv_nil, OV.val_v] using hr0
  refine HFnF.mkH (mark_Int64S x.fPoint y_3 (k + (y_0.ct : Int)) _ o_3 (by omega) (by omega) hp1.owns.right.left (nodup_mid (hp1.nodup nd))) ?_
  rintro r g1 ⟨rfl, hch1⟩
  have hr1 := hp1.trans (Chg.mid hp1.owns (hp1.nodup nd) (by simpa only [List.append_assoc, List.cons_append, List.nil_append, List.append_nil, OV.row_cons, OV.row_nil, OV.v_rows, rowsRows_cons, rowsRows_app, cells_append, cells_cons, cellv_cons, cellv_nil, OV.val_v] using hch1))
  simp (maxSteps := 1000000) -dsimp -implicitDefEqProofs only [go_sem, ↓reduceIte, keep24, ib24, mk24, Tryz.f24, OV.map_val, OV.map_val_nil, OV.val_v, o_0.flat, o_0.one, o_3.flat, o_3.one, o_4.flat, o_4.one]
  have hp2 : Chg h g1 L0 (((y_0.mk (k)).rows ++ (y_3.mk (k + (y_0.ct : Int))).rows) ++ ((y_4.rows) ++ (([] : List (Nat × HObj))))) := by simpa only [List.append_assoc, List.cons_append, List.nil_append, List.append_nil, OV.row_cons, OV.row_nil, OV.v_rows, rowsRows_cons, rowsRows_app, cells_append, cells_cons, cellv_cons, cellv_nil, OV.val_v] using hr1
  refine HFnF.mkH (mark_Int64SS x.fTerms y_4 (k + (y_0.ct : Int) + (y_3.ct : Int)) _ o_4 (by omega) (by omega) hp2.owns.right.left (nodup_mid (hp2.nodup nd))) ?_
  rintro r g2 ⟨rfl, hch2⟩
  have hr2 := hp2.trans (Chg.mid hp2.owns (hp2.nodup nd) (by simpa only [List.append_assoc, List.cons_append, List.nil_append, List.append_nil, OV.row_cons, OV.row_nil, OV.v_rows, rowsRows_cons, rowsRows_app, cells_append, cells_cons, cellv_cons, cellv_nil, OV.val_v] using hch2))
  simp (maxSteps := 1000000) -dsimp -implicitDefEqProofs only [go_sem, ↓reduceIte, keep24, ib24, mk24, Tryz.f24, OV.map_val, OV.map_val_nil, OV.val_v, o_0.flat, o_0.one, o_3.flat, o_3.one, o_4.flat, o_4.one]
  refine ⟨g2, Heap.le_refl _, ?_⟩
  first
    | exact ⟨by congr 1; omega, by simpa only [List.append_assoc, List.cons_append, List.nil_append, List.append_nil, OV.row_cons, OV.row_nil, OV.v_rows, rowsRows_cons, rowsRows_app, cells_append, cells_cons, cellv_cons, cellv_nil, OV.val_v, Int.natCast_add, ← Int.add_assoc] using hr2⟩
    | exact ⟨by omega, by simpa only [List.append_assoc, List.cons_append, List.nil_append, List.append_nil, OV.row_cons, OV.row_nil, OV.v_rows, rowsRows_cons, rowsRows_app, cells_append, cells_cons, cellv_cons, cellv_nil, OV.val_v, Int.natCast_add, ← Int.add_assoc] using hr2⟩
    | simpa only [List.append_assoc, List.cons_append, List.nil_append, List.append_nil, OV.row_cons, OV.row_nil, OV.v_rows, rowsRows_cons, rowsRows_app, cells_append, cells_cons, cellv_cons, cellv_nil, OV.val_v, Int.natCast_add, ← Int.add_assoc] using hr2


def keep53 : List Nat := [0, 1, 4, 5, 9]
def ib53 : List Nat := []
def mk53 : Marks := fun _ => ([], .nil, [])
set_option maxRecDepth 100000 in
theorem mark_BoolS (l : List Bool) : MarkS Tryz.prog 53 (OS (oP HVal.bool) 1 l) := by
  intro y k h hy h0 h1 ho nd
  rcases hy with ⟨rfl, hl⟩ | ⟨n, es, rfl, hor⟩
  · rw [OV.mk_nil, OV.nil_rows, OV.ct_nil, OV.val_nil]
    refine fnHF 21 keep53 ib53 mk53 mix Tryz.func53 rfl (by kernel_rfl) (by simp) ?_
    simp (maxSteps := 1000000) -dsimp -implicitDefEqProofs only [go_sem, ↓reduceIte, keep53, ib53, mk53, Tryz.f53]
    refine loopF (keep := keep53) (ib := ib53) (mk := mk53) mix (by kernel_rfl) (fun _ : Unit => [(0, .sl 1 [] true), (1, I k), (5, I 0)]) (fun _ => h) (fun _ => True) (fun _ => 0) () (by simp [SatL, tget, Heap.le_refl]) ?_
    intro _ _
    simp (maxSteps := 1000000) -dsimp -implicitDefEqProofs only [go_sem, ↓reduceIte, keep53, ib53, mk53, Tryz.f53, zero_cast, Int.lt_irrefl]
    try intro _
    refine ⟨h, Heap.le_refl _, ?_⟩
    first | exact Chg.refl (by simp [Owns]) | exact ⟨by simp, Chg.refl (by simp [Owns])⟩
  · rw [OV.mk_sl, OV.sl_rows, OV.sl_rows, OV.ct_sl, OV.val_sl]
    rw [OV.ct_sl] at h1
    rw [OV.sl_rows] at ho nd
    generalize hL0 : (n, HObj.row 1 (OV.cells es)) :: OV.rowsRows es = L0 at nd ⊢
    refine fnHF 21 keep53 ib53 mk53 mix Tryz.func53 rfl (by kernel_rfl) (by simp) ?_
    simp (maxSteps := 1000000) -dsimp -implicitDefEqProofs only [go_sem, ↓reduceIte, keep53, ib53, mk53, Tryz.f53]
    refine loopF (keep := keep53) (ib := ib53) (mk := mk53) mix (by kernel_rfl) (fun x : Nat × Heap => [(0, .os n 1 0 es.length), (1, I (k + OV.ctRows (es.take x.1))), (5, I x.1)]) (fun x => x.2) (fun x => x.1 ≤ es.length ∧ Chg h x.2 L0 ((n, .row 1 (OV.cells (OV.mkRows k (es.take x.1) ++ es.drop x.1))) :: OV.rowsRows (OV.mkRows k (es.take x.1) ++ es.drop x.1))) (fun x => es.length - x.1) (0, h) (by
      refine ⟨by simp [SatL, tget, OV.ctRows], Heap.le_refl _, Nat.zero_le _, ?_⟩
      rw [← hL0]
      simpa [OV.mkRows] using Chg.refl ho) ?_
    rintro ⟨i, g⟩ ⟨hi, hc⟩
    simp only at hi hc ⊢
    rcases Nat.lt_or_ge i es.length with hlt | hge
    · have hll : i < l.length := by rw [hor.length]; exact hlt
      obtain ⟨A, e, B, rfl, hA, he⟩ := hor.split i hll
      have t1 : (A ++ e :: B).take i = A := by rw [← hA]; simp
      have t2 : (A ++ e :: B).drop i = e :: B := by rw [← hA]; simp
      have t0 : A ++ e :: B = (A ++ [e]) ++ B := by simp
      have t3 : (A ++ e :: B).take (i + 1) = A ++ [e] := by rw [t0]; exact List.take_left' (by simp [hA])
      have t4 : (A ++ e :: B).drop (i + 1) = B := by rw [t0]; exact List.drop_left' (by simp [hA])
      clear t0
      have hct := OV.ctRows_append A (e :: B)
      rw [OV.ctRows] at hct
      rw [t1, t2] at hc
      rw [t1]
      have hA2 : (OV.cells (OV.mkRows k A)).length = i := by rw [OV.cells, List.length_map, OV.mkRows_len, hA]
      have hs2 := OV.mkRows_snoc k A e
      have hs3 := OV.ctRows_snoc A e
      obtain rfl : _ = _ := he
      simp only [OV.ctRow_cons, OV.ctRow_nil, OV.ct_v, Nat.add_zero, OV.mkRow_cons, OV.mkRow_nil, OV.mk_v, leaf_int, leaf_bool, leaf_str, one_cast] at hct hs2 hs3
      generalize hkk : k + (OV.ctRows A : Int) = kk at hs2 ⊢
      generalize OV.mkRows k A = A2 at hs2 hc hA2
      have gm : ∀ (c : List Cell) (Y : List (List Cell)), (OV.cells A2 ++ c :: Y)[i]? = some c := fun c Y => get_mid hA2
      have sm : ∀ (c c2 : List Cell) (Y : List (List Cell)), (OV.cells A2 ++ c :: Y).set i c2 = OV.cells A2 ++ c2 :: Y := fun c c2 Y => set_mid hA2
      have hc0 := hc
      simp only [List.append_assoc, List.cons_append, List.nil_append, List.append_nil, OV.row_cons, OV.row_nil, OV.v_rows, rowsRows_cons, rowsRows_app, cells_append, cells_cons, cellv_cons, cellv_nil, OV.val_v] at hc0
      have hgn := hc0.owns (n, _) List.mem_cons_self
      simp only at hgn
      have iw0_0 : IntKind.i64.wrap (kk + 1) = kk + 1 := IntWalk.i64_in _ (by omega)
      simp (maxSteps := 1000000) -dsimp -implicitDefEqProofs only [go_sem, ↓reduceIte, keep53, ib53, mk53, Tryz.f53, hgn, gm, sm, upd_upd, upd_same, iw0_0]
      repeat' (with_reducible first | intro _ | refine And.intro ?_ ?_)
      all_goals try omega
      have hq0 := hc0.trans (Chg.set (o' := .row 1 (OV.cells A2 ++ [.v (.bool (decide ((kk).tmod 3 = 0)))] :: OV.cells B)) hc0.owns (hc0.nodup nd))
      have hg0 : upd g n (.row 1 (OV.cells A2 ++ [.v (.bool (decide ((kk).tmod 3 = 0)))] :: OV.cells B)) n = some (.row 1 (OV.cells A2 ++ [.v (.bool (decide ((kk).tmod 3 = 0)))] :: OV.cells B)) := upd_same _ _ _
      refine ⟨(i + 1, (upd g n (.row 1 (OV.cells A2 ++ [.v (.bool (decide ((kk).tmod 3 = 0)))] :: OV.cells B)))), ?_⟩
      simp only [t3, t4, hs2, hs3]
      refine ⟨?_, Heap.le_refl _, ⟨by omega, ?_⟩, by omega⟩
      · repeat' (with_reducible refine And.intro ?_ ?_)
        all_goals first | rfl | trivial | omega | (rw [IntWalk.i64_in _ (by omega)]; omega)
      · simpa only [List.append_assoc, List.cons_append, List.nil_append, List.append_nil, OV.row_cons, OV.row_nil, OV.v_rows, rowsRows_cons, rowsRows_app, cells_append, cells_cons, cellv_cons, cellv_nil, OV.val_v] using hq0
    · have hi2 : i = es.length := by omega
      subst hi2
      rw [List.take_length, List.drop_length, List.append_nil] at hc
      rw [List.take_length]
      simp (maxSteps := 1000000) -dsimp -implicitDefEqProofs only [go_sem, ↓reduceIte, keep53, ib53, mk53, Tryz.f53, Int.lt_irrefl, Nat.lt_irrefl]
      try intro _
      refine ⟨g, Heap.le_refl _, ?_⟩
      first | exact hc | exact ⟨rfl, hc⟩

def keep54 : List Nat := [0, 1, 4, 5, 9]
def ib54 : List Nat := []
def mk54 : Marks := fun _ => ([], .nil, [])
set_option maxRecDepth 100000 in
theorem mark_PartS (l : List DPart) : MarkS Tryz.prog 54 (OS DPart.o 3 l) := by
  intro y k h hy h0 h1 ho nd
  rcases hy with ⟨rfl, hl⟩ | ⟨n, es, rfl, hor⟩
  · rw [OV.mk_nil, OV.nil_rows, OV.ct_nil, OV.val_nil]
    refine fnHF 34 keep54 ib54 mk54 mix Tryz.func54 rfl (by kernel_rfl) (by simp) ?_
    simp (maxSteps := 1000000) -dsimp -implicitDefEqProofs only [go_sem, ↓reduceIte, keep54, ib54, mk54, Tryz.f54]
    refine loopF (keep := keep54) (ib := ib54) (mk := mk54) mix (by kernel_rfl) (fun _ : Unit => [(0, .sl 3 [] true), (1, I k), (5, I 0)]) (fun _ => h) (fun _ => True) (fun _ => 0) () (by simp [SatL, tget, Heap.le_refl]) ?_
    intro _ _
    simp (maxSteps := 1000000) -dsimp -implicitDefEqProofs only [go_sem, ↓reduceIte, keep54, ib54, mk54, Tryz.f54, zero_cast, Int.lt_irrefl]
    try intro _
    refine ⟨h, Heap.le_refl _, ?_⟩
    first | exact Chg.refl (by simp [Owns]) | exact ⟨by simp, Chg.refl (by simp [Owns])⟩
  · rw [OV.mk_sl, OV.sl_rows, OV.sl_rows, OV.ct_sl, OV.val_sl]
    rw [OV.ct_sl] at h1
    rw [OV.sl_rows] at ho nd
    generalize hL0 : (n, HObj.row 3 (OV.cells es)) :: OV.rowsRows es = L0 at nd ⊢
    refine fnHF 34 keep54 ib54 mk54 mix Tryz.func54 rfl (by kernel_rfl) (by simp) ?_
    simp (maxSteps := 1000000) -dsimp -implicitDefEqProofs only [go_sem, ↓reduceIte, keep54, ib54, mk54, Tryz.f54]
    refine loopF (keep := keep54) (ib := ib54) (mk := mk54) mix (by kernel_rfl) (fun x : Nat × Heap => [(0, .os n 3 0 es.length), (1, I (k + OV.ctRows (es.take x.1))), (5, I x.1)]) (fun x => x.2) (fun x => x.1 ≤ es.length ∧ Chg h x.2 L0 ((n, .row 3 (OV.cells (OV.mkRows k (es.take x.1) ++ es.drop x.1))) :: OV.rowsRows (OV.mkRows k (es.take x.1) ++ es.drop x.1))) (fun x => es.length - x.1) (0, h) (by
      refine ⟨by simp [SatL, tget, OV.ctRows], Heap.le_refl _, Nat.zero_le _, ?_⟩
      rw [← hL0]
      simpa [OV.mkRows] using Chg.refl ho) ?_
    rintro ⟨i, g⟩ ⟨hi, hc⟩
    simp only at hi hc ⊢
    rcases Nat.lt_or_ge i es.length with hlt | hge
    · have hll : i < l.length := by rw [hor.length]; exact hlt
      obtain ⟨A, e, B, rfl, hA, he⟩ := hor.split i hll
      have t1 : (A ++ e :: B).take i = A := by rw [← hA]; simp
      have t2 : (A ++ e :: B).drop i = e :: B := by rw [← hA]; simp
      have t0 : A ++ e :: B = (A ++ [e]) ++ B := by simp
      have t3 : (A ++ e :: B).take (i + 1) = A ++ [e] := by rw [t0]; exact List.take_left' (by simp [hA])
      have t4 : (A ++ e :: B).drop (i + 1) = B := by rw [t0]; exact List.drop_left' (by simp [hA])
      clear t0
      have hct := OV.ctRows_append A (e :: B)
      rw [OV.ctRows] at hct
      rw [t1, t2] at hc
      rw [t1]
      have hA2 : (OV.cells (OV.mkRows k A)).length = i := by rw [OV.cells, List.length_map, OV.mkRows_len, hA]
      have hs2 := OV.mkRows_snoc k A e
      have hs3 := OV.ctRows_snoc A e
      obtain ⟨y_2, rfl, o_2⟩ := he
      simp only [OV.ctRow_cons, OV.ctRow_nil, OV.ct_v, Nat.add_zero, OV.mkRow_cons, OV.mkRow_nil, OV.mk_v, leaf_int, leaf_bool, leaf_str, one_cast] at hct hs2 hs3
      generalize hkk : k + (OV.ctRows A : Int) = kk at hs2 ⊢
      generalize OV.mkRows k A = A2 at hs2 hc hA2
      have gm : ∀ (c : List Cell) (Y : List (List Cell)), (OV.cells A2 ++ c :: Y)[i]? = some c := fun c Y => get_mid hA2
      have sm : ∀ (c c2 : List Cell) (Y : List (List Cell)), (OV.cells A2 ++ c :: Y).set i c2 = OV.cells A2 ++ c2 :: Y := fun c c2 Y => set_mid hA2
      have hc0 := hc
      simp only [List.append_assoc, List.cons_append, List.nil_append, List.append_nil, OV.row_cons, OV.row_nil, OV.v_rows, rowsRows_cons, rowsRows_app, cells_append, cells_cons, cellv_cons, cellv_nil, OV.val_v] at hc0
      have hgn := hc0.owns (n, _) List.mem_cons_self
      simp only at hgn
      have iw0_0 : IntKind.i64.wrap (kk + 1) = kk + 1 := IntWalk.i64_in _ (by omega)
      have iw0_1 : IntKind.i64.wrap (kk + 1 + 1) = kk + 1 + 1 := IntWalk.i64_in _ (by omega)
      simp (maxSteps := 1000000) -dsimp -implicitDefEqProofs only [go_sem, ↓reduceIte, keep54, ib54, mk54, Tryz.f54, hgn, gm, sm, upd_upd, upd_same, o_2.flat, o_2.one, iw0_0, iw0_1]
      repeat' (with_reducible first | intro _ | refine And.intro ?_ ?_)
      all_goals try omega
      have hq0 := hc0.trans (Chg.set (o' := .row 3 (OV.cells A2 ++ [.v (.int .i64 (kk)), .v (.int .i64 (kk + 1)), .v y_2.val] :: OV.cells B)) hc0.owns (hc0.nodup nd))
      have hg0 : upd g n (.row 3 (OV.cells A2 ++ [.v (.int .i64 (kk)), .v (.int .i64 (kk + 1)), .v y_2.val] :: OV.cells B)) n = some (.row 3 (OV.cells A2 ++ [.v (.int .i64 (kk)), .v (.int .i64 (kk + 1)), .v y_2.val] :: OV.cells B)) := upd_same _ _ _
      have hp0 : Chg h (upd g n (.row 3 (OV.cells A2 ++ [.v (.int .i64 (kk)), .v (.int .i64 (kk + 1)), .v y_2.val] :: OV.cells B))) L0 (((n, .row 3 (OV.cells A2 ++ [.v (.int .i64 (kk)), .v (.int .i64 (kk + 1)), .v y_2.val] :: OV.cells B)) :: (OV.rowsRows A2)) ++ (y_2.rows ++ (OV.rowsRows B))) := by simpa only [List.append_assoc, List.cons_append, List.nil_append, List.append_nil, OV.row_cons, OV.row_nil, OV.v_rows, rowsRows_cons, rowsRows_app, cells_append, cells_cons, cellv_cons, cellv_nil, OV.val_v] using hq0
      refine HFnF.mkH ((mark_Int64S l[i].fGrad) y_2 (kk + 1 + 1) _ o_2 (by omega) (by omega) hp0.owns.right.left (nodup_mid (hp0.nodup nd))) ?_
      rintro r g0 ⟨rfl, hch0⟩
      have hr0 := hp0.trans (Chg.mid hp0.owns (hp0.nodup nd) hch0)
      have hg0r := hr0.owns (n, _) List.mem_cons_self
      simp only at hg0r
      have hkb0 : ∃ z : Int, z = kk + 1 + 1 + (y_2.ct : Int) := ⟨_, rfl⟩
      obtain ⟨kk0, hkb0⟩ := hkb0
      rw [← hkb0]
      simp (maxSteps := 1000000) -dsimp -implicitDefEqProofs only [go_sem, ↓reduceIte, keep54, ib54, mk54, Tryz.f54, hg0r, gm, sm, upd_upd, upd_same, o_2.flat, o_2.one, iw0_0, iw0_1]
      refine ⟨(i + 1, g0), ?_⟩
      simp only [t3, t4, hs2, hs3]
      refine ⟨?_, Heap.le_refl _, ⟨by omega, ?_⟩, by omega⟩
      · repeat' (with_reducible refine And.intro ?_ ?_)
        all_goals first | rfl | trivial | omega | (rw [IntWalk.i64_in _ (by omega)]; omega)
      · simpa only [List.append_assoc, List.cons_append, List.nil_append, List.append_nil, OV.row_cons, OV.row_nil, OV.v_rows, rowsRows_cons, rowsRows_app, cells_append, cells_cons, cellv_cons, cellv_nil, OV.val_v, o_2.mk_val, hkb0] using hr0
    · have hi2 : i = es.length := by omega
      subst hi2
      rw [List.take_length, List.drop_length, List.append_nil] at hc
      rw [List.take_length]
      simp (maxSteps := 1000000) -dsimp -implicitDefEqProofs only [go_sem, ↓reduceIte, keep54, ib54, mk54, Tryz.f54, Int.lt_irrefl, Nat.lt_irrefl]
      try intro _
      refine ⟨g, Heap.le_refl _, ?_⟩
      first | exact hc | exact ⟨rfl, hc⟩

def keep15 : List Nat := [0, 1, 2, 4]
def ib15 : List Nat := [2]
def mk15 : Marks := fun _ => ([], .nil, [])
set_option maxRecDepth 100000 in
theorem mark_Service (x : DService) : MarkA Tryz.prog 15 x.o := by
  intro e k h he h0 h1 ho nd
  obtain ⟨y_0, y_3, y_4, y_5, y_6, y_7, y_8, rfl, o_0, o_3, o_4, o_5, o_6, o_7, o_8⟩ := he
  simp only [OV.ctTop_cons, OV.ctTop_nil, OV.ctT_v, OV.mkTop_cons, OV.mkTop_nil, OV.mkT_v, Nat.add_zero, Nat.zero_add, zero_cast, Int.add_zero, Int.zero_add, o_0.ctT, o_0.mkT, o_3.ctT, o_3.mkT, o_4.ctT, o_4.mkT, o_5.ctT, o_5.mkT, o_6.ctT, o_6.mkT, o_7.ctT, o_7.mkT, o_8.ctT, o_8.mkT] at h1 ⊢
  have hc0 := Chg.refl ho
  simp only [List.append_assoc, List.cons_append, List.nil_append, List.append_nil, OV.row_cons, OV.row_nil, OV.v_rows, rowsRows_cons, rowsRows_app, cells_append, cells_cons, cellv_cons, cellv_nil, OV.val_v] at hc0 nd ⊢
  obtain ⟨L0, hL0⟩ : ∃ L : List (Nat × HObj), L = (y_0.rows ++ (y_3.rows ++ (y_4.rows ++ (y_5.rows ++ (y_6.rows ++ (y_7.rows ++ (y_8.rows))))))) := ⟨_, rfl⟩
  replace hc0 : Chg h h L0 (y_0.rows ++ (y_3.rows ++ (y_4.rows ++ (y_5.rows ++ (y_6.rows ++ (y_7.rows ++ (y_8.rows))))))) := by rw [hL0]; exact hc0
  rw [← hL0] at nd ⊢
  refine fnHF 26 keep15 ib15 mk15 mix Tryz.func15 rfl (by kernel_rfl) (by simp) ?_
  simp (maxSteps := 1000000) -dsimp -implicitDefEqProofs only [go_sem, ↓reduceIte, keep15, ib15, mk15, Tryz.f15, OV.map_val, OV.map_val_nil, OV.val_v, o_0.flat, o_0.one, o_3.flat, o_3.one, o_4.flat, o_4.one, o_5.flat, o_5.one, o_6.flat, o_6.one, o_7.flat, o_7.one, o_8.flat, o_8.one]
  have hp0 : Chg h h L0 ((([] : List (Nat × HObj))) ++ ((y_0.rows ++ (y_3.rows ++ (y_4.rows))) ++ (y_5.rows ++ y_6.rows ++ y_7.rows ++ y_8.rows))) := by simpa only [List.append_assoc, List.cons_append, List.nil_append, List.append_nil, OV.row_cons, OV.row_nil, OV.v_rows, rowsRows_cons, rowsRows_app, cells_append, cells_cons, cellv_cons, cellv_nil, OV.val_v] using hc0
  have hs0 := mark_Job x.fJob [y_0, .v (.int .i64 x.fJob.fFunc), .v (.int .i64 x.fJob.fShared), y_3, y_4] (k) h ⟨y_0, y_3, y_4, rfl, o_0, o_3, o_4⟩ (by omega) (by simp only [OV.ctTop_cons, OV.ctTop_nil, OV.ctT_v, OV.mkTop_cons, OV.mkTop_nil, OV.mkT_v, Nat.add_zero, Nat.zero_add, zero_cast, Int.add_zero, Int.zero_add, o_0.ctT, o_0.mkT, o_3.ctT, o_3.mkT, o_4.ctT, o_4.mkT, o_5.ctT, o_5.mkT, o_6.ctT, o_6.mkT, o_7.ctT, o_7.mkT, o_8.ctT, o_8.mkT]; omega) (by simpa only [List.append_assoc, List.cons_append, List.nil_append, List.append_nil, OV.row_cons, OV.row_nil, OV.v_rows, rowsRows_cons, rowsRows_app, cells_append, cells_cons, cellv_cons, cellv_nil, OV.val_v] using hp0.owns.right.left) (by simpa only [List.append_assoc, List.cons_append, List.nil_append, List.append_nil, OV.row_cons, OV.row_nil, OV.v_rows, rowsRows_cons, rowsRows_app, cells_append, cells_cons, cellv_cons, cellv_nil, OV.val_v] using nodup_mid (hp0.nodup nd))
  simp only [OV.ctTop_cons, OV.ctTop_nil, OV.ctT_v, OV.mkTop_cons, OV.mkTop_nil, OV.mkT_v, Nat.add_zero, Nat.zero_add, zero_cast, Int.add_zero, Int.zero_add, o_0.ctT, o_0.mkT, o_3.ctT, o_3.mkT, o_4.ctT, o_4.mkT, o_5.ctT, o_5.mkT, o_6.ctT, o_6.mkT, o_7.ctT, o_7.mkT, o_8.ctT, o_8.mkT, List.append_assoc, List.cons_append, List.nil_append, List.append_nil, OV.row_cons, OV.row_nil, OV.v_rows, rowsRows_cons, rowsRows_app, cells_append, cells_cons, cellv_cons, cellv_nil, OV.val_v, OV.map_val, OV.map_val_nil, Int.natCast_add, ← Int.add_assoc] at hs0
  refine HFnF.mkH hs0 ?_
  rintro r g0 ⟨rfl, hch0⟩
  have hr0 := hp0.trans (Chg.mid hp0.owns (hp0.nodup nd) (by simpa only [List.append_assoc, List.cons_append, List.nil_append, List.append_nil, OV.row_cons, OV.row_nil, OV.v_rows, rowsRows_cons, rowsRows_app, cells_append, cells_cons, cellv_cons, cellv_nil, OV.val_v] using hch0))
  simp (maxSteps := 1000000) -dsimp -implicitDefEqProofs only [go_sem, ↓reduceIte, keep15, ib15, mk15, Tryz.f15, OV.map_val, OV.map_val_nil, OV.val_v, o_0.flat, o_0.one, o_3.flat, o_3.one, o_4.flat, o_4.one, o_5.flat, o_5.one, o_6.flat, o_6.one, o_7.flat, o_7.one, o_8.flat, o_8.one]
  have hp1 : Chg h g0 L0 (((y_0.mk (k)).rows ++ (y_3.mk (k + (y_0.ct : Int))).rows ++ (y_4.mk (k + (y_0.ct : Int) + (y_3.ct : Int))).rows) ++ ((y_5.rows) ++ (y_6.rows ++ y_7.rows ++ y_8.rows))) := by simpa only [List.append_assoc, List.cons_append, List.nil_append, List.append_nil, OV.row_cons, OV.row_nil, OV.v_rows, rowsRows_cons, rowsRows_app, cells_append, cells_cons, cellv_cons, cellv_nil, OV.val_v] using hr0
  refine HFnF.mkH (mark_Int64S x.fStamps y_5 (k + (y_0.ct : Int) + (y_3.ct : Int) + (y_4.ct : Int)) _ o_5 (by omega) (by omega) hp1.owns.right.left (nodup_mid (hp1.nodup nd))) ?_
  rintro r g1 ⟨rfl, hch1⟩
  have hr1 := hp1.trans (Chg.mid hp1.owns (hp1.nodup nd) (by simpa only [List.append_assoc, List.cons_append, List.nil_append, List.append_nil, OV.row_cons, OV.row_nil, OV.v_rows, rowsRows_cons, rowsRows_app, cells_append, cells_cons, cellv_cons, cellv_nil, OV.val_v] using hch1))
  simp (maxSteps := 1000000) -dsimp -implicitDefEqProofs only [go_sem, ↓reduceIte, keep15, ib15, mk15, Tryz.f15, OV.map_val, OV.map_val_nil, OV.val_v, o_0.flat, o_0.one, o_3.flat, o_3.one, o_4.flat, o_4.one, o_5.flat, o_5.one, o_6.flat, o_6.one, o_7.flat, o_7.one, o_8.flat, o_8.one]
  have hp2 : Chg h g1 L0 (((y_0.mk (k)).rows ++ (y_3.mk (k + (y_0.ct : Int))).rows ++ (y_4.mk (k + (y_0.ct : Int) + (y_3.ct : Int))).rows ++ (y_5.mk (k + (y_0.ct : Int) + (y_3.ct : Int) + (y_4.ct : Int))).rows) ++ ((y_6.rows) ++ (y_7.rows ++ y_8.rows))) := by simpa only [List.append_assoc, List.cons_append, List.nil_append, List.append_nil, OV.row_cons, OV.row_nil, OV.v_rows, rowsRows_cons, rowsRows_app, cells_append, cells_cons, cellv_cons, cellv_nil, OV.val_v] using hr1
  refine HFnF.mkH (mark_BoolS x.fKnown y_6 (k + (y_0.ct : Int) + (y_3.ct : Int) + (y_4.ct : Int) + (y_5.ct : Int)) _ o_6 (by omega) (by omega) hp2.owns.right.left (nodup_mid (hp2.nodup nd))) ?_
  rintro r g2 ⟨rfl, hch2⟩
  have hr2 := hp2.trans (Chg.mid hp2.owns (hp2.nodup nd) (by simpa only [List.append_assoc, List.cons_append, List.nil_append, List.append_nil, OV.row_cons, OV.row_nil, OV.v_rows, rowsRows_cons, rowsRows_app, cells_append, cells_cons, cellv_cons, cellv_nil, OV.val_v] using hch2))
  simp (maxSteps := 1000000) -dsimp -implicitDefEqProofs only [go_sem, ↓reduceIte, keep15, ib15, mk15, Tryz.f15, OV.map_val, OV.map_val_nil, OV.val_v, o_0.flat, o_0.one, o_3.flat, o_3.one, o_4.flat, o_4.one, o_5.flat, o_5.one, o_6.flat, o_6.one, o_7.flat, o_7.one, o_8.flat, o_8.one]
  have hp3 : Chg h g2 L0 (((y_0.mk (k)).rows ++ (y_3.mk (k + (y_0.ct : Int))).rows ++ (y_4.mk (k + (y_0.ct : Int) + (y_3.ct : Int))).rows ++ (y_5.mk (k + (y_0.ct : Int) + (y_3.ct : Int) + (y_4.ct : Int))).rows ++ (y_6.mk (k + (y_0.ct : Int) + (y_3.ct : Int) + (y_4.ct : Int) + (y_5.ct : Int))).rows) ++ ((y_7.rows) ++ (y_8.rows))) := by simpa only [List.append_assoc, List.cons_append, List.nil_append, List.append_nil, OV.row_cons, OV.row_nil, OV.v_rows, rowsRows_cons, rowsRows_app, cells_append, cells_cons, cellv_cons, cellv_nil, OV.val_v] using hr2
  refine HFnF.mkH (mark_PartS x.fParts y_7 (k + (y_0.ct : Int) + (y_3.ct : Int) + (y_4.ct : Int) + (y_5.ct : Int) + (y_6.ct : Int)) _ o_7 (by omega) (by omega) hp3.owns.right.left (nodup_mid (hp3.nodup nd))) ?_
  rintro r g3 ⟨rfl, hch3⟩
  have hr3 := hp3.trans (Chg.mid hp3.owns (hp3.nodup nd) (by simpa only [List.append_assoc, List.cons_append, List.nil_append, List.append_nil, OV.row_cons, OV.row_nil, OV.v_rows, rowsRows_cons, rowsRows_app, cells_append, cells_cons, cellv_cons, cellv_nil, OV.val_v] using hch3))
  simp (maxSteps := 1000000) -dsimp -implicitDefEqProofs only [go_sem, ↓reduceIte, keep15, ib15, mk15, Tryz.f15, OV.map_val, OV.map_val_nil, OV.val_v, o_0.flat, o_0.one, o_3.flat, o_3.one, o_4.flat, o_4.one, o_5.flat, o_5.one, o_6.flat, o_6.one, o_7.flat, o_7.one, o_8.flat, o_8.one]
  have hp4 : Chg h g3 L0 (((y_0.mk (k)).rows ++ (y_3.mk (k + (y_0.ct : Int))).rows ++ (y_4.mk (k + (y_0.ct : Int) + (y_3.ct : Int))).rows ++ (y_5.mk (k + (y_0.ct : Int) + (y_3.ct : Int) + (y_4.ct : Int))).rows ++ (y_6.mk (k + (y_0.ct : Int) + (y_3.ct : Int) + (y_4.ct : Int) + (y_5.ct : Int))).rows ++ (y_7.mk (k + (y_0.ct : Int) + (y_3.ct : Int) + (y_4.ct : Int) + (y_5.ct : Int) + (y_6.ct : Int))).rows) ++ ((y_8.rows) ++ (([] : List (Nat × HObj))))) := by simpa only [List.append_assoc, List.cons_append, List.nil_append, List.append_nil, OV.row_cons, OV.row_nil, OV.v_rows, rowsRows_cons, rowsRows_app, cells_append, cells_cons, cellv_cons, cellv_nil, OV.val_v] using hr3
  refine HFnF.mkH (mark_Int64S x.fOwners y_8 (k + (y_0.ct : Int) + (y_3.ct : Int) + (y_4.ct : Int) + (y_5.ct : Int) + (y_6.ct : Int) + (y_7.ct : Int)) _ o_8 (by omega) (by omega) hp4.owns.right.left (nodup_mid (hp4.nodup nd))) ?_
  rintro r g4 ⟨rfl, hch4⟩
  have hr4 := hp4.trans (Chg.mid hp4.owns (hp4.nodup nd) (by simpa only [List.append_assoc, List.cons_append, List.nil_append, List.append_nil, OV.row_cons, OV.row_nil, OV.v_rows, rowsRows_cons, rowsRows_app, cells_append, cells_cons, cellv_cons, cellv_nil, OV.val_v] using hch4))
  simp (maxSteps := 1000000) -dsimp -implicitDefEqProofs only [go_sem, ↓reduceIte, keep15, ib15, mk15, Tryz.f15, OV.map_val, OV.map_val_nil, OV.val_v, o_0.flat, o_0.one, o_3.flat, o_3.one, o_4.flat, o_4.one, o_5.flat, o_5.one, o_6.flat, o_6.one, o_7.flat, o_7.one, o_8.flat, o_8.one]
  refine ⟨g4, Heap.le_refl _, ?_⟩
  first
    | exact ⟨by congr 1; omega, by simpa only [List.append_assoc, List.cons_append, List.nil_append, List.append_nil, OV.row_cons, OV.row_nil, OV.v_rows, rowsRows_cons, rowsRows_app, cells_append, cells_cons, cellv_cons, cellv_nil, OV.val_v, Int.natCast_add, ← Int.add_assoc] using hr4⟩
    | exact ⟨by omega, by simpa only [List.append_assoc, List.cons_append, List.nil_append, List.append_nil, OV.row_cons, OV.row_nil, OV.v_rows, rowsRows_cons, rowsRows_app, cells_append, cells_cons, cellv_cons, cellv_nil, OV.val_v, Int.natCast_add, ← Int.add_assoc] using hr4⟩
    | simpa only [List.append_assoc, List.cons_append, List.nil_append, List.append_nil, OV.row_cons, OV.row_nil, OV.v_rows, rowsRows_cons, rowsRows_app, cells_append, cells_cons, cellv_cons, cellv_nil, OV.val_v, Int.natCast_add, ← Int.add_assoc] using hr4

def keep74 : List Nat := [0, 1, 4, 5, 9]
def ib74 : List Nat := []
def mk74 : Marks := fun _ => ([], .nil, [])
set_option maxRecDepth 100000 in
theorem mark_ReportS (l : List DReport) : MarkS Tryz.prog 74 (OS DReport.o 5 l) := by
  intro y k h hy h0 h1 ho nd
  rcases hy with ⟨rfl, hl⟩ | ⟨n, es, rfl, hor⟩
  · rw [OV.mk_nil, OV.nil_rows, OV.ct_nil, OV.val_nil]
    refine fnHF 51 keep74 ib74 mk74 mix Tryz.func74 rfl (by kernel_rfl) (by simp) ?_
    simp (maxSteps := 1000000) -dsimp -implicitDefEqProofs only [go_sem, ↓reduceIte, keep74, ib74, mk74, Tryz.f74]
    refine loopF (keep := keep74) (ib := ib74) (mk := mk74) mix (by kernel_rfl) (fun _ : Unit => [(0, .sl 5 [] true), (1, I k), (5, I 0)]) (fun _ => h) (fun _ => True) (fun _ => 0) () (by simp [SatL, tget, Heap.le_refl]) ?_
    intro _ _
    simp (maxSteps := 1000000) -dsimp -implicitDefEqProofs only [go_sem, ↓reduceIte, keep74, ib74, mk74, Tryz.f74, zero_cast, Int.lt_irrefl]
    try intro _
    refine ⟨h, Heap.le_refl _, ?_⟩
    first | exact Chg.refl (by simp [Owns]) | exact ⟨by simp, Chg.refl (by simp [Owns])⟩
  · rw [OV.mk_sl, OV.sl_rows, OV.sl_rows, OV.ct_sl, OV.val_sl]
    rw [OV.ct_sl] at h1
    rw [OV.sl_rows] at ho nd
    generalize hL0 : (n, HObj.row 5 (OV.cells es)) :: OV.rowsRows es = L0 at nd ⊢
    refine fnHF 51 keep74 ib74 mk74 mix Tryz.func74 rfl (by kernel_rfl) (by simp) ?_
    simp (maxSteps := 1000000) -dsimp -implicitDefEqProofs only [go_sem, ↓reduceIte, keep74, ib74, mk74, Tryz.f74]
    refine loopF (keep := keep74) (ib := ib74) (mk := mk74) mix (by kernel_rfl) (fun x : Nat × Heap => [(0, .os n 5 0 es.length), (1, I (k + OV.ctRows (es.take x.1))), (5, I x.1)]) (fun x => x.2) (fun x => x.1 ≤ es.length ∧ Chg h x.2 L0 ((n, .row 5 (OV.cells (OV.mkRows k (es.take x.1) ++ es.drop x.1))) :: OV.rowsRows (OV.mkRows k (es.take x.1) ++ es.drop x.1))) (fun x => es.length - x.1) (0, h) (by
      refine ⟨by simp [SatL, tget, OV.ctRows], Heap.le_refl _, Nat.zero_le _, ?_⟩
      rw [← hL0]
      simpa [OV.mkRows] using Chg.refl ho) ?_
    rintro ⟨i, g⟩ ⟨hi, hc⟩
    simp only at hi hc ⊢
    rcases Nat.lt_or_ge i es.length with hlt | hge
    · have hll : i < l.length := by rw [hor.length]; exact hlt
      obtain ⟨A, e, B, rfl, hA, he⟩ := hor.split i hll
      have t1 : (A ++ e :: B).take i = A := by rw [← hA]; simp
      have t2 : (A ++ e :: B).drop i = e :: B := by rw [← hA]; simp
      have t0 : A ++ e :: B = (A ++ [e]) ++ B := by simp
      have t3 : (A ++ e :: B).take (i + 1) = A ++ [e] := by rw [t0]; exact List.take_left' (by simp [hA])
      have t4 : (A ++ e :: B).drop (i + 1) = B := by rw [t0]; exact List.drop_left' (by simp [hA])
      clear t0
      have hct := OV.ctRows_append A (e :: B)
      rw [OV.ctRows] at hct
      rw [t1, t2] at hc
      rw [t1]
      have hA2 : (OV.cells (OV.mkRows k A)).length = i := by rw [OV.cells, List.length_map, OV.mkRows_len, hA]
      have hs2 := OV.mkRows_snoc k A e
      have hs3 := OV.ctRows_snoc A e
      obtain ⟨y_4, rfl, o_4⟩ := he
      simp only [OV.ctRow_cons, OV.ctRow_nil, OV.ct_v, Nat.add_zero, OV.mkRow_cons, OV.mkRow_nil, OV.mk_v, leaf_int, leaf_bool, leaf_str, one_cast] at hct hs2 hs3
      generalize hkk : k + (OV.ctRows A : Int) = kk at hs2 ⊢
      generalize OV.mkRows k A = A2 at hs2 hc hA2
      have gm : ∀ (c : List Cell) (Y : List (List Cell)), (OV.cells A2 ++ c :: Y)[i]? = some c := fun c Y => get_mid hA2
      have sm : ∀ (c c2 : List Cell) (Y : List (List Cell)), (OV.cells A2 ++ c :: Y).set i c2 = OV.cells A2 ++ c2 :: Y := fun c c2 Y => set_mid hA2
      have hc0 := hc
      simp only [List.append_assoc, List.cons_append, List.nil_append, List.append_nil, OV.row_cons, OV.row_nil, OV.v_rows, rowsRows_cons, rowsRows_app, cells_append, cells_cons, cellv_cons, cellv_nil, OV.val_v] at hc0
      have hgn := hc0.owns (n, _) List.mem_cons_self
      simp only at hgn
      have iw0_0 : IntKind.i64.wrap (kk + 1) = kk + 1 := IntWalk.i64_in _ (by omega)
      have iw0_1 : IntKind.i64.wrap (kk + 1 + 1) = kk + 1 + 1 := IntWalk.i64_in _ (by omega)
      have iw0_2 : IntKind.i64.wrap (kk + 1 + 1 + 1) = kk + 1 + 1 + 1 := IntWalk.i64_in _ (by omega)
      have iw0_3 : IntKind.i64.wrap (kk + 1 + 1 + 1 + 1) = kk + 1 + 1 + 1 + 1 := IntWalk.i64_in _ (by omega)
      simp (maxSteps := 1000000) -dsimp -implicitDefEqProofs only [go_sem, ↓reduceIte, keep74, ib74, mk74, Tryz.f74, hgn, gm, sm, upd_upd, upd_same, o_4.flat, o_4.one, iw0_0, iw0_1, iw0_2, iw0_3]
      repeat' (with_reducible first | intro _ | refine And.intro ?_ ?_)
      all_goals try omega
      have hq0 := hc0.trans (Chg.set (o' := .row 5 (OV.cells A2 ++ [.v (.int .i64 (kk)), .v (.int .i64 (kk + 1)), .v (.int .i64 (kk + 1 + 1)), .v (.int .i64 (kk + 1 + 1 + 1)), .v y_4.val] :: OV.cells B)) hc0.owns (hc0.nodup nd))
      have hg0 : upd g n (.row 5 (OV.cells A2 ++ [.v (.int .i64 (kk)), .v (.int .i64 (kk + 1)), .v (.int .i64 (kk + 1 + 1)), .v (.int .i64 (kk + 1 + 1 + 1)), .v y_4.val] :: OV.cells B)) n = some (.row 5 (OV.cells A2 ++ [.v (.int .i64 (kk)), .v (.int .i64 (kk + 1)), .v (.int .i64 (kk + 1 + 1)), .v (.int .i64 (kk + 1 + 1 + 1)), .v y_4.val] :: OV.cells B)) := upd_same _ _ _
      have hp0 : Chg h (upd g n (.row 5 (OV.cells A2 ++ [.v (.int .i64 (kk)), .v (.int .i64 (kk + 1)), .v (.int .i64 (kk + 1 + 1)), .v (.int .i64 (kk + 1 + 1 + 1)), .v y_4.val] :: OV.cells B))) L0 (((n, .row 5 (OV.cells A2 ++ [.v (.int .i64 (kk)), .v (.int .i64 (kk + 1)), .v (.int .i64 (kk + 1 + 1)), .v (.int .i64 (kk + 1 + 1 + 1)), .v y_4.val] :: OV.cells B)) :: (OV.rowsRows A2)) ++ (y_4.rows ++ (OV.rowsRows B))) := by simpa only [List.append_assoc, List.cons_append, List.nil_append, List.append_nil, OV.row_cons, OV.row_nil, OV.v_rows, rowsRows_cons, rowsRows_app, cells_append, cells_cons, cellv_cons, cellv_nil, OV.val_v] using hq0
      refine HFnF.mkH ((mark_Int64S l[i].fPart.fGrad) y_4 (kk + 1 + 1 + 1 + 1) _ o_4 (by omega) (by omega) hp0.owns.right.left (nodup_mid (hp0.nodup nd))) ?_
      rintro r g0 ⟨rfl, hch0⟩
      have hr0 := hp0.trans (Chg.mid hp0.owns (hp0.nodup nd) hch0)
      have hg0r := hr0.owns (n, _) List.mem_cons_self
      simp only at hg0r
      have hkb0 : ∃ z : Int, z = kk + 1 + 1 + 1 + 1 + (y_4.ct : Int) := ⟨_, rfl⟩
      obtain ⟨kk0, hkb0⟩ := hkb0
      rw [← hkb0]
      simp (maxSteps := 1000000) -dsimp -implicitDefEqProofs only [go_sem, ↓reduceIte, keep74, ib74, mk74, Tryz.f74, hg0r, gm, sm, upd_upd, upd_same, o_4.flat, o_4.one, iw0_0, iw0_1, iw0_2, iw0_3]
      refine ⟨(i + 1, g0), ?_⟩
      simp only [t3, t4, hs2, hs3]
      refine ⟨?_, Heap.le_refl _, ⟨by omega, ?_⟩, by omega⟩
      · repeat' (with_reducible refine And.intro ?_ ?_)
        all_goals first | rfl | trivial | omega | (rw [IntWalk.i64_in _ (by omega)]; omega)
      · simpa only [List.append_assoc, List.cons_append, List.nil_append, List.append_nil, OV.row_cons, OV.row_nil, OV.v_rows, rowsRows_cons, rowsRows_app, cells_append, cells_cons, cellv_cons, cellv_nil, OV.val_v, o_4.mk_val, hkb0] using hr0
    · have hi2 : i = es.length := by omega
      subst hi2
      rw [List.take_length, List.drop_length, List.append_nil] at hc
      rw [List.take_length]
      simp (maxSteps := 1000000) -dsimp -implicitDefEqProofs only [go_sem, ↓reduceIte, keep74, ib74, mk74, Tryz.f74, Int.lt_irrefl, Nat.lt_irrefl]
      try intro _
      refine ⟨g, Heap.le_refl _, ?_⟩
      first | exact hc | exact ⟨rfl, hc⟩

def keep73 : List Nat := [0, 1, 4, 5, 9]
def ib73 : List Nat := []
def mk73 : Marks := fun _ => ([], .nil, [])
set_option maxRecDepth 100000 in
theorem mark_ReportSS (l : List (List DReport)) : MarkS Tryz.prog 73 (OS (oS DReport.o 5) 1 l) := by
  intro y k h hy h0 h1 ho nd
  rcases hy with ⟨rfl, hl⟩ | ⟨n, es, rfl, hor⟩
  · rw [OV.mk_nil, OV.nil_rows, OV.ct_nil, OV.val_nil]
    refine fnHF 19 keep73 ib73 mk73 mix Tryz.func73 rfl (by kernel_rfl) (by simp) ?_
    simp (maxSteps := 1000000) -dsimp -implicitDefEqProofs only [go_sem, ↓reduceIte, keep73, ib73, mk73, Tryz.f73]
    refine loopF (keep := keep73) (ib := ib73) (mk := mk73) mix (by kernel_rfl) (fun _ : Unit => [(0, .sl 1 [] true), (1, I k), (5, I 0)]) (fun _ => h) (fun _ => True) (fun _ => 0) () (by simp [SatL, tget, Heap.le_refl]) ?_
    intro _ _
    simp (maxSteps := 1000000) -dsimp -implicitDefEqProofs only [go_sem, ↓reduceIte, keep73, ib73, mk73, Tryz.f73, zero_cast, Int.lt_irrefl]
    try intro _
    refine ⟨h, Heap.le_refl _, ?_⟩
    first | exact Chg.refl (by simp [Owns]) | exact ⟨by simp, Chg.refl (by simp [Owns])⟩
  · rw [OV.mk_sl, OV.sl_rows, OV.sl_rows, OV.ct_sl, OV.val_sl]
    rw [OV.ct_sl] at h1
    rw [OV.sl_rows] at ho nd
    generalize hL0 : (n, HObj.row 1 (OV.cells es)) :: OV.rowsRows es = L0 at nd ⊢
    refine fnHF 19 keep73 ib73 mk73 mix Tryz.func73 rfl (by kernel_rfl) (by simp) ?_
    simp (maxSteps := 1000000) -dsimp -implicitDefEqProofs only [go_sem, ↓reduceIte, keep73, ib73, mk73, Tryz.f73]
    refine loopF (keep := keep73) (ib := ib73) (mk := mk73) mix (by kernel_rfl) (fun x : Nat × Heap => [(0, .os n 1 0 es.length), (1, I (k + OV.ctRows (es.take x.1))), (5, I x.1)]) (fun x => x.2) (fun x => x.1 ≤ es.length ∧ Chg h x.2 L0 ((n, .row 1 (OV.cells (OV.mkRows k (es.take x.1) ++ es.drop x.1))) :: OV.rowsRows (OV.mkRows k (es.take x.1) ++ es.drop x.1))) (fun x => es.length - x.1) (0, h) (by
      refine ⟨by simp [SatL, tget, OV.ctRows], Heap.le_refl _, Nat.zero_le _, ?_⟩
      rw [← hL0]
      simpa [OV.mkRows] using Chg.refl ho) ?_
    rintro ⟨i, g⟩ ⟨hi, hc⟩
    simp only at hi hc ⊢
    rcases Nat.lt_or_ge i es.length with hlt | hge
    · have hll : i < l.length := by rw [hor.length]; exact hlt
      obtain ⟨A, e, B, rfl, hA, he⟩ := hor.split i hll
      have t1 : (A ++ e :: B).take i = A := by rw [← hA]; simp
      have t2 : (A ++ e :: B).drop i = e :: B := by rw [← hA]; simp
      have t0 : A ++ e :: B = (A ++ [e]) ++ B := by simp
      have t3 : (A ++ e :: B).take (i + 1) = A ++ [e] := by rw [t0]; exact List.take_left' (by simp [hA])
      have t4 : (A ++ e :: B).drop (i + 1) = B := by rw [t0]; exact List.drop_left' (by simp [hA])
      clear t0
      have hct := OV.ctRows_append A (e :: B)
      rw [OV.ctRows] at hct
      rw [t1, t2] at hc
      rw [t1]
      have hA2 : (OV.cells (OV.mkRows k A)).length = i := by rw [OV.cells, List.length_map, OV.mkRows_len, hA]
      have hs2 := OV.mkRows_snoc k A e
      have hs3 := OV.ctRows_snoc A e
      obtain ⟨y_0, rfl, o_0⟩ := he
      simp only [OV.ctRow_cons, OV.ctRow_nil, OV.ct_v, Nat.add_zero, OV.mkRow_cons, OV.mkRow_nil, OV.mk_v, leaf_int, leaf_bool, leaf_str, one_cast] at hct hs2 hs3
      generalize hkk : k + (OV.ctRows A : Int) = kk at hs2 ⊢
      generalize OV.mkRows k A = A2 at hs2 hc hA2
      have gm : ∀ (c : List Cell) (Y : List (List Cell)), (OV.cells A2 ++ c :: Y)[i]? = some c := fun c Y => get_mid hA2
      have sm : ∀ (c c2 : List Cell) (Y : List (List Cell)), (OV.cells A2 ++ c :: Y).set i c2 = OV.cells A2 ++ c2 :: Y := fun c c2 Y => set_mid hA2
      have hc0 := hc
      simp only [List.append_assoc, List.cons_append, List.nil_append, List.append_nil, OV.row_cons, OV.row_nil, OV.v_rows, rowsRows_cons, rowsRows_app, cells_append, cells_cons, cellv_cons, cellv_nil, OV.val_v] at hc0
      have hgn := hc0.owns (n, _) List.mem_cons_self
      simp only at hgn
      simp (maxSteps := 1000000) -dsimp -implicitDefEqProofs only [go_sem, ↓reduceIte, keep73, ib73, mk73, Tryz.f73, hgn, gm, sm, upd_upd, upd_same, o_0.flat, o_0.one]
      repeat' (with_reducible first | intro _ | refine And.intro ?_ ?_)
      all_goals try omega
      have hp0 : Chg h g L0 (((n, .row 1 (OV.cells A2 ++ [.v y_0.val] :: OV.cells B)) :: (OV.rowsRows A2)) ++ (y_0.rows ++ (OV.rowsRows B))) := by simpa only [List.append_assoc, List.cons_append, List.nil_append, List.append_nil, OV.row_cons, OV.row_nil, OV.v_rows, rowsRows_cons, rowsRows_app, cells_append, cells_cons, cellv_cons, cellv_nil, OV.val_v] using hc0
      refine HFnF.mkH ((mark_ReportS l[i]) y_0 (kk) _ o_0 (by omega) (by omega) hp0.owns.right.left (nodup_mid (hp0.nodup nd))) ?_
      rintro r g0 ⟨rfl, hch0⟩
      have hr0 := hp0.trans (Chg.mid hp0.owns (hp0.nodup nd) hch0)
      have hg0r := hr0.owns (n, _) List.mem_cons_self
      simp only at hg0r
      have hkb0 : ∃ z : Int, z = kk + (y_0.ct : Int) := ⟨_, rfl⟩
      obtain ⟨kk0, hkb0⟩ := hkb0
      rw [← hkb0]
      simp (maxSteps := 1000000) -dsimp -implicitDefEqProofs only [go_sem, ↓reduceIte, keep73, ib73, mk73, Tryz.f73, hg0r, gm, sm, upd_upd, upd_same, o_0.flat, o_0.one]
      refine ⟨(i + 1, g0), ?_⟩
      simp only [t3, t4, hs2, hs3]
      refine ⟨?_, Heap.le_refl _, ⟨by omega, ?_⟩, by omega⟩
      · repeat' (with_reducible refine And.intro ?_ ?_)
        all_goals first | rfl | trivial | omega | (rw [IntWalk.i64_in _ (by omega)]; omega)
      · simpa only [List.append_assoc, List.cons_append, List.nil_append, List.append_nil, OV.row_cons, OV.row_nil, OV.v_rows, rowsRows_cons, rowsRows_app, cells_append, cells_cons, cellv_cons, cellv_nil, OV.val_v, o_0.mk_val, hkb0] using hr0
    · have hi2 : i = es.length := by omega
      subst hi2
      rw [List.take_length, List.drop_length, List.append_nil] at hc
      rw [List.take_length]
      simp (maxSteps := 1000000) -dsimp -implicitDefEqProofs only [go_sem, ↓reduceIte, keep73, ib73, mk73, Tryz.f73, Int.lt_irrefl, Nat.lt_irrefl]
      try intro _
      refine ⟨g, Heap.le_refl _, ?_⟩
      first | exact hc | exact ⟨rfl, hc⟩

def keep25 : List Nat := [0, 1, 2, 4]
def ib25 : List Nat := [2]
def mk25 : Marks := fun _ => ([], .nil, [])
set_option maxRecDepth 100000 in
theorem mark_Net (x : DNet) : MarkA Tryz.prog 25 x.o := by
  intro e k h he h0 h1 ho nd
  obtain ⟨y_0, y_3, y_4, y_5, y_8, y_9, y_10, y_11, y_12, y_13, y_16, y_17, rfl, o_0, o_3, o_4, o_5, o_8, o_9, o_10, o_11, o_12, o_13, o_16, o_17⟩ := he
  simp only [OV.ctTop_cons, OV.ctTop_nil, OV.ctT_v, OV.mkTop_cons, OV.mkTop_nil, OV.mkT_v, Nat.add_zero, Nat.zero_add, zero_cast, Int.add_zero, Int.zero_add, o_0.ctT, o_0.mkT, o_3.ctT, o_3.mkT, o_4.ctT, o_4.mkT, o_5.ctT, o_5.mkT, o_8.ctT, o_8.mkT, o_9.ctT, o_9.mkT, o_10.ctT, o_10.mkT, o_11.ctT, o_11.mkT, o_12.ctT, o_12.mkT, o_13.ctT, o_13.mkT, o_16.ctT, o_16.mkT, o_17.ctT, o_17.mkT] at h1 ⊢
  have hc0 := Chg.refl ho
  simp only [List.append_assoc, List.cons_append, List.nil_append, List.append_nil, OV.row_cons, OV.row_nil, OV.v_rows, rowsRows_cons, rowsRows_app, cells_append, cells_cons, cellv_cons, cellv_nil, OV.val_v] at hc0 nd ⊢
  obtain ⟨L0, hL0⟩ : ∃ L : List (Nat × HObj), L = (y_0.rows ++ (y_3.rows ++ (y_4.rows ++ (y_5.rows ++ (y_8.rows ++ (y_9.rows ++ (y_10.rows ++ (y_11.rows ++ (y_12.rows ++ (y_13.rows ++ (y_16.rows ++ (y_17.rows)))))))))))) := ⟨_, rfl⟩
  replace hc0 : Chg h h L0 (y_0.rows ++ (y_3.rows ++ (y_4.rows ++ (y_5.rows ++ (y_8.rows ++ (y_9.rows ++ (y_10.rows ++ (y_11.rows ++ (y_12.rows ++ (y_13.rows ++ (y_16.rows ++ (y_17.rows)))))))))))) := by rw [hL0]; exact hc0
  rw [← hL0] at nd ⊢
  refine fnHF 22 keep25 ib25 mk25 mix Tryz.func25 rfl (by kernel_rfl) (by simp) ?_
  simp (maxSteps := 1000000) -dsimp -implicitDefEqProofs only [go_sem, ↓reduceIte, keep25, ib25, mk25, Tryz.f25, OV.map_val, OV.map_val_nil, OV.val_v, o_0.flat, o_0.one, o_3.flat, o_3.one, o_4.flat, o_4.one, o_5.flat, o_5.one, o_8.flat, o_8.one, o_9.flat, o_9.one, o_10.flat, o_10.one, o_11.flat, o_11.one, o_12.flat, o_12.one, o_13.flat, o_13.one, o_16.flat, o_16.one, o_17.flat, o_17.one]
  have hp0 : Chg h h L0 ((([] : List (Nat × HObj))) ++ ((y_0.rows ++ (y_3.rows ++ (y_4.rows))) ++ (y_5.rows ++ y_8.rows ++ y_9.rows ++ y_10.rows ++ y_11.rows ++ y_12.rows ++ y_13.rows ++ y_16.rows ++ y_17.rows))) := by simpa only [List.append_assoc, List.cons_append, List.nil_append, List.append_nil, OV.row_cons, OV.row_nil, OV.v_rows, rowsRows_cons, rowsRows_app, cells_append, cells_cons, cellv_cons, cellv_nil, OV.val_v] using hc0
  have hs0 := mark_Job x.fStart [y_0, .v (.int .i64 x.fStart.fFunc), .v (.int .i64 x.fStart.fShared), y_3, y_4] (k) h ⟨y_0, y_3, y_4, rfl, o_0, o_3, o_4⟩ (by omega) (by simp only [OV.ctTop_cons, OV.ctTop_nil, OV.ctT_v, OV.mkTop_cons, OV.mkTop_nil, OV.mkT_v, Nat.add_zero, Nat.zero_add, zero_cast, Int.add_zero, Int.zero_add, o_0.ctT, o_0.mkT, o_3.ctT, o_3.mkT, o_4.ctT, o_4.mkT, o_5.ctT, o_5.mkT, o_8.ctT, o_8.mkT, o_9.ctT, o_9.mkT, o_10.ctT, o_10.mkT, o_11.ctT, o_11.mkT, o_12.ctT, o_12.mkT, o_13.ctT, o_13.mkT, o_16.ctT, o_16.mkT, o_17.ctT, o_17.mkT]; omega) (by simpa only [List.append_assoc, List.cons_append, List.nil_append, List.append_nil, OV.row_cons, OV.row_nil, OV.v_rows, rowsRows_cons, rowsRows_app, cells_append, cells_cons, cellv_cons, cellv_nil, OV.val_v] using hp0.owns.right.left) (by simpa only [List.append_assoc, List.cons_append, List.nil_append, List.append_nil, OV.row_cons, OV.row_nil, OV.v_rows, rowsRows_cons, rowsRows_app, cells_append, cells_cons, cellv_cons, cellv_nil, OV.val_v] using nodup_mid (hp0.nodup nd))
  simp only [OV.ctTop_cons, OV.ctTop_nil, OV.ctT_v, OV.mkTop_cons, OV.mkTop_nil, OV.mkT_v, Nat.add_zero, Nat.zero_add, zero_cast, Int.add_zero, Int.zero_add, o_0.ctT, o_0.mkT, o_3.ctT, o_3.mkT, o_4.ctT, o_4.mkT, o_5.ctT, o_5.mkT, o_8.ctT, o_8.mkT, o_9.ctT, o_9.mkT, o_10.ctT, o_10.mkT, o_11.ctT, o_11.mkT, o_12.ctT, o_12.mkT, o_13.ctT, o_13.mkT, o_16.ctT, o_16.mkT, o_17.ctT, o_17.mkT, List.append_assoc, List.cons_append, List.nil_append, List.append_nil, OV.row_cons, OV.row_nil, OV.v_rows, rowsRows_cons, rowsRows_app, cells_append, cells_cons, cellv_cons, cellv_nil, OV.val_v, OV.map_val, OV.map_val_nil, Int.natCast_add, ← Int.add_assoc] at hs0
  refine HFnF.mkH hs0 ?_
  rintro r g0 ⟨rfl, hch0⟩
  have hr0 := hp0.trans (Chg.mid hp0.owns (hp0.nodup nd) (by simpa only [List.append_assoc, List.cons_append, List.nil_append, List.append_nil, OV.row_cons, OV.row_nil, OV.v_rows, rowsRows_cons, rowsRows_app, cells_append, cells_cons, cellv_cons, cellv_nil, OV.val_v] using hch0))
  simp (maxSteps := 1000000) -dsimp -implicitDefEqProofs only [go_sem, ↓reduceIte, keep25, ib25, mk25, Tryz.f25, OV.map_val, OV.map_val_nil, OV.val_v, o_0.flat, o_0.one, o_3.flat, o_3.one, o_4.flat, o_4.one, o_5.flat, o_5.one, o_8.flat, o_8.one, o_9.flat, o_9.one, o_10.flat, o_10.one, o_11.flat, o_11.one, o_12.flat, o_12.one, o_13.flat, o_13.one, o_16.flat, o_16.one, o_17.flat, o_17.one]
  have hp1 : Chg h g0 L0 (((y_0.mk (k)).rows ++ (y_3.mk (k + (y_0.ct : Int))).rows ++ (y_4.mk (k + (y_0.ct : Int) + (y_3.ct : Int))).rows) ++ ((y_5.rows ++ (y_8.rows ++ (y_9.rows ++ (y_10.rows ++ (y_11.rows ++ (y_12.rows ++ (y_13.rows))))))) ++ (y_16.rows ++ y_17.rows))) := by simpa only [List.append_assoc, List.cons_append, List.nil_append, List.append_nil, OV.row_cons, OV.row_nil, OV.v_rows, rowsRows_cons, rowsRows_app, cells_append, cells_cons, cellv_cons, cellv_nil, OV.val_v] using hr0
  have hs1 := mark_Service x.fService [y_5, .v (.int .i64 x.fService.fJob.fFunc), .v (.int .i64 x.fService.fJob.fShared), y_8, y_9, y_10, y_11, y_12, y_13] (k + (y_0.ct : Int) + (y_3.ct : Int) + (y_4.ct : Int)) g0 ⟨y_5, y_8, y_9, y_10, y_11, y_12, y_13, rfl, o_5, o_8, o_9, o_10, o_11, o_12, o_13⟩ (by omega) (by simp only [OV.ctTop_cons, OV.ctTop_nil, OV.ctT_v, OV.mkTop_cons, OV.mkTop_nil, OV.mkT_v, Nat.add_zero, Nat.zero_add, zero_cast, Int.add_zero, Int.zero_add, o_0.ctT, o_0.mkT, o_3.ctT, o_3.mkT, o_4.ctT, o_4.mkT, o_5.ctT, o_5.mkT, o_8.ctT, o_8.mkT, o_9.ctT, o_9.mkT, o_10.ctT, o_10.mkT, o_11.ctT, o_11.mkT, o_12.ctT, o_12.mkT, o_13.ctT, o_13.mkT, o_16.ctT, o_16.mkT, o_17.ctT, o_17.mkT]; omega) (by simpa only [List.append_assoc, List.cons_append, List.nil_append, List.append_nil, OV.row_cons, OV.row_nil, OV.v_rows, rowsRows_cons, rowsRows_app, cells_append, cells_cons, cellv_cons, cellv_nil, OV.val_v] using hp1.owns.right.left) (by simpa only [List.append_assoc, List.cons_append, List.nil_append, List.append_nil, OV.row_cons, OV.row_nil, OV.v_rows, rowsRows_cons, rowsRows_app, cells_append, cells_cons, cellv_cons, cellv_nil, OV.val_v] using nodup_mid (hp1.nodup nd))
  simp only [OV.ctTop_cons, OV.ctTop_nil, OV.ctT_v, OV.mkTop_cons, OV.mkTop_nil, OV.mkT_v, Nat.add_zero, Nat.zero_add, zero_cast, Int.add_zero, Int.zero_add, o_0.ctT, o_0.mkT, o_3.ctT, o_3.mkT, o_4.ctT, o_4.mkT, o_5.ctT, o_5.mkT, o_8.ctT, o_8.mkT, o_9.ctT, o_9.mkT, o_10.ctT, o_10.mkT, o_11.ctT, o_11.mkT, o_12.ctT, o_12.mkT, o_13.ctT, o_13.mkT, o_16.ctT, o_16.mkT, o_17.ctT, o_17.mkT, List.append_assoc, List.cons_append, List.nil_append, List.append_nil, OV.row_cons, OV.row_nil, OV.v_rows, rowsRows_cons, rowsRows_app, cells_append, cells_cons, cellv_cons, cellv_nil, OV.val_v, OV.map_val, OV.map_val_nil, Int.natCast_add, ← Int.add_assoc] at hs1
  refine HFnF.mkH hs1 ?_
  rintro r g1 ⟨rfl, hch1⟩
  have hr1 := hp1.trans (Chg.mid hp1.owns (hp1.nodup nd) (by simpa only [List.append_assoc, List.cons_append, List.nil_append, List.append_nil, OV.row_cons, OV.row_nil, OV.v_rows, rowsRows_cons, rowsRows_app, cells_append, cells_cons, cellv_cons, cellv_nil, OV.val_v] using hch1))
  simp (maxSteps := 1000000) -dsimp -implicitDefEqProofs only [go_sem, ↓reduceIte, keep25, ib25, mk25, Tryz.f25, OV.map_val, OV.map_val_nil, OV.val_v, o_0.flat, o_0.one, o_3.flat, o_3.one, o_4.flat, o_4.one, o_5.flat, o_5.one, o_8.flat, o_8.one, o_9.flat, o_9.one, o_10.flat, o_10.one, o_11.flat, o_11.one, o_12.flat, o_12.one, o_13.flat, o_13.one, o_16.flat, o_16.one, o_17.flat, o_17.one]
  have hp2 : Chg h g1 L0 (((y_0.mk (k)).rows ++ (y_3.mk (k + (y_0.ct : Int))).rows ++ (y_4.mk (k + (y_0.ct : Int) + (y_3.ct : Int))).rows ++ (y_5.mk (k + (y_0.ct : Int) + (y_3.ct : Int) + (y_4.ct : Int))).rows ++ (y_8.mk (k + (y_0.ct : Int) + (y_3.ct : Int) + (y_4.ct : Int) + (y_5.ct : Int))).rows ++ (y_9.mk (k + (y_0.ct : Int) + (y_3.ct : Int) + (y_4.ct : Int) + (y_5.ct : Int) + (y_8.ct : Int))).rows ++ (y_10.mk (k + (y_0.ct : Int) + (y_3.ct : Int) + (y_4.ct : Int) + (y_5.ct : Int) + (y_8.ct : Int) + (y_9.ct : Int))).rows ++ (y_11.mk (k + (y_0.ct : Int) + (y_3.ct : Int) + (y_4.ct : Int) + (y_5.ct : Int) + (y_8.ct : Int) + (y_9.ct : Int) + (y_10.ct : Int))).rows ++ (y_12.mk (k + (y_0.ct : Int) + (y_3.ct : Int) + (y_4.ct : Int) + (y_5.ct : Int) + (y_8.ct : Int) + (y_9.ct : Int) + (y_10.ct : Int) + (y_11.ct : Int))).rows ++ (y_13.mk (k + (y_0.ct : Int) + (y_3.ct : Int) + (y_4.ct : Int) + (y_5.ct : Int) + (y_8.ct : Int) + (y_9.ct : Int) + (y_10.ct : Int) + (y_11.ct : Int) + (y_12.ct : Int))).rows) ++ ((y_16.rows) ++ (y_17.rows))) := by simpa only [List.append_assoc, List.cons_append, List.nil_append, List.append_nil, OV.row_cons, OV.row_nil, OV.v_rows, rowsRows_cons, rowsRows_app, cells_append, cells_cons, cellv_cons, cellv_nil, OV.val_v] using hr1
  refine HFnF.mkH (mark_ReportSS x.fQueues y_16 (k + (y_0.ct : Int) + (y_3.ct : Int) + (y_4.ct : Int) + (y_5.ct : Int) + (y_8.ct : Int) + (y_9.ct : Int) + (y_10.ct : Int) + (y_11.ct : Int) + (y_12.ct : Int) + (y_13.ct : Int)) _ o_16 (by omega) (by omega) hp2.owns.right.left (nodup_mid (hp2.nodup nd))) ?_
  rintro r g2 ⟨rfl, hch2⟩
  have hr2 := hp2.trans (Chg.mid hp2.owns (hp2.nodup nd) (by simpa only [List.append_assoc, List.cons_append, List.nil_append, List.append_nil, OV.row_cons, OV.row_nil, OV.v_rows, rowsRows_cons, rowsRows_app, cells_append, cells_cons, cellv_cons, cellv_nil, OV.val_v] using hch2))
  simp (maxSteps := 1000000) -dsimp -implicitDefEqProofs only [go_sem, ↓reduceIte, keep25, ib25, mk25, Tryz.f25, OV.map_val, OV.map_val_nil, OV.val_v, o_0.flat, o_0.one, o_3.flat, o_3.one, o_4.flat, o_4.one, o_5.flat, o_5.one, o_8.flat, o_8.one, o_9.flat, o_9.one, o_10.flat, o_10.one, o_11.flat, o_11.one, o_12.flat, o_12.one, o_13.flat, o_13.one, o_16.flat, o_16.one, o_17.flat, o_17.one]
  have hp3 : Chg h g2 L0 (((y_0.mk (k)).rows ++ (y_3.mk (k + (y_0.ct : Int))).rows ++ (y_4.mk (k + (y_0.ct : Int) + (y_3.ct : Int))).rows ++ (y_5.mk (k + (y_0.ct : Int) + (y_3.ct : Int) + (y_4.ct : Int))).rows ++ (y_8.mk (k + (y_0.ct : Int) + (y_3.ct : Int) + (y_4.ct : Int) + (y_5.ct : Int))).rows ++ (y_9.mk (k + (y_0.ct : Int) + (y_3.ct : Int) + (y_4.ct : Int) + (y_5.ct : Int) + (y_8.ct : Int))).rows ++ (y_10.mk (k + (y_0.ct : Int) + (y_3.ct : Int) + (y_4.ct : Int) + (y_5.ct : Int) + (y_8.ct : Int) + (y_9.ct : Int))).rows ++ (y_11.mk (k + (y_0.ct : Int) + (y_3.ct : Int) + (y_4.ct : Int) + (y_5.ct : Int) + (y_8.ct : Int) + (y_9.ct : Int) + (y_10.ct : Int))).rows ++ (y_12.mk (k + (y_0.ct : Int) + (y_3.ct : Int) + (y_4.ct : Int) + (y_5.ct : Int) + (y_8.ct : Int) + (y_9.ct : Int) + (y_10.ct : Int) + (y_11.ct : Int))).rows ++ (y_13.mk (k + (y_0.ct : Int) + (y_3.ct : Int) + (y_4.ct : Int) + (y_5.ct : Int) + (y_8.ct : Int) + (y_9.ct : Int) + (y_10.ct : Int) + (y_11.ct : Int) + (y_12.ct : Int))).rows ++ (y_16.mk (k + (y_0.ct : Int) + (y_3.ct : Int) + (y_4.ct : Int) + (y_5.ct : Int) + (y_8.ct : Int) + (y_9.ct : Int) + (y_10.ct : Int) + (y_11.ct : Int) + (y_12.ct : Int) + (y_13.ct : Int))).rows) ++ ((y_17.rows) ++ (([] : List (Nat × HObj))))) := by simpa only [List.append_assoc, List.cons_append, List.nil_append, List.append_nil, OV.row_cons, OV.row_nil, OV.v_rows, rowsRows_cons, rowsRows_app, cells_append, cells_cons, cellv_cons, cellv_nil, OV.val_v] using hr2
  refine HFnF.mkH (mark_ReportS x.fFlying y_17 (k + (y_0.ct : Int) + (y_3.ct : Int) + (y_4.ct : Int) + (y_5.ct : Int) + (y_8.ct : Int) + (y_9.ct : Int) + (y_10.ct : Int) + (y_11.ct : Int) + (y_12.ct : Int) + (y_13.ct : Int) + (y_16.ct : Int)) _ o_17 (by omega) (by omega) hp3.owns.right.left (nodup_mid (hp3.nodup nd))) ?_
  rintro r g3 ⟨rfl, hch3⟩
  have hr3 := hp3.trans (Chg.mid hp3.owns (hp3.nodup nd) (by simpa only [List.append_assoc, List.cons_append, List.nil_append, List.append_nil, OV.row_cons, OV.row_nil, OV.v_rows, rowsRows_cons, rowsRows_app, cells_append, cells_cons, cellv_cons, cellv_nil, OV.val_v] using hch3))
  simp (maxSteps := 1000000) -dsimp -implicitDefEqProofs only [go_sem, ↓reduceIte, keep25, ib25, mk25, Tryz.f25, OV.map_val, OV.map_val_nil, OV.val_v, o_0.flat, o_0.one, o_3.flat, o_3.one, o_4.flat, o_4.one, o_5.flat, o_5.one, o_8.flat, o_8.one, o_9.flat, o_9.one, o_10.flat, o_10.one, o_11.flat, o_11.one, o_12.flat, o_12.one, o_13.flat, o_13.one, o_16.flat, o_16.one, o_17.flat, o_17.one]
  refine ⟨g3, Heap.le_refl _, ?_⟩
  first
    | exact ⟨by congr 1; omega, by simpa only [List.append_assoc, List.cons_append, List.nil_append, List.append_nil, OV.row_cons, OV.row_nil, OV.v_rows, rowsRows_cons, rowsRows_app, cells_append, cells_cons, cellv_cons, cellv_nil, OV.val_v, Int.natCast_add, ← Int.add_assoc] using hr3⟩
    | exact ⟨by omega, by simpa only [List.append_assoc, List.cons_append, List.nil_append, List.append_nil, OV.row_cons, OV.row_nil, OV.v_rows, rowsRows_cons, rowsRows_app, cells_append, cells_cons, cellv_cons, cellv_nil, OV.val_v, Int.natCast_add, ← Int.add_assoc] using hr3⟩
    | simpa only [List.append_assoc, List.cons_append, List.nil_append, List.append_nil, OV.row_cons, OV.row_nil, OV.v_rows, rowsRows_cons, rowsRows_app, cells_append, cells_cons, cellv_cons, cellv_nil, OV.val_v, Int.natCast_add, ← Int.add_assoc] using hr3

end Go.Hl

/-
  Contracts of functions and laws of the layer over the walk.
-/
import Derived.Test.YthgfmobhhdmkpaaGreatVvA
namespace Go.Hl
open Go.Proofs
set_option linter.unusedVariables false
set_option linter.unusedSimpArgs false


def keep155 : List Nat := [0, 1, 4, 5, 9, 18, 27, 36, 45, 56]
def ib155 : List Nat := []
def mk155 : Marks := fun _ => ([], .nil, [])
set_option maxRecDepth 100000 in
theorem held_ExprS_step (l : List DExpr) (hk : ∀ x ∈ l, HeldS Tryz.prog 155 (OS DExpr.o 5 x.fKids)) : HeldS Tryz.prog 155 (OS DExpr.o 5 l) := by
  intro y k hy h0 h1
  rcases hy with ⟨rfl, hl⟩ | ⟨n, es, rfl, hor⟩
  · rw [OV.mk_nil, dat_nil, OV.ct_nil]
    refine fn0F 58 keep155 ib155 mk155 mix Tryz.func155 rfl (by kernel_rfl) (by simp) fun h => ?_
    simp (maxSteps := 1000000) -dsimp -implicitDefEqProofs only [go_sem, ↓reduceIte, keep155, ib155, mk155, Tryz.f155]
    refine loopF (keep := keep155) (ib := ib155) (mk := mk155) mix (by kernel_rfl) (fun _ : Unit => [(0, .sl 5 [] false), (1, I k), (5, I 0)]) (fun _ => h) (fun _ => True) (fun _ => 0) () (by simp [SatL, tget, Heap.le_refl]) ?_
    intro _ _
    simp (maxSteps := 1000000) -dsimp -implicitDefEqProofs only [go_sem, ↓reduceIte, keep155, ib155, mk155, Tryz.f155, zero_cast, Int.lt_irrefl]
    first | done | (intro _; simp) | simp
  · rw [OV.mk_sl, dat_sl, OV.ct_sl]
    rw [OV.ct_sl] at h1
    have hlen : (OV.datRows (OV.mkRows k es)).length = es.length := by rw [datRows_len, OV.mkRows_len]
    refine fn0F 58 keep155 ib155 mk155 mix Tryz.func155 rfl (by kernel_rfl) (by simp) fun h => ?_
    simp (maxSteps := 1000000) -dsimp -implicitDefEqProofs only [go_sem, ↓reduceIte, keep155, ib155, mk155, Tryz.f155, hlen]
    refine loopF (keep := keep155) (ib := ib155) (mk := mk155) mix (by kernel_rfl) (fun i : Nat => [(0, .sl 5 (OV.datRows (OV.mkRows k es)) false), (1, I (k + OV.ctRows (es.take i))), (5, I i)]) (fun _ => h) (fun i => i ≤ es.length) (fun i => es.length - i) 0 (by simp [SatL, tget, OV.ctRows, Heap.le_refl]) ?_
    intro i hi
    rcases Nat.lt_or_ge i es.length with hlt | hge
    · have hll : i < l.length := by rw [hor.length]; exact hlt
      obtain ⟨A, e, B, rfl, hA, he⟩ := hor.split i hll
      have t1 : (A ++ e :: B).take i = A := by rw [← hA]; simp
      have t0 : A ++ e :: B = (A ++ [e]) ++ B := by simp
      have t3 : (A ++ e :: B).take (i + 1) = A ++ [e] := by rw [t0]; exact List.take_left' (by simp [hA])
      clear t0
      have hct := OV.ctRows_append A (e :: B)
      rw [OV.ctRows] at hct
      rw [t1]
      have hs3 := OV.ctRows_snoc A e
      have hD : OV.datRows (OV.mkRows k (A ++ e :: B)) = OV.datRows (OV.mkRows k A) ++ (OV.mkRow (k + (OV.ctRows A : Int)) e).map OV.dat :: OV.datRows (OV.mkRows (k + (OV.ctRows A : Int) + (OV.ctRow e : Int)) B) := by
        rw [OV.mkRows_append, datRows_append, OV.mkRows, datRows_cons]
      have hA2 : (OV.datRows (OV.mkRows k A)).length = i := by rw [datRows_len, OV.mkRows_len, hA]
      have hi2 : (i : Int) < (A ++ e :: B).length := by omega
      rw [DExpr.o_iff] at he
      obtain ⟨y_4, rfl, o_4⟩ := he
      simp only [OV.ctRow_cons, OV.ctRow_nil, OV.ct_v, Nat.add_zero, one_cast] at hct hs3
      generalize hkk : k + (OV.ctRows A : Int) = kk at hD ⊢
      have gm : (OV.datRows (OV.mkRows k (A ++ [.v (.int .i64 l[i].fKind), .v (.int .i64 l[i].fNum), .v (.int .i64 l[i].fPick), .v (.int .i64 l[i].fCount), y_4] :: B)))[i]? = some ((OV.mkRow kk [.v (.int .i64 l[i].fKind), .v (.int .i64 l[i].fNum), .v (.int .i64 l[i].fPick), .v (.int .i64 l[i].fCount), y_4]).map OV.dat) := by rw [hD]; exact get_mid hA2
      simp only [OV.mkRow_cons, OV.mkRow_nil, OV.mk_v, leaf_int, leaf_bool, leaf_str, OV.ct_v, one_cast, map_dat_cons, map_dat_nil, dat_v] at gm
      clear hD
      generalize OV.datRows (OV.mkRows k (A ++ [.v (.int .i64 l[i].fKind), .v (.int .i64 l[i].fNum), .v (.int .i64 l[i].fPick), .v (.int .i64 l[i].fCount), y_4] :: B)) = DD at gm hlen ⊢
      have iw0_0 : IntKind.i64.wrap (kk + 1) = kk + 1 := IntWalk.i64_in _ (by omega)
      have iw0_1 : IntKind.i64.wrap (kk + 1 + 1) = kk + 1 + 1 := IntWalk.i64_in _ (by omega)
      have iw0_2 : IntKind.i64.wrap (kk + 1 + 1 + 1) = kk + 1 + 1 + 1 := IntWalk.i64_in _ (by omega)
      have iw0_3 : IntKind.i64.wrap (kk + 1 + 1 + 1 + 1) = kk + 1 + 1 + 1 + 1 := IntWalk.i64_in _ (by omega)
      simp (maxSteps := 1000000) -dsimp -implicitDefEqProofs only [go_sem, ↓reduceIte, keep155, ib155, mk155, Tryz.f155, hlen, hi2, gm, eq_self, decide_true, Bool.not_true, bne_self_eq_false, iw0_0, iw0_1, iw0_2, iw0_3]
      repeat' (with_reducible first | intro _ | refine And.intro ?_ ?_)
      all_goals try omega
      all_goals try (exact absurd rfl (by assumption))
      refine HFnF.mk ((hk l[i] (List.getElem_mem hll)) y_4 (kk + 1 + 1 + 1 + 1) o_4 (by omega) (by omega)) ?_
      have hkb0 : ∃ z : Int, z = kk + 1 + 1 + 1 + 1 + (y_4.ct : Int) := ⟨_, rfl⟩
      obtain ⟨kk0, hkb0⟩ := hkb0
      rw [← hkb0]
      simp (maxSteps := 1000000) -dsimp -implicitDefEqProofs only [go_sem, ↓reduceIte, keep155, ib155, mk155, Tryz.f155, hlen, hi2, gm, eq_self, decide_true, Bool.not_true, bne_self_eq_false, iw0_0, iw0_1, iw0_2, iw0_3]
      repeat' (with_reducible first | intro _ | refine And.intro ?_ ?_)
      all_goals try omega
      all_goals try (exact absurd rfl (by assumption))
      refine ⟨i + 1, ?_⟩
      simp only [t3, hs3]
      repeat' (with_reducible first | intro _ | refine And.intro ?_ ?_)
      all_goals first | rfl | trivial | omega | exact Heap.le_refl _ | (rw [IntWalk.i64_in _ (by omega)]; omega)
    · have hi2 : i = es.length := by omega
      subst hi2
      rw [List.take_length]
      simp (maxSteps := 1000000) -dsimp -implicitDefEqProofs only [go_sem, ↓reduceIte, keep155, ib155, mk155, Tryz.f155, hlen, Int.lt_irrefl, Nat.lt_irrefl]
      first | done | (intro _; rfl) | rfl
theorem held_ExprS (l : List DExpr) : HeldS Tryz.prog 155 (OS DExpr.o 5 l) :=
  held_ExprS_step l fun x hx => held_ExprS x.fKids
termination_by SizeOf.sizeOf l
decreasing_by
  have h1 := List.sizeOf_lt_of_mem hx
  cases x
  simp only [DExpr.mk.sizeOf_spec, DExpr.fKids] at h1 ⊢
  omega



def keep141 : List Nat := [0, 1, 4, 5, 9, 19, 28, 39]
def ib141 : List Nat := []
def mk141 : Marks := fun id => match id with | 4 => ([], (.op 0 (.op 1 (.op 2 (.op 3 (.op 4 (.op 5 (.op 6 (.op 7 .nil)))))))), []) | _ => ([], .nil, [])
set_option maxRecDepth 100000 in
theorem held_FuncS (l : List DFunc) : HeldS Tryz.prog 141 (OS DFunc.o 3 l) := by
  intro y k hy h0 h1
  rcases hy with ⟨rfl, hl⟩ | ⟨n, es, rfl, hor⟩
  · rw [OV.mk_nil, dat_nil, OV.ct_nil]
    refine fn0F 41 keep141 ib141 mk141 mix Tryz.func141 rfl (by kernel_rfl) (by simp) fun h => ?_
    simp (maxSteps := 1000000) -dsimp -implicitDefEqProofs only [go_sem, ↓reduceIte, keep141, ib141, mk141, Tryz.f141]
    refine loopF (keep := keep141) (ib := ib141) (mk := mk141) mix (by kernel_rfl) (fun _ : Unit => [(0, .sl 3 [] false), (1, I k), (5, I 0)]) (fun _ => h) (fun _ => True) (fun _ => 0) () (by simp [SatL, tget, Heap.le_refl]) ?_
    intro _ _
    simp (maxSteps := 1000000) -dsimp -implicitDefEqProofs only [go_sem, ↓reduceIte, keep141, ib141, mk141, Tryz.f141, zero_cast, Int.lt_irrefl]
    first | done | (intro _; simp) | simp
  · rw [OV.mk_sl, dat_sl, OV.ct_sl]
    rw [OV.ct_sl] at h1
    have hlen : (OV.datRows (OV.mkRows k es)).length = es.length := by rw [datRows_len, OV.mkRows_len]
    refine fn0F 41 keep141 ib141 mk141 mix Tryz.func141 rfl (by kernel_rfl) (by simp) fun h => ?_
    simp (maxSteps := 1000000) -dsimp -implicitDefEqProofs only [go_sem, ↓reduceIte, keep141, ib141, mk141, Tryz.f141, hlen]
    refine loopF (keep := keep141) (ib := ib141) (mk := mk141) mix (by kernel_rfl) (fun i : Nat => [(0, .sl 3 (OV.datRows (OV.mkRows k es)) false), (1, I (k + OV.ctRows (es.take i))), (5, I i)]) (fun _ => h) (fun i => i ≤ es.length) (fun i => es.length - i) 0 (by simp [SatL, tget, OV.ctRows, Heap.le_refl]) ?_
    intro i hi
    rcases Nat.lt_or_ge i es.length with hlt | hge
    · have hll : i < l.length := by rw [hor.length]; exact hlt
      obtain ⟨A, e, B, rfl, hA, he⟩ := hor.split i hll
      have t1 : (A ++ e :: B).take i = A := by rw [← hA]; simp
      have t0 : A ++ e :: B = (A ++ [e]) ++ B := by simp
      have t3 : (A ++ e :: B).take (i + 1) = A ++ [e] := by rw [t0]; exact List.take_left' (by simp [hA])
      clear t0
      have hct := OV.ctRows_append A (e :: B)
      rw [OV.ctRows] at hct
      rw [t1]
      have hs3 := OV.ctRows_snoc A e
      have hD : OV.datRows (OV.mkRows k (A ++ e :: B)) = OV.datRows (OV.mkRows k A) ++ (OV.mkRow (k + (OV.ctRows A : Int)) e).map OV.dat :: OV.datRows (OV.mkRows (k + (OV.ctRows A : Int) + (OV.ctRow e : Int)) B) := by
        rw [OV.mkRows_append, datRows_append, OV.mkRows, datRows_cons]
      have hA2 : (OV.datRows (OV.mkRows k A)).length = i := by rw [datRows_len, OV.mkRows_len, hA]
      have hi2 : (i : Int) < (A ++ e :: B).length := by omega
      obtain ⟨y_2, rfl, o_2⟩ := he
      simp only [OV.ctRow_cons, OV.ctRow_nil, OV.ct_v, Nat.add_zero, one_cast] at hct hs3
      generalize hkk : k + (OV.ctRows A : Int) = kk at hD ⊢
      have gm : (OV.datRows (OV.mkRows k (A ++ [.v (.str l[i].fName), .v (.int .i64 l[i].fParams), y_2] :: B)))[i]? = some ((OV.mkRow kk [.v (.str l[i].fName), .v (.int .i64 l[i].fParams), y_2]).map OV.dat) := by rw [hD]; exact get_mid hA2
      simp only [OV.mkRow_cons, OV.mkRow_nil, OV.mk_v, leaf_int, leaf_bool, leaf_str, OV.ct_v, one_cast, map_dat_cons, map_dat_nil, dat_v] at gm
      clear hD
      generalize OV.datRows (OV.mkRows k (A ++ [.v (.str l[i].fName), .v (.int .i64 l[i].fParams), y_2] :: B)) = DD at gm hlen ⊢
      have iw0_0 : IntKind.i64.wrap (kk + 1) = kk + 1 := IntWalk.i64_in _ (by omega)
      have iw0_1 : IntKind.i64.wrap (kk + 1 + 1) = kk + 1 + 1 := IntWalk.i64_in _ (by omega)
      simp (maxSteps := 1000000) -dsimp -implicitDefEqProofs only [go_sem, ↓reduceIte, keep141, ib141, mk141, Tryz.f141, hlen, hi2, gm, eq_self, decide_true, Bool.not_true, bne_self_eq_false, iw0_0, iw0_1]
      repeat' (with_reducible first | intro _ | refine And.intro ?_ ?_)
      all_goals try omega
      all_goals try (exact absurd rfl (by assumption))
      first | refine HFnF.mk (markText (kk) (by omega)) ?_ | refine CallSF.mk (markText (kk) (by omega)) ?_
      simp (maxSteps := 1000000) -dsimp -implicitDefEqProofs only [go_sem, ↓reduceIte, keep141, ib141, mk141, Tryz.f141, hlen, hi2, gm, eq_self, decide_true, Bool.not_true, bne_self_eq_false, iw0_0, iw0_1]
      repeat' (with_reducible first | intro _ | refine And.intro ?_ ?_)
      all_goals try omega
      all_goals try (exact absurd rfl (by assumption))
      refine HFnF.mk ((held_ExprS l[i].fOuts) y_2 (kk + 1 + 1) o_2 (by omega) (by omega)) ?_
      have hkb0 : ∃ z : Int, z = kk + 1 + 1 + (y_2.ct : Int) := ⟨_, rfl⟩
      obtain ⟨kk0, hkb0⟩ := hkb0
      rw [← hkb0]
      simp (maxSteps := 1000000) -dsimp -implicitDefEqProofs only [go_sem, ↓reduceIte, keep141, ib141, mk141, Tryz.f141, hlen, hi2, gm, eq_self, decide_true, Bool.not_true, bne_self_eq_false, iw0_0, iw0_1]
      repeat' (with_reducible first | intro _ | refine And.intro ?_ ?_)
      all_goals try omega
      all_goals try (exact absurd rfl (by assumption))
      refine ⟨i + 1, ?_⟩
      simp only [t3, hs3]
      repeat' (with_reducible first | intro _ | refine And.intro ?_ ?_)
      all_goals first | rfl | trivial | omega | exact Heap.le_refl _ | (rw [IntWalk.i64_in _ (by omega)]; omega)
    · have hi2 : i = es.length := by omega
      subst hi2
      rw [List.take_length]
      simp (maxSteps := 1000000) -dsimp -implicitDefEqProofs only [go_sem, ↓reduceIte, keep141, ib141, mk141, Tryz.f141, hlen, Int.lt_irrefl, Nat.lt_irrefl]
      first | done | (intro _; rfl) | rfl

def keep117 : List Nat := [0, 1, 2, 4, 10]
def ib117 : List Nat := [2]
def mk117 : Marks := fun _ => ([], .nil, [])
set_option maxRecDepth 100000 in
theorem held_Program (x : DProgram) : HeldA Tryz.prog 117 x.o := by
  intro e k he h0 h1
  obtain ⟨y_0, rfl, o_0⟩ := he
  simp only [OV.ctTop_cons, OV.ctTop_nil, OV.ctT_v, OV.mkTop_cons, OV.mkTop_nil, OV.mkT_v, Nat.add_zero, Nat.zero_add, zero_cast, Int.add_zero, Int.zero_add, o_0.ctT, o_0.mkT, map_dat_cons, map_dat_nil, dat_v] at h1 ⊢
  refine fn0F 12 keep117 ib117 mk117 mix Tryz.func117 rfl (by kernel_rfl) (by simp) fun h => ?_
  simp (maxSteps := 1000000) -dsimp -implicitDefEqProofs only [go_sem, ↓reduceIte, keep117, ib117, mk117, Tryz.f117, o_0.datflat, o_0.datone]
  repeat' (with_reducible first | intro _ | refine And.intro ?_ ?_)
  all_goals try omega
  refine HFnF.mk (held_FuncS x.fFuncs y_0 (k) o_0 (by omega) (by omega)) ?_
  simp (maxSteps := 1000000) -dsimp -implicitDefEqProofs only [go_sem, ↓reduceIte, keep117, ib117, mk117, Tryz.f117, o_0.datflat, o_0.datone]
  repeat' (with_reducible first | intro _ | refine And.intro ?_ ?_)
  all_goals try omega
  all_goals first | done | rfl | trivial | (congr 1; omega) | omega | (simp only [go_sem]; omega)

def keep17 : List Nat := [0, 1, 4, 5, 9, 17]
def ib17 : List Nat := []
def mk17 : Marks := fun _ => ([], .nil, [])
set_option maxRecDepth 100000 in
theorem held_Int64S (l : List Int) : HeldS Tryz.prog 17 (OS (oP I) 1 l) := by
  intro y k hy h0 h1
  rcases hy with ⟨rfl, hl⟩ | ⟨n, es, rfl, hor⟩
  · rw [OV.mk_nil, dat_nil, OV.ct_nil]
    refine fn0F 21 keep17 ib17 mk17 mix Tryz.func17 rfl (by kernel_rfl) (by simp) fun h => ?_
    simp (maxSteps := 1000000) -dsimp -implicitDefEqProofs only [go_sem, ↓reduceIte, keep17, ib17, mk17, Tryz.f17]
    refine loopF (keep := keep17) (ib := ib17) (mk := mk17) mix (by kernel_rfl) (fun _ : Unit => [(0, .sl 1 [] false), (1, I k), (5, I 0)]) (fun _ => h) (fun _ => True) (fun _ => 0) () (by simp [SatL, tget, Heap.le_refl]) ?_
    intro _ _
    simp (maxSteps := 1000000) -dsimp -implicitDefEqProofs only [go_sem, ↓reduceIte, keep17, ib17, mk17, Tryz.f17, zero_cast, Int.lt_irrefl]
    first | done | (intro _; simp) | simp
  · rw [OV.mk_sl, dat_sl, OV.ct_sl]
    rw [OV.ct_sl] at h1
    have hlen : (OV.datRows (OV.mkRows k es)).length = es.length := by rw [datRows_len, OV.mkRows_len]
    refine fn0F 21 keep17 ib17 mk17 mix Tryz.func17 rfl (by kernel_rfl) (by simp) fun h => ?_
    simp (maxSteps := 1000000) -dsimp -implicitDefEqProofs only [go_sem, ↓reduceIte, keep17, ib17, mk17, Tryz.f17, hlen]
    refine loopF (keep := keep17) (ib := ib17) (mk := mk17) mix (by kernel_rfl) (fun i : Nat => [(0, .sl 1 (OV.datRows (OV.mkRows k es)) false), (1, I (k + OV.ctRows (es.take i))), (5, I i)]) (fun _ => h) (fun i => i ≤ es.length) (fun i => es.length - i) 0 (by simp [SatL, tget, OV.ctRows, Heap.le_refl]) ?_
    intro i hi
    rcases Nat.lt_or_ge i es.length with hlt | hge
    · have hll : i < l.length := by rw [hor.length]; exact hlt
      obtain ⟨A, e, B, rfl, hA, he⟩ := hor.split i hll
      have t1 : (A ++ e :: B).take i = A := by rw [← hA]; simp
      have t0 : A ++ e :: B = (A ++ [e]) ++ B := by simp
      have t3 : (A ++ e :: B).take (i + 1) = A ++ [e] := by rw [t0]; exact List.take_left' (by simp [hA])
      clear t0
      have hct := OV.ctRows_append A (e :: B)
      rw [OV.ctRows] at hct
      rw [t1]
      have hs3 := OV.ctRows_snoc A e
      have hD : OV.datRows (OV.mkRows k (A ++ e :: B)) = OV.datRows (OV.mkRows k A) ++ (OV.mkRow (k + (OV.ctRows A : Int)) e).map OV.dat :: OV.datRows (OV.mkRows (k + (OV.ctRows A : Int) + (OV.ctRow e : Int)) B) := by
        rw [OV.mkRows_append, datRows_append, OV.mkRows, datRows_cons]
      have hA2 : (OV.datRows (OV.mkRows k A)).length = i := by rw [datRows_len, OV.mkRows_len, hA]
      have hi2 : (i : Int) < (A ++ e :: B).length := by omega
      obtain rfl : _ = _ := he
      simp only [OV.ctRow_cons, OV.ctRow_nil, OV.ct_v, Nat.add_zero, one_cast] at hct hs3
      generalize hkk : k + (OV.ctRows A : Int) = kk at hD ⊢
      have gm : (OV.datRows (OV.mkRows k (A ++ [.v (.int .i64 l[i])] :: B)))[i]? = some ((OV.mkRow kk [.v (.int .i64 l[i])]).map OV.dat) := by rw [hD]; exact get_mid hA2
      simp only [OV.mkRow_cons, OV.mkRow_nil, OV.mk_v, leaf_int, leaf_bool, leaf_str, OV.ct_v, one_cast, map_dat_cons, map_dat_nil, dat_v] at gm
      clear hD
      generalize OV.datRows (OV.mkRows k (A ++ [.v (.int .i64 l[i])] :: B)) = DD at gm hlen ⊢
      have iw0_0 : IntKind.i64.wrap (kk + 1) = kk + 1 := IntWalk.i64_in _ (by omega)
      simp (maxSteps := 1000000) -dsimp -implicitDefEqProofs only [go_sem, ↓reduceIte, keep17, ib17, mk17, Tryz.f17, hlen, hi2, gm, eq_self, decide_true, Bool.not_true, bne_self_eq_false, iw0_0]
      repeat' (with_reducible first | intro _ | refine And.intro ?_ ?_)
      all_goals try omega
      all_goals try (exact absurd rfl (by assumption))
      refine ⟨i + 1, ?_⟩
      simp only [t3, hs3]
      repeat' (with_reducible first | intro _ | refine And.intro ?_ ?_)
      all_goals first | rfl | trivial | omega | exact Heap.le_refl _ | (rw [IntWalk.i64_in _ (by omega)]; omega)
    · have hi2 : i = es.length := by omega
      subst hi2
      rw [List.take_length]
      simp (maxSteps := 1000000) -dsimp -implicitDefEqProofs only [go_sem, ↓reduceIte, keep17, ib17, mk17, Tryz.f17, hlen, Int.lt_irrefl, Nat.lt_irrefl]
      first | done | (intro _; rfl) | rfl

def keep118 : List Nat := [0, 1, 4, 5, 9, 19]
def ib118 : List Nat := []
def mk118 : Marks := fun _ => ([], .nil, [])
set_option maxRecDepth 100000 in
theorem held_Int64SS (l : List (List Int)) : HeldS Tryz.prog 118 (OS (oS (oP I) 1) 1 l) := by
  intro y k hy h0 h1
  rcases hy with ⟨rfl, hl⟩ | ⟨n, es, rfl, hor⟩
  · rw [OV.mk_nil, dat_nil, OV.ct_nil]
    refine fn0F 21 keep118 ib118 mk118 mix Tryz.func118 rfl (by kernel_rfl) (by simp) fun h => ?_
    simp (maxSteps := 1000000) -dsimp -implicitDefEqProofs only [go_sem, ↓reduceIte, keep118, ib118, mk118, Tryz.f118]
    refine loopF (keep := keep118) (ib := ib118) (mk := mk118) mix (by kernel_rfl) (fun _ : Unit => [(0, .sl 1 [] false), (1, I k), (5, I 0)]) (fun _ => h) (fun _ => True) (fun _ => 0) () (by simp [SatL, tget, Heap.le_refl]) ?_
    intro _ _
    simp (maxSteps := 1000000) -dsimp -implicitDefEqProofs only [go_sem, ↓reduceIte, keep118, ib118, mk118, Tryz.f118, zero_cast, Int.lt_irrefl]
    first | done | (intro _; simp) | simp
  · rw [OV.mk_sl, dat_sl, OV.ct_sl]
    rw [OV.ct_sl] at h1
    have hlen : (OV.datRows (OV.mkRows k es)).length = es.length := by rw [datRows_len, OV.mkRows_len]
    refine fn0F 21 keep118 ib118 mk118 mix Tryz.func118 rfl (by kernel_rfl) (by simp) fun h => ?_
    simp (maxSteps := 1000000) -dsimp -implicitDefEqProofs only [go_sem, ↓reduceIte, keep118, ib118, mk118, Tryz.f118, hlen]
    refine loopF (keep := keep118) (ib := ib118) (mk := mk118) mix (by kernel_rfl) (fun i : Nat => [(0, .sl 1 (OV.datRows (OV.mkRows k es)) false), (1, I (k + OV.ctRows (es.take i))), (5, I i)]) (fun _ => h) (fun i => i ≤ es.length) (fun i => es.length - i) 0 (by simp [SatL, tget, OV.ctRows, Heap.le_refl]) ?_
    intro i hi
    rcases Nat.lt_or_ge i es.length with hlt | hge
    · have hll : i < l.length := by rw [hor.length]; exact hlt
      obtain ⟨A, e, B, rfl, hA, he⟩ := hor.split i hll
      have t1 : (A ++ e :: B).take i = A := by rw [← hA]; simp
      have t0 : A ++ e :: B = (A ++ [e]) ++ B := by simp
      have t3 : (A ++ e :: B).take (i + 1) = A ++ [e] := by rw [t0]; exact List.take_left' (by simp [hA])
      clear t0
      have hct := OV.ctRows_append A (e :: B)
      rw [OV.ctRows] at hct
      rw [t1]
      have hs3 := OV.ctRows_snoc A e
      have hD : OV.datRows (OV.mkRows k (A ++ e :: B)) = OV.datRows (OV.mkRows k A) ++ (OV.mkRow (k + (OV.ctRows A : Int)) e).map OV.dat :: OV.datRows (OV.mkRows (k + (OV.ctRows A : Int) + (OV.ctRow e : Int)) B) := by
        rw [OV.mkRows_append, datRows_append, OV.mkRows, datRows_cons]
      have hA2 : (OV.datRows (OV.mkRows k A)).length = i := by rw [datRows_len, OV.mkRows_len, hA]
      have hi2 : (i : Int) < (A ++ e :: B).length := by omega
      obtain ⟨y_0, rfl, o_0⟩ := he
      simp only [OV.ctRow_cons, OV.ctRow_nil, OV.ct_v, Nat.add_zero, one_cast] at hct hs3
      generalize hkk : k + (OV.ctRows A : Int) = kk at hD ⊢
      have gm : (OV.datRows (OV.mkRows k (A ++ [y_0] :: B)))[i]? = some ((OV.mkRow kk [y_0]).map OV.dat) := by rw [hD]; exact get_mid hA2
      simp only [OV.mkRow_cons, OV.mkRow_nil, OV.mk_v, leaf_int, leaf_bool, leaf_str, OV.ct_v, one_cast, map_dat_cons, map_dat_nil, dat_v] at gm
      clear hD
      generalize OV.datRows (OV.mkRows k (A ++ [y_0] :: B)) = DD at gm hlen ⊢
      simp (maxSteps := 1000000) -dsimp -implicitDefEqProofs only [go_sem, ↓reduceIte, keep118, ib118, mk118, Tryz.f118, hlen, hi2, gm, eq_self, decide_true, Bool.not_true, bne_self_eq_false]
      repeat' (with_reducible first | intro _ | refine And.intro ?_ ?_)
      all_goals try omega
      all_goals try (exact absurd rfl (by assumption))
      refine HFnF.mk ((held_Int64S l[i]) y_0 (kk) o_0 (by omega) (by omega)) ?_
      have hkb0 : ∃ z : Int, z = kk + (y_0.ct : Int) := ⟨_, rfl⟩
      obtain ⟨kk0, hkb0⟩ := hkb0
      rw [← hkb0]
      simp (maxSteps := 1000000) -dsimp -implicitDefEqProofs only [go_sem, ↓reduceIte, keep118, ib118, mk118, Tryz.f118, hlen, hi2, gm, eq_self, decide_true, Bool.not_true, bne_self_eq_false]
      repeat' (with_reducible first | intro _ | refine And.intro ?_ ?_)
      all_goals try omega
      all_goals try (exact absurd rfl (by assumption))
      refine ⟨i + 1, ?_⟩
      simp only [t3, hs3]
      repeat' (with_reducible first | intro _ | refine And.intro ?_ ?_)
      all_goals first | rfl | trivial | omega | exact Heap.le_refl _ | (rw [IntWalk.i64_in _ (by omega)]; omega)
    · have hi2 : i = es.length := by omega
      subst hi2
      rw [List.take_length]
      simp (maxSteps := 1000000) -dsimp -implicitDefEqProofs only [go_sem, ↓reduceIte, keep118, ib118, mk118, Tryz.f118, hlen, Int.lt_irrefl, Nat.lt_irrefl]
      first | done | (intro _; rfl) | rfl

def keep75 : List Nat := [0, 1, 2, 4, 10, 16, 22]
def ib75 : List Nat := [2]
def mk75 : Marks := fun _ => ([], .nil, [])
set_option maxRecDepth 100000 in
theorem held_Job (x : DJob) : HeldA Tryz.prog 75 x.o := by
  intro e k he h0 h1
  obtain ⟨y_0, y_3, y_4, rfl, o_0, o_3, o_4⟩ := he
  simp only [OV.ctTop_cons, OV.ctTop_nil, OV.ctT_v, OV.mkTop_cons, OV.mkTop_nil, OV.mkT_v, Nat.add_zero, Nat.zero_add, zero_cast, Int.add_zero, Int.zero_add, o_0.ctT, o_0.mkT, o_3.ctT, o_3.mkT, o_4.ctT, o_4.mkT, map_dat_cons, map_dat_nil, dat_v] at h1 ⊢
  refine fn0F 24 keep75 ib75 mk75 mix Tryz.func75 rfl (by kernel_rfl) (by simp) fun h => ?_
  simp (maxSteps := 1000000) -dsimp -implicitDefEqProofs only [go_sem, ↓reduceIte, keep75, ib75, mk75, Tryz.f75, o_0.datflat, o_0.datone, o_3.datflat, o_3.datone, o_4.datflat, o_4.datone]
  repeat' (with_reducible first | intro _ | refine And.intro ?_ ?_)
  all_goals try omega
  have hs0 := held_Program x.fProgram [y_0] (k) ⟨y_0, rfl, o_0⟩ (by omega) (by simp only [OV.ctTop_cons, OV.ctTop_nil, OV.ctT_v, OV.mkTop_cons, OV.mkTop_nil, OV.mkT_v, Nat.add_zero, Nat.zero_add, zero_cast, Int.add_zero, Int.zero_add, o_0.ctT, o_0.mkT, o_3.ctT, o_3.mkT, o_4.ctT, o_4.mkT]; omega)
  simp only [OV.ctTop_cons, OV.ctTop_nil, OV.ctT_v, OV.mkTop_cons, OV.mkTop_nil, OV.mkT_v, Nat.add_zero, Nat.zero_add, zero_cast, Int.add_zero, Int.zero_add, o_0.ctT, o_0.mkT, o_3.ctT, o_3.mkT, o_4.ctT, o_4.mkT, map_dat_cons, map_dat_nil, dat_v, Int.natCast_add, ← Int.add_assoc] at hs0
  refine HFnF.mk hs0 ?_
  simp (maxSteps := 1000000) -dsimp -implicitDefEqProofs only [go_sem, ↓reduceIte, keep75, ib75, mk75, Tryz.f75, o_0.datflat, o_0.datone, o_3.datflat, o_3.datone, o_4.datflat, o_4.datone]
  repeat' (with_reducible first | intro _ | refine And.intro ?_ ?_)
  all_goals try omega
  refine HFnF.mk (held_Int64S x.fPoint y_3 (k + (y_0.ct : Int)) o_3 (by omega) (by omega)) ?_
  simp (maxSteps := 1000000) -dsimp -implicitDefEqProofs only [go_sem, ↓reduceIte, keep75, ib75, mk75, Tryz.f75, o_0.datflat, o_0.datone, o_3.datflat, o_3.datone, o_4.datflat, o_4.datone]
  repeat' (with_reducible first | intro _ | refine And.intro ?_ ?_)
  all_goals try omega
  refine HFnF.mk (held_Int64SS x.fTerms y_4 (k + (y_0.ct : Int) + (y_3.ct : Int)) o_4 (by omega) (by omega)) ?_
  simp (maxSteps := 1000000) -dsimp -implicitDefEqProofs only [go_sem, ↓reduceIte, keep75, ib75, mk75, Tryz.f75, o_0.datflat, o_0.datone, o_3.datflat, o_3.datone, o_4.datflat, o_4.datone]
  repeat' (with_reducible first | intro _ | refine And.intro ?_ ?_)
  all_goals try omega
  all_goals first | done | rfl | trivial | (congr 1; omega) | omega | (simp only [go_sem]; omega)


def keep82 : List Nat := [0, 1, 4, 5, 9, 19]
def ib82 : List Nat := []
def mk82 : Marks := fun _ => ([], .nil, [])
set_option maxRecDepth 100000 in
theorem held_BoolS (l : List Bool) : HeldS Tryz.prog 82 (OS (oP HVal.bool) 1 l) := by
  intro y k hy h0 h1
  rcases hy with ⟨rfl, hl⟩ | ⟨n, es, rfl, hor⟩
  · rw [OV.mk_nil, dat_nil, OV.ct_nil]
    refine fn0F 23 keep82 ib82 mk82 mix Tryz.func82 rfl (by kernel_rfl) (by simp) fun h => ?_
    simp (maxSteps := 1000000) -dsimp -implicitDefEqProofs only [go_sem, ↓reduceIte, keep82, ib82, mk82, Tryz.f82]
    refine loopF (keep := keep82) (ib := ib82) (mk := mk82) mix (by kernel_rfl) (fun _ : Unit => [(0, .sl 1 [] false), (1, I k), (5, I 0)]) (fun _ => h) (fun _ => True) (fun _ => 0) () (by simp [SatL, tget, Heap.le_refl]) ?_
    intro _ _
    simp (maxSteps := 1000000) -dsimp -implicitDefEqProofs only [go_sem, ↓reduceIte, keep82, ib82, mk82, Tryz.f82, zero_cast, Int.lt_irrefl]
    first | done | (intro _; simp) | simp
  · rw [OV.mk_sl, dat_sl, OV.ct_sl]
    rw [OV.ct_sl] at h1
    have hlen : (OV.datRows (OV.mkRows k es)).length = es.length := by rw [datRows_len, OV.mkRows_len]
    refine fn0F 23 keep82 ib82 mk82 mix Tryz.func82 rfl (by kernel_rfl) (by simp) fun h => ?_
    simp (maxSteps := 1000000) -dsimp -implicitDefEqProofs only [go_sem, ↓reduceIte, keep82, ib82, mk82, Tryz.f82, hlen]
    refine loopF (keep := keep82) (ib := ib82) (mk := mk82) mix (by kernel_rfl) (fun i : Nat => [(0, .sl 1 (OV.datRows (OV.mkRows k es)) false), (1, I (k + OV.ctRows (es.take i))), (5, I i)]) (fun _ => h) (fun i => i ≤ es.length) (fun i => es.length - i) 0 (by simp [SatL, tget, OV.ctRows, Heap.le_refl]) ?_
    intro i hi
    rcases Nat.lt_or_ge i es.length with hlt | hge
    · have hll : i < l.length := by rw [hor.length]; exact hlt
      obtain ⟨A, e, B, rfl, hA, he⟩ := hor.split i hll
      have t1 : (A ++ e :: B).take i = A := by rw [← hA]; simp
      have t0 : A ++ e :: B = (A ++ [e]) ++ B := by simp
      have t3 : (A ++ e :: B).take (i + 1) = A ++ [e] := by rw [t0]; exact List.take_left' (by simp [hA])
      clear t0
      have hct := OV.ctRows_append A (e :: B)
      rw [OV.ctRows] at hct
      rw [t1]
      have hs3 := OV.ctRows_snoc A e
      have hD : OV.datRows (OV.mkRows k (A ++ e :: B)) = OV.datRows (OV.mkRows k A) ++ (OV.mkRow (k + (OV.ctRows A : Int)) e).map OV.dat :: OV.datRows (OV.mkRows (k + (OV.ctRows A : Int) + (OV.ctRow e : Int)) B) := by
        rw [OV.mkRows_append, datRows_append, OV.mkRows, datRows_cons]
      have hA2 : (OV.datRows (OV.mkRows k A)).length = i := by rw [datRows_len, OV.mkRows_len, hA]
      have hi2 : (i : Int) < (A ++ e :: B).length := by omega
      obtain rfl : _ = _ := he
      simp only [OV.ctRow_cons, OV.ctRow_nil, OV.ct_v, Nat.add_zero, one_cast] at hct hs3
      generalize hkk : k + (OV.ctRows A : Int) = kk at hD ⊢
      have gm : (OV.datRows (OV.mkRows k (A ++ [.v (.bool l[i])] :: B)))[i]? = some ((OV.mkRow kk [.v (.bool l[i])]).map OV.dat) := by rw [hD]; exact get_mid hA2
      simp only [OV.mkRow_cons, OV.mkRow_nil, OV.mk_v, leaf_int, leaf_bool, leaf_str, OV.ct_v, one_cast, map_dat_cons, map_dat_nil, dat_v] at gm
      clear hD
      generalize OV.datRows (OV.mkRows k (A ++ [.v (.bool l[i])] :: B)) = DD at gm hlen ⊢
      have iw0_0 : IntKind.i64.wrap (kk + 1) = kk + 1 := IntWalk.i64_in _ (by omega)
      simp (maxSteps := 1000000) -dsimp -implicitDefEqProofs only [go_sem, ↓reduceIte, keep82, ib82, mk82, Tryz.f82, hlen, hi2, gm, eq_self, decide_true, Bool.not_true, bne_self_eq_false, iw0_0]
      repeat' (with_reducible first | intro _ | refine And.intro ?_ ?_)
      all_goals try omega
      all_goals try (exact absurd rfl (by assumption))
      refine ⟨i + 1, ?_⟩
      simp only [t3, hs3]
      repeat' (with_reducible first | intro _ | refine And.intro ?_ ?_)
      all_goals first | rfl | trivial | omega | exact Heap.le_refl _ | (rw [IntWalk.i64_in _ (by omega)]; omega)
    · have hi2 : i = es.length := by omega
      subst hi2
      rw [List.take_length]
      simp (maxSteps := 1000000) -dsimp -implicitDefEqProofs only [go_sem, ↓reduceIte, keep82, ib82, mk82, Tryz.f82, hlen, Int.lt_irrefl, Nat.lt_irrefl]
      first | done | (intro _; rfl) | rfl


def keep83 : List Nat := [0, 1, 4, 5, 9, 18, 27, 38]
def ib83 : List Nat := []
def mk83 : Marks := fun _ => ([], .nil, [])
set_option maxRecDepth 100000 in
theorem held_PartS (l : List DPart) : HeldS Tryz.prog 83 (OS DPart.o 3 l) := by
  intro y k hy h0 h1
  rcases hy with ⟨rfl, hl⟩ | ⟨n, es, rfl, hor⟩
  · rw [OV.mk_nil, dat_nil, OV.ct_nil]
    refine fn0F 40 keep83 ib83 mk83 mix Tryz.func83 rfl (by kernel_rfl) (by simp) fun h => ?_
    simp (maxSteps := 1000000) -dsimp -implicitDefEqProofs only [go_sem, ↓reduceIte, keep83, ib83, mk83, Tryz.f83]
    refine loopF (keep := keep83) (ib := ib83) (mk := mk83) mix (by kernel_rfl) (fun _ : Unit => [(0, .sl 3 [] false), (1, I k), (5, I 0)]) (fun _ => h) (fun _ => True) (fun _ => 0) () (by simp [SatL, tget, Heap.le_refl]) ?_
    intro _ _
    simp (maxSteps := 1000000) -dsimp -implicitDefEqProofs only [go_sem, ↓reduceIte, keep83, ib83, mk83, Tryz.f83, zero_cast, Int.lt_irrefl]
    first | done | (intro _; simp) | simp
  · rw [OV.mk_sl, dat_sl, OV.ct_sl]
    rw [OV.ct_sl] at h1
    have hlen : (OV.datRows (OV.mkRows k es)).length = es.length := by rw [datRows_len, OV.mkRows_len]
    refine fn0F 40 keep83 ib83 mk83 mix Tryz.func83 rfl (by kernel_rfl) (by simp) fun h => ?_
    simp (maxSteps := 1000000) -dsimp -implicitDefEqProofs only [go_sem, ↓reduceIte, keep83, ib83, mk83, Tryz.f83, hlen]
    refine loopF (keep := keep83) (ib := ib83) (mk := mk83) mix (by kernel_rfl) (fun i : Nat => [(0, .sl 3 (OV.datRows (OV.mkRows k es)) false), (1, I (k + OV.ctRows (es.take i))), (5, I i)]) (fun _ => h) (fun i => i ≤ es.length) (fun i => es.length - i) 0 (by simp [SatL, tget, OV.ctRows, Heap.le_refl]) ?_
    intro i hi
    rcases Nat.lt_or_ge i es.length with hlt | hge
    · have hll : i < l.length := by rw [hor.length]; exact hlt
      obtain ⟨A, e, B, rfl, hA, he⟩ := hor.split i hll
      have t1 : (A ++ e :: B).take i = A := by rw [← hA]; simp
      have t0 : A ++ e :: B = (A ++ [e]) ++ B := by simp
      have t3 : (A ++ e :: B).take (i + 1) = A ++ [e] := by rw [t0]; exact List.take_left' (by simp [hA])
      clear t0
      have hct := OV.ctRows_append A (e :: B)
      rw [OV.ctRows] at hct
      rw [t1]
      have hs3 := OV.ctRows_snoc A e
      have hD : OV.datRows (OV.mkRows k (A ++ e :: B)) = OV.datRows (OV.mkRows k A) ++ (OV.mkRow (k + (OV.ctRows A : Int)) e).map OV.dat :: OV.datRows (OV.mkRows (k + (OV.ctRows A : Int) + (OV.ctRow e : Int)) B) := by
        rw [OV.mkRows_append, datRows_append, OV.mkRows, datRows_cons]
      have hA2 : (OV.datRows (OV.mkRows k A)).length = i := by rw [datRows_len, OV.mkRows_len, hA]
      have hi2 : (i : Int) < (A ++ e :: B).length := by omega
      obtain ⟨y_2, rfl, o_2⟩ := he
      simp only [OV.ctRow_cons, OV.ctRow_nil, OV.ct_v, Nat.add_zero, one_cast] at hct hs3
      generalize hkk : k + (OV.ctRows A : Int) = kk at hD ⊢
      have gm : (OV.datRows (OV.mkRows k (A ++ [.v (.int .i64 l[i].fCode), .v (.int .i64 l[i].fValue), y_2] :: B)))[i]? = some ((OV.mkRow kk [.v (.int .i64 l[i].fCode), .v (.int .i64 l[i].fValue), y_2]).map OV.dat) := by rw [hD]; exact get_mid hA2
      simp only [OV.mkRow_cons, OV.mkRow_nil, OV.mk_v, leaf_int, leaf_bool, leaf_str, OV.ct_v, one_cast, map_dat_cons, map_dat_nil, dat_v] at gm
      clear hD
      generalize OV.datRows (OV.mkRows k (A ++ [.v (.int .i64 l[i].fCode), .v (.int .i64 l[i].fValue), y_2] :: B)) = DD at gm hlen ⊢
      have iw0_0 : IntKind.i64.wrap (kk + 1) = kk + 1 := IntWalk.i64_in _ (by omega)
      have iw0_1 : IntKind.i64.wrap (kk + 1 + 1) = kk + 1 + 1 := IntWalk.i64_in _ (by omega)
      simp (maxSteps := 1000000) -dsimp -implicitDefEqProofs only [go_sem, ↓reduceIte, keep83, ib83, mk83, Tryz.f83, hlen, hi2, gm, eq_self, decide_true, Bool.not_true, bne_self_eq_false, iw0_0, iw0_1]
      repeat' (with_reducible first | intro _ | refine And.intro ?_ ?_)
      all_goals try omega
      all_goals try (exact absurd rfl (by assumption))
      refine HFnF.mk ((held_Int64S l[i].fGrad) y_2 (kk + 1 + 1) o_2 (by omega) (by omega)) ?_
      have hkb0 : ∃ z : Int, z = kk + 1 + 1 + (y_2.ct : Int) := ⟨_, rfl⟩
      obtain ⟨kk0, hkb0⟩ := hkb0
      rw [← hkb0]
      simp (maxSteps := 1000000) -dsimp -implicitDefEqProofs only [go_sem, ↓reduceIte, keep83, ib83, mk83, Tryz.f83, hlen, hi2, gm, eq_self, decide_true, Bool.not_true, bne_self_eq_false, iw0_0, iw0_1]
      repeat' (with_reducible first | intro _ | refine And.intro ?_ ?_)
      all_goals try omega
      all_goals try (exact absurd rfl (by assumption))
      refine ⟨i + 1, ?_⟩
      simp only [t3, hs3]
      repeat' (with_reducible first | intro _ | refine And.intro ?_ ?_)
      all_goals first | rfl | trivial | omega | exact Heap.le_refl _ | (rw [IntWalk.i64_in _ (by omega)]; omega)
    · have hi2 : i = es.length := by omega
      subst hi2
      rw [List.take_length]
      simp (maxSteps := 1000000) -dsimp -implicitDefEqProofs only [go_sem, ↓reduceIte, keep83, ib83, mk83, Tryz.f83, hlen, Int.lt_irrefl, Nat.lt_irrefl]
      first | done | (intro _; rfl) | rfl

def keep29 : List Nat := [0, 1, 2, 4, 10, 16, 22, 28, 34]
def ib29 : List Nat := [2]
def mk29 : Marks := fun _ => ([], .nil, [])
set_option maxRecDepth 100000 in
theorem held_Service (x : DService) : HeldA Tryz.prog 29 x.o := by
  intro e k he h0 h1
  obtain ⟨y_0, y_3, y_4, y_5, y_6, y_7, y_8, rfl, o_0, o_3, o_4, o_5, o_6, o_7, o_8⟩ := he
  simp only [OV.ctTop_cons, OV.ctTop_nil, OV.ctT_v, OV.mkTop_cons, OV.mkTop_nil, OV.mkT_v, Nat.add_zero, Nat.zero_add, zero_cast, Int.add_zero, Int.zero_add, o_0.ctT, o_0.mkT, o_3.ctT, o_3.mkT, o_4.ctT, o_4.mkT, o_5.ctT, o_5.mkT, o_6.ctT, o_6.mkT, o_7.ctT, o_7.mkT, o_8.ctT, o_8.mkT, map_dat_cons, map_dat_nil, dat_v] at h1 ⊢
  refine fn0F 36 keep29 ib29 mk29 mix Tryz.func29 rfl (by kernel_rfl) (by simp) fun h => ?_
  simp (maxSteps := 1000000) -dsimp -implicitDefEqProofs only [go_sem, ↓reduceIte, keep29, ib29, mk29, Tryz.f29, o_0.datflat, o_0.datone, o_3.datflat, o_3.datone, o_4.datflat, o_4.datone, o_5.datflat, o_5.datone, o_6.datflat, o_6.datone, o_7.datflat, o_7.datone, o_8.datflat, o_8.datone]
  repeat' (with_reducible first | intro _ | refine And.intro ?_ ?_)
  all_goals try omega
  have hs0 := held_Job x.fJob [y_0, .v (.int .i64 x.fJob.fFunc), .v (.int .i64 x.fJob.fShared), y_3, y_4] (k) ⟨y_0, y_3, y_4, rfl, o_0, o_3, o_4⟩ (by omega) (by simp only [OV.ctTop_cons, OV.ctTop_nil, OV.ctT_v, OV.mkTop_cons, OV.mkTop_nil, OV.mkT_v, Nat.add_zero, Nat.zero_add, zero_cast, Int.add_zero, Int.zero_add, o_0.ctT, o_0.mkT, o_3.ctT, o_3.mkT, o_4.ctT, o_4.mkT, o_5.ctT, o_5.mkT, o_6.ctT, o_6.mkT, o_7.ctT, o_7.mkT, o_8.ctT, o_8.mkT]; omega)
  simp only [OV.ctTop_cons, OV.ctTop_nil, OV.ctT_v, OV.mkTop_cons, OV.mkTop_nil, OV.mkT_v, Nat.add_zero, Nat.zero_add, zero_cast, Int.add_zero, Int.zero_add, o_0.ctT, o_0.mkT, o_3.ctT, o_3.mkT, o_4.ctT, o_4.mkT, o_5.ctT, o_5.mkT, o_6.ctT, o_6.mkT, o_7.ctT, o_7.mkT, o_8.ctT, o_8.mkT, map_dat_cons, map_dat_nil, dat_v, Int.natCast_add, ← Int.add_assoc] at hs0
  refine HFnF.mk hs0 ?_
  simp (maxSteps := 1000000) -dsimp -implicitDefEqProofs only [go_sem, ↓reduceIte, keep29, ib29, mk29, Tryz.f29, o_0.datflat, o_0.datone, o_3.datflat, o_3.datone, o_4.datflat, o_4.datone, o_5.datflat, o_5.datone, o_6.datflat, o_6.datone, o_7.datflat, o_7.datone, o_8.datflat, o_8.datone]
  repeat' (with_reducible first | intro _ | refine And.intro ?_ ?_)
  all_goals try omega
  refine HFnF.mk (held_Int64S x.fStamps y_5 (k + (y_0.ct : Int) + (y_3.ct : Int) + (y_4.ct : Int)) o_5 (by omega) (by omega)) ?_
  simp (maxSteps := 1000000) -dsimp -implicitDefEqProofs only [go_sem, ↓reduceIte, keep29, ib29, mk29, Tryz.f29, o_0.datflat, o_0.datone, o_3.datflat, o_3.datone, o_4.datflat, o_4.datone, o_5.datflat, o_5.datone, o_6.datflat, o_6.datone, o_7.datflat, o_7.datone, o_8.datflat, o_8.datone]
  repeat' (with_reducible first | intro _ | refine And.intro ?_ ?_)
  all_goals try omega
  refine HFnF.mk (held_BoolS x.fKnown y_6 (k + (y_0.ct : Int) + (y_3.ct : Int) + (y_4.ct : Int) + (y_5.ct : Int)) o_6 (by omega) (by omega)) ?_
  simp (maxSteps := 1000000) -dsimp -implicitDefEqProofs only [go_sem, ↓reduceIte, keep29, ib29, mk29, Tryz.f29, o_0.datflat, o_0.datone, o_3.datflat, o_3.datone, o_4.datflat, o_4.datone, o_5.datflat, o_5.datone, o_6.datflat, o_6.datone, o_7.datflat, o_7.datone, o_8.datflat, o_8.datone]
  repeat' (with_reducible first | intro _ | refine And.intro ?_ ?_)
  all_goals try omega
  refine HFnF.mk (held_PartS x.fParts y_7 (k + (y_0.ct : Int) + (y_3.ct : Int) + (y_4.ct : Int) + (y_5.ct : Int) + (y_6.ct : Int)) o_7 (by omega) (by omega)) ?_
  simp (maxSteps := 1000000) -dsimp -implicitDefEqProofs only [go_sem, ↓reduceIte, keep29, ib29, mk29, Tryz.f29, o_0.datflat, o_0.datone, o_3.datflat, o_3.datone, o_4.datflat, o_4.datone, o_5.datflat, o_5.datone, o_6.datflat, o_6.datone, o_7.datflat, o_7.datone, o_8.datflat, o_8.datone]
  repeat' (with_reducible first | intro _ | refine And.intro ?_ ?_)
  all_goals try omega
  refine HFnF.mk (held_Int64S x.fOwners y_8 (k + (y_0.ct : Int) + (y_3.ct : Int) + (y_4.ct : Int) + (y_5.ct : Int) + (y_6.ct : Int) + (y_7.ct : Int)) o_8 (by omega) (by omega)) ?_
  simp (maxSteps := 1000000) -dsimp -implicitDefEqProofs only [go_sem, ↓reduceIte, keep29, ib29, mk29, Tryz.f29, o_0.datflat, o_0.datone, o_3.datflat, o_3.datone, o_4.datflat, o_4.datone, o_5.datflat, o_5.datone, o_6.datflat, o_6.datone, o_7.datflat, o_7.datone, o_8.datflat, o_8.datone]
  repeat' (with_reducible first | intro _ | refine And.intro ?_ ?_)
  all_goals try omega
  all_goals first | done | rfl | trivial | (congr 1; omega) | omega | (simp only [go_sem]; omega)


def keep77 : List Nat := [0, 1, 4, 5, 9, 18, 27, 37, 47, 59]
def ib77 : List Nat := []
def mk77 : Marks := fun _ => ([], .nil, [])
set_option maxRecDepth 100000 in
theorem held_ReportS (l : List DReport) : HeldS Tryz.prog 77 (OS DReport.o 5 l) := by
  intro y k hy h0 h1
  rcases hy with ⟨rfl, hl⟩ | ⟨n, es, rfl, hor⟩
  · rw [OV.mk_nil, dat_nil, OV.ct_nil]
    refine fn0F 61 keep77 ib77 mk77 mix Tryz.func77 rfl (by kernel_rfl) (by simp) fun h => ?_
    simp (maxSteps := 1000000) -dsimp -implicitDefEqProofs only [go_sem, ↓reduceIte, keep77, ib77, mk77, Tryz.f77]
    refine loopF (keep := keep77) (ib := ib77) (mk := mk77) mix (by kernel_rfl) (fun _ : Unit => [(0, .sl 5 [] false), (1, I k), (5, I 0)]) (fun _ => h) (fun _ => True) (fun _ => 0) () (by simp [SatL, tget, Heap.le_refl]) ?_
    intro _ _
    simp (maxSteps := 1000000) -dsimp -implicitDefEqProofs only [go_sem, ↓reduceIte, keep77, ib77, mk77, Tryz.f77, zero_cast, Int.lt_irrefl]
    first | done | (intro _; simp) | simp
  · rw [OV.mk_sl, dat_sl, OV.ct_sl]
    rw [OV.ct_sl] at h1
    have hlen : (OV.datRows (OV.mkRows k es)).length = es.length := by rw [datRows_len, OV.mkRows_len]
    refine fn0F 61 keep77 ib77 mk77 mix Tryz.func77 rfl (by kernel_rfl) (by simp) fun h => ?_
    simp (maxSteps := 1000000) -dsimp -implicitDefEqProofs only [go_sem, ↓reduceIte, keep77, ib77, mk77, Tryz.f77, hlen]
    refine loopF (keep := keep77) (ib := ib77) (mk := mk77) mix (by kernel_rfl) (fun i : Nat => [(0, .sl 5 (OV.datRows (OV.mkRows k es)) false), (1, I (k + OV.ctRows (es.take i))), (5, I i)]) (fun _ => h) (fun i => i ≤ es.length) (fun i => es.length - i) 0 (by simp [SatL, tget, OV.ctRows, Heap.le_refl]) ?_
    intro i hi
    rcases Nat.lt_or_ge i es.length with hlt | hge
    · have hll : i < l.length := by rw [hor.length]; exact hlt
      obtain ⟨A, e, B, rfl, hA, he⟩ := hor.split i hll
      have t1 : (A ++ e :: B).take i = A := by rw [← hA]; simp
      have t0 : A ++ e :: B = (A ++ [e]) ++ B := by simp
      have t3 : (A ++ e :: B).take (i + 1) = A ++ [e] := by rw [t0]; exact List.take_left' (by simp [hA])
      clear t0
      have hct := OV.ctRows_append A (e :: B)
      rw [OV.ctRows] at hct
      rw [t1]
      have hs3 := OV.ctRows_snoc A e
      have hD : OV.datRows (OV.mkRows k (A ++ e :: B)) = OV.datRows (OV.mkRows k A) ++ (OV.mkRow (k + (OV.ctRows A : Int)) e).map OV.dat :: OV.datRows (OV.mkRows (k + (OV.ctRows A : Int) + (OV.ctRow e : Int)) B) := by
        rw [OV.mkRows_append, datRows_append, OV.mkRows, datRows_cons]
      have hA2 : (OV.datRows (OV.mkRows k A)).length = i := by rw [datRows_len, OV.mkRows_len, hA]
      have hi2 : (i : Int) < (A ++ e :: B).length := by omega
      obtain ⟨y_4, rfl, o_4⟩ := he
      simp only [OV.ctRow_cons, OV.ctRow_nil, OV.ct_v, Nat.add_zero, one_cast] at hct hs3
      generalize hkk : k + (OV.ctRows A : Int) = kk at hD ⊢
      have gm : (OV.datRows (OV.mkRows k (A ++ [.v (.int .i64 l[i].fTerm), .v (.int .i64 l[i].fStamp), .v (.int .i64 l[i].fPart.fCode), .v (.int .i64 l[i].fPart.fValue), y_4] :: B)))[i]? = some ((OV.mkRow kk [.v (.int .i64 l[i].fTerm), .v (.int .i64 l[i].fStamp), .v (.int .i64 l[i].fPart.fCode), .v (.int .i64 l[i].fPart.fValue), y_4]).map OV.dat) := by rw [hD]; exact get_mid hA2
      simp only [OV.mkRow_cons, OV.mkRow_nil, OV.mk_v, leaf_int, leaf_bool, leaf_str, OV.ct_v, one_cast, map_dat_cons, map_dat_nil, dat_v] at gm
      clear hD
      generalize OV.datRows (OV.mkRows k (A ++ [.v (.int .i64 l[i].fTerm), .v (.int .i64 l[i].fStamp), .v (.int .i64 l[i].fPart.fCode), .v (.int .i64 l[i].fPart.fValue), y_4] :: B)) = DD at gm hlen ⊢
      have iw0_0 : IntKind.i64.wrap (kk + 1) = kk + 1 := IntWalk.i64_in _ (by omega)
      have iw0_1 : IntKind.i64.wrap (kk + 1 + 1) = kk + 1 + 1 := IntWalk.i64_in _ (by omega)
      have iw0_2 : IntKind.i64.wrap (kk + 1 + 1 + 1) = kk + 1 + 1 + 1 := IntWalk.i64_in _ (by omega)
      have iw0_3 : IntKind.i64.wrap (kk + 1 + 1 + 1 + 1) = kk + 1 + 1 + 1 + 1 := IntWalk.i64_in _ (by omega)
      simp (maxSteps := 1000000) -dsimp -implicitDefEqProofs only [go_sem, ↓reduceIte, keep77, ib77, mk77, Tryz.f77, hlen, hi2, gm, eq_self, decide_true, Bool.not_true, bne_self_eq_false, iw0_0, iw0_1, iw0_2, iw0_3]
      repeat' (with_reducible first | intro _ | refine And.intro ?_ ?_)
      all_goals try omega
      all_goals try (exact absurd rfl (by assumption))
      refine HFnF.mk ((held_Int64S l[i].fPart.fGrad) y_4 (kk + 1 + 1 + 1 + 1) o_4 (by omega) (by omega)) ?_
      have hkb0 : ∃ z : Int, z = kk + 1 + 1 + 1 + 1 + (y_4.ct : Int) := ⟨_, rfl⟩
      obtain ⟨kk0, hkb0⟩ := hkb0
      rw [← hkb0]
      simp (maxSteps := 1000000) -dsimp -implicitDefEqProofs only [go_sem, ↓reduceIte, keep77, ib77, mk77, Tryz.f77, hlen, hi2, gm, eq_self, decide_true, Bool.not_true, bne_self_eq_false, iw0_0, iw0_1, iw0_2, iw0_3]
      repeat' (with_reducible first | intro _ | refine And.intro ?_ ?_)
      all_goals try omega
      all_goals try (exact absurd rfl (by assumption))
      refine ⟨i + 1, ?_⟩
      simp only [t3, hs3]
      repeat' (with_reducible first | intro _ | refine And.intro ?_ ?_)
      all_goals first | rfl | trivial | omega | exact Heap.le_refl _ | (rw [IntWalk.i64_in _ (by omega)]; omega)
    · have hi2 : i = es.length := by omega
      subst hi2
      rw [List.take_length]
      simp (maxSteps := 1000000) -dsimp -implicitDefEqProofs only [go_sem, ↓reduceIte, keep77, ib77, mk77, Tryz.f77, hlen, Int.lt_irrefl, Nat.lt_irrefl]
      first | done | (intro _; rfl) | rfl

def keep76 : List Nat := [0, 1, 4, 5, 9, 19]
def ib76 : List Nat := []
def mk76 : Marks := fun _ => ([], .nil, [])
set_option maxRecDepth 100000 in
theorem held_ReportSS (l : List (List DReport)) : HeldS Tryz.prog 76 (OS (oS DReport.o 5) 1 l) := by
  intro y k hy h0 h1
  rcases hy with ⟨rfl, hl⟩ | ⟨n, es, rfl, hor⟩
  · rw [OV.mk_nil, dat_nil, OV.ct_nil]
    refine fn0F 21 keep76 ib76 mk76 mix Tryz.func76 rfl (by kernel_rfl) (by simp) fun h => ?_
    simp (maxSteps := 1000000) -dsimp -implicitDefEqProofs only [go_sem, ↓reduceIte, keep76, ib76, mk76, Tryz.f76]
    refine loopF (keep := keep76) (ib := ib76) (mk := mk76) mix (by kernel_rfl) (fun _ : Unit => [(0, .sl 1 [] false), (1, I k), (5, I 0)]) (fun _ => h) (fun _ => True) (fun _ => 0) () (by simp [SatL, tget, Heap.le_refl]) ?_
    intro _ _
    simp (maxSteps := 1000000) -dsimp -implicitDefEqProofs only [go_sem, ↓reduceIte, keep76, ib76, mk76, Tryz.f76, zero_cast, Int.lt_irrefl]
    first | done | (intro _; simp) | simp
  · rw [OV.mk_sl, dat_sl, OV.ct_sl]
    rw [OV.ct_sl] at h1
    have hlen : (OV.datRows (OV.mkRows k es)).length = es.length := by rw [datRows_len, OV.mkRows_len]
    refine fn0F 21 keep76 ib76 mk76 mix Tryz.func76 rfl (by kernel_rfl) (by simp) fun h => ?_
    simp (maxSteps := 1000000) -dsimp -implicitDefEqProofs only [go_sem, ↓reduceIte, keep76, ib76, mk76, Tryz.f76, hlen]
    refine loopF (keep := keep76) (ib := ib76) (mk := mk76) mix (by kernel_rfl) (fun i : Nat => [(0, .sl 1 (OV.datRows (OV.mkRows k es)) false), (1, I (k + OV.ctRows (es.take i))), (5, I i)]) (fun _ => h) (fun i => i ≤ es.length) (fun i => es.length - i) 0 (by simp [SatL, tget, OV.ctRows, Heap.le_refl]) ?_
    intro i hi
    rcases Nat.lt_or_ge i es.length with hlt | hge
    · have hll : i < l.length := by rw [hor.length]; exact hlt
      obtain ⟨A, e, B, rfl, hA, he⟩ := hor.split i hll
      have t1 : (A ++ e :: B).take i = A := by rw [← hA]; simp
      have t0 : A ++ e :: B = (A ++ [e]) ++ B := by simp
      have t3 : (A ++ e :: B).take (i + 1) = A ++ [e] := by rw [t0]; exact List.take_left' (by simp [hA])
      clear t0
      have hct := OV.ctRows_append A (e :: B)
      rw [OV.ctRows] at hct
      rw [t1]
      have hs3 := OV.ctRows_snoc A e
      have hD : OV.datRows (OV.mkRows k (A ++ e :: B)) = OV.datRows (OV.mkRows k A) ++ (OV.mkRow (k + (OV.ctRows A : Int)) e).map OV.dat :: OV.datRows (OV.mkRows (k + (OV.ctRows A : Int) + (OV.ctRow e : Int)) B) := by
        rw [OV.mkRows_append, datRows_append, OV.mkRows, datRows_cons]
      have hA2 : (OV.datRows (OV.mkRows k A)).length = i := by rw [datRows_len, OV.mkRows_len, hA]
      have hi2 : (i : Int) < (A ++ e :: B).length := by omega
      obtain ⟨y_0, rfl, o_0⟩ := he
      simp only [OV.ctRow_cons, OV.ctRow_nil, OV.ct_v, Nat.add_zero, one_cast] at hct hs3
      generalize hkk : k + (OV.ctRows A : Int) = kk at hD ⊢
      have gm : (OV.datRows (OV.mkRows k (A ++ [y_0] :: B)))[i]? = some ((OV.mkRow kk [y_0]).map OV.dat) := by rw [hD]; exact get_mid hA2
      simp only [OV.mkRow_cons, OV.mkRow_nil, OV.mk_v, leaf_int, leaf_bool, leaf_str, OV.ct_v, one_cast, map_dat_cons, map_dat_nil, dat_v] at gm
      clear hD
      generalize OV.datRows (OV.mkRows k (A ++ [y_0] :: B)) = DD at gm hlen ⊢
      simp (maxSteps := 1000000) -dsimp -implicitDefEqProofs only [go_sem, ↓reduceIte, keep76, ib76, mk76, Tryz.f76, hlen, hi2, gm, eq_self, decide_true, Bool.not_true, bne_self_eq_false]
      repeat' (with_reducible first | intro _ | refine And.intro ?_ ?_)
      all_goals try omega
      all_goals try (exact absurd rfl (by assumption))
      refine HFnF.mk ((held_ReportS l[i]) y_0 (kk) o_0 (by omega) (by omega)) ?_
      have hkb0 : ∃ z : Int, z = kk + (y_0.ct : Int) := ⟨_, rfl⟩
      obtain ⟨kk0, hkb0⟩ := hkb0
      rw [← hkb0]
      simp (maxSteps := 1000000) -dsimp -implicitDefEqProofs only [go_sem, ↓reduceIte, keep76, ib76, mk76, Tryz.f76, hlen, hi2, gm, eq_self, decide_true, Bool.not_true, bne_self_eq_false]
      repeat' (with_reducible first | intro _ | refine And.intro ?_ ?_)
      all_goals try omega
      all_goals try (exact absurd rfl (by assumption))
      refine ⟨i + 1, ?_⟩
      simp only [t3, hs3]
      repeat' (with_reducible first | intro _ | refine And.intro ?_ ?_)
      all_goals first | rfl | trivial | omega | exact Heap.le_refl _ | (rw [IntWalk.i64_in _ (by omega)]; omega)
    · have hi2 : i = es.length := by omega
      subst hi2
      rw [List.take_length]
      simp (maxSteps := 1000000) -dsimp -implicitDefEqProofs only [go_sem, ↓reduceIte, keep76, ib76, mk76, Tryz.f76, hlen, Int.lt_irrefl, Nat.lt_irrefl]
      first | done | (intro _; rfl) | rfl

def keep26 : List Nat := [0, 1, 2, 4, 10, 16, 22, 28]
def ib26 : List Nat := [2]
def mk26 : Marks := fun _ => ([], .nil, [])
set_option maxRecDepth 100000 in
theorem held_Net (x : DNet) : HeldA Tryz.prog 26 x.o := by
  intro e k he h0 h1
  obtain ⟨y_0, y_3, y_4, y_5, y_8, y_9, y_10, y_11, y_12, y_13, y_16, y_17, rfl, o_0, o_3, o_4, o_5, o_8, o_9, o_10, o_11, o_12, o_13, o_16, o_17⟩ := he
  simp only [OV.ctTop_cons, OV.ctTop_nil, OV.ctT_v, OV.mkTop_cons, OV.mkTop_nil, OV.mkT_v, Nat.add_zero, Nat.zero_add, zero_cast, Int.add_zero, Int.zero_add, o_0.ctT, o_0.mkT, o_3.ctT, o_3.mkT, o_4.ctT, o_4.mkT, o_5.ctT, o_5.mkT, o_8.ctT, o_8.mkT, o_9.ctT, o_9.mkT, o_10.ctT, o_10.mkT, o_11.ctT, o_11.mkT, o_12.ctT, o_12.mkT, o_13.ctT, o_13.mkT, o_16.ctT, o_16.mkT, o_17.ctT, o_17.mkT, map_dat_cons, map_dat_nil, dat_v] at h1 ⊢
  refine fn0F 30 keep26 ib26 mk26 mix Tryz.func26 rfl (by kernel_rfl) (by simp) fun h => ?_
  simp (maxSteps := 1000000) -dsimp -implicitDefEqProofs only [go_sem, ↓reduceIte, keep26, ib26, mk26, Tryz.f26, o_0.datflat, o_0.datone, o_3.datflat, o_3.datone, o_4.datflat, o_4.datone, o_5.datflat, o_5.datone, o_8.datflat, o_8.datone, o_9.datflat, o_9.datone, o_10.datflat, o_10.datone, o_11.datflat, o_11.datone, o_12.datflat, o_12.datone, o_13.datflat, o_13.datone, o_16.datflat, o_16.datone, o_17.datflat, o_17.datone]
  repeat' (with_reducible first | intro _ | refine And.intro ?_ ?_)
  all_goals try omega
  have hs0 := held_Job x.fStart [y_0, .v (.int .i64 x.fStart.fFunc), .v (.int .i64 x.fStart.fShared), y_3, y_4] (k) ⟨y_0, y_3, y_4, rfl, o_0, o_3, o_4⟩ (by omega) (by simp only [OV.ctTop_cons, OV.ctTop_nil, OV.ctT_v, OV.mkTop_cons, OV.mkTop_nil, OV.mkT_v, Nat.add_zero, Nat.zero_add, zero_cast, Int.add_zero, Int.zero_add, o_0.ctT, o_0.mkT, o_3.ctT, o_3.mkT, o_4.ctT, o_4.mkT, o_5.ctT, o_5.mkT, o_8.ctT, o_8.mkT, o_9.ctT, o_9.mkT, o_10.ctT, o_10.mkT, o_11.ctT, o_11.mkT, o_12.ctT, o_12.mkT, o_13.ctT, o_13.mkT, o_16.ctT, o_16.mkT, o_17.ctT, o_17.mkT]; omega)
  simp only [OV.ctTop_cons, OV.ctTop_nil, OV.ctT_v, OV.mkTop_cons, OV.mkTop_nil, OV.mkT_v, Nat.add_zero, Nat.zero_add, zero_cast, Int.add_zero, Int.zero_add, o_0.ctT, o_0.mkT, o_3.ctT, o_3.mkT, o_4.ctT, o_4.mkT, o_5.ctT, o_5.mkT, o_8.ctT, o_8.mkT, o_9.ctT, o_9.mkT, o_10.ctT, o_10.mkT, o_11.ctT, o_11.mkT, o_12.ctT, o_12.mkT, o_13.ctT, o_13.mkT, o_16.ctT, o_16.mkT, o_17.ctT, o_17.mkT, map_dat_cons, map_dat_nil, dat_v, Int.natCast_add, ← Int.add_assoc] at hs0
  refine HFnF.mk hs0 ?_
  simp (maxSteps := 1000000) -dsimp -implicitDefEqProofs only [go_sem, ↓reduceIte, keep26, ib26, mk26, Tryz.f26, o_0.datflat, o_0.datone, o_3.datflat, o_3.datone, o_4.datflat, o_4.datone, o_5.datflat, o_5.datone, o_8.datflat, o_8.datone, o_9.datflat, o_9.datone, o_10.datflat, o_10.datone, o_11.datflat, o_11.datone, o_12.datflat, o_12.datone, o_13.datflat, o_13.datone, o_16.datflat, o_16.datone, o_17.datflat, o_17.datone]
  repeat' (with_reducible first | intro _ | refine And.intro ?_ ?_)
  all_goals try omega
  have hs1 := held_Service x.fService [y_5, .v (.int .i64 x.fService.fJob.fFunc), .v (.int .i64 x.fService.fJob.fShared), y_8, y_9, y_10, y_11, y_12, y_13] (k + (y_0.ct : Int) + (y_3.ct : Int) + (y_4.ct : Int)) ⟨y_5, y_8, y_9, y_10, y_11, y_12, y_13, rfl, o_5, o_8, o_9, o_10, o_11, o_12, o_13⟩ (by omega) (by simp only [OV.ctTop_cons, OV.ctTop_nil, OV.ctT_v, OV.mkTop_cons, OV.mkTop_nil, OV.mkT_v, Nat.add_zero, Nat.zero_add, zero_cast, Int.add_zero, Int.zero_add, o_0.ctT, o_0.mkT, o_3.ctT, o_3.mkT, o_4.ctT, o_4.mkT, o_5.ctT, o_5.mkT, o_8.ctT, o_8.mkT, o_9.ctT, o_9.mkT, o_10.ctT, o_10.mkT, o_11.ctT, o_11.mkT, o_12.ctT, o_12.mkT, o_13.ctT, o_13.mkT, o_16.ctT, o_16.mkT, o_17.ctT, o_17.mkT]; omega)
  simp only [OV.ctTop_cons, OV.ctTop_nil, OV.ctT_v, OV.mkTop_cons, OV.mkTop_nil, OV.mkT_v, Nat.add_zero, Nat.zero_add, zero_cast, Int.add_zero, Int.zero_add, o_0.ctT, o_0.mkT, o_3.ctT, o_3.mkT, o_4.ctT, o_4.mkT, o_5.ctT, o_5.mkT, o_8.ctT, o_8.mkT, o_9.ctT, o_9.mkT, o_10.ctT, o_10.mkT, o_11.ctT, o_11.mkT, o_12.ctT, o_12.mkT, o_13.ctT, o_13.mkT, o_16.ctT, o_16.mkT, o_17.ctT, o_17.mkT, map_dat_cons, map_dat_nil, dat_v, Int.natCast_add, ← Int.add_assoc] at hs1
  refine HFnF.mk hs1 ?_
  simp (maxSteps := 1000000) -dsimp -implicitDefEqProofs only [go_sem, ↓reduceIte, keep26, ib26, mk26, Tryz.f26, o_0.datflat, o_0.datone, o_3.datflat, o_3.datone, o_4.datflat, o_4.datone, o_5.datflat, o_5.datone, o_8.datflat, o_8.datone, o_9.datflat, o_9.datone, o_10.datflat, o_10.datone, o_11.datflat, o_11.datone, o_12.datflat, o_12.datone, o_13.datflat, o_13.datone, o_16.datflat, o_16.datone, o_17.datflat, o_17.datone]
  repeat' (with_reducible first | intro _ | refine And.intro ?_ ?_)
  all_goals try omega
  refine HFnF.mk (held_ReportSS x.fQueues y_16 (k + (y_0.ct : Int) + (y_3.ct : Int) + (y_4.ct : Int) + (y_5.ct : Int) + (y_8.ct : Int) + (y_9.ct : Int) + (y_10.ct : Int) + (y_11.ct : Int) + (y_12.ct : Int) + (y_13.ct : Int)) o_16 (by omega) (by omega)) ?_
  simp (maxSteps := 1000000) -dsimp -implicitDefEqProofs only [go_sem, ↓reduceIte, keep26, ib26, mk26, Tryz.f26, o_0.datflat, o_0.datone, o_3.datflat, o_3.datone, o_4.datflat, o_4.datone, o_5.datflat, o_5.datone, o_8.datflat, o_8.datone, o_9.datflat, o_9.datone, o_10.datflat, o_10.datone, o_11.datflat, o_11.datone, o_12.datflat, o_12.datone, o_13.datflat, o_13.datone, o_16.datflat, o_16.datone, o_17.datflat, o_17.datone]
  repeat' (with_reducible first | intro _ | refine And.intro ?_ ?_)
  all_goals try omega
  refine HFnF.mk (held_ReportS x.fFlying y_17 (k + (y_0.ct : Int) + (y_3.ct : Int) + (y_4.ct : Int) + (y_5.ct : Int) + (y_8.ct : Int) + (y_9.ct : Int) + (y_10.ct : Int) + (y_11.ct : Int) + (y_12.ct : Int) + (y_13.ct : Int) + (y_16.ct : Int)) o_17 (by omega) (by omega)) ?_
  simp (maxSteps := 1000000) -dsimp -implicitDefEqProofs only [go_sem, ↓reduceIte, keep26, ib26, mk26, Tryz.f26, o_0.datflat, o_0.datone, o_3.datflat, o_3.datone, o_4.datflat, o_4.datone, o_5.datflat, o_5.datone, o_8.datflat, o_8.datone, o_9.datflat, o_9.datone, o_10.datflat, o_10.datone, o_11.datflat, o_11.datone, o_12.datflat, o_12.datone, o_13.datflat, o_13.datone, o_16.datflat, o_16.datone, o_17.datflat, o_17.datone]
  repeat' (with_reducible first | intro _ | refine And.intro ?_ ?_)
  all_goals try omega
  all_goals first | done | rfl | trivial | (congr 1; omega) | omega | (simp only [go_sem]; omega)


open Go.Proofs
set_option linter.unusedVariables false
set_option linter.unusedSimpArgs false
open Go.Proofs
set_option linter.unusedVariables false
set_option linter.unusedSimpArgs false
open Go.Proofs
set_option linter.unusedVariables false
set_option linter.unusedSimpArgs false
open Go.Proofs
set_option linter.unusedVariables false
set_option linter.unusedSimpArgs false
def keep58 : List Nat := [0, 1, 2, 6]
def ib58 : List Nat := []
def mk58 : Marks := fun _ => ([], .nil, [])
theorem l00In (n a b : Int) : Fn0 Tryz.prog 58 [I n, I a, I b] (.bool (decide (a ≤ n ∧ n ≤ b))) := by
  refine fn0F 15 keep58 ib58 mk58 mix Tryz.func58 rfl (by kernel_rfl) (by simp) fun h => ?_
  simp (maxSteps := 1000000) -dsimp -implicitDefEqProofs only [go_sem, ↓reduceIte, keep58, ib58, mk58, Tryz.f58]
  repeat' (with_reducible first | intro _ | refine And.intro ?_ ?_)
  all_goals try (first | (simp [*]; done) | omega | grind)
def keep64 : List Nat := [0, 1, 2, 6]
def ib64 : List Nat := []
def mk64 : Marks := fun _ => ([], .nil, [])
theorem within (n a b : Int) : Fn0 Tryz.prog 64 [I n, I a, I b] (.bool (decide (a ≤ n ∧ n ≤ b))) := by
  refine fn0F 15 keep64 ib64 mk64 mix Tryz.func64 rfl (by kernel_rfl) (by simp) fun h => ?_
  simp (maxSteps := 1000000) -dsimp -implicitDefEqProofs only [go_sem, ↓reduceIte, keep64, ib64, mk64, Tryz.f64]
  repeat' (with_reducible first | intro _ | refine And.intro ?_ ?_)
  all_goals try (first | (simp [*]; done) | omega | grind)
def keep126 : List Nat := [0, 2]
def ib126 : List Nat := []
def mk126 : Marks := fun _ => ([], .nil, [])
theorem l01Number (n : Int) : Fn0 Tryz.prog 126 [I n] (.bool (decide (Num n))) := by
  refine fn0F 5 keep126 ib126 mk126 mix Tryz.func126 rfl (by kernel_rfl) (by simp) fun h => ?_
  simp (maxSteps := 1000000) -dsimp -implicitDefEqProofs only [go_sem, ↓reduceIte, keep126, ib126, mk126, Tryz.f126]
  first | refine HFnF.mk (l00In n 0 1000002) ?_ | refine CallSF.mk (l00In n 0 1000002) ?_ | refine HFnF.mkAt (l00In n 0 1000002) ?_ | refine CallSF.mk (FnAt.fn0 (l00In n 0 1000002)) ?_
  simp (maxSteps := 1000000) -dsimp -implicitDefEqProofs only [go_sem, ↓reduceIte, keep126, ib126, mk126, Tryz.f126]
  all_goals rfl
def keep125 : List Nat := [0, 2]
def ib125 : List Nat := []
def mk125 : Marks := fun _ => ([], .nil, [])
theorem isNumber (n : Int) : Fn0 Tryz.prog 125 [I n] (.bool (decide (Num n))) := by
  refine fn0F 5 keep125 ib125 mk125 mix Tryz.func125 rfl (by kernel_rfl) (by simp) fun h => ?_
  simp (maxSteps := 1000000) -dsimp -implicitDefEqProofs only [go_sem, ↓reduceIte, keep125, ib125, mk125, Tryz.f125]
  first | refine HFnF.mk (within n 0 1000002) ?_ | refine CallSF.mk (within n 0 1000002) ?_ | refine HFnF.mkAt (within n 0 1000002) ?_ | refine CallSF.mk (FnAt.fn0 (within n 0 1000002)) ?_
  simp (maxSteps := 1000000) -dsimp -implicitDefEqProofs only [go_sem, ↓reduceIte, keep125, ib125, mk125, Tryz.f125]
  all_goals rfl
def keep107 : List Nat := [0, 2, 3, 7, 15]
def ib107 : List Nat := []
def mk107 : Marks := fun _ => ([], .nil, [])
set_option maxRecDepth 100000 in
theorem l01Numbers (l : List Int) : Fn0 Tryz.prog 107 [sls 1 (fun n => [I n]) l] (.bool (decide (Nums l))) := by
  refine fn0F 16 keep107 ib107 mk107 mix Tryz.func107 rfl (by kernel_rfl) (by simp) fun h => ?_
  simp (maxSteps := 1000000) -dsimp -implicitDefEqProofs only [go_sem, ↓reduceIte, keep107, ib107, mk107, Tryz.f107]
  refine loopF (keep := keep107) (ib := ib107) (mk := mk107) mix (by kernel_rfl) (fun k : Nat => [(0, sls 1 (fun n => [I n]) l), (3, I k)]) (fun _ => h) (fun k => k ≤ (l).length ∧ ∀ x ∈ (l).take k, Num x) (fun k => (l).length - k) 0 (by simp [SatL, tget, Heap.le_refl]) ?_
  intro k ⟨hk, hp⟩
  rcases Nat.lt_or_ge k (l).length with hlt | hge
  · have ea : (l)[k]? = some (l)[k] := List.getElem?_eq_getElem hlt
    simp (maxSteps := 1000000) -dsimp -implicitDefEqProofs only [go_sem, ↓reduceIte, keep107, ib107, mk107, Tryz.f107, ea]
    repeat' (with_reducible first | intro _ | refine And.intro ?_ ?_)
    all_goals try omega
    first | refine HFnF.mk (l01Number l[k]) ?_ | refine CallSF.mk (l01Number l[k]) ?_ | refine HFnF.mkAt (l01Number l[k]) ?_ | refine CallSF.mk (FnAt.fn0 (l01Number l[k])) ?_
    simp (maxSteps := 1000000) -dsimp -implicitDefEqProofs only [go_sem, ↓reduceIte, keep107, ib107, mk107, Tryz.f107]
    repeat' (with_reducible first | intro _ | refine And.intro ?_ ?_)
    · rename_i he
      exact (decide_eq_false fun e => he (e _ (List.getElem_mem hlt))).symm
    · rename_i he
      refine ⟨k + 1, ?_⟩
      repeat' (with_reducible refine And.intro ?_ ?_)
      all_goals try (rw [IntWalk.i64_in _ (by omega)]; first | rfl | omega)
      all_goals try omega
      all_goals try (repeat' (with_reducible first | exact Heap.le_refl _ | refine (le_upd (by first | assumption | exact And.right (by assumption) | exact upd_none.2 (by assumption))).2 ?_))
      exact all_step hlt hp he
  · have hk' : k = (l).length := by omega
    subst hk'
    rw [List.take_length] at hp
    simp (maxSteps := 1000000) -dsimp -implicitDefEqProofs only [go_sem, ↓reduceIte, keep107, ib107, mk107, Tryz.f107, Nat.lt_irrefl]
    intro _
    exact (decide_eq_true hp).symm
def keep142 : List Nat := [0, 1, 4, 5, 7, 8, 9, 16]
def ib142 : List Nat := []
def mk142 : Marks := fun _ => ([], .nil, [])
set_option maxRecDepth 100000 in
theorem idxF_Int64S (a : List Int) (p : Int → Bool) (g : FuncId) (cap : List HVal) {h0 : Heap} (hc : ∀ x ∈ a, FnAt Tryz.prog g ([(.int .i64 x)] ++ cap) (.bool (p x)) h0) : FnAt Tryz.prog 142 [(sls 1 (fun n => [I n]) a), .fn (.func g) [] cap] (I (idxOf p a)) h0 := by
  refine fnAtF 19 keep142 ib142 mk142 mix Tryz.func142 rfl (by kernel_rfl) (by simp) fun h hle => ?_
  simp -dsimp -implicitDefEqProofs only [go_sem, ↓reduceIte, keep142, ib142, mk142, Tryz.f142, Tryz.f142]
  intro _
  refine loopF (keep := keep142) (ib := ib142) (mk := mk142) mix (by kernel_rfl) (fun k : Nat => [(0, (sls 1 (fun n => [I n]) a)), (1, .fn (.func g) [] cap), (7, I a.length), (8, I k)]) (fun _ => h) (fun k => k ≤ a.length ∧ ∀ x ∈ a.take k, p x = false) (fun k => a.length - k) 0 (by simp [SatL, tget, Heap.le_refl]) ?_
  intro k ⟨hk, hp⟩
  rcases Nat.lt_or_ge k a.length with hlt | hge
  · have ea : a[k]? = some a[k] := List.getElem?_eq_getElem hlt
    simp -dsimp -implicitDefEqProofs only [go_sem, ↓reduceIte, keep142, ib142, mk142, Tryz.f142, Tryz.f142, ea]
    repeat' (with_reducible first | intro _ | refine And.intro ?_ ?_)
    all_goals try omega
    have hx := hc a[k] (List.getElem_mem hlt)
    refine HFnF.mkAt (hx.mono hle) ?_
    cases hpk : p a[k] with
    | true =>
      simp -dsimp -implicitDefEqProofs only [go_sem, ↓reduceIte, keep142, ib142, mk142, Tryz.f142, Tryz.f142]
      repeat' (with_reducible first | intro _ | refine And.intro ?_ ?_)
      all_goals first | exact (idxOf_some hlt hp hpk).symm | rfl | (rw [idxOf_some hlt hp hpk])
    | false =>
      simp -dsimp -implicitDefEqProofs only [go_sem, ↓reduceIte, keep142, ib142, mk142, Tryz.f142, Tryz.f142]
      refine ⟨k + 1, ?_⟩
      repeat' (with_reducible refine And.intro ?_ ?_)
      all_goals try (rw [IntWalk.i64_in _ (by omega)]; first | rfl | omega)
      all_goals try omega
      exact all_step (P := fun x => p x = false) hlt hp hpk
  · have hk' : k = a.length := by omega
    subst hk'
    rw [List.take_length] at hp
    simp -dsimp -implicitDefEqProofs only [go_sem, ↓reduceIte, keep142, ib142, mk142, Tryz.f142, Tryz.f142, Nat.lt_irrefl]
    all_goals first | exact (idxOf_none hp).symm | rw [idxOf_none hp]
def keep123 : List Nat := [0, 1, 4]
def ib123 : List Nat := []
def mk123 : Marks := fun _ => ([], .nil, [])
set_option maxRecDepth 100000 in
theorem hasF_Int64S (a : List Int) (p : Int → Bool) (g : FuncId) (cap : List HVal) {h0 : Heap} (hc : ∀ x ∈ a, FnAt Tryz.prog g ([(.int .i64 x)] ++ cap) (.bool (p x)) h0) : FnAt Tryz.prog 123 [(sls 1 (fun n => [I n]) a), .fn (.func g) [] cap] (.bool (a.any p)) h0 := by
  refine fnAtF 9 keep123 ib123 mk123 mix Tryz.func123 rfl (by kernel_rfl) (by simp) fun h hle => ?_
  simp -dsimp -implicitDefEqProofs only [go_sem, ↓reduceIte, keep123, ib123, mk123, Tryz.f123, Tryz.f123]
  refine HFnF.mkAt ((idxF_Int64S a p g cap hc).mono hle) ?_
  simp -dsimp -implicitDefEqProofs only [go_sem, ↓reduceIte, keep123, ib123, mk123, Tryz.f123, Tryz.f123]
  all_goals first | done | exact idxOf_nonneg | rw [idxOf_nonneg]

def keep124 : List Nat := [0, 2]
def ib124 : List Nat := []
def mk124 : Marks := fun _ => ([], .nil, [])
theorem areNumbers1 (n : Int) : Fn0 Tryz.prog 124 [I n] (.bool (!decide (Num n))) := by
  refine fn0F 6 keep124 ib124 mk124 mix Tryz.func124 rfl (by kernel_rfl) (by simp) fun h => ?_
  simp (maxSteps := 1000000) -dsimp -implicitDefEqProofs only [go_sem, ↓reduceIte, keep124, ib124, mk124, Tryz.f124]
  first | refine HFnF.mk (isNumber n) ?_ | refine CallSF.mk (isNumber n) ?_ | refine HFnF.mkAt (isNumber n) ?_ | refine CallSF.mk (FnAt.fn0 (isNumber n)) ?_
  simp (maxSteps := 1000000) -dsimp -implicitDefEqProofs only [go_sem, ↓reduceIte, keep124, ib124, mk124, Tryz.f124]
def keep87 : List Nat := [0, 1, 4]
def ib87 : List Nat := []
def mk87 : Marks := fun _ => ([], .nil, [])
theorem areNumbers (l : List Int) (c : Int) : Fn0 Tryz.prog 87 [sls 1 (fun n => [I n]) l, I c] (.bool (decide ((l.length : Int) = c ∧ Nums l))) := by
  refine fn0F 14 keep87 ib87 mk87 mix Tryz.func87 rfl (by kernel_rfl) (by simp) fun h => ?_
  simp (maxSteps := 1000000) -dsimp -implicitDefEqProofs only [go_sem, ↓reduceIte, keep87, ib87, mk87, Tryz.f87]
  repeat' (with_reducible first | intro _ | refine And.intro ?_ ?_)
  all_goals try (first | (simp [*]; done) | omega | grind)
  first | refine HFnF.mk (hasF_Int64S l (fun n => !decide (Num n)) 124 [] fun x _ => (areNumbers1 x).toAt) ?_ | refine CallSF.mk (hasF_Int64S l (fun n => !decide (Num n)) 124 [] fun x _ => (areNumbers1 x).toAt) ?_ | refine HFnF.mkAt (hasF_Int64S l (fun n => !decide (Num n)) 124 [] fun x _ => (areNumbers1 x).toAt) ?_ | refine CallSF.mk (FnAt.fn0 (hasF_Int64S l (fun n => !decide (Num n)) 124 [] fun x _ => (areNumbers1 x).toAt)) ?_
  simp (maxSteps := 1000000) -dsimp -implicitDefEqProofs only [go_sem, ↓reduceIte, keep87, ib87, mk87, Tryz.f87]
  rename_i e
  rw [any_not, decide_eq_decide]
  exact ⟨fun q => ⟨e, q⟩, fun q => q.2⟩
open Go.Proofs
set_option linter.unusedVariables false
set_option linter.unusedSimpArgs false
def Low (c : UInt8) : Prop := 97 ≤ c.toNat ∧ c.toNat ≤ 122
def Dig (c : UInt8) : Prop := 48 ≤ c.toNat ∧ c.toNat ≤ 57
instance (c : UInt8) : Decidable (Low c) := inferInstanceAs (Decidable (_ ∧ _))
instance (c : UInt8) : Decidable (Dig c) := inferInstanceAs (Decidable (_ ∧ _))
def IsNm (s : List UInt8) : Prop := 1 ≤ s.length ∧ s.length ≤ 12 ∧ (∀ c, s[0]? = some c → Low c) ∧ ∀ c ∈ s, Low c ∨ Dig c
noncomputable instance (s : List UInt8) : Decidable (IsNm s) := Classical.propDecidable _
theorem isNm_step {s : List UInt8} {k : Nat} {c : UInt8} (h : k < s.length) (ec : s[k] = c) (hp : ∀ x ∈ s.take k, Low x ∨ Dig x) (he : Low c ∨ Dig c) : ∀ x ∈ s.take (k + 1), Low x ∨ Dig x :=
  all_step (P := fun x => Low x ∨ Dig x) h hp (by rw [ec]; exact he)
theorem not_isNm {s : List UInt8} {k : Nat} {c : UInt8} (h : k < s.length) (ec : s[k] = c) (he : ¬ (Low c ∨ Dig c)) : false = decide (IsNm s) :=
  (decide_eq_false fun e => he (ec ▸ e.2.2.2 _ (List.getElem_mem h))).symm
theorem not_isNm0 {s : List UInt8} {k : Nat} {c : UInt8} (h : k < s.length) (h0 : (k : Int) = 0) (ec : s[k] = c) (he : ¬ Low c) : false = decide (IsNm s) :=
  (decide_eq_false fun e => he (e.2.2.1 c (by have : k = 0 := by omega
                                              subst this; rw [List.getElem?_eq_getElem h, ec]))).symm
def keep145 : List Nat := [0, 2, 3, 17, 21, 45]
def ib145 : List Nat := []
def mk145 : Marks := fun _ => ([], .nil, [])
set_option maxRecDepth 100000 in
theorem specIsName (s : List UInt8) : Fn0 Tryz.prog 145 [.str s] (.bool (decide (IsNm s))) := by
  cases s with
  | nil =>
    refine fn0F 46 keep145 ib145 mk145 mix Tryz.func145 rfl (by kernel_rfl) (by simp) fun h => ?_
    simp (maxSteps := 1000000) -dsimp -implicitDefEqProofs only [go_sem, ↓reduceIte, keep145, ib145, mk145, Tryz.f145]
    first | refine HFnF.mk (l00In 0 1 12) ?_ | refine CallSF.mk (l00In 0 1 12) ?_ | refine HFnF.mkAt (l00In 0 1 12) ?_ | refine CallSF.mk (FnAt.fn0 (l00In 0 1 12)) ?_
    simp (maxSteps := 1000000) -dsimp -implicitDefEqProofs only [go_sem, ↓reduceIte, keep145, ib145, mk145, Tryz.f145]
    repeat' (with_reducible first | intro _ | refine And.intro ?_ ?_)
    all_goals try (first | (simp [IsNm, *]; done) | omega | (grind [IsNm]) | (simp [IsNm]; omega))
  | cons c t =>
    refine fn0F 46 keep145 ib145 mk145 mix Tryz.func145 rfl (by kernel_rfl) (by simp) fun h => ?_
    simp (maxSteps := 1000000) -dsimp -implicitDefEqProofs only [go_sem, ↓reduceIte, keep145, ib145, mk145, Tryz.f145, List.getElem?_cons_zero, Int.toNat_zero]
    intro _
    first | refine HFnF.mk (l00In (c :: t).length 1 12) ?_ | refine CallSF.mk (l00In (c :: t).length 1 12) ?_ | refine HFnF.mkAt (l00In (c :: t).length 1 12) ?_ | refine CallSF.mk (FnAt.fn0 (l00In (c :: t).length 1 12)) ?_
    simp (maxSteps := 1000000) -dsimp -implicitDefEqProofs only [go_sem, ↓reduceIte, keep145, ib145, mk145, Tryz.f145, List.getElem?_cons_zero, Int.toNat_zero]
    repeat' (with_reducible first | intro _ | refine And.intro ?_ ?_)
    all_goals try (first | (simp [IsNm, Low, Dig, *]; done) | omega | (grind [IsNm, Low, Dig]) | (simp [IsNm, Low, Dig]; omega))
    rename_i h0 h1 h2 h3
    generalize hs : c :: t = s at *
    refine loopF (keep := keep145) (ib := ib145) (mk := mk145) mix (by kernel_rfl) (fun k : Nat => [(0, .str s), (3, I k)]) (fun _ => h) (fun k => k ≤ s.length ∧ ∀ x ∈ s.take k, Low x ∨ Dig x) (fun k => s.length - k) 0 (by simp [SatL, tget, Heap.le_refl]) ?_
    intro k ⟨hk, hp⟩
    rcases Nat.lt_or_ge k s.length with hlt | hge
    · generalize ec : s[k] = d
      have ea : s[k]? = some d := by rw [← ec]; exact List.getElem?_eq_getElem hlt
      simp (maxSteps := 1000000) -dsimp -implicitDefEqProofs only [go_sem, ↓reduceIte, keep145, ib145, mk145, Tryz.f145, ea, Int.toNat_natCast]
      repeat' (with_reducible first | intro _ | refine And.intro ?_ ?_)
      all_goals try omega
      all_goals try exact not_isNm hlt ec (by simp only [Low, Dig]; omega)
      all_goals
        refine ⟨k + 1, ?_⟩
        repeat' (with_reducible refine And.intro ?_ ?_)
        all_goals try (rw [IntWalk.i64_in _ (by omega)]; first | rfl | omega)
        all_goals try omega
        all_goals try (repeat' (with_reducible first | exact Heap.le_refl _ | refine (le_upd (by first | assumption | exact And.right (by assumption) | exact upd_none.2 (by assumption))).2 ?_))
        exact isNm_step hlt ec hp (by simp only [Low, Dig]; omega)
    · have hk' : k = s.length := by omega
      subst hk'
      rw [List.take_length] at hp
      simp (maxSteps := 1000000) -dsimp -implicitDefEqProofs only [go_sem, ↓reduceIte, keep145, ib145, mk145, Tryz.f145, Nat.lt_irrefl]
      have : s.length = t.length + 1 := by rw [← hs]; rfl
      exact fun _ => (decide_eq_true ⟨by omega, by omega, fun x hx => by rw [← hs] at hx; simp at hx; subst hx; simp only [Low]; omega, hp⟩).symm
def keep149 : List Nat := [0, 2, 3, 5, 6, 7, 34]
def ib149 : List Nat := []
def mk149 : Marks := fun _ => ([], .nil, [])
set_option maxRecDepth 100000 in
theorem IsName (s : List UInt8) : Fn0 Tryz.prog 149 [.str s] (.bool (decide (IsNm s))) := by
  refine fn0F 44 keep149 ib149 mk149 mix Tryz.func149 rfl (by kernel_rfl) (by simp) fun h => ?_
  simp (maxSteps := 1000000) -dsimp -implicitDefEqProofs only [go_sem, ↓reduceIte, keep149, ib149, mk149, Tryz.f149]
  repeat' (with_reducible first | intro _ | refine And.intro ?_ ?_)
  refine loopF (keep := keep149) (ib := ib149) (mk := mk149) mix (by kernel_rfl) (fun k : Nat => [(0, .str s), (5, I s.length), (6, I k)]) (fun _ => h) (fun k => k ≤ s.length ∧ (∀ x ∈ s.take k, Low x ∨ Dig x) ∧ (0 < k → ∀ c, s[0]? = some c → Low c)) (fun k => s.length - k) 0 (by simp [SatL, tget, Heap.le_refl]) ?_
  intro k ⟨hk, hp, hz⟩
  rcases Nat.lt_or_ge k s.length with hlt | hge
  · generalize ec : s[k] = d
    have ea : s[k]? = some d := by rw [← ec]; exact List.getElem?_eq_getElem hlt
    have hz' : Low d ∨ ¬ ((k : Int) = 0) → ∀ c, s[0]? = some c → Low c := by
      intro q c hc
      by_cases h0 : k = 0
      · subst h0
        rw [ea] at hc
        obtain rfl := Option.some.inj hc
        exact q.resolve_right (by simp)
      · exact hz (by omega) c hc
    simp (maxSteps := 1000000) -dsimp -implicitDefEqProofs only [go_sem, ↓reduceIte, keep149, ib149, mk149, Tryz.f149, ea, Int.toNat_natCast]
    repeat' (with_reducible first | intro _ | refine And.intro ?_ ?_)
    all_goals try omega
    all_goals try exact not_isNm hlt ec (by simp only [Low, Dig]; omega)
    all_goals try exact not_isNm0 hlt (by omega) ec (by simp only [Low]; omega)
    all_goals
      refine ⟨k + 1, ?_⟩
      repeat' (with_reducible refine And.intro ?_ ?_)
      all_goals try (rw [IntWalk.i64_in _ (by omega)]; first | rfl | omega)
      all_goals try omega
      all_goals try (repeat' (with_reducible first | exact Heap.le_refl _ | refine (le_upd (by first | assumption | exact And.right (by assumption) | exact upd_none.2 (by assumption))).2 ?_))
      all_goals first | exact isNm_step hlt ec hp (by simp only [Low, Dig]; omega) | exact fun _ => hz' (by simp only [Low]; omega)
  · have hk' : k = s.length := by omega
    subst hk'
    rw [List.take_length] at hp
    simp (maxSteps := 1000000) -dsimp -implicitDefEqProofs only [go_sem, ↓reduceIte, keep149, ib149, mk149, Tryz.f149, Nat.lt_irrefl]
    repeat' (with_reducible first | intro _ | refine And.intro ?_ ?_)
    all_goals simp only [IsNm, decide_eq_decide, eq_comm (a := false), decide_eq_false_iff_not]
    all_goals grind
open Go.Proofs
set_option linter.unusedVariables false
set_option linter.unusedSimpArgs false
mutual
def DExpr.d : DExpr → Nat
  | .mk _ _ _ _ kids => DExpr.dL kids + 1
def DExpr.dL : List DExpr → Nat
  | [] => 0
  | x :: l => max x.d (DExpr.dL l)
end
theorem DExpr.d_eq (x : DExpr) : x.d = DExpr.dL x.fKids + 1 := by cases x; rfl
theorem DExpr.dL_take : ∀ {l : List DExpr} {k : Nat} (h : k < l.length), DExpr.dL (l.take (k + 1)) = max (DExpr.dL (l.take k)) l[k].d
  | x :: l, 0, _ => by simp [DExpr.dL]
  | x :: l, k + 1, h => by
    have := DExpr.dL_take (l := l) (k := k) (by simpa using h)
    simp only [List.take_succ_cons, DExpr.dL, this, List.getElem_cons_succ]
    omega
mutual
theorem DExpr.d_le : ∀ x : DExpr, x.d ≤ x.s + 1
  | .mk _ _ _ _ kids => by
    have := DExpr.dL_le kids
    simp only [DExpr.d, DExpr.s]; omega
theorem DExpr.dL_le : ∀ l : List DExpr, DExpr.dL l ≤ l.length + DExpr.sL l
  | [] => by simp [DExpr.dL]
  | x :: l => by
    have h1 := DExpr.d_le x
    have h2 := DExpr.dL_le l
    simp only [DExpr.dL, DExpr.sL, List.length_cons]; omega
end
theorem DExpr.kid_s {x y : DExpr} (h : y ∈ x.fKids) : y.s < x.s := by
  have h1 := sum_mem DExpr.s h
  have h2 := List.length_pos_of_mem h
  rw [x.s_eq, szs_eq]; omega
theorem DExpr.part_s (x : DExpr) {k : Nat} (h : k < x.fKids.length) : k + ((x.fKids.take k).map DExpr.s).sum + x.fKids[k].s + 1 ≤ x.s := by
  have h1 := sum_take_succ DExpr.s x.fKids k h
  have h2 := sum_take_le DExpr.s x.fKids (k + 1)
  rw [x.s_eq, szs_eq]; omega
theorem DExpr.all_s (x : DExpr) : x.fKids.length + ((x.fKids.take x.fKids.length).map DExpr.s).sum = x.s := by
  rw [List.take_length, x.s_eq, szs_eq]
def keep153 : List Nat := [0, 1, 2, 3, 5, 7, 8, 9, 10]
def ib153 : List Nat := [1]
def mk153 : Marks := fun _ => ([], .nil, [])
set_option maxRecDepth 100000 in
theorem ExprSize_step (x : DExpr) (hs : x.s ≤ 4294967296) (hc : ∀ y ∈ x.fKids, Fn0 Tryz.prog 153 [.agg y.c] (I ((y.s : Int) + 1))) : Fn0 Tryz.prog 153 [.agg x.c] (I ((x.s : Int) + 1)) := by
  have hx := x.all_s
  rw [DExpr.c_eq x]
  refine fn0F 19 keep153 ib153 mk153 mix Tryz.func153 rfl (by kernel_rfl) (by simp) fun h => ?_
  simp (maxSteps := 1000000) -dsimp -implicitDefEqProofs only [go_sem, ↓reduceIte, keep153, ib153, mk153, Tryz.f153]
  repeat' (with_reducible first | intro _ | refine And.intro ?_ ?_)
  refine loopF (keep := keep153) (ib := ib153) (mk := mk153) mix (by kernel_rfl) (fun k : Nat => [(1, .ip 5 [x.c] 0 0), (3, I (1 + k + (((x.fKids.take k).map DExpr.s).sum : Int))), (7, sls 5 DExpr.c x.fKids), (8, I x.fKids.length), (9, I k)]) (fun _ => h) (fun k => k ≤ x.fKids.length) (fun k => x.fKids.length - k) 0 (by simp [SatL, tget, Heap.le_refl, DExpr.c_eq]) ?_
  intro k hk
  rcases Nat.lt_or_ge k x.fKids.length with hlt | hge
  · have ea : x.fKids[k]? = some x.fKids[k] := List.getElem?_eq_getElem hlt
    have hp := x.part_s hlt
    have h1 := sum_take_succ DExpr.s x.fKids k hlt
    have hcy := hc x.fKids[k] (List.getElem_mem hlt)
    simp only [DExpr.c_eq] at hcy
    simp (maxSteps := 1000000) -dsimp -implicitDefEqProofs only [go_sem, ↓reduceIte, keep153, ib153, mk153, Tryz.f153, ea, DExpr.c_eq, upd_upd]
    repeat' (with_reducible first | intro _ | refine And.intro ?_ ?_)
    all_goals try omega
    first | refine HFnF.mk (hcy) ?_ | refine CallSF.mk (hcy) ?_ | refine HFnF.mkAt (hcy) ?_ | refine CallSF.mk (FnAt.fn0 (hcy)) ?_
    simp (maxSteps := 1000000) -dsimp -implicitDefEqProofs only [go_sem, ↓reduceIte, keep153, ib153, mk153, Tryz.f153]
    rename_i n hn
    refine ⟨k + 1, ?_⟩
    repeat' (with_reducible refine And.intro ?_ ?_)
    all_goals try (rw [IntWalk.i64_in _ (by omega)]; first | rfl | omega)
    all_goals try omega
    all_goals try (repeat' (with_reducible first | exact Heap.le_refl _ | refine (le_upd (by first | assumption | exact And.right (by assumption) | exact upd_none.2 (by assumption))).2 ?_))
    all_goals try (simp only [DExpr.c_eq]; done)
  · have hk' : k = x.fKids.length := by omega
    subst hk'
    simp (maxSteps := 1000000) -dsimp -implicitDefEqProofs only [go_sem, ↓reduceIte, keep153, ib153, mk153, Tryz.f153, Nat.lt_irrefl]
    omega
theorem ExprSize (x : DExpr) (hs : x.s ≤ 4294967296) : Fn0 Tryz.prog 153 [.agg x.c] (I ((x.s : Int) + 1)) :=
  ExprSize_step x hs fun y hy => ExprSize y (by have := DExpr.kid_s hy; omega)
termination_by SizeOf.sizeOf x
decreasing_by exact DExpr.kid_lt hy
def keep163 : List Nat := [0, 1, 2, 3, 5, 7, 8, 9, 10]
def ib163 : List Nat := [1]
def mk163 : Marks := fun _ => ([], .nil, [])
set_option maxRecDepth 100000 in
theorem ExprDepth_step (x : DExpr) (hs : x.s ≤ 4294967296) (hc : ∀ y ∈ x.fKids, Fn0 Tryz.prog 163 [.agg y.c] (I (y.d : Int))) : Fn0 Tryz.prog 163 [.agg x.c] (I (x.d : Int)) := by
  have hd := x.d_le
  rw [DExpr.d_eq] at hd ⊢
  rw [DExpr.c_eq x]
  refine fn0F 20 keep163 ib163 mk163 mix Tryz.func163 rfl (by kernel_rfl) (by simp) fun h => ?_
  simp (maxSteps := 1000000) -dsimp -implicitDefEqProofs only [go_sem, ↓reduceIte, keep163, ib163, mk163, Tryz.f163]
  repeat' (with_reducible first | intro _ | refine And.intro ?_ ?_)
  refine loopF (keep := keep163) (ib := ib163) (mk := mk163) mix (by kernel_rfl) (fun k : Nat => [(1, .ip 5 [x.c] 0 0), (3, I (DExpr.dL (x.fKids.take k) : Int)), (7, sls 5 DExpr.c x.fKids), (8, I x.fKids.length), (9, I k)]) (fun _ => h) (fun k => k ≤ x.fKids.length) (fun k => x.fKids.length - k) 0 (by simp [SatL, tget, Heap.le_refl, DExpr.c_eq, DExpr.dL]) ?_
  intro k hk
  rcases Nat.lt_or_ge k x.fKids.length with hlt | hge
  · have ea : x.fKids[k]? = some x.fKids[k] := List.getElem?_eq_getElem hlt
    have h1 := DExpr.dL_take hlt
    have hcy := hc x.fKids[k] (List.getElem_mem hlt)
    simp only [DExpr.c_eq] at hcy
    simp (maxSteps := 1000000) -dsimp -implicitDefEqProofs only [go_sem, ↓reduceIte, keep163, ib163, mk163, Tryz.f163, ea, DExpr.c_eq, upd_upd]
    repeat' (with_reducible first | intro _ | refine And.intro ?_ ?_)
    all_goals try omega
    first | refine HFnF.mk (hcy) ?_ | refine CallSF.mk (hcy) ?_ | refine HFnF.mkAt (hcy) ?_ | refine CallSF.mk (FnAt.fn0 (hcy)) ?_
    simp (maxSteps := 1000000) -dsimp -implicitDefEqProofs only [go_sem, ↓reduceIte, keep163, ib163, mk163, Tryz.f163]
    repeat' (with_reducible first | intro _ | refine And.intro ?_ ?_)
    all_goals try rfl
    rename_i n hn
    refine ⟨k + 1, ?_⟩
    repeat' (with_reducible refine And.intro ?_ ?_)
    all_goals try (rw [IntWalk.i64_in _ (by omega)]; first | rfl | omega)
    all_goals try omega
    all_goals try (repeat' (with_reducible first | exact Heap.le_refl _ | refine (le_upd (by first | assumption | exact And.right (by assumption) | exact upd_none.2 (by assumption))).2 ?_))
    all_goals try (simp only [DExpr.c_eq]; done)
  · have hk' : k = x.fKids.length := by omega
    subst hk'
    simp (maxSteps := 1000000) -dsimp -implicitDefEqProofs only [go_sem, ↓reduceIte, keep163, ib163, mk163, Tryz.f163, Nat.lt_irrefl]
    rw [List.take_length, IntWalk.i64_in _ (by omega)]; omega
theorem ExprDepth (x : DExpr) (hs : x.s ≤ 4294967296) : Fn0 Tryz.prog 163 [.agg x.c] (I (x.d : Int)) :=
  ExprDepth_step x hs fun y hy => ExprDepth y (by have := DExpr.kid_s hy; omega)
termination_by SizeOf.sizeOf x
decreasing_by exact DExpr.kid_lt hy
def keep146 : List Nat := [0, 1, 4, 5, 18]
def ib146 : List Nat := []
def mk146 : Marks := fun _ => ([], .nil, [])
set_option maxRecDepth 100000 in
theorem l02Left_step (x : DExpr) (left : Int) (h0 : 0 ≤ left) (h9 : left ≤ 4294967296) (hs : x.s ≤ 4294967296) (hc : ∀ y ∈ x.fKids, ∀ left : Int, 0 ≤ left → left ≤ 4294967296 → Fn0 Tryz.prog 146 [.ip 5 [y.c] 0 0, I left] (I (lft left (y.s + 1)))) : Fn0 Tryz.prog 146 [.ip 5 [x.c] 0 0, I left] (I (lft left (x.s + 1))) := by
  have hx := x.all_s
  rw [DExpr.c_eq x]
  refine fn0F 30 keep146 ib146 mk146 mix Tryz.func146 rfl (by kernel_rfl) (by simp) fun h => ?_
  simp (maxSteps := 1000000) -dsimp -implicitDefEqProofs only [go_sem, ↓reduceIte, keep146, ib146, mk146, Tryz.f146]
  repeat' (with_reducible first | intro _ | refine And.intro ?_ ?_)
  refine loopF (keep := keep146) (ib := ib146) (mk := mk146) mix (by kernel_rfl) (fun k : Nat => [(0, .ip 5 [x.c] 0 0), (1, I (lft left (1 + k + ((x.fKids.take k).map DExpr.s).sum))), (5, I k)]) (fun _ => h) (fun k => k ≤ x.fKids.length) (fun k => x.fKids.length - k) 0 (by simp [SatL, tget, Heap.le_refl, DExpr.c_eq]; rw [IntWalk.i64_in _ (by omega)]; unfold lft; split <;> omega) ?_
  intro k hk
  rcases Nat.lt_or_ge k x.fKids.length with hlt | hge
  · have hp := x.part_s hlt
    have h1 := sum_take_succ DExpr.s x.fKids k hlt
    rcases lft_cases left (1 + k + ((x.fKids.take k).map DExpr.s).sum) with ⟨e, hl⟩ | ⟨e, hl⟩
    · rw [e, DExpr.c_eq x]
      simp (maxSteps := 1000000) -dsimp -implicitDefEqProofs only [go_sem, ↓reduceIte, keep146, ib146, mk146, Tryz.f146]
      repeat' (with_reducible first | intro _ | refine And.intro ?_ ?_)
      all_goals try omega
      exact (lft_neg (by omega)).symm
    · rw [e, DExpr.c_eq x]
      simp (maxSteps := 1000000) -dsimp -implicitDefEqProofs only [go_sem, ↓reduceIte, keep146, ib146, mk146, Tryz.f146]
      repeat' (with_reducible first | intro _ | refine And.intro ?_ ?_)
      all_goals try omega
      first | refine CallSF.mk ((hc x.fKids[k] (List.getElem_mem hlt) _ hl (by omega)).sub (by repeat' (first | exact SubL.nil | refine SubL.cons ?_ ?_ | exact Sub.refl _ | (rw [DExpr.c_eq]; exact Sub.refl _) | exact Sub.ipAt rfl rfl rfl | exact Sub.ip (map_get (by omega)) (by simp) | exact Sub.ipAt (map_get (by omega)) rfl rfl | exact Sub.ip (by simp [*]) (by simp) | exact Sub.ipAt (by simp [*]) (by rfl) (by rfl)))) ?_ | refine HFnF.mk ((hc x.fKids[k] (List.getElem_mem hlt) _ hl (by omega)).sub (by repeat' (first | exact SubL.nil | refine SubL.cons ?_ ?_ | exact Sub.refl _ | (rw [DExpr.c_eq]; exact Sub.refl _) | exact Sub.ipAt rfl rfl rfl | exact Sub.ip (map_get (by omega)) (by simp) | exact Sub.ipAt (map_get (by omega)) rfl rfl | exact Sub.ip (by simp [*]) (by simp) | exact Sub.ipAt (by simp [*]) (by rfl) (by rfl)))) ?_
      simp (maxSteps := 1000000) -dsimp -implicitDefEqProofs only [go_sem, ↓reduceIte, keep146, ib146, mk146, Tryz.f146]
      refine ⟨k + 1, ?_⟩
      repeat' (with_reducible refine And.intro ?_ ?_)
      all_goals try (rw [IntWalk.i64_in _ (by omega)]; first | rfl | omega)
      all_goals try omega
      all_goals try (repeat' (with_reducible first | exact Heap.le_refl _ | refine (le_upd (by first | assumption | exact And.right (by assumption) | exact upd_none.2 (by assumption))).2 ?_))
      all_goals try (simp only [DExpr.c_eq]; done)
      all_goals (rw [h1]; unfold lft; split <;> split <;> omega)
  · have hk' : k = x.fKids.length := by omega
    subst hk'
    rw [DExpr.c_eq x]
    simp (maxSteps := 1000000) -dsimp -implicitDefEqProofs only [go_sem, ↓reduceIte, keep146, ib146, mk146, Tryz.f146, Nat.lt_irrefl]
    rw [show 1 + x.fKids.length + ((x.fKids.take x.fKids.length).map DExpr.s).sum = x.s + 1 by omega]
    exact fun _ => rfl
theorem l02Left (x : DExpr) (left : Int) (h0 : 0 ≤ left) (h9 : left ≤ 4294967296) (hs : x.s ≤ 4294967296) : Fn0 Tryz.prog 146 [.ip 5 [x.c] 0 0, I left] (I (lft left (x.s + 1))) :=
  l02Left_step x left h0 h9 hs fun y hy left h0 h9 => l02Left y left h0 h9 (by have := DExpr.kid_s hy; omega)
termination_by SizeOf.sizeOf x
decreasing_by exact DExpr.kid_lt hy
def keep166 : List Nat := [0, 1, 4, 7]
def ib166 : List Nat := []
def mk166 : Marks := fun _ => ([], .nil, [])
theorem l00Max (a b : Int) : Fn0 Tryz.prog 166 [I a, I b] (I (max a b)) := by
  refine fn0F 10 keep166 ib166 mk166 mix Tryz.func166 rfl (by kernel_rfl) (by simp) fun h => ?_
  simp (maxSteps := 1000000) -dsimp -implicitDefEqProofs only [go_sem, ↓reduceIte, keep166, ib166, mk166, Tryz.f166]
  repeat' (with_reducible first | intro _ | refine And.intro ?_ ?_)
  all_goals omega
def keep158 : List Nat := [0, 2, 3, 4, 11]
def ib158 : List Nat := []
def mk158 : Marks := fun _ => ([], .nil, [])
set_option maxRecDepth 100000 in
theorem l02Depth_step (x : DExpr) (hs : x.s ≤ 4294967296) (hc : ∀ y ∈ x.fKids, Fn0 Tryz.prog 158 [.ip 5 [y.c] 0 0] (I (y.d : Int))) : Fn0 Tryz.prog 158 [.ip 5 [x.c] 0 0] (I (x.d : Int)) := by
  have hd := x.d_le
  rw [DExpr.d_eq] at hd ⊢
  rw [DExpr.c_eq x]
  refine fn0F 25 keep158 ib158 mk158 mix Tryz.func158 rfl (by kernel_rfl) (by simp) fun h => ?_
  simp (maxSteps := 1000000) -dsimp -implicitDefEqProofs only [go_sem, ↓reduceIte, keep158, ib158, mk158, Tryz.f158]
  repeat' (with_reducible first | intro _ | refine And.intro ?_ ?_)
  refine loopF (keep := keep158) (ib := ib158) (mk := mk158) mix (by kernel_rfl) (fun k : Nat => [(0, .ip 5 [x.c] 0 0), (3, I (DExpr.dL (x.fKids.take k) : Int)), (4, I k)]) (fun _ => h) (fun k => k ≤ x.fKids.length) (fun k => x.fKids.length - k) 0 (by simp [SatL, tget, Heap.le_refl, DExpr.c_eq, DExpr.dL]) ?_
  intro k hk
  rw [DExpr.c_eq x]
  rcases Nat.lt_or_ge k x.fKids.length with hlt | hge
  · have h1 := DExpr.dL_take hlt
    simp (maxSteps := 1000000) -dsimp -implicitDefEqProofs only [go_sem, ↓reduceIte, keep158, ib158, mk158, Tryz.f158]
    repeat' (with_reducible first | intro _ | refine And.intro ?_ ?_)
    all_goals try omega
    first | refine CallSF.mk ((hc x.fKids[k] (List.getElem_mem hlt)).sub (by repeat' (first | exact SubL.nil | refine SubL.cons ?_ ?_ | exact Sub.refl _ | (rw [DExpr.c_eq]; exact Sub.refl _) | exact Sub.ipAt rfl rfl rfl | exact Sub.ip (map_get (by omega)) (by simp) | exact Sub.ipAt (map_get (by omega)) rfl rfl | exact Sub.ip (by simp [*]) (by simp) | exact Sub.ipAt (by simp [*]) (by rfl) (by rfl)))) ?_ | refine HFnF.mk ((hc x.fKids[k] (List.getElem_mem hlt)).sub (by repeat' (first | exact SubL.nil | refine SubL.cons ?_ ?_ | exact Sub.refl _ | (rw [DExpr.c_eq]; exact Sub.refl _) | exact Sub.ipAt rfl rfl rfl | exact Sub.ip (map_get (by omega)) (by simp) | exact Sub.ipAt (map_get (by omega)) rfl rfl | exact Sub.ip (by simp [*]) (by simp) | exact Sub.ipAt (by simp [*]) (by rfl) (by rfl)))) ?_
    simp (maxSteps := 1000000) -dsimp -implicitDefEqProofs only [go_sem, ↓reduceIte, keep158, ib158, mk158, Tryz.f158]
    first | refine HFnF.mk (l00Max _ _) ?_ | refine CallSF.mk (l00Max _ _) ?_ | refine HFnF.mkAt (l00Max _ _) ?_ | refine CallSF.mk (FnAt.fn0 (l00Max _ _)) ?_
    simp (maxSteps := 1000000) -dsimp -implicitDefEqProofs only [go_sem, ↓reduceIte, keep158, ib158, mk158, Tryz.f158]
    refine ⟨k + 1, ?_⟩
    repeat' (with_reducible refine And.intro ?_ ?_)
    all_goals try (rw [IntWalk.i64_in _ (by omega)]; first | rfl | omega)
    all_goals try omega
    all_goals try (repeat' (with_reducible first | exact Heap.le_refl _ | refine (le_upd (by first | assumption | exact And.right (by assumption) | exact upd_none.2 (by assumption))).2 ?_))
    all_goals try (simp only [DExpr.c_eq]; done)
  · have hk' : k = x.fKids.length := by omega
    subst hk'
    simp (maxSteps := 1000000) -dsimp -implicitDefEqProofs only [go_sem, ↓reduceIte, keep158, ib158, mk158, Tryz.f158, Nat.lt_irrefl]
    intro _
    rw [List.take_length, IntWalk.i64_in _ (by omega)]; omega
theorem l02Depth (x : DExpr) (hs : x.s ≤ 4294967296) : Fn0 Tryz.prog 158 [.ip 5 [x.c] 0 0] (I (x.d : Int)) :=
  l02Depth_step x hs fun y hy => l02Depth y (by have := DExpr.kid_s hy; omega)
termination_by SizeOf.sizeOf x
decreasing_by exact DExpr.kid_lt hy

open Go.Proofs
set_option linter.unusedVariables false
set_option linter.unusedSimpArgs false
def kidsN (k : Int) : Int := if k = 1 ∨ k = 2 then 0 else if k = 3 ∨ k = 4 ∨ k = 5 ∨ k = 6 ∨ k = 9 then 2 else if k = 7 then 1 else if k = 8 then 3 else -1
/-- What is asked of one node. -/
def nodeOK (p : DProgram) (e : DExpr) (vars funcs : Int) : Prop :=
  if e.fKind = 10 ∨ e.fKind = 11 then
    0 ≤ e.fNum ∧ e.fNum ≤ funcs - 1 ∧ ∀ f, p.fFuncs[e.fNum.toNat]? = some f →
      0 ≤ e.fPick ∧ e.fPick ≤ (f.fOuts.length : Int) - 1 ∧ (e.fKids.length : Int) = f.fParams ∧ (e.fKind = 10 → e.fCount = 0) ∧ (e.fKind = 11 → 0 ≤ e.fCount ∧ e.fCount ≤ 8 ∧ (f.fOuts.length : Int) = f.fParams)
  else kidsN e.fKind = e.fKids.length ∧ e.fPick = 0 ∧ e.fCount = 0 ∧ (e.fKind = 1 → Num e.fNum) ∧ (e.fKind = 2 → 0 ≤ e.fNum ∧ e.fNum ≤ vars - 1) ∧ (e.fKind ≠ 1 → e.fKind ≠ 2 → e.fNum = 0)
noncomputable instance (p : DProgram) (e : DExpr) (vars funcs : Int) : Decidable (nodeOK p e vars funcs) := Classical.propDecidable _
def moreV (kind : Int) (i : Nat) (vars : Int) : Int := if kind = 9 ∧ i = 1 then vars + 1 else vars
mutual
def DExpr.ok (p : DProgram) (funcs : Int) : DExpr → Int → Prop
  | .mk a b c d kids, vars => nodeOK p (.mk a b c d kids) vars funcs ∧ DExpr.okL p funcs a kids 0 vars
def DExpr.okL (p : DProgram) (funcs : Int) (kind : Int) : List DExpr → Nat → Int → Prop
  | [], _, _ => True
  | x :: l, i, vars => x.ok p funcs (moreV kind i vars) ∧ DExpr.okL p funcs kind l (i + 1) vars
end
noncomputable instance (p : DProgram) (funcs : Int) (e : DExpr) (vars : Int) : Decidable (e.ok p funcs vars) := Classical.propDecidable _
theorem DExpr.okL_iff (p : DProgram) (funcs kind : Int) : ∀ (l : List DExpr) (i : Nat) (vars : Int), DExpr.okL p funcs kind l i vars ↔ ∀ (k : Nat) (h : k < l.length), l[k].ok p funcs (moreV kind (i + k) vars)
  | [], i, vars => by simp [DExpr.okL]
  | x :: l, i, vars => by
    rw [DExpr.okL, DExpr.okL_iff p funcs kind l (i + 1) vars]
    constructor
    · rintro ⟨h1, h2⟩ k hk
      cases k with
      | zero => exact h1
      | succ k => have := h2 k (by simpa using hk); rw [show i + 1 + k = i + (k + 1) by omega] at this; exact this
    · intro h
      refine ⟨h 0 (by simp), fun k hk => ?_⟩
      have := h (k + 1) (by simpa using hk)
      rw [show i + 1 + k = i + (k + 1) by omega]; exact this
theorem DExpr.ok_iff (p : DProgram) (funcs : Int) (x : DExpr) (vars : Int) : x.ok p funcs vars ↔ nodeOK p x vars funcs ∧ ∀ (k : Nat) (h : k < x.fKids.length), x.fKids[k].ok p funcs (moreV x.fKind k vars) := by
  cases x with
  | mk a b c d kids =>
    rw [DExpr.ok, DExpr.okL_iff]
    simp only [Nat.zero_add, DExpr.fKids, DExpr.fKind]
theorem DProgram.len_s (p : DProgram) : p.fFuncs.length ≤ p.s := by rw [p.s_eq, szs_eq]; omega
theorem DProgram.func_s {p : DProgram} {f : DFunc} (h : f ∈ p.fFuncs) : f.s + p.fFuncs.length ≤ p.s := by
  have := sum_mem DFunc.s h
  rw [p.s_eq, szs_eq]; omega
theorem DFunc.outs_s (f : DFunc) : f.fOuts.length ≤ f.s := by rw [f.s_eq, szs_eq]; omega
theorem DFunc.out_s {f : DFunc} {e : DExpr} (h : e ∈ f.fOuts) : e.s < f.s := by
  have := sum_mem DExpr.s h
  have := List.length_pos_of_mem h
  rw [f.s_eq, szs_eq]; omega
def keep168 : List Nat := [0, 2, 3, 4, 7, 13, 15]
def ib168 : List Nat := []
def mk168 : Marks := fun _ => ([], .nil, [])
theorem l02Kids (k : Int) : Fn0 Tryz.prog 168 [I k] (I (kidsN k)) := by
  refine fn0F 17 keep168 ib168 mk168 mix Tryz.func168 rfl (by kernel_rfl) (by simp) fun h => ?_
  simp (maxSteps := 1000000) -dsimp -implicitDefEqProofs only [go_sem, ↓reduceIte, keep168, ib168, mk168, Tryz.f168]
  repeat' (with_reducible first | intro _ | refine And.intro ?_ ?_)
  all_goals try (first | (simp [kidsN, *]; done) | omega | (grind [kidsN]) | (simp [kidsN]; omega))
theorem nodeOK_call {p : DProgram} {e : DExpr} {vars funcs : Int} (hk : e.fKind = 10 ∨ e.fKind = 11) {f : DFunc} (ef : p.fFuncs[e.fNum.toNat]? = some f) : nodeOK p e vars funcs ↔
    0 ≤ e.fNum ∧ e.fNum ≤ funcs - 1 ∧ 0 ≤ e.fPick ∧ e.fPick ≤ (f.fOuts.length : Int) - 1 ∧ (e.fKids.length : Int) = f.fParams ∧ (e.fKind = 10 → e.fCount = 0) ∧ (e.fKind = 11 → 0 ≤ e.fCount ∧ e.fCount ≤ 8 ∧ (f.fOuts.length : Int) = f.fParams) := by
  unfold nodeOK
  rw [if_pos hk]
  simp [ef]
theorem nodeOK_range {p : DProgram} {e : DExpr} {vars funcs : Int} (hk : e.fKind = 10 ∨ e.fKind = 11) (hr : ¬ (0 ≤ e.fNum ∧ e.fNum ≤ funcs - 1)) : ¬ nodeOK p e vars funcs := by
  unfold nodeOK
  rw [if_pos hk]
  intro h
  exact hr ⟨h.1, h.2.1⟩
theorem nodeOK_plain {p : DProgram} {e : DExpr} {vars funcs : Int} (hk : ¬ (e.fKind = 10 ∨ e.fKind = 11)) : nodeOK p e vars funcs ↔
    kidsN e.fKind = e.fKids.length ∧ e.fPick = 0 ∧ e.fCount = 0 ∧ (e.fKind = 1 → Num e.fNum) ∧ (e.fKind = 2 → 0 ≤ e.fNum ∧ e.fNum ≤ vars - 1) ∧ (e.fKind ≠ 1 → e.fKind ≠ 2 → e.fNum = 0) := by
  unfold nodeOK
  rw [if_neg hk]
def keep167 : List Nat := [0, 1, 2, 3, 8, 9, 21, 29, 62, 67, 114, 118, 119, 126]
def ib167 : List Nat := []
def mk167 : Marks := fun id => match id with | 4 => ([], (.op 0 (.op 1 (.op 2 (.op 3 (.op 4 (.op 5 (.op 6 (.op 7 (.op 8 (.op 9 .nil)))))))))), []) | 5 => ([], (.op 0 (.op 1 (.op 2 (.op 3 (.op 4 (.op 5 (.op 6 (.op 7 (.op 8 (.op 9 (.op 10 (.op 11 (.op 12 (.op 13 (.op 14 (.op 15 (.op 16 (.op 17 (.op 18 (.op 19 (.op 20 (.op 21 (.op 22 (.op 23 .nil)))))))))))))))))))))))), []) | 9 => ([], (.op 0 (.op 1 (.op 2 (.op 3 (.op 4 (.op 5 (.op 6 (.op 7 (.op 8 (.op 9 (.op 10 (.op 11 (.op 12 (.op 13 (.op 14 (.op 15 (.op 16 (.op 17 .nil)))))))))))))))))), []) | 10 => ([], (.op 0 (.op 1 (.op 2 (.op 3 (.op 4 (.op 5 (.op 6 (.op 7 (.op 8 (.op 9 (.op 10 (.op 11 (.op 12 (.op 13 (.op 14 (.op 15 (.op 16 (.op 17 (.op 18 (.op 19 (.op 20 (.op 21 (.op 22 (.op 23 (.op 24 .nil))))))))))))))))))))))))), []) | _ => ([], .nil, [])
set_option maxRecDepth 100000 in
theorem l02Node (p : DProgram) (e : DExpr) (vars funcs : Int) (hv : 0 ≤ vars) (hv2 : vars ≤ 4294967296) (hf0 : 0 ≤ funcs) (hf : funcs ≤ p.fFuncs.length) (hps : p.s ≤ 4294967296) : Fn0 Tryz.prog 167 [.ip 1 [p.c] 0 0, .ip 5 [e.c] 0 0, I vars, I funcs] (.bool (decide (nodeOK p e vars funcs))) := by
  have hl := p.len_s
  have e1 : IntKind.i64.wrap (funcs - 1) = funcs - 1 := IntWalk.i64_in _ (by omega)
  have e2 : IntKind.i64.wrap (vars - 1) = vars - 1 := IntWalk.i64_in _ (by omega)
  rw [DExpr.c_eq]
  simp only [DProgram.c_eq]
  by_cases hk : e.fKind = 10 ∨ e.fKind = 11
  · by_cases hr : 0 ≤ e.fNum ∧ e.fNum ≤ funcs - 1
    · obtain ⟨f, ef⟩ : ∃ f, p.fFuncs[e.fNum.toNat]? = some f := ⟨_, List.getElem?_eq_getElem (by omega)⟩
      have hn := nodeOK_call (vars := vars) (funcs := funcs) hk ef
      have hfs := DProgram.func_s (List.mem_of_getElem? ef)
      have hos := f.outs_s
      refine fn0F 140 keep167 ib167 mk167 mix Tryz.func167 rfl (by kernel_rfl) (by simp) fun h => ?_
      simp (maxSteps := 1000000) -dsimp -implicitDefEqProofs only [go_sem, ↓reduceIte, keep167, ib167, mk167, Tryz.f167, e1, e2]
      repeat' (with_reducible first | intro _ | refine And.intro ?_ ?_)
      all_goals try omega
      all_goals (first | refine HFnF.mk (l00In e.fNum 0 (funcs - 1)) ?_ | refine CallSF.mk (l00In e.fNum 0 (funcs - 1)) ?_)
      all_goals simp (maxSteps := 1000000) -dsimp -implicitDefEqProofs only [go_sem, ↓reduceIte, keep167, ib167, mk167, Tryz.f167, ef, DFunc.c_eq]
      all_goals repeat' (with_reducible first | intro _ | refine And.intro ?_ ?_)
      all_goals try omega
      all_goals try simp (disch := omega) only [IntWalk.i64_in]
      all_goals (first | refine HFnF.mk (l00In e.fPick 0 (f.fOuts.length - 1)) ?_ | refine CallSF.mk (l00In e.fPick 0 (f.fOuts.length - 1)) ?_)
      all_goals simp (maxSteps := 1000000) -dsimp -implicitDefEqProofs only [go_sem, ↓reduceIte, keep167, ib167, mk167, Tryz.f167, ef, DFunc.c_eq]
      all_goals repeat' (with_reducible first | intro _ | refine And.intro ?_ ?_)
      all_goals try omega
      all_goals try (first | (simp [*]; done) | omega | grind)
      first | refine HFnF.mk (l00In e.fCount 0 8) ?_ | refine CallSF.mk (l00In e.fCount 0 8) ?_ | refine HFnF.mkAt (l00In e.fCount 0 8) ?_ | refine CallSF.mk (FnAt.fn0 (l00In e.fCount 0 8)) ?_
      simp (maxSteps := 1000000) -dsimp -implicitDefEqProofs only [go_sem, ↓reduceIte, keep167, ib167, mk167, Tryz.f167, ef, DFunc.c_eq]
      repeat' (with_reducible first | intro _ | refine And.intro ?_ ?_)
      all_goals try (first | (simp [*]; done) | omega | grind)
    · have hn := nodeOK_range (p := p) (vars := vars) hk hr
      refine fn0F 140 keep167 ib167 mk167 mix Tryz.func167 rfl (by kernel_rfl) (by simp) fun h => ?_
      simp (maxSteps := 1000000) -dsimp -implicitDefEqProofs only [go_sem, ↓reduceIte, keep167, ib167, mk167, Tryz.f167, e1, e2]
      repeat' (with_reducible first | intro _ | refine And.intro ?_ ?_)
      all_goals try omega
      all_goals (first | refine HFnF.mk (l00In e.fNum 0 (funcs - 1)) ?_ | refine CallSF.mk (l00In e.fNum 0 (funcs - 1)) ?_)
      all_goals simp (maxSteps := 1000000) -dsimp -implicitDefEqProofs only [go_sem, ↓reduceIte, keep167, ib167, mk167, Tryz.f167]
      all_goals repeat' (with_reducible first | intro _ | refine And.intro ?_ ?_)
      all_goals try (first | (simp [*]; done) | omega | grind)
  · have hn := nodeOK_plain (p := p) (vars := vars) (funcs := funcs) hk
    refine fn0F 140 keep167 ib167 mk167 mix Tryz.func167 rfl (by kernel_rfl) (by simp) fun h => ?_
    simp (maxSteps := 1000000) -dsimp -implicitDefEqProofs only [go_sem, ↓reduceIte, keep167, ib167, mk167, Tryz.f167, e1, e2]
    repeat' (with_reducible first | intro _ | refine And.intro ?_ ?_)
    all_goals try omega
    first | refine HFnF.mk (l02Kids e.fKind) ?_ | refine CallSF.mk (l02Kids e.fKind) ?_ | refine HFnF.mkAt (l02Kids e.fKind) ?_ | refine CallSF.mk (FnAt.fn0 (l02Kids e.fKind)) ?_
    simp (maxSteps := 1000000) -dsimp -implicitDefEqProofs only [go_sem, ↓reduceIte, keep167, ib167, mk167, Tryz.f167]
    repeat' (with_reducible first | intro _ | refine And.intro ?_ ?_)
    all_goals try (first | (simp [*]; done) | omega | grind)
    · first | refine HFnF.mk (l01Number e.fNum) ?_ | refine CallSF.mk (l01Number e.fNum) ?_ | refine HFnF.mkAt (l01Number e.fNum) ?_ | refine CallSF.mk (FnAt.fn0 (l01Number e.fNum)) ?_
      simp (maxSteps := 1000000) -dsimp -implicitDefEqProofs only [go_sem, ↓reduceIte, keep167, ib167, mk167, Tryz.f167]
      all_goals try (first | (simp [*]; done) | omega | grind)
    · all_goals try simp (disch := omega) only [IntWalk.i64_in]
      first | refine HFnF.mk (l00In e.fNum 0 (vars - 1)) ?_ | refine CallSF.mk (l00In e.fNum 0 (vars - 1)) ?_ | refine HFnF.mkAt (l00In e.fNum 0 (vars - 1)) ?_ | refine CallSF.mk (FnAt.fn0 (l00In e.fNum 0 (vars - 1))) ?_
      simp (maxSteps := 1000000) -dsimp -implicitDefEqProofs only [go_sem, ↓reduceIte, keep167, ib167, mk167, Tryz.f167]
      all_goals try (first | (simp [*]; done) | omega | grind)
def keep164 : List Nat := [0, 1, 2, 3, 4, 6, 7, 8, 9, 10, 11, 12, 25, 26, 38, 52, 68, 69, 81, 82, 94, 95, 104, 125, 152, 154, 155, 156, 157, 168, 175]
def ib164 : List Nat := [3, 4]
def mk164 : Marks := fun _ => ([], .nil, [])
open Go.Proofs
set_option linter.unusedVariables false
set_option linter.unusedSimpArgs false
def keep159 : List Nat := [0, 1, 2, 3, 8, 9, 10, 16, 23, 35, 48]
def ib159 : List Nat := []
def mk159 : Marks := fun _ => ([], .nil, [])
set_option maxRecDepth 100000 in
theorem l02Tree_step (p : DProgram) (e : DExpr) (vars funcs : Int) (hv : 0 ≤ vars) (hv2 : vars + e.s ≤ 4294967296) (hf0 : 0 ≤ funcs) (hf : funcs ≤ p.fFuncs.length) (hps : p.s ≤ 4294967296)
    (hc : ∀ y ∈ e.fKids, ∀ vars : Int, 0 ≤ vars → vars + y.s ≤ 4294967296 → Fn0 Tryz.prog 159 [.ip 1 [p.c] 0 0, .ip 5 [y.c] 0 0, I vars, I funcs] (.bool (decide (y.ok p funcs vars)))) :
    Fn0 Tryz.prog 159 [.ip 1 [p.c] 0 0, .ip 5 [e.c] 0 0, I vars, I funcs] (.bool (decide (e.ok p funcs vars))) := by
  have hok := DExpr.ok_iff p funcs e vars
  simp only [DExpr.c_eq, DProgram.c_eq]
  refine fn0F 49 keep159 ib159 mk159 mix Tryz.func159 rfl (by kernel_rfl) (by simp) fun h => ?_
  simp (maxSteps := 1000000) -dsimp -implicitDefEqProofs only [go_sem, ↓reduceIte, keep159, ib159, mk159, Tryz.f159]
  first | refine CallSF.mk ((l02Node p e vars funcs hv (by omega) hf0 hf hps).sub (by repeat' (first | exact SubL.nil | refine SubL.cons ?_ ?_ | exact Sub.refl _ | (rw [DExpr.c_eq]; exact Sub.refl _) | exact Sub.ipAt rfl rfl rfl | exact Sub.ip (map_get (by omega)) (by simp) | exact Sub.ipAt (map_get (by omega)) rfl rfl | exact Sub.ip (by simp [*]) (by simp) | exact Sub.ipAt (by simp [*]) (by rfl) (by rfl)))) ?_ | refine HFnF.mk ((l02Node p e vars funcs hv (by omega) hf0 hf hps).sub (by repeat' (first | exact SubL.nil | refine SubL.cons ?_ ?_ | exact Sub.refl _ | (rw [DExpr.c_eq]; exact Sub.refl _) | exact Sub.ipAt rfl rfl rfl | exact Sub.ip (map_get (by omega)) (by simp) | exact Sub.ipAt (map_get (by omega)) rfl rfl | exact Sub.ip (by simp [*]) (by simp) | exact Sub.ipAt (by simp [*]) (by rfl) (by rfl)))) ?_
  simp (maxSteps := 1000000) -dsimp -implicitDefEqProofs only [go_sem, ↓reduceIte, keep159, ib159, mk159, Tryz.f159]
  repeat' (with_reducible first | intro _ | refine And.intro ?_ ?_)
  · rename_i hn
    exact (decide_eq_false fun q => hn (hok.1 q).1).symm
  · rename_i hn
    refine loopF (keep := keep159) (ib := ib159) (mk := mk159) mix (by kernel_rfl) (fun k : Nat => [(0, .ip 1 [p.c] 0 0), (1, .ip 5 [e.c] 0 0), (2, I vars), (3, I funcs), (9, I k)]) (fun _ => h) (fun k => k ≤ e.fKids.length ∧ ∀ (j : Nat) (hj : j < e.fKids.length), j < k → e.fKids[j].ok p funcs (moreV e.fKind j vars)) (fun k => e.fKids.length - k) 0 (by simp [SatL, tget, Heap.le_refl, DExpr.c_eq, DProgram.c_eq]) ?_
    intro k ⟨hk, hp⟩
    simp only [DExpr.c_eq, DProgram.c_eq]
    rcases Nat.lt_or_ge k e.fKids.length with hlt | hge
    · have hs1 := DExpr.kid_s (List.getElem_mem hlt)
      have nx (q : e.fKids[k].ok p funcs (moreV e.fKind k vars)) : ∀ (j : Nat) (hj : j < e.fKids.length), j < k + 1 → e.fKids[j].ok p funcs (moreV e.fKind j vars) := by
        intro j hj hjk
        rcases Nat.lt_succ_iff_lt_or_eq.1 hjk with h1 | rfl
        · exact hp j hj h1
        · exact q
      have no (q : ¬ e.fKids[k].ok p funcs (moreV e.fKind k vars)) : false = decide (e.ok p funcs vars) := (decide_eq_false fun z => q ((hok.1 z).2 k hlt)).symm
      simp (maxSteps := 1000000) -dsimp -implicitDefEqProofs only [go_sem, ↓reduceIte, keep159, ib159, mk159, Tryz.f159]
      repeat' (with_reducible first | intro _ | refine And.intro ?_ ?_)
      all_goals try omega
      · have em : moreV e.fKind k vars = vars + 1 := if_pos ⟨by assumption, by omega⟩
        rw [em] at nx no
        all_goals try simp (disch := omega) only [IntWalk.i64_in]
        first | refine CallSF.mk ((hc e.fKids[k] (List.getElem_mem hlt) (vars + 1) (by omega) (by omega)).sub (by repeat' (first | exact SubL.nil | refine SubL.cons ?_ ?_ | exact Sub.refl _ | (rw [DExpr.c_eq]; exact Sub.refl _) | exact Sub.ipAt rfl rfl rfl | exact Sub.ip (map_get (by omega)) (by simp) | exact Sub.ipAt (map_get (by omega)) rfl rfl | exact Sub.ip (by simp [*]) (by simp) | exact Sub.ipAt (by simp [*]) (by rfl) (by rfl)))) ?_ | refine HFnF.mk ((hc e.fKids[k] (List.getElem_mem hlt) (vars + 1) (by omega) (by omega)).sub (by repeat' (first | exact SubL.nil | refine SubL.cons ?_ ?_ | exact Sub.refl _ | (rw [DExpr.c_eq]; exact Sub.refl _) | exact Sub.ipAt rfl rfl rfl | exact Sub.ip (map_get (by omega)) (by simp) | exact Sub.ipAt (map_get (by omega)) rfl rfl | exact Sub.ip (by simp [*]) (by simp) | exact Sub.ipAt (by simp [*]) (by rfl) (by rfl)))) ?_
        simp (maxSteps := 1000000) -dsimp -implicitDefEqProofs only [go_sem, ↓reduceIte, keep159, ib159, mk159, Tryz.f159]
        repeat' (with_reducible first | intro _ | refine And.intro ?_ ?_)
        · exact no (by assumption)
        · refine ⟨k + 1, ?_⟩
          repeat' (with_reducible refine And.intro ?_ ?_)
          all_goals try (rw [IntWalk.i64_in _ (by omega)]; first | rfl | omega)
          all_goals try omega
          all_goals try (repeat' (with_reducible first | exact Heap.le_refl _ | refine (le_upd (by first | assumption | exact And.right (by assumption) | exact upd_none.2 (by assumption))).2 ?_))
          all_goals try (simp only [DExpr.c_eq, DProgram.c_eq]; done)
          exact nx (by assumption)
      all_goals
        have em : moreV e.fKind k vars = vars := if_neg (by omega)
        rw [em] at nx no
        first | refine CallSF.mk ((hc e.fKids[k] (List.getElem_mem hlt) vars (by omega) (by omega)).sub (by repeat' (first | exact SubL.nil | refine SubL.cons ?_ ?_ | exact Sub.refl _ | (rw [DExpr.c_eq]; exact Sub.refl _) | exact Sub.ipAt rfl rfl rfl | exact Sub.ip (map_get (by omega)) (by simp) | exact Sub.ipAt (map_get (by omega)) rfl rfl | exact Sub.ip (by simp [*]) (by simp) | exact Sub.ipAt (by simp [*]) (by rfl) (by rfl)))) ?_ | refine HFnF.mk ((hc e.fKids[k] (List.getElem_mem hlt) vars (by omega) (by omega)).sub (by repeat' (first | exact SubL.nil | refine SubL.cons ?_ ?_ | exact Sub.refl _ | (rw [DExpr.c_eq]; exact Sub.refl _) | exact Sub.ipAt rfl rfl rfl | exact Sub.ip (map_get (by omega)) (by simp) | exact Sub.ipAt (map_get (by omega)) rfl rfl | exact Sub.ip (by simp [*]) (by simp) | exact Sub.ipAt (by simp [*]) (by rfl) (by rfl)))) ?_
        simp (maxSteps := 1000000) -dsimp -implicitDefEqProofs only [go_sem, ↓reduceIte, keep159, ib159, mk159, Tryz.f159]
        repeat' (with_reducible first | intro _ | refine And.intro ?_ ?_)
        · exact no (by assumption)
        · refine ⟨k + 1, ?_⟩
          repeat' (with_reducible refine And.intro ?_ ?_)
          all_goals try (rw [IntWalk.i64_in _ (by omega)]; first | rfl | omega)
          all_goals try omega
          all_goals try (repeat' (with_reducible first | exact Heap.le_refl _ | refine (le_upd (by first | assumption | exact And.right (by assumption) | exact upd_none.2 (by assumption))).2 ?_))
          all_goals try (simp only [DExpr.c_eq, DProgram.c_eq]; done)
          exact nx (by assumption)
    · have hk' : k = e.fKids.length := by omega
      subst hk'
      simp (maxSteps := 1000000) -dsimp -implicitDefEqProofs only [go_sem, ↓reduceIte, keep159, ib159, mk159, Tryz.f159, Nat.lt_irrefl]
      exact fun _ => (decide_eq_true (hok.2 ⟨hn, fun j hj => hp j hj hj⟩)).symm
theorem l02Tree (p : DProgram) (e : DExpr) (vars funcs : Int) (hv : 0 ≤ vars) (hv2 : vars + e.s ≤ 4294967296) (hf0 : 0 ≤ funcs) (hf : funcs ≤ p.fFuncs.length) (hps : p.s ≤ 4294967296) :
    Fn0 Tryz.prog 159 [.ip 1 [p.c] 0 0, .ip 5 [e.c] 0 0, I vars, I funcs] (.bool (decide (e.ok p funcs vars))) :=
  l02Tree_step p e vars funcs hv hv2 hf0 hf hps fun y hy vars hv hv2 => l02Tree p y vars funcs hv hv2 hf0 hf hps
termination_by SizeOf.sizeOf e
decreasing_by exact DExpr.kid_lt hy
open Go.Proofs
set_option linter.unusedVariables false
set_option linter.unusedSimpArgs false
set_option maxHeartbeats 8000000 in
set_option maxRecDepth 100000 in
theorem isFormed_plain (p : DProgram) (e : DExpr) (vars funcs : Int) (hv : 0 ≤ vars) (hv2 : vars + e.s ≤ 4294967296) (hf0 : 0 ≤ funcs) (hf : funcs ≤ p.fFuncs.length) (hps : p.s ≤ 4294967296)
    (hc : ∀ y ∈ e.fKids, ∀ vars : Int, 0 ≤ vars → vars + y.s ≤ 4294967296 → Fn0 Tryz.prog 164 [.agg [sls 3 DFunc.c p.fFuncs, I funcs], .agg y.c, I vars] (.bool (decide (y.ok p funcs vars)))) (hk : ¬ (e.fKind = 10 ∨ e.fKind = 11)) :
    Fn0 Tryz.prog 164 [.agg [sls 3 DFunc.c p.fFuncs, I funcs], .agg e.c, I vars] (.bool (decide (e.ok p funcs vars))) := by
  have hok := DExpr.ok_iff p funcs e vars
  have hl := p.len_s
  have e1 : IntKind.i64.wrap (funcs - 1) = funcs - 1 := IntWalk.i64_in _ (by omega)
  have e2 : IntKind.i64.wrap (vars - 1) = vars - 1 := IntWalk.i64_in _ (by omega)
  simp only [DExpr.c_eq]
  have no1 (hk : ¬ (e.fKind = 10 ∨ e.fKind = 11)) (q : ¬ (kidsN e.fKind = e.fKids.length ∧ e.fPick = 0 ∧ e.fCount = 0 ∧ (e.fKind = 1 → Num e.fNum) ∧ (e.fKind = 2 → 0 ≤ e.fNum ∧ e.fNum ≤ vars - 1) ∧ (e.fKind ≠ 1 → e.fKind ≠ 2 → e.fNum = 0))) : false = decide (e.ok p funcs vars) :=
    (decide_eq_false fun z => q ((nodeOK_plain hk).1 (hok.1 z).1)).symm
  have yes1 (hk : ¬ (e.fKind = 10 ∨ e.fKind = 11)) (q : kidsN e.fKind = e.fKids.length ∧ e.fPick = 0 ∧ e.fCount = 0 ∧ (e.fKind = 1 → Num e.fNum) ∧ (e.fKind = 2 → 0 ≤ e.fNum ∧ e.fNum ≤ vars - 1) ∧ (e.fKind ≠ 1 → e.fKind ≠ 2 → e.fNum = 0)) : nodeOK p e vars funcs := (nodeOK_plain hk).2 q
  refine fn0F 177 keep164 ib164 mk164 mix Tryz.func164 rfl (by kernel_rfl) (by simp) fun h => ?_
  simp (maxSteps := 1000000) -dsimp -implicitDefEqProofs only [go_sem, ↓reduceIte, keep164, ib164, mk164, Tryz.f164, e1, e2]
  repeat' (with_reducible first | intro _ | refine And.intro ?_ ?_)
  all_goals try omega
  all_goals try (refine no1 (by omega) ?_; simp only [kidsN]; grind)
  · first | refine HFnF.mk (isNumber e.fNum) ?_ | refine CallSF.mk (isNumber e.fNum) ?_ | refine HFnF.mkAt (isNumber e.fNum) ?_ | refine CallSF.mk (FnAt.fn0 (isNumber e.fNum)) ?_
    simp (maxSteps := 1000000) -dsimp -implicitDefEqProofs only [go_sem, ↓reduceIte, keep164, ib164, mk164, Tryz.f164]
    rw [decide_eq_decide, hok, nodeOK_plain hk]
    have : e.fKids.length = 0 := by omega
    constructor
    · intro q
      exact ⟨by simp only [kidsN]; grind, fun k hk => by omega⟩
    · intro q
      grind
  · first | refine HFnF.mk (within e.fNum 0 (vars - 1)) ?_ | refine CallSF.mk (within e.fNum 0 (vars - 1)) ?_ | refine HFnF.mkAt (within e.fNum 0 (vars - 1)) ?_ | refine CallSF.mk (FnAt.fn0 (within e.fNum 0 (vars - 1))) ?_
    simp (maxSteps := 1000000) -dsimp -implicitDefEqProofs only [go_sem, ↓reduceIte, keep164, ib164, mk164, Tryz.f164]
    rw [decide_eq_decide, hok, nodeOK_plain hk]
    have : e.fKids.length = 0 := by omega
    constructor
    · intro q
      exact ⟨by simp only [kidsN]; grind, fun k hk => by omega⟩
    · intro q
      grind
  all_goals
    have hn := yes1 hk (by simp only [kidsN]; grind)
    clear no1 yes1
    refine loopF (keep := keep164) (ib := ib164) (mk := mk164) mix (by kernel_rfl) (fun k : Nat => [(2, I vars), (3, .ip 2 [[sls 3 DFunc.c p.fFuncs, I funcs]] 0 0), (4, .ip 5 [e.c] 0 0), (154, sls 5 DExpr.c e.fKids), (155, I e.fKids.length), (156, I k)]) (fun _ => h) (fun k => k ≤ e.fKids.length ∧ ∀ (j : Nat) (hj : j < e.fKids.length), j < k → e.fKids[j].ok p funcs (moreV e.fKind j vars)) (fun k => e.fKids.length - k) 0 (by refine ⟨by simp [SatL, tget, DExpr.c_eq], by repeat' (with_reducible first | exact Heap.le_refl _ | refine (le_upd (by first | assumption | exact And.right (by assumption) | exact upd_none.2 (by assumption))).2 ?_), by simp⟩) ?_
    intro k ⟨hk, hp⟩
    simp only [DExpr.c_eq]
    rcases Nat.lt_or_ge k e.fKids.length with hlt | hge
    · have hs1 := DExpr.kid_s (List.getElem_mem hlt)
      have nx (q : e.fKids[k].ok p funcs (moreV e.fKind k vars)) : ∀ (j : Nat) (hj : j < e.fKids.length), j < k + 1 → e.fKids[j].ok p funcs (moreV e.fKind j vars) := by
        intro j hj hjk
        rcases Nat.lt_succ_iff_lt_or_eq.1 hjk with h1 | rfl
        · exact hp j hj h1
        · exact q
      have no (q : ¬ e.fKids[k].ok p funcs (moreV e.fKind k vars)) : false = decide (e.ok p funcs vars) := (decide_eq_false fun z => q ((hok.1 z).2 k hlt)).symm
      have ea : e.fKids[k]? = some e.fKids[k] := List.getElem?_eq_getElem hlt
      rcases Decidable.em (e.fKind = 9 ∧ k = 1) with e9 | e9
      · have em : moreV e.fKind k vars = vars + 1 := if_pos e9
        rw [em] at nx no
        have hcy := hc e.fKids[k] (List.getElem_mem hlt) (vars + 1) (by omega) (by omega)
        simp only [DExpr.c_eq] at hcy
        simp (maxSteps := 1000000) -dsimp -implicitDefEqProofs only [go_sem, ↓reduceIte, keep164, ib164, mk164, Tryz.f164, ea, DExpr.c_eq, upd_upd]
        repeat' (with_reducible first | intro _ | refine And.intro ?_ ?_)
        all_goals try omega
        all_goals try simp (disch := omega) only [IntWalk.i64_in]
        all_goals (first | refine HFnF.mk (hcy) ?_ | refine CallSF.mk (hcy) ?_)
        all_goals simp (maxSteps := 1000000) -dsimp -implicitDefEqProofs only [go_sem, ↓reduceIte, keep164, ib164, mk164, Tryz.f164]
        all_goals repeat' (with_reducible first | intro _ | refine And.intro ?_ ?_)
        all_goals first | exact no (by assumption) | exact Heap.le_refl _ | skip
        all_goals try (exact (le_upd (by assumption)).2 (Heap.le_refl _))
        all_goals
          refine ⟨k + 1, ?_⟩
          repeat' (with_reducible refine And.intro ?_ ?_)
          all_goals try (rw [IntWalk.i64_in _ (by omega)]; first | rfl | omega)
          all_goals try omega
          all_goals try (repeat' (with_reducible first | exact Heap.le_refl _ | refine (le_upd (by first | assumption | exact And.right (by assumption) | exact upd_none.2 (by assumption))).2 ?_))
          all_goals try (simp only [DExpr.c_eq]; done)
          exact nx (by assumption)
      · have em : moreV e.fKind k vars = vars := if_neg e9
        rw [em] at nx no
        have hcy := hc e.fKids[k] (List.getElem_mem hlt) vars (by omega) (by omega)
        simp only [DExpr.c_eq] at hcy
        simp (maxSteps := 1000000) -dsimp -implicitDefEqProofs only [go_sem, ↓reduceIte, keep164, ib164, mk164, Tryz.f164, ea, DExpr.c_eq, upd_upd]
        repeat' (with_reducible first | intro _ | refine And.intro ?_ ?_)
        all_goals try omega
        all_goals (first | refine HFnF.mk (hcy) ?_ | refine CallSF.mk (hcy) ?_)
        all_goals simp (maxSteps := 1000000) -dsimp -implicitDefEqProofs only [go_sem, ↓reduceIte, keep164, ib164, mk164, Tryz.f164]
        all_goals repeat' (with_reducible first | intro _ | refine And.intro ?_ ?_)
        all_goals first | exact no (by assumption) | exact Heap.le_refl _ | skip
        all_goals try (exact (le_upd (by assumption)).2 (Heap.le_refl _))
        all_goals
          refine ⟨k + 1, ?_⟩
          repeat' (with_reducible refine And.intro ?_ ?_)
          all_goals try (rw [IntWalk.i64_in _ (by omega)]; first | rfl | omega)
          all_goals try omega
          all_goals try (repeat' (with_reducible first | exact Heap.le_refl _ | refine (le_upd (by first | assumption | exact And.right (by assumption) | exact upd_none.2 (by assumption))).2 ?_))
          all_goals try (simp only [DExpr.c_eq]; done)
          exact nx (by assumption)
    · have hk' : k = e.fKids.length := by omega
      subst hk'
      simp (maxSteps := 1000000) -dsimp -implicitDefEqProofs only [go_sem, ↓reduceIte, keep164, ib164, mk164, Tryz.f164, Nat.lt_irrefl]
      exact (decide_eq_true (hok.2 ⟨hn, fun j hj => hp j hj hj⟩)).symm
end Go.Hl

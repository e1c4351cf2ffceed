/-
  Contracts of functions and laws of the layer over the walk.
-/
import Derived.Test.YtenkidkcfjbcgaaDoorVvB
import Derived.Test.YtenkidkcfjbcgaaDoorHlD
import Derived.Test.YtenkidkcfjbcgaaDoorVvA
namespace Go.Hl
open Go.Proofs
set_option linter.unusedVariables false
set_option linter.unusedSimpArgs false
theorem le_bld {g : Heap} {nb b : Nat} {X Y R : HObj} (hne : ¬ b = nb) (hb : g b = none) : (upd g nb Y).le (upd (upd (upd g nb X) b R) nb Y) := fun q => by
  by_cases e : q = nb
  · subst e; right; rw [upd_same, upd_same]
  · by_cases e2 : q = b
    · subst e2; left; rw [upd_ne _ _ _ _ e]; exact hb
    · right; rw [upd_ne _ _ _ _ e, upd_ne _ _ _ _ e, upd_ne _ _ _ _ e2, upd_ne _ _ _ _ e]
def keep75 : List Nat := [0, 1, 2, 3, 4, 8, 9, 10, 11, 16]
def ib75 : List Nat := []
def mk75 : Marks := fun _ => ([], .nil, [])
set_option maxRecDepth 100000 in
theorem writeList {p : DProgram} (hp : p.ok) {funcs vars : Int} (e : DExpr) (h : Stands p funcs e vars) {nb : Nat}
    (ih : ∀ (k : Nat) (hk : k < e.fKids.length) (g : Heap) (l : List UInt8), g nb = some (bld l) → l.length + 64 * (e.fKids[k].s + 1) ≤ 1099511627776 → HFn Tryd.prog 36 [.agg p.c, .op nb 2 0 0, .agg e.fKids[k].c] g fun r h' => r = .tup [] ∧ (upd g nb (bld (l ++ e.fKids[k].txt p))).le h')
    (g : Heap) (l : List UInt8) (hb : g nb = some (bld l)) (hlen : l.length + 64 * e.s + 8 ≤ 1099511627776) :
    HFn Tryd.prog 75 [.ip 1 [[.op nb 2 0 0]] 0 0, .ip 5 [e.c] 0 0, .ip 1 [p.c] 0 0] g fun r h' => r = .tup [] ∧ (upd g nb (bld (l ++ 40 :: (semis (e.fKids.map (DExpr.txt p)) ++ [41])))).le h' := by
  have hall := semis_take hp h
  simp only [DExpr.c_eq, DProgram.c_eq] at ih ⊢
  refine fnKF 26 keep75 ib75 mk75 mix Tryd.func75 rfl (by kernel_rfl) (by simp) ?_
  simp (maxSteps := 1000000) -dsimp -implicitDefEqProofs only [go_sem, ↓reduceIte, keep75, ib75, mk75, Tryd.f75, hb]
  refine HFnF.mkH (writeByte l 40 (by omega) hb) ?_
  rintro r_ h' ⟨rfl, rfl⟩
  simp (maxSteps := 1000000) -dsimp -implicitDefEqProofs only [go_sem, ↓reduceIte, keep75, ib75, mk75, Tryd.f75]
  intro _
  refine loopF (keep := keep75) (ib := ib75) (mk := mk75) mix (by kernel_rfl) (fun k : Nat => [(0, .ip 1 [[.op nb 2 0 0]] 0 0), (1, .ip 5 [[I e.fKind, I e.fNum, I e.fPick, I e.fCount, sls 5 DExpr.c e.fKids]] 0 0), (2, .ip 1 [[sls 3 DFunc.c p.fFuncs]] 0 0), (8, sls 5 DExpr.c e.fKids), (9, I e.fKids.length), (10, I k)]) (fun k => upd g nb (bld (l ++ 40 :: semis ((e.fKids.map (DExpr.txt p)).take k)))) (fun k => k ≤ e.fKids.length) (fun k => e.fKids.length - k) 0 ⟨by simp [SatL, tget], Heap.le_refl _, Nat.zero_le _⟩ ?_
  intro k hk
  have hpre := hall k
  rcases Nat.lt_or_ge k e.fKids.length with hlt | hge
  · have ea : e.fKids[k]? = some e.fKids[k] := List.getElem?_eq_getElem hlt
    have hnx := semis_next (p := p) hlt
    have hrm := semis_room hp h hlt
    simp (maxSteps := 1000000) -dsimp -implicitDefEqProofs only [go_sem, ↓reduceIte, keep75, ib75, mk75, Tryd.f75, ea, DExpr.c_eq]
    refine ⟨fun _ => ⟨hlt, fun b hb2 => ⟨fun hk0 => ?_, fun hk0 => ?_⟩⟩, fun q => absurd hlt q⟩
    · have d_b_nb : ¬ b = nb := hb2.1
      have d_nb_b : ¬ nb = b := Ne.symm d_b_nb
      have e_b_nb : (b = nb) = False := eq_false d_b_nb
      have e_nb_b : (nb = b) = False := eq_false d_nb_b
      rw [upd_upd]
      refine HFnF.mkH (writeString (l ++ 40 :: semis ((e.fKids.map (DExpr.txt p)).take k)) [59, 32] (by simp only [List.length_append, List.length_cons, List.length_nil]; omega) (by rw [upd_ne _ _ _ _ d_nb_b, upd_same])) ?_
      rintro r_ h' ⟨rfl, rfl⟩
      simp (maxSteps := 1000000) -dsimp -implicitDefEqProofs only [go_sem, ↓reduceIte, keep75, ib75, mk75, Tryd.f75, e_b_nb, e_nb_b, upd_ne, DExpr.c_eq]
      refine HFnF.mkH (ih k hlt _ _ (upd_same ..) (by simp only [List.length_append, List.length_cons, List.length_nil]; omega)) ?_
      rintro r_ h' ⟨rfl, hle⟩
      simp (maxSteps := 1000000) -dsimp -implicitDefEqProofs only [go_sem, ↓reduceIte, keep75, ib75, mk75, Tryd.f75]
      have et : l ++ 40 :: semis ((e.fKids.map (DExpr.txt p)).take (k + 1)) = (l ++ 40 :: semis ((e.fKids.map (DExpr.txt p)).take k)) ++ [59, 32] ++ e.fKids[k].txt p := by rw [hnx.1 (by omega)]; simp
      rw [upd_upd, ← et] at hle
      exact ⟨k + 1, IntWalk.i64_in _ (by omega), Heap.le_trans (le_bld hb2.1 hb2.2) hle, by omega, by omega⟩
    · have d_b_nb : ¬ b = nb := hb2.1
      have d_nb_b : ¬ nb = b := Ne.symm d_b_nb
      have e_b_nb : (b = nb) = False := eq_false d_b_nb
      have e_nb_b : (nb = b) = False := eq_false d_nb_b
      rw [upd_upd]
      refine HFnF.mkH (ih k hlt _ _ (by rw [upd_ne _ _ _ _ d_nb_b, upd_same]) (by simp only [List.length_append, List.length_cons, List.length_nil]; omega)) ?_
      rintro r_ h' ⟨rfl, hle⟩
      simp (maxSteps := 1000000) -dsimp -implicitDefEqProofs only [go_sem, ↓reduceIte, keep75, ib75, mk75, Tryd.f75]
      have et : l ++ 40 :: semis ((e.fKids.map (DExpr.txt p)).take (k + 1)) = (l ++ 40 :: semis ((e.fKids.map (DExpr.txt p)).take k)) ++ e.fKids[k].txt p := by
        rw [hnx.2 (by omega)]
        obtain rfl : k = 0 := by omega
        simp [semis]
      rw [← et] at hle
      exact ⟨k + 1, IntWalk.i64_in _ (by omega), Heap.le_trans (le_bld hb2.1 hb2.2) hle, by omega, by omega⟩
  · have hk' : k = e.fKids.length := by omega
    rw [hk', List.take_of_length_le (by simp)] at hpre ⊢
    have hnk : ¬ e.fKids.length < e.fKids.length := Nat.lt_irrefl _
    simp (maxSteps := 1000000) -dsimp -implicitDefEqProofs only [go_sem, ↓reduceIte, keep75, ib75, mk75, Tryd.f75, hnk]
    refine HFnF.mkH (writeByte _ 41 (by simp only [List.length_append, List.length_cons, List.length_nil]; omega) (upd_same ..)) ?_
    rintro r_ h' ⟨rfl, rfl⟩
    simp (maxSteps := 1000000) -dsimp -implicitDefEqProofs only [go_sem, ↓reduceIte, keep75, ib75, mk75, Tryd.f75]
    rw [upd_upd]
    refine ⟨_, _, shift_le (Heap.le_refl _), rfl, ?_⟩
    rw [show l ++ 40 :: (semis (e.fKids.map (DExpr.txt p)) ++ [41]) = l ++ 40 :: semis (e.fKids.map (DExpr.txt p)) ++ [41] by simp]
    exact Heap.le_refl _
open Go.Proofs
set_option linter.unusedVariables false
set_option linter.unusedSimpArgs false
def keep36 : List Nat := [0, 1, 2, 3, 4, 5, 6, 9, 37, 44, 52, 58, 64, 70, 88]
def ib36 : List Nat := [3, 4, 5, 23]
def mk36 : Marks := fun id => match id with | 4 => ([6], (.op 0 (.op 1 (.op 2 (.op 3 (.op 4 (.op 5 (.op 6 .nil))))))), []) | 5 => ([3, 8], (.op 0 (.op 1 (.op 2 (.op 3 (.op 4 (.op 5 (.op 6 (.op 7 (.op 8 .nil))))))))), []) | 6 => ([6], (.op 0 (.op 1 (.op 2 (.op 3 (.op 4 (.op 5 (.op 6 .nil))))))), []) | 9 => ([3, 4], (.op 0 (.op 1 (.op 2 (.op 3 (.op 4 .nil))))), []) | 11 => ([3, 5], (.op 0 (.op 1 (.op 2 (.op 3 (.op 4 (.op 5 .nil)))))), []) | 22 => ([11, 13], (.op 0 (.op 1 (.op 2 (.op 3 (.op 4 (.op 5 (.op 6 (.op 7 (.op 8 (.op 9 (.op 10 (.op 11 (.op 12 (.op 13 .nil)))))))))))))), []) | 25 => ([11, 16, 18], (.op 0 (.op 1 (.op 2 (.op 3 (.op 4 (.op 5 (.op 6 (.op 7 (.op 8 (.op 9 (.op 10 (.op 14 (.op 15 (.op 11 (.op 12 (.op 13 (.op 16 (.op 17 (.op 18 .nil))))))))))))))))))), []) | _ => ([], .nil, [])
theorem le_re {g h : Heap} {nb : Nat} {X Y : HObj} (hle : (upd g nb X).le h) : (upd g nb Y).le (upd h nb Y) := fun q => by
  by_cases e : q = nb
  · subst e; right; rw [upd_same, upd_same]
  · have := hle q
    rw [upd_ne _ _ _ _ e] at this
    rw [upd_ne _ _ _ _ e, upd_ne _ _ _ _ e]; exact this
set_option maxRecDepth 100000 in
set_option maxHeartbeats 1000000 in
theorem write {p : DProgram} (hp : p.ok) {funcs : Int} (e : DExpr) (vars : Int) (h : Stands p funcs e vars) {nb : Nat} (g : Heap) (l : List UInt8) (hb : g nb = some (bld l)) (hlen : l.length + 64 * (e.s + 1) ≤ 1099511627776) :
    HFn Tryd.prog 36 [.agg p.c, .op nb 2 0 0, .agg e.c] g fun r h' => r = .tup [] ∧ (upd g nb (bld (l ++ e.txt p))).le h' := by
  have ih : ∀ (k : Nat) (hk : k < e.fKids.length) (g : Heap) (l : List UInt8), g nb = some (bld l) → l.length + 64 * (e.fKids[k].s + 1) ≤ 1099511627776 → HFn Tryd.prog 36 [.agg p.c, .op nb 2 0 0, .agg e.fKids[k].c] g fun r h' => r = .tup [] ∧ (upd g nb (bld (l ++ e.fKids[k].txt p))).le h' := fun k hk g l hb hlen => by
    obtain ⟨v, hv⟩ := h.kid hk
    have hks := DExpr.kid_s (List.getElem_mem hk)
    exact write hp e.fKids[k] v hv g l hb hlen
  have hwl := writeList hp e h ih
  have hkind := h.kind
  have htxt := DExpr.txt_eq p e
  simp only [DExpr.c_eq, DProgram.c_eq] at hwl ⊢
  by_cases k1 : e.fKind = 1
  · rw [if_pos k1] at htxt
    have hN := h.num (.inl k1)
    have hi := itoa_num hN
    refine fnKF 111 keep36 ib36 mk36 mix Tryd.func36 rfl (by kernel_rfl) (by simp) ?_
    simp (maxSteps := 1000000) -dsimp -implicitDefEqProofs only [go_sem, ↓reduceIte, keep36, ib36, mk36, Tryd.f36, hb, k1]
    first | refine HFnF.mk (decimal e.fNum hN) ?_ | refine CallSF.mk (decimal e.fNum hN) ?_ | refine HFnF.mkAt (decimal e.fNum hN) ?_ | refine CallSF.mk (FnAt.fn0 (decimal e.fNum hN)) ?_
    simp (maxSteps := 1000000) -dsimp -implicitDefEqProofs only [go_sem, ↓reduceIte, keep36, ib36, mk36, Tryd.f36]
    refine HFnF.mkH (writeString l _ (by omega) hb) ?_
    rintro r_ h' ⟨rfl, rfl⟩
    simp (maxSteps := 1000000) -dsimp -implicitDefEqProofs only [go_sem, ↓reduceIte, keep36, ib36, mk36, Tryd.f36]
    exact ⟨_, _, shift_le (Heap.le_refl _), rfl, by rw [htxt]; exact Heap.le_refl _⟩
  · by_cases k2 : e.fKind = 2
    · rw [if_neg k1, if_pos k2] at htxt
      have hN := h.num (.inr k2)
      have hi := itoa_num hN
      refine fnKF 111 keep36 ib36 mk36 mix Tryd.func36 rfl (by kernel_rfl) (by simp) ?_
      simp (maxSteps := 1000000) -dsimp -implicitDefEqProofs only [go_sem, ↓reduceIte, keep36, ib36, mk36, Tryd.f36, hb, k2]
      first | refine HFnF.mk (decimal e.fNum hN) ?_ | refine CallSF.mk (decimal e.fNum hN) ?_ | refine HFnF.mkAt (decimal e.fNum hN) ?_ | refine CallSF.mk (FnAt.fn0 (decimal e.fNum hN)) ?_
      simp (maxSteps := 1000000) -dsimp -implicitDefEqProofs only [go_sem, ↓reduceIte, keep36, ib36, mk36, Tryd.f36]
      refine ⟨by omega, HFnF.mkH (writeString l _ (by simp only [List.length_append, List.length_cons, List.length_nil]; omega) hb) ?_⟩
      rintro r_ h' ⟨rfl, rfl⟩
      simp (maxSteps := 1000000) -dsimp -implicitDefEqProofs only [go_sem, ↓reduceIte, keep36, ib36, mk36, Tryd.f36]
      exact ⟨_, _, shift_le (Heap.le_refl _), rfl, by rw [htxt]; exact Heap.le_refl _⟩
    · by_cases kb : 3 ≤ e.fKind ∧ e.fKind ≤ 6
      · rw [if_neg k1, if_neg k2, if_pos kb] at htxt
        have h2 := h.two kb
        match hk : e.fKids, h2 with
        | [a, b], _ =>
          have i0 := ih 0 (by rw [hk]; simp)
          have i1 := ih 1 (by rw [hk]; simp)
          have g0 : e.fKids[0]'(by rw [hk]; simp) = a := by simp [hk]
          have g1 : e.fKids[1]'(by rw [hk]; simp) = b := by simp [hk]
          rw [g0] at i0; rw [g1] at i1
          rw [hk] at htxt
          simp only [List.map_cons, List.map_nil] at htxt
          have ht : e.txt p = 40 :: (a.txt p ++ 32 :: signB e.fKind :: 32 :: (b.txt p ++ [41])) := htxt
          have hsab : a.s + b.s + 2 = e.s := by rw [e.s_eq, hk, szs_eq]; simp; omega
          obtain ⟨v0, hv0⟩ := h.kid (k := 0) (by rw [hk]; simp)
          have la := DExpr.txt_len hp _ _ hv0
          rw [g0] at la
          obtain ⟨v1, hv1⟩ := h.kid (k := 1) (by rw [hk]; simp)
          have lb := DExpr.txt_len hp _ _ hv1
          rw [g1] at lb
          have ga : ([DExpr.c a, DExpr.c b] : List (List HVal))[Int.toNat 0]? = some a.c := rfl
          have gb : ([DExpr.c a, DExpr.c b] : List (List HVal))[Int.toNat 1]? = some b.c := rfl
          simp only [DExpr.c_eq, DProgram.c_eq] at i0 i1 ga gb
          clear ih hwl htxt
          rcases (by omega : e.fKind = 3 ∨ e.fKind = 4 ∨ e.fKind = 5 ∨ e.fKind = 6) with kq | kq | kq | kq
          · have js : Fn0 Tryd.prog 76 [I 3] (.int .u8 43) := signI 3 (by decide)
            have hsg : signB e.fKind = 43 := by rw [kq]; rfl
            rw [hsg] at ht
            refine fnKF 111 keep36 ib36 mk36 mix Tryd.func36 rfl (by kernel_rfl) (by simp) ?_
            simp (maxSteps := 1000000) -dsimp -implicitDefEqProofs only [go_sem, ↓reduceIte, keep36, ib36, mk36, Tryd.f36, hb, kq]
            refine HFnF.mkH (writeByte l 40 (by omega) hb) ?_
            rintro r_ h1 ⟨rfl, rfl⟩
            simp (maxSteps := 1000000) -dsimp -implicitDefEqProofs only [go_sem, ↓reduceIte, keep36, ib36, mk36, Tryd.f36, ga, DExpr.c_eq]
            refine ⟨by decide, HFnF.mkH (i0 _ (l ++ [40]) (upd_same ..) (by simp only [List.length_append, List.length_cons, List.length_nil]; omega)) ?_⟩
            rintro r_ h2 ⟨rfl, hle2⟩
            have hb2 := Heap.le_get hle2 (upd_same ..)
            rw [upd_upd] at hle2
            simp (maxSteps := 1000000) -dsimp -implicitDefEqProofs only [go_sem, ↓reduceIte, keep36, ib36, mk36, Tryd.f36]
            first | refine HFnF.mk (js) ?_ | refine CallSF.mk (js) ?_ | refine HFnF.mkAt (js) ?_ | refine CallSF.mk (FnAt.fn0 (js)) ?_
            simp (maxSteps := 1000000) -dsimp -implicitDefEqProofs only [go_sem, ↓reduceIte, keep36, ib36, mk36, Tryd.f36]
            refine ⟨by decide, by decide, HFnF.mkH (writeString (l ++ [40] ++ a.txt p) [32, 43, 32] (by first | omega | (simp only [List.length_append, List.length_cons, List.length_nil]; omega)) hb2) ?_⟩
            rintro r_ h3 ⟨rfl, rfl⟩
            simp (maxSteps := 1000000) -dsimp -implicitDefEqProofs only [go_sem, ↓reduceIte, keep36, ib36, mk36, Tryd.f36, gb, DExpr.c_eq]
            refine ⟨by decide, HFnF.mkH (i1 _ (l ++ [40] ++ a.txt p ++ [32, 43, 32]) (upd_same ..) (by first | omega | (simp only [List.length_append, List.length_cons, List.length_nil]; omega))) ?_⟩
            rintro r_ h4 ⟨rfl, hle4⟩
            have hb4 := Heap.le_get hle4 (upd_same ..)
            rw [upd_upd] at hle4
            simp (maxSteps := 1000000) -dsimp -implicitDefEqProofs only [go_sem, ↓reduceIte, keep36, ib36, mk36, Tryd.f36]
            refine HFnF.mkH (writeByte (l ++ [40] ++ a.txt p ++ [32, 43, 32] ++ b.txt p) 41 (by first | omega | (simp only [List.length_append, List.length_cons, List.length_nil]; omega)) hb4) ?_
            rintro r_ h5 ⟨rfl, rfl⟩
            simp (maxSteps := 1000000) -dsimp -implicitDefEqProofs only [go_sem, ↓reduceIte, keep36, ib36, mk36, Tryd.f36]
            refine ⟨_, _, shift_le (Heap.le_refl _), rfl, ?_⟩
            rw [show l ++ e.txt p = l ++ [40] ++ a.txt p ++ [32, 43, 32] ++ b.txt p ++ [41] by rw [ht]; simp]
            exact le_re (Heap.le_trans (le_re hle2) hle4)
          · have js : Fn0 Tryd.prog 76 [I 4] (.int .u8 45) := signI 4 (by decide)
            have hsg : signB e.fKind = 45 := by rw [kq]; rfl
            rw [hsg] at ht
            refine fnKF 111 keep36 ib36 mk36 mix Tryd.func36 rfl (by kernel_rfl) (by simp) ?_
            simp (maxSteps := 1000000) -dsimp -implicitDefEqProofs only [go_sem, ↓reduceIte, keep36, ib36, mk36, Tryd.f36, hb, kq]
            refine HFnF.mkH (writeByte l 40 (by omega) hb) ?_
            rintro r_ h1 ⟨rfl, rfl⟩
            simp (maxSteps := 1000000) -dsimp -implicitDefEqProofs only [go_sem, ↓reduceIte, keep36, ib36, mk36, Tryd.f36, ga, DExpr.c_eq]
            refine ⟨by decide, HFnF.mkH (i0 _ (l ++ [40]) (upd_same ..) (by simp only [List.length_append, List.length_cons, List.length_nil]; omega)) ?_⟩
            rintro r_ h2 ⟨rfl, hle2⟩
            have hb2 := Heap.le_get hle2 (upd_same ..)
            rw [upd_upd] at hle2
            simp (maxSteps := 1000000) -dsimp -implicitDefEqProofs only [go_sem, ↓reduceIte, keep36, ib36, mk36, Tryd.f36]
            first | refine HFnF.mk (js) ?_ | refine CallSF.mk (js) ?_ | refine HFnF.mkAt (js) ?_ | refine CallSF.mk (FnAt.fn0 (js)) ?_
            simp (maxSteps := 1000000) -dsimp -implicitDefEqProofs only [go_sem, ↓reduceIte, keep36, ib36, mk36, Tryd.f36]
            refine ⟨by decide, by decide, HFnF.mkH (writeString (l ++ [40] ++ a.txt p) [32, 45, 32] (by first | omega | (simp only [List.length_append, List.length_cons, List.length_nil]; omega)) hb2) ?_⟩
            rintro r_ h3 ⟨rfl, rfl⟩
            simp (maxSteps := 1000000) -dsimp -implicitDefEqProofs only [go_sem, ↓reduceIte, keep36, ib36, mk36, Tryd.f36, gb, DExpr.c_eq]
            refine ⟨by decide, HFnF.mkH (i1 _ (l ++ [40] ++ a.txt p ++ [32, 45, 32]) (upd_same ..) (by first | omega | (simp only [List.length_append, List.length_cons, List.length_nil]; omega))) ?_⟩
            rintro r_ h4 ⟨rfl, hle4⟩
            have hb4 := Heap.le_get hle4 (upd_same ..)
            rw [upd_upd] at hle4
            simp (maxSteps := 1000000) -dsimp -implicitDefEqProofs only [go_sem, ↓reduceIte, keep36, ib36, mk36, Tryd.f36]
            refine HFnF.mkH (writeByte (l ++ [40] ++ a.txt p ++ [32, 45, 32] ++ b.txt p) 41 (by first | omega | (simp only [List.length_append, List.length_cons, List.length_nil]; omega)) hb4) ?_
            rintro r_ h5 ⟨rfl, rfl⟩
            simp (maxSteps := 1000000) -dsimp -implicitDefEqProofs only [go_sem, ↓reduceIte, keep36, ib36, mk36, Tryd.f36]
            refine ⟨_, _, shift_le (Heap.le_refl _), rfl, ?_⟩
            rw [show l ++ e.txt p = l ++ [40] ++ a.txt p ++ [32, 45, 32] ++ b.txt p ++ [41] by rw [ht]; simp]
            exact le_re (Heap.le_trans (le_re hle2) hle4)
          · have js : Fn0 Tryd.prog 76 [I 5] (.int .u8 42) := signI 5 (by decide)
            have hsg : signB e.fKind = 42 := by rw [kq]; rfl
            rw [hsg] at ht
            refine fnKF 111 keep36 ib36 mk36 mix Tryd.func36 rfl (by kernel_rfl) (by simp) ?_
            simp (maxSteps := 1000000) -dsimp -implicitDefEqProofs only [go_sem, ↓reduceIte, keep36, ib36, mk36, Tryd.f36, hb, kq]
            refine HFnF.mkH (writeByte l 40 (by omega) hb) ?_
            rintro r_ h1 ⟨rfl, rfl⟩
            simp (maxSteps := 1000000) -dsimp -implicitDefEqProofs only [go_sem, ↓reduceIte, keep36, ib36, mk36, Tryd.f36, ga, DExpr.c_eq]
            refine ⟨by decide, HFnF.mkH (i0 _ (l ++ [40]) (upd_same ..) (by simp only [List.length_append, List.length_cons, List.length_nil]; omega)) ?_⟩
            rintro r_ h2 ⟨rfl, hle2⟩
            have hb2 := Heap.le_get hle2 (upd_same ..)
            rw [upd_upd] at hle2
            simp (maxSteps := 1000000) -dsimp -implicitDefEqProofs only [go_sem, ↓reduceIte, keep36, ib36, mk36, Tryd.f36]
            first | refine HFnF.mk (js) ?_ | refine CallSF.mk (js) ?_ | refine HFnF.mkAt (js) ?_ | refine CallSF.mk (FnAt.fn0 (js)) ?_
            simp (maxSteps := 1000000) -dsimp -implicitDefEqProofs only [go_sem, ↓reduceIte, keep36, ib36, mk36, Tryd.f36]
            refine ⟨by decide, by decide, HFnF.mkH (writeString (l ++ [40] ++ a.txt p) [32, 42, 32] (by first | omega | (simp only [List.length_append, List.length_cons, List.length_nil]; omega)) hb2) ?_⟩
            rintro r_ h3 ⟨rfl, rfl⟩
            simp (maxSteps := 1000000) -dsimp -implicitDefEqProofs only [go_sem, ↓reduceIte, keep36, ib36, mk36, Tryd.f36, gb, DExpr.c_eq]
            refine ⟨by decide, HFnF.mkH (i1 _ (l ++ [40] ++ a.txt p ++ [32, 42, 32]) (upd_same ..) (by first | omega | (simp only [List.length_append, List.length_cons, List.length_nil]; omega))) ?_⟩
            rintro r_ h4 ⟨rfl, hle4⟩
            have hb4 := Heap.le_get hle4 (upd_same ..)
            rw [upd_upd] at hle4
            simp (maxSteps := 1000000) -dsimp -implicitDefEqProofs only [go_sem, ↓reduceIte, keep36, ib36, mk36, Tryd.f36]
            refine HFnF.mkH (writeByte (l ++ [40] ++ a.txt p ++ [32, 42, 32] ++ b.txt p) 41 (by first | omega | (simp only [List.length_append, List.length_cons, List.length_nil]; omega)) hb4) ?_
            rintro r_ h5 ⟨rfl, rfl⟩
            simp (maxSteps := 1000000) -dsimp -implicitDefEqProofs only [go_sem, ↓reduceIte, keep36, ib36, mk36, Tryd.f36]
            refine ⟨_, _, shift_le (Heap.le_refl _), rfl, ?_⟩
            rw [show l ++ e.txt p = l ++ [40] ++ a.txt p ++ [32, 42, 32] ++ b.txt p ++ [41] by rw [ht]; simp]
            exact le_re (Heap.le_trans (le_re hle2) hle4)
          · have js : Fn0 Tryd.prog 76 [I 6] (.int .u8 47) := signI 6 (by decide)
            have hsg : signB e.fKind = 47 := by rw [kq]; rfl
            rw [hsg] at ht
            refine fnKF 111 keep36 ib36 mk36 mix Tryd.func36 rfl (by kernel_rfl) (by simp) ?_
            simp (maxSteps := 1000000) -dsimp -implicitDefEqProofs only [go_sem, ↓reduceIte, keep36, ib36, mk36, Tryd.f36, hb, kq]
            refine HFnF.mkH (writeByte l 40 (by omega) hb) ?_
            rintro r_ h1 ⟨rfl, rfl⟩
            simp (maxSteps := 1000000) -dsimp -implicitDefEqProofs only [go_sem, ↓reduceIte, keep36, ib36, mk36, Tryd.f36, ga, DExpr.c_eq]
            refine ⟨by decide, HFnF.mkH (i0 _ (l ++ [40]) (upd_same ..) (by simp only [List.length_append, List.length_cons, List.length_nil]; omega)) ?_⟩
            rintro r_ h2 ⟨rfl, hle2⟩
            have hb2 := Heap.le_get hle2 (upd_same ..)
            rw [upd_upd] at hle2
            simp (maxSteps := 1000000) -dsimp -implicitDefEqProofs only [go_sem, ↓reduceIte, keep36, ib36, mk36, Tryd.f36]
            first | refine HFnF.mk (js) ?_ | refine CallSF.mk (js) ?_ | refine HFnF.mkAt (js) ?_ | refine CallSF.mk (FnAt.fn0 (js)) ?_
            simp (maxSteps := 1000000) -dsimp -implicitDefEqProofs only [go_sem, ↓reduceIte, keep36, ib36, mk36, Tryd.f36]
            refine ⟨by decide, by decide, HFnF.mkH (writeString (l ++ [40] ++ a.txt p) [32, 47, 32] (by first | omega | (simp only [List.length_append, List.length_cons, List.length_nil]; omega)) hb2) ?_⟩
            rintro r_ h3 ⟨rfl, rfl⟩
            simp (maxSteps := 1000000) -dsimp -implicitDefEqProofs only [go_sem, ↓reduceIte, keep36, ib36, mk36, Tryd.f36, gb, DExpr.c_eq]
            refine ⟨by decide, HFnF.mkH (i1 _ (l ++ [40] ++ a.txt p ++ [32, 47, 32]) (upd_same ..) (by first | omega | (simp only [List.length_append, List.length_cons, List.length_nil]; omega))) ?_⟩
            rintro r_ h4 ⟨rfl, hle4⟩
            have hb4 := Heap.le_get hle4 (upd_same ..)
            rw [upd_upd] at hle4
            simp (maxSteps := 1000000) -dsimp -implicitDefEqProofs only [go_sem, ↓reduceIte, keep36, ib36, mk36, Tryd.f36]
            refine HFnF.mkH (writeByte (l ++ [40] ++ a.txt p ++ [32, 47, 32] ++ b.txt p) 41 (by first | omega | (simp only [List.length_append, List.length_cons, List.length_nil]; omega)) hb4) ?_
            rintro r_ h5 ⟨rfl, rfl⟩
            simp (maxSteps := 1000000) -dsimp -implicitDefEqProofs only [go_sem, ↓reduceIte, keep36, ib36, mk36, Tryd.f36]
            refine ⟨_, _, shift_le (Heap.le_refl _), rfl, ?_⟩
            rw [show l ++ e.txt p = l ++ [40] ++ a.txt p ++ [32, 47, 32] ++ b.txt p ++ [41] by rw [ht]; simp]
            exact le_re (Heap.le_trans (le_re hle2) hle4)
      · rw [if_neg k1, if_neg k2, if_neg kb] at htxt
        rcases (by omega : e.fKind = 7 ∨ e.fKind = 8 ∨ e.fKind = 9 ∨ e.fKind = 10 ∨ e.fKind = 11) with kq | kq | kq | kq | kq
        · have hT : headT p e.fKind e.fNum e.fPick e.fCount = [110, 101, 103] := by rw [headT, if_pos kq]
          rw [kq] at hwl
          refine fnKF 111 keep36 ib36 mk36 mix Tryd.func36 rfl (by kernel_rfl) (by simp) ?_
          simp (maxSteps := 1000000) -dsimp -implicitDefEqProofs only [go_sem, ↓reduceIte, keep36, ib36, mk36, Tryd.f36, hb, kq]
          have hl56 := headT_len hp h (by omega)
          rw [hT] at hl56
          refine HFnF.mkH (writeString l ([110, 101, 103]) (by omega) hb) ?_
          rintro r_ h' ⟨rfl, rfl⟩
          simp (maxSteps := 1000000) -dsimp -implicitDefEqProofs only [go_sem, ↓reduceIte, keep36, ib36, mk36, Tryd.f36]
          refine HFnF.mkH (hwl _ _ (upd_same ..) (by rw [List.length_append]; omega)) ?_
          rintro r_ h' ⟨rfl, hle⟩
          simp (maxSteps := 1000000) -dsimp -implicitDefEqProofs only [go_sem, ↓reduceIte, keep36, ib36, mk36, Tryd.f36]
          rw [upd_upd] at hle
          refine ⟨_, _, shift_le (Heap.le_refl _), rfl, ?_⟩
          rw [show l ++ e.txt p = l ++ ([110, 101, 103]) ++ 40 :: (semis (e.fKids.map (DExpr.txt p)) ++ [41]) by rw [htxt, hT]; simp]
          exact hle
        · have hT : headT p e.fKind e.fNum e.fPick e.fCount = [105, 102] := by rw [headT, if_neg (by omega), if_pos kq]
          rw [kq] at hwl
          refine fnKF 111 keep36 ib36 mk36 mix Tryd.func36 rfl (by kernel_rfl) (by simp) ?_
          simp (maxSteps := 1000000) -dsimp -implicitDefEqProofs only [go_sem, ↓reduceIte, keep36, ib36, mk36, Tryd.f36, hb, kq]
          have hl56 := headT_len hp h (by omega)
          rw [hT] at hl56
          refine HFnF.mkH (writeString l ([105, 102]) (by omega) hb) ?_
          rintro r_ h' ⟨rfl, rfl⟩
          simp (maxSteps := 1000000) -dsimp -implicitDefEqProofs only [go_sem, ↓reduceIte, keep36, ib36, mk36, Tryd.f36]
          refine HFnF.mkH (hwl _ _ (upd_same ..) (by rw [List.length_append]; omega)) ?_
          rintro r_ h' ⟨rfl, hle⟩
          simp (maxSteps := 1000000) -dsimp -implicitDefEqProofs only [go_sem, ↓reduceIte, keep36, ib36, mk36, Tryd.f36]
          rw [upd_upd] at hle
          refine ⟨_, _, shift_le (Heap.le_refl _), rfl, ?_⟩
          rw [show l ++ e.txt p = l ++ ([105, 102]) ++ 40 :: (semis (e.fKids.map (DExpr.txt p)) ++ [41]) by rw [htxt, hT]; simp]
          exact hle
        · have hT : headT p e.fKind e.fNum e.fPick e.fCount = [108, 101, 116] := by rw [headT, if_neg (by omega), if_neg (by omega), if_pos kq]
          rw [kq] at hwl
          refine fnKF 111 keep36 ib36 mk36 mix Tryd.func36 rfl (by kernel_rfl) (by simp) ?_
          simp (maxSteps := 1000000) -dsimp -implicitDefEqProofs only [go_sem, ↓reduceIte, keep36, ib36, mk36, Tryd.f36, hb, kq]
          have hl56 := headT_len hp h (by omega)
          rw [hT] at hl56
          refine HFnF.mkH (writeString l ([108, 101, 116]) (by omega) hb) ?_
          rintro r_ h' ⟨rfl, rfl⟩
          simp (maxSteps := 1000000) -dsimp -implicitDefEqProofs only [go_sem, ↓reduceIte, keep36, ib36, mk36, Tryd.f36]
          refine HFnF.mkH (hwl _ _ (upd_same ..) (by rw [List.length_append]; omega)) ?_
          rintro r_ h' ⟨rfl, hle⟩
          simp (maxSteps := 1000000) -dsimp -implicitDefEqProofs only [go_sem, ↓reduceIte, keep36, ib36, mk36, Tryd.f36]
          rw [upd_upd] at hle
          refine ⟨_, _, shift_le (Heap.le_refl _), rfl, ?_⟩
          rw [show l ++ e.txt p = l ++ ([108, 101, 116]) ++ 40 :: (semis (e.fKids.map (DExpr.txt p)) ++ [41]) by rw [htxt, hT]; simp]
          exact hle
        · obtain ⟨f, ef, en, hfl, hn0, hn1, hi, hcn⟩ := h.call hp (.inl kq)
          have hT : headT p e.fKind e.fNum e.fPick e.fCount = f.fName ++ [46] ++ Go.Lib.itoa e.fPick := by rw [headT, if_neg (by omega), if_neg (by omega), if_neg (by omega), if_pos kq, en]; simp
          have hi2 := itoa_num hi
          rw [kq] at hwl
          refine fnKF 111 keep36 ib36 mk36 mix Tryd.func36 rfl (by kernel_rfl) (by simp) ?_
          simp (maxSteps := 1000000) -dsimp -implicitDefEqProofs only [go_sem, ↓reduceIte, keep36, ib36, mk36, Tryd.f36, hb, kq, ef, DFunc.c_eq]
          refine ⟨hn0, hn1, by omega, ?_⟩
          first | refine HFnF.mk (decimal e.fPick hi) ?_ | refine CallSF.mk (decimal e.fPick hi) ?_ | refine HFnF.mkAt (decimal e.fPick hi) ?_ | refine CallSF.mk (FnAt.fn0 (decimal e.fPick hi)) ?_
          simp (maxSteps := 1000000) -dsimp -implicitDefEqProofs only [go_sem, ↓reduceIte, keep36, ib36, mk36, Tryd.f36]
          refine ⟨by first | omega | (simp only [List.length_append, List.length_cons, List.length_nil]; omega), ?_⟩
          have hl56 := headT_len hp h (by omega)
          rw [hT] at hl56
          refine HFnF.mkH (writeString l (f.fName ++ [46] ++ Go.Lib.itoa e.fPick) (by omega) hb) ?_
          rintro r_ h' ⟨rfl, rfl⟩
          simp (maxSteps := 1000000) -dsimp -implicitDefEqProofs only [go_sem, ↓reduceIte, keep36, ib36, mk36, Tryd.f36]
          refine HFnF.mkH (hwl _ _ (upd_same ..) (by rw [List.length_append]; omega)) ?_
          rintro r_ h' ⟨rfl, hle⟩
          simp (maxSteps := 1000000) -dsimp -implicitDefEqProofs only [go_sem, ↓reduceIte, keep36, ib36, mk36, Tryd.f36]
          rw [upd_upd] at hle
          refine ⟨_, _, shift_le (Heap.le_refl _), rfl, ?_⟩
          rw [show l ++ e.txt p = l ++ (f.fName ++ [46] ++ Go.Lib.itoa e.fPick) ++ 40 :: (semis (e.fKids.map (DExpr.txt p)) ++ [41]) by rw [htxt, hT]; simp]
          exact hle
        · obtain ⟨f, ef, en, hfl, hn0, hn1, hi, hcn⟩ := h.call hp (.inr kq)
          have hT : headT p e.fKind e.fNum e.fPick e.fCount = f.fName ++ [46] ++ Go.Lib.itoa e.fPick ++ [94] ++ Go.Lib.itoa e.fCount := by rw [headT, if_neg (by omega), if_neg (by omega), if_neg (by omega), if_neg (by omega), en]; simp
          have hi2 := itoa_num hi
          have hc2 := itoa_num hcn
          rw [kq] at hwl
          refine fnKF 111 keep36 ib36 mk36 mix Tryd.func36 rfl (by kernel_rfl) (by simp) ?_
          simp (maxSteps := 1000000) -dsimp -implicitDefEqProofs only [go_sem, ↓reduceIte, keep36, ib36, mk36, Tryd.f36, hb, kq, ef, DFunc.c_eq]
          refine ⟨hn0, hn1, by omega, ?_⟩
          first | refine HFnF.mk (decimal e.fPick hi) ?_ | refine CallSF.mk (decimal e.fPick hi) ?_ | refine HFnF.mkAt (decimal e.fPick hi) ?_ | refine CallSF.mk (FnAt.fn0 (decimal e.fPick hi)) ?_
          simp (maxSteps := 1000000) -dsimp -implicitDefEqProofs only [go_sem, ↓reduceIte, keep36, ib36, mk36, Tryd.f36]
          refine ⟨by first | omega | (simp only [List.length_append, List.length_cons, List.length_nil]; omega), by first | omega | (simp only [List.length_append, List.length_cons, List.length_nil]; omega), ?_⟩
          first | refine HFnF.mk (decimal e.fCount hcn) ?_ | refine CallSF.mk (decimal e.fCount hcn) ?_ | refine HFnF.mkAt (decimal e.fCount hcn) ?_ | refine CallSF.mk (FnAt.fn0 (decimal e.fCount hcn)) ?_
          simp (maxSteps := 1000000) -dsimp -implicitDefEqProofs only [go_sem, ↓reduceIte, keep36, ib36, mk36, Tryd.f36]
          refine ⟨by first | omega | (simp only [List.length_append, List.length_cons, List.length_nil]; omega), ?_⟩
          have hl56 := headT_len hp h (by omega)
          rw [hT] at hl56
          refine HFnF.mkH (writeString l (f.fName ++ [46] ++ Go.Lib.itoa e.fPick ++ [94] ++ Go.Lib.itoa e.fCount) (by omega) hb) ?_
          rintro r_ h' ⟨rfl, rfl⟩
          simp (maxSteps := 1000000) -dsimp -implicitDefEqProofs only [go_sem, ↓reduceIte, keep36, ib36, mk36, Tryd.f36]
          refine HFnF.mkH (hwl _ _ (upd_same ..) (by rw [List.length_append]; omega)) ?_
          rintro r_ h' ⟨rfl, hle⟩
          simp (maxSteps := 1000000) -dsimp -implicitDefEqProofs only [go_sem, ↓reduceIte, keep36, ib36, mk36, Tryd.f36]
          rw [upd_upd] at hle
          refine ⟨_, _, shift_le (Heap.le_refl _), rfl, ?_⟩
          rw [show l ++ e.txt p = l ++ (f.fName ++ [46] ++ Go.Lib.itoa e.fPick ++ [94] ++ Go.Lib.itoa e.fCount) ++ 40 :: (semis (e.fKids.map (DExpr.txt p)) ++ [41]) by rw [htxt, hT]; simp]
          exact hle
termination_by e.s
open Go.Proofs
set_option linter.unusedVariables false
set_option linter.unusedSimpArgs false
theorem Stands.of {p : DProgram} {e : DExpr} {vars funcs : Int} (h : exprOK p e vars funcs) : Stands p funcs e vars := ⟨h.2.2.2.2, by have h1 := h.1; have h3 := h.2.2.1; omega, h.2.1.1, h.2.1.2⟩
noncomputable def exprTxt (p : DProgram) (e : DExpr) (vars funcs : Int) : List UInt8 := if p.ok ∧ exprOK p e vars funcs then e.txt p else []
def keep30 : List Nat := [0, 1, 2, 3, 4, 5]
def ib30 : List Nat := [2, 3]
def mk30 : Marks := fun _ => ([], .nil, [])
set_option maxRecDepth 100000 in
theorem textI {p : DProgram} (hp : p.ok) {funcs vars : Int} (e : DExpr) (h : Stands p funcs e vars) (hs : e.s ≤ 1048576) : Fn0 Tryd.prog 30 [.agg p.c, .agg e.c] (.str (e.txt p)) := by
  have hl := DExpr.txt_len hp e vars h
  have hw := fun nb g => write hp e vars h (nb := nb) g
  simp only [DExpr.c_eq, DProgram.c_eq] at hw ⊢
  refine fn0F 14 keep30 ib30 mk30 mix Tryd.func30 rfl (by kernel_rfl) (by simp) fun h => ?_
  simp (maxSteps := 1000000) -dsimp -implicitDefEqProofs only [go_sem, ↓reduceIte, keep30, ib30, mk30, Tryd.f30]
  intro nb hn
  refine HFnF.wk (bld_fresh (upd_same ..)) ?_
  rw [upd_upd]
  refine HFnF.mkH (hw nb _ [] (upd_same ..) (by simp only [List.length_nil]; omega)) ?_
  rintro r_ h1 ⟨rfl, hle⟩
  have hb1 := Heap.le_get hle (upd_same ..)
  rw [upd_upd] at hle
  simp only [List.nil_append] at hb1 hle
  simp (maxSteps := 1000000) -dsimp -implicitDefEqProofs only [go_sem, ↓reduceIte, keep30, ib30, mk30, Tryd.f30]
  refine HFnF.mkH (builderString (e.txt p) (by simp only [maxLen]; omega) hb1) ?_
  rintro r_ h2 ⟨rfl, rfl⟩
  simp (maxSteps := 1000000) -dsimp -implicitDefEqProofs only [go_sem, ↓reduceIte, keep30, ib30, mk30, Tryd.f30]
  exact Heap.le_upd hn (Heap.le_trans (Heap.le_upd hn (Heap.le_refl _)) hle)
def keep8 : List Nat := [0, 1, 2, 3, 4, 5, 8, 16]
def ib8 : List Nat := [4, 5]
def mk8 : Marks := fun _ => ([], .nil, [])
set_option maxRecDepth 100000 in
theorem specExprText (p : DProgram) (e : DExpr) (vars funcs : Int) (hs : e.s ≤ 1048576) (hps : p.s ≤ 1048576) : Fn0 Tryd.prog 8 [.agg p.c, .agg e.c, I vars, I funcs] (.str (exprTxt p e vars funcs)) := by
  have h1 := l02Ok p (by omega)
  have h2 := l02Expr p e vars funcs (by omega) (by omega)
  simp only [DExpr.c_eq, DProgram.c_eq] at h1 h2 ⊢
  refine fn0F 18 keep8 ib8 mk8 mix Tryd.func8 rfl (by kernel_rfl) (by simp) fun h => ?_
  simp (maxSteps := 1000000) -dsimp -implicitDefEqProofs only [go_sem, ↓reduceIte, keep8, ib8, mk8, Tryd.f8]
  first | refine HFnF.mk (h1) ?_ | refine CallSF.mk (h1) ?_ | refine HFnF.mkAt (h1) ?_ | refine CallSF.mk (FnAt.fn0 (h1)) ?_
  simp (maxSteps := 1000000) -dsimp -implicitDefEqProofs only [go_sem, ↓reduceIte, keep8, ib8, mk8, Tryd.f8]
  refine ⟨fun hp => ?_, fun hp => by rw [exprTxt, if_neg fun q => hp q.1]⟩
  first | refine HFnF.mk (h2) ?_ | refine CallSF.mk (h2) ?_ | refine HFnF.mkAt (h2) ?_ | refine CallSF.mk (FnAt.fn0 (h2)) ?_
  simp (maxSteps := 1000000) -dsimp -implicitDefEqProofs only [go_sem, ↓reduceIte, keep8, ib8, mk8, Tryd.f8]
  refine ⟨fun he => by rw [exprTxt, if_neg fun q => he q.2], fun he => ?_⟩
  have he1 := he.2.2.1
  have h3 := l02Text hp e vars (Stands.of he) (by omega)
  simp only [DExpr.c_eq, DProgram.c_eq] at h3
  first | refine HFnF.mk (h3) ?_ | refine CallSF.mk (h3) ?_ | refine HFnF.mkAt (h3) ?_ | refine CallSF.mk (FnAt.fn0 (h3)) ?_
  simp (maxSteps := 1000000) -dsimp -implicitDefEqProofs only [go_sem, ↓reduceIte, keep8, ib8, mk8, Tryd.f8]
  rw [exprTxt, if_pos ⟨hp, he⟩]
def keep11 : List Nat := [0, 1, 2, 3, 4, 5, 8, 19]
def ib11 : List Nat := [4, 5]
def mk11 : Marks := fun _ => ([], .nil, [])
set_option maxRecDepth 100000 in
theorem ExprTextI (p : DProgram) (e : DExpr) (vars funcs : Int) (hs : e.s ≤ 1048576) (hps : p.s ≤ 1048576) : Fn0 Tryd.prog 11 [.agg p.c, .agg e.c, I vars, I funcs] (.str (exprTxt p e vars funcs)) := by
  have h1 := ValidProgram p (by omega)
  have h2 := ValidExpr p e vars funcs (by omega) (by omega)
  simp only [DExpr.c_eq, DProgram.c_eq] at h1 h2 ⊢
  refine fn0F 23 keep11 ib11 mk11 mix Tryd.func11 rfl (by kernel_rfl) (by simp) fun h => ?_
  simp (maxSteps := 1000000) -dsimp -implicitDefEqProofs only [go_sem, ↓reduceIte, keep11, ib11, mk11, Tryd.f11]
  first | refine HFnF.mk (h1) ?_ | refine CallSF.mk (h1) ?_ | refine HFnF.mkAt (h1) ?_ | refine CallSF.mk (FnAt.fn0 (h1)) ?_
  simp (maxSteps := 1000000) -dsimp -implicitDefEqProofs only [go_sem, ↓reduceIte, keep11, ib11, mk11, Tryd.f11]
  refine ⟨fun hp => ?_, fun hp => by rw [exprTxt, if_neg fun q => hp q.1]⟩
  first | refine HFnF.mk (h2) ?_ | refine CallSF.mk (h2) ?_ | refine HFnF.mkAt (h2) ?_ | refine CallSF.mk (FnAt.fn0 (h2)) ?_
  simp (maxSteps := 1000000) -dsimp -implicitDefEqProofs only [go_sem, ↓reduceIte, keep11, ib11, mk11, Tryd.f11]
  refine ⟨fun he => by rw [exprTxt, if_neg fun q => he q.2], fun he => ?_⟩
  have he1 := he.2.2.1
  have h3 := textI hp e (Stands.of he) (by omega)
  simp only [DExpr.c_eq, DProgram.c_eq] at h3
  first | refine HFnF.mk (h3) ?_ | refine CallSF.mk (h3) ?_ | refine HFnF.mkAt (h3) ?_ | refine CallSF.mk (FnAt.fn0 (h3)) ?_
  simp (maxSteps := 1000000) -dsimp -implicitDefEqProofs only [go_sem, ↓reduceIte, keep11, ib11, mk11, Tryd.f11]
  rw [exprTxt, if_pos ⟨hp, he⟩]
open Go.Proofs
set_option linter.unusedVariables false
set_option linter.unusedSimpArgs false
def keep3 : List Nat := [0, 1, 2, 3, 4, 5, 8, 9, 10, 11, 12, 13, 18, 23, 42, 47, 52]
def ib3 : List Nat := [4, 5]
def mk3 : Marks := fun id => match id with | 8 => ([], (.op 0 (.op 1 (.op 2 (.op 3 (.op 4 (.op 5 (.op 6 (.op 7 .nil)))))))), []) | 14 => ([0], (.op 1 (.op 2 (.op 0 (.op 3 (.op 4 .nil))))), []) | 16 => ([0], (.op 1 (.op 2 (.op 0 (.op 3 (.op 4 .nil))))), []) | _ => ([], .nil, [])
set_option maxRecDepth 100000 in
theorem law_ExprText (a : DProgram) (b : DExpr) (vars funcs : Int) : Fn0 Tryd.prog 3 [.agg a.c, .agg b.c, I vars, I funcs] (.bool true) := by
  have hsp := fun (ha : a.s ≤ 1048576) (hb : b.s ≤ 1048576) => specExprText a b vars funcs hb ha
  have him := fun (ha : a.s ≤ 1048576) (hb : b.s ≤ 1048576) => ExprTextI a b vars funcs hb ha
  simp only [DProgram.c_eq, DExpr.c_eq] at hsp him ⊢
  refine fn0F 53 keep3 ib3 mk3 mix Tryd.func3 rfl (by kernel_rfl) (by simp) fun h => ?_
  simp (maxSteps := 1000000) -dsimp -implicitDefEqProofs only [go_sem, ↓reduceIte, keep3, ib3, mk3, Tryd.f3]
  first | refine HFnF.mk (sz_Program a 1048576 (by omega) (by omega)) ?_ | refine CallSF.mk (sz_Program a 1048576 (by omega) (by omega)) ?_ | refine HFnF.mkAt (sz_Program a 1048576 (by omega) (by omega)) ?_ | refine CallSF.mk (FnAt.fn0 (sz_Program a 1048576 (by omega) (by omega))) ?_
  simp (maxSteps := 1000000) -dsimp -implicitDefEqProofs only [go_sem, ↓reduceIte, keep3, ib3, mk3, Tryd.f3, DProgram.c_eq, DExpr.c_eq]
  generalize hL : lft 1048576 a.s = L
  have hs := lft_step hL
  repeat' (with_reducible first | intro _ | refine And.intro ?_ ?_)
  all_goals try (first | (simp [hs, *]; done) | omega | (grind [hs]) | (simp [hs]; omega))
  rename_i h1
  have h2 := hs.2 h1
  have z2 := sz_Expr b L (by omega) (by omega)
  rw [DExpr.c_eq] at z2
  first | refine HFnF.mk (z2) ?_ | refine CallSF.mk (z2) ?_ | refine HFnF.mkAt (z2) ?_ | refine CallSF.mk (FnAt.fn0 (z2)) ?_
  simp (maxSteps := 1000000) -dsimp -implicitDefEqProofs only [go_sem, ↓reduceIte, keep3, ib3, mk3, Tryd.f3]
  generalize hM : lft L b.s = M
  have ht := lft_step hM
  repeat' (with_reducible first | intro _ | refine And.intro ?_ ?_)
  all_goals try (first | (simp [ht, *]; done) | omega | (grind [ht]) | (simp [ht]; omega))
  rename_i h3
  have h4 := ht.2 h3
  have ha : a.s ≤ 1048576 := by omega
  have hb : b.s ≤ 1048576 := by omega
  have hsp := hsp ha hb
  have him := him ha hb
  clear hs ht hL hM h1 h2 h3 h4 z2
  have t1 := to_Program a ha
  have t2 := to_Expr b hb
  have q1 := eq_Program a a
  have q2 := eq_Expr b b
  simp only [DProgram.c_eq, DExpr.c_eq] at t1 t2 q1 q2
  first | refine HFnF.mk (t1) ?_ | refine CallSF.mk (t1) ?_ | refine HFnF.mkAt (t1) ?_ | refine CallSF.mk (FnAt.fn0 (t1)) ?_
  simp (maxSteps := 1000000) -dsimp -implicitDefEqProofs only [go_sem, ↓reduceIte, keep3, ib3, mk3, Tryd.f3]
  first | refine HFnF.mk (t2) ?_ | refine CallSF.mk (t2) ?_ | refine HFnF.mkAt (t2) ?_ | refine CallSF.mk (FnAt.fn0 (t2)) ?_
  simp (maxSteps := 1000000) -dsimp -implicitDefEqProofs only [go_sem, ↓reduceIte, keep3, ib3, mk3, Tryd.f3]
  first | refine HFnF.mk (hsp) ?_ | refine CallSF.mk (hsp) ?_ | refine HFnF.mkAt (hsp) ?_ | refine CallSF.mk (FnAt.fn0 (hsp)) ?_
  simp (maxSteps := 1000000) -dsimp -implicitDefEqProofs only [go_sem, ↓reduceIte, keep3, ib3, mk3, Tryd.f3]
  first | refine HFnF.mk (t1) ?_ | refine CallSF.mk (t1) ?_ | refine HFnF.mkAt (t1) ?_ | refine CallSF.mk (FnAt.fn0 (t1)) ?_
  simp (maxSteps := 1000000) -dsimp -implicitDefEqProofs only [go_sem, ↓reduceIte, keep3, ib3, mk3, Tryd.f3, upd_upd]
  repeat' (with_reducible first | intro _ | refine And.intro ?_ ?_)
  first | refine HFnF.mk (t2) ?_ | refine CallSF.mk (t2) ?_ | refine HFnF.mkAt (t2) ?_ | refine CallSF.mk (FnAt.fn0 (t2)) ?_
  simp (maxSteps := 1000000) -dsimp -implicitDefEqProofs only [go_sem, ↓reduceIte, keep3, ib3, mk3, Tryd.f3, upd_upd]
  repeat' (with_reducible first | intro _ | refine And.intro ?_ ?_)
  rename_i n1 h1 n2 h2
  have e12 : (n1 = n2) = False := eq_false fun e => h2.1 e.symm
  have e21 : (n2 = n1) = False := eq_false h2.1
  simp (maxSteps := 1000000) -dsimp -implicitDefEqProofs only [go_sem, ↓reduceIte, keep3, ib3, mk3, Tryd.f3, upd_get, e12, e21]
  first | refine HFnF.mk (him) ?_ | refine CallSF.mk (him) ?_ | refine HFnF.mkAt (him) ?_ | refine CallSF.mk (FnAt.fn0 (him)) ?_
  simp (maxSteps := 1000000) -dsimp -implicitDefEqProofs only [go_sem, ↓reduceIte, keep3, ib3, mk3, Tryd.f3, e12, e21, upd_get, bne_self_eq_false]
  first | refine HFnF.mk (t1) ?_ | refine CallSF.mk (t1) ?_ | refine HFnF.mkAt (t1) ?_ | refine CallSF.mk (FnAt.fn0 (t1)) ?_
  simp (maxSteps := 1000000) -dsimp -implicitDefEqProofs only [go_sem, ↓reduceIte, keep3, ib3, mk3, Tryd.f3, upd_get, e12, e21]
  first | refine HFnF.mk (q1) ?_ | refine CallSF.mk (q1) ?_ | refine HFnF.mkAt (q1) ?_ | refine CallSF.mk (FnAt.fn0 (q1)) ?_
  simp (maxSteps := 1000000) -dsimp -implicitDefEqProofs only [go_sem, ↓reduceIte, keep3, ib3, mk3, Tryd.f3, upd_get, e12, e21, decide_true, Bool.not_true]
  first | refine HFnF.mk (t2) ?_ | refine CallSF.mk (t2) ?_ | refine HFnF.mkAt (t2) ?_ | refine CallSF.mk (FnAt.fn0 (t2)) ?_
  simp (maxSteps := 1000000) -dsimp -implicitDefEqProofs only [go_sem, ↓reduceIte, keep3, ib3, mk3, Tryd.f3, upd_get, e12, e21]
  first | refine HFnF.mk (q2) ?_ | refine CallSF.mk (q2) ?_ | refine HFnF.mkAt (q2) ?_ | refine CallSF.mk (FnAt.fn0 (q2)) ?_
  simp (maxSteps := 1000000) -dsimp -implicitDefEqProofs only [go_sem, ↓reduceIte, keep3, ib3, mk3, Tryd.f3, upd_get, e12, e21, h1, h2.2, decide_true, Bool.not_true]
end Go.Hl

/-
  Contracts of functions and laws of the layer over the walk.
-/
import Derived.Test.YtenkidkcfjbcgaaDoorVvB
import Derived.Test.YtenkidkcfjbcgaaDoorHlD
import Derived.Test.YtenkidkcfjbcgaaDoorVvA
namespace Go.Hl
open Go.Proofs
set_option linter.unusedVariables false
set_option linter.unusedSimpArgs false
theorem le_bld {g : Heap} {nb b : Nat} {X Y R : HObj} (hne : ¬ b = nb) (hb : g b = none) : (upd g nb Y).le (upd (upd (upd g nb X) b R) nb Y) := fun q => by
  by_cases e : q = nb
  · subst e; right; rw [upd_same, upd_same]
  · by_cases e2 : q = b
    · subst e2; left; rw [upd_ne _ _ _ _ e]; exact hb
    · right; rw [upd_ne _ _ _ _ e, upd_ne _ _ _ _ e, upd_ne _ _ _ _ e2, upd_ne _ _ _ _ e]
def keep75 : List Nat := [0, 1, 2, 3, 4, 8, 9, 10, 11, 16]
def ib75 : List Nat := []
def mk75 : Marks := fun _ => ([], .nil, [])
set_option maxRecDepth 100000 in
theorem writeList {p : DProgram} (hp : p.ok) {funcs vars : Int} (e : DExpr) (h : Stands p funcs e vars) {nb : Nat}
    (ih : ∀ (k : Nat) (hk : k < e.fKids.length) (g : Heap) (l : List UInt8), g nb = some (bld l) → l.length + 64 * (e.fKids[k].s + 1) ≤ 1099511627776 → HFn Tryd.prog 36 [.agg p.c, .op nb 2 0 0, .agg e.fKids[k].c] g fun r h' => r = .tup [] ∧ (upd g nb (bld (l ++ e.fKids[k].txt p))).le h')
    (g : Heap) (l : List UInt8) (hb : g nb = some (bld l)) (hlen : l.length + 64 * e.s + 8 ≤ 1099511627776) :
    HFn Tryd.prog 75 [.ip 1 [[.op nb 2 0 0]] 0 0, .ip 5 [e.c] 0 0, .ip 1 [p.c] 0 0] g fun r h' => r = .tup [] ∧ (upd g nb (bld (l ++ 40 :: (semis (e.fKids.map (DExpr.txt p)) ++ [41])))).le h' := by
  have hall := semis_take hp h
  simp only [DExpr.c_eq, DProgram.c_eq] at ih ⊢
  refine fnKF 26 keep75 ib75 mk75 mix Tryd.func75 rfl (by kernel_rfl) (by simp) ?_
  simp (maxSteps := 1000000) -dsimp -implicitDefEqProofs only [go_sem, ↓reduceIte, keep75, ib75, mk75, Tryd.f75, hb]
  refine HFnF.mkH (writeByte l 40 (by omega) hb) ?_
  rintro r_ h' ⟨rfl, rfl⟩
  simp (maxSteps := 1000000) -dsimp -implicitDefEqProofs only [go_sem, ↓reduceIte, keep75, ib75, mk75, Tryd.f75]
  intro _
  refine loopF (keep := keep75) (ib := ib75) (mk := mk75) mix (by kernel_rfl) (fun k : Nat => [(0, .ip 1 [[.op nb 2 0 0]] 0 0), (1, .ip 5 [[I e.fKind, I e.fNum, I e.fPick, I e.fCount, sls 5 DExpr.c e.fKids]] 0 0), (2, .ip 1 [[sls 3 DFunc.c p.fFuncs]] 0 0), (8, sls 5 DExpr.c e.fKids), (9, I e.fKids.length), (10, I k)]) (fun k => upd g nb (bld (l ++ 40 :: semis ((e.fKids.map (DExpr.txt p)).take k)))) (fun k => k ≤ e.fKids.length) (fun k => e.fKids.length - k) 0 ⟨by simp [SatL, tget], Heap.le_refl _, Nat.zero_le _⟩ ?_
  intro k hk
  have hpre := hall k
  rcases Nat.lt_or_ge k e.fKids.length with hlt | hge
  · have ea : e.fKids[k]? = some e.fKids[k] := List.getElem?_eq_getElem hlt
    have hnx := semis_next (p := p) hlt
    have hrm := semis_room hp h hlt
    simp (maxSteps := 1000000) -dsimp -implicitDefEqProofs only [go_sem, ↓reduceIte, keep75, ib75, mk75, Tryd.f75, ea, DExpr.c_eq]
    refine ⟨fun _ => ⟨hlt, fun b hb2 => ⟨fun hk0 => ?_, fun hk0 => ?_⟩⟩, fun q => absurd hlt q⟩
    · have d_b_nb : ¬ b = nb := hb2.1
      have d_nb_b : ¬ nb = b := Ne.symm d_b_nb
      have e_b_nb : (b = nb) = False := eq_false d_b_nb
      have e_nb_b : (nb = b) = False := eq_false d_nb_b
      rw [upd_upd]
      refine HFnF.mkH (writeString (l ++ 40 :: semis ((e.fKids.map (DExpr.txt p)).take k)) [59, 32] (by simp only [List.length_append, List.length_cons, List.length_nil]; omega) (by rw [upd_ne _ _ _ _ d_nb_b, upd_same])) ?_
      rintro r_ h' ⟨rfl, rfl⟩
      simp (maxSteps := 1000000) -dsimp -implicitDefEqProofs only [go_sem, ↓reduceIte, keep75, ib75, mk75, Tryd.f75, e_b_nb, e_nb_b, upd_ne, DExpr.c_eq]
      refine HFnF.mkH (ih k hlt _ _ (upd_same ..) (by simp only [List.length_append, List.length_cons, List.length_nil]; omega)) ?_
      rintro r_ h' ⟨rfl, hle⟩
      simp (maxSteps := 1000000) -dsimp -implicitDefEqProofs only [go_sem, ↓reduceIte, keep75, ib75, mk75, Tryd.f75]
      have et : l ++ 40 :: semis ((e.fKids.map (DExpr.txt p)).take (k + 1)) = (l ++ 40 :: semis ((e.fKids.map (DExpr.txt p)).take k)) ++ [59, 32] ++ e.fKids[k].txt p := by rw [hnx.1 (by omega)]; simp
      rw [upd_upd, ← et] at hle
      exact ⟨k + 1, IntWalk.i64_in _ (by omega), Heap.le_trans (le_bld hb2.1 hb2.2) hle, by omega, by omega⟩
    · have d_b_nb : ¬ b = nb := hb2.1
      have d_nb_b : ¬ nb = b := Ne.symm d_b_nb
      have e_b_nb : (b = nb) = False := eq_false d_b_nb
      have e_nb_b : (nb = b) = False := eq_false d_nb_b
      rw [upd_upd]
      refine HFnF.mkH (ih k hlt _ _ (by rw [upd_ne _ _ _ _ d_nb_b, upd_same]) (by simp only [List.length_append, List.length_cons, List.length_nil]; omega)) ?_
      rintro r_ h' ⟨rfl, hle⟩
      simp (maxSteps := 1000000) -dsimp -implicitDefEqProofs only [go_sem, ↓reduceIte, keep75, ib75, mk75, Tryd.f75]
      have et : l ++ 40 :: semis ((e.fKids.map (DExpr.txt p)).take (k + 1)) = (l ++ 40 :: semis ((e.fKids.map (DExpr.txt p)).take k)) ++ e.fKids[k].txt p := by
        rw [hnx.2 (by omega)]
        obtain rfl : k = 0 := by omega
        simp [semis]
      rw [← et] at hle
      exact ⟨k + 1, IntWalk.i64_in _ (by omega), Heap.le_trans (le_bld hb2.1 hb2.2) hle, by omega, by omega⟩
  · have hk' : k = e.fKids.length := by omega
    rw [hk', List.take_of_length_le (by simp)] at hpre ⊢
    have hnk : ¬ e.fKids.length < e.fKids.length := Nat.lt_irrefl _
    simp (maxSteps := 1000000) -dsimp -implicitDefEqProofs only [go_sem, ↓reduceIte, keep75, ib75, mk75, Tryd.f75, hnk]
    refine HFnF.mkH (writeByte _ 41 (by simp only [List.length_append, List.length_cons, List.length_nil]; omega) (upd_same ..)) ?_
    rintro r_ h' ⟨rfl, rfl⟩
    simp (maxSteps := 1000000) -dsimp -implicitDefEqProofs only [go_sem, ↓reduceIte, keep75, ib75, mk75, Tryd.f75]
    rw [upd_upd]
    refine ⟨_, _, shift_le (Heap.le_refl _), rfl, ?_⟩
    rw [show l ++ 40 :: (semis (e.fKids.map (DExpr.txt p)) ++ [41]) = l ++ 40 :: semis (e.fKids.map (DExpr.txt p)) ++ [41] by simp]
    exact Heap.le_refl _
open Go.Proofs
set_option linter.unusedVariables false
set_option linter.unusedSimpArgs false
def keep36 : List Nat := [0, 1, 2, 3, 4, 5, 6, 9, 37, 44, 52, 58, 64, 70, 88]
def ib36 : List Nat := [3, 4, 5, 23]
def mk36 : Marks := fun id => match id with | 4 => ([6], (.op 0 (.op 1 (.op 2 (.op 3 (.op 4 (.op 5 (.op 6 .nil))))))), []) | 5 => ([3, 8], (.op 0 (.op 1 (.op 2 (.op 3 (.op 4 (.op 5 (.op 6 (.op 7 (.op 8 .nil))))))))), []) | 6 => ([6], (.op 0 (.op 1 (.op 2 (.op 3 (.op 4 (.op 5 (.op 6 .nil))))))), []) | 9 => ([3, 4], (.op 0 (.op 1 (.op 2 (.op 3 (.op 4 .nil))))), []) | 11 => ([3, 5], (.op 0 (.op 1 (.op 2 (.op 3 (.op 4 (.op 5 .nil)))))), []) | 22 => ([11, 13], (.op 0 (.op 1 (.op 2 (.op 3 (.op 4 (.op 5 (.op 6 (.op 7 (.op 8 (.op 9 (.op 10 (.op 11 (.op 12 (.op 13 .nil)))))))))))))), []) | 25 => ([11, 16, 18], (.op 0 (.op 1 (.op 2 (.op 3 (.op 4 (.op 5 (.op 6 (.op 7 (.op 8 (.op 9 (.op 10 (.op 14 (.op 15 (.op 11 (.op 12 (.op 13 (.op 16 (.op 17 (.op 18 .nil))))))))))))))))))), []) | _ => ([], .nil, [])
theorem le_re {g h : Heap} {nb : Nat} {X Y : HObj} (hle : (upd g nb X).le h) : (upd g nb Y).le (upd h nb Y) := fun q => by
  by_cases e : q = nb
  · subst e; right; rw [upd_same, upd_same]
  · have := hle q
    rw [upd_ne _ _ _ _ e] at this
    rw [upd_ne _ _ _ _ e, upd_ne _ _ _ _ e]; exact this
set_option maxRecDepth 100000 in
set_option maxHeartbeats 1000000 in
theorem write {p : DProgram} (hp : p.ok) {funcs : Int} (e : DExpr) (vars : Int) (h : Stands p funcs e vars) {nb : Nat} (g : Heap) (l : List UInt8) (hb : g nb = some (bld l)) (hlen : l.length + 64 * (e.s + 1) ≤ 1099511627776) :
    HFn Tryd.prog 36 [.agg p.c, .op nb 2 0 0, .agg e.c] g fun r h' => r = .tup [] ∧ (upd g nb (bld (l ++ e.txt p))).le h' := by
  have ih : ∀ (k : Nat) (hk : k < e.fKids.length) (g : Heap) (l : List UInt8), g nb = some (bld l) → l.length + 64 * (e.fKids[k].s + 1) ≤ 1099511627776 → HFn Tryd.prog 36 [.agg p.c, .op nb 2 0 0, .agg e.fKids[k].c] g fun r h' => r = .tup [] ∧ (upd g nb (bld (l ++ e.fKids[k].txt p))).le h' := fun k hk g l hb hlen => by
    obtain ⟨v, hv⟩ := h.kid hk
    have hks := DExpr.kid_s (List.getElem_mem hk)
    exact write hp e.fKids[k] v hv g l hb hlen
  have hwl := writeList hp e h ih
  have hkind := h.kind
  have htxt := DExpr.txt_eq p e
  simp only [DExpr.c_eq, DProgram.c_eq] at hwl ⊢
  by_cases k1 : e.fKind = 1
  · rw [if_pos k1] at htxt
    have hN := h.num (.inl k1)
    have hi := itoa_num hN
    refine fnKF 111 keep36 ib36 mk36 mix Tryd.func36 rfl (by kernel_rfl) (by simp) ?_
    simp (maxSteps := 1000000) -dsimp -implicitDefEqProofs only [go_sem, ↓reduceIte, keep36, ib36, mk36, Tryd.f36, hb, k1]
    first | refine HFnF.mk (decimal e.fNum hN) ?_ | refine CallSF.mk (decimal e.fNum hN) ?_ | refine HFnF.mkAt (decimal e.fNum hN) ?_ | refine CallSF.mk (FnAt.fn0 (decimal e.fNum hN)) ?_
    simp (maxSteps := 1000000) -dsimp -implicitDefEqProofs only [go_sem, ↓reduceIte, keep36, ib36, mk36, Tryd.f36]
    refine HFnF.mkH (writeString l _ (by omega) hb) ?_
    rintro r_ h' ⟨rfl, rfl⟩
    simp (maxSteps := 1000000) -dsimp -implicitDefEqProofs only [go_sem, ↓reduceIte, keep36, ib36, mk36, Tryd.f36]
    exact ⟨_, _, shift_le (Heap.le_refl _), rfl, by rw [htxt]; exact Heap.le_refl _⟩
  · by_cases k2 : e.fKind = 2
    · rw [if_neg k1, if_pos k2] at htxt
      have hN := h.num (.inr k2)
      have hi := itoa_num hN
      refine fnKF 111 keep36 ib36 mk36 mix Tryd.func36 rfl (by kernel_rfl) (by simp) ?_
      simp (maxSteps := 1000000) -dsimp -implicitDefEqProofs only [go_sem, ↓reduceIte, keep36, ib36, mk36, Tryd.f36, hb, k2]
      first | refine HFnF.mk (decimal e.fNum hN) ?_ | refine CallSF.mk (decimal e.fNum hN) ?_ | refine HFnF.mkAt (decimal e.fNum hN) ?_ | refine CallSF.mk (FnAt.fn0 (decimal e.fNum hN)) ?_
      simp (maxSteps := 1000000) -dsimp -implicitDefEqProofs only [go_sem, ↓reduceIte, keep36, ib36, mk36, Tryd.f36]
      refine ⟨by omega, HFnF.mkH (writeString l _ (by simp only [List.length_append, List.length_cons, List.length_nil]; omega) hb) ?_⟩
      rintro r_ h' ⟨rfl, rfl⟩
      simp (maxSteps := 1000000) -dsimp -implicitDefEqProofs only [go_sem, ↓reduceIte, keep36, ib36, mk36, Tryd.f36]
      exact ⟨_, _, shift_le (Heap.le_refl _), rfl, by rw [htxt]; exact Heap.le_refl _⟩
    · by_cases kb : 3 ≤ e.fKind ∧ e.fKind ≤ 6
      · rw [if_neg k1, if_neg k2, if_pos kb] at htxt
        have h2 := h.two kb
        match hk : e.fKids, h2 with
        | [a, b], _ =>
          have i0 := ih 0 (by rw [hk]; simp)
          have i1 := ih 1 (by rw [hk]; simp)
          have g0 : e.fKids[0]'(by rw [hk]; simp) = a := by simp [hk]
          have g1 : e.fKids[1]'(by rw [hk]; simp) = b := by simp [hk]
          rw [g0] at i0; rw [g1] at i1
          rw [hk] at htxt
          simp only [List.map_cons, List.map_nil] at htxt
          have ht : e.txt p = 40 :: (a.txt p ++ 32 :: signB e.fKind :: 32 :: (b.txt p ++ [41])) := htxt
          have hsab : a.s + b.s + 2 = e.s := by rw [e.s_eq, hk, szs_eq]; simp; omega
          obtain ⟨v0, hv0⟩ := h.kid (k := 0) (by rw [hk]; simp)
          have la := DExpr.txt_len hp _ _ hv0
          rw [g0] at la
          obtain ⟨v1, hv1⟩ := h.kid (k := 1) (by rw [hk]; simp)
          have lb := DExpr.txt_len hp _ _ hv1
          rw [g1] at lb
          have ga : ([DExpr.c a, DExpr.c b] : List (List HVal))[Int.toNat 0]? = some a.c := rfl
          have gb : ([DExpr.c a, DExpr.c b] : List (List HVal))[Int.toNat 1]? = some b.c := rfl
          simp only [DExpr.c_eq, DProgram.c_eq] at i0 i1 ga gb
          clear ih hwl htxt
          rcases (by omega : e.fKind = 3 ∨ e.fKind = 4 ∨ e.fKind = 5 ∨ e.fKind = 6) with kq | kq | kq | kq
          · have js : Fn0 Tryd.prog 76 [I 3] (.int .u8 43) := signI 3 (by decide)
            have hsg : signB e.fKind = 43 := by rw [kq]; rfl
            rw [hsg] at ht
            refine fnKF 111 keep36 ib36 mk36 mix Tryd.func36 rfl (by kernel_rfl) (by simp) ?_
            simp (maxSteps := 1000000) -dsimp -implicitDefEqProofs only [go_sem, ↓reduceIte, keep36, ib36, mk36, Tryd.f36, hb, kq]
            refine HFnF.mkH (writeByte l 40 (by omega) hb) ?_
            rintro r_ h1 ⟨rfl, rfl⟩
            simp (maxSteps := 1000000) -dsimp -implicitDefEqProofs only [go_sem, ↓reduceIte, keep36, ib36, mk36, Tryd.f36, ga, DExpr.c_eq]
            refine ⟨by decide, HFnF.mkH (i0 _ (l ++ [40]) (upd_same ..) (by simp only [List.length_append, List.length_cons, List.length_nil]; omega)) ?_⟩
            rintro r_ h2 ⟨rfl, hle2⟩
            have hb2 := Heap.le_get hle2 (upd_same ..)
            rw [upd_upd] at hle2
            simp (maxSteps := 1000000) -dsimp -implicitDefEqProofs only [go_sem, ↓reduceIte, keep36, ib36, mk36, Tryd.f36]
            first | refine HFnF.mk (js) ?_ | refine CallSF.mk (js) ?_ | refine HFnF.mkAt (js) ?_ | refine CallSF.mk (FnAt.fn0 (js)) ?_
            simp (maxSteps := 1000000) -dsimp -implicitDefEqProofs only [go_sem, ↓reduceIte, keep36, ib36, mk36, Tryd.f36]
            refine ⟨by decide, by decide, HFnF.mkH (writeString (l ++ [40] ++ a.txt p) [32, 43, 32] (by first | omega | (simp only [List.length_append, List.length_cons, List.length_nil]; omega)) hb2) ?_⟩
            rintro r_ h3 ⟨rfl, rfl⟩
            simp (maxSteps := 1000000) -dsimp -implicitDefEqProofs only [go_sem, ↓reduceIte, keep36, ib36, mk36, Tryd.f36, gb, DExpr.c_eq]
            refine ⟨by decide, HFnF.mkH (i1 _ (l ++ [40] ++ a.txt p ++ [32, 43, 32]) (upd_same ..) (by first | omega | (simp only [List.length_append, List.length_cons, List.length_nil]; omega))) ?_⟩
            rintro r_ h4 ⟨rfl, hle4⟩
            have hb4 := Heap.le_get hle4 (upd_same ..)
            rw [upd_upd] at hle4
            simp (maxSteps := 1000000) -dsimp -implicitDefEqProofs only [go_sem, ↓reduceIte, keep36, ib36, mk36, Tryd.f36]
            refine HFnF.mkH (writeByte (l ++ [40] ++ a.txt p ++ [32, 43, 32] ++ b.txt p) 41 (by first | omega | (simp only [List.length_append, List.length_cons, List.length_nil]; omega)) hb4) ?_
            rintro r_ h5 ⟨rfl, rfl⟩
            simp (maxSteps := 1000000) -dsimp -implicitDefEqProofs only [go_sem, ↓reduceIte, keep36, ib36, mk36, Tryd.f36]
            refine ⟨_, _, shift_le (Heap.le_refl _), rfl, ?_⟩
            rw [show l ++ e.txt p = l ++ [40] ++ a.txt p ++ [32, 43, 32] ++ b.txt p ++ [41] by rw [ht]; simp]
            exact le_re (Heap.le_trans (le_re hle2) hle4)
          · have js : Fn0 Tryd.prog 76 [I 4] (.int .u8 45) := signI 4 (by decide)
            have hsg : signB e.fKind = 45 := by rw [kq]; rfl
            rw [hsg] at ht
            refine fnKF 111 keep36 ib36 mk36 mix Tryd.func36 rfl (by kernel_rfl) (by simp) ?_
            simp (maxSteps := 1000000) -dsimp -implicitDefEqProofs only [go_sem, ↓reduceIte, keep36, ib36, mk36, Tryd.f36, hb, kq]
            refine HFnF.mkH (writeByte l 40 (by omega) hb) ?_
            rintro r_ h1 ⟨rfl, rfl⟩
            simp (maxSteps := 1000000) -dsimp -implicitDefEqProofs only [go_sem, ↓reduceIte, keep36, ib36, mk36, Tryd.f36, ga, DExpr.c_eq]
            refine ⟨by decide, HFnF.mkH (i0 _ (l ++ [40]) (upd_same ..) (by simp only [List.length_append, List.length_cons, List.length_nil]; omega)) ?_⟩
            rintro r_ h2 ⟨rfl, hle2⟩
            have hb2 := Heap.le_get hle2 (upd_same ..)
            rw [upd_upd] at hle2
            simp (maxSteps := 1000000) -dsimp -implicitDefEqProofs only [go_sem, ↓reduceIte, keep36, ib36, mk36, Tryd.f36]
            first | refine HFnF.mk (js) ?_ | refine CallSF.mk (js) ?_ | refine HFnF.mkAt (js) ?_ | refine CallSF.mk (FnAt.fn0 (js)) ?_
            simp (maxSteps := 1000000) -dsimp -implicitDefEqProofs only [go_sem, ↓reduceIte, keep36, ib36, mk36, Tryd.f36]
            refine ⟨by decide, by decide, HFnF.mkH (writeString (l ++ [40] ++ a.txt p) [32, 45, 32] (by first | omega | (simp only [List.length_append, List.length_cons, List.length_nil]; omega)) hb2) ?_⟩
            rintro r_ h3 ⟨rfl, rfl⟩
            simp (maxSteps := 1000000) -dsimp -implicitDefEqProofs only [go_sem, ↓reduceIte, keep36, ib36, mk36, Tryd.f36, gb, DExpr.c_eq]
            refine ⟨by decide, HFnF.mkH (i1 _ (l ++ [40] ++ a.txt p ++ [32, 45, 32]) (upd_same ..) (by first | omega | (simp only [List.length_append, List.length_cons, List.length_nil]; omega))) ?_⟩
            rintro r_ h4 ⟨rfl, hle4⟩
            have hb4 := Heap.le_get hle4 (upd_same ..)
            rw [upd_upd] at hle4
            simp (maxSteps := 1000000) -dsimp -implicitDefEqProofs only [go_sem, ↓reduceIte, keep36, ib36, mk36, Tryd.f36]
            refine HFnF.mkH (writeByte (l ++ [40] ++ a.txt p ++ [32, 45, 32] ++ b.txt p) 41 (by first | omega | (simp only [List.length_append, List.length_cons, List.length_nil]; omega)) hb4) ?_
            rintro r_ h5 ⟨rfl, rfl⟩
            simp (maxSteps := 1000000) -dsimp -implicitDefEqProofs only [go_sem, ↓reduceIte, keep36, ib36, mk36, Tryd.f36]
            refine ⟨_, _, shift_le (Heap.le_refl _), rfl, ?_⟩
            rw [show l ++ e.txt p = l ++ [40] ++ a.txt p ++ [32, 45, 32] ++ b.txt p ++ [41] by rw [ht]; simp]
            exact le_re (Heap.le_trans (le_re hle2) hle4)
          · have js : Fn0 Tryd.prog 76 [I 5] (.int .u8 42) := signI 5 (by decide)
            have hsg : signB e.fKind = 42 := by rw [kq]; rfl
            rw [hsg] at ht
            refine fnKF 111 keep36 ib36 mk36 mix Tryd.func36 rfl (by kernel_rfl) (by simp) ?_
            simp (maxSteps := 1000000) -dsimp -implicitDefEqProofs only [go_sem, ↓reduceIte, keep36, ib36, mk36, Tryd.f36, hb, kq]
            refine HFnF.mkH (writeByte l 40 (by omega) hb) ?_
            rintro r_ h1 ⟨rfl, rfl⟩
            simp (maxSteps := 1000000) -dsimp -implicitDefEqProofs only [go_sem, ↓reduceIte, keep36, ib36, mk36, Tryd.f36, ga, DExpr.c_eq]
            refine ⟨by decide, HFnF.mkH (i0 _ (l ++ [40]) (upd_same ..) (by simp only [List.length_append, List.length_cons, List.length_nil]; omega)) ?_⟩
            rintro r_ h2 ⟨rfl, hle2⟩
            have hb2 := Heap.le_get hle2 (upd_same ..)
            rw [upd_upd] at hle2
            simp (maxSteps := 1000000) -dsimp -implicitDefEqProofs only [go_sem, ↓reduceIte, keep36, ib36, mk36, Tryd.f36]
            first | refine HFnF.mk (js) ?_ | refine CallSF.mk (js) ?_ | refine HFnF.mkAt (js) ?_ | refine CallSF.mk (FnAt.fn0 (js)) ?_
            simp (maxSteps := 1000000) -dsimp -implicitDefEqProofs only [go_sem, ↓reduceIte, keep36, ib36, mk36, Tryd.f36]
            refine ⟨by decide, by decide, HFnF.mkH (writeString (l ++ [40] ++ a.txt p) [32, 42, 32] (by first | omega | (simp only [List.length_append, List.length_cons, List.length_nil]; omega)) hb2) ?_⟩
            rintro r_ h3 ⟨rfl, rfl⟩
            simp (maxSteps := 1000000) -dsimp -implicitDefEqProofs only [go_sem, ↓reduceIte, keep36, ib36, mk36, Tryd.f36, gb, DExpr.c_eq]
            refine ⟨by decide, HFnF.mkH (i1 _ (l ++ [40] ++ a.txt p ++ [32, 42, 32]) (upd_same ..) (by first | omega | (simp only [List.length_append, List.length_cons, List.length_nil]; omega))) ?_⟩
            rintro r_ h4 ⟨rfl, hle4⟩
            have hb4 := Heap.le_get hle4 (upd_same ..)
            rw [upd_upd] at hle4
            simp (maxSteps := 1000000) -dsimp -implicitDefEqProofs only [go_sem, ↓reduceIte, keep36, ib36, mk36, Tryd.f36]
            refine HFnF.mkH (writeByte (l ++ [40] ++ a.txt p ++ [32, 42, 32] ++ b.txt p) 41 (by first | omega | (simp only [List.length_append, List.length_cons, List.length_nil]; omega)) hb4) ?_
            rintro r_ h5 ⟨rfl, rfl⟩
            simp (maxSteps := 1000000) -dsimp -implicitDefEqProofs only [go_sem, ↓reduceIte, keep36, ib36, mk36, Tryd.f36]
            refine ⟨_, _, shift_le (Heap.le_refl _), rfl, ?_⟩
            rw [show l ++ e.txt p = l ++ [40] ++ a.txt p ++ [32, 42, 32] ++ b.txt p ++ [41] by rw [ht]; simp]
            exact le_re (Heap.le_trans (le_re hle2) hle4)
          · have js : Fn0 Tryd.prog 76 [I 6] (.int .u8 47) := signI 6 (by decide)
            have hsg : signB e.fKind = 47 := by rw [kq]; rfl
            rw [hsg] at ht
            refine fnKF 111 keep36 ib36 mk36 mix Tryd.func36 rfl (by kernel_rfl) (by simp) ?_
            simp (maxSteps := 1000000) -dsimp -implicitDefEqProofs only [go_sem, ↓reduceIte, keep36, ib36, mk36, Tryd.f36, hb, kq]
            refine HFnF.mkH (writeByte l 40 (by omega) hb) ?_
            rintro r_ h1 ⟨rfl, rfl⟩
            simp (maxSteps := 1000000) -dsimp -implicitDefEqProofs only [go_sem, ↓reduceIte, keep36, ib36, mk36, Tryd.f36, ga, DExpr.c_eq]
            refine ⟨by decide, HFnF.mkH (i0 _ (l ++ [40]) (upd_same ..) (by simp only [List.length_append, List.length_cons, List.length_nil]; omega)) ?_⟩
            rintro r_ h2 ⟨rfl, hle2⟩
            have hb2 := Heap.le_get hle2 (upd_same ..)
            rw [upd_upd] at hle2
            simp (maxSteps := 1000000) -dsimp -implicitDefEqProofs only [go_sem, ↓reduceIte, keep36, ib36, mk36, Tryd.f36]
            first | refine HFnF.mk (js) ?_ | refine CallSF.mk (js) ?_ | refine HFnF.mkAt (js) ?_ | refine CallSF.mk (FnAt.fn0 (js)) ?_
            simp (maxSteps := 1000000) -dsimp -implicitDefEqProofs only [go_sem, ↓reduceIte, keep36, ib36, mk36, Tryd.f36]
            refine ⟨by decide, by decide, HFnF.mkH (writeString (l ++ [40] ++ a.txt p) [32, 47, 32] (by first | omega | (simp only [List.length_append, List.length_cons, List.length_nil]; omega)) hb2) ?_⟩
            rintro r_ h3 ⟨rfl, rfl⟩
            simp (maxSteps := 1000000) -dsimp -implicitDefEqProofs only [go_sem, ↓reduceIte, keep36, ib36, mk36, Tryd.f36, gb, DExpr.c_eq]
            refine ⟨by decide, HFnF.mkH (i1 _ (l ++ [40] ++ a.txt p ++ [32, 47, 32]) (upd_same ..) (by first | omega | (simp only [List.length_append, List.length_cons, List.length_nil]; omega))) ?_⟩
            rintro r_ h4 ⟨rfl, hle4⟩
            have hb4 := Heap.le_get hle4 (upd_same ..)
            rw [upd_upd] at hle4
            simp (maxSteps := 1000000) -dsimp -implicitDefEqProofs only [go_sem, ↓reduceIte, keep36, ib36, mk36, Tryd.f36]
            refine HFnF.mkH (writeByte (l ++ [40] ++ a.txt p ++ [32, 47, 32] ++ b.txt p) 41 (by first | omega | (simp only [List.length_append, List.length_cons, List.length_nil]; omega)) hb4) ?_
            rintro r_ h5 ⟨rfl, rfl⟩
            simp (maxSteps := 1000000) -dsimp -implicitDefEqProofs only [go_sem, ↓reduceIte, keep36, ib36, mk36, Tryd.f36]
            refine ⟨_, _, shift_le (Heap.le_refl _), rfl, ?_⟩
            rw [show l ++ e.txt p = l ++ [40] ++ a.txt p ++ [32, 47, 32] ++ b.txt p ++ [41] by rw [ht]; simp]
            exact le_re (Heap.le_trans (le_re hle2) hle4)
      · rw [if_neg k1, if_neg k2, if_neg kb] at htxt
        rcases (by omega : e.fKind = 7 ∨ e.fKind = 8 ∨ e.fKind = 9 ∨ e.fKind = 10 ∨ e.fKind = 11) with kq | kq | kq | kq | kq
        · have hT : headT p e.fKind e.fNum e.fPick e.fCount = [110, 101, 103] := by rw [headT, if_pos kq]
          rw [kq] at hwl
          refine fnKF 111 keep36 ib36 mk36 mix Tryd.func36 rfl (by kernel_rfl) (by simp) ?_
          simp (maxSteps := 1000000) -dsimp -implicitDefEqProofs only [go_sem, ↓reduceIte, keep36, ib36, mk36, Tryd.f36, hb, kq]
          have hl56 := headT_len hp h (by omega)
          rw [hT] at hl56
          refine HFnF.mkH (writeString l ([110, 101, 103]) (by omega) hb) ?_
          rintro r_ h' ⟨rfl, rfl⟩
          simp (maxSteps := 1000000) -dsimp -implicitDefEqProofs only [go_sem, ↓reduceIte, keep36, ib36, mk36, Tryd.f36]
          refine HFnF.mkH (hwl _ _ (upd_same ..) (by rw [List.length_append]; omega)) ?_
          rintro r_ h' ⟨rfl, hle⟩
          simp (maxSteps := 1000000) -dsimp -implicitDefEqProofs only [go_sem, ↓reduceIte, keep36, ib36, mk36, Tryd.f36]
          rw [upd_upd] at hle
          refine ⟨_, _, shift_le (Heap.le_refl _), rfl, ?_⟩
          rw [show l ++ e.txt p = l ++ ([110, 101, 103]) ++ 40 :: (semis (e.fKids.map (DExpr.txt p)) ++ [41]) by rw [htxt, hT]; simp]
          exact hle
        · have hT : headT p e.fKind e.fNum e.fPick e.fCount = [105, 102] := by rw [headT, if_neg (by omega), if_pos kq]
          rw [kq] at hwl
          refine fnKF 111 keep36 ib36 mk36 mix Tryd.func36 rfl (by kernel_rfl) (by simp) ?_
          simp (maxSteps := 1000000) -dsimp -implicitDefEqProofs only [go_sem, ↓reduceIte, keep36, ib36, mk36, Tryd.f36, hb, kq]
          have hl56 := headT_len hp h (by omega)
          rw [hT] at hl56
          refine HFnF.mkH (writeString l ([105, 102]) (by omega) hb) ?_
          rintro r_ h' ⟨rfl, rfl⟩
          simp (maxSteps := 1000000) -dsimp -implicitDefEqProofs only [go_sem, ↓reduceIte, keep36, ib36, mk36, Tryd.f36]
          refine HFnF.mkH (hwl _ _ (upd_same ..) (by rw [List.length_append]; omega)) ?_
          rintro r_ h' ⟨rfl, hle⟩
          simp (maxSteps := 1000000) -dsimp -implicitDefEqProofs only [go_sem, ↓reduceIte, keep36, ib36, mk36, Tryd.f36]
          rw [upd_upd] at hle
          refine ⟨_, _, shift_le (Heap.le_refl _), rfl, ?_⟩
          rw [show l ++ e.txt p = l ++ ([105, 102]) ++ 40 :: (semis (e.fKids.map (DExpr.txt p)) ++ [41]) by rw [htxt, hT]; simp]
          exact hle
        · have hT : headT p e.fKind e.fNum e.fPick e.fCount = [108, 101, 116] := by rw [headT, if_neg (by omega), if_neg (by omega), if_pos kq]
          rw [kq] at hwl
          refine fnKF 111 keep36 ib36 mk36 mix Tryd.func36 rfl (by kernel_rfl) (by simp) ?_
          simp (maxSteps := 1000000) -dsimp -implicitDefEqProofs only [go_sem, ↓reduceIte, keep36, ib36, mk36, Tryd.f36, hb, kq]
          have hl56 := headT_len hp h (by omega)
          rw [hT] at hl56
          refine HFnF.mkH (writeString l ([108, 101, 116]) (by omega) hb) ?_
          rintro r_ h' ⟨rfl, rfl⟩
          simp (maxSteps := 1000000) -dsimp -implicitDefEqProofs only [go_sem, ↓reduceIte, keep36, ib36, mk36, Tryd.f36]
          refine HFnF.mkH (hwl _ _ (upd_same ..) (by rw [List.length_append]; omega)) ?_
          rintro r_ h' ⟨rfl, hle⟩
          simp (maxSteps := 1000000) -dsimp -implicitDefEqProofs only [go_sem, ↓reduceIte, keep36, ib36, mk36, Tryd.f36]
          rw [upd_upd] at hle
          refine ⟨_, _, shift_le (Heap.le_refl _), rfl, ?_⟩
          rw [show l ++ e.txt p = l ++ ([108, 101, 116]) ++ 40 :: (semis (e.fKids.map (DExpr.txt p)) ++ [41]) by rw [htxt, hT]; simp]
          exact hle
        · obtain ⟨f, ef, en, hfl, hn0, hn1, hi, hcn⟩ := h.call hp (.inl kq)
          have hT : headT p e.fKind e.fNum e.fPick e.fCount = f.fName ++ [46] ++ Go.Lib.itoa e.fPick := by rw [headT, if_neg (by omega), if_neg (by omega), if_neg (by omega), if_pos kq, en]; simp
          have hi2 := itoa_num hi
          rw [kq] at hwl
          refine fnKF 111 keep36 ib36 mk36 mix Tryd.func36 rfl (by kernel_rfl) (by simp) ?_
          simp (maxSteps := 1000000) -dsimp -implicitDefEqProofs only [go_sem, ↓reduceIte, keep36, ib36, mk36, Tryd.f36, hb, kq, ef, DFunc.c_eq]
          refine ⟨hn0, hn1, by omega, ?_⟩
          first | refine HFnF.mk (decimal e.fPick hi) ?_ | refine CallSF.mk (decimal e.fPick hi) ?_ | refine HFnF.mkAt (decimal e.fPick hi) ?_ | refine CallSF.mk (FnAt.fn0 (decimal e.fPick hi)) ?_
          simp (maxSteps := 1000000) -dsimp -implicitDefEqProofs only [go_sem, ↓reduceIte, keep36, ib36, mk36, Tryd.f36]
          refine ⟨by first | omega | (simp only [List.length_append, List.length_cons, List.length_nil]; omega), ?_⟩
          have hl56 := headT_len hp h (by omega)
          rw [hT] at hl56
          refine HFnF.mkH (writeString l (f.fName ++ [46] ++ Go.Lib.itoa e.fPick) (by omega) hb) ?_
          rintro r_ h' ⟨rfl, rfl⟩
          simp (maxSteps := 1000000) -dsimp -implicitDefEqProofs only [go_sem, ↓reduceIte, keep36, ib36, mk36, Tryd.f36]
          refine HFnF.mkH (hwl _ _ (upd_same ..) (by rw [List.length_append]; omega)) ?_
          rintro r_ h' ⟨rfl, hle⟩
          simp (maxSteps := 1000000) -dsimp -implicitDefEqProofs only [go_sem, ↓reduceIte, keep36, ib36, mk36, Tryd.f36]
          rw [upd_upd] at hle
          refine ⟨_, _, shift_le (Heap.le_refl _), rfl, ?_⟩
          rw [show l ++ e.txt p = l ++ (f.fName ++ [46] ++ Go.Lib.itoa e.fPick) ++ 40 :: (semis (e.fKids.map (DExpr.txt p)) ++ [41]) by rw [htxt, hT]; simp]
          exact hle
        · obtain ⟨f, ef, en, hfl, hn0, hn1, hi, hcn⟩ := h.call hp (.inr kq)
          have hT : headT p e.fKind e.fNum e.fPick e.fCount = f.fName ++ [46] ++ Go.Lib.itoa e.fPick ++ [94] ++ Go.Lib.itoa e.fCount := by rw [headT, if_neg (by omega), if_neg (by omega), if_neg (by omega), if_neg (by omega), en]; simp
          have hi2 := itoa_num hi
          have hc2 := itoa_num hcn
          rw [kq] at hwl
          refine fnKF 111 keep36 ib36 mk36 mix Tryd.func36 rfl (by kernel_rfl) (by simp) ?_
          simp (maxSteps := 1000000) -dsimp -implicitDefEqProofs only [go_sem, ↓reduceIte, keep36, ib36, mk36, Tryd.f36, hb, kq, ef, DFunc.c_eq]
          refine ⟨hn0, hn1, by omega, ?_⟩
          first | refine HFnF.mk (decimal e.fPick hi) ?_ | refine CallSF.mk (decimal e.fPick hi) ?_ | refine HFnF.mkAt (decimal e.fPick hi) ?_ | refine CallSF.mk (FnAt.fn0 (decimal e.fPick hi)) ?_
          simp (maxSteps := 1000000) -dsimp -implicitDefEqProofs only [go_sem, ↓reduceIte, keep36, ib36, mk36, Tryd.f36]
          refine ⟨by first | omega | (simp only [List.length_append, List.length_cons, List.length_nil]; omega), by first | omega | (simp only [List.length_append, List.length_cons, List.length_nil]; omega), ?_⟩
          first | refine HFnF.mk (decimal e.fCount hcn) ?_ | refine CallSF.mk (decimal e.fCount hcn) ?_ | refine HFnF.mkAt (decimal e.fCount hcn) ?_ | refine CallSF.mk (FnAt.fn0 (decimal e.fCount hcn)) ?_
          simp (maxSteps := 1000000) -dsimp -implicitDefEqProofs only [go_sem, ↓reduceIte, keep36, ib36, mk36, Tryd.f36]
          refine ⟨by first | omega | (simp only [List.length_append, List.length_cons, List.length_nil]; omega), ?_⟩
          have hl56 := headT_len hp h (by omega)
          rw [hT] at hl56
          refine HFnF.mkH (writeString l (f.fName ++ [46] ++ Go.Lib.itoa e.fPick ++ [94] ++ Go.Lib.itoa e.fCount) (by omega) hb) ?_
          rintro r_ h' ⟨rfl, rfl⟩
          simp (maxSteps := 1000000) -dsimp -implicitDefEqProofs only [go_sem, ↓reduceIte, keep36, ib36, mk36, Tryd.f36]
          refine HFnF.mkH (hwl _ _ (upd_same ..) (by rw [List.length_append]; omega)) ?_
          rintro r_ h' ⟨rfl, hle⟩
          simp (maxSteps := 1000000) -dsimp -implicitDefEqProofs only [go_sem, ↓reduceIte, keep36, ib36, mk36, Tryd.f36]
          rw [upd_upd] at hle
          refine ⟨_, _, shift_le (Heap.le_refl _), rfl, ?_⟩
          rw [show l ++ e.txt p = l ++ (f.fName ++ [46] ++ Go.Lib.itoa e.fPick ++ [94] ++ Go.Lib.itoa e.fCount) ++ 40 :: (semis (e.fKids.map (DExpr.txt p)) ++ [41]) by rw [htxt, hT]; simp]
          exact hle
termination_by e.s
open Go.Proofs
set_option linter.unusedVariables false
set_option linter.unusedSimpArgs false
theorem Stands.of {p : DProgram} {e : DExpr} {vars funcs : Int} (h : exprOK p e vars funcs) : Stands p funcs e vars := ⟨h.2.2.2.2, by have h1 := h.1; have h3 := h.2.2.1; omega, h.2.1.1, h.2.1.2⟩
open Go.Proofs
set_option linter.unusedVariables false
set_option linter.unusedSimpArgs false
/-- Texts with " | " between them. -/
def bars : List (List UInt8) → List UInt8
  | [] => []
  | [a] => a
  | a :: b :: l => a ++ 32 :: 124 :: 32 :: bars (b :: l)
theorem bars_snoc (a : List UInt8) : ∀ l : List (List UInt8), ¬ l = [] → bars (l ++ [a]) = bars l ++ 32 :: 124 :: 32 :: a
  | [], h => absurd rfl h
  | [b], _ => rfl
  | b :: c :: l, _ => by
    show b ++ 32 :: 124 :: 32 :: bars ((c :: l) ++ [a]) = (b ++ 32 :: 124 :: 32 :: bars (c :: l)) ++ 32 :: 124 :: 32 :: a
    rw [bars_snoc a (c :: l) (by simp)]; simp
theorem bars_len : ∀ l : List (List UInt8), (bars l).length ≤ (l.map fun a => a.length + 2).sum + l.length
  | [] => Nat.le_refl _
  | [a] => by simp [bars]; omega
  | a :: b :: l => by
    have := bars_len (b :: l)
    simp only [bars, List.map_cons, List.sum_cons, List.length_append, List.length_cons] at this ⊢
    omega
theorem bars_next {p : DProgram} {l : List DExpr} {k : Nat} (hk : k < l.length) : (0 < k → bars ((l.map (DExpr.txt p)).take (k + 1)) = bars ((l.map (DExpr.txt p)).take k) ++ 32 :: 124 :: 32 :: l[k].txt p) ∧ (k = 0 → bars ((l.map (DExpr.txt p)).take (k + 1)) = l[k].txt p) := by
  have h1 : (l.map (DExpr.txt p)).take (k + 1) = (l.map (DExpr.txt p)).take k ++ [l[k].txt p] := by
    rw [List.take_succ_eq_append_getElem (by simpa using hk)]; simp
  rw [h1]
  refine ⟨fun h0 => bars_snoc _ _ fun q => ?_, fun h0 => ?_⟩
  · have := congrArg List.length q
    rw [List.length_take, List.length_map, List.length_nil] at this
    omega
  · subst h0; simp [bars]
def headF (f : DFunc) : List UInt8 := f.fName ++ [32] ++ Go.Lib.itoa f.fParams ++ [58, 32]
def funcTxt (p : DProgram) (f : DFunc) : List UInt8 := headF f ++ bars (f.fOuts.map (DExpr.txt p)) ++ [10]
noncomputable def progTxt (p : DProgram) : List UInt8 := if p.ok then (p.fFuncs.map (funcTxt p)).flatten else []
/-- What is known of a function of a valid program. -/
theorem func_facts {p : DProgram} (hp : p.ok) {k : Nat} (hk : k < p.fFuncs.length) : (headF p.fFuncs[k]).length ≤ 36 ∧ Num p.fFuncs[k].fParams ∧ (∀ e ∈ p.fFuncs[k].fOuts, Stands p k e p.fFuncs[k].fParams) ∧ (∀ e ∈ p.fFuncs[k].fOuts, e.s ≤ 400) ∧ ∀ j, (bars ((p.fFuncs[k].fOuts.map (DExpr.txt p)).take j)).length ≤ 26000 := by
  obtain ⟨h1, h2, h3, h4, h5, h6⟩ := hp.2 k p.fFuncs[k] (List.getElem?_eq_getElem hk)
  have hN : Num p.fFuncs[k].fParams := ⟨by omega, by omega⟩
  have hst : ∀ e ∈ p.fFuncs[k].fOuts, Stands p k e p.fFuncs[k].fParams := fun e he => Stands.of (h6 e he)
  refine ⟨?_, hN, hst, fun e he => by have := (h6 e he).2.2.1; omega, fun j => ?_⟩
  · have := itoa_num hN
    have := h1.2.1
    simp only [headF, List.length_append, List.length_cons, List.length_nil]; omega
  · have b1 := bars_len ((p.fFuncs[k].fOuts.map (DExpr.txt p)).take j)
    rw [← List.map_take] at b1 ⊢
    have b2 := sum_txt (p := p) (p.fFuncs[k].fOuts.take j) fun x hx => DExpr.txt_len hp x _ (hst x (List.mem_of_mem_take hx))
    have b3 : szs DExpr.s (p.fFuncs[k].fOuts.take j) ≤ szs DExpr.s p.fFuncs[k].fOuts := by
      rw [szs_eq, szs_eq]
      have h4 : ((p.fFuncs[k].fOuts.take j).map DExpr.s).sum + ((p.fFuncs[k].fOuts.drop j).map DExpr.s).sum = (p.fFuncs[k].fOuts.map DExpr.s).sum := by
        rw [← List.sum_append, ← List.map_append, List.take_append_drop]
      have h5 : (p.fFuncs[k].fOuts.take j).length ≤ p.fFuncs[k].fOuts.length := by rw [List.length_take]; omega
      omega
    have b4 : (p.fFuncs[k].fOuts.take j).length ≤ 12 := by rw [List.length_take]; omega
    rw [List.length_map] at b1
    omega
/-- The lines of the first functions. -/
def linesP (p : DProgram) (k : Nat) : List UInt8 := ((p.fFuncs.map (funcTxt p)).take k).flatten
theorem linesP_next {p : DProgram} {k : Nat} (hk : k < p.fFuncs.length) : linesP p (k + 1) = linesP p k ++ funcTxt p p.fFuncs[k] := by
  unfold linesP
  rw [List.take_succ_eq_append_getElem (by simpa using hk)]; simp
theorem funcTxt_len {p : DProgram} (hp : p.ok) {k : Nat} (hk : k < p.fFuncs.length) : (funcTxt p p.fFuncs[k]).length ≤ 26100 := by
  obtain ⟨h1, _, _, _, h2⟩ := func_facts hp hk
  have := h2 (p.fFuncs[k].fOuts.map (DExpr.txt p)).length
  rw [List.take_length] at this
  simp only [funcTxt, List.length_append, List.length_cons, List.length_nil]; omega
theorem linesP_len {p : DProgram} (hp : p.ok) : ∀ k, k ≤ p.fFuncs.length → (linesP p k).length ≤ 26100 * k
  | 0, _ => Nat.le_refl _
  | k + 1, hk => by
    have h1 := linesP_len hp k (by omega)
    have h2 := funcTxt_len hp (k := k) (by omega)
    rw [linesP_next (by omega), List.length_append]; omega
def keep33 : List Nat := [0, 1, 4, 5, 6, 7, 32, 36]
def ib33 : List Nat := []
def mk33 : Marks := fun id => match id with | 2 => ([], (.op 0 (.op 1 (.op 2 (.op 3 (.op 4 (.op 5 (.op 6 (.op 7 (.op 8 (.op 9 (.op 10 (.op 11 (.op 12 .nil))))))))))))), []) | _ => ([], .nil, [])
set_option maxRecDepth 100000 in
theorem l02Line {p : DProgram} (hp : p.ok) {k : Nat} (hk : k < p.fFuncs.length) : Fn0 Tryd.prog 33 [.ip 1 [p.c] 0 0, I k] (.str (funcTxt p p.fFuncs[k])) := by
  obtain ⟨hh, hN, hst, hes, hbr⟩ := func_facts hp hk
  have ef : p.fFuncs[k]? = some p.fFuncs[k] := List.getElem?_eq_getElem hk
  have ih : ∀ (i : Nat) (hi : i < p.fFuncs[k].fOuts.length), Fn0 Tryd.prog 25 [.ip 1 [[sls 3 DFunc.c p.fFuncs]] 0 0, .ip 5 (p.fFuncs[k].fOuts.map DExpr.c) i 0] (.str (p.fFuncs[k].fOuts[i].txt p)) := fun i hi =>
    (l02Text hp _ _ (hst _ (List.getElem_mem hi)) (by have := hes _ (List.getElem_mem hi); omega)).sub (.cons (.refl _) (.cons (Sub.ip (map_get hi) (by simp)) .nil))
  have hil : ∀ (i : Nat) (hi : i < p.fFuncs[k].fOuts.length), (p.fFuncs[k].fOuts[i].txt p).length ≤ 26000 := fun i hi => by
    have h1 := DExpr.txt_len hp _ _ (hst _ (List.getElem_mem hi))
    have h2 := hes _ (List.getElem_mem hi)
    omega
  have hdn := itoa_num hN
  have hnm : p.fFuncs[k].fName.length ≤ 12 := (hp.2 k _ ef).1.2.1
  have hdc := Decimal (p.fFuncs[k].fParams.toNat + 1) p.fFuncs[k].fParams hN.1 (by have := hN.1; omega) (by have := hN.2; omega)
  have hft : funcTxt p p.fFuncs[k] = headF p.fFuncs[k] ++ bars (p.fFuncs[k].fOuts.map (DExpr.txt p)) ++ [10] := rfl
  rw [DProgram.c_eq]
  generalize p.fFuncs[k] = f at *
  refine fn0F 51 keep33 ib33 mk33 mix Tryd.func33 rfl (by kernel_rfl) (by simp) fun h => ?_
  simp (maxSteps := 1000000) -dsimp -implicitDefEqProofs only [go_sem, ↓reduceIte, keep33, ib33, mk33, Tryd.f33, ef, DFunc.c_eq]
  refine ⟨hk, by omega, ?_⟩
  first | refine HFnF.mk (hdc) ?_ | refine CallSF.mk (hdc) ?_ | refine HFnF.mkAt (hdc) ?_ | refine CallSF.mk (FnAt.fn0 (hdc)) ?_
  simp (maxSteps := 1000000) -dsimp -implicitDefEqProofs only [go_sem, ↓reduceIte, keep33, ib33, mk33, Tryd.f33]
  repeat' (with_reducible first | intro _ | refine And.intro ?_ ?_)
  all_goals try (first | omega | (simp only [List.length_append, List.length_cons, List.length_nil]; omega))
  refine loopF (keep := keep33) (ib := ib33) (mk := mk33) mix (by kernel_rfl) (fun i : Nat => [(0, .ip 1 [[sls 3 DFunc.c p.fFuncs]] 0 0), (5, .ip 3 (p.fFuncs.map DFunc.c) k 0), (6, .str (headF f ++ bars ((f.fOuts.map (DExpr.txt p)).take i))), (7, I i)]) (fun _ => h) (fun i => i ≤ f.fOuts.length) (fun i => f.fOuts.length - i) 0 (by simp [SatL, tget, Heap.le_refl, headF, bars]) ?_
  intro i hi
  have hpre := hbr i
  rcases Nat.lt_or_ge i f.fOuts.length with hlt | hge
  · have ik := ih i hlt
    have hkk := hil i hlt
    have hnx := bars_next (p := p) hlt
    simp (maxSteps := 1000000) -dsimp -implicitDefEqProofs only [go_sem, ↓reduceIte, keep33, ib33, mk33, Tryd.f33, ef, DFunc.c_eq]
    refine fun _ => ⟨fun _ => ⟨fun hk0 => ⟨by first | omega | (simp only [List.length_append, List.length_cons, List.length_nil]; omega), hlt, ?_⟩, fun hk0 => ⟨hlt, ?_⟩⟩, fun q => absurd hlt q⟩
    · first | refine HFnF.mk (ik) ?_ | refine CallSF.mk (ik) ?_ | refine HFnF.mkAt (ik) ?_ | refine CallSF.mk (FnAt.fn0 (ik)) ?_
      simp (maxSteps := 1000000) -dsimp -implicitDefEqProofs only [go_sem, ↓reduceIte, keep33, ib33, mk33, Tryd.f33]
      refine ⟨by first | omega | (simp only [List.length_append, List.length_cons, List.length_nil]; omega), i + 1, ⟨?_, IntWalk.i64_in _ (by omega)⟩, by omega, by omega⟩
      rw [hnx.1 (by omega)]
      simp
    · first | refine HFnF.mk (ik) ?_ | refine CallSF.mk (ik) ?_ | refine HFnF.mkAt (ik) ?_ | refine CallSF.mk (FnAt.fn0 (ik)) ?_
      simp (maxSteps := 1000000) -dsimp -implicitDefEqProofs only [go_sem, ↓reduceIte, keep33, ib33, mk33, Tryd.f33]
      refine ⟨by first | omega | (simp only [List.length_append, List.length_cons, List.length_nil]; omega), i + 1, ⟨?_, IntWalk.i64_in _ (by omega)⟩, by omega, by omega⟩
      rw [hnx.2 (by omega)]
      obtain rfl : i = 0 := by omega
      simp [bars]
  · have hi' : i = f.fOuts.length := by omega
    rw [hi', List.take_of_length_le (by simp)] at hpre ⊢
    have hnk : ¬ f.fOuts.length < f.fOuts.length := Nat.lt_irrefl _
    simp (maxSteps := 1000000) -dsimp -implicitDefEqProofs only [go_sem, ↓reduceIte, keep33, ib33, mk33, Tryd.f33, ef, DFunc.c_eq, hnk]
    exact fun _ => ⟨by first | omega | (simp only [List.length_append, List.length_cons, List.length_nil]; omega), by rw [hft]⟩
def keep14 : List Nat := [0, 1, 2, 3, 4, 6, 11]
def ib14 : List Nat := [1]
def mk14 : Marks := fun _ => ([], .nil, [])
set_option maxRecDepth 100000 in
theorem specProgramText (p : DProgram) (hps : p.s ≤ 1048576) : Fn0 Tryd.prog 14 [.agg p.c] (.str (progTxt p)) := by
  have h1 := l02Ok p (by omega)
  rw [DProgram.c_eq] at h1 ⊢
  by_cases hp : p.ok
  · rw [decide_eq_true hp] at h1
    have hpt : progTxt p = linesP p p.fFuncs.length := by rw [progTxt, if_pos hp, linesP, List.take_of_length_le (by simp)]
    have hln := linesP_len hp
    have h16 : p.fFuncs.length ≤ 16 := by have := hp.1; omega
    refine fn0F 19 keep14 ib14 mk14 mix Tryd.func14 rfl (by kernel_rfl) (by simp) fun h => ?_
    simp (maxSteps := 1000000) -dsimp -implicitDefEqProofs only [go_sem, ↓reduceIte, keep14, ib14, mk14, Tryd.f14]
    first | refine HFnF.mk (h1) ?_ | refine CallSF.mk (h1) ?_ | refine HFnF.mkAt (h1) ?_ | refine CallSF.mk (FnAt.fn0 (h1)) ?_
    simp (maxSteps := 1000000) -dsimp -implicitDefEqProofs only [go_sem, ↓reduceIte, keep14, ib14, mk14, Tryd.f14]
    refine loopF (keep := keep14) (ib := ib14) (mk := mk14) mix (by kernel_rfl) (fun k : Nat => [(1, .ip 1 [[sls 3 DFunc.c p.fFuncs]] 0 0), (3, .str (linesP p k)), (4, I k)]) (fun _ => h) (fun k => k ≤ p.fFuncs.length) (fun k => p.fFuncs.length - k) 0 (by simp [SatL, tget, Heap.le_refl, linesP]) ?_
    intro k hk
    rcases Nat.lt_or_ge k p.fFuncs.length with hlt | hge
    · have hl := l02Line hp hlt
      rw [DProgram.c_eq] at hl
      have hft := funcTxt_len hp hlt
      have hpk := hln k hk
      simp (maxSteps := 1000000) -dsimp -implicitDefEqProofs only [go_sem, ↓reduceIte, keep14, ib14, mk14, Tryd.f14]
      refine fun _ => ⟨fun _ => ?_, fun q => absurd hlt q⟩
      first | refine HFnF.mk (hl) ?_ | refine CallSF.mk (hl) ?_ | refine HFnF.mkAt (hl) ?_ | refine CallSF.mk (FnAt.fn0 (hl)) ?_
      simp (maxSteps := 1000000) -dsimp -implicitDefEqProofs only [go_sem, ↓reduceIte, keep14, ib14, mk14, Tryd.f14]
      refine ⟨by omega, k + 1, ⟨by rw [linesP_next hlt], IntWalk.i64_in _ (by omega)⟩, by omega, by omega⟩
    · have hk' : k = p.fFuncs.length := by omega
      rw [hk']
      simp (maxSteps := 1000000) -dsimp -implicitDefEqProofs only [go_sem, ↓reduceIte, keep14, ib14, mk14, Tryd.f14, Nat.lt_irrefl]
      exact fun _ => by rw [hpt]
  · rw [decide_eq_false hp] at h1
    refine fn0F 19 keep14 ib14 mk14 mix Tryd.func14 rfl (by kernel_rfl) (by simp) fun h => ?_
    simp (maxSteps := 1000000) -dsimp -implicitDefEqProofs only [go_sem, ↓reduceIte, keep14, ib14, mk14, Tryd.f14]
    first | refine HFnF.mk (h1) ?_ | refine CallSF.mk (h1) ?_ | refine HFnF.mkAt (h1) ?_ | refine CallSF.mk (FnAt.fn0 (h1)) ?_
    simp (maxSteps := 1000000) -dsimp -implicitDefEqProofs only [go_sem, ↓reduceIte, keep14, ib14, mk14, Tryd.f14]
    rw [progTxt, if_neg hp]
def keep15 : List Nat := [0, 1, 2, 3, 5, 6, 7, 10, 14, 15, 16, 17, 31, 32, 33, 34, 39]
def ib15 : List Nat := [1]
def mk15 : Marks := fun id => match id with | 7 => ([2, 5, 6, 9], (.op 0 (.op 1 (.op 4 (.op 2 (.op 3 (.op 5 (.op 6 (.op 7 (.op 8 (.op 9 .nil)))))))))), [(2, 6)]) | _ => ([], .nil, [])
set_option maxRecDepth 100000 in
theorem ProgramTextI (p : DProgram) (hps : p.s ≤ 1048576) : Fn0 Tryd.prog 15 [.agg p.c] (.str (progTxt p)) := by
  have h1 := ValidProgram p (by omega)
  rw [DProgram.c_eq] at h1 ⊢
  by_cases hp : p.ok
  · rw [decide_eq_true hp] at h1
    have hpt : progTxt p = linesP p p.fFuncs.length := by rw [progTxt, if_pos hp, linesP, List.take_of_length_le (by simp)]
    have hln := linesP_len hp
    have h16 : p.fFuncs.length ≤ 16 := by have := hp.1; omega
    refine fn0F 52 keep15 ib15 mk15 mix Tryd.func15 rfl (by kernel_rfl) (by simp) fun h => ?_
    simp (maxSteps := 1000000) -dsimp -implicitDefEqProofs only [go_sem, ↓reduceIte, keep15, ib15, mk15, Tryd.f15]
    first | refine HFnF.mk (h1) ?_ | refine CallSF.mk (h1) ?_ | refine HFnF.mkAt (h1) ?_ | refine CallSF.mk (FnAt.fn0 (h1)) ?_
    simp (maxSteps := 1000000) -dsimp -implicitDefEqProofs only [go_sem, ↓reduceIte, keep15, ib15, mk15, Tryd.f15]
    intro nb hn _
    refine loopW (keep := keep15) (ib := ib15) (mk := mk15) mix (by kernel_rfl) (fun k : Nat => [(1, .ip 1 [[sls 3 DFunc.c p.fFuncs]] 0 0), (3, .op nb 2 0 0), (14, sls 3 DFunc.c p.fFuncs), (15, I p.fFuncs.length), (16, I k)]) (fun k => upd h nb (bld (linesP p k))) (fun k => k ≤ p.fFuncs.length) (fun k => p.fFuncs.length - k) 0 ⟨?_, ?_, Nat.zero_le _⟩ ?_
    · simp [SatL, tget]
    · have := bld_fresh (h := upd h nb (.raw 72 #[.pointer none, .slice none 0 0])) (upd_same ..)
      rw [upd_upd] at this
      exact this
    intro k hk
    rcases Nat.lt_or_ge k p.fFuncs.length with hlt | hge
    · obtain ⟨hh, hN, hst, hes, hbr⟩ := func_facts hp hlt
      have ef : p.fFuncs[k]? = some p.fFuncs[k] := List.getElem?_eq_getElem hlt
      have hft : funcTxt p p.fFuncs[k] = headF p.fFuncs[k] ++ bars (p.fFuncs[k].fOuts.map (DExpr.txt p)) ++ [10] := rfl
      have hnx := linesP_next hlt
      have hpk := hln k hk
      have hdn := itoa_num hN
      have hnm : p.fFuncs[k].fName.length ≤ 12 := (hp.2 k _ ef).1.2.1
      have hdc := decimal p.fFuncs[k].fParams hN
      rw [hft] at hnx
      generalize p.fFuncs[k] = f at *
      simp (maxSteps := 1000000) -dsimp -implicitDefEqProofs only [go_sem, ↓reduceIte, keep15, ib15, mk15, Tryd.f15, ef, DFunc.c_eq]
      refine ⟨fun _ => ⟨hlt, fun b hb2 => ⟨by omega, ?_⟩⟩, fun q => absurd hlt q⟩
      have d_b_nb : ¬ b = nb := hb2.1
      have d_nb_b : ¬ nb = b := Ne.symm d_b_nb
      have e_b_nb : (b = nb) = False := eq_false d_b_nb
      have e_nb_b : (nb = b) = False := eq_false d_nb_b
      rw [upd_upd]
      first | refine HFnF.mk (hdc) ?_ | refine CallSF.mk (hdc) ?_ | refine HFnF.mkAt (hdc) ?_ | refine CallSF.mk (FnAt.fn0 (hdc)) ?_
      simp (maxSteps := 1000000) -dsimp -implicitDefEqProofs only [go_sem, ↓reduceIte, keep15, ib15, mk15, Tryd.f15]
      refine ⟨by first | omega | (simp only [List.length_append, List.length_cons, List.length_nil]; omega), by first | omega | (simp only [List.length_append, List.length_cons, List.length_nil]; omega), HFnF.mkH (writeString (linesP p k) (headF f) (by first | omega | (simp only [List.length_append, List.length_cons, List.length_nil]; omega)) (by rw [upd_ne _ _ _ _ d_nb_b, upd_same])) ?_⟩
      rintro r_ h' ⟨rfl, rfl⟩
      simp (maxSteps := 1000000) -dsimp -implicitDefEqProofs only [go_sem, ↓reduceIte, keep15, ib15, mk15, Tryd.f15, e_b_nb, e_nb_b, upd_ne]
      intro _
      refine loopF (keep := keep15) (ib := ib15) (mk := mk15) mix (by kernel_rfl) (fun i : Nat => [(1, .ip 1 [[sls 3 DFunc.c p.fFuncs]] 0 0), (3, .op nb 2 0 0), (14, sls 3 DFunc.c p.fFuncs), (15, I p.fFuncs.length), (16, I k), (31, sls 5 DExpr.c f.fOuts), (32, I f.fOuts.length), (33, I i)]) (fun i => upd h nb (bld (linesP p k ++ headF f ++ bars ((f.fOuts.map (DExpr.txt p)).take i)))) (fun i => i ≤ f.fOuts.length) (fun i => f.fOuts.length - i) 0 ⟨by simp [SatL, tget], by
        rw [show linesP p k ++ headF f ++ bars ((f.fOuts.map (DExpr.txt p)).take 0) = linesP p k ++ headF f by simp [bars]]
        exact le_bld hb2.1 hb2.2, Nat.zero_le _⟩ ?_
      intro i hi
      have hpre := hbr i
      rcases Nat.lt_or_ge i f.fOuts.length with hilt | hige
      · have ea : f.fOuts[i]? = some f.fOuts[i] := List.getElem?_eq_getElem hilt
        have hw := fun g l => write hp f.fOuts[i] _ (hst _ (List.getElem_mem hilt)) (nb := nb) g l
        have hsz := hes _ (List.getElem_mem hilt)
        have hbx := bars_next (p := p) hilt
        simp only [DExpr.c_eq, DProgram.c_eq] at hw
        simp (maxSteps := 1000000) -dsimp -implicitDefEqProofs only [go_sem, ↓reduceIte, keep15, ib15, mk15, Tryd.f15, ea, DExpr.c_eq]
        refine ⟨fun _ => ⟨hilt, fun c hc2 => ⟨fun h0 => ?_, fun h0 => ?_⟩⟩, fun q => absurd hilt q⟩
        · have d_c_nb : ¬ c = nb := hc2.1
          have d_nb_c : ¬ nb = c := Ne.symm d_c_nb
          have e_c_nb : (c = nb) = False := eq_false d_c_nb
          have e_nb_c : (nb = c) = False := eq_false d_nb_c
          rw [upd_upd]
          refine HFnF.mkH (writeString (linesP p k ++ headF f ++ bars ((f.fOuts.map (DExpr.txt p)).take i)) [32, 124, 32] (by first | omega | (simp only [List.length_append, List.length_cons, List.length_nil]; omega)) (by rw [upd_ne _ _ _ _ d_nb_c, upd_same])) ?_
          rintro r_ h' ⟨rfl, rfl⟩
          simp (maxSteps := 1000000) -dsimp -implicitDefEqProofs only [go_sem, ↓reduceIte, keep15, ib15, mk15, Tryd.f15, e_c_nb, e_nb_c, upd_ne, DExpr.c_eq]
          refine HFnF.mkH (hw _ _ (upd_same ..) (by first | omega | (simp only [List.length_append, List.length_cons, List.length_nil]; omega))) ?_
          rintro r_ h' ⟨rfl, hle⟩
          simp (maxSteps := 1000000) -dsimp -implicitDefEqProofs only [go_sem, ↓reduceIte, keep15, ib15, mk15, Tryd.f15]
          have et : linesP p k ++ headF f ++ bars ((f.fOuts.map (DExpr.txt p)).take (i + 1)) = linesP p k ++ headF f ++ bars ((f.fOuts.map (DExpr.txt p)).take i) ++ [32, 124, 32] ++ f.fOuts[i].txt p := by rw [hbx.1 (by omega)]; simp
          rw [upd_upd, ← et] at hle
          exact ⟨i + 1, IntWalk.i64_in _ (by omega), Heap.le_trans (le_bld hc2.1 hc2.2) hle, by omega, by omega⟩
        · have d_c_nb : ¬ c = nb := hc2.1
          have d_nb_c : ¬ nb = c := Ne.symm d_c_nb
          have e_c_nb : (c = nb) = False := eq_false d_c_nb
          have e_nb_c : (nb = c) = False := eq_false d_nb_c
          rw [upd_upd]
          refine HFnF.mkH (hw _ _ (by rw [upd_ne _ _ _ _ d_nb_c, upd_same]) (by first | omega | (simp only [List.length_append, List.length_cons, List.length_nil]; omega))) ?_
          rintro r_ h' ⟨rfl, hle⟩
          simp (maxSteps := 1000000) -dsimp -implicitDefEqProofs only [go_sem, ↓reduceIte, keep15, ib15, mk15, Tryd.f15]
          have et : linesP p k ++ headF f ++ bars ((f.fOuts.map (DExpr.txt p)).take (i + 1)) = linesP p k ++ headF f ++ bars ((f.fOuts.map (DExpr.txt p)).take i) ++ f.fOuts[i].txt p := by
            rw [hbx.2 (by omega)]
            obtain rfl : i = 0 := by omega
            simp [bars]
          rw [← et] at hle
          exact ⟨i + 1, IntWalk.i64_in _ (by omega), Heap.le_trans (le_bld hc2.1 hc2.2) hle, by omega, by omega⟩
      · have hi' : i = f.fOuts.length := by omega
        rw [hi', List.take_of_length_le (by simp)] at hpre ⊢
        have hnk : ¬ f.fOuts.length < f.fOuts.length := Nat.lt_irrefl _
        simp (maxSteps := 1000000) -dsimp -implicitDefEqProofs only [go_sem, ↓reduceIte, keep15, ib15, mk15, Tryd.f15, hnk]
        refine HFnF.mkH (writeByte (linesP p k ++ headF f ++ bars (f.fOuts.map (DExpr.txt p))) 10 (by first | omega | (simp only [List.length_append, List.length_cons, List.length_nil]; omega)) (upd_same ..)) ?_
        rintro r_ h' ⟨rfl, rfl⟩
        simp (maxSteps := 1000000) -dsimp -implicitDefEqProofs only [go_sem, ↓reduceIte, keep15, ib15, mk15, Tryd.f15]
        rw [upd_upd]
        refine ⟨k + 1, IntWalk.i64_in _ (by omega), ?_, by omega, by omega⟩
        rw [show linesP p (k + 1) = linesP p k ++ headF f ++ bars (f.fOuts.map (DExpr.txt p)) ++ [10] by rw [hnx]; simp]
        exact Heap.wk_of_le (Heap.le_refl _)
    · have hk' : k = p.fFuncs.length := by omega
      rw [hk']
      have hfl := hln p.fFuncs.length (Nat.le_refl _)
      simp (maxSteps := 1000000) -dsimp -implicitDefEqProofs only [go_sem, ↓reduceIte, keep15, ib15, mk15, Tryd.f15, Nat.lt_irrefl]
      refine HFnF.mkH (builderString (linesP p p.fFuncs.length) (by simp only [maxLen]; omega) (upd_same ..)) ?_
      rintro r_ h2 ⟨rfl, rfl⟩
      simp (maxSteps := 1000000) -dsimp -implicitDefEqProofs only [go_sem, ↓reduceIte, keep15, ib15, mk15, Tryd.f15]
      rw [hpt, upd_upd]
      exact ⟨rfl, Heap.le_upd hn (Heap.le_refl _)⟩
  · rw [decide_eq_false hp] at h1
    refine fn0F 52 keep15 ib15 mk15 mix Tryd.func15 rfl (by kernel_rfl) (by simp) fun h => ?_
    simp (maxSteps := 1000000) -dsimp -implicitDefEqProofs only [go_sem, ↓reduceIte, keep15, ib15, mk15, Tryd.f15]
    first | refine HFnF.mk (h1) ?_ | refine CallSF.mk (h1) ?_ | refine HFnF.mkAt (h1) ?_ | refine CallSF.mk (FnAt.fn0 (h1)) ?_
    simp (maxSteps := 1000000) -dsimp -implicitDefEqProofs only [go_sem, ↓reduceIte, keep15, ib15, mk15, Tryd.f15]
    rw [progTxt, if_neg hp]
open Go.Proofs
set_option linter.unusedVariables false
set_option linter.unusedSimpArgs false
def keep4 : List Nat := [0, 1, 2, 3, 4, 5, 6, 11, 21, 26]
def ib4 : List Nat := [1]
def mk4 : Marks := fun id => match id with | 10 => ([0], (.op 1 (.op 2 (.op 0 (.op 3 (.op 4 .nil))))), []) | _ => ([], .nil, [])
set_option maxRecDepth 100000 in
theorem law_ProgramText (a : DProgram) : Fn0 Tryd.prog 4 [.agg a.c] (.bool true) := by
  simp only [DProgram.c_eq]
  refine fn0F 27 keep4 ib4 mk4 mix Tryd.func4 rfl (by kernel_rfl) (by simp) fun h => ?_
  simp (maxSteps := 1000000) -dsimp -implicitDefEqProofs only [go_sem, ↓reduceIte, keep4, ib4, mk4, Tryd.f4]
  first | refine HFnF.mk (sz_Program a 1048576 (by omega) (by omega)) ?_ | refine CallSF.mk (sz_Program a 1048576 (by omega) (by omega)) ?_ | refine HFnF.mkAt (sz_Program a 1048576 (by omega) (by omega)) ?_ | refine CallSF.mk (FnAt.fn0 (sz_Program a 1048576 (by omega) (by omega))) ?_
  simp (maxSteps := 1000000) -dsimp -implicitDefEqProofs only [go_sem, ↓reduceIte, keep4, ib4, mk4, Tryd.f4, DProgram.c_eq]
  generalize hL : lft 1048576 a.s = L
  have hs := lft_step hL
  repeat' (with_reducible first | intro _ | refine And.intro ?_ ?_)
  all_goals try (first | (simp [hs, *]; done) | omega | (grind [hs]) | (simp [hs]; omega))
  rename_i h1
  have h2 := hs.2 h1
  have ha : a.s ≤ 1048576 := by omega
  clear hs hL h1 h2
  first | refine HFnF.mk (to_Program a ha) ?_ | refine CallSF.mk (to_Program a ha) ?_ | refine HFnF.mkAt (to_Program a ha) ?_ | refine CallSF.mk (FnAt.fn0 (to_Program a ha)) ?_
  simp (maxSteps := 1000000) -dsimp -implicitDefEqProofs only [go_sem, ↓reduceIte, keep4, ib4, mk4, Tryd.f4]
  first | refine HFnF.mk (specProgramText a ha) ?_ | refine CallSF.mk (specProgramText a ha) ?_ | refine HFnF.mkAt (specProgramText a ha) ?_ | refine CallSF.mk (FnAt.fn0 (specProgramText a ha)) ?_
  simp (maxSteps := 1000000) -dsimp -implicitDefEqProofs only [go_sem, ↓reduceIte, keep4, ib4, mk4, Tryd.f4]
  first | refine HFnF.mk (to_Program a ha) ?_ | refine CallSF.mk (to_Program a ha) ?_ | refine HFnF.mkAt (to_Program a ha) ?_ | refine CallSF.mk (FnAt.fn0 (to_Program a ha)) ?_
  simp (maxSteps := 1000000) -dsimp -implicitDefEqProofs only [go_sem, ↓reduceIte, keep4, ib4, mk4, Tryd.f4, DProgram.c_eq, upd_upd]
  repeat' (with_reducible first | intro _ | refine And.intro ?_ ?_)
  rename_i n1 h1
  first | refine HFnF.mk (ProgramTextI a ha) ?_ | refine CallSF.mk (ProgramTextI a ha) ?_ | refine HFnF.mkAt (ProgramTextI a ha) ?_ | refine CallSF.mk (FnAt.fn0 (ProgramTextI a ha)) ?_
  simp (maxSteps := 1000000) -dsimp -implicitDefEqProofs only [go_sem, ↓reduceIte, keep4, ib4, mk4, Tryd.f4, bne_self_eq_false, upd_get, DProgram.c_eq]
  first | refine HFnF.mk (to_Program a ha) ?_ | refine CallSF.mk (to_Program a ha) ?_ | refine HFnF.mkAt (to_Program a ha) ?_ | refine CallSF.mk (FnAt.fn0 (to_Program a ha)) ?_
  simp (maxSteps := 1000000) -dsimp -implicitDefEqProofs only [go_sem, ↓reduceIte, keep4, ib4, mk4, Tryd.f4, upd_get]
  first | refine HFnF.mk (eq_Program a a) ?_ | refine CallSF.mk (eq_Program a a) ?_ | refine HFnF.mkAt (eq_Program a a) ?_ | refine CallSF.mk (FnAt.fn0 (eq_Program a a)) ?_
  simp (maxSteps := 1000000) -dsimp -implicitDefEqProofs only [go_sem, ↓reduceIte, keep4, ib4, mk4, Tryd.f4, upd_get, h1, decide_true, Bool.not_true]
end Go.Hl

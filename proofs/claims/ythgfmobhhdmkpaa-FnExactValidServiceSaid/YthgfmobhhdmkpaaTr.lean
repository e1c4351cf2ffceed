/-
  Contracts of functions and laws of the layer over the walk.
-/
import Derived.Test.YthgfmobhhdmkpaaNm
namespace Go.Hl
open Go.Proofs
set_option linter.unusedVariables false
set_option linter.unusedSimpArgs false
def kidsN (k : Int) : Int := if k = 1 ∨ k = 2 then 0 else if k = 3 ∨ k = 4 ∨ k = 5 ∨ k = 6 ∨ k = 9 then 2 else if k = 7 then 1 else if k = 8 then 3 else -1
/-- What is asked of one node. -/
def nodeOK (p : DProgram) (e : DExpr) (vars funcs : Int) : Prop :=
  if e.fKind = 10 ∨ e.fKind = 11 then
    0 ≤ e.fNum ∧ e.fNum ≤ funcs - 1 ∧ ∀ f, p.fFuncs[e.fNum.toNat]? = some f →
      0 ≤ e.fPick ∧ e.fPick ≤ (f.fOuts.length : Int) - 1 ∧ (e.fKids.length : Int) = f.fParams ∧ (e.fKind = 10 → e.fCount = 0) ∧ (e.fKind = 11 → 0 ≤ e.fCount ∧ e.fCount ≤ 8 ∧ (f.fOuts.length : Int) = f.fParams)
  else kidsN e.fKind = e.fKids.length ∧ e.fPick = 0 ∧ e.fCount = 0 ∧ (e.fKind = 1 → Num e.fNum) ∧ (e.fKind = 2 → 0 ≤ e.fNum ∧ e.fNum ≤ vars - 1) ∧ (e.fKind ≠ 1 → e.fKind ≠ 2 → e.fNum = 0)
noncomputable instance (p : DProgram) (e : DExpr) (vars funcs : Int) : Decidable (nodeOK p e vars funcs) := Classical.propDecidable _
def moreV (kind : Int) (i : Nat) (vars : Int) : Int := if kind = 9 ∧ i = 1 then vars + 1 else vars
mutual
def DExpr.ok (p : DProgram) (funcs : Int) : DExpr → Int → Prop
  | .mk a b c d kids, vars => nodeOK p (.mk a b c d kids) vars funcs ∧ DExpr.okL p funcs a kids 0 vars
def DExpr.okL (p : DProgram) (funcs : Int) (kind : Int) : List DExpr → Nat → Int → Prop
  | [], _, _ => True
  | x :: l, i, vars => x.ok p funcs (moreV kind i vars) ∧ DExpr.okL p funcs kind l (i + 1) vars
end
noncomputable instance (p : DProgram) (funcs : Int) (e : DExpr) (vars : Int) : Decidable (e.ok p funcs vars) := Classical.propDecidable _
theorem DExpr.okL_iff (p : DProgram) (funcs kind : Int) : ∀ (l : List DExpr) (i : Nat) (vars : Int), DExpr.okL p funcs kind l i vars ↔ ∀ (k : Nat) (h : k < l.length), l[k].ok p funcs (moreV kind (i + k) vars)
  | [], i, vars => by simp [DExpr.okL]
  | x :: l, i, vars => by
    rw [DExpr.okL, DExpr.okL_iff p funcs kind l (i + 1) vars]
    constructor
    · rintro ⟨h1, h2⟩ k hk
      cases k with
      | zero => exact h1
      | succ k => have := h2 k (by simpa using hk); rw [show i + 1 + k = i + (k + 1) by omega] at this; exact this
    · intro h
      refine ⟨h 0 (by simp), fun k hk => ?_⟩
      have := h (k + 1) (by simpa using hk)
      rw [show i + 1 + k = i + (k + 1) by omega]; exact this
theorem DExpr.ok_iff (p : DProgram) (funcs : Int) (x : DExpr) (vars : Int) : x.ok p funcs vars ↔ nodeOK p x vars funcs ∧ ∀ (k : Nat) (h : k < x.fKids.length), x.fKids[k].ok p funcs (moreV x.fKind k vars) := by
  cases x with
  | mk a b c d kids =>
    rw [DExpr.ok, DExpr.okL_iff]
    simp only [Nat.zero_add, DExpr.fKids, DExpr.fKind]
theorem DProgram.len_s (p : DProgram) : p.fFuncs.length ≤ p.s := by rw [p.s_eq, szs_eq]; omega
theorem DProgram.func_s {p : DProgram} {f : DFunc} (h : f ∈ p.fFuncs) : f.s + p.fFuncs.length ≤ p.s := by
  have := sum_mem DFunc.s h
  rw [p.s_eq, szs_eq]; omega
theorem DFunc.outs_s (f : DFunc) : f.fOuts.length ≤ f.s := by rw [f.s_eq, szs_eq]; omega
theorem DFunc.name_s (f : DFunc) : f.fName.length ≤ f.s := by rw [f.s_eq]; omega
theorem DFunc.out_s {f : DFunc} {e : DExpr} (h : e ∈ f.fOuts) : e.s < f.s := by
  have := sum_mem DExpr.s h
  have := List.length_pos_of_mem h
  rw [f.s_eq, szs_eq]; omega
def keep119 : List Nat := [0, 2, 3, 4, 7, 13, 15]
def ib119 : List Nat := []
def mk119 : Marks := fun _ => ([], [])
theorem l02Kids (k : Int) : Fn0 Try.prog 119 [I k] (I (kidsN k)) := by
  refine fn0F 17 keep119 ib119 mk119 mix Try.func119 rfl (by kernel_rfl) (by simp) fun h => ?_
  simp (maxSteps := 1000000) -dsimp -implicitDefEqProofs only [go_sem, ↓reduceIte, keep119, ib119, mk119, Try.f119]
  repeat' (with_reducible first | intro _ | refine And.intro ?_ ?_)
  all_goals try (first | (simp [kidsN, *]; done) | omega | (grind [kidsN]) | (simp [kidsN]; omega))
theorem nodeOK_call {p : DProgram} {e : DExpr} {vars funcs : Int} (hk : e.fKind = 10 ∨ e.fKind = 11) {f : DFunc} (ef : p.fFuncs[e.fNum.toNat]? = some f) : nodeOK p e vars funcs ↔
    0 ≤ e.fNum ∧ e.fNum ≤ funcs - 1 ∧ 0 ≤ e.fPick ∧ e.fPick ≤ (f.fOuts.length : Int) - 1 ∧ (e.fKids.length : Int) = f.fParams ∧ (e.fKind = 10 → e.fCount = 0) ∧ (e.fKind = 11 → 0 ≤ e.fCount ∧ e.fCount ≤ 8 ∧ (f.fOuts.length : Int) = f.fParams) := by
  unfold nodeOK
  rw [if_pos hk]
  simp [ef]
theorem nodeOK_range {p : DProgram} {e : DExpr} {vars funcs : Int} (hk : e.fKind = 10 ∨ e.fKind = 11) (hr : ¬ (0 ≤ e.fNum ∧ e.fNum ≤ funcs - 1)) : ¬ nodeOK p e vars funcs := by
  unfold nodeOK
  rw [if_pos hk]
  intro h
  exact hr ⟨h.1, h.2.1⟩
theorem nodeOK_plain {p : DProgram} {e : DExpr} {vars funcs : Int} (hk : ¬ (e.fKind = 10 ∨ e.fKind = 11)) : nodeOK p e vars funcs ↔
    kidsN e.fKind = e.fKids.length ∧ e.fPick = 0 ∧ e.fCount = 0 ∧ (e.fKind = 1 → Num e.fNum) ∧ (e.fKind = 2 → 0 ≤ e.fNum ∧ e.fNum ≤ vars - 1) ∧ (e.fKind ≠ 1 → e.fKind ≠ 2 → e.fNum = 0) := by
  unfold nodeOK
  rw [if_neg hk]
def keep118 : List Nat := [0, 1, 2, 3, 8, 9, 21, 29, 62, 67, 114, 118, 119, 126]
def ib118 : List Nat := []
def mk118 : Marks := fun id => match id with | 4 => ([], [0, 1, 2, 3, 4, 5, 6, 7, 8, 9]) | 5 => ([], [0, 1, 2, 3, 4, 5, 6, 7, 8, 9, 10, 11, 12, 13, 14, 15, 16, 17, 18, 19, 20, 21, 22, 23]) | 9 => ([], [0, 1, 2, 3, 4, 5, 6, 7, 8, 9, 10, 11, 12, 13, 14, 15, 16, 17]) | 10 => ([], [0, 1, 2, 3, 4, 5, 6, 7, 8, 9, 10, 11, 12, 13, 14, 15, 16, 17, 18, 19, 20, 21, 22, 23, 24]) | _ => ([], [])
set_option maxRecDepth 100000 in
theorem l02Node (p : DProgram) (e : DExpr) (vars funcs : Int) (hv : 0 ≤ vars) (hv2 : vars ≤ 4294967296) (hf0 : 0 ≤ funcs) (hf : funcs ≤ p.fFuncs.length) (hps : p.s ≤ 4294967296) : Fn0 Try.prog 118 [.ip 1 [p.c] 0 0, .ip 5 [e.c] 0 0, I vars, I funcs] (.bool (decide (nodeOK p e vars funcs))) := by
  have hl := p.len_s
  have e1 : IntKind.i64.wrap (funcs - 1) = funcs - 1 := IntWalk.i64_in _ (by omega)
  have e2 : IntKind.i64.wrap (vars - 1) = vars - 1 := IntWalk.i64_in _ (by omega)
  rw [DExpr.c_eq]
  simp only [DProgram.c_eq]
  by_cases hk : e.fKind = 10 ∨ e.fKind = 11
  · by_cases hr : 0 ≤ e.fNum ∧ e.fNum ≤ funcs - 1
    · obtain ⟨f, ef⟩ : ∃ f, p.fFuncs[e.fNum.toNat]? = some f := ⟨_, List.getElem?_eq_getElem (by omega)⟩
      have hn := nodeOK_call (vars := vars) (funcs := funcs) hk ef
      have hfs := DProgram.func_s (List.mem_of_getElem? ef)
      have hos := f.outs_s
      refine fn0F 140 keep118 ib118 mk118 mix Try.func118 rfl (by kernel_rfl) (by simp) fun h => ?_
      simp (maxSteps := 1000000) -dsimp -implicitDefEqProofs only [go_sem, ↓reduceIte, keep118, ib118, mk118, Try.f118, e1, e2]
      repeat' (with_reducible first | intro _ | refine And.intro ?_ ?_)
      all_goals try omega
      all_goals (first | refine HFnF.mk (l00In e.fNum 0 (funcs - 1)) ?_ | refine CallSF.mk (l00In e.fNum 0 (funcs - 1)) ?_)
      all_goals simp (maxSteps := 1000000) -dsimp -implicitDefEqProofs only [go_sem, ↓reduceIte, keep118, ib118, mk118, Try.f118, ef, DFunc.c_eq]
      all_goals repeat' (with_reducible first | intro _ | refine And.intro ?_ ?_)
      all_goals try omega
      all_goals try simp (disch := omega) only [IntWalk.i64_in]
      all_goals (first | refine HFnF.mk (l00In e.fPick 0 (f.fOuts.length - 1)) ?_ | refine CallSF.mk (l00In e.fPick 0 (f.fOuts.length - 1)) ?_)
      all_goals simp (maxSteps := 1000000) -dsimp -implicitDefEqProofs only [go_sem, ↓reduceIte, keep118, ib118, mk118, Try.f118, ef, DFunc.c_eq]
      all_goals repeat' (with_reducible first | intro _ | refine And.intro ?_ ?_)
      all_goals try omega
      all_goals try (first | (simp [*]; done) | omega | grind)
      first | refine HFnF.mk (l00In e.fCount 0 8) ?_ | refine CallSF.mk (l00In e.fCount 0 8) ?_ | refine HFnF.mkAt (l00In e.fCount 0 8) ?_ | refine CallSF.mk (FnAt.fn0 (l00In e.fCount 0 8)) ?_
      simp (maxSteps := 1000000) -dsimp -implicitDefEqProofs only [go_sem, ↓reduceIte, keep118, ib118, mk118, Try.f118, ef, DFunc.c_eq]
      repeat' (with_reducible first | intro _ | refine And.intro ?_ ?_)
      all_goals try (first | (simp [*]; done) | omega | grind)
    · have hn := nodeOK_range (p := p) (vars := vars) hk hr
      refine fn0F 140 keep118 ib118 mk118 mix Try.func118 rfl (by kernel_rfl) (by simp) fun h => ?_
      simp (maxSteps := 1000000) -dsimp -implicitDefEqProofs only [go_sem, ↓reduceIte, keep118, ib118, mk118, Try.f118, e1, e2]
      repeat' (with_reducible first | intro _ | refine And.intro ?_ ?_)
      all_goals try omega
      all_goals (first | refine HFnF.mk (l00In e.fNum 0 (funcs - 1)) ?_ | refine CallSF.mk (l00In e.fNum 0 (funcs - 1)) ?_)
      all_goals simp (maxSteps := 1000000) -dsimp -implicitDefEqProofs only [go_sem, ↓reduceIte, keep118, ib118, mk118, Try.f118]
      all_goals repeat' (with_reducible first | intro _ | refine And.intro ?_ ?_)
      all_goals try (first | (simp [*]; done) | omega | grind)
  · have hn := nodeOK_plain (p := p) (vars := vars) (funcs := funcs) hk
    refine fn0F 140 keep118 ib118 mk118 mix Try.func118 rfl (by kernel_rfl) (by simp) fun h => ?_
    simp (maxSteps := 1000000) -dsimp -implicitDefEqProofs only [go_sem, ↓reduceIte, keep118, ib118, mk118, Try.f118, e1, e2]
    repeat' (with_reducible first | intro _ | refine And.intro ?_ ?_)
    all_goals try omega
    first | refine HFnF.mk (l02Kids e.fKind) ?_ | refine CallSF.mk (l02Kids e.fKind) ?_ | refine HFnF.mkAt (l02Kids e.fKind) ?_ | refine CallSF.mk (FnAt.fn0 (l02Kids e.fKind)) ?_
    simp (maxSteps := 1000000) -dsimp -implicitDefEqProofs only [go_sem, ↓reduceIte, keep118, ib118, mk118, Try.f118]
    repeat' (with_reducible first | intro _ | refine And.intro ?_ ?_)
    all_goals try (first | (simp [*]; done) | omega | grind)
    · first | refine HFnF.mk (l01Number e.fNum) ?_ | refine CallSF.mk (l01Number e.fNum) ?_ | refine HFnF.mkAt (l01Number e.fNum) ?_ | refine CallSF.mk (FnAt.fn0 (l01Number e.fNum)) ?_
      simp (maxSteps := 1000000) -dsimp -implicitDefEqProofs only [go_sem, ↓reduceIte, keep118, ib118, mk118, Try.f118]
      all_goals try (first | (simp [*]; done) | omega | grind)
    · all_goals try simp (disch := omega) only [IntWalk.i64_in]
      first | refine HFnF.mk (l00In e.fNum 0 (vars - 1)) ?_ | refine CallSF.mk (l00In e.fNum 0 (vars - 1)) ?_ | refine HFnF.mkAt (l00In e.fNum 0 (vars - 1)) ?_ | refine CallSF.mk (FnAt.fn0 (l00In e.fNum 0 (vars - 1))) ?_
      simp (maxSteps := 1000000) -dsimp -implicitDefEqProofs only [go_sem, ↓reduceIte, keep118, ib118, mk118, Try.f118]
      all_goals try (first | (simp [*]; done) | omega | grind)
def keep110 : List Nat := [0, 1, 2, 3, 4, 6, 7, 8, 9, 10, 11, 12, 25, 26, 38, 52, 68, 69, 81, 82, 94, 95, 104, 125, 152, 154, 155, 156, 157, 168, 175]
def ib110 : List Nat := [3, 4]
def mk110 : Marks := fun _ => ([], [])
open Go.Proofs
set_option linter.unusedVariables false
set_option linter.unusedSimpArgs false
def keep114 : List Nat := [0, 1, 2, 3, 8, 9, 10, 16, 23, 35, 48]
def ib114 : List Nat := []
def mk114 : Marks := fun _ => ([], [])
set_option maxRecDepth 100000 in
theorem l02Tree_step (p : DProgram) (e : DExpr) (vars funcs : Int) (hv : 0 ≤ vars) (hv2 : vars + e.s ≤ 4294967296) (hf0 : 0 ≤ funcs) (hf : funcs ≤ p.fFuncs.length) (hps : p.s ≤ 4294967296)
    (hc : ∀ y ∈ e.fKids, ∀ vars : Int, 0 ≤ vars → vars + y.s ≤ 4294967296 → Fn0 Try.prog 114 [.ip 1 [p.c] 0 0, .ip 5 [y.c] 0 0, I vars, I funcs] (.bool (decide (y.ok p funcs vars)))) :
    Fn0 Try.prog 114 [.ip 1 [p.c] 0 0, .ip 5 [e.c] 0 0, I vars, I funcs] (.bool (decide (e.ok p funcs vars))) := by
  have hok := DExpr.ok_iff p funcs e vars
  simp only [DExpr.c_eq, DProgram.c_eq]
  refine fn0F 49 keep114 ib114 mk114 mix Try.func114 rfl (by kernel_rfl) (by simp) fun h => ?_
  simp (maxSteps := 1000000) -dsimp -implicitDefEqProofs only [go_sem, ↓reduceIte, keep114, ib114, mk114, Try.f114]
  first | refine CallSF.mk ((l02Node p e vars funcs hv (by omega) hf0 hf hps).sub (by repeat' (first | exact SubL.nil | refine SubL.cons ?_ ?_ | exact Sub.refl _ | (rw [DExpr.c_eq]; exact Sub.refl _) | exact Sub.ipAt rfl rfl rfl | exact Sub.ip (map_get (by omega)) (by simp) | exact Sub.ipAt (map_get (by omega)) rfl rfl | exact Sub.ip (by simp [*]) (by simp) | exact Sub.ipAt (by simp [*]) (by rfl) (by rfl)))) ?_ | refine HFnF.mk ((l02Node p e vars funcs hv (by omega) hf0 hf hps).sub (by repeat' (first | exact SubL.nil | refine SubL.cons ?_ ?_ | exact Sub.refl _ | (rw [DExpr.c_eq]; exact Sub.refl _) | exact Sub.ipAt rfl rfl rfl | exact Sub.ip (map_get (by omega)) (by simp) | exact Sub.ipAt (map_get (by omega)) rfl rfl | exact Sub.ip (by simp [*]) (by simp) | exact Sub.ipAt (by simp [*]) (by rfl) (by rfl)))) ?_
  simp (maxSteps := 1000000) -dsimp -implicitDefEqProofs only [go_sem, ↓reduceIte, keep114, ib114, mk114, Try.f114]
  repeat' (with_reducible first | intro _ | refine And.intro ?_ ?_)
  · rename_i hn
    exact (decide_eq_false fun q => hn (hok.1 q).1).symm
  · rename_i hn
    refine loopF (keep := keep114) (ib := ib114) (mk := mk114) mix (by kernel_rfl) (fun k : Nat => [(0, .ip 1 [p.c] 0 0), (1, .ip 5 [e.c] 0 0), (2, I vars), (3, I funcs), (9, I k)]) (fun _ => h) (fun k => k ≤ e.fKids.length ∧ ∀ (j : Nat) (hj : j < e.fKids.length), j < k → e.fKids[j].ok p funcs (moreV e.fKind j vars)) (fun k => e.fKids.length - k) 0 (by simp [SatL, tget, Heap.le_refl, DExpr.c_eq, DProgram.c_eq]) ?_
    intro k ⟨hk, hp⟩
    simp only [DExpr.c_eq, DProgram.c_eq]
    rcases Nat.lt_or_ge k e.fKids.length with hlt | hge
    · have hs1 := DExpr.kid_s (List.getElem_mem hlt)
      have nx (q : e.fKids[k].ok p funcs (moreV e.fKind k vars)) : ∀ (j : Nat) (hj : j < e.fKids.length), j < k + 1 → e.fKids[j].ok p funcs (moreV e.fKind j vars) := by
        intro j hj hjk
        rcases Nat.lt_succ_iff_lt_or_eq.1 hjk with h1 | rfl
        · exact hp j hj h1
        · exact q
      have no (q : ¬ e.fKids[k].ok p funcs (moreV e.fKind k vars)) : false = decide (e.ok p funcs vars) := (decide_eq_false fun z => q ((hok.1 z).2 k hlt)).symm
      simp (maxSteps := 1000000) -dsimp -implicitDefEqProofs only [go_sem, ↓reduceIte, keep114, ib114, mk114, Try.f114]
      repeat' (with_reducible first | intro _ | refine And.intro ?_ ?_)
      all_goals try omega
      · have em : moreV e.fKind k vars = vars + 1 := if_pos ⟨by assumption, by omega⟩
        rw [em] at nx no
        all_goals try simp (disch := omega) only [IntWalk.i64_in]
        first | refine CallSF.mk ((hc e.fKids[k] (List.getElem_mem hlt) (vars + 1) (by omega) (by omega)).sub (by repeat' (first | exact SubL.nil | refine SubL.cons ?_ ?_ | exact Sub.refl _ | (rw [DExpr.c_eq]; exact Sub.refl _) | exact Sub.ipAt rfl rfl rfl | exact Sub.ip (map_get (by omega)) (by simp) | exact Sub.ipAt (map_get (by omega)) rfl rfl | exact Sub.ip (by simp [*]) (by simp) | exact Sub.ipAt (by simp [*]) (by rfl) (by rfl)))) ?_ | refine HFnF.mk ((hc e.fKids[k] (List.getElem_mem hlt) (vars + 1) (by omega) (by omega)).sub (by repeat' (first | exact SubL.nil | refine SubL.cons ?_ ?_ | exact Sub.refl _ | (rw [DExpr.c_eq]; exact Sub.refl _) | exact Sub.ipAt rfl rfl rfl | exact Sub.ip (map_get (by omega)) (by simp) | exact Sub.ipAt (map_get (by omega)) rfl rfl | exact Sub.ip (by simp [*]) (by simp) | exact Sub.ipAt (by simp [*]) (by rfl) (by rfl)))) ?_
        simp (maxSteps := 1000000) -dsimp -implicitDefEqProofs only [go_sem, ↓reduceIte, keep114, ib114, mk114, Try.f114]
        repeat' (with_reducible first | intro _ | refine And.intro ?_ ?_)
        · exact no (by assumption)
        · refine ⟨k + 1, ?_⟩
          repeat' (with_reducible refine And.intro ?_ ?_)
          all_goals try (rw [IntWalk.i64_in _ (by omega)]; first | rfl | omega)
          all_goals try omega
          all_goals try (repeat' (with_reducible first | exact Heap.le_refl _ | refine (le_upd (by first | assumption | exact And.right (by assumption) | exact upd_none.2 (by assumption))).2 ?_))
          all_goals try (simp only [DExpr.c_eq, DProgram.c_eq]; done)
          exact nx (by assumption)
      all_goals
        have em : moreV e.fKind k vars = vars := if_neg (by omega)
        rw [em] at nx no
        first | refine CallSF.mk ((hc e.fKids[k] (List.getElem_mem hlt) vars (by omega) (by omega)).sub (by repeat' (first | exact SubL.nil | refine SubL.cons ?_ ?_ | exact Sub.refl _ | (rw [DExpr.c_eq]; exact Sub.refl _) | exact Sub.ipAt rfl rfl rfl | exact Sub.ip (map_get (by omega)) (by simp) | exact Sub.ipAt (map_get (by omega)) rfl rfl | exact Sub.ip (by simp [*]) (by simp) | exact Sub.ipAt (by simp [*]) (by rfl) (by rfl)))) ?_ | refine HFnF.mk ((hc e.fKids[k] (List.getElem_mem hlt) vars (by omega) (by omega)).sub (by repeat' (first | exact SubL.nil | refine SubL.cons ?_ ?_ | exact Sub.refl _ | (rw [DExpr.c_eq]; exact Sub.refl _) | exact Sub.ipAt rfl rfl rfl | exact Sub.ip (map_get (by omega)) (by simp) | exact Sub.ipAt (map_get (by omega)) rfl rfl | exact Sub.ip (by simp [*]) (by simp) | exact Sub.ipAt (by simp [*]) (by rfl) (by rfl)))) ?_
        simp (maxSteps := 1000000) -dsimp -implicitDefEqProofs only [go_sem, ↓reduceIte, keep114, ib114, mk114, Try.f114]
        repeat' (with_reducible first | intro _ | refine And.intro ?_ ?_)
        · exact no (by assumption)
        · refine ⟨k + 1, ?_⟩
          repeat' (with_reducible refine And.intro ?_ ?_)
          all_goals try (rw [IntWalk.i64_in _ (by omega)]; first | rfl | omega)
          all_goals try omega
          all_goals try (repeat' (with_reducible first | exact Heap.le_refl _ | refine (le_upd (by first | assumption | exact And.right (by assumption) | exact upd_none.2 (by assumption))).2 ?_))
          all_goals try (simp only [DExpr.c_eq, DProgram.c_eq]; done)
          exact nx (by assumption)
    · have hk' : k = e.fKids.length := by omega
      subst hk'
      simp (maxSteps := 1000000) -dsimp -implicitDefEqProofs only [go_sem, ↓reduceIte, keep114, ib114, mk114, Try.f114, Nat.lt_irrefl]
      exact fun _ => (decide_eq_true (hok.2 ⟨hn, fun j hj => hp j hj hj⟩)).symm
theorem l02Tree (p : DProgram) (e : DExpr) (vars funcs : Int) (hv : 0 ≤ vars) (hv2 : vars + e.s ≤ 4294967296) (hf0 : 0 ≤ funcs) (hf : funcs ≤ p.fFuncs.length) (hps : p.s ≤ 4294967296) :
    Fn0 Try.prog 114 [.ip 1 [p.c] 0 0, .ip 5 [e.c] 0 0, I vars, I funcs] (.bool (decide (e.ok p funcs vars))) :=
  l02Tree_step p e vars funcs hv hv2 hf0 hf hps fun y hy vars hv hv2 => l02Tree p y vars funcs hv hv2 hf0 hf hps
termination_by SizeOf.sizeOf e
decreasing_by exact DExpr.kid_lt hy
end Go.Hl

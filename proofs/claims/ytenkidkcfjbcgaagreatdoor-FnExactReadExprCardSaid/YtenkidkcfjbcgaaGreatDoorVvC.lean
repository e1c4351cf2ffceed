/-
  Contracts of functions and laws of the layer over the walk.
-/
import Derived.Test.YtenkidkcfjbcgaaGreatDoorVvB
import Derived.Test.YtenkidkcfjbcgaaGreatDoorGb
import Derived.Test.YtenkidkcfjbcgaaGreatDoorHlD
import Derived.Shelf.Strings.Split
import Derived.Shelf.Strings.Cut
import Derived.Shelf.Strconv.ParseIntPublic10
import Derived.Shelf.Slices.Turned
namespace Go.Hl
open Go.Proofs
set_option linter.unusedVariables false
set_option linter.unusedSimpArgs false
/-- Texts with "; " between them. -/
def semis : List (List UInt8) → List UInt8
  | [] => []
  | [a] => a
  | a :: b :: l => a ++ 59 :: 32 :: semis (b :: l)
theorem semis_snoc (a : List UInt8) : ∀ l : List (List UInt8), ¬ l = [] → semis (l ++ [a]) = semis l ++ 59 :: 32 :: a
  | [], h => absurd rfl h
  | [b], _ => rfl
  | b :: c :: l, _ => by
    show b ++ 59 :: 32 :: semis ((c :: l) ++ [a]) = (b ++ 59 :: 32 :: semis (c :: l)) ++ 59 :: 32 :: a
    rw [semis_snoc a (c :: l) (by simp)]; simp
theorem semis_len : ∀ l : List (List UInt8), (semis l).length ≤ (l.map fun a => a.length + 2).sum
  | [] => Nat.le_refl _
  | [a] => by simp [semis]
  | a :: b :: l => by
    have := semis_len (b :: l)
    simp only [semis, List.map_cons, List.sum_cons, List.length_append, List.length_cons] at this ⊢
    omega
def signB (k : Int) : UInt8 := if k = 3 then 43 else if k = 4 then 45 else if k = 5 then 42 else 47
def nameAt (p : DProgram) (n : Int) : List UInt8 := match p.fFuncs[n.toNat]? with | some f => f.fName | none => []
/-- What stands ahead of the list of kids. -/
def headT (p : DProgram) (k n i c : Int) : List UInt8 :=
  if k = 7 then [110, 101, 103] else if k = 8 then [105, 102] else if k = 9 then [108, 101, 116] else if k = 10 then nameAt p n ++ 46 :: Go.Lib.itoa i else nameAt p n ++ 46 :: Go.Lib.itoa i ++ 94 :: Go.Lib.itoa c
mutual
def DExpr.txt (p : DProgram) : DExpr → List UInt8
  | .mk k n i c kids =>
    if k = 1 then Go.Lib.itoa n else if k = 2 then 120 :: Go.Lib.itoa n
    else if 3 ≤ k ∧ k ≤ 6 then 40 :: ((DExpr.txtL p kids).getD 0 [] ++ 32 :: signB k :: 32 :: ((DExpr.txtL p kids).getD 1 [] ++ [41]))
    else headT p k n i c ++ 40 :: (semis (DExpr.txtL p kids) ++ [41])
def DExpr.txtL (p : DProgram) : List DExpr → List (List UInt8)
  | [] => []
  | x :: l => x.txt p :: DExpr.txtL p l
end
theorem DExpr.txtL_map (p : DProgram) : ∀ l : List DExpr, DExpr.txtL p l = l.map (DExpr.txt p)
  | [] => rfl
  | x :: l => by rw [DExpr.txtL, DExpr.txtL_map p l]; rfl
theorem DExpr.txt_eq (p : DProgram) (e : DExpr) : e.txt p = if e.fKind = 1 then Go.Lib.itoa e.fNum else if e.fKind = 2 then 120 :: Go.Lib.itoa e.fNum
    else if 3 ≤ e.fKind ∧ e.fKind ≤ 6 then 40 :: ((e.fKids.map (DExpr.txt p)).getD 0 [] ++ 32 :: signB e.fKind :: 32 :: ((e.fKids.map (DExpr.txt p)).getD 1 [] ++ [41]))
    else headT p e.fKind e.fNum e.fPick e.fCount ++ 40 :: (semis (e.fKids.map (DExpr.txt p)) ++ [41]) := by
  cases e with
  | mk k n i c kids =>
    rw [DExpr.txt, DExpr.txtL_map]; rfl
/-- An expression may stand in a program. -/
structure Stands (p : DProgram) (funcs : Int) (e : DExpr) (vars : Int) : Prop where
  ok : e.ok p funcs vars
  vars : vars + e.s ≤ 1000000
  f0 : 0 ≤ funcs
  f1 : funcs ≤ p.fFuncs.length
theorem Stands.kid {p : DProgram} {funcs vars : Int} {e : DExpr} (h : Stands p funcs e vars) {k : Nat} (hk : k < e.fKids.length) : ∃ v, Stands p funcs e.fKids[k] v := by
  have h1 := ((DExpr.ok_iff _ _ _ _).1 h.ok).2 k hk
  have h2 := DExpr.kid_s (List.getElem_mem hk)
  have h3 := h.vars
  refine ⟨_, h1, ?_, h.f0, h.f1⟩
  unfold moreV; split <;> omega
theorem Stands.node {p : DProgram} {funcs vars : Int} {e : DExpr} (h : Stands p funcs e vars) : nodeOK p e vars funcs := ((DExpr.ok_iff _ _ _ _).1 h.ok).1
theorem Stands.num {p : DProgram} {funcs vars : Int} {e : DExpr} (h : Stands p funcs e vars) (hk : e.fKind = 1 ∨ e.fKind = 2) : Num e.fNum := by
  have hn := h.node
  have hv := h.vars
  unfold nodeOK at hn
  rw [if_neg (by omega)] at hn
  rcases hk with q | q
  · exact hn.2.2.2.1 q
  · have := hn.2.2.2.2.1 q
    constructor <;> omega
theorem Stands.kind {p : DProgram} {funcs vars : Int} {e : DExpr} (h : Stands p funcs e vars) : 1 ≤ e.fKind ∧ e.fKind ≤ 11 := by
  have hn := h.node
  unfold nodeOK at hn
  split at hn
  · omega
  · have h1 := hn.1
    unfold kidsN at h1
    repeat' split at h1
    all_goals omega
theorem Stands.two {p : DProgram} {funcs vars : Int} {e : DExpr} (h : Stands p funcs e vars) (hk : 3 ≤ e.fKind ∧ e.fKind ≤ 6) : e.fKids.length = 2 := by
  have hn := h.node
  unfold nodeOK at hn
  rw [if_neg (by omega)] at hn
  have h1 := hn.1
  unfold kidsN at h1
  rw [if_neg (by omega), if_pos (by omega)] at h1
  omega
theorem Stands.call {p : DProgram} (hp : p.ok) {funcs vars : Int} {e : DExpr} (h : Stands p funcs e vars) (hk : e.fKind = 10 ∨ e.fKind = 11) :
    ∃ f, p.fFuncs[e.fNum.toNat]? = some f ∧ nameAt p e.fNum = f.fName ∧ f.fName.length ≤ 12 ∧ 0 ≤ e.fNum ∧ e.fNum < p.fFuncs.length ∧ Num e.fPick ∧ Num e.fCount := by
  have hn := h.node
  have h1 := h.f1
  unfold nodeOK at hn
  rw [if_pos hk] at hn
  obtain ⟨a, b, c⟩ := hn
  have hlt : e.fNum.toNat < p.fFuncs.length := by omega
  have ef : p.fFuncs[e.fNum.toNat]? = some p.fFuncs[e.fNum.toNat] := List.getElem?_eq_getElem hlt
  have hf := hp.2 _ _ ef
  obtain ⟨c1, c2, c3, c4, c5⟩ := c _ ef
  have ho := hf.2.2.1
  refine ⟨_, ef, by unfold nameAt; rw [ef], hf.1.2.1, a, by omega, ⟨by omega, by omega⟩, ?_⟩
  rcases hk with q | q
  · rw [c4 q]; exact ⟨by omega, by omega⟩
  · have := c5 q; exact ⟨by omega, by omega⟩
theorem sum_txt {p : DProgram} : ∀ l : List DExpr, (∀ x ∈ l, (x.txt p).length + 2 ≤ 64 * (x.s + 1)) → ((l.map (DExpr.txt p)).map fun a => a.length + 2).sum ≤ 64 * szs DExpr.s l
  | [], _ => Nat.zero_le _
  | x :: l, h => by
    have h1 := sum_txt l fun y hy => h y (List.mem_cons_of_mem _ hy)
    have h2 := h x (List.mem_cons_self ..)
    simp only [szs_eq, List.map_cons, List.sum_cons, List.length_cons] at h1 ⊢
    omega
theorem headT_len {p : DProgram} (hp : p.ok) {funcs vars : Int} {e : DExpr} (h : Stands p funcs e vars) (h7 : 7 ≤ e.fKind) : (headT p e.fKind e.fNum e.fPick e.fCount).length ≤ 56 := by
  have hk := h.kind
  unfold headT
  split
  · simp
  · split
    · simp
    · split
      · simp
      · by_cases hc : e.fKind = 10 ∨ e.fKind = 11
        · obtain ⟨f, ef, en, hl, -, -, hi, hc2⟩ := h.call hp hc
          have h1 := itoa_num hi
          have h2 := itoa_num hc2
          rw [en]
          split <;> simp <;> omega
        · exfalso; omega
theorem DExpr.txt_len {p : DProgram} (hp : p.ok) {funcs : Int} (e : DExpr) (vars : Int) (h : Stands p funcs e vars) : (e.txt p).length + 2 ≤ 64 * (e.s + 1) := by
  have ih : ∀ x ∈ e.fKids, (x.txt p).length + 2 ≤ 64 * (x.s + 1) := fun x hx => by
    obtain ⟨k, hk, ek⟩ := List.mem_iff_getElem.1 hx
    obtain ⟨v, hv⟩ := h.kid hk
    have hs := DExpr.kid_s hx
    subst ek
    exact DExpr.txt_len hp e.fKids[k] v hv
  have hsum := sum_txt e.fKids ih
  rw [← e.s_eq] at hsum
  rw [DExpr.txt_eq]
  split
  · have := itoa_num (h.num (.inl (by assumption))); omega
  · split
    · have := itoa_num (h.num (.inr (by assumption))); rw [List.length_cons]; omega
    · split
      · rename_i hk
        have h2 := h.two hk
        match hkl : e.fKids, h2 with
        | [a, b], _ =>
          rw [hkl] at hsum
          simp at hsum ⊢
          omega
      · have h1 := semis_len (e.fKids.map (DExpr.txt p))
        have hk := h.kind
        have hh := headT_len hp h (by omega)
        simp only [List.length_append, List.length_cons, List.length_nil]
        omega
termination_by e.s
theorem semis_take {p : DProgram} (hp : p.ok) {funcs vars : Int} {e : DExpr} (h : Stands p funcs e vars) (k : Nat) : (semis ((e.fKids.map (DExpr.txt p)).take k)).length ≤ 64 * (e.s + 1) := by
  have h1 := semis_len ((e.fKids.map (DExpr.txt p)).take k)
  rw [← List.map_take] at h1 ⊢
  have h2 := sum_txt (p := p) (e.fKids.take k) fun x hx => by
    obtain ⟨j, hj, ek⟩ := List.mem_iff_getElem.1 (List.mem_of_mem_take hx)
    obtain ⟨v, hv⟩ := h.kid hj
    subst ek
    exact DExpr.txt_len hp _ v hv
  have h3 : szs DExpr.s (e.fKids.take k) ≤ e.s := by
    rw [e.s_eq, szs_eq, szs_eq]
    have h4 : ((e.fKids.take k).map DExpr.s).sum + ((e.fKids.drop k).map DExpr.s).sum = (e.fKids.map DExpr.s).sum := by
      rw [← List.sum_append, ← List.map_append, List.take_append_drop]
    have h5 : (e.fKids.take k).length ≤ e.fKids.length := by rw [List.length_take]; omega
    omega
  omega
theorem semis_next {p : DProgram} {l : List DExpr} {k : Nat} (hk : k < l.length) : (0 < k → semis ((l.map (DExpr.txt p)).take (k + 1)) = semis ((l.map (DExpr.txt p)).take k) ++ 59 :: 32 :: l[k].txt p) ∧ (k = 0 → semis ((l.map (DExpr.txt p)).take (k + 1)) = l[k].txt p) := by
  have h1 : (l.map (DExpr.txt p)).take (k + 1) = (l.map (DExpr.txt p)).take k ++ [l[k].txt p] := by
    rw [List.take_succ_eq_append_getElem (by simpa using hk)]; simp
  rw [h1]
  refine ⟨fun h0 => semis_snoc _ _ fun q => ?_, fun h0 => ?_⟩
  · have := congrArg List.length q
    rw [List.length_take, List.length_map, List.length_nil] at this
    omega
  · subst h0; simp [semis]
theorem semis_room {p : DProgram} (hp : p.ok) {funcs vars : Int} {e : DExpr} (h : Stands p funcs e vars) {k : Nat} (hk : k < e.fKids.length) : (semis ((e.fKids.map (DExpr.txt p)).take k)).length + 64 * (e.fKids[k].s + 1) ≤ 64 * e.s := by
  have h1 := semis_len ((e.fKids.map (DExpr.txt p)).take k)
  rw [← List.map_take] at h1 ⊢
  have h2 := sum_txt (p := p) (e.fKids.take k) fun x hx => by
    obtain ⟨j, hj, ek⟩ := List.mem_iff_getElem.1 (List.mem_of_mem_take hx)
    obtain ⟨v, hv⟩ := h.kid hj
    subst ek
    exact DExpr.txt_len hp _ v hv
  have h3 := e.part_s hk
  rw [szs_eq, List.length_take] at h2
  omega
open Go.Proofs
set_option linter.unusedVariables false
set_option linter.unusedSimpArgs false
def keep67 : List Nat := [0, 2, 3, 4, 6, 8, 10]
def ib67 : List Nat := []
def mk67 : Marks := fun _ => ([], .nil, [])
theorem l02Sign (k : Int) (hk : 3 ≤ k ∧ k ≤ 6) : Fn0 Tryz.prog 67 [I k] (.str [signB k]) := by
  rcases (by omega : k = 3 ∨ k = 4 ∨ k = 5 ∨ k = 6) with rfl | rfl | rfl | rfl
  all_goals
    refine fn0F 12 keep67 ib67 mk67 mix Tryz.func67 rfl (by kernel_rfl) (by simp) fun h => ?_
    simp (maxSteps := 1000000) -dsimp -implicitDefEqProofs only [go_sem, ↓reduceIte, keep67, ib67, mk67, Tryz.f67]
    try rfl
def keep41 : List Nat := [0, 1, 4, 5, 6, 10, 11, 18, 26, 59, 60, 62, 64, 66, 86, 121, 125]
def ib41 : List Nat := []
def mk41 : Marks := fun id => match id with | 10 => ([], (.op 0 (.op 1 (.op 2 (.op 3 (.op 4 (.op 5 (.op 6 (.op 7 (.op 8 (.op 9 (.op 10 (.op 11 (.op 12 (.op 13 (.op 14 (.op 15 (.op 16 (.op 17 (.op 18 (.op 19 (.op 20 (.op 21 (.op 22 (.op 23 (.op 24 (.op 25 .nil)))))))))))))))))))))))))), []) | 20 => ([], (.op 0 (.op 1 (.op 2 (.op 3 (.op 4 (.op 5 (.op 6 (.op 7 (.op 8 (.op 9 (.op 10 (.op 11 (.op 12 (.op 13 (.op 14 (.op 15 (.op 16 (.op 17 (.op 18 .nil))))))))))))))))))), []) | 22 => ([], (.op 0 (.op 1 (.op 2 (.op 3 (.op 4 (.op 5 (.op 6 (.op 7 (.op 8 (.op 9 (.op 10 (.op 11 (.op 12 (.op 13 (.op 14 (.op 15 (.op 16 (.op 17 (.op 18 (.op 19 (.op 20 (.op 21 (.op 22 (.op 23 (.op 24 (.op 25 .nil)))))))))))))))))))))))))), []) | _ => ([], .nil, [])
set_option maxRecDepth 100000 in
set_option maxHeartbeats 1000000 in
theorem l02Text {p : DProgram} (hp : p.ok) {funcs : Int} (e : DExpr) (vars : Int) (h : Stands p funcs e vars) (hs : e.s ≤ 1000000) : Fn0 Tryz.prog 41 [.ip 1 [p.c] 0 0, .ip 5 [e.c] 0 0] (.str (e.txt p)) := by
  have ih : ∀ (k : Nat) (hk : k < e.fKids.length), Fn0 Tryz.prog 41 [.ip 1 [p.c] 0 0, .ip 5 [e.fKids[k].c] 0 0] (.str (e.fKids[k].txt p)) := fun k hk => by
    obtain ⟨v, hv⟩ := h.kid hk
    have hks := DExpr.kid_s (List.getElem_mem hk)
    exact l02Text hp e.fKids[k] v hv (by omega)
  have hl := DExpr.txt_len hp e vars h
  have hkl : ∀ (k : Nat) (hk : k < e.fKids.length), (e.fKids[k].txt p).length ≤ 64 * (e.s + 1) := fun k hk => by
    obtain ⟨v, hv⟩ := h.kid hk
    have hks := DExpr.kid_s (List.getElem_mem hk)
    have := DExpr.txt_len hp e.fKids[k] v hv
    omega
  have hall := semis_take hp h
  have hkind := h.kind
  have htxt := DExpr.txt_eq p e
  simp only [DExpr.c_eq, DProgram.c_eq]
  by_cases k1 : e.fKind = 1
  · rw [if_pos k1] at htxt
    have hN := h.num (.inl k1)
    refine fn0F 140 keep41 ib41 mk41 mix Tryz.func41 rfl (by kernel_rfl) (by simp) fun h => ?_
    simp (maxSteps := 1000000) -dsimp -implicitDefEqProofs only [go_sem, ↓reduceIte, keep41, ib41, mk41, Tryz.f41, k1]
    first | refine HFnF.mk (Decimal (e.fNum.toNat + 1) e.fNum hN.1 (by have := hN.1; omega) (by have := hN.2; omega)) ?_ | refine CallSF.mk (Decimal (e.fNum.toNat + 1) e.fNum hN.1 (by have := hN.1; omega) (by have := hN.2; omega)) ?_ | refine HFnF.mkAt (Decimal (e.fNum.toNat + 1) e.fNum hN.1 (by have := hN.1; omega) (by have := hN.2; omega)) ?_ | refine CallSF.mk (FnAt.fn0 (Decimal (e.fNum.toNat + 1) e.fNum hN.1 (by have := hN.1; omega) (by have := hN.2; omega))) ?_
    simp (maxSteps := 1000000) -dsimp -implicitDefEqProofs only [go_sem, ↓reduceIte, keep41, ib41, mk41, Tryz.f41]
    rw [htxt]
  · by_cases k2 : e.fKind = 2
    · rw [if_neg k1, if_pos k2] at htxt
      have hN := h.num (.inr k2)
      have hi := itoa_num hN
      refine fn0F 140 keep41 ib41 mk41 mix Tryz.func41 rfl (by kernel_rfl) (by simp) fun h => ?_
      simp (maxSteps := 1000000) -dsimp -implicitDefEqProofs only [go_sem, ↓reduceIte, keep41, ib41, mk41, Tryz.f41, k2]
      first | refine HFnF.mk (Decimal (e.fNum.toNat + 1) e.fNum hN.1 (by have := hN.1; omega) (by have := hN.2; omega)) ?_ | refine CallSF.mk (Decimal (e.fNum.toNat + 1) e.fNum hN.1 (by have := hN.1; omega) (by have := hN.2; omega)) ?_ | refine HFnF.mkAt (Decimal (e.fNum.toNat + 1) e.fNum hN.1 (by have := hN.1; omega) (by have := hN.2; omega)) ?_ | refine CallSF.mk (FnAt.fn0 (Decimal (e.fNum.toNat + 1) e.fNum hN.1 (by have := hN.1; omega) (by have := hN.2; omega))) ?_
      simp (maxSteps := 1000000) -dsimp -implicitDefEqProofs only [go_sem, ↓reduceIte, keep41, ib41, mk41, Tryz.f41]
      rw [htxt]
      exact ⟨by omega, rfl⟩
    · by_cases kb : 3 ≤ e.fKind ∧ e.fKind ≤ 6
      · rw [if_neg k1, if_neg k2, if_pos kb] at htxt
        have h2 := h.two kb
        match hk : e.fKids, h2 with
        | [a, b], _ =>
          have i0 := ih 0 (by rw [hk]; simp)
          have i1 := ih 1 (by rw [hk]; simp)
          have l0 := hkl 0 (by rw [hk]; simp)
          have l1 := hkl 1 (by rw [hk]; simp)
          have g0 : e.fKids[0]'(by rw [hk]; simp) = a := by simp [hk]
          have g1 : e.fKids[1]'(by rw [hk]; simp) = b := by simp [hk]
          rw [g0] at i0 l0; rw [g1] at i1 l1
          rw [hk] at htxt
          simp only [List.map_cons, List.map_nil] at htxt
          have ht : e.txt p = 40 :: (a.txt p ++ 32 :: signB e.fKind :: 32 :: (b.txt p ++ [41])) := htxt
          have j0 : Fn0 Tryz.prog 41 [.ip 1 [[sls 3 DFunc.c p.fFuncs]] 0 0, .ip 5 [a.c, b.c] 0 0] (.str (a.txt p)) := i0.sub (.cons (.refl _) (.cons (Sub.ip rfl (by simp)) .nil))
          have j1 : Fn0 Tryz.prog 41 [.ip 1 [[sls 3 DFunc.c p.fFuncs]] 0 0, .ip 5 [a.c, b.c] 1 0] (.str (b.txt p)) := i1.sub (.cons (.refl _) (.cons (Sub.ip rfl (by simp)) .nil))
          have js := l02Sign e.fKind kb
          rw [ht]
          clear ih hkl htxt ht i0 i1
          rcases (by omega : e.fKind = 3 ∨ e.fKind = 4 ∨ e.fKind = 5 ∨ e.fKind = 6) with kq | kq | kq | kq
          · rw [kq] at js ⊢
            refine fn0F 140 keep41 ib41 mk41 mix Tryz.func41 rfl (by kernel_rfl) (by simp) fun h => ?_
            simp (maxSteps := 1000000) -dsimp -implicitDefEqProofs only [go_sem, ↓reduceIte, keep41, ib41, mk41, Tryz.f41, kq]
            refine ⟨by decide, ?_⟩
            first | refine HFnF.mk (j0) ?_ | refine CallSF.mk (j0) ?_ | refine HFnF.mkAt (j0) ?_ | refine CallSF.mk (FnAt.fn0 (j0)) ?_
            simp (maxSteps := 1000000) -dsimp -implicitDefEqProofs only [go_sem, ↓reduceIte, keep41, ib41, mk41, Tryz.f41]
            repeat' (with_reducible first | intro _ | refine And.intro ?_ ?_)
            all_goals try (first | omega | (simp only [List.length_append, List.length_cons, List.length_nil]; omega))
            first | refine HFnF.mk (js) ?_ | refine CallSF.mk (js) ?_ | refine HFnF.mkAt (js) ?_ | refine CallSF.mk (FnAt.fn0 (js)) ?_
            simp (maxSteps := 1000000) -dsimp -implicitDefEqProofs only [go_sem, ↓reduceIte, keep41, ib41, mk41, Tryz.f41]
            repeat' (with_reducible first | intro _ | refine And.intro ?_ ?_)
            all_goals try (first | omega | (simp only [List.length_append, List.length_cons, List.length_nil]; omega))
            first | refine HFnF.mk (j1) ?_ | refine CallSF.mk (j1) ?_ | refine HFnF.mkAt (j1) ?_ | refine CallSF.mk (FnAt.fn0 (j1)) ?_
            simp (maxSteps := 1000000) -dsimp -implicitDefEqProofs only [go_sem, ↓reduceIte, keep41, ib41, mk41, Tryz.f41]
            repeat' (with_reducible first | intro _ | refine And.intro ?_ ?_)
            all_goals try (first | omega | (simp only [List.length_append, List.length_cons, List.length_nil]; omega))
            all_goals simp
          · rw [kq] at js ⊢
            refine fn0F 140 keep41 ib41 mk41 mix Tryz.func41 rfl (by kernel_rfl) (by simp) fun h => ?_
            simp (maxSteps := 1000000) -dsimp -implicitDefEqProofs only [go_sem, ↓reduceIte, keep41, ib41, mk41, Tryz.f41, kq]
            refine ⟨by decide, ?_⟩
            first | refine HFnF.mk (j0) ?_ | refine CallSF.mk (j0) ?_ | refine HFnF.mkAt (j0) ?_ | refine CallSF.mk (FnAt.fn0 (j0)) ?_
            simp (maxSteps := 1000000) -dsimp -implicitDefEqProofs only [go_sem, ↓reduceIte, keep41, ib41, mk41, Tryz.f41]
            repeat' (with_reducible first | intro _ | refine And.intro ?_ ?_)
            all_goals try (first | omega | (simp only [List.length_append, List.length_cons, List.length_nil]; omega))
            first | refine HFnF.mk (js) ?_ | refine CallSF.mk (js) ?_ | refine HFnF.mkAt (js) ?_ | refine CallSF.mk (FnAt.fn0 (js)) ?_
            simp (maxSteps := 1000000) -dsimp -implicitDefEqProofs only [go_sem, ↓reduceIte, keep41, ib41, mk41, Tryz.f41]
            repeat' (with_reducible first | intro _ | refine And.intro ?_ ?_)
            all_goals try (first | omega | (simp only [List.length_append, List.length_cons, List.length_nil]; omega))
            first | refine HFnF.mk (j1) ?_ | refine CallSF.mk (j1) ?_ | refine HFnF.mkAt (j1) ?_ | refine CallSF.mk (FnAt.fn0 (j1)) ?_
            simp (maxSteps := 1000000) -dsimp -implicitDefEqProofs only [go_sem, ↓reduceIte, keep41, ib41, mk41, Tryz.f41]
            repeat' (with_reducible first | intro _ | refine And.intro ?_ ?_)
            all_goals try (first | omega | (simp only [List.length_append, List.length_cons, List.length_nil]; omega))
            all_goals simp
          · rw [kq] at js ⊢
            refine fn0F 140 keep41 ib41 mk41 mix Tryz.func41 rfl (by kernel_rfl) (by simp) fun h => ?_
            simp (maxSteps := 1000000) -dsimp -implicitDefEqProofs only [go_sem, ↓reduceIte, keep41, ib41, mk41, Tryz.f41, kq]
            refine ⟨by decide, ?_⟩
            first | refine HFnF.mk (j0) ?_ | refine CallSF.mk (j0) ?_ | refine HFnF.mkAt (j0) ?_ | refine CallSF.mk (FnAt.fn0 (j0)) ?_
            simp (maxSteps := 1000000) -dsimp -implicitDefEqProofs only [go_sem, ↓reduceIte, keep41, ib41, mk41, Tryz.f41]
            repeat' (with_reducible first | intro _ | refine And.intro ?_ ?_)
            all_goals try (first | omega | (simp only [List.length_append, List.length_cons, List.length_nil]; omega))
            first | refine HFnF.mk (js) ?_ | refine CallSF.mk (js) ?_ | refine HFnF.mkAt (js) ?_ | refine CallSF.mk (FnAt.fn0 (js)) ?_
            simp (maxSteps := 1000000) -dsimp -implicitDefEqProofs only [go_sem, ↓reduceIte, keep41, ib41, mk41, Tryz.f41]
            repeat' (with_reducible first | intro _ | refine And.intro ?_ ?_)
            all_goals try (first | omega | (simp only [List.length_append, List.length_cons, List.length_nil]; omega))
            first | refine HFnF.mk (j1) ?_ | refine CallSF.mk (j1) ?_ | refine HFnF.mkAt (j1) ?_ | refine CallSF.mk (FnAt.fn0 (j1)) ?_
            simp (maxSteps := 1000000) -dsimp -implicitDefEqProofs only [go_sem, ↓reduceIte, keep41, ib41, mk41, Tryz.f41]
            repeat' (with_reducible first | intro _ | refine And.intro ?_ ?_)
            all_goals try (first | omega | (simp only [List.length_append, List.length_cons, List.length_nil]; omega))
            all_goals simp
          · rw [kq] at js ⊢
            refine fn0F 140 keep41 ib41 mk41 mix Tryz.func41 rfl (by kernel_rfl) (by simp) fun h => ?_
            simp (maxSteps := 1000000) -dsimp -implicitDefEqProofs only [go_sem, ↓reduceIte, keep41, ib41, mk41, Tryz.f41, kq]
            refine ⟨by decide, ?_⟩
            first | refine HFnF.mk (j0) ?_ | refine CallSF.mk (j0) ?_ | refine HFnF.mkAt (j0) ?_ | refine CallSF.mk (FnAt.fn0 (j0)) ?_
            simp (maxSteps := 1000000) -dsimp -implicitDefEqProofs only [go_sem, ↓reduceIte, keep41, ib41, mk41, Tryz.f41]
            repeat' (with_reducible first | intro _ | refine And.intro ?_ ?_)
            all_goals try (first | omega | (simp only [List.length_append, List.length_cons, List.length_nil]; omega))
            first | refine HFnF.mk (js) ?_ | refine CallSF.mk (js) ?_ | refine HFnF.mkAt (js) ?_ | refine CallSF.mk (FnAt.fn0 (js)) ?_
            simp (maxSteps := 1000000) -dsimp -implicitDefEqProofs only [go_sem, ↓reduceIte, keep41, ib41, mk41, Tryz.f41]
            repeat' (with_reducible first | intro _ | refine And.intro ?_ ?_)
            all_goals try (first | omega | (simp only [List.length_append, List.length_cons, List.length_nil]; omega))
            first | refine HFnF.mk (j1) ?_ | refine CallSF.mk (j1) ?_ | refine HFnF.mkAt (j1) ?_ | refine CallSF.mk (FnAt.fn0 (j1)) ?_
            simp (maxSteps := 1000000) -dsimp -implicitDefEqProofs only [go_sem, ↓reduceIte, keep41, ib41, mk41, Tryz.f41]
            repeat' (with_reducible first | intro _ | refine And.intro ?_ ?_)
            all_goals try (first | omega | (simp only [List.length_append, List.length_cons, List.length_nil]; omega))
            all_goals simp
      · rw [if_neg k1, if_neg k2, if_neg kb] at htxt
        have hh := headT_len hp h (by omega)
        rcases (by omega : e.fKind = 7 ∨ e.fKind = 8 ∨ e.fKind = 9 ∨ e.fKind = 10 ∨ e.fKind = 11) with kq | kq | kq | kq | kq
        · have hT : headT p e.fKind e.fNum e.fPick e.fCount = [110, 101, 103] := by rw [headT, if_pos kq]
          refine fn0F 140 keep41 ib41 mk41 mix Tryz.func41 rfl (by kernel_rfl) (by simp) fun h => ?_
          simp (maxSteps := 1000000) -dsimp -implicitDefEqProofs only [go_sem, ↓reduceIte, keep41, ib41, mk41, Tryz.f41, kq]
          rw [hT] at htxt
          refine loopF (keep := keep41) (ib := ib41) (mk := mk41) mix (by kernel_rfl) (fun k : Nat => [(0, .ip 1 [[sls 3 DFunc.c p.fFuncs]] 0 0), (1, .ip 5 [[I 7, I e.fNum, I e.fPick, I e.fCount, sls 5 DExpr.c e.fKids]] 0 0), (5, .str ([110, 101, 103] ++ 40 :: semis ((e.fKids.map (DExpr.txt p)).take k))), (6, I k)]) (fun _ => h) (fun k => k ≤ e.fKids.length) (fun k => e.fKids.length - k) 0 (by simp [SatL, tget, Heap.le_refl, kq, semis]) ?_
          intro k hk
          have hpre := hall k
          rcases Nat.lt_or_ge k e.fKids.length with hlt | hge
          · have ik := (ih k hlt).sub (xs := [.ip 1 [[sls 3 DFunc.c p.fFuncs]] 0 0, .ip 5 (e.fKids.map DExpr.c) k 0]) (.cons (.refl _) (.cons (Sub.ip (map_get hlt) (by simp)) .nil))
            have hkk := hkl k hlt
            have hnx := semis_next (p := p) hlt
            simp (maxSteps := 1000000) -dsimp -implicitDefEqProofs only [go_sem, ↓reduceIte, keep41, ib41, mk41, Tryz.f41, kq]
            refine fun _ => ⟨fun _ => ⟨fun hk0 => ⟨by first | omega | (simp only [List.length_append, List.length_cons, List.length_nil]; omega), hlt, ?_⟩, fun hk0 => ⟨hlt, ?_⟩⟩, fun q => absurd hlt q⟩
            · first | refine HFnF.mk (ik) ?_ | refine CallSF.mk (ik) ?_ | refine HFnF.mkAt (ik) ?_ | refine CallSF.mk (FnAt.fn0 (ik)) ?_
              simp (maxSteps := 1000000) -dsimp -implicitDefEqProofs only [go_sem, ↓reduceIte, keep41, ib41, mk41, Tryz.f41]
              refine ⟨by first | omega | (simp only [List.length_append, List.length_cons, List.length_nil]; omega), k + 1, ⟨?_, IntWalk.i64_in _ (by omega)⟩, by omega, by omega⟩
              rw [hnx.1 (by omega)]
              simp
            · first | refine HFnF.mk (ik) ?_ | refine CallSF.mk (ik) ?_ | refine HFnF.mkAt (ik) ?_ | refine CallSF.mk (FnAt.fn0 (ik)) ?_
              simp (maxSteps := 1000000) -dsimp -implicitDefEqProofs only [go_sem, ↓reduceIte, keep41, ib41, mk41, Tryz.f41]
              refine ⟨by first | omega | (simp only [List.length_append, List.length_cons, List.length_nil]; omega), k + 1, ⟨?_, IntWalk.i64_in _ (by omega)⟩, by omega, by omega⟩
              rw [hnx.2 (by omega)]
              obtain rfl : k = 0 := by omega
              simp [semis]
          · have hk' : k = e.fKids.length := by omega
            rw [hk', List.take_of_length_le (by simp)] at hpre ⊢
            have hnk : ¬ e.fKids.length < e.fKids.length := Nat.lt_irrefl _
            simp (maxSteps := 1000000) -dsimp -implicitDefEqProofs only [go_sem, ↓reduceIte, keep41, ib41, mk41, Tryz.f41, kq, hnk]
            exact fun _ => ⟨by first | omega | (simp only [List.length_append, List.length_cons, List.length_nil]; omega), by rw [htxt]; simp⟩
        · have hT : headT p e.fKind e.fNum e.fPick e.fCount = [105, 102] := by rw [headT, if_neg (by omega), if_pos kq]
          refine fn0F 140 keep41 ib41 mk41 mix Tryz.func41 rfl (by kernel_rfl) (by simp) fun h => ?_
          simp (maxSteps := 1000000) -dsimp -implicitDefEqProofs only [go_sem, ↓reduceIte, keep41, ib41, mk41, Tryz.f41, kq]
          rw [hT] at htxt
          refine loopF (keep := keep41) (ib := ib41) (mk := mk41) mix (by kernel_rfl) (fun k : Nat => [(0, .ip 1 [[sls 3 DFunc.c p.fFuncs]] 0 0), (1, .ip 5 [[I 8, I e.fNum, I e.fPick, I e.fCount, sls 5 DExpr.c e.fKids]] 0 0), (5, .str ([105, 102] ++ 40 :: semis ((e.fKids.map (DExpr.txt p)).take k))), (6, I k)]) (fun _ => h) (fun k => k ≤ e.fKids.length) (fun k => e.fKids.length - k) 0 (by simp [SatL, tget, Heap.le_refl, kq, semis]) ?_
          intro k hk
          have hpre := hall k
          rcases Nat.lt_or_ge k e.fKids.length with hlt | hge
          · have ik := (ih k hlt).sub (xs := [.ip 1 [[sls 3 DFunc.c p.fFuncs]] 0 0, .ip 5 (e.fKids.map DExpr.c) k 0]) (.cons (.refl _) (.cons (Sub.ip (map_get hlt) (by simp)) .nil))
            have hkk := hkl k hlt
            have hnx := semis_next (p := p) hlt
            simp (maxSteps := 1000000) -dsimp -implicitDefEqProofs only [go_sem, ↓reduceIte, keep41, ib41, mk41, Tryz.f41, kq]
            refine fun _ => ⟨fun _ => ⟨fun hk0 => ⟨by first | omega | (simp only [List.length_append, List.length_cons, List.length_nil]; omega), hlt, ?_⟩, fun hk0 => ⟨hlt, ?_⟩⟩, fun q => absurd hlt q⟩
            · first | refine HFnF.mk (ik) ?_ | refine CallSF.mk (ik) ?_ | refine HFnF.mkAt (ik) ?_ | refine CallSF.mk (FnAt.fn0 (ik)) ?_
              simp (maxSteps := 1000000) -dsimp -implicitDefEqProofs only [go_sem, ↓reduceIte, keep41, ib41, mk41, Tryz.f41]
              refine ⟨by first | omega | (simp only [List.length_append, List.length_cons, List.length_nil]; omega), k + 1, ⟨?_, IntWalk.i64_in _ (by omega)⟩, by omega, by omega⟩
              rw [hnx.1 (by omega)]
              simp
            · first | refine HFnF.mk (ik) ?_ | refine CallSF.mk (ik) ?_ | refine HFnF.mkAt (ik) ?_ | refine CallSF.mk (FnAt.fn0 (ik)) ?_
              simp (maxSteps := 1000000) -dsimp -implicitDefEqProofs only [go_sem, ↓reduceIte, keep41, ib41, mk41, Tryz.f41]
              refine ⟨by first | omega | (simp only [List.length_append, List.length_cons, List.length_nil]; omega), k + 1, ⟨?_, IntWalk.i64_in _ (by omega)⟩, by omega, by omega⟩
              rw [hnx.2 (by omega)]
              obtain rfl : k = 0 := by omega
              simp [semis]
          · have hk' : k = e.fKids.length := by omega
            rw [hk', List.take_of_length_le (by simp)] at hpre ⊢
            have hnk : ¬ e.fKids.length < e.fKids.length := Nat.lt_irrefl _
            simp (maxSteps := 1000000) -dsimp -implicitDefEqProofs only [go_sem, ↓reduceIte, keep41, ib41, mk41, Tryz.f41, kq, hnk]
            exact fun _ => ⟨by first | omega | (simp only [List.length_append, List.length_cons, List.length_nil]; omega), by rw [htxt]; simp⟩
        · have hT : headT p e.fKind e.fNum e.fPick e.fCount = [108, 101, 116] := by rw [headT, if_neg (by omega), if_neg (by omega), if_pos kq]
          refine fn0F 140 keep41 ib41 mk41 mix Tryz.func41 rfl (by kernel_rfl) (by simp) fun h => ?_
          simp (maxSteps := 1000000) -dsimp -implicitDefEqProofs only [go_sem, ↓reduceIte, keep41, ib41, mk41, Tryz.f41, kq]
          rw [hT] at htxt
          refine loopF (keep := keep41) (ib := ib41) (mk := mk41) mix (by kernel_rfl) (fun k : Nat => [(0, .ip 1 [[sls 3 DFunc.c p.fFuncs]] 0 0), (1, .ip 5 [[I 9, I e.fNum, I e.fPick, I e.fCount, sls 5 DExpr.c e.fKids]] 0 0), (5, .str ([108, 101, 116] ++ 40 :: semis ((e.fKids.map (DExpr.txt p)).take k))), (6, I k)]) (fun _ => h) (fun k => k ≤ e.fKids.length) (fun k => e.fKids.length - k) 0 (by simp [SatL, tget, Heap.le_refl, kq, semis]) ?_
          intro k hk
          have hpre := hall k
          rcases Nat.lt_or_ge k e.fKids.length with hlt | hge
          · have ik := (ih k hlt).sub (xs := [.ip 1 [[sls 3 DFunc.c p.fFuncs]] 0 0, .ip 5 (e.fKids.map DExpr.c) k 0]) (.cons (.refl _) (.cons (Sub.ip (map_get hlt) (by simp)) .nil))
            have hkk := hkl k hlt
            have hnx := semis_next (p := p) hlt
            simp (maxSteps := 1000000) -dsimp -implicitDefEqProofs only [go_sem, ↓reduceIte, keep41, ib41, mk41, Tryz.f41, kq]
            refine fun _ => ⟨fun _ => ⟨fun hk0 => ⟨by first | omega | (simp only [List.length_append, List.length_cons, List.length_nil]; omega), hlt, ?_⟩, fun hk0 => ⟨hlt, ?_⟩⟩, fun q => absurd hlt q⟩
            · first | refine HFnF.mk (ik) ?_ | refine CallSF.mk (ik) ?_ | refine HFnF.mkAt (ik) ?_ | refine CallSF.mk (FnAt.fn0 (ik)) ?_
              simp (maxSteps := 1000000) -dsimp -implicitDefEqProofs only [go_sem, ↓reduceIte, keep41, ib41, mk41, Tryz.f41]
              refine ⟨by first | omega | (simp only [List.length_append, List.length_cons, List.length_nil]; omega), k + 1, ⟨?_, IntWalk.i64_in _ (by omega)⟩, by omega, by omega⟩
              rw [hnx.1 (by omega)]
              simp
            · first | refine HFnF.mk (ik) ?_ | refine CallSF.mk (ik) ?_ | refine HFnF.mkAt (ik) ?_ | refine CallSF.mk (FnAt.fn0 (ik)) ?_
              simp (maxSteps := 1000000) -dsimp -implicitDefEqProofs only [go_sem, ↓reduceIte, keep41, ib41, mk41, Tryz.f41]
              refine ⟨by first | omega | (simp only [List.length_append, List.length_cons, List.length_nil]; omega), k + 1, ⟨?_, IntWalk.i64_in _ (by omega)⟩, by omega, by omega⟩
              rw [hnx.2 (by omega)]
              obtain rfl : k = 0 := by omega
              simp [semis]
          · have hk' : k = e.fKids.length := by omega
            rw [hk', List.take_of_length_le (by simp)] at hpre ⊢
            have hnk : ¬ e.fKids.length < e.fKids.length := Nat.lt_irrefl _
            simp (maxSteps := 1000000) -dsimp -implicitDefEqProofs only [go_sem, ↓reduceIte, keep41, ib41, mk41, Tryz.f41, kq, hnk]
            exact fun _ => ⟨by first | omega | (simp only [List.length_append, List.length_cons, List.length_nil]; omega), by rw [htxt]; simp⟩
        · obtain ⟨f, ef, en, hfl, hn0, hn1, hi, hcn⟩ := h.call hp (.inl kq)
          have hT : headT p e.fKind e.fNum e.fPick e.fCount = f.fName ++ [46] ++ Go.Lib.itoa e.fPick := by rw [headT, if_neg (by omega), if_neg (by omega), if_neg (by omega), if_pos kq, en]; simp
          have hi2 := itoa_num hi
          refine fn0F 140 keep41 ib41 mk41 mix Tryz.func41 rfl (by kernel_rfl) (by simp) fun h => ?_
          simp (maxSteps := 1000000) -dsimp -implicitDefEqProofs only [go_sem, ↓reduceIte, keep41, ib41, mk41, Tryz.f41, kq, ef, DFunc.c_eq]
          refine ⟨hn0, hn1, by omega, ?_⟩
          first | refine HFnF.mk (Decimal (e.fPick.toNat + 1) e.fPick hi.1 (by have := hi.1; omega) (by have := hi.2; omega)) ?_ | refine CallSF.mk (Decimal (e.fPick.toNat + 1) e.fPick hi.1 (by have := hi.1; omega) (by have := hi.2; omega)) ?_ | refine HFnF.mkAt (Decimal (e.fPick.toNat + 1) e.fPick hi.1 (by have := hi.1; omega) (by have := hi.2; omega)) ?_ | refine CallSF.mk (FnAt.fn0 (Decimal (e.fPick.toNat + 1) e.fPick hi.1 (by have := hi.1; omega) (by have := hi.2; omega))) ?_
          simp (maxSteps := 1000000) -dsimp -implicitDefEqProofs only [go_sem, ↓reduceIte, keep41, ib41, mk41, Tryz.f41]
          repeat' (with_reducible first | intro _ | refine And.intro ?_ ?_)
          all_goals try (first | omega | (simp only [List.length_append, List.length_cons, List.length_nil]; omega))
          rw [hT] at htxt
          refine loopF (keep := keep41) (ib := ib41) (mk := mk41) mix (by kernel_rfl) (fun k : Nat => [(0, .ip 1 [[sls 3 DFunc.c p.fFuncs]] 0 0), (1, .ip 5 [[I 10, I e.fNum, I e.fPick, I e.fCount, sls 5 DExpr.c e.fKids]] 0 0), (5, .str ((f.fName ++ [46] ++ Go.Lib.itoa e.fPick) ++ 40 :: semis ((e.fKids.map (DExpr.txt p)).take k))), (6, I k)]) (fun _ => h) (fun k => k ≤ e.fKids.length) (fun k => e.fKids.length - k) 0 (by simp [SatL, tget, Heap.le_refl, kq, semis]) ?_
          intro k hk
          have hpre := hall k
          rcases Nat.lt_or_ge k e.fKids.length with hlt | hge
          · have ik := (ih k hlt).sub (xs := [.ip 1 [[sls 3 DFunc.c p.fFuncs]] 0 0, .ip 5 (e.fKids.map DExpr.c) k 0]) (.cons (.refl _) (.cons (Sub.ip (map_get hlt) (by simp)) .nil))
            have hkk := hkl k hlt
            have hnx := semis_next (p := p) hlt
            simp (maxSteps := 1000000) -dsimp -implicitDefEqProofs only [go_sem, ↓reduceIte, keep41, ib41, mk41, Tryz.f41, kq]
            refine fun _ => ⟨fun _ => ⟨fun hk0 => ⟨by first | omega | (simp only [List.length_append, List.length_cons, List.length_nil]; omega), hlt, ?_⟩, fun hk0 => ⟨hlt, ?_⟩⟩, fun q => absurd hlt q⟩
            · first | refine HFnF.mk (ik) ?_ | refine CallSF.mk (ik) ?_ | refine HFnF.mkAt (ik) ?_ | refine CallSF.mk (FnAt.fn0 (ik)) ?_
              simp (maxSteps := 1000000) -dsimp -implicitDefEqProofs only [go_sem, ↓reduceIte, keep41, ib41, mk41, Tryz.f41]
              refine ⟨by first | omega | (simp only [List.length_append, List.length_cons, List.length_nil]; omega), k + 1, ⟨?_, IntWalk.i64_in _ (by omega)⟩, by omega, by omega⟩
              rw [hnx.1 (by omega)]
              simp
            · first | refine HFnF.mk (ik) ?_ | refine CallSF.mk (ik) ?_ | refine HFnF.mkAt (ik) ?_ | refine CallSF.mk (FnAt.fn0 (ik)) ?_
              simp (maxSteps := 1000000) -dsimp -implicitDefEqProofs only [go_sem, ↓reduceIte, keep41, ib41, mk41, Tryz.f41]
              refine ⟨by first | omega | (simp only [List.length_append, List.length_cons, List.length_nil]; omega), k + 1, ⟨?_, IntWalk.i64_in _ (by omega)⟩, by omega, by omega⟩
              rw [hnx.2 (by omega)]
              obtain rfl : k = 0 := by omega
              simp [semis]
          · have hk' : k = e.fKids.length := by omega
            rw [hk', List.take_of_length_le (by simp)] at hpre ⊢
            have hnk : ¬ e.fKids.length < e.fKids.length := Nat.lt_irrefl _
            simp (maxSteps := 1000000) -dsimp -implicitDefEqProofs only [go_sem, ↓reduceIte, keep41, ib41, mk41, Tryz.f41, kq, hnk]
            exact fun _ => ⟨by first | omega | (simp only [List.length_append, List.length_cons, List.length_nil]; omega), by rw [htxt]; simp⟩
        · obtain ⟨f, ef, en, hfl, hn0, hn1, hi, hcn⟩ := h.call hp (.inr kq)
          have hT : headT p e.fKind e.fNum e.fPick e.fCount = f.fName ++ [46] ++ Go.Lib.itoa e.fPick ++ [94] ++ Go.Lib.itoa e.fCount := by rw [headT, if_neg (by omega), if_neg (by omega), if_neg (by omega), if_neg (by omega), en]; simp
          have hi2 := itoa_num hi
          have hc2 := itoa_num hcn
          refine fn0F 140 keep41 ib41 mk41 mix Tryz.func41 rfl (by kernel_rfl) (by simp) fun h => ?_
          simp (maxSteps := 1000000) -dsimp -implicitDefEqProofs only [go_sem, ↓reduceIte, keep41, ib41, mk41, Tryz.f41, kq, ef, DFunc.c_eq]
          refine ⟨hn0, hn1, by omega, ?_⟩
          first | refine HFnF.mk (Decimal (e.fPick.toNat + 1) e.fPick hi.1 (by have := hi.1; omega) (by have := hi.2; omega)) ?_ | refine CallSF.mk (Decimal (e.fPick.toNat + 1) e.fPick hi.1 (by have := hi.1; omega) (by have := hi.2; omega)) ?_ | refine HFnF.mkAt (Decimal (e.fPick.toNat + 1) e.fPick hi.1 (by have := hi.1; omega) (by have := hi.2; omega)) ?_ | refine CallSF.mk (FnAt.fn0 (Decimal (e.fPick.toNat + 1) e.fPick hi.1 (by have := hi.1; omega) (by have := hi.2; omega))) ?_
          simp (maxSteps := 1000000) -dsimp -implicitDefEqProofs only [go_sem, ↓reduceIte, keep41, ib41, mk41, Tryz.f41]
          repeat' (with_reducible first | intro _ | refine And.intro ?_ ?_)
          all_goals try (first | omega | (simp only [List.length_append, List.length_cons, List.length_nil]; omega))
          first | refine HFnF.mk (Decimal (e.fCount.toNat + 1) e.fCount hcn.1 (by have := hcn.1; omega) (by have := hcn.2; omega)) ?_ | refine CallSF.mk (Decimal (e.fCount.toNat + 1) e.fCount hcn.1 (by have := hcn.1; omega) (by have := hcn.2; omega)) ?_ | refine HFnF.mkAt (Decimal (e.fCount.toNat + 1) e.fCount hcn.1 (by have := hcn.1; omega) (by have := hcn.2; omega)) ?_ | refine CallSF.mk (FnAt.fn0 (Decimal (e.fCount.toNat + 1) e.fCount hcn.1 (by have := hcn.1; omega) (by have := hcn.2; omega))) ?_
          simp (maxSteps := 1000000) -dsimp -implicitDefEqProofs only [go_sem, ↓reduceIte, keep41, ib41, mk41, Tryz.f41]
          repeat' (with_reducible first | intro _ | refine And.intro ?_ ?_)
          all_goals try (first | omega | (simp only [List.length_append, List.length_cons, List.length_nil]; omega))
          rw [hT] at htxt
          refine loopF (keep := keep41) (ib := ib41) (mk := mk41) mix (by kernel_rfl) (fun k : Nat => [(0, .ip 1 [[sls 3 DFunc.c p.fFuncs]] 0 0), (1, .ip 5 [[I 11, I e.fNum, I e.fPick, I e.fCount, sls 5 DExpr.c e.fKids]] 0 0), (5, .str ((f.fName ++ [46] ++ Go.Lib.itoa e.fPick ++ [94] ++ Go.Lib.itoa e.fCount) ++ 40 :: semis ((e.fKids.map (DExpr.txt p)).take k))), (6, I k)]) (fun _ => h) (fun k => k ≤ e.fKids.length) (fun k => e.fKids.length - k) 0 (by simp [SatL, tget, Heap.le_refl, kq, semis]) ?_
          intro k hk
          have hpre := hall k
          rcases Nat.lt_or_ge k e.fKids.length with hlt | hge
          · have ik := (ih k hlt).sub (xs := [.ip 1 [[sls 3 DFunc.c p.fFuncs]] 0 0, .ip 5 (e.fKids.map DExpr.c) k 0]) (.cons (.refl _) (.cons (Sub.ip (map_get hlt) (by simp)) .nil))
            have hkk := hkl k hlt
            have hnx := semis_next (p := p) hlt
            simp (maxSteps := 1000000) -dsimp -implicitDefEqProofs only [go_sem, ↓reduceIte, keep41, ib41, mk41, Tryz.f41, kq]
            refine fun _ => ⟨fun _ => ⟨fun hk0 => ⟨by first | omega | (simp only [List.length_append, List.length_cons, List.length_nil]; omega), hlt, ?_⟩, fun hk0 => ⟨hlt, ?_⟩⟩, fun q => absurd hlt q⟩
            · first | refine HFnF.mk (ik) ?_ | refine CallSF.mk (ik) ?_ | refine HFnF.mkAt (ik) ?_ | refine CallSF.mk (FnAt.fn0 (ik)) ?_
              simp (maxSteps := 1000000) -dsimp -implicitDefEqProofs only [go_sem, ↓reduceIte, keep41, ib41, mk41, Tryz.f41]
              refine ⟨by first | omega | (simp only [List.length_append, List.length_cons, List.length_nil]; omega), k + 1, ⟨?_, IntWalk.i64_in _ (by omega)⟩, by omega, by omega⟩
              rw [hnx.1 (by omega)]
              simp
            · first | refine HFnF.mk (ik) ?_ | refine CallSF.mk (ik) ?_ | refine HFnF.mkAt (ik) ?_ | refine CallSF.mk (FnAt.fn0 (ik)) ?_
              simp (maxSteps := 1000000) -dsimp -implicitDefEqProofs only [go_sem, ↓reduceIte, keep41, ib41, mk41, Tryz.f41]
              refine ⟨by first | omega | (simp only [List.length_append, List.length_cons, List.length_nil]; omega), k + 1, ⟨?_, IntWalk.i64_in _ (by omega)⟩, by omega, by omega⟩
              rw [hnx.2 (by omega)]
              obtain rfl : k = 0 := by omega
              simp [semis]
          · have hk' : k = e.fKids.length := by omega
            rw [hk', List.take_of_length_le (by simp)] at hpre ⊢
            have hnk : ¬ e.fKids.length < e.fKids.length := Nat.lt_irrefl _
            simp (maxSteps := 1000000) -dsimp -implicitDefEqProofs only [go_sem, ↓reduceIte, keep41, ib41, mk41, Tryz.f41, kq, hnk]
            exact fun _ => ⟨by first | omega | (simp only [List.length_append, List.length_cons, List.length_nil]; omega), by rw [htxt]; simp⟩
termination_by e.s
open Go.Proofs
set_option linter.unusedVariables false
set_option linter.unusedSimpArgs false
open Go.Lib
/-- What a builder holds. -/
def bldQ (l : List UInt8) (b : Nat) (S : Nat → Prop) (w : World) : Prop :=
  ∃ p v, (p = .pointer none ∨ p = .pointer (some ⟨b, 0, none⟩)) ∧ w.heap[b]? = some (.cells #[p, v] 114 (0, 0)) ∧ w.ownsRowF 0 5 1 v l.length (byteCells l) ∧ v.ownBlock ≠ some b ∧ (∀ g, v.ownBlock = some g → S g) ∧ (l = [] → v = .slice none 0 0)
theorem bldQ_ok (l : List UInt8) : AbsOK (bldQ l) := fun b S w0 w hq hb ha => by
  obtain ⟨p, v, hp, hc, ho, hn, hs, hl⟩ := hq
  refine ⟨p, v, hp, (ha b hb).trans hc, ⟨ho.1, ?_⟩, hn, hs, hl⟩
  rcases ho.2 with q | ⟨g, cap, cur, fz, rfl, h1, h2, h3⟩
  · exact .inl q
  · exact .inr ⟨g, cap, cur, fz, rfl, h1, (ha g (hs g (by simp [Value.ownBlock]))).trans h2, h3⟩
abbrev bld (l : List UInt8) : HObj := .abs (bldQ l)
theorem bld_fresh {h : Heap} {n : Nat} (hn : h n = some (.raw 114 #[.pointer none, .slice none 0 0])) : (upd h n (bld [])).wk h :=
  Heap.wk_abs hn fun b S w hb hc => ⟨_, _, .inl rfl, hc, ⟨rfl, .inl ⟨rfl, rfl⟩⟩, by simp [Value.ownBlock], fun g hg => by simp [Value.ownBlock] at hg, fun _ => rfl⟩
theorem bld_fr {l' : List UInt8} {b : Nat} {S : Nat → Prop} {w w' : World} {v v' : Value} (hS : S b) (hs : ∀ g, v.ownBlock = some g → S g) (hb' : w'.heap[b]? = some (.cells #[.pointer (some ⟨b, 0, none⟩), v'] 114 (0, 0)))
    (ho' : w'.ownsRowF 0 5 1 v' l'.length (byteCells l')) (hne : v'.ownBlock ≠ some b) (hnew : ∀ g, v'.ownBlock = some g → v.ownBlock = some g ∨ w.heap.size ≤ g) (F : GbFr w w' b v.ownBlock) (hl' : l' = [] → v' = .slice none 0 0) :
    ∃ S' : Nat → Prop, S' b ∧ bldQ l' b S' w' ∧ AbsFr w w' S S' := by
  refine ⟨fun c => c = b ∨ v'.ownBlock = some c, .inl rfl, ⟨_, v', .inr rfl, hb', ho', hne, fun g hg => .inr hg, hl'⟩, fun c hc => ?_, fun c hc => ?_, F.size, fun c hc hn => F.block c hc (fun e => hn (e ▸ hS)) (fun e => hn (hs c e)), F.shape, F.os, F.out⟩
  · rcases hc with rfl | hc
    · exact .inl hS
    · exact (hnew c hc).imp (hs c) id
  · rcases hc with rfl | hc
    · exact (Array.getElem?_eq_some_iff.1 hb').1
    · exact (ho'.lt c hc).2
theorem fn_bld {P : Program} {f : FuncId} {n : Nat} {h : Heap} {l l' : List UInt8} {xs : List HVal} {r : HVal} (hc : callable P f = true) (hn : h n = some (bld l))
    (H : ∀ (E : Env) (g : Heap) (b : Nat) (w : World) (vs : List Value) (p v : Value), RepL E g w xs vs → (p = .pointer none ∨ p = .pointer (some ⟨b, 0, none⟩)) → w.heap[b]? = some (.cells #[p, v] 114 (0, 0)) → w.ownsRowF 0 5 1 v l.length (byteCells l) → v.ownBlock ≠ some b → (l = [] → v = .slice none 0 0) →
      Calls P f (Value.pointer (some ⟨b, 0, none⟩) :: vs).toArray w fun e w' => ∃ u, e = .returned u ∧ (∀ E' h' w', Rep E' h' w' r u) ∧ ∃ v', w'.heap[b]? = some (.cells #[.pointer (some ⟨b, 0, none⟩), v'] 114 (0, 0)) ∧
        w'.ownsRowF 0 5 1 v' l'.length (byteCells l') ∧ v'.ownBlock ≠ some b ∧ (∀ g, v'.ownBlock = some g → v.ownBlock = some g ∨ w.heap.size ≤ g) ∧ GbFr w w' b v.ownBlock ∧ (l' = [] → v' = .slice none 0 0)) :
    HFn P f (.op n 2 0 0 :: xs) h fun r' h' => r' = r ∧ h' = upd h n (bld l') :=
  fn_abs hc (bldQ_ok l) hn fun E g b S w vs rl hq hS hlt => by
    obtain ⟨p, v, hp, hb, ho, hne, hs, hl⟩ := hq
    refine (H E g b w vs p v rl hp hb ho hne hl).mono ?_
    rintro e w' ⟨u, rfl, hu, v', h1, h2, h3, h4, h5, h6⟩
    obtain ⟨S', a1, a2, a3⟩ := bld_fr hS hs h1 h2 h3 h4 h5 h6
    exact ⟨u, S', rfl, hu, a1, a2, a3⟩
theorem RepL.tupX {E : Env} {h : Heap} {w : World} {xs : List HVal} {vs : List Value} (r : RepL E h w xs vs) : Rep E h w (.tup xs) (.tuple vs.toArray) := .tup _ _ r.length r.get
theorem writeString (l s : List UInt8) (hlen : l.length + s.length ≤ 140737488355328) {n : Nat} {h : Heap} (hn : h n = some (bld l)) : HFn Tryz.prog 102 [.op n 2 0 0, .str s] h fun r h' => r = .tup [I s.length, .nilif] ∧ h' = upd h n (bld (l ++ s)) :=
  fn_bld (by kernel_rfl) hn fun E g b w vs p v rl hp hb ho hne hl => by
    match vs, rl with
    | [v1], rl =>
      obtain ⟨r1, _⟩ := rl
      obtain ⟨rfl, h1⟩ := rep_str r1
      refine (gb_ws b l s w p v hp hb ho hne hlen).mono ?_
      rintro e w' ⟨rfl, v', h1, h2, h3, h4, h5, h6⟩
      exact ⟨_, rfl, fun E' h' w' => RepL.tupX (xs := [_, _]) (vs := [_, _]) ⟨.int _ _, .nilif, trivial⟩, v', h1, h2, h3, h4, h5, fun q => h6 q (hl (List.append_eq_nil_iff.1 q).1)⟩
theorem writeByte (l : List UInt8) (c : UInt8) (hlen : l.length + 1 ≤ 140737488355328) {n : Nat} {h : Heap} (hn : h n = some (bld l)) : HFn Tryz.prog 101 [.op n 2 0 0, .int .u8 c.toNat] h fun r h' => r = .nilif ∧ h' = upd h n (bld (l ++ [c])) :=
  fn_bld (by kernel_rfl) hn fun E g b w vs p v rl hp hb ho hne hl => by
    match vs, rl with
    | [v1], rl =>
      obtain ⟨r1, _⟩ := rl
      rw [rep_int r1]
      refine (gb_wb b l c w p v hp hb ho hne hlen).mono ?_
      rintro e w' ⟨rfl, v', h1, h2, h3, h4, h5, h6⟩
      exact ⟨_, rfl, fun E' h' w' => .nilif, v', h1, h2, h3, h4, h5, fun q => by simp at q⟩
/-- The text of a builder, which is given up. -/
theorem builderString (l : List UInt8) (hlen : l.length ≤ maxLen) {n : Nat} {h : Heap} (hn : h n = some (bld l)) : HFn Tryz.prog 80 [.op n 2 0 0] h fun r h' => r = .str l ∧ h' = upd h n (.abs fun _ _ _ => True) :=
  fn_abs (by kernel_rfl) (bldQ_ok l) hn fun E g b S w vs rl hq hS hlt => by
    match vs, rl with
    | [], _ =>
      obtain ⟨p, v, hp, hb, ho, hne, hs, hl⟩ := hq
      have mk : ∀ w' : World, GbFr w w' b v.ownBlock → AbsFr w w' S S := fun w' F => ⟨fun c hc => .inl hc, fun c hc => Nat.lt_of_lt_of_le (hlt c hc) F.size, F.size, fun c hc hn => F.block c hc (fun e => hn (e ▸ hS)) (fun e => hn (hs c e)), F.shape, F.os, F.out⟩
      by_cases h0 : l = []
      · subst h0
        obtain rfl := hl rfl
        refine (gb_str_nil b w p hb).mono ?_
        rintro e w' ⟨rfl, rfl⟩
        exact ⟨_, S, rfl, fun _ _ _ => .str [] (Nat.zero_le _), hS, trivial, mk _ ⟨Nat.le_refl _, fun _ _ _ _ => rfl, fun _ _ => rfl, rfl, rfl⟩⟩
      · refine (gb_str b l w p v hb ho h0).mono ?_
        rintro e w' ⟨rfl, F⟩
        exact ⟨_, S, rfl, fun _ _ _ => .str l hlen, hS, trivial, mk _ F⟩
open Go.Proofs
set_option linter.unusedVariables false
set_option linter.unusedSimpArgs false
def keep75 : List Nat := [0, 2, 4]
def ib75 : List Nat := []
def mk75 : Marks := fun _ => ([], .nil, [])
theorem signI (k : Int) (hk : 3 ≤ k ∧ k ≤ 6) : Fn0 Tryz.prog 75 [I k] (.int .u8 (signB k).toNat) := by
  rcases (by omega : k = 3 ∨ k = 4 ∨ k = 5 ∨ k = 6) with rfl | rfl | rfl | rfl
  · refine fn0F 8 keep75 ib75 mk75 mix Tryz.func75 rfl (by kernel_rfl) (by simp) fun h => ?_
    simp (maxSteps := 1000000) -dsimp -implicitDefEqProofs only [go_sem, ↓reduceIte, keep75, ib75, mk75, Tryz.f75]
    first | refine HFnF.mk (within 3 3 6) ?_ | refine CallSF.mk (within 3 3 6) ?_ | refine HFnF.mkAt (within 3 3 6) ?_ | refine CallSF.mk (FnAt.fn0 (within 3 3 6)) ?_
    simp (maxSteps := 1000000) -dsimp -implicitDefEqProofs only [go_sem, ↓reduceIte, keep75, ib75, mk75, Tryz.f75]
    have w0 : IntKind.i64.wrap ((3 : Int) - 3) = 0 := rfl
    have w1 : ([43, 45, 42, 47] : List UInt8)[Int.toNat 0]? = some 43 := rfl
    simp (maxSteps := 1000000) -dsimp -implicitDefEqProofs only [go_sem, ↓reduceIte, keep75, ib75, mk75, Tryz.f75, w0, w1]
    repeat' (with_reducible first | intro _ | refine And.intro ?_ ?_)
    all_goals first
      | decide
      | rfl
  · refine fn0F 8 keep75 ib75 mk75 mix Tryz.func75 rfl (by kernel_rfl) (by simp) fun h => ?_
    simp (maxSteps := 1000000) -dsimp -implicitDefEqProofs only [go_sem, ↓reduceIte, keep75, ib75, mk75, Tryz.f75]
    first | refine HFnF.mk (within 4 3 6) ?_ | refine CallSF.mk (within 4 3 6) ?_ | refine HFnF.mkAt (within 4 3 6) ?_ | refine CallSF.mk (FnAt.fn0 (within 4 3 6)) ?_
    simp (maxSteps := 1000000) -dsimp -implicitDefEqProofs only [go_sem, ↓reduceIte, keep75, ib75, mk75, Tryz.f75]
    have w0 : IntKind.i64.wrap ((4 : Int) - 3) = 1 := rfl
    have w1 : ([43, 45, 42, 47] : List UInt8)[Int.toNat 1]? = some 45 := rfl
    simp (maxSteps := 1000000) -dsimp -implicitDefEqProofs only [go_sem, ↓reduceIte, keep75, ib75, mk75, Tryz.f75, w0, w1]
    repeat' (with_reducible first | intro _ | refine And.intro ?_ ?_)
    all_goals first
      | decide
      | rfl
  · refine fn0F 8 keep75 ib75 mk75 mix Tryz.func75 rfl (by kernel_rfl) (by simp) fun h => ?_
    simp (maxSteps := 1000000) -dsimp -implicitDefEqProofs only [go_sem, ↓reduceIte, keep75, ib75, mk75, Tryz.f75]
    first | refine HFnF.mk (within 5 3 6) ?_ | refine CallSF.mk (within 5 3 6) ?_ | refine HFnF.mkAt (within 5 3 6) ?_ | refine CallSF.mk (FnAt.fn0 (within 5 3 6)) ?_
    simp (maxSteps := 1000000) -dsimp -implicitDefEqProofs only [go_sem, ↓reduceIte, keep75, ib75, mk75, Tryz.f75]
    have w0 : IntKind.i64.wrap ((5 : Int) - 3) = 2 := rfl
    have w1 : ([43, 45, 42, 47] : List UInt8)[Int.toNat 2]? = some 42 := rfl
    simp (maxSteps := 1000000) -dsimp -implicitDefEqProofs only [go_sem, ↓reduceIte, keep75, ib75, mk75, Tryz.f75, w0, w1]
    repeat' (with_reducible first | intro _ | refine And.intro ?_ ?_)
    all_goals first
      | decide
      | rfl
  · refine fn0F 8 keep75 ib75 mk75 mix Tryz.func75 rfl (by kernel_rfl) (by simp) fun h => ?_
    simp (maxSteps := 1000000) -dsimp -implicitDefEqProofs only [go_sem, ↓reduceIte, keep75, ib75, mk75, Tryz.f75]
    first | refine HFnF.mk (within 6 3 6) ?_ | refine CallSF.mk (within 6 3 6) ?_ | refine HFnF.mkAt (within 6 3 6) ?_ | refine CallSF.mk (FnAt.fn0 (within 6 3 6)) ?_
    simp (maxSteps := 1000000) -dsimp -implicitDefEqProofs only [go_sem, ↓reduceIte, keep75, ib75, mk75, Tryz.f75]
    have w0 : IntKind.i64.wrap ((6 : Int) - 3) = 3 := rfl
    have w1 : ([43, 45, 42, 47] : List UInt8)[Int.toNat 3]? = some 47 := rfl
    simp (maxSteps := 1000000) -dsimp -implicitDefEqProofs only [go_sem, ↓reduceIte, keep75, ib75, mk75, Tryz.f75, w0, w1]
    repeat' (with_reducible first | intro _ | refine And.intro ?_ ?_)
    all_goals first
      | decide
      | rfl
open Go.Proofs
set_option linter.unusedVariables false
set_option linter.unusedSimpArgs false
theorem le_bld {g : Heap} {nb b : Nat} {X Y R : HObj} (hne : ¬ b = nb) (hb : g b = none) : (upd g nb Y).le (upd (upd (upd g nb X) b R) nb Y) := fun q => by
  by_cases e : q = nb
  · subst e; right; rw [upd_same, upd_same]
  · by_cases e2 : q = b
    · subst e2; left; rw [upd_ne _ _ _ _ e]; exact hb
    · right; rw [upd_ne _ _ _ _ e, upd_ne _ _ _ _ e, upd_ne _ _ _ _ e2, upd_ne _ _ _ _ e]
def keep100 : List Nat := [0, 1, 2, 3, 4, 8, 9, 10, 11, 16]
def ib100 : List Nat := []
def mk100 : Marks := fun _ => ([], .nil, [])
set_option maxRecDepth 100000 in
theorem writeList {p : DProgram} (hp : p.ok) {funcs vars : Int} (e : DExpr) (h : Stands p funcs e vars) {nb : Nat}
    (ih : ∀ (k : Nat) (hk : k < e.fKids.length) (g : Heap) (l : List UInt8), g nb = some (bld l) → l.length + 64 * (e.fKids[k].s + 1) ≤ 1099511627776 → HFn Tryz.prog 79 [.agg p.c, .op nb 2 0 0, .agg e.fKids[k].c] g fun r h' => r = .tup [] ∧ (upd g nb (bld (l ++ e.fKids[k].txt p))).le h')
    (g : Heap) (l : List UInt8) (hb : g nb = some (bld l)) (hlen : l.length + 64 * e.s + 8 ≤ 1099511627776) :
    HFn Tryz.prog 100 [.ip 1 [[.op nb 2 0 0]] 0 0, .ip 5 [e.c] 0 0, .ip 1 [p.c] 0 0] g fun r h' => r = .tup [] ∧ (upd g nb (bld (l ++ 40 :: (semis (e.fKids.map (DExpr.txt p)) ++ [41])))).le h' := by
  have hall := semis_take hp h
  simp only [DExpr.c_eq, DProgram.c_eq] at ih ⊢
  refine fnKF 26 keep100 ib100 mk100 mix Tryz.func100 rfl (by kernel_rfl) (by simp) ?_
  simp (maxSteps := 1000000) -dsimp -implicitDefEqProofs only [go_sem, ↓reduceIte, keep100, ib100, mk100, Tryz.f100, hb]
  refine HFnF.mkH (writeByte l 40 (by omega) hb) ?_
  rintro r_ h' ⟨rfl, rfl⟩
  simp (maxSteps := 1000000) -dsimp -implicitDefEqProofs only [go_sem, ↓reduceIte, keep100, ib100, mk100, Tryz.f100]
  intro _
  refine loopF (keep := keep100) (ib := ib100) (mk := mk100) mix (by kernel_rfl) (fun k : Nat => [(0, .ip 1 [[.op nb 2 0 0]] 0 0), (1, .ip 5 [[I e.fKind, I e.fNum, I e.fPick, I e.fCount, sls 5 DExpr.c e.fKids]] 0 0), (2, .ip 1 [[sls 3 DFunc.c p.fFuncs]] 0 0), (8, sls 5 DExpr.c e.fKids), (9, I e.fKids.length), (10, I k)]) (fun k => upd g nb (bld (l ++ 40 :: semis ((e.fKids.map (DExpr.txt p)).take k)))) (fun k => k ≤ e.fKids.length) (fun k => e.fKids.length - k) 0 ⟨by simp [SatL, tget], Heap.le_refl _, Nat.zero_le _⟩ ?_
  intro k hk
  have hpre := hall k
  rcases Nat.lt_or_ge k e.fKids.length with hlt | hge
  · have ea : e.fKids[k]? = some e.fKids[k] := List.getElem?_eq_getElem hlt
    have hnx := semis_next (p := p) hlt
    have hrm := semis_room hp h hlt
    simp (maxSteps := 1000000) -dsimp -implicitDefEqProofs only [go_sem, ↓reduceIte, keep100, ib100, mk100, Tryz.f100, ea, DExpr.c_eq]
    refine ⟨fun _ => ⟨hlt, fun b hb2 => ⟨fun hk0 => ?_, fun hk0 => ?_⟩⟩, fun q => absurd hlt q⟩
    · have d_b_nb : ¬ b = nb := hb2.1
      have d_nb_b : ¬ nb = b := Ne.symm d_b_nb
      have e_b_nb : (b = nb) = False := eq_false d_b_nb
      have e_nb_b : (nb = b) = False := eq_false d_nb_b
      rw [upd_upd]
      refine HFnF.mkH (writeString (l ++ 40 :: semis ((e.fKids.map (DExpr.txt p)).take k)) [59, 32] (by simp only [List.length_append, List.length_cons, List.length_nil]; omega) (by rw [upd_ne _ _ _ _ d_nb_b, upd_same])) ?_
      rintro r_ h' ⟨rfl, rfl⟩
      simp (maxSteps := 1000000) -dsimp -implicitDefEqProofs only [go_sem, ↓reduceIte, keep100, ib100, mk100, Tryz.f100, e_b_nb, e_nb_b, upd_ne, DExpr.c_eq]
      refine HFnF.mkH (ih k hlt _ _ (upd_same ..) (by simp only [List.length_append, List.length_cons, List.length_nil]; omega)) ?_
      rintro r_ h' ⟨rfl, hle⟩
      simp (maxSteps := 1000000) -dsimp -implicitDefEqProofs only [go_sem, ↓reduceIte, keep100, ib100, mk100, Tryz.f100]
      have et : l ++ 40 :: semis ((e.fKids.map (DExpr.txt p)).take (k + 1)) = (l ++ 40 :: semis ((e.fKids.map (DExpr.txt p)).take k)) ++ [59, 32] ++ e.fKids[k].txt p := by rw [hnx.1 (by omega)]; simp
      rw [upd_upd, ← et] at hle
      exact ⟨k + 1, IntWalk.i64_in _ (by omega), Heap.le_trans (le_bld hb2.1 hb2.2) hle, by omega, by omega⟩
    · have d_b_nb : ¬ b = nb := hb2.1
      have d_nb_b : ¬ nb = b := Ne.symm d_b_nb
      have e_b_nb : (b = nb) = False := eq_false d_b_nb
      have e_nb_b : (nb = b) = False := eq_false d_nb_b
      rw [upd_upd]
      refine HFnF.mkH (ih k hlt _ _ (by rw [upd_ne _ _ _ _ d_nb_b, upd_same]) (by simp only [List.length_append, List.length_cons, List.length_nil]; omega)) ?_
      rintro r_ h' ⟨rfl, hle⟩
      simp (maxSteps := 1000000) -dsimp -implicitDefEqProofs only [go_sem, ↓reduceIte, keep100, ib100, mk100, Tryz.f100]
      have et : l ++ 40 :: semis ((e.fKids.map (DExpr.txt p)).take (k + 1)) = (l ++ 40 :: semis ((e.fKids.map (DExpr.txt p)).take k)) ++ e.fKids[k].txt p := by
        rw [hnx.2 (by omega)]
        obtain rfl : k = 0 := by omega
        simp [semis]
      rw [← et] at hle
      exact ⟨k + 1, IntWalk.i64_in _ (by omega), Heap.le_trans (le_bld hb2.1 hb2.2) hle, by omega, by omega⟩
  · have hk' : k = e.fKids.length := by omega
    rw [hk', List.take_of_length_le (by simp)] at hpre ⊢
    have hnk : ¬ e.fKids.length < e.fKids.length := Nat.lt_irrefl _
    simp (maxSteps := 1000000) -dsimp -implicitDefEqProofs only [go_sem, ↓reduceIte, keep100, ib100, mk100, Tryz.f100, hnk]
    refine HFnF.mkH (writeByte _ 41 (by simp only [List.length_append, List.length_cons, List.length_nil]; omega) (upd_same ..)) ?_
    rintro r_ h' ⟨rfl, rfl⟩
    simp (maxSteps := 1000000) -dsimp -implicitDefEqProofs only [go_sem, ↓reduceIte, keep100, ib100, mk100, Tryz.f100]
    rw [upd_upd]
    refine ⟨_, _, shift_le (Heap.le_refl _), rfl, ?_⟩
    rw [show l ++ 40 :: (semis (e.fKids.map (DExpr.txt p)) ++ [41]) = l ++ 40 :: semis (e.fKids.map (DExpr.txt p)) ++ [41] by simp]
    exact Heap.le_refl _
open Go.Proofs
set_option linter.unusedVariables false
set_option linter.unusedSimpArgs false
def keep79 : List Nat := [0, 1, 2, 3, 4, 5, 6, 9, 37, 44, 52, 58, 64, 70, 88]
def ib79 : List Nat := [3, 4, 5, 23]
def mk79 : Marks := fun id => match id with | 4 => ([6], (.op 0 (.op 1 (.op 2 (.op 3 (.op 4 (.op 5 (.op 6 .nil))))))), []) | 5 => ([3, 8], (.op 0 (.op 1 (.op 2 (.op 3 (.op 4 (.op 5 (.op 6 (.op 7 (.op 8 .nil))))))))), []) | 6 => ([6], (.op 0 (.op 1 (.op 2 (.op 3 (.op 4 (.op 5 (.op 6 .nil))))))), []) | 9 => ([3, 4], (.op 0 (.op 1 (.op 2 (.op 3 (.op 4 .nil))))), []) | 11 => ([3, 5], (.op 0 (.op 1 (.op 2 (.op 3 (.op 4 (.op 5 .nil)))))), []) | 22 => ([11, 13], (.op 0 (.op 1 (.op 2 (.op 3 (.op 4 (.op 5 (.op 6 (.op 7 (.op 8 (.op 9 (.op 10 (.op 11 (.op 12 (.op 13 .nil)))))))))))))), []) | 25 => ([11, 16, 18], (.op 0 (.op 1 (.op 2 (.op 3 (.op 4 (.op 5 (.op 6 (.op 7 (.op 8 (.op 9 (.op 10 (.op 14 (.op 15 (.op 11 (.op 12 (.op 13 (.op 16 (.op 17 (.op 18 .nil))))))))))))))))))), []) | _ => ([], .nil, [])
theorem le_re {g h : Heap} {nb : Nat} {X Y : HObj} (hle : (upd g nb X).le h) : (upd g nb Y).le (upd h nb Y) := fun q => by
  by_cases e : q = nb
  · subst e; right; rw [upd_same, upd_same]
  · have := hle q
    rw [upd_ne _ _ _ _ e] at this
    rw [upd_ne _ _ _ _ e, upd_ne _ _ _ _ e]; exact this
set_option maxRecDepth 100000 in
set_option maxHeartbeats 1000000 in
theorem write {p : DProgram} (hp : p.ok) {funcs : Int} (e : DExpr) (vars : Int) (h : Stands p funcs e vars) {nb : Nat} (g : Heap) (l : List UInt8) (hb : g nb = some (bld l)) (hlen : l.length + 64 * (e.s + 1) ≤ 1099511627776) :
    HFn Tryz.prog 79 [.agg p.c, .op nb 2 0 0, .agg e.c] g fun r h' => r = .tup [] ∧ (upd g nb (bld (l ++ e.txt p))).le h' := by
  have ih : ∀ (k : Nat) (hk : k < e.fKids.length) (g : Heap) (l : List UInt8), g nb = some (bld l) → l.length + 64 * (e.fKids[k].s + 1) ≤ 1099511627776 → HFn Tryz.prog 79 [.agg p.c, .op nb 2 0 0, .agg e.fKids[k].c] g fun r h' => r = .tup [] ∧ (upd g nb (bld (l ++ e.fKids[k].txt p))).le h' := fun k hk g l hb hlen => by
    obtain ⟨v, hv⟩ := h.kid hk
    have hks := DExpr.kid_s (List.getElem_mem hk)
    exact write hp e.fKids[k] v hv g l hb hlen
  have hwl := writeList hp e h ih
  have hkind := h.kind
  have htxt := DExpr.txt_eq p e
  simp only [DExpr.c_eq, DProgram.c_eq] at hwl ⊢
  by_cases k1 : e.fKind = 1
  · rw [if_pos k1] at htxt
    have hN := h.num (.inl k1)
    have hi := itoa_num hN
    refine fnKF 111 keep79 ib79 mk79 mix Tryz.func79 rfl (by kernel_rfl) (by simp) ?_
    simp (maxSteps := 1000000) -dsimp -implicitDefEqProofs only [go_sem, ↓reduceIte, keep79, ib79, mk79, Tryz.f79, hb, k1]
    first | refine HFnF.mk (decimal e.fNum hN) ?_ | refine CallSF.mk (decimal e.fNum hN) ?_ | refine HFnF.mkAt (decimal e.fNum hN) ?_ | refine CallSF.mk (FnAt.fn0 (decimal e.fNum hN)) ?_
    simp (maxSteps := 1000000) -dsimp -implicitDefEqProofs only [go_sem, ↓reduceIte, keep79, ib79, mk79, Tryz.f79]
    refine HFnF.mkH (writeString l _ (by omega) hb) ?_
    rintro r_ h' ⟨rfl, rfl⟩
    simp (maxSteps := 1000000) -dsimp -implicitDefEqProofs only [go_sem, ↓reduceIte, keep79, ib79, mk79, Tryz.f79]
    exact ⟨_, _, shift_le (Heap.le_refl _), rfl, by rw [htxt]; exact Heap.le_refl _⟩
  · by_cases k2 : e.fKind = 2
    · rw [if_neg k1, if_pos k2] at htxt
      have hN := h.num (.inr k2)
      have hi := itoa_num hN
      refine fnKF 111 keep79 ib79 mk79 mix Tryz.func79 rfl (by kernel_rfl) (by simp) ?_
      simp (maxSteps := 1000000) -dsimp -implicitDefEqProofs only [go_sem, ↓reduceIte, keep79, ib79, mk79, Tryz.f79, hb, k2]
      first | refine HFnF.mk (decimal e.fNum hN) ?_ | refine CallSF.mk (decimal e.fNum hN) ?_ | refine HFnF.mkAt (decimal e.fNum hN) ?_ | refine CallSF.mk (FnAt.fn0 (decimal e.fNum hN)) ?_
      simp (maxSteps := 1000000) -dsimp -implicitDefEqProofs only [go_sem, ↓reduceIte, keep79, ib79, mk79, Tryz.f79]
      refine ⟨by omega, HFnF.mkH (writeString l _ (by simp only [List.length_append, List.length_cons, List.length_nil]; omega) hb) ?_⟩
      rintro r_ h' ⟨rfl, rfl⟩
      simp (maxSteps := 1000000) -dsimp -implicitDefEqProofs only [go_sem, ↓reduceIte, keep79, ib79, mk79, Tryz.f79]
      exact ⟨_, _, shift_le (Heap.le_refl _), rfl, by rw [htxt]; exact Heap.le_refl _⟩
    · by_cases kb : 3 ≤ e.fKind ∧ e.fKind ≤ 6
      · rw [if_neg k1, if_neg k2, if_pos kb] at htxt
        have h2 := h.two kb
        match hk : e.fKids, h2 with
        | [a, b], _ =>
          have i0 := ih 0 (by rw [hk]; simp)
          have i1 := ih 1 (by rw [hk]; simp)
          have g0 : e.fKids[0]'(by rw [hk]; simp) = a := by simp [hk]
          have g1 : e.fKids[1]'(by rw [hk]; simp) = b := by simp [hk]
          rw [g0] at i0; rw [g1] at i1
          rw [hk] at htxt
          simp only [List.map_cons, List.map_nil] at htxt
          have ht : e.txt p = 40 :: (a.txt p ++ 32 :: signB e.fKind :: 32 :: (b.txt p ++ [41])) := htxt
          have hsab : a.s + b.s + 2 = e.s := by rw [e.s_eq, hk, szs_eq]; simp; omega
          obtain ⟨v0, hv0⟩ := h.kid (k := 0) (by rw [hk]; simp)
          have la := DExpr.txt_len hp _ _ hv0
          rw [g0] at la
          obtain ⟨v1, hv1⟩ := h.kid (k := 1) (by rw [hk]; simp)
          have lb := DExpr.txt_len hp _ _ hv1
          rw [g1] at lb
          have ga : ([DExpr.c a, DExpr.c b] : List (List HVal))[Int.toNat 0]? = some a.c := rfl
          have gb : ([DExpr.c a, DExpr.c b] : List (List HVal))[Int.toNat 1]? = some b.c := rfl
          simp only [DExpr.c_eq, DProgram.c_eq] at i0 i1 ga gb
          clear ih hwl htxt
          rcases (by omega : e.fKind = 3 ∨ e.fKind = 4 ∨ e.fKind = 5 ∨ e.fKind = 6) with kq | kq | kq | kq
          · have js : Fn0 Tryz.prog 75 [I 3] (.int .u8 43) := signI 3 (by decide)
            have hsg : signB e.fKind = 43 := by rw [kq]; rfl
            rw [hsg] at ht
            refine fnKF 111 keep79 ib79 mk79 mix Tryz.func79 rfl (by kernel_rfl) (by simp) ?_
            simp (maxSteps := 1000000) -dsimp -implicitDefEqProofs only [go_sem, ↓reduceIte, keep79, ib79, mk79, Tryz.f79, hb, kq]
            refine HFnF.mkH (writeByte l 40 (by omega) hb) ?_
            rintro r_ h1 ⟨rfl, rfl⟩
            simp (maxSteps := 1000000) -dsimp -implicitDefEqProofs only [go_sem, ↓reduceIte, keep79, ib79, mk79, Tryz.f79, ga, DExpr.c_eq]
            refine ⟨by decide, HFnF.mkH (i0 _ (l ++ [40]) (upd_same ..) (by simp only [List.length_append, List.length_cons, List.length_nil]; omega)) ?_⟩
            rintro r_ h2 ⟨rfl, hle2⟩
            have hb2 := Heap.le_get hle2 (upd_same ..)
            rw [upd_upd] at hle2
            simp (maxSteps := 1000000) -dsimp -implicitDefEqProofs only [go_sem, ↓reduceIte, keep79, ib79, mk79, Tryz.f79]
            first | refine HFnF.mk (js) ?_ | refine CallSF.mk (js) ?_ | refine HFnF.mkAt (js) ?_ | refine CallSF.mk (FnAt.fn0 (js)) ?_
            simp (maxSteps := 1000000) -dsimp -implicitDefEqProofs only [go_sem, ↓reduceIte, keep79, ib79, mk79, Tryz.f79]
            refine ⟨by decide, by decide, HFnF.mkH (writeString (l ++ [40] ++ a.txt p) [32, 43, 32] (by first | omega | (simp only [List.length_append, List.length_cons, List.length_nil]; omega)) hb2) ?_⟩
            rintro r_ h3 ⟨rfl, rfl⟩
            simp (maxSteps := 1000000) -dsimp -implicitDefEqProofs only [go_sem, ↓reduceIte, keep79, ib79, mk79, Tryz.f79, gb, DExpr.c_eq]
            refine ⟨by decide, HFnF.mkH (i1 _ (l ++ [40] ++ a.txt p ++ [32, 43, 32]) (upd_same ..) (by first | omega | (simp only [List.length_append, List.length_cons, List.length_nil]; omega))) ?_⟩
            rintro r_ h4 ⟨rfl, hle4⟩
            have hb4 := Heap.le_get hle4 (upd_same ..)
            rw [upd_upd] at hle4
            simp (maxSteps := 1000000) -dsimp -implicitDefEqProofs only [go_sem, ↓reduceIte, keep79, ib79, mk79, Tryz.f79]
            refine HFnF.mkH (writeByte (l ++ [40] ++ a.txt p ++ [32, 43, 32] ++ b.txt p) 41 (by first | omega | (simp only [List.length_append, List.length_cons, List.length_nil]; omega)) hb4) ?_
            rintro r_ h5 ⟨rfl, rfl⟩
            simp (maxSteps := 1000000) -dsimp -implicitDefEqProofs only [go_sem, ↓reduceIte, keep79, ib79, mk79, Tryz.f79]
            refine ⟨_, _, shift_le (Heap.le_refl _), rfl, ?_⟩
            rw [show l ++ e.txt p = l ++ [40] ++ a.txt p ++ [32, 43, 32] ++ b.txt p ++ [41] by rw [ht]; simp]
            exact le_re (Heap.le_trans (le_re hle2) hle4)
          · have js : Fn0 Tryz.prog 75 [I 4] (.int .u8 45) := signI 4 (by decide)
            have hsg : signB e.fKind = 45 := by rw [kq]; rfl
            rw [hsg] at ht
            refine fnKF 111 keep79 ib79 mk79 mix Tryz.func79 rfl (by kernel_rfl) (by simp) ?_
            simp (maxSteps := 1000000) -dsimp -implicitDefEqProofs only [go_sem, ↓reduceIte, keep79, ib79, mk79, Tryz.f79, hb, kq]
            refine HFnF.mkH (writeByte l 40 (by omega) hb) ?_
            rintro r_ h1 ⟨rfl, rfl⟩
            simp (maxSteps := 1000000) -dsimp -implicitDefEqProofs only [go_sem, ↓reduceIte, keep79, ib79, mk79, Tryz.f79, ga, DExpr.c_eq]
            refine ⟨by decide, HFnF.mkH (i0 _ (l ++ [40]) (upd_same ..) (by simp only [List.length_append, List.length_cons, List.length_nil]; omega)) ?_⟩
            rintro r_ h2 ⟨rfl, hle2⟩
            have hb2 := Heap.le_get hle2 (upd_same ..)
            rw [upd_upd] at hle2
            simp (maxSteps := 1000000) -dsimp -implicitDefEqProofs only [go_sem, ↓reduceIte, keep79, ib79, mk79, Tryz.f79]
            first | refine HFnF.mk (js) ?_ | refine CallSF.mk (js) ?_ | refine HFnF.mkAt (js) ?_ | refine CallSF.mk (FnAt.fn0 (js)) ?_
            simp (maxSteps := 1000000) -dsimp -implicitDefEqProofs only [go_sem, ↓reduceIte, keep79, ib79, mk79, Tryz.f79]
            refine ⟨by decide, by decide, HFnF.mkH (writeString (l ++ [40] ++ a.txt p) [32, 45, 32] (by first | omega | (simp only [List.length_append, List.length_cons, List.length_nil]; omega)) hb2) ?_⟩
            rintro r_ h3 ⟨rfl, rfl⟩
            simp (maxSteps := 1000000) -dsimp -implicitDefEqProofs only [go_sem, ↓reduceIte, keep79, ib79, mk79, Tryz.f79, gb, DExpr.c_eq]
            refine ⟨by decide, HFnF.mkH (i1 _ (l ++ [40] ++ a.txt p ++ [32, 45, 32]) (upd_same ..) (by first | omega | (simp only [List.length_append, List.length_cons, List.length_nil]; omega))) ?_⟩
            rintro r_ h4 ⟨rfl, hle4⟩
            have hb4 := Heap.le_get hle4 (upd_same ..)
            rw [upd_upd] at hle4
            simp (maxSteps := 1000000) -dsimp -implicitDefEqProofs only [go_sem, ↓reduceIte, keep79, ib79, mk79, Tryz.f79]
            refine HFnF.mkH (writeByte (l ++ [40] ++ a.txt p ++ [32, 45, 32] ++ b.txt p) 41 (by first | omega | (simp only [List.length_append, List.length_cons, List.length_nil]; omega)) hb4) ?_
            rintro r_ h5 ⟨rfl, rfl⟩
            simp (maxSteps := 1000000) -dsimp -implicitDefEqProofs only [go_sem, ↓reduceIte, keep79, ib79, mk79, Tryz.f79]
            refine ⟨_, _, shift_le (Heap.le_refl _), rfl, ?_⟩
            rw [show l ++ e.txt p = l ++ [40] ++ a.txt p ++ [32, 45, 32] ++ b.txt p ++ [41] by rw [ht]; simp]
            exact le_re (Heap.le_trans (le_re hle2) hle4)
          · have js : Fn0 Tryz.prog 75 [I 5] (.int .u8 42) := signI 5 (by decide)
            have hsg : signB e.fKind = 42 := by rw [kq]; rfl
            rw [hsg] at ht
            refine fnKF 111 keep79 ib79 mk79 mix Tryz.func79 rfl (by kernel_rfl) (by simp) ?_
            simp (maxSteps := 1000000) -dsimp -implicitDefEqProofs only [go_sem, ↓reduceIte, keep79, ib79, mk79, Tryz.f79, hb, kq]
            refine HFnF.mkH (writeByte l 40 (by omega) hb) ?_
            rintro r_ h1 ⟨rfl, rfl⟩
            simp (maxSteps := 1000000) -dsimp -implicitDefEqProofs only [go_sem, ↓reduceIte, keep79, ib79, mk79, Tryz.f79, ga, DExpr.c_eq]
            refine ⟨by decide, HFnF.mkH (i0 _ (l ++ [40]) (upd_same ..) (by simp only [List.length_append, List.length_cons, List.length_nil]; omega)) ?_⟩
            rintro r_ h2 ⟨rfl, hle2⟩
            have hb2 := Heap.le_get hle2 (upd_same ..)
            rw [upd_upd] at hle2
            simp (maxSteps := 1000000) -dsimp -implicitDefEqProofs only [go_sem, ↓reduceIte, keep79, ib79, mk79, Tryz.f79]
            first | refine HFnF.mk (js) ?_ | refine CallSF.mk (js) ?_ | refine HFnF.mkAt (js) ?_ | refine CallSF.mk (FnAt.fn0 (js)) ?_
            simp (maxSteps := 1000000) -dsimp -implicitDefEqProofs only [go_sem, ↓reduceIte, keep79, ib79, mk79, Tryz.f79]
            refine ⟨by decide, by decide, HFnF.mkH (writeString (l ++ [40] ++ a.txt p) [32, 42, 32] (by first | omega | (simp only [List.length_append, List.length_cons, List.length_nil]; omega)) hb2) ?_⟩
            rintro r_ h3 ⟨rfl, rfl⟩
            simp (maxSteps := 1000000) -dsimp -implicitDefEqProofs only [go_sem, ↓reduceIte, keep79, ib79, mk79, Tryz.f79, gb, DExpr.c_eq]
            refine ⟨by decide, HFnF.mkH (i1 _ (l ++ [40] ++ a.txt p ++ [32, 42, 32]) (upd_same ..) (by first | omega | (simp only [List.length_append, List.length_cons, List.length_nil]; omega))) ?_⟩
            rintro r_ h4 ⟨rfl, hle4⟩
            have hb4 := Heap.le_get hle4 (upd_same ..)
            rw [upd_upd] at hle4
            simp (maxSteps := 1000000) -dsimp -implicitDefEqProofs only [go_sem, ↓reduceIte, keep79, ib79, mk79, Tryz.f79]
            refine HFnF.mkH (writeByte (l ++ [40] ++ a.txt p ++ [32, 42, 32] ++ b.txt p) 41 (by first | omega | (simp only [List.length_append, List.length_cons, List.length_nil]; omega)) hb4) ?_
            rintro r_ h5 ⟨rfl, rfl⟩
            simp (maxSteps := 1000000) -dsimp -implicitDefEqProofs only [go_sem, ↓reduceIte, keep79, ib79, mk79, Tryz.f79]
            refine ⟨_, _, shift_le (Heap.le_refl _), rfl, ?_⟩
            rw [show l ++ e.txt p = l ++ [40] ++ a.txt p ++ [32, 42, 32] ++ b.txt p ++ [41] by rw [ht]; simp]
            exact le_re (Heap.le_trans (le_re hle2) hle4)
          · have js : Fn0 Tryz.prog 75 [I 6] (.int .u8 47) := signI 6 (by decide)
            have hsg : signB e.fKind = 47 := by rw [kq]; rfl
            rw [hsg] at ht
            refine fnKF 111 keep79 ib79 mk79 mix Tryz.func79 rfl (by kernel_rfl) (by simp) ?_
            simp (maxSteps := 1000000) -dsimp -implicitDefEqProofs only [go_sem, ↓reduceIte, keep79, ib79, mk79, Tryz.f79, hb, kq]
            refine HFnF.mkH (writeByte l 40 (by omega) hb) ?_
            rintro r_ h1 ⟨rfl, rfl⟩
            simp (maxSteps := 1000000) -dsimp -implicitDefEqProofs only [go_sem, ↓reduceIte, keep79, ib79, mk79, Tryz.f79, ga, DExpr.c_eq]
            refine ⟨by decide, HFnF.mkH (i0 _ (l ++ [40]) (upd_same ..) (by simp only [List.length_append, List.length_cons, List.length_nil]; omega)) ?_⟩
            rintro r_ h2 ⟨rfl, hle2⟩
            have hb2 := Heap.le_get hle2 (upd_same ..)
            rw [upd_upd] at hle2
            simp (maxSteps := 1000000) -dsimp -implicitDefEqProofs only [go_sem, ↓reduceIte, keep79, ib79, mk79, Tryz.f79]
            first | refine HFnF.mk (js) ?_ | refine CallSF.mk (js) ?_ | refine HFnF.mkAt (js) ?_ | refine CallSF.mk (FnAt.fn0 (js)) ?_
            simp (maxSteps := 1000000) -dsimp -implicitDefEqProofs only [go_sem, ↓reduceIte, keep79, ib79, mk79, Tryz.f79]
            refine ⟨by decide, by decide, HFnF.mkH (writeString (l ++ [40] ++ a.txt p) [32, 47, 32] (by first | omega | (simp only [List.length_append, List.length_cons, List.length_nil]; omega)) hb2) ?_⟩
            rintro r_ h3 ⟨rfl, rfl⟩
            simp (maxSteps := 1000000) -dsimp -implicitDefEqProofs only [go_sem, ↓reduceIte, keep79, ib79, mk79, Tryz.f79, gb, DExpr.c_eq]
            refine ⟨by decide, HFnF.mkH (i1 _ (l ++ [40] ++ a.txt p ++ [32, 47, 32]) (upd_same ..) (by first | omega | (simp only [List.length_append, List.length_cons, List.length_nil]; omega))) ?_⟩
            rintro r_ h4 ⟨rfl, hle4⟩
            have hb4 := Heap.le_get hle4 (upd_same ..)
            rw [upd_upd] at hle4
            simp (maxSteps := 1000000) -dsimp -implicitDefEqProofs only [go_sem, ↓reduceIte, keep79, ib79, mk79, Tryz.f79]
            refine HFnF.mkH (writeByte (l ++ [40] ++ a.txt p ++ [32, 47, 32] ++ b.txt p) 41 (by first | omega | (simp only [List.length_append, List.length_cons, List.length_nil]; omega)) hb4) ?_
            rintro r_ h5 ⟨rfl, rfl⟩
            simp (maxSteps := 1000000) -dsimp -implicitDefEqProofs only [go_sem, ↓reduceIte, keep79, ib79, mk79, Tryz.f79]
            refine ⟨_, _, shift_le (Heap.le_refl _), rfl, ?_⟩
            rw [show l ++ e.txt p = l ++ [40] ++ a.txt p ++ [32, 47, 32] ++ b.txt p ++ [41] by rw [ht]; simp]
            exact le_re (Heap.le_trans (le_re hle2) hle4)
      · rw [if_neg k1, if_neg k2, if_neg kb] at htxt
        rcases (by omega : e.fKind = 7 ∨ e.fKind = 8 ∨ e.fKind = 9 ∨ e.fKind = 10 ∨ e.fKind = 11) with kq | kq | kq | kq | kq
        · have hT : headT p e.fKind e.fNum e.fPick e.fCount = [110, 101, 103] := by rw [headT, if_pos kq]
          rw [kq] at hwl
          refine fnKF 111 keep79 ib79 mk79 mix Tryz.func79 rfl (by kernel_rfl) (by simp) ?_
          simp (maxSteps := 1000000) -dsimp -implicitDefEqProofs only [go_sem, ↓reduceIte, keep79, ib79, mk79, Tryz.f79, hb, kq]
          have hl56 := headT_len hp h (by omega)
          rw [hT] at hl56
          refine HFnF.mkH (writeString l ([110, 101, 103]) (by omega) hb) ?_
          rintro r_ h' ⟨rfl, rfl⟩
          simp (maxSteps := 1000000) -dsimp -implicitDefEqProofs only [go_sem, ↓reduceIte, keep79, ib79, mk79, Tryz.f79]
          refine HFnF.mkH (hwl _ _ (upd_same ..) (by rw [List.length_append]; omega)) ?_
          rintro r_ h' ⟨rfl, hle⟩
          simp (maxSteps := 1000000) -dsimp -implicitDefEqProofs only [go_sem, ↓reduceIte, keep79, ib79, mk79, Tryz.f79]
          rw [upd_upd] at hle
          refine ⟨_, _, shift_le (Heap.le_refl _), rfl, ?_⟩
          rw [show l ++ e.txt p = l ++ ([110, 101, 103]) ++ 40 :: (semis (e.fKids.map (DExpr.txt p)) ++ [41]) by rw [htxt, hT]; simp]
          exact hle
        · have hT : headT p e.fKind e.fNum e.fPick e.fCount = [105, 102] := by rw [headT, if_neg (by omega), if_pos kq]
          rw [kq] at hwl
          refine fnKF 111 keep79 ib79 mk79 mix Tryz.func79 rfl (by kernel_rfl) (by simp) ?_
          simp (maxSteps := 1000000) -dsimp -implicitDefEqProofs only [go_sem, ↓reduceIte, keep79, ib79, mk79, Tryz.f79, hb, kq]
          have hl56 := headT_len hp h (by omega)
          rw [hT] at hl56
          refine HFnF.mkH (writeString l ([105, 102]) (by omega) hb) ?_
          rintro r_ h' ⟨rfl, rfl⟩
          simp (maxSteps := 1000000) -dsimp -implicitDefEqProofs only [go_sem, ↓reduceIte, keep79, ib79, mk79, Tryz.f79]
          refine HFnF.mkH (hwl _ _ (upd_same ..) (by rw [List.length_append]; omega)) ?_
          rintro r_ h' ⟨rfl, hle⟩
          simp (maxSteps := 1000000) -dsimp -implicitDefEqProofs only [go_sem, ↓reduceIte, keep79, ib79, mk79, Tryz.f79]
          rw [upd_upd] at hle
          refine ⟨_, _, shift_le (Heap.le_refl _), rfl, ?_⟩
          rw [show l ++ e.txt p = l ++ ([105, 102]) ++ 40 :: (semis (e.fKids.map (DExpr.txt p)) ++ [41]) by rw [htxt, hT]; simp]
          exact hle
        · have hT : headT p e.fKind e.fNum e.fPick e.fCount = [108, 101, 116] := by rw [headT, if_neg (by omega), if_neg (by omega), if_pos kq]
          rw [kq] at hwl
          refine fnKF 111 keep79 ib79 mk79 mix Tryz.func79 rfl (by kernel_rfl) (by simp) ?_
          simp (maxSteps := 1000000) -dsimp -implicitDefEqProofs only [go_sem, ↓reduceIte, keep79, ib79, mk79, Tryz.f79, hb, kq]
          have hl56 := headT_len hp h (by omega)
          rw [hT] at hl56
          refine HFnF.mkH (writeString l ([108, 101, 116]) (by omega) hb) ?_
          rintro r_ h' ⟨rfl, rfl⟩
          simp (maxSteps := 1000000) -dsimp -implicitDefEqProofs only [go_sem, ↓reduceIte, keep79, ib79, mk79, Tryz.f79]
          refine HFnF.mkH (hwl _ _ (upd_same ..) (by rw [List.length_append]; omega)) ?_
          rintro r_ h' ⟨rfl, hle⟩
          simp (maxSteps := 1000000) -dsimp -implicitDefEqProofs only [go_sem, ↓reduceIte, keep79, ib79, mk79, Tryz.f79]
          rw [upd_upd] at hle
          refine ⟨_, _, shift_le (Heap.le_refl _), rfl, ?_⟩
          rw [show l ++ e.txt p = l ++ ([108, 101, 116]) ++ 40 :: (semis (e.fKids.map (DExpr.txt p)) ++ [41]) by rw [htxt, hT]; simp]
          exact hle
        · obtain ⟨f, ef, en, hfl, hn0, hn1, hi, hcn⟩ := h.call hp (.inl kq)
          have hT : headT p e.fKind e.fNum e.fPick e.fCount = f.fName ++ [46] ++ Go.Lib.itoa e.fPick := by rw [headT, if_neg (by omega), if_neg (by omega), if_neg (by omega), if_pos kq, en]; simp
          have hi2 := itoa_num hi
          rw [kq] at hwl
          refine fnKF 111 keep79 ib79 mk79 mix Tryz.func79 rfl (by kernel_rfl) (by simp) ?_
          simp (maxSteps := 1000000) -dsimp -implicitDefEqProofs only [go_sem, ↓reduceIte, keep79, ib79, mk79, Tryz.f79, hb, kq, ef, DFunc.c_eq]
          refine ⟨hn0, hn1, by omega, ?_⟩
          first | refine HFnF.mk (decimal e.fPick hi) ?_ | refine CallSF.mk (decimal e.fPick hi) ?_ | refine HFnF.mkAt (decimal e.fPick hi) ?_ | refine CallSF.mk (FnAt.fn0 (decimal e.fPick hi)) ?_
          simp (maxSteps := 1000000) -dsimp -implicitDefEqProofs only [go_sem, ↓reduceIte, keep79, ib79, mk79, Tryz.f79]
          refine ⟨by first | omega | (simp only [List.length_append, List.length_cons, List.length_nil]; omega), ?_⟩
          have hl56 := headT_len hp h (by omega)
          rw [hT] at hl56
          refine HFnF.mkH (writeString l (f.fName ++ [46] ++ Go.Lib.itoa e.fPick) (by omega) hb) ?_
          rintro r_ h' ⟨rfl, rfl⟩
          simp (maxSteps := 1000000) -dsimp -implicitDefEqProofs only [go_sem, ↓reduceIte, keep79, ib79, mk79, Tryz.f79]
          refine HFnF.mkH (hwl _ _ (upd_same ..) (by rw [List.length_append]; omega)) ?_
          rintro r_ h' ⟨rfl, hle⟩
          simp (maxSteps := 1000000) -dsimp -implicitDefEqProofs only [go_sem, ↓reduceIte, keep79, ib79, mk79, Tryz.f79]
          rw [upd_upd] at hle
          refine ⟨_, _, shift_le (Heap.le_refl _), rfl, ?_⟩
          rw [show l ++ e.txt p = l ++ (f.fName ++ [46] ++ Go.Lib.itoa e.fPick) ++ 40 :: (semis (e.fKids.map (DExpr.txt p)) ++ [41]) by rw [htxt, hT]; simp]
          exact hle
        · obtain ⟨f, ef, en, hfl, hn0, hn1, hi, hcn⟩ := h.call hp (.inr kq)
          have hT : headT p e.fKind e.fNum e.fPick e.fCount = f.fName ++ [46] ++ Go.Lib.itoa e.fPick ++ [94] ++ Go.Lib.itoa e.fCount := by rw [headT, if_neg (by omega), if_neg (by omega), if_neg (by omega), if_neg (by omega), en]; simp
          have hi2 := itoa_num hi
          have hc2 := itoa_num hcn
          rw [kq] at hwl
          refine fnKF 111 keep79 ib79 mk79 mix Tryz.func79 rfl (by kernel_rfl) (by simp) ?_
          simp (maxSteps := 1000000) -dsimp -implicitDefEqProofs only [go_sem, ↓reduceIte, keep79, ib79, mk79, Tryz.f79, hb, kq, ef, DFunc.c_eq]
          refine ⟨hn0, hn1, by omega, ?_⟩
          first | refine HFnF.mk (decimal e.fPick hi) ?_ | refine CallSF.mk (decimal e.fPick hi) ?_ | refine HFnF.mkAt (decimal e.fPick hi) ?_ | refine CallSF.mk (FnAt.fn0 (decimal e.fPick hi)) ?_
          simp (maxSteps := 1000000) -dsimp -implicitDefEqProofs only [go_sem, ↓reduceIte, keep79, ib79, mk79, Tryz.f79]
          refine ⟨by first | omega | (simp only [List.length_append, List.length_cons, List.length_nil]; omega), by first | omega | (simp only [List.length_append, List.length_cons, List.length_nil]; omega), ?_⟩
          first | refine HFnF.mk (decimal e.fCount hcn) ?_ | refine CallSF.mk (decimal e.fCount hcn) ?_ | refine HFnF.mkAt (decimal e.fCount hcn) ?_ | refine CallSF.mk (FnAt.fn0 (decimal e.fCount hcn)) ?_
          simp (maxSteps := 1000000) -dsimp -implicitDefEqProofs only [go_sem, ↓reduceIte, keep79, ib79, mk79, Tryz.f79]
          refine ⟨by first | omega | (simp only [List.length_append, List.length_cons, List.length_nil]; omega), ?_⟩
          have hl56 := headT_len hp h (by omega)
          rw [hT] at hl56
          refine HFnF.mkH (writeString l (f.fName ++ [46] ++ Go.Lib.itoa e.fPick ++ [94] ++ Go.Lib.itoa e.fCount) (by omega) hb) ?_
          rintro r_ h' ⟨rfl, rfl⟩
          simp (maxSteps := 1000000) -dsimp -implicitDefEqProofs only [go_sem, ↓reduceIte, keep79, ib79, mk79, Tryz.f79]
          refine HFnF.mkH (hwl _ _ (upd_same ..) (by rw [List.length_append]; omega)) ?_
          rintro r_ h' ⟨rfl, hle⟩
          simp (maxSteps := 1000000) -dsimp -implicitDefEqProofs only [go_sem, ↓reduceIte, keep79, ib79, mk79, Tryz.f79]
          rw [upd_upd] at hle
          refine ⟨_, _, shift_le (Heap.le_refl _), rfl, ?_⟩
          rw [show l ++ e.txt p = l ++ (f.fName ++ [46] ++ Go.Lib.itoa e.fPick ++ [94] ++ Go.Lib.itoa e.fCount) ++ 40 :: (semis (e.fKids.map (DExpr.txt p)) ++ [41]) by rw [htxt, hT]; simp]
          exact hle
termination_by e.s
open Go.Proofs
set_option linter.unusedVariables false
set_option linter.unusedSimpArgs false
theorem Stands.of {p : DProgram} {e : DExpr} {vars funcs : Int} (h : exprOK p e vars funcs) : Stands p funcs e vars := ⟨h.2.2.2.2, by have h1 := h.1; have h3 := h.2.2.1; omega, h.2.1.1, h.2.1.2⟩
def keep49 : List Nat := [0, 1, 2, 3, 4, 5]
def ib49 : List Nat := [2, 3]
def mk49 : Marks := fun _ => ([], .nil, [])
set_option maxRecDepth 100000 in
theorem textI {p : DProgram} (hp : p.ok) {funcs vars : Int} (e : DExpr) (h : Stands p funcs e vars) (hs : e.s ≤ 1048576) : Fn0 Tryz.prog 49 [.agg p.c, .agg e.c] (.str (e.txt p)) := by
  have hl := DExpr.txt_len hp e vars h
  have hw := fun nb g => write hp e vars h (nb := nb) g
  simp only [DExpr.c_eq, DProgram.c_eq] at hw ⊢
  refine fn0F 14 keep49 ib49 mk49 mix Tryz.func49 rfl (by kernel_rfl) (by simp) fun h => ?_
  simp (maxSteps := 1000000) -dsimp -implicitDefEqProofs only [go_sem, ↓reduceIte, keep49, ib49, mk49, Tryz.f49]
  intro nb hn
  refine HFnF.wk (bld_fresh (upd_same ..)) ?_
  rw [upd_upd]
  refine HFnF.mkH (hw nb _ [] (upd_same ..) (by simp only [List.length_nil]; omega)) ?_
  rintro r_ h1 ⟨rfl, hle⟩
  have hb1 := Heap.le_get hle (upd_same ..)
  rw [upd_upd] at hle
  simp only [List.nil_append] at hb1 hle
  simp (maxSteps := 1000000) -dsimp -implicitDefEqProofs only [go_sem, ↓reduceIte, keep49, ib49, mk49, Tryz.f49]
  refine HFnF.mkH (builderString (e.txt p) (by simp only [maxLen]; omega) hb1) ?_
  rintro r_ h2 ⟨rfl, rfl⟩
  simp (maxSteps := 1000000) -dsimp -implicitDefEqProofs only [go_sem, ↓reduceIte, keep49, ib49, mk49, Tryz.f49]
  exact Heap.le_upd hn (Heap.le_trans (Heap.le_upd hn (Heap.le_refl _)) hle)
open Go.Proofs
set_option linter.unusedVariables false
set_option linter.unusedSimpArgs false
end Go.Hl
namespace Go.Proofs
open Go.Shelf
open Go.RowKit Go.Lib in
open Go.RowKit Go.Lib in
def Tryz.laysC174_ren : Go.Shelf.Ren := ⟨fun | 174 => 87 | 247 => 107 | 245 => 108 | 287 => 119 | 279 => 120 | 280 => 121 | 281 => 122 | 282 => 123 | 321 => 128 | 322 => 129 | 316 => 130 | 171 => 132 | 205 => 131 | 243 => 137 | 246 => 124 | 283 => 133 | 284 => 134 | 285 => 135 | 286 => 136 | 129 => 139 | 317 => 138 | 318 => 140 | 319 => 141 | 320 => 142 | 337 => 143 | 338 => 144 | n => n, fun | 9 => 9 | 3 => 3 | 2 => 2 | 75 => 120 | 85 => 121 | 4 => 4 | 167 => 143 | 5 => 5 | 53 => 144 | 175 => 145 | 46 => 142 | 168 => 147 | 37 => 109 | 0 => 0 | 210 => 162 | 21 => 21 | 127 => 133 | 145 => 171 | 143 => 169 | 171 => 164 | 173 => 167 | 212 => 173 | 51 => 156 | 20 => 20 | 213 => 174 | 232 => 178 | 233 => 179 | 80 => 88 | n => n, fun | 15 => 3 | 16 => 4 | 17 => 5 | 18 => 6 | 19 => 7 | n => n⟩
theorem Tryz.laysC174 : Go.Proofs.LaysC.n174 Tryz.prog Tryz.laysC174_ren := {
  mixed := by kernel_rfl
  f129 := Tryz.func139.trans (congrArg some (by kernel_rfl))
  f171 := Tryz.func132.trans (congrArg some (by kernel_rfl))
  f174 := Tryz.func87.trans (congrArg some (by kernel_rfl))
  f205 := Tryz.func131.trans (congrArg some (by kernel_rfl))
  f243 := Tryz.func137.trans (congrArg some (by kernel_rfl))
  f245 := Tryz.func108.trans (congrArg some (by kernel_rfl))
  f246 := Tryz.func124.trans (congrArg some (by kernel_rfl))
  f247 := Tryz.func107.trans (congrArg some (by kernel_rfl))
  f279 := Tryz.func120.trans (congrArg some (by kernel_rfl))
  f280 := Tryz.func121.trans (congrArg some (by kernel_rfl))
  f281 := Tryz.func122.trans (congrArg some (by kernel_rfl))
  f282 := Tryz.func123.trans (congrArg some (by kernel_rfl))
  f283 := Tryz.func133.trans (congrArg some (by kernel_rfl))
  f284 := Tryz.func134.trans (congrArg some (by kernel_rfl))
  f285 := Tryz.func135.trans (congrArg some (by kernel_rfl))
  f286 := Tryz.func136.trans (congrArg some (by kernel_rfl))
  f287 := Tryz.func119.trans (congrArg some (by kernel_rfl))
  f316 := Tryz.func130.trans (congrArg some (by kernel_rfl))
  f317 := Tryz.func138.trans (congrArg some (by kernel_rfl))
  f318 := Tryz.func140.trans (congrArg some (by kernel_rfl))
  f319 := Tryz.func141.trans (congrArg some (by kernel_rfl))
  f320 := Tryz.func142.trans (congrArg some (by kernel_rfl))
  f321 := Tryz.func128.trans (congrArg some (by kernel_rfl))
  f322 := Tryz.func129.trans (congrArg some (by kernel_rfl))
  f337 := Tryz.func143.trans (congrArg some (by kernel_rfl))
  f338 := Tryz.func144.trans (congrArg some (by kernel_rfl))
  t0 := Tryz.underlying0
  a0 := Tryz.isAgg0
  z0 := Tryz.sizeOf0
  v0 := Tryz.zeroValue0
  t2 := Tryz.underlying2
  a2 := Tryz.isAgg2
  z2 := Tryz.sizeOf2
  v2 := Tryz.zeroValue2
  t3 := Tryz.underlying3
  a3 := Tryz.isAgg3
  z3 := Tryz.sizeOf3
  v3 := Tryz.zeroValue3
  t4 := Tryz.underlying4
  a4 := Tryz.isAgg4
  z4 := Tryz.sizeOf4
  v4 := Tryz.zeroValue4
  t5 := Tryz.underlying5
  a5 := Tryz.isAgg5
  z5 := Tryz.sizeOf5
  v5 := Tryz.zeroValue5
  t9 := Tryz.underlying9
  a9 := Tryz.isAgg9
  z9 := Tryz.sizeOf9
  v9 := Tryz.zeroValue9
  t20 := Tryz.underlying20
  a20 := Tryz.isAgg20
  z20 := Tryz.sizeOf20
  v20 := Tryz.zeroValue20
  t21 := Tryz.underlying21
  a21 := Tryz.isAgg21
  z21 := Tryz.sizeOf21
  v21 := Tryz.zeroValue21
  t37 := Tryz.underlying109
  a37 := Tryz.isAgg109
  z37 := Tryz.sizeOf109
  v37 := Tryz.zeroValue109
  t46 := Tryz.underlying142
  a46 := Tryz.isAgg142
  z46 := Tryz.sizeOf142
  v46 := Tryz.zeroValue142
  t51 := Tryz.underlying156
  a51 := Tryz.isAgg156
  z51 := Tryz.sizeOf156
  v51 := Tryz.zeroValue156
  t53 := Tryz.underlying144
  a53 := Tryz.isAgg144
  z53 := Tryz.sizeOf144
  v53 := Tryz.zeroValue144
  t75 := Tryz.underlying120
  a75 := Tryz.isAgg120
  z75 := Tryz.sizeOf120
  v75 := Tryz.zeroValue120
  t85 := Tryz.underlying121
  a85 := Tryz.isAgg121
  z85 := Tryz.sizeOf121
  v85 := Tryz.zeroValue121
  t127 := Tryz.underlying133
  a127 := Tryz.isAgg133
  z127 := Tryz.sizeOf133
  v127 := Tryz.zeroValue133
  t143 := Tryz.underlying169
  a143 := Tryz.isAgg169
  z143 := Tryz.sizeOf169
  v143 := Tryz.zeroValue169
  t145 := Tryz.underlying171
  a145 := Tryz.isAgg171
  z145 := Tryz.sizeOf171
  v145 := Tryz.zeroValue171
  t167 := Tryz.underlying143
  a167 := Tryz.isAgg143
  z167 := Tryz.sizeOf143
  v167 := Tryz.zeroValue143
  t168 := Tryz.underlying147
  a168 := Tryz.isAgg147
  z168 := Tryz.sizeOf147
  v168 := Tryz.zeroValue147
  t171 := Tryz.underlying164
  a171 := Tryz.isAgg164
  z171 := Tryz.sizeOf164
  v171 := Tryz.zeroValue164
  t173 := Tryz.underlying167
  a173 := Tryz.isAgg167
  z173 := Tryz.sizeOf167
  v173 := Tryz.zeroValue167
  t175 := Tryz.underlying145
  a175 := Tryz.isAgg145
  z175 := Tryz.sizeOf145
  v175 := Tryz.zeroValue145
  t210 := Tryz.underlying162
  a210 := Tryz.isAgg162
  z210 := Tryz.sizeOf162
  v210 := Tryz.zeroValue162
  t212 := Tryz.underlying173
  a212 := Tryz.isAgg173
  z212 := Tryz.sizeOf173
  v212 := Tryz.zeroValue173
  t213 := Tryz.underlying174
  a213 := Tryz.isAgg174
  z213 := Tryz.sizeOf174
  t232 := Tryz.underlying178
  a232 := Tryz.isAgg178
  z232 := Tryz.sizeOf178
  v232 := Tryz.zeroValue178
  t233 := Tryz.underlying179
  a233 := Tryz.isAgg179
  z233 := Tryz.sizeOf179
  v233 := Tryz.zeroValue179
  g15 := by kernel_rfl
  g16 := by kernel_rfl
  g17 := by kernel_rfl
  g18 := by kernel_rfl
  g19 := by kernel_rfl
  t80 := Tryz.underlying88
  a80 := Tryz.isAgg88
  z80 := Tryz.sizeOf88
  v80 := Tryz.zeroValue88
  i0 := by kernel_rfl
  i2 := by kernel_rfl
  i3 := by kernel_rfl
  i4 := by kernel_rfl
  i5 := by kernel_rfl
  i9 := by kernel_rfl
  i20 := by kernel_rfl
  i21 := by kernel_rfl
  i37 := by kernel_rfl
  i46 := by kernel_rfl
  i51 := by kernel_rfl
  i53 := by kernel_rfl
  i75 := by kernel_rfl
  i80 := by kernel_rfl
  i85 := by kernel_rfl
  i127 := by kernel_rfl
  i143 := by kernel_rfl
  i145 := by kernel_rfl
  i167 := by kernel_rfl
  i168 := by kernel_rfl
  i171 := by kernel_rfl
  i173 := by kernel_rfl
  i175 := by kernel_rfl
  i210 := by kernel_rfl
  i212 := by kernel_rfl
  i232 := by kernel_rfl
  i233 := by kernel_rfl
  m15 := by kernel_rfl
  m16 := by kernel_rfl
  m17 := by kernel_rfl
  m18 := by kernel_rfl
  m19 := by kernel_rfl
  c0 := by kernel_rfl
  c2 := by kernel_rfl
  c3 := by kernel_rfl
  c4 := by kernel_rfl
  c5 := by kernel_rfl
  c9 := by kernel_rfl
  c20 := by kernel_rfl
  c21 := by kernel_rfl
  c37 := by kernel_rfl
  c46 := by kernel_rfl
  c51 := by kernel_rfl
  c53 := by kernel_rfl
  c75 := by kernel_rfl
  c80 := by kernel_rfl
  c85 := by kernel_rfl
  c127 := by kernel_rfl
  c143 := by kernel_rfl
  c145 := by kernel_rfl
  c167 := by kernel_rfl
  c168 := by kernel_rfl
  c171 := by kernel_rfl
  c173 := by kernel_rfl
  c175 := by kernel_rfl
  c210 := by kernel_rfl
  c212 := by kernel_rfl
  c213 := by kernel_rfl
  c232 := by kernel_rfl
  c233 := by kernel_rfl }
open Go.RowKit in
theorem Tryz.strconv_ParseInt_10_at64_ok (s : ByteArray) (hmax : s.size ≤ 9223372036854775806) (v : Int) (h : Lib.parseIntB 64 s.data.toList = .ok v) (w : World) :
    Calls Tryz.prog 87 #[.string s, .int .i64 10, .int .i64 64] w fun e w' => e = .returned (.tuple #[.int .i64 v, .nilIface]) ∧ (w' = w ∨ ∃ t, w' = Lib.bytesWorld w 5 t) := Any.strconv_ParseInt_10_at64_ok Tryz.laysC174 s hmax v h w
open Go.RowKit in
theorem Tryz.strconv_ParseInt_10_at64_syntax (s : ByteArray) (hlim : s.size ≤ 281474976710656) (h : Lib.parseIntB 64 s.data.toList = Go.Lib.NumEnd.syntax) (ev : Value) (w : World) (hv : w.cell? ⟨3, 0, none⟩ = some ev) (hev : ev = .nilIface ∨ ∃ te pe, ev = .iface te pe) :
    Calls Tryz.prog 87 #[.string s, .int .i64 10, .int .i64 64] w fun e w' => ∃ N, e = .returned (.tuple #[.int .i64 (0), .iface 147 (.pointer (some ⟨N, 0, none⟩))]) ∧ w.heap.size ≤ N ∧ w'.heap[N]? = some (.cells #[.string ⟨#[80, 97, 114, 115, 101, 73, 110, 116]⟩, .string s, ev] 162 (0, 0)) ∧ Below w.heap.size w w' := Any.strconv_ParseInt_10_at64_syntax Tryz.laysC174 s hlim h ev w hv hev
open Go.RowKit in
theorem Tryz.strconv_ParseInt_10_at64_range (s : ByteArray) (hlim : s.size ≤ 281474976710656) (h : Lib.parseIntB 64 s.data.toList = .range) (ev : Value) (w : World) (hv : w.cell? ⟨4, 0, none⟩ = some ev) (hev : ev = .nilIface ∨ ∃ te pe, ev = .iface te pe) :
    Calls Tryz.prog 87 #[.string s, .int .i64 10, .int .i64 64] w fun e w' => ∃ N, e = .returned (.tuple #[.int .i64 (Lib.intSat 64 s.data.toList), .iface 147 (.pointer (some ⟨N, 0, none⟩))]) ∧ w.heap.size ≤ N ∧ w'.heap[N]? = some (.cells #[.string ⟨#[80, 97, 114, 115, 101, 73, 110, 116]⟩, .string s, ev] 162 (0, 0)) ∧ Below w.heap.size w w' := Any.strconv_ParseInt_10_at64_range Tryz.laysC174 s hlim h ev w hv hev
end Go.Proofs
namespace Go.Hl

open Go.Proofs
set_option linter.unusedVariables false
set_option linter.unusedSimpArgs false
theorem laid_syn {E : Env} {h : Heap} {w : World} (x : LaidIn E h w) : ∃ v, w.cell? ⟨3, 0, none⟩ = some v ∧ (v = .nilIface ∨ ∃ te pe, v = .iface te pe) := by
  obtain ⟨cs, h1, v, h2, h3⟩ := x.cell (g := 3) (Q := fun cs => ∃ v, cs[0]? = some v ∧ (v = .nilIface ∨ ∃ te pe, v = .iface te pe)) (by unfold laidBlocks; exact List.mem_cons_of_mem _ List.mem_cons_self)
  exact ⟨v, (h1 0).trans h2, h3⟩
theorem laid_ran {E : Env} {h : Heap} {w : World} (x : LaidIn E h w) : ∃ v, w.cell? ⟨4, 0, none⟩ = some v ∧ (v = .nilIface ∨ ∃ te pe, v = .iface te pe) := by
  obtain ⟨cs, h1, v, h2, h3⟩ := x.cell (g := 4) (Q := fun cs => ∃ v, cs[0]? = some v ∧ (v = .nilIface ∨ ∃ te pe, v = .iface te pe)) (by unfold laidBlocks; exact List.mem_cons_of_mem _ (List.mem_cons_of_mem _ List.mem_cons_self))
  exact ⟨v, (h1 0).trans h2, h3⟩
theorem RepL.tup {E : Env} {h : Heap} {w : World} {xs : List HVal} {vs : List Value} (r : RepL E h w xs vs) : Rep E h w (.tup xs) (.tuple vs.toArray) := .tup _ _ r.length r.get
/-- The error of strconv.ParseInt. -/
def errV (s : List UInt8) : HVal := match Go.Lib.parseIntB 64 s with | .ok _ => .nilif | _ => .iface 147 .any
theorem parseInt (s : List UInt8) (hs : s.length ≤ 281474976710656) : Fn0 Tryz.prog 87 [.str s, I 10, I 64] (.tup [I (rdN s), errV s]) :=
  fn0_below (by kernel_rfl) fun E h w vs R rl => by
    match vs, rl with
    | [v0, v1, v2], rl =>
      obtain ⟨r0, r1, r2, _⟩ := rl
      obtain ⟨rfl, h0⟩ := rep_str r0
      rw [rep_int r1, rep_int r2]
      have hz : (⟨s.toArray⟩ : ByteArray).size ≤ 281474976710656 := by simpa [ByteArray.size] using hs
      unfold rdN errV
      cases e : Go.Lib.parseIntB 64 s with
      | ok v =>
        refine (Go.Proofs.Tryz.strconv_ParseInt_10_at64_ok ⟨s.toArray⟩ (by omega) v e w).mono fun e w' ⟨he, hw⟩ => ⟨_, he, fun E' h' w' => RepL.tup (xs := [_, _]) (vs := [_, _]) ⟨.int _ _, .nilif, trivial⟩, ?_⟩
        rcases hw with rfl | ⟨t, rfl⟩
        · exact Go.RowKit.Below.refl _ _
        · exact ⟨rfl, rfl, rfl, by rw [Go.Lib.bytesWorld_size]; omega, fun j hj => Go.Lib.bytesWorld_at_old w _ t j hj⟩
      | range =>
        obtain ⟨ev, hv, hev⟩ := laid_ran R.laid
        exact (Go.Proofs.Tryz.strconv_ParseInt_10_at64_range ⟨s.toArray⟩ hz e _ w hv hev).mono fun e w' ⟨N, he, _, _, hw⟩ => ⟨_, he, fun E' h' w' => RepL.tup (xs := [_, _]) (vs := [_, _]) ⟨.int _ _, .iface _ _ _ (.any _), trivial⟩, hw⟩
      | _ =>
        obtain ⟨ev, hv, hev⟩ := laid_syn R.laid
        exact (Go.Proofs.Tryz.strconv_ParseInt_10_at64_syntax ⟨s.toArray⟩ hz e _ w hv hev).mono fun e w' ⟨N, he, _, _, hw⟩ => ⟨_, he, fun E' h' w' => RepL.tup (xs := [_, _]) (vs := [_, _]) ⟨.int _ _, .iface _ _ _ (.any _), trivial⟩, hw⟩
open Go.Proofs
set_option linter.unusedVariables false
set_option linter.unusedSimpArgs false
open Go.Proofs
set_option linter.unusedVariables false
set_option linter.unusedSimpArgs false
theorem decimalI (n : Int) (h0 : -9223372036854775808 ≤ n) (h1 : n ≤ 9223372036854775807) : Fn0 Tryz.prog 88 [I n] (.str (Go.Lib.itoa n)) := by
  refine fn0F 5 keep88 ib88 mk88 mix Tryz.func88 rfl (by kernel_rfl) (by simp) fun h => ?_
  simp (maxSteps := 1000000) -dsimp -implicitDefEqProofs only [go_sem, ↓reduceIte, keep88, ib88, mk88, Tryz.f88]
  first | refine HFnF.mk (formatInt n h0 h1) ?_ | refine CallSF.mk (formatInt n h0 h1) ?_ | refine HFnF.mkAt (formatInt n h0 h1) ?_ | refine CallSF.mk (FnAt.fn0 (formatInt n h0 h1)) ?_
  simp (maxSteps := 1000000) -dsimp -implicitDefEqProofs only [go_sem, ↓reduceIte, keep88, ib88, mk88, Tryz.f88]
theorem parseI_range {s : List UInt8} {v : Int} (h : Go.Lib.parseIntB 64 s = .ok v) : -9223372036854775808 ≤ v ∧ v ≤ 9223372036854775807 := by
  unfold Go.Lib.parseIntB at h
  split at h
  · cases h
  · simp only at h
    split at h
    · cases h
    · cases h
    · rename_i u hu
      split at h
      · cases h
      · split at h
        · cases h
        · rename_i h1 h2
          have := Go.Lib.NumEnd.ok.inj h
          subst this
          simp only [Nat.reducePow, Nat.reduceSub] at h1 h2
          split
          · have : u ≤ 9223372036854775808 := by
              rename_i q
              exact Nat.le_of_not_lt fun z => h2 ⟨q, z⟩
            omega
          · have : u < 9223372036854775808 := by
              rename_i q
              exact Nat.lt_of_not_le fun z => h1 ⟨q, z⟩
            omega
theorem rdOK_parse {hi : Int} (hhi : hi ≤ 9223372036854775807) {s : List UInt8} (h : rdOK hi s) : Go.Lib.parseIntB 64 s = .ok (rdN s) := by
  have h1 := h.2.2
  have := parseI_itoa h.1 (by have := h.2.1; omega)
  rw [← h1] at this
  exact this
theorem ifc_err : isIfc Tryz.prog 120 = true := by kernel_rfl
def keep58 : List Nat := [0, 1, 2, 6, 7, 8, 9]
def ib58 : List Nat := []
def mk58 : Marks := fun _ => ([], .nil, [])
set_option maxRecDepth 100000 in
theorem readDecimal (s : List UInt8) (hi : Int) (hs : s.length ≤ 1048600) (hhi : hi ≤ 1000000001) : Fn0 Tryz.prog 58 [.str s, I 0, I hi] (.tup [I (rdN s), .bool (decide (rdOK hi s))]) := by
  have hp := parseInt s (by omega)
  have hr := rdOK_parse (hi := hi) (s := s) (by omega)
  cases e : Go.Lib.parseIntB 64 s with
  | ok v =>
    have hv := parseI_range e
    have hn : rdN s = v := by rw [rdN, e]
    have he : errV s = .nilif := by rw [errV, e]
    have hl := itoa_len64 hv.1 hv.2
    rw [he, hn] at hp
    rw [hn]
    refine fn0F 30 keep58 ib58 mk58 mix Tryz.func58 rfl (by kernel_rfl) (by simp) fun h => ?_
    simp (maxSteps := 1000000) -dsimp -implicitDefEqProofs only [go_sem, ↓reduceIte, keep58, ib58, mk58, Tryz.f58]
    first | refine HFnF.mk (hp) ?_ | refine CallSF.mk (hp) ?_ | refine HFnF.mkAt (hp) ?_ | refine CallSF.mk (FnAt.fn0 (hp)) ?_
    simp (maxSteps := 1000000) -dsimp -implicitDefEqProofs only [go_sem, ↓reduceIte, keep58, ib58, mk58, Tryz.f58]
    simp (maxSteps := 1000000) -dsimp -implicitDefEqProofs only [go_sem, ↓reduceIte, keep58, ib58, mk58, Tryz.f58, ifc_err]
    first | refine HFnF.mk (decimalI v hv.1 hv.2) ?_ | refine CallSF.mk (decimalI v hv.1 hv.2) ?_ | refine HFnF.mkAt (decimalI v hv.1 hv.2) ?_ | refine CallSF.mk (FnAt.fn0 (decimalI v hv.1 hv.2)) ?_
    simp (maxSteps := 1000000) -dsimp -implicitDefEqProofs only [go_sem, ↓reduceIte, keep58, ib58, mk58, Tryz.f58]
    have hq : rdOK hi s ↔ (Go.Lib.itoa v = s ∧ (0 ≤ v ∧ v ≤ hi)) := by rw [rdOK, hn]; exact ⟨fun q => ⟨q.2.2.symm, q.1, q.2.1⟩, fun q => ⟨q.2.1, q.2.2, q.1.symm⟩⟩
    refine ⟨fun q => ?_, fun q => ?_⟩
    · first | refine HFnF.mk (within v 0 hi) ?_ | refine CallSF.mk (within v 0 hi) ?_ | refine HFnF.mkAt (within v 0 hi) ?_ | refine CallSF.mk (FnAt.fn0 (within v 0 hi)) ?_
      simp (maxSteps := 1000000) -dsimp -implicitDefEqProofs only [go_sem, ↓reduceIte, keep58, ib58, mk58, Tryz.f58]
      exact congrArg (fun b => HVal.tup [I v, .bool b]) (decide_eq_decide.2 ⟨fun z => hq.2 ⟨q, z⟩, fun z => (hq.1 z).2⟩)
    · exact congrArg (fun b => HVal.tup [I v, .bool b]) (decide_eq_false fun z => q (hq.1 z).1).symm
  | range =>
    have hn : ¬ rdOK hi s := fun q => by rw [hr q] at e; cases e
    have he : errV s = .iface 147 .any := by rw [errV, e]
    rw [he] at hp
    rw [decide_eq_false hn]
    refine fn0F 30 keep58 ib58 mk58 mix Tryz.func58 rfl (by kernel_rfl) (by simp) fun h => ?_
    simp (maxSteps := 1000000) -dsimp -implicitDefEqProofs only [go_sem, ↓reduceIte, keep58, ib58, mk58, Tryz.f58]
    first | refine HFnF.mk (hp) ?_ | refine CallSF.mk (hp) ?_ | refine HFnF.mkAt (hp) ?_ | refine CallSF.mk (FnAt.fn0 (hp)) ?_
    simp (maxSteps := 1000000) -dsimp -implicitDefEqProofs only [go_sem, ↓reduceIte, keep58, ib58, mk58, Tryz.f58]
    simp (maxSteps := 1000000) -dsimp -implicitDefEqProofs only [go_sem, ↓reduceIte, keep58, ib58, mk58, Tryz.f58, ifc_err]
  | _ =>
    have hn : ¬ rdOK hi s := fun q => by rw [hr q] at e; cases e
    have he : errV s = .iface 147 .any := by rw [errV, e]
    rw [he] at hp
    rw [decide_eq_false hn]
    refine fn0F 30 keep58 ib58 mk58 mix Tryz.func58 rfl (by kernel_rfl) (by simp) fun h => ?_
    simp (maxSteps := 1000000) -dsimp -implicitDefEqProofs only [go_sem, ↓reduceIte, keep58, ib58, mk58, Tryz.f58]
    first | refine HFnF.mk (hp) ?_ | refine CallSF.mk (hp) ?_ | refine HFnF.mkAt (hp) ?_ | refine CallSF.mk (FnAt.fn0 (hp)) ?_
    simp (maxSteps := 1000000) -dsimp -implicitDefEqProofs only [go_sem, ↓reduceIte, keep58, ib58, mk58, Tryz.f58]
    simp (maxSteps := 1000000) -dsimp -implicitDefEqProofs only [go_sem, ↓reduceIte, keep58, ib58, mk58, Tryz.f58, ifc_err]
open Go.Proofs
set_option linter.unusedVariables false
set_option linter.unusedSimpArgs false
theorem decV_bound : ∀ (l : List UInt8), (∀ c ∈ l, 48 ≤ c.toNat ∧ c.toNat ≤ 57) → decV l < 10 ^ l.length := by
  intro l
  induction hn : l.length using Nat.strongRecOn generalizing l with
  | _ n ih =>
    intro h
    rcases List.eq_nil_or_concat l with e | ⟨l', c, e⟩
    · subst e; subst hn; decide
    · rw [List.concat_eq_append] at e
      subst e
      have hc := h c (by simp)
      have h2 := ih l'.length (by rw [← hn]; simp) l' rfl fun x hx => h x (by simp [hx])
      rw [decV_snoc, ← hn, List.length_append, List.length_singleton, Nat.pow_succ]
      omega
theorem rdI_no {s : List UInt8} (h : ¬ rdOK 999999999 s) : HVal.tup [I 0, .bool false] = .tup [I (if rdOK 999999999 s then rdN s else 0), .bool (decide (rdOK 999999999 s))] := by rw [if_neg h, decide_eq_false h]
theorem pow_le9 {k : Nat} (h : k ≤ 9) : 10 ^ k ≤ 1000000000 := by
  have := Nat.pow_le_pow_right (n := 10) (by decide) h
  omega
def keep82 : List Nat := [0, 2, 3, 4, 5, 23, 27, 39]
def ib82 : List Nat := []
def mk82 : Marks := fun _ => ([], .nil, [])
set_option maxRecDepth 100000 in
theorem specReadDecimal (s : List UInt8) (hs : s.length ≤ 1048600) : Fn0 Tryz.prog 82 [.str s] (.tup [I (if rdOK 999999999 s then rdN s else 0), .bool (decide (rdOK 999999999 s))]) := by
  have hiff := digs_rd s
  cases s with
  | nil =>
    have hn : ¬ rdOK 999999999 [] := fun q => (hiff.2 q).1.1 rfl
    have := rdI_no hn
    refine fn0F 49 keep82 ib82 mk82 mix Tryz.func82 rfl (by kernel_rfl) (by simp) fun h => ?_
    simp (maxSteps := 1000000) -dsimp -implicitDefEqProofs only [go_sem, ↓reduceIte, keep82, ib82, mk82, Tryz.f82]
    simpa using this
  | cons c r =>
    have len : (c :: r).length = r.length + 1 := rfl
    have h0 : (c :: r)[Int.toNat 0]? = some c := rfl
    have h00 : (c :: r)[0]? = some c := rfl
    generalize (c :: r) = s at *
    by_cases h9 : 9 < s.length
    · have hn : ¬ rdOK 999999999 s := fun q => by have := (hiff.2 q).2; omega
      have := rdI_no hn
      refine fn0F 49 keep82 ib82 mk82 mix Tryz.func82 rfl (by kernel_rfl) (by simp) fun h => ?_
      simp (maxSteps := 1000000) -dsimp -implicitDefEqProofs only [go_sem, ↓reduceIte, keep82, ib82, mk82, Tryz.f82]
      repeat' (with_reducible first | intro _ | refine And.intro ?_ ?_)
      all_goals first | omega | exact this
    by_cases hz : 1 < s.length ∧ c = 48
    · have hn : ¬ rdOK 999999999 s := fun q => (hiff.2 q).1.2.2 hz.1 (by rw [h00, hz.2])
      have := rdI_no hn
      have h1 := hz.1
      refine fn0F 49 keep82 ib82 mk82 mix Tryz.func82 rfl (by kernel_rfl) (by simp) fun h => ?_
      simp (maxSteps := 1000000) -dsimp -implicitDefEqProofs only [go_sem, ↓reduceIte, keep82, ib82, mk82, Tryz.f82, h0]
      repeat' (with_reducible first | intro _ | refine And.intro ?_ ?_)
      all_goals first | omega | exact this | (exfalso; have e48 : c.toNat = 48 := by rw [hz.2]; rfl
                                              omega)
    · refine fn0F 49 keep82 ib82 mk82 mix Tryz.func82 rfl (by kernel_rfl) (by simp) fun h => ?_
      simp (maxSteps := 1000000) -dsimp -implicitDefEqProofs only [go_sem, ↓reduceIte, keep82, ib82, mk82, Tryz.f82, h0]
      repeat' (with_reducible first | intro _ | refine And.intro ?_ ?_)
      all_goals try omega
      all_goals try (exfalso; exact hz ⟨by omega, UInt8.toNat.inj (by show c.toNat = 48; omega)⟩)
      all_goals
        refine loopF (keep := keep82) (ib := ib82) (mk := mk82) mix (by kernel_rfl) (fun k : Nat => [(0, .str s), (4, I (decV (s.take k))), (5, I k)]) (fun _ => h) (fun k => k ≤ s.length ∧ ∀ x ∈ s.take k, 48 ≤ x.toNat ∧ x.toNat ≤ 57) (fun k => s.length - k) 0 (by simp [SatL, tget, Heap.le_refl, decV]) ?_
      all_goals
        rintro k ⟨hk, hd⟩
        rcases Nat.lt_or_ge k s.length with hlt | hge
        · have ea : s[k]? = some s[k] := List.getElem?_eq_getElem hlt
          have hb := decV_bound _ hd
          rw [List.length_take, Nat.min_eq_left hk] at hb
          have hp := pow_le9 (k := k) (by omega)
          have hsn : decV (s.take (k + 1)) = 10 * decV (s.take k) + (s[k].toNat - 48) := by rw [List.take_succ_eq_append_getElem hlt, decV_snoc]
          have hno : ¬ (48 ≤ s[k].toNat ∧ s[k].toNat ≤ 57) → ¬ rdOK 999999999 s := fun q z => q ((hiff.2 z).1.2.1 _ (List.getElem_mem hlt))
          have hyes : 48 ≤ s[k].toNat ∧ s[k].toNat ≤ 57 → ∀ x ∈ s.take (k + 1), 48 ≤ x.toNat ∧ x.toNat ≤ 57 := fun q x hx => by
            rw [List.take_succ_eq_append_getElem hlt] at hx
            rcases List.mem_append.1 hx with hx | hx
            · exact hd x hx
            · rw [List.mem_singleton.1 hx]; exact q
          simp (maxSteps := 1000000) -dsimp -implicitDefEqProofs only [go_sem, ↓reduceIte, keep82, ib82, mk82, Tryz.f82, ea]
          repeat' (with_reducible first | intro _ | refine And.intro ?_ ?_)
          all_goals try omega
          all_goals try (exact rdI_no (hno (by omega)))
          refine ⟨k + 1, ⟨?_, IntWalk.i64_in _ (by omega)⟩, ⟨hlt, hyes (by omega)⟩, by omega⟩
          rw [IntWalk.u8_in _ (by omega), IntWalk.i64_in ((s[k].toNat : Int) - 48) (by omega), IntWalk.i64_in (10 * (decV (List.take k s) : Int)) (by omega), IntWalk.i64_in _ (by omega), hsn]
          omega
        · have hk' : k = s.length := by omega
          rw [hk', List.take_length] at hd
          have hok : rdOK 999999999 s := by
            refine hiff.1 ⟨⟨fun e => by rw [e] at len; simp at len, hd, fun h1 q => ?_⟩, by omega⟩
            rw [h00] at q
            exact hz ⟨h1, Option.some.inj q⟩
          rw [hk', List.take_length]
          simp (maxSteps := 1000000) -dsimp -implicitDefEqProofs only [go_sem, ↓reduceIte, keep82, ib82, mk82, Tryz.f82, Nat.lt_irrefl, Int.lt_irrefl]
          repeat' (with_reducible first | intro _ | refine And.intro ?_ ?_)
          rw [if_pos hok, decide_eq_true hok, decV_rd hok]
open Go.Proofs
set_option linter.unusedVariables false
set_option linter.unusedSimpArgs false
end Go.Hl

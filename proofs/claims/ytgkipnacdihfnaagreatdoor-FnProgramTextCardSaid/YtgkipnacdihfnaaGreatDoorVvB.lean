/-
  Contracts of functions and laws of the layer over the walk.
-/
import Derived.Test.YtgkipnacdihfnaaGreatDoorVvA
import Derived.Shelf.Strings.Split
import Derived.Shelf.Strings.Cut
import Derived.Shelf.Strconv.ParseIntPublic10
import Derived.Shelf.Slices.Turned
import Derived.Test.YtgkipnacdihfnaaGreatDoorHlD
import Derived.Test.YtgkipnacdihfnaaGreatDoorGb
namespace Go.Hl
open Go.Proofs
set_option linter.unusedVariables false
set_option linter.unusedSimpArgs false
/-- Texts with "; " between them. -/
def semis : List (List UInt8) → List UInt8
  | [] => []
  | [a] => a
  | a :: b :: l => a ++ 59 :: 32 :: semis (b :: l)
theorem semis_snoc (a : List UInt8) : ∀ l : List (List UInt8), ¬ l = [] → semis (l ++ [a]) = semis l ++ 59 :: 32 :: a
  | [], h => absurd rfl h
  | [b], _ => rfl
  | b :: c :: l, _ => by
    show b ++ 59 :: 32 :: semis ((c :: l) ++ [a]) = (b ++ 59 :: 32 :: semis (c :: l)) ++ 59 :: 32 :: a
    rw [semis_snoc a (c :: l) (by simp)]; simp
theorem semis_len : ∀ l : List (List UInt8), (semis l).length ≤ (l.map fun a => a.length + 2).sum
  | [] => Nat.le_refl _
  | [a] => by simp [semis]
  | a :: b :: l => by
    have := semis_len (b :: l)
    simp only [semis, List.map_cons, List.sum_cons, List.length_append, List.length_cons] at this ⊢
    omega
def signB (k : Int) : UInt8 := if k = 3 then 43 else if k = 4 then 45 else if k = 5 then 42 else 47
def nameAt (p : DProgram) (n : Int) : List UInt8 := match p.fFuncs[n.toNat]? with | some f => f.fName | none => []
/-- What stands ahead of the list of kids. -/
def headT (p : DProgram) (k n i c : Int) : List UInt8 :=
  if k = 7 then [110, 101, 103] else if k = 8 then [105, 102] else if k = 9 then [108, 101, 116] else if k = 10 then nameAt p n ++ 46 :: Go.Lib.itoa i else nameAt p n ++ 46 :: Go.Lib.itoa i ++ 94 :: Go.Lib.itoa c
mutual
def DExpr.txt (p : DProgram) : DExpr → List UInt8
  | .mk k n i c kids =>
    if k = 1 then Go.Lib.itoa n else if k = 2 then 120 :: Go.Lib.itoa n
    else if 3 ≤ k ∧ k ≤ 6 then 40 :: ((DExpr.txtL p kids).getD 0 [] ++ 32 :: signB k :: 32 :: ((DExpr.txtL p kids).getD 1 [] ++ [41]))
    else headT p k n i c ++ 40 :: (semis (DExpr.txtL p kids) ++ [41])
def DExpr.txtL (p : DProgram) : List DExpr → List (List UInt8)
  | [] => []
  | x :: l => x.txt p :: DExpr.txtL p l
end
theorem DExpr.txtL_map (p : DProgram) : ∀ l : List DExpr, DExpr.txtL p l = l.map (DExpr.txt p)
  | [] => rfl
  | x :: l => by rw [DExpr.txtL, DExpr.txtL_map p l]; rfl
theorem DExpr.txt_eq (p : DProgram) (e : DExpr) : e.txt p = if e.fKind = 1 then Go.Lib.itoa e.fNum else if e.fKind = 2 then 120 :: Go.Lib.itoa e.fNum
    else if 3 ≤ e.fKind ∧ e.fKind ≤ 6 then 40 :: ((e.fKids.map (DExpr.txt p)).getD 0 [] ++ 32 :: signB e.fKind :: 32 :: ((e.fKids.map (DExpr.txt p)).getD 1 [] ++ [41]))
    else headT p e.fKind e.fNum e.fPick e.fCount ++ 40 :: (semis (e.fKids.map (DExpr.txt p)) ++ [41]) := by
  cases e with
  | mk k n i c kids =>
    rw [DExpr.txt, DExpr.txtL_map]; rfl
/-- An expression may stand in a program. -/
structure Stands (p : DProgram) (funcs : Int) (e : DExpr) (vars : Int) : Prop where
  ok : e.ok p funcs vars
  vars : vars + e.s ≤ 1000000
  f0 : 0 ≤ funcs
  f1 : funcs ≤ p.fFuncs.length
theorem Stands.kid {p : DProgram} {funcs vars : Int} {e : DExpr} (h : Stands p funcs e vars) {k : Nat} (hk : k < e.fKids.length) : ∃ v, Stands p funcs e.fKids[k] v := by
  have h1 := ((DExpr.ok_iff _ _ _ _).1 h.ok).2 k hk
  have h2 := DExpr.kid_s (List.getElem_mem hk)
  have h3 := h.vars
  refine ⟨_, h1, ?_, h.f0, h.f1⟩
  unfold moreV; split <;> omega
theorem Stands.node {p : DProgram} {funcs vars : Int} {e : DExpr} (h : Stands p funcs e vars) : nodeOK p e vars funcs := ((DExpr.ok_iff _ _ _ _).1 h.ok).1
theorem Stands.num {p : DProgram} {funcs vars : Int} {e : DExpr} (h : Stands p funcs e vars) (hk : e.fKind = 1 ∨ e.fKind = 2) : Num e.fNum := by
  have hn := h.node
  have hv := h.vars
  unfold nodeOK at hn
  rw [if_neg (by omega)] at hn
  rcases hk with q | q
  · exact hn.2.2.2.1 q
  · have := hn.2.2.2.2.1 q
    constructor <;> omega
theorem Stands.kind {p : DProgram} {funcs vars : Int} {e : DExpr} (h : Stands p funcs e vars) : 1 ≤ e.fKind ∧ e.fKind ≤ 11 := by
  have hn := h.node
  unfold nodeOK at hn
  split at hn
  · omega
  · have h1 := hn.1
    unfold kidsN at h1
    repeat' split at h1
    all_goals omega
theorem Stands.two {p : DProgram} {funcs vars : Int} {e : DExpr} (h : Stands p funcs e vars) (hk : 3 ≤ e.fKind ∧ e.fKind ≤ 6) : e.fKids.length = 2 := by
  have hn := h.node
  unfold nodeOK at hn
  rw [if_neg (by omega)] at hn
  have h1 := hn.1
  unfold kidsN at h1
  rw [if_neg (by omega), if_pos (by omega)] at h1
  omega
theorem Stands.call {p : DProgram} (hp : p.ok) {funcs vars : Int} {e : DExpr} (h : Stands p funcs e vars) (hk : e.fKind = 10 ∨ e.fKind = 11) :
    ∃ f, p.fFuncs[e.fNum.toNat]? = some f ∧ nameAt p e.fNum = f.fName ∧ f.fName.length ≤ 12 ∧ 0 ≤ e.fNum ∧ e.fNum < p.fFuncs.length ∧ Num e.fPick ∧ Num e.fCount := by
  have hn := h.node
  have h1 := h.f1
  unfold nodeOK at hn
  rw [if_pos hk] at hn
  obtain ⟨a, b, c⟩ := hn
  have hlt : e.fNum.toNat < p.fFuncs.length := by omega
  have ef : p.fFuncs[e.fNum.toNat]? = some p.fFuncs[e.fNum.toNat] := List.getElem?_eq_getElem hlt
  have hf := hp.2 _ _ ef
  obtain ⟨c1, c2, c3, c4, c5⟩ := c _ ef
  have ho := hf.2.2.1
  refine ⟨_, ef, by unfold nameAt; rw [ef], hf.1.2.1, a, by omega, ⟨by omega, by omega⟩, ?_⟩
  rcases hk with q | q
  · rw [c4 q]; exact ⟨by omega, by omega⟩
  · have := c5 q; exact ⟨by omega, by omega⟩
theorem sum_txt {p : DProgram} : ∀ l : List DExpr, (∀ x ∈ l, (x.txt p).length + 2 ≤ 64 * (x.s + 1)) → ((l.map (DExpr.txt p)).map fun a => a.length + 2).sum ≤ 64 * szs DExpr.s l
  | [], _ => Nat.zero_le _
  | x :: l, h => by
    have h1 := sum_txt l fun y hy => h y (List.mem_cons_of_mem _ hy)
    have h2 := h x (List.mem_cons_self ..)
    simp only [szs_eq, List.map_cons, List.sum_cons, List.length_cons] at h1 ⊢
    omega
theorem headT_len {p : DProgram} (hp : p.ok) {funcs vars : Int} {e : DExpr} (h : Stands p funcs e vars) (h7 : 7 ≤ e.fKind) : (headT p e.fKind e.fNum e.fPick e.fCount).length ≤ 56 := by
  have hk := h.kind
  unfold headT
  split
  · simp
  · split
    · simp
    · split
      · simp
      · by_cases hc : e.fKind = 10 ∨ e.fKind = 11
        · obtain ⟨f, ef, en, hl, -, -, hi, hc2⟩ := h.call hp hc
          have h1 := itoa_num hi
          have h2 := itoa_num hc2
          rw [en]
          split <;> simp <;> omega
        · exfalso; omega
theorem DExpr.txt_len {p : DProgram} (hp : p.ok) {funcs : Int} (e : DExpr) (vars : Int) (h : Stands p funcs e vars) : (e.txt p).length + 2 ≤ 64 * (e.s + 1) := by
  have ih : ∀ x ∈ e.fKids, (x.txt p).length + 2 ≤ 64 * (x.s + 1) := fun x hx => by
    obtain ⟨k, hk, ek⟩ := List.mem_iff_getElem.1 hx
    obtain ⟨v, hv⟩ := h.kid hk
    have hs := DExpr.kid_s hx
    subst ek
    exact DExpr.txt_len hp e.fKids[k] v hv
  have hsum := sum_txt e.fKids ih
  rw [← e.s_eq] at hsum
  rw [DExpr.txt_eq]
  split
  · have := itoa_num (h.num (.inl (by assumption))); omega
  · split
    · have := itoa_num (h.num (.inr (by assumption))); rw [List.length_cons]; omega
    · split
      · rename_i hk
        have h2 := h.two hk
        match hkl : e.fKids, h2 with
        | [a, b], _ =>
          rw [hkl] at hsum
          simp at hsum ⊢
          omega
      · have h1 := semis_len (e.fKids.map (DExpr.txt p))
        have hk := h.kind
        have hh := headT_len hp h (by omega)
        simp only [List.length_append, List.length_cons, List.length_nil]
        omega
termination_by e.s
theorem semis_take {p : DProgram} (hp : p.ok) {funcs vars : Int} {e : DExpr} (h : Stands p funcs e vars) (k : Nat) : (semis ((e.fKids.map (DExpr.txt p)).take k)).length ≤ 64 * (e.s + 1) := by
  have h1 := semis_len ((e.fKids.map (DExpr.txt p)).take k)
  rw [← List.map_take] at h1 ⊢
  have h2 := sum_txt (p := p) (e.fKids.take k) fun x hx => by
    obtain ⟨j, hj, ek⟩ := List.mem_iff_getElem.1 (List.mem_of_mem_take hx)
    obtain ⟨v, hv⟩ := h.kid hj
    subst ek
    exact DExpr.txt_len hp _ v hv
  have h3 : szs DExpr.s (e.fKids.take k) ≤ e.s := by
    rw [e.s_eq, szs_eq, szs_eq]
    have h4 : ((e.fKids.take k).map DExpr.s).sum + ((e.fKids.drop k).map DExpr.s).sum = (e.fKids.map DExpr.s).sum := by
      rw [← List.sum_append, ← List.map_append, List.take_append_drop]
    have h5 : (e.fKids.take k).length ≤ e.fKids.length := by rw [List.length_take]; omega
    omega
  omega
theorem semis_next {p : DProgram} {l : List DExpr} {k : Nat} (hk : k < l.length) : (0 < k → semis ((l.map (DExpr.txt p)).take (k + 1)) = semis ((l.map (DExpr.txt p)).take k) ++ 59 :: 32 :: l[k].txt p) ∧ (k = 0 → semis ((l.map (DExpr.txt p)).take (k + 1)) = l[k].txt p) := by
  have h1 : (l.map (DExpr.txt p)).take (k + 1) = (l.map (DExpr.txt p)).take k ++ [l[k].txt p] := by
    rw [List.take_succ_eq_append_getElem (by simpa using hk)]; simp
  rw [h1]
  refine ⟨fun h0 => semis_snoc _ _ fun q => ?_, fun h0 => ?_⟩
  · have := congrArg List.length q
    rw [List.length_take, List.length_map, List.length_nil] at this
    omega
  · subst h0; simp [semis]
theorem semis_room {p : DProgram} (hp : p.ok) {funcs vars : Int} {e : DExpr} (h : Stands p funcs e vars) {k : Nat} (hk : k < e.fKids.length) : (semis ((e.fKids.map (DExpr.txt p)).take k)).length + 64 * (e.fKids[k].s + 1) ≤ 64 * e.s := by
  have h1 := semis_len ((e.fKids.map (DExpr.txt p)).take k)
  rw [← List.map_take] at h1 ⊢
  have h2 := sum_txt (p := p) (e.fKids.take k) fun x hx => by
    obtain ⟨j, hj, ek⟩ := List.mem_iff_getElem.1 (List.mem_of_mem_take hx)
    obtain ⟨v, hv⟩ := h.kid hj
    subst ek
    exact DExpr.txt_len hp _ v hv
  have h3 := e.part_s hk
  rw [szs_eq, List.length_take] at h2
  omega
open Go.Proofs
set_option linter.unusedVariables false
set_option linter.unusedSimpArgs false
def keep35 : List Nat := [0, 2, 4]
def ib35 : List Nat := []
def mk35 : Marks := fun _ => ([], .nil, [])
theorem signI (k : Int) (hk : 3 ≤ k ∧ k ≤ 6) : Fn0 Tryz.prog 35 [I k] (.int .u8 (signB k).toNat) := by
  rcases (by omega : k = 3 ∨ k = 4 ∨ k = 5 ∨ k = 6) with rfl | rfl | rfl | rfl
  · refine fn0F 8 keep35 ib35 mk35 mix Tryz.func35 rfl (by kernel_rfl) (by simp) fun h => ?_
    simp (maxSteps := 1000000) -dsimp -implicitDefEqProofs only [go_sem, ↓reduceIte, keep35, ib35, mk35, Tryz.f35]
    first | refine HFnF.mk (within 3 3 6) ?_ | refine CallSF.mk (within 3 3 6) ?_ | refine HFnF.mkAt (within 3 3 6) ?_ | refine CallSF.mk (FnAt.fn0 (within 3 3 6)) ?_
    simp (maxSteps := 1000000) -dsimp -implicitDefEqProofs only [go_sem, ↓reduceIte, keep35, ib35, mk35, Tryz.f35]
    have w0 : IntKind.i64.wrap ((3 : Int) - 3) = 0 := rfl
    have w1 : ([43, 45, 42, 47] : List UInt8)[Int.toNat 0]? = some 43 := rfl
    simp (maxSteps := 1000000) -dsimp -implicitDefEqProofs only [go_sem, ↓reduceIte, keep35, ib35, mk35, Tryz.f35, w0, w1]
    repeat' (with_reducible first | intro _ | refine And.intro ?_ ?_)
    all_goals first
      | decide
      | rfl
  · refine fn0F 8 keep35 ib35 mk35 mix Tryz.func35 rfl (by kernel_rfl) (by simp) fun h => ?_
    simp (maxSteps := 1000000) -dsimp -implicitDefEqProofs only [go_sem, ↓reduceIte, keep35, ib35, mk35, Tryz.f35]
    first | refine HFnF.mk (within 4 3 6) ?_ | refine CallSF.mk (within 4 3 6) ?_ | refine HFnF.mkAt (within 4 3 6) ?_ | refine CallSF.mk (FnAt.fn0 (within 4 3 6)) ?_
    simp (maxSteps := 1000000) -dsimp -implicitDefEqProofs only [go_sem, ↓reduceIte, keep35, ib35, mk35, Tryz.f35]
    have w0 : IntKind.i64.wrap ((4 : Int) - 3) = 1 := rfl
    have w1 : ([43, 45, 42, 47] : List UInt8)[Int.toNat 1]? = some 45 := rfl
    simp (maxSteps := 1000000) -dsimp -implicitDefEqProofs only [go_sem, ↓reduceIte, keep35, ib35, mk35, Tryz.f35, w0, w1]
    repeat' (with_reducible first | intro _ | refine And.intro ?_ ?_)
    all_goals first
      | decide
      | rfl
  · refine fn0F 8 keep35 ib35 mk35 mix Tryz.func35 rfl (by kernel_rfl) (by simp) fun h => ?_
    simp (maxSteps := 1000000) -dsimp -implicitDefEqProofs only [go_sem, ↓reduceIte, keep35, ib35, mk35, Tryz.f35]
    first | refine HFnF.mk (within 5 3 6) ?_ | refine CallSF.mk (within 5 3 6) ?_ | refine HFnF.mkAt (within 5 3 6) ?_ | refine CallSF.mk (FnAt.fn0 (within 5 3 6)) ?_
    simp (maxSteps := 1000000) -dsimp -implicitDefEqProofs only [go_sem, ↓reduceIte, keep35, ib35, mk35, Tryz.f35]
    have w0 : IntKind.i64.wrap ((5 : Int) - 3) = 2 := rfl
    have w1 : ([43, 45, 42, 47] : List UInt8)[Int.toNat 2]? = some 42 := rfl
    simp (maxSteps := 1000000) -dsimp -implicitDefEqProofs only [go_sem, ↓reduceIte, keep35, ib35, mk35, Tryz.f35, w0, w1]
    repeat' (with_reducible first | intro _ | refine And.intro ?_ ?_)
    all_goals first
      | decide
      | rfl
  · refine fn0F 8 keep35 ib35 mk35 mix Tryz.func35 rfl (by kernel_rfl) (by simp) fun h => ?_
    simp (maxSteps := 1000000) -dsimp -implicitDefEqProofs only [go_sem, ↓reduceIte, keep35, ib35, mk35, Tryz.f35]
    first | refine HFnF.mk (within 6 3 6) ?_ | refine CallSF.mk (within 6 3 6) ?_ | refine HFnF.mkAt (within 6 3 6) ?_ | refine CallSF.mk (FnAt.fn0 (within 6 3 6)) ?_
    simp (maxSteps := 1000000) -dsimp -implicitDefEqProofs only [go_sem, ↓reduceIte, keep35, ib35, mk35, Tryz.f35]
    have w0 : IntKind.i64.wrap ((6 : Int) - 3) = 3 := rfl
    have w1 : ([43, 45, 42, 47] : List UInt8)[Int.toNat 3]? = some 47 := rfl
    simp (maxSteps := 1000000) -dsimp -implicitDefEqProofs only [go_sem, ↓reduceIte, keep35, ib35, mk35, Tryz.f35, w0, w1]
    repeat' (with_reducible first | intro _ | refine And.intro ?_ ?_)
    all_goals first
      | decide
      | rfl
open Go.Proofs
set_option linter.unusedVariables false
set_option linter.unusedSimpArgs false
end Go.Hl
namespace Go.Proofs
open Go.Shelf
def Tryz.lays145_ren : Go.Shelf.Ren := ⟨fun | 145 => 37 | 220 => 54 | 219 => 69 | 217 => 85 | 225 => 86 | 224 => 87 | 267 => 88 | 266 => 99 | 314 => 100 | n => n, fun | 9 => 9 | 4 => 4 | 59 => 77 | 3 => 3 | 5 => 5 | 46 => 109 | 146 => 144 | 51 => 128 | n => n, fun | 1 => 1 | n => n⟩
theorem Tryz.lays145 : Go.Proofs.Lays.n145 Tryz.prog Tryz.lays145_ren := {
  mixed := by kernel_rfl
  f145 := Tryz.func37.trans (congrArg some (by kernel_rfl))
  f217 := Tryz.func85.trans (congrArg some (by kernel_rfl))
  f219 := Tryz.func69.trans (congrArg some (by kernel_rfl))
  f220 := Tryz.func54.trans (congrArg some (by kernel_rfl))
  f224 := Tryz.func87.trans (congrArg some (by kernel_rfl))
  f225 := Tryz.func86.trans (congrArg some (by kernel_rfl))
  f266 := Tryz.func99.trans (congrArg some (by kernel_rfl))
  f267 := Tryz.func88.trans (congrArg some (by kernel_rfl))
  f314 := Tryz.func100.trans (congrArg some (by kernel_rfl))
  t3 := Tryz.underlying3
  a3 := Tryz.isAgg3
  z3 := Tryz.sizeOf3
  v3 := Tryz.zeroValue3
  t4 := Tryz.underlying4
  a4 := Tryz.isAgg4
  z4 := Tryz.sizeOf4
  v4 := Tryz.zeroValue4
  t5 := Tryz.underlying5
  a5 := Tryz.isAgg5
  z5 := Tryz.sizeOf5
  v5 := Tryz.zeroValue5
  t9 := Tryz.underlying9
  a9 := Tryz.isAgg9
  z9 := Tryz.sizeOf9
  v9 := Tryz.zeroValue9
  t46 := Tryz.underlying109
  a46 := Tryz.isAgg109
  z46 := Tryz.sizeOf109
  v46 := Tryz.zeroValue109
  t51 := Tryz.underlying128
  a51 := Tryz.isAgg128
  z51 := Tryz.sizeOf128
  v51 := Tryz.zeroValue128
  t59 := Tryz.underlying77
  a59 := Tryz.isAgg77
  z59 := Tryz.sizeOf77
  v59 := Tryz.zeroValue77
  t146 := Tryz.underlying144
  a146 := Tryz.isAgg144
  z146 := Tryz.sizeOf144
  v146 := Tryz.zeroValue144
  g1 := by kernel_rfl }
open Go.RowKit Go.Lib in
theorem Tryz.strings_Cut (s sep : ByteArray) (m : Int) (w : World) (hs : s.size < 4294967281) (hm : w.cell? ⟨1, 0, none⟩ = some (.int .i64 m)) :
    Calls Tryz.prog 37 #[.string s, .string sep] w fun e w' => e = .returned (.tuple #[.string ⟨(Lib.cut s.data.toList sep.data.toList).1.toArray⟩, .string ⟨(Lib.cut s.data.toList sep.data.toList).2.1.toArray⟩, .bool (Lib.cut s.data.toList sep.data.toList).2.2]) ∧ ∃ n, w' = w.drewN n := Any.strings_Cut Tryz.lays145 s sep m w hs hm
def Tryz.lays146_ren : Go.Shelf.Ren := ⟨fun | 146 => 18 | 221 => 36 | 268 => 51 | 138 => 52 | 143 => 53 | 195 => 66 | 197 => 67 | 218 => 68 | 219 => 69 | 260 => 84 | 217 => 85 | 225 => 86 | 224 => 87 | 267 => 88 | 266 => 99 | 314 => 100 | n => n, fun | 9 => 9 | 31 => 54 | 3 => 3 | 4 => 4 | 0 => 0 | 105 => 117 | 21 => 21 | 5 => 5 | 46 => 109 | 119 => 140 | 139 => 143 | 138 => 142 | 146 => 144 | 51 => 128 | n => n, fun | 1 => 1 | 3 => 2 | 4 => 3 | n => n⟩
theorem Tryz.lays146 : Go.Proofs.Lays.n146 Tryz.prog Tryz.lays146_ren := {
  mixed := by kernel_rfl
  f138 := Tryz.func52.trans (congrArg some (by kernel_rfl))
  f143 := Tryz.func53.trans (congrArg some (by kernel_rfl))
  f146 := Tryz.func18.trans (congrArg some (by kernel_rfl))
  f195 := Tryz.func66.trans (congrArg some (by kernel_rfl))
  f197 := Tryz.func67.trans (congrArg some (by kernel_rfl))
  f217 := Tryz.func85.trans (congrArg some (by kernel_rfl))
  f218 := Tryz.func68.trans (congrArg some (by kernel_rfl))
  f219 := Tryz.func69.trans (congrArg some (by kernel_rfl))
  f221 := Tryz.func36.trans (congrArg some (by kernel_rfl))
  f224 := Tryz.func87.trans (congrArg some (by kernel_rfl))
  f225 := Tryz.func86.trans (congrArg some (by kernel_rfl))
  f260 := Tryz.func84.trans (congrArg some (by kernel_rfl))
  f266 := Tryz.func99.trans (congrArg some (by kernel_rfl))
  f267 := Tryz.func88.trans (congrArg some (by kernel_rfl))
  f268 := Tryz.func51.trans (congrArg some (by kernel_rfl))
  f314 := Tryz.func100.trans (congrArg some (by kernel_rfl))
  t0 := Tryz.underlying0
  a0 := Tryz.isAgg0
  z0 := Tryz.sizeOf0
  v0 := Tryz.zeroValue0
  t3 := Tryz.underlying3
  a3 := Tryz.isAgg3
  z3 := Tryz.sizeOf3
  v3 := Tryz.zeroValue3
  t4 := Tryz.underlying4
  a4 := Tryz.isAgg4
  z4 := Tryz.sizeOf4
  v4 := Tryz.zeroValue4
  t5 := Tryz.underlying5
  a5 := Tryz.isAgg5
  z5 := Tryz.sizeOf5
  v5 := Tryz.zeroValue5
  t9 := Tryz.underlying9
  a9 := Tryz.isAgg9
  z9 := Tryz.sizeOf9
  v9 := Tryz.zeroValue9
  t21 := Tryz.underlying21
  a21 := Tryz.isAgg21
  z21 := Tryz.sizeOf21
  v21 := Tryz.zeroValue21
  t31 := Tryz.underlying54
  a31 := Tryz.isAgg54
  z31 := Tryz.sizeOf54
  v31 := Tryz.zeroValue54
  t46 := Tryz.underlying109
  a46 := Tryz.isAgg109
  z46 := Tryz.sizeOf109
  v46 := Tryz.zeroValue109
  t51 := Tryz.underlying128
  a51 := Tryz.isAgg128
  z51 := Tryz.sizeOf128
  v51 := Tryz.zeroValue128
  t105 := Tryz.underlying117
  a105 := Tryz.isAgg117
  z105 := Tryz.sizeOf117
  v105 := Tryz.zeroValue117
  t119 := Tryz.underlying140
  a119 := Tryz.isAgg140
  z119 := Tryz.sizeOf140
  t138 := Tryz.underlying142
  a138 := Tryz.isAgg142
  z138 := Tryz.sizeOf142
  v138 := Tryz.zeroValue142
  t139 := Tryz.underlying143
  a139 := Tryz.isAgg143
  z139 := Tryz.sizeOf143
  v139 := Tryz.zeroValue143
  t146 := Tryz.underlying144
  a146 := Tryz.isAgg144
  z146 := Tryz.sizeOf144
  v146 := Tryz.zeroValue144
  g1 := by kernel_rfl
  g3 := by kernel_rfl
  g4 := by kernel_rfl }
open Go.RowKit Go.Lib in
theorem Tryz.strings_Split (s sep : ByteArray) (m : Int) (w : World) (hs : s.size < 4294967281) (hm : w.cell? ⟨1, 0, none⟩ = some (.int .i64 m)) (h1 : 1 ≤ sep.size) :
    Calls Tryz.prog 18 #[.string s, .string sep] w fun e w' =>
      e = .returned (.slice (some ⟨w.heap.size, 0, none⟩) (Lib.countB s sep + 1) (Lib.countB s sep + 1)) ∧ w' = w.alloc (.cells ((Lib.splitB sep 0 (Lib.countB s sep) s).map Value.string).toArray 9) := Any.strings_Split Tryz.lays146 (by kernel_rfl) s sep m w hs hm h1
def Tryz.laysC174_ren : Go.Shelf.Ren := ⟨fun | 174 => 55 | 247 => 70 | 245 => 71 | 287 => 89 | 279 => 90 | 280 => 91 | 281 => 92 | 282 => 93 | 321 => 101 | 322 => 102 | 316 => 103 | 171 => 105 | 205 => 104 | 243 => 107 | 246 => 50 | 283 => 62 | 284 => 63 | 285 => 64 | 286 => 65 | 129 => 80 | 317 => 79 | 318 => 81 | 319 => 82 | 320 => 83 | 337 => 97 | 338 => 98 | n => n, fun | 9 => 9 | 3 => 3 | 2 => 2 | 75 => 45 | 85 => 100 | 4 => 4 | 167 => 132 | 5 => 5 | 53 => 65 | 175 => 133 | 46 => 109 | 168 => 135 | 37 => 22 | 0 => 0 | 210 => 149 | 21 => 21 | 127 => 75 | 145 => 155 | 143 => 153 | 171 => 111 | 173 => 114 | 212 => 127 | 51 => 128 | 20 => 20 | 213 => 129 | 232 => 151 | 233 => 152 | 80 => 53 | n => n, fun | 15 => 4 | 16 => 5 | 17 => 0 | 18 => 6 | 19 => 7 | n => n⟩
theorem Tryz.laysC174 : Go.Proofs.LaysC.n174 Tryz.prog Tryz.laysC174_ren := {
  mixed := by kernel_rfl
  f129 := Tryz.func80.trans (congrArg some (by kernel_rfl))
  f171 := Tryz.func105.trans (congrArg some (by kernel_rfl))
  f174 := Tryz.func55.trans (congrArg some (by kernel_rfl))
  f205 := Tryz.func104.trans (congrArg some (by kernel_rfl))
  f243 := Tryz.func107.trans (congrArg some (by kernel_rfl))
  f245 := Tryz.func71.trans (congrArg some (by kernel_rfl))
  f246 := Tryz.func50.trans (congrArg some (by kernel_rfl))
  f247 := Tryz.func70.trans (congrArg some (by kernel_rfl))
  f279 := Tryz.func90.trans (congrArg some (by kernel_rfl))
  f280 := Tryz.func91.trans (congrArg some (by kernel_rfl))
  f281 := Tryz.func92.trans (congrArg some (by kernel_rfl))
  f282 := Tryz.func93.trans (congrArg some (by kernel_rfl))
  f283 := Tryz.func62.trans (congrArg some (by kernel_rfl))
  f284 := Tryz.func63.trans (congrArg some (by kernel_rfl))
  f285 := Tryz.func64.trans (congrArg some (by kernel_rfl))
  f286 := Tryz.func65.trans (congrArg some (by kernel_rfl))
  f287 := Tryz.func89.trans (congrArg some (by kernel_rfl))
  f316 := Tryz.func103.trans (congrArg some (by kernel_rfl))
  f317 := Tryz.func79.trans (congrArg some (by kernel_rfl))
  f318 := Tryz.func81.trans (congrArg some (by kernel_rfl))
  f319 := Tryz.func82.trans (congrArg some (by kernel_rfl))
  f320 := Tryz.func83.trans (congrArg some (by kernel_rfl))
  f321 := Tryz.func101.trans (congrArg some (by kernel_rfl))
  f322 := Tryz.func102.trans (congrArg some (by kernel_rfl))
  f337 := Tryz.func97.trans (congrArg some (by kernel_rfl))
  f338 := Tryz.func98.trans (congrArg some (by kernel_rfl))
  t0 := Tryz.underlying0
  a0 := Tryz.isAgg0
  z0 := Tryz.sizeOf0
  v0 := Tryz.zeroValue0
  t2 := Tryz.underlying2
  a2 := Tryz.isAgg2
  z2 := Tryz.sizeOf2
  v2 := Tryz.zeroValue2
  t3 := Tryz.underlying3
  a3 := Tryz.isAgg3
  z3 := Tryz.sizeOf3
  v3 := Tryz.zeroValue3
  t4 := Tryz.underlying4
  a4 := Tryz.isAgg4
  z4 := Tryz.sizeOf4
  v4 := Tryz.zeroValue4
  t5 := Tryz.underlying5
  a5 := Tryz.isAgg5
  z5 := Tryz.sizeOf5
  v5 := Tryz.zeroValue5
  t9 := Tryz.underlying9
  a9 := Tryz.isAgg9
  z9 := Tryz.sizeOf9
  v9 := Tryz.zeroValue9
  t20 := Tryz.underlying20
  a20 := Tryz.isAgg20
  z20 := Tryz.sizeOf20
  v20 := Tryz.zeroValue20
  t21 := Tryz.underlying21
  a21 := Tryz.isAgg21
  z21 := Tryz.sizeOf21
  v21 := Tryz.zeroValue21
  t37 := Tryz.underlying22
  a37 := Tryz.isAgg22
  z37 := Tryz.sizeOf22
  v37 := Tryz.zeroValue22
  t46 := Tryz.underlying109
  a46 := Tryz.isAgg109
  z46 := Tryz.sizeOf109
  v46 := Tryz.zeroValue109
  t51 := Tryz.underlying128
  a51 := Tryz.isAgg128
  z51 := Tryz.sizeOf128
  v51 := Tryz.zeroValue128
  t53 := Tryz.underlying65
  a53 := Tryz.isAgg65
  z53 := Tryz.sizeOf65
  v53 := Tryz.zeroValue65
  t75 := Tryz.underlying45
  a75 := Tryz.isAgg45
  z75 := Tryz.sizeOf45
  v75 := Tryz.zeroValue45
  t85 := Tryz.underlying100
  a85 := Tryz.isAgg100
  z85 := Tryz.sizeOf100
  v85 := Tryz.zeroValue100
  t127 := Tryz.underlying75
  a127 := Tryz.isAgg75
  z127 := Tryz.sizeOf75
  v127 := Tryz.zeroValue75
  t143 := Tryz.underlying153
  a143 := Tryz.isAgg153
  z143 := Tryz.sizeOf153
  v143 := Tryz.zeroValue153
  t145 := Tryz.underlying155
  a145 := Tryz.isAgg155
  z145 := Tryz.sizeOf155
  v145 := Tryz.zeroValue155
  t167 := Tryz.underlying132
  a167 := Tryz.isAgg132
  z167 := Tryz.sizeOf132
  v167 := Tryz.zeroValue132
  t168 := Tryz.underlying135
  a168 := Tryz.isAgg135
  z168 := Tryz.sizeOf135
  v168 := Tryz.zeroValue135
  t171 := Tryz.underlying111
  a171 := Tryz.isAgg111
  z171 := Tryz.sizeOf111
  v171 := Tryz.zeroValue111
  t173 := Tryz.underlying114
  a173 := Tryz.isAgg114
  z173 := Tryz.sizeOf114
  v173 := Tryz.zeroValue114
  t175 := Tryz.underlying133
  a175 := Tryz.isAgg133
  z175 := Tryz.sizeOf133
  v175 := Tryz.zeroValue133
  t210 := Tryz.underlying149
  a210 := Tryz.isAgg149
  z210 := Tryz.sizeOf149
  v210 := Tryz.zeroValue149
  t212 := Tryz.underlying127
  a212 := Tryz.isAgg127
  z212 := Tryz.sizeOf127
  v212 := Tryz.zeroValue127
  t213 := Tryz.underlying129
  a213 := Tryz.isAgg129
  z213 := Tryz.sizeOf129
  t232 := Tryz.underlying151
  a232 := Tryz.isAgg151
  z232 := Tryz.sizeOf151
  v232 := Tryz.zeroValue151
  t233 := Tryz.underlying152
  a233 := Tryz.isAgg152
  z233 := Tryz.sizeOf152
  v233 := Tryz.zeroValue152
  g15 := by kernel_rfl
  g16 := by kernel_rfl
  g17 := by kernel_rfl
  g18 := by kernel_rfl
  g19 := by kernel_rfl
  t80 := Tryz.underlying53
  a80 := Tryz.isAgg53
  z80 := Tryz.sizeOf53
  v80 := Tryz.zeroValue53
  i0 := by kernel_rfl
  i2 := by kernel_rfl
  i3 := by kernel_rfl
  i4 := by kernel_rfl
  i5 := by kernel_rfl
  i9 := by kernel_rfl
  i20 := by kernel_rfl
  i21 := by kernel_rfl
  i37 := by kernel_rfl
  i46 := by kernel_rfl
  i51 := by kernel_rfl
  i53 := by kernel_rfl
  i75 := by kernel_rfl
  i80 := by kernel_rfl
  i85 := by kernel_rfl
  i127 := by kernel_rfl
  i143 := by kernel_rfl
  i145 := by kernel_rfl
  i167 := by kernel_rfl
  i168 := by kernel_rfl
  i171 := by kernel_rfl
  i173 := by kernel_rfl
  i175 := by kernel_rfl
  i210 := by kernel_rfl
  i212 := by kernel_rfl
  i232 := by kernel_rfl
  i233 := by kernel_rfl
  m15 := by kernel_rfl
  m16 := by kernel_rfl
  m17 := by kernel_rfl
  m18 := by kernel_rfl
  m19 := by kernel_rfl
  c0 := by kernel_rfl
  c2 := by kernel_rfl
  c3 := by kernel_rfl
  c4 := by kernel_rfl
  c5 := by kernel_rfl
  c9 := by kernel_rfl
  c20 := by kernel_rfl
  c21 := by kernel_rfl
  c37 := by kernel_rfl
  c46 := by kernel_rfl
  c51 := by kernel_rfl
  c53 := by kernel_rfl
  c75 := by kernel_rfl
  c80 := by kernel_rfl
  c85 := by kernel_rfl
  c127 := by kernel_rfl
  c143 := by kernel_rfl
  c145 := by kernel_rfl
  c167 := by kernel_rfl
  c168 := by kernel_rfl
  c171 := by kernel_rfl
  c173 := by kernel_rfl
  c175 := by kernel_rfl
  c210 := by kernel_rfl
  c212 := by kernel_rfl
  c213 := by kernel_rfl
  c232 := by kernel_rfl
  c233 := by kernel_rfl }
open Go.RowKit in
theorem Tryz.strconv_ParseInt_10_at64_ok (s : ByteArray) (hmax : s.size ≤ 9223372036854775806) (v : Int) (h : Lib.parseIntB 64 s.data.toList = .ok v) (w : World) :
    Calls Tryz.prog 55 #[.string s, .int .i64 10, .int .i64 64] w fun e w' => e = .returned (.tuple #[.int .i64 v, .nilIface]) ∧ (w' = w ∨ ∃ t, w' = Lib.bytesWorld w 5 t) := Any.strconv_ParseInt_10_at64_ok Tryz.laysC174 s hmax v h w
open Go.RowKit in
theorem Tryz.strconv_ParseInt_10_at64_syntax (s : ByteArray) (hlim : s.size ≤ 281474976710656) (h : Lib.parseIntB 64 s.data.toList = Go.Lib.NumEnd.syntax) (ev : Value) (w : World) (hv : w.cell? ⟨4, 0, none⟩ = some ev) (hev : ev = .nilIface ∨ ∃ te pe, ev = .iface te pe) :
    Calls Tryz.prog 55 #[.string s, .int .i64 10, .int .i64 64] w fun e w' => ∃ N, e = .returned (.tuple #[.int .i64 (0), .iface 135 (.pointer (some ⟨N, 0, none⟩))]) ∧ w.heap.size ≤ N ∧ w'.heap[N]? = some (.cells #[.string ⟨#[80, 97, 114, 115, 101, 73, 110, 116]⟩, .string s, ev] 149 (0, 0)) ∧ Below w.heap.size w w' := Any.strconv_ParseInt_10_at64_syntax Tryz.laysC174 s hlim h ev w hv hev
open Go.RowKit in
theorem Tryz.strconv_ParseInt_10_at64_range (s : ByteArray) (hlim : s.size ≤ 281474976710656) (h : Lib.parseIntB 64 s.data.toList = .range) (ev : Value) (w : World) (hv : w.cell? ⟨5, 0, none⟩ = some ev) (hev : ev = .nilIface ∨ ∃ te pe, ev = .iface te pe) :
    Calls Tryz.prog 55 #[.string s, .int .i64 10, .int .i64 64] w fun e w' => ∃ N, e = .returned (.tuple #[.int .i64 (Lib.intSat 64 s.data.toList), .iface 135 (.pointer (some ⟨N, 0, none⟩))]) ∧ w.heap.size ≤ N ∧ w'.heap[N]? = some (.cells #[.string ⟨#[80, 97, 114, 115, 101, 73, 110, 116]⟩, .string s, ev] 149 (0, 0)) ∧ Below w.heap.size w w' := Any.strconv_ParseInt_10_at64_range Tryz.laysC174 s hlim h ev w hv hev
end Go.Proofs
namespace Go.Hl

open Go.Proofs
set_option linter.unusedVariables false
set_option linter.unusedSimpArgs false
theorem laid_int {E : Env} {h : Heap} {w : World} (x : LaidIn E h w) : ∃ m, w.cell? ⟨1, 0, none⟩ = some (.int .i64 m) := by
  obtain ⟨cs, h1, m, h2⟩ := x.cell (g := 1) (Q := fun cs => ∃ m, cs[0]? = some (.int .i64 m)) (by unfold laidBlocks; exact List.mem_cons_of_mem _ (List.mem_cons_of_mem _ (List.mem_cons_of_mem _ List.mem_cons_self)))
  exact ⟨m, (h1 0).trans h2⟩
theorem laid_syn {E : Env} {h : Heap} {w : World} (x : LaidIn E h w) : ∃ v, w.cell? ⟨4, 0, none⟩ = some v ∧ (v = .nilIface ∨ ∃ te pe, v = .iface te pe) := by
  obtain ⟨cs, h1, v, h2, h3⟩ := x.cell (g := 4) (Q := fun cs => ∃ v, cs[0]? = some v ∧ (v = .nilIface ∨ ∃ te pe, v = .iface te pe)) (by unfold laidBlocks; exact List.mem_cons_of_mem _ List.mem_cons_self)
  exact ⟨v, (h1 0).trans h2, h3⟩
theorem laid_ran {E : Env} {h : Heap} {w : World} (x : LaidIn E h w) : ∃ v, w.cell? ⟨5, 0, none⟩ = some v ∧ (v = .nilIface ∨ ∃ te pe, v = .iface te pe) := by
  obtain ⟨cs, h1, v, h2, h3⟩ := x.cell (g := 5) (Q := fun cs => ∃ v, cs[0]? = some v ∧ (v = .nilIface ∨ ∃ te pe, v = .iface te pe)) (by unfold laidBlocks; exact List.mem_cons_of_mem _ (List.mem_cons_of_mem _ List.mem_cons_self))
  exact ⟨v, (h1 0).trans h2, h3⟩
theorem below_drewN (B : Nat) (w : World) (n : Nat) : Go.RowKit.Below B w (w.drewN n) := ⟨rfl, rfl, rfl, Nat.le_refl _, fun _ _ => rfl⟩
theorem cut_len (a sep : List UInt8) : (Go.Lib.cut a sep).1.length ≤ a.length ∧ (Go.Lib.cut a sep).2.1.length ≤ a.length := by
  unfold Go.Lib.cut
  split
  · simp only [List.length_take, List.length_drop]; omega
  · simp
theorem RepL.tup {E : Env} {h : Heap} {w : World} {xs : List HVal} {vs : List Value} (r : RepL E h w xs vs) : Rep E h w (.tup xs) (.tuple vs.toArray) := .tup _ _ r.length r.get
theorem cutC (a sep : List UInt8) (ha : a.length < 4294967281) : Fn0 Tryz.prog 37 [.str a, .str sep] (.tup [.str (Go.Lib.cut a sep).1, .str (Go.Lib.cut a sep).2.1, .bool (Go.Lib.cut a sep).2.2]) :=
  fn0_below (by kernel_rfl) fun E h w vs R rl => by
    match vs, rl with
    | [v0, v1], rl =>
      obtain ⟨r0, r1, _⟩ := rl
      obtain ⟨rfl, h0⟩ := rep_str r0
      obtain ⟨rfl, h1⟩ := rep_str r1
      obtain ⟨m, hm⟩ := laid_int R.laid
      have hl := cut_len a sep
      refine (Go.Proofs.Tryz.strings_Cut ⟨a.toArray⟩ ⟨sep.toArray⟩ m w (by simpa [ByteArray.size] using ha) hm).mono fun e w' ⟨he, n, hw⟩ => ⟨_, he, fun E' h' w' => ?_, hw ▸ below_drewN _ w n⟩
      exact RepL.tup (xs := [_, _, _]) (vs := [_, _, _]) ⟨.str _ (by simp only [maxLen]; omega), .str _ (by simp only [maxLen]; omega), .bool _, trivial⟩
/-- The error of strconv.ParseInt. -/
def errV (s : List UInt8) : HVal := match Go.Lib.parseIntB 64 s with | .ok _ => .nilif | _ => .iface 135 .any
theorem parseInt (s : List UInt8) (hs : s.length ≤ 281474976710656) : Fn0 Tryz.prog 55 [.str s, I 10, I 64] (.tup [I (rdN s), errV s]) :=
  fn0_below (by kernel_rfl) fun E h w vs R rl => by
    match vs, rl with
    | [v0, v1, v2], rl =>
      obtain ⟨r0, r1, r2, _⟩ := rl
      obtain ⟨rfl, h0⟩ := rep_str r0
      rw [rep_int r1, rep_int r2]
      have hz : (⟨s.toArray⟩ : ByteArray).size ≤ 281474976710656 := by simpa [ByteArray.size] using hs
      unfold rdN errV
      cases e : Go.Lib.parseIntB 64 s with
      | ok v =>
        refine (Go.Proofs.Tryz.strconv_ParseInt_10_at64_ok ⟨s.toArray⟩ (by omega) v e w).mono fun e w' ⟨he, hw⟩ => ⟨_, he, fun E' h' w' => RepL.tup (xs := [_, _]) (vs := [_, _]) ⟨.int _ _, .nilif, trivial⟩, ?_⟩
        rcases hw with rfl | ⟨t, rfl⟩
        · exact Go.RowKit.Below.refl _ _
        · exact ⟨rfl, rfl, rfl, by rw [Go.Lib.bytesWorld_size]; omega, fun j hj => Go.Lib.bytesWorld_at_old w _ t j hj⟩
      | range =>
        obtain ⟨ev, hv, hev⟩ := laid_ran R.laid
        exact (Go.Proofs.Tryz.strconv_ParseInt_10_at64_range ⟨s.toArray⟩ hz e _ w hv hev).mono fun e w' ⟨N, he, _, _, hw⟩ => ⟨_, he, fun E' h' w' => RepL.tup (xs := [_, _]) (vs := [_, _]) ⟨.int _ _, .iface _ _ _ (.any _), trivial⟩, hw⟩
      | _ =>
        obtain ⟨ev, hv, hev⟩ := laid_syn R.laid
        exact (Go.Proofs.Tryz.strconv_ParseInt_10_at64_syntax ⟨s.toArray⟩ hz e _ w hv hev).mono fun e w' ⟨N, he, _, _, hw⟩ => ⟨_, he, fun E' h' w' => RepL.tup (xs := [_, _]) (vs := [_, _]) ⟨.int _ _, .iface _ _ _ (.any _), trivial⟩, hw⟩
theorem fn0_strs {P : Program} {f : FuncId} {args : List HVal} {l : List (List UInt8)} (hc : callable P f = true) (hlen : l.length ≤ maxLen) (hs : ∀ s ∈ l, s.length ≤ maxLen)
    (H : ∀ E h w vs, Rel E h w → RepL E h w args vs → Calls P f vs.toArray w fun e w' => ∃ t, e = .returned (.slice (some ⟨w.heap.size, 0, none⟩) l.length l.length) ∧ w' = w.alloc (.cells (l.map fun s => Value.string ⟨s.toArray⟩).toArray t)) : Fn0 P f args (sls 1 (fun s => [.str s]) l) := fun h =>
  ⟨hc, fun E w vs R rl => (H E h w vs R rl).mono fun e w' q => by
    obtain ⟨t, rfl, rfl⟩ := q
    have bel : Go.RowKit.Below w.heap.size w (w.alloc (.cells (l.map fun s => Value.string ⟨s.toArray⟩).toArray t)) := (Go.RowKit.Below.refl _ w).alloc (Nat.le_refl _) _
    have hb : (w.alloc (.cells (l.map fun s => Value.string ⟨s.toArray⟩).toArray t)).heap[w.heap.size]? = some (.cells (l.map fun s => Value.string ⟨s.toArray⟩).toArray t) := by
      show (w.heap.push _)[w.heap.size]? = _
      simp
    refine ⟨_, h, E, ⟨rfl, rfl⟩, ev_below bel, rel_below R bel, ?_⟩
    have hat : ∀ (i j : Nat) (x : HVal), at2 (l.map fun s => [HVal.str s]) i j = some x → ∃ s, l[i]? = some s ∧ j = 0 ∧ x = .str s := fun i j x hx => by
      obtain ⟨e, he, hj⟩ := at2_some hx
      rw [List.getElem?_map] at he
      obtain ⟨s, hs, rfl⟩ := Option.map_eq_some_iff.1 he
      cases j with
      | zero => exact ⟨s, hs, rfl, (Option.some.inj hj).symm⟩
      | succ j => simp at hj
    have := Rep.sl (E := E) (h := h) (w := w.alloc (.cells (l.map fun s => Value.string ⟨s.toArray⟩).toArray t)) 1 (l.map fun s => [HVal.str s]) false w.heap.size 0 l.length (fun i _ => ((l.map fun s => Value.string ⟨s.toArray⟩)[i]?).getD .nilFunc) ⟨by show _ < (w.heap.push _).size; simp, fun n o hn ho hf => Nat.lt_irrefl _ (R.lt n o _ hn ho hf)⟩ (by simp) hlen (fun q => by cases q) (fun e he => by obtain ⟨s, _, rfl⟩ := List.mem_map.1 he; rfl)
      (fun i j x hx => by
        obtain ⟨s, h1, rfl, rfl⟩ := hat i j x hx
        simp only [World.cell?, hb]
        simp [h1])
      (fun i j x hx => by
        obtain ⟨s, h1, rfl, rfl⟩ := hat i j x hx
        simp [h1, Value.oneCell'])
      (fun i j x hx => by
        obtain ⟨s, h1, rfl, rfl⟩ := hat i j x hx
        simp only [List.getElem?_map, h1, Option.map_some, Option.getD_some]
        exact .str s (hs s (List.mem_of_getElem? h1)))
    rw [List.length_map] at this
    exact this⟩
theorem spB_len (c : UInt8) (a : List UInt8) : (spB c a).length ≤ a.length + 1 ∧ ∀ s ∈ spB c a, s.length ≤ a.length := by
  induction hn : a.length using Nat.strongRecOn generalizing a with
  | _ n ih =>
    rcases spB_cases c a with h | ⟨p, r, h1, rfl⟩
    · rw [spB_one a h]; exact ⟨by simp, fun s hs => by rw [List.mem_singleton.1 hs]; omega⟩
    · rw [spB_pre p r h1]
      obtain ⟨h2, h3⟩ := ih r.length (by rw [← hn]; simp; omega) r rfl
      simp only [List.length_append, List.length_cons] at hn
      refine ⟨by simp only [List.length_cons]; omega, fun s hs => ?_⟩
      rcases List.mem_cons.1 hs with rfl | hs
      · omega
      · have := h3 s hs; omega
theorem splitB_strs (a : List UInt8) (c : UInt8) : (Go.Lib.splitB ⟨[c].toArray⟩ 0 (Go.Lib.countB ⟨a.toArray⟩ ⟨[c].toArray⟩) ⟨a.toArray⟩).map Value.string = (spB c a).map fun s => Value.string ⟨s.toArray⟩ := by
  have h1 := Go.Lib.splitB_data ⟨[c].toArray⟩ 0 (Go.Lib.countB ⟨a.toArray⟩ ⟨[c].toArray⟩) ⟨a.toArray⟩
  have h2 : Go.Lib.splitK [c] 0 (Go.Lib.countB ⟨a.toArray⟩ ⟨[c].toArray⟩) a = spB c a := split_spB c a
  rw [← h2, ← h1, List.map_map]
  refine List.map_congr_left fun b _ => ?_
  simp
theorem splitC (a : List UInt8) (c : UInt8) (ha : a.length < 4294967281) : Fn0 Tryz.prog 18 [.str a, .str [c]] (sls 1 (fun s => [.str s]) (spB c a)) := by
  have hl := spB_len c a
  refine fn0_strs (by kernel_rfl) (by simp only [maxLen]; omega) (fun s hs => by have := hl.2 s hs; simp only [maxLen]; omega) fun E h w vs R rl => ?_
  match vs, rl with
  | [v0, v1], rl =>
    obtain ⟨r0, r1, _⟩ := rl
    obtain ⟨rfl, h0⟩ := rep_str r0
    obtain ⟨rfl, h1⟩ := rep_str r1
    obtain ⟨m, hm⟩ := laid_int R.laid
    have hn : Go.Lib.countB ⟨a.toArray⟩ ⟨[c].toArray⟩ + 1 = (spB c a).length := by
      have h2 := Go.Lib.splitB_all ⟨[c].toArray⟩ (by show 1 ≤ [c].length; simp) 0 _ ⟨a.toArray⟩ rfl
      have h3 := congrArg List.length (splitB_strs a c)
      rw [List.length_map, List.length_map] at h3
      rw [← h3]; exact h2.symm
    refine (Go.Proofs.Tryz.strings_Split ⟨a.toArray⟩ ⟨[c].toArray⟩ m w (by simpa [ByteArray.size] using ha) hm (by show 1 ≤ [c].length; simp)).mono fun e w' ⟨he, hw⟩ => ⟨9, ?_, ?_⟩
    · rw [he, hn]
    · rw [hw, splitB_strs]
open Go.Proofs
set_option linter.unusedVariables false
set_option linter.unusedSimpArgs false
open Go.Proofs
set_option linter.unusedVariables false
set_option linter.unusedSimpArgs false
theorem decimalI (n : Int) (h0 : -9223372036854775808 ≤ n) (h1 : n ≤ 9223372036854775807) : Fn0 Tryz.prog 14 [I n] (.str (Go.Lib.itoa n)) := by
  refine fn0F 5 keep14 ib14 mk14 mix Tryz.func14 rfl (by kernel_rfl) (by simp) fun h => ?_
  simp (maxSteps := 1000000) -dsimp -implicitDefEqProofs only [go_sem, ↓reduceIte, keep14, ib14, mk14, Tryz.f14]
  first | refine HFnF.mk (formatInt n h0 h1) ?_ | refine CallSF.mk (formatInt n h0 h1) ?_ | refine HFnF.mkAt (formatInt n h0 h1) ?_ | refine CallSF.mk (FnAt.fn0 (formatInt n h0 h1)) ?_
  simp (maxSteps := 1000000) -dsimp -implicitDefEqProofs only [go_sem, ↓reduceIte, keep14, ib14, mk14, Tryz.f14]
theorem parseI_range {s : List UInt8} {v : Int} (h : Go.Lib.parseIntB 64 s = .ok v) : -9223372036854775808 ≤ v ∧ v ≤ 9223372036854775807 := by
  unfold Go.Lib.parseIntB at h
  split at h
  · cases h
  · simp only at h
    split at h
    · cases h
    · cases h
    · rename_i u hu
      split at h
      · cases h
      · split at h
        · cases h
        · rename_i h1 h2
          have := Go.Lib.NumEnd.ok.inj h
          subst this
          simp only [Nat.reducePow, Nat.reduceSub] at h1 h2
          split
          · have : u ≤ 9223372036854775808 := by
              rename_i q
              exact Nat.le_of_not_lt fun z => h2 ⟨q, z⟩
            omega
          · have : u < 9223372036854775808 := by
              rename_i q
              exact Nat.lt_of_not_le fun z => h1 ⟨q, z⟩
            omega
theorem rdOK_parse {hi : Int} (hhi : hi ≤ 9223372036854775807) {s : List UInt8} (h : rdOK hi s) : Go.Lib.parseIntB 64 s = .ok (rdN s) := by
  have h1 := h.2.2
  have := parseI_itoa h.1 (by have := h.2.1; omega)
  rw [← h1] at this
  exact this
theorem ifc_err : isIfc Tryz.prog 45 = true := by kernel_rfl
def keep38 : List Nat := [0, 1, 2, 6, 7, 8, 9]
def ib38 : List Nat := []
def mk38 : Marks := fun _ => ([], .nil, [])
set_option maxRecDepth 100000 in
theorem readDecimal (s : List UInt8) (hi : Int) (hs : s.length ≤ 1048600) (hhi : hi ≤ 1000000001) : Fn0 Tryz.prog 38 [.str s, I 0, I hi] (.tup [I (rdN s), .bool (decide (rdOK hi s))]) := by
  have hp := parseInt s (by omega)
  have hr := rdOK_parse (hi := hi) (s := s) (by omega)
  cases e : Go.Lib.parseIntB 64 s with
  | ok v =>
    have hv := parseI_range e
    have hn : rdN s = v := by rw [rdN, e]
    have he : errV s = .nilif := by rw [errV, e]
    have hl := itoa_len64 hv.1 hv.2
    rw [he, hn] at hp
    rw [hn]
    refine fn0F 30 keep38 ib38 mk38 mix Tryz.func38 rfl (by kernel_rfl) (by simp) fun h => ?_
    simp (maxSteps := 1000000) -dsimp -implicitDefEqProofs only [go_sem, ↓reduceIte, keep38, ib38, mk38, Tryz.f38]
    first | refine HFnF.mk (hp) ?_ | refine CallSF.mk (hp) ?_ | refine HFnF.mkAt (hp) ?_ | refine CallSF.mk (FnAt.fn0 (hp)) ?_
    simp (maxSteps := 1000000) -dsimp -implicitDefEqProofs only [go_sem, ↓reduceIte, keep38, ib38, mk38, Tryz.f38]
    simp (maxSteps := 1000000) -dsimp -implicitDefEqProofs only [go_sem, ↓reduceIte, keep38, ib38, mk38, Tryz.f38, ifc_err]
    first | refine HFnF.mk (decimalI v hv.1 hv.2) ?_ | refine CallSF.mk (decimalI v hv.1 hv.2) ?_ | refine HFnF.mkAt (decimalI v hv.1 hv.2) ?_ | refine CallSF.mk (FnAt.fn0 (decimalI v hv.1 hv.2)) ?_
    simp (maxSteps := 1000000) -dsimp -implicitDefEqProofs only [go_sem, ↓reduceIte, keep38, ib38, mk38, Tryz.f38]
    have hq : rdOK hi s ↔ (Go.Lib.itoa v = s ∧ (0 ≤ v ∧ v ≤ hi)) := by rw [rdOK, hn]; exact ⟨fun q => ⟨q.2.2.symm, q.1, q.2.1⟩, fun q => ⟨q.2.1, q.2.2, q.1.symm⟩⟩
    refine ⟨fun q => ?_, fun q => ?_⟩
    · first | refine HFnF.mk (within v 0 hi) ?_ | refine CallSF.mk (within v 0 hi) ?_ | refine HFnF.mkAt (within v 0 hi) ?_ | refine CallSF.mk (FnAt.fn0 (within v 0 hi)) ?_
      simp (maxSteps := 1000000) -dsimp -implicitDefEqProofs only [go_sem, ↓reduceIte, keep38, ib38, mk38, Tryz.f38]
      exact congrArg (fun b => HVal.tup [I v, .bool b]) (decide_eq_decide.2 ⟨fun z => hq.2 ⟨q, z⟩, fun z => (hq.1 z).2⟩)
    · exact congrArg (fun b => HVal.tup [I v, .bool b]) (decide_eq_false fun z => q (hq.1 z).1).symm
  | range =>
    have hn : ¬ rdOK hi s := fun q => by rw [hr q] at e; cases e
    have he : errV s = .iface 135 .any := by rw [errV, e]
    rw [he] at hp
    rw [decide_eq_false hn]
    refine fn0F 30 keep38 ib38 mk38 mix Tryz.func38 rfl (by kernel_rfl) (by simp) fun h => ?_
    simp (maxSteps := 1000000) -dsimp -implicitDefEqProofs only [go_sem, ↓reduceIte, keep38, ib38, mk38, Tryz.f38]
    first | refine HFnF.mk (hp) ?_ | refine CallSF.mk (hp) ?_ | refine HFnF.mkAt (hp) ?_ | refine CallSF.mk (FnAt.fn0 (hp)) ?_
    simp (maxSteps := 1000000) -dsimp -implicitDefEqProofs only [go_sem, ↓reduceIte, keep38, ib38, mk38, Tryz.f38]
    simp (maxSteps := 1000000) -dsimp -implicitDefEqProofs only [go_sem, ↓reduceIte, keep38, ib38, mk38, Tryz.f38, ifc_err]
  | _ =>
    have hn : ¬ rdOK hi s := fun q => by rw [hr q] at e; cases e
    have he : errV s = .iface 135 .any := by rw [errV, e]
    rw [he] at hp
    rw [decide_eq_false hn]
    refine fn0F 30 keep38 ib38 mk38 mix Tryz.func38 rfl (by kernel_rfl) (by simp) fun h => ?_
    simp (maxSteps := 1000000) -dsimp -implicitDefEqProofs only [go_sem, ↓reduceIte, keep38, ib38, mk38, Tryz.f38]
    first | refine HFnF.mk (hp) ?_ | refine CallSF.mk (hp) ?_ | refine HFnF.mkAt (hp) ?_ | refine CallSF.mk (FnAt.fn0 (hp)) ?_
    simp (maxSteps := 1000000) -dsimp -implicitDefEqProofs only [go_sem, ↓reduceIte, keep38, ib38, mk38, Tryz.f38]
    simp (maxSteps := 1000000) -dsimp -implicitDefEqProofs only [go_sem, ↓reduceIte, keep38, ib38, mk38, Tryz.f38, ifc_err]
open Go.Proofs
set_option linter.unusedVariables false
set_option linter.unusedSimpArgs false
open Go.Proofs
set_option linter.unusedVariables false
set_option linter.unusedSimpArgs false
open Go.Proofs
set_option linter.unusedVariables false
set_option linter.unusedSimpArgs false
open Go.Lib
/-- What a builder holds. -/
def bldQ (l : List UInt8) (b : Nat) (S : Nat → Prop) (w : World) : Prop :=
  ∃ p v, (p = .pointer none ∨ p = .pointer (some ⟨b, 0, none⟩)) ∧ w.heap[b]? = some (.cells #[p, v] 43 (0, 0)) ∧ w.ownsRowF 0 5 1 v l.length (byteCells l) ∧ v.ownBlock ≠ some b ∧ (∀ g, v.ownBlock = some g → S g) ∧ (l = [] → v = .slice none 0 0)
theorem bldQ_ok (l : List UInt8) : AbsOK (bldQ l) := fun b S w0 w hq hb ha => by
  obtain ⟨p, v, hp, hc, ho, hn, hs, hl⟩ := hq
  refine ⟨p, v, hp, (ha b hb).trans hc, ⟨ho.1, ?_⟩, hn, hs, hl⟩
  rcases ho.2 with q | ⟨g, cap, cur, fz, rfl, h1, h2, h3⟩
  · exact .inl q
  · exact .inr ⟨g, cap, cur, fz, rfl, h1, (ha g (hs g (by simp [Value.ownBlock]))).trans h2, h3⟩
abbrev bld (l : List UInt8) : HObj := .abs (bldQ l)
theorem bld_fresh {h : Heap} {n : Nat} (hn : h n = some (.raw 43 #[.pointer none, .slice none 0 0])) : (upd h n (bld [])).wk h :=
  Heap.wk_abs hn fun b S w hb hc => ⟨_, _, .inl rfl, hc, ⟨rfl, .inl ⟨rfl, rfl⟩⟩, by simp [Value.ownBlock], fun g hg => by simp [Value.ownBlock] at hg, fun _ => rfl⟩
theorem bld_fr {l' : List UInt8} {b : Nat} {S : Nat → Prop} {w w' : World} {v v' : Value} (hS : S b) (hs : ∀ g, v.ownBlock = some g → S g) (hb' : w'.heap[b]? = some (.cells #[.pointer (some ⟨b, 0, none⟩), v'] 43 (0, 0)))
    (ho' : w'.ownsRowF 0 5 1 v' l'.length (byteCells l')) (hne : v'.ownBlock ≠ some b) (hnew : ∀ g, v'.ownBlock = some g → v.ownBlock = some g ∨ w.heap.size ≤ g) (F : GbFr w w' b v.ownBlock) (hl' : l' = [] → v' = .slice none 0 0) :
    ∃ S' : Nat → Prop, S' b ∧ bldQ l' b S' w' ∧ AbsFr w w' S S' := by
  refine ⟨fun c => c = b ∨ v'.ownBlock = some c, .inl rfl, ⟨_, v', .inr rfl, hb', ho', hne, fun g hg => .inr hg, hl'⟩, fun c hc => ?_, fun c hc => ?_, F.size, fun c hc hn => F.block c hc (fun e => hn (e ▸ hS)) (fun e => hn (hs c e)), F.shape, F.os, F.out⟩
  · rcases hc with rfl | hc
    · exact .inl hS
    · exact (hnew c hc).imp (hs c) id
  · rcases hc with rfl | hc
    · exact (Array.getElem?_eq_some_iff.1 hb').1
    · exact (ho'.lt c hc).2
theorem fn_bld {P : Program} {f : FuncId} {n : Nat} {h : Heap} {l l' : List UInt8} {xs : List HVal} {r : HVal} (hc : callable P f = true) (hn : h n = some (bld l))
    (H : ∀ (E : Env) (g : Heap) (b : Nat) (w : World) (vs : List Value) (p v : Value), RepL E g w xs vs → (p = .pointer none ∨ p = .pointer (some ⟨b, 0, none⟩)) → w.heap[b]? = some (.cells #[p, v] 43 (0, 0)) → w.ownsRowF 0 5 1 v l.length (byteCells l) → v.ownBlock ≠ some b → (l = [] → v = .slice none 0 0) →
      Calls P f (Value.pointer (some ⟨b, 0, none⟩) :: vs).toArray w fun e w' => ∃ u, e = .returned u ∧ (∀ E' h' w', Rep E' h' w' r u) ∧ ∃ v', w'.heap[b]? = some (.cells #[.pointer (some ⟨b, 0, none⟩), v'] 43 (0, 0)) ∧
        w'.ownsRowF 0 5 1 v' l'.length (byteCells l') ∧ v'.ownBlock ≠ some b ∧ (∀ g, v'.ownBlock = some g → v.ownBlock = some g ∨ w.heap.size ≤ g) ∧ GbFr w w' b v.ownBlock ∧ (l' = [] → v' = .slice none 0 0)) :
    HFn P f (.op n 2 0 0 :: xs) h fun r' h' => r' = r ∧ h' = upd h n (bld l') :=
  fn_abs hc (bldQ_ok l) hn fun E g b S w vs rl hq hS hlt => by
    obtain ⟨p, v, hp, hb, ho, hne, hs, hl⟩ := hq
    refine (H E g b w vs p v rl hp hb ho hne hl).mono ?_
    rintro e w' ⟨u, rfl, hu, v', h1, h2, h3, h4, h5, h6⟩
    obtain ⟨S', a1, a2, a3⟩ := bld_fr hS hs h1 h2 h3 h4 h5 h6
    exact ⟨u, S', rfl, hu, a1, a2, a3⟩
theorem RepL.tupX {E : Env} {h : Heap} {w : World} {xs : List HVal} {vs : List Value} (r : RepL E h w xs vs) : Rep E h w (.tup xs) (.tuple vs.toArray) := .tup _ _ r.length r.get
theorem writeString (l s : List UInt8) (hlen : l.length + s.length ≤ 140737488355328) {n : Nat} {h : Heap} (hn : h n = some (bld l)) : HFn Tryz.prog 13 [.op n 2 0 0, .str s] h fun r h' => r = .tup [I s.length, .nilif] ∧ h' = upd h n (bld (l ++ s)) :=
  fn_bld (by kernel_rfl) hn fun E g b w vs p v rl hp hb ho hne hl => by
    match vs, rl with
    | [v1], rl =>
      obtain ⟨r1, _⟩ := rl
      obtain ⟨rfl, h1⟩ := rep_str r1
      refine (gb_ws b l s w p v hp hb ho hne hlen).mono ?_
      rintro e w' ⟨rfl, v', h1, h2, h3, h4, h5, h6⟩
      exact ⟨_, rfl, fun E' h' w' => RepL.tupX (xs := [_, _]) (vs := [_, _]) ⟨.int _ _, .nilif, trivial⟩, v', h1, h2, h3, h4, h5, fun q => h6 q (hl (List.append_eq_nil_iff.1 q).1)⟩
theorem writeByte (l : List UInt8) (c : UInt8) (hlen : l.length + 1 ≤ 140737488355328) {n : Nat} {h : Heap} (hn : h n = some (bld l)) : HFn Tryz.prog 16 [.op n 2 0 0, .int .u8 c.toNat] h fun r h' => r = .nilif ∧ h' = upd h n (bld (l ++ [c])) :=
  fn_bld (by kernel_rfl) hn fun E g b w vs p v rl hp hb ho hne hl => by
    match vs, rl with
    | [v1], rl =>
      obtain ⟨r1, _⟩ := rl
      rw [rep_int r1]
      refine (gb_wb b l c w p v hp hb ho hne hlen).mono ?_
      rintro e w' ⟨rfl, v', h1, h2, h3, h4, h5, h6⟩
      exact ⟨_, rfl, fun E' h' w' => .nilif, v', h1, h2, h3, h4, h5, fun q => by simp at q⟩
/-- The text of a builder, which is given up. -/
theorem builderString (l : List UInt8) (hlen : l.length ≤ maxLen) {n : Nat} {h : Heap} (hn : h n = some (bld l)) : HFn Tryz.prog 17 [.op n 2 0 0] h fun r h' => r = .str l ∧ h' = upd h n (.abs fun _ _ _ => True) :=
  fn_abs (by kernel_rfl) (bldQ_ok l) hn fun E g b S w vs rl hq hS hlt => by
    match vs, rl with
    | [], _ =>
      obtain ⟨p, v, hp, hb, ho, hne, hs, hl⟩ := hq
      have mk : ∀ w' : World, GbFr w w' b v.ownBlock → AbsFr w w' S S := fun w' F => ⟨fun c hc => .inl hc, fun c hc => Nat.lt_of_lt_of_le (hlt c hc) F.size, F.size, fun c hc hn => F.block c hc (fun e => hn (e ▸ hS)) (fun e => hn (hs c e)), F.shape, F.os, F.out⟩
      by_cases h0 : l = []
      · subst h0
        obtain rfl := hl rfl
        refine (gb_str_nil b w p hb).mono ?_
        rintro e w' ⟨rfl, rfl⟩
        exact ⟨_, S, rfl, fun _ _ _ => .str [] (Nat.zero_le _), hS, trivial, mk _ ⟨Nat.le_refl _, fun _ _ _ _ => rfl, fun _ _ => rfl, rfl, rfl⟩⟩
      · refine (gb_str b l w p v hb ho h0).mono ?_
        rintro e w' ⟨rfl, F⟩
        exact ⟨_, S, rfl, fun _ _ _ => .str l hlen, hS, trivial, mk _ F⟩
open Go.Proofs
set_option linter.unusedVariables false
set_option linter.unusedSimpArgs false
theorem le_bld {g : Heap} {nb b : Nat} {X Y R : HObj} (hne : ¬ b = nb) (hb : g b = none) : (upd g nb Y).le (upd (upd (upd g nb X) b R) nb Y) := fun q => by
  by_cases e : q = nb
  · subst e; right; rw [upd_same, upd_same]
  · by_cases e2 : q = b
    · subst e2; left; rw [upd_ne _ _ _ _ e]; exact hb
    · right; rw [upd_ne _ _ _ _ e, upd_ne _ _ _ _ e, upd_ne _ _ _ _ e2, upd_ne _ _ _ _ e]
def keep34 : List Nat := [0, 1, 2, 3, 4, 8, 9, 10, 11, 16]
def ib34 : List Nat := []
def mk34 : Marks := fun _ => ([], .nil, [])
set_option maxRecDepth 100000 in
theorem writeList {p : DProgram} (hp : p.ok) {funcs vars : Int} (e : DExpr) (h : Stands p funcs e vars) {nb : Nat}
    (ih : ∀ (k : Nat) (hk : k < e.fKids.length) (g : Heap) (l : List UInt8), g nb = some (bld l) → l.length + 64 * (e.fKids[k].s + 1) ≤ 1099511627776 → HFn Tryz.prog 15 [.agg p.c, .op nb 2 0 0, .agg e.fKids[k].c] g fun r h' => r = .tup [] ∧ (upd g nb (bld (l ++ e.fKids[k].txt p))).le h')
    (g : Heap) (l : List UInt8) (hb : g nb = some (bld l)) (hlen : l.length + 64 * e.s + 8 ≤ 1099511627776) :
    HFn Tryz.prog 34 [.ip 1 [[.op nb 2 0 0]] 0 0, .ip 5 [e.c] 0 0, .ip 1 [p.c] 0 0] g fun r h' => r = .tup [] ∧ (upd g nb (bld (l ++ 40 :: (semis (e.fKids.map (DExpr.txt p)) ++ [41])))).le h' := by
  have hall := semis_take hp h
  simp only [DExpr.c_eq, DProgram.c_eq] at ih ⊢
  refine fnKF 26 keep34 ib34 mk34 mix Tryz.func34 rfl (by kernel_rfl) (by simp) ?_
  simp (maxSteps := 1000000) -dsimp -implicitDefEqProofs only [go_sem, ↓reduceIte, keep34, ib34, mk34, Tryz.f34, hb]
  refine HFnF.mkH (writeByte l 40 (by omega) hb) ?_
  rintro r_ h' ⟨rfl, rfl⟩
  simp (maxSteps := 1000000) -dsimp -implicitDefEqProofs only [go_sem, ↓reduceIte, keep34, ib34, mk34, Tryz.f34]
  intro _
  refine loopF (keep := keep34) (ib := ib34) (mk := mk34) mix (by kernel_rfl) (fun k : Nat => [(0, .ip 1 [[.op nb 2 0 0]] 0 0), (1, .ip 5 [[I e.fKind, I e.fNum, I e.fPick, I e.fCount, sls 5 DExpr.c e.fKids]] 0 0), (2, .ip 1 [[sls 3 DFunc.c p.fFuncs]] 0 0), (8, sls 5 DExpr.c e.fKids), (9, I e.fKids.length), (10, I k)]) (fun k => upd g nb (bld (l ++ 40 :: semis ((e.fKids.map (DExpr.txt p)).take k)))) (fun k => k ≤ e.fKids.length) (fun k => e.fKids.length - k) 0 ⟨by simp [SatL, tget], Heap.le_refl _, Nat.zero_le _⟩ ?_
  intro k hk
  have hpre := hall k
  rcases Nat.lt_or_ge k e.fKids.length with hlt | hge
  · have ea : e.fKids[k]? = some e.fKids[k] := List.getElem?_eq_getElem hlt
    have hnx := semis_next (p := p) hlt
    have hrm := semis_room hp h hlt
    simp (maxSteps := 1000000) -dsimp -implicitDefEqProofs only [go_sem, ↓reduceIte, keep34, ib34, mk34, Tryz.f34, ea, DExpr.c_eq]
    refine ⟨fun _ => ⟨hlt, fun b hb2 => ⟨fun hk0 => ?_, fun hk0 => ?_⟩⟩, fun q => absurd hlt q⟩
    · have d_b_nb : ¬ b = nb := hb2.1
      have d_nb_b : ¬ nb = b := Ne.symm d_b_nb
      have e_b_nb : (b = nb) = False := eq_false d_b_nb
      have e_nb_b : (nb = b) = False := eq_false d_nb_b
      rw [upd_upd]
      refine HFnF.mkH (writeString (l ++ 40 :: semis ((e.fKids.map (DExpr.txt p)).take k)) [59, 32] (by simp only [List.length_append, List.length_cons, List.length_nil]; omega) (by rw [upd_ne _ _ _ _ d_nb_b, upd_same])) ?_
      rintro r_ h' ⟨rfl, rfl⟩
      simp (maxSteps := 1000000) -dsimp -implicitDefEqProofs only [go_sem, ↓reduceIte, keep34, ib34, mk34, Tryz.f34, e_b_nb, e_nb_b, upd_ne, DExpr.c_eq]
      refine HFnF.mkH (ih k hlt _ _ (upd_same ..) (by simp only [List.length_append, List.length_cons, List.length_nil]; omega)) ?_
      rintro r_ h' ⟨rfl, hle⟩
      simp (maxSteps := 1000000) -dsimp -implicitDefEqProofs only [go_sem, ↓reduceIte, keep34, ib34, mk34, Tryz.f34]
      have et : l ++ 40 :: semis ((e.fKids.map (DExpr.txt p)).take (k + 1)) = (l ++ 40 :: semis ((e.fKids.map (DExpr.txt p)).take k)) ++ [59, 32] ++ e.fKids[k].txt p := by rw [hnx.1 (by omega)]; simp
      rw [upd_upd, ← et] at hle
      exact ⟨k + 1, IntWalk.i64_in _ (by omega), Heap.le_trans (le_bld hb2.1 hb2.2) hle, by omega, by omega⟩
    · have d_b_nb : ¬ b = nb := hb2.1
      have d_nb_b : ¬ nb = b := Ne.symm d_b_nb
      have e_b_nb : (b = nb) = False := eq_false d_b_nb
      have e_nb_b : (nb = b) = False := eq_false d_nb_b
      rw [upd_upd]
      refine HFnF.mkH (ih k hlt _ _ (by rw [upd_ne _ _ _ _ d_nb_b, upd_same]) (by simp only [List.length_append, List.length_cons, List.length_nil]; omega)) ?_
      rintro r_ h' ⟨rfl, hle⟩
      simp (maxSteps := 1000000) -dsimp -implicitDefEqProofs only [go_sem, ↓reduceIte, keep34, ib34, mk34, Tryz.f34]
      have et : l ++ 40 :: semis ((e.fKids.map (DExpr.txt p)).take (k + 1)) = (l ++ 40 :: semis ((e.fKids.map (DExpr.txt p)).take k)) ++ e.fKids[k].txt p := by
        rw [hnx.2 (by omega)]
        obtain rfl : k = 0 := by omega
        simp [semis]
      rw [← et] at hle
      exact ⟨k + 1, IntWalk.i64_in _ (by omega), Heap.le_trans (le_bld hb2.1 hb2.2) hle, by omega, by omega⟩
  · have hk' : k = e.fKids.length := by omega
    rw [hk', List.take_of_length_le (by simp)] at hpre ⊢
    have hnk : ¬ e.fKids.length < e.fKids.length := Nat.lt_irrefl _
    simp (maxSteps := 1000000) -dsimp -implicitDefEqProofs only [go_sem, ↓reduceIte, keep34, ib34, mk34, Tryz.f34, hnk]
    refine HFnF.mkH (writeByte _ 41 (by simp only [List.length_append, List.length_cons, List.length_nil]; omega) (upd_same ..)) ?_
    rintro r_ h' ⟨rfl, rfl⟩
    simp (maxSteps := 1000000) -dsimp -implicitDefEqProofs only [go_sem, ↓reduceIte, keep34, ib34, mk34, Tryz.f34]
    rw [upd_upd]
    refine ⟨_, _, shift_le (Heap.le_refl _), rfl, ?_⟩
    rw [show l ++ 40 :: (semis (e.fKids.map (DExpr.txt p)) ++ [41]) = l ++ 40 :: semis (e.fKids.map (DExpr.txt p)) ++ [41] by simp]
    exact Heap.le_refl _
open Go.Proofs
set_option linter.unusedVariables false
set_option linter.unusedSimpArgs false
def keep15 : List Nat := [0, 1, 2, 3, 4, 5, 6, 9, 37, 44, 52, 58, 64, 70, 88]
def ib15 : List Nat := [3, 4, 5, 23]
def mk15 : Marks := fun id => match id with | 4 => ([6], (.op 0 (.op 1 (.op 2 (.op 3 (.op 4 (.op 5 (.op 6 .nil))))))), []) | 5 => ([3, 8], (.op 0 (.op 1 (.op 2 (.op 3 (.op 4 (.op 5 (.op 6 (.op 7 (.op 8 .nil))))))))), []) | 6 => ([6], (.op 0 (.op 1 (.op 2 (.op 3 (.op 4 (.op 5 (.op 6 .nil))))))), []) | 9 => ([3, 4], (.op 0 (.op 1 (.op 2 (.op 3 (.op 4 .nil))))), []) | 11 => ([3, 5], (.op 0 (.op 1 (.op 2 (.op 3 (.op 4 (.op 5 .nil)))))), []) | 22 => ([11, 13], (.op 0 (.op 1 (.op 2 (.op 3 (.op 4 (.op 5 (.op 6 (.op 7 (.op 8 (.op 9 (.op 10 (.op 11 (.op 12 (.op 13 .nil)))))))))))))), []) | 25 => ([11, 16, 18], (.op 0 (.op 1 (.op 2 (.op 3 (.op 4 (.op 5 (.op 6 (.op 7 (.op 8 (.op 9 (.op 10 (.op 14 (.op 15 (.op 11 (.op 12 (.op 13 (.op 16 (.op 17 (.op 18 .nil))))))))))))))))))), []) | _ => ([], .nil, [])
theorem le_re {g h : Heap} {nb : Nat} {X Y : HObj} (hle : (upd g nb X).le h) : (upd g nb Y).le (upd h nb Y) := fun q => by
  by_cases e : q = nb
  · subst e; right; rw [upd_same, upd_same]
  · have := hle q
    rw [upd_ne _ _ _ _ e] at this
    rw [upd_ne _ _ _ _ e, upd_ne _ _ _ _ e]; exact this
set_option maxRecDepth 100000 in
set_option maxHeartbeats 1000000 in
theorem write {p : DProgram} (hp : p.ok) {funcs : Int} (e : DExpr) (vars : Int) (h : Stands p funcs e vars) {nb : Nat} (g : Heap) (l : List UInt8) (hb : g nb = some (bld l)) (hlen : l.length + 64 * (e.s + 1) ≤ 1099511627776) :
    HFn Tryz.prog 15 [.agg p.c, .op nb 2 0 0, .agg e.c] g fun r h' => r = .tup [] ∧ (upd g nb (bld (l ++ e.txt p))).le h' := by
  have ih : ∀ (k : Nat) (hk : k < e.fKids.length) (g : Heap) (l : List UInt8), g nb = some (bld l) → l.length + 64 * (e.fKids[k].s + 1) ≤ 1099511627776 → HFn Tryz.prog 15 [.agg p.c, .op nb 2 0 0, .agg e.fKids[k].c] g fun r h' => r = .tup [] ∧ (upd g nb (bld (l ++ e.fKids[k].txt p))).le h' := fun k hk g l hb hlen => by
    obtain ⟨v, hv⟩ := h.kid hk
    have hks := DExpr.kid_s (List.getElem_mem hk)
    exact write hp e.fKids[k] v hv g l hb hlen
  have hwl := writeList hp e h ih
  have hkind := h.kind
  have htxt := DExpr.txt_eq p e
  simp only [DExpr.c_eq, DProgram.c_eq] at hwl ⊢
  by_cases k1 : e.fKind = 1
  · rw [if_pos k1] at htxt
    have hN := h.num (.inl k1)
    have hi := itoa_num hN
    refine fnKF 111 keep15 ib15 mk15 mix Tryz.func15 rfl (by kernel_rfl) (by simp) ?_
    simp (maxSteps := 1000000) -dsimp -implicitDefEqProofs only [go_sem, ↓reduceIte, keep15, ib15, mk15, Tryz.f15, hb, k1]
    first | refine HFnF.mk (decimal e.fNum hN) ?_ | refine CallSF.mk (decimal e.fNum hN) ?_ | refine HFnF.mkAt (decimal e.fNum hN) ?_ | refine CallSF.mk (FnAt.fn0 (decimal e.fNum hN)) ?_
    simp (maxSteps := 1000000) -dsimp -implicitDefEqProofs only [go_sem, ↓reduceIte, keep15, ib15, mk15, Tryz.f15]
    refine HFnF.mkH (writeString l _ (by omega) hb) ?_
    rintro r_ h' ⟨rfl, rfl⟩
    simp (maxSteps := 1000000) -dsimp -implicitDefEqProofs only [go_sem, ↓reduceIte, keep15, ib15, mk15, Tryz.f15]
    exact ⟨_, _, shift_le (Heap.le_refl _), rfl, by rw [htxt]; exact Heap.le_refl _⟩
  · by_cases k2 : e.fKind = 2
    · rw [if_neg k1, if_pos k2] at htxt
      have hN := h.num (.inr k2)
      have hi := itoa_num hN
      refine fnKF 111 keep15 ib15 mk15 mix Tryz.func15 rfl (by kernel_rfl) (by simp) ?_
      simp (maxSteps := 1000000) -dsimp -implicitDefEqProofs only [go_sem, ↓reduceIte, keep15, ib15, mk15, Tryz.f15, hb, k2]
      first | refine HFnF.mk (decimal e.fNum hN) ?_ | refine CallSF.mk (decimal e.fNum hN) ?_ | refine HFnF.mkAt (decimal e.fNum hN) ?_ | refine CallSF.mk (FnAt.fn0 (decimal e.fNum hN)) ?_
      simp (maxSteps := 1000000) -dsimp -implicitDefEqProofs only [go_sem, ↓reduceIte, keep15, ib15, mk15, Tryz.f15]
      refine ⟨by omega, HFnF.mkH (writeString l _ (by simp only [List.length_append, List.length_cons, List.length_nil]; omega) hb) ?_⟩
      rintro r_ h' ⟨rfl, rfl⟩
      simp (maxSteps := 1000000) -dsimp -implicitDefEqProofs only [go_sem, ↓reduceIte, keep15, ib15, mk15, Tryz.f15]
      exact ⟨_, _, shift_le (Heap.le_refl _), rfl, by rw [htxt]; exact Heap.le_refl _⟩
    · by_cases kb : 3 ≤ e.fKind ∧ e.fKind ≤ 6
      · rw [if_neg k1, if_neg k2, if_pos kb] at htxt
        have h2 := h.two kb
        match hk : e.fKids, h2 with
        | [a, b], _ =>
          have i0 := ih 0 (by rw [hk]; simp)
          have i1 := ih 1 (by rw [hk]; simp)
          have g0 : e.fKids[0]'(by rw [hk]; simp) = a := by simp [hk]
          have g1 : e.fKids[1]'(by rw [hk]; simp) = b := by simp [hk]
          rw [g0] at i0; rw [g1] at i1
          rw [hk] at htxt
          simp only [List.map_cons, List.map_nil] at htxt
          have ht : e.txt p = 40 :: (a.txt p ++ 32 :: signB e.fKind :: 32 :: (b.txt p ++ [41])) := htxt
          have hsab : a.s + b.s + 2 = e.s := by rw [e.s_eq, hk, szs_eq]; simp; omega
          obtain ⟨v0, hv0⟩ := h.kid (k := 0) (by rw [hk]; simp)
          have la := DExpr.txt_len hp _ _ hv0
          rw [g0] at la
          obtain ⟨v1, hv1⟩ := h.kid (k := 1) (by rw [hk]; simp)
          have lb := DExpr.txt_len hp _ _ hv1
          rw [g1] at lb
          have ga : ([DExpr.c a, DExpr.c b] : List (List HVal))[Int.toNat 0]? = some a.c := rfl
          have gb : ([DExpr.c a, DExpr.c b] : List (List HVal))[Int.toNat 1]? = some b.c := rfl
          simp only [DExpr.c_eq, DProgram.c_eq] at i0 i1 ga gb
          clear ih hwl htxt
          rcases (by omega : e.fKind = 3 ∨ e.fKind = 4 ∨ e.fKind = 5 ∨ e.fKind = 6) with kq | kq | kq | kq
          · have js : Fn0 Tryz.prog 35 [I 3] (.int .u8 43) := signI 3 (by decide)
            have hsg : signB e.fKind = 43 := by rw [kq]; rfl
            rw [hsg] at ht
            refine fnKF 111 keep15 ib15 mk15 mix Tryz.func15 rfl (by kernel_rfl) (by simp) ?_
            simp (maxSteps := 1000000) -dsimp -implicitDefEqProofs only [go_sem, ↓reduceIte, keep15, ib15, mk15, Tryz.f15, hb, kq]
            refine HFnF.mkH (writeByte l 40 (by omega) hb) ?_
            rintro r_ h1 ⟨rfl, rfl⟩
            simp (maxSteps := 1000000) -dsimp -implicitDefEqProofs only [go_sem, ↓reduceIte, keep15, ib15, mk15, Tryz.f15, ga, DExpr.c_eq]
            refine ⟨by decide, HFnF.mkH (i0 _ (l ++ [40]) (upd_same ..) (by simp only [List.length_append, List.length_cons, List.length_nil]; omega)) ?_⟩
            rintro r_ h2 ⟨rfl, hle2⟩
            have hb2 := Heap.le_get hle2 (upd_same ..)
            rw [upd_upd] at hle2
            simp (maxSteps := 1000000) -dsimp -implicitDefEqProofs only [go_sem, ↓reduceIte, keep15, ib15, mk15, Tryz.f15]
            first | refine HFnF.mk (js) ?_ | refine CallSF.mk (js) ?_ | refine HFnF.mkAt (js) ?_ | refine CallSF.mk (FnAt.fn0 (js)) ?_
            simp (maxSteps := 1000000) -dsimp -implicitDefEqProofs only [go_sem, ↓reduceIte, keep15, ib15, mk15, Tryz.f15]
            refine ⟨by decide, by decide, HFnF.mkH (writeString (l ++ [40] ++ a.txt p) [32, 43, 32] (by first | omega | (simp only [List.length_append, List.length_cons, List.length_nil]; omega)) hb2) ?_⟩
            rintro r_ h3 ⟨rfl, rfl⟩
            simp (maxSteps := 1000000) -dsimp -implicitDefEqProofs only [go_sem, ↓reduceIte, keep15, ib15, mk15, Tryz.f15, gb, DExpr.c_eq]
            refine ⟨by decide, HFnF.mkH (i1 _ (l ++ [40] ++ a.txt p ++ [32, 43, 32]) (upd_same ..) (by first | omega | (simp only [List.length_append, List.length_cons, List.length_nil]; omega))) ?_⟩
            rintro r_ h4 ⟨rfl, hle4⟩
            have hb4 := Heap.le_get hle4 (upd_same ..)
            rw [upd_upd] at hle4
            simp (maxSteps := 1000000) -dsimp -implicitDefEqProofs only [go_sem, ↓reduceIte, keep15, ib15, mk15, Tryz.f15]
            refine HFnF.mkH (writeByte (l ++ [40] ++ a.txt p ++ [32, 43, 32] ++ b.txt p) 41 (by first | omega | (simp only [List.length_append, List.length_cons, List.length_nil]; omega)) hb4) ?_
            rintro r_ h5 ⟨rfl, rfl⟩
            simp (maxSteps := 1000000) -dsimp -implicitDefEqProofs only [go_sem, ↓reduceIte, keep15, ib15, mk15, Tryz.f15]
            refine ⟨_, _, shift_le (Heap.le_refl _), rfl, ?_⟩
            rw [show l ++ e.txt p = l ++ [40] ++ a.txt p ++ [32, 43, 32] ++ b.txt p ++ [41] by rw [ht]; simp]
            exact le_re (Heap.le_trans (le_re hle2) hle4)
          · have js : Fn0 Tryz.prog 35 [I 4] (.int .u8 45) := signI 4 (by decide)
            have hsg : signB e.fKind = 45 := by rw [kq]; rfl
            rw [hsg] at ht
            refine fnKF 111 keep15 ib15 mk15 mix Tryz.func15 rfl (by kernel_rfl) (by simp) ?_
            simp (maxSteps := 1000000) -dsimp -implicitDefEqProofs only [go_sem, ↓reduceIte, keep15, ib15, mk15, Tryz.f15, hb, kq]
            refine HFnF.mkH (writeByte l 40 (by omega) hb) ?_
            rintro r_ h1 ⟨rfl, rfl⟩
            simp (maxSteps := 1000000) -dsimp -implicitDefEqProofs only [go_sem, ↓reduceIte, keep15, ib15, mk15, Tryz.f15, ga, DExpr.c_eq]
            refine ⟨by decide, HFnF.mkH (i0 _ (l ++ [40]) (upd_same ..) (by simp only [List.length_append, List.length_cons, List.length_nil]; omega)) ?_⟩
            rintro r_ h2 ⟨rfl, hle2⟩
            have hb2 := Heap.le_get hle2 (upd_same ..)
            rw [upd_upd] at hle2
            simp (maxSteps := 1000000) -dsimp -implicitDefEqProofs only [go_sem, ↓reduceIte, keep15, ib15, mk15, Tryz.f15]
            first | refine HFnF.mk (js) ?_ | refine CallSF.mk (js) ?_ | refine HFnF.mkAt (js) ?_ | refine CallSF.mk (FnAt.fn0 (js)) ?_
            simp (maxSteps := 1000000) -dsimp -implicitDefEqProofs only [go_sem, ↓reduceIte, keep15, ib15, mk15, Tryz.f15]
            refine ⟨by decide, by decide, HFnF.mkH (writeString (l ++ [40] ++ a.txt p) [32, 45, 32] (by first | omega | (simp only [List.length_append, List.length_cons, List.length_nil]; omega)) hb2) ?_⟩
            rintro r_ h3 ⟨rfl, rfl⟩
            simp (maxSteps := 1000000) -dsimp -implicitDefEqProofs only [go_sem, ↓reduceIte, keep15, ib15, mk15, Tryz.f15, gb, DExpr.c_eq]
            refine ⟨by decide, HFnF.mkH (i1 _ (l ++ [40] ++ a.txt p ++ [32, 45, 32]) (upd_same ..) (by first | omega | (simp only [List.length_append, List.length_cons, List.length_nil]; omega))) ?_⟩
            rintro r_ h4 ⟨rfl, hle4⟩
            have hb4 := Heap.le_get hle4 (upd_same ..)
            rw [upd_upd] at hle4
            simp (maxSteps := 1000000) -dsimp -implicitDefEqProofs only [go_sem, ↓reduceIte, keep15, ib15, mk15, Tryz.f15]
            refine HFnF.mkH (writeByte (l ++ [40] ++ a.txt p ++ [32, 45, 32] ++ b.txt p) 41 (by first | omega | (simp only [List.length_append, List.length_cons, List.length_nil]; omega)) hb4) ?_
            rintro r_ h5 ⟨rfl, rfl⟩
            simp (maxSteps := 1000000) -dsimp -implicitDefEqProofs only [go_sem, ↓reduceIte, keep15, ib15, mk15, Tryz.f15]
            refine ⟨_, _, shift_le (Heap.le_refl _), rfl, ?_⟩
            rw [show l ++ e.txt p = l ++ [40] ++ a.txt p ++ [32, 45, 32] ++ b.txt p ++ [41] by rw [ht]; simp]
            exact le_re (Heap.le_trans (le_re hle2) hle4)
          · have js : Fn0 Tryz.prog 35 [I 5] (.int .u8 42) := signI 5 (by decide)
            have hsg : signB e.fKind = 42 := by rw [kq]; rfl
            rw [hsg] at ht
            refine fnKF 111 keep15 ib15 mk15 mix Tryz.func15 rfl (by kernel_rfl) (by simp) ?_
            simp (maxSteps := 1000000) -dsimp -implicitDefEqProofs only [go_sem, ↓reduceIte, keep15, ib15, mk15, Tryz.f15, hb, kq]
            refine HFnF.mkH (writeByte l 40 (by omega) hb) ?_
            rintro r_ h1 ⟨rfl, rfl⟩
            simp (maxSteps := 1000000) -dsimp -implicitDefEqProofs only [go_sem, ↓reduceIte, keep15, ib15, mk15, Tryz.f15, ga, DExpr.c_eq]
            refine ⟨by decide, HFnF.mkH (i0 _ (l ++ [40]) (upd_same ..) (by simp only [List.length_append, List.length_cons, List.length_nil]; omega)) ?_⟩
            rintro r_ h2 ⟨rfl, hle2⟩
            have hb2 := Heap.le_get hle2 (upd_same ..)
            rw [upd_upd] at hle2
            simp (maxSteps := 1000000) -dsimp -implicitDefEqProofs only [go_sem, ↓reduceIte, keep15, ib15, mk15, Tryz.f15]
            first | refine HFnF.mk (js) ?_ | refine CallSF.mk (js) ?_ | refine HFnF.mkAt (js) ?_ | refine CallSF.mk (FnAt.fn0 (js)) ?_
            simp (maxSteps := 1000000) -dsimp -implicitDefEqProofs only [go_sem, ↓reduceIte, keep15, ib15, mk15, Tryz.f15]
            refine ⟨by decide, by decide, HFnF.mkH (writeString (l ++ [40] ++ a.txt p) [32, 42, 32] (by first | omega | (simp only [List.length_append, List.length_cons, List.length_nil]; omega)) hb2) ?_⟩
            rintro r_ h3 ⟨rfl, rfl⟩
            simp (maxSteps := 1000000) -dsimp -implicitDefEqProofs only [go_sem, ↓reduceIte, keep15, ib15, mk15, Tryz.f15, gb, DExpr.c_eq]
            refine ⟨by decide, HFnF.mkH (i1 _ (l ++ [40] ++ a.txt p ++ [32, 42, 32]) (upd_same ..) (by first | omega | (simp only [List.length_append, List.length_cons, List.length_nil]; omega))) ?_⟩
            rintro r_ h4 ⟨rfl, hle4⟩
            have hb4 := Heap.le_get hle4 (upd_same ..)
            rw [upd_upd] at hle4
            simp (maxSteps := 1000000) -dsimp -implicitDefEqProofs only [go_sem, ↓reduceIte, keep15, ib15, mk15, Tryz.f15]
            refine HFnF.mkH (writeByte (l ++ [40] ++ a.txt p ++ [32, 42, 32] ++ b.txt p) 41 (by first | omega | (simp only [List.length_append, List.length_cons, List.length_nil]; omega)) hb4) ?_
            rintro r_ h5 ⟨rfl, rfl⟩
            simp (maxSteps := 1000000) -dsimp -implicitDefEqProofs only [go_sem, ↓reduceIte, keep15, ib15, mk15, Tryz.f15]
            refine ⟨_, _, shift_le (Heap.le_refl _), rfl, ?_⟩
            rw [show l ++ e.txt p = l ++ [40] ++ a.txt p ++ [32, 42, 32] ++ b.txt p ++ [41] by rw [ht]; simp]
            exact le_re (Heap.le_trans (le_re hle2) hle4)
          · have js : Fn0 Tryz.prog 35 [I 6] (.int .u8 47) := signI 6 (by decide)
            have hsg : signB e.fKind = 47 := by rw [kq]; rfl
            rw [hsg] at ht
            refine fnKF 111 keep15 ib15 mk15 mix Tryz.func15 rfl (by kernel_rfl) (by simp) ?_
            simp (maxSteps := 1000000) -dsimp -implicitDefEqProofs only [go_sem, ↓reduceIte, keep15, ib15, mk15, Tryz.f15, hb, kq]
            refine HFnF.mkH (writeByte l 40 (by omega) hb) ?_
            rintro r_ h1 ⟨rfl, rfl⟩
            simp (maxSteps := 1000000) -dsimp -implicitDefEqProofs only [go_sem, ↓reduceIte, keep15, ib15, mk15, Tryz.f15, ga, DExpr.c_eq]
            refine ⟨by decide, HFnF.mkH (i0 _ (l ++ [40]) (upd_same ..) (by simp only [List.length_append, List.length_cons, List.length_nil]; omega)) ?_⟩
            rintro r_ h2 ⟨rfl, hle2⟩
            have hb2 := Heap.le_get hle2 (upd_same ..)
            rw [upd_upd] at hle2
            simp (maxSteps := 1000000) -dsimp -implicitDefEqProofs only [go_sem, ↓reduceIte, keep15, ib15, mk15, Tryz.f15]
            first | refine HFnF.mk (js) ?_ | refine CallSF.mk (js) ?_ | refine HFnF.mkAt (js) ?_ | refine CallSF.mk (FnAt.fn0 (js)) ?_
            simp (maxSteps := 1000000) -dsimp -implicitDefEqProofs only [go_sem, ↓reduceIte, keep15, ib15, mk15, Tryz.f15]
            refine ⟨by decide, by decide, HFnF.mkH (writeString (l ++ [40] ++ a.txt p) [32, 47, 32] (by first | omega | (simp only [List.length_append, List.length_cons, List.length_nil]; omega)) hb2) ?_⟩
            rintro r_ h3 ⟨rfl, rfl⟩
            simp (maxSteps := 1000000) -dsimp -implicitDefEqProofs only [go_sem, ↓reduceIte, keep15, ib15, mk15, Tryz.f15, gb, DExpr.c_eq]
            refine ⟨by decide, HFnF.mkH (i1 _ (l ++ [40] ++ a.txt p ++ [32, 47, 32]) (upd_same ..) (by first | omega | (simp only [List.length_append, List.length_cons, List.length_nil]; omega))) ?_⟩
            rintro r_ h4 ⟨rfl, hle4⟩
            have hb4 := Heap.le_get hle4 (upd_same ..)
            rw [upd_upd] at hle4
            simp (maxSteps := 1000000) -dsimp -implicitDefEqProofs only [go_sem, ↓reduceIte, keep15, ib15, mk15, Tryz.f15]
            refine HFnF.mkH (writeByte (l ++ [40] ++ a.txt p ++ [32, 47, 32] ++ b.txt p) 41 (by first | omega | (simp only [List.length_append, List.length_cons, List.length_nil]; omega)) hb4) ?_
            rintro r_ h5 ⟨rfl, rfl⟩
            simp (maxSteps := 1000000) -dsimp -implicitDefEqProofs only [go_sem, ↓reduceIte, keep15, ib15, mk15, Tryz.f15]
            refine ⟨_, _, shift_le (Heap.le_refl _), rfl, ?_⟩
            rw [show l ++ e.txt p = l ++ [40] ++ a.txt p ++ [32, 47, 32] ++ b.txt p ++ [41] by rw [ht]; simp]
            exact le_re (Heap.le_trans (le_re hle2) hle4)
      · rw [if_neg k1, if_neg k2, if_neg kb] at htxt
        rcases (by omega : e.fKind = 7 ∨ e.fKind = 8 ∨ e.fKind = 9 ∨ e.fKind = 10 ∨ e.fKind = 11) with kq | kq | kq | kq | kq
        · have hT : headT p e.fKind e.fNum e.fPick e.fCount = [110, 101, 103] := by rw [headT, if_pos kq]
          rw [kq] at hwl
          refine fnKF 111 keep15 ib15 mk15 mix Tryz.func15 rfl (by kernel_rfl) (by simp) ?_
          simp (maxSteps := 1000000) -dsimp -implicitDefEqProofs only [go_sem, ↓reduceIte, keep15, ib15, mk15, Tryz.f15, hb, kq]
          have hl56 := headT_len hp h (by omega)
          rw [hT] at hl56
          refine HFnF.mkH (writeString l ([110, 101, 103]) (by omega) hb) ?_
          rintro r_ h' ⟨rfl, rfl⟩
          simp (maxSteps := 1000000) -dsimp -implicitDefEqProofs only [go_sem, ↓reduceIte, keep15, ib15, mk15, Tryz.f15]
          refine HFnF.mkH (hwl _ _ (upd_same ..) (by rw [List.length_append]; omega)) ?_
          rintro r_ h' ⟨rfl, hle⟩
          simp (maxSteps := 1000000) -dsimp -implicitDefEqProofs only [go_sem, ↓reduceIte, keep15, ib15, mk15, Tryz.f15]
          rw [upd_upd] at hle
          refine ⟨_, _, shift_le (Heap.le_refl _), rfl, ?_⟩
          rw [show l ++ e.txt p = l ++ ([110, 101, 103]) ++ 40 :: (semis (e.fKids.map (DExpr.txt p)) ++ [41]) by rw [htxt, hT]; simp]
          exact hle
        · have hT : headT p e.fKind e.fNum e.fPick e.fCount = [105, 102] := by rw [headT, if_neg (by omega), if_pos kq]
          rw [kq] at hwl
          refine fnKF 111 keep15 ib15 mk15 mix Tryz.func15 rfl (by kernel_rfl) (by simp) ?_
          simp (maxSteps := 1000000) -dsimp -implicitDefEqProofs only [go_sem, ↓reduceIte, keep15, ib15, mk15, Tryz.f15, hb, kq]
          have hl56 := headT_len hp h (by omega)
          rw [hT] at hl56
          refine HFnF.mkH (writeString l ([105, 102]) (by omega) hb) ?_
          rintro r_ h' ⟨rfl, rfl⟩
          simp (maxSteps := 1000000) -dsimp -implicitDefEqProofs only [go_sem, ↓reduceIte, keep15, ib15, mk15, Tryz.f15]
          refine HFnF.mkH (hwl _ _ (upd_same ..) (by rw [List.length_append]; omega)) ?_
          rintro r_ h' ⟨rfl, hle⟩
          simp (maxSteps := 1000000) -dsimp -implicitDefEqProofs only [go_sem, ↓reduceIte, keep15, ib15, mk15, Tryz.f15]
          rw [upd_upd] at hle
          refine ⟨_, _, shift_le (Heap.le_refl _), rfl, ?_⟩
          rw [show l ++ e.txt p = l ++ ([105, 102]) ++ 40 :: (semis (e.fKids.map (DExpr.txt p)) ++ [41]) by rw [htxt, hT]; simp]
          exact hle
        · have hT : headT p e.fKind e.fNum e.fPick e.fCount = [108, 101, 116] := by rw [headT, if_neg (by omega), if_neg (by omega), if_pos kq]
          rw [kq] at hwl
          refine fnKF 111 keep15 ib15 mk15 mix Tryz.func15 rfl (by kernel_rfl) (by simp) ?_
          simp (maxSteps := 1000000) -dsimp -implicitDefEqProofs only [go_sem, ↓reduceIte, keep15, ib15, mk15, Tryz.f15, hb, kq]
          have hl56 := headT_len hp h (by omega)
          rw [hT] at hl56
          refine HFnF.mkH (writeString l ([108, 101, 116]) (by omega) hb) ?_
          rintro r_ h' ⟨rfl, rfl⟩
          simp (maxSteps := 1000000) -dsimp -implicitDefEqProofs only [go_sem, ↓reduceIte, keep15, ib15, mk15, Tryz.f15]
          refine HFnF.mkH (hwl _ _ (upd_same ..) (by rw [List.length_append]; omega)) ?_
          rintro r_ h' ⟨rfl, hle⟩
          simp (maxSteps := 1000000) -dsimp -implicitDefEqProofs only [go_sem, ↓reduceIte, keep15, ib15, mk15, Tryz.f15]
          rw [upd_upd] at hle
          refine ⟨_, _, shift_le (Heap.le_refl _), rfl, ?_⟩
          rw [show l ++ e.txt p = l ++ ([108, 101, 116]) ++ 40 :: (semis (e.fKids.map (DExpr.txt p)) ++ [41]) by rw [htxt, hT]; simp]
          exact hle
        · obtain ⟨f, ef, en, hfl, hn0, hn1, hi, hcn⟩ := h.call hp (.inl kq)
          have hT : headT p e.fKind e.fNum e.fPick e.fCount = f.fName ++ [46] ++ Go.Lib.itoa e.fPick := by rw [headT, if_neg (by omega), if_neg (by omega), if_neg (by omega), if_pos kq, en]; simp
          have hi2 := itoa_num hi
          rw [kq] at hwl
          refine fnKF 111 keep15 ib15 mk15 mix Tryz.func15 rfl (by kernel_rfl) (by simp) ?_
          simp (maxSteps := 1000000) -dsimp -implicitDefEqProofs only [go_sem, ↓reduceIte, keep15, ib15, mk15, Tryz.f15, hb, kq, ef, DFunc.c_eq]
          refine ⟨hn0, hn1, by omega, ?_⟩
          first | refine HFnF.mk (decimal e.fPick hi) ?_ | refine CallSF.mk (decimal e.fPick hi) ?_ | refine HFnF.mkAt (decimal e.fPick hi) ?_ | refine CallSF.mk (FnAt.fn0 (decimal e.fPick hi)) ?_
          simp (maxSteps := 1000000) -dsimp -implicitDefEqProofs only [go_sem, ↓reduceIte, keep15, ib15, mk15, Tryz.f15]
          refine ⟨by first | omega | (simp only [List.length_append, List.length_cons, List.length_nil]; omega), ?_⟩
          have hl56 := headT_len hp h (by omega)
          rw [hT] at hl56
          refine HFnF.mkH (writeString l (f.fName ++ [46] ++ Go.Lib.itoa e.fPick) (by omega) hb) ?_
          rintro r_ h' ⟨rfl, rfl⟩
          simp (maxSteps := 1000000) -dsimp -implicitDefEqProofs only [go_sem, ↓reduceIte, keep15, ib15, mk15, Tryz.f15]
          refine HFnF.mkH (hwl _ _ (upd_same ..) (by rw [List.length_append]; omega)) ?_
          rintro r_ h' ⟨rfl, hle⟩
          simp (maxSteps := 1000000) -dsimp -implicitDefEqProofs only [go_sem, ↓reduceIte, keep15, ib15, mk15, Tryz.f15]
          rw [upd_upd] at hle
          refine ⟨_, _, shift_le (Heap.le_refl _), rfl, ?_⟩
          rw [show l ++ e.txt p = l ++ (f.fName ++ [46] ++ Go.Lib.itoa e.fPick) ++ 40 :: (semis (e.fKids.map (DExpr.txt p)) ++ [41]) by rw [htxt, hT]; simp]
          exact hle
        · obtain ⟨f, ef, en, hfl, hn0, hn1, hi, hcn⟩ := h.call hp (.inr kq)
          have hT : headT p e.fKind e.fNum e.fPick e.fCount = f.fName ++ [46] ++ Go.Lib.itoa e.fPick ++ [94] ++ Go.Lib.itoa e.fCount := by rw [headT, if_neg (by omega), if_neg (by omega), if_neg (by omega), if_neg (by omega), en]; simp
          have hi2 := itoa_num hi
          have hc2 := itoa_num hcn
          rw [kq] at hwl
          refine fnKF 111 keep15 ib15 mk15 mix Tryz.func15 rfl (by kernel_rfl) (by simp) ?_
          simp (maxSteps := 1000000) -dsimp -implicitDefEqProofs only [go_sem, ↓reduceIte, keep15, ib15, mk15, Tryz.f15, hb, kq, ef, DFunc.c_eq]
          refine ⟨hn0, hn1, by omega, ?_⟩
          first | refine HFnF.mk (decimal e.fPick hi) ?_ | refine CallSF.mk (decimal e.fPick hi) ?_ | refine HFnF.mkAt (decimal e.fPick hi) ?_ | refine CallSF.mk (FnAt.fn0 (decimal e.fPick hi)) ?_
          simp (maxSteps := 1000000) -dsimp -implicitDefEqProofs only [go_sem, ↓reduceIte, keep15, ib15, mk15, Tryz.f15]
          refine ⟨by first | omega | (simp only [List.length_append, List.length_cons, List.length_nil]; omega), by first | omega | (simp only [List.length_append, List.length_cons, List.length_nil]; omega), ?_⟩
          first | refine HFnF.mk (decimal e.fCount hcn) ?_ | refine CallSF.mk (decimal e.fCount hcn) ?_ | refine HFnF.mkAt (decimal e.fCount hcn) ?_ | refine CallSF.mk (FnAt.fn0 (decimal e.fCount hcn)) ?_
          simp (maxSteps := 1000000) -dsimp -implicitDefEqProofs only [go_sem, ↓reduceIte, keep15, ib15, mk15, Tryz.f15]
          refine ⟨by first | omega | (simp only [List.length_append, List.length_cons, List.length_nil]; omega), ?_⟩
          have hl56 := headT_len hp h (by omega)
          rw [hT] at hl56
          refine HFnF.mkH (writeString l (f.fName ++ [46] ++ Go.Lib.itoa e.fPick ++ [94] ++ Go.Lib.itoa e.fCount) (by omega) hb) ?_
          rintro r_ h' ⟨rfl, rfl⟩
          simp (maxSteps := 1000000) -dsimp -implicitDefEqProofs only [go_sem, ↓reduceIte, keep15, ib15, mk15, Tryz.f15]
          refine HFnF.mkH (hwl _ _ (upd_same ..) (by rw [List.length_append]; omega)) ?_
          rintro r_ h' ⟨rfl, hle⟩
          simp (maxSteps := 1000000) -dsimp -implicitDefEqProofs only [go_sem, ↓reduceIte, keep15, ib15, mk15, Tryz.f15]
          rw [upd_upd] at hle
          refine ⟨_, _, shift_le (Heap.le_refl _), rfl, ?_⟩
          rw [show l ++ e.txt p = l ++ (f.fName ++ [46] ++ Go.Lib.itoa e.fPick ++ [94] ++ Go.Lib.itoa e.fCount) ++ 40 :: (semis (e.fKids.map (DExpr.txt p)) ++ [41]) by rw [htxt, hT]; simp]
          exact hle
termination_by e.s
open Go.Proofs
set_option linter.unusedVariables false
set_option linter.unusedSimpArgs false
theorem Stands.of {p : DProgram} {e : DExpr} {vars funcs : Int} (h : exprOK p e vars funcs) : Stands p funcs e vars := ⟨h.2.2.2.2, by have h1 := h.1; have h3 := h.2.2.1; omega, h.2.1.1, h.2.1.2⟩
def keep57 : List Nat := [0, 1, 2, 3, 4, 5]
def ib57 : List Nat := [2, 3]
def mk57 : Marks := fun _ => ([], .nil, [])
set_option maxRecDepth 100000 in
theorem textI {p : DProgram} (hp : p.ok) {funcs vars : Int} (e : DExpr) (h : Stands p funcs e vars) (hs : e.s ≤ 1048576) : Fn0 Tryz.prog 57 [.agg p.c, .agg e.c] (.str (e.txt p)) := by
  have hl := DExpr.txt_len hp e vars h
  have hw := fun nb g => write hp e vars h (nb := nb) g
  simp only [DExpr.c_eq, DProgram.c_eq] at hw ⊢
  refine fn0F 14 keep57 ib57 mk57 mix Tryz.func57 rfl (by kernel_rfl) (by simp) fun h => ?_
  simp (maxSteps := 1000000) -dsimp -implicitDefEqProofs only [go_sem, ↓reduceIte, keep57, ib57, mk57, Tryz.f57]
  intro nb hn
  refine HFnF.wk (bld_fresh (upd_same ..)) ?_
  rw [upd_upd]
  refine HFnF.mkH (hw nb _ [] (upd_same ..) (by simp only [List.length_nil]; omega)) ?_
  rintro r_ h1 ⟨rfl, hle⟩
  have hb1 := Heap.le_get hle (upd_same ..)
  rw [upd_upd] at hle
  simp only [List.nil_append] at hb1 hle
  simp (maxSteps := 1000000) -dsimp -implicitDefEqProofs only [go_sem, ↓reduceIte, keep57, ib57, mk57, Tryz.f57]
  refine HFnF.mkH (builderString (e.txt p) (by simp only [maxLen]; omega) hb1) ?_
  rintro r_ h2 ⟨rfl, rfl⟩
  simp (maxSteps := 1000000) -dsimp -implicitDefEqProofs only [go_sem, ↓reduceIte, keep57, ib57, mk57, Tryz.f57]
  exact Heap.le_upd hn (Heap.le_trans (Heap.le_upd hn (Heap.le_refl _)) hle)
open Go.Proofs
set_option linter.unusedVariables false
set_option linter.unusedSimpArgs false
/-- Texts with " | " between them. -/
def bars : List (List UInt8) → List UInt8
  | [] => []
  | [a] => a
  | a :: b :: l => a ++ 32 :: 124 :: 32 :: bars (b :: l)
theorem bars_snoc (a : List UInt8) : ∀ l : List (List UInt8), ¬ l = [] → bars (l ++ [a]) = bars l ++ 32 :: 124 :: 32 :: a
  | [], h => absurd rfl h
  | [b], _ => rfl
  | b :: c :: l, _ => by
    show b ++ 32 :: 124 :: 32 :: bars ((c :: l) ++ [a]) = (b ++ 32 :: 124 :: 32 :: bars (c :: l)) ++ 32 :: 124 :: 32 :: a
    rw [bars_snoc a (c :: l) (by simp)]; simp
theorem bars_len : ∀ l : List (List UInt8), (bars l).length ≤ (l.map fun a => a.length + 2).sum + l.length
  | [] => Nat.le_refl _
  | [a] => by simp [bars]; omega
  | a :: b :: l => by
    have := bars_len (b :: l)
    simp only [bars, List.map_cons, List.sum_cons, List.length_append, List.length_cons] at this ⊢
    omega
theorem bars_next {p : DProgram} {l : List DExpr} {k : Nat} (hk : k < l.length) : (0 < k → bars ((l.map (DExpr.txt p)).take (k + 1)) = bars ((l.map (DExpr.txt p)).take k) ++ 32 :: 124 :: 32 :: l[k].txt p) ∧ (k = 0 → bars ((l.map (DExpr.txt p)).take (k + 1)) = l[k].txt p) := by
  have h1 : (l.map (DExpr.txt p)).take (k + 1) = (l.map (DExpr.txt p)).take k ++ [l[k].txt p] := by
    rw [List.take_succ_eq_append_getElem (by simpa using hk)]; simp
  rw [h1]
  refine ⟨fun h0 => bars_snoc _ _ fun q => ?_, fun h0 => ?_⟩
  · have := congrArg List.length q
    rw [List.length_take, List.length_map, List.length_nil] at this
    omega
  · subst h0; simp [bars]
def headF (f : DFunc) : List UInt8 := f.fName ++ [32] ++ Go.Lib.itoa f.fParams ++ [58, 32]
def funcTxt (p : DProgram) (f : DFunc) : List UInt8 := headF f ++ bars (f.fOuts.map (DExpr.txt p)) ++ [10]
noncomputable def progTxt (p : DProgram) : List UInt8 := if p.ok then (p.fFuncs.map (funcTxt p)).flatten else []
/-- What is known of a function of a valid program. -/
theorem func_facts {p : DProgram} (hp : p.ok) {k : Nat} (hk : k < p.fFuncs.length) : (headF p.fFuncs[k]).length ≤ 36 ∧ Num p.fFuncs[k].fParams ∧ (∀ e ∈ p.fFuncs[k].fOuts, Stands p k e p.fFuncs[k].fParams) ∧ (∀ e ∈ p.fFuncs[k].fOuts, e.s ≤ 400) ∧ ∀ j, (bars ((p.fFuncs[k].fOuts.map (DExpr.txt p)).take j)).length ≤ 26000 := by
  obtain ⟨h1, h2, h3, h4, h5, h6⟩ := hp.2 k p.fFuncs[k] (List.getElem?_eq_getElem hk)
  have hN : Num p.fFuncs[k].fParams := ⟨by omega, by omega⟩
  have hst : ∀ e ∈ p.fFuncs[k].fOuts, Stands p k e p.fFuncs[k].fParams := fun e he => Stands.of (h6 e he)
  refine ⟨?_, hN, hst, fun e he => by have := (h6 e he).2.2.1; omega, fun j => ?_⟩
  · have := itoa_num hN
    have := h1.2.1
    simp only [headF, List.length_append, List.length_cons, List.length_nil]; omega
  · have b1 := bars_len ((p.fFuncs[k].fOuts.map (DExpr.txt p)).take j)
    rw [← List.map_take] at b1 ⊢
    have b2 := sum_txt (p := p) (p.fFuncs[k].fOuts.take j) fun x hx => DExpr.txt_len hp x _ (hst x (List.mem_of_mem_take hx))
    have b3 : szs DExpr.s (p.fFuncs[k].fOuts.take j) ≤ szs DExpr.s p.fFuncs[k].fOuts := by
      rw [szs_eq, szs_eq]
      have h4 : ((p.fFuncs[k].fOuts.take j).map DExpr.s).sum + ((p.fFuncs[k].fOuts.drop j).map DExpr.s).sum = (p.fFuncs[k].fOuts.map DExpr.s).sum := by
        rw [← List.sum_append, ← List.map_append, List.take_append_drop]
      have h5 : (p.fFuncs[k].fOuts.take j).length ≤ p.fFuncs[k].fOuts.length := by rw [List.length_take]; omega
      omega
    have b4 : (p.fFuncs[k].fOuts.take j).length ≤ 12 := by rw [List.length_take]; omega
    rw [List.length_map] at b1
    omega
/-- The lines of the first functions. -/
def linesP (p : DProgram) (k : Nat) : List UInt8 := ((p.fFuncs.map (funcTxt p)).take k).flatten
theorem linesP_next {p : DProgram} {k : Nat} (hk : k < p.fFuncs.length) : linesP p (k + 1) = linesP p k ++ funcTxt p p.fFuncs[k] := by
  unfold linesP
  rw [List.take_succ_eq_append_getElem (by simpa using hk)]; simp
theorem funcTxt_len {p : DProgram} (hp : p.ok) {k : Nat} (hk : k < p.fFuncs.length) : (funcTxt p p.fFuncs[k]).length ≤ 26100 := by
  obtain ⟨h1, _, _, _, h2⟩ := func_facts hp hk
  have := h2 (p.fFuncs[k].fOuts.map (DExpr.txt p)).length
  rw [List.take_length] at this
  simp only [funcTxt, List.length_append, List.length_cons, List.length_nil]; omega
theorem linesP_len {p : DProgram} (hp : p.ok) : ∀ k, k ≤ p.fFuncs.length → (linesP p k).length ≤ 26100 * k
  | 0, _ => Nat.le_refl _
  | k + 1, hk => by
    have h1 := linesP_len hp k (by omega)
    have h2 := funcTxt_len hp (k := k) (by omega)
    rw [linesP_next (by omega), List.length_append]; omega
def keep6 : List Nat := [0, 1, 2, 3, 5, 6, 7, 10, 14, 15, 16, 17, 31, 32, 33, 34, 39]
def ib6 : List Nat := [1]
def mk6 : Marks := fun id => match id with | 7 => ([2, 5, 6, 9], (.op 0 (.op 1 (.op 4 (.op 2 (.op 3 (.op 5 (.op 6 (.op 7 (.op 8 (.op 9 .nil)))))))))), [(2, 6)]) | _ => ([], .nil, [])
set_option maxRecDepth 100000 in
theorem ProgramTextI (p : DProgram) (hps : p.s ≤ 1048576) : Fn0 Tryz.prog 6 [.agg p.c] (.str (progTxt p)) := by
  have h1 := ValidProgram p (by omega)
  rw [DProgram.c_eq] at h1 ⊢
  by_cases hp : p.ok
  · rw [decide_eq_true hp] at h1
    have hpt : progTxt p = linesP p p.fFuncs.length := by rw [progTxt, if_pos hp, linesP, List.take_of_length_le (by simp)]
    have hln := linesP_len hp
    have h16 : p.fFuncs.length ≤ 16 := by have := hp.1; omega
    refine fn0F 52 keep6 ib6 mk6 mix Tryz.func6 rfl (by kernel_rfl) (by simp) fun h => ?_
    simp (maxSteps := 1000000) -dsimp -implicitDefEqProofs only [go_sem, ↓reduceIte, keep6, ib6, mk6, Tryz.f6]
    first | refine HFnF.mk (h1) ?_ | refine CallSF.mk (h1) ?_ | refine HFnF.mkAt (h1) ?_ | refine CallSF.mk (FnAt.fn0 (h1)) ?_
    simp (maxSteps := 1000000) -dsimp -implicitDefEqProofs only [go_sem, ↓reduceIte, keep6, ib6, mk6, Tryz.f6]
    intro nb hn _
    refine loopW (keep := keep6) (ib := ib6) (mk := mk6) mix (by kernel_rfl) (fun k : Nat => [(1, .ip 1 [[sls 3 DFunc.c p.fFuncs]] 0 0), (3, .op nb 2 0 0), (14, sls 3 DFunc.c p.fFuncs), (15, I p.fFuncs.length), (16, I k)]) (fun k => upd h nb (bld (linesP p k))) (fun k => k ≤ p.fFuncs.length) (fun k => p.fFuncs.length - k) 0 ⟨?_, ?_, Nat.zero_le _⟩ ?_
    · simp [SatL, tget]
    · have := bld_fresh (h := upd h nb (.raw 43 #[.pointer none, .slice none 0 0])) (upd_same ..)
      rw [upd_upd] at this
      exact this
    intro k hk
    rcases Nat.lt_or_ge k p.fFuncs.length with hlt | hge
    · obtain ⟨hh, hN, hst, hes, hbr⟩ := func_facts hp hlt
      have ef : p.fFuncs[k]? = some p.fFuncs[k] := List.getElem?_eq_getElem hlt
      have hft : funcTxt p p.fFuncs[k] = headF p.fFuncs[k] ++ bars (p.fFuncs[k].fOuts.map (DExpr.txt p)) ++ [10] := rfl
      have hnx := linesP_next hlt
      have hpk := hln k hk
      have hdn := itoa_num hN
      have hnm : p.fFuncs[k].fName.length ≤ 12 := (hp.2 k _ ef).1.2.1
      have hdc := decimal p.fFuncs[k].fParams hN
      rw [hft] at hnx
      generalize p.fFuncs[k] = f at *
      simp (maxSteps := 1000000) -dsimp -implicitDefEqProofs only [go_sem, ↓reduceIte, keep6, ib6, mk6, Tryz.f6, ef, DFunc.c_eq]
      refine ⟨fun _ => ⟨hlt, fun b hb2 => ⟨by omega, ?_⟩⟩, fun q => absurd hlt q⟩
      have d_b_nb : ¬ b = nb := hb2.1
      have d_nb_b : ¬ nb = b := Ne.symm d_b_nb
      have e_b_nb : (b = nb) = False := eq_false d_b_nb
      have e_nb_b : (nb = b) = False := eq_false d_nb_b
      rw [upd_upd]
      first | refine HFnF.mk (hdc) ?_ | refine CallSF.mk (hdc) ?_ | refine HFnF.mkAt (hdc) ?_ | refine CallSF.mk (FnAt.fn0 (hdc)) ?_
      simp (maxSteps := 1000000) -dsimp -implicitDefEqProofs only [go_sem, ↓reduceIte, keep6, ib6, mk6, Tryz.f6]
      refine ⟨by first | omega | (simp only [List.length_append, List.length_cons, List.length_nil]; omega), by first | omega | (simp only [List.length_append, List.length_cons, List.length_nil]; omega), HFnF.mkH (writeString (linesP p k) (headF f) (by first | omega | (simp only [List.length_append, List.length_cons, List.length_nil]; omega)) (by rw [upd_ne _ _ _ _ d_nb_b, upd_same])) ?_⟩
      rintro r_ h' ⟨rfl, rfl⟩
      simp (maxSteps := 1000000) -dsimp -implicitDefEqProofs only [go_sem, ↓reduceIte, keep6, ib6, mk6, Tryz.f6, e_b_nb, e_nb_b, upd_ne]
      intro _
      refine loopF (keep := keep6) (ib := ib6) (mk := mk6) mix (by kernel_rfl) (fun i : Nat => [(1, .ip 1 [[sls 3 DFunc.c p.fFuncs]] 0 0), (3, .op nb 2 0 0), (14, sls 3 DFunc.c p.fFuncs), (15, I p.fFuncs.length), (16, I k), (31, sls 5 DExpr.c f.fOuts), (32, I f.fOuts.length), (33, I i)]) (fun i => upd h nb (bld (linesP p k ++ headF f ++ bars ((f.fOuts.map (DExpr.txt p)).take i)))) (fun i => i ≤ f.fOuts.length) (fun i => f.fOuts.length - i) 0 ⟨by simp [SatL, tget], by
        rw [show linesP p k ++ headF f ++ bars ((f.fOuts.map (DExpr.txt p)).take 0) = linesP p k ++ headF f by simp [bars]]
        exact le_bld hb2.1 hb2.2, Nat.zero_le _⟩ ?_
      intro i hi
      have hpre := hbr i
      rcases Nat.lt_or_ge i f.fOuts.length with hilt | hige
      · have ea : f.fOuts[i]? = some f.fOuts[i] := List.getElem?_eq_getElem hilt
        have hw := fun g l => write hp f.fOuts[i] _ (hst _ (List.getElem_mem hilt)) (nb := nb) g l
        have hsz := hes _ (List.getElem_mem hilt)
        have hbx := bars_next (p := p) hilt
        simp only [DExpr.c_eq, DProgram.c_eq] at hw
        simp (maxSteps := 1000000) -dsimp -implicitDefEqProofs only [go_sem, ↓reduceIte, keep6, ib6, mk6, Tryz.f6, ea, DExpr.c_eq]
        refine ⟨fun _ => ⟨hilt, fun c hc2 => ⟨fun h0 => ?_, fun h0 => ?_⟩⟩, fun q => absurd hilt q⟩
        · have d_c_nb : ¬ c = nb := hc2.1
          have d_nb_c : ¬ nb = c := Ne.symm d_c_nb
          have e_c_nb : (c = nb) = False := eq_false d_c_nb
          have e_nb_c : (nb = c) = False := eq_false d_nb_c
          rw [upd_upd]
          refine HFnF.mkH (writeString (linesP p k ++ headF f ++ bars ((f.fOuts.map (DExpr.txt p)).take i)) [32, 124, 32] (by first | omega | (simp only [List.length_append, List.length_cons, List.length_nil]; omega)) (by rw [upd_ne _ _ _ _ d_nb_c, upd_same])) ?_
          rintro r_ h' ⟨rfl, rfl⟩
          simp (maxSteps := 1000000) -dsimp -implicitDefEqProofs only [go_sem, ↓reduceIte, keep6, ib6, mk6, Tryz.f6, e_c_nb, e_nb_c, upd_ne, DExpr.c_eq]
          refine HFnF.mkH (hw _ _ (upd_same ..) (by first | omega | (simp only [List.length_append, List.length_cons, List.length_nil]; omega))) ?_
          rintro r_ h' ⟨rfl, hle⟩
          simp (maxSteps := 1000000) -dsimp -implicitDefEqProofs only [go_sem, ↓reduceIte, keep6, ib6, mk6, Tryz.f6]
          have et : linesP p k ++ headF f ++ bars ((f.fOuts.map (DExpr.txt p)).take (i + 1)) = linesP p k ++ headF f ++ bars ((f.fOuts.map (DExpr.txt p)).take i) ++ [32, 124, 32] ++ f.fOuts[i].txt p := by rw [hbx.1 (by omega)]; simp
          rw [upd_upd, ← et] at hle
          exact ⟨i + 1, IntWalk.i64_in _ (by omega), Heap.le_trans (le_bld hc2.1 hc2.2) hle, by omega, by omega⟩
        · have d_c_nb : ¬ c = nb := hc2.1
          have d_nb_c : ¬ nb = c := Ne.symm d_c_nb
          have e_c_nb : (c = nb) = False := eq_false d_c_nb
          have e_nb_c : (nb = c) = False := eq_false d_nb_c
          rw [upd_upd]
          refine HFnF.mkH (hw _ _ (by rw [upd_ne _ _ _ _ d_nb_c, upd_same]) (by first | omega | (simp only [List.length_append, List.length_cons, List.length_nil]; omega))) ?_
          rintro r_ h' ⟨rfl, hle⟩
          simp (maxSteps := 1000000) -dsimp -implicitDefEqProofs only [go_sem, ↓reduceIte, keep6, ib6, mk6, Tryz.f6]
          have et : linesP p k ++ headF f ++ bars ((f.fOuts.map (DExpr.txt p)).take (i + 1)) = linesP p k ++ headF f ++ bars ((f.fOuts.map (DExpr.txt p)).take i) ++ f.fOuts[i].txt p := by
            rw [hbx.2 (by omega)]
            obtain rfl : i = 0 := by omega
            simp [bars]
          rw [← et] at hle
          exact ⟨i + 1, IntWalk.i64_in _ (by omega), Heap.le_trans (le_bld hc2.1 hc2.2) hle, by omega, by omega⟩
      · have hi' : i = f.fOuts.length := by omega
        rw [hi', List.take_of_length_le (by simp)] at hpre ⊢
        have hnk : ¬ f.fOuts.length < f.fOuts.length := Nat.lt_irrefl _
        simp (maxSteps := 1000000) -dsimp -implicitDefEqProofs only [go_sem, ↓reduceIte, keep6, ib6, mk6, Tryz.f6, hnk]
        refine HFnF.mkH (writeByte (linesP p k ++ headF f ++ bars (f.fOuts.map (DExpr.txt p))) 10 (by first | omega | (simp only [List.length_append, List.length_cons, List.length_nil]; omega)) (upd_same ..)) ?_
        rintro r_ h' ⟨rfl, rfl⟩
        simp (maxSteps := 1000000) -dsimp -implicitDefEqProofs only [go_sem, ↓reduceIte, keep6, ib6, mk6, Tryz.f6]
        rw [upd_upd]
        refine ⟨k + 1, IntWalk.i64_in _ (by omega), ?_, by omega, by omega⟩
        rw [show linesP p (k + 1) = linesP p k ++ headF f ++ bars (f.fOuts.map (DExpr.txt p)) ++ [10] by rw [hnx]; simp]
        exact Heap.wk_of_le (Heap.le_refl _)
    · have hk' : k = p.fFuncs.length := by omega
      rw [hk']
      have hfl := hln p.fFuncs.length (Nat.le_refl _)
      simp (maxSteps := 1000000) -dsimp -implicitDefEqProofs only [go_sem, ↓reduceIte, keep6, ib6, mk6, Tryz.f6, Nat.lt_irrefl]
      refine HFnF.mkH (builderString (linesP p p.fFuncs.length) (by simp only [maxLen]; omega) (upd_same ..)) ?_
      rintro r_ h2 ⟨rfl, rfl⟩
      simp (maxSteps := 1000000) -dsimp -implicitDefEqProofs only [go_sem, ↓reduceIte, keep6, ib6, mk6, Tryz.f6]
      rw [hpt, upd_upd]
      exact ⟨rfl, Heap.le_upd hn (Heap.le_refl _)⟩
  · rw [decide_eq_false hp] at h1
    refine fn0F 52 keep6 ib6 mk6 mix Tryz.func6 rfl (by kernel_rfl) (by simp) fun h => ?_
    simp (maxSteps := 1000000) -dsimp -implicitDefEqProofs only [go_sem, ↓reduceIte, keep6, ib6, mk6, Tryz.f6]
    first | refine HFnF.mk (h1) ?_ | refine CallSF.mk (h1) ?_ | refine HFnF.mkAt (h1) ?_ | refine CallSF.mk (FnAt.fn0 (h1)) ?_
    simp (maxSteps := 1000000) -dsimp -implicitDefEqProofs only [go_sem, ↓reduceIte, keep6, ib6, mk6, Tryz.f6]
    rw [progTxt, if_neg hp]
open Go.Proofs
set_option linter.unusedVariables false
set_option linter.unusedSimpArgs false
/-- A reader's state: place, nodes, depth, and whether it has failed. -/
structure RSt where
  i : Nat
  n : Int
  d : Int
  b : Bool
def zE : DExpr := .mk 0 0 0 0 []
def isWB (c : UInt8) : Bool := (decide (97 ≤ c.toNat) && decide (c.toNat ≤ 122)) || (decide (48 ≤ c.toNat) && decide (c.toNat ≤ 57))
def wordAt (t : List UInt8) (i : Nat) : List UInt8 := (t.drop i).takeWhile isWB
def hasB (t : List UInt8) (i : Nat) (x : List UInt8) : Bool := decide ((t.drop i).take x.length = x)
def RSt.adv (s : RSt) (k : Nat) : RSt := { s with i := s.i + k }
def RSt.fail (s : RSt) : RSt := { s with b := true }
def RSt.orB (s : RSt) (c : Bool) : RSt := { s with b := s.b || c }
def neg3 : List UInt8 := [110, 101, 103]
def if2 : List UInt8 := [105, 102]
def let3 : List UInt8 := [108, 101, 116]
/-! ### the program's reader -/
def tkI (t x : List UInt8) (s : RSt) : Bool := !s.b && hasB t s.i x
def wantI (t x : List UInt8) (s : RSt) : RSt := if tkI t x s then s.adv x.length else s.fail
def numI (t : List UInt8) (s : RSt) : Int := rdN (wordAt t s.i)
def numIs (t : List UInt8) (s : RSt) : RSt := (s.adv (wordAt t s.i).length).orB (!decide (rdOK 1000002 (wordAt t s.i)))
def opI (t : List UInt8) (s : RSt) : Int := if tkI t [43] s then 3 else if tkI t [45] s then 4 else if tkI t [42] s then 5 else if tkI t [47] s then 6 else 7
def opIs (t : List UInt8) (s : RSt) : RSt := if opI t s = 7 then s else s.adv 1
def lsI (ex : RSt → DExpr × RSt) (t : List UInt8) : Nat → List DExpr → RSt → List DExpr × RSt
  | 0, _, s => ([], s)
  | n + 1, kids, s => if s.b then ([], s) else if tkI t [41] (ex s).2 then (kids ++ [(ex s).1], (ex s).2.adv 1) else lsI ex t n (kids ++ [(ex s).1]) (wantI t [59, 32] (ex s).2)
def listI (ex : RSt → DExpr × RSt) (t : List UInt8) (s : RSt) : List DExpr × RSt :=
  if tkI t [41] (wantI t [40] s) then ([], (wantI t [40] s).adv 1) else lsI ex t (t.length + 1) [] (wantI t [40] s)
def nameIx (p : DProgram) (name : List UInt8) : Int := idxOf (fun f => decide (f.fName = name)) p.fFuncs
def callI2 (ex : RSt → DExpr × RSt) (t : List UInt8) (num pick : Int) (s : RSt) : DExpr × RSt :=
  if tkI t [94] s then (.mk 11 num pick (numI t (s.adv 1)) (listI ex t (numIs t (s.adv 1))).1, (listI ex t (numIs t (s.adv 1))).2)
  else (.mk 10 num pick 0 (listI ex t s).1, (listI ex t s).2)
def callI (ex : RSt → DExpr × RSt) (p : DProgram) (t name : List UInt8) (s : RSt) : DExpr × RSt :=
  callI2 ex t (nameIx p name) (numI t (s.orB (decide (nameIx p name < 0)))) (numIs t (s.orB (decide (nameIx p name < 0))))
def binI2 (ex : RSt → DExpr × RSt) (t : List UInt8) (a : DExpr) (k : Int) (s : RSt) : DExpr × RSt := (.mk k 0 0 0 [a, (ex s).1], wantI t [41] (ex s).2)
def binI1 (ex : RSt → DExpr × RSt) (t : List UInt8) (a : DExpr) (s : RSt) : DExpr × RSt := binI2 ex t a (opI t s) (wantI t [32] ((opIs t s).orB (decide (opI t s = 7))))
def binI (ex : RSt → DExpr × RSt) (t : List UInt8) (s : RSt) : DExpr × RSt := binI1 ex t (ex s).1 (wantI t [32] (ex s).2)
def digB (c : UInt8) : Bool := decide (48 ≤ c.toNat) && decide (c.toNat ≤ 57)
def wordI (ex : RSt → DExpr × RSt) (t w : List UInt8) (s : RSt) : DExpr × RSt :=
  if digB (w.headD 0) then (.mk 1 (rdN w) 0 0 [], s.orB (!decide (rdOK 1000002 w)))
  else if w = neg3 then (.mk 7 0 0 0 (listI ex t s).1, (listI ex t s).2)
  else if w = if2 then (.mk 8 0 0 0 (listI ex t s).1, (listI ex t s).2)
  else if w = let3 then (.mk 9 0 0 0 (listI ex t s).1, (listI ex t s).2)
  else if w.headD 0 = 120 then (.mk 2 (rdN w.tail) 0 0 [], s.orB (!decide (rdOK 812 w.tail)))
  else (zE, s.fail)
def innerI (ex : RSt → DExpr × RSt) (p : DProgram) (t : List UInt8) (s : RSt) : DExpr × RSt :=
  if tkI t [40] s then binI ex t (s.adv 1)
  else if wordAt t s.i = [] then (zE, s.fail)
  else if tkI t [46] (s.adv (wordAt t s.i).length) then callI ex p t (wordAt t s.i) ((s.adv (wordAt t s.i).length).adv 1)
  else wordI ex t (wordAt t s.i) (s.adv (wordAt t s.i).length)
def deeper (s : RSt) (k : Int) : RSt := { s with d := s.d + k }
def exI (p : DProgram) (t : List UInt8) : Nat → RSt → DExpr × RSt
  | 0, s => (zE, (deeper s 1).fail)
  | n + 1, s => if s.b = true ∨ 60 < s.d + 1 then (zE, (deeper s 1).fail) else ((innerI (exI p t n) p t (deeper s 1)).1, deeper (innerI (exI p t n) p t (deeper s 1)).2 (-1))
/-! ### the other reader -/
/-! ### bounds -/
theorem hasP_len {t x : List UInt8} {i : Nat} (h : hasB t i x = true) (hi : i ≤ t.length) : i + x.length ≤ t.length := by
  have := congrArg List.length (of_decide_eq_true h)
  rw [List.length_take, List.length_drop] at this
  omega
theorem wordAt_len {t : List UInt8} {i : Nat} (hi : i ≤ t.length) : i + (wordAt t i).length ≤ t.length := by
  have h1 : (wordAt t i).length ≤ (t.drop i).length := (List.takeWhile_sublist _).length_le
  rw [List.length_drop] at h1
  omega
/-- What a piece of a reader does with its state at most. -/
structure Bnd (D : Int) (t : List UInt8) (s : RSt) (z : Nat) (r : RSt) : Prop where
  lo : s.i ≤ r.i
  hi : r.i ≤ t.length
  sz : z ≤ 2 * (r.i - s.i)
  ok : r.b = false → s.b = false ∧ r.d = s.d ∧ s.n ≤ r.n ∧ r.n ≤ 400
  d : r.d ≤ D ∧ s.d ≤ r.d
  n : r.n ≤ 401 ∧ 0 ≤ r.n
/-- What is known of a state. -/
structure Good (D : Int) (t : List UInt8) (s : RSt) : Prop where
  hi : s.i ≤ t.length
  d : 0 ≤ s.d ∧ s.d ≤ D
  n : 0 ≤ s.n ∧ s.n ≤ 401
  dd : s.b = false → s.d ≤ 60
  nn : s.b = false → s.n ≤ 400
theorem Bnd.self {D : Int} {t : List UInt8} {s : RSt} (g : Good D t s) : Bnd D t s 0 s := ⟨Nat.le_refl _, g.hi, Nat.zero_le _, fun h => ⟨h, rfl, Int.le_refl _, g.nn h⟩, ⟨g.d.2, Int.le_refl _⟩, ⟨g.n.2, g.n.1⟩⟩
theorem Bnd.good {D D' : Int} {t : List UInt8} {s r : RSt} {z : Nat} (g : Good D t s) (h : Bnd D' t s z r) : Good D' t r :=
  ⟨h.hi, ⟨Int.le_trans g.d.1 h.d.2, h.d.1⟩, ⟨h.n.2, h.n.1⟩, fun q => by obtain ⟨a, b, _, _⟩ := h.ok q; rw [b]; exact g.dd a, fun q => (h.ok q).2.2.2⟩
theorem Bnd.trans {D D' : Int} {t : List UInt8} {s r u : RSt} {y z : Nat} (h : Bnd D t s y r) (k : Bnd D' t r z u) : Bnd D' t s (y + z) u := by
  refine ⟨by have := h.lo; have := k.lo; omega, k.hi, ?_, fun q => ?_, ⟨k.d.1, Int.le_trans h.d.2 k.d.2⟩, k.n⟩
  · have := h.lo; have := k.lo; have := h.sz; have := k.sz; omega
  · obtain ⟨a, b, c, d⟩ := k.ok q
    obtain ⟨a', b', c', d'⟩ := h.ok a
    exact ⟨a', b.trans b', by omega, d⟩
theorem Bnd.adv {D : Int} {t : List UInt8} {s : RSt} {k : Nat} (g : Good D t s) (h : s.i + k ≤ t.length) : Bnd D t s (2 * k) (s.adv k) :=
  ⟨Nat.le_add_right _ _, h, by show 2 * k ≤ 2 * (s.i + k - s.i); omega, fun q => ⟨q, rfl, Int.le_refl _, g.nn q⟩, ⟨g.d.2, Int.le_refl _⟩, ⟨g.n.2, g.n.1⟩⟩
theorem Bnd.failed {D : Int} {t : List UInt8} {s r : RSt} {z : Nat} (h : Bnd D t s z r) : Bnd D t s z r.fail := ⟨h.lo, h.hi, h.sz, fun q => by simp [RSt.fail] at q, h.d, h.n⟩
theorem Bnd.or {D : Int} {t : List UInt8} {s r : RSt} {z : Nat} (h : Bnd D t s z r) (c : Bool) : Bnd D t s z (r.orB c) := ⟨h.lo, h.hi, h.sz, fun q => h.ok (by simp [RSt.orB] at q; exact q.1), h.d, h.n⟩
theorem Bnd.le {D D' : Int} {t : List UInt8} {s r : RSt} {y z : Nat} (h : Bnd D t s z r) (hy : y ≤ z) (hD : D ≤ D' := by omega) : Bnd D' t s y r := ⟨h.lo, h.hi, Nat.le_trans hy h.sz, h.ok, ⟨Int.le_trans h.d.1 hD, h.d.2⟩, h.n⟩
theorem Good.le {D D' : Int} {t : List UInt8} {s : RSt} (g : Good D t s) (hD : D ≤ D' := by omega) : Good D' t s := ⟨g.hi, ⟨g.d.1, Int.le_trans g.d.2 hD⟩, g.n, g.dd, g.nn⟩
theorem tkI_len {D : Int} {t x : List UInt8} {s : RSt} (g : Good D t s) (h : tkI t x s = true) : s.i + x.length ≤ t.length := by
  simp only [tkI, Bool.and_eq_true] at h
  exact hasP_len h.2 g.hi
theorem tkI_len1 {D : Int} {t : List UInt8} {c : UInt8} {s : RSt} (g : Good D t s) (h : tkI t [c] s = true) : s.i + 1 ≤ t.length := tkI_len g h
theorem wantI_b {D : Int} {t x : List UInt8} {s : RSt} (g : Good D t s) : Bnd D t s 0 (wantI t x s) := by
  unfold wantI; split
  · exact (Bnd.adv g (tkI_len g (by assumption))).le (Nat.zero_le _) (Int.le_refl _)
  · exact (Bnd.self g).failed
theorem wantI_ok {t x : List UInt8} {s : RSt} (h : (wantI t x s).b = false) : tkI t x s = true ∧ wantI t x s = s.adv x.length := by
  unfold wantI at h ⊢; split at h <;> rename_i q
  · rw [if_pos q]; exact ⟨q, rfl⟩
  · simp [RSt.fail] at h
theorem numIs_b {D : Int} {t : List UInt8} {s : RSt} (g : Good D t s) : Bnd D t s 0 (numIs t s) := ((Bnd.adv g (wordAt_len g.hi)).le (Nat.zero_le _) (Int.le_refl _)).or _
theorem opI_cases (t : List UInt8) (s : RSt) : (opI t s = 7 ∧ opIs t s = s) ∨ (∃ c, tkI t [c] s = true ∧ opIs t s = s.adv 1 ∧ opI t s ≠ 7) := by
  unfold opIs opI
  by_cases h1 : tkI t [43] s = true
  · right; exact ⟨43, h1, by simp [h1], by simp [h1]⟩
  · by_cases h2 : tkI t [45] s = true
    · right; exact ⟨45, h2, by simp [h1, h2], by simp [h1, h2]⟩
    · by_cases h3 : tkI t [42] s = true
      · right; exact ⟨42, h3, by simp [h1, h2, h3], by simp [h1, h2, h3]⟩
      · by_cases h4 : tkI t [47] s = true
        · right; exact ⟨47, h4, by simp [h1, h2, h3, h4], by simp [h1, h2, h3, h4]⟩
        · left; simp [h1, h2, h3, h4]
theorem opIs_b {D : Int} {t : List UInt8} {s : RSt} (g : Good D t s) : Bnd D t s 0 (opIs t s) := by
  rcases opI_cases t s with ⟨_, h⟩ | ⟨c, hc, h, _⟩
  · rw [h]; exact Bnd.self g
  · rw [h]; exact (Bnd.adv g (tkI_len1 g hc)).le (Nat.zero_le _) (Int.le_refl _)
/-- What is asked of the reader of a kid. -/
def ExB (t : List UInt8) (ex : RSt → DExpr × RSt) : Prop := ∀ s, Good 62 t s → Bnd (if s.b then 63 else 62) t s (ex s).1.s (ex s).2
theorem ExB.ok {t : List UInt8} {ex : RSt → DExpr × RSt} (h : ExB t ex) {s : RSt} (g : Good 62 t s) (hb : s.b = false) : Bnd 62 t s (ex s).1.s (ex s).2 := by
  have := h s g; rwa [if_neg (by rw [hb]; simp)] at this
theorem szs_snoc {α : Type} (f : α → Nat) (l : List α) (x : α) : szs f (l ++ [x]) = szs f l + 1 + f x := by
  simp only [szs_eq, List.length_append, List.map_append, List.sum_append, List.length_cons, List.length_nil, List.map_cons, List.map_nil, List.sum_cons, List.sum_nil]; omega
theorem lsI_b {t : List UInt8} {ex : RSt → DExpr × RSt} (hex : ExB t ex) : ∀ (n : Nat) (kids : List DExpr) (s : RSt), Good 62 t s → ∀ s0 : RSt, Bnd 62 t s0 0 s → (s.b = false → szs DExpr.s kids + 2 ≤ 2 * (s.i - s0.i)) →
    Bnd 62 t s0 (szs DExpr.s (lsI ex t n kids s).1) (lsI ex t n kids s).2
  | 0, kids, s, g, s0, h0, hk => by rw [lsI]; exact h0
  | n + 1, kids, s, g, s0, h0, hk => by
    rw [lsI]
    cases hb : s.b with
    | true => rw [if_pos rfl]; exact h0
    | false =>
      rw [if_neg (by simp)]
      have hx := hex.ok g hb
      have gx := hx.good g
      have hk := hk hb
      have l0 := h0.lo
      have l1 := hx.lo
      have z1 := hx.sz
      have h01 := h0.trans hx
      split
      · rename_i q
        have hl := tkI_len1 gx q
        have h2 := h01.trans (Bnd.adv gx hl)
        refine ⟨h2.lo, h2.hi, ?_, h2.ok, h2.d, h2.n⟩
        rw [szs_snoc]
        show _ ≤ 2 * ((ex s).2.i + 1 - s0.i)
        omega
      · have hw := wantI_b (x := [59, 32]) gx
        refine lsI_b hex n _ _ (hw.good gx) s0 ((h01.trans hw).le (Nat.zero_le _) (Int.le_refl _)) fun q => ?_
        rw [(wantI_ok q).2, szs_snoc]
        show _ ≤ 2 * ((ex s).2.i + 2 - s0.i)
        omega
theorem szs_nil {α : Type} (f : α → Nat) : szs f [] = 0 := rfl
theorem listI_b {t : List UInt8} {ex : RSt → DExpr × RSt} (hex : ExB t ex) {s : RSt} (g : Good 62 t s) : Bnd 62 t s (szs DExpr.s (listI ex t s).1) (listI ex t s).2 := by
  have hw := wantI_b (x := [40]) g
  have gw := hw.good g
  unfold listI
  split
  · rename_i q
    have hl := tkI_len1 gw q
    exact (hw.trans (Bnd.adv gw hl)).le (by rw [szs_nil]; exact Nat.zero_le _) (Int.le_refl _)
  · refine lsI_b hex _ _ _ gw s hw fun q => ?_
    rw [(wantI_ok q).2, szs_nil]
    show _ ≤ 2 * (s.i + 1 - s.i)
    omega
theorem mk_s (k n i c : Int) (l : List DExpr) : (DExpr.mk k n i c l).s = szs DExpr.s l := by rw [DExpr.s_eq]; rfl
theorem callI_b {p : DProgram} {t name : List UInt8} {ex : RSt → DExpr × RSt} (hex : ExB t ex) {s : RSt} (g : Good 62 t s) : Bnd 62 t s (callI ex p t name s).1.s (callI ex p t name s).2 := by
  have h1 := (Bnd.self g).or (decide (nameIx p name < 0))
  have g1 := h1.good g
  have h2 := h1.trans (numIs_b g1)
  have g2 := h2.good g
  unfold callI callI2
  split
  · rename_i q
    have hl := tkI_len1 g2 q
    have h3 := h2.trans (Bnd.adv g2 hl)
    have g3 := h3.good g
    have h4 := h3.trans (numIs_b g3)
    exact (h4.trans (listI_b hex (h4.good g))).le (by rw [mk_s]; omega) (Int.le_refl _)
  · exact (h2.trans (listI_b hex g2)).le (by rw [mk_s]; omega) (Int.le_refl _)
theorem binI_b {t : List UInt8} {ex : RSt → DExpr × RSt} (hex : ExB t ex) {s : RSt} (g : Good 62 t s) (hb : s.b = false) : Bnd 63 t s ((binI ex t s).1.s - 2) (binI ex t s).2 := by
  have h1 := hex.ok g hb
  have g1 := h1.good g
  have h2 := h1.trans (wantI_b (x := [32]) g1)
  have g2 := h2.good g
  have h3 := (h2.trans (opIs_b g2)).or (decide (opI t (wantI t [32] (ex s).2) = 7))
  have g3 := h3.good g
  have h4 := h3.trans (wantI_b (x := [32]) g3)
  have g4 := h4.good g
  have h5 := (hex _ g4).le (D' := 63) (Nat.le_refl _) (by split <;> omega)
  have h6 := h4.trans h5
  have g6 := h6.good g
  unfold binI binI1 binI2
  refine (h6.trans (wantI_b (x := [41]) g6)).le ?_ (Int.le_refl _)
  simp only [mk_s, szs_eq, List.length_cons, List.length_nil, List.map_cons, List.map_nil, List.sum_cons, List.sum_nil]
  omega
theorem zE_s : zE.s = 0 := by rw [zE, mk_s, szs_nil]
theorem wordI_b {t w : List UInt8} {ex : RSt → DExpr × RSt} (hex : ExB t ex) {s : RSt} (g : Good 62 t s) : Bnd 62 t s (wordI ex t w s).1.s (wordI ex t w s).2 := by
  unfold wordI
  split
  · exact ((Bnd.self g).or _).le (by rw [mk_s, szs_nil]; omega) (Int.le_refl _)
  · split
    · exact (listI_b hex g).le (by rw [mk_s]; omega) (Int.le_refl _)
    · split
      · exact (listI_b hex g).le (by rw [mk_s]; omega) (Int.le_refl _)
      · split
        · exact (listI_b hex g).le (by rw [mk_s]; omega) (Int.le_refl _)
        · split
          · exact ((Bnd.self g).or _).le (by rw [mk_s, szs_nil]; omega) (Int.le_refl _)
          · exact (Bnd.self g).failed.le (by rw [zE_s]; omega) (Int.le_refl _)
theorem innerI_b {p : DProgram} {t : List UInt8} {ex : RSt → DExpr × RSt} (hex : ExB t ex) {s : RSt} (g : Good 62 t s) (hb : s.b = false) : Bnd 63 t s (innerI ex p t s).1.s (innerI ex p t s).2 := by
  unfold innerI
  split
  · rename_i q
    have hl := tkI_len1 g q
    have h1 := Bnd.adv g hl
    exact (h1.trans (binI_b hex (h1.good g) hb)).le (by omega) (Int.le_refl _)
  · split
    · exact (Bnd.self g).failed.le (by rw [zE_s]; omega)
    · have h1 := Bnd.adv g (wordAt_len g.hi)
      have g1 := h1.good g
      split
      · rename_i q
        have h2 := h1.trans (Bnd.adv g1 (tkI_len1 g1 q))
        exact (h2.trans (callI_b hex (h2.good g))).le (by omega)
      · exact (h1.trans (wordI_b hex g1)).le (by omega)
theorem exI_early (p : DProgram) (t : List UInt8) {D : Int} {s : RSt} (g : Good 62 t s) (hD : s.d + 1 ≤ D) : Bnd D t s zE.s (deeper s 1).fail :=
  ⟨Nat.le_refl _, g.hi, by rw [zE_s]; omega, fun q => by simp [RSt.fail] at q, ⟨hD, by show s.d ≤ s.d + 1; omega⟩, ⟨g.n.2, g.n.1⟩⟩
theorem exI_b (p : DProgram) (t : List UInt8) : ∀ n, ExB t (exI p t n)
  | 0 => fun s g => by
    rw [exI]
    refine exI_early p t g ?_
    have := g.d
    split
    · omega
    · rename_i q; have := g.dd (by simpa using q); omega
  | n + 1 => fun s g => by
    rw [exI]
    have hd := g.d
    by_cases q : s.b = true ∨ 60 < s.d + 1
    · rw [if_pos q]
      refine exI_early p t g ?_
      split
      · omega
      · rename_i q; have := g.dd (by simpa using q); omega
    · rw [if_neg q]
      have hb : s.b = false := by simpa using fun e => q (.inl e)
      have hd1 : s.d + 1 ≤ 60 := by have : ¬ 60 < s.d + 1 := fun e => q (.inr e); omega
      rw [if_neg (by rw [hb]; simp)]
      have g1 : Good 62 t (deeper s 1) := ⟨g.hi, ⟨by show 0 ≤ s.d + 1; omega, by show s.d + 1 ≤ 62; omega⟩, g.n, fun _ => hd1, fun _ => g.nn hb⟩
      have h := innerI_b (p := p) (exI_b p t n) g1 hb
      refine ⟨h.lo, h.hi, h.sz, fun q => ?_, ?_, h.n⟩
      · obtain ⟨_, e2, e3, e4⟩ := h.ok q
        refine ⟨hb, ?_, e3, e4⟩
        show (innerI _ p t (deeper s 1)).2.d + -1 = s.d
        rw [e2]; show s.d + 1 + -1 = s.d; omega
      · have := h.d
        have h2 : s.d + 1 ≤ (innerI (exI p t n) p t (deeper s 1)).2.d := this.2
        show (innerI _ p t (deeper s 1)).2.d + -1 ≤ 62 ∧ s.d ≤ (innerI _ p t (deeper s 1)).2.d + -1
        exact ⟨by omega, by omega⟩
/-! bounds of the other reader -/
end Go.Hl

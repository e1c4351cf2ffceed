/-
  Contracts of functions and laws of the layer over the walk.
-/
import Derived.Test.YtpnelljgohjjdaaGreatHlD
import Derived.Test.YtpnelljgohjjdaaGreatProg
import Derived.KernelRfl
namespace Go.Hl
open Go.Proofs
set_option linter.unusedVariables false
set_option linter.unusedSimpArgs false
@[go_sem] theorem ty2 : iT Tryz.prog 2 = some ⟨1, false, 8, [.int .i64 0], .int .i64⟩ := by kernel_rfl
@[go_sem] theorem ty3 : iT Tryz.prog 3 = some ⟨1, false, 8, [.int .i64 0], .int .i64⟩ := by kernel_rfl
@[go_sem] theorem ty4 : iT Tryz.prog 4 = some ⟨1, false, 1, [.bool false], .bool⟩ := by kernel_rfl
@[go_sem] theorem ty5 : iT Tryz.prog 5 = some ⟨1, false, 1, [.int .u8 0], .int .u8⟩ := by kernel_rfl
@[go_sem] theorem ty9 : iT Tryz.prog 9 = some ⟨1, false, 16, [.str []], .str⟩ := by kernel_rfl
@[go_sem] theorem bVC : iT Tryz.prog 22 = some ⟨1, false, 24, [.bC], .slice 142⟩ := by kernel_rfl
@[go_sem] theorem bVD : iT Tryz.prog 24 = some ⟨1, true, 24, [.bC], .st [(0, 22, 1)]⟩ := by kernel_rfl
@[go_sem] theorem bVE : iT Tryz.prog 25 = some ⟨1, false, 24, [.bC], .slice 2⟩ := by kernel_rfl
@[go_sem] theorem bVF : iT Tryz.prog 26 = some ⟨1, false, 24, [.bC], .slice 25⟩ := by kernel_rfl
@[go_sem] theorem bVG : iT Tryz.prog 28 = some ⟨5, true, 88, [.bC, .int .i64 0, .int .i64 0, .bC, .bC], .st [(0, 24, 1), (1, 2, 1), (2, 2, 1), (3, 25, 1), (4, 26, 1)]⟩ := by kernel_rfl
@[go_sem] theorem bVH : iT Tryz.prog 29 = some ⟨1, false, 24, [.bC], .slice 4⟩ := by kernel_rfl
@[go_sem] theorem bVI : iT Tryz.prog 30 = some ⟨1, false, 24, [.bC], .slice 75⟩ := by kernel_rfl
@[go_sem] theorem bVJ : iT Tryz.prog 32 = some ⟨9, true, 184, [.bC, .int .i64 0, .int .i64 0, .bC, .bC, .bC, .bC, .bC, .bC], .st [(0, 28, 5), (5, 25, 1), (6, 29, 1), (7, 30, 1), (8, 25, 1)]⟩ := by kernel_rfl
@[go_sem] theorem bVK : iT Tryz.prog 34 = some ⟨1, false, 24, [.bC], .slice 116⟩ := by kernel_rfl
@[go_sem] theorem bVL : iT Tryz.prog 36 = some ⟨1, true, 24, [.bC], .st [(0, 34, 1)]⟩ := by kernel_rfl
@[go_sem] theorem bVM : iT Tryz.prog 38 = some ⟨5, true, 88, [.bC, .int .i64 0, .int .i64 0, .bC, .bC], .st [(0, 36, 1), (1, 2, 1), (2, 2, 1), (3, 25, 1), (4, 26, 1)]⟩ := by kernel_rfl
@[go_sem] theorem bVN : iT Tryz.prog 39 = some ⟨1, false, 24, [.bC], .slice 81⟩ := by kernel_rfl
@[go_sem] theorem bVO : iT Tryz.prog 41 = some ⟨9, true, 184, [.bC, .int .i64 0, .int .i64 0, .bC, .bC, .bC, .bC, .bC, .bC], .st [(0, 38, 5), (5, 25, 1), (6, 29, 1), (7, 39, 1), (8, 25, 1)]⟩ := by kernel_rfl
@[go_sem] theorem bVP : iT Tryz.prog 75 = some ⟨3, true, 40, [.int .i64 0, .int .i64 0, .bC], .st [(0, 2, 1), (1, 2, 1), (2, 25, 1)]⟩ := by kernel_rfl
@[go_sem] theorem bVQ : iT Tryz.prog 81 = some ⟨3, true, 40, [.int .i64 0, .int .i64 0, .bC], .st [(0, 2, 1), (1, 2, 1), (2, 25, 1)]⟩ := by kernel_rfl
@[go_sem] theorem bVR : iT Tryz.prog 96 = some ⟨1, false, 24, [.bC], .slice 106⟩ := by kernel_rfl
@[go_sem] theorem bVS : iT Tryz.prog 97 = some ⟨1, false, 24, [.bC], .slice 104⟩ := by kernel_rfl
@[go_sem] theorem bVT : iT Tryz.prog 99 = some ⟨4, true, 80, [.int .i64 0, .bC, .bC, .bC], .st [(0, 2, 1), (1, 96, 1), (2, 97, 1), (3, 25, 1)]⟩ := by kernel_rfl
@[go_sem] theorem bTW : iT Tryz.prog 104 = some ⟨2, true, 16, [.int .i64 0, .bool false], .st [(0, 2, 1), (1, 4, 1)]⟩ := by kernel_rfl
@[go_sem] theorem bTX : iT Tryz.prog 106 = some ⟨4, true, 32, [.int .i64 0, .int .i64 0, .int .i64 0, .int .i64 0], .st [(0, 2, 1), (1, 2, 1), (2, 2, 1), (3, 2, 1)]⟩ := by kernel_rfl
@[go_sem] theorem bTY : iT Tryz.prog 113 = some ⟨1, false, 8, [.nN], .ptr 36⟩ := by kernel_rfl
@[go_sem] theorem bTZ : iT Tryz.prog 114 = some ⟨1, false, 24, [.bC], .slice 145⟩ := by kernel_rfl
@[go_sem] theorem bT0 : iT Tryz.prog 116 = some ⟨3, true, 48, [.str [], .int .i64 0, .bC], .st [(0, 9, 1), (1, 2, 1), (2, 114, 1)]⟩ := by kernel_rfl
@[go_sem] theorem bT1 : iT Tryz.prog 132 = some ⟨8, true, 144, [.bC, .int .i64 0, .bC, .bC, .bC, .bC, .int .i64 0, .int .i64 0], .st [(0, 36, 1), (1, 99, 4), (5, 25, 1), (6, 2, 1), (7, 2, 1)]⟩ := by kernel_rfl
@[go_sem] theorem bT2 : iT Tryz.prog 140 = some ⟨1, false, 24, [.bC], .slice 182⟩ := by kernel_rfl
@[go_sem] theorem bT3 : iT Tryz.prog 142 = some ⟨3, true, 48, [.str [], .int .i64 0, .bC], .st [(0, 9, 1), (1, 2, 1), (2, 140, 1)]⟩ := by kernel_rfl
@[go_sem] theorem bT4 : iT Tryz.prog 145 = some ⟨5, true, 56, [.int .i64 0, .int .i64 0, .int .i64 0, .int .i64 0, .bC], .st [(0, 2, 1), (1, 2, 1), (2, 2, 1), (3, 2, 1), (4, 114, 1)]⟩ := by kernel_rfl
@[go_sem] theorem bT5 : iT Tryz.prog 150 = some ⟨4, true, 32, [.nN, .int .i64 0, .int .i64 0, .int .i64 0], .st [(0, 113, 1), (1, 3, 1), (2, 2, 1), (3, 2, 1)]⟩ := by kernel_rfl
@[go_sem] theorem bT6 : iT Tryz.prog 155 = some ⟨6, true, 112, [.nN, .int .i64 0, .bC, .bC, .bC, .bC], .st [(0, 113, 1), (1, 99, 4), (5, 25, 1)]⟩ := by kernel_rfl
@[go_sem] theorem bT7 : iT Tryz.prog 179 = some ⟨1, false, 24, [.bC], .slice 5⟩ := by kernel_rfl
@[go_sem] theorem bT8 : iT Tryz.prog 182 = some ⟨5, true, 56, [.int .i64 0, .int .i64 0, .int .i64 0, .int .i64 0, .bC], .st [(0, 2, 1), (1, 2, 1), (2, 2, 1), (3, 2, 1), (4, 140, 1)]⟩ := by kernel_rfl
@[go_sem] theorem bT9 : iT Tryz.prog 192 = some ⟨2, true, 32, [.bC, .int .i64 0], .st [(0, 36, 1), (1, 2, 1)]⟩ := by kernel_rfl
theorem mix : Tryz.prog.follows .mixedOrders = true := by kernel_rfl
open Go.Proofs
set_option linter.unusedVariables false
set_option linter.unusedSimpArgs false
abbrev I (n : Int) : aD := .int .i64 n
abbrev ints (l : List Int) : aD := .sl 1 (l.map fun n => [I n]) false
abbrev c5 {α : Type} (sz : Nat) (c : α → List aD) (l : List α) : aD := .sl sz (l.map c) false
def InI (n : Int) : Prop := -9223372036854775808 ≤ n ∧ n ≤ 9223372036854775807
def wL (left : Int) (n : Nat) : Int := if left - n < 0 then -1 else left - n
theorem o9 (left : Int) (n : Nat) : (wL left n = -1 ∧ left - n < 0) ∨ (wL left n = left - n ∧ 0 ≤ left - n) := by
 unfold wL; split
 ·exact .inl ⟨rfl, by assumption⟩
 ·exact .inr ⟨rfl, by omega⟩
theorem jI {left : Int} {n : Nat} (h : left - n < 0) : wL left n = -1 := if_pos h
theorem pY {left : Int} {n : Nat} (h : 0 ≤ left - n) : wL left n = left - n := if_neg (by omega)
theorem pQ {left L : Int} {n : Nat} (h : wL left n = L) : (L < 0 → left - n < 0) ∧ (¬ L < 0 → L = left - n) := by
 subst h; unfold wL; split <;> constructor <;> intros <;> omega
theorem gI {α : Type} (s : α → Nat) (l : List α) (k : Nat) (h : k < l.length) : ((l.take (k + 1)).map s).sum = ((l.take k).map s).sum + s l[k] := by
 rw [List.take_succ_eq_append_getElem h, List.map_append, List.sum_append]; simp only [List.map_cons, List.map_nil, List.sum_cons, List.sum_nil, Nat.add_zero]
theorem mM {α : Type} (s : α → Nat) : ∀ (l : List α) (k : Nat), ((l.take k).map s).sum ≤ (l.map s).sum
 | [], k => by simp
 |a :: l, 0 => by simp
 |a :: l, k + 1 => by have := mM s l k; simp only [List.take_succ_cons, List.map_cons, List.sum_cons]; omega
theorem gG {α : Type} (s : α → Nat) {l : List α} {x : α} (h : x ∈ l) : s x ≤ (l.map s).sum := by
 induction l with
 |nil => simp at h
 |cons a l ih =>
  simp only [List.map_cons, List.sum_cons]
  rcases List.mem_cons.1 h with rfl | h
  ·omega
  ·have := ih h; omega
def lV {α : Type} (f : α → List aD) (z : List aD) (a : List α) (k : Nat) : List (List Cell) := ((a.take k).map f ++ List.replicate (a.length - k) z).map (List.map .v)
theorem mN {α : Type} (f : α → List aD) (z : List aD) (a : List α) : lV f z a 0 = List.map (List.map .v) (List.replicate a.length z) := by simp [lV]
theorem oC {α : Type} (f : α → List aD) (z : List aD) (a : List α) : lV f z a a.length = (a.map f).map (List.map .v) := by simp [lV]
theorem jU {α : Type} (f : α → List aD) (z : List aD) (a : List α) (k : Nat) (h : k < a.length) : (lV f z a k)[k]? = some (z.map .v) := by
 have : ((a.take k).map f).length = k := by simp; omega
 simp only [lV, List.getElem?_map]
 rw [List.getElem?_append_right (by omega), this]
 have h0 : 0 < a.length - k := by omega
 simp [h0]
theorem aS4 {α : Type} (f : α → List aD) (z : List aD) (a : List α) (k : Nat) (h : k < a.length) (e : List Cell) (he : e = (f a[k]).map .v) : (lV f z a k).set k e = lV f z a (k + 1) := by
 subst he
 have h1 : ((a.take k).map f).length = k := by simp; omega
 simp only [lV]
 rw [← List.map_set, List.set_append_right _ _ (by omega), h1, Nat.sub_self, List.take_succ_eq_append_getElem h, show a.length - k = (a.length - (k + 1)) + 1 by omega, List.replicate_succ, List.set_cons_zero]
 simp only [List.map_append, List.map_cons, List.map_nil, List.append_assoc, List.cons_append, List.nil_append]
theorem vT {α : Type} {f : α → List aD} {z : List aD} {a : List α} {k : Nat} {h : aB} {n sz : Nat} {e : List Cell} (hk : k < a.length) (he : e = (f a[k]).map .v) :
  (bK h n (.row sz (lV f z a (k + 1)))).le (bK (bK h n (.row sz (lV f z a k))) n (.row sz ((lV f z a k).set k e))) := by
 rw [aS4 f z a k hk e he, aF]
 exact aB.le_refl _
theorem a7 (h : aB) (n m : Nat) (o : bM) : bK h n o m = if m = n then some o else h m := rfl
theorem getElem_of_eq {α : Type} {a b : List α} (e : a = b) {k : Nat} (ha : k < a.length) {hb : k < b.length} : a[k] = b[k] := by subst e; rfl
theorem sS {α : Type} {a b : List α} {k : Nat} (ha : k < a.length) (hb : k < b.length) (hp : a.take k = b.take k) (he : a[k] = b[k]) : a.take (k + 1) = b.take (k + 1) := by
 rw [List.take_succ_eq_append_getElem ha, List.take_succ_eq_append_getElem hb, hp, he]
theorem p8 {α : Type} {a b : List α} (hl : a.length = b.length) (h : a.take a.length = b.take a.length) : a = b := by
 rw [List.take_length, hl, List.take_length] at h; exact h
theorem rC (l : List (List aD)) : gF (l.map (List.map .v)) = l := by
 induction l with
 |nil => rfl
 |cons e l ih =>
  have : aFM (e.map Cell.v) = e := by
   induction e with
   |nil => rfl
   |cons x e ih => simp only [List.map_cons, aFM, Cell.val, ih]
  simp only [gF, List.map_cons] at ih ⊢
  rw [ih, this]
theorem lW {h h' : aB} {n sz : Nat} (es : List (List aD)) (h0 : h n = none) (hl : (bK h n (.row sz (es.map (List.map .v)))).le h') (len : Nat) (e : len = es.length) : Shift (.os n sz 0 len) h' (.sl sz es false) h := by
 subst e
 refine (Shift.of (Sub.refl _) hl).trans ((Shift.fZ (aU _ _ _) (by simp [iK])).trans ?_)
 have : aD.fZ n (gF (es.map (List.map .v))) (.os n sz 0 es.length) = .sl sz es false := by simp [aD.fZ, rC]
 rw [this]
 exact eA ((bD h0).2 ((bD h0).2 (aB.le_refl h)))
theorem bS {α β : Type} {f : α → β} {l : List α} {k : Nat} (h : k < l.length) : (l.map f)[k]? = some (f l[k]) := by
 rw [List.getElem?_map, List.getElem?_eq_getElem h]; rfl
theorem kG {α : Type} {P : α → Prop} {l : List α} {k : Nat} (h : k < l.length) (hp : ∀ x ∈ l.take k, P x) (he : P l[k]) : ∀ x ∈ l.take (k + 1), P x := by
 rw [List.take_succ_eq_append_getElem h]
 intro x hx
 rcases List.mem_append.1 hx with hx | hx
 ·exact hp x hx
 ·rw [List.mem_singleton.1 hx]; exact he
def idxOf {α : Type} (p : α → Bool) (l : List α) : Int := match l.findIdx? p with | some i => i | none => -1
theorem sT {α : Type} {p : α → Bool} {l : List α} (h : ∀ x ∈ l, p x = false) : idxOf p l = -1 := by
 have : l.findIdx? p = none := List.findIdx?_eq_none_iff.2 h
 simp only [idxOf, this]
theorem sU {α : Type} {p : α → Bool} {l : List α} {k : Nat} (hk : k < l.length) (h : ∀ x ∈ l.take k, p x = false) (he : p l[k] = true) : idxOf p l = k := by
 have : l.findIdx? p = some k := by
  rw [List.findIdx?_eq_some_iff_getElem]
  refine ⟨hk, he, fun j hj => ?_⟩
  have := h l[j] (List.mem_take_iff_getElem.2 ⟨j, by omega, rfl⟩)
  simp [this]
 simp only [idxOf, this]
theorem pA {α : Type} {p : α → Bool} {l : List α} : decide (0 ≤ idxOf p l) = l.any p := by
 unfold idxOf
 cases h : l.findIdx? p with
 |none =>
  have := List.findIdx?_eq_none_iff.1 h
  simp only
  rw [Bool.eq_false_iff.2 (show l.any p ≠ true from ?_)]
  ·simp
  ·intro hx
   obtain ⟨x, hx, hp⟩ := List.any_eq_true.1 hx
   rw [this x hx] at hp; cases hp
 |some i =>
  obtain ⟨hi, hp, _⟩ := List.findIdx?_eq_some_iff_getElem.1 h
  have : l.any p = true := List.any_eq_true.2 ⟨_, List.getElem_mem hi, hp⟩
  rw [this]; simp
def nZ (n : Int) : Prop := 0 ≤ n ∧ n ≤ 1000002
instance (n : Int) : Decidable (nZ n) := inferInstanceAs (Decidable (0 ≤ n ∧ n ≤ 1000002))
def pB (l : List Int) : Prop := ∀ x ∈ l, nZ x
instance (l : List Int) : Decidable (pB l) := inferInstanceAs (Decidable (∀ x ∈ l, nZ x))
theorem aWA {α : Type} {P : α → Prop} [DecidablePred P] {l : List α} [Decidable (∀ x ∈ l, P x)] : (!l.any fun x => !decide (P x)) = decide (∀ x ∈ l, P x) := by
 rw [Bool.eq_iff_iff]
 simp [List.any_eq_false]
inductive aA where
 |mk (a6 : Int) (bQ : Int) (c9 : Int) (cU : Int) (aM : (List aA))
def aA.a6 : aA → Int
 | .mk a6 bQ c9 cU aM => a6
def aA.bQ : aA → Int
 | .mk a6 bQ c9 cU aM => bQ
def aA.c9 : aA → Int
 | .mk a6 bQ c9 cU aM => c9
def aA.cU : aA → Int
 | .mk a6 bQ c9 cU aM => cU
def aA.aM : aA → (List aA)
 | .mk a6 bQ c9 cU aM => aM
mutual
def aA.c : aA → List aD
 | .mk a6 bQ c9 cU aM => [(.int .i64 a6), (.int .i64 bQ), (.int .i64 c9), (.int .i64 cU), .sl 5 (aA.cL aM) false]
def aA.cL : List aA → List (List aD)
 | [] => []
 |x :: l => x.c :: aA.cL l
end
mutual
def aA.s : aA → Nat
 | .mk a6 bQ c9 cU aM => (aM.length + aA.sL aM)
def aA.sL : List aA → Nat
 | [] => 0
 |x :: l => x.s + aA.sL l
end
theorem aA.a0C : ∀ l, aA.cL l = l.map aA.c
 | [] => rfl
 |x :: l => by simp only [aA.cL, List.map_cons, aA.a0C l]
theorem aA.a0D : ∀ l, aA.sL l = (l.map aA.s).sum
 | [] => rfl
 |x :: l => by simp only [aA.sL, List.map_cons, List.sum_cons, aA.a0D l]
theorem aA.aN (x : aA) : x.c = [(.int .i64 x.a6), (.int .i64 x.bQ), (.int .i64 x.c9), (.int .i64 x.cU), (c5 5 aA.c x.aM)] := by cases x; simp only [aA.c, aA.a0C, c5]; rfl
theorem aA.fR (x : aA) : x.s = (uX aA.s x.aM) := by cases x; simp only [aA.s, aA.a0D, uX]; rfl
theorem aA.rO {x y : aA} (h : y ∈ x.aM) : SizeOf.sizeOf y < SizeOf.sizeOf x := by
 cases x
 have := List.sizeOf_lt_of_mem h
 simp only [aA.aM] at this
 simp only [aA.mk.sizeOf_spec]; omega
@[simp] theorem aA.aI7 (x : aA) : x.c.length = 5 := by rw [aA.aN]; rfl
inductive aA.wf : aA → Prop
 |mk (x : aA) (h0 : InI x.a6) (h1 : InI x.bQ) (h2 : InI x.c9) (h3 : InI x.cU) (hk : ∀ y ∈ x.aM, y.wf) : x.wf
theorem aA.eq_iff {a b : aA} : a = b ↔ a.a6 = b.a6 ∧ a.bQ = b.bQ ∧ a.c9 = b.c9 ∧ a.cU = b.cU ∧ a.aM = b.aM := by cases a; cases b; simp [aA.a6, aA.bQ, aA.c9, aA.cU, aA.aM]
noncomputable instance : DecidableEq aA := fun a b => Classical.propDecidable (a = b)
structure aV where
 eC : (List UInt8)
 bE : Int
 aZ : (List aA)
def aV.c (x : aV) : List aD := [(.str x.eC), (.int .i64 x.bE), (c5 5 aA.c x.aZ)]
def aV.s (x : aV) : Nat := x.eC.length + (uX aA.s x.aZ)
theorem aV.aN (x : aV) : x.c = [(.str x.eC), (.int .i64 x.bE), (c5 5 aA.c x.aZ)] := rfl
theorem aV.fR (x : aV) : x.s = x.eC.length + (uX aA.s x.aZ) := rfl
@[simp] theorem aV.aI7 (x : aV) : x.c.length = 3 := by rw [aV.aN]; rfl
def aV.wf (x : aV) : Prop := InI x.bE ∧ (∀ y ∈ x.aZ, y.wf)
theorem aV.eq_iff {a b : aV} : a = b ↔ a.eC = b.eC ∧ a.bE = b.bE ∧ a.aZ = b.aZ := by cases a; cases b; simp
noncomputable instance : DecidableEq aV := fun a b => Classical.propDecidable (a = b)
structure aI where
 aH : (List aV)
def aI.c (x : aI) : List aD := [(c5 3 aV.c x.aH)]
def aI.s (x : aI) : Nat := (uX aV.s x.aH)
theorem aI.aN (x : aI) : x.c = [(c5 3 aV.c x.aH)] := rfl
theorem aI.fR (x : aI) : x.s = (uX aV.s x.aH) := rfl
@[simp] theorem aI.aI7 (x : aI) : x.c.length = 1 := by rw [aI.aN]; rfl
def aI.wf (x : aI) : Prop := (∀ y ∈ x.aH, y.wf)
theorem aI.eq_iff {a b : aI} : a = b ↔ a.aH = b.aH := by cases a; cases b; simp
noncomputable instance : DecidableEq aI := fun a b => Classical.propDecidable (a = b)
structure e7 where
 bN : aI
 b8 : Int
 aX : Int
 cX : (List Int)
 bO : (List (List Int))
def e7.c (x : e7) : List aD := [(c5 3 aV.c x.bN.aH), (.int .i64 x.b8), (.int .i64 x.aX), (c5 1 (fun n => [I n]) x.cX), (c5 1 (fun x => [c5 1 (fun n => [I n]) x]) x.bO)]
def e7.s (x : e7) : Nat := (aI.s x.bN) + x.cX.length + (uX (fun x : List Int => x.length) x.bO)
theorem e7.aN (x : e7) : x.c = [(c5 3 aV.c x.bN.aH), (.int .i64 x.b8), (.int .i64 x.aX), (c5 1 (fun n => [I n]) x.cX), (c5 1 (fun x => [c5 1 (fun n => [I n]) x]) x.bO)] := rfl
theorem e7.fR (x : e7) : x.s = (aI.s x.bN) + x.cX.length + (uX (fun x : List Int => x.length) x.bO) := rfl
@[simp] theorem e7.aI7 (x : e7) : x.c.length = 5 := by rw [e7.aN]; rfl
def e7.wf (x : e7) : Prop := x.bN.wf ∧ InI x.b8 ∧ InI x.aX ∧ (∀ y ∈ x.cX, InI y) ∧ (∀ y ∈ x.bO, (∀ y' ∈ y, InI y'))
theorem e7.eq_iff {a b : e7} : a = b ↔ a.bN = b.bN ∧ a.b8 = b.b8 ∧ a.aX = b.aX ∧ a.cX = b.cX ∧ a.bO = b.bO := by cases a; cases b; simp
noncomputable instance : DecidableEq e7 := fun a b => Classical.propDecidable (a = b)
structure bI where
 cM : Int
 gB : Int
 iJ : (List Int)
def bI.c (x : bI) : List aD := [(.int .i64 x.cM), (.int .i64 x.gB), (c5 1 (fun n => [I n]) x.iJ)]
def bI.s (x : bI) : Nat := x.iJ.length
theorem bI.aN (x : bI) : x.c = [(.int .i64 x.cM), (.int .i64 x.gB), (c5 1 (fun n => [I n]) x.iJ)] := rfl
theorem bI.fR (x : bI) : x.s = x.iJ.length := rfl
@[simp] theorem bI.aI7 (x : bI) : x.c.length = 3 := by rw [bI.aN]; rfl
def bI.wf (x : bI) : Prop := InI x.cM ∧ InI x.gB ∧ (∀ y ∈ x.iJ, InI y)
theorem bI.eq_iff {a b : bI} : a = b ↔ a.cM = b.cM ∧ a.gB = b.gB ∧ a.iJ = b.iJ := by cases a; cases b; simp
noncomputable instance : DecidableEq bI := fun a b => Classical.propDecidable (a = b)
structure aR where
 bF : e7
 aY : (List Int)
 cB : (List Bool)
 b7 : (List bI)
 b9 : (List Int)
def aR.c (x : aR) : List aD := [(c5 3 aV.c x.bF.bN.aH), (.int .i64 x.bF.b8), (.int .i64 x.bF.aX), (c5 1 (fun n => [I n]) x.bF.cX), (c5 1 (fun x => [c5 1 (fun n => [I n]) x]) x.bF.bO), (c5 1 (fun n => [I n]) x.aY), (c5 1 (fun b => [.bool b]) x.cB), (c5 3 bI.c x.b7), (c5 1 (fun n => [I n]) x.b9)]
def aR.s (x : aR) : Nat := (e7.s x.bF) + x.aY.length + x.cB.length + (uX bI.s x.b7) + x.b9.length
theorem aR.aN (x : aR) : x.c = [(c5 3 aV.c x.bF.bN.aH), (.int .i64 x.bF.b8), (.int .i64 x.bF.aX), (c5 1 (fun n => [I n]) x.bF.cX), (c5 1 (fun x => [c5 1 (fun n => [I n]) x]) x.bF.bO), (c5 1 (fun n => [I n]) x.aY), (c5 1 (fun b => [.bool b]) x.cB), (c5 3 bI.c x.b7), (c5 1 (fun n => [I n]) x.b9)] := rfl
theorem aR.fR (x : aR) : x.s = (e7.s x.bF) + x.aY.length + x.cB.length + (uX bI.s x.b7) + x.b9.length := rfl
@[simp] theorem aR.aI7 (x : aR) : x.c.length = 9 := by rw [aR.aN]; rfl
def aR.wf (x : aR) : Prop := x.bF.wf ∧ (∀ y ∈ x.aY, InI y) ∧ (∀ y ∈ x.b7, y.wf) ∧ (∀ y ∈ x.b9, InI y)
theorem aR.eq_iff {a b : aR} : a = b ↔ a.bF = b.bF ∧ a.aY = b.aY ∧ a.cB = b.cB ∧ a.b7 = b.b7 ∧ a.b9 = b.b9 := by cases a; cases b; simp
noncomputable instance : DecidableEq aR := fun a b => Classical.propDecidable (a = b)
set_option maxRecDepth 100000
open Go.Proofs
set_option linter.unusedVariables false
set_option linter.unusedSimpArgs false
@[go_sem] def aD5 : List Nat := [0, 2, 3, 4, 11]
@[go_sem] def aQ5 : List Nat := []
@[go_sem] def aQ6 : Marks := fun _ => ([], .nil, [])
theorem aQ7 (l : List aA) (h1 : l.length ≤ 1048576) (hc : ∀ x ∈ l, e8 Tryz.prog 146 [(.agg (aA.c x))] (.agg (aA.c x))) : e8 Tryz.prog 120 [(c5 5 aA.c l)] (c5 5 aA.c l) := by
 refine tB 23 aD5 aQ5 aQ6 mix Tryz.func120 rfl (by kernel_rfl) (by simp) fun h => ?_
 simp -dsimp -implicitDefEqProofs only [go_sem, Tryz.f120, ↓reduceIte, aD5, aQ5, aQ6]
 refine fun _ => ⟨by omega, by omega, by omega, by omega, fun n hn => ?_⟩
 refine cS (keep := aD5) (ib := aQ5) (mk := aQ6) mix (by kernel_rfl) (fun k : Nat => [(0, (c5 5 aA.c l)), (3, .os n 5 0 l.length), (4, I k)]) (fun k => bK h n (.row 5 (lV aA.c [.int .i64 0, .int .i64 0, .int .i64 0, .int .i64 0, .bC] l k))) (fun k => k ≤ l.length) (fun k => l.length - k) 0 (by simp [dA, cH, aB.le_refl, mN]) ?_
 intro k hk
 rcases Nat.lt_or_ge k l.length with hlt | hge
 ·have ea : l[k]? = some l[k] := List.getElem?_eq_getElem hlt
  simp -dsimp -implicitDefEqProofs only [go_sem, ↓reduceIte, Tryz.f120, ea, jU _ _ _ _ hlt, aA.aN]
  refine fun _ => ⟨fun _ => ⟨hlt, ?_⟩, fun hn => absurd hlt hn⟩
  have hx := hc l[k] (List.getElem_mem hlt)
  simp only [aA.aN] at hx
  refine aJ.mk hx ?_
  simp -dsimp -implicitDefEqProofs only [go_sem, ↓reduceIte, Tryz.f120, jU _ _ _ _ hlt]
  refine ⟨hlt, k + 1, by rw [IntWalk.i64_in _ (by omega)]; rfl, ?_, by omega, by omega⟩
  exact vT hlt (by first | rfl | (simp only [List.map_cons, List.map_nil, aA.aN]))
 ·have hk' : k = l.length := by omega
  subst hk'
  simp -dsimp -implicitDefEqProofs only [go_sem, ↓reduceIte, Tryz.f120, Nat.lt_irrefl]
  rw [oC]
  exact fun _ => lW _ hn (aB.le_refl _) _ (by simp)
@[go_sem] def aNL : List Nat := [0, 1, 2, 3]
@[go_sem] def a0E : List Nat := [1]
@[go_sem] def a0F : Marks := fun _ => ([], .nil, [])
theorem aNM (x : aA) (hs : x.s ≤ 1048576) (hk : e8 Tryz.prog 120 [(c5 5 aA.c x.aM)] (c5 5 aA.c x.aM)) : e8 Tryz.prog 146 [.agg x.c] (.agg x.c) := by
 rw [aA.fR] at hs
 simp only [aA.aN]
 refine tB 21 aNL a0E a0F mix Tryz.func146 rfl (by kernel_rfl) (by simp) fun h => ?_
 simp -dsimp -implicitDefEqProofs only [go_sem, Tryz.f146, ↓reduceIte, aNL, a0E, a0F]
 intro n2 h2 n3 h3
 have e1 : (n2 = n3) = False := eq_false fun e => h3.1 e.symm
 have e2 : (n3 = n2) = False := eq_false h3.1
 have hzfKids : (x.aM).length + ((x.aM).map aA.s).sum = (uX aA.s x.aM) := rfl
 refine aJ.mk hk ?_
 simp -dsimp -implicitDefEqProofs only [go_sem, ↓reduceIte, Tryz.f146, aF, a7, e1, e2]
 exact eA (by simp -dsimp -implicitDefEqProofs only [go_sem, h2, h3, e1, e2, a7])
theorem aWB (x : aA) (hs : x.s ≤ 1048576) : e8 Tryz.prog 146 [.agg x.c] (.agg x.c) :=
 aNM x hs (aQ7 x.aM (by rw [aA.fR] at hs; rw [eN] at hs; omega) fun y hy => aWB y (by rw [aA.fR] at hs; have := gG aA.s hy; rw [eN] at hs; omega))
termination_by SizeOf.sizeOf x
decreasing_by exact aA.rO hy
@[go_sem] def aNN : List Nat := [0, 1, 2, 3]
@[go_sem] def a0G : List Nat := [1]
@[go_sem] def a0H : Marks := fun _ => ([], .nil, [])
theorem a5H (x : aV) (hs : x.s ≤ 1048576) : e8 Tryz.prog 104 [.agg x.c] (.agg x.c) := by
 rw [aV.fR] at hs
 simp only [aV.aN]
 refine tB 15 aNN a0G a0H mix Tryz.func104 rfl (by kernel_rfl) (by simp) fun h => ?_
 simp -dsimp -implicitDefEqProofs only [go_sem, Tryz.f104, ↓reduceIte, aNN, a0G, a0H]
 intro n2 h2 n3 h3
 have e1 : (n2 = n3) = False := eq_false fun e => h3.1 e.symm
 have e2 : (n3 = n2) = False := eq_false h3.1
 have hzfOuts : (x.aZ).length + ((x.aZ).map aA.s).sum = (uX aA.s x.aZ) := rfl
 refine aJ.mk (aQ7 x.aZ (by omega) (fun y hy => aWB y (by have hq : (aA.s y) ≤ ((x.aZ).map aA.s).sum := gG aA.s hy; omega))) ?_
 simp -dsimp -implicitDefEqProofs only [go_sem, ↓reduceIte, Tryz.f104, aF, a7, e1, e2]
 exact eA (by simp -dsimp -implicitDefEqProofs only [go_sem, h2, h3, e1, e2, a7])
@[go_sem] def aI8 : List Nat := [0, 2, 3, 4, 11]
@[go_sem] def a0I : List Nat := []
@[go_sem] def a0J : Marks := fun _ => ([], .nil, [])
theorem a0K (l : List aV) (h1 : l.length ≤ 1048576) (hc : ∀ x ∈ l, e8 Tryz.prog 104 [(.agg (aV.c x))] (.agg (aV.c x))) : e8 Tryz.prog 84 [(c5 3 aV.c l)] (c5 3 aV.c l) := by
 refine tB 23 aI8 a0I a0J mix Tryz.func84 rfl (by kernel_rfl) (by simp) fun h => ?_
 simp -dsimp -implicitDefEqProofs only [go_sem, Tryz.f84, ↓reduceIte, aI8, a0I, a0J]
 refine fun _ => ⟨by omega, by omega, by omega, by omega, fun n hn => ?_⟩
 refine cS (keep := aI8) (ib := a0I) (mk := a0J) mix (by kernel_rfl) (fun k : Nat => [(0, (c5 3 aV.c l)), (3, .os n 3 0 l.length), (4, I k)]) (fun k => bK h n (.row 3 (lV aV.c [.str [], .int .i64 0, .bC] l k))) (fun k => k ≤ l.length) (fun k => l.length - k) 0 (by simp [dA, cH, aB.le_refl, mN]) ?_
 intro k hk
 rcases Nat.lt_or_ge k l.length with hlt | hge
 ·have ea : l[k]? = some l[k] := List.getElem?_eq_getElem hlt
  simp -dsimp -implicitDefEqProofs only [go_sem, ↓reduceIte, Tryz.f84, ea, jU _ _ _ _ hlt, aV.aN]
  refine fun _ => ⟨fun _ => ⟨hlt, ?_⟩, fun hn => absurd hlt hn⟩
  have hx := hc l[k] (List.getElem_mem hlt)
  simp only [aV.aN] at hx
  refine aJ.mk hx ?_
  simp -dsimp -implicitDefEqProofs only [go_sem, ↓reduceIte, Tryz.f84, jU _ _ _ _ hlt]
  refine ⟨hlt, k + 1, by rw [IntWalk.i64_in _ (by omega)]; rfl, ?_, by omega, by omega⟩
  exact vT hlt (by first | rfl | (simp only [List.map_cons, List.map_nil, aV.aN]))
 ·have hk' : k = l.length := by omega
  subst hk'
  simp -dsimp -implicitDefEqProofs only [go_sem, ↓reduceIte, Tryz.f84, Nat.lt_irrefl]
  rw [oC]
  exact fun _ => lW _ hn (aB.le_refl _) _ (by simp)
@[go_sem] def aS5 : List Nat := [0, 1, 2, 3]
@[go_sem] def bCA : List Nat := [1]
@[go_sem] def bCB : Marks := fun _ => ([], .nil, [])
theorem aS6 (x : aI) (hs : x.s ≤ 1048576) : e8 Tryz.prog 52 [.agg x.c] (.agg x.c) := by
 rw [aI.fR] at hs
 simp only [aI.aN]
 refine tB 9 aS5 bCA bCB mix Tryz.func52 rfl (by kernel_rfl) (by simp) fun h => ?_
 simp -dsimp -implicitDefEqProofs only [go_sem, Tryz.f52, ↓reduceIte, aS5, bCA, bCB]
 intro n2 h2 n3 h3
 have e1 : (n2 = n3) = False := eq_false fun e => h3.1 e.symm
 have e2 : (n3 = n2) = False := eq_false h3.1
 have hzfFuncs : (x.aH).length + ((x.aH).map aV.s).sum = (uX aV.s x.aH) := rfl
 refine aJ.mk (a0K x.aH (by omega) (fun y hy => a5H y (by have hq : (aV.s y) ≤ ((x.aH).map aV.s).sum := gG aV.s hy; omega))) ?_
 simp -dsimp -implicitDefEqProofs only [go_sem, ↓reduceIte, Tryz.f52, aF, a7, e1, e2]
 exact eA (by simp -dsimp -implicitDefEqProofs only [go_sem, h2, h3, e1, e2, a7])
@[go_sem] def aQ8 : List Nat := [0, 2, 3, 4, 11]
@[go_sem] def ib7 : List Nat := []
@[go_sem] def mk7 : Marks := fun _ => ([], .nil, [])
theorem nJ (l : List Int) (h1 : l.length ≤ 1048576) : e8 Tryz.prog 7 [(c5 1 (fun n => [I n]) l)] (c5 1 (fun n => [I n]) l) := by
 refine tB 22 aQ8 ib7 mk7 mix Tryz.func7 rfl (by kernel_rfl) (by simp) fun h => ?_
 simp -dsimp -implicitDefEqProofs only [go_sem, Tryz.f7, ↓reduceIte, aQ8, ib7, mk7]
 refine fun _ => ⟨by omega, by omega, by omega, by omega, fun n hn => ?_⟩
 refine cS (keep := aQ8) (ib := ib7) (mk := mk7) mix (by kernel_rfl) (fun k : Nat => [(0, (c5 1 (fun n => [I n]) l)), (3, .os n 1 0 l.length), (4, I k)]) (fun k => bK h n (.row 1 (lV (fun n => [I n]) [.int .i64 0] l k))) (fun k => k ≤ l.length) (fun k => l.length - k) 0 (by simp [dA, cH, aB.le_refl, mN]) ?_
 intro k hk
 rcases Nat.lt_or_ge k l.length with hlt | hge
 ·have ea : l[k]? = some l[k] := List.getElem?_eq_getElem hlt
  simp -dsimp -implicitDefEqProofs only [go_sem, ↓reduceIte, Tryz.f7, ea, jU _ _ _ _ hlt]
  refine fun _ => ⟨fun _ => ⟨hlt, hlt, k + 1, by rw [IntWalk.i64_in _ (by omega)]; rfl, ?_, by omega, by omega⟩, fun hn => absurd hlt hn⟩
  exact vT hlt rfl
 ·have hk' : k = l.length := by omega
  subst hk'
  simp -dsimp -implicitDefEqProofs only [go_sem, ↓reduceIte, Tryz.f7, Nat.lt_irrefl]
  rw [oC]
  exact fun _ => lW _ hn (aB.le_refl _) _ (by simp)
@[go_sem] def aI9 : List Nat := [0, 2, 3, 4, 11]
@[go_sem] def a0L : List Nat := []
@[go_sem] def a0M : Marks := fun _ => ([], .nil, [])
theorem aS7 (l : List (List Int)) (h1 : l.length ≤ 1048576) (hc : ∀ x ∈ l, e8 Tryz.prog 7 [(c5 1 (fun n => [I n]) x)] (c5 1 (fun n => [I n]) x)) : e8 Tryz.prog 53 [(c5 1 (fun x => [c5 1 (fun n => [I n]) x]) l)] (c5 1 (fun x => [c5 1 (fun n => [I n]) x]) l) := by
 refine tB 23 aI9 a0L a0M mix Tryz.func53 rfl (by kernel_rfl) (by simp) fun h => ?_
 simp -dsimp -implicitDefEqProofs only [go_sem, Tryz.f53, ↓reduceIte, aI9, a0L, a0M]
 refine fun _ => ⟨by omega, by omega, by omega, by omega, fun n hn => ?_⟩
 refine cS (keep := aI9) (ib := a0L) (mk := a0M) mix (by kernel_rfl) (fun k : Nat => [(0, (c5 1 (fun x => [c5 1 (fun n => [I n]) x]) l)), (3, .os n 1 0 l.length), (4, I k)]) (fun k => bK h n (.row 1 (lV (fun x => [c5 1 (fun n => [I n]) x]) [.bC] l k))) (fun k => k ≤ l.length) (fun k => l.length - k) 0 (by simp [dA, cH, aB.le_refl, mN]) ?_
 intro k hk
 rcases Nat.lt_or_ge k l.length with hlt | hge
 ·have ea : l[k]? = some l[k] := List.getElem?_eq_getElem hlt
  simp -dsimp -implicitDefEqProofs only [go_sem, ↓reduceIte, Tryz.f53, ea, jU _ _ _ _ hlt]
  refine fun _ => ⟨fun _ => ⟨hlt, ?_⟩, fun hn => absurd hlt hn⟩
  have hx := hc l[k] (List.getElem_mem hlt)
  refine aJ.mk hx ?_
  simp -dsimp -implicitDefEqProofs only [go_sem, ↓reduceIte, Tryz.f53, jU _ _ _ _ hlt]
  refine ⟨hlt, k + 1, by rw [IntWalk.i64_in _ (by omega)]; rfl, ?_, by omega, by omega⟩
  exact vT hlt (by first | rfl | (simp only [List.map_cons, List.map_nil]))
 ·have hk' : k = l.length := by omega
  subst hk'
  simp -dsimp -implicitDefEqProofs only [go_sem, ↓reduceIte, Tryz.f53, Nat.lt_irrefl]
  rw [oC]
  exact fun _ => lW _ hn (aB.le_refl _) _ (by simp)
@[go_sem] def aS8 : List Nat := [0, 1, 2, 3]
@[go_sem] def bCC : List Nat := [1]
@[go_sem] def bCD : Marks := fun _ => ([], .nil, [])
theorem bCE (x : e7) (hs : x.s ≤ 1048576) : e8 Tryz.prog 21 [.agg x.c] (.agg x.c) := by
 rw [e7.fR] at hs
 simp only [e7.aN]
 refine tB 23 aS8 bCC bCD mix Tryz.func21 rfl (by kernel_rfl) (by simp) fun h => ?_
 simp -dsimp -implicitDefEqProofs only [go_sem, Tryz.f21, ↓reduceIte, aS8, bCC, bCD]
 intro n2 h2 n3 h3
 have e1 : (n2 = n3) = False := eq_false fun e => h3.1 e.symm
 have e2 : (n3 = n2) = False := eq_false h3.1
 have hzfTerms : (x.bO).length + ((x.bO).map (fun x : List Int => x.length)).sum = (uX (fun x : List Int => x.length) x.bO) := rfl
 refine aJ.mk (aS6 x.bN (by omega)) ?_
 simp -dsimp -implicitDefEqProofs only [go_sem, ↓reduceIte, Tryz.f21, aF, a7, e1, e2, aI.aN]
 refine aJ.mk (nJ x.cX (by omega)) ?_
 simp -dsimp -implicitDefEqProofs only [go_sem, ↓reduceIte, Tryz.f21, aF, a7, e1, e2]
 refine aJ.mk (aS7 x.bO (by omega) (fun y hy => nJ y (by have hq : y.length ≤ ((x.bO).map (fun x : List Int => x.length)).sum := gG (fun x : List Int => x.length) hy; omega))) ?_
 simp -dsimp -implicitDefEqProofs only [go_sem, ↓reduceIte, Tryz.f21, aF, a7, e1, e2]
 exact eA (by simp -dsimp -implicitDefEqProofs only [go_sem, h2, h3, e1, e2, a7])
@[go_sem] def aJA : List Nat := [0, 2, 3, 4, 11]
@[go_sem] def a0N : List Nat := []
@[go_sem] def a0O : Marks := fun _ => ([], .nil, [])
theorem a0P (l : List Bool) (h1 : l.length ≤ 1048576) : e8 Tryz.prog 22 [(c5 1 (fun b => [.bool b]) l)] (c5 1 (fun b => [.bool b]) l) := by
 refine tB 22 aJA a0N a0O mix Tryz.func22 rfl (by kernel_rfl) (by simp) fun h => ?_
 simp -dsimp -implicitDefEqProofs only [go_sem, Tryz.f22, ↓reduceIte, aJA, a0N, a0O]
 refine fun _ => ⟨by omega, by omega, by omega, by omega, fun n hn => ?_⟩
 refine cS (keep := aJA) (ib := a0N) (mk := a0O) mix (by kernel_rfl) (fun k : Nat => [(0, (c5 1 (fun b => [.bool b]) l)), (3, .os n 1 0 l.length), (4, I k)]) (fun k => bK h n (.row 1 (lV (fun b => [.bool b]) [.bool false] l k))) (fun k => k ≤ l.length) (fun k => l.length - k) 0 (by simp [dA, cH, aB.le_refl, mN]) ?_
 intro k hk
 rcases Nat.lt_or_ge k l.length with hlt | hge
 ·have ea : l[k]? = some l[k] := List.getElem?_eq_getElem hlt
  simp -dsimp -implicitDefEqProofs only [go_sem, ↓reduceIte, Tryz.f22, ea, jU _ _ _ _ hlt]
  refine fun _ => ⟨fun _ => ⟨hlt, hlt, k + 1, by rw [IntWalk.i64_in _ (by omega)]; rfl, ?_, by omega, by omega⟩, fun hn => absurd hlt hn⟩
  exact vT hlt rfl
 ·have hk' : k = l.length := by omega
  subst hk'
  simp -dsimp -implicitDefEqProofs only [go_sem, ↓reduceIte, Tryz.f22, Nat.lt_irrefl]
  rw [oC]
  exact fun _ => lW _ hn (aB.le_refl _) _ (by simp)
@[go_sem] def aS9 : List Nat := [0, 1, 2, 3]
@[go_sem] def bCF : List Nat := [1]
@[go_sem] def bCG : Marks := fun _ => ([], .nil, [])
theorem a5I (x : bI) (hs : x.s ≤ 1048576) : e8 Tryz.prog 54 [.agg x.c] (.agg x.c) := by
 rw [bI.fR] at hs
 simp only [bI.aN]
 refine tB 15 aS9 bCF bCG mix Tryz.func54 rfl (by kernel_rfl) (by simp) fun h => ?_
 simp -dsimp -implicitDefEqProofs only [go_sem, Tryz.f54, ↓reduceIte, aS9, bCF, bCG]
 intro n2 h2 n3 h3
 have e1 : (n2 = n3) = False := eq_false fun e => h3.1 e.symm
 have e2 : (n3 = n2) = False := eq_false h3.1
 refine aJ.mk (nJ x.iJ (by omega)) ?_
 simp -dsimp -implicitDefEqProofs only [go_sem, ↓reduceIte, Tryz.f54, aF, a7, e1, e2]
 exact eA (by simp -dsimp -implicitDefEqProofs only [go_sem, h2, h3, e1, e2, a7])
@[go_sem] def aJB : List Nat := [0, 2, 3, 4, 11]
@[go_sem] def a0Q : List Nat := []
@[go_sem] def a0R : Marks := fun _ => ([], .nil, [])
theorem a0S (l : List bI) (h1 : l.length ≤ 1048576) (hc : ∀ x ∈ l, e8 Tryz.prog 54 [(.agg (bI.c x))] (.agg (bI.c x))) : e8 Tryz.prog 23 [(c5 3 bI.c l)] (c5 3 bI.c l) := by
 refine tB 23 aJB a0Q a0R mix Tryz.func23 rfl (by kernel_rfl) (by simp) fun h => ?_
 simp -dsimp -implicitDefEqProofs only [go_sem, Tryz.f23, ↓reduceIte, aJB, a0Q, a0R]
 refine fun _ => ⟨by omega, by omega, by omega, by omega, fun n hn => ?_⟩
 refine cS (keep := aJB) (ib := a0Q) (mk := a0R) mix (by kernel_rfl) (fun k : Nat => [(0, (c5 3 bI.c l)), (3, .os n 3 0 l.length), (4, I k)]) (fun k => bK h n (.row 3 (lV bI.c [.int .i64 0, .int .i64 0, .bC] l k))) (fun k => k ≤ l.length) (fun k => l.length - k) 0 (by simp [dA, cH, aB.le_refl, mN]) ?_
 intro k hk
 rcases Nat.lt_or_ge k l.length with hlt | hge
 ·have ea : l[k]? = some l[k] := List.getElem?_eq_getElem hlt
  simp -dsimp -implicitDefEqProofs only [go_sem, ↓reduceIte, Tryz.f23, ea, jU _ _ _ _ hlt, bI.aN]
  refine fun _ => ⟨fun _ => ⟨hlt, ?_⟩, fun hn => absurd hlt hn⟩
  have hx := hc l[k] (List.getElem_mem hlt)
  simp only [bI.aN] at hx
  refine aJ.mk hx ?_
  simp -dsimp -implicitDefEqProofs only [go_sem, ↓reduceIte, Tryz.f23, jU _ _ _ _ hlt]
  refine ⟨hlt, k + 1, by rw [IntWalk.i64_in _ (by omega)]; rfl, ?_, by omega, by omega⟩
  exact vT hlt (by first | rfl | (simp only [List.map_cons, List.map_nil, bI.aN]))
 ·have hk' : k = l.length := by omega
  subst hk'
  simp -dsimp -implicitDefEqProofs only [go_sem, ↓reduceIte, Tryz.f23, Nat.lt_irrefl]
  rw [oC]
  exact fun _ => lW _ hn (aB.le_refl _) _ (by simp)
@[go_sem] def a0T : List Nat := [0, 1, 2, 3]
@[go_sem] def ib6 : List Nat := [1]
@[go_sem] def mk6 : Marks := fun _ => ([], .nil, [])
theorem uY (x : aR) (hs : x.s ≤ 1048576) : e8 Tryz.prog 6 [.agg x.c] (.agg x.c) := by
 rw [aR.fR] at hs
 simp only [aR.aN]
 refine tB 25 a0T ib6 mk6 mix Tryz.func6 rfl (by kernel_rfl) (by simp) fun h => ?_
 simp -dsimp -implicitDefEqProofs only [go_sem, Tryz.f6, ↓reduceIte, a0T, ib6, mk6]
 intro n2 h2 n3 h3
 have e1 : (n2 = n3) = False := eq_false fun e => h3.1 e.symm
 have e2 : (n3 = n2) = False := eq_false h3.1
 have hzfParts : (x.b7).length + ((x.b7).map bI.s).sum = (uX bI.s x.b7) := rfl
 refine aJ.mk (bCE x.bF (by omega)) ?_
 simp -dsimp -implicitDefEqProofs only [go_sem, ↓reduceIte, Tryz.f6, aF, a7, e1, e2, e7.aN]
 refine aJ.mk (nJ x.aY (by omega)) ?_
 simp -dsimp -implicitDefEqProofs only [go_sem, ↓reduceIte, Tryz.f6, aF, a7, e1, e2]
 refine aJ.mk (a0P x.cB (by omega)) ?_
 simp -dsimp -implicitDefEqProofs only [go_sem, ↓reduceIte, Tryz.f6, aF, a7, e1, e2]
 refine aJ.mk (a0S x.b7 (by omega) (fun y hy => a5I y (by have hq : (bI.s y) ≤ ((x.b7).map bI.s).sum := gG bI.s hy; omega))) ?_
 simp -dsimp -implicitDefEqProofs only [go_sem, ↓reduceIte, Tryz.f6, aF, a7, e1, e2]
 refine aJ.mk (nJ x.b9 (by omega)) ?_
 simp -dsimp -implicitDefEqProofs only [go_sem, ↓reduceIte, Tryz.f6, aF, a7, e1, e2]
 exact eA (by simp -dsimp -implicitDefEqProofs only [go_sem, h2, h3, e1, e2, a7])
open Go.Proofs
set_option linter.unusedVariables false
set_option linter.unusedSimpArgs false
mutual
def aA.o : aA → List OV → Prop
 | .mk a6 bQ c9 cU aM, e => ∃ y, e = [.v (.int .i64 a6), .v (.int .i64 bQ), .v (.int .i64 c9), .v (.int .i64 cU), y] ∧ ((y = .nil 5 ∧ aM = []) ∨ ∃ n es, y = .sl n 5 es ∧ aA.oR aM es)
def aA.oR : List aA → List (List OV) → Prop
 | [], [] => True
 |x :: l, e :: es => x.o e ∧ aA.oR l es
 | _, _ => False
end
theorem aA.a88 : ∀ (l : List aA) (es : List (List OV)), aA.oR l es = OR aA.o l es
 | [], [] => rfl
 |x :: l, e :: es => by rw [aA.oR, OR, aA.a88 l es]
 | [], _ :: _ => rfl
 | _ :: _, [] => rfl
theorem aA.pS (x : aA) (e : List OV) : x.o e ↔ ∃ y4, e = [.v (.int .i64 x.a6), .v (.int .i64 x.bQ), .v (.int .i64 x.c9), .v (.int .i64 x.cU), y4] ∧ OS aA.o 5 x.aM y4 := by
 cases x
 simp only [aA.o, aA.a88, OS]
 rfl
mutual
theorem aA.tX : ∀ {x : aA} {e : List OV}, x.o e → e.map OV.mK = x.c
 | .mk a6 bQ c9 cU aM, e, h => by
  rw [aA.pS] at h
  obtain ⟨y, rfl, h⟩ := h
  have hk : y.mK = .sl 5 (aM.map aA.c) false := by
   rcases h with ⟨rfl, h0⟩ | ⟨n, es, rfl, h⟩
   ·have h1 : aM = [] := h0
    subst h1; rfl
   ·simp only [OV.mK]
    rw [aA.a0Z h]
    rfl
  rw [aA.aN]
  simp only [List.map_cons, List.map_nil, OV.mK, hk]
  rfl
theorem aA.a0Z : ∀ {l : List aA} {es : List (List OV)}, OR aA.o l es → OV.cN es = l.map aA.c
 | [], [], _ => rfl
 |x :: l, e :: es, h => by rw [OV.cN, aA.a0Z h.2, OV.xW, aA.tX h.1]; rfl
 | [], _ :: _, h => h.elim
 | _ :: _, [], h => h.elim
end
def aV.o (x : aV) (e : List OV) : Prop := ∃ y2, e = [.v (.str x.eC), .v (.int .i64 x.bE), y2] ∧ OS aA.o 5 x.aZ y2
theorem aV.tX {x : aV} {e : List OV} (h : x.o e) : e.map OV.mK = x.c := by
 obtain ⟨y2, rfl, o2⟩ := h
 have d2 := OS.mK (c := aA.c) (fun _ _ q => aA.tX q) o2
 rw [aV.aN]
 simp only [List.map_cons, List.map_nil, OV.mK, d2]
def aI.o (x : aI) (e : List OV) : Prop := ∃ y0, e = [y0] ∧ OS aV.o 3 x.aH y0
def e7.o (x : e7) (e : List OV) : Prop := ∃ y0 y3 y4, e = [y0, .v (.int .i64 x.b8), .v (.int .i64 x.aX), y3, y4] ∧ OS aV.o 3 x.bN.aH y0 ∧ OS (oP I) 1 x.cX y3 ∧ OS (oS (oP I) 1) 1 x.bO y4
def bI.o (x : bI) (e : List OV) : Prop := ∃ y2, e = [.v (.int .i64 x.cM), .v (.int .i64 x.gB), y2] ∧ OS (oP I) 1 x.iJ y2
theorem bI.tX {x : bI} {e : List OV} (h : x.o e) : e.map OV.mK = x.c := by
 obtain ⟨y2, rfl, o2⟩ := h
 have d2 := OS.mK (c := (fun n => [I n])) (fun _ _ q => aAG q) o2
 rw [bI.aN]
 simp only [List.map_cons, List.map_nil, OV.mK, d2]
def aR.o (x : aR) (e : List OV) : Prop := ∃ y0 y3 y4 y5 y6 y7 y8, e = [y0, .v (.int .i64 x.bF.b8), .v (.int .i64 x.bF.aX), y3, y4, y5, y6, y7, y8] ∧ OS aV.o 3 x.bF.bN.aH y0 ∧ OS (oP I) 1 x.bF.cX y3 ∧ OS (oS (oP I) 1) 1 x.bF.bO y4 ∧ OS (oP I) 1 x.aY y5 ∧ OS (oP aD.bool) 1 x.cB y6 ∧ OS bI.o 3 x.b7 y7 ∧ OS (oP I) 1 x.b9 y8
theorem aR.tX {x : aR} {e : List OV} (h : x.o e) : e.map OV.mK = x.c := by
 obtain ⟨y0, y3, y4, y5, y6, y7, y8, rfl, o0, o3, o4, o5, o6, o7, o8⟩ := h
 have d0 := OS.mK (c := aV.c) (fun _ _ q => aV.tX q) o0
 have d3 := OS.mK (c := (fun n => [I n])) (fun _ _ q => aAG q) o3
 have d4 := OS.mK (c := (fun x => [c5 1 (fun n => [I n]) x])) (fun _ _ q => bCH (c := (fun n => [I n])) (fun _ _ q => aAG q) q) o4
 have d5 := OS.mK (c := (fun n => [I n])) (fun _ _ q => aAG q) o5
 have d6 := OS.mK (c := (fun b => [.bool b])) (fun _ _ q => aAG q) o6
 have d7 := OS.mK (c := bI.c) (fun _ _ q => bI.tX q) o7
 have d8 := OS.mK (c := (fun n => [I n])) (fun _ _ q => aAG q) o8
 rw [aR.aN]
 simp only [List.map_cons, List.map_nil, OV.mK, d0, d3, d4, d5, d6, d7, d8]
theorem aA.aHA (x : aA) (e : List OV) (h : x.o e) : OV.j4 e = true := by
 rw [aA.pS] at h
 obtain ⟨y4, rfl, o4⟩ := h
 have d4 := OS.aD8 (fun z hz e q => aA.aHA z e q) o4
 simp [OV.j4, OV.sol, aD.fN, d4]
termination_by SizeOf.sizeOf x
decreasing_by exact aA.rO hz
theorem aA.aRC (x : aA) (e : List OV) (h : x.o e) : OV.jP e ≤ 16 * (1 + x.s) := by
 rw [aA.pS] at h
 obtain ⟨y4, rfl, o4⟩ := h
 have d4 := OS.cts (s := aA.s) o4 (fun z hz e q => aA.aRC z e q)
 have s0 := aA.fR x
 clear o4
 simp only [OV.jP, OV.vJ]
 refine Nat.le_trans (Nat.add_le_add (Nat.le_refl 1) (Nat.add_le_add (Nat.le_refl 1) (Nat.add_le_add (Nat.le_refl 1) (Nat.add_le_add (Nat.le_refl 1) (Nat.add_le_add d4 (Nat.le_refl 0)))))) ?_
 clear d4
 try generalize (uX aA.s x.aM) = z4 at *
 omega
termination_by SizeOf.sizeOf x
decreasing_by exact aA.rO hz
theorem aV.aHA (x : aV) (e : List OV) (h : x.o e) : OV.j4 e = true := by
 obtain ⟨y2, rfl, o2⟩ := h
 have d2 := OS.aD8 (fun z hz e q => aA.aHA z e q) o2
 simp [OV.j4, OV.sol, aD.fN, d2]
theorem aV.aRC (x : aV) (e : List OV) (h : x.o e) : OV.jP e ≤ 16 * (1 + x.s) := by
 obtain ⟨y2, rfl, o2⟩ := h
 have d2 := OS.cts (s := aA.s) o2 (fun z hz e q => aA.aRC z e q)
 have s0 := aV.fR x
 clear o2
 simp only [OV.jP, OV.vJ]
 refine Nat.le_trans (Nat.add_le_add (Nat.le_refl 1) (Nat.add_le_add (Nat.le_refl 1) (Nat.add_le_add d2 (Nat.le_refl 0)))) ?_
 clear d2
 try generalize (uX aA.s x.aZ) = z2 at *
 omega
theorem bI.aHA (x : bI) (e : List OV) (h : x.o e) : OV.j4 e = true := by
 obtain ⟨y2, rfl, o2⟩ := h
 have d2 := OS.aD8 (fun _ _ _ q => aF0 (fun _ => rfl) q) o2
 simp [OV.j4, OV.sol, aD.fN, d2]
theorem bI.aRC (x : bI) (e : List OV) (h : x.o e) : OV.jP e ≤ 16 * (1 + x.s) := by
 obtain ⟨y2, rfl, o2⟩ := h
 have d2 := o2.ctP
 have s0 := bI.fR x
 clear o2
 simp only [OV.jP, OV.vJ]
 refine Nat.le_trans (Nat.add_le_add (Nat.le_refl 1) (Nat.add_le_add (Nat.le_refl 1) (Nat.add_le_add d2 (Nat.le_refl 0)))) ?_
 clear d2
 try generalize x.iJ.length = z2 at *
 omega
theorem aR.aHA (x : aR) (e : List OV) (h : x.o e) : OV.j4 e = true := by
 obtain ⟨y0, y3, y4, y5, y6, y7, y8, rfl, o0, o3, o4, o5, o6, o7, o8⟩ := h
 have d0 := OS.aD8 (fun z hz e q => aV.aHA z e q) o0
 have d3 := OS.aD8 (fun _ _ _ q => aF0 (fun _ => rfl) q) o3
 have d4 := OS.aD8 (fun z hz e q => a5K (fun _ _ _ q => aF0 (fun _ => rfl) q) q) o4
 have d5 := OS.aD8 (fun _ _ _ q => aF0 (fun _ => rfl) q) o5
 have d6 := OS.aD8 (fun _ _ _ q => aF0 (fun _ => rfl) q) o6
 have d7 := OS.aD8 (fun z hz e q => bI.aHA z e q) o7
 have d8 := OS.aD8 (fun _ _ _ q => aF0 (fun _ => rfl) q) o8
 simp [OV.j4, OV.sol, aD.fN, d0, d3, d4, d5, d6, d7, d8]
theorem aR.aRC (x : aR) (e : List OV) (h : x.o e) : OV.jP e ≤ 16 * (1 + x.s) := by
 obtain ⟨y0, y3, y4, y5, y6, y7, y8, rfl, o0, o3, o4, o5, o6, o7, o8⟩ := h
 have d0 := OS.cts (s := aV.s) o0 (fun z hz e q => aV.aRC z e q)
 have d3 := o3.ctP
 have d4 := OS.cts (s := (fun x : List Int => x.length)) o4 (fun z hz e q => bCL q)
 have d5 := o5.ctP
 have d6 := o6.ctP
 have d7 := OS.cts (s := bI.s) o7 (fun z hz e q => bI.aRC z e q)
 have d8 := o8.ctP
 have s0 := aR.fR x
 have s1 := e7.fR (x.bF)
 have s2 := aI.fR (x.bF.bN)
 clear o0 o3 o4 o5 o6 o7 o8
 simp only [OV.jP, OV.vJ]
 refine Nat.le_trans (Nat.add_le_add d0 (Nat.add_le_add (Nat.le_refl 1) (Nat.add_le_add (Nat.le_refl 1) (Nat.add_le_add d3 (Nat.add_le_add d4 (Nat.add_le_add d5 (Nat.add_le_add d6 (Nat.add_le_add d7 (Nat.add_le_add d8 (Nat.le_refl 0)))))))))) ?_
 clear d0
 clear d3
 clear d4
 clear d5
 clear d6
 clear d7
 clear d8
 try generalize (uX aV.s x.bF.bN.aH) = z0 at *
 try generalize x.bF.cX.length = z3 at *
 try generalize (uX (fun x : List Int => x.length) x.bF.bO) = z4 at *
 try generalize x.aY.length = z5 at *
 try generalize x.cB.length = z6 at *
 try generalize (uX bI.s x.b7) = z7 at *
 try generalize x.b9.length = z8 at *
 omega
theorem aR.a89 (x : aR) (e : List OV) (h : x.o e) : OV.u1 e ≤ 16 * (1 + x.s) := by
 have h1 := aR.aRC x e h
 have h2 : ∀ e : List OV, OV.u1 e ≤ OV.jP e := fun e => by
  induction e with
  |nil => simp [OV.u1]
  |cons a e ih => rw [OV.u1, OV.jP]; cases a <;> simp [OV.oY] <;> omega
 exact Nat.le_trans (h2 e) h1
set_option maxRecDepth 100000
open Go.Proofs
set_option linter.unusedVariables false
set_option linter.unusedSimpArgs false
theorem aMD (l : List aA) (h1 : l.length ≤ 1048576) (hc : ∀ x ∈ l, pN Tryz.prog 146 [(.agg (aA.c x))] (QA x.o)) : pN Tryz.prog 120 [(c5 5 aA.c l)] (QS (OS aA.o 5 l)) := by
 refine sV 23 aD5 aQ5 aQ6 mix Tryz.func120 rfl (by kernel_rfl) (by simp) fun h => ?_
 simp -dsimp -implicitDefEqProofs only [go_sem, ↓reduceIte, Tryz.f120]
 refine fun _ => ⟨by omega, by omega, by omega, by omega, fun n hn => ?_⟩
 refine cS (keep := aD5) (ib := aQ5) (mk := aQ6) mix (by kernel_rfl) (fun x : Nat × List (List OV) × aB => [(0, (c5 5 aA.c l)), (3, .os n 5 0 l.length), (4, I x.1)]) (fun x => bK x.2.2 n (.row 5 (OV.cells x.2.1 ++ (List.replicate (l.length - x.1) [.int .i64 0, .int .i64 0, .int .i64 0, .int .i64 0, .bC]).map (List.map .v)))) (fun x => x.1 ≤ l.length ∧ OR aA.o (l.take x.1) x.2.1 ∧ eM h (OV.bP x.2.1) x.2.2 ∧ x.2.2 n = none) (fun x => l.length - x.1) (0, [], h) (by
  exact ⟨by simp [dA, cH], aB.le_refl _, Nat.zero_le _, trivial, eM.nil h, hn⟩) ?_
 rintro ⟨k, es, g⟩ ⟨hk, hor, hnew, hgn⟩
 have hlen : es.length = k := by have := hor.length; simp at this; omega
 rcases Nat.lt_or_ge k l.length with hlt | hge
 ·have ea : l[k]? = some l[k] := List.getElem?_eq_getElem hlt
  have eg : ∀ m, m = l.length - k → (OV.cells es ++ (List.replicate m [.int .i64 0, .int .i64 0, .int .i64 0, .int .i64 0, .bC]).map (List.map Cell.v))[k]? = some ([.int .i64 0, .int .i64 0, .int .i64 0, .int .i64 0, .bC].map .v) := fun m hm => aD7 hlen (by omega)
  simp -dsimp -implicitDefEqProofs only [go_sem, ↓reduceIte, Tryz.f120, ea, aA.aN]
  refine fun _ => ⟨fun _ => ⟨hlt, ?_⟩, fun hn => absurd hlt hn⟩
  have hx := hc l[k] (List.getElem_mem hlt)
  simp only [aA.aN] at hx
  refine aJ.nw1 hx hgn ?_
  rintro r l1 g1 ⟨e0, he0, rfl, rfl⟩ tV w1
  have he1 := he0
  rw [aA.pS] at he1
  obtain ⟨s6, rfl, mI⟩ := he1
  simp -dsimp -implicitDefEqProofs only [go_sem, ↓reduceIte, Tryz.f120, eg _ rfl, aF, OV.aO, OV.aE, OV.aS, mI.flat]
  refine ⟨hlt, (k + 1, es ++ [[.v (.int .i64 l[k].a6), .v (.int .i64 l[k].bQ), .v (.int .i64 l[k].c9), .v (.int .i64 l[k].cU), s6]], g1), ?_⟩
  simp only
  have hf := aD6 (z := [.int .i64 0, .int .i64 0, .int .i64 0, .int .i64 0, .bC]) [.v (.int .i64 l[k].a6), .v (.int .i64 l[k].bQ), .v (.int .i64 l[k].c9), .v (.int .i64 l[k].cU), s6] hlen (m := l.length - k) (by omega) [Cell.v (.int .i64 l[k].a6), Cell.v (.int .i64 l[k].bQ), Cell.v (.int .i64 l[k].c9), Cell.v (.int .i64 l[k].cU), Cell.v s6.val] rfl
  rw [hf, show l.length - k - 1 = l.length - (k + 1) by omega]
  refine ⟨by rw [IntWalk.i64_in _ (by omega)]; rfl, aB.le_refl _, ⟨by omega, ?_, ?_, w1⟩, by omega⟩
  ·rw [List.take_succ_eq_append_getElem hlt]
   exact OR.append hor ⟨he0, trivial⟩
  ·rw [pR]
   exact hnew.append tV
 ·have hk' : k = l.length := by omega
  subst hk'
  simp -dsimp -implicitDefEqProofs only [go_sem, ↓reduceIte, Tryz.f120, Nat.lt_irrefl]
  refine fun _ => ⟨_, _, _, bX _ _, ⟨.sl n 5 es, OS.mk (by simpa using hor), by simp [OV.val, hlen, cH], rfl⟩, ?_⟩
  rw [OV.eV]
  simpa using hnew.row hgn
theorem aLQ (x : aA) (hs : x.s ≤ 1048576) (hk : pN Tryz.prog 120 [(c5 5 aA.c x.aM)] (QS (OS aA.o 5 x.aM))) : pN Tryz.prog 146 [.agg x.c] (QA x.o) := by
 rw [aA.fR] at hs
 simp only [aA.aN]
 refine sV 21 aNL a0E a0F mix Tryz.func146 rfl (by kernel_rfl) (by simp) fun h => ?_
 simp -dsimp -implicitDefEqProofs only [go_sem, ↓reduceIte, Tryz.f146, aF]
 intro n2 a0 n3 b0
 have e1 : (n2 = n3) = False := eq_false fun e => b0.1 e.symm
 have e2 : (n3 = n2) = False := eq_false b0.1
 have w0 := eM.nil h
 have hb0 := b0.2
 have hzfKids : (x.aM).length + ((x.aM).map aA.s).sum = (uX aA.s x.aM) := rfl
 refine aJ.nw2 hk a0 ⟨b0.1, hb0⟩ ?_
 rintro r l1 g1 ⟨y1, o1, rfl, rfl⟩ w1 a1 kT
 simp -dsimp -implicitDefEqProofs only [go_sem, ↓reduceIte, Tryz.f146, aF, a7, e1, e2, OV.aO, OV.aE, OV.aS, o1.flat, o1.one]
 have w1t := w0.append w1
 refine ⟨_, g1, _, Shift.of (Sub.refl _) ?_, ⟨[.v (.int .i64 x.a6), .v (.int .i64 x.bQ), .v (.int .i64 x.c9), .v (.int .i64 x.cU), y1], ?_, rfl, rfl⟩, ?_⟩
 ·exact iY a1 (iY kT (iY a1 (aB.le_refl _)))
 ·rw [aA.pS]; exact ⟨y1, rfl, o1⟩
 ·simpa only [OV.bL, OV.cF, OV.c8, List.nil_append, List.append_nil, List.append_assoc] using w1t
theorem aRD (x : aA) (hs : x.s ≤ 1048576) : pN Tryz.prog 146 [.agg x.c] (QA x.o) :=
 aLQ x hs (aMD x.aM (by rw [aA.fR] at hs; rw [eN] at hs; omega) fun y hy => aRD y (by rw [aA.fR] at hs; have := gG aA.s hy; rw [eN] at hs; omega))
termination_by SizeOf.sizeOf x
decreasing_by exact aA.rO hy
theorem a01 (x : aV) (hs : x.s ≤ 1048576) : pN Tryz.prog 104 [.agg x.c] (QA x.o) := by
 rw [aV.fR] at hs
 simp only [aV.aN]
 refine sV 15 aNN a0G a0H mix Tryz.func104 rfl (by kernel_rfl) (by simp) fun h => ?_
 simp -dsimp -implicitDefEqProofs only [go_sem, ↓reduceIte, Tryz.f104, aF]
 intro n2 a0 n3 b0
 have e1 : (n2 = n3) = False := eq_false fun e => b0.1 e.symm
 have e2 : (n3 = n2) = False := eq_false b0.1
 have w0 := eM.nil h
 have hb0 := b0.2
 have hzfOuts : (x.aZ).length + ((x.aZ).map aA.s).sum = (uX aA.s x.aZ) := rfl
 refine aJ.nw2 (aMD x.aZ (by omega) (fun y hy => aRD y (by have hq : (aA.s y) ≤ ((x.aZ).map aA.s).sum := gG aA.s hy; omega))) a0 ⟨b0.1, hb0⟩ ?_
 rintro r l1 g1 ⟨y1, o1, rfl, rfl⟩ w1 a1 kT
 simp -dsimp -implicitDefEqProofs only [go_sem, ↓reduceIte, Tryz.f104, aF, a7, e1, e2, OV.aO, OV.aE, OV.aS, o1.flat, o1.one]
 have w1t := w0.append w1
 refine ⟨_, g1, _, Shift.of (Sub.refl _) ?_, ⟨[.v (.str x.eC), .v (.int .i64 x.bE), y1], ?_, rfl, rfl⟩, ?_⟩
 ·exact iY a1 (iY kT (iY a1 (aB.le_refl _)))
 ·exact ⟨y1, rfl, o1⟩
 ·simpa only [OV.bL, OV.cF, OV.c8, List.nil_append, List.append_nil, List.append_assoc] using w1t
theorem aYK (l : List aV) (h1 : l.length ≤ 1048576) (hc : ∀ x ∈ l, pN Tryz.prog 104 [(.agg (aV.c x))] (QA x.o)) : pN Tryz.prog 84 [(c5 3 aV.c l)] (QS (OS aV.o 3 l)) := by
 refine sV 23 aI8 a0I a0J mix Tryz.func84 rfl (by kernel_rfl) (by simp) fun h => ?_
 simp -dsimp -implicitDefEqProofs only [go_sem, ↓reduceIte, Tryz.f84]
 refine fun _ => ⟨by omega, by omega, by omega, by omega, fun n hn => ?_⟩
 refine cS (keep := aI8) (ib := a0I) (mk := a0J) mix (by kernel_rfl) (fun x : Nat × List (List OV) × aB => [(0, (c5 3 aV.c l)), (3, .os n 3 0 l.length), (4, I x.1)]) (fun x => bK x.2.2 n (.row 3 (OV.cells x.2.1 ++ (List.replicate (l.length - x.1) [.str [], .int .i64 0, .bC]).map (List.map .v)))) (fun x => x.1 ≤ l.length ∧ OR aV.o (l.take x.1) x.2.1 ∧ eM h (OV.bP x.2.1) x.2.2 ∧ x.2.2 n = none) (fun x => l.length - x.1) (0, [], h) (by
  exact ⟨by simp [dA, cH], aB.le_refl _, Nat.zero_le _, trivial, eM.nil h, hn⟩) ?_
 rintro ⟨k, es, g⟩ ⟨hk, hor, hnew, hgn⟩
 have hlen : es.length = k := by have := hor.length; simp at this; omega
 rcases Nat.lt_or_ge k l.length with hlt | hge
 ·have ea : l[k]? = some l[k] := List.getElem?_eq_getElem hlt
  have eg : ∀ m, m = l.length - k → (OV.cells es ++ (List.replicate m [.str [], .int .i64 0, .bC]).map (List.map Cell.v))[k]? = some ([.str [], .int .i64 0, .bC].map .v) := fun m hm => aD7 hlen (by omega)
  simp -dsimp -implicitDefEqProofs only [go_sem, ↓reduceIte, Tryz.f84, ea, aV.aN]
  refine fun _ => ⟨fun _ => ⟨hlt, ?_⟩, fun hn => absurd hlt hn⟩
  have hx := hc l[k] (List.getElem_mem hlt)
  simp only [aV.aN] at hx
  refine aJ.nw1 hx hgn ?_
  rintro r l1 g1 ⟨e0, he0, rfl, rfl⟩ tV w1
  have he1 := he0
  obtain ⟨zM, rfl, o_2⟩ := he1
  simp -dsimp -implicitDefEqProofs only [go_sem, ↓reduceIte, Tryz.f84, eg _ rfl, aF, OV.aO, OV.aE, OV.aS, o_2.flat]
  refine ⟨hlt, (k + 1, es ++ [[.v (.str l[k].eC), .v (.int .i64 l[k].bE), zM]], g1), ?_⟩
  simp only
  have hf := aD6 (z := [.str [], .int .i64 0, .bC]) [.v (.str l[k].eC), .v (.int .i64 l[k].bE), zM] hlen (m := l.length - k) (by omega) [Cell.v (.str l[k].eC), Cell.v (.int .i64 l[k].bE), Cell.v zM.val] rfl
  rw [hf, show l.length - k - 1 = l.length - (k + 1) by omega]
  refine ⟨by rw [IntWalk.i64_in _ (by omega)]; rfl, aB.le_refl _, ⟨by omega, ?_, ?_, w1⟩, by omega⟩
  ·rw [List.take_succ_eq_append_getElem hlt]
   exact OR.append hor ⟨he0, trivial⟩
  ·rw [pR]
   exact hnew.append tV
 ·have hk' : k = l.length := by omega
  subst hk'
  simp -dsimp -implicitDefEqProofs only [go_sem, ↓reduceIte, Tryz.f84, Nat.lt_irrefl]
  refine fun _ => ⟨_, _, _, bX _ _, ⟨.sl n 3 es, OS.mk (by simpa using hor), by simp [OV.val, hlen, cH], rfl⟩, ?_⟩
  rw [OV.eV]
  simpa using hnew.row hgn
theorem aRE (x : aI) (hs : x.s ≤ 1048576) : pN Tryz.prog 52 [.agg x.c] (QA x.o) := by
 rw [aI.fR] at hs
 simp only [aI.aN]
 refine sV 9 aS5 bCA bCB mix Tryz.func52 rfl (by kernel_rfl) (by simp) fun h => ?_
 simp -dsimp -implicitDefEqProofs only [go_sem, ↓reduceIte, Tryz.f52, aF]
 intro n2 a0 n3 b0
 have e1 : (n2 = n3) = False := eq_false fun e => b0.1 e.symm
 have e2 : (n3 = n2) = False := eq_false b0.1
 have w0 := eM.nil h
 have hb0 := b0.2
 have hzfFuncs : (x.aH).length + ((x.aH).map aV.s).sum = (uX aV.s x.aH) := rfl
 refine aJ.nw2 (aYK x.aH (by omega) (fun y hy => a01 y (by have hq : (aV.s y) ≤ ((x.aH).map aV.s).sum := gG aV.s hy; omega))) a0 ⟨b0.1, hb0⟩ ?_
 rintro r l1 g1 ⟨y1, o1, rfl, rfl⟩ w1 a1 kT
 simp -dsimp -implicitDefEqProofs only [go_sem, ↓reduceIte, Tryz.f52, aF, a7, e1, e2, OV.aO, OV.aE, OV.aS, o1.flat, o1.one]
 have w1t := w0.append w1
 refine ⟨_, g1, _, Shift.of (Sub.refl _) ?_, ⟨[y1], ?_, rfl, rfl⟩, ?_⟩
 ·exact iY a1 (iY kT (iY a1 (aB.le_refl _)))
 ·exact ⟨y1, rfl, o1⟩
 ·simpa only [OV.bL, OV.cF, OV.c8, List.nil_append, List.append_nil, List.append_assoc] using w1t
theorem sW (l : List Int) (h1 : l.length ≤ 1048576) : pN Tryz.prog 7 [(c5 1 (fun n => [I n]) l)] (QS (OS (oP I) 1 l)) := by
 refine sV 22 aQ8 ib7 mk7 mix Tryz.func7 rfl (by kernel_rfl) (by simp) fun h => ?_
 simp -dsimp -implicitDefEqProofs only [go_sem, ↓reduceIte, Tryz.f7]
 refine fun _ => ⟨by omega, by omega, by omega, by omega, fun n hn => ?_⟩
 refine cS (keep := aQ8) (ib := ib7) (mk := mk7) mix (by kernel_rfl) (fun k : Nat => [(0, (c5 1 (fun n => [I n]) l)), (3, .os n 1 0 l.length), (4, I k)]) (fun k => bK h n (.row 1 (lV (fun n => [I n]) [.int .i64 0] l k))) (fun k => k ≤ l.length) (fun k => l.length - k) 0 (by simp [dA, cH, aB.le_refl, mN]) ?_
 intro k hk
 rcases Nat.lt_or_ge k l.length with hlt | hge
 ·have ea : l[k]? = some l[k] := List.getElem?_eq_getElem hlt
  simp -dsimp -implicitDefEqProofs only [go_sem, ↓reduceIte, Tryz.f7, ea, jU _ _ _ _ hlt]
  refine fun _ => ⟨fun _ => ⟨hlt, hlt, k + 1, by rw [IntWalk.i64_in _ (by omega)]; rfl, ?_, by omega, by omega⟩, fun hn => absurd hlt hn⟩
  exact vT hlt rfl
 ·have hk' : k = l.length := by omega
  subst hk'
  simp -dsimp -implicitDefEqProofs only [go_sem, ↓reduceIte, Tryz.f7, Nat.lt_irrefl]
  rw [oC]
  refine fun _ => ⟨_, _, _, bX _ _, ⟨.sl n 1 (l.map fun x => [.v (I x)]), OS.mk (uZ l), by simp [OV.val, cH], rfl⟩, ?_⟩
  rw [OV.eV, tC, rD]
  exact eM.one hn
theorem aRF (l : List (List Int)) (h1 : l.length ≤ 1048576) (hc : ∀ x ∈ l, pN Tryz.prog 7 [(c5 1 (fun n => [I n]) x)] (QS (OS (oP I) 1 x))) : pN Tryz.prog 53 [(c5 1 (fun x => [c5 1 (fun n => [I n]) x]) l)] (QS (OS (oS (oP I) 1) 1 l)) := by
 refine sV 23 aI9 a0L a0M mix Tryz.func53 rfl (by kernel_rfl) (by simp) fun h => ?_
 simp -dsimp -implicitDefEqProofs only [go_sem, ↓reduceIte, Tryz.f53]
 refine fun _ => ⟨by omega, by omega, by omega, by omega, fun n hn => ?_⟩
 refine cS (keep := aI9) (ib := a0L) (mk := a0M) mix (by kernel_rfl) (fun x : Nat × List (List OV) × aB => [(0, (c5 1 (fun x => [c5 1 (fun n => [I n]) x]) l)), (3, .os n 1 0 l.length), (4, I x.1)]) (fun x => bK x.2.2 n (.row 1 (OV.cells x.2.1 ++ (List.replicate (l.length - x.1) [.bC]).map (List.map .v)))) (fun x => x.1 ≤ l.length ∧ OR (oS (oP I) 1) (l.take x.1) x.2.1 ∧ eM h (OV.bP x.2.1) x.2.2 ∧ x.2.2 n = none) (fun x => l.length - x.1) (0, [], h) (by
  exact ⟨by simp [dA, cH], aB.le_refl _, Nat.zero_le _, trivial, eM.nil h, hn⟩) ?_
 rintro ⟨k, es, g⟩ ⟨hk, hor, hnew, hgn⟩
 have hlen : es.length = k := by have := hor.length; simp at this; omega
 rcases Nat.lt_or_ge k l.length with hlt | hge
 ·have ea : l[k]? = some l[k] := List.getElem?_eq_getElem hlt
  have eg : ∀ m, m = l.length - k → (OV.cells es ++ (List.replicate m [.bC]).map (List.map Cell.v))[k]? = some ([.bC].map .v) := fun m hm => aD7 hlen (by omega)
  simp -dsimp -implicitDefEqProofs only [go_sem, ↓reduceIte, Tryz.f53, ea]
  refine fun _ => ⟨fun _ => ⟨hlt, ?_⟩, fun hn => absurd hlt hn⟩
  have hx := hc l[k] (List.getElem_mem hlt)
  refine aJ.nw1 hx hgn ?_
  rintro r l1 g1 ⟨y0, o0, rfl, rfl⟩ tV w1
  have he0 : (oS (oP I) 1) l[k] [y0] := ⟨y0, rfl, o0⟩
  simp -dsimp -implicitDefEqProofs only [go_sem, ↓reduceIte, Tryz.f53, eg _ rfl, aF, o0.flat, o0.one]
  refine ⟨hlt, (k + 1, es ++ [[y0]], g1), ?_⟩
  simp only
  have hf := aD6 (z := [.bC]) [y0] hlen (m := l.length - k) (by omega) [Cell.v y0.val] rfl
  rw [hf, show l.length - k - 1 = l.length - (k + 1) by omega]
  refine ⟨by rw [IntWalk.i64_in _ (by omega)]; rfl, aB.le_refl _, ⟨by omega, ?_, ?_, w1⟩, by omega⟩
  ·rw [List.take_succ_eq_append_getElem hlt]
   exact OR.append hor ⟨he0, trivial⟩
  ·rw [pR]
   have := hnew.append tV
   simpa only [OV.bL, OV.cF, List.append_nil] using this
 ·have hk' : k = l.length := by omega
  subst hk'
  simp -dsimp -implicitDefEqProofs only [go_sem, ↓reduceIte, Tryz.f53, Nat.lt_irrefl]
  refine fun _ => ⟨_, _, _, bX _ _, ⟨.sl n 1 es, OS.mk (by simpa using hor), by simp [OV.val, hlen, cH], rfl⟩, ?_⟩
  rw [OV.eV]
  simpa using hnew.row hgn
theorem a5M (x : e7) (hs : x.s ≤ 1048576) : pN Tryz.prog 21 [.agg x.c] (QA x.o) := by
 rw [e7.fR] at hs
 simp only [e7.aN]
 refine sV 23 aS8 bCC bCD mix Tryz.func21 rfl (by kernel_rfl) (by simp) fun h => ?_
 simp -dsimp -implicitDefEqProofs only [go_sem, ↓reduceIte, Tryz.f21, aF]
 intro n2 a0 n3 b0
 have e1 : (n2 = n3) = False := eq_false fun e => b0.1 e.symm
 have e2 : (n3 = n2) = False := eq_false b0.1
 have w0 := eM.nil h
 have hb0 := b0.2
 have hzfTerms : (x.bO).length + ((x.bO).map (fun x : List Int => x.length)).sum = (uX (fun x : List Int => x.length) x.bO) := rfl
 refine aJ.nw2 (aRE x.bN (by omega)) a0 ⟨b0.1, hb0⟩ ?_
 rintro r l1 g1 ⟨e1_, o1, rfl, rfl⟩ w1 a1 kT
 have oo1 := o1
 obtain ⟨a02, rfl, xY⟩ := oo1
 simp -dsimp -implicitDefEqProofs only [go_sem, ↓reduceIte, Tryz.f21, aF, a7, e1, e2, OV.aO, OV.aE, OV.aS, xY.flat, xY.one]
 have w1t := w0.append w1
 refine aJ.nw2 (sW x.cX (by omega)) a1 ⟨b0.1, kT⟩ ?_
 rintro r l2 g2 ⟨y2, o2, rfl, rfl⟩ w2 a2 kU
 simp -dsimp -implicitDefEqProofs only [go_sem, ↓reduceIte, Tryz.f21, aF, a7, e1, e2, OV.aO, OV.aE, OV.aS, xY.flat, xY.one, o2.flat, o2.one]
 have w2t := w1t.append w2
 refine aJ.nw2 (aRF x.bO (by omega) (fun y hy => sW y (by have hq : y.length ≤ ((x.bO).map (fun x : List Int => x.length)).sum := gG (fun x : List Int => x.length) hy; omega))) a2 ⟨b0.1, kU⟩ ?_
 rintro r l3 g3 ⟨y3, o3, rfl, rfl⟩ w3 a3 hb3
 simp -dsimp -implicitDefEqProofs only [go_sem, ↓reduceIte, Tryz.f21, aF, a7, e1, e2, OV.aO, OV.aE, OV.aS, xY.flat, xY.one, o2.flat, o2.one, o3.flat, o3.one]
 have w3t := w2t.append w3
 refine ⟨_, g3, _, Shift.of (Sub.refl _) ?_, ⟨[a02, .v (.int .i64 x.b8), .v (.int .i64 x.aX), y2, y3], ?_, rfl, rfl⟩, ?_⟩
 ·exact iY a3 (iY hb3 (iY a3 (aB.le_refl _)))
 ·exact ⟨a02, y2, y3, rfl, xY, o2, o3⟩
 ·simpa only [OV.bL, OV.cF, OV.c8, List.nil_append, List.append_nil, List.append_assoc] using w3t
theorem aYL (l : List Bool) (h1 : l.length ≤ 1048576) : pN Tryz.prog 22 [(c5 1 (fun b => [.bool b]) l)] (QS (OS (oP aD.bool) 1 l)) := by
 refine sV 22 aJA a0N a0O mix Tryz.func22 rfl (by kernel_rfl) (by simp) fun h => ?_
 simp -dsimp -implicitDefEqProofs only [go_sem, ↓reduceIte, Tryz.f22]
 refine fun _ => ⟨by omega, by omega, by omega, by omega, fun n hn => ?_⟩
 refine cS (keep := aJA) (ib := a0N) (mk := a0O) mix (by kernel_rfl) (fun k : Nat => [(0, (c5 1 (fun b => [.bool b]) l)), (3, .os n 1 0 l.length), (4, I k)]) (fun k => bK h n (.row 1 (lV (fun b => [.bool b]) [.bool false] l k))) (fun k => k ≤ l.length) (fun k => l.length - k) 0 (by simp [dA, cH, aB.le_refl, mN]) ?_
 intro k hk
 rcases Nat.lt_or_ge k l.length with hlt | hge
 ·have ea : l[k]? = some l[k] := List.getElem?_eq_getElem hlt
  simp -dsimp -implicitDefEqProofs only [go_sem, ↓reduceIte, Tryz.f22, ea, jU _ _ _ _ hlt]
  refine fun _ => ⟨fun _ => ⟨hlt, hlt, k + 1, by rw [IntWalk.i64_in _ (by omega)]; rfl, ?_, by omega, by omega⟩, fun hn => absurd hlt hn⟩
  exact vT hlt rfl
 ·have hk' : k = l.length := by omega
  subst hk'
  simp -dsimp -implicitDefEqProofs only [go_sem, ↓reduceIte, Tryz.f22, Nat.lt_irrefl]
  rw [oC]
  refine fun _ => ⟨_, _, _, bX _ _, ⟨.sl n 1 (l.map fun x => [.v (aD.bool x)]), OS.mk (uZ l), by simp [OV.val, cH], rfl⟩, ?_⟩
  rw [OV.eV, tC, rD]
  exact eM.one hn
theorem a03 (x : bI) (hs : x.s ≤ 1048576) : pN Tryz.prog 54 [.agg x.c] (QA x.o) := by
 rw [bI.fR] at hs
 simp only [bI.aN]
 refine sV 15 aS9 bCF bCG mix Tryz.func54 rfl (by kernel_rfl) (by simp) fun h => ?_
 simp -dsimp -implicitDefEqProofs only [go_sem, ↓reduceIte, Tryz.f54, aF]
 intro n2 a0 n3 b0
 have e1 : (n2 = n3) = False := eq_false fun e => b0.1 e.symm
 have e2 : (n3 = n2) = False := eq_false b0.1
 have w0 := eM.nil h
 have hb0 := b0.2
 refine aJ.nw2 (sW x.iJ (by omega)) a0 ⟨b0.1, hb0⟩ ?_
 rintro r l1 g1 ⟨y1, o1, rfl, rfl⟩ w1 a1 kT
 simp -dsimp -implicitDefEqProofs only [go_sem, ↓reduceIte, Tryz.f54, aF, a7, e1, e2, OV.aO, OV.aE, OV.aS, o1.flat, o1.one]
 have w1t := w0.append w1
 refine ⟨_, g1, _, Shift.of (Sub.refl _) ?_, ⟨[.v (.int .i64 x.cM), .v (.int .i64 x.gB), y1], ?_, rfl, rfl⟩, ?_⟩
 ·exact iY a1 (iY kT (iY a1 (aB.le_refl _)))
 ·exact ⟨y1, rfl, o1⟩
 ·simpa only [OV.bL, OV.cF, OV.c8, List.nil_append, List.append_nil, List.append_assoc] using w1t
theorem aYM (l : List bI) (h1 : l.length ≤ 1048576) (hc : ∀ x ∈ l, pN Tryz.prog 54 [(.agg (bI.c x))] (QA x.o)) : pN Tryz.prog 23 [(c5 3 bI.c l)] (QS (OS bI.o 3 l)) := by
 refine sV 23 aJB a0Q a0R mix Tryz.func23 rfl (by kernel_rfl) (by simp) fun h => ?_
 simp -dsimp -implicitDefEqProofs only [go_sem, ↓reduceIte, Tryz.f23]
 refine fun _ => ⟨by omega, by omega, by omega, by omega, fun n hn => ?_⟩
 refine cS (keep := aJB) (ib := a0Q) (mk := a0R) mix (by kernel_rfl) (fun x : Nat × List (List OV) × aB => [(0, (c5 3 bI.c l)), (3, .os n 3 0 l.length), (4, I x.1)]) (fun x => bK x.2.2 n (.row 3 (OV.cells x.2.1 ++ (List.replicate (l.length - x.1) [.int .i64 0, .int .i64 0, .bC]).map (List.map .v)))) (fun x => x.1 ≤ l.length ∧ OR bI.o (l.take x.1) x.2.1 ∧ eM h (OV.bP x.2.1) x.2.2 ∧ x.2.2 n = none) (fun x => l.length - x.1) (0, [], h) (by
  exact ⟨by simp [dA, cH], aB.le_refl _, Nat.zero_le _, trivial, eM.nil h, hn⟩) ?_
 rintro ⟨k, es, g⟩ ⟨hk, hor, hnew, hgn⟩
 have hlen : es.length = k := by have := hor.length; simp at this; omega
 rcases Nat.lt_or_ge k l.length with hlt | hge
 ·have ea : l[k]? = some l[k] := List.getElem?_eq_getElem hlt
  have eg : ∀ m, m = l.length - k → (OV.cells es ++ (List.replicate m [.int .i64 0, .int .i64 0, .bC]).map (List.map Cell.v))[k]? = some ([.int .i64 0, .int .i64 0, .bC].map .v) := fun m hm => aD7 hlen (by omega)
  simp -dsimp -implicitDefEqProofs only [go_sem, ↓reduceIte, Tryz.f23, ea, bI.aN]
  refine fun _ => ⟨fun _ => ⟨hlt, ?_⟩, fun hn => absurd hlt hn⟩
  have hx := hc l[k] (List.getElem_mem hlt)
  simp only [bI.aN] at hx
  refine aJ.nw1 hx hgn ?_
  rintro r l1 g1 ⟨e0, he0, rfl, rfl⟩ tV w1
  have he1 := he0
  obtain ⟨zM, rfl, o_2⟩ := he1
  simp -dsimp -implicitDefEqProofs only [go_sem, ↓reduceIte, Tryz.f23, eg _ rfl, aF, OV.aO, OV.aE, OV.aS, o_2.flat]
  refine ⟨hlt, (k + 1, es ++ [[.v (.int .i64 l[k].cM), .v (.int .i64 l[k].gB), zM]], g1), ?_⟩
  simp only
  have hf := aD6 (z := [.int .i64 0, .int .i64 0, .bC]) [.v (.int .i64 l[k].cM), .v (.int .i64 l[k].gB), zM] hlen (m := l.length - k) (by omega) [Cell.v (.int .i64 l[k].cM), Cell.v (.int .i64 l[k].gB), Cell.v zM.val] rfl
  rw [hf, show l.length - k - 1 = l.length - (k + 1) by omega]
  refine ⟨by rw [IntWalk.i64_in _ (by omega)]; rfl, aB.le_refl _, ⟨by omega, ?_, ?_, w1⟩, by omega⟩
  ·rw [List.take_succ_eq_append_getElem hlt]
   exact OR.append hor ⟨he0, trivial⟩
  ·rw [pR]
   exact hnew.append tV
 ·have hk' : k = l.length := by omega
  subst hk'
  simp -dsimp -implicitDefEqProofs only [go_sem, ↓reduceIte, Tryz.f23, Nat.lt_irrefl]
  refine fun _ => ⟨_, _, _, bX _ _, ⟨.sl n 3 es, OS.mk (by simpa using hor), by simp [OV.val, hlen, cH], rfl⟩, ?_⟩
  rw [OV.eV]
  simpa using hnew.row hgn
theorem aRG (x : aR) (hs : x.s ≤ 1048576) : pN Tryz.prog 6 [.agg x.c] (QA x.o) := by
 rw [aR.fR] at hs
 simp only [aR.aN]
 refine sV 25 a0T ib6 mk6 mix Tryz.func6 rfl (by kernel_rfl) (by simp) fun h => ?_
 simp -dsimp -implicitDefEqProofs only [go_sem, ↓reduceIte, Tryz.f6, aF]
 intro n2 a0 n3 b0
 have e1 : (n2 = n3) = False := eq_false fun e => b0.1 e.symm
 have e2 : (n3 = n2) = False := eq_false b0.1
 have w0 := eM.nil h
 have hb0 := b0.2
 have hzfParts : (x.b7).length + ((x.b7).map bI.s).sum = (uX bI.s x.b7) := rfl
 refine aJ.nw2 (a5M x.bF (by omega)) a0 ⟨b0.1, hb0⟩ ?_
 rintro r l1 g1 ⟨e1_, o1, rfl, rfl⟩ w1 a1 kT
 have oo1 := o1
 obtain ⟨a02, bJI, bJJ, rfl, xY, aJI, aJJ⟩ := oo1
 simp -dsimp -implicitDefEqProofs only [go_sem, ↓reduceIte, Tryz.f6, aF, a7, e1, e2, OV.aO, OV.aE, OV.aS, xY.flat, xY.one, aJI.flat, aJI.one, aJJ.flat, aJJ.one]
 have w1t := w0.append w1
 refine aJ.nw2 (sW x.aY (by omega)) a1 ⟨b0.1, kT⟩ ?_
 rintro r l2 g2 ⟨y2, o2, rfl, rfl⟩ w2 a2 kU
 simp -dsimp -implicitDefEqProofs only [go_sem, ↓reduceIte, Tryz.f6, aF, a7, e1, e2, OV.aO, OV.aE, OV.aS, xY.flat, xY.one, aJI.flat, aJI.one, aJJ.flat, aJJ.one, o2.flat, o2.one]
 have w2t := w1t.append w2
 refine aJ.nw2 (aYL x.cB (by omega)) a2 ⟨b0.1, kU⟩ ?_
 rintro r l3 g3 ⟨y3, o3, rfl, rfl⟩ w3 a3 hb3
 simp -dsimp -implicitDefEqProofs only [go_sem, ↓reduceIte, Tryz.f6, aF, a7, e1, e2, OV.aO, OV.aE, OV.aS, xY.flat, xY.one, aJI.flat, aJI.one, aJJ.flat, aJJ.one, o2.flat, o2.one, o3.flat, o3.one]
 have w3t := w2t.append w3
 refine aJ.nw2 (aYM x.b7 (by omega) (fun y hy => a03 y (by have hq : (bI.s y) ≤ ((x.b7).map bI.s).sum := gG bI.s hy; omega))) a3 ⟨b0.1, hb3⟩ ?_
 rintro r l4 g4 ⟨y4, o4, rfl, rfl⟩ w4 a4 hb4
 simp -dsimp -implicitDefEqProofs only [go_sem, ↓reduceIte, Tryz.f6, aF, a7, e1, e2, OV.aO, OV.aE, OV.aS, xY.flat, xY.one, aJI.flat, aJI.one, aJJ.flat, aJJ.one, o2.flat, o2.one, o3.flat, o3.one, o4.flat, o4.one]
 have w4t := w3t.append w4
 refine aJ.nw2 (sW x.b9 (by omega)) a4 ⟨b0.1, hb4⟩ ?_
 rintro r l5 g5 ⟨y5, o5, rfl, rfl⟩ w5 a5 hb5
 simp -dsimp -implicitDefEqProofs only [go_sem, ↓reduceIte, Tryz.f6, aF, a7, e1, e2, OV.aO, OV.aE, OV.aS, xY.flat, xY.one, aJI.flat, aJI.one, aJJ.flat, aJJ.one, o2.flat, o2.one, o3.flat, o3.one, o4.flat, o4.one, o5.flat, o5.one]
 have w5t := w4t.append w5
 refine ⟨_, g5, _, Shift.of (Sub.refl _) ?_, ⟨[a02, .v (.int .i64 x.bF.b8), .v (.int .i64 x.bF.aX), bJI, bJJ, y2, y3, y4, y5], ?_, rfl, rfl⟩, ?_⟩
 ·exact iY a5 (iY hb5 (iY a5 (aB.le_refl _)))
 ·exact ⟨a02, bJI, bJJ, y2, y3, y4, y5, rfl, xY, aJI, aJJ, o2, o3, o4, o5⟩
 ·simpa only [OV.bL, OV.cF, OV.c8, List.nil_append, List.append_nil, List.append_assoc] using w5t
set_option maxRecDepth 100000
open Go.Proofs
set_option linter.unusedVariables false
set_option linter.unusedSimpArgs false
@[go_sem] def aWC : List Nat := [0, 2, 3, 5, 7]
@[go_sem] def a9A : List Nat := [12]
@[go_sem] def a9B : Marks := fun _ => ([], .nil, [])
theorem aJK (k : Int) (h1 : k ≤ 4611686018427387904) : e8 Tryz.prog 111 [I k] (.str (aBX k)) := by
 refine eI 20 aWC a9A a9B mix Tryz.func111 rfl (by kernel_rfl) (by simp) fun h => ?_
 simp -dsimp -implicitDefEqProofs only [go_sem, ↓reduceIte, Tryz.f111]
 repeat' (with_reducible first | intro _ | refine And.intro ?_ ?_)
 ·simp [aBX, *]
 have hd := aTD k.toNat
 refine cS (keep := aWC) (ib := a9A) (mk := a9B) mix (by kernel_rfl) (fun x : Int × List UInt8 => [(0, I x.1), (3, .str x.2)]) (fun _ => h) (fun x => 0 ≤ x.1 ∧ x.1 ≤ k ∧ wN k.toNat = wN x.1.toNat ++ x.2) (fun x => x.1.toNat) (k, []) (by refine ⟨by simp [dA, cH], aB.le_refl _, by simp; omega⟩) ?_
 rintro ⟨j, out⟩ ⟨hj, hjk, he⟩
 simp only at hj hjk he
 have hol : out.length ≤ k.toNat := by rw [he, List.length_append] at hd; omega
 simp -dsimp -implicitDefEqProofs only [go_sem, ↓reduceIte, Tryz.f111]
 repeat' (with_reducible first | intro _ | refine And.intro ?_ ?_)
 all_goals try omega
 all_goals try (simp; done)
 ·rw [Int.tdiv_eq_ediv_of_nonneg (by omega), Int.tmod_eq_emod_of_nonneg (by omega), IntWalk.i64_in (j / 10) (by omega), IntWalk.i64_in (48 + j % 10) (by omega), IntWalk.u8_in (48 + j % 10) (by omega)]
  refine ⟨(j / 10, _), ⟨rfl, rfl⟩, ⟨by omega, by omega, ?_⟩, by omega⟩
  rw [he, aJE (by omega), List.append_assoc]
  have e1 : j.toNat / 10 = (j / 10).toNat := by omega
  have e2 : 48 + j.toNat % 10 = (48 + j % 10).toNat := by omega
  rw [e1, e2]; rfl
 all_goals
  have hj0 : j = 0 := by omega
  subst hj0
  rw [show (0 : Int).toNat = 0 from rfl, aG7, List.nil_append] at he
  simp [aBX, *]
set_option maxRecDepth 100000
open Go.Proofs
set_option linter.unusedVariables false
set_option linter.unusedSimpArgs false
@[go_sem] def aHV : List Nat := [0, 1, 4, 5, 9]
@[go_sem] def aWD : List Nat := []
@[go_sem] def aWE : Marks := fun _ => ([], .nil, [])
theorem aHO (l : List aA) (hk : ∀ x ∈ l, aG8 Tryz.prog 112 (OS aA.o 5 x.aM)) : aG8 Tryz.prog 112 (OS aA.o 5 l) := by
 intro y k h hy h0 h1 ho nd
 rcases hy with ⟨rfl, hl⟩ | ⟨n, es, rfl, hor⟩
 ·rw [OV.pO, OV.lY, OV.rP, OV.pZ]
  refine wJ 48 aHV aWD aWE mix Tryz.func112 rfl (by kernel_rfl) (by simp) ?_
  simp -dsimp -implicitDefEqProofs only [go_sem, ↓reduceIte, Tryz.f112]
  refine cS (keep := aHV) (ib := aWD) (mk := aWE) mix (by kernel_rfl) (fun _ : Unit => [(0, .sl 5 [] true), (1, I k), (5, I 0)]) (fun _ => h) (fun _ => True) (fun _ => 0) () (by simp [dA, cH, aB.le_refl]) ?_
  intro _ _
  simp -dsimp -implicitDefEqProofs only [go_sem, ↓reduceIte, Tryz.f112, eU, Int.lt_irrefl]
  try intro _
  refine ⟨h, aB.le_refl _, ?_⟩
  first | exact kE.refl (by simp [fJ]) | exact ⟨by simp, kE.refl (by simp [fJ])⟩
 ·rw [OV.tW, OV.eV, OV.eV, OV.mO, OV.p9]
  rw [OV.mO] at h1
  rw [OV.eV] at ho nd
  generalize hL0 : (n, bM.row 5 (OV.cells es)) :: OV.bP es = L0 at nd ⊢
  refine wJ 48 aHV aWD aWE mix Tryz.func112 rfl (by kernel_rfl) (by simp) ?_
  simp -dsimp -implicitDefEqProofs only [go_sem, ↓reduceIte, Tryz.f112]
  refine cS (keep := aHV) (ib := aWD) (mk := aWE) mix (by kernel_rfl) (fun x : Nat × aB => [(0, .os n 5 0 es.length), (1, I (k + OV.cV (es.take x.1))), (5, I x.1)]) (fun x => x.2) (fun x => x.1 ≤ es.length ∧ kE h x.2 L0 ((n, .row 5 (OV.cells (OV.cE k (es.take x.1) ++ es.drop x.1))) :: OV.bP (OV.cE k (es.take x.1) ++ es.drop x.1))) (fun x => es.length - x.1) (0, h) (by
   refine ⟨by simp [dA, cH, OV.cV], aB.le_refl _, Nat.zero_le _, ?_⟩
   rw [← hL0]
   simpa [OV.cE] using kE.refl ho) ?_
  rintro ⟨i, g⟩ ⟨hi, hc⟩
  simp only at hi hc ⊢
  rcases Nat.lt_or_ge i es.length with hlt | hge
  ·have hll : i < l.length := by rw [hor.length]; exact hlt
   obtain ⟨A, e, B, rfl, hA, he⟩ := hor.split i hll
   have t1 : (A ++ e :: B).take i = A := by rw [← hA]; simp
   have t2 : (A ++ e :: B).drop i = e :: B := by rw [← hA]; simp
   have t0 : A ++ e :: B = (A ++ [e]) ++ B := by simp
   have t3 : (A ++ e :: B).take (i + 1) = A ++ [e] := by rw [t0]; exact List.take_left' (by simp [hA])
   have t4 : (A ++ e :: B).drop (i + 1) = B := by rw [t0]; exact List.drop_left' (by simp [hA])
   clear t0
   have hct := OV.fF A (e :: B)
   rw [OV.cV] at hct
   rw [t1, t2] at hc
   rw [t1]
   have hA2 : (OV.cells (OV.cE k A)).length = i := by rw [OV.cells, List.length_map, OV.e6, hA]
   have jX := OV.rF k A e
   have wR := OV.iU A e
   rw [aA.pS] at he
   obtain ⟨s6, rfl, mI⟩ := he
   simp only [OV.jV, OV.k5, OV.vJ, Nat.add_zero, OV.jW, OV.k6, OV.aHN, nD, k7, nE, iZ] at hct jX wR
   generalize hkk : k + (OV.cV A : Int) = kk at jX ⊢
   generalize OV.cE k A = A2 at jX hc hA2
   have gm : ∀ (c : List Cell) (Y : List (List Cell)), (OV.cells A2 ++ c :: Y)[i]? = some c := fun c Y => p0 hA2
   have sm : ∀ (c c2 : List Cell) (Y : List (List Cell)), (OV.cells A2 ++ c :: Y).set i c2 = OV.cells A2 ++ c2 :: Y := fun c c2 Y => aBA hA2
   have oB := hc
   simp only [List.append_assoc, List.cons_append, List.nil_append, List.append_nil, OV.bL, OV.cF, OV.c8, bB, bH, bJ, b6, aP, aT, OV.aS] at oB
   have hgn := oB.fI (n, _) List.mem_cons_self
   simp only at hgn
   have l6 : IntKind.i64.wrap (kk + 1) = kk + 1 := IntWalk.i64_in _ (by omega)
   have rQ : IntKind.i64.wrap (kk + 1 + 1) = kk + 1 + 1 := IntWalk.i64_in _ (by omega)
   have aRH : IntKind.i64.wrap (kk + 1 + 1 + 1) = kk + 1 + 1 + 1 := IntWalk.i64_in _ (by omega)
   have aRI : IntKind.i64.wrap (kk + 1 + 1 + 1 + 1) = kk + 1 + 1 + 1 + 1 := IntWalk.i64_in _ (by omega)
   simp -dsimp -implicitDefEqProofs only [go_sem, ↓reduceIte, Tryz.f112, hgn, gm, sm, aF, aU, mI.flat, mI.one, l6, rQ, aRH, aRI]
   repeat' (with_reducible first | intro _ | refine And.intro ?_ ?_)
   all_goals try omega
   have hq0 := oB.trans (kE.set (o' := .row 5 (OV.cells A2 ++ [.v (.int .i64 (kk)), .v (.int .i64 (kk + 1)), .v (.int .i64 (kk + 1 + 1)), .v (.int .i64 (kk + 1 + 1 + 1)), .v s6.val] :: OV.cells B)) oB.fI (oB.nodup nd))
   have hg0 : bK g n (.row 5 (OV.cells A2 ++ [.v (.int .i64 (kk)), .v (.int .i64 (kk + 1)), .v (.int .i64 (kk + 1 + 1)), .v (.int .i64 (kk + 1 + 1 + 1)), .v s6.val] :: OV.cells B)) n = some (.row 5 (OV.cells A2 ++ [.v (.int .i64 (kk)), .v (.int .i64 (kk + 1)), .v (.int .i64 (kk + 1 + 1)), .v (.int .i64 (kk + 1 + 1 + 1)), .v s6.val] :: OV.cells B)) := aU _ _ _
   have tY : kE h (bK g n (.row 5 (OV.cells A2 ++ [.v (.int .i64 (kk)), .v (.int .i64 (kk + 1)), .v (.int .i64 (kk + 1 + 1)), .v (.int .i64 (kk + 1 + 1 + 1)), .v s6.val] :: OV.cells B))) L0 (((n, .row 5 (OV.cells A2 ++ [.v (.int .i64 (kk)), .v (.int .i64 (kk + 1)), .v (.int .i64 (kk + 1 + 1)), .v (.int .i64 (kk + 1 + 1 + 1)), .v s6.val] :: OV.cells B)) :: (OV.bP A2)) ++ (s6.rows ++ (OV.bP B))) := by simpa only [List.append_assoc, List.cons_append, List.nil_append, List.append_nil, OV.bL, OV.cF, OV.c8, bB, bH, bJ, b6, aP, aT, OV.aS] using hq0
   refine aJ.iF ((hk l[i] (List.getElem_mem hll)) s6 (kk + 1 + 1 + 1 + 1) _ mI (by omega) (by omega) tY.fI.right.left (jC (tY.nodup nd))) ?_
   rintro r g0 ⟨rfl, aF2⟩
   have hr0 := tY.trans (kE.mid tY.fI (tY.nodup nd) aF2)
   have aJL := hr0.fI (n, _) List.mem_cons_self
   simp only at aJL
   have oD : ∃ z : Int, z = kk + 1 + 1 + 1 + 1 + (s6.ct : Int) := ⟨_, rfl⟩
   obtain ⟨kk0, oD⟩ := oD
   rw [← oD]
   simp -dsimp -implicitDefEqProofs only [go_sem, ↓reduceIte, Tryz.f112, aJL, gm, sm, aF, aU, mI.flat, mI.one, l6, rQ, aRH, aRI]
   refine ⟨(i + 1, g0), ?_⟩
   simp only [t3, t4, jX, wR]
   refine ⟨?_, aB.le_refl _, ⟨by omega, ?_⟩, by omega⟩
   ·repeat' (with_reducible refine And.intro ?_ ?_)
    all_goals first | rfl | trivial | omega | (rw [IntWalk.i64_in _ (by omega)]; omega)
   ·simpa only [List.append_assoc, List.cons_append, List.nil_append, List.append_nil, OV.bL, OV.cF, OV.c8, bB, bH, bJ, b6, aP, aT, OV.aS, mI.mk_val, oD] using hr0
  ·have vK : i = es.length := by omega
   subst vK
   rw [List.take_length, List.drop_length, List.append_nil] at hc
   rw [List.take_length]
   simp -dsimp -implicitDefEqProofs only [go_sem, ↓reduceIte, Tryz.f112, Int.lt_irrefl, Nat.lt_irrefl]
   try intro _
   refine ⟨g, aB.le_refl _, ?_⟩
   first | exact hc | exact ⟨rfl, hc⟩
theorem aJM (l : List aA) : aG8 Tryz.prog 112 (OS aA.o 5 l) :=
 aHO l fun x hx => aJM x.aM
termination_by SizeOf.sizeOf l
decreasing_by
 have h1 := List.sizeOf_lt_of_mem hx
 cases x
 simp only [aA.mk.sizeOf_spec, aA.aM] at h1 ⊢
 omega
@[go_sem] def aNQ : List Nat := [0, 1, 4, 5, 9]
@[go_sem] def a5O : List Nat := []
@[go_sem] def a5P : Marks := fun _ => ([], .nil, [])
theorem aTE (l : List aV) : aG8 Tryz.prog 96 (OS aV.o 3 l) := by
 intro y k h hy h0 h1 ho nd
 rcases hy with ⟨rfl, hl⟩ | ⟨n, es, rfl, hor⟩
 ·rw [OV.pO, OV.lY, OV.rP, OV.pZ]
  refine wJ 35 aNQ a5O a5P mix Tryz.func96 rfl (by kernel_rfl) (by simp) ?_
  simp -dsimp -implicitDefEqProofs only [go_sem, ↓reduceIte, Tryz.f96]
  refine cS (keep := aNQ) (ib := a5O) (mk := a5P) mix (by kernel_rfl) (fun _ : Unit => [(0, .sl 3 [] true), (1, I k), (5, I 0)]) (fun _ => h) (fun _ => True) (fun _ => 0) () (by simp [dA, cH, aB.le_refl]) ?_
  intro _ _
  simp -dsimp -implicitDefEqProofs only [go_sem, ↓reduceIte, Tryz.f96, eU, Int.lt_irrefl]
  try intro _
  refine ⟨h, aB.le_refl _, ?_⟩
  first | exact kE.refl (by simp [fJ]) | exact ⟨by simp, kE.refl (by simp [fJ])⟩
 ·rw [OV.tW, OV.eV, OV.eV, OV.mO, OV.p9]
  rw [OV.mO] at h1
  rw [OV.eV] at ho nd
  generalize hL0 : (n, bM.row 3 (OV.cells es)) :: OV.bP es = L0 at nd ⊢
  refine wJ 35 aNQ a5O a5P mix Tryz.func96 rfl (by kernel_rfl) (by simp) ?_
  simp -dsimp -implicitDefEqProofs only [go_sem, ↓reduceIte, Tryz.f96]
  refine cS (keep := aNQ) (ib := a5O) (mk := a5P) mix (by kernel_rfl) (fun x : Nat × aB => [(0, .os n 3 0 es.length), (1, I (k + OV.cV (es.take x.1))), (5, I x.1)]) (fun x => x.2) (fun x => x.1 ≤ es.length ∧ kE h x.2 L0 ((n, .row 3 (OV.cells (OV.cE k (es.take x.1) ++ es.drop x.1))) :: OV.bP (OV.cE k (es.take x.1) ++ es.drop x.1))) (fun x => es.length - x.1) (0, h) (by
   refine ⟨by simp [dA, cH, OV.cV], aB.le_refl _, Nat.zero_le _, ?_⟩
   rw [← hL0]
   simpa [OV.cE] using kE.refl ho) ?_
  rintro ⟨i, g⟩ ⟨hi, hc⟩
  simp only at hi hc ⊢
  rcases Nat.lt_or_ge i es.length with hlt | hge
  ·have hll : i < l.length := by rw [hor.length]; exact hlt
   obtain ⟨A, e, B, rfl, hA, he⟩ := hor.split i hll
   have t1 : (A ++ e :: B).take i = A := by rw [← hA]; simp
   have t2 : (A ++ e :: B).drop i = e :: B := by rw [← hA]; simp
   have t0 : A ++ e :: B = (A ++ [e]) ++ B := by simp
   have t3 : (A ++ e :: B).take (i + 1) = A ++ [e] := by rw [t0]; exact List.take_left' (by simp [hA])
   have t4 : (A ++ e :: B).drop (i + 1) = B := by rw [t0]; exact List.drop_left' (by simp [hA])
   clear t0
   have hct := OV.fF A (e :: B)
   rw [OV.cV] at hct
   rw [t1, t2] at hc
   rw [t1]
   have hA2 : (OV.cells (OV.cE k A)).length = i := by rw [OV.cells, List.length_map, OV.e6, hA]
   have jX := OV.rF k A e
   have wR := OV.iU A e
   obtain ⟨zM, rfl, o_2⟩ := he
   simp only [OV.jV, OV.k5, OV.vJ, Nat.add_zero, OV.jW, OV.k6, OV.aHN, nD, k7, nE, iZ] at hct jX wR
   generalize hkk : k + (OV.cV A : Int) = kk at jX ⊢
   generalize OV.cE k A = A2 at jX hc hA2
   have gm : ∀ (c : List Cell) (Y : List (List Cell)), (OV.cells A2 ++ c :: Y)[i]? = some c := fun c Y => p0 hA2
   have sm : ∀ (c c2 : List Cell) (Y : List (List Cell)), (OV.cells A2 ++ c :: Y).set i c2 = OV.cells A2 ++ c2 :: Y := fun c c2 Y => aBA hA2
   have oB := hc
   simp only [List.append_assoc, List.cons_append, List.nil_append, List.append_nil, OV.bL, OV.cF, OV.c8, bB, bH, bJ, b6, aP, aT, OV.aS] at oB
   have hgn := oB.fI (n, _) List.mem_cons_self
   simp only at hgn
   have l6 : IntKind.i64.wrap (kk + 1) = kk + 1 := IntWalk.i64_in _ (by omega)
   have rQ : IntKind.i64.wrap (kk + 1 + 1) = kk + 1 + 1 := IntWalk.i64_in _ (by omega)
   simp -dsimp -implicitDefEqProofs only [go_sem, ↓reduceIte, Tryz.f96, hgn, gm, sm, aF, aU, o_2.flat, o_2.one, l6, rQ]
   repeat' (with_reducible first | intro _ | refine And.intro ?_ ?_)
   all_goals try omega
   refine aJ.mk (aJK (kk) (by omega)) ?_
   simp -dsimp -implicitDefEqProofs only [go_sem, ↓reduceIte, Tryz.f96, hgn, gm, sm, aF, aU, o_2.flat, o_2.one, l6, rQ]
   repeat' (with_reducible first | intro _ | refine And.intro ?_ ?_)
   all_goals try omega
   have hq0 := oB.trans (kE.set (o' := .row 3 (OV.cells A2 ++ [.v (.str (aBX (kk))), .v (.int .i64 (kk + 1)), .v zM.val] :: OV.cells B)) oB.fI (oB.nodup nd))
   have hg0 : bK g n (.row 3 (OV.cells A2 ++ [.v (.str (aBX (kk))), .v (.int .i64 (kk + 1)), .v zM.val] :: OV.cells B)) n = some (.row 3 (OV.cells A2 ++ [.v (.str (aBX (kk))), .v (.int .i64 (kk + 1)), .v zM.val] :: OV.cells B)) := aU _ _ _
   have tY : kE h (bK g n (.row 3 (OV.cells A2 ++ [.v (.str (aBX (kk))), .v (.int .i64 (kk + 1)), .v zM.val] :: OV.cells B))) L0 (((n, .row 3 (OV.cells A2 ++ [.v (.str (aBX (kk))), .v (.int .i64 (kk + 1)), .v zM.val] :: OV.cells B)) :: (OV.bP A2)) ++ (zM.rows ++ (OV.bP B))) := by simpa only [List.append_assoc, List.cons_append, List.nil_append, List.append_nil, OV.bL, OV.cF, OV.c8, bB, bH, bJ, b6, aP, aT, OV.aS] using hq0
   refine aJ.iF ((aJM l[i].aZ) zM (kk + 1 + 1) _ o_2 (by omega) (by omega) tY.fI.right.left (jC (tY.nodup nd))) ?_
   rintro r g0 ⟨rfl, aF2⟩
   have hr0 := tY.trans (kE.mid tY.fI (tY.nodup nd) aF2)
   have aJL := hr0.fI (n, _) List.mem_cons_self
   simp only at aJL
   have oD : ∃ z : Int, z = kk + 1 + 1 + (zM.ct : Int) := ⟨_, rfl⟩
   obtain ⟨kk0, oD⟩ := oD
   rw [← oD]
   simp -dsimp -implicitDefEqProofs only [go_sem, ↓reduceIte, Tryz.f96, aJL, gm, sm, aF, aU, o_2.flat, o_2.one, l6, rQ]
   refine ⟨(i + 1, g0), ?_⟩
   simp only [t3, t4, jX, wR]
   refine ⟨?_, aB.le_refl _, ⟨by omega, ?_⟩, by omega⟩
   ·repeat' (with_reducible refine And.intro ?_ ?_)
    all_goals first | rfl | trivial | omega | (rw [IntWalk.i64_in _ (by omega)]; omega)
   ·simpa only [List.append_assoc, List.cons_append, List.nil_append, List.append_nil, OV.bL, OV.cF, OV.c8, bB, bH, bJ, b6, aP, aT, OV.aS, o_2.mk_val, oD] using hr0
  ·have vK : i = es.length := by omega
   subst vK
   rw [List.take_length, List.drop_length, List.append_nil] at hc
   rw [List.take_length]
   simp -dsimp -implicitDefEqProofs only [go_sem, ↓reduceIte, Tryz.f96, Int.lt_irrefl, Nat.lt_irrefl]
   try intro _
   refine ⟨g, aB.le_refl _, ?_⟩
   first | exact hc | exact ⟨rfl, hc⟩
@[go_sem] def bCP : List Nat := [0, 1, 2, 4]
@[go_sem] def bQH : List Nat := [2]
@[go_sem] def bQI : Marks := fun _ => ([], .nil, [])
theorem aNR (x : aI) : a0W Tryz.prog 71 x.o := by
 intro e k h he h0 h1 ho nd
 obtain ⟨pJ, rfl, kF⟩ := he
 simp only [OV.iM, OV.jQ, OV.vV, OV.iN, OV.jR, OV.vW, Nat.add_zero, Nat.zero_add, eU, Int.add_zero, Int.zero_add, kF.oY, kF.pI] at h1 ⊢
 have oB := kE.refl ho
 simp only [List.append_assoc, List.cons_append, List.nil_append, List.append_nil, OV.bL, OV.cF, OV.c8, bB, bH, bJ, b6, aP, aT, OV.aS] at oB nd ⊢
 obtain ⟨L0, hL0⟩ : ∃ L : List (Nat × bM), L = (pJ.rows) := ⟨_, rfl⟩
 replace oB : kE h h L0 (pJ.rows) := by rw [hL0]; exact oB
 rw [← hL0] at nd ⊢
 refine wJ 10 bCP bQH bQI mix Tryz.func71 rfl (by kernel_rfl) (by simp) ?_
 simp -dsimp -implicitDefEqProofs only [go_sem, ↓reduceIte, Tryz.f71, OV.aO, OV.aE, OV.aS, kF.flat, kF.one]
 have tY : kE h h L0 ((([] : List (Nat × bM))) ++ ((pJ.rows) ++ (([] : List (Nat × bM))))) := by simpa only [List.append_assoc, List.cons_append, List.nil_append, List.append_nil, OV.bL, OV.cF, OV.c8, bB, bH, bJ, b6, aP, aT, OV.aS] using oB
 refine aJ.iF (aTE x.aH pJ (k) _ kF (by omega) (by omega) tY.fI.right.left (jC (tY.nodup nd))) ?_
 rintro r g0 ⟨rfl, aF2⟩
 have hr0 := tY.trans (kE.mid tY.fI (tY.nodup nd) (by simpa only [List.append_assoc, List.cons_append, List.nil_append, List.append_nil, OV.bL, OV.cF, OV.c8, bB, bH, bJ, b6, aP, aT, OV.aS] using aF2))
 simp -dsimp -implicitDefEqProofs only [go_sem, ↓reduceIte, Tryz.f71, OV.aO, OV.aE, OV.aS, kF.flat, kF.one]
 refine ⟨g0, aB.le_refl _, ?_⟩
 first
  |exact ⟨by congr 1; omega, by simpa only [List.append_assoc, List.cons_append, List.nil_append, List.append_nil, OV.bL, OV.cF, OV.c8, bB, bH, bJ, b6, aP, aT, OV.aS, Int.natCast_add, ← Int.add_assoc] using hr0⟩
  |exact ⟨by omega, by simpa only [List.append_assoc, List.cons_append, List.nil_append, List.append_nil, OV.bL, OV.cF, OV.c8, bB, bH, bJ, b6, aP, aT, OV.aS, Int.natCast_add, ← Int.add_assoc] using hr0⟩
  |simpa only [List.append_assoc, List.cons_append, List.nil_append, List.append_nil, OV.bL, OV.cF, OV.c8, bB, bH, bJ, b6, aP, aT, OV.aS, Int.natCast_add, ← Int.add_assoc] using hr0
@[go_sem] def aNS : List Nat := [0, 1, 4, 5, 9]
@[go_sem] def a5Q : List Nat := []
@[go_sem] def a5R : Marks := fun _ => ([], .nil, [])
theorem rG (l : List Int) : aG8 Tryz.prog 12 (OS (oP I) 1 l) := by
 intro y k h hy h0 h1 ho nd
 rcases hy with ⟨rfl, hl⟩ | ⟨n, es, rfl, hor⟩
 ·rw [OV.pO, OV.lY, OV.rP, OV.pZ]
  refine wJ 19 aNS a5Q a5R mix Tryz.func12 rfl (by kernel_rfl) (by simp) ?_
  simp -dsimp -implicitDefEqProofs only [go_sem, ↓reduceIte, Tryz.f12]
  refine cS (keep := aNS) (ib := a5Q) (mk := a5R) mix (by kernel_rfl) (fun _ : Unit => [(0, .sl 1 [] true), (1, I k), (5, I 0)]) (fun _ => h) (fun _ => True) (fun _ => 0) () (by simp [dA, cH, aB.le_refl]) ?_
  intro _ _
  simp -dsimp -implicitDefEqProofs only [go_sem, ↓reduceIte, Tryz.f12, eU, Int.lt_irrefl]
  try intro _
  refine ⟨h, aB.le_refl _, ?_⟩
  first | exact kE.refl (by simp [fJ]) | exact ⟨by simp, kE.refl (by simp [fJ])⟩
 ·rw [OV.tW, OV.eV, OV.eV, OV.mO, OV.p9]
  rw [OV.mO] at h1
  rw [OV.eV] at ho nd
  generalize hL0 : (n, bM.row 1 (OV.cells es)) :: OV.bP es = L0 at nd ⊢
  refine wJ 19 aNS a5Q a5R mix Tryz.func12 rfl (by kernel_rfl) (by simp) ?_
  simp -dsimp -implicitDefEqProofs only [go_sem, ↓reduceIte, Tryz.f12]
  refine cS (keep := aNS) (ib := a5Q) (mk := a5R) mix (by kernel_rfl) (fun x : Nat × aB => [(0, .os n 1 0 es.length), (1, I (k + OV.cV (es.take x.1))), (5, I x.1)]) (fun x => x.2) (fun x => x.1 ≤ es.length ∧ kE h x.2 L0 ((n, .row 1 (OV.cells (OV.cE k (es.take x.1) ++ es.drop x.1))) :: OV.bP (OV.cE k (es.take x.1) ++ es.drop x.1))) (fun x => es.length - x.1) (0, h) (by
   refine ⟨by simp [dA, cH, OV.cV], aB.le_refl _, Nat.zero_le _, ?_⟩
   rw [← hL0]
   simpa [OV.cE] using kE.refl ho) ?_
  rintro ⟨i, g⟩ ⟨hi, hc⟩
  simp only at hi hc ⊢
  rcases Nat.lt_or_ge i es.length with hlt | hge
  ·have hll : i < l.length := by rw [hor.length]; exact hlt
   obtain ⟨A, e, B, rfl, hA, he⟩ := hor.split i hll
   have t1 : (A ++ e :: B).take i = A := by rw [← hA]; simp
   have t2 : (A ++ e :: B).drop i = e :: B := by rw [← hA]; simp
   have t0 : A ++ e :: B = (A ++ [e]) ++ B := by simp
   have t3 : (A ++ e :: B).take (i + 1) = A ++ [e] := by rw [t0]; exact List.take_left' (by simp [hA])
   have t4 : (A ++ e :: B).drop (i + 1) = B := by rw [t0]; exact List.drop_left' (by simp [hA])
   clear t0
   have hct := OV.fF A (e :: B)
   rw [OV.cV] at hct
   rw [t1, t2] at hc
   rw [t1]
   have hA2 : (OV.cells (OV.cE k A)).length = i := by rw [OV.cells, List.length_map, OV.e6, hA]
   have jX := OV.rF k A e
   have wR := OV.iU A e
   obtain rfl : _ = _ := he
   simp only [OV.jV, OV.k5, OV.vJ, Nat.add_zero, OV.jW, OV.k6, OV.aHN, nD, k7, nE, iZ] at hct jX wR
   generalize hkk : k + (OV.cV A : Int) = kk at jX ⊢
   generalize OV.cE k A = A2 at jX hc hA2
   have gm : ∀ (c : List Cell) (Y : List (List Cell)), (OV.cells A2 ++ c :: Y)[i]? = some c := fun c Y => p0 hA2
   have sm : ∀ (c c2 : List Cell) (Y : List (List Cell)), (OV.cells A2 ++ c :: Y).set i c2 = OV.cells A2 ++ c2 :: Y := fun c c2 Y => aBA hA2
   have oB := hc
   simp only [List.append_assoc, List.cons_append, List.nil_append, List.append_nil, OV.bL, OV.cF, OV.c8, bB, bH, bJ, b6, aP, aT, OV.aS] at oB
   have hgn := oB.fI (n, _) List.mem_cons_self
   simp only at hgn
   have l6 : IntKind.i64.wrap (kk + 1) = kk + 1 := IntWalk.i64_in _ (by omega)
   simp -dsimp -implicitDefEqProofs only [go_sem, ↓reduceIte, Tryz.f12, hgn, gm, sm, aF, aU, l6]
   repeat' (with_reducible first | intro _ | refine And.intro ?_ ?_)
   all_goals try omega
   have hq0 := oB.trans (kE.set (o' := .row 1 (OV.cells A2 ++ [.v (.int .i64 (kk))] :: OV.cells B)) oB.fI (oB.nodup nd))
   have hg0 : bK g n (.row 1 (OV.cells A2 ++ [.v (.int .i64 (kk))] :: OV.cells B)) n = some (.row 1 (OV.cells A2 ++ [.v (.int .i64 (kk))] :: OV.cells B)) := aU _ _ _
   refine ⟨(i + 1, (bK g n (.row 1 (OV.cells A2 ++ [.v (.int .i64 (kk))] :: OV.cells B)))), ?_⟩
   simp only [t3, t4, jX, wR]
   refine ⟨?_, aB.le_refl _, ⟨by omega, ?_⟩, by omega⟩
   ·repeat' (with_reducible refine And.intro ?_ ?_)
    all_goals first | rfl | trivial | omega | (rw [IntWalk.i64_in _ (by omega)]; omega)
   ·simpa only [List.append_assoc, List.cons_append, List.nil_append, List.append_nil, OV.bL, OV.cF, OV.c8, bB, bH, bJ, b6, aP, aT, OV.aS] using hq0
  ·have vK : i = es.length := by omega
   subst vK
   rw [List.take_length, List.drop_length, List.append_nil] at hc
   rw [List.take_length]
   simp -dsimp -implicitDefEqProofs only [go_sem, ↓reduceIte, Tryz.f12, Int.lt_irrefl, Nat.lt_irrefl]
   try intro _
   refine ⟨g, aB.le_refl _, ?_⟩
   first | exact hc | exact ⟨rfl, hc⟩
@[go_sem] def aNT : List Nat := [0, 1, 4, 5, 9]
@[go_sem] def a5S : List Nat := []
@[go_sem] def a5T : Marks := fun _ => ([], .nil, [])
theorem aNU (l : List (List Int)) : aG8 Tryz.prog 72 (OS (oS (oP I) 1) 1 l) := by
 intro y k h hy h0 h1 ho nd
 rcases hy with ⟨rfl, hl⟩ | ⟨n, es, rfl, hor⟩
 ·rw [OV.pO, OV.lY, OV.rP, OV.pZ]
  refine wJ 19 aNT a5S a5T mix Tryz.func72 rfl (by kernel_rfl) (by simp) ?_
  simp -dsimp -implicitDefEqProofs only [go_sem, ↓reduceIte, Tryz.f72]
  refine cS (keep := aNT) (ib := a5S) (mk := a5T) mix (by kernel_rfl) (fun _ : Unit => [(0, .sl 1 [] true), (1, I k), (5, I 0)]) (fun _ => h) (fun _ => True) (fun _ => 0) () (by simp [dA, cH, aB.le_refl]) ?_
  intro _ _
  simp -dsimp -implicitDefEqProofs only [go_sem, ↓reduceIte, Tryz.f72, eU, Int.lt_irrefl]
  try intro _
  refine ⟨h, aB.le_refl _, ?_⟩
  first | exact kE.refl (by simp [fJ]) | exact ⟨by simp, kE.refl (by simp [fJ])⟩
 ·rw [OV.tW, OV.eV, OV.eV, OV.mO, OV.p9]
  rw [OV.mO] at h1
  rw [OV.eV] at ho nd
  generalize hL0 : (n, bM.row 1 (OV.cells es)) :: OV.bP es = L0 at nd ⊢
  refine wJ 19 aNT a5S a5T mix Tryz.func72 rfl (by kernel_rfl) (by simp) ?_
  simp -dsimp -implicitDefEqProofs only [go_sem, ↓reduceIte, Tryz.f72]
  refine cS (keep := aNT) (ib := a5S) (mk := a5T) mix (by kernel_rfl) (fun x : Nat × aB => [(0, .os n 1 0 es.length), (1, I (k + OV.cV (es.take x.1))), (5, I x.1)]) (fun x => x.2) (fun x => x.1 ≤ es.length ∧ kE h x.2 L0 ((n, .row 1 (OV.cells (OV.cE k (es.take x.1) ++ es.drop x.1))) :: OV.bP (OV.cE k (es.take x.1) ++ es.drop x.1))) (fun x => es.length - x.1) (0, h) (by
   refine ⟨by simp [dA, cH, OV.cV], aB.le_refl _, Nat.zero_le _, ?_⟩
   rw [← hL0]
   simpa [OV.cE] using kE.refl ho) ?_
  rintro ⟨i, g⟩ ⟨hi, hc⟩
  simp only at hi hc ⊢
  rcases Nat.lt_or_ge i es.length with hlt | hge
  ·have hll : i < l.length := by rw [hor.length]; exact hlt
   obtain ⟨A, e, B, rfl, hA, he⟩ := hor.split i hll
   have t1 : (A ++ e :: B).take i = A := by rw [← hA]; simp
   have t2 : (A ++ e :: B).drop i = e :: B := by rw [← hA]; simp
   have t0 : A ++ e :: B = (A ++ [e]) ++ B := by simp
   have t3 : (A ++ e :: B).take (i + 1) = A ++ [e] := by rw [t0]; exact List.take_left' (by simp [hA])
   have t4 : (A ++ e :: B).drop (i + 1) = B := by rw [t0]; exact List.drop_left' (by simp [hA])
   clear t0
   have hct := OV.fF A (e :: B)
   rw [OV.cV] at hct
   rw [t1, t2] at hc
   rw [t1]
   have hA2 : (OV.cells (OV.cE k A)).length = i := by rw [OV.cells, List.length_map, OV.e6, hA]
   have jX := OV.rF k A e
   have wR := OV.iU A e
   obtain ⟨pJ, rfl, kF⟩ := he
   simp only [OV.jV, OV.k5, OV.vJ, Nat.add_zero, OV.jW, OV.k6, OV.aHN, nD, k7, nE, iZ] at hct jX wR
   generalize hkk : k + (OV.cV A : Int) = kk at jX ⊢
   generalize OV.cE k A = A2 at jX hc hA2
   have gm : ∀ (c : List Cell) (Y : List (List Cell)), (OV.cells A2 ++ c :: Y)[i]? = some c := fun c Y => p0 hA2
   have sm : ∀ (c c2 : List Cell) (Y : List (List Cell)), (OV.cells A2 ++ c :: Y).set i c2 = OV.cells A2 ++ c2 :: Y := fun c c2 Y => aBA hA2
   have oB := hc
   simp only [List.append_assoc, List.cons_append, List.nil_append, List.append_nil, OV.bL, OV.cF, OV.c8, bB, bH, bJ, b6, aP, aT, OV.aS] at oB
   have hgn := oB.fI (n, _) List.mem_cons_self
   simp only at hgn
   simp -dsimp -implicitDefEqProofs only [go_sem, ↓reduceIte, Tryz.f72, hgn, gm, sm, aF, aU, kF.flat, kF.one]
   repeat' (with_reducible first | intro _ | refine And.intro ?_ ?_)
   all_goals try omega
   have tY : kE h g L0 (((n, .row 1 (OV.cells A2 ++ [.v pJ.val] :: OV.cells B)) :: (OV.bP A2)) ++ (pJ.rows ++ (OV.bP B))) := by simpa only [List.append_assoc, List.cons_append, List.nil_append, List.append_nil, OV.bL, OV.cF, OV.c8, bB, bH, bJ, b6, aP, aT, OV.aS] using oB
   refine aJ.iF ((rG l[i]) pJ (kk) _ kF (by omega) (by omega) tY.fI.right.left (jC (tY.nodup nd))) ?_
   rintro r g0 ⟨rfl, aF2⟩
   have hr0 := tY.trans (kE.mid tY.fI (tY.nodup nd) aF2)
   have aJL := hr0.fI (n, _) List.mem_cons_self
   simp only at aJL
   have oD : ∃ z : Int, z = kk + (pJ.ct : Int) := ⟨_, rfl⟩
   obtain ⟨kk0, oD⟩ := oD
   rw [← oD]
   simp -dsimp -implicitDefEqProofs only [go_sem, ↓reduceIte, Tryz.f72, aJL, gm, sm, aF, aU, kF.flat, kF.one]
   refine ⟨(i + 1, g0), ?_⟩
   simp only [t3, t4, jX, wR]
   refine ⟨?_, aB.le_refl _, ⟨by omega, ?_⟩, by omega⟩
   ·repeat' (with_reducible refine And.intro ?_ ?_)
    all_goals first | rfl | trivial | omega | (rw [IntWalk.i64_in _ (by omega)]; omega)
   ·simpa only [List.append_assoc, List.cons_append, List.nil_append, List.append_nil, OV.bL, OV.cF, OV.c8, bB, bH, bJ, b6, aP, aT, OV.aS, kF.mk_val, oD] using hr0
  ·have vK : i = es.length := by omega
   subst vK
   rw [List.take_length, List.drop_length, List.append_nil] at hc
   rw [List.take_length]
   simp -dsimp -implicitDefEqProofs only [go_sem, ↓reduceIte, Tryz.f72, Int.lt_irrefl, Nat.lt_irrefl]
   try intro _
   refine ⟨g, aB.le_refl _, ?_⟩
   first | exact hc | exact ⟨rfl, hc⟩
@[go_sem] def bCQ : List Nat := [0, 1, 2, 4]
@[go_sem] def bQJ : List Nat := [2]
@[go_sem] def bQK : Marks := fun _ => ([], .nil, [])
theorem a04 (x : e7) : a0W Tryz.prog 33 x.o := by
 intro e k h he h0 h1 ho nd
 obtain ⟨pJ, w6, s6, rfl, kF, oE, mI⟩ := he
 simp only [OV.iM, OV.jQ, OV.vV, OV.iN, OV.jR, OV.vW, Nat.add_zero, Nat.zero_add, eU, Int.add_zero, Int.zero_add, kF.oY, kF.pI, oE.oY, oE.pI, mI.oY, mI.pI] at h1 ⊢
 have oB := kE.refl ho
 simp only [List.append_assoc, List.cons_append, List.nil_append, List.append_nil, OV.bL, OV.cF, OV.c8, bB, bH, bJ, b6, aP, aT, OV.aS] at oB nd ⊢
 obtain ⟨L0, hL0⟩ : ∃ L : List (Nat × bM), L = (pJ.rows ++ (w6.rows ++ (s6.rows))) := ⟨_, rfl⟩
 replace oB : kE h h L0 (pJ.rows ++ (w6.rows ++ (s6.rows))) := by rw [hL0]; exact oB
 rw [← hL0] at nd ⊢
 refine wJ 18 bCQ bQJ bQK mix Tryz.func33 rfl (by kernel_rfl) (by simp) ?_
 simp -dsimp -implicitDefEqProofs only [go_sem, ↓reduceIte, Tryz.f33, OV.aO, OV.aE, OV.aS, kF.flat, kF.one, oE.flat, oE.one, mI.flat, mI.one]
 have tY : kE h h L0 ((([] : List (Nat × bM))) ++ ((pJ.rows) ++ (w6.rows ++ s6.rows))) := by simpa only [List.append_assoc, List.cons_append, List.nil_append, List.append_nil, OV.bL, OV.cF, OV.c8, bB, bH, bJ, b6, aP, aT, OV.aS] using oB
 have zO := aNR x.bN [pJ] (k) h ⟨pJ, rfl, kF⟩ (by omega) (by simp only [OV.iM, OV.jQ, OV.vV, OV.iN, OV.jR, OV.vW, Nat.add_zero, Nat.zero_add, eU, Int.add_zero, Int.zero_add, kF.oY, kF.pI, oE.oY, oE.pI, mI.oY, mI.pI]; omega) (by simpa only [List.append_assoc, List.cons_append, List.nil_append, List.append_nil, OV.bL, OV.cF, OV.c8, bB, bH, bJ, b6, aP, aT, OV.aS] using tY.fI.right.left) (by simpa only [List.append_assoc, List.cons_append, List.nil_append, List.append_nil, OV.bL, OV.cF, OV.c8, bB, bH, bJ, b6, aP, aT, OV.aS] using jC (tY.nodup nd))
 simp only [OV.iM, OV.jQ, OV.vV, OV.iN, OV.jR, OV.vW, Nat.add_zero, Nat.zero_add, eU, Int.add_zero, Int.zero_add, kF.oY, kF.pI, oE.oY, oE.pI, mI.oY, mI.pI, List.append_assoc, List.cons_append, List.nil_append, List.append_nil, OV.bL, OV.cF, OV.c8, bB, bH, bJ, b6, aP, aT, OV.aS, OV.aO, OV.aE, Int.natCast_add, ← Int.add_assoc] at zO
 refine aJ.iF zO ?_
 rintro r g0 ⟨rfl, aF2⟩
 have hr0 := tY.trans (kE.mid tY.fI (tY.nodup nd) (by simpa only [List.append_assoc, List.cons_append, List.nil_append, List.append_nil, OV.bL, OV.cF, OV.c8, bB, bH, bJ, b6, aP, aT, OV.aS] using aF2))
 simp -dsimp -implicitDefEqProofs only [go_sem, ↓reduceIte, Tryz.f33, OV.aO, OV.aE, OV.aS, kF.flat, kF.one, oE.flat, oE.one, mI.flat, mI.one]
 have hp1 : kE h g0 L0 (((pJ.mk (k)).rows) ++ ((w6.rows) ++ (s6.rows))) := by simpa only [List.append_assoc, List.cons_append, List.nil_append, List.append_nil, OV.bL, OV.cF, OV.c8, bB, bH, bJ, b6, aP, aT, OV.aS] using hr0
 refine aJ.iF (rG x.cX w6 (k + (pJ.ct : Int)) _ oE (by omega) (by omega) hp1.fI.right.left (jC (hp1.nodup nd))) ?_
 rintro r g1 ⟨rfl, bCR⟩
 have hr1 := hp1.trans (kE.mid hp1.fI (hp1.nodup nd) (by simpa only [List.append_assoc, List.cons_append, List.nil_append, List.append_nil, OV.bL, OV.cF, OV.c8, bB, bH, bJ, b6, aP, aT, OV.aS] using bCR))
 simp -dsimp -implicitDefEqProofs only [go_sem, ↓reduceIte, Tryz.f33, OV.aO, OV.aE, OV.aS, kF.flat, kF.one, oE.flat, oE.one, mI.flat, mI.one]
 have hp2 : kE h g1 L0 (((pJ.mk (k)).rows ++ (w6.mk (k + (pJ.ct : Int))).rows) ++ ((s6.rows) ++ (([] : List (Nat × bM))))) := by simpa only [List.append_assoc, List.cons_append, List.nil_append, List.append_nil, OV.bL, OV.cF, OV.c8, bB, bH, bJ, b6, aP, aT, OV.aS] using hr1
 refine aJ.iF (aNU x.bO s6 (k + (pJ.ct : Int) + (w6.ct : Int)) _ mI (by omega) (by omega) hp2.fI.right.left (jC (hp2.nodup nd))) ?_
 rintro r g2 ⟨rfl, bCS⟩
 have hr2 := hp2.trans (kE.mid hp2.fI (hp2.nodup nd) (by simpa only [List.append_assoc, List.cons_append, List.nil_append, List.append_nil, OV.bL, OV.cF, OV.c8, bB, bH, bJ, b6, aP, aT, OV.aS] using bCS))
 simp -dsimp -implicitDefEqProofs only [go_sem, ↓reduceIte, Tryz.f33, OV.aO, OV.aE, OV.aS, kF.flat, kF.one, oE.flat, oE.one, mI.flat, mI.one]
 refine ⟨g2, aB.le_refl _, ?_⟩
 first
  |exact ⟨by congr 1; omega, by simpa only [List.append_assoc, List.cons_append, List.nil_append, List.append_nil, OV.bL, OV.cF, OV.c8, bB, bH, bJ, b6, aP, aT, OV.aS, Int.natCast_add, ← Int.add_assoc] using hr2⟩
  |exact ⟨by omega, by simpa only [List.append_assoc, List.cons_append, List.nil_append, List.append_nil, OV.bL, OV.cF, OV.c8, bB, bH, bJ, b6, aP, aT, OV.aS, Int.natCast_add, ← Int.add_assoc] using hr2⟩
  |simpa only [List.append_assoc, List.cons_append, List.nil_append, List.append_nil, OV.bL, OV.cF, OV.c8, bB, bH, bJ, b6, aP, aT, OV.aS, Int.natCast_add, ← Int.add_assoc] using hr2
@[go_sem] def aNV : List Nat := [0, 1, 4, 5, 9]
@[go_sem] def a5U : List Nat := []
@[go_sem] def a5V : Marks := fun _ => ([], .nil, [])
theorem aTF (l : List Bool) : aG8 Tryz.prog 34 (OS (oP aD.bool) 1 l) := by
 intro y k h hy h0 h1 ho nd
 rcases hy with ⟨rfl, hl⟩ | ⟨n, es, rfl, hor⟩
 ·rw [OV.pO, OV.lY, OV.rP, OV.pZ]
  refine wJ 21 aNV a5U a5V mix Tryz.func34 rfl (by kernel_rfl) (by simp) ?_
  simp -dsimp -implicitDefEqProofs only [go_sem, ↓reduceIte, Tryz.f34]
  refine cS (keep := aNV) (ib := a5U) (mk := a5V) mix (by kernel_rfl) (fun _ : Unit => [(0, .sl 1 [] true), (1, I k), (5, I 0)]) (fun _ => h) (fun _ => True) (fun _ => 0) () (by simp [dA, cH, aB.le_refl]) ?_
  intro _ _
  simp -dsimp -implicitDefEqProofs only [go_sem, ↓reduceIte, Tryz.f34, eU, Int.lt_irrefl]
  try intro _
  refine ⟨h, aB.le_refl _, ?_⟩
  first | exact kE.refl (by simp [fJ]) | exact ⟨by simp, kE.refl (by simp [fJ])⟩
 ·rw [OV.tW, OV.eV, OV.eV, OV.mO, OV.p9]
  rw [OV.mO] at h1
  rw [OV.eV] at ho nd
  generalize hL0 : (n, bM.row 1 (OV.cells es)) :: OV.bP es = L0 at nd ⊢
  refine wJ 21 aNV a5U a5V mix Tryz.func34 rfl (by kernel_rfl) (by simp) ?_
  simp -dsimp -implicitDefEqProofs only [go_sem, ↓reduceIte, Tryz.f34]
  refine cS (keep := aNV) (ib := a5U) (mk := a5V) mix (by kernel_rfl) (fun x : Nat × aB => [(0, .os n 1 0 es.length), (1, I (k + OV.cV (es.take x.1))), (5, I x.1)]) (fun x => x.2) (fun x => x.1 ≤ es.length ∧ kE h x.2 L0 ((n, .row 1 (OV.cells (OV.cE k (es.take x.1) ++ es.drop x.1))) :: OV.bP (OV.cE k (es.take x.1) ++ es.drop x.1))) (fun x => es.length - x.1) (0, h) (by
   refine ⟨by simp [dA, cH, OV.cV], aB.le_refl _, Nat.zero_le _, ?_⟩
   rw [← hL0]
   simpa [OV.cE] using kE.refl ho) ?_
  rintro ⟨i, g⟩ ⟨hi, hc⟩
  simp only at hi hc ⊢
  rcases Nat.lt_or_ge i es.length with hlt | hge
  ·have hll : i < l.length := by rw [hor.length]; exact hlt
   obtain ⟨A, e, B, rfl, hA, he⟩ := hor.split i hll
   have t1 : (A ++ e :: B).take i = A := by rw [← hA]; simp
   have t2 : (A ++ e :: B).drop i = e :: B := by rw [← hA]; simp
   have t0 : A ++ e :: B = (A ++ [e]) ++ B := by simp
   have t3 : (A ++ e :: B).take (i + 1) = A ++ [e] := by rw [t0]; exact List.take_left' (by simp [hA])
   have t4 : (A ++ e :: B).drop (i + 1) = B := by rw [t0]; exact List.drop_left' (by simp [hA])
   clear t0
   have hct := OV.fF A (e :: B)
   rw [OV.cV] at hct
   rw [t1, t2] at hc
   rw [t1]
   have hA2 : (OV.cells (OV.cE k A)).length = i := by rw [OV.cells, List.length_map, OV.e6, hA]
   have jX := OV.rF k A e
   have wR := OV.iU A e
   obtain rfl : _ = _ := he
   simp only [OV.jV, OV.k5, OV.vJ, Nat.add_zero, OV.jW, OV.k6, OV.aHN, nD, k7, nE, iZ] at hct jX wR
   generalize hkk : k + (OV.cV A : Int) = kk at jX ⊢
   generalize OV.cE k A = A2 at jX hc hA2
   have gm : ∀ (c : List Cell) (Y : List (List Cell)), (OV.cells A2 ++ c :: Y)[i]? = some c := fun c Y => p0 hA2
   have sm : ∀ (c c2 : List Cell) (Y : List (List Cell)), (OV.cells A2 ++ c :: Y).set i c2 = OV.cells A2 ++ c2 :: Y := fun c c2 Y => aBA hA2
   have oB := hc
   simp only [List.append_assoc, List.cons_append, List.nil_append, List.append_nil, OV.bL, OV.cF, OV.c8, bB, bH, bJ, b6, aP, aT, OV.aS] at oB
   have hgn := oB.fI (n, _) List.mem_cons_self
   simp only at hgn
   have l6 : IntKind.i64.wrap (kk + 1) = kk + 1 := IntWalk.i64_in _ (by omega)
   simp -dsimp -implicitDefEqProofs only [go_sem, ↓reduceIte, Tryz.f34, hgn, gm, sm, aF, aU, l6]
   repeat' (with_reducible first | intro _ | refine And.intro ?_ ?_)
   all_goals try omega
   have hq0 := oB.trans (kE.set (o' := .row 1 (OV.cells A2 ++ [.v (.bool (decide ((kk).tmod 3 = 0)))] :: OV.cells B)) oB.fI (oB.nodup nd))
   have hg0 : bK g n (.row 1 (OV.cells A2 ++ [.v (.bool (decide ((kk).tmod 3 = 0)))] :: OV.cells B)) n = some (.row 1 (OV.cells A2 ++ [.v (.bool (decide ((kk).tmod 3 = 0)))] :: OV.cells B)) := aU _ _ _
   refine ⟨(i + 1, (bK g n (.row 1 (OV.cells A2 ++ [.v (.bool (decide ((kk).tmod 3 = 0)))] :: OV.cells B)))), ?_⟩
   simp only [t3, t4, jX, wR]
   refine ⟨?_, aB.le_refl _, ⟨by omega, ?_⟩, by omega⟩
   ·repeat' (with_reducible refine And.intro ?_ ?_)
    all_goals first | rfl | trivial | omega | (rw [IntWalk.i64_in _ (by omega)]; omega)
   ·simpa only [List.append_assoc, List.cons_append, List.nil_append, List.append_nil, OV.bL, OV.cF, OV.c8, bB, bH, bJ, b6, aP, aT, OV.aS] using hq0
  ·have vK : i = es.length := by omega
   subst vK
   rw [List.take_length, List.drop_length, List.append_nil] at hc
   rw [List.take_length]
   simp -dsimp -implicitDefEqProofs only [go_sem, ↓reduceIte, Tryz.f34, Int.lt_irrefl, Nat.lt_irrefl]
   try intro _
   refine ⟨g, aB.le_refl _, ?_⟩
   first | exact hc | exact ⟨rfl, hc⟩
@[go_sem] def aNW : List Nat := [0, 1, 4, 5, 9]
@[go_sem] def a5W : List Nat := []
@[go_sem] def a5X : Marks := fun _ => ([], .nil, [])
theorem aTG (l : List bI) : aG8 Tryz.prog 35 (OS bI.o 3 l) := by
 intro y k h hy h0 h1 ho nd
 rcases hy with ⟨rfl, hl⟩ | ⟨n, es, rfl, hor⟩
 ·rw [OV.pO, OV.lY, OV.rP, OV.pZ]
  refine wJ 34 aNW a5W a5X mix Tryz.func35 rfl (by kernel_rfl) (by simp) ?_
  simp -dsimp -implicitDefEqProofs only [go_sem, ↓reduceIte, Tryz.f35]
  refine cS (keep := aNW) (ib := a5W) (mk := a5X) mix (by kernel_rfl) (fun _ : Unit => [(0, .sl 3 [] true), (1, I k), (5, I 0)]) (fun _ => h) (fun _ => True) (fun _ => 0) () (by simp [dA, cH, aB.le_refl]) ?_
  intro _ _
  simp -dsimp -implicitDefEqProofs only [go_sem, ↓reduceIte, Tryz.f35, eU, Int.lt_irrefl]
  try intro _
  refine ⟨h, aB.le_refl _, ?_⟩
  first | exact kE.refl (by simp [fJ]) | exact ⟨by simp, kE.refl (by simp [fJ])⟩
 ·rw [OV.tW, OV.eV, OV.eV, OV.mO, OV.p9]
  rw [OV.mO] at h1
  rw [OV.eV] at ho nd
  generalize hL0 : (n, bM.row 3 (OV.cells es)) :: OV.bP es = L0 at nd ⊢
  refine wJ 34 aNW a5W a5X mix Tryz.func35 rfl (by kernel_rfl) (by simp) ?_
  simp -dsimp -implicitDefEqProofs only [go_sem, ↓reduceIte, Tryz.f35]
  refine cS (keep := aNW) (ib := a5W) (mk := a5X) mix (by kernel_rfl) (fun x : Nat × aB => [(0, .os n 3 0 es.length), (1, I (k + OV.cV (es.take x.1))), (5, I x.1)]) (fun x => x.2) (fun x => x.1 ≤ es.length ∧ kE h x.2 L0 ((n, .row 3 (OV.cells (OV.cE k (es.take x.1) ++ es.drop x.1))) :: OV.bP (OV.cE k (es.take x.1) ++ es.drop x.1))) (fun x => es.length - x.1) (0, h) (by
   refine ⟨by simp [dA, cH, OV.cV], aB.le_refl _, Nat.zero_le _, ?_⟩
   rw [← hL0]
   simpa [OV.cE] using kE.refl ho) ?_
  rintro ⟨i, g⟩ ⟨hi, hc⟩
  simp only at hi hc ⊢
  rcases Nat.lt_or_ge i es.length with hlt | hge
  ·have hll : i < l.length := by rw [hor.length]; exact hlt
   obtain ⟨A, e, B, rfl, hA, he⟩ := hor.split i hll
   have t1 : (A ++ e :: B).take i = A := by rw [← hA]; simp
   have t2 : (A ++ e :: B).drop i = e :: B := by rw [← hA]; simp
   have t0 : A ++ e :: B = (A ++ [e]) ++ B := by simp
   have t3 : (A ++ e :: B).take (i + 1) = A ++ [e] := by rw [t0]; exact List.take_left' (by simp [hA])
   have t4 : (A ++ e :: B).drop (i + 1) = B := by rw [t0]; exact List.drop_left' (by simp [hA])
   clear t0
   have hct := OV.fF A (e :: B)
   rw [OV.cV] at hct
   rw [t1, t2] at hc
   rw [t1]
   have hA2 : (OV.cells (OV.cE k A)).length = i := by rw [OV.cells, List.length_map, OV.e6, hA]
   have jX := OV.rF k A e
   have wR := OV.iU A e
   obtain ⟨zM, rfl, o_2⟩ := he
   simp only [OV.jV, OV.k5, OV.vJ, Nat.add_zero, OV.jW, OV.k6, OV.aHN, nD, k7, nE, iZ] at hct jX wR
   generalize hkk : k + (OV.cV A : Int) = kk at jX ⊢
   generalize OV.cE k A = A2 at jX hc hA2
   have gm : ∀ (c : List Cell) (Y : List (List Cell)), (OV.cells A2 ++ c :: Y)[i]? = some c := fun c Y => p0 hA2
   have sm : ∀ (c c2 : List Cell) (Y : List (List Cell)), (OV.cells A2 ++ c :: Y).set i c2 = OV.cells A2 ++ c2 :: Y := fun c c2 Y => aBA hA2
   have oB := hc
   simp only [List.append_assoc, List.cons_append, List.nil_append, List.append_nil, OV.bL, OV.cF, OV.c8, bB, bH, bJ, b6, aP, aT, OV.aS] at oB
   have hgn := oB.fI (n, _) List.mem_cons_self
   simp only at hgn
   have l6 : IntKind.i64.wrap (kk + 1) = kk + 1 := IntWalk.i64_in _ (by omega)
   have rQ : IntKind.i64.wrap (kk + 1 + 1) = kk + 1 + 1 := IntWalk.i64_in _ (by omega)
   simp -dsimp -implicitDefEqProofs only [go_sem, ↓reduceIte, Tryz.f35, hgn, gm, sm, aF, aU, o_2.flat, o_2.one, l6, rQ]
   repeat' (with_reducible first | intro _ | refine And.intro ?_ ?_)
   all_goals try omega
   have hq0 := oB.trans (kE.set (o' := .row 3 (OV.cells A2 ++ [.v (.int .i64 (kk)), .v (.int .i64 (kk + 1)), .v zM.val] :: OV.cells B)) oB.fI (oB.nodup nd))
   have hg0 : bK g n (.row 3 (OV.cells A2 ++ [.v (.int .i64 (kk)), .v (.int .i64 (kk + 1)), .v zM.val] :: OV.cells B)) n = some (.row 3 (OV.cells A2 ++ [.v (.int .i64 (kk)), .v (.int .i64 (kk + 1)), .v zM.val] :: OV.cells B)) := aU _ _ _
   have tY : kE h (bK g n (.row 3 (OV.cells A2 ++ [.v (.int .i64 (kk)), .v (.int .i64 (kk + 1)), .v zM.val] :: OV.cells B))) L0 (((n, .row 3 (OV.cells A2 ++ [.v (.int .i64 (kk)), .v (.int .i64 (kk + 1)), .v zM.val] :: OV.cells B)) :: (OV.bP A2)) ++ (zM.rows ++ (OV.bP B))) := by simpa only [List.append_assoc, List.cons_append, List.nil_append, List.append_nil, OV.bL, OV.cF, OV.c8, bB, bH, bJ, b6, aP, aT, OV.aS] using hq0
   refine aJ.iF ((rG l[i].iJ) zM (kk + 1 + 1) _ o_2 (by omega) (by omega) tY.fI.right.left (jC (tY.nodup nd))) ?_
   rintro r g0 ⟨rfl, aF2⟩
   have hr0 := tY.trans (kE.mid tY.fI (tY.nodup nd) aF2)
   have aJL := hr0.fI (n, _) List.mem_cons_self
   simp only at aJL
   have oD : ∃ z : Int, z = kk + 1 + 1 + (zM.ct : Int) := ⟨_, rfl⟩
   obtain ⟨kk0, oD⟩ := oD
   rw [← oD]
   simp -dsimp -implicitDefEqProofs only [go_sem, ↓reduceIte, Tryz.f35, aJL, gm, sm, aF, aU, o_2.flat, o_2.one, l6, rQ]
   refine ⟨(i + 1, g0), ?_⟩
   simp only [t3, t4, jX, wR]
   refine ⟨?_, aB.le_refl _, ⟨by omega, ?_⟩, by omega⟩
   ·repeat' (with_reducible refine And.intro ?_ ?_)
    all_goals first | rfl | trivial | omega | (rw [IntWalk.i64_in _ (by omega)]; omega)
   ·simpa only [List.append_assoc, List.cons_append, List.nil_append, List.append_nil, OV.bL, OV.cF, OV.c8, bB, bH, bJ, b6, aP, aT, OV.aS, o_2.mk_val, oD] using hr0
  ·have vK : i = es.length := by omega
   subst vK
   rw [List.take_length, List.drop_length, List.append_nil] at hc
   rw [List.take_length]
   simp -dsimp -implicitDefEqProofs only [go_sem, ↓reduceIte, Tryz.f35, Int.lt_irrefl, Nat.lt_irrefl]
   try intro _
   refine ⟨g, aB.le_refl _, ?_⟩
   first | exact hc | exact ⟨rfl, hc⟩
@[go_sem] def bCT : List Nat := [0, 1, 2, 4]
@[go_sem] def bQM : List Nat := [2]
@[go_sem] def bQN : Marks := fun _ => ([], .nil, [])
theorem aD9 (x : aR) : a0W Tryz.prog 11 x.o := by
 intro e k h he h0 h1 ho nd
 obtain ⟨pJ, w6, s6, y_5, y_6, y_7, y_8, rfl, kF, oE, mI, xZ, x5, x6, x7⟩ := he
 simp only [OV.iM, OV.jQ, OV.vV, OV.iN, OV.jR, OV.vW, Nat.add_zero, Nat.zero_add, eU, Int.add_zero, Int.zero_add, kF.oY, kF.pI, oE.oY, oE.pI, mI.oY, mI.pI, xZ.oY, xZ.pI, x5.oY, x5.pI, x6.oY, x6.pI, x7.oY, x7.pI] at h1 ⊢
 have oB := kE.refl ho
 simp only [List.append_assoc, List.cons_append, List.nil_append, List.append_nil, OV.bL, OV.cF, OV.c8, bB, bH, bJ, b6, aP, aT, OV.aS] at oB nd ⊢
 obtain ⟨L0, hL0⟩ : ∃ L : List (Nat × bM), L = (pJ.rows ++ (w6.rows ++ (s6.rows ++ (y_5.rows ++ (y_6.rows ++ (y_7.rows ++ (y_8.rows))))))) := ⟨_, rfl⟩
 replace oB : kE h h L0 (pJ.rows ++ (w6.rows ++ (s6.rows ++ (y_5.rows ++ (y_6.rows ++ (y_7.rows ++ (y_8.rows))))))) := by rw [hL0]; exact oB
 rw [← hL0] at nd ⊢
 refine wJ 26 bCT bQM bQN mix Tryz.func11 rfl (by kernel_rfl) (by simp) ?_
 simp -dsimp -implicitDefEqProofs only [go_sem, ↓reduceIte, Tryz.f11, OV.aO, OV.aE, OV.aS, kF.flat, kF.one, oE.flat, oE.one, mI.flat, mI.one, xZ.flat, xZ.one, x5.flat, x5.one, x6.flat, x6.one, x7.flat, x7.one]
 have tY : kE h h L0 ((([] : List (Nat × bM))) ++ ((pJ.rows ++ (w6.rows ++ (s6.rows))) ++ (y_5.rows ++ y_6.rows ++ y_7.rows ++ y_8.rows))) := by simpa only [List.append_assoc, List.cons_append, List.nil_append, List.append_nil, OV.bL, OV.cF, OV.c8, bB, bH, bJ, b6, aP, aT, OV.aS] using oB
 have zO := a04 x.bF [pJ, .v (.int .i64 x.bF.b8), .v (.int .i64 x.bF.aX), w6, s6] (k) h ⟨pJ, w6, s6, rfl, kF, oE, mI⟩ (by omega) (by simp only [OV.iM, OV.jQ, OV.vV, OV.iN, OV.jR, OV.vW, Nat.add_zero, Nat.zero_add, eU, Int.add_zero, Int.zero_add, kF.oY, kF.pI, oE.oY, oE.pI, mI.oY, mI.pI, xZ.oY, xZ.pI, x5.oY, x5.pI, x6.oY, x6.pI, x7.oY, x7.pI]; omega) (by simpa only [List.append_assoc, List.cons_append, List.nil_append, List.append_nil, OV.bL, OV.cF, OV.c8, bB, bH, bJ, b6, aP, aT, OV.aS] using tY.fI.right.left) (by simpa only [List.append_assoc, List.cons_append, List.nil_append, List.append_nil, OV.bL, OV.cF, OV.c8, bB, bH, bJ, b6, aP, aT, OV.aS] using jC (tY.nodup nd))
 simp only [OV.iM, OV.jQ, OV.vV, OV.iN, OV.jR, OV.vW, Nat.add_zero, Nat.zero_add, eU, Int.add_zero, Int.zero_add, kF.oY, kF.pI, oE.oY, oE.pI, mI.oY, mI.pI, xZ.oY, xZ.pI, x5.oY, x5.pI, x6.oY, x6.pI, x7.oY, x7.pI, List.append_assoc, List.cons_append, List.nil_append, List.append_nil, OV.bL, OV.cF, OV.c8, bB, bH, bJ, b6, aP, aT, OV.aS, OV.aO, OV.aE, Int.natCast_add, ← Int.add_assoc] at zO
 refine aJ.iF zO ?_
 rintro r g0 ⟨rfl, aF2⟩
 have hr0 := tY.trans (kE.mid tY.fI (tY.nodup nd) (by simpa only [List.append_assoc, List.cons_append, List.nil_append, List.append_nil, OV.bL, OV.cF, OV.c8, bB, bH, bJ, b6, aP, aT, OV.aS] using aF2))
 simp -dsimp -implicitDefEqProofs only [go_sem, ↓reduceIte, Tryz.f11, OV.aO, OV.aE, OV.aS, kF.flat, kF.one, oE.flat, oE.one, mI.flat, mI.one, xZ.flat, xZ.one, x5.flat, x5.one, x6.flat, x6.one, x7.flat, x7.one]
 have hp1 : kE h g0 L0 (((pJ.mk (k)).rows ++ (w6.mk (k + (pJ.ct : Int))).rows ++ (s6.mk (k + (pJ.ct : Int) + (w6.ct : Int))).rows) ++ ((y_5.rows) ++ (y_6.rows ++ y_7.rows ++ y_8.rows))) := by simpa only [List.append_assoc, List.cons_append, List.nil_append, List.append_nil, OV.bL, OV.cF, OV.c8, bB, bH, bJ, b6, aP, aT, OV.aS] using hr0
 refine aJ.iF (rG x.aY y_5 (k + (pJ.ct : Int) + (w6.ct : Int) + (s6.ct : Int)) _ xZ (by omega) (by omega) hp1.fI.right.left (jC (hp1.nodup nd))) ?_
 rintro r g1 ⟨rfl, bCR⟩
 have hr1 := hp1.trans (kE.mid hp1.fI (hp1.nodup nd) (by simpa only [List.append_assoc, List.cons_append, List.nil_append, List.append_nil, OV.bL, OV.cF, OV.c8, bB, bH, bJ, b6, aP, aT, OV.aS] using bCR))
 simp -dsimp -implicitDefEqProofs only [go_sem, ↓reduceIte, Tryz.f11, OV.aO, OV.aE, OV.aS, kF.flat, kF.one, oE.flat, oE.one, mI.flat, mI.one, xZ.flat, xZ.one, x5.flat, x5.one, x6.flat, x6.one, x7.flat, x7.one]
 have hp2 : kE h g1 L0 (((pJ.mk (k)).rows ++ (w6.mk (k + (pJ.ct : Int))).rows ++ (s6.mk (k + (pJ.ct : Int) + (w6.ct : Int))).rows ++ (y_5.mk (k + (pJ.ct : Int) + (w6.ct : Int) + (s6.ct : Int))).rows) ++ ((y_6.rows) ++ (y_7.rows ++ y_8.rows))) := by simpa only [List.append_assoc, List.cons_append, List.nil_append, List.append_nil, OV.bL, OV.cF, OV.c8, bB, bH, bJ, b6, aP, aT, OV.aS] using hr1
 refine aJ.iF (aTF x.cB y_6 (k + (pJ.ct : Int) + (w6.ct : Int) + (s6.ct : Int) + (y_5.ct : Int)) _ x5 (by omega) (by omega) hp2.fI.right.left (jC (hp2.nodup nd))) ?_
 rintro r g2 ⟨rfl, bCS⟩
 have hr2 := hp2.trans (kE.mid hp2.fI (hp2.nodup nd) (by simpa only [List.append_assoc, List.cons_append, List.nil_append, List.append_nil, OV.bL, OV.cF, OV.c8, bB, bH, bJ, b6, aP, aT, OV.aS] using bCS))
 simp -dsimp -implicitDefEqProofs only [go_sem, ↓reduceIte, Tryz.f11, OV.aO, OV.aE, OV.aS, kF.flat, kF.one, oE.flat, oE.one, mI.flat, mI.one, xZ.flat, xZ.one, x5.flat, x5.one, x6.flat, x6.one, x7.flat, x7.one]
 have hp3 : kE h g2 L0 (((pJ.mk (k)).rows ++ (w6.mk (k + (pJ.ct : Int))).rows ++ (s6.mk (k + (pJ.ct : Int) + (w6.ct : Int))).rows ++ (y_5.mk (k + (pJ.ct : Int) + (w6.ct : Int) + (s6.ct : Int))).rows ++ (y_6.mk (k + (pJ.ct : Int) + (w6.ct : Int) + (s6.ct : Int) + (y_5.ct : Int))).rows) ++ ((y_7.rows) ++ (y_8.rows))) := by simpa only [List.append_assoc, List.cons_append, List.nil_append, List.append_nil, OV.bL, OV.cF, OV.c8, bB, bH, bJ, b6, aP, aT, OV.aS] using hr2
 refine aJ.iF (aTG x.b7 y_7 (k + (pJ.ct : Int) + (w6.ct : Int) + (s6.ct : Int) + (y_5.ct : Int) + (y_6.ct : Int)) _ x6 (by omega) (by omega) hp3.fI.right.left (jC (hp3.nodup nd))) ?_
 rintro r g3 ⟨rfl, bQO⟩
 have hr3 := hp3.trans (kE.mid hp3.fI (hp3.nodup nd) (by simpa only [List.append_assoc, List.cons_append, List.nil_append, List.append_nil, OV.bL, OV.cF, OV.c8, bB, bH, bJ, b6, aP, aT, OV.aS] using bQO))
 simp -dsimp -implicitDefEqProofs only [go_sem, ↓reduceIte, Tryz.f11, OV.aO, OV.aE, OV.aS, kF.flat, kF.one, oE.flat, oE.one, mI.flat, mI.one, xZ.flat, xZ.one, x5.flat, x5.one, x6.flat, x6.one, x7.flat, x7.one]
 have hp4 : kE h g3 L0 (((pJ.mk (k)).rows ++ (w6.mk (k + (pJ.ct : Int))).rows ++ (s6.mk (k + (pJ.ct : Int) + (w6.ct : Int))).rows ++ (y_5.mk (k + (pJ.ct : Int) + (w6.ct : Int) + (s6.ct : Int))).rows ++ (y_6.mk (k + (pJ.ct : Int) + (w6.ct : Int) + (s6.ct : Int) + (y_5.ct : Int))).rows ++ (y_7.mk (k + (pJ.ct : Int) + (w6.ct : Int) + (s6.ct : Int) + (y_5.ct : Int) + (y_6.ct : Int))).rows) ++ ((y_8.rows) ++ (([] : List (Nat × bM))))) := by simpa only [List.append_assoc, List.cons_append, List.nil_append, List.append_nil, OV.bL, OV.cF, OV.c8, bB, bH, bJ, b6, aP, aT, OV.aS] using hr3
 refine aJ.iF (rG x.b9 y_8 (k + (pJ.ct : Int) + (w6.ct : Int) + (s6.ct : Int) + (y_5.ct : Int) + (y_6.ct : Int) + (y_7.ct : Int)) _ x7 (by omega) (by omega) hp4.fI.right.left (jC (hp4.nodup nd))) ?_
 rintro r g4 ⟨rfl, bQP⟩
 have hr4 := hp4.trans (kE.mid hp4.fI (hp4.nodup nd) (by simpa only [List.append_assoc, List.cons_append, List.nil_append, List.append_nil, OV.bL, OV.cF, OV.c8, bB, bH, bJ, b6, aP, aT, OV.aS] using bQP))
 simp -dsimp -implicitDefEqProofs only [go_sem, ↓reduceIte, Tryz.f11, OV.aO, OV.aE, OV.aS, kF.flat, kF.one, oE.flat, oE.one, mI.flat, mI.one, xZ.flat, xZ.one, x5.flat, x5.one, x6.flat, x6.one, x7.flat, x7.one]
 refine ⟨g4, aB.le_refl _, ?_⟩
 first
  |exact ⟨by congr 1; omega, by simpa only [List.append_assoc, List.cons_append, List.nil_append, List.append_nil, OV.bL, OV.cF, OV.c8, bB, bH, bJ, b6, aP, aT, OV.aS, Int.natCast_add, ← Int.add_assoc] using hr4⟩
  |exact ⟨by omega, by simpa only [List.append_assoc, List.cons_append, List.nil_append, List.append_nil, OV.bL, OV.cF, OV.c8, bB, bH, bJ, b6, aP, aT, OV.aS, Int.natCast_add, ← Int.add_assoc] using hr4⟩
  |simpa only [List.append_assoc, List.cons_append, List.nil_append, List.append_nil, OV.bL, OV.cF, OV.c8, bB, bH, bJ, b6, aP, aT, OV.aS, Int.natCast_add, ← Int.add_assoc] using hr4
end Go.Hl

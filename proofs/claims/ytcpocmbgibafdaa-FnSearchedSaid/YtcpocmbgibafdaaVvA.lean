/-
  Contracts of functions and laws of the layer over the walk.
-/
import Derived.Test.YtcpocmbgibafdaaHlD
import Derived.Test.YtcpocmbgibafdaaProg
import Derived.KernelRfl
namespace Go.Hl
open Go.Proofs
set_option linter.unusedVariables false
set_option linter.unusedSimpArgs false
@[go_sem] theorem ty2 : tyR Try.prog 2 = some ⟨1, false, 8, [.int .i64 0], .int .i64⟩ := by kernel_rfl
@[go_sem] theorem ty3 : tyR Try.prog 3 = some ⟨1, false, 8, [.int .i64 0], .int .i64⟩ := by kernel_rfl
@[go_sem] theorem ty5 : tyR Try.prog 5 = some ⟨1, false, 1, [.int .u8 0], .int .u8⟩ := by kernel_rfl
@[go_sem] theorem ty22 : tyR Try.prog 22 = some ⟨1, false, 24, [.nilsl], .slice 2⟩ := by kernel_rfl
@[go_sem] theorem ty28 : tyR Try.prog 28 = some ⟨1, false, 24, [.nilsl], .slice 5⟩ := by kernel_rfl
@[go_sem] theorem ty36 : tyR Try.prog 36 = some ⟨4, true, 80, [.nilsl, .int .i64 0, .nilsl, .nilsl], .st [(0, 22, 1), (1, 2, 1), (2, 22, 1), (3, 22, 1)]⟩ := by kernel_rfl
@[go_sem] theorem ty41 : tyR Try.prog 41 = some ⟨3, true, 24, [.int .i64 0, .int .i64 0, .int .i64 0], .st [(0, 2, 1), (1, 2, 1), (2, 2, 1)]⟩ := by kernel_rfl
@[go_sem] theorem ty42 : tyR Try.prog 42 = some ⟨1, false, 8, [.nilmap], .map 41 2⟩ := by kernel_rfl
@[go_sem] theorem ty43 : tyR Try.prog 43 = some ⟨1, false, 8, [.nilptr], .ptr 47⟩ := by kernel_rfl
@[go_sem] theorem ty45 : tyR Try.prog 45 = some ⟨4, true, 32, [.int .i64 0, .int .i64 0, .int .i64 0, .int .i64 0], .st [(0, 41, 3), (3, 2, 1)]⟩ := by kernel_rfl
@[go_sem] theorem ty47 : tyR Try.prog 47 = some ⟨1, false, 24, [.nilsl], .slice 45⟩ := by kernel_rfl
@[go_sem] theorem ty69 : tyR Try.prog 69 = some ⟨1, false, 8, [.int .u64 0], .int .u64⟩ := by kernel_rfl
@[go_sem] theorem ty71 : tyR Try.prog 71 = some ⟨3, true, 40, [.nilsl, .int .i64 0, .int .u64 0], .st [(0, 28, 1), (1, 3, 1), (2, 69, 1)]⟩ := by kernel_rfl
@[go_sem] theorem ty73 : tyR Try.prog 73 = some ⟨1, false, 8, [.nilmap], .map 76 2⟩ := by kernel_rfl
@[go_sem] theorem ty75 : tyR Try.prog 75 = some ⟨4, true, 48, [.nilsl, .int .i64 0, .nilmap, .nilmap], .st [(0, 22, 1), (1, 2, 1), (2, 73, 1), (3, 73, 1)]⟩ := by kernel_rfl
@[go_sem] theorem ty76 : tyR Try.prog 76 = some ⟨3, true, 24, [.int .i64 0, .int .i64 0, .int .i64 0], .arr 3 2⟩ := by kernel_rfl
theorem mix : Try.prog.follows .mixedOrders = true := by kernel_rfl
abbrev I (n : Int) : HVal := .int .i64 n
abbrev ints (l : List Int) : HVal := .sl 1 (l.map fun n => [I n]) false
abbrev sls {α : Type} (sz : Nat) (c : α → List HVal) (l : List α) : HVal := .sl sz (l.map c) false

def InI (n : Int) : Prop := -9223372036854775808 ≤ n ∧ n ≤ 9223372036854775807
def InB (n : Int) : Prop := 0 ≤ n ∧ n ≤ 255

theorem upd_get (h : Heap) (n m : Nat) (o : HObj) : upd h n o m = if m = n then some o else h m := rfl
theorem valRows_map (l : List (List HVal)) : valRows (l.map (List.map .v)) = l := by
  induction l with
  | nil => rfl
  | cons e l ih =>
    have : valRow (e.map Cell.v) = e := by
      induction e with
      | nil => rfl
      | cons x e ih => simp only [List.map_cons, valRow, Cell.val, ih]
    simp only [valRows, List.map_cons] at ih ⊢
    rw [ih, this]
/-- A row of this function's own, handed back. -/
theorem shift_row {h h' : Heap} {n sz : Nat} (es : List (List HVal)) (h0 : h n = none) (hl : (upd h n (.row sz (es.map (List.map .v)))).le h') (len : Nat) (e : len = es.length) : Shift (.os n sz 0 len) h' (.sl sz es false) h := by
  subst e
  refine (Shift.of (Sub.refl _) hl).trans ((Shift.sealUp (upd_same _ _ _) (by simp [sealOK])).trans ?_)
  have : HVal.sealUp n (valRows (es.map (List.map .v))) (.os n sz 0 es.length) = .sl sz es false := by simp [HVal.sealUp, valRows_map]
  rw [this]
  exact shift_le ((le_upd h0).2 ((le_upd h0).2 (Heap.le_refl h)))

theorem all_step {α : Type} {P : α → Prop} {l : List α} {k : Nat} (h : k < l.length) (hp : ∀ x ∈ l.take k, P x) (he : P l[k]) : ∀ x ∈ l.take (k + 1), P x := by
  rw [List.take_succ_eq_append_getElem h]
  intro x hx
  rcases List.mem_append.1 hx with hx | hx
  · exact hp x hx
  · rw [List.mem_singleton.1 hx]; exact he
/-- The first place where p holds, or -1. -/
def idxOf {α : Type} (p : α → Bool) (l : List α) : Int := match l.findIdx? p with | some i => i | none => -1
theorem idxOf_none {α : Type} {p : α → Bool} {l : List α} (h : ∀ x ∈ l, p x = false) : idxOf p l = -1 := by
  have : l.findIdx? p = none := List.findIdx?_eq_none_iff.2 h
  simp only [idxOf, this]
theorem idxOf_some {α : Type} {p : α → Bool} {l : List α} {k : Nat} (hk : k < l.length) (h : ∀ x ∈ l.take k, p x = false) (he : p l[k] = true) : idxOf p l = k := by
  have : l.findIdx? p = some k := by
    rw [List.findIdx?_eq_some_iff_getElem]
    refine ⟨hk, he, fun j hj => ?_⟩
    have := h l[j] (List.mem_take_iff_getElem.2 ⟨j, by omega, rfl⟩)
    simp [this]
  simp only [idxOf, this]
theorem idxOf_nonneg {α : Type} {p : α → Bool} {l : List α} : decide (0 ≤ idxOf p l) = l.any p := by
  unfold idxOf
  cases h : l.findIdx? p with
  | none =>
    have := List.findIdx?_eq_none_iff.1 h
    simp only
    rw [Bool.eq_false_iff.2 (show l.any p ≠ true from ?_)]
    · simp
    · intro hx
      obtain ⟨x, hx, hp⟩ := List.any_eq_true.1 hx
      rw [this x hx] at hp; cases hp
  | some i =>
    obtain ⟨hi, hp, _⟩ := List.findIdx?_eq_some_iff_getElem.1 h
    have : l.any p = true := List.any_eq_true.2 ⟨_, List.getElem_mem hi, hp⟩
    rw [this]; simp
/-! a heap's order -/
def par (i : Nat) : Nat := (i - 1) / 2
def HeapOK (c : Nat → Int) (n : Nat) : Prop := ∀ i, 0 < i → i < n → c (par i) ≤ c i
def UpOK (c : Nat → Int) (n j : Nat) : Prop := (∀ i, 0 < i → i < n → i ≠ j → c (par i) ≤ c i) ∧ ∀ i, 0 < i → i < n → par i = j → 0 < j → c (par j) ≤ c i
def DownOK (c : Nat → Int) (n j : Nat) : Prop := (∀ i, 0 < i → i < n → par i ≠ j → c (par i) ≤ c i) ∧ ∀ i, 0 < i → i < n → par i = j → 0 < j → c (par j) ≤ c i
def swC (c : Nat → Int) (i j : Nat) : Nat → Int := fun k => if k = i then c j else if k = j then c i else c k
theorem par_lt {i : Nat} (h : 0 < i) : par i < i := by unfold par; omega
theorem HeapOK.root {c : Nat → Int} {n : Nat} (h : HeapOK c n) : ∀ i, i < n → c 0 ≤ c i := by
  intro i
  induction i using Nat.strongRecOn with
  | ind i ih =>
    intro hi
    by_cases h0 : i = 0
    · rw [h0]; exact Int.le_refl _
    · have hp := par_lt (i := i) (by omega)
      exact Int.le_trans (ih _ hp (by omega)) (h i (by omega) hi)
theorem UpOK.done0 {c : Nat → Int} {n : Nat} (h : UpOK c n 0) : HeapOK c n := fun i h0 hi => h.1 i h0 hi (by omega)
theorem UpOK.done {c : Nat → Int} {n j : Nat} (h : UpOK c n j) (hc : c (par j) ≤ c j) : HeapOK c n := fun i h0 hi => by
  by_cases e : i = j
  · rw [e]; exact hc
  · exact h.1 i h0 hi e
theorem UpOK.swap {c : Nat → Int} {n j : Nat} (h : UpOK c n j) (h0 : 0 < j) (hj : j < n) (hc : c j < c (par j)) : UpOK (swC c (par j) j) n (par j) := by
  have hp := par_lt h0
  constructor
  · intro i hi hn hne
    have e0 : par i ≠ i := by have := par_lt hi; omega
    simp only [swC]
    rw [if_neg hne]
    by_cases e1 : i = j
    · subst e1
      rw [if_pos rfl, if_pos rfl]; omega
    · rw [if_neg e1]
      by_cases e2 : par i = par j
      · rw [if_pos e2]
        have := h.1 i hi hn e1
        rw [e2] at this; omega
      · rw [if_neg e2]
        by_cases e3 : par i = j
        · rw [if_pos e3]; exact h.2 i hi hn e3 h0
        · rw [if_neg e3]; exact h.1 i hi hn e1
  · intro i hi hn hpi hpj
    have hpp := par_lt hpj
    simp only [swC]
    rw [if_neg (show ¬ par (par j) = par j by omega), if_neg (show ¬ par (par j) = j by omega)]
    have h1 := h.1 (par j) hpj (by omega) (by omega)
    by_cases e1 : i = j
    · subst e1
      rw [if_neg (show ¬ i = par i by omega), if_pos rfl]; exact h1
    · have e0 : i ≠ par j := by have := par_lt hi; omega
      rw [if_neg e0, if_neg e1]
      have := h.1 i hi hn e1
      rw [hpi] at this; omega
theorem DownOK.leaf {c : Nat → Int} {n j : Nat} (h : DownOK c n j) (hn : n ≤ 2 * j + 1) : HeapOK c n := fun i h0 hi => h.1 i h0 hi (by unfold par; omega)
theorem DownOK.done {c : Nat → Int} {n j : Nat} (h : DownOK c n j) (h1 : 2 * j + 1 < n → c j ≤ c (2 * j + 1)) (h2 : 2 * j + 2 < n → c j ≤ c (2 * j + 2)) : HeapOK c n := fun i h0 hi => by
  by_cases e : par i = j
  · rw [e]
    have : i = 2 * j + 1 ∨ i = 2 * j + 2 := by unfold par at e; omega
    rcases this with e | e
    · rw [e]; exact h1 (by omega)
    · rw [e]; exact h2 (by omega)
  · exact h.1 i h0 hi e
theorem DownOK.swap {c : Nat → Int} {n i j : Nat} (h : DownOK c n i) (hj : par j = i) (h0 : 0 < j) (hn : j < n) (hc : c j < c i) (ho : ∀ k, 0 < k → k < n → par k = i → c j ≤ c k) : DownOK (swC c i j) n j := by
  have hij : i < j := by have := par_lt h0; omega
  constructor
  · intro k hk hkn hne
    have hkp := par_lt hk
    simp only [swC]
    by_cases e : par k = i
    · rw [if_pos e, if_neg (show ¬ k = i by omega)]
      by_cases e1 : k = j
      · rw [if_pos e1]; omega
      · rw [if_neg e1]; exact ho k hk hkn e
    · rw [if_neg e, if_neg hne]
      by_cases e1 : k = i
      · subst e1
        rw [if_pos rfl]
        exact h.2 j h0 hn hj (by omega)
      · rw [if_neg e1]
        by_cases e2 : k = j
        · subst e2; exact absurd hj e
        · rw [if_neg e2]; exact h.1 k hk hkn e
  · intro k hk hkn hpk _
    have hkp := par_lt hk
    simp only [swC]
    rw [hj, if_pos rfl, if_neg (show ¬ k = i by omega), if_neg (show ¬ k = j by omega)]
    have := h.1 k hk hkn (by omega)
    rw [hpk] at this; exact this

/-! searching in a graph -/
structure SS where
  s : Nat
  q : Nat
  left : Nat
  deriving DecidableEq
abbrev It := SS × Int
def cst (l : List It) (i : Nat) : Int := ((l[i]?).map (·.2)).getD 0
def swL (l : List It) (i j : Nat) : List It := match l[i]?, l[j]? with
  | some a, some b => (l.set i b).set j a
  | _, _ => l
theorem swL_eq {l : List It} {i j : Nat} (hi : i < l.length) (hj : j < l.length) : swL l i j = (l.set i l[j]).set j l[i] := by
  simp [swL, List.getElem?_eq_getElem hi, List.getElem?_eq_getElem hj]
theorem swL_len (l : List It) (i j : Nat) : (swL l i j).length = l.length := by
  unfold swL; split <;> simp
theorem swL_perm {l : List It} {i j : Nat} (hi : i < l.length) (hj : j < l.length) : (swL l i j).Perm l := by
  rw [swL_eq hi hj]; exact List.set_set_perm hi hj
theorem cst_sw {l : List It} {i j : Nat} (hi : i < l.length) (hj : j < l.length) (hij : i ≠ j) : cst (swL l i j) = swC (cst l) i j := by
  funext k
  rw [swL_eq hi hj]
  simp only [cst, swC, List.getElem?_set, List.length_set]
  by_cases e1 : k = i
  · subst e1
    simp [Ne.symm hij, hi, List.getElem?_eq_getElem hj]
  · by_cases e2 : k = j
    · subst e2
      simp [e1, hj, List.getElem?_eq_getElem hi]
    · simp [e1, e2, Ne.symm e1, Ne.symm e2]
theorem swL_take {l : List It} {i j n : Nat} (hi : i < n) (hj : j < n) (hn : n ≤ l.length) : (swL l i j).take n = swL (l.take n) i j ∧ (swL l i j).drop n = l.drop n := by
  have a : i < l.length := by omega
  have b : j < l.length := by omega
  rw [swL_eq a b, swL_eq (by simp; omega) (by simp; omega)]
  refine ⟨by simp [List.take_set], ?_⟩
  rw [List.drop_set_of_lt hj, List.drop_set_of_lt hi]

section
variable (st : SS) (succs : SS → List It)
inductive Wlk : SS → Int → Prop
  | start : Wlk st 0
  | step {x : SS} {c : Int} {e : It} (h : Wlk x c) (he : e ∈ succs x) : Wlk e.1 (c + e.2)
structure SInv (b : SS → Option Int) (p E : SS → Int → Prop) : Prop where
  walk : ∀ k d, b k = some d → Wlk st succs k d
  good : ∀ k d, b k = some d → p k d ∨ E k d ∨ ∀ e ∈ succs k, ∃ v, b e.1 = some v ∧ v ≤ d + e.2
  start : ∃ v, b st = some v ∧ v ≤ 0
end
def setB (b : SS → Option Int) (k : SS) (c : Int) : SS → Option Int := fun x => if x = k then some c else b x
def impr (b : SS → Option Int) (k : SS) (c : Int) : Prop := ∀ v, b k = some v → c < v
def leB (b b' : SS → Option Int) : Prop := ∀ x v, b x = some v → ∃ v', b' x = some v' ∧ v' ≤ v
theorem leB_refl (b : SS → Option Int) : leB b b := fun _ v h => ⟨v, h, Int.le_refl _⟩
theorem leB_set {b : SS → Option Int} {k : SS} {c : Int} (h : impr b k c) : leB b (setB b k c) := fun x v hv => by
  unfold setB
  by_cases e : x = k
  · subst e; exact ⟨c, if_pos rfl, Int.le_of_lt (h v hv)⟩
  · exact ⟨v, by rw [if_neg e]; exact hv, Int.le_refl _⟩
theorem SInv.relax {st : SS} {succs : SS → List It} {b : SS → Option Int} {p p' E : SS → Int → Prop} (h : SInv st succs b p E) {k : SS} {c : Int} (hw : Wlk st succs k c) (hi : impr b k c) (hp : ∀ x d, p x d → p' x d) (hk : p' k c) :
    SInv st succs (setB b k c) p' E := by
  have hl := leB_set hi
  refine ⟨fun x d hx => ?_, fun x d hx => ?_, ?_⟩
  · unfold setB at hx
    split at hx
    · rename_i e; cases hx; rw [e]; exact hw
    · exact h.walk x d hx
  · unfold setB at hx
    split at hx
    · rename_i e; cases hx; rw [e]; exact .inl hk
    · rcases h.good x d hx with q | q | q
      · exact .inl (hp _ _ q)
      · exact .inr (.inl q)
      · refine .inr (.inr fun e he => ?_)
        obtain ⟨v, hv, hle⟩ := q e he
        obtain ⟨v', hv', hle'⟩ := hl _ _ hv
        exact ⟨v', hv', by omega⟩
  · obtain ⟨v, hv, hle⟩ := h.start
    obtain ⟨v', hv', hle'⟩ := hl _ _ hv
    exact ⟨v', hv', by omega⟩
theorem SInv.mono {st : SS} {succs : SS → List It} {b : SS → Option Int} {p p' E E' : SS → Int → Prop} (h : SInv st succs b p E) (hp : ∀ k d, b k = some d → p k d ∨ E k d → p' k d ∨ E' k d ∨ ∀ e ∈ succs k, ∃ v, b e.1 = some v ∧ v ≤ d + e.2) : SInv st succs b p' E' :=
  ⟨h.walk, fun k d hk => by
    rcases h.good k d hk with q | q | q
    · exact hp k d hk (.inl q)
    · exact hp k d hk (.inr q)
    · exact .inr (.inr q), h.start⟩
theorem SInv.least {st : SS} {succs : SS → List It} (hn : ∀ x, ∀ e ∈ succs x, 0 ≤ e.2) {b : SS → Option Int} {p : SS → Int → Prop} (h : SInv st succs b p fun _ _ => False) {x : SS} {c : Int} (hw : Wlk st succs x c) :
    (∃ k d, p k d ∧ b k = some d ∧ d ≤ c) ∨ ∃ v, b x = some v ∧ v ≤ c := by
  induction hw with
  | start => obtain ⟨v, hv, hle⟩ := h.start; exact .inr ⟨v, hv, hle⟩
  | step hw he ih =>
    have h0 := hn _ _ he
    rcases ih with ⟨k, d, hp, hb, hle⟩ | ⟨v, hv, hle⟩
    · exact .inl ⟨k, d, hp, hb, by omega⟩
    · rcases h.good _ _ hv with q | q | q
      · exact .inl ⟨_, _, q, hv, by omega⟩
      · exact q.elim
      · obtain ⟨v', hv', hle'⟩ := q _ he
        exact .inr ⟨v', hv', by omega⟩
/-- The least cost of a walk that has nothing left. -/
def MinG (st : SS) (succs : SS → List It) : Option Int → Prop
  | some v => (∃ x, x.left = 0 ∧ Wlk st succs x v) ∧ ∀ x c, x.left = 0 → Wlk st succs x c → v ≤ c
  | none => ∀ x c, Wlk st succs x c → x.left ≠ 0
theorem MinG.uniq {st : SS} {f g : SS → List It} (h1 : ∀ x c, Wlk st f x c → Wlk st g x c) (h2 : ∀ x c, Wlk st g x c → Wlk st f x c) : ∀ {r r' : Option Int}, MinG st f r → MinG st g r' → r = r'
  | some v, some v', ⟨⟨x, hx, hw⟩, h⟩, ⟨⟨x', hx', hw'⟩, h'⟩ => by
    have := h _ _ hx' (h2 _ _ hw')
    have := h' _ _ hx (h1 _ _ hw)
    congr 1; omega
  | some v, none, ⟨⟨x, hx, hw⟩, h⟩, h' => absurd hx (h' _ _ (h1 _ _ hw))
  | none, some v, h', ⟨⟨x, hx, hw⟩, h⟩ => absurd hx (h' _ _ (h2 _ _ hw))
  | none, none, _, _ => rfl

/-! numbers: the states are 16384 -/
def keyS (x : SS) : Nat := (x.left * 8 + x.s) * 256 + x.q
def okS (x : SS) : Prop := x.s < 8 ∧ x.q < 256 ∧ x.left < 8
def decS (k : Nat) : SS := ⟨k / 256 % 8, k % 256, k / 2048⟩
theorem keyS_lt {x : SS} (h : okS x) : keyS x < 16384 := by unfold keyS okS at *; omega
theorem decS_key {x : SS} (h : okS x) : decS (keyS x) = x := by
  obtain ⟨s, q, l⟩ := x
  unfold keyS okS decS at *
  simp only at *
  congr 1 <;> omega
theorem keyS_inj {x y : SS} (hx : okS x) (hy : okS y) (h : keyS x = keyS y) : x = y := by rw [← decS_key hx, h, decS_key hy]
def sumN (f : Nat → Nat) : Nat → Nat
  | 0 => 0
  | n + 1 => sumN f n + f n
theorem sumN_same {f g : Nat → Nat} : ∀ n, (∀ k, k < n → f k = g k) → sumN f n = sumN g n
  | 0, _ => rfl
  | n + 1, h => by rw [sumN, sumN, sumN_same n fun k hk => h k (by omega), h n (by omega)]
theorem sumN_upd {f g : Nat → Nat} {k0 : Nat} (h : ∀ k, k ≠ k0 → f k = g k) : ∀ n, k0 < n → sumN f n + g k0 = sumN g n + f k0
  | 0, hk => absurd hk (Nat.not_lt_zero _)
  | n + 1, hk => by
    rw [sumN, sumN]
    by_cases e : k0 = n
    · subst e
      rw [sumN_same k0 fun k hk => h k (by omega)]; omega
    · have := sumN_upd h n (by omega)
      rw [h n (by omega)]; omega
theorem sumN_le {f : Nat → Nat} {B : Nat} (h : ∀ k, f k ≤ B) : ∀ n, sumN f n ≤ n * B
  | 0 => by simp [sumN]
  | n + 1 => by have := sumN_le h n; have := h n; rw [sumN, Nat.add_mul]; omega
def knw (b : SS → Option Int) : Nat := sumN (fun k => match b (decS k) with | some _ => 1 | none => 0) 16384
def pot (b : SS → Option Int) : Nat := sumN (fun k => match b (decS k) with | some d => d.toNat | none => 200000000) 16384
theorem knw_le (b : SS → Option Int) : knw b ≤ 16384 := by
  have := sumN_le (f := fun k => match b (decS k) with | some _ => 1 | none => 0) (B := 1) (fun k => by split <;> omega) 16384
  unfold knw; omega
structure Bnd (b : SS → Option Int) : Prop where
  ok : ∀ x d, b x = some d → okS x ∧ 0 ≤ d ∧ d ≤ 7000 * (knw b : Int)
theorem pot_le {b : SS → Option Int} (h : Bnd b) : pot b ≤ 3276800000000 := by
  have hk := knw_le b
  have := sumN_le (f := fun k => match b (decS k) with | some d => d.toNat | none => 200000000) (B := 200000000) (fun k => by
    split
    · rename_i d hd
      have := h.ok _ _ hd
      omega
    · omega) 16384
  unfold pot; omega
theorem Bnd.relax {b : SS → Option Int} (h : Bnd b) {k : SS} {c : Int} (hk : okS k) (h0 : 0 ≤ c) (hc : c ≤ 7000 * (knw b : Int) + 7000) (hi : impr b k c) : Bnd (setB b k c) ∧ pot (setB b k c) < pot b ∧ knw b ≤ knw (setB b k c) := by
  have hd := decS_key hk
  have hlt := keyS_lt hk
  have hoth : ∀ i, i ≠ keyS k → i < 16384 → decS i ≠ k := fun i hi hl e => hi (by
    have ho : okS (decS i) := by unfold okS decS; simp only; omega
    have : keyS (decS i) = i := by unfold keyS decS; simp only; omega
    rw [← this, e])
  have up : ∀ (f : Option Int → Nat), sumN (fun i => f (setB b k c (decS i))) 16384 + f (b k) = sumN (fun i => f (b (decS i))) 16384 + f (some c) := by
    intro f
    have h1 : sumN (fun i => f (setB b k c (decS i))) 16384 = sumN (fun i => if i = keyS k then f (some c) else f (b (decS i))) 16384 := sumN_same _ fun i hi' => by
      by_cases e : i = keyS k
      · rw [if_pos e, e, hd]; simp [setB]
      · rw [if_neg e]; simp [setB, hoth i e hi']
    have h2 := sumN_upd (f := fun i => if i = keyS k then f (some c) else f (b (decS i))) (g := fun i => f (b (decS i))) (k0 := keyS k) (fun i hi' => by rw [if_neg hi']) 16384 hlt
    simp only [hd, if_true] at h2
    rw [h1]; exact h2
  have u1 := up fun o => match o with | some _ => 1 | none => 0
  have u2 := up fun o => match o with | some d => d.toNat | none => 200000000
  have hkn := knw_le b
  have e1 : knw b ≤ knw (setB b k c) ∧ (b k = none → knw (setB b k c) = knw b + 1) := by
    unfold knw
    cases hb : b k with
    | none => simp only [hb] at u1; exact ⟨by omega, fun _ => by omega⟩
    | some v => simp only [hb] at u1; exact ⟨by omega, fun q => by cases q⟩
  refine ⟨⟨fun x d hx => ?_⟩, ?_, e1.1⟩
  · unfold setB at hx
    split at hx
    · rename_i e
      cases hx
      rw [e]
      refine ⟨hk, h0, ?_⟩
      cases hb : b k with
      | none => have := e1.2 hb; omega
      | some v => have := hi v hb; have := h.ok k v hb; omega
    · have := h.ok x d hx
      exact ⟨this.1, this.2.1, by omega⟩
  · unfold pot
    cases hb : b k with
    | none => simp only [hb] at u2; omega
    | some v =>
      have := hi v hb
      have := h.ok k v hb
      simp only [hb] at u2; omega
/-! the states of a chain, and where they lead to -/
def bitsN (n q : Nat) : List Nat := (List.range n).filter fun i => q.testBit i
def clrB (q i : Nat) : Nat := q ^^^ (q &&& 2 ^ i)
def wAt (w : List Int) (i : Nat) : Int := w.getD i 0
def sumW (w : List Int) (i : Nat) : Nat → Int
  | 0 => 0
  | j + 1 => sumW w i j + wAt w (i + j)
def succI (w : List Int) (sl : Nat) (x : SS) : List It :=
  (if x.s + 1 < x.left then [(⟨x.s + 1, x.q, x.left⟩, wAt w x.s)] else []) ++ (if x.s + 1 = x.left then [(⟨x.s, x.q, x.left - 1⟩, 0)] else []) ++
  (bitsN (w.length + 1) x.q).map (fun i => (⟨i, x.q, x.left⟩, 0)) ++ (if (bitsN (w.length + 1) x.q).length < sl then [(⟨x.s, x.q ||| 2 ^ x.s, x.left⟩, 0)] else []) ++
  (bitsN (w.length + 1) x.q).map (fun i => (⟨x.s, clrB x.q i ||| 2 ^ x.s, x.left⟩, 0))
def succP (w : List Int) (sl : Nat) (x : SS) : List It :=
  (List.range (x.left - (x.s + 1))).map (fun j => (⟨x.s + 1 + j, x.q, x.left⟩, sumW w x.s (j + 1))) ++ (if x.s + 1 = x.left then [(⟨x.s, x.q, x.s⟩, 0)] else []) ++
  (bitsN 8 x.q).flatMap (fun i => [(⟨i, x.q, x.left⟩, 0), (⟨x.s, clrB x.q i ||| 2 ^ x.s, x.left⟩, 0)]) ++ (if (bitsN 8 (x.q ||| 2 ^ x.s)).length ≤ sl then [(⟨x.s, x.q ||| 2 ^ x.s, x.left⟩, 0)] else [])
def okW (n : Nat) (x : SS) : Prop := x.s ≤ n ∧ x.left ≤ n ∧ x.q < 2 ^ (n + 1)
def stS (n : Nat) : SS := ⟨0, 0, n⟩
theorem mem_bits {n q i : Nat} : i ∈ bitsN n q ↔ i < n ∧ q.testBit i = true := by simp [bitsN]
theorem clrB_lt {q n : Nat} (i : Nat) (h : q < 2 ^ n) : clrB q i < 2 ^ n := Nat.xor_lt_two_pow h (Nat.lt_of_le_of_lt Nat.and_le_left h)
theorem bit_lt {s n : Nat} (h : s < n) : 2 ^ s < 2 ^ n := Nat.pow_lt_pow_of_lt (by omega) h
theorem bits_more {q n : Nat} (h : q < 2 ^ n) : ∀ m, n ≤ m → bitsN m q = bitsN n q
  | 0, hm => by rw [show n = 0 by omega]
  | m + 1, hm => by
    by_cases e : n = m + 1
    · rw [e]
    · have ih := bits_more h m (by omega)
      have hb : q.testBit m = false := Nat.testBit_lt_two_pow (Nat.lt_of_lt_of_le h (Nat.pow_le_pow_right (by omega) (by omega)))
      rw [← ih]
      simp [bitsN, List.range_succ, hb]
theorem bits_or : ∀ q, q < 256 → ∀ s, s < 8 → (q ||| 2 ^ s = q ∨ (bitsN 8 (q ||| 2 ^ s)).length = (bitsN 8 q).length + 1) ∧ (bitsN 8 (q ||| 2 ^ s)).length ≤ (bitsN 8 q).length + 1 := by
  have key : (List.range 256).all (fun q => (List.range 8).all fun s => (q ||| 2 ^ s == q || (bitsN 8 (q ||| 2 ^ s)).length == (bitsN 8 q).length + 1) && Nat.ble (bitsN 8 (q ||| 2 ^ s)).length ((bitsN 8 q).length + 1)) = true := by decide +kernel
  intro q hq s hs
  have h1 := List.all_eq_true.1 key q (List.mem_range.2 hq)
  have h2 := List.all_eq_true.1 h1 s (List.mem_range.2 hs)
  simpa using h2
theorem succI_ok {w : List Int} {sl : Nat} {x : SS} (h : okW w.length x) {e : It} (he : e ∈ succI w sl x) : okW w.length e.1 := by
  obtain ⟨h1, h2, h3⟩ := h
  unfold succI at he
  simp only [List.mem_append, List.mem_map] at he
  rcases he with (((he | he) | ⟨i, hi, rfl⟩) | he) | ⟨i, hi, rfl⟩
  · split at he
    · simp only [List.mem_singleton] at he; subst he; exact ⟨by simp only; omega, h2, h3⟩
    · cases he
  · split at he
    · simp only [List.mem_singleton] at he; subst he; exact ⟨h1, by simp only; omega, h3⟩
    · cases he
  · exact ⟨by have := (mem_bits.1 hi).1; simp only; omega, h2, h3⟩
  · split at he
    · simp only [List.mem_singleton] at he; subst he; exact ⟨h1, h2, Nat.or_lt_two_pow h3 (bit_lt (by omega))⟩
    · cases he
  · exact ⟨h1, h2, Nat.or_lt_two_pow (clrB_lt i h3) (bit_lt (by omega))⟩
theorem wlkI_ok {w : List Int} {sl : Nat} {x : SS} {c : Int} (h : Wlk (stS w.length) (succI w sl) x c) : okW w.length x := by
  induction h with
  | start => exact ⟨Nat.zero_le _, Nat.le_refl _, Nat.two_pow_pos _⟩
  | step h he ih => exact succI_ok ih he
theorem okW_okS {n : Nat} (hn : n ≤ 7) {x : SS} (h : okW n x) : okS x := by
  obtain ⟨h1, h2, h3⟩ := h
  have : 2 ^ (n + 1) ≤ 2 ^ 8 := Nat.pow_le_pow_right (by omega) (by omega)
  exact ⟨by omega, by omega, by omega⟩
theorem wlk_far {w : List Int} {sl : Nat} {x : SS} {c : Int} (h : Wlk (stS w.length) (succI w sl) x c) : ∀ j, x.s + j < x.left → Wlk (stS w.length) (succI w sl) ⟨x.s + j, x.q, x.left⟩ (c + sumW w x.s j)
  | 0, _ => by simpa [sumW] using h
  | j + 1, hj => by
    have ih := wlk_far h j (by omega)
    have := Wlk.step ih (e := (⟨x.s + j + 1, x.q, x.left⟩, wAt w (x.s + j))) (by unfold succI; simp only; rw [if_pos (by omega)]; simp)
    rw [sumW, ← Int.add_assoc]; exact this
theorem wlk_PI {w : List Int} (hn : w.length ≤ 7) {sl : Nat} {x : SS} {c : Int} (h : Wlk (stS w.length) (succP w sl) x c) : Wlk (stS w.length) (succI w sl) x c := by
  induction h with
  | start => exact .start
  | @step x c e h he ih =>
    have ok := wlkI_ok ih
    obtain ⟨h1, h2, h3⟩ := ok
    have hs := okW_okS hn ⟨h1, h2, h3⟩
    have hb := bits_more h3 8 (by omega)
    unfold succP at he
    simp only [List.mem_append, List.mem_map, List.mem_flatMap, List.mem_range] at he
    rcases he with ((⟨j, hj, rfl⟩ | he) | ⟨i, hi, he⟩) | he
    · have := wlk_far ih (j + 1) (by omega)
      rw [show x.s + (j + 1) = x.s + 1 + j by omega] at this
      exact this
    · split at he
      · rename_i hl
        simp only [List.mem_singleton] at he
        subst he
        refine .step ih ?_
        unfold succI
        rw [if_pos hl, show x.left - 1 = x.s by omega]
        simp
      · cases he
    · rw [hb] at hi
      simp only [List.mem_cons, List.not_mem_nil, or_false] at he
      rcases he with rfl | rfl
      · refine .step ih ?_
        unfold succI
        simp only [List.mem_append, List.mem_map]
        exact .inl (.inl (.inr ⟨i, hi, rfl⟩))
      · refine .step ih ?_
        unfold succI
        simp only [List.mem_append, List.mem_map]
        exact .inr ⟨i, hi, rfl⟩
    · split at he
      · rename_i hl
        simp only [List.mem_singleton] at he
        subst he
        rcases (bits_or x.q hs.2.1 x.s hs.1).1 with e | e
        · simp only [e, Int.add_zero]; exact ih
        · refine .step ih ?_
          unfold succI
          rw [hb] at e
          rw [if_pos (show (bitsN (w.length + 1) x.q).length < sl by omega)]
          simp
      · cases he
theorem wlk_IP {w : List Int} (hn : w.length ≤ 7) {sl : Nat} {x : SS} {c : Int} (h : Wlk (stS w.length) (succI w sl) x c) : Wlk (stS w.length) (succP w sl) x c := by
  induction h with
  | start => exact .start
  | @step x c e h he ih =>
    obtain ⟨h1, h2, h3⟩ := wlkI_ok h
    have hs := okW_okS hn ⟨h1, h2, h3⟩
    have hb := bits_more h3 8 (by omega)
    refine .step ih ?_
    unfold succI at he
    unfold succP
    simp only [List.mem_append, List.mem_map] at he
    simp only [List.mem_append, List.mem_map, List.mem_flatMap, List.mem_range]
    rcases he with (((he | he) | ⟨i, hi, rfl⟩) | he) | ⟨i, hi, rfl⟩
    · split at he
      · simp only [List.mem_singleton] at he; subst he
        exact .inl (.inl (.inl ⟨0, by omega, by simp [sumW]⟩))
      · cases he
    · split at he
      · rename_i hl
        simp only [List.mem_singleton] at he; subst he
        exact .inl (.inl (.inr (by rw [if_pos hl, show x.left - 1 = x.s by omega]; simp)))
      · cases he
    · exact .inl (.inr ⟨i, hb ▸ hi, by simp⟩)
    · split at he
      · rename_i hl
        simp only [List.mem_singleton] at he; subst he
        have := (bits_or x.q hs.2.1 x.s hs.1).2
        rw [← hb] at hl
        exact .inr (by rw [if_pos (by omega)]; simp)
      · cases he
    · exact .inl (.inr ⟨i, hb ▸ hi, by simp⟩)
theorem wAt_in {w : List Int} (h : ∀ x ∈ w, 0 ≤ x ∧ x ≤ 1000) (i : Nat) : 0 ≤ wAt w i ∧ wAt w i ≤ 1000 := by
  unfold wAt
  rw [List.getD_eq_getElem?_getD]
  cases e : w[i]? with
  | none => simp
  | some x => exact h x (List.mem_of_getElem? e)
theorem sumW_in {w : List Int} (h : ∀ x ∈ w, 0 ≤ x ∧ x ≤ 1000) (i : Nat) : ∀ j : Nat, 0 ≤ sumW w i j ∧ sumW w i j ≤ 1000 * (j : Int)
  | 0 => by simp [sumW]
  | j + 1 => by have := sumW_in h i j; have := wAt_in h (i + j); rw [sumW]; omega
theorem succI_cost {w : List Int} (h : ∀ x ∈ w, 0 ≤ x ∧ x ≤ 1000) {sl : Nat} {x : SS} {e : It} (he : e ∈ succI w sl x) : 0 ≤ e.2 ∧ e.2 ≤ 7000 := by
  unfold succI at he
  simp only [List.mem_append, List.mem_map] at he
  rcases he with (((he | he) | ⟨i, hi, rfl⟩) | he) | ⟨i, hi, rfl⟩
  · split at he
    · simp only [List.mem_singleton] at he; subst he; have := wAt_in h x.s; simp only; omega
    · cases he
  · split at he
    · simp only [List.mem_singleton] at he; subst he; simp
    · cases he
  · simp
  · split at he
    · simp only [List.mem_singleton] at he; subst he; simp
    · cases he
  · simp
theorem succP_cost {w : List Int} (h : ∀ x ∈ w, 0 ≤ x ∧ x ≤ 1000) {sl : Nat} {x : SS} (hx : x.left ≤ 7) {e : It} (he : e ∈ succP w sl x) : 0 ≤ e.2 ∧ e.2 ≤ 7000 := by
  unfold succP at he
  simp only [List.mem_append, List.mem_map, List.mem_flatMap, List.mem_range] at he
  rcases he with ((⟨j, hj, rfl⟩ | he) | ⟨i, hi, he⟩) | he
  · have := sumW_in h x.s (j + 1); simp only; omega
  · split at he
    · simp only [List.mem_singleton] at he; subst he; simp
    · cases he
  · simp only [List.mem_cons, List.not_mem_nil, or_false] at he
    rcases he with rfl | rfl <;> simp
  · split at he
    · simp only [List.mem_singleton] at he; subst he; simp
    · cases he
theorem ofInt_nat (a : Nat) : BitVec.ofInt 64 (a : Int) = BitVec.ofNat 64 a := by
  apply BitVec.eq_of_toNat_eq; simp [BitVec.toNat_ofInt]
theorem or64 {a b : Nat} (ha : a < 256) (hb : b < 256) : IntKind.i64.wrap ((BitVec.ofInt 64 (a : Int) ||| BitVec.ofInt 64 (b : Int)).toNat : Int) = ((a ||| b : Nat) : Int) := by
  have h : a ||| b < 2 ^ 8 := Nat.or_lt_two_pow ha hb
  rw [ofInt_nat, ofInt_nat, BitVec.toNat_or, BitVec.toNat_ofNat, BitVec.toNat_ofNat, Nat.mod_eq_of_lt (by omega), Nat.mod_eq_of_lt (by omega), IntWalk.i64_in _ (by omega)]
theorem and64 {a b : Nat} (ha : a < 256) (hb : b < 256) : IntKind.i64.wrap ((BitVec.ofInt 64 (a : Int) &&& BitVec.ofInt 64 (b : Int)).toNat : Int) = ((a &&& b : Nat) : Int) := by
  have h : a &&& b ≤ a := Nat.and_le_left
  rw [ofInt_nat, ofInt_nat, BitVec.toNat_and, BitVec.toNat_ofNat, BitVec.toNat_ofNat, Nat.mod_eq_of_lt (by omega), Nat.mod_eq_of_lt (by omega), IntWalk.i64_in _ (by omega)]
theorem andNot64 {a i : Nat} (ha : a < 256) (hb : i < 8) : IntKind.i64.wrap ((BitVec.ofInt 64 (a : Int) &&& ~~~ BitVec.ofInt 64 ((2 ^ i : Nat) : Int)).toNat : Int) = ((clrB a i : Nat) : Int) := by
  have e : (BitVec.ofInt 64 (a : Int) &&& ~~~ BitVec.ofInt 64 ((2 ^ i : Nat) : Int)).toNat = clrB a i := by
    have h2 : 2 ^ i < 2 ^ 8 := bit_lt hb
    apply Nat.eq_of_testBit_eq
    intro j
    rw [ofInt_nat, ofInt_nat, BitVec.testBit_toNat, BitVec.getLsbD_and, BitVec.getLsbD_not, BitVec.getLsbD_ofNat, BitVec.getLsbD_ofNat, clrB, Nat.testBit_xor, Nat.testBit_and]
    by_cases hj : j < 64
    · simp [hj]; cases a.testBit j <;> cases (2 ^ i).testBit j <;> rfl
    · have : a.testBit j = false := Nat.testBit_lt_two_pow (Nat.lt_of_lt_of_le ha (show 2 ^ 8 ≤ 2 ^ j from Nat.pow_le_pow_right (by omega) (by omega)))
      simp [hj, this]
  have := clrB_lt (n := 8) i ha
  rw [e, IntWalk.i64_in _ (by omega)]
theorem shl64 {i : Nat} (hi : i < 8) : IntKind.i64.wrap (1 * 2 ^ (min (i : Int).toNat IntKind.i64.bits)) = ((2 ^ i : Nat) : Int) := by
  have h2 : 2 ^ i < 2 ^ 8 := bit_lt hi
  have e : min (i : Int).toNat IntKind.i64.bits = i := by
    have : IntKind.i64.bits = 64 := rfl
    rw [this]; omega
  have e2 : ((2 : Int) ^ i) = ((2 ^ i : Nat) : Int) := by rw [Int.natCast_pow]; rfl
  rw [e, Int.one_mul, e2]
  generalize 2 ^ i = p at h2
  rw [IntWalk.i64_in _ (by omega)]
theorem shl64' {i : Nat} (hi : i < 8) : IntKind.i64.wrap (1 * 2 ^ min i 64) = ((2 ^ i : Nat) : Int) := shl64 hi
theorem bits_len_succ (k q : Nat) : (bitsN (k + 1) q).length = (bitsN k q).length + q / 2 ^ k % 2 := by
  have e : q.testBit k = decide (q / 2 ^ k % 2 = 1) := Nat.testBit_eq_decide_div_mod_eq
  have : q / 2 ^ k % 2 < 2 := Nat.mod_lt _ (by omega)
  simp only [bitsN, List.range_succ, List.filter_append, List.filter_cons, List.filter_nil, e, decide_eq_true_eq, List.length_append]
  split
  · simp; omega
  · simp; omega
def Wts (w : List Int) : Prop := (∀ x ∈ w, 0 ≤ x ∧ x ≤ 1000) ∧ w.length ≤ 40
noncomputable instance (w : List Int) : Decidable (Wts w) := Classical.propDecidable _
@[go_sem] def keep14 : List Nat := [0, 1, 2, 6]
@[go_sem] def ib14 : List Nat := []
@[go_sem] def mk14 : Marks := fun _ => ([], .nil, [])
theorem l00In (n a b : Int) : Fn0 Try.prog 14 [I n, I a, I b] (.bool (decide (a ≤ n ∧ n ≤ b))) := by
  refine fn0A 15 keep14 ib14 mk14 Try.func14 fun h => ?_
  simp (maxSteps := 1000000) -dsimp -implicitDefEqProofs only [go_sem, ↓reduceIte, keep14, ib14, mk14, Try.f14]
  repeat' (with_reducible first | intro _ | refine And.intro ?_ ?_)
  all_goals try (first | (simp [*]; done) | omega | grind)
@[go_sem] def keep38 : List Nat := [0, 1, 2, 6]
@[go_sem] def ib38 : List Nat := []
@[go_sem] def mk38 : Marks := fun _ => ([], .nil, [])
theorem within (n a b : Int) : Fn0 Try.prog 38 [I n, I a, I b] (.bool (decide (a ≤ n ∧ n ≤ b))) := by
  refine fn0A 15 keep38 ib38 mk38 Try.func38 fun h => ?_
  simp (maxSteps := 1000000) -dsimp -implicitDefEqProofs only [go_sem, ↓reduceIte, keep38, ib38, mk38, Try.f38]
  repeat' (with_reducible first | intro _ | refine And.intro ?_ ?_)
  all_goals try (first | (simp [*]; done) | omega | grind)
@[go_sem] def keep39 : List Nat := [0, 1, 4, 5, 7, 8, 9, 16]
@[go_sem] def ib39 : List Nat := []
@[go_sem] def mk39 : Marks := fun _ => ([], .nil, [])
set_option maxRecDepth 100000 in
theorem idxF_Int64S (a : List Int) (p : Int → Bool) (g : FuncId) (cap : List HVal) {h0 : Heap} (hc : ∀ x ∈ a, FnAt Try.prog g ([(.int .i64 x)] ++ cap) (.bool (p x)) h0) : FnAt Try.prog 39 [(sls 1 (fun n => [I n]) a), .fn (.func g) [] cap] (I (idxOf p a)) h0 := by
  refine fnAtA 19 keep39 ib39 mk39 Try.func39 fun h hle => ?_
  simp -dsimp -implicitDefEqProofs only [go_sem, ↓reduceIte, keep39, ib39, mk39, Try.f39, Try.f39]
  intro _
  refine loopA keep39 ib39 mk39 (fun k : Nat => [(0, (sls 1 (fun n => [I n]) a)), (1, .fn (.func g) [] cap), (7, I a.length), (8, I k)]) (fun _ => h) (fun k => k ≤ a.length ∧ ∀ x ∈ a.take k, p x = false) (fun k => a.length - k) 0 (by simp [SatL, tget, Heap.le_refl]) ?_
  intro k ⟨hk, hp⟩
  rcases Nat.lt_or_ge k a.length with hlt | hge
  · have ea : a[k]? = some a[k] := List.getElem?_eq_getElem hlt
    simp -dsimp -implicitDefEqProofs only [go_sem, ↓reduceIte, keep39, ib39, mk39, Try.f39, Try.f39, ea]
    repeat' (with_reducible first | intro _ | refine And.intro ?_ ?_)
    all_goals try omega
    have hx := hc a[k] (List.getElem_mem hlt)
    refine HFnF.mkAt (hx.mono hle) ?_
    cases hpk : p a[k] with
    | true =>
      simp -dsimp -implicitDefEqProofs only [go_sem, ↓reduceIte, keep39, ib39, mk39, Try.f39, Try.f39]
      repeat' (with_reducible first | intro _ | refine And.intro ?_ ?_)
      all_goals first | exact (idxOf_some hlt hp hpk).symm | rfl | (rw [idxOf_some hlt hp hpk])
    | false =>
      simp -dsimp -implicitDefEqProofs only [go_sem, ↓reduceIte, keep39, ib39, mk39, Try.f39, Try.f39]
      refine ⟨k + 1, ?_⟩
      repeat' (with_reducible refine And.intro ?_ ?_)
      all_goals try (rw [IntWalk.i64_in _ (by omega)]; first | rfl | omega)
      all_goals try omega
      exact all_step (P := fun x => p x = false) hlt hp hpk
  · have hk' : k = a.length := by omega
    subst hk'
    rw [List.take_length] at hp
    simp -dsimp -implicitDefEqProofs only [go_sem, ↓reduceIte, keep39, ib39, mk39, Try.f39, Try.f39, Nat.lt_irrefl]
    all_goals first | exact (idxOf_none hp).symm | rw [idxOf_none hp]
@[go_sem] def keep36 : List Nat := [0, 1, 4]
@[go_sem] def ib36 : List Nat := []
@[go_sem] def mk36 : Marks := fun _ => ([], .nil, [])
set_option maxRecDepth 100000 in
theorem hasF_Int64S (a : List Int) (p : Int → Bool) (g : FuncId) (cap : List HVal) {h0 : Heap} (hc : ∀ x ∈ a, FnAt Try.prog g ([(.int .i64 x)] ++ cap) (.bool (p x)) h0) : FnAt Try.prog 36 [(sls 1 (fun n => [I n]) a), .fn (.func g) [] cap] (.bool (a.any p)) h0 := by
  refine fnAtA 9 keep36 ib36 mk36 Try.func36 fun h hle => ?_
  simp -dsimp -implicitDefEqProofs only [go_sem, ↓reduceIte, keep36, ib36, mk36, Try.f36, Try.f36]
  refine HFnF.mkAt ((idxF_Int64S a p g cap hc).mono hle) ?_
  simp -dsimp -implicitDefEqProofs only [go_sem, ↓reduceIte, keep36, ib36, mk36, Try.f36, Try.f36]
  all_goals first | done | exact idxOf_nonneg | rw [idxOf_nonneg]

@[go_sem] def keep29 : List Nat := [0, 1, 2, 6]
@[go_sem] def ib29 : List Nat := []
@[go_sem] def mk29 : Marks := fun _ => ([], .nil, [])
theorem l06Key (x : SS) (hx : okS x) : Fn0 Try.prog 29 [I x.left, I x.s, I x.q] (I (keyS x)) := by
  obtain ⟨h1, h2, h3⟩ := hx
  refine fn0A 14 keep29 ib29 mk29 Try.func29 fun h => ?_
  simp (maxSteps := 1000000) -dsimp -implicitDefEqProofs only [go_sem, ↓reduceIte, keep29, ib29, mk29, Try.f29]
  unfold keyS
  rw [IntWalk.i64_in (x.left * 8) (by omega), IntWalk.i64_in (x.left * 8 + x.s) (by omega), IntWalk.i64_in (_ * 256) (by omega), IntWalk.i64_in _ (by omega)]
  omega
@[go_sem] def keep30 : List Nat := [0, 2, 3, 5]
@[go_sem] def ib30 : List Nat := []
@[go_sem] def mk30 : Marks := fun _ => ([], .nil, [])
theorem l06Count (q : Nat) (hq : q < 256) : Fn0 Try.prog 30 [I q] (I (bitsN 8 q).length) := by
  refine fn0A 13 keep30 ib30 mk30 Try.func30 fun h => ?_
  simp (maxSteps := 1000000) -dsimp -implicitDefEqProofs only [go_sem, ↓reduceIte, keep30, ib30, mk30, Try.f30]
  refine loopSA keep30 ib30 mk30 (fun k : Nat => [(0, I ((q / 2 ^ k : Nat) : Int)), (3, I (bitsN k q).length)]) (fun k => k ≤ 8) (fun k => 8 - k) 0 ⟨by simp [SatL, tget, bitsN], Nat.zero_le _⟩ ?_
  intro k hk
  simp (maxSteps := 1000000) -dsimp -implicitDefEqProofs only [go_sem, ↓reduceIte, keep30, ib30, mk30, Try.f30]
  repeat' (with_reducible first | intro _ | refine And.intro ?_ ?_)
  · rename_i h0
    have hq0 : q / 2 ^ k < 256 := Nat.lt_of_le_of_lt (Nat.div_le_self _ _) hq
    have hk8 : k < 8 := by
      rcases Nat.lt_or_ge k 8 with h | h
      · exact h
      · rw [Nat.div_eq_of_lt (Nat.lt_of_lt_of_le hq (show 2 ^ 8 ≤ 2 ^ k from Nat.pow_le_pow_right (by omega) h))] at h0
        exact absurd h0 (by decide)
    have hand : IntKind.i64.wrap ((BitVec.ofInt IntKind.i64.bits ((q / 2 ^ k : Nat) : Int) &&& BitVec.ofInt IntKind.i64.bits 1).toNat : Int) = ((q / 2 ^ k % 2 : Nat) : Int) := by
      have := and64 (a := q / 2 ^ k) (b := 1) hq0 (by omega)
      rw [Nat.and_one_is_mod] at this; exact this
    refine ⟨k + 1, ⟨?_, ?_⟩, by omega, by omega⟩
    · rw [show (2 : Int) ^ min (Int.toNat 1) 64 = ((2 : Nat) : Int) from rfl, ← Int.ofNat_fdiv, Nat.div_div_eq_div_mul, ← Nat.pow_succ]
    · have hl : (bitsN (k + 1) q).length ≤ k + 1 := by simpa [bitsN] using List.length_filter_le (fun i => q.testBit i) (List.range (k + 1))
      rw [hand, bits_len_succ] at *
      rw [IntWalk.i64_in _ (by omega)]; omega
  · rename_i h0
    have h1 : q < 2 ^ k := by
      have := Nat.div_eq_zero_iff.1 (show q / 2 ^ k = 0 by generalize q / 2 ^ k = z at h0; simp at h0; omega)
      have := Nat.two_pow_pos k
      omega
    rw [bits_more h1 8 hk]
@[go_sem] def keep13 : List Nat := [0, 2, 3, 7, 15]
@[go_sem] def ib13 : List Nat := []
@[go_sem] def mk13 : Marks := fun _ => ([], .nil, [])
theorem l06Weights (w : List Int) : Fn0 Try.prog 13 [ints w] (.bool (decide (Wts w))) := by
  refine fn0A 19 keep13 ib13 mk13 Try.func13 fun h => ?_
  simp (maxSteps := 1000000) -dsimp -implicitDefEqProofs only [go_sem, ↓reduceIte, keep13, ib13, mk13, Try.f13]
  refine loopA keep13 ib13 mk13 (fun k : Nat => [(0, ints w), (3, I k)]) (fun _ => h) (fun k => k ≤ w.length ∧ ∀ x ∈ w.take k, 0 ≤ x ∧ x ≤ 1000) (fun k => w.length - k) 0 (by simp [SatL, tget, Heap.le_refl]) ?_
  intro k ⟨hk, hp⟩
  rcases Nat.lt_or_ge k w.length with hlt | hge
  · have ea : w[k]? = some w[k] := List.getElem?_eq_getElem hlt
    simp (maxSteps := 1000000) -dsimp -implicitDefEqProofs only [go_sem, ↓reduceIte, keep13, ib13, mk13, Try.f13, ea]
    repeat' (with_reducible first | intro _ | refine And.intro ?_ ?_)
    all_goals try omega
    first | refine HFnF.mk (l00In w[k] 0 1000) ?_ | refine CallSF.mk (l00In w[k] 0 1000) ?_ | refine HFnF.mkAt (l00In w[k] 0 1000) ?_ | refine CallSF.mk (FnAt.fn0 (l00In w[k] 0 1000)) ?_
    simp (maxSteps := 1000000) -dsimp -implicitDefEqProofs only [go_sem, ↓reduceIte, keep13, ib13, mk13, Try.f13]
    repeat' (with_reducible first | intro _ | refine And.intro ?_ ?_)
    · rename_i he
      have he : ¬ (0 ≤ w[k] ∧ w[k] ≤ 1000) := by simpa using he
      exact (decide_eq_false fun e => he (e.1 _ (List.getElem_mem hlt))).symm
    · rename_i he
      refine ⟨k + 1, ?_⟩
      repeat' (with_reducible refine And.intro ?_ ?_)
      all_goals try (rw [IntWalk.i64_in _ (by omega)]; first | rfl | omega)
      all_goals try omega
      all_goals try (repeat' (with_reducible first | exact Heap.le_refl _ | refine (le_upd (by first | assumption | exact And.right (by assumption) | exact upd_none.2 (by assumption))).2 ?_))
      exact all_step (P := fun x => 0 ≤ x ∧ x ≤ 1000) hlt hp (by simpa using he)
  · have hk' : k = w.length := by omega
    subst hk'
    rw [List.take_length] at hp
    simp (maxSteps := 1000000) -dsimp -implicitDefEqProofs only [go_sem, ↓reduceIte, keep13, ib13, mk13, Try.f13, Nat.lt_irrefl]
    intro _ _
    rw [decide_eq_decide]
    exact ⟨fun q => ⟨hp, by omega⟩, fun q => by have := q.2; omega⟩
abbrev rowsI (l : List Int) : HObj := .row 1 ((l.map fun n => [I n]).map (List.map .v))
abbrev spBox (w : List Int) (sl : Nat) (mb : Nat) (qv : HVal) : HObj := .row 4 [[.v (ints w), .v (I sl), .v (.os mb 1 0 16384), .v qv]]
def spH (h0 : Heap) (nx mb : Nat) (w : List Int) (sl : Nat) (mq : Option Nat) (bs qs : List Int) : Heap := oheap (upd (upd h0 nx (spBox w sl mb (onil 1 qs.length mq))) mb (rowsI bs)) (rowsI qs) mq
def qside (h0 : Heap) (nx mb : Nat) (qs : List Int) : Option Nat → Prop
  | none => qs = []
  | some m => h0 m = none ∧ ¬ m = nx ∧ ¬ m = mb
def rlx (bs qs : List Int) (k : Nat) (c : Int) : List Int × List Int := if bs.getD k (-1) < 0 ∨ c < bs.getD k (-1) then (bs.set k c, qs ++ [(k : Int)]) else (bs, qs)
@[go_sem] def keep15 : List Nat := [0, 1, 2, 3, 4, 10, 33]
@[go_sem] def ib15 : List Nat := [47]
@[go_sem] def mk15 : Marks := fun _ => ([], .nil, [])
theorem sreach {h0 : Heap} {nx mb : Nat} {w : List Int} {sl : Nat} {mq : Option Nat} {bs qs : List Int} (hbl : bs.length = 16384) (hn : ¬ nx = mb) (hq : qside h0 nx mb qs mq) (hql : qs.length < 10000000000000) (x : SS) (hx : okS x) (c : Int) :
    HFn Try.prog 15 [.op nx 4 0 0, I x.left, I x.s, I x.q, I c] (spH h0 nx mb w sl mq bs qs) fun _ h' => ∃ mq', qside h0 nx mb (rlx bs qs (keyS x) c).2 mq' ∧ h' = spH h0 nx mb w sl mq' (rlx bs qs (keyS x) c).1 (rlx bs qs (keyS x) c).2 := by
  have hk := keyS_lt hx
  have d_nx_mb : ¬ nx = mb := hn
  have d_mb_nx : ¬ mb = nx := Ne.symm d_nx_mb
  have e_nx_mb : (nx = mb) = False := eq_false d_nx_mb
  have e_mb_nx : (mb = nx) = False := eq_false d_mb_nx
  have ek : bs[keyS x]? = some (bs[keyS x]'(by omega)) := List.getElem?_eq_getElem _
  have ed : bs.getD (keyS x) (-1) = bs[keyS x]'(by omega) := by rw [List.getD_eq_getElem?_getD, ek]; rfl
  have eset : ((bs.map fun n => [I n]).map (List.map Cell.v)).set (keyS x) [Cell.v (I c)] = ((bs.set (keyS x) c).map fun n => [I n]).map (List.map Cell.v) := by simp [List.map_set]
  have r1 : (bs[keyS x]'(by omega) < 0 ∨ c < bs[keyS x]'(by omega)) → rlx bs qs (keyS x) c = (bs.set (keyS x) c, qs ++ [(keyS x : Int)]) := fun q => if_pos (by rw [ed]; exact q)
  have r2 : ¬ (bs[keyS x]'(by omega) < 0 ∨ c < bs[keyS x]'(by omega)) → rlx bs qs (keyS x) c = (bs, qs) := fun q => if_neg (by rw [ed]; exact q)
  cases mq with
  | none =>
    obtain rfl : qs = [] := hq
    simp only [spH, oheap_none, onil_none]
    refine fnHA 51 keep15 ib15 mk15 Try.func15 ?_
    simp (maxSteps := 1000000) -dsimp -implicitDefEqProofs only [go_sem, ↓reduceIte, keep15, ib15, mk15, Try.f15]
    first | refine HFnF.mk (l06Key x hx) ?_ | refine CallSF.mk (l06Key x hx) ?_ | refine HFnF.mkAt (l06Key x hx) ?_ | refine CallSF.mk (FnAt.fn0 (l06Key x hx)) ?_
    simp (maxSteps := 1000000) -dsimp -implicitDefEqProofs only [go_sem, ↓reduceIte, keep15, ib15, mk15, Try.f15, upd_ne, e_nx_mb, e_mb_nx, ek, hbl]
    repeat' (with_reducible first | intro _ | refine And.intro ?_ ?_)
    all_goals try omega
    case none.refine_2.refine_1.refine_2.refine_2 => exact ⟨_, Heap.le_refl _, none, by rw [r2 (by omega)]; rfl, by rw [r2 (by omega)]; rfl⟩
    all_goals
      rename_i hc b hb
      revert hb; revert b
      intro b q_b
      have d_b_nx : ¬ b = nx := by first | exact q_b.1 | exact q_b | exact q_b.2.1 | exact q_b.2 | exact q_b.2.2.1 | exact q_b.2.2 | exact q_b.2.2.2.1 | exact q_b.2.2.2 | exact q_b.2.2.2.2.1 | exact q_b.2.2.2.2 | exact q_b.2.2.2.2.2.1 | exact q_b.2.2.2.2.2 | exact q_b.2.2.2.2.2.2.1 | exact q_b.2.2.2.2.2.2 | exact q_b.2.2.2.2.2.2.2.1 | exact q_b.2.2.2.2.2.2.2 | exact q_b.2.2.2.2.2.2.2.2.1 | exact q_b.2.2.2.2.2.2.2.2 | exact q_b.2.2.2.2.2.2.2.2.2.1 | exact q_b.2.2.2.2.2.2.2.2.2 | exact q_b.2.2.2.2.2.2.2.2.2.2.1 | exact q_b.2.2.2.2.2.2.2.2.2.2 | exact q_b.2.2.2.2.2.2.2.2.2.2.2.1 | exact q_b.2.2.2.2.2.2.2.2.2.2.2 | exact q_b.2.2.2.2.2.2.2.2.2.2.2.2.1 | exact q_b.2.2.2.2.2.2.2.2.2.2.2.2 | exact q_b.2.2.2.2.2.2.2.2.2.2.2.2.2.1 | exact q_b.2.2.2.2.2.2.2.2.2.2.2.2.2
      have e_b_nx : (b = nx) = False := eq_false d_b_nx
      have e_nx_b : (nx = b) = False := eq_false (Ne.symm d_b_nx)
      have d_nx_b : ¬ nx = b := Ne.symm d_b_nx
      have d_b_mb : ¬ b = mb := by first | exact q_b.1 | exact q_b | exact q_b.2.1 | exact q_b.2 | exact q_b.2.2.1 | exact q_b.2.2 | exact q_b.2.2.2.1 | exact q_b.2.2.2 | exact q_b.2.2.2.2.1 | exact q_b.2.2.2.2 | exact q_b.2.2.2.2.2.1 | exact q_b.2.2.2.2.2 | exact q_b.2.2.2.2.2.2.1 | exact q_b.2.2.2.2.2.2 | exact q_b.2.2.2.2.2.2.2.1 | exact q_b.2.2.2.2.2.2.2 | exact q_b.2.2.2.2.2.2.2.2.1 | exact q_b.2.2.2.2.2.2.2.2 | exact q_b.2.2.2.2.2.2.2.2.2.1 | exact q_b.2.2.2.2.2.2.2.2.2 | exact q_b.2.2.2.2.2.2.2.2.2.2.1 | exact q_b.2.2.2.2.2.2.2.2.2.2 | exact q_b.2.2.2.2.2.2.2.2.2.2.2.1 | exact q_b.2.2.2.2.2.2.2.2.2.2.2 | exact q_b.2.2.2.2.2.2.2.2.2.2.2.2.1 | exact q_b.2.2.2.2.2.2.2.2.2.2.2.2 | exact q_b.2.2.2.2.2.2.2.2.2.2.2.2.2.1 | exact q_b.2.2.2.2.2.2.2.2.2.2.2.2.2
      have e_b_mb : (b = mb) = False := eq_false d_b_mb
      have e_mb_b : (mb = b) = False := eq_false (Ne.symm d_b_mb)
      have d_mb_b : ¬ mb = b := Ne.symm d_b_mb
      have z_b : h0 b = none := by first | exact q_b.1 | exact q_b | exact q_b.2.1 | exact q_b.2 | exact q_b.2.2.1 | exact q_b.2.2 | exact q_b.2.2.2.1 | exact q_b.2.2.2 | exact q_b.2.2.2.2.1 | exact q_b.2.2.2.2 | exact q_b.2.2.2.2.2.1 | exact q_b.2.2.2.2.2 | exact q_b.2.2.2.2.2.2.1 | exact q_b.2.2.2.2.2.2 | exact q_b.2.2.2.2.2.2.2.1 | exact q_b.2.2.2.2.2.2.2 | exact q_b.2.2.2.2.2.2.2.2.1 | exact q_b.2.2.2.2.2.2.2.2 | exact q_b.2.2.2.2.2.2.2.2.2.1 | exact q_b.2.2.2.2.2.2.2.2.2 | exact q_b.2.2.2.2.2.2.2.2.2.2.1 | exact q_b.2.2.2.2.2.2.2.2.2.2 | exact q_b.2.2.2.2.2.2.2.2.2.2.2.1 | exact q_b.2.2.2.2.2.2.2.2.2.2.2 | exact q_b.2.2.2.2.2.2.2.2.2.2.2.2.1 | exact q_b.2.2.2.2.2.2.2.2.2.2.2.2 | exact q_b.2.2.2.2.2.2.2.2.2.2.2.2.2.1 | exact q_b.2.2.2.2.2.2.2.2.2.2.2.2.2
      simp (maxSteps := 1000000) -dsimp -implicitDefEqProofs only [go_sem, ↓reduceIte, keep15, ib15, mk15, Try.f15, upd_ne, e_b_nx, e_b_mb, e_nx_b, e_nx_mb, e_mb_b, e_mb_nx]
      rw [r1 (by omega)]
      refine ⟨spH h0 nx mb w sl (some b) (bs.set (keyS x) c) ([] ++ [(keyS x : Int)]), ?_, some b, ⟨z_b, d_b_nx, d_b_mb⟩, rfl⟩
      simp only [spH, eset]
      exact (by intro q_; simp only [upd_get, oheap_none, oheap_some, onil_none, onil_some, List.length_nil]; grind)
  | some m =>
    obtain ⟨hq1, hq2, hq3⟩ := hq
    have d_m_nx : ¬ m = nx := hq2
    have d_nx_m : ¬ nx = m := Ne.symm d_m_nx
    have e_m_nx : (m = nx) = False := eq_false d_m_nx
    have e_nx_m : (nx = m) = False := eq_false d_nx_m
    have d_m_mb : ¬ m = mb := hq3
    have d_mb_m : ¬ mb = m := Ne.symm d_m_mb
    have e_m_mb : (m = mb) = False := eq_false d_m_mb
    have e_mb_m : (mb = m) = False := eq_false d_mb_m
    simp only [spH, oheap_some, onil_some]
    refine fnHA 51 keep15 ib15 mk15 Try.func15 ?_
    simp (maxSteps := 1000000) -dsimp -implicitDefEqProofs only [go_sem, ↓reduceIte, keep15, ib15, mk15, Try.f15]
    first | refine HFnF.mk (l06Key x hx) ?_ | refine CallSF.mk (l06Key x hx) ?_ | refine HFnF.mkAt (l06Key x hx) ?_ | refine CallSF.mk (FnAt.fn0 (l06Key x hx)) ?_
    simp (maxSteps := 1000000) -dsimp -implicitDefEqProofs only [go_sem, ↓reduceIte, keep15, ib15, mk15, Try.f15, upd_ne, e_nx_mb, e_nx_m, e_mb_nx, e_mb_m, e_m_nx, e_m_mb, ek, hbl]
    repeat' (with_reducible first | intro _ | refine And.intro ?_ ?_)
    all_goals try omega
    case some.refine_2.refine_1.refine_2.refine_2 => exact ⟨_, Heap.le_refl _, some m, by rw [r2 (by omega)]; exact ⟨hq1, hq2, hq3⟩, by rw [r2 (by omega)]; rfl⟩
    all_goals
      rename_i hc b hb
      revert hb; revert b
      intro b q_b
      have d_b_nx : ¬ b = nx := by first | exact q_b.1 | exact q_b | exact q_b.2.1 | exact q_b.2 | exact q_b.2.2.1 | exact q_b.2.2 | exact q_b.2.2.2.1 | exact q_b.2.2.2 | exact q_b.2.2.2.2.1 | exact q_b.2.2.2.2 | exact q_b.2.2.2.2.2.1 | exact q_b.2.2.2.2.2 | exact q_b.2.2.2.2.2.2.1 | exact q_b.2.2.2.2.2.2 | exact q_b.2.2.2.2.2.2.2.1 | exact q_b.2.2.2.2.2.2.2 | exact q_b.2.2.2.2.2.2.2.2.1 | exact q_b.2.2.2.2.2.2.2.2 | exact q_b.2.2.2.2.2.2.2.2.2.1 | exact q_b.2.2.2.2.2.2.2.2.2 | exact q_b.2.2.2.2.2.2.2.2.2.2.1 | exact q_b.2.2.2.2.2.2.2.2.2.2 | exact q_b.2.2.2.2.2.2.2.2.2.2.2.1 | exact q_b.2.2.2.2.2.2.2.2.2.2.2 | exact q_b.2.2.2.2.2.2.2.2.2.2.2.2.1 | exact q_b.2.2.2.2.2.2.2.2.2.2.2.2 | exact q_b.2.2.2.2.2.2.2.2.2.2.2.2.2.1 | exact q_b.2.2.2.2.2.2.2.2.2.2.2.2.2
      have e_b_nx : (b = nx) = False := eq_false d_b_nx
      have e_nx_b : (nx = b) = False := eq_false (Ne.symm d_b_nx)
      have d_nx_b : ¬ nx = b := Ne.symm d_b_nx
      have d_b_mb : ¬ b = mb := by first | exact q_b.1 | exact q_b | exact q_b.2.1 | exact q_b.2 | exact q_b.2.2.1 | exact q_b.2.2 | exact q_b.2.2.2.1 | exact q_b.2.2.2 | exact q_b.2.2.2.2.1 | exact q_b.2.2.2.2 | exact q_b.2.2.2.2.2.1 | exact q_b.2.2.2.2.2 | exact q_b.2.2.2.2.2.2.1 | exact q_b.2.2.2.2.2.2 | exact q_b.2.2.2.2.2.2.2.1 | exact q_b.2.2.2.2.2.2.2 | exact q_b.2.2.2.2.2.2.2.2.1 | exact q_b.2.2.2.2.2.2.2.2 | exact q_b.2.2.2.2.2.2.2.2.2.1 | exact q_b.2.2.2.2.2.2.2.2.2 | exact q_b.2.2.2.2.2.2.2.2.2.2.1 | exact q_b.2.2.2.2.2.2.2.2.2.2 | exact q_b.2.2.2.2.2.2.2.2.2.2.2.1 | exact q_b.2.2.2.2.2.2.2.2.2.2.2 | exact q_b.2.2.2.2.2.2.2.2.2.2.2.2.1 | exact q_b.2.2.2.2.2.2.2.2.2.2.2.2 | exact q_b.2.2.2.2.2.2.2.2.2.2.2.2.2.1 | exact q_b.2.2.2.2.2.2.2.2.2.2.2.2.2
      have e_b_mb : (b = mb) = False := eq_false d_b_mb
      have e_mb_b : (mb = b) = False := eq_false (Ne.symm d_b_mb)
      have d_mb_b : ¬ mb = b := Ne.symm d_b_mb
      have d_b_m : ¬ b = m := by first | exact q_b.1 | exact q_b | exact q_b.2.1 | exact q_b.2 | exact q_b.2.2.1 | exact q_b.2.2 | exact q_b.2.2.2.1 | exact q_b.2.2.2 | exact q_b.2.2.2.2.1 | exact q_b.2.2.2.2 | exact q_b.2.2.2.2.2.1 | exact q_b.2.2.2.2.2 | exact q_b.2.2.2.2.2.2.1 | exact q_b.2.2.2.2.2.2 | exact q_b.2.2.2.2.2.2.2.1 | exact q_b.2.2.2.2.2.2.2 | exact q_b.2.2.2.2.2.2.2.2.1 | exact q_b.2.2.2.2.2.2.2.2 | exact q_b.2.2.2.2.2.2.2.2.2.1 | exact q_b.2.2.2.2.2.2.2.2.2 | exact q_b.2.2.2.2.2.2.2.2.2.2.1 | exact q_b.2.2.2.2.2.2.2.2.2.2 | exact q_b.2.2.2.2.2.2.2.2.2.2.2.1 | exact q_b.2.2.2.2.2.2.2.2.2.2.2 | exact q_b.2.2.2.2.2.2.2.2.2.2.2.2.1 | exact q_b.2.2.2.2.2.2.2.2.2.2.2.2 | exact q_b.2.2.2.2.2.2.2.2.2.2.2.2.2.1 | exact q_b.2.2.2.2.2.2.2.2.2.2.2.2.2
      have e_b_m : (b = m) = False := eq_false d_b_m
      have e_m_b : (m = b) = False := eq_false (Ne.symm d_b_m)
      have d_m_b : ¬ m = b := Ne.symm d_b_m
      have z_b : h0 b = none := by first | exact q_b.1 | exact q_b | exact q_b.2.1 | exact q_b.2 | exact q_b.2.2.1 | exact q_b.2.2 | exact q_b.2.2.2.1 | exact q_b.2.2.2 | exact q_b.2.2.2.2.1 | exact q_b.2.2.2.2 | exact q_b.2.2.2.2.2.1 | exact q_b.2.2.2.2.2 | exact q_b.2.2.2.2.2.2.1 | exact q_b.2.2.2.2.2.2 | exact q_b.2.2.2.2.2.2.2.1 | exact q_b.2.2.2.2.2.2.2 | exact q_b.2.2.2.2.2.2.2.2.1 | exact q_b.2.2.2.2.2.2.2.2 | exact q_b.2.2.2.2.2.2.2.2.2.1 | exact q_b.2.2.2.2.2.2.2.2.2 | exact q_b.2.2.2.2.2.2.2.2.2.2.1 | exact q_b.2.2.2.2.2.2.2.2.2.2 | exact q_b.2.2.2.2.2.2.2.2.2.2.2.1 | exact q_b.2.2.2.2.2.2.2.2.2.2.2 | exact q_b.2.2.2.2.2.2.2.2.2.2.2.2.1 | exact q_b.2.2.2.2.2.2.2.2.2.2.2.2 | exact q_b.2.2.2.2.2.2.2.2.2.2.2.2.2.1 | exact q_b.2.2.2.2.2.2.2.2.2.2.2.2.2
      simp (maxSteps := 1000000) -dsimp -implicitDefEqProofs only [go_sem, ↓reduceIte, keep15, ib15, mk15, Try.f15, upd_ne, e_b_nx, e_b_mb, e_b_m, e_nx_b, e_nx_mb, e_nx_m, e_mb_b, e_mb_nx, e_mb_m, e_m_b, e_m_nx, e_m_mb]
      rw [r1 (by omega)]
      refine ⟨spH h0 nx mb w sl (some b) (bs.set (keyS x) c) (qs ++ [(keyS x : Int)]), ?_, some b, ⟨z_b, d_b_nx, d_b_mb⟩, rfl⟩
      simp only [spH, eset]
      have eq : List.take qs.length (List.map (List.map Cell.v) (List.map (fun n => [I n]) qs)) ++ [[Cell.v (I (keyS x))]] = ((qs ++ [(keyS x : Int)]).map fun n => [I n]).map (List.map Cell.v) := by
        rw [List.take_of_length_le (by simp)]; simp
      rw [eq]
      exact (by intro q_; simp only [upd_get, oheap_none, oheap_some, onil_none, onil_some, List.length_nil]; grind)
theorem spH_nx {h0 : Heap} {nx mb : Nat} {w : List Int} {sl : Nat} {mq : Option Nat} {bs qs : List Int} (hn : ¬ nx = mb) (hq : qside h0 nx mb qs mq) : spH h0 nx mb w sl mq bs qs nx = some (spBox w sl mb (onil 1 qs.length mq)) := by
  unfold spH
  cases mq with
  | none => rw [oheap_none, upd_ne _ _ _ _ hn, upd_same]
  | some m => rw [oheap_some, upd_ne _ _ _ _ (Ne.symm hq.2.1), upd_ne _ _ _ _ hn, upd_same]
theorem spH_mb {h0 : Heap} {nx mb : Nat} {w : List Int} {sl : Nat} {mq : Option Nat} {bs qs : List Int} (hq : qside h0 nx mb qs mq) : spH h0 nx mb w sl mq bs qs mb = some (rowsI bs) := by
  unfold spH
  cases mq with
  | none => rw [oheap_none, upd_same]
  | some m => rw [oheap_some, upd_ne _ _ _ _ (Ne.symm hq.2.2), upd_same]
noncomputable def bOf (bs : List Int) (x : SS) : Option Int := open Classical in if okS x ∧ 0 ≤ bs.getD (keyS x) (-1) then some (bs.getD (keyS x) (-1)) else none
theorem bOf_some {bs : List Int} {x : SS} {v : Int} : bOf bs x = some v ↔ okS x ∧ 0 ≤ v ∧ bs.getD (keyS x) (-1) = v := by
  unfold bOf
  split
  · rename_i h
    constructor
    · intro q; cases q; exact ⟨h.1, h.2, rfl⟩
    · intro q; rw [q.2.2]
  · rename_i h
    constructor
    · intro q; cases q
    · intro q; exact absurd ⟨q.1, by omega⟩ h
theorem bOf_set {bs : List Int} (hl : bs.length = 16384) {x : SS} (hx : okS x) {c : Int} (h0 : 0 ≤ c) : bOf (bs.set (keyS x) c) = setB (bOf bs) x c := by
  have hk := keyS_lt hx
  funext y
  unfold setB
  by_cases e : y = x
  · subst e
    rw [if_pos rfl, bOf_some]
    exact ⟨hx, h0, by rw [List.getD_eq_getElem?_getD, List.getElem?_set_self (by omega)]; rfl⟩
  · rw [if_neg e]
    unfold bOf
    by_cases hy : okS y
    · have hne : keyS x ≠ keyS y := fun q => e (keyS_inj hx hy q).symm
      have : (bs.set (keyS x) c).getD (keyS y) (-1) = bs.getD (keyS y) (-1) := by rw [List.getD_eq_getElem?_getD, List.getElem?_set_ne hne, ← List.getD_eq_getElem?_getD]
      rw [this]
    · rw [if_neg fun q => hy q.1, if_neg fun q => hy q.1]
abbrev pendQ (qs : List Int) (i : Nat) : SS → Int → Prop := fun k _ => ∃ j, i ≤ j ∧ qs[j]? = some (keyS k : Int)
structure SpSt (w : List Int) (sl : Nat) (bs qs : List Int) (i : Nat) (E : SS → Int → Prop) : Prop where
  len : bs.length = 16384
  inv : SInv (stS w.length) (succP w sl) (bOf bs) (pendQ qs i) E
  bnd : Bnd (bOf bs)
  keys : ∀ (j : Nat) (k : Int), qs[j]? = some k → ∃ x, okS x ∧ k = keyS x ∧ bOf bs x ≠ none
  meas : pot (bOf bs) + qs.length ≤ 3276800000001
theorem SpSt.rlx {w : List Int} {sl : Nat} {bs qs : List Int} {i : Nat} {E : SS → Int → Prop} (h : SpSt w sl bs qs i E) (hi : i ≤ qs.length) {x : SS} {c : Int} (hw : Wlk (stS w.length) (succP w sl) x c) (hx : okS x) (h0 : 0 ≤ c) (hc : c ≤ 7000 * (knw (bOf bs) : Int) + 7000) :
    SpSt w sl (rlx bs qs (keyS x) c).1 (rlx bs qs (keyS x) c).2 i E ∧ (∃ v, bOf (rlx bs qs (keyS x) c).1 x = some v ∧ v ≤ c) ∧ leB (bOf bs) (bOf (rlx bs qs (keyS x) c).1) ∧ qs.length ≤ (rlx bs qs (keyS x) c).2.length ∧ knw (bOf bs) ≤ knw (bOf (rlx bs qs (keyS x) c).1) := by
  unfold Hl.rlx
  split
  · rename_i q
    have him : impr (bOf bs) x c := fun v hv => by
      have := bOf_some.1 hv
      omega
    have hb := h.bnd.relax hx h0 hc him
    have hp : ∀ k d, pendQ qs i k d → pendQ (qs ++ [(keyS x : Int)]) i k d := fun k d ⟨j, h1, h2⟩ => ⟨j, h1, by rw [List.getElem?_append_left (List.getElem?_eq_some_iff.1 h2).1]; exact h2⟩
    have hs := bOf_set h.len hx h0
    refine ⟨⟨by simp [h.len], ?_, ?_, ?_, ?_⟩, ?_, ?_, by simp, ?_⟩
    · rw [hs]
      exact h.inv.relax hw him hp ⟨qs.length, hi, by simp⟩
    · rw [hs]; exact hb.1
    · intro j k hj
      rw [hs]
      rcases Nat.lt_or_ge j qs.length with hl | hl
      · rw [List.getElem?_append_left hl] at hj
        obtain ⟨y, y1, y2, y3⟩ := h.keys j k hj
        refine ⟨y, y1, y2, ?_⟩
        unfold setB; split
        · simp
        · exact y3
      · rw [List.getElem?_append_right hl] at hj
        have : k = keyS x := by
          rcases Nat.eq_zero_or_pos (j - qs.length) with e | e
          · rw [e] at hj; simpa using hj.symm
          · rw [List.getElem?_eq_none (by simp; omega)] at hj; cases hj
        exact ⟨x, hx, this, by unfold setB; rw [if_pos rfl]; simp⟩
    · rw [hs]
      have := h.meas
      have := hb.2.1
      simp only [List.length_append, List.length_cons, List.length_nil]; omega
    · exact ⟨c, by rw [hs]; unfold setB; rw [if_pos rfl], Int.le_refl _⟩
    · rw [hs]; exact leB_set him
    · rw [hs]; exact hb.2.2
  · rename_i q
    refine ⟨h, ⟨bs.getD (keyS x) (-1), bOf_some.2 ⟨hx, by omega, rfl⟩, by omega⟩, leB_refl _, Nat.le_refl _, Nat.le_refl _⟩
/-- In the midst of a step: these edges are done. -/
structure SMid (w : List Int) (sl : Nat) (bs qs : List Int) (i : Nat) (x : SS) (d : Int) (dn : It → Prop) : Prop where
  st : SpSt w sl bs qs i fun k d' => k = x ∧ d' = d
  il : i ≤ qs.length
  db : d ≤ 7000 * (knw (bOf bs) : Int)
  dn : ∀ e, dn e → ∃ v, bOf bs e.1 = some v ∧ v ≤ d + e.2
theorem SMid.imp {w : List Int} {sl : Nat} {bs qs : List Int} {i : Nat} {x : SS} {d : Int} {dn dn' : It → Prop} (h : SMid w sl bs qs i x d dn) (hd : ∀ e, dn' e → dn e) : SMid w sl bs qs i x d dn' := ⟨h.st, h.il, h.db, fun e he => h.dn e (hd e he)⟩
theorem SMid.rlx {w : List Int} (hW : Wts w) {sl : Nat} {bs qs : List Int} {i : Nat} {x : SS} {d : Int} {dn : It → Prop} (h : SMid w sl bs qs i x d dn) (hn : w.length ≤ 7) (hx : Wlk (stS w.length) (succP w sl) x d) (h0 : 0 ≤ d) {e : It} (he : e ∈ succP w sl x) :
    SMid w sl (rlx bs qs (keyS e.1) (d + e.2)).1 (rlx bs qs (keyS e.1) (d + e.2)).2 i x d (fun e' => dn e' ∨ e' = e) := by
  have ok := okW_okS hn (wlkI_ok (wlk_PI hn hx))
  have ok' := okW_okS hn (wlkI_ok (wlk_PI hn (Wlk.step hx he)))
  have hc := succP_cost hW.1 (by have := ok.2.2; omega) he
  obtain ⟨h1, h2, h3, h4, h5⟩ := h.st.rlx h.il (Wlk.step hx he) ok' (by omega) (by have := h.db; omega)
  refine ⟨h1, Nat.le_trans h.il h4, by have := h.db; omega, ?_⟩
  rintro e' (q | rfl)
  · obtain ⟨v, v1, v2⟩ := h.dn e' q
    obtain ⟨v', v3, v4⟩ := h3 _ _ v1
    exact ⟨v', v3, by omega⟩
  · exact h2
theorem SMid.fin {w : List Int} {sl : Nat} {bs qs : List Int} {i : Nat} {x : SS} {d : Int} {dn : It → Prop} (h : SMid w sl bs qs i x d dn) (hd : ∀ e ∈ succP w sl x, dn e) : SpSt w sl bs qs i fun _ _ => False :=
  ⟨h.st.len, h.st.inv.mono fun k d' hk q => by
    rcases q with q | ⟨rfl, rfl⟩
    · exact .inl q
    · exact .inr (.inr fun e he => h.dn e (hd e he)), h.st.bnd, h.st.keys, h.st.meas⟩
structure HoldS (p : Prop) : Prop where
  get : p
theorem shareS {T G : Prop} (m : HoldS T → G) (t : T) : G := m ⟨t⟩
theorem and_bit (q i : Nat) : q &&& 2 ^ i = if q.testBit i then 2 ^ i else 0 := by
  apply Nat.eq_of_testBit_eq
  intro j
  rw [Nat.testBit_and, Nat.testBit_two_pow]
  by_cases e : i = j
  · subst e
    cases h : q.testBit i <;> simp
  · split <;> simp [e, Nat.testBit_two_pow]
@[go_sem] def keep16 : List Nat := [0, 1, 2, 3, 8, 9, 10, 11, 12, 13, 29, 51, 61, 69, 94]
@[go_sem] def ib16 : List Nat := []
@[go_sem] def mk16 : Marks := fun id => match id with | 0 => ([3, 7, 9], (.op 0 (.op 1 (.op 2 (.op 4 (.op 5 (.op 6 (.op 3 (.op 7 (.op 8 (.op 9 (.op 10 .nil))))))))))), [(3, 7)]) | 17 => ([3, 7], (.op 0 (.op 1 (.op 2 (.op 4 (.op 5 (.op 6 (.op 7 (.op 3 (.op 8 .nil))))))))), [(7, 3)]) | _ => ([], .nil, [])
set_option maxRecDepth 100000 in
theorem sstep {h0 : Heap} {nx mb : Nat} {w : List Int} (hW : Wts w) (hwl : w.length ≤ 7) {sl : Nat} {mq : Option Nat} {bs qs : List Int} (hn : ¬ nx = mb) (hq : qside h0 nx mb qs mq) {i : Nat} {x : SS} {d : Int} (hx : Wlk (stS w.length) (succP w sl) x d) (hbx : bOf bs x = some d) (hM : SMid w sl bs qs i x d fun _ => False) :
    HFn Try.prog 16 [.op nx 4 0 0, I x.left, I x.s, I x.q] (spH h0 nx mb w sl mq bs qs) fun _ h' => ∃ mq' bs' qs', qside h0 nx mb qs' mq' ∧ SpSt w sl bs' qs' i (fun _ _ => False) ∧ i ≤ qs'.length ∧ h' = spH h0 nx mb w sl mq' bs' qs' := by
  obtain ⟨hokx, h0d, hbd⟩ := bOf_some.1 hbx
  have hk := keyS_lt hokx
  have hbl := hM.st.len
  have ek : bs[keyS x]? = some d := by
    rw [List.getElem?_eq_getElem (by omega)]
    rw [List.getD_eq_getElem?_getD, List.getElem?_eq_getElem (by omega)] at hbd
    simpa using hbd
  have hnx := spH_nx (w := w) (sl := sl) (bs := bs) hn hq
  have hmb := spH_mb (nx := nx) (w := w) (sl := sl) (bs := bs) hq
  obtain ⟨o1, o2, o3⟩ := hokx
  have hokW := wlkI_ok (wlk_PI hwl hx)
  refine fnHA 103 keep16 ib16 mk16 Try.func16 ?_
  simp (maxSteps := 1000000) -dsimp -implicitDefEqProofs only [go_sem, ↓reduceIte, keep16, ib16, mk16, Try.f16, hnx, hmb]
  first | refine HFnF.mk (l06Key x ⟨o1, o2, o3⟩) ?_ | refine CallSF.mk (l06Key x ⟨o1, o2, o3⟩) ?_ | refine HFnF.mkAt (l06Key x ⟨o1, o2, o3⟩) ?_ | refine CallSF.mk (FnAt.fn0 (l06Key x ⟨o1, o2, o3⟩)) ?_
  simp (maxSteps := 1000000) -dsimp -implicitDefEqProofs only [go_sem, ↓reduceIte, keep16, ib16, mk16, Try.f16, hnx, hmb, ek, hbl]
  refine ⟨by omega, ?_⟩
  refine loopA keep16 ib16 mk16 (fun z : Nat × Option Nat × List Int × List Int => [(0, .op nx 4 0 0), (1, I x.left), (2, I x.s), (3, I x.q), (8, I d), (9, I (d + sumW w x.s z.1)), (10, I ((x.s + 1 + z.1 : Nat) : Int))]) (fun z => spH h0 nx mb w sl z.2.1 z.2.2.1 z.2.2.2) (fun z => z.1 ≤ x.left - (x.s + 1) ∧ qside h0 nx mb z.2.2.2 z.2.1 ∧ SMid w sl z.2.2.1 z.2.2.2 i x d fun e => ∃ j, j < z.1 ∧ e = (⟨x.s + 1 + j, x.q, x.left⟩, sumW w x.s (j + 1))) (fun z => x.left - (x.s + 1) - z.1) (0, mq, bs, qs) ⟨by simp [SatL, tget, sumW]; rw [IntWalk.i64_in _ (by omega)], Heap.le_refl _, Nat.zero_le _, hq, hM.imp fun e ⟨j, hj, _⟩ => absurd hj (Nat.not_lt_zero j)⟩ ?_
  rintro ⟨j, mq, bs, qs⟩ ⟨hj, hq, hM⟩
  simp only at hj hq hM ⊢
  have hnx := spH_nx (w := w) (sl := sl) (bs := bs) hn hq
  have hmb := spH_mb (nx := nx) (w := w) (sl := sl) (bs := bs) hq
  have hbl := hM.st.len
  have hkn := knw_le (bOf bs)
  have hdb := hM.db
  have hsw := sumW_in hW.1 x.s j
  have hmeas := hM.st.meas
  have hle := hM.il
  rcases Nat.lt_or_ge (x.s + 1 + j) x.left with hlt | hge
  · have ew : w[x.s + j]? = some (wAt w (x.s + j)) := by
      have : x.s + j < w.length := by have := hokW.2.1; omega
      unfold wAt; rw [List.getD_eq_getElem?_getD, List.getElem?_eq_getElem this]; rfl
    have ewi := wAt_in hW.1 (x.s + j)
    have hlt' : ((x.s + 1 + j : Nat) : Int) < (x.left : Int) := by omega
    have e1 : IntKind.i64.wrap (((x.s + 1 + j : Nat) : Int) - 1) = ((x.s + j : Nat) : Int) := by rw [IntWalk.i64_in _ (by omega)]; omega
    have e2 : IntKind.i64.wrap (d + sumW w x.s j + wAt w (x.s + j)) = d + sumW w x.s (j + 1) := by rw [sumW, IntWalk.i64_in _ (by omega)]; omega
    simp (maxSteps := 1000000) -dsimp -implicitDefEqProofs only [go_sem, ↓reduceIte, keep16, ib16, mk16, Try.f16, hnx, hmb, hlt', e1, ew, e2, Int.toNat_natCast]
    refine ⟨by have := hokW.2.1; omega, ?_⟩
    have he : ((⟨x.s + 1 + j, x.q, x.left⟩, sumW w x.s (j + 1)) : It) ∈ succP w sl x := by
      unfold succP
      simp only [List.mem_append, List.mem_map, List.mem_range]
      exact .inl (.inl (.inl ⟨j, by omega, rfl⟩))
    refine HFnF.mkH (sreach (c := d + sumW w x.s (j + 1)) hbl hn hq (by omega) ⟨x.s + 1 + j, x.q, x.left⟩ (okW_okS hwl (wlkI_ok (wlk_PI hwl (Wlk.step hx he))))) ?_
    rintro _ _ ⟨mq', hq', rfl⟩
    simp (maxSteps := 1000000) -dsimp -implicitDefEqProofs only [go_sem, ↓reduceIte, keep16, ib16, mk16, Try.f16]
    refine ⟨(j + 1, mq', _, _), ⟨rfl, ?_⟩, Heap.le_refl _, ⟨by omega, hq', (hM.rlx hW hwl hx h0d he).imp ?_⟩, by omega⟩
    · rw [IntWalk.i64_in _ (by omega)]; omega
    · rintro e ⟨j', hj', rfl⟩
      by_cases q : j' = j
      · subst q; exact .inr rfl
      · exact .inl ⟨j', by omega, rfl⟩
  · have hlt' : ¬ ((x.s + 1 + j : Nat) : Int) < (x.left : Int) := by omega
    have hM1 := hM.imp (dn' := fun e => ∃ j, j < x.left - (x.s + 1) ∧ e = (⟨x.s + 1 + j, x.q, x.left⟩, sumW w x.s (j + 1))) fun e ⟨j', h1, h2⟩ => ⟨j', by omega, h2⟩
    have el : IntKind.i64.wrap ((x.left : Int) - 1) = (x.left : Int) - 1 := IntWalk.i64_in _ (by omega)
    have em := shl64' o1
    have hql : qs.length < 10000000000000 := by omega
    clear hdb hsw hmeas
    apply shareS
    case m =>
      intro key
      by_cases hl : x.s + 1 = x.left
      · have hl' : (x.s : Int) = (x.left : Int) - 1 := by omega
        simp (maxSteps := 1000000) -dsimp -implicitDefEqProofs only [go_sem, ↓reduceIte, keep16, ib16, mk16, Try.f16, hnx, hmb, hlt', el, hl', em]
        have he : ((⟨x.s, x.q, x.s⟩, 0) : It) ∈ succP w sl x := by
          unfold succP
          simp only [List.mem_append]
          exact .inl (.inl (.inr (by rw [if_pos hl]; simp)))
        have hM2 := hM1.rlx hW hwl hx h0d he
        simp only [Int.add_zero] at hM2
        rw [← hl']
        refine HFnF.mkH (sreach (c := d) hbl hn hq (by omega) ⟨x.s, x.q, x.s⟩ (okW_okS hwl (wlkI_ok (wlk_PI hwl (Wlk.step hx he))))) ?_
        rintro _ _ ⟨mq', hq', rfl⟩
        simp (maxSteps := 1000000) -dsimp -implicitDefEqProofs only [go_sem, ↓reduceIte, keep16, ib16, mk16, Try.f16, em]
        refine loopA keep16 ib16 mk16 (fun z : Nat × Option Nat × List Int × List Int => [(0, .op nx 4 0 0), (1, I x.left), (2, I x.s), (3, I x.q), (8, I d), (11, I ((2 ^ x.s : Nat) : Int)), (12, I z.1)]) (fun z => spH h0 nx mb w sl z.2.1 z.2.2.1 z.2.2.2) (fun z => z.1 ≤ 8 ∧ qside h0 nx mb z.2.2.2 z.2.1 ∧ SMid w sl z.2.2.1 z.2.2.2 i x d fun e => (∃ j, j < x.left - (x.s + 1) ∧ e = (⟨x.s + 1 + j, x.q, x.left⟩, sumW w x.s (j + 1))) ∨ (x.s + 1 = x.left ∧ e = (⟨x.s, x.q, x.s⟩, 0)) ∨ ∃ k ∈ bitsN z.1 x.q, e = (⟨k, x.q, x.left⟩, 0) ∨ e = (⟨x.s, clrB x.q k ||| 2 ^ x.s, x.left⟩, 0)) (fun z => 8 - z.1) (0, mq', _, _) ⟨by simp [SatL, tget], Heap.le_refl _, Nat.zero_le _, hq', hM2.imp fun e q => q.elim .inl fun q => q.elim (fun q => .inr q.2) fun ⟨k, q, _⟩ => absurd q (by simp [bitsN])⟩ ?_
        exact key.get
      · have hl' : ¬ (x.s : Int) = (x.left : Int) - 1 := by omega
        simp (maxSteps := 1000000) -dsimp -implicitDefEqProofs only [go_sem, ↓reduceIte, keep16, ib16, mk16, Try.f16, hnx, hmb, hlt', el, hl', em]
        refine loopA keep16 ib16 mk16 (fun z : Nat × Option Nat × List Int × List Int => [(0, .op nx 4 0 0), (1, I x.left), (2, I x.s), (3, I x.q), (8, I d), (11, I ((2 ^ x.s : Nat) : Int)), (12, I z.1)]) (fun z => spH h0 nx mb w sl z.2.1 z.2.2.1 z.2.2.2) (fun z => z.1 ≤ 8 ∧ qside h0 nx mb z.2.2.2 z.2.1 ∧ SMid w sl z.2.2.1 z.2.2.2 i x d fun e => (∃ j, j < x.left - (x.s + 1) ∧ e = (⟨x.s + 1 + j, x.q, x.left⟩, sumW w x.s (j + 1))) ∨ (x.s + 1 = x.left ∧ e = (⟨x.s, x.q, x.s⟩, 0)) ∨ ∃ k ∈ bitsN z.1 x.q, e = (⟨k, x.q, x.left⟩, 0) ∨ e = (⟨x.s, clrB x.q k ||| 2 ^ x.s, x.left⟩, 0)) (fun z => 8 - z.1) (0, mq, bs, qs) ⟨by simp [SatL, tget], Heap.le_refl _, Nat.zero_le _, hq, hM1.imp fun e q => q.elim id fun q => q.elim (fun q => absurd q.1 hl) fun ⟨k, q, _⟩ => absurd q (by simp [bitsN])⟩ ?_
        exact key.get
    case t =>
      clear hM1 hM hbl hle hql hnx hmb hkn hq hj hge hlt' el
      rintro ⟨k, mq, bs, qs⟩ ⟨hk8, hq, hM⟩
      simp only at hk8 hq hM ⊢
      have hnx := spH_nx (w := w) (sl := sl) (bs := bs) hn hq
      have hmb := spH_mb (nx := nx) (w := w) (sl := sl) (bs := bs) hq
      have hbl := hM.st.len
      have hmeas := hM.st.meas
      rcases Nat.lt_or_ge k 8 with hlt | hge
      · have hlt' : (k : Int) < 8 := by omega
        have ek := shl64' hlt
        have h2k : 2 ^ k < 256 := bit_lt (n := 8) hlt
        have h2s : 2 ^ x.s < 256 := bit_lt (n := 8) o1
        have ea : IntKind.i64.wrap ((BitVec.ofInt IntKind.i64.bits (x.q : Int) &&& BitVec.ofInt IntKind.i64.bits ((2 ^ k : Nat) : Int)).toNat : Int) = ((x.q &&& 2 ^ k : Nat) : Int) := and64 o2 h2k
        have en : IntKind.i64.wrap ((BitVec.ofInt IntKind.i64.bits (x.q : Int) &&& ~~~ BitVec.ofInt IntKind.i64.bits ((2 ^ k : Nat) : Int)).toNat : Int) = ((clrB x.q k : Nat) : Int) := andNot64 o2 hlt
        have eo : IntKind.i64.wrap ((BitVec.ofInt IntKind.i64.bits ((clrB x.q k : Nat) : Int) ||| BitVec.ofInt IntKind.i64.bits ((2 ^ x.s : Nat) : Int)).toNat : Int) = ((clrB x.q k ||| 2 ^ x.s : Nat) : Int) := or64 (clrB_lt (n := 8) k o2) h2s
        have ei : IntKind.i64.wrap ((k : Int) + 1) = ((k + 1 : Nat) : Int) := by rw [IntWalk.i64_in _ (by omega)]; rfl
        simp (maxSteps := 1000000) -dsimp -implicitDefEqProofs only [go_sem, ↓reduceIte, keep16, ib16, mk16, Try.f16, hnx, hmb, hlt', ek, ea]
        constructor
        · intro h0'
          have hb : x.q.testBit k = false := by
            rw [and_bit] at h0'
            cases h : x.q.testBit k with
            | false => rfl
            | true => rw [h, if_pos rfl] at h0'; have := Nat.two_pow_pos k; omega
          refine ⟨(k + 1, mq, bs, qs), ei, Heap.le_refl _, ⟨by omega, hq, hM.imp ?_⟩, by omega⟩
          rintro e (q | q | ⟨k', q, q2⟩)
          · exact .inl q
          · exact .inr (.inl q)
          · refine .inr (.inr ⟨k', ?_, q2⟩)
            rw [mem_bits] at q ⊢
            refine ⟨?_, q.2⟩
            rcases Nat.lt_or_ge k' k with z | z
            · exact z
            · rw [show k' = k by omega, hb] at q; exact absurd q.2 (by simp)
        · intro h0'
          have hb : x.q.testBit k = true := by
            rw [and_bit] at h0'
            cases h : x.q.testBit k with
            | true => rfl
            | false => rw [h] at h0'; exact absurd rfl h0'
          have he1 : ((⟨k, x.q, x.left⟩, 0) : It) ∈ succP w sl x := by
            unfold succP
            simp only [List.mem_append, List.mem_flatMap]
            exact .inl (.inr ⟨k, mem_bits.2 ⟨hlt, hb⟩, by simp⟩)
          have he2 : ((⟨x.s, clrB x.q k ||| 2 ^ x.s, x.left⟩, 0) : It) ∈ succP w sl x := by
            unfold succP
            simp only [List.mem_append, List.mem_flatMap]
            exact .inl (.inr ⟨k, mem_bits.2 ⟨hlt, hb⟩, by simp⟩)
          have hle := hM.il
          have hM2 := hM.rlx hW hwl hx h0d he1
          simp only [Int.add_zero] at hM2
          refine HFnF.mkH (sreach (c := d) hbl hn hq (by omega) ⟨k, x.q, x.left⟩ (okW_okS hwl (wlkI_ok (wlk_PI hwl (Wlk.step hx he1))))) ?_
          rintro _ _ ⟨mq', hq', rfl⟩
          have hbl2 := hM2.st.len
          have hmeas2 := hM2.st.meas
          simp (maxSteps := 1000000) -dsimp -implicitDefEqProofs only [go_sem, ↓reduceIte, keep16, ib16, mk16, Try.f16, en, eo]
          have hM3 := hM2.rlx hW hwl hx h0d he2
          simp only [Int.add_zero] at hM3
          refine HFnF.mkH (sreach (c := d) hbl2 hn hq' (by omega) ⟨x.s, clrB x.q k ||| 2 ^ x.s, x.left⟩ (okW_okS hwl (wlkI_ok (wlk_PI hwl (Wlk.step hx he2))))) ?_
          rintro _ _ ⟨mq'', hq'', rfl⟩
          simp (maxSteps := 1000000) -dsimp -implicitDefEqProofs only [go_sem, ↓reduceIte, keep16, ib16, mk16, Try.f16]
          refine ⟨(k + 1, mq'', _, _), ei, Heap.le_refl _, ⟨by omega, hq'', hM3.imp ?_⟩, by omega⟩
          rintro e (q | q | ⟨k', q, q2⟩)
          · exact .inl (.inl (.inl q))
          · exact .inl (.inl (.inr (.inl q)))
          · rw [mem_bits] at q
            by_cases z : k' = k
            · subst z
              rcases q2 with q2 | q2
              · exact .inl (.inr q2)
              · exact .inr q2
            · exact .inl (.inl (.inr (.inr ⟨k', mem_bits.2 ⟨by omega, q.2⟩, q2⟩)))
      · have hlt' : ¬ (k : Int) < 8 := by omega
        have hk : k = 8 := by omega
        subst hk
        have h2s : 2 ^ x.s < 256 := bit_lt (n := 8) o1
        have eo : IntKind.i64.wrap ((BitVec.ofInt IntKind.i64.bits (x.q : Int) ||| BitVec.ofInt IntKind.i64.bits ((2 ^ x.s : Nat) : Int)).toNat : Int) = ((x.q ||| 2 ^ x.s : Nat) : Int) := or64 o2 h2s
        have hor : x.q ||| 2 ^ x.s < 2 ^ 8 := Nat.or_lt_two_pow o2 h2s
        have hle := hM.il
        simp (maxSteps := 1000000) -dsimp -implicitDefEqProofs only [go_sem, ↓reduceIte, keep16, ib16, mk16, Try.f16, hnx, hmb, hlt', eo]
        first | refine HFnF.mk (l06Count (x.q ||| 2 ^ x.s) hor) ?_ | refine CallSF.mk (l06Count (x.q ||| 2 ^ x.s) hor) ?_ | refine HFnF.mkAt (l06Count (x.q ||| 2 ^ x.s) hor) ?_ | refine CallSF.mk (FnAt.fn0 (l06Count (x.q ||| 2 ^ x.s) hor)) ?_
        simp (maxSteps := 1000000) -dsimp -implicitDefEqProofs only [go_sem, ↓reduceIte, keep16, ib16, mk16, Try.f16, hnx, hmb, eo]
        constructor
        · intro hc
          have hc' : (bitsN 8 (x.q ||| 2 ^ x.s)).length ≤ sl := by omega
          have he : ((⟨x.s, x.q ||| 2 ^ x.s, x.left⟩, 0) : It) ∈ succP w sl x := by
            unfold succP
            simp only [List.mem_append]
            exact .inr (by rw [if_pos hc']; simp)
          have hM2 := hM.rlx hW hwl hx h0d he
          simp only [Int.add_zero] at hM2
          refine HFnF.mkH (sreach (c := d) hbl hn hq (by omega) ⟨x.s, x.q ||| 2 ^ x.s, x.left⟩ (okW_okS hwl (wlkI_ok (wlk_PI hwl (Wlk.step hx he))))) ?_
          rintro _ _ ⟨mq', hq', rfl⟩
          simp (maxSteps := 1000000) -dsimp -implicitDefEqProofs only [go_sem, ↓reduceIte, keep16, ib16, mk16, Try.f16]
          refine ⟨_, Heap.le_refl _, mq', _, _, hq', hM2.fin ?_, hM2.il, rfl⟩
          intro e he'
          unfold succP at he'
          simp only [List.mem_append, List.mem_map, List.mem_flatMap, List.mem_range] at he'
          rcases he' with ((⟨j, hj, rfl⟩ | q) | ⟨k, hk, q⟩) | q
          · exact .inl (.inl ⟨j, hj, rfl⟩)
          · split at q
            · rename_i z; exact .inl (.inr (.inl ⟨z, by simpa using q⟩))
            · cases q
          · exact .inl (.inr (.inr ⟨k, hk, by simpa using q⟩))
          · rw [if_pos hc'] at q; exact .inr (by simpa using q)
        · intro hc
          have hc' : ¬ (bitsN 8 (x.q ||| 2 ^ x.s)).length ≤ sl := by omega
          refine ⟨_, Heap.le_refl _, mq, _, _, hq, hM.fin ?_, hM.il, rfl⟩
          intro e he'
          unfold succP at he'
          simp only [List.mem_append, List.mem_map, List.mem_flatMap, List.mem_range] at he'
          rcases he' with ((⟨j, hj, rfl⟩ | q) | ⟨k, hk, q⟩) | q
          · exact .inl ⟨j, hj, rfl⟩
          · split at q
            · rename_i z; exact .inr (.inl ⟨z, by simpa using q⟩)
            · cases q
          · exact .inr (.inr ⟨k, hk, by simpa using q⟩)
          · rw [if_neg hc'] at q; cases q
noncomputable def minS (w : List Int) (sl : Nat) : Option Int := Classical.epsilon fun r => MinG (stS w.length) (succI w sl) r
theorem minS_eq {w : List Int} {sl : Nat} {r : Option Int} (h : MinG (stS w.length) (succI w sl) r) : minS w sl = r :=
  MinG.uniq (fun _ _ h => h) (fun _ _ h => h) (Classical.epsilon_spec ⟨r, h⟩) h
noncomputable def srcRes (w : List Int) (sl : Int) : Int × Int :=
  if ¬ Wts w then (0, 1) else if ¬ (0 ≤ sl ∧ sl ≤ 3 ∧ w.length ≤ 7) then (0, 2) else match minS w sl.toNat with | some v => (v, 0) | none => (0, 4)
theorem bOf_replicate (x : SS) : bOf (List.replicate 16384 (-1)) x = none := by
  unfold bOf
  rw [if_neg]
  rintro ⟨hx, h⟩
  have hk := keyS_lt hx
  rw [List.getD_eq_getElem?_getD, List.getElem?_replicate, if_pos hk] at h
  simp at h
/-- Before the first state is noted. -/
theorem spst_init (w : List Int) (hn : w.length ≤ 7) (sl : Nat) : SpSt w sl (rlx (List.replicate 16384 (-1)) [] (keyS (stS w.length)) 0).1 (rlx (List.replicate 16384 (-1)) [] (keyS (stS w.length)) 0).2 0 fun _ _ => False := by
  have hs : okS (stS w.length) := ⟨by simp [stS], by simp [stS], by simp [stS]; omega⟩
  have hk := keyS_lt hs
  have hlen : (List.replicate 16384 (-1 : Int)).length = 16384 := List.length_replicate
  have e0 : (List.replicate 16384 (-1 : Int)).getD (keyS (stS w.length)) (-1) = -1 := by
    rw [List.getD_eq_getElem?_getD, List.getElem?_replicate, if_pos hk]; rfl
  have er : rlx (List.replicate 16384 (-1)) [] (keyS (stS w.length)) 0 = ((List.replicate 16384 (-1)).set (keyS (stS w.length)) 0, [((keyS (stS w.length) : Nat) : Int)]) := by
    unfold rlx; rw [if_pos (.inl (by rw [e0]; decide))]; rfl
  rw [er]
  have hb := bOf_set hlen hs (c := 0) (Int.le_refl _)
  have hnone : bOf (List.replicate 16384 (-1)) = fun _ => none := funext bOf_replicate
  have hbnd : Bnd (bOf (List.replicate 16384 (-1))) := ⟨fun x d h => by rw [bOf_replicate] at h; cases h⟩
  have him : impr (bOf (List.replicate 16384 (-1))) (stS w.length) 0 := fun v h => by rw [bOf_replicate] at h; cases h
  have hr := hbnd.relax hs (c := 0) (Int.le_refl _) (by omega) him
  have hp := pot_le hbnd
  refine ⟨by rw [List.length_set, List.length_replicate], ⟨?_, ?_, ?_⟩, by rw [hb]; exact hr.1, ?_, ?_⟩
  · intro k d h
    rw [hb] at h
    unfold setB at h
    split at h
    · rename_i e; cases h; rw [e]; exact .start
    · rw [hnone] at h; cases h
  · intro k d h
    rw [hb] at h
    unfold setB at h
    split at h
    · rename_i e; exact .inl ⟨0, Nat.le_refl _, by rw [e]; rfl⟩
    · rw [hnone] at h; cases h
  · exact ⟨0, by rw [hb]; unfold setB; rw [if_pos rfl], Int.le_refl _⟩
  · intro j k h
    cases j with
    | zero => exact ⟨stS w.length, hs, by simpa using h.symm, by rw [hb]; unfold setB; rw [if_pos rfl]; simp⟩
    | succ j => simp at h
  · rw [hb]
    have := hr.2.1
    simp only [List.length_cons, List.length_nil]; omega
/-- When all is done: the least number of a state with nothing left. -/
def minT (bs : List Int) : Nat → Int
  | 0 => -1
  | k + 1 => if 0 ≤ bs.getD k (-1) ∧ (minT bs k < 0 ∨ bs.getD k (-1) < minT bs k) then bs.getD k (-1) else minT bs k
theorem minT_spec (bs : List Int) : ∀ k, (minT bs k = -1 ∧ ∀ j, j < k → bs.getD j (-1) < 0) ∨ (0 ≤ minT bs k ∧ (∃ j, j < k ∧ bs.getD j (-1) = minT bs k) ∧ ∀ j, j < k → 0 ≤ bs.getD j (-1) → minT bs k ≤ bs.getD j (-1))
  | 0 => .inl ⟨rfl, fun j h => absurd h (Nat.not_lt_zero j)⟩
  | k + 1 => by
    rw [minT]
    rcases minT_spec bs k with ⟨h1, h2⟩ | ⟨h1, ⟨j, h2, h3⟩, h4⟩
    · split
      · rename_i q
        refine .inr ⟨q.1, ⟨k, by omega, rfl⟩, fun i hi h0 => ?_⟩
        by_cases e : i = k
        · rw [e]; exact Int.le_refl _
        · have := h2 i (by omega); omega
      · rename_i q
        refine .inl ⟨h1, fun i hi => ?_⟩
        by_cases e : i = k
        · rw [e]; omega
        · exact h2 i (by omega)
    · split
      · rename_i q
        refine .inr ⟨q.1, ⟨k, by omega, rfl⟩, fun i hi h0 => ?_⟩
        by_cases e : i = k
        · rw [e]; exact Int.le_refl _
        · have := h4 i (by omega) h0; omega
      · rename_i q
        refine .inr ⟨h1, ⟨j, by omega, h3⟩, fun i hi h0 => ?_⟩
        by_cases e : i = k
        · rw [e] at h0 ⊢; omega
        · exact h4 i (by omega) h0
theorem spst_end {w : List Int} (hW : Wts w) (hn : w.length ≤ 7) {sl : Nat} {bs qs : List Int} (h : SpSt w sl bs qs qs.length fun _ _ => False) : minS w sl = if minT bs 2048 < 0 then none else some (minT bs 2048) := by
  have reach : ∀ x c, Wlk (stS w.length) (succP w sl) x c → ∃ v, bOf bs x = some v ∧ v ≤ c := by
    intro x c hx
    have inv := h.inv.mono (p' := fun _ _ => False) (E' := fun _ _ => False) fun k d hk q => by
      rcases q with ⟨j, h1, h2⟩ | q
      · have := (List.getElem?_eq_some_iff.1 h2).1; omega
      · exact q.elim
    induction hx with
    | start => exact inv.start
    | @step x c e hx he ih =>
      obtain ⟨v, hv, hle⟩ := ih
      rcases inv.good x v hv with q | q | q
      · exact q.elim
      · exact q.elim
      · obtain ⟨v', hv', hle'⟩ := q e he
        exact ⟨v', hv', by omega⟩
  have left0 : ∀ x, okS x → (x.left = 0 ↔ keyS x < 2048) := fun x hx => by unfold okS keyS at *; omega
  refine minS_eq ?_
  rcases minT_spec bs 2048 with ⟨h1, h2⟩ | ⟨h1, ⟨j, h2, h3⟩, h4⟩
  · rw [if_pos (by omega)]
    intro x c hx hl
    obtain ⟨v, hv, _⟩ := reach x c (wlk_IP hn hx)
    have hb := bOf_some.1 hv
    have := h2 _ ((left0 x hb.1).1 hl)
    omega
  · rw [if_neg (by omega)]
    have hoj : okS (decS j) := by unfold okS decS; simp only; omega
    have hkj : keyS (decS j) = j := by unfold keyS decS; simp only; omega
    have hbj : bOf bs (decS j) = some (minT bs 2048) := bOf_some.2 ⟨hoj, h1, by rw [hkj]; exact h3⟩
    refine ⟨⟨decS j, (left0 _ hoj).2 (by omega), wlk_PI hn (h.inv.walk _ _ hbj)⟩, fun x c hl hx => ?_⟩
    obtain ⟨v, hv, hle⟩ := reach x c (wlk_IP hn hx)
    have hb := bOf_some.1 hv
    have := h4 _ ((left0 x hb.1).1 hl) (by omega)
    omega
def negs (k : Nat) : List Int := List.replicate k (-1)
theorem negs_len (k : Nat) : (negs k).length = k := List.length_replicate
theorem negs_snoc (k : Nat) : List.take k (((negs k).map fun n => [I n]).map (List.map Cell.v)) ++ [[Cell.v (I (-1))]] = ((negs (k + 1)).map fun n => [I n]).map (List.map Cell.v) := by
  rw [List.take_of_length_le (by simp [negs_len]), negs, negs, List.replicate_succ', List.map_append, List.map_append]; rfl
theorem spH_mq {h0 : Heap} {nx mb m : Nat} {w : List Int} {sl : Nat} {bs qs : List Int} : spH h0 nx mb w sl (some m) bs qs m = some (rowsI qs) := by
  unfold spH; rw [oheap_some, upd_same]
theorem rlx_pos {bs qs : List Int} {k : Nat} {c : Int} (h : bs.getD k (-1) < 0) : 0 < (rlx bs qs k c).2.length := by
  unfold rlx; rw [if_pos (.inl h)]; simp
theorem negs_neg (n k : Nat) : (negs n).getD k (-1) < 0 := by
  unfold negs
  rw [List.getD_eq_getElem?_getD, List.getElem?_replicate]
  split <;> simp
theorem SpSt.pop {w : List Int} {sl : Nat} {bs qs : List Int} {i : Nat} (h : SpSt w sl bs qs i fun _ _ => False) {x : SS} {d : Int} (hi : qs[i]? = some (keyS x : Int)) (hb : bOf bs x = some d) : SMid w sl bs qs (i + 1) x d fun _ => False := by
  have hx := bOf_some.1 hb
  refine ⟨⟨h.len, h.inv.mono fun k d' hk q => ?_, h.bnd, h.keys, h.meas⟩, by have := (List.getElem?_eq_some_iff.1 hi).1; omega, (h.bnd.ok x d hb).2.2, fun e q => q.elim⟩
  rcases q with ⟨j, h1, h2⟩ | q
  · by_cases e : j = i
    · subst e
      rw [hi] at h2
      have hk' := bOf_some.1 hk
      have : x = k := keyS_inj hx.1 hk'.1 (by have := Option.some.inj h2; omega)
      subst this
      rw [hb] at hk
      exact .inr (.inl ⟨rfl, (Option.some.inj hk).symm⟩)
    · exact .inl ⟨j, by omega, h2⟩
  · exact q.elim
theorem spH_le {h : Heap} {nx m : Nat} (h1 : h nx = none) (h2 : h m = none) {w : List Int} {sl : Nat} {mq : Option Nat} {bs qs : List Int} (hq : qside h nx m qs mq) : h.le (spH h nx m w sl mq bs qs) := by
  intro q
  unfold spH
  cases mq with
  | none => simp only [oheap_none, upd_get]; grind
  | some mm => have := hq.1; simp only [oheap_some, upd_get]; grind
theorem wlk_PI' {w : List Int} {sl : Nat} {bs qs : List Int} {i : Nat} {E : SS → Int → Prop} (h : SpSt w sl bs qs i E) {x : SS} {d : Int} (hb : bOf bs x = some d) : Wlk (stS w.length) (succP w sl) x d := h.inv.walk x d hb
@[go_sem] def keep5 : List Nat := [0, 1, 4, 5, 6, 7, 8, 9, 10, 11, 14, 22, 28, 50, 70, 95, 104]
@[go_sem] def ib5 : List Nat := [36]
@[go_sem] def mk5 : Marks := fun _ => ([], .nil, [])
set_option maxRecDepth 100000 in
theorem specSearchCost (w : List Int) (slots : Int) : Fn0 Try.prog 5 [ints w, I slots] (.tup [I (srcRes w slots).1, I (srcRes w slots).2]) := by
  refine fn0A 106 keep5 ib5 mk5 Try.func5 fun h => ?_
  simp (maxSteps := 1000000) -dsimp -implicitDefEqProofs only [go_sem, ↓reduceIte, keep5, ib5, mk5, Try.f5]
  first | refine HFnF.mk (l06Weights w) ?_ | refine CallSF.mk (l06Weights w) ?_ | refine HFnF.mkAt (l06Weights w) ?_ | refine CallSF.mk (FnAt.fn0 (l06Weights w)) ?_
  simp (maxSteps := 1000000) -dsimp -implicitDefEqProofs only [go_sem, ↓reduceIte, keep5, ib5, mk5, Try.f5]
  constructor
  · intro hw
    rw [srcRes, if_pos hw]
  · intro hw
    first | refine HFnF.mk (l00In slots 0 3) ?_ | refine CallSF.mk (l00In slots 0 3) ?_ | refine HFnF.mkAt (l00In slots 0 3) ?_ | refine CallSF.mk (FnAt.fn0 (l00In slots 0 3)) ?_
    simp (maxSteps := 1000000) -dsimp -implicitDefEqProofs only [go_sem, ↓reduceIte, keep5, ib5, mk5, Try.f5]
    have hw' : Wts w := by simpa using hw
    repeat' (with_reducible first | intro _ | refine And.intro ?_ ?_)
    · rename_i h1 h2 h3
      rw [srcRes, if_neg (by simpa using hw'), if_pos (by omega)]
    · rename_i h1 h2 h3 nx hnx0
      obtain ⟨sl, rfl⟩ : ∃ sl : Nat, slots = sl := ⟨slots.toNat, by omega⟩
      have hsl : (sl : Int) ≤ 3 := by omega
      have hwl : w.length ≤ 7 := by omega
      clear h1 h2 h3
      refine loopA keep5 ib5 mk5 (fun z : Nat × Option Nat => [(0, ints w), (6, .op nx 4 0 0), (7, I z.1)]) (fun z => oheap (upd h nx (.row 4 [[.v (ints w), .v (I sl), .v (onil 1 z.1 z.2), .v .nilsl]])) (rowsI (negs z.1)) z.2) (fun z => z.1 ≤ 16384 ∧ match z.2 with | none => z.1 = 0 | some m => 0 < z.1 ∧ h m = none ∧ ¬ m = nx) (fun z => 16384 - z.1) (0, none) ⟨by simp [SatL, tget], Heap.le_refl _, Nat.zero_le _, rfl⟩ ?_
      rintro ⟨k, mo⟩ ⟨hk, ho⟩
      simp only at hk ho ⊢
      cases mo with
      | none =>
        simp only at ho
        subst ho
        have h00 : (((0 : Nat) : Int) < 16384) := by decide
        simp (maxSteps := 1000000) -dsimp -implicitDefEqProofs only [go_sem, ↓reduceIte, keep5, ib5, mk5, Try.f5, oheap_none, onil_none, h00]
        refine ⟨by omega, by omega, by omega, ?_⟩
        intro m q_m
        have d_m_nx : ¬ m = nx := by first | exact q_m.1 | exact q_m | exact q_m.2.1 | exact q_m.2 | exact q_m.2.2.1 | exact q_m.2.2 | exact q_m.2.2.2.1 | exact q_m.2.2.2 | exact q_m.2.2.2.2.1 | exact q_m.2.2.2.2 | exact q_m.2.2.2.2.2.1 | exact q_m.2.2.2.2.2 | exact q_m.2.2.2.2.2.2.1 | exact q_m.2.2.2.2.2.2 | exact q_m.2.2.2.2.2.2.2.1 | exact q_m.2.2.2.2.2.2.2 | exact q_m.2.2.2.2.2.2.2.2.1 | exact q_m.2.2.2.2.2.2.2.2 | exact q_m.2.2.2.2.2.2.2.2.2.1 | exact q_m.2.2.2.2.2.2.2.2.2 | exact q_m.2.2.2.2.2.2.2.2.2.2.1 | exact q_m.2.2.2.2.2.2.2.2.2.2 | exact q_m.2.2.2.2.2.2.2.2.2.2.2.1 | exact q_m.2.2.2.2.2.2.2.2.2.2.2 | exact q_m.2.2.2.2.2.2.2.2.2.2.2.2.1 | exact q_m.2.2.2.2.2.2.2.2.2.2.2.2 | exact q_m.2.2.2.2.2.2.2.2.2.2.2.2.2.1 | exact q_m.2.2.2.2.2.2.2.2.2.2.2.2.2
        have e_m_nx : (m = nx) = False := eq_false d_m_nx
        have e_nx_m : (nx = m) = False := eq_false (Ne.symm d_m_nx)
        have d_nx_m : ¬ nx = m := Ne.symm d_m_nx
        have z_m : h m = none := by first | exact q_m.1 | exact q_m | exact q_m.2.1 | exact q_m.2 | exact q_m.2.2.1 | exact q_m.2.2 | exact q_m.2.2.2.1 | exact q_m.2.2.2 | exact q_m.2.2.2.2.1 | exact q_m.2.2.2.2 | exact q_m.2.2.2.2.2.1 | exact q_m.2.2.2.2.2 | exact q_m.2.2.2.2.2.2.1 | exact q_m.2.2.2.2.2.2 | exact q_m.2.2.2.2.2.2.2.1 | exact q_m.2.2.2.2.2.2.2 | exact q_m.2.2.2.2.2.2.2.2.1 | exact q_m.2.2.2.2.2.2.2.2 | exact q_m.2.2.2.2.2.2.2.2.2.1 | exact q_m.2.2.2.2.2.2.2.2.2 | exact q_m.2.2.2.2.2.2.2.2.2.2.1 | exact q_m.2.2.2.2.2.2.2.2.2.2 | exact q_m.2.2.2.2.2.2.2.2.2.2.2.1 | exact q_m.2.2.2.2.2.2.2.2.2.2.2 | exact q_m.2.2.2.2.2.2.2.2.2.2.2.2.1 | exact q_m.2.2.2.2.2.2.2.2.2.2.2.2 | exact q_m.2.2.2.2.2.2.2.2.2.2.2.2.2.1 | exact q_m.2.2.2.2.2.2.2.2.2.2.2.2.2
        simp (maxSteps := 1000000) -dsimp -implicitDefEqProofs only [go_sem, ↓reduceIte, keep5, ib5, mk5, Try.f5, upd_ne, e_m_nx, e_nx_m]
        refine ⟨(1, some m), rfl, ?_, ⟨by omega, by omega, z_m, d_m_nx⟩, by omega⟩
        simp only [oheap_some, onil_some]
        rw [show rowsI (negs 1) = HObj.row 1 [[Cell.v (I (-1))]] from rfl]
        exact (by intro q_; simp only [upd_get, oheap_none, oheap_some, onil_none, onil_some, List.length_nil]; grind)
      | some m =>
        obtain ⟨hk0, ho1, ho2⟩ := ho
        have d_m_nx : ¬ m = nx := ho2
        have d_nx_m : ¬ nx = m := Ne.symm d_m_nx
        have e_m_nx : (m = nx) = False := eq_false d_m_nx
        have e_nx_m : (nx = m) = False := eq_false d_nx_m
        rcases Nat.lt_or_ge k 16384 with hlt | hge
        · have hlt' : (k : Int) < 16384 := by omega
          simp (maxSteps := 1000000) -dsimp -implicitDefEqProofs only [go_sem, ↓reduceIte, keep5, ib5, mk5, Try.f5, oheap_some, onil_some, upd_ne, e_m_nx, e_nx_m, hlt', negs_len]
          refine ⟨by omega, by omega, by omega, by omega, by omega, by omega, ?_⟩
          intro b q_b
          have d_b_m : ¬ b = m := by first | exact q_b.1 | exact q_b | exact q_b.2.1 | exact q_b.2 | exact q_b.2.2.1 | exact q_b.2.2 | exact q_b.2.2.2.1 | exact q_b.2.2.2 | exact q_b.2.2.2.2.1 | exact q_b.2.2.2.2 | exact q_b.2.2.2.2.2.1 | exact q_b.2.2.2.2.2 | exact q_b.2.2.2.2.2.2.1 | exact q_b.2.2.2.2.2.2 | exact q_b.2.2.2.2.2.2.2.1 | exact q_b.2.2.2.2.2.2.2 | exact q_b.2.2.2.2.2.2.2.2.1 | exact q_b.2.2.2.2.2.2.2.2 | exact q_b.2.2.2.2.2.2.2.2.2.1 | exact q_b.2.2.2.2.2.2.2.2.2 | exact q_b.2.2.2.2.2.2.2.2.2.2.1 | exact q_b.2.2.2.2.2.2.2.2.2.2 | exact q_b.2.2.2.2.2.2.2.2.2.2.2.1 | exact q_b.2.2.2.2.2.2.2.2.2.2.2 | exact q_b.2.2.2.2.2.2.2.2.2.2.2.2.1 | exact q_b.2.2.2.2.2.2.2.2.2.2.2.2 | exact q_b.2.2.2.2.2.2.2.2.2.2.2.2.2.1 | exact q_b.2.2.2.2.2.2.2.2.2.2.2.2.2
          have e_b_m : (b = m) = False := eq_false d_b_m
          have e_m_b : (m = b) = False := eq_false (Ne.symm d_b_m)
          have d_m_b : ¬ m = b := Ne.symm d_b_m
          have d_b_nx : ¬ b = nx := by first | exact q_b.1 | exact q_b | exact q_b.2.1 | exact q_b.2 | exact q_b.2.2.1 | exact q_b.2.2 | exact q_b.2.2.2.1 | exact q_b.2.2.2 | exact q_b.2.2.2.2.1 | exact q_b.2.2.2.2 | exact q_b.2.2.2.2.2.1 | exact q_b.2.2.2.2.2 | exact q_b.2.2.2.2.2.2.1 | exact q_b.2.2.2.2.2.2 | exact q_b.2.2.2.2.2.2.2.1 | exact q_b.2.2.2.2.2.2.2 | exact q_b.2.2.2.2.2.2.2.2.1 | exact q_b.2.2.2.2.2.2.2.2 | exact q_b.2.2.2.2.2.2.2.2.2.1 | exact q_b.2.2.2.2.2.2.2.2.2 | exact q_b.2.2.2.2.2.2.2.2.2.2.1 | exact q_b.2.2.2.2.2.2.2.2.2.2 | exact q_b.2.2.2.2.2.2.2.2.2.2.2.1 | exact q_b.2.2.2.2.2.2.2.2.2.2.2 | exact q_b.2.2.2.2.2.2.2.2.2.2.2.2.1 | exact q_b.2.2.2.2.2.2.2.2.2.2.2.2 | exact q_b.2.2.2.2.2.2.2.2.2.2.2.2.2.1 | exact q_b.2.2.2.2.2.2.2.2.2.2.2.2.2
          have e_b_nx : (b = nx) = False := eq_false d_b_nx
          have e_nx_b : (nx = b) = False := eq_false (Ne.symm d_b_nx)
          have d_nx_b : ¬ nx = b := Ne.symm d_b_nx
          have z_b : h b = none := by first | exact q_b.1 | exact q_b | exact q_b.2.1 | exact q_b.2 | exact q_b.2.2.1 | exact q_b.2.2 | exact q_b.2.2.2.1 | exact q_b.2.2.2 | exact q_b.2.2.2.2.1 | exact q_b.2.2.2.2 | exact q_b.2.2.2.2.2.1 | exact q_b.2.2.2.2.2 | exact q_b.2.2.2.2.2.2.1 | exact q_b.2.2.2.2.2.2 | exact q_b.2.2.2.2.2.2.2.1 | exact q_b.2.2.2.2.2.2.2 | exact q_b.2.2.2.2.2.2.2.2.1 | exact q_b.2.2.2.2.2.2.2.2 | exact q_b.2.2.2.2.2.2.2.2.2.1 | exact q_b.2.2.2.2.2.2.2.2.2 | exact q_b.2.2.2.2.2.2.2.2.2.2.1 | exact q_b.2.2.2.2.2.2.2.2.2.2 | exact q_b.2.2.2.2.2.2.2.2.2.2.2.1 | exact q_b.2.2.2.2.2.2.2.2.2.2.2 | exact q_b.2.2.2.2.2.2.2.2.2.2.2.2.1 | exact q_b.2.2.2.2.2.2.2.2.2.2.2.2 | exact q_b.2.2.2.2.2.2.2.2.2.2.2.2.2.1 | exact q_b.2.2.2.2.2.2.2.2.2.2.2.2.2
          simp (maxSteps := 1000000) -dsimp -implicitDefEqProofs only [go_sem, ↓reduceIte, keep5, ib5, mk5, Try.f5, upd_ne, e_m_nx, e_m_b, e_nx_m, e_nx_b, e_b_m, e_b_nx]
          refine ⟨(k + 1, some b), by simp only [IntWalk.i64_in _ (show InI ((k : Int) + 1) from ⟨by omega, by omega⟩)]; trivial, ?_, ⟨by omega, by omega, z_b, d_b_nx⟩, by omega⟩
          simp only [oheap_some, onil_some, negs_snoc]
          exact (by intro q_; simp only [upd_get, oheap_none, oheap_some, onil_none, onil_some, List.length_nil]; grind)
        · have hlt' : ¬ (k : Int) < 16384 := by omega
          have hk' : k = 16384 := by omega
          subst hk'
          simp (maxSteps := 1000000) -dsimp -implicitDefEqProofs only [go_sem, ↓reduceIte, keep5, ib5, mk5, Try.f5, oheap_some, onil_some, upd_ne, e_m_nx, e_nx_m, hlt']
          intro _
          have hs : okS (stS w.length) := ⟨by simp [stS], by simp [stS], by simp [stS]; omega⟩
          refine HFnF.mkH (sreach (h0 := h) (nx := nx) (mb := m) (w := w) (sl := sl) (mq := none) (bs := negs 16384) (qs := []) (c := 0) (negs_len _) (Ne.symm ho2) rfl (by simp) (stS w.length) hs) ?_
          rintro _ _ ⟨mq', hq', rfl⟩
          have hst := spst_init w hwl sl
          rw [show List.replicate 16384 (-1 : Int) = negs 16384 from rfl] at hst
          have hpos := rlx_pos (qs := []) (c := 0) (negs_neg 16384 (keyS (stS w.length)))
          generalize (rlx (negs 16384) [] (keyS (stS w.length)) 0).1 = bs at *
          generalize (rlx (negs 16384) [] (keyS (stS w.length)) 0).2 = qs at *
          simp (maxSteps := 1000000) -dsimp -implicitDefEqProofs only [go_sem, ↓reduceIte, keep5, ib5, mk5, Try.f5]
          refine loopA keep5 ib5 mk5 (fun z : Nat × Option Nat × List Int × List Int => [(6, .op nx 4 0 0), (8, I z.1)]) (fun z => spH h nx m w sl z.2.1 z.2.2.1 z.2.2.2) (fun z => z.1 ≤ z.2.2.2.length ∧ qside h nx m z.2.2.2 z.2.1 ∧ (SpSt w sl z.2.2.1 z.2.2.2 z.1 fun _ _ => False) ∧ 0 < z.2.2.2.length) (fun z => 3276800000001 - z.1) (0, mq', bs, qs) ⟨by simp [SatL, tget], Heap.le_refl _, Nat.zero_le _, hq', hst, hpos⟩ ?_
          clear hst hq' hpos bs qs mq'
          rintro ⟨i, mq, bs, qs⟩ ⟨hi, hq, hst, hpos⟩
          simp only at hi hq hst hpos ⊢
          have hnx := spH_nx (w := w) (sl := sl) (bs := bs) (Ne.symm ho2) hq
          have hmb := spH_mb (nx := nx) (w := w) (sl := sl) (bs := bs) hq
          have hbl := hst.len
          have hmeas := hst.meas
          obtain ⟨mm, rfl⟩ : ∃ mm, mq = some mm := by
            cases mq with
            | none => obtain rfl : qs = [] := hq; simp at hpos
            | some mm => exact ⟨mm, rfl⟩
          rcases Nat.lt_or_ge i qs.length with hlt | hge
          · have hlt2 : (i : Int) < (qs.length : Int) := by omega
            have hmm := spH_mq (h0 := h) (nx := nx) (mb := m) (m := mm) (w := w) (sl := sl) (bs := bs) (qs := qs)
            have eq0 : qs[i]? = some qs[i] := List.getElem?_eq_getElem hlt
            obtain ⟨x, x1, x2, x3⟩ := hst.keys i _ eq0
            obtain ⟨d, hd⟩ := Option.ne_none_iff_exists'.1 x3
            rw [x2] at eq0
            have hkx := keyS_lt x1
            have e1 : IntKind.i64.wrap ((keyS x : Int).tdiv 2048) = (x.left : Int) := by
              rw [Int.tdiv_eq_ediv_of_nonneg (by omega), IntWalk.i64_in _ (by omega)]; unfold okS keyS at *; omega
            have e2 : (IntKind.i64.wrap ((keyS x : Int).tdiv 256)).tmod 8 = (x.s : Int) := by
              rw [Int.tdiv_eq_ediv_of_nonneg (by omega), IntWalk.i64_in _ (by omega), Int.tmod_eq_emod_of_nonneg (by omega)]; unfold okS keyS at *; omega
            have e3 : (keyS x : Int).tmod 256 = (x.q : Int) := by
              rw [Int.tmod_eq_emod_of_nonneg (by omega)]; unfold okS keyS at *; omega
            simp (maxSteps := 1000000) -dsimp -implicitDefEqProofs only [go_sem, ↓reduceIte, keep5, ib5, mk5, Try.f5, hnx, onil_some, hlt2, hmm, eq0, e1, e2, e3, hlt]
            intro _
            refine HFnF.mkH (sstep hw' hwl (Ne.symm ho2) hq (wlk_PI' hst hd) hd (hst.pop eq0 hd)) ?_
            rintro _ _ ⟨mq', bs', qs', hq', hst', hi', rfl⟩
            simp (maxSteps := 1000000) -dsimp -implicitDefEqProofs only [go_sem, ↓reduceIte, keep5, ib5, mk5, Try.f5]
            refine ⟨(i + 1, mq', bs', qs'), by simp only [IntWalk.i64_in _ (show InI ((i : Int) + 1) from ⟨by omega, by omega⟩)]; trivial, Heap.le_refl _, ⟨hi', hq', hst', Nat.lt_of_lt_of_le (Nat.succ_pos i) hi'⟩, by simp only; omega⟩
          · have hlt2 : ¬ (i : Int) < (qs.length : Int) := by omega
            obtain rfl : i = qs.length := by omega
            simp (maxSteps := 1000000) -dsimp -implicitDefEqProofs only [go_sem, ↓reduceIte, keep5, ib5, mk5, Try.f5, hnx, onil_some, hlt2]
            intro _
            have hmin := spst_end hw' hwl hst
            refine loopSA keep5 ib5 mk5 (fun k : Nat => [(6, .op nx 4 0 0), (10, I (minT bs k)), (11, I k)]) (fun k => k ≤ 2048) (fun k => 2048 - k) 0 ⟨by simp [SatL, tget, minT], Nat.zero_le _⟩ ?_
            intro k hk
            rcases Nat.lt_or_ge k 2048 with hkl | hkg
            · have hkl2 : (k : Int) < 2048 := by omega
              have ek : bs[k]? = some (bs.getD k (-1)) := by rw [List.getD_eq_getElem?_getD, List.getElem?_eq_getElem (by omega)]; rfl
              have ei : IntKind.i64.wrap ((k : Int) + 1) = ((k + 1 : Nat) : Int) := by rw [IntWalk.i64_in _ (by omega)]; rfl
              simp (maxSteps := 1000000) -dsimp -implicitDefEqProofs only [go_sem, ↓reduceIte, keep5, ib5, mk5, Try.f5, hnx, hmb, hkl2, ek, hbl]
              refine ⟨by omega, fun h1 => ⟨fun h2 => ⟨by omega, fun h3 => ⟨by omega, k + 1, ⟨?_, ei⟩, by omega, by omega⟩, fun h3 => ⟨k + 1, ⟨?_, ei⟩, by omega, by omega⟩⟩, fun h2 => ⟨by omega, k + 1, ⟨?_, ei⟩, by omega, by omega⟩⟩, fun h1 => ⟨k + 1, ⟨?_, ei⟩, by omega, by omega⟩⟩
              · rw [minT, if_pos ⟨h1, .inr h3⟩]
              · rw [minT, if_neg (by omega)]
              · rw [minT, if_pos ⟨h1, .inl h2⟩]
              · rw [minT, if_neg (by omega)]
            · have hkl2 : ¬ (k : Int) < 2048 := by omega
              obtain rfl : k = 2048 := by omega
              simp (maxSteps := 1000000) -dsimp -implicitDefEqProofs only [go_sem, ↓reduceIte, keep5, ib5, mk5, Try.f5, hkl2]
              have hle : h.le (spH h nx m w sl (some mm) bs qs) := spH_le hnx0 ho1 hq
              have hres : srcRes w (sl : Int) = match minS w sl with | some v => (v, 0) | none => (0, 4) := by
                rw [srcRes, if_neg (by simpa using hw'), if_neg (by omega)]; rfl
              rw [hres, hmin]
              constructor
              · intro h1; rw [if_pos h1]; exact ⟨rfl, hle⟩
              · intro h1; rw [if_neg h1]; exact ⟨rfl, hle⟩
    · rename_i h1
      rw [srcRes, if_neg (by simpa using hw'), if_pos (by omega)]
@[go_sem] theorem mr_len : mRow Try.prog 43 "Len" = some (18, false) := by kernel_rfl
@[go_sem] theorem mr_less : mRow Try.prog 43 "Less" = some (56, false) := by kernel_rfl
@[go_sem] theorem mr_swap : mRow Try.prog 43 "Swap" = some (59, false) := by kernel_rfl
@[go_sem] theorem mr_push : mRow Try.prog 43 "Push" = some (58, true) := by kernel_rfl
@[go_sem] theorem mr_pop : mRow Try.prog 43 "Pop" = some (57, true) := by kernel_rfl
@[go_sem] theorem key_held : KeyTy Try.prog 41 3 := keyTy_st (by kernel_rfl)
@[go_sem] theorem int0_64 : int0 Try.prog 2 = true := by kernel_rfl
def itC (x : It) : List HVal := [I x.1.s, I x.1.q, I x.1.left, I x.2]
theorem itC_eq (x : It) : itC x = [I x.1.s, I x.1.q, I x.1.left, I x.2] := rfl
abbrev rowT (l : List It) : HObj := .row 4 ((l.map itC).map (List.map .v))
abbrev frB (m n : Nat) : HObj := .row 1 [[.v (.os m 4 0 n)]]
@[go_sem] def keep18 : List Nat := [0, 2]
@[go_sem] def ib18 : List Nat := []
@[go_sem] def mk18 : Marks := fun _ => ([], .nil, [])
theorem fLen (m n : Nat) : Fn0 Try.prog 18 [.os m 4 0 n] (I n) := by
  refine fn0A 5 keep18 ib18 mk18 Try.func18 fun h => ?_
  simp (maxSteps := 1000000) -dsimp -implicitDefEqProofs only [go_sem, ↓reduceIte, keep18, ib18, mk18, Try.f18]
@[go_sem] def keep56 : List Nat := [0, 1, 2, 6]
@[go_sem] def ib56 : List Nat := []
@[go_sem] def mk56 : Marks := fun id => match id with | 1 => ([4, 9], (.op 0 (.op 1 (.op 2 (.op 3 (.op 5 (.op 6 (.op 7 (.op 8 (.op 4 (.op 9 (.op 10 (.op 11 .nil)))))))))))), []) | _ => ([], .nil, [])
theorem fLess {h : Heap} {m n i j : Nat} {l : List It} (hm : h m = some (rowT l)) (hi : i < n) (hj : j < n) (hn : n ≤ l.length) : HFn Try.prog 56 [.os m 4 0 n, I i, I j] h fun r h' => r = .bool (decide (cst l i < cst l j)) ∧ h' = h := by
  have ei : l[i]? = some (l[i]'(by omega)) := List.getElem?_eq_getElem _
  have ej : l[j]? = some (l[j]'(by omega)) := List.getElem?_eq_getElem _
  refine fnHA 18 keep56 ib56 mk56 Try.func56 ?_
  simp (maxSteps := 1000000) -dsimp -implicitDefEqProofs only [go_sem, ↓reduceIte, keep56, ib56, mk56, Try.f56, hm, ei, ej, itC_eq]
  exact ⟨hi, hj, h, Heap.le_refl _, by simp only [cst, ei, ej, Option.map_some, Option.getD_some], rfl⟩
theorem rset (l : List It) (i : Nat) (x : It) : ((l.map itC).map (List.map Cell.v)).set i [Cell.v (I x.1.s), Cell.v (I x.1.q), Cell.v (I x.1.left), Cell.v (I x.2)] = ((l.set i x).map itC).map (List.map Cell.v) := by
  rw [List.map_set, List.map_set]; rfl
@[go_sem] def keep59 : List Nat := [0, 1, 2]
@[go_sem] def ib59 : List Nat := []
@[go_sem] def mk59 : Marks := fun id => match id with | 0 => ([7, 11, 13, 15], (.op 0 (.op 1 (.op 2 (.op 3 (.op 4 (.op 5 (.op 6 (.op 8 (.op 9 (.op 10 (.op 7 (.op 11 (.op 12 (.op 13 (.op 14 (.op 15 .nil)))))))))))))))), []) | _ => ([], .nil, [])
theorem fSwap {h : Heap} {m n i j : Nat} {l : List It} (hm : h m = some (rowT l)) (hi : i < n) (hj : j < n) (hn : n ≤ l.length) : HFn Try.prog 59 [.os m 4 0 n, I i, I j] h fun _ h' => h' = upd h m (rowT (swL l i j)) := by
  have ei : l[i]? = some (l[i]'(by omega)) := List.getElem?_eq_getElem _
  have ej : l[j]? = some (l[j]'(by omega)) := List.getElem?_eq_getElem _
  have e2 : (l.set i (l[j]'(by omega)))[j]? = some (l[j]'(by omega)) := by
    rw [List.getElem?_set]
    split
    · rename_i q; subst q; rw [if_pos (by omega)]
    · exact ej
  refine fnHA 20 keep59 ib59 mk59 Try.func59 ?_
  simp (maxSteps := 1000000) -dsimp -implicitDefEqProofs only [go_sem, ↓reduceIte, keep59, ib59, mk59, Try.f59, hm, ei, ej, upd_ne, itC_eq, rset l i (l[j]'(by omega)), rset (l.set i (l[j]'(by omega))) j (l[i]'(by omega)), e2]
  refine ⟨hj, hi, hi, hj, ?_⟩
  rw [swL_eq (by omega) (by omega)]
  exact ⟨_, by rw [upd_upd]; exact Heap.le_refl _, rfl⟩
abbrev hpI (nb : Nat) : HVal := .iface 43 (.op nb 1 0 0)
@[go_sem] def keep34 : List Nat := [0, 1, 4, 17]
@[go_sem] def ib34 : List Nat := []
@[go_sem] def mk34 : Marks := fun _ => ([], .nil, [])
theorem hpUp {h : Heap} {nb m n j : Nat} {l : List It} (hnm : ¬ nb = m) (hb : h nb = some (frB m n)) (hm : h m = some (rowT l)) (hn : n ≤ l.length) (hn2 : n < 9223372036854775807) (hj : j < n) (hu : UpOK (cst l) n j) :
    HFn Try.prog 34 [hpI nb, I j] h fun _ h' => ∃ l' : List It, l'.Perm l ∧ l'.length = l.length ∧ HeapOK (cst l') n ∧ h' = upd h m (rowT l') := by
  have d_nb_m : ¬ nb = m := hnm
  have d_m_nb : ¬ m = nb := Ne.symm d_nb_m
  have e_nb_m : (nb = m) = False := eq_false d_nb_m
  have e_m_nb : (m = nb) = False := eq_false d_m_nb
  refine fnHA 23 keep34 ib34 mk34 Try.func34 ?_
  simp (maxSteps := 1000000) -dsimp -implicitDefEqProofs only [go_sem, ↓reduceIte, keep34, ib34, mk34, Try.f34]
  refine loopA keep34 ib34 mk34 (fun z : Nat × List It => [(0, hpI nb), (1, I z.1)]) (fun z => upd h m (rowT z.2)) (fun z => z.1 < n ∧ z.2.Perm l ∧ z.2.length = l.length ∧ UpOK (cst z.2) n z.1) (fun z => z.1) (j, l) ⟨by simp [SatL, tget], by rw [upd_self hm]; exact Heap.le_refl _, hj, .refl _, rfl, hu⟩ ?_
  rintro ⟨j, q⟩ ⟨hj, hp, hl, hu⟩
  simp only at hj hp hl hu ⊢
  rcases Nat.eq_zero_or_pos j with h0 | h0
  · subst h0
    have e0 : IntKind.i64.wrap ((IntKind.i64.wrap (((0 : Nat) : Int) - 1)).tdiv 2) = ((0 : Nat) : Int) := by decide
    simp (maxSteps := 1000000) -dsimp -implicitDefEqProofs only [go_sem, ↓reduceIte, keep34, ib34, mk34, Try.f34, e0]
    exact ⟨_, Heap.le_refl _, q, hp, hl, hu.done0, rfl⟩
  · have hpj := par_lt h0
    have e0 : IntKind.i64.wrap ((IntKind.i64.wrap ((j : Int) - 1)).tdiv 2) = ((par j : Nat) : Int) := by
      rw [IntWalk.i64_in ((j : Int) - 1) (by omega), Int.tdiv_eq_ediv_of_nonneg (by omega), IntWalk.i64_in _ (by omega)]; unfold par; omega
    have e1 : ¬ ((par j : Nat) : Int) = (j : Int) := by omega
    simp (maxSteps := 1000000) -dsimp -implicitDefEqProofs only [go_sem, ↓reduceIte, keep34, ib34, mk34, Try.f34, e0, e1, upd_ne, e_nb_m, e_m_nb, hb]
    refine HFnF.mkH (fLess (l := q) (upd_same _ _ _) hj (by omega) (by omega)) ?_
    rintro _ _ ⟨rfl, rfl⟩
    simp (maxSteps := 1000000) -dsimp -implicitDefEqProofs only [go_sem, ↓reduceIte, keep34, ib34, mk34, Try.f34, e0, e1, upd_ne, e_nb_m, e_m_nb, hb]
    constructor
    · intro hc
      exact ⟨_, Heap.le_refl _, q, hp, hl, hu.done (by omega), rfl⟩
    · intro hc
      refine HFnF.mkH (fSwap (l := q) (upd_same _ _ _) (show par j < n by omega) hj (by omega)) ?_
      rintro _ _ rfl
      simp (maxSteps := 1000000) -dsimp -implicitDefEqProofs only [go_sem, ↓reduceIte, keep34, ib34, mk34, Try.f34]
      rw [upd_upd]
      have hjl : j < q.length := by omega
      refine ⟨(par j, swL q (par j) j), by simp, Heap.le_refl _, ⟨by simp only; omega, (swL_perm (by omega) hjl).trans hp, by rw [swL_len]; exact hl, ?_⟩, hpj⟩
      rw [cst_sw (by omega) hjl (by omega)]
      exact hu.swap h0 hj hc
@[go_sem] def keep33 : List Nat := [0, 1, 2, 6, 7, 8, 9, 10, 21, 33, 39]
@[go_sem] def ib33 : List Nat := []
@[go_sem] def mk33 : Marks := fun _ => ([], .nil, [])
theorem hpDown {h : Heap} {nb m n n' j : Nat} {l : List It} (hnm : ¬ nb = m) (hb : h nb = some (frB m n')) (hm : h m = some (rowT l)) (hnn : n ≤ n') (hn : n' ≤ l.length) (hn2 : n' < 4611686018427387900) (hj : j < n + 1) (hu : DownOK (cst l) n j) :
    HFn Try.prog 33 [hpI nb, I j, I n] h fun _ h' => ∃ l' : List It, (l'.take n).Perm (l.take n) ∧ l'.drop n = l.drop n ∧ l'.length = l.length ∧ HeapOK (cst l') n ∧ h' = upd h m (rowT l') := by
  have d_nb_m : ¬ nb = m := hnm
  have d_m_nb : ¬ m = nb := Ne.symm d_nb_m
  have e_nb_m : (nb = m) = False := eq_false d_nb_m
  have e_m_nb : (m = nb) = False := eq_false d_m_nb
  refine fnHA 48 keep33 ib33 mk33 Try.func33 ?_
  simp (maxSteps := 1000000) -dsimp -implicitDefEqProofs only [go_sem, ↓reduceIte, keep33, ib33, mk33, Try.f33]
  refine loopA keep33 ib33 mk33 (fun z : Nat × List It => [(0, hpI nb), (1, I j), (2, I n), (7, I z.1)]) (fun z => upd h m (rowT z.2)) (fun z => z.1 < n + 1 ∧ (z.2.take n).Perm (l.take n) ∧ z.2.drop n = l.drop n ∧ z.2.length = l.length ∧ DownOK (cst z.2) n z.1) (fun z => n - z.1) (j, l) ⟨by simp [SatL, tget], by rw [upd_self hm]; exact Heap.le_refl _, hj, .refl _, rfl, rfl, hu⟩ ?_
  rintro ⟨i, q⟩ ⟨hi, hp, hd, hl, hu⟩
  simp only at hi hp hd hl hu ⊢
  have e1 : IntKind.i64.wrap (IntKind.i64.wrap (2 * (i : Int)) + 1) = ((2 * i + 1 : Nat) : Int) := by
    rw [IntWalk.i64_in (2 * (i : Int)) (by omega), IntWalk.i64_in _ (by omega)]; omega
  have e2 : IntKind.i64.wrap (((2 * i + 1 : Nat) : Int) + 1) = ((2 * i + 2 : Nat) : Int) := by
    rw [IntWalk.i64_in _ (by omega)]; omega
  have e3 : ¬ (((2 * i + 1 : Nat) : Int) < 0) := by omega
  rcases Nat.lt_or_ge (2 * i + 1) n with hlt | hge
  · have e4 : ¬ (((2 * i + 1 : Nat) : Int) ≥ (n : Int)) := by omega
    have e5 : (((2 * i + 2 : Nat) : Int) < (n : Int)) = (2 * i + 2 < n) := propext (by omega)
    simp (maxSteps := 1000000) -dsimp -implicitDefEqProofs only [go_sem, ↓reduceIte, keep33, ib33, mk33, Try.f33, e1, e2, e3, e4, e5, upd_ne, e_nb_m, e_m_nb, hb]
    constructor
    · intro h2
      refine HFnF.mkH (fLess (l := q) (upd_same _ _ _) (show 2 * i + 2 < n' by omega) (show 2 * i + 1 < n' by omega) (by omega)) ?_
      rintro _ _ ⟨rfl, rfl⟩
      simp (maxSteps := 1000000) -dsimp -implicitDefEqProofs only [go_sem, ↓reduceIte, keep33, ib33, mk33, Try.f33, e1, e2, e3, e4, upd_ne, e_nb_m, e_m_nb, hb]
      constructor
      · intro hc1
        have hch : ∀ k, 0 < k → k < n → par k = i → cst q (2 * i + 2) ≤ cst q k := fun k k1 k2 k3 => by
          have : k = 2 * i + 1 ∨ k = 2 * i + 2 := by unfold par at k3; omega
          rcases this with e | e <;> rw [e] <;> omega
        have hpc : par (2 * i + 2) = i := by unfold par; omega
        refine HFnF.mkH (fLess (l := q) (upd_same _ _ _) (show 2 * i + 2 < n' by omega) (show i < n' by omega) (by omega)) ?_
        rintro _ _ ⟨rfl, rfl⟩
        simp (maxSteps := 1000000) -dsimp -implicitDefEqProofs only [go_sem, ↓reduceIte, keep33, ib33, mk33, Try.f33, e1, e2, e3, e4, upd_ne, e_nb_m, e_m_nb, hb]
        constructor
        · intro hc
          exact ⟨_, Heap.le_refl _, q, hp, hd, hl, hu.done (fun h1 => Int.le_trans (by omega) (hch _ (by omega) h1 (by unfold par; omega))) (fun h1 => Int.le_trans (by omega) (hch _ (by omega) h1 (by unfold par; omega))), rfl⟩
        · intro hc
          refine HFnF.mkH (fSwap (l := q) (upd_same _ _ _) (show i < n' by omega) (show 2 * i + 2 < n' by omega) (by omega)) ?_
          rintro _ _ rfl
          simp (maxSteps := 1000000) -dsimp -implicitDefEqProofs only [go_sem, ↓reduceIte, keep33, ib33, mk33, Try.f33]
          rw [upd_upd]
          obtain ⟨t1, t2⟩ := swL_take (l := q) (i := i) (j := 2 * i + 2) (n := n) (by omega) (by omega) (by omega)
          refine ⟨(2 * i + 2, swL q i (2 * i + 2)), by simp, Heap.le_refl _, ⟨by simp only; omega, ?_, by simp only; rw [t2]; exact hd, by simp only; rw [swL_len]; exact hl, ?_⟩, by simp only; omega⟩
          · simp only
            rw [t1]
            exact (swL_perm (by rw [List.length_take]; omega) (by rw [List.length_take]; omega)).trans hp
          · simp only
            rw [cst_sw (by omega) (by omega) (by omega)]
            exact hu.swap hpc (by omega) (by omega) hc hch
      · intro hc1
        have hch : ∀ k, 0 < k → k < n → par k = i → cst q (2 * i + 1) ≤ cst q k := fun k k1 k2 k3 => by
          have : k = 2 * i + 1 ∨ k = 2 * i + 2 := by unfold par at k3; omega
          rcases this with e | e <;> rw [e] <;> omega
        have hpc : par (2 * i + 1) = i := by unfold par; omega
        refine HFnF.mkH (fLess (l := q) (upd_same _ _ _) (show 2 * i + 1 < n' by omega) (show i < n' by omega) (by omega)) ?_
        rintro _ _ ⟨rfl, rfl⟩
        simp (maxSteps := 1000000) -dsimp -implicitDefEqProofs only [go_sem, ↓reduceIte, keep33, ib33, mk33, Try.f33, e1, e2, e3, e4, upd_ne, e_nb_m, e_m_nb, hb]
        constructor
        · intro hc
          exact ⟨_, Heap.le_refl _, q, hp, hd, hl, hu.done (fun h1 => Int.le_trans (by omega) (hch _ (by omega) h1 (by unfold par; omega))) (fun h1 => Int.le_trans (by omega) (hch _ (by omega) h1 (by unfold par; omega))), rfl⟩
        · intro hc
          refine HFnF.mkH (fSwap (l := q) (upd_same _ _ _) (show i < n' by omega) (show 2 * i + 1 < n' by omega) (by omega)) ?_
          rintro _ _ rfl
          simp (maxSteps := 1000000) -dsimp -implicitDefEqProofs only [go_sem, ↓reduceIte, keep33, ib33, mk33, Try.f33]
          rw [upd_upd]
          obtain ⟨t1, t2⟩ := swL_take (l := q) (i := i) (j := 2 * i + 1) (n := n) (by omega) (by omega) (by omega)
          refine ⟨(2 * i + 1, swL q i (2 * i + 1)), by simp, Heap.le_refl _, ⟨by simp only; omega, ?_, by simp only; rw [t2]; exact hd, by simp only; rw [swL_len]; exact hl, ?_⟩, by simp only; omega⟩
          · simp only
            rw [t1]
            exact (swL_perm (by rw [List.length_take]; omega) (by rw [List.length_take]; omega)).trans hp
          · simp only
            rw [cst_sw (by omega) (by omega) (by omega)]
            exact hu.swap hpc (by omega) (by omega) hc hch
    · intro h2
      have hch : ∀ k, 0 < k → k < n → par k = i → cst q (2 * i + 1) ≤ cst q k := fun k k1 k2 k3 => by
        have : k = 2 * i + 1 := by unfold par at k3; omega
        rw [this]; exact Int.le_refl _
      have hpc : par (2 * i + 1) = i := by unfold par; omega
      refine HFnF.mkH (fLess (l := q) (upd_same _ _ _) (show 2 * i + 1 < n' by omega) (show i < n' by omega) (by omega)) ?_
      rintro _ _ ⟨rfl, rfl⟩
      simp (maxSteps := 1000000) -dsimp -implicitDefEqProofs only [go_sem, ↓reduceIte, keep33, ib33, mk33, Try.f33, e1, e2, e3, e4, upd_ne, e_nb_m, e_m_nb, hb]
      constructor
      · intro hc
        exact ⟨_, Heap.le_refl _, q, hp, hd, hl, hu.done (fun h1 => Int.le_trans (by omega) (hch _ (by omega) h1 (by unfold par; omega))) (fun h1 => Int.le_trans (by omega) (hch _ (by omega) h1 (by unfold par; omega))), rfl⟩
      · intro hc
        refine HFnF.mkH (fSwap (l := q) (upd_same _ _ _) (show i < n' by omega) (show 2 * i + 1 < n' by omega) (by omega)) ?_
        rintro _ _ rfl
        simp (maxSteps := 1000000) -dsimp -implicitDefEqProofs only [go_sem, ↓reduceIte, keep33, ib33, mk33, Try.f33]
        rw [upd_upd]
        obtain ⟨t1, t2⟩ := swL_take (l := q) (i := i) (j := 2 * i + 1) (n := n) (by omega) (by omega) (by omega)
        refine ⟨(2 * i + 1, swL q i (2 * i + 1)), by simp, Heap.le_refl _, ⟨by simp only; omega, ?_, by simp only; rw [t2]; exact hd, by simp only; rw [swL_len]; exact hl, ?_⟩, by simp only; omega⟩
        · simp only
          rw [t1]
          exact (swL_perm (by rw [List.length_take]; omega) (by rw [List.length_take]; omega)).trans hp
        · simp only
          rw [cst_sw (by omega) (by omega) (by omega)]
          exact hu.swap hpc (by omega) (by omega) hc hch
  · have e4 : (((2 * i + 1 : Nat) : Int) ≥ (n : Int)) := by omega
    simp (maxSteps := 1000000) -dsimp -implicitDefEqProofs only [go_sem, ↓reduceIte, keep33, ib33, mk33, Try.f33, e1, e4]
    exact ⟨_, Heap.le_refl _, q, hp, hd, hl, hu.leaf (by omega), rfl⟩
end Go.Hl

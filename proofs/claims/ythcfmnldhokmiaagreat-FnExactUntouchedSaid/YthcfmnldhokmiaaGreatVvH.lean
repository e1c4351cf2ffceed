/-
  Contracts of functions and laws of the layer over the walk.
-/
import Derived.Test.YthcfmnldhokmiaaGreatVvF
import Derived.Test.YthcfmnldhokmiaaGreatVvG
import Derived.Test.YthcfmnldhokmiaaGreatVvB
import Derived.Test.YthcfmnldhokmiaaGreatVvA
namespace Go.Hl
open Go.Proofs
set_option linter.unusedVariables false
set_option linter.unusedSimpArgs false
/-! ### what is needed and what moves -/
def movB (a b : List Int) (out : List Bool) (c : DInstr) : Bool := if c.fOp = 1 then decide (c.fNum < a.length ∧ ¬ a.getD c.fNum.toNat 0 = b.getD c.fNum.toNat 0) else if c.fOp = 2 then false else if c.fOp = 7 then out.getD c.fA.toNat false else (out.getD c.fA.toNat false || out.getD c.fB.toNat false)
def movK (a b : List Int) (code : List DInstr) : Nat → List Bool
  | 0 => []
  | k + 1 => movK a b code k ++ [movB a b (movK a b code k) (code.getD k ⟨0, 0, 0, 0⟩)]
theorem movK_len (a b : List Int) (code : List DInstr) : ∀ k, (movK a b code k).length = k
  | 0 => rfl
  | k + 1 => by rw [movK, List.length_append, movK_len a b code k]; rfl
theorem movK_get (a b : List Int) (code : List DInstr) {r k : Nat} (hr : r < k) : ∀ n, k ≤ n → (movK a b code n).getD r false = (movK a b code k).getD r false
  | 0, h => by omega
  | n + 1, h => by
    rcases Nat.lt_or_ge n k with h1 | h1
    · have : k = n + 1 := by omega
      rw [this]
    · rw [← movK_get a b code hr n h1, movK, List.getD_eq_getElem?_getD, List.getElem?_append_left (by rw [movK_len]; omega), List.getD_eq_getElem?_getD]
theorem movK_at (a b : List Int) (code : List DInstr) {k n : Nat} (h : k < n) : (movK a b code n).getD k false = movB a b (movK a b code k) (code.getD k ⟨0, 0, 0, 0⟩) := by
  rw [movK_get a b code (Nat.lt_succ_self k) n h, movK, List.getD_eq_getElem?_getD, List.getElem?_append_right (by rw [movK_len]; exact Nat.le_refl _), movK_len, Nat.sub_self]; rfl
/-- An input that differs. -/
def minP (a b : List Int) (c : DInstr) : Prop := c.fOp = 1 ∧ c.fNum < a.length ∧ ¬ a.getD c.fNum.toNat 0 = b.getD c.fNum.toNat 0
theorem movB_iff {a b : List Int} {out : List Bool} {inp : Int} {i : Nat} {c : DInstr} (h : instrOK inp i c) : movB a b out c = true ↔ minP a b c ∨ ∃ x ∈ opsOf c, out.getD x.toNat false = true := by
  unfold movB minP opsOf
  unfold instrOK at h
  by_cases h1 : c.fOp = 1
  · rw [if_pos h1, if_neg (by omega), if_neg (by omega)]; simp [h1]
  rw [if_neg h1]
  by_cases h2 : c.fOp = 2
  · rw [if_pos h2, if_neg (by omega), if_neg (by omega)]; simp [h1]
  rw [if_neg h2]
  by_cases h7 : c.fOp = 7
  · rw [if_pos h7, if_neg (by omega), if_pos h7]; simp [h1]
  · rw [if_neg h7, if_pos (by omega)]; simp [h1]
theorem getD_setB (b : List Bool) (i : Nat) (v : Bool) (r : Nat) (hi : i < b.length) : (b.set i v).getD r false = if i = r then v else b.getD r false := by
  rw [List.getD_eq_getElem?_getD, List.getElem?_set]
  by_cases e : i = r
  · subst e; rw [if_pos rfl, if_pos rfl, if_pos hi]; rfl
  · rw [if_neg e, if_neg e, List.getD_eq_getElem?_getD]
theorem markL_get (r : Nat) : ∀ (l : List Int) (b : List Bool), (∀ x ∈ l, 0 ≤ x ∧ x < b.length) → ((markL l b).getD r false = true ↔ b.getD r false = true ∨ (r : Int) ∈ l)
  | [], b, _ => by simp [markL]
  | x :: l, b, h => by
    have hx := h x List.mem_cons_self
    rw [show markL (x :: l) b = markL l (b.set x.toNat true) from rfl, markL_get r l _ (fun y hy => by rw [List.length_set]; exact h y (List.mem_cons_of_mem _ hy)), getD_setB _ _ _ _ (by omega), List.mem_cons]
    by_cases e : x.toNat = r
    · rw [if_pos e]; simp [show (r : Int) = x by omega]
    · rw [if_neg e]; simp [show ¬ (r : Int) = x by omega]
theorem stepL_get (k r : Nat) : ∀ (l : List Int) (b : List Bool), (∀ x ∈ l, 0 ≤ x ∧ x < (k : Int)) → k < b.length → ((stepL k l b).getD r false = true ↔ b.getD r false = true ∨ ((r : Int) ∈ l ∧ b.getD k false = true))
  | [], b, _, _ => by simp [stepL]
  | x :: l, b, h, hk => by
    have hx := h x List.mem_cons_self
    rw [show stepL k (x :: l) b = stepL k l (b.set x.toNat (b.getD x.toNat false || b.getD k false)) from rfl, stepL_get k r l _ (fun y hy => h y (List.mem_cons_of_mem _ hy)) (by rw [List.length_set]; exact hk), getD_setB _ _ _ _ (by omega), getD_setB _ _ _ _ (by omega), List.mem_cons, if_neg (show ¬ x.toNat = k by omega)]
    by_cases e : x.toNat = r
    · rw [if_pos e]
      subst e
      simp [show ((x.toNat : Nat) : Int) = x by omega]
      exact fun _ h => .inr h
    · rw [if_neg e]; simp [show ¬ (r : Int) = x by omega]
/-- What stands between the ends and the inputs when all from k on have been seen. -/
def cutS (a b : List Int) (code : List DInstr) (k : Nat) (v : List Bool) : Prop := (∃ r c, k ≤ r ∧ code[r]? = some c ∧ v.getD r false = true ∧ minP a b c) ∨ ∃ r, r < k ∧ v.getD r false = true ∧ (movK a b code code.length).getD r false = true
theorem cutS_step {a b : List Int} {code : List DInstr} {inp : Int} (hi : ∀ i c, code[i]? = some c → instrOK inp i c) {k : Nat} (hk : k < code.length) {v : List Bool} (hv : v.length = code.length) : cutS a b code (k + 1) v ↔ cutS a b code k (stepL k (opsAt code k) v) := by
  have ek : code[k]? = some code[k] := List.getElem?_eq_getElem hk
  have hok := hi k _ ek
  have hlt := ops_lt hok
  have hg : ∀ r, (stepL k (opsAt code k) v).getD r false = true ↔ v.getD r false = true ∨ ((r : Int) ∈ opsOf code[k] ∧ v.getD k false = true) := fun r => by
    rw [opsAt_eq hk]; exact stepL_get k r _ _ hlt (by omega)
  have hm : (movK a b code code.length).getD k false = true ↔ minP a b code[k] ∨ ∃ x ∈ opsOf code[k], (movK a b code code.length).getD x.toNat false = true := by
    rw [movK_at a b code hk, show code.getD k ⟨0, 0, 0, 0⟩ = code[k] by rw [List.getD_eq_getElem?_getD, ek]; rfl, movB_iff hok]
    refine or_congr Iff.rfl ⟨?_, ?_⟩
    · rintro ⟨x, hx, e⟩
      exact ⟨x, hx, by rw [movK_get a b code (k := k) (by have := hlt x hx; omega) _ (by omega)]; exact e⟩
    · rintro ⟨x, hx, e⟩
      exact ⟨x, hx, by rwa [movK_get a b code (k := k) (by have := hlt x hx; omega) _ (by omega)] at e⟩
  constructor
  · rintro (⟨r, c, h1, h2, h3, h4⟩ | ⟨r, h1, h2, h3⟩)
    · exact .inl ⟨r, c, by omega, h2, (hg r).2 (.inl h3), h4⟩
    · rcases Nat.lt_or_ge r k with h5 | h5
      · exact .inr ⟨r, h5, (hg r).2 (.inl h2), h3⟩
      · obtain rfl : r = k := by omega
        rcases hm.1 h3 with h6 | ⟨x, hx, h6⟩
        · exact .inl ⟨r, _, Nat.le_refl _, ek, (hg r).2 (.inl h2), h6⟩
        · have := hlt x hx
          exact .inr ⟨x.toNat, by omega, (hg _).2 (.inr ⟨by rw [show ((x.toNat : Nat) : Int) = x by omega]; exact hx, h2⟩), h6⟩
  · rintro (⟨r, c, h1, h2, h3, h4⟩ | ⟨r, h1, h2, h3⟩)
    · have h5 : v.getD r false = true := by
        rcases (hg r).1 h3 with h | ⟨h, _⟩
        · exact h
        · have := hlt _ h; omega
      rcases Nat.lt_or_ge k r with h6 | h6
      · exact .inl ⟨r, c, by omega, h2, h5, h4⟩
      · obtain rfl : r = k := by omega
        rw [ek] at h2
        obtain rfl := Option.some.inj h2
        exact .inr ⟨r, by omega, h5, hm.2 (.inl h4)⟩
    · rcases (hg r).1 h2 with h | ⟨h, h5⟩
      · exact .inr ⟨r, by omega, h, h3⟩
      · exact .inr ⟨k, by omega, h5, hm.2 (.inr ⟨_, h, by rw [Int.toNat_natCast]; exact h3⟩)⟩
theorem cutS_needN {a b : List Int} {code : List DInstr} {inp : Int} (hi : ∀ i c, code[i]? = some c → instrOK inp i c) : ∀ (k : Nat) (v : List Bool), k ≤ code.length → v.length = code.length → (cutS a b code k v ↔ cutS a b code 0 (needN code k v))
  | 0, v, _, _ => Iff.rfl
  | k + 1, v, hk, hv => by
    rw [cutS_step hi hk hv, needN]
    exact cutS_needN hi k _ (by omega) (by rw [stepL_len]; exact hv)
/-- The ends that move: the same as inputs that are needed and differ. -/
theorem bad_iff {t : DTape} {sh : Int} {a b : List Int} (ha : (a.length : Int) = sh) {inp : Int} (hi : ∀ i c, t.fCode[i]? = some c → instrOK inp i c) (he : ∀ x ∈ endsL t, 0 ≤ x ∧ x < (t.fCode.length : Int)) :
    (∃ r, badAt t sh a b r) ↔ ∃ e ∈ endsL t, (movK a b t.fCode t.fCode.length).getD e.toNat false = true := by
  have h := cutS_needN (a := a) (b := b) hi t.fCode.length (markL (endsL t) (List.replicate t.fCode.length false)) (Nat.le_refl _) (by rw [markL_len, List.length_replicate])
  have hm : ∀ r, (markL (endsL t) (List.replicate t.fCode.length false)).getD r false = true ↔ (r : Int) ∈ endsL t := fun r => by
    rw [markL_get r _ _ (fun x hx => by rw [List.length_replicate]; exact he x hx)]
    constructor
    · rintro (h | h)
      · rw [List.getD_eq_getElem?_getD, List.getElem?_replicate] at h; split at h <;> cases h
      · exact h
    · exact .inr
  constructor
  · rintro ⟨r, h1, c, h2, h3, h4, h5⟩
    rcases h.2 (.inl ⟨r, c, Nat.zero_le _, h2, by rw [List.getD_eq_getElem?_getD]; show (needL t.fCode (endsL t))[r]?.getD false = true; rw [h1]; rfl, h3, by omega, h5⟩) with ⟨r2, c2, h6, h7, _⟩ | ⟨r2, h6, h7, h8⟩
    · have := (List.getElem?_eq_some_iff.1 h7).1; omega
    · exact ⟨r2, (hm r2).1 h7, by rw [Int.toNat_natCast]; exact h8⟩
  · rintro ⟨e, h1, h2⟩
    have := he e h1
    rcases h.1 (.inr ⟨e.toNat, by omega, (hm _).2 (by rw [show ((e.toNat : Nat) : Int) = e by omega]; exact h1), h2⟩) with ⟨r2, c2, h6, h7, h8, h9, h10, h11⟩ | ⟨r2, h6, _⟩
    · refine ⟨r2, ?_, c2, h7, h9, by omega, h11⟩
      have hl := (List.getElem?_eq_some_iff.1 h7).1
      have h12 : (needL t.fCode (endsL t)).getD r2 false = true := h8
      rw [getB (b := needL t.fCode (endsL t)) (k := r2) (by rw [needL_len]; exact hl), h12]
    · omega
open Go.Proofs
set_option linter.unusedVariables false
set_option linter.unusedSimpArgs false
theorem rowB_snoc (l : List Bool) (x : Bool) : rowB (l ++ [x]) = .row 1 (((l.map fun x => [HVal.bool x]).map (List.map Cell.v)) ++ [[.v (.bool x)]]) := by simp [rowB]
theorem movB_1 {a b : List Int} {out : List Bool} {c : DInstr} (h : c.fOp = 1) : movB a b out c = decide (c.fNum < a.length ∧ ¬ a.getD c.fNum.toNat 0 = b.getD c.fNum.toNat 0) := if_pos h
theorem movB_2 {a b : List Int} {out : List Bool} {c : DInstr} (h : c.fOp = 2) : movB a b out c = false := by rw [movB, if_neg (by omega), if_pos h]
theorem movB_7 {a b : List Int} {out : List Bool} {c : DInstr} (h : c.fOp = 7) : movB a b out c = out.getD c.fA.toNat false := by rw [movB, if_neg (by omega), if_neg (by omega), if_pos h]
theorem movB_op {a b : List Int} {out : List Bool} {c : DInstr} (h1 : ¬ c.fOp = 1) (h2 : ¬ c.fOp = 2) (h7 : ¬ c.fOp = 7) : movB a b out c = (out.getD c.fA.toNat false || out.getD c.fB.toNat false) := by rw [movB, if_neg h1, if_neg h2, if_neg h7]
def keep151 : List Nat := [0, 1, 2, 6, 7, 8, 9, 17, 28, 44, 67, 72]
def ib151 : List Nat := [10, 42, 65, 70, 80]
def mk151 : Marks := fun id => match id with | 9 => ([2, 9, 14, 20], (.op 0 (.op 1 (.op 3 (.op 4 (.op 2 (.op 5 (.op 6 (.op 7 (.op 8 (.op 12 (.op 13 (.op 9 (.op 10 (.op 11 (.op 14 (.op 15 (.op 16 (.op 17 (.op 18 (.op 19 (.op 20 (.op 21 .nil)))))))))))))))))))))), []) | _ => ([], .nil, [])
set_option maxRecDepth 100000 in
theorem l08Moved (t : DTape) (a b : List Int) {inp : Int} (hc : t.fCode.length ≤ 1048576) (hab : a.length = b.length) (hi : ∀ i c, t.fCode[i]? = some c → instrOK inp i c) {h : Heap} {nb : Nat} (hnb : h nb = some (.row 4 [t.c.map .v])) : HFn Tryz.prog 151 [.op nb 4 0 0, ints a, ints b] h fun r h' => r = sls 1 (fun b => [.bool b]) (movK a b t.fCode t.fCode.length) ∧ h' = h := by
  rw [DTape.c_eq] at hnb
  simp only [List.map_cons, List.map_nil] at hnb
  refine fnKF 83 keep151 ib151 mk151 mix Tryz.func151 rfl (by kernel_rfl) (by simp) ?_
  simp (maxSteps := 1000000) -dsimp -implicitDefEqProofs only [go_sem, ↓reduceIte, keep151, ib151, mk151, Tryz.f151, hnb]
  refine ⟨by decide, ?_⟩
  refine loopF (keep := keep151) (ib := ib151) (mk := mk151) mix (by kernel_rfl) (fun x : Nat × Option Nat => [(0, .op nb 4 0 0), (1, ints a), (2, ints b), (7, oval 1 x.1 x.2), (8, I x.1)]) (fun x => oheap h (rowB (movK a b t.fCode x.1)) x.2) (fun x => x.1 ≤ t.fCode.length ∧ oside h (movK a b t.fCode x.1) x.2) (fun x => t.fCode.length - x.1) (0, none) ⟨by simp [SatL, tget, oval], Heap.le_refl _, Nat.zero_le _, rfl⟩ ?_
  rintro ⟨k, o⟩ ⟨hk, hos⟩
  simp only at hk hos ⊢
  have hml := movK_len a b t.fCode k
  rcases Nat.lt_or_ge k t.fCode.length with hlt | hge
  · have ek : t.fCode[k]? = some t.fCode[k] := List.getElem?_eq_getElem hlt
    have hins := hi k _ ek
    have hst : movK a b t.fCode (k + 1) = movK a b t.fCode k ++ [movB a b (movK a b t.fCode k) t.fCode[k]] := by
      rw [movK, show t.fCode.getD k ⟨0, 0, 0, 0⟩ = t.fCode[k] by rw [List.getD_eq_getElem?_getD, ek]; rfl]
    generalize hM : movK a b t.fCode k = M at *
    have hnext : ∀ (g : Heap) (n1 : Nat), h n1 = none → (upd h n1 (rowB (M ++ [movB a b M t.fCode[k]]))).le g → ∃ x' : Nat × Option Nat, (.os n1 1 0 (k + 1) = oval 1 x'.1 x'.2 ∧ IntKind.i64.wrap ((k : Int) + 1) = (x'.1 : Int)) ∧ (oheap h (rowB (movK a b t.fCode x'.1)) x'.2).le g ∧ (x'.1 ≤ t.fCode.length ∧ oside h (movK a b t.fCode x'.1) x'.2) ∧ t.fCode.length - x'.1 < t.fCode.length - k := fun g n1 h1 h2 =>
      ⟨(k + 1, some n1), ⟨rfl, by rw [IntWalk.i64_in _ (by omega)]; rfl⟩, by simp only [oheap_some]; rw [hst]; exact h2, ⟨hlt, h1⟩, by simp only; omega⟩
    cases o with
    | none =>
      rw [oside_none] at hos
      have k0 : k = 0 := by rw [← hml, hos]; rfl
      subst k0
      subst hos
      rcases (show t.fCode[0].fOp = 1 ∨ t.fCode[0].fOp = 2 by unfold instrOK at hins; omega) with h1 | h1
      · by_cases hn : t.fCode[0].fNum < a.length
        · have pa : a[t.fCode[0].fNum.toNat]? = some (a.getD t.fCode[0].fNum.toNat 0) := getD_get (by unfold instrOK at hins; omega)
          have pb : b[t.fCode[0].fNum.toNat]? = some (b.getD t.fCode[0].fNum.toNat 0) := getD_get (by unfold instrOK at hins; omega)
          simp (maxSteps := 1000000) -dsimp -implicitDefEqProofs only [go_sem, ↓reduceIte, keep151, ib151, mk151, Tryz.f151, oval_none, oheap_none, hnb, hlt, ek, DInstr.c_eq, h1, hn, pa, pb]
          have n0 : 0 ≤ t.fCode[0].fNum := by unfold instrOK at hins; omega
          refine fun _ n zn => ⟨n0, n0, by omega, Nat.zero_lt_one, Nat.zero_lt_one, Nat.zero_lt_one, fun n1 ⟨d1, _, z1⟩ => hnext _ n1 z1 ?_⟩
          rw [movB_1 h1, Bool.decide_and, decide_eq_true hn, Bool.true_and, decide_not]
          exact Heap.le_both (Heap.le_upd zn (Heap.le_upd zn (Heap.le_refl _)))
        · simp (maxSteps := 1000000) -dsimp -implicitDefEqProofs only [go_sem, ↓reduceIte, keep151, ib151, mk151, Tryz.f151, oval_none, oheap_none, hnb, hlt, ek, DInstr.c_eq, h1, hn]
          refine fun _ n zn => ⟨Nat.zero_lt_one, Nat.zero_lt_one, Nat.zero_lt_one, fun n1 ⟨d1, _, z1⟩ => hnext _ n1 z1 ?_⟩
          rw [movB_1 h1, Bool.decide_and, decide_eq_false hn, Bool.false_and]
          exact Heap.le_both (Heap.le_upd zn (Heap.le_upd zn (Heap.le_refl _)))
      · simp (maxSteps := 1000000) -dsimp -implicitDefEqProofs only [go_sem, ↓reduceIte, keep151, ib151, mk151, Tryz.f151, oval_none, oheap_none, hnb, hlt, ek, DInstr.c_eq, h1]
        refine fun _ n zn => ⟨Nat.zero_lt_one, Nat.zero_lt_one, Nat.zero_lt_one, fun n1 ⟨d1, _, z1⟩ => hnext _ n1 z1 ?_⟩
        rw [movB_2 h1]
        exact Heap.le_both (Heap.le_upd zn (Heap.le_upd zn (Heap.le_refl _)))
    | some m =>
      rw [oside_some] at hos
      by_cases h1 : t.fCode[k].fOp = 1
      · by_cases hn : t.fCode[k].fNum < a.length
        · have pa : a[t.fCode[k].fNum.toNat]? = some (a.getD t.fCode[k].fNum.toNat 0) := getD_get (by unfold instrOK at hins; omega)
          have pb : b[t.fCode[k].fNum.toNat]? = some (b.getD t.fCode[k].fNum.toNat 0) := getD_get (by unfold instrOK at hins; omega)
          have n0 : 0 ≤ t.fCode[k].fNum := by unfold instrOK at hins; omega
          unfold rowB
          have d_nb_m : ¬ nb = m := fun q => by rw [q, hos] at hnb; cases hnb
          have d_m_nb : ¬ m = nb := Ne.symm d_nb_m
          have e_nb_m : (nb = m) = False := eq_false d_nb_m
          have e_m_nb : (m = nb) = False := eq_false d_m_nb
          simp (maxSteps := 1000000) -dsimp -implicitDefEqProofs only [go_sem, ↓reduceIte, keep151, ib151, mk151, Tryz.f151, oval_some, oheap_some, hnb, e_nb_m, e_m_nb, upd_ne, hlt, ek, DInstr.c_eq, h1, hn, pa, pb]
          refine fun _ n ⟨dn, zn⟩ => ?_
          have d_n_m : ¬ n = m := dn
          have d_m_n : ¬ m = n := Ne.symm d_n_m
          have e_n_m : (n = m) = False := eq_false d_n_m
          have e_m_n : (m = n) = False := eq_false d_m_n
          simp (maxSteps := 1000000) -dsimp -implicitDefEqProofs only [go_sem, ↓reduceIte, keep151, ib151, mk151, Tryz.f151, e_n_m, e_m_n, upd_ne, h1, hn, pa, pb]
          refine ⟨n0, n0, by omega, Nat.zero_lt_one, Nat.zero_lt_one, Nat.zero_lt_one, by omega, by omega, by omega, fun b1 ⟨d1, _, dm, z1⟩ => hnext _ b1 z1 ?_⟩
          rw [rowB_snoc, movB_1 h1, Bool.decide_and, decide_eq_true hn, Bool.true_and, decide_not, List.take_of_length_le (by simp; omega)]
          exact Heap.le_both (Heap.le_upd hos (Heap.le_upd zn (Heap.le_upd zn (Heap.le_upd hos (Heap.le_refl _)))))
        · unfold rowB
          have d_nb_m : ¬ nb = m := fun q => by rw [q, hos] at hnb; cases hnb
          have d_m_nb : ¬ m = nb := Ne.symm d_nb_m
          have e_nb_m : (nb = m) = False := eq_false d_nb_m
          have e_m_nb : (m = nb) = False := eq_false d_m_nb
          simp (maxSteps := 1000000) -dsimp -implicitDefEqProofs only [go_sem, ↓reduceIte, keep151, ib151, mk151, Tryz.f151, oval_some, oheap_some, hnb, e_nb_m, e_m_nb, upd_ne, hlt, ek, DInstr.c_eq, h1, hn]
          refine fun _ n ⟨dn, zn⟩ => ?_
          have d_n_m : ¬ n = m := dn
          have d_m_n : ¬ m = n := Ne.symm d_n_m
          have e_n_m : (n = m) = False := eq_false d_n_m
          have e_m_n : (m = n) = False := eq_false d_m_n
          simp (maxSteps := 1000000) -dsimp -implicitDefEqProofs only [go_sem, ↓reduceIte, keep151, ib151, mk151, Tryz.f151, e_n_m, e_m_n, upd_ne, h1, hn]
          refine ⟨Nat.zero_lt_one, Nat.zero_lt_one, Nat.zero_lt_one, by omega, by omega, by omega, fun b1 ⟨d1, _, dm, z1⟩ => hnext _ b1 z1 ?_⟩
          rw [rowB_snoc, movB_1 h1, Bool.decide_and, decide_eq_false hn, Bool.false_and, List.take_of_length_le (by simp; omega)]
          exact Heap.le_both (Heap.le_upd hos (Heap.le_upd zn (Heap.le_upd zn (Heap.le_upd hos (Heap.le_refl _)))))
      by_cases h2 : t.fCode[k].fOp = 2
      · unfold rowB
        have d_nb_m : ¬ nb = m := fun q => by rw [q, hos] at hnb; cases hnb
        have d_m_nb : ¬ m = nb := Ne.symm d_nb_m
        have e_nb_m : (nb = m) = False := eq_false d_nb_m
        have e_m_nb : (m = nb) = False := eq_false d_m_nb
        simp (maxSteps := 1000000) -dsimp -implicitDefEqProofs only [go_sem, ↓reduceIte, keep151, ib151, mk151, Tryz.f151, oval_some, oheap_some, hnb, e_nb_m, e_m_nb, upd_ne, hlt, ek, DInstr.c_eq, h2]
        refine fun _ n ⟨dn, zn⟩ => ?_
        have d_n_m : ¬ n = m := dn
        have d_m_n : ¬ m = n := Ne.symm d_n_m
        have e_n_m : (n = m) = False := eq_false d_n_m
        have e_m_n : (m = n) = False := eq_false d_m_n
        simp (maxSteps := 1000000) -dsimp -implicitDefEqProofs only [go_sem, ↓reduceIte, keep151, ib151, mk151, Tryz.f151, e_n_m, e_m_n, upd_ne, h2]
        refine ⟨Nat.zero_lt_one, Nat.zero_lt_one, Nat.zero_lt_one, by omega, by omega, by omega, fun b1 ⟨d1, _, dm, z1⟩ => hnext _ b1 z1 ?_⟩
        rw [rowB_snoc, movB_2 h2, List.take_of_length_le (by simp; omega)]
        exact Heap.le_both (Heap.le_upd hos (Heap.le_upd zn (Heap.le_upd zn (Heap.le_upd hos (Heap.le_refl _)))))
      have n0 : 0 ≤ t.fCode[k].fA ∧ t.fCode[k].fA < k := by unfold instrOK at hins; omega
      have ga := getB (b := M) (k := t.fCode[k].fA.toNat) (by omega)
      by_cases h7 : t.fCode[k].fOp = 7
      · unfold rowB
        have d_nb_m : ¬ nb = m := fun q => by rw [q, hos] at hnb; cases hnb
        have d_m_nb : ¬ m = nb := Ne.symm d_nb_m
        have e_nb_m : (nb = m) = False := eq_false d_nb_m
        have e_m_nb : (m = nb) = False := eq_false d_m_nb
        simp (maxSteps := 1000000) -dsimp -implicitDefEqProofs only [go_sem, ↓reduceIte, keep151, ib151, mk151, Tryz.f151, oval_some, oheap_some, hnb, e_nb_m, e_m_nb, upd_ne, hlt, ek, DInstr.c_eq, h7, ga]
        refine fun _ n ⟨dn, zn⟩ => ?_
        have d_n_m : ¬ n = m := dn
        have d_m_n : ¬ m = n := Ne.symm d_n_m
        have e_n_m : (n = m) = False := eq_false d_n_m
        have e_m_n : (m = n) = False := eq_false d_m_n
        simp (maxSteps := 1000000) -dsimp -implicitDefEqProofs only [go_sem, ↓reduceIte, keep151, ib151, mk151, Tryz.f151, e_n_m, e_m_n, upd_ne, h7, ga]
        refine ⟨n0.1, n0.2, Nat.zero_lt_one, Nat.zero_lt_one, Nat.zero_lt_one, by omega, by omega, by omega, fun b1 ⟨d1, _, dm, z1⟩ => hnext _ b1 z1 ?_⟩
        rw [rowB_snoc, movB_7 h7, List.take_of_length_le (by simp; omega)]
        exact Heap.le_both (Heap.le_upd hos (Heap.le_upd zn (Heap.le_upd zn (Heap.le_upd hos (Heap.le_refl _)))))
      · have n1 : 0 ≤ t.fCode[k].fB ∧ t.fCode[k].fB < k := by unfold instrOK at hins; omega
        have gb := getB (b := M) (k := t.fCode[k].fB.toNat) (by omega)
        unfold rowB
        have d_nb_m : ¬ nb = m := fun q => by rw [q, hos] at hnb; cases hnb
        have d_m_nb : ¬ m = nb := Ne.symm d_nb_m
        have e_nb_m : (nb = m) = False := eq_false d_nb_m
        have e_m_nb : (m = nb) = False := eq_false d_m_nb
        simp (maxSteps := 1000000) -dsimp -implicitDefEqProofs only [go_sem, ↓reduceIte, keep151, ib151, mk151, Tryz.f151, oval_some, oheap_some, hnb, e_nb_m, e_m_nb, upd_ne, hlt, ek, DInstr.c_eq, h1, h2, h7, ga, gb]
        refine fun _ n ⟨dn, zn⟩ => ?_
        have d_n_m : ¬ n = m := dn
        have d_m_n : ¬ m = n := Ne.symm d_n_m
        have e_n_m : (n = m) = False := eq_false d_n_m
        have e_m_n : (m = n) = False := eq_false d_m_n
        simp (maxSteps := 1000000) -dsimp -implicitDefEqProofs only [go_sem, ↓reduceIte, keep151, ib151, mk151, Tryz.f151, e_n_m, e_m_n, upd_ne, h1, h2, h7, ga, gb]
        refine ⟨n0.1, n0.2, fun hq => ?_, fun hq => ?_⟩
        · refine ⟨n1.1, n1.2, Nat.zero_lt_one, Nat.zero_lt_one, Nat.zero_lt_one, by omega, by omega, by omega, fun b1 ⟨d1, _, dm, z1⟩ => hnext _ b1 z1 ?_⟩
          rw [rowB_snoc, movB_op h1 h2 h7, hq, Bool.false_or, List.take_of_length_le (by simp; omega)]
          exact Heap.le_both (Heap.le_upd hos (Heap.le_upd zn (Heap.le_upd zn (Heap.le_upd hos (Heap.le_refl _)))))
        · refine ⟨Nat.zero_lt_one, Nat.zero_lt_one, Nat.zero_lt_one, by omega, by omega, by omega, fun b1 ⟨d1, _, dm, z1⟩ => hnext _ b1 z1 ?_⟩
          rw [rowB_snoc, movB_op h1 h2 h7, hq, Bool.true_or, List.take_of_length_le (by simp; omega)]
          exact Heap.le_both (Heap.le_upd hos (Heap.le_upd zn (Heap.le_upd zn (Heap.le_upd hos (Heap.le_refl _)))))
  · have hk' : k = t.fCode.length := by omega
    subst hk'
    cases o with
    | none =>
      rw [oside_none] at hos
      rw [hos]
      simp (maxSteps := 1000000) -dsimp -implicitDefEqProofs only [go_sem, ↓reduceIte, keep151, ib151, mk151, Tryz.f151, oval_none, oheap_none, hnb, Nat.lt_irrefl, Int.lt_irrefl]
      exact fun _ => ⟨_, h, Shift.of (Sub.loose _ _ _) (Heap.le_refl _), rfl, rfl⟩
    | some m =>
      rw [oside_some] at hos
      have d_nb_m : ¬ nb = m := fun q => by rw [q, hos] at hnb; cases hnb
      have d_m_nb : ¬ m = nb := Ne.symm d_nb_m
      have e_nb_m : (nb = m) = False := eq_false d_nb_m
      have e_m_nb : (m = nb) = False := eq_false d_m_nb
      simp (maxSteps := 1000000) -dsimp -implicitDefEqProofs only [go_sem, ↓reduceIte, keep151, ib151, mk151, Tryz.f151, oval_some, oheap_some, hnb, e_nb_m, e_m_nb, upd_ne, Nat.lt_irrefl, Int.lt_irrefl]
      exact fun _ => ⟨_, h, shift_row ((movK a b t.fCode t.fCode.length).map fun x => [.bool x]) hos (Heap.le_refl _) _ (by rw [List.length_map, hml]), rfl, rfl⟩
open Go.Proofs
set_option linter.unusedVariables false
set_option linter.unusedSimpArgs false
theorem still_iff {j : DJob} {k : Nat} {point : List Int} {l : List Int} {S : RSt} (hR : recRes j.fProgram j.fFunc (argsOf j k) = (⟨(argsOf j k).length, S.code, S.guards, l⟩, 0)) (hpl : (j.fPoint.length : Int) = j.fShared) {inp : Int} (hi : ∀ i c, S.code[i]? = some c → instrOK inp i c)
    (he : ∀ x ∈ endsL ⟨(argsOf j k).length, S.code, S.guards, l⟩, 0 ≤ x ∧ x < (S.code.length : Int)) :
    untP j k point ↔ ∀ e ∈ endsL ⟨(argsOf j k).length, S.code, S.guards, l⟩, ¬ (movK j.fPoint point S.code S.code.length).getD e.toNat false = true := by
  rw [untP, hR]
  have h := bad_iff (t := ⟨(argsOf j k).length, S.code, S.guards, l⟩) (b := point) hpl hi he
  constructor
  · rintro ⟨_, h1⟩ e h2 h3
    exact h1 (h.2 ⟨e, h2, h3⟩)
  · intro h1
    refine ⟨rfl, fun h2 => ?_⟩
    obtain ⟨e, h3, h4⟩ := h.1 h2
    exact h1 e h3 h4
def keep72 : List Nat := [0, 1, 2, 6, 7, 10, 11, 12, 13, 14, 41, 63, 68, 79, 84, 104]
def ib72 : List Nat := []
def mk72 : Marks := fun id => match id with | 1 => ([11], (.op 0 (.op 1 (.op 2 (.op 3 (.op 4 (.op 5 (.op 6 (.op 7 (.op 8 (.op 9 (.op 10 (.op 11 (.op 12 .nil))))))))))))), []) | 2 => ([8], (.op 0 (.op 1 (.op 2 (.op 3 (.op 4 (.op 5 (.op 6 (.op 7 (.op 8 (.op 9 (.op 10 (.op 11 (.op 12 (.op 13 (.op 14 (.op 15 .nil)))))))))))))))), []) | 5 => ([8, 9, 10], (.op 0 (.op 1 (.op 2 (.op 3 (.op 4 (.op 5 (.op 6 (.op 7 (.alt 8 (.op 9 (.op 10 .nil)) 9 (.op 8 (.op 10 .nil))))))))))), []) | _ => ([], .nil, [])
set_option maxRecDepth 100000 in
theorem l08Still {j : DJob} (hj : j.ok) {k : Nat} (hk : k < j.fTerms.length) (point : List Int) (hpt : (point.length : Int) = j.fShared) : Fn0 Tryz.prog 72 [.ip 5 [j.c] 0 0, I k, ints point] (.bool (decide (untP j k point))) := by
  obtain ⟨t1, t2, t3, t4, t5, t6, t7, t8⟩ := term_facts hj hk
  obtain ⟨F, eF, hf, hF, ok⟩ := job_facts hj
  obtain ⟨F2, eF2, hO1, hO2, hO3, hO4⟩ := func_ok hj.1 hf
  have hargs : Fn0 Tryz.prog 130 [ints j.fPoint, ints (j.fTerms.getD k [])] (ints (argsOf j k)) := l08Args j.fPoint (j.fTerms.getD k []) (by omega) (by omega)
  have hev := l02Eval hj.1 j.fFunc hf (argsOf j k) t2 t4 t3
  have hok := (recF_ok hj.1 j.fFunc hf (argsOf j k) t2 t3).1
  have hsim := (recF_ok hj.1 j.fFunc hf (argsOf j k) t2 t3).2
  have her := evF_err j.fProgram 1 j.fFunc ((argsOf j k).map fun n => [n])
  have hrec := fun l S' t => l04Record (l := l) (S' := S') (t := t) hj.1 j.fFunc hf (argsOf j k) t2 t4 t3
  rw [DProgram.c_eq] at hev
  simp only [DProgram.c_eq] at hrec
  simp only [DJob.c_eq]
  refine fn0F 105 keep72 ib72 mk72 mix Tryz.func72 rfl (by kernel_rfl) (by simp) fun h => ?_
  simp (maxSteps := 1000000) -dsimp -implicitDefEqProofs only [go_sem, ↓reduceIte, keep72, ib72, mk72, Tryz.f72, t1]
  refine ⟨hk, ?_⟩
  refine HFnF.mk hargs ?_
  simp (maxSteps := 1000000) -dsimp -implicitDefEqProofs only [go_sem, ↓reduceIte, keep72, ib72, mk72, Tryz.f72]
  refine HFnF.mk (hev.sub (.cons (Sub.ipAt rfl rfl rfl) (.cons (.refl _) (.cons (.refl _) .nil)))) ?_
  simp (maxSteps := 1000000) -dsimp -implicitDefEqProofs only [go_sem, ↓reduceIte, keep72, ib72, mk72, Tryz.f72]
  cases hX : recF j.fProgram j.fFunc (argsOf j k) with
  | error c =>
    rw [hX] at hsim
    cases hY : evF j.fProgram 1 j.fFunc ((argsOf j k).map fun n => [n]) with
    | ok q => rw [hY] at hsim; exact hsim.elim
    | error d =>
      have hd : ¬ d = 0 := by rcases her d hY with rfl | rfl <;> decide
      rw [hY] at hsim
      have h1 : c = d := hsim
      rw [evNum]
      refine ⟨fun _ => ?_, fun q => absurd q hd⟩
      exact (decide_eq_false fun z => hd (by have := z.1; rw [recRes, hX] at this; exact h1.symm.trans this)).symm
  | ok q =>
    obtain ⟨⟨l, S⟩, t⟩ := q
    rw [hX] at hsim
    cases hY : evF j.fProgram 1 j.fFunc ((argsOf j k).map fun n => [n]) with
    | error d => rw [hY] at hsim; exact hsim.elim
    | ok q2 =>
    obtain ⟨vs, t'⟩ := q2
    obtain ⟨g1, g2, ⟨g3, g4⟩, g5⟩ := hok _ _ hX
    simp only at g1 g2 g3 g4 g5
    unfold incR at g5
    have g6 := g1.cap
    have g7 := g1.gcap
    have g8 := g1.len
    have hR : recRes j.fProgram j.fFunc (argsOf j k) = (⟨(argsOf j k).length, S.code, S.guards, l⟩, 0) := by rw [recRes, hX]
    have l0 : l[Int.toNat 0]? = some (l.getD 0 0) := getD_get (by rw [g3, hO3]; omega)
    have hpl : (j.fPoint.length : Int) = j.fShared := ok.2.1.1
    have hends : ∀ x ∈ endsL ⟨(argsOf j k).length, S.code, S.guards, l⟩, 0 ≤ x ∧ x < (S.code.length : Int) := fun x hx => by
      rw [endsL, endsG] at hx
      rcases List.mem_append.1 hx with hx | hx
      · rcases List.mem_append.1 hx with hx | hx
        · rw [List.mem_singleton.1 hx]
          show 0 ≤ l.getD 0 0 ∧ l.getD 0 0 < (S.code.length : Int)
          rw [List.getD_eq_getElem?_getD, List.getElem?_eq_getElem (by rw [g3, hO3]; omega)]
          have := g4 _ (List.getElem_mem (h := (by rw [g3, hO3]; omega : 0 < l.length)))
          unfold inR at this
          rw [g8]; exact this
        · obtain ⟨gg, hgg, rfl⟩ := List.mem_map.1 hx
          rw [g8]; exact g1.gds gg hgg
      · obtain ⟨cc, hcc, rfl⟩ := List.mem_map.1 hx
        obtain ⟨h1, h2⟩ := List.mem_filter.1 hcc
        obtain ⟨q, hq, rfl⟩ := List.mem_iff_getElem.1 h1
        have h3 := g1.ins q S.code[q] (List.getElem?_eq_getElem hq)
        have h4 : (S.code[q]).fOp = 6 := by simpa using h2
        show 0 ≤ (S.code[q]).fB ∧ (S.code[q]).fB < (S.code.length : Int)
        have hq' : q < S.code.length := hq
        unfold instrOK at h3
        omega
    have hst := still_iff (point := point) hR hpl g1.ins hends
    have hmv := fun (h : Heap) (nb : Nat) => l08Moved ⟨(argsOf j k).length, S.code, S.guards, l⟩ j.fPoint point (by simp only; omega) (by omega) g1.ins (h := h) (nb := nb)
    have hml := movK_len j.fPoint point S.code S.code.length
    simp only [DTape.c_eq] at hmv
    have m0 : l.getD 0 0 ∈ endsL ⟨(argsOf j k).length, S.code, S.guards, l⟩ := by rw [endsL, endsG]; exact List.mem_append_left _ (List.mem_append_left _ List.mem_cons_self)
    have mG : ∀ g ∈ S.guards, g.fReg ∈ endsL ⟨(argsOf j k).length, S.code, S.guards, l⟩ := fun g hg => by rw [endsL, endsG]; exact List.mem_append_left _ (List.mem_append_right _ (List.mem_map.2 ⟨g, hg, rfl⟩))
    have mC : ∀ c ∈ S.code, c.fOp = 6 → c.fB ∈ endsL ⟨(argsOf j k).length, S.code, S.guards, l⟩ := fun c hc h6 => by rw [endsL]; exact List.mem_append_right _ (List.mem_map.2 ⟨c, List.mem_filter.2 ⟨hc, by simpa using h6⟩, rfl⟩)
    generalize movK j.fPoint point S.code S.code.length = M at *
    have gM : ∀ x ∈ endsL ⟨(argsOf j k).length, S.code, S.guards, l⟩, M[x.toNat]? = some (M.getD x.toNat false) := fun x hx => getB (by have := hends x hx; omega)
    have hrec2 := hrec l S t hX
    simp only [DTape.c_eq] at hrec2
    rw [show evNum (.ok (vs, t')) = (vs.map (·.getD 0 0), (t' : Int), 0) from rfl]
    refine ⟨fun q => absurd rfl q, fun _ => ?_⟩
    have hrec3 := hrec2.sub (.cons (Sub.ipAt (sz := 5) (es := [[sls 3 DFunc.c j.fProgram.fFuncs, I j.fFunc, I j.fShared, sls 1 (fun n => [I n]) j.fPoint, sls 1 (fun x => [sls 1 (fun n => [I n]) x]) j.fTerms]]) (i := 0) (off := 0) (sz' := 1) (e' := [sls 3 DFunc.c j.fProgram.fFuncs]) rfl rfl rfl) (.cons (.refl _) (.cons (.refl _) .nil)))
    refine ⟨?_, fun n hn => ?_⟩
    · refine HFnF.mk hrec3 ?_
      simp (maxSteps := 1000000) -dsimp -implicitDefEqProofs only [go_sem, ↓reduceIte, keep72, ib72, mk72, Tryz.f72]
      intro n hn
      rw [upd_upd]
      generalize hh7 : upd h n (.row 4 [[.v (I (argsOf j k).length), .v (sls 4 DInstr.c S.code), .v (sls 2 DGuard.c S.guards), .v (ints l)]]) = h7
      have h7n : h7 n = some (.row 4 [[.v (I (argsOf j k).length), .v (sls 4 DInstr.c S.code), .v (sls 2 DGuard.c S.guards), .v (ints l)]]) := by rw [← hh7, upd_same]
      have hle7 : h.le h7 := by rw [← hh7]; exact Heap.le_upd hn (Heap.le_refl _)
      refine HFnF.mkH (hmv h7 n h7n) ?_
      rintro r h' ⟨rfl, rfl⟩
      simp (maxSteps := 1000000) -dsimp -implicitDefEqProofs only [go_sem, ↓reduceIte, keep72, ib72, mk72, Tryz.f72, h7n, l0, gM _ m0]
      have e0 := hends _ m0
      refine ⟨by rw [g3, hO3]; omega, e0.1, by rw [hml]; exact e0.2, fun hq => ?_, fun hq => ?_⟩
      · exact ⟨(decide_eq_false fun z => hst.1 z _ m0 hq).symm, hle7⟩
      refine loopF (keep := keep72) (ib := ib72) (mk := mk72) mix (by kernel_rfl) (fun i : Nat => [(11, .op n 4 0 0), (12, sls 1 (fun b => [.bool b]) M), (13, I i)]) (fun _ => h') (fun i => i ≤ S.guards.length ∧ ∀ g ∈ S.guards.take i, M.getD g.fReg.toNat false = false) (fun i => S.guards.length - i) 0 ⟨by simp [SatL, tget], Heap.le_refl _, Nat.zero_le _, by simp⟩ ?_
      rintro i ⟨hi, hall⟩
      rcases Nat.lt_or_ge i S.guards.length with hlt | hge
      · have eg : S.guards[i]? = some S.guards[i] := List.getElem?_eq_getElem hlt
        have mg := mG _ (List.getElem_mem hlt)
        have eg2 := hends _ mg
        simp (maxSteps := 1000000) -dsimp -implicitDefEqProofs only [go_sem, ↓reduceIte, keep72, ib72, mk72, Tryz.f72, h7n, hlt, eg, DGuard.c_eq, gM _ mg]
        refine fun _ => ⟨eg2.1, by rw [hml]; exact eg2.2, fun hq => ?_, fun hq => ?_⟩
        · exact ⟨(decide_eq_false fun z => hst.1 z _ mg hq).symm, hle7⟩
        · exact ⟨i + 1, by rw [IntWalk.i64_in _ (by omega)]; rfl, ⟨hlt, all_step hlt hall hq⟩, by omega⟩
      have hi' : i = S.guards.length := by omega
      subst hi'
      rw [List.take_length] at hall
      simp (maxSteps := 1000000) -dsimp -implicitDefEqProofs only [go_sem, ↓reduceIte, keep72, ib72, mk72, Tryz.f72, h7n, Nat.lt_irrefl, Int.lt_irrefl]
      refine fun _ => ?_
      refine loopF (keep := keep72) (ib := ib72) (mk := mk72) mix (by kernel_rfl) (fun i : Nat => [(11, .op n 4 0 0), (12, sls 1 (fun b => [.bool b]) M), (14, I i)]) (fun _ => h') (fun i => i ≤ S.code.length ∧ ∀ c ∈ S.code.take i, c.fOp = 6 → M.getD c.fB.toNat false = false) (fun i => S.code.length - i) 0 ⟨by simp [SatL, tget], Heap.le_refl _, Nat.zero_le _, by simp⟩ ?_
      rintro i ⟨hi, hal2⟩
      rcases Nat.lt_or_ge i S.code.length with hlt | hge
      · have eg : S.code[i]? = some S.code[i] := List.getElem?_eq_getElem hlt
        by_cases h6 : S.code[i].fOp = 6
        · have mg := mC _ (List.getElem_mem hlt) h6
          have eg2 := hends _ mg
          simp (maxSteps := 1000000) -dsimp -implicitDefEqProofs only [go_sem, ↓reduceIte, keep72, ib72, mk72, Tryz.f72, h7n, hlt, eg, DInstr.c_eq, h6, gM _ mg]
          refine fun _ => ⟨eg2.1, by rw [hml]; exact eg2.2, fun hq => ?_, fun hq => ?_⟩
          · exact ⟨(decide_eq_false fun z => hst.1 z _ mg hq).symm, hle7⟩
          · exact ⟨i + 1, by rw [IntWalk.i64_in _ (by omega)]; rfl, ⟨hlt, all_step hlt hal2 fun _ => hq⟩, by omega⟩
        · simp (maxSteps := 1000000) -dsimp -implicitDefEqProofs only [go_sem, ↓reduceIte, keep72, ib72, mk72, Tryz.f72, h7n, hlt, eg, DInstr.c_eq, h6]
          exact fun _ => ⟨i + 1, by rw [IntWalk.i64_in _ (by omega)]; rfl, ⟨hlt, all_step hlt hal2 fun q => absurd q h6⟩, by omega⟩
      have hi' : i = S.code.length := by omega
      subst hi'
      rw [List.take_length] at hal2
      simp (maxSteps := 1000000) -dsimp -implicitDefEqProofs only [go_sem, ↓reduceIte, keep72, ib72, mk72, Tryz.f72, h7n, Nat.lt_irrefl, Int.lt_irrefl]
      refine fun _ => ⟨(decide_eq_true (hst.2 fun e he => ?_)).symm, hle7⟩
      rw [endsL, endsG] at he
      rcases List.mem_append.1 he with he | he
      · rcases List.mem_append.1 he with he | he
        · rw [List.mem_singleton.1 he]
          have hq' : M.getD (l.getD 0 0).toNat false = false := hq
          show ¬ M.getD (l.getD 0 0).toNat false = true
          rw [hq']; simp
        · obtain ⟨gg, hgg, rfl⟩ := List.mem_map.1 he
          rw [hall gg hgg]; simp
      · obtain ⟨cc, hcc, rfl⟩ := List.mem_map.1 he
        obtain ⟨h1, h2⟩ := List.mem_filter.1 hcc
        rw [hal2 cc h1 (by simpa using h2)]; simp
    · refine HFnF.mk hrec3 ?_
      simp (maxSteps := 1000000) -dsimp -implicitDefEqProofs only [go_sem, ↓reduceIte, keep72, ib72, mk72, Tryz.f72]
      rw [upd_upd]
      generalize hh7 : upd h n (.row 4 [[.v (I (argsOf j k).length), .v (sls 4 DInstr.c S.code), .v (sls 2 DGuard.c S.guards), .v (ints l)]]) = h7
      have h7n : h7 n = some (.row 4 [[.v (I (argsOf j k).length), .v (sls 4 DInstr.c S.code), .v (sls 2 DGuard.c S.guards), .v (ints l)]]) := by rw [← hh7, upd_same]
      have hle7 : h.le h7 := by rw [← hh7]; exact Heap.le_upd hn (Heap.le_refl _)
      refine HFnF.mkH (hmv h7 n h7n) ?_
      rintro r h' ⟨rfl, rfl⟩
      simp (maxSteps := 1000000) -dsimp -implicitDefEqProofs only [go_sem, ↓reduceIte, keep72, ib72, mk72, Tryz.f72, h7n, l0, gM _ m0]
      have e0 := hends _ m0
      refine ⟨by rw [g3, hO3]; omega, e0.1, by rw [hml]; exact e0.2, fun hq => ?_, fun hq => ?_⟩
      · exact ⟨(decide_eq_false fun z => hst.1 z _ m0 hq).symm, hle7⟩
      refine loopF (keep := keep72) (ib := ib72) (mk := mk72) mix (by kernel_rfl) (fun i : Nat => [(11, .op n 4 0 0), (12, sls 1 (fun b => [.bool b]) M), (13, I i)]) (fun _ => h') (fun i => i ≤ S.guards.length ∧ ∀ g ∈ S.guards.take i, M.getD g.fReg.toNat false = false) (fun i => S.guards.length - i) 0 ⟨by simp [SatL, tget], Heap.le_refl _, Nat.zero_le _, by simp⟩ ?_
      rintro i ⟨hi, hall⟩
      rcases Nat.lt_or_ge i S.guards.length with hlt | hge
      · have eg : S.guards[i]? = some S.guards[i] := List.getElem?_eq_getElem hlt
        have mg := mG _ (List.getElem_mem hlt)
        have eg2 := hends _ mg
        simp (maxSteps := 1000000) -dsimp -implicitDefEqProofs only [go_sem, ↓reduceIte, keep72, ib72, mk72, Tryz.f72, h7n, hlt, eg, DGuard.c_eq, gM _ mg]
        refine fun _ => ⟨eg2.1, by rw [hml]; exact eg2.2, fun hq => ?_, fun hq => ?_⟩
        · exact ⟨(decide_eq_false fun z => hst.1 z _ mg hq).symm, hle7⟩
        · exact ⟨i + 1, by rw [IntWalk.i64_in _ (by omega)]; rfl, ⟨hlt, all_step hlt hall hq⟩, by omega⟩
      have hi' : i = S.guards.length := by omega
      subst hi'
      rw [List.take_length] at hall
      simp (maxSteps := 1000000) -dsimp -implicitDefEqProofs only [go_sem, ↓reduceIte, keep72, ib72, mk72, Tryz.f72, h7n, Nat.lt_irrefl, Int.lt_irrefl]
      refine fun _ => ?_
      refine loopF (keep := keep72) (ib := ib72) (mk := mk72) mix (by kernel_rfl) (fun i : Nat => [(11, .op n 4 0 0), (12, sls 1 (fun b => [.bool b]) M), (14, I i)]) (fun _ => h') (fun i => i ≤ S.code.length ∧ ∀ c ∈ S.code.take i, c.fOp = 6 → M.getD c.fB.toNat false = false) (fun i => S.code.length - i) 0 ⟨by simp [SatL, tget], Heap.le_refl _, Nat.zero_le _, by simp⟩ ?_
      rintro i ⟨hi, hal2⟩
      rcases Nat.lt_or_ge i S.code.length with hlt | hge
      · have eg : S.code[i]? = some S.code[i] := List.getElem?_eq_getElem hlt
        by_cases h6 : S.code[i].fOp = 6
        · have mg := mC _ (List.getElem_mem hlt) h6
          have eg2 := hends _ mg
          simp (maxSteps := 1000000) -dsimp -implicitDefEqProofs only [go_sem, ↓reduceIte, keep72, ib72, mk72, Tryz.f72, h7n, hlt, eg, DInstr.c_eq, h6, gM _ mg]
          refine fun _ => ⟨eg2.1, by rw [hml]; exact eg2.2, fun hq => ?_, fun hq => ?_⟩
          · exact ⟨(decide_eq_false fun z => hst.1 z _ mg hq).symm, hle7⟩
          · exact ⟨i + 1, by rw [IntWalk.i64_in _ (by omega)]; rfl, ⟨hlt, all_step hlt hal2 fun _ => hq⟩, by omega⟩
        · simp (maxSteps := 1000000) -dsimp -implicitDefEqProofs only [go_sem, ↓reduceIte, keep72, ib72, mk72, Tryz.f72, h7n, hlt, eg, DInstr.c_eq, h6]
          exact fun _ => ⟨i + 1, by rw [IntWalk.i64_in _ (by omega)]; rfl, ⟨hlt, all_step hlt hal2 fun q => absurd q h6⟩, by omega⟩
      have hi' : i = S.code.length := by omega
      subst hi'
      rw [List.take_length] at hal2
      simp (maxSteps := 1000000) -dsimp -implicitDefEqProofs only [go_sem, ↓reduceIte, keep72, ib72, mk72, Tryz.f72, h7n, Nat.lt_irrefl, Int.lt_irrefl]
      refine fun _ => ⟨(decide_eq_true (hst.2 fun e he => ?_)).symm, hle7⟩
      rw [endsL, endsG] at he
      rcases List.mem_append.1 he with he | he
      · rcases List.mem_append.1 he with he | he
        · rw [List.mem_singleton.1 he]
          have hq' : M.getD (l.getD 0 0).toNat false = false := hq
          show ¬ M.getD (l.getD 0 0).toNat false = true
          rw [hq']; simp
        · obtain ⟨gg, hgg, rfl⟩ := List.mem_map.1 he
          rw [hall gg hgg]; simp
      · obtain ⟨cc, hcc, rfl⟩ := List.mem_map.1 he
        obtain ⟨h1, h2⟩ := List.mem_filter.1 hcc
        rw [hal2 cc h1 (by simpa using h2)]; simp
open Go.Proofs
set_option linter.unusedVariables false
set_option linter.unusedSimpArgs false
def keep29 : List Nat := [0, 1, 2, 3, 6, 7, 9, 17]
def ib29 : List Nat := [3]
def mk29 : Marks := fun _ => ([], .nil, [])
set_option maxRecDepth 100000 in
theorem specUntouched (j : DJob) (k : Int) (point : List Int) (hs : j.s ≤ 1048576) : Fn0 Tryz.prog 29 [.agg j.c, I k, ints point] (.tup [.bool (untRes j k point).1, I (untRes j k point).2]) := by
  have hs' := j.s_eq
  simp only [szs_eq] at hs'
  have hok := l08Job j (by omega)
  have hhas := l08Term j k (by omega)
  have han := l08Point j point
  simp only [DJob.c_eq] at hok hhas han ⊢
  refine fn0F 21 keep29 ib29 mk29 mix Tryz.func29 rfl (by kernel_rfl) (by simp) fun h => ?_
  simp (maxSteps := 1000000) -dsimp -implicitDefEqProofs only [go_sem, ↓reduceIte, keep29, ib29, mk29, Tryz.f29]
  first | refine HFnF.mk (hok) ?_ | refine CallSF.mk (hok) ?_ | refine HFnF.mkAt (hok) ?_ | refine CallSF.mk (FnAt.fn0 (hok)) ?_
  simp (maxSteps := 1000000) -dsimp -implicitDefEqProofs only [go_sem, ↓reduceIte, keep29, ib29, mk29, Tryz.f29]
  refine ⟨fun hn => by rw [untRes_1 hn], fun hj => ?_⟩
  first | refine HFnF.mk (hhas) ?_ | refine CallSF.mk (hhas) ?_ | refine HFnF.mkAt (hhas) ?_ | refine CallSF.mk (FnAt.fn0 (hhas)) ?_
  simp (maxSteps := 1000000) -dsimp -implicitDefEqProofs only [go_sem, ↓reduceIte, keep29, ib29, mk29, Tryz.f29]
  refine ⟨fun ht => ?_, fun ht => ?_⟩
  all_goals try (rw [untRes_2 hj (fun z => ht z.1)]; done)
  first | refine HFnF.mk (han) ?_ | refine CallSF.mk (han) ?_ | refine HFnF.mkAt (han) ?_ | refine CallSF.mk (FnAt.fn0 (han)) ?_
  simp (maxSteps := 1000000) -dsimp -implicitDefEqProofs only [go_sem, ↓reduceIte, keep29, ib29, mk29, Tryz.f29]
  refine ⟨fun hp => ?_, fun hp => ?_⟩
  all_goals try (rw [untRes_2 hj (fun z => hp z.2)]; done)
  have k1 := ht.1
  have k2 := ht.2
  have hkl : k.toNat < j.fTerms.length := by omega
  have hu := l08Still hj hkl point hp.1
  rw [show ((k.toNat : Nat) : Int) = k by omega] at hu
  simp only [DJob.c_eq] at hu
  first | refine HFnF.mk (hu) ?_ | refine CallSF.mk (hu) ?_ | refine HFnF.mkAt (hu) ?_ | refine CallSF.mk (FnAt.fn0 (hu)) ?_
  simp (maxSteps := 1000000) -dsimp -implicitDefEqProofs only [go_sem, ↓reduceIte, keep29, ib29, mk29, Tryz.f29]
  rw [untRes_ok hj ⟨ht, hp⟩]
open Go.Proofs
set_option linter.unusedVariables false
set_option linter.unusedSimpArgs false


def keep238 : List Nat := [0, 1, 4, 5, 11, 15, 25]
def ib238 : List Nat := []
def mk238 : Marks := fun _ => ([], .nil, [])
set_option maxRecDepth 100000 in
theorem sz_ExprS (l : List DExpr) (left : Int) (h0 : 0 ≤ left) (h1 : left ≤ 1048576) (hc : ∀ x ∈ l, ∀ left : Int, 0 ≤ left → left ≤ 1048576 → Fn0 Tryz.prog 276 [(.agg (DExpr.c x)), I left] (I (lft left ((DExpr.s x))))) : Fn0 Tryz.prog 238 [sls 5 DExpr.c l, I left] (I (lft left (szs DExpr.s l))) := by
  refine fn0F 27 keep238 ib238 mk238 mix Tryz.func238 rfl (by kernel_rfl) (by simp) fun h => ?_
  simp -dsimp -implicitDefEqProofs only [go_sem, Tryz.f238, ↓reduceIte, keep238, ib238, mk238]
  intro hl
  rw [IntWalk.i64_in _ (by omega)]
  refine ⟨fun hn => ?_, fun hn => ?_⟩
  · exact (lft_neg (by rw [szs_eq]; omega)).symm
  · refine loopF (keep := keep238) (ib := ib238) (mk := mk238) mix (by kernel_rfl) (fun k : Nat => [(0, sls 5 DExpr.c l), (1, I (left - l.length - (((l.take k).map DExpr.s).sum : Int))), (5, I k)]) (fun _ => h) (fun k => k ≤ l.length ∧ 0 ≤ left - l.length - (((l.take k).map DExpr.s).sum : Int)) (fun k => l.length - k) 0 (by simp [SatL, tget, Heap.le_refl]; omega) ?_
    intro k ⟨hk, hb⟩
    rcases Nat.lt_or_ge k l.length with hlt | hge
    · have ea : l[k]? = some l[k] := List.getElem?_eq_getElem hlt
      simp -dsimp -implicitDefEqProofs only [go_sem, ↓reduceIte, keep238, ib238, mk238, Tryz.f238, ea, DExpr.c_eq]
      refine fun _ => ⟨fun _ => ⟨hlt, ?_⟩, fun hn => absurd hlt hn⟩
      have hx := hc l[k] (List.getElem_mem hlt) (left - l.length - (((l.take k).map DExpr.s).sum : Int)) (by omega) (by omega)
      simp only [DExpr.c_eq] at hx
      refine HFnF.mk hx ?_
      have hs := sum_take_succ DExpr.s l k hlt
      have hs' := sum_take_le DExpr.s l (k + 1)
      try dsimp only at hs
      rcases lft_cases (left - l.length - (((l.take k).map DExpr.s).sum : Int)) ((DExpr.s l[k])) with ⟨e, hl1⟩ | ⟨e, hl1⟩
      · simp -dsimp -implicitDefEqProofs only [go_sem, ↓reduceIte, keep238, ib238, mk238, Tryz.f238, e]
        exact (lft_neg (by rw [szs_eq]; omega)).symm
      · have hn1 : (left - l.length - (((l.take k).map DExpr.s).sum : Int) - ((DExpr.s l[k]) : Int) < 0) = False := eq_false (by omega)
        simp -dsimp -implicitDefEqProofs only [go_sem, ↓reduceIte, keep238, ib238, mk238, Tryz.f238, e, hn1]
        refine ⟨k + 1, ⟨?_, ?_⟩, ⟨by omega, by rw [hs]; omega⟩, by omega⟩
        · rw [hs]; omega
        · rw [IntWalk.i64_in _ (by omega)]; rfl
    · have hk' : k = l.length := by omega
      subst hk'
      simp -dsimp -implicitDefEqProofs only [go_sem, ↓reduceIte, keep238, ib238, mk238, Tryz.f238, Nat.lt_irrefl]
      refine fun _ => ?_
      rw [List.take_length] at hb ⊢
      rw [lft_pos (by rw [szs_eq]; omega), szs_eq]
      omega

def keep276 : List Nat := [0, 1, 2, 4, 10]
def ib276 : List Nat := [2]
def mk276 : Marks := fun _ => ([], .nil, [])
set_option maxRecDepth 100000 in
theorem sz_Expr_step (x : DExpr) (left : Int) (h0 : 0 ≤ left) (h1 : left ≤ 1048576) (hk : ∀ left : Int, 0 ≤ left → left ≤ 1048576 → Fn0 Tryz.prog 238 [(sls 5 DExpr.c x.fKids), I left] (I (lft left (szs DExpr.s x.fKids)))) : Fn0 Tryz.prog 276 [.agg x.c, I left] (I (lft left x.s)) := by
  rw [DExpr.s_eq]
  simp only [DExpr.c_eq]
  refine fn0F 12 keep276 ib276 mk276 mix Tryz.func276 rfl (by kernel_rfl) (by simp) fun h => ?_
  simp -dsimp -implicitDefEqProofs only [go_sem, Tryz.f276, ↓reduceIte, keep276, ib276, mk276]
  refine HFnF.mk (hk left (by omega) (by omega)) ?_
  rcases lft_cases left (szs DExpr.s x.fKids) with ⟨e, hl1⟩ | ⟨e, hl1⟩
  · simp -dsimp -implicitDefEqProofs only [go_sem, ↓reduceIte, keep276, ib276, mk276, Tryz.f276, e]
  · have hn1 : (left - ((szs DExpr.s x.fKids) : Int) < 0) = False := eq_false (by omega)
    simp -dsimp -implicitDefEqProofs only [go_sem, ↓reduceIte, keep276, ib276, mk276, Tryz.f276, e, hn1]
  try (rw [lft_pos (by omega)]; omega)
theorem sz_Expr (x : DExpr) (left : Int) (h0 : 0 ≤ left) (h1 : left ≤ 1048576) : Fn0 Tryz.prog 276 [.agg x.c, I left] (I (lft left x.s)) :=
  sz_Expr_step x left h0 h1 fun left h0 h1 => sz_ExprS x.fKids left h0 h1 fun y hy left h0 h1 => sz_Expr y left h0 h1
termination_by SizeOf.sizeOf x
decreasing_by exact DExpr.kid_lt hy

def keep157 : List Nat := [0, 1, 2, 4, 11, 17]
def ib157 : List Nat := [2]
def mk157 : Marks := fun _ => ([], .nil, [])
set_option maxRecDepth 100000 in
theorem sz_Func (x : DFunc) (left : Int) (h0 : 0 ≤ left) (h1 : left ≤ 1048576) : Fn0 Tryz.prog 157 [.agg x.c, I left] (I (lft left x.s)) := by
  rw [DFunc.s_eq]
  simp only [DFunc.c_eq]
  refine fn0F 19 keep157 ib157 mk157 mix Tryz.func157 rfl (by kernel_rfl) (by simp) fun h => ?_
  simp -dsimp -implicitDefEqProofs only [go_sem, Tryz.f157, ↓reduceIte, keep157, ib157, mk157]
  refine fun hl0 => ?_
  rw [IntWalk.i64_in _ (by omega)]
  generalize hL0 : left - ((x.fName.length : Nat) : Int) = L0
  refine ⟨fun hn => (lft_neg (by omega)).symm, fun hn0 => ?_⟩
  refine HFnF.mk (sz_ExprS x.fOuts (L0) (by omega) (by omega) (fun x _ left h0 h1 => sz_Expr x left h0 h1)) ?_
  generalize hL1 : lft (L0) (szs DExpr.s x.fOuts) = L1
  simp -dsimp -implicitDefEqProofs only [go_sem, ↓reduceIte, keep157, ib157, mk157, Tryz.f157]
  have hs1 := lft_step hL1
  refine ⟨fun hn => (lft_neg (by have := hs1.1 hn; omega)).symm, fun hn1 => ?_⟩
  have hp1 := hs1.2 hn1
  clear hs1 hL1
  try (rw [lft_pos (by omega)]; omega)

def keep75 : List Nat := [0, 1, 4, 5, 11, 15, 25]
def ib75 : List Nat := []
def mk75 : Marks := fun _ => ([], .nil, [])
set_option maxRecDepth 100000 in
theorem sz_FuncS (l : List DFunc) (left : Int) (h0 : 0 ≤ left) (h1 : left ≤ 1048576) (hc : ∀ x ∈ l, ∀ left : Int, 0 ≤ left → left ≤ 1048576 → Fn0 Tryz.prog 157 [(.agg (DFunc.c x)), I left] (I (lft left ((DFunc.s x))))) : Fn0 Tryz.prog 75 [sls 3 DFunc.c l, I left] (I (lft left (szs DFunc.s l))) := by
  refine fn0F 27 keep75 ib75 mk75 mix Tryz.func75 rfl (by kernel_rfl) (by simp) fun h => ?_
  simp -dsimp -implicitDefEqProofs only [go_sem, Tryz.f75, ↓reduceIte, keep75, ib75, mk75]
  intro hl
  rw [IntWalk.i64_in _ (by omega)]
  refine ⟨fun hn => ?_, fun hn => ?_⟩
  · exact (lft_neg (by rw [szs_eq]; omega)).symm
  · refine loopF (keep := keep75) (ib := ib75) (mk := mk75) mix (by kernel_rfl) (fun k : Nat => [(0, sls 3 DFunc.c l), (1, I (left - l.length - (((l.take k).map DFunc.s).sum : Int))), (5, I k)]) (fun _ => h) (fun k => k ≤ l.length ∧ 0 ≤ left - l.length - (((l.take k).map DFunc.s).sum : Int)) (fun k => l.length - k) 0 (by simp [SatL, tget, Heap.le_refl]; omega) ?_
    intro k ⟨hk, hb⟩
    rcases Nat.lt_or_ge k l.length with hlt | hge
    · have ea : l[k]? = some l[k] := List.getElem?_eq_getElem hlt
      simp -dsimp -implicitDefEqProofs only [go_sem, ↓reduceIte, keep75, ib75, mk75, Tryz.f75, ea, DFunc.c_eq]
      refine fun _ => ⟨fun _ => ⟨hlt, ?_⟩, fun hn => absurd hlt hn⟩
      have hx := hc l[k] (List.getElem_mem hlt) (left - l.length - (((l.take k).map DFunc.s).sum : Int)) (by omega) (by omega)
      simp only [DFunc.c_eq] at hx
      refine HFnF.mk hx ?_
      have hs := sum_take_succ DFunc.s l k hlt
      have hs' := sum_take_le DFunc.s l (k + 1)
      try dsimp only at hs
      rcases lft_cases (left - l.length - (((l.take k).map DFunc.s).sum : Int)) ((DFunc.s l[k])) with ⟨e, hl1⟩ | ⟨e, hl1⟩
      · simp -dsimp -implicitDefEqProofs only [go_sem, ↓reduceIte, keep75, ib75, mk75, Tryz.f75, e]
        exact (lft_neg (by rw [szs_eq]; omega)).symm
      · have hn1 : (left - l.length - (((l.take k).map DFunc.s).sum : Int) - ((DFunc.s l[k]) : Int) < 0) = False := eq_false (by omega)
        simp -dsimp -implicitDefEqProofs only [go_sem, ↓reduceIte, keep75, ib75, mk75, Tryz.f75, e, hn1]
        refine ⟨k + 1, ⟨?_, ?_⟩, ⟨by omega, by rw [hs]; omega⟩, by omega⟩
        · rw [hs]; omega
        · rw [IntWalk.i64_in _ (by omega)]; rfl
    · have hk' : k = l.length := by omega
      subst hk'
      simp -dsimp -implicitDefEqProofs only [go_sem, ↓reduceIte, keep75, ib75, mk75, Tryz.f75, Nat.lt_irrefl]
      refine fun _ => ?_
      rw [List.take_length] at hb ⊢
      rw [lft_pos (by rw [szs_eq]; omega), szs_eq]
      omega

def keep32 : List Nat := [0, 1, 2, 4, 10]
def ib32 : List Nat := [2]
def mk32 : Marks := fun _ => ([], .nil, [])
set_option maxRecDepth 100000 in
theorem sz_Program (x : DProgram) (left : Int) (h0 : 0 ≤ left) (h1 : left ≤ 1048576) : Fn0 Tryz.prog 32 [.agg x.c, I left] (I (lft left x.s)) := by
  rw [DProgram.s_eq]
  simp only [DProgram.c_eq]
  refine fn0F 12 keep32 ib32 mk32 mix Tryz.func32 rfl (by kernel_rfl) (by simp) fun h => ?_
  simp -dsimp -implicitDefEqProofs only [go_sem, Tryz.f32, ↓reduceIte, keep32, ib32, mk32]
  refine HFnF.mk (sz_FuncS x.fFuncs left (by omega) (by omega) (fun x _ left h0 h1 => sz_Func x left h0 h1)) ?_
  rcases lft_cases left (szs DFunc.s x.fFuncs) with ⟨e, hl1⟩ | ⟨e, hl1⟩
  · simp -dsimp -implicitDefEqProofs only [go_sem, ↓reduceIte, keep32, ib32, mk32, Tryz.f32, e]
  · have hn1 : (left - ((szs DFunc.s x.fFuncs) : Int) < 0) = False := eq_false (by omega)
    simp -dsimp -implicitDefEqProofs only [go_sem, ↓reduceIte, keep32, ib32, mk32, Tryz.f32, e, hn1]
  try (rw [lft_pos (by omega)]; omega)

def keep52 : List Nat := [0, 1, 4, 10]
def ib52 : List Nat := []
def mk52 : Marks := fun _ => ([], .nil, [])
set_option maxRecDepth 100000 in
theorem sz_Int64S (sz : Nat) (es : List (List HVal)) (tg : Bool) (left : Int) (h0 : 0 ≤ left) (h1 : left ≤ 1048576) : Fn0 Tryz.prog 52 [.sl sz es tg, I left] (I (lft left es.length)) := by
  refine fn0F 12 keep52 ib52 mk52 mix Tryz.func52 rfl (by kernel_rfl) (by simp) fun h => ?_
  simp -dsimp -implicitDefEqProofs only [go_sem, Tryz.f52, ↓reduceIte, keep52, ib52, mk52]
  intro hl
  rw [IntWalk.i64_in _ (by omega)]
  refine ⟨fun hn => ?_, fun hn => ?_⟩
  · exact (lft_neg hn).symm
  · exact (lft_pos (by omega)).symm

def keep48 : List Nat := [0, 1, 4, 5, 11, 15, 25]
def ib48 : List Nat := []
def mk48 : Marks := fun _ => ([], .nil, [])
set_option maxRecDepth 100000 in
theorem sz_Int64SS (l : List (List Int)) (left : Int) (h0 : 0 ≤ left) (h1 : left ≤ 1048576) (hc : ∀ x ∈ l, ∀ left : Int, 0 ≤ left → left ≤ 1048576 → Fn0 Tryz.prog 52 [(sls 1 (fun n => [I n]) x), I left] (I (lft left (x.length)))) : Fn0 Tryz.prog 48 [sls 1 (fun x => [sls 1 (fun n => [I n]) x]) l, I left] (I (lft left (szs (fun x : List Int => x.length) l))) := by
  refine fn0F 27 keep48 ib48 mk48 mix Tryz.func48 rfl (by kernel_rfl) (by simp) fun h => ?_
  simp -dsimp -implicitDefEqProofs only [go_sem, Tryz.f48, ↓reduceIte, keep48, ib48, mk48]
  intro hl
  rw [IntWalk.i64_in _ (by omega)]
  refine ⟨fun hn => ?_, fun hn => ?_⟩
  · exact (lft_neg (by rw [szs_eq]; omega)).symm
  · refine loopF (keep := keep48) (ib := ib48) (mk := mk48) mix (by kernel_rfl) (fun k : Nat => [(0, sls 1 (fun x => [sls 1 (fun n => [I n]) x]) l), (1, I (left - l.length - (((l.take k).map (fun x : List Int => x.length)).sum : Int))), (5, I k)]) (fun _ => h) (fun k => k ≤ l.length ∧ 0 ≤ left - l.length - (((l.take k).map (fun x : List Int => x.length)).sum : Int)) (fun k => l.length - k) 0 (by simp [SatL, tget, Heap.le_refl]; omega) ?_
    intro k ⟨hk, hb⟩
    rcases Nat.lt_or_ge k l.length with hlt | hge
    · have ea : l[k]? = some l[k] := List.getElem?_eq_getElem hlt
      simp -dsimp -implicitDefEqProofs only [go_sem, ↓reduceIte, keep48, ib48, mk48, Tryz.f48, ea]
      refine fun _ => ⟨fun _ => ⟨hlt, ?_⟩, fun hn => absurd hlt hn⟩
      have hx := hc l[k] (List.getElem_mem hlt) (left - l.length - (((l.take k).map (fun x : List Int => x.length)).sum : Int)) (by omega) (by omega)
      refine HFnF.mk hx ?_
      have hs := sum_take_succ (fun x : List Int => x.length) l k hlt
      have hs' := sum_take_le (fun x : List Int => x.length) l (k + 1)
      try dsimp only at hs
      rcases lft_cases (left - l.length - (((l.take k).map (fun x : List Int => x.length)).sum : Int)) (l[k].length) with ⟨e, hl1⟩ | ⟨e, hl1⟩
      · simp -dsimp -implicitDefEqProofs only [go_sem, ↓reduceIte, keep48, ib48, mk48, Tryz.f48, e]
        exact (lft_neg (by rw [szs_eq]; omega)).symm
      · have hn1 : (left - l.length - (((l.take k).map (fun x : List Int => x.length)).sum : Int) - (l[k].length : Int) < 0) = False := eq_false (by omega)
        simp -dsimp -implicitDefEqProofs only [go_sem, ↓reduceIte, keep48, ib48, mk48, Tryz.f48, e, hn1]
        refine ⟨k + 1, ⟨?_, ?_⟩, ⟨by omega, by rw [hs]; omega⟩, by omega⟩
        · rw [hs]; omega
        · rw [IntWalk.i64_in _ (by omega)]; rfl
    · have hk' : k = l.length := by omega
      subst hk'
      simp -dsimp -implicitDefEqProofs only [go_sem, ↓reduceIte, keep48, ib48, mk48, Tryz.f48, Nat.lt_irrefl]
      refine fun _ => ?_
      rw [List.take_length] at hb ⊢
      rw [lft_pos (by rw [szs_eq]; omega), szs_eq]
      omega

def keep10 : List Nat := [0, 1, 2, 4, 10, 16, 22]
def ib10 : List Nat := [2]
def mk10 : Marks := fun _ => ([], .nil, [])
set_option maxRecDepth 100000 in
theorem sz_Job (x : DJob) (left : Int) (h0 : 0 ≤ left) (h1 : left ≤ 1048576) : Fn0 Tryz.prog 10 [.agg x.c, I left] (I (lft left x.s)) := by
  rw [DJob.s_eq]
  simp only [DJob.c_eq]
  refine fn0F 24 keep10 ib10 mk10 mix Tryz.func10 rfl (by kernel_rfl) (by simp) fun h => ?_
  simp -dsimp -implicitDefEqProofs only [go_sem, Tryz.f10, ↓reduceIte, keep10, ib10, mk10]
  refine HFnF.mk (sz_Program x.fProgram (left) (by omega) (by omega)) ?_
  generalize hL0 : lft left (DProgram.s x.fProgram) = L0
  simp -dsimp -implicitDefEqProofs only [go_sem, ↓reduceIte, keep10, ib10, mk10, Tryz.f10]
  have hs0 := lft_step hL0
  refine ⟨fun hn => (lft_neg (by have := hs0.1 hn; omega)).symm, fun hn0 => ?_⟩
  have hp0 := hs0.2 hn0
  clear hs0 hL0
  refine HFnF.mk (sz_Int64S _ _ _ (L0) (by omega) (by omega)) ?_
  rw [List.length_map]
  generalize hL1 : lft (L0) x.fPoint.length = L1
  simp -dsimp -implicitDefEqProofs only [go_sem, ↓reduceIte, keep10, ib10, mk10, Tryz.f10]
  have hs1 := lft_step hL1
  refine ⟨fun hn => (lft_neg (by have := hs1.1 hn; omega)).symm, fun hn1 => ?_⟩
  have hp1 := hs1.2 hn1
  clear hs1 hL1
  refine HFnF.mk (sz_Int64SS x.fTerms (L1) (by omega) (by omega) (fun x _ left h0 h1 => (by have hq := sz_Int64S 1 (x.map (fun n => [I n])) false left h0 h1; rw [List.length_map] at hq; exact hq))) ?_
  generalize hL2 : lft (L1) (szs (fun x : List Int => x.length) x.fTerms) = L2
  simp -dsimp -implicitDefEqProofs only [go_sem, ↓reduceIte, keep10, ib10, mk10, Tryz.f10]
  have hs2 := lft_step hL2
  refine ⟨fun hn => (lft_neg (by have := hs2.1 hn; omega)).symm, fun hn2 => ?_⟩
  have hp2 := hs2.2 hn2
  clear hs2 hL2
  try (rw [lft_pos (by omega)]; omega)


open Go.Proofs
set_option linter.unusedVariables false
set_option linter.unusedSimpArgs false


def keep246 : List Nat := [0, 1, 4, 5, 10, 14, 26]
def ib246 : List Nat := []
def mk246 : Marks := fun id => match id with | 6 => ([], (.op 0 (.op 1 (.op 2 (.op 3 (.op 4 (.op 5 (.op 6 (.op 7 (.op 8 (.op 9 .nil)))))))))), []) | _ => ([], .nil, [])
set_option maxRecDepth 100000 in
theorem eq_ExprS (a b : List DExpr) (hc : ∀ x ∈ a, ∀ y, Fn0 Tryz.prog 282 [(.agg (DExpr.c x)), (.agg (DExpr.c y))] (.bool (decide (x = y)))) : Fn0 Tryz.prog 246 [(sls 5 DExpr.c a), (sls 5 DExpr.c b)] (.bool (decide (a = b))) := by
  refine fn0F 27 keep246 ib246 mk246 mix Tryz.func246 rfl (by kernel_rfl) (by simp) fun h => ?_
  simp -dsimp -implicitDefEqProofs only [go_sem, Tryz.f246, ↓reduceIte, keep246, ib246, mk246]
  refine fun _ _ => ⟨fun hne => ?_, fun heq => ?_⟩
  · exact (decide_eq_false fun e => hne (by rw [e])).symm
  · refine loopF (keep := keep246) (ib := ib246) (mk := mk246) mix (by kernel_rfl) (fun k : Nat => [(0, (sls 5 DExpr.c a)), (1, (sls 5 DExpr.c b)), (5, I k)]) (fun _ => h) (fun k => k ≤ a.length ∧ a.take k = b.take k) (fun k => a.length - k) 0 (by simp [SatL, tget, Heap.le_refl]) ?_
    intro k ⟨hk, hp⟩
    rcases Nat.lt_or_ge k a.length with hlt | hge
    · have hlb : k < b.length := by omega
      have ea : a[k]? = some a[k] := List.getElem?_eq_getElem hlt
      have eb : b[k]? = some b[k] := List.getElem?_eq_getElem hlb
      simp -dsimp -implicitDefEqProofs only [go_sem, ↓reduceIte, keep246, ib246, mk246, Tryz.f246, ea, eb, DExpr.c_eq]
      refine fun _ => ⟨fun _ => ⟨hlt, hlb, ?_⟩, fun hn => absurd hlt hn⟩
      have hx := hc a[k] (List.getElem_mem hlt) b[k]
      simp only [DExpr.c_eq] at hx
      refine CallSF.mk hx ?_
      by_cases he : a[k] = b[k]
      · have d := decide_eq_true he
        simp -dsimp -implicitDefEqProofs only [go_sem, ↓reduceIte, keep246, ib246, mk246, Tryz.f246, d]
        exact ⟨k + 1, by rw [IntWalk.i64_in _ (by omega)]; rfl, ⟨by omega, take_step hlt hlb hp he⟩, by omega⟩
      · have d := decide_eq_false he
        simp -dsimp -implicitDefEqProofs only [go_sem, ↓reduceIte, keep246, ib246, mk246, Tryz.f246, d]
        exact (decide_eq_false fun e => he (getElem_of_eq e hlt)).symm
    · have hk' : k = a.length := by omega
      subst hk'
      simp -dsimp -implicitDefEqProofs only [go_sem, ↓reduceIte, keep246, ib246, mk246, Tryz.f246, Nat.lt_irrefl]
      exact fun _ => (decide_eq_true (eq_of_take heq hp)).symm

def keep282 : List Nat := [0, 1, 2, 3, 4, 9, 14, 19, 24, 30]
def ib282 : List Nat := [2, 3]
def mk282 : Marks := fun _ => ([], .nil, [])
set_option maxRecDepth 100000 in
theorem eq_Expr_step (a b : DExpr) (hk : Fn0 Tryz.prog 246 [(sls 5 DExpr.c a.fKids), (sls 5 DExpr.c b.fKids)] (.bool (decide (a.fKids = b.fKids)))) : Fn0 Tryz.prog 282 [.agg a.c, .agg b.c] (.bool (decide (a = b))) := by
  simp only [DExpr.c_eq]
  refine fn0F 31 keep282 ib282 mk282 mix Tryz.func282 rfl (by kernel_rfl) (by simp) fun h => ?_
  simp -dsimp -implicitDefEqProofs only [go_sem, Tryz.f282, ↓reduceIte, keep282, ib282, mk282]
  refine ⟨fun hn => (decide_eq_false fun e => hn (by rw [e])).symm, fun efKind => ?_⟩
  refine ⟨fun hn => (decide_eq_false fun e => hn (by rw [e])).symm, fun efNum => ?_⟩
  refine ⟨fun hn => (decide_eq_false fun e => hn (by rw [e])).symm, fun efPick => ?_⟩
  refine ⟨fun hn => (decide_eq_false fun e => hn (by rw [e])).symm, fun efCount => ?_⟩
  refine HFnF.mk hk ?_
  by_cases efKids : a.fKids = b.fKids
  case neg =>
    have d := decide_eq_false efKids
    simp -dsimp -implicitDefEqProofs only [go_sem, ↓reduceIte, keep282, ib282, mk282, Tryz.f282, d]
    exact (decide_eq_false fun e => efKids (by rw [e])).symm
  have dfKids := decide_eq_true efKids
  simp -dsimp -implicitDefEqProofs only [go_sem, ↓reduceIte, keep282, ib282, mk282, Tryz.f282, dfKids]
  exact (decide_eq_true (DExpr.eq_iff.2 ⟨efKind, efNum, efPick, efCount, efKids⟩)).symm
theorem eq_Expr (a b : DExpr) : Fn0 Tryz.prog 282 [.agg a.c, .agg b.c] (.bool (decide (a = b))) :=
  eq_Expr_step a b (eq_ExprS a.fKids b.fKids fun x hx y => eq_Expr x y)
termination_by SizeOf.sizeOf a
decreasing_by exact DExpr.kid_lt hx

def keep178 : List Nat := [0, 1, 2, 3, 4, 9, 14, 20]
def ib178 : List Nat := [2, 3]
def mk178 : Marks := fun _ => ([], .nil, [])
set_option maxRecDepth 100000 in
theorem eq_Func (a b : DFunc) : Fn0 Tryz.prog 178 [.agg a.c, .agg b.c] (.bool (decide (a = b))) := by
  simp only [DFunc.c_eq]
  refine fn0F 21 keep178 ib178 mk178 mix Tryz.func178 rfl (by kernel_rfl) (by simp) fun h => ?_
  simp -dsimp -implicitDefEqProofs only [go_sem, Tryz.f178, ↓reduceIte, keep178, ib178, mk178]
  refine ⟨fun hn => (decide_eq_false fun e => hn (by rw [e])).symm, fun efName => ?_⟩
  refine ⟨fun hn => (decide_eq_false fun e => hn (by rw [e])).symm, fun efParams => ?_⟩
  refine HFnF.mk (eq_ExprS a.fOuts b.fOuts (fun x _ y => (eq_Expr x y))) ?_
  by_cases efOuts : a.fOuts = b.fOuts
  case neg =>
    have d := decide_eq_false efOuts
    simp -dsimp -implicitDefEqProofs only [go_sem, ↓reduceIte, keep178, ib178, mk178, Tryz.f178, d]
    exact (decide_eq_false fun e => efOuts (by rw [e])).symm
  have dfOuts := decide_eq_true efOuts
  simp -dsimp -implicitDefEqProofs only [go_sem, ↓reduceIte, keep178, ib178, mk178, Tryz.f178, dfOuts]
  exact (decide_eq_true (DFunc.eq_iff.2 ⟨efName, efParams, efOuts⟩)).symm

def keep93 : List Nat := [0, 1, 4, 5, 10, 14, 26]
def ib93 : List Nat := []
def mk93 : Marks := fun id => match id with | 6 => ([], (.op 0 (.op 1 (.op 2 (.op 3 (.op 4 (.op 5 (.op 6 (.op 7 (.op 8 (.op 9 .nil)))))))))), []) | _ => ([], .nil, [])
set_option maxRecDepth 100000 in
theorem eq_FuncS (a b : List DFunc) (hc : ∀ x ∈ a, ∀ y, Fn0 Tryz.prog 178 [(.agg (DFunc.c x)), (.agg (DFunc.c y))] (.bool (decide (x = y)))) : Fn0 Tryz.prog 93 [(sls 3 DFunc.c a), (sls 3 DFunc.c b)] (.bool (decide (a = b))) := by
  refine fn0F 27 keep93 ib93 mk93 mix Tryz.func93 rfl (by kernel_rfl) (by simp) fun h => ?_
  simp -dsimp -implicitDefEqProofs only [go_sem, Tryz.f93, ↓reduceIte, keep93, ib93, mk93]
  refine fun _ _ => ⟨fun hne => ?_, fun heq => ?_⟩
  · exact (decide_eq_false fun e => hne (by rw [e])).symm
  · refine loopF (keep := keep93) (ib := ib93) (mk := mk93) mix (by kernel_rfl) (fun k : Nat => [(0, (sls 3 DFunc.c a)), (1, (sls 3 DFunc.c b)), (5, I k)]) (fun _ => h) (fun k => k ≤ a.length ∧ a.take k = b.take k) (fun k => a.length - k) 0 (by simp [SatL, tget, Heap.le_refl]) ?_
    intro k ⟨hk, hp⟩
    rcases Nat.lt_or_ge k a.length with hlt | hge
    · have hlb : k < b.length := by omega
      have ea : a[k]? = some a[k] := List.getElem?_eq_getElem hlt
      have eb : b[k]? = some b[k] := List.getElem?_eq_getElem hlb
      simp -dsimp -implicitDefEqProofs only [go_sem, ↓reduceIte, keep93, ib93, mk93, Tryz.f93, ea, eb, DFunc.c_eq]
      refine fun _ => ⟨fun _ => ⟨hlt, hlb, ?_⟩, fun hn => absurd hlt hn⟩
      have hx := hc a[k] (List.getElem_mem hlt) b[k]
      simp only [DFunc.c_eq] at hx
      refine CallSF.mk hx ?_
      by_cases he : a[k] = b[k]
      · have d := decide_eq_true he
        simp -dsimp -implicitDefEqProofs only [go_sem, ↓reduceIte, keep93, ib93, mk93, Tryz.f93, d]
        exact ⟨k + 1, by rw [IntWalk.i64_in _ (by omega)]; rfl, ⟨by omega, take_step hlt hlb hp he⟩, by omega⟩
      · have d := decide_eq_false he
        simp -dsimp -implicitDefEqProofs only [go_sem, ↓reduceIte, keep93, ib93, mk93, Tryz.f93, d]
        exact (decide_eq_false fun e => he (getElem_of_eq e hlt)).symm
    · have hk' : k = a.length := by omega
      subst hk'
      simp -dsimp -implicitDefEqProofs only [go_sem, ↓reduceIte, keep93, ib93, mk93, Tryz.f93, Nat.lt_irrefl]
      exact fun _ => (decide_eq_true (eq_of_take heq hp)).symm

def keep37 : List Nat := [0, 1, 2, 3, 4, 10]
def ib37 : List Nat := [2, 3]
def mk37 : Marks := fun _ => ([], .nil, [])
set_option maxRecDepth 100000 in
theorem eq_Program (a b : DProgram) : Fn0 Tryz.prog 37 [.agg a.c, .agg b.c] (.bool (decide (a = b))) := by
  simp only [DProgram.c_eq]
  refine fn0F 11 keep37 ib37 mk37 mix Tryz.func37 rfl (by kernel_rfl) (by simp) fun h => ?_
  simp -dsimp -implicitDefEqProofs only [go_sem, Tryz.f37, ↓reduceIte, keep37, ib37, mk37]
  refine HFnF.mk (eq_FuncS a.fFuncs b.fFuncs (fun x _ y => (eq_Func x y))) ?_
  by_cases efFuncs : a.fFuncs = b.fFuncs
  case neg =>
    have d := decide_eq_false efFuncs
    simp -dsimp -implicitDefEqProofs only [go_sem, ↓reduceIte, keep37, ib37, mk37, Tryz.f37, d]
    exact (decide_eq_false fun e => efFuncs (by rw [e])).symm
  have dfFuncs := decide_eq_true efFuncs
  simp -dsimp -implicitDefEqProofs only [go_sem, ↓reduceIte, keep37, ib37, mk37, Tryz.f37, dfFuncs]
  exact (decide_eq_true (DProgram.eq_iff.2 efFuncs)).symm

def keep21 : List Nat := [0, 1, 4, 5, 10, 14, 25]
def ib21 : List Nat := []
def mk21 : Marks := fun id => match id with | 6 => ([], (.op 0 (.op 1 (.op 2 (.op 3 (.op 4 (.op 5 (.op 6 (.op 7 (.op 8 .nil))))))))), []) | _ => ([], .nil, [])
set_option maxRecDepth 100000 in
theorem eq_Int64S (a b : List Int) : Fn0 Tryz.prog 21 [(sls 1 (fun n => [I n]) a), (sls 1 (fun n => [I n]) b)] (.bool (decide (a = b))) := by
  refine fn0F 26 keep21 ib21 mk21 mix Tryz.func21 rfl (by kernel_rfl) (by simp) fun h => ?_
  simp -dsimp -implicitDefEqProofs only [go_sem, Tryz.f21, ↓reduceIte, keep21, ib21, mk21]
  refine fun _ _ => ⟨fun hne => ?_, fun heq => ?_⟩
  · exact (decide_eq_false fun e => hne (by rw [e])).symm
  · refine loopF (keep := keep21) (ib := ib21) (mk := mk21) mix (by kernel_rfl) (fun k : Nat => [(0, (sls 1 (fun n => [I n]) a)), (1, (sls 1 (fun n => [I n]) b)), (5, I k)]) (fun _ => h) (fun k => k ≤ a.length ∧ a.take k = b.take k) (fun k => a.length - k) 0 (by simp [SatL, tget, Heap.le_refl]) ?_
    intro k ⟨hk, hp⟩
    rcases Nat.lt_or_ge k a.length with hlt | hge
    · have hlb : k < b.length := by omega
      have ea : a[k]? = some a[k] := List.getElem?_eq_getElem hlt
      have eb : b[k]? = some b[k] := List.getElem?_eq_getElem hlb
      simp -dsimp -implicitDefEqProofs only [go_sem, ↓reduceIte, keep21, ib21, mk21, Tryz.f21, ea, eb]
      refine fun _ => ⟨fun _ => ⟨hlt, hlb, fun hne => ?_, fun he => ?_⟩, fun hn => absurd hlt hn⟩
      · first
          | exact (decide_eq_false fun e => hne (getElem_of_eq e hlt)).symm
          | exact (decide_eq_false fun e => by have := getElem_of_eq e hlt (hb := hlb); rw [this] at hne; simp at hne).symm
      · exact ⟨k + 1, by rw [IntWalk.i64_in _ (by omega)]; rfl, ⟨by omega, take_step hlt hlb hp (by first | exact he | simpa using he)⟩, by omega⟩
    · have hk' : k = a.length := by omega
      subst hk'
      simp -dsimp -implicitDefEqProofs only [go_sem, ↓reduceIte, keep21, ib21, mk21, Tryz.f21, Nat.lt_irrefl]
      exact fun _ => (decide_eq_true (eq_of_take heq hp)).symm

def keep36 : List Nat := [0, 1, 4, 5, 10, 14, 26]
def ib36 : List Nat := []
def mk36 : Marks := fun id => match id with | 6 => ([], (.op 0 (.op 1 (.op 2 (.op 3 (.op 4 (.op 5 (.op 6 (.op 7 (.op 8 (.op 9 .nil)))))))))), []) | _ => ([], .nil, [])
set_option maxRecDepth 100000 in
theorem eq_Int64SS (a b : List (List Int)) (hc : ∀ x ∈ a, ∀ y, Fn0 Tryz.prog 21 [(sls 1 (fun n => [I n]) x), (sls 1 (fun n => [I n]) y)] (.bool (decide (x = y)))) : Fn0 Tryz.prog 36 [(sls 1 (fun x => [sls 1 (fun n => [I n]) x]) a), (sls 1 (fun x => [sls 1 (fun n => [I n]) x]) b)] (.bool (decide (a = b))) := by
  refine fn0F 27 keep36 ib36 mk36 mix Tryz.func36 rfl (by kernel_rfl) (by simp) fun h => ?_
  simp -dsimp -implicitDefEqProofs only [go_sem, Tryz.f36, ↓reduceIte, keep36, ib36, mk36]
  refine fun _ _ => ⟨fun hne => ?_, fun heq => ?_⟩
  · exact (decide_eq_false fun e => hne (by rw [e])).symm
  · refine loopF (keep := keep36) (ib := ib36) (mk := mk36) mix (by kernel_rfl) (fun k : Nat => [(0, (sls 1 (fun x => [sls 1 (fun n => [I n]) x]) a)), (1, (sls 1 (fun x => [sls 1 (fun n => [I n]) x]) b)), (5, I k)]) (fun _ => h) (fun k => k ≤ a.length ∧ a.take k = b.take k) (fun k => a.length - k) 0 (by simp [SatL, tget, Heap.le_refl]) ?_
    intro k ⟨hk, hp⟩
    rcases Nat.lt_or_ge k a.length with hlt | hge
    · have hlb : k < b.length := by omega
      have ea : a[k]? = some a[k] := List.getElem?_eq_getElem hlt
      have eb : b[k]? = some b[k] := List.getElem?_eq_getElem hlb
      simp -dsimp -implicitDefEqProofs only [go_sem, ↓reduceIte, keep36, ib36, mk36, Tryz.f36, ea, eb]
      refine fun _ => ⟨fun _ => ⟨hlt, hlb, ?_⟩, fun hn => absurd hlt hn⟩
      have hx := hc a[k] (List.getElem_mem hlt) b[k]
      refine CallSF.mk hx ?_
      by_cases he : a[k] = b[k]
      · have d := decide_eq_true he
        simp -dsimp -implicitDefEqProofs only [go_sem, ↓reduceIte, keep36, ib36, mk36, Tryz.f36, d]
        exact ⟨k + 1, by rw [IntWalk.i64_in _ (by omega)]; rfl, ⟨by omega, take_step hlt hlb hp he⟩, by omega⟩
      · have d := decide_eq_false he
        simp -dsimp -implicitDefEqProofs only [go_sem, ↓reduceIte, keep36, ib36, mk36, Tryz.f36, d]
        exact (decide_eq_false fun e => he (getElem_of_eq e hlt)).symm
    · have hk' : k = a.length := by omega
      subst hk'
      simp -dsimp -implicitDefEqProofs only [go_sem, ↓reduceIte, keep36, ib36, mk36, Tryz.f36, Nat.lt_irrefl]
      exact fun _ => (decide_eq_true (eq_of_take heq hp)).symm

def keep15 : List Nat := [0, 1, 2, 3, 4, 10, 15, 20, 26, 32]
def ib15 : List Nat := [2, 3]
def mk15 : Marks := fun _ => ([], .nil, [])
set_option maxRecDepth 100000 in
theorem eq_Job (a b : DJob) : Fn0 Tryz.prog 15 [.agg a.c, .agg b.c] (.bool (decide (a = b))) := by
  simp only [DJob.c_eq]
  refine fn0F 33 keep15 ib15 mk15 mix Tryz.func15 rfl (by kernel_rfl) (by simp) fun h => ?_
  simp -dsimp -implicitDefEqProofs only [go_sem, Tryz.f15, ↓reduceIte, keep15, ib15, mk15]
  refine HFnF.mk (eq_Program a.fProgram b.fProgram) ?_
  by_cases efProgram : a.fProgram = b.fProgram
  case neg =>
    have d := decide_eq_false efProgram
    simp -dsimp -implicitDefEqProofs only [go_sem, ↓reduceIte, keep15, ib15, mk15, Tryz.f15, d]
    exact (decide_eq_false fun e => efProgram (by rw [e])).symm
  have dfProgram := decide_eq_true efProgram
  simp -dsimp -implicitDefEqProofs only [go_sem, ↓reduceIte, keep15, ib15, mk15, Tryz.f15, dfProgram]
  refine ⟨fun hn => (decide_eq_false fun e => hn (by rw [e])).symm, fun efFunc => ?_⟩
  refine ⟨fun hn => (decide_eq_false fun e => hn (by rw [e])).symm, fun efShared => ?_⟩
  refine HFnF.mk (eq_Int64S a.fPoint b.fPoint) ?_
  by_cases efPoint : a.fPoint = b.fPoint
  case neg =>
    have d := decide_eq_false efPoint
    simp -dsimp -implicitDefEqProofs only [go_sem, ↓reduceIte, keep15, ib15, mk15, Tryz.f15, d]
    exact (decide_eq_false fun e => efPoint (by rw [e])).symm
  have dfPoint := decide_eq_true efPoint
  simp -dsimp -implicitDefEqProofs only [go_sem, ↓reduceIte, keep15, ib15, mk15, Tryz.f15, dfPoint]
  refine HFnF.mk (eq_Int64SS a.fTerms b.fTerms (fun x _ y => (eq_Int64S x y))) ?_
  by_cases efTerms : a.fTerms = b.fTerms
  case neg =>
    have d := decide_eq_false efTerms
    simp -dsimp -implicitDefEqProofs only [go_sem, ↓reduceIte, keep15, ib15, mk15, Tryz.f15, d]
    exact (decide_eq_false fun e => efTerms (by rw [e])).symm
  have dfTerms := decide_eq_true efTerms
  simp -dsimp -implicitDefEqProofs only [go_sem, ↓reduceIte, keep15, ib15, mk15, Tryz.f15, dfTerms]
  exact (decide_eq_true (DJob.eq_iff.2 ⟨efProgram, efFunc, efShared, efPoint, efTerms⟩)).symm


open Go.Proofs
set_option linter.unusedVariables false
set_option linter.unusedSimpArgs false
def keep6 : List Nat := [0, 1, 2, 3, 6, 7, 8, 9, 10, 11, 12, 13, 16, 21, 49, 54, 59]
def ib6 : List Nat := [3]
def mk6 : Marks := fun id => match id with | 13 => ([0], (.op 1 (.op 2 (.op 0 (.op 3 (.op 4 .nil))))), []) | _ => ([], .nil, [])
set_option maxRecDepth 100000 in
theorem law_Untouched (a : DJob) (k : Int) (b : List Int) : Fn0 Tryz.prog 6 [.agg a.c, I k, ints b] (.bool true) := by
  simp only [DJob.c_eq]
  refine fn0F 60 keep6 ib6 mk6 mix Tryz.func6 rfl (by kernel_rfl) (by simp) fun h => ?_
  simp (maxSteps := 1000000) -dsimp -implicitDefEqProofs only [go_sem, ↓reduceIte, keep6, ib6, mk6, Tryz.f6]
  intro _ hb
  first | refine HFnF.mk (sz_Job a 1048576 (by omega) (by omega)) ?_ | refine CallSF.mk (sz_Job a 1048576 (by omega) (by omega)) ?_ | refine HFnF.mkAt (sz_Job a 1048576 (by omega) (by omega)) ?_ | refine CallSF.mk (FnAt.fn0 (sz_Job a 1048576 (by omega) (by omega))) ?_
  simp (maxSteps := 1000000) -dsimp -implicitDefEqProofs only [go_sem, ↓reduceIte, keep6, ib6, mk6, Tryz.f6, DJob.c_eq]
  generalize hL : lft 1048576 a.s = L
  have hs := lft_step hL
  repeat' (with_reducible first | intro _ | refine And.intro ?_ ?_)
  all_goals try (first | (simp [hs, *]; done) | omega | (grind [hs]) | (simp [hs]; omega))
  rename_i h1
  have h2 := hs.2 h1
  have ha : a.s ≤ 1048576 := by omega
  have hbl : b.length ≤ 1048576 := by omega
  clear hs hL h1 h2
  have hsp := specUntouched a k b ha
  have him := Untouched a k b ha
  have hto := to_Job a ha
  have htb := to_Int64S b hbl
  have heq := eq_Job a a
  have heb := eq_Int64S b b
  simp only [DJob.c_eq] at hsp him hto heq
  first | refine HFnF.mk (hto) ?_ | refine CallSF.mk (hto) ?_ | refine HFnF.mkAt (hto) ?_ | refine CallSF.mk (FnAt.fn0 (hto)) ?_
  simp (maxSteps := 1000000) -dsimp -implicitDefEqProofs only [go_sem, ↓reduceIte, keep6, ib6, mk6, Tryz.f6]
  first | refine HFnF.mk (htb) ?_ | refine CallSF.mk (htb) ?_ | refine HFnF.mkAt (htb) ?_ | refine CallSF.mk (FnAt.fn0 (htb)) ?_
  simp (maxSteps := 1000000) -dsimp -implicitDefEqProofs only [go_sem, ↓reduceIte, keep6, ib6, mk6, Tryz.f6]
  first | refine HFnF.mk (hsp) ?_ | refine CallSF.mk (hsp) ?_ | refine HFnF.mkAt (hsp) ?_ | refine CallSF.mk (FnAt.fn0 (hsp)) ?_
  simp (maxSteps := 1000000) -dsimp -implicitDefEqProofs only [go_sem, ↓reduceIte, keep6, ib6, mk6, Tryz.f6]
  first | refine HFnF.mk (hto) ?_ | refine CallSF.mk (hto) ?_ | refine HFnF.mkAt (hto) ?_ | refine CallSF.mk (FnAt.fn0 (hto)) ?_
  simp (maxSteps := 1000000) -dsimp -implicitDefEqProofs only [go_sem, ↓reduceIte, keep6, ib6, mk6, Tryz.f6]
  intro n hn
  rw [upd_upd]
  first | refine HFnF.mk (htb) ?_ | refine CallSF.mk (htb) ?_ | refine HFnF.mkAt (htb) ?_ | refine CallSF.mk (FnAt.fn0 (htb)) ?_
  simp (maxSteps := 1000000) -dsimp -implicitDefEqProofs only [go_sem, ↓reduceIte, keep6, ib6, mk6, Tryz.f6, upd_get]
  first | refine HFnF.mk (him) ?_ | refine CallSF.mk (him) ?_ | refine HFnF.mkAt (him) ?_ | refine CallSF.mk (FnAt.fn0 (him)) ?_
  simp (maxSteps := 1000000) -dsimp -implicitDefEqProofs only [go_sem, ↓reduceIte, keep6, ib6, mk6, Tryz.f6, bne_self_eq_false, upd_get]
  first | refine HFnF.mk (hto) ?_ | refine CallSF.mk (hto) ?_ | refine HFnF.mkAt (hto) ?_ | refine CallSF.mk (FnAt.fn0 (hto)) ?_
  simp (maxSteps := 1000000) -dsimp -implicitDefEqProofs only [go_sem, ↓reduceIte, keep6, ib6, mk6, Tryz.f6, bne_self_eq_false, upd_get]
  first | refine HFnF.mk (heq) ?_ | refine CallSF.mk (heq) ?_ | refine HFnF.mkAt (heq) ?_ | refine CallSF.mk (FnAt.fn0 (heq)) ?_
  simp (maxSteps := 1000000) -dsimp -implicitDefEqProofs only [go_sem, ↓reduceIte, keep6, ib6, mk6, Tryz.f6, upd_get, decide_true, Bool.not_true]
  first | refine HFnF.mk (htb) ?_ | refine CallSF.mk (htb) ?_ | refine HFnF.mkAt (htb) ?_ | refine CallSF.mk (FnAt.fn0 (htb)) ?_
  simp (maxSteps := 1000000) -dsimp -implicitDefEqProofs only [go_sem, ↓reduceIte, keep6, ib6, mk6, Tryz.f6, upd_get]
  first | refine HFnF.mk (heb) ?_ | refine CallSF.mk (heb) ?_ | refine HFnF.mkAt (heb) ?_ | refine CallSF.mk (FnAt.fn0 (heb)) ?_
  simp (maxSteps := 1000000) -dsimp -implicitDefEqProofs only [go_sem, ↓reduceIte, keep6, ib6, mk6, Tryz.f6, upd_get, decide_true, Bool.not_true]
  try exact Heap.le_upd hn (Heap.le_refl _)
open Go.Proofs
set_option linter.unusedVariables false
set_option linter.unusedSimpArgs false
theorem dat_i64 {P : Program} {n : Nat} {t : TypeId} {xs : List HVal} (hu : P.underlying t = some (.int .i64)) (h : Dat P n t xs) : ∃ i : Int, xs = [I i] ∧ InI i := by
  match n, h with
  | 0, h => exact h.elim
  | n + 1, h =>
    simp only [Dat, hu] at h
    obtain ⟨i, rfl, hw⟩ := h
    refine ⟨i, rfl, ?_⟩
    have h1 : IntKind.min .i64 = -9223372036854775808 := by decide
    have h2 : IntKind.max .i64 = 9223372036854775807 := by decide
    simp [Lit.wf, IntKind.has, h1, h2] at hw
    unfold InI
    omega
theorem dat_str {P : Program} {n : Nat} {t : TypeId} {xs : List HVal} (hu : P.underlying t = some .string) (h : Dat P n t xs) : ∃ s : List UInt8, xs = [.str s] ∧ True := by
  match n, h with
  | 0, h => exact h.elim
  | n + 1, h =>
    simp only [Dat, hu] at h
    obtain ⟨b, rfl⟩ := h
    exact ⟨b, rfl, trivial⟩
theorem list_of {α : Type} {c : α → List HVal} {w : α → Prop} : ∀ {es : List (List HVal)}, (∀ y ∈ es, ∃ x, y = c x ∧ w x) → ∃ l : List α, es = l.map c ∧ ∀ x ∈ l, w x
  | [], _ => ⟨[], rfl, by simp⟩
  | e :: es, h => by
    obtain ⟨x, rfl, hx⟩ := h _ List.mem_cons_self
    obtain ⟨l, rfl, hl⟩ := list_of fun y hy => h y (List.mem_cons_of_mem _ hy)
    refine ⟨x :: l, rfl, fun y hy => ?_⟩
    rcases List.mem_cons.1 hy with rfl | hy
    · exact hx
    · exact hl y hy
theorem dat_slice {P : Program} {n sz : Nat} {t e : TypeId} {α : Type} {c : α → List HVal} {w : α → Prop} {xs : List HVal} (hu : P.underlying t = some (.slice e)) (hc : P.cellsOf e = sz) (h : Dat P n t xs)
    (hx : ∀ m y, m < n → Dat P m e y → ∃ x, y = c x ∧ w x) : ∃ l : List α, xs = [sls sz c l] ∧ ∀ x ∈ l, w x := by
  match n, h with
  | 0, h => exact h.elim
  | n + 1, h =>
    simp only [Dat, hu] at h
    obtain ⟨es, rfl, hes⟩ := h
    obtain ⟨l, rfl, hl⟩ := list_of fun y hy => hx n y (by omega) (hes y hy)
    exact ⟨l, by rw [hc], hl⟩
theorem drop_split {α : Type} {xs c r : List α} {o n o' : Nat} (h : (xs.drop o).take n = c) (hr : xs.drop o' = r) (ho : o + n = o') : xs.drop o = c ++ r := by
  rw [← hr, ← ho, ← List.drop_drop, ← h, List.take_append_drop]
theorem cells28 : Tryz.prog.cellsOf 28 = 5 := by kernel_rfl
theorem cells2 : Tryz.prog.cellsOf 2 = 1 := by kernel_rfl
theorem cells204 : Tryz.prog.cellsOf 204 = 1 := by kernel_rfl
theorem cells313 : Tryz.prog.cellsOf 313 = 5 := by kernel_rfl
theorem cells9 : Tryz.prog.cellsOf 9 = 1 := by kernel_rfl
theorem cells206 : Tryz.prog.cellsOf 206 = 3 := by kernel_rfl
theorem cells22 : Tryz.prog.cellsOf 22 = 1 := by kernel_rfl
theorem cells24 : Tryz.prog.cellsOf 24 = 1 := by kernel_rfl
theorem cells25 : Tryz.prog.cellsOf 25 = 1 := by kernel_rfl
theorem cells26 : Tryz.prog.cellsOf 26 = 1 := by kernel_rfl
set_option maxRecDepth 100000 in
theorem dat_313 : ∀ {n : Nat} {xs : List HVal}, Dat Tryz.prog n 313 xs → ∃ x : DExpr, xs = x.c ∧ x.wf
  | 0, _, h => h.elim
  | n + 1, xs, h => by
    simp only [Dat, Tryz.underlying313] at h
    obtain ⟨hl, hf⟩ := h
    rw [cells313] at hl
    have f0 : Dat Tryz.prog n 2 ((xs.drop 0).take (Tryz.prog.cellsOf 2)) := hf 0 _ rfl
    rw [cells2] at f0
    obtain ⟨x0, e0, w0⟩ := (dat_i64 Tryz.underlying2 f0)
    have f1 : Dat Tryz.prog n 2 ((xs.drop 1).take (Tryz.prog.cellsOf 2)) := hf 1 _ rfl
    rw [cells2] at f1
    obtain ⟨x1, e1, w1⟩ := (dat_i64 Tryz.underlying2 f1)
    have f2 : Dat Tryz.prog n 2 ((xs.drop 2).take (Tryz.prog.cellsOf 2)) := hf 2 _ rfl
    rw [cells2] at f2
    obtain ⟨x2, e2, w2⟩ := (dat_i64 Tryz.underlying2 f2)
    have f3 : Dat Tryz.prog n 2 ((xs.drop 3).take (Tryz.prog.cellsOf 2)) := hf 3 _ rfl
    rw [cells2] at f3
    obtain ⟨x3, e3, w3⟩ := (dat_i64 Tryz.underlying2 f3)
    have f4 : Dat Tryz.prog n 204 ((xs.drop 4).take (Tryz.prog.cellsOf 204)) := hf 4 _ rfl
    rw [cells204] at f4
    obtain ⟨x4, e4, w4⟩ := (dat_slice (c := DExpr.c) (w := (fun x => x.wf)) Tryz.underlying204 cells313 f4 (fun m y hm hy => (dat_313 hy)))
    have r5 : xs.drop 5 = [] := List.drop_eq_nil_of_le (by omega)
    have r4 := drop_split e4 r5 rfl
    have r3 := drop_split e3 r4 rfl
    have r2 := drop_split e2 r3 rfl
    have r1 := drop_split e1 r2 rfl
    have r0 := drop_split e0 r1 rfl
    exact ⟨.mk x0 x1 x2 x3 x4, by rw [DExpr.c_eq]; exact r0, .mk _ w0 w1 w2 w3 w4⟩
termination_by n => n
decreasing_by all_goals omega
set_option maxRecDepth 100000 in
theorem dat_206 : ∀ {n : Nat} {xs : List HVal}, Dat Tryz.prog n 206 xs → ∃ x : DFunc, xs = x.c ∧ x.wf
  | 0, _, h => h.elim
  | n + 1, xs, h => by
    simp only [Dat, Tryz.underlying206] at h
    obtain ⟨hl, hf⟩ := h
    rw [cells206] at hl
    have f0 : Dat Tryz.prog n 9 ((xs.drop 0).take (Tryz.prog.cellsOf 9)) := hf 0 _ rfl
    rw [cells9] at f0
    obtain ⟨x0, e0, w0⟩ := (dat_str Tryz.underlying9 f0)
    have f1 : Dat Tryz.prog n 2 ((xs.drop 1).take (Tryz.prog.cellsOf 2)) := hf 1 _ rfl
    rw [cells2] at f1
    obtain ⟨x1, e1, w1⟩ := (dat_i64 Tryz.underlying2 f1)
    have f2 : Dat Tryz.prog n 204 ((xs.drop 2).take (Tryz.prog.cellsOf 204)) := hf 2 _ rfl
    rw [cells204] at f2
    obtain ⟨x2, e2, w2⟩ := (dat_slice (c := DExpr.c) (w := (fun x => x.wf)) Tryz.underlying204 cells313 f2 (fun m y hm hy => (dat_313 hy)))
    have r3 : xs.drop 3 = [] := List.drop_eq_nil_of_le (by omega)
    have r2 := drop_split e2 r3 rfl
    have r1 := drop_split e1 r2 rfl
    have r0 := drop_split e0 r1 rfl
    exact ⟨⟨x0, x1, x2⟩, r0, ⟨w1, w2⟩⟩
set_option maxRecDepth 100000 in
theorem dat_24 : ∀ {n : Nat} {xs : List HVal}, Dat Tryz.prog n 24 xs → ∃ x : DProgram, xs = x.c ∧ x.wf
  | 0, _, h => h.elim
  | n + 1, xs, h => by
    simp only [Dat, Tryz.underlying24] at h
    obtain ⟨hl, hf⟩ := h
    rw [cells24] at hl
    have f0 : Dat Tryz.prog n 22 ((xs.drop 0).take (Tryz.prog.cellsOf 22)) := hf 0 _ rfl
    rw [cells22] at f0
    obtain ⟨x0, e0, w0⟩ := (dat_slice (c := DFunc.c) (w := (fun x => x.wf)) Tryz.underlying22 cells206 f0 (fun m y hm hy => (dat_206 hy)))
    have r1 : xs.drop 1 = [] := List.drop_eq_nil_of_le (by omega)
    have r0 := drop_split e0 r1 rfl
    exact ⟨⟨x0⟩, r0, w0⟩
set_option maxRecDepth 100000 in
theorem dat_28 : ∀ {n : Nat} {xs : List HVal}, Dat Tryz.prog n 28 xs → ∃ x : DJob, xs = x.c ∧ x.wf
  | 0, _, h => h.elim
  | n + 1, xs, h => by
    simp only [Dat, Tryz.underlying28] at h
    obtain ⟨hl, hf⟩ := h
    rw [cells28] at hl
    have f0 : Dat Tryz.prog n 24 ((xs.drop 0).take (Tryz.prog.cellsOf 24)) := hf 0 _ rfl
    rw [cells24] at f0
    obtain ⟨x0, e0, w0⟩ := (dat_24 f0)
    have f1 : Dat Tryz.prog n 2 ((xs.drop 1).take (Tryz.prog.cellsOf 2)) := hf 1 _ rfl
    rw [cells2] at f1
    obtain ⟨x1, e1, w1⟩ := (dat_i64 Tryz.underlying2 f1)
    have f2 : Dat Tryz.prog n 2 ((xs.drop 2).take (Tryz.prog.cellsOf 2)) := hf 2 _ rfl
    rw [cells2] at f2
    obtain ⟨x2, e2, w2⟩ := (dat_i64 Tryz.underlying2 f2)
    have f3 : Dat Tryz.prog n 25 ((xs.drop 3).take (Tryz.prog.cellsOf 25)) := hf 3 _ rfl
    rw [cells25] at f3
    obtain ⟨x3, e3, w3⟩ := (dat_slice (c := (fun n => [I n])) (w := (fun x => InI x)) Tryz.underlying25 cells2 f3 (fun m y hm hy => (dat_i64 Tryz.underlying2 hy)))
    have f4 : Dat Tryz.prog n 26 ((xs.drop 4).take (Tryz.prog.cellsOf 26)) := hf 4 _ rfl
    rw [cells26] at f4
    obtain ⟨x4, e4, w4⟩ := (dat_slice (c := (fun x => [sls 1 (fun n => [I n]) x])) (w := (fun x => (∀ y ∈ x, InI y))) Tryz.underlying26 cells25 f4 (fun m y hm hy => (dat_slice (c := (fun n => [I n])) (w := (fun x => InI x)) Tryz.underlying25 cells2 hy (fun m y hm hy => (dat_i64 Tryz.underlying2 hy)))))
    have r5 : xs.drop 5 = [] := List.drop_eq_nil_of_le (by omega)
    have r4 := drop_split e4 r5 rfl
    have r3 := drop_split e3 r4 rfl
    have r2 := drop_split e2 r3 rfl
    have r1 := drop_split e1 r2 rfl
    have r0 := drop_split e0 r1 rfl
    exact ⟨⟨x0, x1, x2, x3, x4⟩, r0, ⟨w0, w1, w2, w3, w4⟩⟩
def datT : List TypeId := [2, 4, 9, 22, 24, 25, 26, 28, 50, 51, 53, 75, 77, 190, 204, 206, 225, 313]
theorem datT_ok : datB Tryz.prog datT = true := by kernel_rfl

end Go.Hl

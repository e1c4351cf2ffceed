/-
  Contracts of functions and laws of the layer over the walk.
-/
import Derived.Test.YtcpocmbgibafdaaVvB
import Derived.Test.YtcpocmbgibafdaaHlD
import Derived.Test.YtcpocmbgibafdaaVvA
namespace Go.Hl
open Go.Proofs
set_option linter.unusedVariables false
set_option linter.unusedSimpArgs false
/-! no walk is cheaper -/
def heldB (x : SS) (i : Nat) : Bool := x.q.testBit i || decide (i = x.s)
theorem tb_or (q s j : Nat) : (q ||| 2 ^ s).testBit j = (q.testBit j || decide (s = j)) := by rw [Nat.testBit_or, Nat.testBit_two_pow]
theorem tb_clr (q i j : Nat) : (clrB q i).testBit j = (q.testBit j && !decide (i = j)) := by
  rw [clrB, Nat.testBit_xor, Nat.testBit_and, Nat.testBit_two_pow]
  cases q.testBit j <;> cases decide (i = j) <;> rfl
theorem bits_len (q : Nat) : ∀ h, (bitsN (h + 1) q).length = (if q.testBit 0 = true then 1 else 0) + cA (fun i => q.testBit i) 0 h
  | 0 => by
    have : bitsN 1 q = if q.testBit 0 = true then [0] else [] := by
      simp only [bitsN, List.range_succ, List.range_zero, List.nil_append, List.filter_cons, List.filter_nil]
    rw [this, cA]; split <;> rfl
  | h + 1 => by
    have ih := bits_len q h
    have : bitsN (h + 2) q = bitsN (h + 1) q ++ if q.testBit (h + 1) = true then [h + 1] else [] := by
      simp only [bitsN, List.range_succ (n := h + 1), List.filter_append, List.filter_cons, List.filter_nil]
    rw [this, List.length_append, ih, cA]
    have e1 : (if q.testBit (h + 1) = true then [h + 1] else []).length = if q.testBit (h + 1) = true then 1 else 0 := by split <;> rfl
    have e2 : (if 0 < h + 1 ∧ q.testBit (h + 1) = true then 1 else 0) = if q.testBit (h + 1) = true then 1 else 0 := by
      by_cases z : q.testBit (h + 1) = true <;> simp [z]
    rw [e1]
    first | rw [e2] | skip
    omega
theorem bits_le (q : Nat) {n m : Nat} (h : n ≤ m) : (bitsN n q).length ≤ (bitsN m q).length := by
  obtain ⟨k, rfl⟩ : ∃ k, m = n + k := ⟨m - n, by omega⟩
  induction k with
  | zero => exact Nat.le_refl _
  | succ k ih => rw [show n + (k + 1) = (n + k) + 1 by omega, bits_len_succ]; have := ih (by omega); omega
theorem cA_congr {A B : Nat → Bool} {lo : Nat} : ∀ h, (∀ i, i ≤ h → A i = B i) → cA A lo h = cA B lo h
  | 0, _ => rfl
  | h + 1, hh => by rw [cA, cA, cA_congr h fun i hi => hh i (by omega), hh (h + 1) (Nat.le_refl _)]
theorem bits_clr : ∀ q, q < 256 → ∀ i, i < 8 → q.testBit i = true → (bitsN 8 (clrB q i)).length + 1 = (bitsN 8 q).length := by
  have key : (List.range 256).all (fun q => (List.range 8).all fun i => !q.testBit i || (bitsN 8 (clrB q i)).length + 1 == (bitsN 8 q).length) = true := by decide +kernel
  intro q hq i hi h
  have h1 := List.all_eq_true.1 key q (List.mem_range.2 hq)
  have h2 := List.all_eq_true.1 h1 i (List.mem_range.2 hi)
  simpa [h] using h2
theorem walk_low {w : List Int} (hw : Wnn w) (hn : w.length ≤ 7) {sl : Nat} {x : SS} {c : Int} (h : Wlk (stS w.length) (succI w sl) x c) :
    (bitsN 8 x.q).length ≤ sl ∧ (0 < x.left → heldB x 0 = true → ∀ K v, Pt w (heldB x) x.left 0 K sl v → 0 ≤ ls w 0 w.length sl ∧ ls w 0 w.length sl ≤ c + v) ∧ (x.left = 0 → 0 ≤ ls w 0 w.length sl ∧ ls w 0 w.length sl ≤ c) := by
  induction h with
  | start =>
    refine ⟨by rw [show (stS w.length).q = 0 from rfl, show (bitsN 8 0).length = 0 by decide]; exact Nat.zero_le _, fun _ _ K v p => ?_, fun h0 => ?_⟩
    · have : ∀ j, pad (heldB (stS w.length)) j ≤ 0 := fun j => by
        have hm : heldB (stS w.length) (pad (heldB (stS w.length)) j) = true := pad_mem (by simp [heldB, stS]) j
        have e : ∀ i, heldB (stS w.length) i = true → i = 0 := fun i hi => by
          rcases (Bool.or_eq_true _ _).mp hi with z | z
          · have z : (0 : Nat).testBit i = true := z
            rw [Nat.zero_testBit] at z; cases z
          · exact of_decide_eq_true z
        rw [e _ hm]
        exact Nat.le_refl _
      have := p.base hw this
      exact ⟨this.1, by rw [Int.zero_add]; exact this.2⟩
    · have h0 : w.length = 0 := h0
      rw [h0, ls_short (by omega)]; omega
  | @step x c e h he ih =>
    obtain ⟨i1, i2, i3⟩ := ih
    obtain ⟨k1, k2, k3⟩ := wlkI_ok h
    obtain ⟨o1, o2, o3⟩ := okW_okS hn ⟨k1, k2, k3⟩
    have hb := bits_more k3 8 (by omega)
    unfold succI at he
    simp only [List.mem_append, List.mem_map] at he
    -- what is less held, at the same place
    have less : ∀ y : SS, y.left = x.left → (∀ i, heldB y i = true → heldB x i = true) → (0 < y.left → heldB y 0 = true → ∀ K v, Pt w (heldB y) y.left 0 K sl v → 0 ≤ ls w 0 w.length sl ∧ ls w 0 w.length sl ≤ c + 0 + v) ∧ (y.left = 0 → 0 ≤ ls w 0 w.length sl ∧ ls w 0 w.length sl ≤ c + 0) := fun y hl hh => by
      refine ⟨fun hp h0 K v p => ?_, fun h0 => by rw [Int.add_zero]; exact i3 (by omega)⟩
      rw [hl] at p hp
      obtain ⟨v', p', le'⟩ := p.mono hw (pad_mono hh h0)
      have := i2 hp (hh 0 h0) K v' p'
      exact ⟨this.1, by omega⟩
    rcases he with (((he | he) | ⟨i, hi, rfl⟩) | he) | ⟨i, hi, rfl⟩
    · split at he
      · rename_i hc
        simp only [List.mem_singleton] at he
        subst he
        refine ⟨i1, fun hp h0 K v p => ?_, fun q => absurd q (by simp only; omega)⟩
        simp only at hp p
        obtain ⟨v', p', le'⟩ := p.on hw (A := heldB x) (s := x.s) (fun i hi hne => by
          simp only [heldB, Bool.or_eq_true, decide_eq_true_eq] at hi ⊢
          exact .inl (hi.resolve_right hne)) (by simp [heldB]) h0 (Nat.zero_le _)
        have := i2 hp (by simp [heldB] at h0 ⊢; omega) K v' p'
        exact ⟨this.1, by simp only; omega⟩
      · cases he
    · split at he
      · rename_i hc
        simp only [List.mem_singleton] at he
        subst he
        refine ⟨i1, fun hp h0 K v p => ?_, fun q => ?_⟩
        · simp only at hp p
          have e1 : x.left - 1 = x.s := by omega
          rw [e1] at p hp
          have hA : heldB x x.s = true := by simp [heldB]
          have h0x : heldB x 0 = true := h0
          have ht0 : x.q.testBit 0 = true := by
            simp only [heldB, Bool.or_eq_true, decide_eq_true_eq] at h0x
            rcases h0x with q | q
            · exact q
            · omega
          have hcnt : cA (heldB x) 0 (x.s - 1) + 1 ≤ sl := by
            have h1 := bits_len x.q (x.s - 1)
            rw [if_pos ht0] at h1
            have h2 := bits_le x.q (n := x.s - 1 + 1) (m := 8) (by omega)
            have h3 : cA (heldB x) 0 (x.s - 1) = cA (fun i => x.q.testBit i) 0 (x.s - 1) := cA_congr _ fun i hi => by
              simp only [heldB]
              rw [decide_eq_false (by omega), Bool.or_false]
            omega
          obtain ⟨K', v', p', le'⟩ := Pt.back hw h0x hA (show Pt w (heldB x) x.s 0 K sl v from p) hcnt
          rw [hc] at p'
          have := i2 (by omega) h0x K' v' p'
          exact ⟨this.1, by simp only; omega⟩
        · simp only at q
          have hs0 : x.s = 0 := by omega
          have hl1 : x.left = 1 := by omega
          have := i2 (by omega) (by simp [heldB, hs0]) [] 0 (by rw [hl1]; exact ⟨by omega, by rw [ls_short (by omega)]; exact Int.le_refl _, by rw [ls_short (by omega)]⟩)
          exact this
      · cases he
    · have hm := mem_bits.1 hi
      have := less ⟨i, x.q, x.left⟩ rfl fun j hj => by
        simp only [heldB, Bool.or_eq_true, decide_eq_true_eq] at hj ⊢
        rcases hj with q | q
        · exact .inl q
        · rw [q]; exact .inl hm.2
      exact ⟨i1, this.1, this.2⟩
    · split at he
      · rename_i hc
        simp only [List.mem_singleton] at he
        subst he
        have := less ⟨x.s, x.q ||| 2 ^ x.s, x.left⟩ rfl fun j hj => by
          simp only [heldB, tb_or, Bool.or_eq_true, decide_eq_true_eq] at hj ⊢
          rcases hj with (q | q) | q
          · exact .inl q
          · exact .inr q.symm
          · exact .inr q
        have hl := (bits_or x.q o2 x.s o1).2
        rw [← hb] at hc
        exact ⟨by simp only; omega, this.1, this.2⟩
      · cases he
    · have hm := mem_bits.1 hi
      have := less ⟨x.s, clrB x.q i ||| 2 ^ x.s, x.left⟩ rfl fun j hj => by
        simp only [heldB, tb_or, tb_clr, Bool.or_eq_true, Bool.and_eq_true, decide_eq_true_eq] at hj ⊢
        rcases hj with (q | q) | q
        · exact .inl q.1
        · exact .inr q.symm
        · exact .inr q
      have h1 := bits_clr x.q o2 i (by omega) hm.2
      have hl := (bits_or (clrB x.q i) (clrB_lt (n := 8) i o2) x.s o1).2
      exact ⟨by simp only; omega, this.1, this.2⟩
/-! a walk as cheap as that -/
theorem bits_sub {r q : Nat} (h : ∀ i, r.testBit i = true → q.testBit i = true) : ∀ n, (bitsN n r).length ≤ (bitsN n q).length
  | 0 => Nat.le_refl _
  | n + 1 => by
    have ih := bits_sub h n
    rw [bits_len_succ, bits_len_succ]
    have e : ∀ x : Nat, x.testBit n = decide (x / 2 ^ n % 2 = 1) := fun x => Nat.testBit_eq_decide_div_mod_eq
    have h1 := h n
    rw [e, e, decide_eq_true_eq, decide_eq_true_eq] at h1
    omega
theorem bits_ex {r q : Nat} : ∀ n, (bitsN n r).length < (bitsN n q).length → ∃ i, i < n ∧ q.testBit i = true ∧ r.testBit i = false
  | 0, h => by simp [bitsN] at h
  | n + 1, h => by
    rw [bits_len_succ, bits_len_succ] at h
    have e : ∀ x : Nat, x.testBit n = decide (x / 2 ^ n % 2 = 1) := fun x => Nat.testBit_eq_decide_div_mod_eq
    by_cases q1 : (bitsN n r).length < (bitsN n q).length
    · obtain ⟨i, h1, h2⟩ := bits_ex n q1
      exact ⟨i, by omega, h2⟩
    · exact ⟨n, by omega, by rw [e]; exact decide_eq_true (by omega), by rw [e]; exact decide_eq_false (by omega)⟩
theorem walk_high {w : List Int} (hw : Wnn w) (hn : w.length ≤ 7) {sl : Nat} : ∀ d a b c q r c0, b - a ≤ d → a < b → Wlk (stS w.length) (succI w sl) ⟨a, q, b⟩ c0 → (∀ i, r.testBit i = true → q.testBit i = true) → (bitsN 8 (clrB r a)).length + c ≤ sl → 0 ≤ ls w a b c →
    ∃ s' q', Wlk (stS w.length) (succI w sl) ⟨s', q', a⟩ (c0 + ls w a b c) ∧ ∀ i, r.testBit i = true → q'.testBit i = true
  | 0, a, b, c, q, r, c0, hd, hab, _, _, _, _ => by omega
  | d + 1, a, b, c, q, r, c0, hd, hab, hx, hr, hc, h0 => by
    by_cases h1 : b ≤ a + 1
    · obtain rfl : b = a + 1 := by omega
      rw [ls_short (Nat.le_refl _)]
      refine ⟨a, q, ?_, hr⟩
      have := Wlk.step hx (e := (⟨a, q, a⟩, 0)) (by unfold succI; simp)
      exact this
    · obtain ⟨hc0, m, m1, m2, m3, m4, m5⟩ := ls_at hw (by omega) h0
      obtain ⟨k1, k2, k3⟩ := wlkI_ok hx
      obtain ⟨o1, o2, o3⟩ := okW_okS hn ⟨k1, k2, k3⟩
      simp only at k1 k2 k3 o1 o2 o3
      have hb8 := bits_more k3 8 (by omega)
      have hq := (walk_low hw hn hx).1
      simp only at hq
      have r1t : ∀ i, (r ||| 2 ^ a).testBit i = (r.testBit i || decide (a = i)) := fun i => tb_or r a i
      -- a is held
      have store : ∃ q1, Wlk (stS w.length) (succI w sl) ⟨a, q1, b⟩ c0 ∧ ∀ i, (r ||| 2 ^ a).testBit i = true → q1.testBit i = true := by
        by_cases ha : q.testBit a = true
        · refine ⟨q, hx, fun i hi => ?_⟩
          rw [r1t, Bool.or_eq_true, decide_eq_true_eq] at hi
          rcases hi with z | rfl
          · exact hr i z
          · exact ha
        · rcases Nat.lt_or_ge (bitsN (w.length + 1) q).length sl with hlt | hge
          · refine ⟨q ||| 2 ^ a, ?_, fun i hi => ?_⟩
            · have := Wlk.step hx (e := (⟨a, q ||| 2 ^ a, b⟩, 0)) (by unfold succI; simp only; rw [if_pos hlt]; simp)
              simpa using this
            · rw [r1t, Bool.or_eq_true, decide_eq_true_eq] at hi
              rw [tb_or, Bool.or_eq_true, decide_eq_true_eq]
              exact hi.imp (hr i) id
          · have hra : r.testBit a = false := by
              cases z : r.testBit a with
              | false => rfl
              | true => exact absurd (hr a z) ha
            have hrc : clrB r a = r := by
              apply Nat.eq_of_testBit_eq
              intro j
              rw [tb_clr]
              by_cases z : a = j
              · subst z; rw [hra]; rfl
              · simp [z]
            rw [hrc] at hc
            rw [← hb8] at hge
            obtain ⟨i, z1, z2, z3⟩ := bits_ex (r := r) (q := q) 8 (by omega)
            refine ⟨clrB q i ||| 2 ^ a, ?_, fun j hj => ?_⟩
            · have hi : i ∈ bitsN (w.length + 1) q := by rw [← hb8]; exact mem_bits.2 ⟨z1, z2⟩
              have := Wlk.step hx (e := (⟨a, clrB q i ||| 2 ^ a, b⟩, 0)) (by unfold succI; simp only [List.mem_append, List.mem_map]; exact .inr ⟨i, hi, rfl⟩)
              simpa using this
            · rw [r1t, Bool.or_eq_true, decide_eq_true_eq] at hj
              rw [tb_or, tb_clr, Bool.or_eq_true, Bool.and_eq_true, decide_eq_true_eq]
              rcases hj with z | z
              · left
                refine ⟨hr j z, ?_⟩
                have : i ≠ j := fun e => by rw [e, z] at z3; cases z3
                simp [this]
              · exact .inr z
      obtain ⟨q1, hx1, hr1⟩ := store
      have hx2 := wlk_far hx1 (m - a) (by simp only; omega)
      simp only at hx2
      rw [show a + (m - a) = m by omega, sumW_far, show a + (m - a) = m by omega] at hx2
      have cnt1 : (bitsN 8 (clrB (r ||| 2 ^ a) m)).length ≤ (bitsN 8 (clrB r a)).length + 1 := by
        have s1 : (bitsN 8 (clrB (r ||| 2 ^ a) m)).length ≤ (bitsN 8 (clrB r a ||| 2 ^ a)).length := bits_sub (fun i hi => by
          rw [tb_clr, r1t, Bool.and_eq_true, Bool.or_eq_true, decide_eq_true_eq] at hi
          rw [tb_or, tb_clr, Bool.or_eq_true, Bool.and_eq_true, decide_eq_true_eq]
          by_cases e : a = i
          · exact .inr e
          · exact .inl ⟨hi.1.resolve_right e, by simp [e]⟩) 8
        have hrlt : r < 256 := Nat.lt_of_lt_of_le (lt_of_bits hr o2) (Nat.le_refl _)
        have := (bits_or (clrB r a) (clrB_lt (n := 8) a hrlt) a (by omega)).2
        omega
      obtain ⟨s', q', hx3, hr3⟩ := walk_high hw hn d m b (c - 1) q1 (r ||| 2 ^ a) _ (by omega) m2 hx2 hr1 (by omega) m3
      have ha' : q'.testBit a = true := hr3 a (by rw [r1t]; simp)
      obtain ⟨g1, g2, g3⟩ := wlkI_ok hx3
      have hx4 := Wlk.step hx3 (e := (⟨a, q', m⟩, 0)) (by
        unfold succI
        simp only [List.mem_append, List.mem_map]
        exact .inl (.inl (.inr ⟨a, mem_bits.2 ⟨by simp only at g2; omega, ha'⟩, rfl⟩)))
      simp only [Int.add_zero] at hx4
      have cnt2 : (bitsN 8 (clrB (r ||| 2 ^ a) a)).length ≤ (bitsN 8 (clrB r a)).length := bits_sub (fun i hi => by
        rw [tb_clr, r1t, Bool.and_eq_true, Bool.or_eq_true, decide_eq_true_eq] at hi
        rw [tb_clr, Bool.and_eq_true]
        have e : ¬ a = i := by simpa using hi.2
        exact ⟨hi.1.resolve_right e, hi.2⟩) 8
      obtain ⟨s2, q2, hx5, hr5⟩ := walk_high hw hn d a m c q' (r ||| 2 ^ a) _ (by omega) m1 hx4 hr3 (by omega) m4
      refine ⟨s2, q2, ?_, fun i hi => hr5 i (by rw [r1t, hi]; rfl)⟩
      rw [show c0 + ls w a b c = c0 + far w a m + ls w m b (c - 1) + ls w a m c by rw [m5]; omega]
      exact hx5
where
  lt_of_bits {r q : Nat} (hr : ∀ i, r.testBit i = true → q.testBit i = true) (hq : q < 256) : r < 256 := by
    refine Nat.lt_pow_two_of_testBit (n := 8) r fun i hi => ?_
    cases z : r.testBit i with
    | false => rfl
    | true =>
      have := hr i z
      rw [Nat.testBit_lt_two_pow (Nat.lt_of_lt_of_le hq (show 2 ^ 8 ≤ 2 ^ i from Nat.pow_le_pow_right (by omega) hi))] at this
      cases this
theorem min_ls {w : List Int} (hw : Wnn w) (hn : w.length ≤ 7) (sl : Nat) : MinG (stS w.length) (succI w sl) (if ls w 0 w.length sl < 0 then none else some (ls w 0 w.length sl)) := by
  split
  · rename_i h
    intro x c hx hl
    have := (walk_low hw hn hx).2.2 hl
    omega
  · rename_i h
    refine ⟨?_, fun x c hl hx => ((walk_low hw hn hx).2.2 hl).2⟩
    rcases Nat.eq_zero_or_pos w.length with e | e
    · refine ⟨stS w.length, e, ?_⟩
      rw [ls_short (by omega)]; exact .start
    · obtain ⟨s', q', hx, _⟩ := walk_high hw hn w.length 0 w.length sl 0 0 0 (by omega) e .start (fun i hi => by simp at hi) (by rw [show (bitsN 8 (clrB 0 0)).length = 0 by decide, Nat.zero_add]; exact Nat.le_refl _) (by omega)
      exact ⟨⟨s', q', 0⟩, rfl, by simpa using hx⟩
theorem ls_up {w : List Int} (hW : ∀ x ∈ w, 0 ≤ x ∧ x ≤ 1000) (hn : w.length ≤ 7) : ∀ n d a b c : Nat, d ≤ n → b - a ≤ d + 1 → b ≤ w.length → ls w a b c ≤ 7000 * (d : Int) := by
  have hw : Wnn w := fun i => (wAt_in hW i).1
  intro n
  induction n with
  | zero => intro d a b c hd hb _; rw [ls_short (by omega)]; omega
  | succ n ih =>
    intro d a b c hd hb hbl
    by_cases h1 : b ≤ a + 1
    · rw [ls_short h1]; omega
    · rcases ls_neg hw a b c with h0 | h0
      · obtain ⟨_, m, m1, m2, m3, m4, m5⟩ := ls_at hw (by omega) h0
        have f1 := ih (b - m - 1) m b (c - 1) (by omega) (by omega) hbl
        have f2 := ih (m - a - 1) a m c (by omega) (by omega) (by omega)
        have f3 := sumW_in hW a (m - a)
        rw [sumW_far, show a + (m - a) = m by omega] at f3
        rw [m5]; omega
      · rw [h0]; omega
/-- A planner in its box. -/
def pnB (w : List Int) (sl : Int) (n1 n2 : Nat) : HObj := .row 4 [[.v (ints w), .v (I sl), .v (.mp n1), .v (.mp n2)]]
def plH (hA : Heap) (n1 n2 : Nat) (m1 m2 : KMap) : Heap := upd (upd hA n1 (.map 0 0 (mapH m1))) n2 (.map 0 0 (mapH m2))
structure PlS (w : List Int) (sl : Int) (hA : Heap) (np n1 n2 : Nat) : Prop where
  d : ¬ n1 = n2
  z1 : hA n1 = none
  z2 : hA n2 = none
  hp : hA np = some (pnB w sl n1 n2)
def memoOK (w : List Int) (m : KMap) : Prop := keysLen 3 m ∧ ∀ (a b c : Nat) x, mget [(a : Int), (b : Int), (c : Int)] m = some x → x = I (ls w a b c)
theorem memo_nil (w : List Int) : memoOK w [] := ⟨keysLen_nil 3, fun _ _ _ _ h => by cases h⟩
theorem memo_put {w : List Int} {m : KMap} (h : memoOK w m) (a b c : Nat) : memoOK w (mput [(a : Int), (b : Int), (c : Int)] (I (ls w a b c)) m) := by
  refine ⟨keysLen_put h.1 rfl _, fun a' b' c' x hx => ?_⟩
  rw [mget_mput] at hx
  split at hx
  · rename_i e
    simp only [List.cons.injEq, and_true] at e
    obtain ⟨e1, e2, e3⟩ := e
    obtain rfl : a' = a := by omega
    obtain rfl : b' = b := by omega
    obtain rfl : c' = c := by omega
    exact (Option.some.inj hx).symm
  · exact h.2 a' b' c' x hx
theorem PlS.getP {w : List Int} {sl : Int} {hA : Heap} {np n1 n2 : Nat} {m1 m2 : KMap} (p : PlS w sl hA np n1 n2) : plH hA n1 n2 m1 m2 np = some (pnB w sl n1 n2) := by
  have := p.d; have := p.z1; have := p.z2; have := p.hp
  simp only [plH, upd_get]; grind
theorem PlS.get1 {w : List Int} {sl : Int} {hA : Heap} {np n1 n2 : Nat} {m1 m2 : KMap} (p : PlS w sl hA np n1 n2) : plH hA n1 n2 m1 m2 n1 = some (.map 0 0 (mapH m1)) := by
  have := p.d
  simp only [plH, upd_get]; grind
theorem pl_get2 {hA : Heap} {n1 n2 : Nat} {m1 m2 : KMap} : plH hA n1 n2 m1 m2 n2 = some (.map 0 0 (mapH m2)) := by
  simp only [plH, upd_get]; grind
theorem PlS.put1 {w : List Int} {sl : Int} {hA : Heap} {np n1 n2 : Nat} {m1 m2 m : KMap} (p : PlS w sl hA np n1 n2) : upd (plH hA n1 n2 m1 m2) n1 (.map 0 0 (mapH m)) = plH hA n1 n2 m m2 := by
  have := p.d
  funext q
  simp only [plH, upd_get]; grind
theorem pl_put2 {hA : Heap} {n1 n2 : Nat} {m1 m2 m : KMap} : upd (plH hA n1 n2 m1 m2) n2 (.map 0 0 (mapH m)) = plH hA n1 n2 m1 m := by
  funext q
  simp only [plH, upd_get]; grind
theorem pl_ne {hA : Heap} {n1 n2 k : Nat} {m1 m2 : KMap} (h : plH hA n1 n2 m1 m2 k = none) : ¬ k = n1 ∧ ¬ k = n2 ∧ hA k = none := by
  simp only [plH, upd_get] at h
  grind
theorem pl_upd {hA : Heap} {n1 n2 k : Nat} {m1 m2 : KMap} (o : HObj) (h1 : ¬ k = n1) (h2 : ¬ k = n2) : upd (plH hA n1 n2 m1 m2) k o = plH (upd hA k o) n1 n2 m1 m2 := by
  funext q
  simp only [plH, upd_get]; grind
theorem pl_at {hA : Heap} {n1 n2 k : Nat} {m1 m2 : KMap} (h1 : ¬ k = n1) (h2 : ¬ k = n2) : plH hA n1 n2 m1 m2 k = hA k := by
  simp only [plH, upd_get]; grind
theorem PlS.upd {w : List Int} {sl : Int} {hA : Heap} {np n1 n2 k : Nat} (p : PlS w sl hA np n1 n2) (h1 : ¬ k = n1) (h2 : ¬ k = n2) (h3 : hA k = none) (o : HObj) : PlS w sl (Hl.upd hA k o) np n1 n2 := by
  obtain ⟨d, z1, z2, hp⟩ := p
  refine ⟨d, ?_, ?_, ?_⟩ <;> simp only [upd_get] <;> grind
theorem pl_mono {hA hB : Heap} {n1 n2 : Nat} {m1 m2 : KMap} (h : hA.le hB) : (plH hA n1 n2 m1 m2).le (plH hB n1 n2 m1 m2) := Heap.le_both (Heap.le_both h)
theorem key_arr : KeyTy Try.prog 76 3 := by
  obtain ⟨i, hi⟩ := Option.isSome_iff_exists.1 (show (Try.prog.info? 2).isSome = true by kernel_rfl)
  exact keyTy_arr (by kernel_rfl) hi (by kernel_rfl) (by kernel_rfl)
attribute [go_sem] key_arr
@[go_sem] theorem int0_64' : int0 Try.prog 2 = true := by kernel_rfl
@[go_sem] def keep27 : List Nat := [0, 1, 4]
@[go_sem] def ib27 : List Nat := []
@[go_sem] def mk27 : Marks := fun _ => ([], .nil, [])
theorem newPlanner (w : List Int) (sl : Int) {h : Heap} : HFn Try.prog 27 [ints w, I sl] h fun r h' => ∃ hA np n1 n2, r = .op np 4 0 0 ∧ PlS w sl hA np n1 n2 ∧ h.le hA ∧ h' = plH hA n1 n2 [] [] := by
  refine fnHA 11 keep27 ib27 mk27 Try.func27 ?_
  simp (maxSteps := 1000000) -dsimp -implicitDefEqProofs only [go_sem, ↓reduceIte, keep27, ib27, mk27, Try.f27]
  intro n1 z1 n2 z2 np z3
  have hd : ¬ n1 = n2 := Ne.symm z2.1
  have h3 : ¬ np = n1 ∧ ¬ np = n2 ∧ h np = none := by
    grind
  exact ⟨_, Heap.le_refl _, upd h np (pnB w sl n1 n2), np, n1, n2, rfl, ⟨hd, by rw [upd_ne _ _ _ _ (Ne.symm h3.1)]; exact z1, by rw [upd_ne _ _ _ _ (Ne.symm h3.2.1)]; exact z2.2, upd_same ..⟩, Heap.le_upd h3.2.2 (Heap.le_refl _), by rw [← pl_upd _ h3.1 h3.2.1]; rfl⟩
@[go_sem] def keep28 : List Nat := [0, 1, 2, 3, 8, 9, 10, 11, 12, 13, 14, 15, 16, 17, 18, 23, 39, 45, 87]
@[go_sem] def ib28 : List Nat := []
@[go_sem] def mk28 : Marks := fun id => match id with | 6 => ([], .nil, []) | 17 => ([], .nil, []) | _ => ([], .nil, [])
def TbI (l : List (Nat × Nat × HVal)) (D : Nat → Bool) (τ : Tmps) : Prop := ∀ e ∈ l, D e.1 = true → tget τ e.2.1 = e.2.2
def BsI (l : List (Nat × HVal)) (τ : Tmps) : Prop := ∀ e ∈ l, tget τ e.1 = e.2
theorem TbI.put {l : List (Nat × Nat × HVal)} {D : Nat → Bool} {τ : Tmps} (h : TbI l D τ) {k t : Nat} {v : HVal} (hp : ∀ e ∈ l, (e.1 = k ∧ e.2.1 = t ∧ e.2.2 = v) ∨ (¬ e.1 = k ∧ ¬ e.2.1 = t)) : TbI l (fun j => j == k || D j) ((t, v) :: τ) := fun e he hd => by
  rcases hp e he with ⟨h1, h2, h3⟩ | ⟨h1, h2⟩
  · rw [h2, h3, tget, if_pos rfl]
  · rw [tget, if_neg (fun q => h2 q.symm)]
    refine h e he ?_
    simpa [h1] using hd
theorem TbI.skip {l : List (Nat × Nat × HVal)} {D : Nat → Bool} {τ : Tmps} (h : TbI l D τ) {k : Nat} (hp : ∀ e ∈ l, ¬ e.1 = k) : TbI l (fun j => j == k || D j) τ := fun e he hd => h e he (by simpa [hp e he] using hd)
theorem BsI.put {l : List (Nat × HVal)} {τ : Tmps} (h : BsI l τ) {t : Nat} {v : HVal} (hp : ∀ e ∈ l, ¬ e.1 = t) : BsI l ((t, v) :: τ) := fun e he => by
  rw [tget, if_neg (fun q => hp e he q.symm)]; exact h e he
/-- What the region of a look into the table leaves. -/
def tb6 (np n1 a b c : Nat) (x : HVal) (y : Bool) : List (Nat × Nat × HVal) := [(0, 31, .op np 4 0 0), (1, 32, .op np 4 0 0), (2, 33, .op np 4 0 2), (3, 34, .mp n1), (4, 35, .agg [I a, I b, I c]), (5, 36, .tup [x, .bool y]), (6, 30, .tup [x, .bool y]), (7, 37, x), (8, 38, .bool y), (9, 10, x), (10, 11, .bool y)]
def bs6 (np n9 a b c : Nat) : List (Nat × HVal) := [(0, .op np 4 0 0), (1, I a), (2, I b), (3, I c), (9, .op n9 3 0 0)]
/-- What the region in which the tables are written leaves. -/
def tb17 (np n1 n2 a b c : Nat) (u v : Int) (m1 m2 : KMap) : List (Nat × Nat × HVal) := [(0, 94, .op np 4 0 0), (1, 95, .op np 4 0 0), (2, 96, .op np 4 0 2), (3, 97, .mp n1), (4, 98, .agg [I a, I b, I c]), (5, 99, .op np 4 0 0), (6, 100, .op np 4 0 0), (7, 101, .op np 4 0 3), (8, 102, .mp n2), (9, 103, .agg [I a, I b, I c]), (10, 104, I u), (11, 105, I v), (12, 106, .tup [meR [(a : Int), (b : Int), (c : Int)] m1, I (midx [(a : Int), (b : Int), (c : Int)] m1 : Nat)]), (13, 107, I (midx [(a : Int), (b : Int), (c : Int)] m1 : Nat)), (15, 108, .tup [meR [(a : Int), (b : Int), (c : Int)] m2, I (midx [(a : Int), (b : Int), (c : Int)] m2 : Nat)]), (16, 109, I (midx [(a : Int), (b : Int), (c : Int)] m2 : Nat))]
def bs17 (np n9 : Nat) (u v : Int) : List (Nat × HVal) := [(0, .op np 4 0 0), (9, .op n9 3 0 0), (12, I u), (13, I v)]
def mX (D : Nat → Bool) (i j : Nat) (k : List Int) (v : HVal) (m : KMap) : KMap := if D j = true then mput k v m else if D i = true then mput k (meR k m) m else m
structure R17 (hB : Heap) (np n1 n2 n9 a b c : Nat) (u v : Int) (m1 m2 : KMap) (D : Nat → Bool) (τ : Tmps) (h : Heap) : Prop where
  hp : h = plH hB n1 n2 (mX D 12 14 [(a : Int), (b : Int), (c : Int)] (I u) m1) (mX D 15 17 [(a : Int), (b : Int), (c : Int)] (I v) m2)
  c1 : D 14 = true → D 12 = true
  c2 : D 17 = true → D 15 = true
  bs : BsI (bs17 np n9 u v) τ
  ts : TbI (tb17 np n1 n2 a b c u v m1 m2) D τ
theorem mX_ne {D : Nat → Bool} {i j q : Nat} {k : List Int} {v : HVal} {m : KMap} (h1 : i ≠ q) (h2 : j ≠ q) : mX (fun l => l == q || D l) i j k v m = mX D i j k v m := by simp [mX, h1, h2]
theorem mX_0 {D : Nat → Bool} {i j : Nat} {k : List Int} {v : HVal} {m : KMap} (h1 : D i = false) (c : D j = true → D i = true) : mX D i j k v m = m := by
  unfold mX
  rw [if_neg (fun q => by rw [c q] at h1; cases h1), if_neg (by rw [h1]; decide)]
theorem mX_1 {D : Nat → Bool} {i j : Nat} {k : List Int} {v : HVal} {m : KMap} (h1 : D i = true) (h2 : D j = false) : mX D i j k v m = mput k (meR k m) m := by
  unfold mX
  rw [if_neg (by rw [h2]; decide), if_pos h1]
theorem mX_i {D : Nat → Bool} {i j : Nat} {k : List Int} {v : HVal} {m : KMap} (h1 : D i = false) (c : D j = true → D i = true) (hij : j ≠ i) : mX (fun l => l == i || D l) i j k v m = mput k (meR k m) m :=
  mX_1 (by simp) (by cases e : D j with | false => simp [hij, e] | true => rw [c e] at h1; cases h1)
theorem mX_j {D : Nat → Bool} {i j : Nat} {k : List Int} {v : HVal} {m : KMap} : mX (fun l => l == j || D l) i j k v m = mput k v m := by simp [mX]
section
variable {hB : Heap} {np n1 n2 n9 a b c : Nat} {u v : Int} {m1 m2 : KMap} {D : Nat → Bool} {τ : Tmps} {h : Heap}
theorem R17.put (r : R17 hB np n1 n2 n9 a b c u v m1 m2 D τ h) {k t : Nat} {x : HVal} (hk : 12 ≠ k ∧ 14 ≠ k ∧ 15 ≠ k ∧ 17 ≠ k) (hp : ∀ e ∈ tb17 np n1 n2 a b c u v m1 m2, (e.1 = k ∧ e.2.1 = t ∧ e.2.2 = x) ∨ (¬ e.1 = k ∧ ¬ e.2.1 = t)) (hq : ∀ e ∈ bs17 np n9 u v, ¬ e.1 = t) :
    R17 hB np n1 n2 n9 a b c u v m1 m2 (fun j => j == k || D j) ((t, x) :: τ) h :=
  ⟨by rw [mX_ne hk.1 hk.2.1, mX_ne hk.2.2.1 hk.2.2.2]; exact r.hp, by simpa [hk.1, hk.2.1] using r.c1, by simpa [hk.2.2.1, hk.2.2.2] using r.c2, r.bs.put hq, r.ts.put hp⟩
theorem R17.s12 (r : R17 hB np n1 n2 n9 a b c u v m1 m2 D τ h) (h0 : D 12 = false) : R17 hB np n1 n2 n9 a b c u v m1 m2 (fun j => j == 12 || D j) ((106, .tup [meR [(a : Int), (b : Int), (c : Int)] m1, I (midx [(a : Int), (b : Int), (c : Int)] m1 : Nat)]) :: τ) (plH hB n1 n2 (mput [(a : Int), (b : Int), (c : Int)] (meR [(a : Int), (b : Int), (c : Int)] m1) m1) (mX D 15 17 [(a : Int), (b : Int), (c : Int)] (I v) m2)) :=
  ⟨by rw [mX_i h0 r.c1 (by decide), mX_ne (by decide) (by decide)], fun _ => by simp, by simpa using r.c2, r.bs.put (by simp [bs17]), r.ts.put (by simp [tb17])⟩
theorem R17.s14 (r : R17 hB np n1 n2 n9 a b c u v m1 m2 D τ h) (h0 : D 12 = true) : R17 hB np n1 n2 n9 a b c u v m1 m2 (fun j => j == 14 || D j) τ (plH hB n1 n2 (mput [(a : Int), (b : Int), (c : Int)] (I u) m1) (mX D 15 17 [(a : Int), (b : Int), (c : Int)] (I v) m2)) :=
  ⟨by rw [mX_j, mX_ne (by decide) (by decide)], fun _ => by simp [h0], by simpa using r.c2, r.bs, r.ts.skip (by simp [tb17])⟩
theorem R17.s15 (r : R17 hB np n1 n2 n9 a b c u v m1 m2 D τ h) (h0 : D 15 = false) : R17 hB np n1 n2 n9 a b c u v m1 m2 (fun j => j == 15 || D j) ((108, .tup [meR [(a : Int), (b : Int), (c : Int)] m2, I (midx [(a : Int), (b : Int), (c : Int)] m2 : Nat)]) :: τ) (plH hB n1 n2 (mX D 12 14 [(a : Int), (b : Int), (c : Int)] (I u) m1) (mput [(a : Int), (b : Int), (c : Int)] (meR [(a : Int), (b : Int), (c : Int)] m2) m2)) :=
  ⟨by rw [mX_i h0 r.c2 (by decide), mX_ne (by decide) (by decide)], by simpa using r.c1, fun _ => by simp, r.bs.put (by simp [bs17]), r.ts.put (by simp [tb17])⟩
theorem R17.s17 (r : R17 hB np n1 n2 n9 a b c u v m1 m2 D τ h) (h0 : D 15 = true) : R17 hB np n1 n2 n9 a b c u v m1 m2 (fun j => j == 17 || D j) τ (plH hB n1 n2 (mX D 12 14 [(a : Int), (b : Int), (c : Int)] (I u) m1) (mput [(a : Int), (b : Int), (c : Int)] (I v) m2)) :=
  ⟨by rw [mX_j, mX_ne (by decide) (by decide)], by simpa using r.c1, fun _ => by simp [h0], r.bs, r.ts.skip (by simp [tb17])⟩
end
theorem least_short {w : List Int} {hA : Heap} {np : Nat} (a b c : Nat) (h1 : b ≤ a + 1) (ha : a ≤ 7) {K : HVal → Heap → Prop} (hk : K (I (ls w a b c)) hA) : HFn Try.prog 28 [.op np 4 0 0, I a, I b, I c] hA K := by
  have w1 : IntKind.i64.wrap ((b : Int) - a) = (b : Int) - a := IntWalk.i64_in _ (by omega)
  have c1 : ((b : Int) - a ≤ 1) = True := eq_true (by omega)
  rw [ls_short h1] at hk
  refine fnHA 111 keep28 ib28 mk28 Try.func28 ?_
  simp (maxSteps := 1000000) -dsimp -implicitDefEqProofs only [go_sem, ↓reduceIte, keep28, ib28, mk28, Try.f28, w1, c1]
  exact ⟨_, Heap.le_refl _, hk⟩
theorem least {w : List Int} (hW : Wts w) (hwl : w.length ≤ 7) {sl : Int} : ∀ f, ∀ {hA : Heap} {np n1 n2 : Nat} {m1 m2 : KMap} (a b c : Nat), b - a ≤ f → a ≤ b → b ≤ w.length → c ≤ 8 → PlS w sl hA np n1 n2 → memoOK w m1 → keysLen 3 m2 →
    HFn Try.prog 28 [.op np 4 0 0, I a, I b, I c] (plH hA n1 n2 m1 m2) fun r h' => ∃ m1' m2', r = I (ls w a b c) ∧ memoOK w m1' ∧ keysLen 3 m2' ∧ h' = plH hA n1 n2 m1' m2' := by
  have hw : Wnn w := fun i => (wAt_in hW.1 i).1
  intro f
  induction f with
  | zero =>
    intro hA np n1 n2 m1 m2 a b c hf hab hb hc p k1 k2
    exact least_short a b c (by omega) (by omega) ⟨m1, m2, rfl, k1, k2, rfl⟩
  | succ f ih =>
    intro hA np n1 n2 m1 m2 a b c hf hab hb hc p k1 k2
    by_cases h1 : b ≤ a + 1
    · exact least_short a b c h1 (by omega) ⟨m1, m2, rfl, k1, k2, rfl⟩
    · have gp := p.getP (m1 := m1) (m2 := m2)
      have g1 := p.get1 (m1 := m1) (m2 := m2)
      have w1 : IntKind.i64.wrap ((b : Int) - a) = (b : Int) - a := IntWalk.i64_in _ (by omega)
      have c1 : ((b : Int) - a ≤ 1) = False := eq_false (by omega)
      by_cases h2 : c = 0
      · subst h2
        have c2 : (((0 : Nat) : Int) < 1) = True := eq_true (by decide)
        refine fnHA 111 keep28 ib28 mk28 Try.func28 ?_
        simp (maxSteps := 1000000) -dsimp -implicitDefEqProofs only [go_sem, ↓reduceIte, keep28, ib28, mk28, Try.f28, w1, c1, c2]
        exact ⟨_, Heap.le_refl _, m1, m2, by rw [ls_none (by omega)], k1, k2, rfl⟩
      · have c2 : ((c : Int) < 1) = False := eq_false (by omega)
        refine fnHA 111 keep28 ib28 mk28 Try.func28 ?_
        simp (maxSteps := 1000000) -dsimp -implicitDefEqProofs only [go_sem, ↓reduceIte, keep28, ib28, mk28, Try.f28, w1, c1, c2]
        refine ⟨rfl, fun n9 z9 => ?_⟩
        obtain ⟨a1, a2, a3⟩ := pl_ne z9
        rw [upd_upd, pl_upd _ a1 a2]
        have pB := p.upd a1 a2 a3 (.row 3 [[.v (I a), .v (I b), .v (I c)]])
        have gB9 : upd hA n9 (.row 3 [[.v (I a), .v (I b), .v (I c)]]) n9 = some (.row 3 [[.v (I a), .v (I b), .v (I c)]]) := upd_same _ _ _
        have hAB : hA.le (upd hA n9 (.row 3 [[.v (I a), .v (I b), .v (I c)]])) := Heap.le_upd a3 (Heap.le_refl _)
        generalize upd hA n9 (.row 3 [[.v (I a), .v (I b), .v (I c)]]) = hB at pB gB9 hAB ⊢
        clear gp g1 p z9
        have gp : ∀ m1 m2 : KMap, plH hB n1 n2 m1 m2 np = some (pnB w sl n1 n2) := fun _ _ => pB.getP
        have g1 : ∀ m1 m2 : KMap, plH hB n1 n2 m1 m2 n1 = some (.map 0 0 (mapH m1)) := fun _ _ => pB.get1
        have g9 : ∀ m1 m2 : KMap, plH hB n1 n2 m1 m2 n9 = some (.row 3 [[.v (I a), .v (I b), .v (I c)]]) := fun _ _ => (pl_at a1 a2).trans gB9
        have hk := k1.1
        have fin : ∀ {m1' m2' : KMap} {x : HVal}, x = I (ls w a b c) → memoOK w m1' → keysLen 3 m2' → ∃ g, g.le (plH hB n1 n2 m1' m2') ∧ ∃ m1' m2', x = I (ls w a b c) ∧ memoOK w m1' ∧ keysLen 3 m2' ∧ g = plH hA n1 n2 m1' m2' := fun h1 h2 h3 => ⟨_, pl_mono hAB, _, _, h1, h2, h3, rfl⟩
        have hlk : ∃ x y, lkR true (mget [(a : Int), (b : Int), (c : Int)] m1) = .tup [x, .bool y] ∧ (y = true → x = I (ls w a b c)) := by
          cases hm : mget [(a : Int), (b : Int), (c : Int)] m1 with
          | some x => exact ⟨x, true, rfl, fun _ => k1.2 a b c x hm⟩
          | none => exact ⟨_, false, rfl, fun q => by cases q⟩
        obtain ⟨x, y, hxy, hy⟩ := hlk
        refine HWp.regS (ib := ib28) mix (by kernel_rfl) keep28 (fun D τ h' => h' = plH hB n1 n2 m1 m2 ∧ BsI (bs6 np n9 a b c) τ ∧ TbI (tb6 np n1 a b c x y) D τ) ?_ ?_ ?_
        · exact ⟨rfl, by simp [BsI, bs6, tget], fun e _ q => by cases q⟩
        · rintro D τ _ ⟨rfl, hb6, ht6⟩
          have b0 : tget τ 0 = .op np 4 0 0 := hb6 (0, _) (by simp [bs6])
          have b9 : tget τ 9 = .op n9 3 0 0 := hb6 (9, _) (by simp [bs6])
          have nx : ∀ {k t : Nat} {v : HVal}, (∀ e ∈ tb6 np n1 a b c x y, (e.1 = k ∧ e.2.1 = t ∧ e.2.2 = v) ∨ (¬ e.1 = k ∧ ¬ e.2.1 = t)) → (∀ e ∈ bs6 np n9 a b c, ¬ e.1 = t) → BsI (bs6 np n9 a b c) ((t, v) :: τ) ∧ TbI (tb6 np n1 a b c x y) (fun j => j == k || D j) ((t, v) :: τ) := fun p q => ⟨hb6.put q, ht6.put p⟩
          refine ⟨fun hD he => ?_, fun hD he => ?_, fun hD he => ?_, fun hD he => ?_, fun hD he => ?_, fun hD he => ?_, fun hD he => ?_, fun hD he => ?_, fun hD he => ?_, fun hD he => ?_, fun hD he => ?_, trivial⟩
          · clear he
            simp (maxSteps := 1000000) -dsimp -implicitDefEqProofs only [go_sem, ↓reduceIte, keep28, ib28, mk28, Try.f28, b0]
            refine nx ?_ ?_ <;> simp [tb6, bs6]
          · simp [edgeI, Region.binds] at he
            simp (maxSteps := 1000000) -dsimp -implicitDefEqProofs only [go_sem, ↓reduceIte, keep28, ib28, mk28, Try.f28, ht6 (0, 31, .op np 4 0 0) (by simp [tb6]) he]
            refine nx ?_ ?_ <;> simp [tb6, bs6]
          · simp [edgeI, Region.binds] at he
            simp (maxSteps := 1000000) -dsimp -implicitDefEqProofs only [go_sem, ↓reduceIte, keep28, ib28, mk28, Try.f28, ht6 (1, 32, .op np 4 0 0) (by simp [tb6]) he]
            refine nx ?_ ?_ <;> simp [tb6, bs6]
          · simp [edgeI, Region.binds] at he
            simp (maxSteps := 1000000) -dsimp -implicitDefEqProofs only [go_sem, ↓reduceIte, keep28, ib28, mk28, Try.f28, ht6 (2, 33, .op np 4 0 2) (by simp [tb6]) he, gp, pnB]
            refine nx ?_ ?_ <;> simp [tb6, bs6]
          · clear he
            simp (maxSteps := 1000000) -dsimp -implicitDefEqProofs only [go_sem, ↓reduceIte, keep28, ib28, mk28, Try.f28, b9, g9]
            refine nx ?_ ?_ <;> simp [tb6, bs6]
          · simp [edgeI, Region.binds] at he
            simp (maxSteps := 1000000) -dsimp -implicitDefEqProofs only [go_sem, ↓reduceIte, keep28, ib28, mk28, Try.f28, ht6 (3, 34, .mp n1) (by simp [tb6]) he.1, ht6 (4, 35, .agg [I a, I b, I c]) (by simp [tb6]) he.2, g1, hk, hxy]
            refine nx ?_ ?_ <;> simp [tb6, bs6]
          · simp [edgeI, Region.binds] at he
            simp (maxSteps := 1000000) -dsimp -implicitDefEqProofs only [go_sem, ↓reduceIte, keep28, ib28, mk28, Try.f28, ht6 (5, 36, .tup [x, .bool y]) (by simp [tb6]) he]
            refine nx ?_ ?_ <;> simp [tb6, bs6]
          · simp [edgeI, Region.binds] at he
            simp (maxSteps := 1000000) -dsimp -implicitDefEqProofs only [go_sem, ↓reduceIte, keep28, ib28, mk28, Try.f28, ht6 (6, 30, .tup [x, .bool y]) (by simp [tb6]) he]
            refine nx ?_ ?_ <;> simp [tb6, bs6]
          · simp [edgeI, Region.binds] at he
            simp (maxSteps := 1000000) -dsimp -implicitDefEqProofs only [go_sem, ↓reduceIte, keep28, ib28, mk28, Try.f28, ht6 (6, 30, .tup [x, .bool y]) (by simp [tb6]) he]
            refine nx ?_ ?_ <;> simp [tb6, bs6]
          · simp [edgeI, Region.binds] at he
            simp (maxSteps := 1000000) -dsimp -implicitDefEqProofs only [go_sem, ↓reduceIte, keep28, ib28, mk28, Try.f28, ht6 (7, 37, x) (by simp [tb6]) he.1]
            refine nx ?_ ?_ <;> simp [tb6, bs6]
          · simp [edgeI, Region.binds] at he
            simp (maxSteps := 1000000) -dsimp -implicitDefEqProofs only [go_sem, ↓reduceIte, keep28, ib28, mk28, Try.f28, ht6 (8, 38, .bool y) (by simp [tb6]) he.1]
            refine nx ?_ ?_ <;> simp [tb6, bs6]
        · rintro D τ _ hD ⟨rfl, hb6, ht6⟩
          have b0 : tget τ 0 = .op np 4 0 0 := hb6 (0, _) (by simp [bs6])
          have b1 : tget τ 1 = I a := hb6 (1, _) (by simp [bs6])
          have b2 : tget τ 2 = I b := hb6 (2, _) (by simp [bs6])
          have b3 : tget τ 3 = I c := hb6 (3, _) (by simp [bs6])
          have b9 : tget τ 9 = .op n9 3 0 0 := hb6 (9, _) (by simp [bs6])
          have t10 : tget τ 10 = x := ht6 (9, 10, x) (by simp [tb6]) (hD 9 (by decide))
          have t11 : tget τ 11 = .bool y := ht6 (10, 11, .bool y) (by simp [tb6]) (hD 10 (by decide))
          show hwpF _ _ _ _ _ _ _ _ _ _ ()
          clear hb6 ht6 hD
          cases y with
          | true =>
            simp (maxSteps := 1000000) -dsimp -implicitDefEqProofs only [go_sem, ↓reduceIte, keep28, ib28, mk28, Try.f28, b0, b1, b2, b3, b9, t10, t11]
            exact fin (hy rfl) k1 k2
          | false =>
            have w2 : IntKind.i64.wrap ((a : Int) + 1) = ((a + 1 + 0 : Nat) : Int) := by rw [IntWalk.i64_in _ (by omega)]; omega
            simp (maxSteps := 1000000) -dsimp -implicitDefEqProofs only [go_sem, ↓reduceIte, keep28, ib28, mk28, Try.f28, b0, b1, b2, b3, b9, t10, t11, w2]
            have elt : ∀ i, i < w.length → w[i]? = some (wAt w i) := fun i hi => by
              unfold wAt; rw [List.getD_eq_getElem?_getD, List.getElem?_eq_getElem hi]; rfl
            have e3 : IntKind.i64.wrap ((c : Int) - 1) = ((c - 1 : Nat) : Int) := by rw [IntWalk.i64_in _ (by omega)]; omega
            refine loopA keep28 ib28 mk28 (fun z : Nat × Int × KMap × KMap => [(0, .op np 4 0 0), (1, I a), (2, I b), (3, I c), (9, .op n9 3 0 0), (12, I (bstF (fun j => ls w (a + 1 + j) b (c - 1)) (fun j => ls w a (a + 1 + j) c) (fun j => sumW w a (j + 1)) z.1)), (13, I z.2.1), (14, I (sumW w a z.1)), (15, I ((a + 1 + z.1 : Nat) : Int))]) (fun z => plH hB n1 n2 z.2.2.1 z.2.2.2) (fun z => z.1 ≤ b - a - 1 ∧ memoOK w z.2.2.1 ∧ keysLen 3 z.2.2.2) (fun z => b - a - 1 - z.1) (0, 0, m1, m2) ⟨by simp [SatL, tget, b0, b1, b2, b3, b9, bstF, sumW], Heap.le_refl _, Nat.zero_le _, k1, k2⟩ ?_
            clear k1 k2 hk hxy t10 t11 b0 b1 b2 b3 b9 τ D
            rintro ⟨k, sp, m1, m2⟩ ⟨hkl, k1, k2⟩
            simp only at hkl k1 k2 ⊢
            rcases Nat.lt_or_ge k (b - a - 1) with hlt | hge
            · have c3 : ((a + 1 + k : Nat) : Int) < (b : Int) := by omega
              have e1 : IntKind.i64.wrap (((a + 1 + k : Nat) : Int) - 1) = ((a + k : Nat) : Int) := by rw [IntWalk.i64_in _ (by omega)]; omega
              have ew := elt (a + k) (by omega)
              have hs := sumW_in hW.1 a (k + 1)
              have e2 : IntKind.i64.wrap (sumW w a k + wAt w (a + k)) = sumW w a (k + 1) := by
                rw [show sumW w a k + wAt w (a + k) = sumW w a (k + 1) from rfl, IntWalk.i64_in _ (by omega)]
              simp (maxSteps := 1000000) -dsimp -implicitDefEqProofs only [go_sem, ↓reduceIte, keep28, ib28, mk28, Try.f28, gp, pnB, c3, e1, ew, e2, e3, Int.toNat_natCast]
              refine ⟨by omega, HFnF.mkH (ih (a + 1 + k) b (c - 1) (by omega) (by omega) hb (by omega) pB k1 k2) ?_⟩
              rintro _ _ ⟨m1, m2, rfl, k1, k2, rfl⟩
              simp (maxSteps := 1000000) -dsimp -implicitDefEqProofs only [go_sem, ↓reduceIte, keep28, ib28, mk28, Try.f28]
              refine HFnF.mkH (ih a (a + 1 + k) c (by omega) (by omega) (by omega) hc pB k1 k2) ?_
              rintro _ _ ⟨m1, m2, rfl, k1, k2, rfl⟩
              have r1 := ls_up hW.1 hwl 7 7 (a + 1 + k) b (c - 1) (Nat.le_refl _) (by omega) hb
              have r2 := ls_up hW.1 hwl 7 7 a (a + 1 + k) c (Nat.le_refl _) (by omega) (by omega)
              have r3 := ls_neg hw (a + 1 + k) b (c - 1)
              have r4 := ls_neg hw a (a + 1 + k) c
              have hbs : ∀ X Y Z, bstF X Y Z (k + 1) = if 0 ≤ X k ∧ 0 ≤ Y k ∧ (bstF X Y Z k < 0 ∨ Z k + X k + Y k < bstF X Y Z k) then Z k + X k + Y k else bstF X Y Z k := fun _ _ _ => rfl
              have e5 : IntKind.i64.wrap (IntKind.i64.wrap (sumW w a (k + 1) + ls w (a + 1 + k) b (c - 1)) + ls w a (a + 1 + k) c) = sumW w a (k + 1) + ls w (a + 1 + k) b (c - 1) + ls w a (a + 1 + k) c := by rw [IntWalk.i64_in (sumW w a (k + 1) + _) (by omega), IntWalk.i64_in _ (by omega)]
              have e6 : IntKind.i64.wrap (((a + 1 + k : Nat) : Int) + 1) = ((a + 1 + (k + 1) : Nat) : Int) := by rw [IntWalk.i64_in _ (by omega)]; omega
              simp (maxSteps := 1000000) -dsimp -implicitDefEqProofs only [go_sem, ↓reduceIte, keep28, ib28, mk28, Try.f28, e5, e6]
              repeat' (with_reducible first | intro _ | refine And.intro ?_ ?_)
              all_goals (refine ⟨(k + 1, _, m1, m2), ⟨?_, rfl, rfl, rfl⟩, Heap.le_refl _, ⟨Nat.succ_le_of_lt hlt, k1, k2⟩, Nat.sub_lt_sub_left hlt (Nat.lt_succ_self k)⟩; rw [hbs]; split <;> omega)
            · obtain rfl : k = b - a - 1 := by omega
              have c3 : ¬ ((a + 1 + (b - a - 1) : Nat) : Int) < (b : Int) := by omega
              simp (maxSteps := 1000000) -dsimp -implicitDefEqProofs only [go_sem, ↓reduceIte, keep28, ib28, mk28, Try.f28, c3]
              rw [← ls_rec (by omega) (by omega)]
              generalize hu : ls w a b c = u at *
              refine HWp.regS (ib := ib28) mix (by kernel_rfl) keep28 (R17 hB np n1 n2 n9 a b c u sp m1 m2) ?_ ?_ ?_
              · exact ⟨rfl, fun q => (by cases q), fun q => (by cases q), by simp [BsI, bs17, tget], fun e _ q => (by cases q)⟩
              · rintro D τ h' hI
                obtain rfl := hI.hp
                have b0 : tget τ 0 = .op np 4 0 0 := hI.bs (0, _) (by simp [bs17])
                have b9 : tget τ 9 = .op n9 3 0 0 := hI.bs (9, _) (by simp [bs17])
                have b12 : tget τ 12 = I u := hI.bs (12, _) (by simp [bs17])
                have b13 : tget τ 13 = I sp := hI.bs (13, _) (by simp [bs17])
                have hk1 := k1.1
                refine ⟨fun hD he => ?_, fun hD he => ?_, fun hD he => ?_, fun hD he => ?_, fun hD he => ?_, fun hD he => ?_, fun hD he => ?_, fun hD he => ?_, fun hD he => ?_, fun hD he => ?_, fun hD he => ?_, fun hD he => ?_, fun hD he => ?_, fun hD he => ?_, fun hD he => ?_, fun hD he => ?_, fun hD he => ?_, fun hD he => ?_, trivial⟩
                · clear he
                  simp (maxSteps := 1000000) -dsimp -implicitDefEqProofs only [go_sem, ↓reduceIte, keep28, ib28, mk28, Try.f28, b0]
                  refine hI.put (by decide) ?_ ?_ <;> simp [tb17, bs17]
                · simp [edgeI, Region.binds] at he
                  simp (maxSteps := 1000000) -dsimp -implicitDefEqProofs only [go_sem, ↓reduceIte, keep28, ib28, mk28, Try.f28, hI.ts (0, 94, .op np 4 0 0) (by simp [tb17]) he]
                  refine hI.put (by decide) ?_ ?_ <;> simp [tb17, bs17]
                · simp [edgeI, Region.binds] at he
                  simp (maxSteps := 1000000) -dsimp -implicitDefEqProofs only [go_sem, ↓reduceIte, keep28, ib28, mk28, Try.f28, hI.ts (1, 95, .op np 4 0 0) (by simp [tb17]) he]
                  refine hI.put (by decide) ?_ ?_ <;> simp [tb17, bs17]
                · simp [edgeI, Region.binds] at he
                  simp (maxSteps := 1000000) -dsimp -implicitDefEqProofs only [go_sem, ↓reduceIte, keep28, ib28, mk28, Try.f28, hI.ts (2, 96, .op np 4 0 2) (by simp [tb17]) he, gp, pnB]
                  refine hI.put (by decide) ?_ ?_ <;> simp [tb17, bs17]
                · clear he
                  simp (maxSteps := 1000000) -dsimp -implicitDefEqProofs only [go_sem, ↓reduceIte, keep28, ib28, mk28, Try.f28, b9, g9]
                  refine hI.put (by decide) ?_ ?_ <;> simp [tb17, bs17]
                · clear he
                  simp (maxSteps := 1000000) -dsimp -implicitDefEqProofs only [go_sem, ↓reduceIte, keep28, ib28, mk28, Try.f28, b0]
                  refine hI.put (by decide) ?_ ?_ <;> simp [tb17, bs17]
                · simp [edgeI, Region.binds] at he
                  simp (maxSteps := 1000000) -dsimp -implicitDefEqProofs only [go_sem, ↓reduceIte, keep28, ib28, mk28, Try.f28, hI.ts (5, 99, .op np 4 0 0) (by simp [tb17]) he]
                  refine hI.put (by decide) ?_ ?_ <;> simp [tb17, bs17]
                · simp [edgeI, Region.binds] at he
                  simp (maxSteps := 1000000) -dsimp -implicitDefEqProofs only [go_sem, ↓reduceIte, keep28, ib28, mk28, Try.f28, hI.ts (6, 100, .op np 4 0 0) (by simp [tb17]) he]
                  refine hI.put (by decide) ?_ ?_ <;> simp [tb17, bs17]
                · simp [edgeI, Region.binds] at he
                  simp (maxSteps := 1000000) -dsimp -implicitDefEqProofs only [go_sem, ↓reduceIte, keep28, ib28, mk28, Try.f28, hI.ts (7, 101, .op np 4 0 3) (by simp [tb17]) he, gp, pnB]
                  refine hI.put (by decide) ?_ ?_ <;> simp [tb17, bs17]
                · clear he
                  simp (maxSteps := 1000000) -dsimp -implicitDefEqProofs only [go_sem, ↓reduceIte, keep28, ib28, mk28, Try.f28, b9, g9]
                  refine hI.put (by decide) ?_ ?_ <;> simp [tb17, bs17]
                · clear he
                  simp (maxSteps := 1000000) -dsimp -implicitDefEqProofs only [go_sem, ↓reduceIte, keep28, ib28, mk28, Try.f28, b12]
                  refine hI.put (by decide) ?_ ?_ <;> simp [tb17, bs17]
                · clear he
                  simp (maxSteps := 1000000) -dsimp -implicitDefEqProofs only [go_sem, ↓reduceIte, keep28, ib28, mk28, Try.f28, b13]
                  refine hI.put (by decide) ?_ ?_ <;> simp [tb17, bs17]
                · simp [edgeI, Region.binds] at he
                  rw [mX_0 hD hI.c1]
                  simp (maxSteps := 1000000) -dsimp -implicitDefEqProofs only [go_sem, ↓reduceIte, keep28, ib28, mk28, Try.f28, hI.ts (3, 97, .mp n1) (by simp [tb17]) he.1, hI.ts (4, 98, .agg [I a, I b, I c]) (by simp [tb17]) he.2.1, g1, hk1]
                  rw [pB.put1]
                  exact hI.s12 hD
                · simp [edgeI, Region.binds] at he
                  simp (maxSteps := 1000000) -dsimp -implicitDefEqProofs only [go_sem, ↓reduceIte, keep28, ib28, mk28, Try.f28, hI.ts (12, 106, .tup [meR [(a : Int), (b : Int), (c : Int)] m1, I (midx [(a : Int), (b : Int), (c : Int)] m1 : Nat)]) (by simp [tb17]) he]
                  refine hI.put (by decide) ?_ ?_ <;> simp [tb17, bs17]
                · simp [edgeI, Region.binds] at he
                  rw [mX_1 (he.2.2.2.1) hD]
                  simp (maxSteps := 1000000) -dsimp -implicitDefEqProofs only [go_sem, ↓reduceIte, keep28, ib28, mk28, Try.f28, hI.ts (3, 97, .mp n1) (by simp [tb17]) he.1, hI.ts (13, 107, I (midx [(a : Int), (b : Int), (c : Int)] m1 : Nat)) (by simp [tb17]) he.2.1, hI.ts (10, 104, I u) (by simp [tb17]) he.2.2.1, g1]
                  refine ⟨midx_lt _ _ _, ?_⟩
                  rw [mset_mput, pB.put1]
                  exact hI.s14 he.2.2.2.1
                · simp [edgeI, Region.binds] at he
                  rw [mX_0 hD hI.c2]
                  simp (maxSteps := 1000000) -dsimp -implicitDefEqProofs only [go_sem, ↓reduceIte, keep28, ib28, mk28, Try.f28, hI.ts (8, 102, .mp n2) (by simp [tb17]) he.1, hI.ts (9, 103, .agg [I a, I b, I c]) (by simp [tb17]) he.2.1, pl_get2, k2]
                  rw [pl_put2]
                  exact hI.s15 hD
                · simp [edgeI, Region.binds] at he
                  simp (maxSteps := 1000000) -dsimp -implicitDefEqProofs only [go_sem, ↓reduceIte, keep28, ib28, mk28, Try.f28, hI.ts (15, 108, .tup [meR [(a : Int), (b : Int), (c : Int)] m2, I (midx [(a : Int), (b : Int), (c : Int)] m2 : Nat)]) (by simp [tb17]) he]
                  refine hI.put (by decide) ?_ ?_ <;> simp [tb17, bs17]
                · simp [edgeI, Region.binds] at he
                  rw [mX_1 (he.2.2.2.1) hD]
                  simp (maxSteps := 1000000) -dsimp -implicitDefEqProofs only [go_sem, ↓reduceIte, keep28, ib28, mk28, Try.f28, hI.ts (8, 102, .mp n2) (by simp [tb17]) he.1, hI.ts (16, 109, I (midx [(a : Int), (b : Int), (c : Int)] m2 : Nat)) (by simp [tb17]) he.2.1, hI.ts (11, 105, I sp) (by simp [tb17]) he.2.2.1, pl_get2]
                  refine ⟨midx_lt _ _ _, ?_⟩
                  rw [mset_mput, pl_put2]
                  exact hI.s17 he.2.2.2.1
              · rintro D τ h' hD hI
                obtain rfl := hI.hp
                have b12 : tget τ 12 = I u := hI.bs (12, _) (by simp [bs17])
                have h14 : D 14 = true := hD 14 (by decide)
                have h17 : D 17 = true := hD 17 (by decide)
                show hwpF _ _ _ _ _ _ _ _ _ _ ()
                rw [show mX D 12 14 [(a : Int), (b : Int), (c : Int)] (I u) m1 = mput [(a : Int), (b : Int), (c : Int)] (I u) m1 from if_pos h14, show mX D 15 17 [(a : Int), (b : Int), (c : Int)] (I sp) m2 = mput [(a : Int), (b : Int), (c : Int)] (I sp) m2 from if_pos h17]
                clear hI hD
                simp (maxSteps := 1000000) -dsimp -implicitDefEqProofs only [go_sem, ↓reduceIte, keep28, ib28, mk28, Try.f28, b12]
                have k3 := memo_put k1 a b c
                rw [hu] at k3
                obtain ⟨g, q1, m1', m2', -, q2⟩ := fin (x := I u) rfl k3 (keysLen_put (k := [(a : Int), (b : Int), (c : Int)]) k2 rfl (I sp))
                exact ⟨g, q1, m1', m2', q2⟩
@[go_sem] def keep12 : List Nat := [0, 1, 4, 5, 6, 7, 12, 22]
@[go_sem] def ib12 : List Nat := []
@[go_sem] def mk12 : Marks := fun _ => ([], .nil, [])
theorem LeastCost (w : List Int) (hW : Wts w) (hwl : w.length ≤ 7) (sl : Nat) (hs : sl ≤ 8) {h : Heap} : HFn Try.prog 12 [ints w, I sl] h fun r h' => r = .tup [I (if ls w 0 w.length sl < 0 then 0 else ls w 0 w.length sl), I (if ls w 0 w.length sl < 0 then 4 else 0)] ∧ h' = h := by
  have hml : w.length ≤ 9223372036854775807 := by omega
  refine fnHA 24 keep12 ib12 mk12 Try.func12 ?_
  simp (maxSteps := 1000000) -dsimp -implicitDefEqProofs only [go_sem, ↓reduceIte, keep12, ib12, mk12, Try.f12]
  refine HFnF.mk (isCosted w sl) ?_
  rw [if_neg (not_not_intro hW), if_neg (by omega)]
  simp (maxSteps := 1000000) -dsimp -implicitDefEqProofs only [go_sem, ↓reduceIte, keep12, ib12, mk12, Try.f12]
  refine HFnF.mkH (newPlanner w sl) ?_
  rintro _ _ ⟨hA, np, n1, n2, rfl, p, hle, rfl⟩
  simp (maxSteps := 1000000) -dsimp -implicitDefEqProofs only [go_sem, ↓reduceIte, keep12, ib12, mk12, Try.f12, hml]
  refine HFnF.mkH (least hW hwl w.length 0 w.length sl (by omega) (by omega) (Nat.le_refl _) hs p (memo_nil w) (keysLen_nil 3)) ?_
  rintro _ _ ⟨m1', m2', rfl, -, -, rfl⟩
  have hfin : h.le (plH hA n1 n2 m1' m2') := fun q => by
    have := hle q; have := hle n1; have := hle n2; have := p.z1; have := p.z2
    simp only [plH, upd_get]
    grind
  by_cases h0 : ls w 0 w.length sl < 0
  · rw [if_pos h0, if_pos h0]
    simp (maxSteps := 1000000) -dsimp -implicitDefEqProofs only [go_sem, ↓reduceIte, keep12, ib12, mk12, Try.f12, h0]
    exact ⟨_, hfin, rfl⟩
  · rw [if_neg h0, if_neg h0]
    simp (maxSteps := 1000000) -dsimp -implicitDefEqProofs only [go_sem, ↓reduceIte, keep12, ib12, mk12, Try.f12, h0]
    exact ⟨_, hfin, rfl⟩
/-- A source of choices in its box. -/
def srcB (c : List Int) (a : Nat) (sd : Int) : HObj := .row 3 [[.v (.sl 1 (c.map fun n => [.int .u8 n]) false), .v (I a), .v (.int .u64 sd)]]
theorem and255 (x : Int) : (0 : Int) ≤ ((BitVec.ofInt 64 x &&& BitVec.ofInt 64 255).toNat : Int) ∧ ((BitVec.ofInt 64 x &&& BitVec.ofInt 64 255).toNat : Int) ≤ 255 := by
  have h : (BitVec.ofInt 64 x &&& BitVec.ofInt 64 255).toNat ≤ 255 := by
    rw [BitVec.toNat_and]
    exact Nat.le_trans Nat.and_le_right (by decide)
  omega
@[go_sem] def keep35 : List Nat := [0, 2, 3, 13, 53]
@[go_sem] def ib35 : List Nat := []
@[go_sem] def mk35 : Marks := fun id => match id with | 2 => ([3, 7], (.op 0 (.op 1 (.op 2 (.op 4 (.op 5 (.op 6 (.op 3 (.op 7 (.op 8 (.op 9 .nil)))))))))), []) | 3 => ([3, 7, 9], (.op 0 (.op 1 (.op 2 (.op 4 (.op 5 (.op 6 (.op 3 (.op 7 (.op 8 (.op 9 (.op 10 (.op 11 .nil)))))))))))), []) | 6 => ([3, 7], (.op 0 (.op 1 (.op 2 (.op 4 (.op 5 (.op 6 (.op 3 (.op 7 (.op 8 (.op 9 .nil)))))))))), []) | _ => ([], .nil, [])
set_option maxRecDepth 100000 in
theorem nextH {ns : Nat} {c : List Int} (hc : ∀ x ∈ c, InB x) (hl : c.length ≤ 4096) {a : Nat} (ha : a ≤ 1000000000) {sd : Int} {g : Heap} (hg : g ns = some (srcB c a sd)) :
    HFn Try.prog 35 [.op ns 3 0 0] g fun r h' => ∃ x sd', r = I x ∧ 0 ≤ x ∧ x ≤ 255 ∧ h' = upd g ns (srcB c (a + 1) sd') := by
  have w1 : IntKind.i64.wrap ((a : Int) + 1) = ((a + 1 : Nat) : Int) := by rw [IntWalk.i64_in _ (by omega)]; omega
  unfold srcB at hg
  rcases Nat.lt_or_ge a c.length with hlt | hge
  · have ea : c[a]? = some c[a] := List.getElem?_eq_getElem hlt
    obtain ⟨b0, b1⟩ := hc _ (List.getElem_mem hlt)
    generalize c[a] = x at ea b0 b1
    have w2 : IntKind.i64.wrap x = x := IntWalk.i64_in _ (by omega)
    have c1 : (a < c.length) = True := eq_true hlt
    have c2 : (a + 1 ≤ c.length) = True := eq_true hlt
    refine fnHA 62 keep35 ib35 mk35 Try.func35 ?_
    simp (maxSteps := 1000000) -dsimp -implicitDefEqProofs only [go_sem, ↓reduceIte, keep35, ib35, mk35, Try.f35, hg, w1, Option.toArray_none, Option.toArray_some, List.filterMap_cons, List.filterMap_nil, List.elem_cons_self, List.nil_append, List.append_nil, List.toList_toArray, ea, c1, c2, w2]
    rw [upd_upd]
    exact ⟨_, Heap.le_refl _, x, _, rfl, b0, b1, rfl⟩
  · have c1 : (a < c.length) = False := eq_false (by omega)
    have c2 : (a + 1 ≤ c.length) = False := eq_false (by omega)
    refine fnHA 62 keep35 ib35 mk35 Try.func35 ?_
    simp (maxSteps := 1000000) -dsimp -implicitDefEqProofs only [go_sem, ↓reduceIte, keep35, ib35, mk35, Try.f35, hg, w1, Option.toArray_none, Option.toArray_some, List.filterMap_cons, List.filterMap_nil, List.elem_cons_self, List.nil_append, List.append_nil, List.toList_toArray, c1, c2]
    rw [upd_upd]
    generalize (IntKind.u64.wrap _ : Int) = sd2
    obtain ⟨b0, b1⟩ := and255 (sd2.fdiv (2 ^ min (Int.toNat 40) 64))
    refine ⟨_, Heap.le_refl _, _, sd2, rfl, ?_, ?_, rfl⟩
    · rw [show IntKind.u64.bits = 64 from rfl, IntWalk.u64_in _ (by omega), IntWalk.i64_in _ (by omega)]; exact b0
    · rw [show IntKind.u64.bits = 64 from rfl, IntWalk.u64_in _ (by omega), IntWalk.i64_in _ (by omega)]; exact b1
@[go_sem] def keep24 : List Nat := [0, 1, 4, 5, 7, 11]
@[go_sem] def ib24 : List Nat := []
@[go_sem] def mk24 : Marks := fun _ => ([], .nil, [])
set_option maxRecDepth 100000 in
theorem pickH {ns : Nat} {c : List Int} (hc : ∀ x ∈ c, InB x) (hl : c.length ≤ 4096) {a : Nat} (ha : a ≤ 900000000) {sd : Int} (n : Int) (hn : n ≤ 100000) {g : Heap} (hg : g ns = some (srcB c a sd)) :
    HFn Try.prog 24 [.op ns 3 0 0, I n] g fun r h' => ∃ x a' sd', r = I x ∧ 0 ≤ x ∧ (1 ≤ n → x < n) ∧ (n ≤ 1 → x = 0) ∧ (a ≤ a' ∧ a' ≤ a + 2) ∧ h' = upd g ns (srcB c a' sd') := by
  by_cases h1 : n ≤ 1
  · refine fnHA 20 keep24 ib24 mk24 Try.func24 ?_
    simp (maxSteps := 1000000) -dsimp -implicitDefEqProofs only [go_sem, ↓reduceIte, keep24, ib24, mk24, Try.f24, h1]
    exact ⟨g, Heap.le_refl _, 0, a, sd, rfl, Int.le_refl _, fun h => by omega, rfl, by omega, (upd_self hg).symm⟩
  · refine fnHA 20 keep24 ib24 mk24 Try.func24 ?_
    simp (maxSteps := 1000000) -dsimp -implicitDefEqProofs only [go_sem, ↓reduceIte, keep24, ib24, mk24, Try.f24, h1]
    refine HFnF.mkH (nextH hc hl (by omega) hg) ?_
    rintro r_ h' ⟨x, sd', rfl, x0, x1, rfl⟩
    simp (maxSteps := 1000000) -dsimp -implicitDefEqProofs only [go_sem, ↓reduceIte, keep24, ib24, mk24, Try.f24]
    refine ⟨fun h2 => ?_, fun h2 => ?_⟩
    · refine HFnF.mkH (nextH hc hl (a := a + 1) (by omega) (upd_same ..)) ?_
      rintro r_ h' ⟨y, sd2, rfl, y0, y1, rfl⟩
      simp (maxSteps := 1000000) -dsimp -implicitDefEqProofs only [go_sem, ↓reduceIte, keep24, ib24, mk24, Try.f24]
      have e1 : IntKind.i64.wrap (IntKind.i64.wrap (x * 256) + y) = x * 256 + y := by rw [IntWalk.i64_in (x * 256) (by omega), IntWalk.i64_in _ (by omega)]
      have e2 : (x * 256 + y).tmod n = (x * 256 + y) % n := Int.tmod_eq_emod_of_nonneg (by omega)
      have e3 := Int.emod_nonneg (x * 256 + y) (show n ≠ 0 by omega)
      have e4 := Int.emod_lt_of_pos (x * 256 + y) (show 0 < n by omega)
      rw [e1, e2, upd_upd]
      exact ⟨by omega, _, Heap.le_refl _, _, a + 1 + 1, sd2, rfl, e3, fun _ => e4, fun q => absurd q h1, by omega, rfl⟩
    · have e2 : x.tmod n = x % n := Int.tmod_eq_emod_of_nonneg x0
      have e3 := Int.emod_nonneg x (show n ≠ 0 by omega)
      have e4 := Int.emod_lt_of_pos x (show 0 < n by omega)
      rw [e2]
      exact ⟨by omega, _, Heap.le_refl _, _, a + 1, sd', rfl, e3, fun _ => e4, fun q => absurd q h1, by omega, rfl⟩
@[go_sem] def keep25 : List Nat := [0, 1, 4]
@[go_sem] def ib25 : List Nat := []
@[go_sem] def mk25 : Marks := fun _ => ([], .nil, [])
set_option maxRecDepth 100000 in
theorem oneH {ns : Nat} {c : List Int} (hc : ∀ x ∈ c, InB x) (hl : c.length ≤ 4096) {a : Nat} (ha : a ≤ 900000000) {sd : Int} (n : Int) (hn : n ≤ 100000) {g : Heap} (hg : g ns = some (srcB c a sd)) :
    HFn Try.prog 25 [.op ns 3 0 0, I n] g fun r h' => ∃ x a' sd', r = .bool x ∧ (a ≤ a' ∧ a' ≤ a + 2) ∧ h' = upd g ns (srcB c a' sd') := by
  refine fnHA 9 keep25 ib25 mk25 Try.func25 ?_
  simp (maxSteps := 1000000) -dsimp -implicitDefEqProofs only [go_sem, ↓reduceIte, keep25, ib25, mk25, Try.f25]
  refine HFnF.mkH (pickH hc hl ha n hn hg) ?_
  rintro r_ h' ⟨x, a', sd', rfl, -, -, -, ha', rfl⟩
  simp (maxSteps := 1000000) -dsimp -implicitDefEqProofs only [go_sem, ↓reduceIte, keep25, ib25, mk25, Try.f25]
  exact ⟨_, Heap.le_refl _, _, a', sd', rfl, ha', rfl⟩
@[go_sem] def keep26 : List Nat := [0, 1, 4]
@[go_sem] def ib26 : List Nat := []
@[go_sem] def mk26 : Marks := fun _ => ([], .nil, [])
set_option maxRecDepth 100000 in
theorem amongH {ns : Nat} {c : List Int} (hc : ∀ x ∈ c, InB x) (hl : c.length ≤ 4096) {a : Nat} (ha : a ≤ 900000000) {sd : Int} (l : List Int) {bz : Bool} (h1 : 1 ≤ l.length) (h2 : l.length ≤ 1000) {g : Heap} (hg : g ns = some (srcB c a sd)) :
    HFn Try.prog 26 [.op ns 3 0 0, .sl 1 (l.map fun s => [I s]) bz] g fun r h' => ∃ x a' sd', r = I x ∧ x ∈ l ∧ (a ≤ a' ∧ a' ≤ a + 2) ∧ h' = upd g ns (srcB c a' sd') := by
  refine fnHA 12 keep26 ib26 mk26 Try.func26 ?_
  simp (maxSteps := 1000000) -dsimp -implicitDefEqProofs only [go_sem, ↓reduceIte, keep26, ib26, mk26, Try.f26]
  intro _
  refine HFnF.mkH (pickH hc hl ha l.length (by omega) hg) ?_
  rintro r_ h' ⟨x, a', sd', rfl, x0, x1, -, ha', rfl⟩
  have x1 := x1 (by omega)
  obtain ⟨k, rfl⟩ : ∃ k : Nat, x = k := ⟨x.toNat, by omega⟩
  have ek : l[k]? = some l[k] := List.getElem?_eq_getElem (by omega)
  simp (maxSteps := 1000000) -dsimp -implicitDefEqProofs only [go_sem, ↓reduceIte, keep26, ib26, mk26, Try.f26, ek]
  exact ⟨by omega, _, Heap.le_refl _, _, a', sd', rfl, List.getElem_mem _, ha', rfl⟩
@[go_sem] def keep22 : List Nat := [0, 2]
@[go_sem] def ib22 : List Nat := []
@[go_sem] def mk22 : Marks := fun _ => ([], .nil, [])
theorem fromH (c : List Int) {g : Heap} : HFn Try.prog 22 [.sl 1 (c.map fun n => [.int .u8 n]) false] g fun r h' => ∃ ns, r = .op ns 3 0 0 ∧ g ns = none ∧ h' = upd g ns (srcB c 0 0) := by
  refine fnHA 6 keep22 ib22 mk22 Try.func22 ?_
  simp (maxSteps := 1000000) -dsimp -implicitDefEqProofs only [go_sem, ↓reduceIte, keep22, ib22, mk22, Try.f22]
  intro n q
  exact ⟨_, Heap.le_refl _, n, rfl, q, rfl⟩
@[go_sem] def keep9 : List Nat := [0, 2]
@[go_sem] def ib9 : List Nat := []
@[go_sem] def mk9 : Marks := fun _ => ([], .nil, [])
theorem f6big (c : List Int) : Fn0 Try.prog 9 [.sl 1 (c.map fun n => [.int .u8 n]) false] (.bool (decide (4096 < c.length))) := by
  refine fn0A 6 keep9 ib9 mk9 Try.func9 fun h => ?_
  simp (maxSteps := 1000000) -dsimp -implicitDefEqProofs only [go_sem, ↓reduceIte, keep9, ib9, mk9, Try.f9]
  exact fun _ => decide_eq_decide.2 (by omega)
def rowI (l : List Int) : HObj := .row 1 ((l.map fun n => [I n]).map (List.map .v))
theorem rowI_snoc (l : List Int) (x : Int) : rowI (l ++ [x]) = .row 1 (((l.map fun n => [I n]).map (List.map Cell.v)) ++ [[.v (I x)]]) := by simp [rowI]
theorem shift_ints {h h' : Heap} {n : Nat} (l : List Int) (h0 : h n = none) (hl : (upd h n (.row 1 ((l.map fun n => [I n]).map (List.map .v)))).le h') {len : Nat} (e : len = l.length) : Shift (.os n 1 0 len) h' (sls 1 (fun n => [I n]) l) h :=
  shift_row (l.map fun n => [I n]) h0 hl len (by rw [List.length_map]; exact e)
@[go_sem] def keep23 : List Nat := [0, 2, 3, 4, 5, 6, 7, 11, 20, 24, 28, 42]
@[go_sem] def ib23 : List Nat := [13, 17, 30, 34, 49]
@[go_sem] def mk23 : Marks := fun _ => ([], .nil, [])
set_option maxRecDepth 100000 in
theorem drawW {ns : Nat} {c : List Int} (hc : ∀ x ∈ c, InB x) (hl : c.length ≤ 4096) {B : Heap} (hB : B ns = none) {a : Nat} (ha : a ≤ 1000) {sd : Int} :
    HFn Try.prog 23 [.op ns 3 0 0] (upd B ns (srcB c a sd)) fun r h' => ∃ l a' sd', l.length ≤ 41 ∧ r = ints l ∧ (a ≤ a' ∧ a' ≤ a + 1000) ∧ h' = upd B ns (srcB c a' sd') := by
  refine fnKA 53 keep23 ib23 mk23 Try.func23 ?_
  simp (maxSteps := 1000000) -dsimp -implicitDefEqProofs only [go_sem, ↓reduceIte, keep23, ib23, mk23, Try.f23]
  refine HFnF.mkH (pickH hc hl (by omega) 8 (by omega) (upd_same ..)) ?_
  rintro r_ h' ⟨n, a1, sd1, rfl, n0, n1, -, ha1, rfl⟩
  have n1 := n1 (by decide)
  rw [upd_upd]
  simp (maxSteps := 1000000) -dsimp -implicitDefEqProofs only [go_sem, ↓reduceIte, keep23, ib23, mk23, Try.f23]
  refine HFnF.mkH (oneH hc hl (by omega) 16 (by omega) (upd_same ..)) ?_
  rintro r_ h' ⟨b, a2, sd2, rfl, ha2, rfl⟩
  rw [upd_upd]
  cases b
  · simp (maxSteps := 1000000) -dsimp -implicitDefEqProofs only [go_sem, ↓reduceIte, keep23, ib23, mk23, Try.f23]
    refine HFnF.mkH (pickH hc hl (by omega) 3 (by omega) (upd_same ..)) ?_
    rintro r_ h' ⟨kd, a3, sd3, rfl, -, -, -, ha3, rfl⟩
    rw [upd_upd]
    simp (maxSteps := 1000000) -dsimp -implicitDefEqProofs only [go_sem, ↓reduceIte, keep23, ib23, mk23, Try.f23]
    refine ⟨by decide, ?_⟩
    refine loopA keep23 ib23 mk23 (fun x : List Int × Option Nat × Nat × Int => [(0, .op ns 3 0 0), (3, I n), (4, I kd), (5, oval 1 x.1.length x.2.1), (6, I x.1.length)]) (fun x => upd (oheap B (rowI x.1) x.2.1) ns (srcB c x.2.2.1 x.2.2.2)) (fun x => (x.1.length : Int) ≤ n ∧ oside B x.1 x.2.1 ∧ (∀ m, x.2.1 = some m → ¬ m = ns) ∧ (a3 ≤ x.2.2.1 ∧ x.2.2.1 ≤ a3 + 4 * x.1.length)) (fun x => n.toNat - x.1.length) ([], none, a3, sd3) ⟨by simp [SatL, tget, oval], Heap.le_refl _, by simpa using n0, rfl, (fun m e => by cases e), by simp⟩ ?_
    rintro ⟨l, o, a4, sd4⟩ ⟨hll, hos, hon, ha4⟩
    simp only at hll hos hon ha4 ⊢
    by_cases hlt : (l.length : Int) < n
    · by_cases k1 : kd = 1
      · subst k1
        have k2 : ¬ (1 : Int) = 2 := by decide
        simp (maxSteps := 1000000) -dsimp -implicitDefEqProofs only [go_sem, ↓reduceIte, keep23, ib23, mk23, Try.f23, hlt]
        refine HFnF.mkH (pickH hc hl (by omega) 10 (by omega) (upd_same ..)) ?_
        rintro r_ h' ⟨x, a5, sd5, rfl, -, -, -, ha5, rfl⟩
        rw [upd_upd]
        simp (maxSteps := 1000000) -dsimp -implicitDefEqProofs only [go_sem, ↓reduceIte, keep23, ib23, mk23, Try.f23, k2]
        refine ⟨by decide, by decide, ?_⟩
        cases o with
        | none =>
          rw [oside_none] at hos
          subst hos
          simp (maxSteps := 1000000) -dsimp -implicitDefEqProofs only [go_sem, ↓reduceIte, keep23, ib23, mk23, Try.f23, oval_none, oheap_none, k2]
          refine ⟨by decide, fun n_ ⟨d1, z1⟩ => ⟨([x], some n_, a5, sd5), ⟨rfl, IntWalk.i64_in _ (by omega)⟩, ?_, ⟨by simp only [List.length_nil, List.length_singleton] at hlt ⊢; omega, z1, fun m e => by cases e; exact d1, by show a3 ≤ a5 ∧ a5 ≤ a3 + 4 * 1; simp only [List.length_nil] at ha4; omega⟩, by simp only [List.length_nil, List.length_singleton] at hlt ⊢; omega⟩⟩
          simp only [oheap_some]
          rw [upd_swap d1]
          exact Heap.le_refl _
        | some m0 =>
          rw [oside_some] at hos
          have k1 := hon m0 rfl
          have d_m0_ns : ¬ m0 = ns := k1
          have d_ns_m0 : ¬ ns = m0 := Ne.symm d_m0_ns
          have e_m0_ns : (m0 = ns) = False := eq_false d_m0_ns
          have e_ns_m0 : (ns = m0) = False := eq_false d_ns_m0
          simp (maxSteps := 1000000) -dsimp -implicitDefEqProofs only [go_sem, ↓reduceIte, keep23, ib23, mk23, Try.f23, oval_some, oheap_some, e_m0_ns, e_ns_m0, upd_ne, upd_get, rowI, k2]
          refine ⟨by decide, Nat.le_refl _, by omega, by omega, fun b hb => ?_⟩
          have b1 : ¬ b = ns := by grind
          have b2 : ¬ b = m0 := by grind
          have b3 : B b = none := by grind
          have hstep : (l ++ [x]).length = l.length + 1 := by simp
          refine ⟨(l ++ [x], some b, a5, sd5), ⟨by rw [hstep]; rfl, by rw [hstep, IntWalk.i64_in _ (by omega)]; rfl⟩, ?_, ⟨by rw [hstep]; omega, b3, fun m e => by cases e; exact b1, by show a3 ≤ a5 ∧ a5 ≤ a3 + 4 * (l ++ [x]).length; rw [hstep]; omega⟩, by show n.toNat - (l ++ [x]).length < n.toNat - l.length; rw [hstep]; omega⟩
          simp only [oheap_some]
          have hr := rowI_snoc l x
          unfold rowI at hr
          rw [List.take_of_length_le (by simp), hr]
          intro q_
          simp only [upd_get]
          grind
      · by_cases k2 : kd = 2
        · subst k2
          simp (maxSteps := 1000000) -dsimp -implicitDefEqProofs only [go_sem, ↓reduceIte, keep23, ib23, mk23, Try.f23, hlt, k1]
          refine ⟨by decide, by decide, HFnF.mkH (amongH hc hl (by omega) [0, 1, 3, 1000, 100, 17] (by decide) (by decide) (upd_same ..)) ?_⟩
          rintro r_ h' ⟨x, a5, sd5, rfl, -, ha5, rfl⟩
          rw [upd_upd]
          simp (maxSteps := 1000000) -dsimp -implicitDefEqProofs only [go_sem, ↓reduceIte, keep23, ib23, mk23, Try.f23]
          refine ⟨by decide, by decide, ?_⟩
          cases o with
          | none =>
            rw [oside_none] at hos
            subst hos
            simp (maxSteps := 1000000) -dsimp -implicitDefEqProofs only [go_sem, ↓reduceIte, keep23, ib23, mk23, Try.f23, oval_none, oheap_none, hlt]
            refine ⟨by decide, fun n_ ⟨d1, z1⟩ => ⟨([x], some n_, a5, sd5), ⟨rfl, IntWalk.i64_in _ (by omega)⟩, ?_, ⟨by simp only [List.length_nil, List.length_singleton] at hlt ⊢; omega, z1, fun m e => by cases e; exact d1, by show a3 ≤ a5 ∧ a5 ≤ a3 + 4 * 1; simp only [List.length_nil] at ha4; omega⟩, by simp only [List.length_nil, List.length_singleton] at hlt ⊢; omega⟩⟩
            simp only [oheap_some]
            rw [upd_swap d1]
            exact Heap.le_refl _
          | some m0 =>
            rw [oside_some] at hos
            have k1 := hon m0 rfl
            have d_m0_ns : ¬ m0 = ns := k1
            have d_ns_m0 : ¬ ns = m0 := Ne.symm d_m0_ns
            have e_m0_ns : (m0 = ns) = False := eq_false d_m0_ns
            have e_ns_m0 : (ns = m0) = False := eq_false d_ns_m0
            simp (maxSteps := 1000000) -dsimp -implicitDefEqProofs only [go_sem, ↓reduceIte, keep23, ib23, mk23, Try.f23, oval_some, oheap_some, e_m0_ns, e_ns_m0, upd_ne, upd_get, rowI, hlt]
            refine ⟨by decide, Nat.le_refl _, by omega, by omega, fun b hb => ?_⟩
            have b1 : ¬ b = ns := by grind
            have b2 : ¬ b = m0 := by grind
            have b3 : B b = none := by grind
            have hstep : (l ++ [x]).length = l.length + 1 := by simp
            refine ⟨(l ++ [x], some b, a5, sd5), ⟨by rw [hstep]; rfl, by rw [hstep, IntWalk.i64_in _ (by omega)]; rfl⟩, ?_, ⟨by rw [hstep]; omega, b3, fun m e => by cases e; exact b1, by show a3 ≤ a5 ∧ a5 ≤ a3 + 4 * (l ++ [x]).length; rw [hstep]; omega⟩, by show n.toNat - (l ++ [x]).length < n.toNat - l.length; rw [hstep]; omega⟩
            simp only [oheap_some]
            have hr := rowI_snoc l x
            unfold rowI at hr
            rw [List.take_of_length_le (by simp), hr]
            intro q_
            simp only [upd_get]
            grind
        · simp (maxSteps := 1000000) -dsimp -implicitDefEqProofs only [go_sem, ↓reduceIte, keep23, ib23, mk23, Try.f23, hlt, k1, k2]
          refine ⟨by decide, by decide, ?_⟩
          cases o with
          | none =>
            rw [oside_none] at hos
            subst hos
            simp (maxSteps := 1000000) -dsimp -implicitDefEqProofs only [go_sem, ↓reduceIte, keep23, ib23, mk23, Try.f23, oval_none, oheap_none, k1]
            refine ⟨by decide, fun n_ ⟨d1, z1⟩ => ⟨([(1 : Int)], some n_, a4, sd4), ⟨rfl, IntWalk.i64_in _ (by omega)⟩, ?_, ⟨by simp only [List.length_nil, List.length_singleton] at hlt ⊢; omega, z1, fun m e => by cases e; exact d1, by show a3 ≤ a4 ∧ a4 ≤ a3 + 4 * 1; simp only [List.length_nil] at ha4; omega⟩, by simp only [List.length_nil, List.length_singleton] at hlt ⊢; omega⟩⟩
            simp only [oheap_some]
            rw [upd_swap d1]
            exact Heap.le_refl _
          | some m0 =>
            rw [oside_some] at hos
            have k1 := hon m0 rfl
            have d_m0_ns : ¬ m0 = ns := k1
            have d_ns_m0 : ¬ ns = m0 := Ne.symm d_m0_ns
            have e_m0_ns : (m0 = ns) = False := eq_false d_m0_ns
            have e_ns_m0 : (ns = m0) = False := eq_false d_ns_m0
            simp (maxSteps := 1000000) -dsimp -implicitDefEqProofs only [go_sem, ↓reduceIte, keep23, ib23, mk23, Try.f23, oval_some, oheap_some, e_m0_ns, e_ns_m0, upd_ne, upd_get, rowI, k1]
            refine ⟨by decide, Nat.le_refl _, by omega, by omega, fun b hb => ?_⟩
            have b1 : ¬ b = ns := by grind
            have b2 : ¬ b = m0 := by grind
            have b3 : B b = none := by grind
            have hstep : (l ++ [(1 : Int)]).length = l.length + 1 := by simp
            refine ⟨(l ++ [(1 : Int)], some b, a4, sd4), ⟨by rw [hstep]; rfl, by rw [hstep, IntWalk.i64_in _ (by omega)]; rfl⟩, ?_, ⟨by rw [hstep]; omega, b3, fun m e => by cases e; exact b1, by show a3 ≤ a4 ∧ a4 ≤ a3 + 4 * (l ++ [(1 : Int)]).length; rw [hstep]; omega⟩, by show n.toNat - (l ++ [(1 : Int)]).length < n.toNat - l.length; rw [hstep]; omega⟩
            simp only [oheap_some]
            have hr := rowI_snoc l (1 : Int)
            unfold rowI at hr
            rw [List.take_of_length_le (by simp), hr]
            intro q_
            simp only [upd_get]
            grind
    · cases o with
      | none =>
        rw [oside_none] at hos
        subst hos
        have hlt' : ¬ ((0 : Nat) : Int) < n := hlt
        simp (maxSteps := 1000000) -dsimp -implicitDefEqProofs only [go_sem, ↓reduceIte, keep23, ib23, mk23, Try.f23, hlt', oval_none, oheap_none]
        exact ⟨fun q => absurd q (by decide), fun _ => ⟨ints [], _, Shift.of (Sub.loose _ _ _) (Heap.le_refl _), [], a4, sd4, by simp, rfl, by simp only [List.length_nil] at ha4; omega, rfl⟩⟩
      | some m0 =>
        rw [oside_some] at hos
        have k1 := hon m0 rfl
        have d_m0_ns : ¬ m0 = ns := k1
        have d_ns_m0 : ¬ ns = m0 := Ne.symm d_m0_ns
        have e_m0_ns : (m0 = ns) = False := eq_false d_m0_ns
        have e_ns_m0 : (ns = m0) = False := eq_false d_ns_m0
        have hsh : ∀ l : List Int, ∀ a sd, Shift (.os m0 1 0 l.length) (upd (upd B m0 (rowI l)) ns (srcB c a sd)) (ints l) (upd B ns (srcB c a sd)) := fun l a sd => shift_ints l (by rw [upd_ne _ _ _ _ k1]; exact hos) (by rw [upd_swap k1]; exact Heap.le_refl _) rfl
        simp (maxSteps := 1000000) -dsimp -implicitDefEqProofs only [go_sem, ↓reduceIte, keep23, ib23, mk23, Try.f23, hlt, oval_some, oheap_some, e_m0_ns, e_ns_m0, upd_ne, upd_get]
        refine fun hl0 => ⟨fun h0 => ?_, fun _ => ⟨ints l, _, hsh l a4 sd4, l, a4, sd4, by omega, rfl, by omega, rfl⟩⟩
        refine HFnF.mkH (oneH hc hl (by omega) 24 (by omega) (upd_same ..)) ?_
        rintro r_ h' ⟨b, a5, sd5, rfl, ha5, rfl⟩
        rw [upd_upd]
        cases b
        · simp (maxSteps := 1000000) -dsimp -implicitDefEqProofs only [go_sem, ↓reduceIte, keep23, ib23, mk23, Try.f23]
          exact ⟨ints l, _, hsh l a5 sd5, l, a5, sd5, by omega, rfl, by omega, rfl⟩
        · simp (maxSteps := 1000000) -dsimp -implicitDefEqProofs only [go_sem, ↓reduceIte, keep23, ib23, mk23, Try.f23, hl0]
          refine HFnF.mkH (pickH hc hl (by omega) l.length (by omega) (upd_same ..)) ?_
          rintro r_ h' ⟨x, a6, sd6, rfl, x0, x1, -, ha6, rfl⟩
          have x1 := x1 (by omega)
          obtain ⟨k, rfl⟩ : ∃ k : Nat, x = k := ⟨x.toNat, by omega⟩
          rw [upd_upd]
          simp (maxSteps := 1000000) -dsimp -implicitDefEqProofs only [go_sem, ↓reduceIte, keep23, ib23, mk23, Try.f23]
          refine ⟨by decide, by decide, HFnF.mkH (amongH hc hl (by omega) [-1, 1001] (by decide) (by decide) (upd_same ..)) ?_⟩
          rintro r_ h' ⟨y, a7, sd7, rfl, -, ha7, rfl⟩
          rw [upd_upd]
          have ek : l[k]? = some l[k] := List.getElem?_eq_getElem (by omega)
          simp (maxSteps := 1000000) -dsimp -implicitDefEqProofs only [go_sem, ↓reduceIte, keep23, ib23, mk23, Try.f23, e_m0_ns, e_ns_m0, upd_ne, upd_get, rowI, ek, List.length_map]
          refine ⟨by omega, ints (l.set k y), upd B ns (srcB c a7 sd7), shift_ints (l.set k y) (by rw [upd_ne _ _ _ _ k1]; exact hos) ?_ (by rw [List.length_set]), l.set k y, a7, sd7, by rw [List.length_set]; omega, rfl, by omega, rfl⟩
          have hr := rowSet I l k y
          rw [hr, upd_swap k1, upd_upd]
          exact Heap.le_refl _
  · simp (maxSteps := 1000000) -dsimp -implicitDefEqProofs only [go_sem, ↓reduceIte, keep23, ib23, mk23, Try.f23]
    refine ⟨by decide, by decide, ?_⟩
    refine HFnF.mkH (amongH hc hl (by omega) [0, 1, 39, 40, 41] (by decide) (by decide) (upd_same ..)) ?_
    clear n0 n1
    rintro r_ h' ⟨n, a3, sd3, rfl, hn, ha3, rfl⟩
    have n0 : 0 ≤ n ∧ n ≤ 41 := by
      simp only [List.mem_cons, List.not_mem_nil, or_false] at hn
      omega
    clear hn
    obtain ⟨n0, n1⟩ := n0
    obtain ⟨a2', ha2, rfl⟩ : ∃ a2', (a ≤ a2' ∧ a2' ≤ a + 6) ∧ a2' = a3 := ⟨a3, by omega, rfl⟩
    rw [upd_upd]
    simp (maxSteps := 1000000) -dsimp -implicitDefEqProofs only [go_sem, ↓reduceIte, keep23, ib23, mk23, Try.f23]
    refine HFnF.mkH (pickH hc hl (by omega) 3 (by omega) (upd_same ..)) ?_
    rintro r_ h' ⟨kd, a3, sd3, rfl, -, -, -, ha3, rfl⟩
    rw [upd_upd]
    simp (maxSteps := 1000000) -dsimp -implicitDefEqProofs only [go_sem, ↓reduceIte, keep23, ib23, mk23, Try.f23]
    refine ⟨by decide, ?_⟩
    refine loopA keep23 ib23 mk23 (fun x : List Int × Option Nat × Nat × Int => [(0, .op ns 3 0 0), (3, I n), (4, I kd), (5, oval 1 x.1.length x.2.1), (6, I x.1.length)]) (fun x => upd (oheap B (rowI x.1) x.2.1) ns (srcB c x.2.2.1 x.2.2.2)) (fun x => (x.1.length : Int) ≤ n ∧ oside B x.1 x.2.1 ∧ (∀ m, x.2.1 = some m → ¬ m = ns) ∧ (a3 ≤ x.2.2.1 ∧ x.2.2.1 ≤ a3 + 4 * x.1.length)) (fun x => n.toNat - x.1.length) ([], none, a3, sd3) ⟨by simp [SatL, tget, oval], Heap.le_refl _, by simpa using n0, rfl, (fun m e => by cases e), by simp⟩ ?_
    rintro ⟨l, o, a4, sd4⟩ ⟨hll, hos, hon, ha4⟩
    simp only at hll hos hon ha4 ⊢
    by_cases hlt : (l.length : Int) < n
    · by_cases k1 : kd = 1
      · subst k1
        have k2 : ¬ (1 : Int) = 2 := by decide
        simp (maxSteps := 1000000) -dsimp -implicitDefEqProofs only [go_sem, ↓reduceIte, keep23, ib23, mk23, Try.f23, hlt]
        refine HFnF.mkH (pickH hc hl (by omega) 10 (by omega) (upd_same ..)) ?_
        rintro r_ h' ⟨x, a5, sd5, rfl, -, -, -, ha5, rfl⟩
        rw [upd_upd]
        simp (maxSteps := 1000000) -dsimp -implicitDefEqProofs only [go_sem, ↓reduceIte, keep23, ib23, mk23, Try.f23, k2]
        refine ⟨by decide, by decide, ?_⟩
        cases o with
        | none =>
          rw [oside_none] at hos
          subst hos
          simp (maxSteps := 1000000) -dsimp -implicitDefEqProofs only [go_sem, ↓reduceIte, keep23, ib23, mk23, Try.f23, oval_none, oheap_none, k2]
          refine ⟨by decide, fun n_ ⟨d1, z1⟩ => ⟨([x], some n_, a5, sd5), ⟨rfl, IntWalk.i64_in _ (by omega)⟩, ?_, ⟨by simp only [List.length_nil, List.length_singleton] at hlt ⊢; omega, z1, fun m e => by cases e; exact d1, by show a3 ≤ a5 ∧ a5 ≤ a3 + 4 * 1; simp only [List.length_nil] at ha4; omega⟩, by simp only [List.length_nil, List.length_singleton] at hlt ⊢; omega⟩⟩
          simp only [oheap_some]
          rw [upd_swap d1]
          exact Heap.le_refl _
        | some m0 =>
          rw [oside_some] at hos
          have k1 := hon m0 rfl
          have d_m0_ns : ¬ m0 = ns := k1
          have d_ns_m0 : ¬ ns = m0 := Ne.symm d_m0_ns
          have e_m0_ns : (m0 = ns) = False := eq_false d_m0_ns
          have e_ns_m0 : (ns = m0) = False := eq_false d_ns_m0
          simp (maxSteps := 1000000) -dsimp -implicitDefEqProofs only [go_sem, ↓reduceIte, keep23, ib23, mk23, Try.f23, oval_some, oheap_some, e_m0_ns, e_ns_m0, upd_ne, upd_get, rowI, k2]
          refine ⟨by decide, Nat.le_refl _, by omega, by omega, fun b hb => ?_⟩
          have b1 : ¬ b = ns := by grind
          have b2 : ¬ b = m0 := by grind
          have b3 : B b = none := by grind
          have hstep : (l ++ [x]).length = l.length + 1 := by simp
          refine ⟨(l ++ [x], some b, a5, sd5), ⟨by rw [hstep]; rfl, by rw [hstep, IntWalk.i64_in _ (by omega)]; rfl⟩, ?_, ⟨by rw [hstep]; omega, b3, fun m e => by cases e; exact b1, by show a3 ≤ a5 ∧ a5 ≤ a3 + 4 * (l ++ [x]).length; rw [hstep]; omega⟩, by show n.toNat - (l ++ [x]).length < n.toNat - l.length; rw [hstep]; omega⟩
          simp only [oheap_some]
          have hr := rowI_snoc l x
          unfold rowI at hr
          rw [List.take_of_length_le (by simp), hr]
          intro q_
          simp only [upd_get]
          grind
      · by_cases k2 : kd = 2
        · subst k2
          simp (maxSteps := 1000000) -dsimp -implicitDefEqProofs only [go_sem, ↓reduceIte, keep23, ib23, mk23, Try.f23, hlt, k1]
          refine ⟨by decide, by decide, HFnF.mkH (amongH hc hl (by omega) [0, 1, 3, 1000, 100, 17] (by decide) (by decide) (upd_same ..)) ?_⟩
          rintro r_ h' ⟨x, a5, sd5, rfl, -, ha5, rfl⟩
          rw [upd_upd]
          simp (maxSteps := 1000000) -dsimp -implicitDefEqProofs only [go_sem, ↓reduceIte, keep23, ib23, mk23, Try.f23]
          refine ⟨by decide, by decide, ?_⟩
          cases o with
          | none =>
            rw [oside_none] at hos
            subst hos
            simp (maxSteps := 1000000) -dsimp -implicitDefEqProofs only [go_sem, ↓reduceIte, keep23, ib23, mk23, Try.f23, oval_none, oheap_none, hlt]
            refine ⟨by decide, fun n_ ⟨d1, z1⟩ => ⟨([x], some n_, a5, sd5), ⟨rfl, IntWalk.i64_in _ (by omega)⟩, ?_, ⟨by simp only [List.length_nil, List.length_singleton] at hlt ⊢; omega, z1, fun m e => by cases e; exact d1, by show a3 ≤ a5 ∧ a5 ≤ a3 + 4 * 1; simp only [List.length_nil] at ha4; omega⟩, by simp only [List.length_nil, List.length_singleton] at hlt ⊢; omega⟩⟩
            simp only [oheap_some]
            rw [upd_swap d1]
            exact Heap.le_refl _
          | some m0 =>
            rw [oside_some] at hos
            have k1 := hon m0 rfl
            have d_m0_ns : ¬ m0 = ns := k1
            have d_ns_m0 : ¬ ns = m0 := Ne.symm d_m0_ns
            have e_m0_ns : (m0 = ns) = False := eq_false d_m0_ns
            have e_ns_m0 : (ns = m0) = False := eq_false d_ns_m0
            simp (maxSteps := 1000000) -dsimp -implicitDefEqProofs only [go_sem, ↓reduceIte, keep23, ib23, mk23, Try.f23, oval_some, oheap_some, e_m0_ns, e_ns_m0, upd_ne, upd_get, rowI, hlt]
            refine ⟨by decide, Nat.le_refl _, by omega, by omega, fun b hb => ?_⟩
            have b1 : ¬ b = ns := by grind
            have b2 : ¬ b = m0 := by grind
            have b3 : B b = none := by grind
            have hstep : (l ++ [x]).length = l.length + 1 := by simp
            refine ⟨(l ++ [x], some b, a5, sd5), ⟨by rw [hstep]; rfl, by rw [hstep, IntWalk.i64_in _ (by omega)]; rfl⟩, ?_, ⟨by rw [hstep]; omega, b3, fun m e => by cases e; exact b1, by show a3 ≤ a5 ∧ a5 ≤ a3 + 4 * (l ++ [x]).length; rw [hstep]; omega⟩, by show n.toNat - (l ++ [x]).length < n.toNat - l.length; rw [hstep]; omega⟩
            simp only [oheap_some]
            have hr := rowI_snoc l x
            unfold rowI at hr
            rw [List.take_of_length_le (by simp), hr]
            intro q_
            simp only [upd_get]
            grind
        · simp (maxSteps := 1000000) -dsimp -implicitDefEqProofs only [go_sem, ↓reduceIte, keep23, ib23, mk23, Try.f23, hlt, k1, k2]
          refine ⟨by decide, by decide, ?_⟩
          cases o with
          | none =>
            rw [oside_none] at hos
            subst hos
            simp (maxSteps := 1000000) -dsimp -implicitDefEqProofs only [go_sem, ↓reduceIte, keep23, ib23, mk23, Try.f23, oval_none, oheap_none, k1]
            refine ⟨by decide, fun n_ ⟨d1, z1⟩ => ⟨([(1 : Int)], some n_, a4, sd4), ⟨rfl, IntWalk.i64_in _ (by omega)⟩, ?_, ⟨by simp only [List.length_nil, List.length_singleton] at hlt ⊢; omega, z1, fun m e => by cases e; exact d1, by show a3 ≤ a4 ∧ a4 ≤ a3 + 4 * 1; simp only [List.length_nil] at ha4; omega⟩, by simp only [List.length_nil, List.length_singleton] at hlt ⊢; omega⟩⟩
            simp only [oheap_some]
            rw [upd_swap d1]
            exact Heap.le_refl _
          | some m0 =>
            rw [oside_some] at hos
            have k1 := hon m0 rfl
            have d_m0_ns : ¬ m0 = ns := k1
            have d_ns_m0 : ¬ ns = m0 := Ne.symm d_m0_ns
            have e_m0_ns : (m0 = ns) = False := eq_false d_m0_ns
            have e_ns_m0 : (ns = m0) = False := eq_false d_ns_m0
            simp (maxSteps := 1000000) -dsimp -implicitDefEqProofs only [go_sem, ↓reduceIte, keep23, ib23, mk23, Try.f23, oval_some, oheap_some, e_m0_ns, e_ns_m0, upd_ne, upd_get, rowI, k1]
            refine ⟨by decide, Nat.le_refl _, by omega, by omega, fun b hb => ?_⟩
            have b1 : ¬ b = ns := by grind
            have b2 : ¬ b = m0 := by grind
            have b3 : B b = none := by grind
            have hstep : (l ++ [(1 : Int)]).length = l.length + 1 := by simp
            refine ⟨(l ++ [(1 : Int)], some b, a4, sd4), ⟨by rw [hstep]; rfl, by rw [hstep, IntWalk.i64_in _ (by omega)]; rfl⟩, ?_, ⟨by rw [hstep]; omega, b3, fun m e => by cases e; exact b1, by show a3 ≤ a4 ∧ a4 ≤ a3 + 4 * (l ++ [(1 : Int)]).length; rw [hstep]; omega⟩, by show n.toNat - (l ++ [(1 : Int)]).length < n.toNat - l.length; rw [hstep]; omega⟩
            simp only [oheap_some]
            have hr := rowI_snoc l (1 : Int)
            unfold rowI at hr
            rw [List.take_of_length_le (by simp), hr]
            intro q_
            simp only [upd_get]
            grind
    · cases o with
      | none =>
        rw [oside_none] at hos
        subst hos
        have hlt' : ¬ ((0 : Nat) : Int) < n := hlt
        simp (maxSteps := 1000000) -dsimp -implicitDefEqProofs only [go_sem, ↓reduceIte, keep23, ib23, mk23, Try.f23, hlt', oval_none, oheap_none]
        exact ⟨fun q => absurd q (by decide), fun _ => ⟨ints [], _, Shift.of (Sub.loose _ _ _) (Heap.le_refl _), [], a4, sd4, by simp, rfl, by simp only [List.length_nil] at ha4; omega, rfl⟩⟩
      | some m0 =>
        rw [oside_some] at hos
        have k1 := hon m0 rfl
        have d_m0_ns : ¬ m0 = ns := k1
        have d_ns_m0 : ¬ ns = m0 := Ne.symm d_m0_ns
        have e_m0_ns : (m0 = ns) = False := eq_false d_m0_ns
        have e_ns_m0 : (ns = m0) = False := eq_false d_ns_m0
        have hsh : ∀ l : List Int, ∀ a sd, Shift (.os m0 1 0 l.length) (upd (upd B m0 (rowI l)) ns (srcB c a sd)) (ints l) (upd B ns (srcB c a sd)) := fun l a sd => shift_ints l (by rw [upd_ne _ _ _ _ k1]; exact hos) (by rw [upd_swap k1]; exact Heap.le_refl _) rfl
        simp (maxSteps := 1000000) -dsimp -implicitDefEqProofs only [go_sem, ↓reduceIte, keep23, ib23, mk23, Try.f23, hlt, oval_some, oheap_some, e_m0_ns, e_ns_m0, upd_ne, upd_get]
        refine fun hl0 => ⟨fun h0 => ?_, fun _ => ⟨ints l, _, hsh l a4 sd4, l, a4, sd4, by omega, rfl, by omega, rfl⟩⟩
        refine HFnF.mkH (oneH hc hl (by omega) 24 (by omega) (upd_same ..)) ?_
        rintro r_ h' ⟨b, a5, sd5, rfl, ha5, rfl⟩
        rw [upd_upd]
        cases b
        · simp (maxSteps := 1000000) -dsimp -implicitDefEqProofs only [go_sem, ↓reduceIte, keep23, ib23, mk23, Try.f23]
          exact ⟨ints l, _, hsh l a5 sd5, l, a5, sd5, by omega, rfl, by omega, rfl⟩
        · simp (maxSteps := 1000000) -dsimp -implicitDefEqProofs only [go_sem, ↓reduceIte, keep23, ib23, mk23, Try.f23, hl0]
          refine HFnF.mkH (pickH hc hl (by omega) l.length (by omega) (upd_same ..)) ?_
          rintro r_ h' ⟨x, a6, sd6, rfl, x0, x1, -, ha6, rfl⟩
          have x1 := x1 (by omega)
          obtain ⟨k, rfl⟩ : ∃ k : Nat, x = k := ⟨x.toNat, by omega⟩
          rw [upd_upd]
          simp (maxSteps := 1000000) -dsimp -implicitDefEqProofs only [go_sem, ↓reduceIte, keep23, ib23, mk23, Try.f23]
          refine ⟨by decide, by decide, HFnF.mkH (amongH hc hl (by omega) [-1, 1001] (by decide) (by decide) (upd_same ..)) ?_⟩
          rintro r_ h' ⟨y, a7, sd7, rfl, -, ha7, rfl⟩
          rw [upd_upd]
          have ek : l[k]? = some l[k] := List.getElem?_eq_getElem (by omega)
          simp (maxSteps := 1000000) -dsimp -implicitDefEqProofs only [go_sem, ↓reduceIte, keep23, ib23, mk23, Try.f23, e_m0_ns, e_ns_m0, upd_ne, upd_get, rowI, ek, List.length_map]
          refine ⟨by omega, ints (l.set k y), upd B ns (srcB c a7 sd7), shift_ints (l.set k y) (by rw [upd_ne _ _ _ _ k1]; exact hos) ?_ (by rw [List.length_set]), l.set k y, a7, sd7, by rw [List.length_set]; omega, rfl, by omega, rfl⟩
          have hr := rowSet I l k y
          rw [hr, upd_swap k1, upd_upd]
          exact Heap.le_refl _
@[go_sem] def keep10 : List Nat := [0, 2, 3, 4, 5, 6, 14]
@[go_sem] def ib10 : List Nat := [16]
@[go_sem] def mk10 : Marks := fun _ => ([], .nil, [])
set_option maxRecDepth 100000 in
theorem drawSC {c : List Int} (hc : ∀ x ∈ c, InB x) (hl : c.length ≤ 4096) {g : Heap} : HFn Try.prog 10 [.sl 1 (c.map fun n => [.int .u8 n]) false] g fun r h' => ∃ (l : List Int) (x : Int), l.length ≤ 41 ∧ r = .tup [ints l, I x] ∧ h' = g := by
  refine fnHA 20 keep10 ib10 mk10 Try.func10 ?_
  simp (maxSteps := 1000000) -dsimp -implicitDefEqProofs only [go_sem, ↓reduceIte, keep10, ib10, mk10, Try.f10]
  refine HFnF.mkH (fromH c) ?_
  rintro r_ h' ⟨ns, rfl, hns, rfl⟩
  simp (maxSteps := 1000000) -dsimp -implicitDefEqProofs only [go_sem, ↓reduceIte, keep10, ib10, mk10, Try.f10]
  refine HFnF.mkH (drawW (a := 0) (sd := 0) hc hl hns (by omega)) ?_
  rintro r_ h' ⟨l, a1, sd1, hll, rfl, ha1, rfl⟩
  simp (maxSteps := 1000000) -dsimp -implicitDefEqProofs only [go_sem, ↓reduceIte, keep10, ib10, mk10, Try.f10]
  refine HFnF.mkH (pickH hc hl (by omega) 4 (by omega) (upd_same ..)) ?_
  rintro r_ h' ⟨x, a2, sd2, rfl, -, -, -, ha2, rfl⟩
  rw [upd_upd]
  simp (maxSteps := 1000000) -dsimp -implicitDefEqProofs only [go_sem, ↓reduceIte, keep10, ib10, mk10, Try.f10]
  refine HFnF.mkH (oneH hc hl (by omega) 20 (by omega) (upd_same ..)) ?_
  rintro r_ h' ⟨b, a3, sd3, rfl, ha3, rfl⟩
  rw [upd_upd]
  cases b
  · simp (maxSteps := 1000000) -dsimp -implicitDefEqProofs only [go_sem, ↓reduceIte, keep10, ib10, mk10, Try.f10]
    exact ⟨g, Heap.le_upd hns (Heap.le_refl _), l, x, hll, rfl, rfl⟩
  · simp (maxSteps := 1000000) -dsimp -implicitDefEqProofs only [go_sem, ↓reduceIte, keep10, ib10, mk10, Try.f10]
    refine ⟨by decide, by decide, HFnF.mkH (amongH hc hl (by omega) [-1, 4, 9] (by decide) (by decide) (upd_same ..)) ?_⟩
    rintro r_ h' ⟨y, a4, sd4, rfl, -, ha4, rfl⟩
    rw [upd_upd]
    simp (maxSteps := 1000000) -dsimp -implicitDefEqProofs only [go_sem, ↓reduceIte, keep10, ib10, mk10, Try.f10]
    exact ⟨g, Heap.le_upd hns (Heap.le_refl _), l, y, hll, rfl, rfl⟩
@[go_sem] def keep11 : List Nat := [0, 2]
@[go_sem] def ib11 : List Nat := []
@[go_sem] def mk11 : Marks := fun _ => ([], .nil, [])
theorem specValidWeights (w : List Int) : Fn0 Try.prog 11 [ints w] (.bool (decide (Wts w))) := by
  refine fn0A 5 keep11 ib11 mk11 Try.func11 fun h => ?_
  simp (maxSteps := 1000000) -dsimp -implicitDefEqProofs only [go_sem, ↓reduceIte, keep11, ib11, mk11, Try.f11]
  first | refine HFnF.mk (l06Weights w) ?_ | refine CallSF.mk (l06Weights w) ?_ | refine HFnF.mkAt (l06Weights w) ?_ | refine CallSF.mk (FnAt.fn0 (l06Weights w)) ?_
  simp (maxSteps := 1000000) -dsimp -implicitDefEqProofs only [go_sem, ↓reduceIte, keep11, ib11, mk11, Try.f11]
@[go_sem] def keep4 : List Nat := [0, 2, 3, 4, 5, 6, 7, 8, 9, 10, 12, 33, 53]
@[go_sem] def ib4 : List Nat := []
@[go_sem] def mk4 : Marks := fun _ => ([], .nil, [])
theorem lawSe {c : List Int} (hc : ∀ x ∈ c, InB x) : Fn0 Try.prog 4 [.sl 1 (c.map fun n => [.int .u8 n]) false] (.bool true) := by
  have hb1 := f6big c
  refine fn0A 68 keep4 ib4 mk4 Try.func4 fun h => ?_
  simp (maxSteps := 1000000) -dsimp -implicitDefEqProofs only [go_sem, ↓reduceIte, keep4, ib4, mk4, Try.f4]
  first | refine HFnF.mk (hb1) ?_ | refine CallSF.mk (hb1) ?_ | refine HFnF.mkAt (hb1) ?_ | refine CallSF.mk (FnAt.fn0 (hb1)) ?_
  simp (maxSteps := 1000000) -dsimp -implicitDefEqProofs only [go_sem, ↓reduceIte, keep4, ib4, mk4, Try.f4]
  refine fun n1 => ?_
  have hlc : c.length ≤ 4096 := by omega
  refine HFnF.mkH (drawSC hc hlc) ?_
  rintro r_ h' ⟨w, sl, hwl, rfl, rfl⟩
  have hml : w.length ≤ 9223372036854775807 := by omega
  simp (maxSteps := 1000000) -dsimp -implicitDefEqProofs only [go_sem, ↓reduceIte, keep4, ib4, mk4, Try.f4]
  refine HFnF.mk (specValidWeights w) ?_
  by_cases hw : Wts w
  · simp (maxSteps := 1000000) -dsimp -implicitDefEqProofs only [go_sem, ↓reduceIte, keep4, ib4, mk4, Try.f4, hml, decide_eq_true hw]
    by_cases h7 : (w.length : Int) > 7
    · simp (maxSteps := 1000000) -dsimp -implicitDefEqProofs only [go_sem, ↓reduceIte, keep4, ib4, mk4, Try.f4, h7]
    · by_cases h0 : sl < 0
      · simp (maxSteps := 1000000) -dsimp -implicitDefEqProofs only [go_sem, ↓reduceIte, keep4, ib4, mk4, Try.f4, h7, h0]
      · by_cases h3 : sl > 3
        · simp (maxSteps := 1000000) -dsimp -implicitDefEqProofs only [go_sem, ↓reduceIte, keep4, ib4, mk4, Try.f4, h7, h0, h3]
        · simp (maxSteps := 1000000) -dsimp -implicitDefEqProofs only [go_sem, ↓reduceIte, keep4, ib4, mk4, Try.f4, h7, h0, h3]
          refine HFnF.mk (SearchCost w sl) ?_
          simp (maxSteps := 1000000) -dsimp -implicitDefEqProofs only [go_sem, ↓reduceIte, keep4, ib4, mk4, Try.f4]
          refine HFnF.mk (specSearchCost w sl) ?_
          simp (maxSteps := 1000000) -dsimp -implicitDefEqProofs only [go_sem, ↓reduceIte, keep4, ib4, mk4, Try.f4]
          obtain ⟨n, rfl⟩ : ∃ n : Nat, sl = n := ⟨sl.toNat, by omega⟩
          refine HFnF.mkH (LeastCost w hw (by omega) n (by omega)) ?_
          rintro _ _ ⟨rfl, rfl⟩
          have hm := minS_eq (min_ls (fun i => (wAt_in hw.1 i).1) (show w.length ≤ 7 by omega) n)
          have hres : srcRes w (n : Int) = (if ls w 0 w.length n < 0 then 0 else ls w 0 w.length n, if ls w 0 w.length n < 0 then 4 else 0) := by
            rw [srcRes, if_neg (not_not_intro hw), if_neg (by omega), Int.toNat_natCast, hm]
            by_cases q : ls w 0 w.length n < 0
            · rw [if_pos q, if_pos q, if_pos q]
            · rw [if_neg q, if_neg q, if_neg q]
          rw [hres]
          simp (maxSteps := 1000000) -dsimp -implicitDefEqProofs only [go_sem, ↓reduceIte, keep4, ib4, mk4, Try.f4]
  · simp (maxSteps := 1000000) -dsimp -implicitDefEqProofs only [go_sem, ↓reduceIte, keep4, ib4, mk4, Try.f4, decide_eq_false hw]
theorem dat_u8 {P : Program} {n : Nat} {t : TypeId} {xs : List HVal} (hu : P.underlying t = some (.int .u8)) (h : Dat P n t xs) : ∃ i : Int, xs = [.int .u8 i] ∧ InB i := by
  match n, h with
  | 0, h => exact h.elim
  | n + 1, h =>
    simp only [Dat, hu] at h
    obtain ⟨i, rfl, hw⟩ := h
    refine ⟨i, rfl, ?_⟩
    have h1 : IntKind.min .u8 = 0 := by decide
    have h2 : IntKind.max .u8 = 255 := by decide
    simp [Lit.wf, IntKind.has, h1, h2] at hw
    unfold InB
    omega
theorem list_of {α : Type} {c : α → List HVal} {w : α → Prop} : ∀ {es : List (List HVal)}, (∀ y ∈ es, ∃ x, y = c x ∧ w x) → ∃ l : List α, es = l.map c ∧ ∀ x ∈ l, w x
  | [], _ => ⟨[], rfl, by simp⟩
  | e :: es, h => by
    obtain ⟨x, rfl, hx⟩ := h _ List.mem_cons_self
    obtain ⟨l, rfl, hl⟩ := list_of fun y hy => h y (List.mem_cons_of_mem _ hy)
    refine ⟨x :: l, rfl, fun y hy => ?_⟩
    rcases List.mem_cons.1 hy with rfl | hy
    · exact hx
    · exact hl y hy
theorem dat_slice {P : Program} {n sz : Nat} {t e : TypeId} {α : Type} {c : α → List HVal} {w : α → Prop} {xs : List HVal} (hu : P.underlying t = some (.slice e)) (hc : P.cellsOf e = sz) (h : Dat P n t xs)
    (hx : ∀ m y, m < n → Dat P m e y → ∃ x, y = c x ∧ w x) : ∃ l : List α, xs = [sls sz c l] ∧ ∀ x ∈ l, w x := by
  match n, h with
  | 0, h => exact h.elim
  | n + 1, h =>
    simp only [Dat, hu] at h
    obtain ⟨es, rfl, hes⟩ := h
    obtain ⟨l, rfl, hl⟩ := list_of fun y hy => hx n y (by omega) (hes y hy)
    exact ⟨l, by rw [hc], hl⟩
theorem cells5 : Try.prog.cellsOf 5 = 1 := by kernel_rfl
def datT : List TypeId := [2, 5, 22, 28]
theorem datT_ok : datB Try.prog datT = true := by kernel_rfl

end Go.Hl

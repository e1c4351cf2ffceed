/-
  Contracts of functions and laws of the layer over the walk.
-/
import Derived.Test.YtgkipnacdihfnaaGreatDoorVvB
import Derived.Test.YtgkipnacdihfnaaGreatDoorHlD
import Derived.Test.YtgkipnacdihfnaaGreatDoorVvA
namespace Go.Hl
open Go.Proofs
set_option linter.unusedVariables false
set_option linter.unusedSimpArgs false
/-! ### a text of an expression is read as it -/
theorem isWB_dig {c : UInt8} (h : 48 ≤ c.toNat ∧ c.toNat ≤ 57) : isWB c = true := by simp [isWB, h.1, h.2]
theorem isWB_low {c : UInt8} (h : 97 ≤ c.toNat ∧ c.toNat ≤ 122) : isWB c = true := by simp [isWB, h.1, h.2]
/-- What may stand behind an expression. -/
def Stop (r : List UInt8) : Prop := ∀ c l, r = c :: l → isWB c = false ∧ c ≠ 46
theorem stop_nil : Stop [] := fun c l h => by cases h
theorem stop_sp (r : List UInt8) : Stop (32 :: r) := fun c l h => by cases h; exact ⟨rfl, by decide⟩
theorem stop_cl (r : List UInt8) : Stop (41 :: r) := fun c l h => by cases h; exact ⟨rfl, by decide⟩
theorem stop_sc (r : List UInt8) : Stop (59 :: r) := fun c l h => by cases h; exact ⟨rfl, by decide⟩
theorem stop_bar (r : List UInt8) : Stop (40 :: r) := fun c l h => by cases h; exact ⟨rfl, by decide⟩
theorem wordAt_of {t w r : List UInt8} {i : Nat} (h : t.drop i = w ++ r) (hw : ∀ c ∈ w, isWB c = true) (hr : ∀ c l, r = c :: l → isWB c = false) : wordAt t i = w := by
  unfold wordAt
  rw [h, List.takeWhile_append_of_pos hw]
  cases r with
  | nil => simp
  | cons c l => simp [hr c l rfl]
theorem hasB_of {t x r : List UInt8} {i : Nat} (h : t.drop i = x ++ r) : hasB t i x = true := by
  unfold hasB
  rw [h]; simp
theorem hasB_no {t r : List UInt8} {i : Nat} {c d : UInt8} (h : t.drop i = c :: r) (hc : c ≠ d) : hasB t i [d] = false := by
  unfold hasB
  rw [h]; simp [hc]
theorem hasB_nil {t : List UInt8} {i : Nat} {d : UInt8} (h : t.drop i = []) : hasB t i [d] = false := by
  unfold hasB
  rw [h]; simp
theorem hasB_stop {t r : List UInt8} {i : Nat} {d : UInt8} (h : t.drop i = r) (hr : ∀ c l, r = c :: l → c ≠ d) : hasB t i [d] = false := by
  cases r with
  | nil => exact hasB_nil h
  | cons c l => exact hasB_no h (hr c l rfl)
theorem drop_on {t x r : List UInt8} {i : Nat} (h : t.drop i = x ++ r) : t.drop (i + x.length) = r := by
  rw [← List.drop_drop, h, List.drop_left]
theorem drop_on1 {t r : List UInt8} {c : UInt8} {i : Nat} (h : t.drop i = c :: r) : t.drop (i + 1) = r := drop_on (x := [c]) h
theorem adv_adv (s : RSt) (a b : Nat) : (s.adv a).adv b = s.adv (a + b) := by simp [RSt.adv, Nat.add_assoc]
theorem orB_false (s : RSt) : s.orB false = s := by simp [RSt.orB]
theorem adv_i (s : RSt) (k : Nat) : (s.adv k).i = s.i + k := rfl
theorem adv_n (s : RSt) (k : Nat) : (s.adv k).n = s.n := rfl
theorem itoa_dig {n : Int} (h : 0 ≤ n) : ∀ c ∈ Go.Lib.itoa n, 48 ≤ c.toNat ∧ c.toNat ≤ 57 := by rw [itoa_dec n h]; exact dec_digits _
theorem itoa_cons {n : Int} (h : 0 ≤ n) : ∃ c l, Go.Lib.itoa n = c :: l ∧ 48 ≤ c.toNat ∧ c.toNat ≤ 57 := by
  cases e : Go.Lib.itoa n with
  | nil => exact absurd e (itoa_ne h)
  | cons c l => exact ⟨c, l, rfl, itoa_dig h c (by rw [e]; exact List.mem_cons_self ..)⟩
theorem rdOK_num {n hi : Int} (h0 : 0 ≤ n) (h1 : n ≤ hi) (h2 : hi ≤ 9223372036854775807) : rdOK hi (Go.Lib.itoa n) := (rdOK_itoa h0 (by omega)).2 h1
/-- The state behind a text of so many bytes and nodes. -/
def RSt.go (s : RSt) (k : Nat) (m : Int) : RSt := { s with i := s.i + k, n := s.n + m }
theorem go_adv (s : RSt) (a b : Nat) (m : Int) : (s.go a m).adv b = s.go (a + b) m := by simp [RSt.go, RSt.adv, Nat.add_assoc]
theorem adv_go (s : RSt) (a b : Nat) (m : Int) : (s.adv a).go b m = s.go (a + b) m := by simp [RSt.go, RSt.adv, Nat.add_assoc]
theorem go_go (s : RSt) (a b : Nat) (m k : Int) : (s.go a m).go b k = s.go (a + b) (m + k) := by simp [RSt.go, Nat.add_assoc, Int.add_assoc]
theorem go_n (s : RSt) (k : Nat) (m : Int) : (s.go k m).n = s.n + m := rfl
theorem go_zero (s : RSt) (k : Nat) : s.go k 0 = s.adv k := by simp [RSt.go, RSt.adv]
/-- What stands in a valid node's fields. -/
theorem leaf_of {p : DProgram} {funcs vars : Int} {e : DExpr} (h : nodeOK p e vars funcs) (hk : e.fKind = 1 ∨ e.fKind = 2) : e = .mk e.fKind e.fNum 0 0 [] := by
  unfold nodeOK at h
  rw [if_neg (by omega)] at h
  obtain ⟨h1, h2, h3, _⟩ := h
  have : e.fKids = [] := by
    unfold kidsN at h1
    rw [if_pos hk] at h1
    exact List.length_eq_zero_iff.1 (by omega)
  rw [DExpr.eq_iff]
  exact ⟨rfl, rfl, h2, h3, this⟩
theorem plain_of {p : DProgram} {funcs vars : Int} {e : DExpr} (h : nodeOK p e vars funcs) (hk : 3 ≤ e.fKind ∧ e.fKind ≤ 9) : e = .mk e.fKind 0 0 0 e.fKids := by
  unfold nodeOK at h
  rw [if_neg (by omega)] at h
  obtain ⟨h1, h2, h3, h4, h5, h6⟩ := h
  rw [DExpr.eq_iff]
  exact ⟨rfl, h6 (by omega) (by omega), h2, h3, rfl⟩
/-- What is asked of the reader of kids at texts of theirs. -/
def ExD (p : DProgram) (t : List UInt8) (ex : RSt → DExpr × RSt) (m : DExpr → Int) (D : Int) (x : DExpr) : Prop :=
  ∀ (s : RSt) (r : List UInt8), s.b = false → s.d = D → s.n + m x ≤ 400 → t.drop s.i = x.txt p ++ r → Stop r → ex s = (x, s.go (x.txt p).length (m x))
def sumM (m : DExpr → Int) : List DExpr → Int
  | [] => 0
  | x :: l => m x + sumM m l
theorem semis_cons2 (a b : List UInt8) (l : List (List UInt8)) : semis (a :: b :: l) = a ++ 59 :: 32 :: semis (b :: l) := rfl
theorem tkI_of {t x r : List UInt8} {s : RSt} (hb : s.b = false) (h : t.drop s.i = x ++ r) : tkI t x s = true := by simp [tkI, hb, hasB_of h]
theorem tkI_no {t r : List UInt8} {s : RSt} {d : UInt8} (h : t.drop s.i = r) (hr : ∀ c l, r = c :: l → c ≠ d) : tkI t [d] s = false := by simp [tkI, hasB_stop h hr]
theorem wantI_of {t x r : List UInt8} {s : RSt} (hb : s.b = false) (h : t.drop s.i = x ++ r) : wantI t x s = s.adv x.length := by rw [wantI, if_pos (tkI_of hb h)]
theorem sumM_pos {m : DExpr → Int} (hm : ∀ x, 0 ≤ m x) : ∀ l, 0 ≤ sumM m l
  | [] => Int.le_refl _
  | x :: l => by have := hm x; have := sumM_pos hm l; simp only [sumM]; omega
theorem lsI_done {p : DProgram} {t : List UInt8} {ex : RSt → DExpr × RSt} {m : DExpr → Int} {D : Int} (hm : ∀ x, 0 ≤ m x) : ∀ (l : List DExpr) (n : Nat) (pre : List DExpr) (s : RSt) (r : List UInt8), l ≠ [] → (∀ x ∈ l, ExD p t ex m D x) → l.length ≤ n →
    s.b = false → s.d = D → s.n + sumM m l ≤ 400 → t.drop s.i = semis (l.map (DExpr.txt p)) ++ 41 :: r → lsI ex t n pre s = (pre ++ l, s.go ((semis (l.map (DExpr.txt p))).length + 1) (sumM m l))
  | [], _, _, _, _, h, _, _, _, _, _, _ => absurd rfl h
  | [x], n + 1, pre, s, r, _, hx, _, hb, hd, hn, h => by
    simp only [sumM, Int.add_zero] at hn ⊢
    have h : t.drop s.i = x.txt p ++ 41 :: r := h
    have e := hx x (List.mem_singleton.2 rfl) s _ hb hd hn h (stop_cl r)
    have h2 : t.drop (s.go (x.txt p).length (m x)).i = 41 :: r := drop_on h
    have hb2 : (s.go (x.txt p).length (m x)).b = false := hb
    rw [lsI, if_neg (by rw [hb]; simp), e, if_pos (tkI_of (r := r) hb2 h2), go_adv]
    rfl
  | x :: y :: l, n + 1, pre, s, r, _, hx, hl, hb, hd, hn, h => by
    have hq : sumM m (x :: y :: l) = m x + sumM m (y :: l) := rfl
    rw [hq] at hn
    have hp := sumM_pos hm (y :: l)
    have h : t.drop s.i = x.txt p ++ (59 :: 32 :: (semis ((y :: l).map (DExpr.txt p)) ++ 41 :: r)) := by
      rw [h]; simp [semis_cons2]
    have e := hx x (List.mem_cons_self ..) s _ hb hd (by omega) h (stop_sc _)
    have h2 : t.drop (s.go (x.txt p).length (m x)).i = [59, 32] ++ (semis ((y :: l).map (DExpr.txt p)) ++ 41 :: r) := drop_on h
    have hb2 : (s.go (x.txt p).length (m x)).b = false := hb
    rw [lsI, if_neg (by rw [hb]; simp), e, if_neg (by rw [tkI_no (r := 59 :: 32 :: _) h2 (fun c l h => by cases h; decide)]; simp), wantI_of hb2 h2,
      lsI_done hm (y :: l) n _ _ r (by simp) (fun z hz => hx z (List.mem_cons_of_mem _ hz)) (by simp only [List.length_cons] at hl ⊢; omega) (show (((s.go (x.txt p).length (m x)).adv ([59, 32] : List UInt8).length)).b = false from hb) hd (by rw [adv_n, go_n]; omega) (by rw [adv_i]; exact drop_on h2), go_adv, go_go, hq]
    simp only [List.append_assoc, List.cons_append, List.nil_append, List.map_cons, semis_cons2, List.length_append, List.length_cons, List.length_nil]
    congr 2
    omega
  | [x], 0, _, _, _, _, _, hl, _, _, _, _ => by simp at hl
  | x :: y :: l, 0, _, _, _, _, _, hl, _, _, _, _ => by simp at hl
theorem semis_many : ∀ l : List (List UInt8), l.length ≤ (semis l).length + 1
  | [] => Nat.zero_le _
  | [a] => by simp
  | a :: b :: l => by
    have := semis_many (b :: l)
    rw [semis_cons2]
    simp only [List.length_cons, List.length_append] at this ⊢
    omega
theorem drop_len {t x : List UInt8} {i : Nat} (h : t.drop i = x) : x.length ≤ t.length := by rw [← h, List.length_drop]; omega
theorem txt_head {p : DProgram} {l : List DExpr} (hl : l ≠ []) (hne : ∀ x ∈ l, ∃ c r, x.txt p = c :: r ∧ c ≠ 41) (r : List UInt8) : ∃ c q, semis (l.map (DExpr.txt p)) ++ r = c :: q ∧ c ≠ 41 := by
  match l, hl with
  | [x], _ =>
    obtain ⟨c, q, e, hc⟩ := hne x (List.mem_cons_self ..)
    exact ⟨c, q ++ r, by simp [semis, e], hc⟩
  | x :: y :: l, _ =>
    obtain ⟨c, q, e, hc⟩ := hne x (List.mem_cons_self ..)
    exact ⟨c, q ++ 59 :: 32 :: (semis ((y :: l).map (DExpr.txt p)) ++ r), by simp [semis_cons2, e], hc⟩
theorem listI_done {p : DProgram} {t : List UInt8} {ex : RSt → DExpr × RSt} {m : DExpr → Int} {D : Int} (hm : ∀ x, 0 ≤ m x) {l : List DExpr} (hne : ∀ x ∈ l, ∃ c r, x.txt p = c :: r ∧ c ≠ 41) {s : RSt} {r : List UInt8} (hx : ∀ x ∈ l, ExD p t ex m D x)
    (hb : s.b = false) (hd : s.d = D) (hn : s.n + sumM m l ≤ 400) (h : t.drop s.i = 40 :: (semis (l.map (DExpr.txt p)) ++ 41 :: r)) : listI ex t s = (l, s.go ((semis (l.map (DExpr.txt p))).length + 2) (sumM m l)) := by
  have h1 : wantI t [40] s = s.adv 1 := wantI_of hb h
  have h2 : t.drop (s.adv 1).i = semis (l.map (DExpr.txt p)) ++ 41 :: r := drop_on1 h
  have hb2 : (s.adv 1).b = false := hb
  unfold listI
  rw [h1]
  by_cases hl : l = []
  · subst hl
    rw [if_pos (tkI_of (r := r) hb2 h2), adv_adv]
    simp [semis, sumM, go_zero]
  · obtain ⟨c, q, e, hc⟩ := txt_head (p := p) hl hne (41 :: r)
    rw [if_neg (by rw [tkI_no (r := c :: q) (by rw [h2, e]) (fun a b h => by cases h; exact hc)]; simp)]
    have hlen := drop_len h2
    have hmn := semis_many (l.map (DExpr.txt p))
    rw [List.length_append, List.length_map] at *
    rw [lsI_done hm l _ _ _ r hl hx (by simp only [List.length_cons] at hlen; omega) hb2 hd hn h2, adv_go, List.nil_append]
    congr 2; omega
open Go.Proofs
set_option linter.unusedVariables false
set_option linter.unusedSimpArgs false
structure Rdb (p : DProgram) (funcs : Int) (e : DExpr) (vars : Int) : Prop where
  st : Stands p funcs e vars
  v : vars + e.s ≤ 812
theorem Rdb.kid {p : DProgram} {funcs vars : Int} {e x : DExpr} (h : Rdb p funcs e vars) (hx : x ∈ e.fKids) : ∃ v, Rdb p funcs x v := by
  obtain ⟨k, hk, ek⟩ := List.mem_iff_getElem.1 hx
  subst ek
  have h1 := ((DExpr.ok_iff _ _ _ _).1 h.st.ok).2 k hk
  have h2 := DExpr.kid_s (List.getElem_mem hk)
  have h3 := h.st.vars
  have h4 := h.v
  refine ⟨_, ⟨h1, ?_, h.st.f0, h.st.f1⟩, ?_⟩
  · unfold moreV; split <;> omega
  · unfold moreV; split <;> omega
theorem Rdb.of {p : DProgram} {funcs vars : Int} {e : DExpr} (h : exprOK p e vars funcs) : Rdb p funcs e vars := by
  obtain ⟨⟨a, b⟩, ⟨c, d⟩, e1, e2, e3⟩ := h
  exact ⟨⟨e3, by omega, c, d⟩, by omega⟩
theorem sign_kind {k : Int} (hk : 3 ≤ k ∧ k ≤ 6) : (k = 3 ∧ signB k = 43) ∨ (k = 4 ∧ signB k = 45) ∨ (k = 5 ∧ signB k = 42) ∨ (k = 6 ∧ signB k = 47) := by
  rcases (by omega : k = 3 ∨ k = 4 ∨ k = 5 ∨ k = 6) with rfl | rfl | rfl | rfl
  · exact .inl ⟨rfl, rfl⟩
  · exact .inr (.inl ⟨rfl, rfl⟩)
  · exact .inr (.inr (.inl ⟨rfl, rfl⟩))
  · exact .inr (.inr (.inr ⟨rfl, rfl⟩))
theorem txt_bin {p : DProgram} {e : DExpr} (hk : 3 ≤ e.fKind ∧ e.fKind ≤ 6) {a b : DExpr} (hab : e.fKids = [a, b]) : e.txt p = 40 :: (a.txt p ++ 32 :: signB e.fKind :: 32 :: (b.txt p ++ [41])) := by
  rw [DExpr.txt_eq, if_neg (by omega), if_neg (by omega), if_pos hk, hab]; rfl
theorem txt_list {p : DProgram} {e : DExpr} (hk : 7 ≤ e.fKind) : e.txt p = headT p e.fKind e.fNum e.fPick e.fCount ++ 40 :: (semis (e.fKids.map (DExpr.txt p)) ++ [41]) := by
  rw [DExpr.txt_eq, if_neg (by omega), if_neg (by omega), if_neg (by omega)]
theorem wb_ne {c : UInt8} (h : isWB c = true) : c ≠ 40 ∧ c ≠ 41 ∧ c ≠ 46 := by
  refine ⟨?_, ?_, ?_⟩ <;> (rintro rfl; revert h; decide)
/-- The word ahead of a text that is no operation of two kids. -/
theorem name_wb {p : DProgram} (hp : p.ok) {f : DFunc} {k : Nat} (ef : p.fFuncs[k]? = some f) : f.fName ≠ [] ∧ ∀ c ∈ f.fName, isWB c = true := by
  obtain ⟨h1, _, _, h4⟩ := (hp.2 k f ef).1
  refine ⟨fun e => by rw [e] at h1; simp at h1, fun c hc => ?_⟩
  rcases h4 c hc with q | q
  · exact isWB_low q
  · exact isWB_dig q
theorem txt_cons {p : DProgram} (hp : p.ok) {funcs vars : Int} {e : DExpr} (h : Rdb p funcs e vars) : ∃ c r, e.txt p = c :: r ∧ c ≠ 41 := by
  have hk := h.st.kind
  by_cases k1 : e.fKind = 1
  · obtain ⟨c, l, ec, hc⟩ := itoa_cons (h.st.num (.inl k1)).1
    exact ⟨c, l, by rw [DExpr.txt_eq, if_pos k1, ec], (wb_ne (isWB_dig hc)).2.1⟩
  · by_cases k2 : e.fKind = 2
    · exact ⟨120, _, by rw [DExpr.txt_eq, if_neg k1, if_pos k2], by decide⟩
    · by_cases kb : 3 ≤ e.fKind ∧ e.fKind ≤ 6
      · exact ⟨40, _, by rw [DExpr.txt_eq, if_neg k1, if_neg k2, if_pos kb], by decide⟩
      · rw [txt_list (by omega)]
        unfold headT
        by_cases k7 : e.fKind = 7
        · rw [if_pos k7]; exact ⟨110, _, rfl, by decide⟩
        · rw [if_neg k7]
          by_cases k8 : e.fKind = 8
          · rw [if_pos k8]; exact ⟨105, _, rfl, by decide⟩
          · rw [if_neg k8]
            by_cases k9 : e.fKind = 9
            · rw [if_pos k9]; exact ⟨108, _, rfl, by decide⟩
            · rw [if_neg k9]
              obtain ⟨f, ef, en, _⟩ := h.st.call hp (by omega)
              obtain ⟨n1, n2⟩ := name_wb hp ef
              rw [en]
              cases e2 : f.fName with
              | nil => exact absurd e2 n1
              | cons c l =>
                have := (wb_ne (n2 c (by rw [e2]; exact List.mem_cons_self ..))).2.1
                split
                · exact ⟨c, _, rfl, this⟩
                · exact ⟨c, _, rfl, this⟩
theorem numI_of {t r : List UInt8} {s : RSt} {n : Int} (h0 : 0 ≤ n) (h1 : n ≤ 1000002) (h : t.drop s.i = Go.Lib.itoa n ++ r) (hr : ∀ c l, r = c :: l → isWB c = false) : numI t s = n ∧ numIs t s = s.adv (Go.Lib.itoa n).length := by
  have hw := wordAt_of h (fun c hc => isWB_dig (itoa_dig h0 c hc)) hr
  refine ⟨by rw [numI, hw, rdN_itoa h0 (by omega)], ?_⟩
  rw [numIs, hw, decide_eq_true (rdOK_num h0 h1 (by decide))]
  exact orB_false _
theorem name_ix {p : DProgram} (hp : p.ok) {f : DFunc} {k : Nat} (ef : p.fFuncs[k]? = some f) : nameIx p f.fName = k := by
  obtain ⟨hlt, e⟩ := List.getElem?_eq_some_iff.1 ef
  refine idxOf_some hlt (fun x hx => ?_) (by rw [e]; simp)
  have := (hp.2 k f ef).2.2.2.1 x hx
  simpa using this
theorem headT_call {p : DProgram} {k n i c : Int} (h : k = 10) : headT p k n i c = nameAt p n ++ 46 :: Go.Lib.itoa i := by
  rw [headT, if_neg (by omega), if_neg (by omega), if_neg (by omega), if_pos h]
theorem headT_loop {p : DProgram} {k n i c : Int} (h : k = 11) : headT p k n i c = nameAt p n ++ 46 :: Go.Lib.itoa i ++ 94 :: Go.Lib.itoa c := by
  rw [headT, if_neg (by omega), if_neg (by omega), if_neg (by omega), if_neg (by omega)]; try simp
theorem call_eq {p : DProgram} {funcs vars : Int} {e : DExpr} (h : Rdb p funcs e vars) (hk : e.fKind = 10) : e.fCount = 0 := by
  have hn := h.st.node
  have h1 := h.st.f1
  unfold nodeOK at hn
  rw [if_pos (.inl hk)] at hn
  obtain ⟨a, b, c⟩ := hn
  exact (c _ (List.getElem?_eq_getElem (by omega))).2.2.2.1 hk
section
variable {p : DProgram} {t : List UInt8} {ex : RSt → DExpr × RSt} {m : DExpr → Int} {D : Int}
theorem innerI_word {w r : List UInt8} {s : RSt} (hw : ∀ c ∈ w, isWB c = true) (hne : w ≠ []) (hr : Stop r) (h : t.drop s.i = w ++ r) : innerI ex p t s = wordI ex t w (s.adv w.length) := by
  have e := wordAt_of h hw fun c l q => (hr c l q).1
  unfold innerI
  rw [if_neg (by
    rw [tkI_no h (fun c l q => by
      cases w with
      | nil => exact absurd rfl hne
      | cons a w => cases q; exact (wb_ne (hw c (List.mem_cons_self ..))).1)]; simp), e, if_neg hne, if_neg (by
    rw [tkI_no (r := r) (drop_on h) fun c l q => (hr c l q).2]; simp)]
theorem innerI_call {w r : List UInt8} {s : RSt} (hb : s.b = false) (hw : ∀ c ∈ w, isWB c = true) (hne : w ≠ []) (h : t.drop s.i = w ++ 46 :: r) : innerI ex p t s = callI ex p t w (s.adv (w.length + 1)) := by
  have e := wordAt_of h hw fun c l q => by cases q; rfl
  have hb2 : (s.adv w.length).b = false := hb
  unfold innerI
  rw [if_neg (by
    rw [tkI_no h (fun c l q => by
      cases w with
      | nil => exact absurd rfl hne
      | cons a w => cases q; exact (wb_ne (hw c (List.mem_cons_self ..))).1)]; simp), e, if_neg hne, if_pos (tkI_of (r := r) hb2 (drop_on h)), adv_adv]
theorem opI_of {k : Int} (hk : 3 ≤ k ∧ k ≤ 6) {s : RSt} {r : List UInt8} (hb : s.b = false) (h : t.drop s.i = signB k :: r) : opI t s = k ∧ opIs t s = s.adv 1 := by
  have key : ∀ d, tkI t [d] s = decide (signB k = d) := fun d => by
    by_cases e : signB k = d
    · rw [decide_eq_true e]; exact tkI_of (r := r) hb (by rw [h, e]; rfl)
    · rw [decide_eq_false e]; exact tkI_no h fun c l q => by cases q; exact e
  unfold opIs opI
  simp only [key]
  rcases sign_kind hk with ⟨rfl, e⟩ | ⟨rfl, e⟩ | ⟨rfl, e⟩ | ⟨rfl, e⟩ <;> simp [e]
theorem binI_done {e a b : DExpr} (hk : 3 ≤ e.fKind ∧ e.fKind ≤ 6) (hab : e.fKids = [a, b]) (he : e = .mk e.fKind 0 0 0 e.fKids) (hx : ∀ x ∈ e.fKids, ExD p t ex m D x) (hm : ∀ x, 0 ≤ m x) {s : RSt} {r : List UInt8} (hb : s.b = false) (hd : s.d = D)
    (hn : s.n + sumM m e.fKids ≤ 400) (h : t.drop s.i = e.txt p ++ r) : innerI ex p t s = (e, s.go (e.txt p).length (sumM m e.fKids)) := by
  have ht := txt_bin (p := p) hk hab
  have h0 : t.drop s.i = 40 :: (a.txt p ++ (32 :: signB e.fKind :: 32 :: (b.txt p ++ (41 :: r)))) := by rw [h, ht]; simp
  have hsum : sumM m e.fKids = m a + m b := by rw [hab]; simp [sumM]
  have pa := hm a
  have pb := hm b
  have s1b : (s.adv 1).b = false := hb
  have h1 : t.drop (s.adv 1).i = a.txt p ++ (32 :: signB e.fKind :: 32 :: (b.txt p ++ (41 :: r))) := drop_on1 h0
  have e1 := hx a (by rw [hab]; exact List.mem_cons_self ..) (s.adv 1) _ s1b hd (by rw [adv_n]; omega) h1 (stop_sp _)
  have h2 : t.drop ((s.adv 1).go (a.txt p).length (m a)).i = 32 :: signB e.fKind :: 32 :: (b.txt p ++ (41 :: r)) := drop_on h1
  have e2 : wantI t [32] ((s.adv 1).go (a.txt p).length (m a)) = ((s.adv 1).go (a.txt p).length (m a)).adv 1 := wantI_of (x := [32]) hb h2
  have h3 := drop_on1 h2
  obtain ⟨e3, e4⟩ := opI_of hk (s := ((s.adv 1).go (a.txt p).length (m a)).adv 1) hb h3
  have h4 := drop_on1 h3
  have e5 : wantI t [32] ((((s.adv 1).go (a.txt p).length (m a)).adv 1).adv 1) = ((((s.adv 1).go (a.txt p).length (m a)).adv 1).adv 1).adv 1 := wantI_of (x := [32]) hb h4
  have h5 := drop_on1 h4
  have e6 := hx b (by rw [hab]; simp) (((((s.adv 1).go (a.txt p).length (m a)).adv 1).adv 1).adv 1) _ hb hd (by simp only [adv_n, go_n]; omega) h5 (stop_cl _)
  have h6 := drop_on h5
  have e7 : wantI t [41] ((((((s.adv 1).go (a.txt p).length (m a)).adv 1).adv 1).adv 1).go (b.txt p).length (m b)) = ((((((s.adv 1).go (a.txt p).length (m a)).adv 1).adv 1).adv 1).go (b.txt p).length (m b)).adv 1 := wantI_of (x := [41]) hb h6
  unfold innerI
  rw [if_pos (tkI_of (x := [40]) hb h0)]
  unfold binI binI1 binI2
  rw [e1]
  simp only []
  rw [e2, e3, e4, decide_eq_false (by omega), orB_false, e5, e6]
  simp only []
  rw [e7, hsum, ht]
  refine Prod.ext ?_ ?_
  · have he2 : e = .mk e.fKind 0 0 0 [a, b] := by rw [← hab]; exact he
    exact he2.symm
  · simp only [adv_adv, go_adv, adv_go, go_go, List.length_cons, List.length_append, List.length_nil]
    congr 1
    omega
theorem wordI_num {n : Int} (h0 : 0 ≤ n) (h1 : n ≤ 1000002) (s : RSt) : wordI ex t (Go.Lib.itoa n) s = (.mk 1 n 0 0 [], s) := by
  obtain ⟨c, l, ec, hc⟩ := itoa_cons h0
  unfold wordI
  rw [if_pos (by rw [ec]; simp [digB, hc.1, hc.2]), rdN_itoa h0 (by omega), decide_eq_true (rdOK_num h0 h1 (by decide))]
  rw [show (!true) = false from rfl, orB_false]
theorem wordI_var {n : Int} (h0 : 0 ≤ n) (h1 : n ≤ 812) (s : RSt) : wordI ex t (120 :: Go.Lib.itoa n) s = (.mk 2 n 0 0 [], s) := by
  unfold wordI
  rw [if_neg (by simp only [List.headD]; decide), if_neg (by simp [neg3]), if_neg (by simp [if2]), if_neg (by simp [let3]), if_pos (show (120 :: Go.Lib.itoa n).headD 0 = 120 from rfl), List.tail_cons, rdN_itoa h0 (by omega), decide_eq_true (rdOK_num h0 h1 (by decide))]
  rw [show (!true) = false from rfl, orB_false]
theorem wordI_neg (s : RSt) : wordI ex t neg3 s = (.mk 7 0 0 0 (listI ex t s).1, (listI ex t s).2) := rfl
theorem wordI_if (s : RSt) : wordI ex t if2 s = (.mk 8 0 0 0 (listI ex t s).1, (listI ex t s).2) := rfl
theorem wordI_let (s : RSt) : wordI ex t let3 s = (.mk 9 0 0 0 (listI ex t s).1, (listI ex t s).2) := rfl
theorem innerI_done (hp : p.ok) {funcs vars : Int} {e : DExpr} (hr : Rdb p funcs e vars) (hm : ∀ x, 0 ≤ m x) (hx : ∀ x ∈ e.fKids, ExD p t ex m D x) {s : RSt} {r : List UInt8} (hb : s.b = false) (hd : s.d = D)
    (hn : s.n + sumM m e.fKids ≤ 400) (h : t.drop s.i = e.txt p ++ r) (hs : Stop r) : innerI ex p t s = (e, s.go (e.txt p).length (sumM m e.fKids)) := by
  have hk := hr.st.kind
  have hnode := hr.st.node
  have hne : ∀ x ∈ e.fKids, ∃ c r, x.txt p = c :: r ∧ c ≠ 41 := fun x hx => by obtain ⟨v, hv⟩ := hr.kid hx; exact txt_cons hp hv
  by_cases k1 : e.fKind = 1
  · have hN := hr.st.num (.inl k1)
    have he := leaf_of hnode (.inl k1)
    have h1 : e.fNum ≤ 1000002 := by
      unfold nodeOK at hnode; rw [if_neg (by omega)] at hnode; have := hnode.2.2.2.1 k1; have := this.2; omega
    have ht : e.txt p = Go.Lib.itoa e.fNum := by rw [DExpr.txt_eq, if_pos k1]
    have hkids : e.fKids = [] := congrArg DExpr.fKids he
    rw [ht] at h ⊢
    rw [innerI_word (fun c hc => isWB_dig (itoa_dig hN.1 c hc)) (itoa_ne hN.1) hs h, wordI_num hN.1 h1, hkids]
    rw [show sumM m [] = 0 from rfl, go_zero]
    rw [he, k1]; rfl
  · by_cases k2 : e.fKind = 2
    · have hN := hr.st.num (.inr k2)
      have he := leaf_of hnode (.inr k2)
      have h1 : e.fNum ≤ 812 := by
        unfold nodeOK at hnode; rw [if_neg (by omega)] at hnode; have := hnode.2.2.2.2.1 k2; have := hr.v; omega
      have ht : e.txt p = 120 :: Go.Lib.itoa e.fNum := by rw [DExpr.txt_eq, if_neg k1, if_pos k2]
      have hkids : e.fKids = [] := congrArg DExpr.fKids he
      rw [ht] at h ⊢
      rw [innerI_word (fun c hc => by
        rcases List.mem_cons.1 hc with rfl | hc
        · rfl
        · exact isWB_dig (itoa_dig hN.1 c hc)) (by simp) hs h, wordI_var hN.1 h1, hkids]
      rw [show sumM m [] = 0 from rfl, go_zero]
      rw [he, k2]; rfl
    · by_cases kb : 3 ≤ e.fKind ∧ e.fKind ≤ 6
      · have h2 := hr.st.two kb
        match hab : e.fKids, h2 with
        | [a, b], _ =>
          rw [← hab]
          exact binI_done kb hab (plain_of hnode (by omega)) hx hm hb hd hn h
      · have ht := txt_list (p := p) (e := e) (by omega)
        have plain : ∀ w : List UInt8, (∀ c ∈ w, isWB c = true) → w ≠ [] → headT p e.fKind e.fNum e.fPick e.fCount = w → 7 ≤ e.fKind ∧ e.fKind ≤ 9 → (∀ s, wordI ex t w s = (.mk e.fKind 0 0 0 (listI ex t s).1, (listI ex t s).2)) →
            innerI ex p t s = (e, s.go (e.txt p).length (sumM m e.fKids)) := fun w hw hwn hh hk9 hwd => by
          rw [ht, hh] at h ⊢
          have h' : t.drop s.i = w ++ (40 :: (semis (e.fKids.map (DExpr.txt p)) ++ 41 :: r)) := by rw [h]; simp
          have hb2 : (s.adv w.length).b = false := hb
          rw [innerI_word hw hwn (stop_bar _) h', hwd, listI_done hm hne hx hb2 hd hn (drop_on h')]
          refine Prod.ext ?_ ?_
          · exact (plain_of hnode (by omega)).symm
          · simp only [adv_go, List.length_append, List.length_cons, List.length_nil]
            try (congr 1; omega)
        by_cases k7 : e.fKind = 7
        · exact plain neg3 (by decide) (by decide) (by rw [headT, if_pos k7]; rfl) (by omega) (by rw [k7]; exact wordI_neg)
        · by_cases k8 : e.fKind = 8
          · exact plain if2 (by decide) (by decide) (by rw [headT, if_neg k7, if_pos k8]; rfl) (by omega) (by rw [k8]; exact wordI_if)
          · by_cases k9 : e.fKind = 9
            · exact plain let3 (by decide) (by decide) (by rw [headT, if_neg k7, if_neg k8, if_pos k9]; rfl) (by omega) (by rw [k9]; exact wordI_let)
            · obtain ⟨f, ef, en, _, z0, z1, hpk, hct⟩ := hr.st.call hp (by omega)
              obtain ⟨n1, n2⟩ := name_wb hp ef
              have hix : nameIx p f.fName = e.fNum := by rw [name_ix hp ef]; omega
              have hbd : e.fPick ≤ 1000002 ∧ e.fCount ≤ 1000002 := by
                have h3 := hr.st.f1
                have h2 := hnode
                unfold nodeOK at h2
                rw [if_pos (by omega)] at h2
                obtain ⟨_, _, c⟩ := h2
                obtain ⟨c1, c2, c3, c4, c5⟩ := c f ef
                have ho := (hp.2 _ _ ef).2.2.1.2
                refine ⟨by omega, ?_⟩
                by_cases k10 : e.fKind = 10
                · have := c4 k10; omega
                · have := (c5 (by omega)).2.1; omega
              by_cases k10 : e.fKind = 10
              · have hc0 := call_eq hr k10
                rw [ht, headT_call k10, en] at h ⊢
                have h1 : t.drop s.i = f.fName ++ 46 :: (Go.Lib.itoa e.fPick ++ (40 :: (semis (e.fKids.map (DExpr.txt p)) ++ 41 :: r))) := by rw [h]; simp
                have h2 := drop_on1 (drop_on h1)
                obtain ⟨a1, a2⟩ := numI_of (s := s.adv (f.fName.length + 1)) hpk.1 hbd.1 (by rw [adv_i, ← Nat.add_assoc]; exact h2) (fun c l q => by cases q; rfl)
                have h3 : t.drop ((s.adv (f.fName.length + 1)).adv (Go.Lib.itoa e.fPick).length).i = 40 :: (semis (e.fKids.map (DExpr.txt p)) ++ 41 :: r) := by
                  rw [adv_i, adv_i, ← Nat.add_assoc]; exact drop_on h2
                have hb3 : ((s.adv (f.fName.length + 1)).adv (Go.Lib.itoa e.fPick).length).b = false := hb
                rw [innerI_call hb n2 n1 h1]
                unfold callI callI2
                rw [hix, decide_eq_false (by omega), orB_false, a1, a2, if_neg (by rw [tkI_no h3 fun c l q => by cases q; decide]; simp), listI_done hm hne hx hb3 hd hn h3]
                refine Prod.ext ?_ ?_
                · rw [DExpr.eq_iff]; exact ⟨k10.symm, rfl, rfl, hc0.symm, rfl⟩
                · simp only [adv_go, adv_adv, List.length_append, List.length_cons, List.length_nil]
                  congr 1; omega
              · have k11 : e.fKind = 11 := by omega
                rw [ht, headT_loop k11, en] at h ⊢
                have h1 : t.drop s.i = f.fName ++ 46 :: (Go.Lib.itoa e.fPick ++ (94 :: (Go.Lib.itoa e.fCount ++ (40 :: (semis (e.fKids.map (DExpr.txt p)) ++ 41 :: r))))) := by rw [h]; simp
                have h2 := drop_on1 (drop_on h1)
                obtain ⟨a1, a2⟩ := numI_of (s := s.adv (f.fName.length + 1)) hpk.1 hbd.1 (by rw [adv_i, ← Nat.add_assoc]; exact h2) (fun c l q => by cases q; rfl)
                have h3 : t.drop ((s.adv (f.fName.length + 1)).adv (Go.Lib.itoa e.fPick).length).i = 94 :: (Go.Lib.itoa e.fCount ++ (40 :: (semis (e.fKids.map (DExpr.txt p)) ++ 41 :: r))) := by
                  rw [adv_i, adv_i, ← Nat.add_assoc]; exact drop_on h2
                have hb3 : ((s.adv (f.fName.length + 1)).adv (Go.Lib.itoa e.fPick).length).b = false := hb
                have h4 := drop_on1 h3
                obtain ⟨a3, a4⟩ := numI_of (s := ((s.adv (f.fName.length + 1)).adv (Go.Lib.itoa e.fPick).length).adv 1) hct.1 hbd.2 h4 (fun c l q => by cases q; rfl)
                have h5 := drop_on h4
                have hb5 : ((((s.adv (f.fName.length + 1)).adv (Go.Lib.itoa e.fPick).length).adv 1).adv (Go.Lib.itoa e.fCount).length).b = false := hb
                rw [innerI_call hb n2 n1 h1]
                unfold callI callI2
                rw [hix, decide_eq_false (by omega), orB_false, a1, a2, if_pos (tkI_of (x := [94]) hb3 h3), a3, a4, listI_done hm hne hx hb5 hd hn h5]
                refine Prod.ext ?_ ?_
                · rw [DExpr.eq_iff]; exact ⟨k11.symm, rfl, rfl, rfl, rfl⟩
                · simp only [adv_go, adv_adv, List.length_append, List.length_cons, List.length_nil]
                  congr 1; omega
end
theorem dL_mem {x : DExpr} : ∀ {l : List DExpr}, x ∈ l → x.d ≤ DExpr.dL l
  | y :: l, h => by
    rw [DExpr.dL]
    rcases List.mem_cons.1 h with rfl | h
    · omega
    · have := dL_mem h; omega
theorem exI_done {p : DProgram} (hp : p.ok) {funcs : Int} {t : List UInt8} (e : DExpr) (vars : Int) (hr : Rdb p funcs e vars) (n : Nat) (hn : e.d ≤ n) (D : Int) (hD : D + e.d ≤ 60) : ExD p t (exI p t n) (fun _ => 0) D e := by
  intro s r hb hd hq h hs
  have hd1 := e.d_eq
  match n, hn with
  | 0, hn => omega
  | k + 1, hn =>
    have hx : ∀ x ∈ e.fKids, ExD p t (exI p t k) (fun _ => 0) (D + 1) x := fun x hx => by
      obtain ⟨v, hv⟩ := hr.kid hx
      have h1 := dL_mem hx
      have h2 := DExpr.kid_s hx
      exact exI_done hp x v hv k (by omega) (D + 1) (by omega)
    have h0 : sumM (fun _ => 0) e.fKids = 0 := by
      have : ∀ l : List DExpr, sumM (fun _ => 0) l = 0 := fun l => by
        induction l with
        | nil => rfl
        | cons x l ih => simp [sumM, ih]
      exact this _
    have key := innerI_done hp hr (fun _ => Int.le_refl _) hx (s := deeper s 1) (r := r) hb (by show s.d + 1 = _; rw [hd]) (by rw [h0]; exact hq) h hs
    rw [h0] at key
    rw [exI, if_neg (by rw [hb, hd]; simp; omega), key]
    simp only [deeper, RSt.go]
    congr 2
    omega
termination_by e.s
open Go.Proofs
set_option linter.unusedVariables false
set_option linter.unusedSimpArgs false
section
variable {p : DProgram} {t : List UInt8} {ex : RSt → DExpr × RSt} {m : DExpr → Int} {D : Int}
end
open Go.Proofs
set_option linter.unusedVariables false
set_option linter.unusedSimpArgs false
/-- The program's reader in its box. -/
def rdr (p : DProgram) (t : List UInt8) (s : RSt) : HObj := .row 5 [[.v (sls 3 DFunc.c p.fFuncs), .v (.str t), .v (I s.i), .v (.bool s.b), .v (I s.d)]]
theorem hasB_short {t x : List UInt8} {i : Nat} (h : ¬ x.length ≤ t.length - i) : hasB t i x = false := by
  unfold hasB
  rw [decide_eq_false]
  intro e
  have := congrArg List.length e
  rw [List.length_take, List.length_drop] at this
  omega
def keep106 : List Nat := [0, 1, 4]
def ib106 : List Nat := []
def mk106 : Marks := fun _ => ([], .nil, [])
theorem litePrefix (a x : List UInt8) : Fn0 Tryz.prog 106 [.str a, .str x] (.bool (hasB a 0 x)) := by
  refine fn0F 18 keep106 ib106 mk106 mix Tryz.func106 rfl (by kernel_rfl) (by simp) fun h => ?_
  simp (maxSteps := 1000000) -dsimp -implicitDefEqProofs only [go_sem, ↓reduceIte, keep106, ib106, mk106, Tryz.f106]
  repeat' (with_reducible first | intro _ | refine And.intro ?_ ?_)
  all_goals try (first | omega | (unfold hasB; simp; done))
  rw [hasB_short (by omega)]
def keep94 : List Nat := [0, 1, 4]
def ib94 : List Nat := []
def mk94 : Marks := fun _ => ([], .nil, [])
theorem hasPrefix (a x : List UInt8) : Fn0 Tryz.prog 94 [.str a, .str x] (.bool (hasB a 0 x)) := by
  refine fn0F 8 keep94 ib94 mk94 mix Tryz.func94 rfl (by kernel_rfl) (by simp) fun h => ?_
  simp (maxSteps := 1000000) -dsimp -implicitDefEqProofs only [go_sem, ↓reduceIte, keep94, ib94, mk94, Tryz.f94]
  first | refine HFnF.mk (litePrefix a x) ?_ | refine CallSF.mk (litePrefix a x) ?_ | refine HFnF.mkAt (litePrefix a x) ?_ | refine CallSF.mk (FnAt.fn0 (litePrefix a x)) ?_
  simp (maxSteps := 1000000) -dsimp -implicitDefEqProofs only [go_sem, ↓reduceIte, keep94, ib94, mk94, Tryz.f94]
def keep73 : List Nat := [0, 1, 4, 22]
def ib73 : List Nat := []
def mk73 : Marks := fun id => match id with | 1 => ([3, 8, 12], (.op 0 (.op 1 (.op 2 (.op 3 (.op 4 (.op 5 (.op 6 (.op 7 (.op 9 (.op 10 (.op 11 (.op 14 (.op 8 (.op 12 (.op 13 (.op 15 (.op 16 (.op 17 .nil)))))))))))))))))), []) | _ => ([], .nil, [])
theorem takeI {nb : Nat} {p : DProgram} {t : List UInt8} (ht : t.length ≤ 1048600) (x : List UInt8) (hx : x.length ≤ 100) {s : RSt} (g0 : Good 63 t s) {g : Heap} (hg : g nb = some (rdr p t s)) :
    HFn Tryz.prog 73 [.op nb 5 0 0, .str x] g fun r h' => r = .bool (tkI t x s) ∧ h' = upd g nb (rdr p t (if tkI t x s then s.adv x.length else s)) := by
  have hB : hasB (t.drop s.i) 0 x = hasB t s.i x := by simp [hasB]
  have hi := g0.hi
  have hlen := fun h => tkI_len (x := x) g0 h
  unfold tkI at hlen ⊢
  unfold rdr at hg
  refine fnHF 32 keep73 ib73 mk73 mix Tryz.func73 rfl (by kernel_rfl) (by simp) ?_
  simp (maxSteps := 1000000) -dsimp -implicitDefEqProofs only [go_sem, ↓reduceIte, keep73, ib73, mk73, Tryz.f73, hg, Option.toArray_none, Option.toArray_some, List.filterMap_cons, List.filterMap_nil, List.elem_cons_self, List.nil_append, List.append_nil, List.toList_toArray, List.take_length]
  repeat' (with_reducible first | intro _ | refine And.intro ?_ ?_)
  all_goals try omega
  · first | refine HFnF.mk (hasPrefix (t.drop s.i) x) ?_ | refine CallSF.mk (hasPrefix (t.drop s.i) x) ?_ | refine HFnF.mkAt (hasPrefix (t.drop s.i) x) ?_ | refine CallSF.mk (FnAt.fn0 (hasPrefix (t.drop s.i) x)) ?_
    simp (maxSteps := 1000000) -dsimp -implicitDefEqProofs only [go_sem, ↓reduceIte, keep73, ib73, mk73, Tryz.f73, hg, Option.toArray_none, Option.toArray_some, List.filterMap_cons, List.filterMap_nil, List.elem_cons_self, List.nil_append, List.append_nil, List.toList_toArray]
    rw [hB]
    repeat' (with_reducible first | intro _ | refine And.intro ?_ ?_)
    · exact ⟨g, Heap.le_refl _, by simp [*], by rw [if_neg (by simp [*])]; exact (upd_self (o := rdr p t s) hg).symm⟩
    · have q := hlen (by simp [*])
      rw [IntWalk.i64_in _ (by omega)]
      exact ⟨_, Heap.le_refl _, by simp [*], by rw [if_pos (by simp [*])]; rfl⟩
  · exact ⟨g, Heap.le_refl _, by simp [*], by rw [if_neg (by simp [*])]; exact (upd_self (o := rdr p t s) hg).symm⟩
def keep74 : List Nat := [0, 1, 7]
def ib74 : List Nat := []
def mk74 : Marks := fun _ => ([], .nil, [])
theorem wantIH {nb : Nat} {p : DProgram} {t : List UInt8} (ht : t.length ≤ 1048600) (x : List UInt8) (hx : x.length ≤ 100) {s : RSt} (g0 : Good 63 t s) {g : Heap} (hg : g nb = some (rdr p t s)) :
    HFn Tryz.prog 74 [.op nb 5 0 0, .str x] g fun r h' => r = .tup [] ∧ h' = upd g nb (rdr p t (wantI t x s)) := by
  have hT := takeI ht x hx g0 hg
  have hw : wantI t x s = if tkI t x s then s.adv x.length else s.fail := rfl
  rw [hw]
  cases hk : tkI t x s
  · rw [hk] at hT
    refine fnHF 11 keep74 ib74 mk74 mix Tryz.func74 rfl (by kernel_rfl) (by simp) ?_
    simp (maxSteps := 1000000) -dsimp -implicitDefEqProofs only [go_sem, ↓reduceIte, keep74, ib74, mk74, Tryz.f74]
    refine HFnF.mkH hT ?_
    rintro r_ h' ⟨rfl, rfl⟩
    simp (maxSteps := 1000000) -dsimp -implicitDefEqProofs only [go_sem, ↓reduceIte, keep74, ib74, mk74, Tryz.f74, rdr, Bool.false_eq_true, upd_upd]
    exact ⟨_, Heap.le_refl _, rfl⟩
  · rw [hk] at hT
    refine fnHF 11 keep74 ib74 mk74 mix Tryz.func74 rfl (by kernel_rfl) (by simp) ?_
    simp (maxSteps := 1000000) -dsimp -implicitDefEqProofs only [go_sem, ↓reduceIte, keep74, ib74, mk74, Tryz.f74]
    refine HFnF.mkH hT ?_
    rintro r_ h' ⟨rfl, rfl⟩
    simp (maxSteps := 1000000) -dsimp -implicitDefEqProofs only [go_sem, ↓reduceIte, keep74, ib74, mk74, Tryz.f74]
    exact ⟨_, Heap.le_refl _, rfl⟩
theorem tw_get {α : Type} (f : α → Bool) : ∀ (l : List α) (k : Nat), k < (l.takeWhile f).length → ∃ c, l[k]? = some c ∧ f c = true
  | [], k, h => by simp at h
  | a :: l, k, h => by
    by_cases ha : f a = true
    · rw [List.takeWhile_cons_of_pos ha] at h
      cases k with
      | zero => exact ⟨a, rfl, ha⟩
      | succ k => exact tw_get f l k (by simpa using h)
    · rw [List.takeWhile_cons_of_neg ha] at h; simp at h
theorem wordAt_at {t : List UInt8} {i k : Nat} (hk : k < (wordAt t i).length) : ∃ c, t[i + k]? = some c ∧ isWB c = true := by
  obtain ⟨c, h1, h2⟩ := tw_get isWB (t.drop i) k hk
  exact ⟨c, by rw [List.getElem?_drop] at h1; exact h1, h2⟩
theorem wordAt_end {t : List UInt8} {i : Nat} {c : UInt8} (h : t[i + (wordAt t i).length]? = some c) : isWB c = false := by
  cases e : isWB c with
  | false => rfl
  | true =>
    exfalso
    have hp : wordAt t i <+: t.drop i := List.takeWhile_prefix _
    have h2 : (t.drop i)[(wordAt t i).length]? = some c := by rw [List.getElem?_drop]; exact h
    have key : ∀ l : List UInt8, ∀ c, l[(l.takeWhile isWB).length]? = some c → isWB c = false := fun l => by
      induction l with
      | nil => intro c h; simp at h
      | cons a l ih =>
        intro c h
        by_cases ha : isWB a = true
        · rw [List.takeWhile_cons_of_pos ha, List.length_cons, List.getElem?_cons_succ] at h
          exact ih c h
        · rw [List.takeWhile_cons_of_neg ha] at h
          simp at h; subst h; simpa using ha
    have := key _ _ h2
    rw [e] at this; cases this
theorem wordAt_slice {t : List UInt8} {i : Nat} : (t.take (i + (wordAt t i).length)).drop i = wordAt t i := by
  have hp : wordAt t i <+: t.drop i := List.takeWhile_prefix _
  rw [List.drop_take, Nat.add_sub_cancel_left]
  exact (List.prefix_iff_eq_take.1 hp).symm
def keep75 : List Nat := [0, 2, 3, 65]
def ib75 : List Nat := []
def mk75 : Marks := fun id => match id with | 2 => ([3, 7, 14, 18, 25, 29, 37, 41, 48, 52], (.op 0 (.op 1 (.op 2 (.op 4 (.op 5 (.op 6 (.op 3 (.op 7 (.op 8 (.op 9 (.op 10 (.op 11 (.op 12 (.op 13 (.op 15 (.op 16 (.op 17 (.op 14 (.op 18 (.op 19 (.op 20 (.op 21 (.op 22 (.op 23 (.op 24 (.op 26 (.op 27 (.op 28 (.op 25 (.op 29 (.op 30 (.op 31 (.op 32 (.op 33 (.op 34 (.op 35 (.op 36 (.op 38 (.op 39 (.op 40 (.op 37 (.op 41 (.op 42 (.op 43 (.op 44 (.op 45 (.op 46 (.op 47 (.op 49 (.op 50 (.op 51 (.op 48 (.op 52 (.op 53 (.op 54 (.op 55 (.op 56 (.op 57 .nil)))))))))))))))))))))))))))))))))))))))))))))))))))))))))), []) | 4 => ([3, 8], (.op 0 (.op 1 (.op 2 (.op 4 (.op 5 (.op 6 (.op 7 (.op 3 (.op 8 (.op 9 (.op 10 .nil))))))))))), []) | _ => ([], .nil, [])
set_option maxRecDepth 100000 in
theorem runI {nb : Nat} {p : DProgram} {t : List UInt8} (ht : t.length ≤ 1048600) {s : RSt} (g0 : Good 63 t s) {g : Heap} (hg : g nb = some (rdr p t s)) :
    HFn Tryz.prog 75 [.op nb 5 0 0] g fun r h' => r = .str (wordAt t s.i) ∧ h' = upd g nb (rdr p t (s.adv (wordAt t s.i).length)) := by
  have hi := g0.hi
  have hwl := wordAt_len hi
  have hg1 := hg
  unfold rdr at hg
  refine fnHF 83 keep75 ib75 mk75 mix Tryz.func75 rfl (by kernel_rfl) (by simp) ?_
  simp (maxSteps := 1000000) -dsimp -implicitDefEqProofs only [go_sem, ↓reduceIte, keep75, ib75, mk75, Tryz.f75, hg]
  refine loopF (keep := keep75) (ib := ib75) (mk := mk75) mix (by kernel_rfl) (fun k : Nat => [(0, .op nb 5 0 0), (3, I s.i)]) (fun k => upd g nb (rdr p t (s.adv k))) (fun k => k ≤ (wordAt t s.i).length) (fun k => (wordAt t s.i).length - k) 0 ⟨by simp [SatL, tget], by rw [show s.adv 0 = s from rfl, upd_self hg1]; exact Heap.le_refl _, Nat.zero_le _⟩ ?_
  intro k hk
  rcases Nat.lt_or_ge k (wordAt t s.i).length with hlt | hge
  · obtain ⟨c, hc, hwb⟩ := wordAt_at hlt
    have hwb2 : (97 ≤ c.toNat ∧ c.toNat ≤ 122) ∨ (48 ≤ c.toNat ∧ c.toNat ≤ 57) := by simpa [isWB] using hwb
    have hlt2 : s.i + k < t.length := by omega
    simp (maxSteps := 1000000) -dsimp -implicitDefEqProofs only [go_sem, ↓reduceIte, keep75, ib75, mk75, Tryz.f75, rdr, RSt.adv, Option.toArray_none, Option.toArray_some, List.filterMap_cons, List.filterMap_nil, List.elem_cons_self, List.nil_append, List.append_nil, List.toList_toArray, hc]
    repeat' (with_reducible first | intro _ | refine And.intro ?_ ?_)
    all_goals first
      | (exfalso; omega)
      | omega
      | (rw [IntWalk.i64_in _ (by omega)]; exact ⟨k + 1, by rw [upd_upd]; exact Heap.le_refl _, by omega, by omega⟩)
  · have hk' : k = (wordAt t s.i).length := by omega
    subst hk'
    have hsl := wordAt_slice (t := t) (i := s.i)
    rcases Nat.lt_or_ge (s.i + (wordAt t s.i).length) t.length with hlt | hge
    · have hc : t[s.i + (wordAt t s.i).length]? = some t[s.i + (wordAt t s.i).length] := List.getElem?_eq_getElem hlt
      have hwb := wordAt_end hc
      generalize t[s.i + (wordAt t s.i).length] = c at hc hwb
      have hwb2 : ¬ ((97 ≤ c.toNat ∧ c.toNat ≤ 122) ∨ (48 ≤ c.toNat ∧ c.toNat ≤ 57)) := fun q => by
        have : isWB c = true := by simpa [isWB] using q
        rw [hwb] at this; cases this
      simp (maxSteps := 1000000) -dsimp -implicitDefEqProofs only [go_sem, ↓reduceIte, keep75, ib75, mk75, Tryz.f75, rdr, RSt.adv, Option.toArray_none, Option.toArray_some, List.filterMap_cons, List.filterMap_nil, List.elem_cons_self, List.nil_append, List.append_nil, List.toList_toArray, hc]
      repeat' (with_reducible first | intro _ | refine And.intro ?_ ?_)
      all_goals first
        | (exfalso; omega)
        | omega
        | exact ⟨_, Heap.le_refl _, by rw [hsl], rfl⟩
    · simp (maxSteps := 1000000) -dsimp -implicitDefEqProofs only [go_sem, ↓reduceIte, keep75, ib75, mk75, Tryz.f75, rdr, RSt.adv, Option.toArray_none, Option.toArray_some, List.filterMap_cons, List.filterMap_nil, List.elem_cons_self, List.nil_append, List.append_nil, List.toList_toArray]
      repeat' (with_reducible first | intro _ | refine And.intro ?_ ?_)
      all_goals first
        | (exfalso; omega)
        | omega
        | exact ⟨_, Heap.le_refl _, by rw [hsl], rfl⟩
open Go.Proofs
set_option linter.unusedVariables false
set_option linter.unusedSimpArgs false
def keep96 : List Nat := [0, 2, 3, 4]
def ib96 : List Nat := []
def mk96 : Marks := fun _ => ([], .nil, [])
theorem numberI {nb : Nat} {p : DProgram} {t : List UInt8} (ht : t.length ≤ 1048600) {s : RSt} (g0 : Good 63 t s) {g : Heap} (hg : g nb = some (rdr p t s)) :
    HFn Tryz.prog 96 [.op nb 5 0 0] g fun r h' => r = I (numI t s) ∧ h' = upd g nb (rdr p t (numIs t s)) := by
  have hwl := wordAt_len g0.hi
  refine fnHF 23 keep96 ib96 mk96 mix Tryz.func96 rfl (by kernel_rfl) (by simp) ?_
  simp (maxSteps := 1000000) -dsimp -implicitDefEqProofs only [go_sem, ↓reduceIte, keep96, ib96, mk96, Tryz.f96]
  refine HFnF.mkH (runI ht g0 hg) ?_
  rintro r_ h' ⟨rfl, rfl⟩
  simp (maxSteps := 1000000) -dsimp -implicitDefEqProofs only [go_sem, ↓reduceIte, keep96, ib96, mk96, Tryz.f96]
  first | refine HFnF.mk (readDecimal (wordAt t s.i) 1000002 (by omega) (by omega)) ?_ | refine CallSF.mk (readDecimal (wordAt t s.i) 1000002 (by omega) (by omega)) ?_ | refine HFnF.mkAt (readDecimal (wordAt t s.i) 1000002 (by omega) (by omega)) ?_ | refine CallSF.mk (FnAt.fn0 (readDecimal (wordAt t s.i) 1000002 (by omega) (by omega))) ?_
  simp (maxSteps := 1000000) -dsimp -implicitDefEqProofs only [go_sem, ↓reduceIte, keep96, ib96, mk96, Tryz.f96, rdr, Option.toArray_none, Option.toArray_some, List.filterMap_cons, List.filterMap_nil, List.elem_cons_self, List.nil_append, List.append_nil, List.toList_toArray]
  refine ⟨fun hb => ⟨_, by rw [upd_upd]; exact Heap.le_refl _, rfl, ?_⟩, fun hb => ⟨_, by rw [upd_upd]; exact Heap.le_refl _, rfl, ?_⟩⟩
  · simp [numIs, RSt.orB, hb]
  · simp [numIs, RSt.orB, hb]
open Go.Proofs
set_option linter.unusedVariables false
set_option linter.unusedSimpArgs false
/-- A method of a struct in a box, that hands back new own rows. -/
def BX (P : Program) (f : FuncId) (args : List HVal) (nb : Nat) (R R' : HObj) (Q : HVal → List (Nat × HObj) → Prop) : Prop :=
  ∀ B : Heap, B nb = none → HFn P f args (upd B nb R) fun r h' => ∃ l g', Q r l ∧ New B l g' ∧ g' nb = none ∧ h' = upd g' nb R'
theorem lsI_bad {ex : RSt → DExpr × RSt} {t : List UInt8} {s : RSt} (h : s.b = true) : ∀ (n : Nat) (kids : List DExpr), lsI ex t n kids s = ([], s)
  | 0, _ => rfl
  | n + 1, _ => by rw [lsI, if_pos h]
def keep77 : List Nat := [0, 2, 3, 8, 14, 21]
def ib77 : List Nat := [4, 18]
def mk77 : Marks := fun _ => ([], .nil, [])
set_option maxRecDepth 100000 in
set_option maxHeartbeats 1000000 in
theorem listIH {nb : Nat} {p : DProgram} {t : List UInt8} (ht : t.length ≤ 1048600) {ex : RSt → DExpr × RSt} (hex : ExB t ex)
    {D : Int} (hcall : ∀ s, Good 62 t s → (s.b = false → s.d = D) → BX Tryz.prog 56 [.op nb 5 0 0] nb (rdr p t s) (rdr p t (ex s).2) (QA (ex s).1.o)) {s : RSt} (g0 : Good 62 t s) (hd0 : s.b = false → s.d = D) :
    BX Tryz.prog 77 [.op nb 5 0 0] nb (rdr p t s) (rdr p t (listI ex t s).2) (QS (OS DExpr.o 5 (listI ex t s).1)) := by
  intro B hB
  have hw1 := wantI_b (x := [40]) g0
  have g1 := hw1.good g0
  have hd1 : (wantI t [40] s).b = false → (wantI t [40] s).d = D := fun q => by
    have q1 := hw1.ok q
    rw [q1.2.1]; exact hd0 q1.1
  refine fnKF 25 keep77 ib77 mk77 mix Tryz.func77 rfl (by kernel_rfl) (by simp) ?_
  simp (maxSteps := 1000000) -dsimp -implicitDefEqProofs only [go_sem, ↓reduceIte, keep77, ib77, mk77, Tryz.f77]
  refine ⟨by decide, ?_⟩
  refine HFnF.mkH (wantIH ht [40] (by simp) (g0.le) (upd_same ..)) ?_
  rintro r_ h' ⟨rfl, rfl⟩
  rw [upd_upd]
  simp (maxSteps := 1000000) -dsimp -implicitDefEqProofs only [go_sem, ↓reduceIte, keep77, ib77, mk77, Tryz.f77]
  refine HFnF.mkH (takeI ht [41] (by simp) g1.le (upd_same ..)) ?_
  rintro r_ h' ⟨rfl, rfl⟩
  rw [upd_upd]
  cases hk : tkI t [41] (wantI t [40] s)
  · have hL : listI ex t s = lsI ex t (t.length + 1) [] (wantI t [40] s) := by rw [listI, if_neg (by rw [hk]; simp)]
    rw [hL]
    generalize wantI t [40] s = s1 at *
    simp (maxSteps := 1000000) -dsimp -implicitDefEqProofs only [go_sem, ↓reduceIte, keep77, ib77, mk77, Tryz.f77]
    generalize hR : lsI ex t (t.length + 1) [] s1 = R
    refine loopF (keep := keep77) (ib := ib77) (mk := mk77) mix (by kernel_rfl) (fun x : Nat × List DExpr × RSt × List (List OV) × Heap × Option Nat => [(0, .op nb 5 0 0), (3, oval 5 x.2.2.2.1.length x.2.2.2.2.2)]) (fun x => upd (oheap x.2.2.2.2.1 (.row 5 (OV.cells x.2.2.2.1)) x.2.2.2.2.2) nb (rdr p t x.2.2.1)) (fun x => Good 62 t x.2.2.1 ∧ (x.2.2.1.b = false → t.length + 1 ≤ x.1 + x.2.2.1.i) ∧ lsI ex t x.1 x.2.1 x.2.2.1 = R ∧ OR DExpr.o x.2.1 x.2.2.2.1 ∧ New B (OV.rowsRows x.2.2.2.1) x.2.2.2.2.1 ∧ x.2.2.2.2.1 nb = none ∧ gside x.2.2.2.2.1 x.2.2.2.1 x.2.2.2.2.2 ∧ (∀ m, x.2.2.2.2.2 = some m → ¬ m = nb) ∧ x.2.2.2.1.length + x.1 = t.length + 1 ∧ (x.2.2.1.b = false → x.2.2.1.d = D)) (fun x => x.1) (t.length + 1, [], s1, [], B, none) ⟨by simp [SatL, tget, oval], Heap.le_refl _, g1, fun _ => Nat.le_add_right _ _, hR, trivial, New.nil B, hB, rfl, by simp, by simp, hd1⟩ ?_
    rintro ⟨n, kids, s, es, g, o⟩ ⟨gs, hn, hls, hor, hnew, znb, hos, hon, hrn, hds⟩
    simp only at gs hn hls hor hnew znb hos hon hrn hds ⊢
    have hi := gs.hi
    have hlen := hor.length
    cases hb : s.b with
    | true =>
      rw [lsI_bad hb] at hls
      subst hls
      have hbr : rdr p t s = .row 5 [[.v (sls 3 DFunc.c p.fFuncs), .v (.str t), .v (I s.i), .v (.bool true), .v (I s.d)]] := by rw [rdr, hb]
      simp (maxSteps := 1000000) -dsimp -implicitDefEqProofs only [go_sem, ↓reduceIte, keep77, ib77, mk77, Tryz.f77, hbr]
      have hle : B.le (oheap g (.row 5 (OV.cells es)) o) := by
        cases o with
        | none => exact hnew.le
        | some m => rw [gside_some] at hos; exact (le_upd (Heap.le_none hnew.le hos)).2 hnew.le
      exact ⟨_, _, Shift.of (Sub.nil 5 true) (Heap.le_both hle), _, _, ⟨.nil 5, OS.nil, rfl, rfl⟩, by rw [OV.nil_rows]; exact New.nil B, hB, rfl⟩
    | false =>
      have hn := hn hb
      match n, hn with
      | 0, hn => omega
      | n + 1, hn =>
      have hbr : rdr p t s = .row 5 [[.v (sls 3 DFunc.c p.fFuncs), .v (.str t), .v (I s.i), .v (.bool false), .v (I s.d)]] := by rw [rdr, hb]
      rw [lsI, if_neg (by rw [hb]; simp)] at hls
      have hx := hex.ok gs hb
      have gx := hx.good gs
      cases o with
      | none =>
        rw [gside_none] at hos
        subst hos
        obtain rfl : kids = [] := List.length_eq_zero_iff.1 hlen
        simp only [oheap_none, oval_none] at *
        simp (maxSteps := 1000000) -dsimp -implicitDefEqProofs only [go_sem, ↓reduceIte, keep77, ib77, mk77, Tryz.f77, hbr]
        rw [← hbr]
        refine HFnF.mkH (hcall s gs hds g znb) ?_
        rintro r_ h' ⟨l, g2, ⟨e, oe, rfl, rfl⟩, w2, z2, rfl⟩
        have oe1 := oe
        rw [DExpr.o_iff] at oe1
        obtain ⟨y4, rfl, os4⟩ := oe1
        simp (maxSteps := 1000000) -dsimp -implicitDefEqProofs only [go_sem, ↓reduceIte, keep77, ib77, mk77, Tryz.f77, OV.map_val, OV.map_val_nil, OV.val_v, os4.flat, os4.one]
        refine ⟨by decide, by decide, by decide, fun m q => ?_⟩
        have hm2 : g2 m = none := by grind
        have hmn : ¬ m = nb := by grind
        refine HFnF.wk (g := upd (upd g2 m (.row 5 (OV.cells (([] : List (List OV)) ++ [[.v (.int .i64 (ex s).1.fKind), .v (.int .i64 (ex s).1.fNum), .v (.int .i64 (ex s).1.fPick), .v (.int .i64 (ex s).1.fCount), y4]])))) nb (rdr p t (ex s).2)) (Heap.wk_of_le (by
          intro q_
          simp only [upd_get, cells_snoc, take_cells, cells_len, cells_one, cells_nil, OV.map_val, OV.map_val_nil, OV.val_v, List.nil_append, List.map_cons, List.map_nil]
          grind)) ?_
        have hd2 : (wantI t [59, 32] (ex s).2).b = false → (wantI t [59, 32] (ex s).2).d = D := fun q => by
          have q1 := (wantI_b (x := [59, 32]) gx).ok q
          have q2 := hx.ok q1.1
          rw [q1.2.1, q2.2.1]; exact hds q2.1
        have hx2 : tkI t [41] (ex s).2 = true ∨ tkI t [41] (ex s).2 = false := by cases tkI t [41] (ex s).2 <;> simp
        refine HFnF.mkH (takeI ht [41] (by simp) gx.le (upd_same ..)) ?_
        rintro r_ h' ⟨rfl, rfl⟩
        rw [upd_upd]
        have hnew2 := New.snoc hnew w2
        have hor2 := OR.append hor (l' := [(ex s).1]) (es' := [_]) ⟨oe, trivial⟩
        rcases hx2 with hk2 | hk2
        · rw [if_pos hk2] at hls
          subst hls
          simp (maxSteps := 1000000) -dsimp -implicitDefEqProofs only [go_sem, ↓reduceIte, keep77, ib77, mk77, Tryz.f77, hk2]
          refine ⟨_, _, shift_self _ _, _, upd g2 m (.row 5 (OV.cells (([] : List (List OV)) ++ [[.v (.int .i64 (ex s).1.fKind), .v (.int .i64 (ex s).1.fNum), .v (.int .i64 (ex s).1.fPick), .v (.int .i64 (ex s).1.fCount), y4]]))), ⟨.sl m 5 (([] : List (List OV)) ++ [[.v (.int .i64 (ex s).1.fKind), .v (.int .i64 (ex s).1.fNum), .v (.int .i64 (ex s).1.fPick), .v (.int .i64 (ex s).1.fCount), y4]]), OS.mk hor2, by simp [OV.val_sl], rfl⟩, by rw [OV.sl_rows]; exact hnew2.row hm2, by rw [upd_ne _ _ _ _ (fun e => hmn e.symm)]; exact z2, rfl⟩
        · rw [if_neg (by rw [hk2]; simp)] at hls
          simp (maxSteps := 1000000) -dsimp -implicitDefEqProofs only [go_sem, ↓reduceIte, keep77, ib77, mk77, Tryz.f77, hk2, Bool.false_eq_true]
          refine HFnF.mkH (wantIH ht [59, 32] (by simp) gx.le (upd_same ..)) ?_
          rintro r_ h' ⟨rfl, rfl⟩
          rw [upd_upd]
          simp (maxSteps := 1000000) -dsimp -implicitDefEqProofs only [go_sem, ↓reduceIte, keep77, ib77, mk77, Tryz.f77]
          refine ⟨(n, [] ++ [(ex s).1], wantI t [59, 32] (ex s).2, ([] : List (List OV)) ++ [[.v (.int .i64 (ex s).1.fKind), .v (.int .i64 (ex s).1.fNum), .v (.int .i64 (ex s).1.fPick), .v (.int .i64 (ex s).1.fCount), y4]], g2, some m), by simp [oval_some], Heap.le_refl _, ⟨(wantI_b gx).good gx, fun q => ?_, hls, hor2, hnew2, z2, hm2, fun a e => by cases e; exact hmn, by simp at hrn ⊢; omega, hd2⟩, Nat.lt_succ_self _⟩
          have hlo := hx.lo
          simp only [] at q ⊢
          rw [(wantI_ok q).2, adv_i]
          simp only [List.length_cons, List.length_nil]
          omega
      | some m0 =>
        rw [gside_some] at hos
        have hm0 : ¬ m0 = nb := hon m0 rfl
        simp only [oheap_some, oval_some] at *
        simp (maxSteps := 1000000) -dsimp -implicitDefEqProofs only [go_sem, ↓reduceIte, keep77, ib77, mk77, Tryz.f77, hbr]
        rw [← hbr]
        refine HFnF.mkH (hcall s gs hds (upd g m0 (.row 5 (OV.cells es))) (by rw [upd_ne _ _ _ _ (fun e => hm0 e.symm)]; exact znb)) ?_
        rintro r_ h' ⟨l, g3, ⟨e, oe, rfl, rfl⟩, w3, z3, rfl⟩
        obtain ⟨g2, rfl, w2, z20⟩ := w3.under hos
        have z2 : g2 nb = none := by rwa [upd_ne _ _ _ _ (fun e => hm0 e.symm)] at z3
        have oe1 := oe
        rw [DExpr.o_iff] at oe1
        obtain ⟨y4, rfl, os4⟩ := oe1
        have hm0' : (m0 = nb) = False := eq_false hm0
        simp (maxSteps := 1000000) -dsimp -implicitDefEqProofs only [go_sem, ↓reduceIte, keep77, ib77, mk77, Tryz.f77, OV.map_val, OV.map_val_nil, OV.val_v, os4.flat, os4.one, hm0', upd_get, cells_len]
        refine ⟨by decide, by decide, by decide, Nat.le_refl _, by omega, by omega, fun m q => ?_⟩
        have hm2 : g2 m = none := by grind
        have hmn : ¬ m = nb := by grind
        refine HFnF.wk (g := upd (upd g2 m (.row 5 (OV.cells (es ++ [[.v (.int .i64 (ex s).1.fKind), .v (.int .i64 (ex s).1.fNum), .v (.int .i64 (ex s).1.fPick), .v (.int .i64 (ex s).1.fCount), y4]])))) nb (rdr p t (ex s).2)) (Heap.wk_of_le (by
          intro q_
          simp only [upd_get, cells_snoc, take_cells, cells_len, cells_one, cells_nil, OV.map_val, OV.map_val_nil, OV.val_v, List.nil_append, List.map_cons, List.map_nil]
          grind)) ?_
        have hd2 : (wantI t [59, 32] (ex s).2).b = false → (wantI t [59, 32] (ex s).2).d = D := fun q => by
          have q1 := (wantI_b (x := [59, 32]) gx).ok q
          have q2 := hx.ok q1.1
          rw [q1.2.1, q2.2.1]; exact hds q2.1
        have hx2 : tkI t [41] (ex s).2 = true ∨ tkI t [41] (ex s).2 = false := by cases tkI t [41] (ex s).2 <;> simp
        refine HFnF.mkH (takeI ht [41] (by simp) gx.le (upd_same ..)) ?_
        rintro r_ h' ⟨rfl, rfl⟩
        rw [upd_upd]
        have hnew2 := New.snoc hnew w2
        have hor2 := OR.append hor (l' := [(ex s).1]) (es' := [_]) ⟨oe, trivial⟩
        rcases hx2 with hk2 | hk2
        · rw [if_pos hk2] at hls
          subst hls
          simp (maxSteps := 1000000) -dsimp -implicitDefEqProofs only [go_sem, ↓reduceIte, keep77, ib77, mk77, Tryz.f77, hk2]
          refine ⟨_, _, shift_self _ _, _, upd g2 m (.row 5 (OV.cells (es ++ [[.v (.int .i64 (ex s).1.fKind), .v (.int .i64 (ex s).1.fNum), .v (.int .i64 (ex s).1.fPick), .v (.int .i64 (ex s).1.fCount), y4]]))), ⟨.sl m 5 (es ++ [[.v (.int .i64 (ex s).1.fKind), .v (.int .i64 (ex s).1.fNum), .v (.int .i64 (ex s).1.fPick), .v (.int .i64 (ex s).1.fCount), y4]]), OS.mk hor2, by simp [OV.val_sl], rfl⟩, by rw [OV.sl_rows]; exact hnew2.row hm2, by rw [upd_ne _ _ _ _ (fun e => hmn e.symm)]; exact z2, rfl⟩
        · rw [if_neg (by rw [hk2]; simp)] at hls
          simp (maxSteps := 1000000) -dsimp -implicitDefEqProofs only [go_sem, ↓reduceIte, keep77, ib77, mk77, Tryz.f77, hk2, Bool.false_eq_true]
          refine HFnF.mkH (wantIH ht [59, 32] (by simp) gx.le (upd_same ..)) ?_
          rintro r_ h' ⟨rfl, rfl⟩
          rw [upd_upd]
          simp (maxSteps := 1000000) -dsimp -implicitDefEqProofs only [go_sem, ↓reduceIte, keep77, ib77, mk77, Tryz.f77]
          refine ⟨(n, kids ++ [(ex s).1], wantI t [59, 32] (ex s).2, es ++ [[.v (.int .i64 (ex s).1.fKind), .v (.int .i64 (ex s).1.fNum), .v (.int .i64 (ex s).1.fPick), .v (.int .i64 (ex s).1.fCount), y4]], g2, some m), by simp [oval_some], Heap.le_refl _, ⟨(wantI_b gx).good gx, fun q => ?_, hls, hor2, hnew2, z2, hm2, fun a e => by cases e; exact hmn, by simp at hrn ⊢; omega, hd2⟩, Nat.lt_succ_self _⟩
          have hlo := hx.lo
          simp only [] at q ⊢
          rw [(wantI_ok q).2, adv_i]
          simp only [List.length_cons, List.length_nil]
          omega
  · have hL : listI ex t s = ([], (wantI t [40] s).adv 1) := by rw [listI, if_pos hk]
    rw [hL]
    simp (maxSteps := 1000000) -dsimp -implicitDefEqProofs only [go_sem, ↓reduceIte, keep77, ib77, mk77, Tryz.f77]
    exact ⟨_, _, shift_self _ _, _, B, ⟨.nil 5, OS.nil, rfl, rfl⟩, by rw [OV.nil_rows]; exact New.nil B, hB, rfl⟩
open Go.Proofs
set_option linter.unusedVariables false
set_option linter.unusedSimpArgs false
def keep95 : List Nat := [0, 1, 2, 3]
def ib95 : List Nat := [2]
def mk95 : Marks := fun _ => ([], .nil, [])
theorem call1 (f : DFunc) (name : List UInt8) : Fn0 Tryz.prog 95 [.agg f.c, .ip 1 [[.str name]] 0 0] (.bool (decide (f.fName = name))) := by
  rw [DFunc.c_eq]
  refine fn0F 8 keep95 ib95 mk95 mix Tryz.func95 rfl (by kernel_rfl) (by simp) fun h => ?_
  simp (maxSteps := 1000000) -dsimp -implicitDefEqProofs only [go_sem, ↓reduceIte, keep95, ib95, mk95, Tryz.f95]
def keep76 : List Nat := [0, 1, 3, 4, 5, 30]
def ib76 : List Nat := [3]
def mk76 : Marks := fun _ => ([], .nil, [])
set_option maxRecDepth 100000 in
set_option maxHeartbeats 1000000 in
theorem callIH {nb : Nat} {p : DProgram} {t : List UInt8} (ht : t.length ≤ 1048600) (hps : p.s ≤ 4194304) {ex : RSt → DExpr × RSt} (hex : ExB t ex)
    {D : Int} (hcall : ∀ s, Good 62 t s → (s.b = false → s.d = D) → BX Tryz.prog 56 [.op nb 5 0 0] nb (rdr p t s) (rdr p t (ex s).2) (QA (ex s).1.o)) (name : List UInt8) {s : RSt} (g0 : Good 62 t s) (hd0 : s.b = false → s.d = D) :
    BX Tryz.prog 76 [.op nb 5 0 0, .str name] nb (rdr p t s) (rdr p t (callI ex p t name s).2) (QA (callI ex p t name s).1.o) := by
  intro B hB
  have hix := fun h0 => idxF_FuncS p.fFuncs (fun f => decide (f.fName = name)) 95 [.ip 1 [[.str name]] 0 0] (h0 := h0) fun f _ => (call1 f name).toAt
  have h1 := (Bnd.self g0).or (decide (nameIx p name < 0))
  have g1 := h1.good g0
  have h2 := h1.trans (numIs_b g1)
  have g2 := h2.good g0
  have hd2 : (numIs t (s.orB (decide (nameIx p name < 0)))).b = false → (numIs t (s.orB (decide (nameIx p name < 0)))).d = D := fun q => by
    have q1 := h2.ok q
    rw [q1.2.1]; exact hd0 q1.1
  unfold callI
  unfold nameIx at *
  generalize idxOf (fun f => decide (f.fName = name)) p.fFuncs = num at *
  refine fnKF 39 keep76 ib76 mk76 mix Tryz.func76 rfl (by kernel_rfl) (by simp) ?_
  simp (maxSteps := 1000000) -dsimp -implicitDefEqProofs only [go_sem, ↓reduceIte, keep76, ib76, mk76, Tryz.f76, rdr]
  intro n4 q4
  have d_n4_nb : ¬ n4 = nb := q4.1
  have d_nb_n4 : ¬ nb = n4 := Ne.symm d_n4_nb
  have e_n4_nb : (n4 = nb) = False := eq_false d_n4_nb
  have e_nb_n4 : (nb = n4) = False := eq_false d_nb_n4
  simp (maxSteps := 1000000) -dsimp -implicitDefEqProofs only [go_sem, ↓reduceIte, keep76, ib76, mk76, Tryz.f76, e_n4_nb, e_nb_n4, upd_ne, upd_get, upd_swap d_nb_n4, upd_upd, rdr]
  first | refine HFnF.mk (hix _) ?_ | refine CallSF.mk (hix _) ?_ | refine HFnF.mkAt (hix _) ?_ | refine CallSF.mk (FnAt.fn0 (hix _)) ?_
  simp (maxSteps := 1000000) -dsimp -implicitDefEqProofs only [go_sem, ↓reduceIte, keep76, ib76, mk76, Tryz.f76, e_n4_nb, e_nb_n4, upd_ne, upd_get, upd_swap d_nb_n4, upd_upd, rdr]
  intro n5 q5
  have a5 : ¬ n5 = nb := by grind
  have b5 : ¬ n5 = n4 := by grind
  have d_n5_nb : ¬ n5 = nb := a5
  have d_nb_n5 : ¬ nb = n5 := Ne.symm d_n5_nb
  have e_n5_nb : (n5 = nb) = False := eq_false d_n5_nb
  have e_nb_n5 : (nb = n5) = False := eq_false d_nb_n5
  have d_n5_n4 : ¬ n5 = n4 := b5
  have d_n4_n5 : ¬ n4 = n5 := Ne.symm d_n5_n4
  have e_n5_n4 : (n5 = n4) = False := eq_false d_n5_n4
  have e_n4_n5 : (n4 = n5) = False := eq_false d_n4_n5
  have q4n : B n4 = none := q4.2
  have q5n : B n5 = none := by grind
  simp (maxSteps := 1000000) -dsimp -implicitDefEqProofs only [go_sem, ↓reduceIte, keep76, ib76, mk76, Tryz.f76, e_n4_nb, e_n4_n5, e_nb_n4, e_nb_n5, e_n5_n4, e_n5_nb, upd_ne, upd_get, upd_swap d_nb_n4, upd_swap d_nb_n5, upd_upd, Option.toArray_none, Option.toArray_some, List.filterMap_cons, List.filterMap_nil, List.elem_cons_self, List.nil_append, List.append_nil, List.toList_toArray]
  refine ⟨fun hb => ?_, fun hb => ?_⟩
  · have hR : (HObj.row 5 [[.v (sls 3 DFunc.c p.fFuncs), .v (.str t), .v (I s.i), .v (.bool (decide (num < 0))), .v (I s.d)]]) = rdr p t (s.orB (decide (num < 0))) := by simp [rdr, RSt.orB, hb]
    rw [hR]
    refine HFnF.mkH (numberI ht g1.le (upd_same ..)) ?_
    rintro r_ h' ⟨rfl, rfl⟩
    rw [upd_upd]
    simp (maxSteps := 1000000) -dsimp -implicitDefEqProofs only [go_sem, ↓reduceIte, keep76, ib76, mk76, Tryz.f76, e_n4_nb, e_n4_n5, e_nb_n4, e_nb_n5, e_n5_n4, e_n5_nb, upd_ne, upd_get, upd_swap d_nb_n4, upd_swap d_nb_n5, upd_upd]
    refine HFnF.mkH (takeI ht [94] (by simp) g2.le (upd_same ..)) ?_
    rintro r_ h' ⟨rfl, rfl⟩
    rw [upd_upd]
    cases hk : tkI t [94] (numIs t (s.orB (decide (num < 0))))
    · simp (maxSteps := 1000000) -dsimp -implicitDefEqProofs only [go_sem, ↓reduceIte, keep76, ib76, mk76, Tryz.f76, e_n4_nb, e_n4_n5, e_nb_n4, e_nb_n5, e_n5_n4, e_n5_nb, upd_ne, upd_get, upd_swap d_nb_n4, upd_swap d_nb_n5, upd_upd, Bool.false_eq_true]
      refine HFnF.mkH (listIH ht hex hcall g2 hd2 _ (by simp only [upd_get, e_n4_nb, e_n4_n5, e_nb_n4, e_nb_n5, e_n5_n4, e_n5_nb, if_false]; exact hB)) ?_
      rintro r_ h' ⟨l, g9, ⟨y, oy, rfl, rfl⟩, w9, z9, rfl⟩
      obtain ⟨g8, rfl, w8, z84, z85⟩ := New.under2 q4n (by simp only [upd_get, e_n4_nb, e_n4_n5, e_nb_n4, e_nb_n5, e_n5_n4, e_n5_nb, if_false]; exact q5n) w9
      have z8b : g8 nb = none := by simpa only [upd_get, e_n4_nb, e_n4_n5, e_nb_n4, e_nb_n5, e_n5_n4, e_n5_nb, if_false] using z9
      simp (maxSteps := 1000000) -dsimp -implicitDefEqProofs only [go_sem, ↓reduceIte, keep76, ib76, mk76, Tryz.f76, e_n4_nb, e_n4_n5, e_nb_n4, e_nb_n5, e_n5_n4, e_n5_nb, upd_ne, upd_get, upd_swap d_nb_n4, upd_swap d_nb_n5, upd_swap d_n5_n4, upd_upd, oy.flat, oy.one]
      have z85 := (upd_none.1 z85).2
      rw [callI2, if_neg (by rw [hk]; simp)]
      exact ⟨_, _, Shift.of (Sub.refl _) (Heap.le_both ((le_upd z85).2 ((le_upd z84).2 (Heap.le_refl _)))), _, g8, ⟨[.v _, .v _, .v _, .v _, y], (DExpr.o_iff _ _).2 ⟨y, rfl, oy⟩, rfl, rfl⟩, by simpa only [OV.row_cons, OV.row_nil, OV.v_rows, List.nil_append, List.append_nil] using w8, z8b, rfl⟩
    · have g3 := (Bnd.adv g2 (tkI_len1 g2 hk)).good g2
      simp (maxSteps := 1000000) -dsimp -implicitDefEqProofs only [go_sem, ↓reduceIte, keep76, ib76, mk76, Tryz.f76, e_n4_nb, e_n4_n5, e_nb_n4, e_nb_n5, e_n5_n4, e_n5_nb, upd_ne, upd_get, upd_swap d_nb_n4, upd_swap d_nb_n5, upd_upd]
      refine HFnF.mkH (numberI ht g3.le (upd_same ..)) ?_
      rintro r_ h' ⟨rfl, rfl⟩
      rw [upd_upd]
      simp (maxSteps := 1000000) -dsimp -implicitDefEqProofs only [go_sem, ↓reduceIte, keep76, ib76, mk76, Tryz.f76, e_n4_nb, e_n4_n5, e_nb_n4, e_nb_n5, e_n5_n4, e_n5_nb, upd_ne, upd_get, upd_swap d_nb_n4, upd_swap d_nb_n5, upd_upd]
      refine HFnF.mkH (listIH ht hex hcall ((numIs_b g3).good g3) (fun q => by have q1 := (numIs_b g3).ok q; rw [q1.2.1]; exact hd2 q1.1) _ (by simp only [upd_get, e_n4_nb, e_n4_n5, e_nb_n4, e_nb_n5, e_n5_n4, e_n5_nb, if_false]; exact hB)) ?_
      rintro r_ h' ⟨l, g9, ⟨y, oy, rfl, rfl⟩, w9, z9, rfl⟩
      obtain ⟨g8, rfl, w8, z84, z85⟩ := New.under2 q4n (by simp only [upd_get, e_n4_nb, e_n4_n5, e_nb_n4, e_nb_n5, e_n5_n4, e_n5_nb, if_false]; exact q5n) w9
      have z8b : g8 nb = none := by simpa only [upd_get, e_n4_nb, e_n4_n5, e_nb_n4, e_nb_n5, e_n5_n4, e_n5_nb, if_false] using z9
      simp (maxSteps := 1000000) -dsimp -implicitDefEqProofs only [go_sem, ↓reduceIte, keep76, ib76, mk76, Tryz.f76, e_n4_nb, e_n4_n5, e_nb_n4, e_nb_n5, e_n5_n4, e_n5_nb, upd_ne, upd_get, upd_swap d_nb_n4, upd_swap d_nb_n5, upd_swap d_n5_n4, upd_upd, oy.flat, oy.one]
      have z85 := (upd_none.1 z85).2
      rw [callI2, if_pos hk]
      exact ⟨_, _, Shift.of (Sub.refl _) (Heap.le_both ((le_upd z85).2 ((le_upd z84).2 (Heap.le_refl _)))), _, g8, ⟨[.v _, .v _, .v _, .v _, y], (DExpr.o_iff _ _).2 ⟨y, rfl, oy⟩, rfl, rfl⟩, by simpa only [OV.row_cons, OV.row_nil, OV.v_rows, List.nil_append, List.append_nil] using w8, z8b, rfl⟩
  · have hR : (HObj.row 5 [[.v (sls 3 DFunc.c p.fFuncs), .v (.str t), .v (I s.i), .v (.bool true), .v (I s.d)]]) = rdr p t (s.orB (decide (num < 0))) := by simp [rdr, RSt.orB, hb]
    rw [hR]
    refine HFnF.mkH (numberI ht g1.le (upd_same ..)) ?_
    rintro r_ h' ⟨rfl, rfl⟩
    rw [upd_upd]
    simp (maxSteps := 1000000) -dsimp -implicitDefEqProofs only [go_sem, ↓reduceIte, keep76, ib76, mk76, Tryz.f76, e_n4_nb, e_n4_n5, e_nb_n4, e_nb_n5, e_n5_n4, e_n5_nb, upd_ne, upd_get, upd_swap d_nb_n4, upd_swap d_nb_n5, upd_upd]
    refine HFnF.mkH (takeI ht [94] (by simp) g2.le (upd_same ..)) ?_
    rintro r_ h' ⟨rfl, rfl⟩
    rw [upd_upd]
    cases hk : tkI t [94] (numIs t (s.orB (decide (num < 0))))
    · simp (maxSteps := 1000000) -dsimp -implicitDefEqProofs only [go_sem, ↓reduceIte, keep76, ib76, mk76, Tryz.f76, e_n4_nb, e_n4_n5, e_nb_n4, e_nb_n5, e_n5_n4, e_n5_nb, upd_ne, upd_get, upd_swap d_nb_n4, upd_swap d_nb_n5, upd_upd, Bool.false_eq_true]
      refine HFnF.mkH (listIH ht hex hcall g2 hd2 _ (by simp only [upd_get, e_n4_nb, e_n4_n5, e_nb_n4, e_nb_n5, e_n5_n4, e_n5_nb, if_false]; exact hB)) ?_
      rintro r_ h' ⟨l, g9, ⟨y, oy, rfl, rfl⟩, w9, z9, rfl⟩
      obtain ⟨g8, rfl, w8, z84, z85⟩ := New.under2 q4n (by simp only [upd_get, e_n4_nb, e_n4_n5, e_nb_n4, e_nb_n5, e_n5_n4, e_n5_nb, if_false]; exact q5n) w9
      have z8b : g8 nb = none := by simpa only [upd_get, e_n4_nb, e_n4_n5, e_nb_n4, e_nb_n5, e_n5_n4, e_n5_nb, if_false] using z9
      simp (maxSteps := 1000000) -dsimp -implicitDefEqProofs only [go_sem, ↓reduceIte, keep76, ib76, mk76, Tryz.f76, e_n4_nb, e_n4_n5, e_nb_n4, e_nb_n5, e_n5_n4, e_n5_nb, upd_ne, upd_get, upd_swap d_nb_n4, upd_swap d_nb_n5, upd_swap d_n5_n4, upd_upd, oy.flat, oy.one]
      have z85 := (upd_none.1 z85).2
      rw [callI2, if_neg (by rw [hk]; simp)]
      exact ⟨_, _, Shift.of (Sub.refl _) (Heap.le_both ((le_upd z85).2 ((le_upd z84).2 (Heap.le_refl _)))), _, g8, ⟨[.v _, .v _, .v _, .v _, y], (DExpr.o_iff _ _).2 ⟨y, rfl, oy⟩, rfl, rfl⟩, by simpa only [OV.row_cons, OV.row_nil, OV.v_rows, List.nil_append, List.append_nil] using w8, z8b, rfl⟩
    · have g3 := (Bnd.adv g2 (tkI_len1 g2 hk)).good g2
      simp (maxSteps := 1000000) -dsimp -implicitDefEqProofs only [go_sem, ↓reduceIte, keep76, ib76, mk76, Tryz.f76, e_n4_nb, e_n4_n5, e_nb_n4, e_nb_n5, e_n5_n4, e_n5_nb, upd_ne, upd_get, upd_swap d_nb_n4, upd_swap d_nb_n5, upd_upd]
      refine HFnF.mkH (numberI ht g3.le (upd_same ..)) ?_
      rintro r_ h' ⟨rfl, rfl⟩
      rw [upd_upd]
      simp (maxSteps := 1000000) -dsimp -implicitDefEqProofs only [go_sem, ↓reduceIte, keep76, ib76, mk76, Tryz.f76, e_n4_nb, e_n4_n5, e_nb_n4, e_nb_n5, e_n5_n4, e_n5_nb, upd_ne, upd_get, upd_swap d_nb_n4, upd_swap d_nb_n5, upd_upd]
      refine HFnF.mkH (listIH ht hex hcall ((numIs_b g3).good g3) (fun q => by have q1 := (numIs_b g3).ok q; rw [q1.2.1]; exact hd2 q1.1) _ (by simp only [upd_get, e_n4_nb, e_n4_n5, e_nb_n4, e_nb_n5, e_n5_n4, e_n5_nb, if_false]; exact hB)) ?_
      rintro r_ h' ⟨l, g9, ⟨y, oy, rfl, rfl⟩, w9, z9, rfl⟩
      obtain ⟨g8, rfl, w8, z84, z85⟩ := New.under2 q4n (by simp only [upd_get, e_n4_nb, e_n4_n5, e_nb_n4, e_nb_n5, e_n5_n4, e_n5_nb, if_false]; exact q5n) w9
      have z8b : g8 nb = none := by simpa only [upd_get, e_n4_nb, e_n4_n5, e_nb_n4, e_nb_n5, e_n5_n4, e_n5_nb, if_false] using z9
      simp (maxSteps := 1000000) -dsimp -implicitDefEqProofs only [go_sem, ↓reduceIte, keep76, ib76, mk76, Tryz.f76, e_n4_nb, e_n4_n5, e_nb_n4, e_nb_n5, e_n5_n4, e_n5_nb, upd_ne, upd_get, upd_swap d_nb_n4, upd_swap d_nb_n5, upd_swap d_n5_n4, upd_upd, oy.flat, oy.one]
      have z85 := (upd_none.1 z85).2
      rw [callI2, if_pos hk]
      exact ⟨_, _, Shift.of (Sub.refl _) (Heap.le_both ((le_upd z85).2 ((le_upd z84).2 (Heap.le_refl _)))), _, g8, ⟨[.v _, .v _, .v _, .v _, y], (DExpr.o_iff _ _).2 ⟨y, rfl, oy⟩, rfl, rfl⟩, by simpa only [OV.row_cons, OV.row_nil, OV.v_rows, List.nil_append, List.append_nil] using w8, z8b, rfl⟩
end Go.Hl

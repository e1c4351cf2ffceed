/-
  Contracts of functions and laws of the layer over the walk.
-/
import Derived.Test.YthcfmnldhokmiaaGreatVvB
import Derived.Test.YthcfmnldhokmiaaGreatHlD
namespace Go.Hl
open Go.Proofs
set_option linter.unusedVariables false
set_option linter.unusedSimpArgs false
/-! ### series -/
def serOK (n : Nat) (s : List Int) : Prop := s.length = n ∧ Nums s
def sclL (a : List Int) (n : Int) : List Int := a.map fun x => x * n % 1000003
def subL (a b : List Int) : List Int := addL a (sclL b 1000002)
def cvS (a b : List Int) (k : Nat) : Nat → Int
  | 0 => 0
  | i + 1 => (cvS a b k i + a.getD i 0 * b.getD (k - i) 0) % 1000003
def mulL (a b : List Int) : List Int := (List.range a.length).map fun k => cvS a b k (k + 1)
def pwN (b : Int) (n : Nat) : Int := b ^ n % 1000003
def invN (x : Int) : Int := pwN (x % 1000003) 1000001
def dvS (o b : List Int) (k : Nat) (r : Int) : Nat → Int
  | 0 => r
  | i + 1 => (dvS o b k r i - o.getD i 0 * b.getD (k - i) 0) % 1000003
def divN (a b : List Int) : Nat → List Int
  | 0 => []
  | k + 1 => divN a b k ++ [dvS (divN a b k) b k (a.getD k 0) k * invN (b.getD 0 0) % 1000003]
def divL (a b : List Int) : List Int := divN a b a.length
def constL (n : Int) (sz : Nat) : List Int := (List.replicate sz 0).set 0 n
/-! ### evaluation -/
def dE : DExpr := .mk 0 0 0 0 []
def DExpr.kid (e : DExpr) (i : Nat) : DExpr := e.fKids.getD i dE
def DProgram.outs (p : DProgram) (f : Int) : List DExpr := ((p.fFuncs[f.toNat]?).map (·.fOuts)).getD []
def DProgram.out (p : DProgram) (f i : Int) : DExpr := (p.outs f).getD i.toNat dE
abbrev Out (α : Type) := Except Int (α × Nat)
def Out.andThen {α β : Type} (x : Out α) (f : α → Nat → Out β) : Out β := match x with
  | .ok (a, t) => f a t
  | .error c => .error c
def seqE (ev : Nat → DExpr → Out (List Int)) : List DExpr → Nat → Out (List (List Int))
  | [], t => .ok ([], t)
  | e :: l, t => (ev t e).andThen fun v t => (seqE ev l t).andThen fun vs t => .ok (v :: vs, t)
def iterE (f : List (List Int) → Nat → Out (List (List Int))) : Nat → List (List Int) → Nat → Out (List (List Int))
  | 0, vs, t => .ok (vs, t)
  | n + 1, vs, t => (f vs t).andThen fun vs t => iterE f n vs t
def opE (k : Int) (vs : List (List Int)) (t : Nat) : Out (List Int) :=
  if k = 3 then .ok (addL (vs.getD 0 []) (vs.getD 1 []), t)
  else if k = 4 then .ok (subL (vs.getD 0 []) (vs.getD 1 []), t)
  else if k = 5 then .ok (mulL (vs.getD 0 []) (vs.getD 1 []), t)
  else if k = 7 then .ok (sclL (vs.getD 0 []) 1000002, t)
  else if (vs.getD 1 []).getD 0 0 = 0 then .error 6
  else .ok (divL (vs.getD 0 []) (vs.getD 1 []), t)
/-- An expression's value, and the steps made: n is fuel, t the steps before. -/
def evE (p : DProgram) (sz : Nat) : Nat → Nat → DExpr → List (List Int) → Out (List Int)
  | 0, _, _, _ => .error 7
  | n + 1, t, e, env =>
    if t = 3000 then .error 7
    else if e.fKind = 1 then .ok (constL e.fNum sz, t + 1)
    else if e.fKind = 2 then .ok (env.getD e.fNum.toNat [], t + 1)
    else if e.fKind = 8 then (evE p sz n (t + 1) (e.kid 0) env).andThen fun c t => if c.getD 0 0 = 0 then evE p sz n t (e.kid 1) env else evE p sz n t (e.kid 2) env
    else if e.fKind = 9 then (evE p sz n (t + 1) (e.kid 0) env).andThen fun v t => evE p sz n t (e.kid 1) (env ++ [v])
    else (seqE (fun t e => evE p sz n t e env) e.fKids (t + 1)).andThen fun vs t =>
      if e.fKind = 10 then evE p sz n t (p.out e.fNum e.fPick) vs
      else if e.fKind = 11 then (iterE (fun vs t => seqE (fun t e => evE p sz n t e vs) (p.outs e.fNum) t) e.fCount.toNat vs t).andThen fun vs t => .ok (vs.getD e.fPick.toNat [], t)
      else opE e.fKind vs t
/-- What a walk's end says of an outcome: the value counts where there is no error. -/
def outR {α : Type} (X : Out α) (v : α) (t : Nat) (c : Int) : Prop := match X with
  | .ok (w, u) => c = 0 ∧ v = w ∧ t = u
  | .error d => c = d ∧ d ≠ 0
/-- The outcome behind a code. -/
def runE {α : Type} (c : Int) (X : Out α) : Out α := if c = 0 then X else .error c
theorem runE_zero {α : Type} (X : Out α) : runE 0 X = X := if_pos rfl
theorem runE_ne {α : Type} {c : Int} (X : Out α) (h : ¬ c = 0) : runE c X = .error c := if_neg h
theorem outR_err {α : Type} {c : Int} (v : α) (t : Nat) (h : ¬ c = 0) : outR (.error c : Out α) v t c := ⟨rfl, h⟩
theorem outR_ok {α : Type} (v : α) (t : Nat) : outR (.ok (v, t) : Out α) v t 0 := ⟨rfl, rfl, rfl⟩
theorem outR_init {α : Type} (v : α) (t : Nat) (c : Int) : outR (runE c (.ok (v, t))) v t c := by
  by_cases e : c = 0
  · subst e; rw [runE_zero]; exact outR_ok v t
  · rw [runE_ne _ e]; exact outR_err v t e
theorem outR.then {α β : Type} {X : Out α} {F : α → Nat → Out β} {v : α} {t : Nat} {c : Int} {v2 : β} {t2 : Nat} {c2 : Int} (h : outR X v t c) (h2 : outR (runE c (F v t)) v2 t2 c2) : outR (X.andThen F) v2 t2 c2 := by
  cases X with
  | ok p =>
    obtain ⟨w, u⟩ := p
    obtain ⟨rfl, rfl, rfl⟩ := h
    rw [runE_zero] at h2
    exact h2
  | error d =>
    obtain ⟨rfl, h⟩ := h
    rw [runE_ne _ h] at h2
    exact h2
theorem outR.err {α : Type} {X : Out α} {v : α} {t : Nat} {c : Int} (h : outR X v t c) (hc : ¬ c = 0) : X = .error c := by
  cases X with
  | ok p => exact absurd h.1 hc
  | error d => rw [h.1]
theorem outR.thenC {α β : Type} {c0 : Int} {X : Out α} {F : α → Nat → Out β} {v : α} {t : Nat} {c : Int} {v2 : β} {t2 : Nat} {c2 : Int} (h : outR (runE c0 X) v t c) (h2 : outR (runE c (F v t)) v2 t2 c2) : outR (runE c0 (X.andThen F)) v2 t2 c2 := by
  by_cases e : c0 = 0
  · subst e
    rw [runE_zero] at h ⊢
    exact h.then h2
  · rw [runE_ne _ e] at h ⊢
    obtain ⟨rfl, h⟩ := h
    rw [runE_ne _ h] at h2
    exact h2
theorem Out.andThen_assoc {α β γ : Type} (x : Out α) (f : α → Nat → Out β) (g : β → Nat → Out γ) : (x.andThen f).andThen g = x.andThen fun a t => (f a t).andThen g := by
  cases x <;> rfl
theorem Out.andThen_ok {α β : Type} (a : α) (t : Nat) (f : α → Nat → Out β) : Out.andThen (.ok (a, t)) f = f a t := rfl
theorem seqE_snoc (ev : Nat → DExpr → Out (List Int)) (e : DExpr) : ∀ (l : List DExpr) (t : Nat), seqE ev (l ++ [e]) t = (seqE ev l t).andThen fun vs t => (ev t e).andThen fun v t => .ok (vs ++ [v], t)
  | [], t => rfl
  | x :: l, t => by
    simp only [List.cons_append, seqE, seqE_snoc ev e l, Out.andThen_assoc, Out.andThen_ok]
theorem iterE_snoc (f : List (List Int) → Nat → Out (List (List Int))) : ∀ (n : Nat) (vs : List (List Int)) (t : Nat), iterE f (n + 1) vs t = (iterE f n vs t).andThen f
  | 0, vs, t => by
    show (f vs t).andThen (fun vs t => .ok (vs, t)) = f vs t
    cases f vs t with
    | ok p => rfl
    | error c => rfl
  | n + 1, vs, t => by
    show (f vs t).andThen (fun vs t => iterE f (n + 1) vs t) = ((f vs t).andThen fun vs t => iterE f n vs t).andThen f
    rw [Out.andThen_assoc]
    congr 1
    funext a t
    exact iterE_snoc f n a t
theorem iterE_err {f : List (List Int) → Nat → Out (List (List Int))} {vs : List (List Int)} {t : Nat} {c : Int} : ∀ (n k : Nat), k ≤ n → iterE f k vs t = .error c → iterE f n vs t = .error c
  | 0, k, hk, h => by
    have : k = 0 := by omega
    subst this; exact h
  | n + 1, k, hk, h => by
    rcases Nat.lt_or_ge k (n + 1) with hlt | hge
    · rw [iterE_snoc, iterE_err n k (by omega) h]; rfl
    · have : k = n + 1 := by omega
      subst this; exact h
/-! ### series: sizes and numbers -/
theorem num_mod (n : Int) : Num (n % 1000003) := by unfold Num; omega
theorem serOK.len {n : Nat} {s : List Int} (h : serOK n s) : s.length = n := h.1
theorem serOK_add {n : Nat} {a b : List Int} (ha : serOK n a) (hb : serOK n b) : serOK n (addL a b) := by
  refine ⟨by simp [addL, ha.1, hb.1], fun x hx => ?_⟩
  obtain ⟨i, hi, rfl⟩ := List.mem_iff_getElem.1 hx
  simp only [addL, List.getElem_zipWith]
  exact num_mod _
theorem serOK_scl {n : Nat} {a : List Int} (k : Int) (ha : serOK n a) : serOK n (sclL a k) := by
  refine ⟨by simp [sclL, ha.1], fun x hx => ?_⟩
  obtain ⟨y, _, rfl⟩ := List.mem_map.1 hx
  exact num_mod _
theorem serOK_sub {n : Nat} {a b : List Int} (ha : serOK n a) (hb : serOK n b) : serOK n (subL a b) := serOK_add ha (serOK_scl _ hb)
theorem num_cv (a b : List Int) (k : Nat) : ∀ i, Num (cvS a b k i)
  | 0 => by unfold cvS Num; omega
  | i + 1 => num_mod _
theorem serOK_mul {n : Nat} {a : List Int} (b : List Int) (ha : serOK n a) : serOK n (mulL a b) := by
  refine ⟨by simp [mulL, ha.1], fun x hx => ?_⟩
  obtain ⟨k, _, rfl⟩ := List.mem_map.1 hx
  exact num_cv _ _ _ _
theorem divN_len (a b : List Int) : ∀ k, (divN a b k).length = k
  | 0 => rfl
  | k + 1 => by rw [divN, List.length_append, divN_len a b k]; rfl
theorem nums_div (a b : List Int) : ∀ k, Nums (divN a b k)
  | 0 => fun x hx => by cases hx
  | k + 1 => fun x hx => by
    rw [divN, List.mem_append, List.mem_singleton] at hx
    rcases hx with hx | rfl
    · exact nums_div a b k x hx
    · exact num_mod _
theorem serOK_div {n : Nat} {a : List Int} (b : List Int) (ha : serOK n a) : serOK n (divL a b) := ⟨by rw [divL, divN_len, ha.1], nums_div _ _ _⟩
theorem serOK_const {n : Int} {sz : Nat} (h : Num n) : serOK sz (constL n sz) := by
  refine ⟨by simp [constL], fun x hx => ?_⟩
  rw [constL] at hx
  rcases List.mem_or_eq_of_mem_set hx with hx | rfl
  · have := (List.mem_replicate.1 hx).2
    subst this; unfold Num; omega
  · exact h
theorem Nums.get {l : List Int} (h : Nums l) (i : Nat) : Num (l.getD i 0) := by
  rw [List.getD_eq_getElem?_getD]
  rcases Nat.lt_or_ge i l.length with hi | hi
  · rw [List.getElem?_eq_getElem hi]; exact h _ (List.getElem_mem hi)
  · rw [List.getElem?_eq_none hi]; unfold Num; simp
/-! ### the first numbers of series do not depend on the rest -/
def hR (s s' : List Int) : Prop := (s = [] ∧ s' = []) ∨ ∃ x a b, s = x :: a ∧ s' = x :: b
theorem hR_nil : hR [] [] := .inl ⟨rfl, rfl⟩
theorem hR.hd {s s' : List Int} (h : hR s s') : s.getD 0 0 = s'.getD 0 0 := by
  rcases h with ⟨rfl, rfl⟩ | ⟨x, a, b, rfl, rfl⟩ <;> rfl
theorem hR_add {a a' b b' : List Int} (ha : hR a a') (hb : hR b b') : hR (addL a b) (addL a' b') := by
  rcases ha with ⟨rfl, rfl⟩ | ⟨x, a, a', rfl, rfl⟩
  · exact .inl ⟨rfl, rfl⟩
  · rcases hb with ⟨rfl, rfl⟩ | ⟨y, b, b', rfl, rfl⟩
    · exact .inl ⟨rfl, rfl⟩
    · exact .inr ⟨_, _, _, rfl, rfl⟩
theorem hR_scl {a a' : List Int} (n : Int) (ha : hR a a') : hR (sclL a n) (sclL a' n) := by
  rcases ha with ⟨rfl, rfl⟩ | ⟨x, a, a', rfl, rfl⟩
  · exact .inl ⟨rfl, rfl⟩
  · exact .inr ⟨_, _, _, rfl, rfl⟩
theorem hR_sub {a a' b b' : List Int} (ha : hR a a') (hb : hR b b') : hR (subL a b) (subL a' b') := hR_add ha (hR_scl _ hb)
theorem mulL_cons (x : Int) (a b : List Int) : ∃ t, mulL (x :: a) b = (x * b.getD 0 0) % 1000003 :: t := by
  refine ⟨((List.range a.length).map Nat.succ).map fun k => cvS (x :: a) b k (k + 1), ?_⟩
  rw [mulL, List.length_cons, List.range_succ_eq_map, List.map_cons]
  congr 1
  simp [cvS]
theorem hR_mul {a a' b b' : List Int} (ha : hR a a') (hb : hR b b') : hR (mulL a b) (mulL a' b') := by
  rcases ha with ⟨rfl, rfl⟩ | ⟨x, a, a', rfl, rfl⟩
  · exact .inl ⟨rfl, rfl⟩
  · obtain ⟨t, h⟩ := mulL_cons x a b
    obtain ⟨t', h'⟩ := mulL_cons x a' b'
    rw [h, h', hb.hd]
    exact .inr ⟨_, _, _, rfl, rfl⟩
theorem divN_cons (x : Int) (a b : List Int) : ∀ k, ∃ t, divN (x :: a) b (k + 1) = x * invN (b.getD 0 0) % 1000003 :: t
  | 0 => ⟨[], rfl⟩
  | k + 1 => by
    obtain ⟨t, h⟩ := divN_cons x a b k
    rw [divN, h]
    exact ⟨_, rfl⟩
theorem hR_div {a a' b b' : List Int} (ha : hR a a') (hb : hR b b') : hR (divL a b) (divL a' b') := by
  rcases ha with ⟨rfl, rfl⟩ | ⟨x, a, a', rfl, rfl⟩
  · exact .inl ⟨rfl, rfl⟩
  · obtain ⟨t, h⟩ := divN_cons x a b a.length
    obtain ⟨t', h'⟩ := divN_cons x a' b' a'.length
    rw [divL, divL, List.length_cons, List.length_cons, h, h', hb.hd]
    exact .inr ⟨_, _, _, rfl, rfl⟩
theorem hR_const (n : Int) (sz sz' : Nat) : hR (constL n (sz + 1)) (constL n (sz' + 1)) := by
  rw [constL, constL, List.replicate_succ, List.replicate_succ]
  exact .inr ⟨_, _, _, rfl, rfl⟩
/-- Lists of series with the same first numbers. -/
def eR : List (List Int) → List (List Int) → Prop
  | [], [] => True
  | s :: l, s' :: l' => hR s s' ∧ eR l l'
  | _, _ => False
theorem eR.get : ∀ {l l' : List (List Int)}, eR l l' → ∀ i, hR (l.getD i []) (l'.getD i [])
  | [], [], _, i => by simp [hR_nil]
  | s :: l, s' :: l', h, 0 => h.1
  | s :: l, s' :: l', h, i + 1 => by simpa using eR.get h.2 i
  | [], _ :: _, h, _ => h.elim
  | _ :: _, [], h, _ => h.elim
theorem eR.len : ∀ {l l' : List (List Int)}, eR l l' → l.length = l'.length
  | [], [], _ => rfl
  | s :: l, s' :: l', h => by simp [eR.len h.2]
  | [], _ :: _, h => h.elim
  | _ :: _, [], h => h.elim
theorem eR.snoc {s s' : List Int} (h : hR s s') : ∀ {l l' : List (List Int)}, eR l l' → eR (l ++ [s]) (l' ++ [s'])
  | [], [], _ => ⟨h, trivial⟩
  | x :: l, x' :: l', k => ⟨k.1, eR.snoc h k.2⟩
  | [], _ :: _, k => k.elim
  | _ :: _, [], k => k.elim
/-- Outcomes that differ behind the first numbers only. -/
def oR {α : Type} (R : α → α → Prop) (X Y : Out α) : Prop := match X, Y with
  | .ok (v, t), .ok (v', t') => R v v' ∧ t = t'
  | .error c, .error c' => c = c'
  | _, _ => False
theorem oR.bind {α β : Type} {R : α → α → Prop} {S : β → β → Prop} {X Y : Out α} {F G : α → Nat → Out β} (h : oR R X Y) (hf : ∀ v v' t, R v v' → oR S (F v t) (G v' t)) : oR S (X.andThen F) (Y.andThen G) := by
  cases X with
  | ok p =>
    cases Y with
    | ok q =>
      obtain ⟨v, t⟩ := p
      obtain ⟨v', t'⟩ := q
      obtain ⟨h1, rfl⟩ := h
      exact hf _ _ _ h1
    | error c => exact h.elim
  | error c =>
    cases Y with
    | ok q => exact h.elim
    | error d => exact h
theorem oR.pure {α : Type} {R : α → α → Prop} {v v' : α} {t : Nat} (h : R v v') : oR R (.ok (v, t)) (.ok (v', t)) := ⟨h, rfl⟩
theorem seqE_head {ev ev' : Nat → DExpr → Out (List Int)} (h : ∀ t e, oR hR (ev t e) (ev' t e)) : ∀ (l : List DExpr) (t : Nat), oR eR (seqE ev l t) (seqE ev' l t)
  | [], t => ⟨trivial, rfl⟩
  | e :: l, t => (h t e).bind fun v v' t hv => (seqE_head h l t).bind fun vs vs' t hvs => oR.pure ⟨hv, hvs⟩
theorem iterE_head {f g : List (List Int) → Nat → Out (List (List Int))} (h : ∀ vs vs' t, eR vs vs' → oR eR (f vs t) (g vs' t)) : ∀ (n : Nat) (vs vs' : List (List Int)) (t : Nat), eR vs vs' → oR eR (iterE f n vs t) (iterE g n vs' t)
  | 0, vs, vs', t, hv => ⟨hv, rfl⟩
  | n + 1, vs, vs', t, hv => (h vs vs' t hv).bind fun a a' t ha => iterE_head h n a a' t ha
theorem opE_head (k : Int) {vs vs' : List (List Int)} (t : Nat) (h : eR vs vs') : oR hR (opE k vs t) (opE k vs' t) := by
  have h0 := h.get 0
  have h1 := h.get 1
  unfold opE
  split
  · exact oR.pure (hR_add h0 h1)
  split
  · exact oR.pure (hR_sub h0 h1)
  split
  · exact oR.pure (hR_mul h0 h1)
  split
  · exact oR.pure (hR_scl _ h0)
  rw [h1.hd]
  split
  · exact rfl
  · exact oR.pure (hR_div h0 h1)
theorem evE_head (p : DProgram) (sz sz' : Nat) : ∀ (n t : Nat) (e : DExpr) (env env' : List (List Int)), eR env env' → oR hR (evE p (sz + 1) n t e env) (evE p (sz' + 1) n t e env')
  | 0, t, e, env, env', h => rfl
  | n + 1, t, e, env, env', h => by
    have ih := evE_head p sz sz' n
    rw [evE, evE]
    split
    · exact rfl
    split
    · exact oR.pure (hR_const _ _ _)
    split
    · exact oR.pure (h.get _)
    split
    · refine (ih _ _ _ _ h).bind fun c c' t hc => ?_
      rw [hc.hd]
      split
      · exact ih _ _ _ _ h
      · exact ih _ _ _ _ h
    split
    · exact (ih _ _ _ _ h).bind fun v v' t hv => ih _ _ _ _ (eR.snoc hv h)
    refine (seqE_head (fun t e => ih t e _ _ h) _ _).bind fun vs vs' t hv => ?_
    split
    · exact ih _ _ _ _ hv
    split
    · refine (iterE_head (f := fun vs t => seqE (fun t e => evE p (sz + 1) n t e vs) (p.outs e.fNum) t) (g := fun vs t => seqE (fun t e => evE p (sz' + 1) n t e vs) (p.outs e.fNum) t) (fun a a' u ha => seqE_head (fun u x => ih u x a a' ha) (p.outs e.fNum) u) e.fCount.toNat vs vs' t hv).bind fun a a' u ha => ?_
      exact oR.pure (ha.get _)
    · exact opE_head _ _ hv
/-- All outputs of a function. -/
def evF (p : DProgram) (sz : Nat) (f : Int) (args : List (List Int)) : Out (List (List Int)) := seqE (fun t e => evE p sz 3001 t e args) (p.outs f) 0
theorem evF_head (p : DProgram) (sz sz' : Nat) (f : Int) (args args' : List (List Int)) (h : eR args args') : oR eR (evF p (sz + 1) f args) (evF p (sz' + 1) f args') :=
  seqE_head (fun t e => evE_head p sz sz' _ t e _ _ h) _ _
/-! ### powers -/
theorem pw_mod (b : Int) : ∀ n : Nat, (b % 1000003) ^ n % 1000003 = b ^ n % 1000003
  | 0 => by rw [Int.pow_zero, Int.pow_zero]
  | n + 1 => by
    rw [Int.pow_succ, Int.pow_succ, Int.mul_emod, pw_mod b n, Int.emod_emod_of_dvd _ (Int.dvd_refl _), ← Int.mul_emod]
theorem pw_step (x b : Int) (n : Nat) : x * b ^ n % 1000003 = (if n % 2 = 1 then x * b % 1000003 else x) * (b * b % 1000003) ^ (n / 2) % 1000003 := by
  have h2 : b ^ n = (b * b) ^ (n / 2) * b ^ (n % 2) := by
    rw [show b * b = b ^ 2 by rw [Int.pow_succ, Int.pow_succ, Int.pow_zero, Int.one_mul], ← Int.pow_mul, ← Int.pow_add]
    congr 1; omega
  have h3 : ∀ y : Int, y * (b * b % 1000003) ^ (n / 2) % 1000003 = y * (b * b) ^ (n / 2) % 1000003 := fun y => by
    rw [Int.mul_emod, pw_mod, ← Int.mul_emod]
  rw [h3, h2]
  split
  · rename_i h
    rw [h, Int.pow_succ, Int.pow_zero, Int.one_mul, Int.mul_emod (x * b % 1000003), Int.emod_emod_of_dvd _ (Int.dvd_refl _), ← Int.mul_emod]
    congr 1
    rw [Int.mul_comm ((b * b) ^ (n / 2)) b, Int.mul_assoc]
  · rename_i h
    have : n % 2 = 0 := by omega
    rw [this, Int.pow_zero, Int.mul_one]
theorem pw_done (x b : Int) (hx : 0 ≤ x ∧ x < 1000003) : x * b ^ 0 % 1000003 = x := by
  rw [Int.pow_zero, Int.mul_one]; omega
theorem pw_odd {x b m T : Int} (hm : 0 ≤ m) (h : m % 2 = 1) (hp : x * b ^ m.toNat % 1000003 = T) : (x * b % 1000003) * (b * b % 1000003) ^ (m / 2).toNat % 1000003 = T := by
  rw [← hp, pw_step x b m.toNat, if_pos (by omega), show (m / 2).toNat = m.toNat / 2 by omega]
theorem pw_even {x b m T : Int} (hm : 0 ≤ m) (h : ¬ m % 2 = 1) (hp : x * b ^ m.toNat % 1000003 = T) : x * (b * b % 1000003) ^ (m / 2).toNat % 1000003 = T := by
  rw [← hp, pw_step x b m.toNat, if_neg (by omega), show (m / 2).toNat = m.toNat / 2 by omega]
theorem modP (y : Int) : 0 ≤ y % 1000003 ∧ y % 1000003 < 1000003 := by omega
theorem getD_get {l : List Int} {i : Nat} (h : i < l.length) : l[i]? = some (l.getD i 0) := by
  rw [List.getD_eq_getElem?_getD, List.getElem?_eq_getElem h]; rfl
theorem num_inv (x : Int) : Num (invN x) := num_mod _
theorem num_dv (o b : List Int) (k : Nat) {r : Int} (hr : Num r) : ∀ i, Num (dvS o b k r i)
  | 0 => hr
  | i + 1 => num_mod _
theorem divN_take (a b : List Int) {k : Nat} : ∀ n, k ≤ n → (divN a b n).take k = divN a b k
  | 0, h => by
    have : k = 0 := by omega
    subst this; rfl
  | n + 1, h => by
    rcases Nat.lt_or_ge k (n + 1) with h1 | h1
    · rw [divN, List.take_append_of_le_length (by rw [divN_len]; omega), divN_take a b n (by omega)]
    · have : k = n + 1 := by omega
      subst this
      rw [List.take_of_length_le (by rw [divN_len]; omega)]
theorem divL_len (a b : List Int) : (divL a b).length = a.length := divN_len _ _ _
theorem upL_div (a b : List Int) {k : Nat} (hk : k ≤ a.length) : upL (divL a b) k = divN a b k ++ List.replicate (a.length - k) 0 := by
  rw [upL, divL_len, divL, divN_take a b _ hk]
theorem upL_div_get {a b : List Int} {k i : Nat} (hk : k ≤ a.length) (hi : i < k) : (upL (divL a b) k)[i]? = some ((divN a b k).getD i 0) := by
  rw [upL_div a b hk, List.getElem?_append_left (by rw [divN_len]; exact hi)]
  exact getD_get (by rw [divN_len]; exact hi)
theorem divL_get {a b : List Int} {k : Nat} (hk : k < a.length) : (divL a b)[k]'(by rw [divL_len]; exact hk) = dvS (divN a b k) b k (a.getD k 0) k * invN (b.getD 0 0) % 1000003 := by
  have h := upL_div_get (a := a) (b := b) (k := k + 1) (i := k) (by omega) (by omega)
  have h2 : (divN a b (k + 1)).getD k 0 = dvS (divN a b k) b k (a.getD k 0) k * invN (b.getD 0 0) % 1000003 := by
    rw [divN, List.getD_eq_getElem?_getD, List.getElem?_append_right (by rw [divN_len]; omega), divN_len, Nat.sub_self]; rfl
  rw [h2, upL, List.getElem?_append_left (by rw [List.length_take, divL_len]; omega), List.getElem?_take_of_lt (by omega), List.getElem?_eq_getElem (by rw [divL_len]; exact hk)] at h
  exact Option.some.inj h
theorem num_mul {x y : Int} (hx : Num x) (hy : Num y) : 0 ≤ x * y ∧ x * y ≤ 1000004000004 := by
  refine ⟨Int.mul_nonneg hx.1 hy.1, ?_⟩
  have := Int.mul_le_mul hx.2 hy.2 hy.1 (by omega)
  omega
theorem sclL_len (a : List Int) (n : Int) : (sclL a n).length = a.length := by simp [sclL]
theorem mulL_len (a b : List Int) : (mulL a b).length = a.length := by simp [mulL]
theorem nums_lt {l : List Int} (h : Nums l) : ∀ x ∈ l, 0 ≤ x ∧ x < 1000003 := fun x hx => by have := h x hx; unfold Num at this; omega
theorem wmod {n : Int} (h0 : 0 ≤ n) (h1 : n ≤ 9223372036854775807) : (IntKind.i64.wrap n).tmod 1000003 = n % 1000003 := by
  rw [IntWalk.i64_in _ (by omega), Int.tmod_eq_emod_of_nonneg h0]
theorem upL_set0 {c : List Int} {k : Nat} (hk : k < c.length) : (upL c k).set k 0 = upL c k := by
  have h := upL_get hk
  apply List.ext_getElem?
  intro i
  rw [List.getElem?_set]
  split
  · subst_vars
    split
    · exact h.symm
    · rename_i h2
      rw [List.getElem?_eq_none (by omega)]
  · rfl
theorem evE_1 {p : DProgram} {sz n st : Nat} {e : DExpr} {env : List (List Int)} (h3 : ¬ st = 3000) (hk : e.fKind = 1) : evE p sz (n + 1) st e env = .ok (constL e.fNum sz, st + 1) := by rw [evE, if_neg h3, if_pos hk]
theorem evE_2 {p : DProgram} {sz n st : Nat} {e : DExpr} {env : List (List Int)} (h3 : ¬ st = 3000) (hk : e.fKind = 2) : evE p sz (n + 1) st e env = .ok (env.getD e.fNum.toNat [], st + 1) := by rw [evE, if_neg h3, if_neg (by omega), if_pos hk]
theorem evE_8 {p : DProgram} {sz n st : Nat} {e : DExpr} {env : List (List Int)} (h3 : ¬ st = 3000) (hk : e.fKind = 8) : evE p sz (n + 1) st e env = (evE p sz n (st + 1) (e.kid 0) env).andThen fun c t => if c.getD 0 0 = 0 then evE p sz n t (e.kid 1) env else evE p sz n t (e.kid 2) env := by rw [evE, if_neg h3, if_neg (by omega), if_neg (by omega), if_pos hk]
theorem evE_9 {p : DProgram} {sz n st : Nat} {e : DExpr} {env : List (List Int)} (h3 : ¬ st = 3000) (hk : e.fKind = 9) : evE p sz (n + 1) st e env = (evE p sz n (st + 1) (e.kid 0) env).andThen fun v t => evE p sz n t (e.kid 1) (env ++ [v]) := by rw [evE, if_neg h3, if_neg (by omega), if_neg (by omega), if_neg (by omega), if_pos hk]
theorem evE_10 {p : DProgram} {sz n st : Nat} {e : DExpr} {env : List (List Int)} (h3 : ¬ st = 3000) (hk : e.fKind = 10) : evE p sz (n + 1) st e env = (seqE (fun t e => evE p sz n t e env) e.fKids (st + 1)).andThen fun vs t => evE p sz n t (p.out e.fNum e.fPick) vs := by
  rw [evE, if_neg h3, if_neg (by omega), if_neg (by omega), if_neg (by omega), if_neg (by omega)]; simp only [if_pos hk]
theorem evE_11 {p : DProgram} {sz n st : Nat} {e : DExpr} {env : List (List Int)} (h3 : ¬ st = 3000) (hk : e.fKind = 11) : evE p sz (n + 1) st e env = (seqE (fun t e => evE p sz n t e env) e.fKids (st + 1)).andThen fun vs t => (iterE (fun vs t => seqE (fun t e => evE p sz n t e vs) (p.outs e.fNum) t) e.fCount.toNat vs t).andThen fun vs t => .ok (vs.getD e.fPick.toNat [], t) := by
  have h : ¬ e.fKind = 10 := by omega
  rw [evE, if_neg h3, if_neg (by omega), if_neg (by omega), if_neg (by omega), if_neg (by omega)]; simp only [if_neg h, if_pos hk]
theorem evE_op {p : DProgram} {sz n st : Nat} {e : DExpr} {env : List (List Int)} (h3 : ¬ st = 3000) (hk : e.fKind = 3 ∨ e.fKind = 4 ∨ e.fKind = 5 ∨ e.fKind = 6 ∨ e.fKind = 7) : evE p sz (n + 1) st e env = (seqE (fun t e => evE p sz n t e env) e.fKids (st + 1)).andThen fun vs t => opE e.fKind vs t := by
  have h : ¬ e.fKind = 10 := by omega
  have h2 : ¬ e.fKind = 11 := by omega
  rw [evE, if_neg h3, if_neg (by omega), if_neg (by omega), if_neg (by omega), if_neg (by omega)]; simp only [if_neg h, if_neg h2]
theorem DExpr.kid_get {e : DExpr} {i : Nat} (h : i < e.fKids.length) : e.fKids[i]? = some (e.kid i) := by
  rw [DExpr.kid, List.getD_eq_getElem?_getD, List.getElem?_eq_getElem h]; rfl
theorem DExpr.kid_eq {e : DExpr} {i : Nat} (h : i < e.fKids.length) : e.kid i = e.fKids[i] := by
  have := DExpr.kid_get h
  rw [List.getElem?_eq_getElem h] at this
  exact (Option.some.inj this).symm
theorem DExpr.kid_ok {p : DProgram} {funcs vars : Int} {e : DExpr} {i : Nat} (hok : e.ok p funcs vars) (h : i < e.fKids.length) : (e.kid i).ok p funcs (moreV e.fKind i vars) := by
  rw [DExpr.kid_eq h]; exact ((DExpr.ok_iff _ _ _ _).1 hok).2 i h
theorem DExpr.ld5 (x : DExpr) : (if 5 ≤ x.c.length then some (HVal.agg (List.take 5 x.c)) else none) = some (.agg x.c) := by
  rw [if_pos (by rw [DExpr.c_len]; exact Nat.le_refl _), List.take_of_length_le (by rw [DExpr.c_len]; exact Nat.le_refl _)]
theorem moreV_ne {k : Int} {i : Nat} {v : Int} (h : ¬ (k = 9 ∧ i = 1)) : moreV k i v = v := if_neg h
theorem serOK_get {sz : Nat} {env : List (List Int)} (h : ∀ s ∈ env, serOK sz s) {i : Nat} (hi : i < env.length) : serOK sz (env.getD i []) := by
  rw [List.getD_eq_getElem?_getD, List.getElem?_eq_getElem hi]; exact h _ (List.getElem_mem hi)
theorem env_get {env : List (List Int)} {i : Nat} (hi : i < env.length) : env[i]? = some (env.getD i []) := by
  rw [List.getD_eq_getElem?_getD, List.getElem?_eq_getElem hi]; rfl
theorem kids_len {p : DProgram} {funcs vars : Int} {e : DExpr} (hok : e.ok p funcs vars) (hk : ¬ (e.fKind = 10 ∨ e.fKind = 11)) : kidsN e.fKind = e.fKids.length := ((nodeOK_plain hk).1 ((DExpr.ok_iff _ _ _ _).1 hok).1).1
theorem kids_ok {p : DProgram} {funcs vars : Int} {e : DExpr} (hok : e.ok p funcs vars) (hk : ¬ e.fKind = 9) : ∀ x ∈ e.fKids, x.ok p funcs vars := fun x hx => by
  obtain ⟨i, hi, rfl⟩ := List.mem_iff_getElem.1 hx
  have := ((DExpr.ok_iff _ _ _ _).1 hok).2 i hi
  rwa [moreV_ne (fun q => hk q.1)] at this
/-- What is known of the function that a call or a loop calls. -/
structure CallF (p : DProgram) (e : DExpr) (f : DFunc) : Prop where
  get : p.fFuncs[e.fNum.toNat]? = some f
  lo : 0 ≤ e.fNum
  hi : e.fNum < p.fFuncs.length
  pk : 0 ≤ e.fPick
  pk2 : e.fPick.toNat < f.fOuts.length
  kids : (e.fKids.length : Int) = f.fParams
  params : 0 ≤ f.fParams ∧ f.fParams ≤ 12
  outs : 1 ≤ f.fOuts.length ∧ f.fOuts.length ≤ 12
  oks : ∀ x ∈ f.fOuts, x.ok p e.fNum f.fParams
  eq : p.outs e.fNum = f.fOuts
  out : f.fOuts[e.fPick.toNat]? = some (p.out e.fNum e.fPick)
  loop : e.fKind = 11 → 0 ≤ e.fCount ∧ e.fCount ≤ 8 ∧ (f.fOuts.length : Int) = f.fParams
theorem callsOf {p : DProgram} (hp : p.ok) {e : DExpr} {funcs vars : Int} (hok : e.ok p funcs vars) (hf : funcs ≤ p.fFuncs.length) (hk : e.fKind = 10 ∨ e.fKind = 11) : ∃ f, CallF p e f := by
  have h1 := ((DExpr.ok_iff _ _ _ _).1 hok).1
  have h2 := h1
  unfold nodeOK at h1
  rw [if_pos hk] at h1
  have hlt : e.fNum.toNat < p.fFuncs.length := by omega
  have ef : p.fFuncs[e.fNum.toNat]? = some p.fFuncs[e.fNum.toNat] := List.getElem?_eq_getElem hlt
  rw [nodeOK_call hk ef] at h2
  obtain ⟨n1, n2, n3, n4, n5, n6, n7⟩ := h2
  have hF := hp.2 _ _ ef
  have heq : p.outs e.fNum = p.fFuncs[e.fNum.toNat].fOuts := by rw [DProgram.outs, ef]; rfl
  refine ⟨_, ⟨ef, n1, by omega, n3, by omega, n5, hF.2.1, by have := hF.2.2.1; omega, fun x hx => ?_, heq, ?_, n7⟩⟩
  · have := (hF.2.2.2.2.2 x hx).2.2.2.2
    rwa [show ((e.fNum.toNat : Nat) : Int) = e.fNum by omega] at this
  · rw [DProgram.out, heq, List.getD_eq_getElem?_getD, List.getElem?_eq_getElem (by omega)]; rfl
/-! ### codes -/
def errP {α : Type} (X : Out α) : Prop := ∀ c, X = .error c → c = 6 ∨ c = 7
theorem errP.ok {α : Type} {v : α} {t : Nat} : errP (.ok (v, t) : Out α) := fun c h => by cases h
theorem errP.then {α β : Type} {X : Out α} {F : α → Nat → Out β} (h : errP X) (hf : ∀ v t, errP (F v t)) : errP (X.andThen F) := fun c hc => by
  cases X with
  | ok p => exact hf p.1 p.2 c hc
  | error d => exact h c (by cases hc; rfl)
theorem seqE_err {ev : Nat → DExpr → Out (List Int)} (h : ∀ t e, errP (ev t e)) : ∀ (l : List DExpr) (t : Nat), errP (seqE ev l t)
  | [], t => .ok
  | e :: l, t => (h t e).then fun v t => (seqE_err h l t).then fun vs t => .ok
theorem iterE_errP {f : List (List Int) → Nat → Out (List (List Int))} (h : ∀ vs t, errP (f vs t)) : ∀ (n : Nat) (vs : List (List Int)) (t : Nat), errP (iterE f n vs t)
  | 0, vs, t => .ok
  | n + 1, vs, t => (h vs t).then fun a t => iterE_errP h n a t
theorem opE_err (k : Int) (vs : List (List Int)) (t : Nat) : errP (opE k vs t) := by
  unfold opE
  repeat' split
  all_goals first | exact .ok | (intro c h; cases h; exact .inl rfl)
theorem evE_err (p : DProgram) (sz : Nat) : ∀ (n t : Nat) (e : DExpr) (env : List (List Int)), errP (evE p sz n t e env)
  | 0, t, e, env => fun c h => by rw [evE] at h; cases h; exact .inr rfl
  | n + 1, t, e, env => by
    have ih := evE_err p sz n
    rw [evE]
    split
    · intro c h; cases h; exact .inr rfl
    split
    · exact .ok
    split
    · exact .ok
    split
    · refine (ih _ _ _).then fun v t => ?_
      split
      · exact ih _ _ _
      · exact ih _ _ _
    split
    · exact (ih _ _ _).then fun v t => ih _ _ _
    refine (seqE_err (fun t e => ih t e env) _ _).then fun vs t => ?_
    split
    · exact ih _ _ _
    split
    · exact (iterE_errP (fun vs t => seqE_err (fun t e => ih t e vs) _ t) _ _ _).then fun vs t => .ok
    · exact opE_err _ _ _
theorem evF_err (p : DProgram) (sz : Nat) (f : Int) (args : List (List Int)) : errP (evF p sz f args) := seqE_err (fun t e => evE_err p sz 3001 t e args) _ _
/-! ### values are series -/
def okP {α : Type} (P : α → Prop) (X : Out α) : Prop := ∀ v u, X = .ok (v, u) → P v
theorem okP.then {α β : Type} {P : α → Prop} {Q : β → Prop} {X : Out α} {F : α → Nat → Out β} (h : okP P X) (hf : ∀ v t, P v → okP Q (F v t)) : okP Q (X.andThen F) := fun w u hw => by
  cases X with
  | ok p => obtain ⟨v, t⟩ := p; exact hf v t (h v t rfl) w u hw
  | error c => cases hw
theorem okP.pure {α : Type} {P : α → Prop} {v : α} {t : Nat} (h : P v) : okP P (.ok (v, t)) := fun w u e => by cases e; exact h
theorem okP.err {α : Type} {P : α → Prop} {c : Int} : okP P (.error c : Out α) := fun w u e => by cases e
def serL (sz n : Nat) (l : List (List Int)) : Prop := l.length = n ∧ ∀ s ∈ l, serOK sz s
theorem seqE_ser {ev : Nat → DExpr → Out (List Int)} {sz : Nat} : ∀ (l : List DExpr) (t : Nat), (∀ e ∈ l, ∀ t, okP (serOK sz) (ev t e)) → okP (serL sz l.length) (seqE ev l t)
  | [], t, _ => okP.pure ⟨rfl, by simp⟩
  | e :: l, t, h => (h e List.mem_cons_self t).then fun v t hv => (seqE_ser l t fun x hx => h x (List.mem_cons_of_mem _ hx)).then fun vs t hvs => okP.pure ⟨by rw [List.length_cons, hvs.1]; rfl, fun s hs => by
      rcases List.mem_cons.1 hs with rfl | hs
      · exact hv
      · exact hvs.2 s hs⟩
theorem iterE_ser {f : List (List Int) → Nat → Out (List (List Int))} {P : List (List Int) → Prop} (h : ∀ vs t, P vs → okP P (f vs t)) : ∀ (n : Nat) (vs : List (List Int)) (t : Nat), P vs → okP P (iterE f n vs t)
  | 0, vs, t, hv => okP.pure hv
  | n + 1, vs, t, hv => (h vs t hv).then fun a t ha => iterE_ser h n a t ha
theorem serL.get {sz n i : Nat} {l : List (List Int)} (h : serL sz n l) (hi : i < n) : serOK sz (l.getD i []) := by
  rw [List.getD_eq_getElem?_getD, List.getElem?_eq_getElem (by rw [h.1]; exact hi)]; exact h.2 _ (List.getElem_mem _)
theorem node_kind {p : DProgram} {e : DExpr} {vars funcs : Int} (h : nodeOK p e vars funcs) : e.fKind = 1 ∨ e.fKind = 2 ∨ e.fKind = 3 ∨ e.fKind = 4 ∨ e.fKind = 5 ∨ e.fKind = 6 ∨ e.fKind = 7 ∨ e.fKind = 8 ∨ e.fKind = 9 ∨ e.fKind = 10 ∨ e.fKind = 11 := by
  by_cases hk : e.fKind = 10 ∨ e.fKind = 11
  · omega
  · have h1 := ((nodeOK_plain hk).1 h).1
    unfold kidsN at h1
    repeat' (split at h1)
    all_goals omega
theorem evE_ser {p : DProgram} (hp : p.ok) {sz : Nat} (hsz : 1 ≤ sz) : ∀ (n t : Nat) (e : DExpr) (env : List (List Int)) (funcs : Int), e.ok p funcs env.length → funcs ≤ p.fFuncs.length → (∀ s ∈ env, serOK sz s) → okP (serOK sz) (evE p sz n t e env)
  | 0, t, e, env, funcs, _, _, _ => okP.err
  | n + 1, t, e, env, funcs, hok, hf, henv => by
    have ih := evE_ser hp hsz n
    have hnode := ((DExpr.ok_iff _ _ _ _).1 hok).1
    by_cases h3 : t = 3000
    · rw [evE, if_pos h3]; exact okP.err
    rcases node_kind hnode with hk | hk | hk | hk | hk | hk | hk | hk | hk | hk | hk
    · rw [evE_1 h3 hk]; exact okP.pure (serOK_const (((nodeOK_plain (by omega)).1 hnode).2.2.2.1 hk))
    · rw [evE_2 h3 hk]
      have := ((nodeOK_plain (by omega)).1 hnode).2.2.2.2.1 hk
      exact okP.pure (serOK_get henv (by omega))
    iterate 5
      · have hlen := kids_len hok (by omega)
        rw [hk] at hlen
        rw [evE_op h3 (by omega)]
        refine (seqE_ser _ _ fun x hx t => ih t x env funcs (kids_ok hok (by omega) x hx) hf henv).then fun vs t hv => ?_
        have h0 := hv.get (i := 0) (by unfold kidsN at hlen; simp at hlen; omega)
        rw [hk]
        unfold opE
        first
        | exact okP.pure (serOK_scl _ h0)
        | (have h1 := hv.get (i := 1) (by unfold kidsN at hlen; simp at hlen; omega)
           first
           | exact okP.pure (serOK_add h0 h1)
           | exact okP.pure (serOK_sub h0 h1)
           | exact okP.pure (serOK_mul _ h0)
           | (simp only [if_neg (show ¬ (6 : Int) = 3 by decide), if_neg (show ¬ (6 : Int) = 4 by decide), if_neg (show ¬ (6 : Int) = 5 by decide), if_neg (show ¬ (6 : Int) = 7 by decide)]
              split
              · exact okP.err
              · exact okP.pure (serOK_div _ h0)))
    · have hlen := kids_len hok (by omega)
      rw [hk, show kidsN 8 = 3 from rfl] at hlen
      have o0 := DExpr.kid_ok hok (i := 0) (by omega)
      have o1 := DExpr.kid_ok hok (i := 1) (by omega)
      have o2 := DExpr.kid_ok hok (i := 2) (by omega)
      rw [moreV_ne (by omega)] at o0 o1 o2
      rw [evE_8 h3 hk]
      refine (ih _ _ _ _ o0 hf henv).then fun c t hc => ?_
      split
      · exact ih _ _ _ _ o1 hf henv
      · exact ih _ _ _ _ o2 hf henv
    · have hlen := kids_len hok (by omega)
      rw [hk, show kidsN 9 = 2 from rfl] at hlen
      have o0 := DExpr.kid_ok hok (i := 0) (by omega)
      have o1 := DExpr.kid_ok hok (i := 1) (by omega)
      rw [moreV_ne (by omega)] at o0
      rw [hk, show moreV 9 1 (env.length : Int) = env.length + 1 from rfl] at o1
      rw [evE_9 h3 hk]
      refine (ih _ _ _ _ o0 hf henv).then fun v t hv => ih _ _ _ _ (by rw [List.length_append]; exact o1) hf fun s hs => ?_
      rcases List.mem_append.1 hs with hs | hs
      · exact henv s hs
      · rw [List.mem_singleton.1 hs]; exact hv
    · obtain ⟨f, F⟩ := callsOf hp hok hf (.inl hk)
      have f2 := F.hi
      have f4 := F.pk2
      rw [evE_10 h3 hk]
      refine (seqE_ser _ _ fun x hx t => ih t x env funcs (kids_ok hok (by omega) x hx) hf henv).then fun vs t hv => ?_
      exact ih _ _ _ e.fNum (by rw [hv.1, F.kids]; exact F.oks _ (List.mem_of_getElem? F.out)) (by omega) hv.2
    · obtain ⟨f, F⟩ := callsOf hp hok hf (.inr hk)
      have f2 := F.hi
      have f4 := F.pk2
      have f9 := F.loop hk
      rw [evE_11 h3 hk]
      refine (seqE_ser _ _ fun x hx t => ih t x env funcs (kids_ok hok (by omega) x hx) hf henv).then fun vs t hv => ?_
      refine (iterE_ser (P := serL sz f.fOuts.length) (fun us u hu => ?_) _ _ _ ⟨by have := hv.1; have := F.kids; omega, hv.2⟩).then fun us u hu => okP.pure (hu.get f4)
      rw [F.eq]
      exact seqE_ser _ _ fun x hx t => ih t x us e.fNum (by rw [hu.1, f9.2.2]; exact F.oks x hx) (by omega) hu.2
theorem func_ok {p : DProgram} (hp : p.ok) {f : Int} (hf : 0 ≤ f ∧ f < p.fFuncs.length) : ∃ F, p.fFuncs[f.toNat]? = some F ∧ (1 ≤ F.fOuts.length ∧ F.fOuts.length ≤ 12) ∧ (0 ≤ F.fParams ∧ F.fParams ≤ 12) ∧ p.outs f = F.fOuts ∧ ∀ x ∈ F.fOuts, x.ok p f F.fParams := by
  have hlt : f.toNat < p.fFuncs.length := by omega
  have ef : p.fFuncs[f.toNat]? = some p.fFuncs[f.toNat] := List.getElem?_eq_getElem hlt
  have hF := hp.2 _ _ ef
  refine ⟨_, ef, by have := hF.2.2.1; omega, hF.2.1, by rw [DProgram.outs, ef]; rfl, fun x hx => ?_⟩
  have := (hF.2.2.2.2.2 x hx).2.2.2.2
  rwa [show ((f.toNat : Nat) : Int) = f by omega] at this
theorem evF_ser {p : DProgram} (hp : p.ok) {sz : Nat} (hsz : 1 ≤ sz) (f : Int) (hf : 0 ≤ f ∧ f < p.fFuncs.length) (args : List (List Int)) (ha : ∀ s ∈ args, serOK sz s) (hl : ∀ F, p.fFuncs[f.toNat]? = some F → (args.length : Int) = F.fParams) : okP (fun l => serL sz (p.outs f).length l) (evF p sz f args) := by
  obtain ⟨F, ef, hF1, hF2, hF3, hF4⟩ := func_ok hp hf
  exact seqE_ser _ _ fun x hx t => evE_ser hp hsz _ _ x args f (by rw [hl F ef]; exact hF4 x (by rw [← hF3]; exact hx)) (by omega) ha
open Go.Proofs
set_option linter.unusedVariables false
set_option linter.unusedSimpArgs false
def keep242 : List Nat := [0, 1, 4, 5, 6, 11, 12, 13]
def ib242 : List Nat := []
def mk242 : Marks := fun _ => ([], .nil, [])
set_option maxRecDepth 100000 in
theorem scaledN (a : List Int) (m : Int) (hm : Num m) (hl : a.length ≤ 1048576) (ha : Nums a) : FnN Tryz.prog 242 [sls 1 (fun n => [I n]) a, I m] (QS (OS (oP I) 1 (sclL a m))) := by
  refine fnNF 27 keep242 ib242 mk242 mix Tryz.func242 rfl (by kernel_rfl) (by simp) fun h => ?_
  simp (maxSteps := 1000000) -dsimp -implicitDefEqProofs only [go_sem, ↓reduceIte, keep242, ib242, mk242, Tryz.f242]
  intro _
  refine ⟨Nat.zero_lt_one, Nat.le_refl _, by omega, by omega, fun n hn _ => ?_⟩
  have hc := sclL_len a m
  rw [rowZero]
  refine loopRow (keep := keep242) (ib := ib242) (mk := mk242) mix (by kernel_rfl) (fun k : Nat => [(0, sls 1 (fun n => [I n]) a), (1, I m), (5, .os n 1 0 a.length), (11, I a.length), (12, I k)]) n (fun k => .row 1 (((upL (sclL a m) k).map fun n => [I n]).map (List.map .v))) (fun k => k ≤ a.length) (fun k => a.length - k) 0 ⟨by simp [SatL, tget], by rw [upd_same, upL_zero, hc], Nat.zero_le _⟩ ?_
  intro k hk
  rcases Nat.lt_or_ge k a.length with hlt | hge
  · have ea : a[k]? = some a[k] := List.getElem?_eq_getElem hlt
    have eu := upL_get (c := sclL a m) (k := k) (by omega)
    have el := upL_len (sclL a m) (k := k) (by omega)
    simp (maxSteps := 1000000) -dsimp -implicitDefEqProofs only [go_sem, ↓reduceIte, keep242, ib242, mk242, Tryz.f242, upd_upd, hlt, ea, eu, el, hc]
    have h1 := num_mul (ha _ (List.getElem_mem hlt)) hm
    refine ⟨k + 1, by rw [IntWalk.i64_in _ (by omega)]; rfl, ?_, by omega, by omega⟩
    have hv : (sclL a m)[k]'(by omega) = a[k] * m % 1000003 := by simp [sclL]
    rw [wmod h1.1 (by omega), ← upL_set (by omega), hv, ← rowSet I]
    exact Heap.le_refl _
  · have hk' : k = a.length := by omega
    subst hk'
    simp (maxSteps := 1000000) -dsimp -implicitDefEqProofs only [go_sem, ↓reduceIte, keep242, ib242, mk242, Tryz.f242, upd_upd, Nat.lt_irrefl]
    have hu : upL (sclL a m) a.length = sclL a m := by rw [← hc]; exact upL_all _
    rw [hu, show a.length = (sclL a m).length from hc.symm]
    exact own_row hn
theorem seal1 {P : Program} {f : FuncId} {args : List HVal} {l : List Int} (a : FnN P f args (QS (OS (oP I) 1 l))) : Fn0 P f args (sls 1 (fun n => [I n]) l) := QS.fn0 a (fun y hy => OS.dat (c := fun n => [I n]) (fun _ _ q => oP_dat q) hy)
theorem scaled (a : List Int) (m : Int) (hm : Num m) (hl : a.length ≤ 1048576) (ha : Nums a) : Fn0 Tryz.prog 242 [sls 1 (fun n => [I n]) a, I m] (sls 1 (fun n => [I n]) (sclL a m)) := seal1 (scaledN a m hm hl ha)
theorem addedS (a b : List Int) (hab : b.length = a.length) (hl : a.length ≤ 1048576) (ha : Nums a) (hb : Nums b) : Fn0 Tryz.prog 90 [sls 1 (fun n => [I n]) a, sls 1 (fun n => [I n]) b] (sls 1 (fun n => [I n]) (addL a b)) := seal1 (added a b hab hl (nums_lt ha) (nums_lt hb))
def keep225 : List Nat := [0, 1, 4]
def ib225 : List Nat := []
def mk225 : Marks := fun _ => ([], .nil, [])
theorem reducedN (a b : List Int) (hab : b.length = a.length) (hl : a.length ≤ 1048576) (ha : Nums a) (hb : Nums b) : FnN Tryz.prog 225 [sls 1 (fun n => [I n]) a, sls 1 (fun n => [I n]) b] (QS (OS (oP I) 1 (subL a b))) := by
  refine fnNF 9 keep225 ib225 mk225 mix Tryz.func225 rfl (by kernel_rfl) (by simp) fun h => ?_
  simp (maxSteps := 1000000) -dsimp -implicitDefEqProofs only [go_sem, ↓reduceIte, keep225, ib225, mk225, Tryz.f225]
  first | refine HFnF.mk (scaled b 1000002 (by unfold Num; omega) (by omega) hb) ?_ | refine CallSF.mk (scaled b 1000002 (by unfold Num; omega) (by omega) hb) ?_ | refine HFnF.mkAt (scaled b 1000002 (by unfold Num; omega) (by omega) hb) ?_ | refine CallSF.mk (FnAt.fn0 (scaled b 1000002 (by unfold Num; omega) (by omega) hb)) ?_
  simp (maxSteps := 1000000) -dsimp -implicitDefEqProofs only [go_sem, ↓reduceIte, keep225, ib225, mk225, Tryz.f225]
  refine HFnF.wn0 (added a (sclL b 1000002) (by rw [sclL_len]; exact hab) hl (nums_lt ha) (nums_lt (serOK_scl _ ⟨rfl, hb⟩).2)) ?_
  rintro r l g ⟨y, oy, rfl, rfl⟩ wn
  simp (maxSteps := 1000000) -dsimp -implicitDefEqProofs only [go_sem, ↓reduceIte, keep225, ib225, mk225, Tryz.f225, oy.flat, oy.one]
  exact ⟨_, g, _, shift_self _ _, ⟨y, oy, rfl, rfl⟩, wn⟩
theorem reduced (a b : List Int) (hab : b.length = a.length) (hl : a.length ≤ 1048576) (ha : Nums a) (hb : Nums b) : Fn0 Tryz.prog 225 [sls 1 (fun n => [I n]) a, sls 1 (fun n => [I n]) b] (sls 1 (fun n => [I n]) (subL a b)) := seal1 (reducedN a b hab hl ha hb)
def keep281 : List Nat := [0, 1, 4]
def ib281 : List Nat := []
def mk281 : Marks := fun _ => ([], .nil, [])
theorem minus (a b : Int) : Fn0 Tryz.prog 281 [I a, I b] (I ((a - b) % 1000003)) := by
  refine fn0F 10 keep281 ib281 mk281 mix Tryz.func281 rfl (by kernel_rfl) (by simp) fun h => ?_
  simp (maxSteps := 1000000) -dsimp -implicitDefEqProofs only [go_sem, ↓reduceIte, keep281, ib281, mk281, Tryz.f281]
  first | refine HFnF.mk (Residue b) ?_ | refine CallSF.mk (Residue b) ?_ | refine HFnF.mkAt (Residue b) ?_ | refine CallSF.mk (FnAt.fn0 (Residue b)) ?_
  simp (maxSteps := 1000000) -dsimp -implicitDefEqProofs only [go_sem, ↓reduceIte, keep281, ib281, mk281, Tryz.f281]
  rw [IntWalk.i64_in _ (by omega)]
  first | refine HFnF.mk (Plus a (1000003 - b % 1000003)) ?_ | refine CallSF.mk (Plus a (1000003 - b % 1000003)) ?_ | refine HFnF.mkAt (Plus a (1000003 - b % 1000003)) ?_ | refine CallSF.mk (FnAt.fn0 (Plus a (1000003 - b % 1000003))) ?_
  simp (maxSteps := 1000000) -dsimp -implicitDefEqProofs only [go_sem, ↓reduceIte, keep281, ib281, mk281, Tryz.f281]
  omega
def keep91 : List Nat := [0, 1, 4, 5, 6, 7, 12, 13, 14, 18]
def ib91 : List Nat := []
def mk91 : Marks := fun id => match id with | 8 => ([5, 20], (.op 0 (.op 1 (.op 2 (.op 3 (.op 4 (.op 6 (.op 7 (.op 8 (.op 9 (.op 10 (.op 11 (.op 12 (.op 13 (.op 14 (.op 15 (.op 16 (.op 5 (.op 17 (.op 18 (.op 19 (.op 20 .nil))))))))))))))))))))), []) | _ => ([], .nil, [])
set_option maxRecDepth 100000 in
theorem productN (a b : List Int) (hab : b.length = a.length) (hl : a.length ≤ 1048576) (ha : Nums a) (hb : Nums b) : FnN Tryz.prog 91 [sls 1 (fun n => [I n]) a, sls 1 (fun n => [I n]) b] (QS (OS (oP I) 1 (mulL a b))) := by
  refine fnNF 43 keep91 ib91 mk91 mix Tryz.func91 rfl (by kernel_rfl) (by simp) fun h => ?_
  simp (maxSteps := 1000000) -dsimp -implicitDefEqProofs only [go_sem, ↓reduceIte, keep91, ib91, mk91, Tryz.f91]
  intro _
  refine ⟨Nat.zero_lt_one, Nat.le_refl _, by omega, by omega, fun n hn _ => ?_⟩
  have hc := mulL_len a b
  rw [rowZero]
  refine loopRow (keep := keep91) (ib := ib91) (mk := mk91) mix (by kernel_rfl) (fun k : Nat => [(0, sls 1 (fun n => [I n]) a), (1, sls 1 (fun n => [I n]) b), (5, .os n 1 0 a.length), (12, I a.length), (13, I k)]) n (fun k => .row 1 (((upL (mulL a b) k).map fun n => [I n]).map (List.map .v))) (fun k => k ≤ a.length) (fun k => a.length - k) 0 ⟨by simp [SatL, tget], by rw [upd_same, upL_zero, hc], Nat.zero_le _⟩ ?_
  intro k hk
  rcases Nat.lt_or_ge k a.length with hlt | hge
  · simp (maxSteps := 1000000) -dsimp -implicitDefEqProofs only [go_sem, ↓reduceIte, keep91, ib91, mk91, Tryz.f91, upd_upd, hlt]
    refine loopRow (keep := keep91) (ib := ib91) (mk := mk91) mix (by kernel_rfl) (fun i : Nat => [(0, sls 1 (fun n => [I n]) a), (1, sls 1 (fun n => [I n]) b), (5, .os n 1 0 a.length), (6, I k), (7, I i), (12, I a.length), (13, I k)]) n (fun i => .row 1 ((((upL (mulL a b) k).set k (cvS a b k i)).map fun n => [I n]).map (List.map .v))) (fun i => i ≤ k + 1) (fun i => k + 1 - i) 0 ⟨by simp [SatL, tget], by rw [upd_same, cvS, upL_set0 (by omega)], Nat.zero_le _⟩ ?_
    intro i hi
    have el : ((upL (mulL a b) k).set k (cvS a b k i)).length = a.length := by rw [List.length_set, upL_len _ (by omega), hc]
    have eu : ((upL (mulL a b) k).set k (cvS a b k i))[k]? = some (cvS a b k i) := by rw [List.getElem?_set_self (by rw [List.length_set] at el; omega)]
    rcases Nat.lt_or_ge i (k + 1) with hlt2 | hge2
    · have ea := getD_get (l := a) (i := i) (by omega)
      have eb := getD_get (l := b) (i := k - i) (by omega)
      have ew : IntKind.i64.wrap ((k : Int) - (i : Int)) = ((k - i : Nat) : Int) := by rw [IntWalk.i64_in _ (by omega)]; omega
      simp (maxSteps := 1000000) -dsimp -implicitDefEqProofs only [go_sem, ↓reduceIte, keep91, ib91, mk91, Tryz.f91, upd_upd, hlt, ea, eb, eu, el, hc, ew]
      refine ⟨fun _ => ⟨by omega, by omega, i + 1, by rw [IntWalk.i64_in _ (by omega)]; rfl, ?_, by omega, by omega⟩, fun q => absurd (by omega) q⟩
      have h1 := num_mul (ha.get i) (hb.get (k - i))
      have h2 := num_cv a b k i
      unfold Num at h2
      rw [IntWalk.i64_in (a.getD i 0 * b.getD (k - i) 0) (by omega), wmod (by omega) (by omega), show (upL (mulL a b) k).set k (cvS a b k (i + 1)) = ((upL (mulL a b) k).set k (cvS a b k i)).set k ((cvS a b k i + a.getD i 0 * b.getD (k - i) 0) % 1000003) by rw [List.set_set, cvS], ← rowSet I]
      exact Heap.le_refl _
    · have hi' : i = k + 1 := by omega
      subst hi'
      simp (maxSteps := 1000000) -dsimp -implicitDefEqProofs only [go_sem, ↓reduceIte, keep91, ib91, mk91, Tryz.f91, upd_upd, hlt]
      refine ⟨fun q => absurd q (by omega), fun _ => ⟨k + 1, by rw [IntWalk.i64_in _ (by omega)]; rfl, ?_, by omega, by omega⟩⟩
      have hv : (mulL a b)[k]'(by omega) = cvS a b k (k + 1) := by simp [mulL]
      rw [← hv, upL_set (by omega)]
      exact Heap.le_refl _
  · have hk' : k = a.length := by omega
    subst hk'
    simp (maxSteps := 1000000) -dsimp -implicitDefEqProofs only [go_sem, ↓reduceIte, keep91, ib91, mk91, Tryz.f91, upd_upd, Nat.lt_irrefl]
    have hu : upL (mulL a b) a.length = mulL a b := by rw [← hc]; exact upL_all _
    rw [hu, show a.length = (mulL a b).length from hc.symm]
    exact own_row hn
theorem product (a b : List Int) (hab : b.length = a.length) (hl : a.length ≤ 1048576) (ha : Nums a) (hb : Nums b) : Fn0 Tryz.prog 91 [sls 1 (fun n => [I n]) a, sls 1 (fun n => [I n]) b] (sls 1 (fun n => [I n]) (mulL a b)) := seal1 (productN a b hab hl ha hb)
def keep245 : List Nat := [0, 1, 4, 5, 6, 8, 12, 17]
def ib245 : List Nat := []
def mk245 : Marks := fun _ => ([], .nil, [])
set_option maxRecDepth 100000 in
theorem Power (a n : Int) (hn : 0 ≤ n) (hn2 : n ≤ 4294967296) : Fn0 Tryz.prog 245 [I a, I n] (I (pwN (a % 1000003) n.toNat)) := by
  refine fn0F 27 keep245 ib245 mk245 mix Tryz.func245 rfl (by kernel_rfl) (by simp) fun h => ?_
  simp (maxSteps := 1000000) -dsimp -implicitDefEqProofs only [go_sem, ↓reduceIte, keep245, ib245, mk245, Tryz.f245]
  refine ⟨fun q => absurd q (by omega), fun _ => ?_⟩
  first | refine HFnF.mk (Residue a) ?_ | refine CallSF.mk (Residue a) ?_ | refine HFnF.mkAt (Residue a) ?_ | refine CallSF.mk (FnAt.fn0 (Residue a)) ?_
  simp (maxSteps := 1000000) -dsimp -implicitDefEqProofs only [go_sem, ↓reduceIte, keep245, ib245, mk245, Tryz.f245]
  generalize hT : pwN (a % 1000003) n.toNat = T
  refine loopSame (keep := keep245) (ib := ib245) (mk := mk245) mix (by kernel_rfl) (fun x : Int × Int × Int => [(1, I x.2.2), (5, I x.1), (6, I x.2.1)]) (fun x => (0 ≤ x.1 ∧ x.1 < 1000003) ∧ (0 ≤ x.2.1 ∧ x.2.1 < 1000003) ∧ (0 ≤ x.2.2 ∧ x.2.2 ≤ 4294967296) ∧ x.1 * x.2.1 ^ x.2.2.toNat % 1000003 = T) (fun x => x.2.2.toNat) (1, a % 1000003, n) ⟨by simp [SatL, tget], ⟨by simp, by simp⟩, modP _, ⟨hn, hn2⟩, by rw [Int.one_mul]; exact hT⟩ ?_
  rintro ⟨x, b, m⟩ ⟨hx, hb, hm, hp⟩
  simp only at hx hb hm hp ⊢
  simp (maxSteps := 1000000) -dsimp -implicitDefEqProofs only [go_sem, ↓reduceIte, keep245, ib245, mk245, Tryz.f245]
  have h1 := num_mul (x := x) (y := b) (by unfold Num; omega) (by unfold Num; omega)
  have h2 := num_mul (x := b) (y := b) (by unfold Num; omega) (by unfold Num; omega)
  rw [Int.tmod_eq_emod_of_nonneg hm.1, Int.tdiv_eq_ediv_of_nonneg hm.1, IntWalk.i64_in (m / 2) (by omega), wmod h1.1 (by omega), wmod h2.1 (by omega)]
  refine ⟨fun hg => ⟨fun ho => ⟨(x * b % 1000003, b * b % 1000003, m / 2), ⟨rfl, rfl, rfl⟩, ⟨modP _, modP _, (show 0 ≤ m / 2 ∧ m / 2 ≤ 4294967296 by omega), pw_odd hm.1 ho hp⟩, by simp only; omega⟩, fun ho => ⟨(x, b * b % 1000003, m / 2), ⟨rfl, rfl, rfl⟩, ⟨hx, modP _, (show 0 ≤ m / 2 ∧ m / 2 ≤ 4294967296 by omega), pw_even hm.1 ho hp⟩, by simp only; omega⟩⟩, fun hg => ?_⟩
  have : m.toNat = 0 := by omega
  rw [this, pw_done x b hx] at hp
  exact hp
def keep177 : List Nat := [0, 2]
def ib177 : List Nat := []
def mk177 : Marks := fun _ => ([], .nil, [])
theorem inverse (a : Int) : Fn0 Tryz.prog 177 [I a] (I (invN a)) := by
  refine fn0F 5 keep177 ib177 mk177 mix Tryz.func177 rfl (by kernel_rfl) (by simp) fun h => ?_
  simp (maxSteps := 1000000) -dsimp -implicitDefEqProofs only [go_sem, ↓reduceIte, keep177, ib177, mk177, Tryz.f177]
  first | refine HFnF.mk (Power a 1000001 (by decide) (by decide)) ?_ | refine CallSF.mk (Power a 1000001 (by decide) (by decide)) ?_ | refine HFnF.mkAt (Power a 1000001 (by decide) (by decide)) ?_ | refine CallSF.mk (FnAt.fn0 (Power a 1000001 (by decide) (by decide))) ?_
  simp (maxSteps := 1000000) -dsimp -implicitDefEqProofs only [go_sem, ↓reduceIte, keep177, ib177, mk177, Tryz.f177]
  rfl
def keep243 : List Nat := [0, 1, 4, 5, 6, 7, 8, 9, 18, 19, 20, 28]
def ib243 : List Nat := []
def mk243 : Marks := fun id => match id with | 1 => ([2], (.op 0 (.op 1 (.op 3 (.op 4 (.op 5 (.op 6 (.op 2 (.op 7 (.op 8 .nil))))))))), []) | 9 => ([4], (.op 0 (.op 1 (.op 2 (.op 3 (.op 5 (.op 6 (.op 7 (.op 8 (.op 9 (.op 10 (.op 4 (.op 11 (.op 12 (.op 13 .nil)))))))))))))), []) | _ => ([], .nil, [])
set_option maxRecDepth 100000 in
theorem quotientN (a b : List Int) (hab : b.length = a.length) (hl : a.length ≤ 1048576) (h0 : 0 < a.length) (ha : Nums a) (hb : Nums b) : FnN Tryz.prog 243 [sls 1 (fun n => [I n]) a, sls 1 (fun n => [I n]) b] (QS (OS (oP I) 1 (divL a b))) := by
  have e0 : b[Int.toNat 0]? = some (b.getD 0 0) := getD_get (l := b) (i := 0) (by omega)
  refine fnNF 53 keep243 ib243 mk243 mix Tryz.func243 rfl (by kernel_rfl) (by simp) fun h => ?_
  simp (maxSteps := 1000000) -dsimp -implicitDefEqProofs only [go_sem, ↓reduceIte, keep243, ib243, mk243, Tryz.f243, e0]
  refine ⟨by omega, ?_⟩
  first | refine HFnF.mk (inverse (b.getD 0 0)) ?_ | refine CallSF.mk (inverse (b.getD 0 0)) ?_ | refine HFnF.mkAt (inverse (b.getD 0 0)) ?_ | refine CallSF.mk (FnAt.fn0 (inverse (b.getD 0 0))) ?_
  simp (maxSteps := 1000000) -dsimp -implicitDefEqProofs only [go_sem, ↓reduceIte, keep243, ib243, mk243, Tryz.f243]
  refine ⟨Nat.zero_lt_one, Nat.le_refl _, by omega, by omega, fun n hn _ => ?_⟩
  have hc := divL_len a b
  rw [rowZero]
  refine loopRow (keep := keep243) (ib := ib243) (mk := mk243) mix (by kernel_rfl) (fun k : Nat => [(0, sls 1 (fun n => [I n]) a), (1, sls 1 (fun n => [I n]) b), (5, .os n 1 0 a.length), (6, I (invN (b.getD 0 0))), (18, I a.length), (19, I k)]) n (fun k => .row 1 (((upL (divL a b) k).map fun n => [I n]).map (List.map .v))) (fun k => k ≤ a.length) (fun k => a.length - k) 0 ⟨by simp [SatL, tget], by rw [upd_same, upL_zero, hc], Nat.zero_le _⟩ ?_
  intro k hk
  rcases Nat.lt_or_ge k a.length with hlt | hge
  · have ek := getD_get hlt
    simp (maxSteps := 1000000) -dsimp -implicitDefEqProofs only [go_sem, ↓reduceIte, keep243, ib243, mk243, Tryz.f243, upd_upd, hlt, ek]
    refine loopSame (keep := keep243) (ib := ib243) (mk := mk243) mix (by kernel_rfl) (fun i : Nat => [(0, sls 1 (fun n => [I n]) a), (1, sls 1 (fun n => [I n]) b), (5, .os n 1 0 a.length), (6, I (invN (b.getD 0 0))), (7, I k), (8, I (dvS (divN a b k) b k (a.getD k 0) i)), (9, I i), (18, I a.length), (19, I k)]) (fun i => i ≤ k) (fun i => k - i) 0 ⟨by simp [SatL, tget, dvS], Nat.zero_le _⟩ ?_
    intro i hi
    have el := upL_len (divL a b) (k := k) (by omega)
    have eu := upL_get (c := divL a b) (k := k) (by omega)
    rcases Nat.lt_or_ge i k with hlt2 | hge2
    · have ei := upL_div_get (a := a) (b := b) (i := i) hk hlt2
      have eb := getD_get (l := b) (i := k - i) (by omega)
      have ew : IntKind.i64.wrap ((k : Int) - (i : Int)) = ((k - i : Nat) : Int) := by rw [IntWalk.i64_in _ (by omega)]; omega
      simp (maxSteps := 1000000) -dsimp -implicitDefEqProofs only [go_sem, ↓reduceIte, keep243, ib243, mk243, Tryz.f243, upd_upd, hlt2, ei, eb, el, hc, ew]
      have h1 := num_mul ((nums_div a b k).get i) (hb.get (k - i))
      refine ⟨by omega, by omega, ?_⟩
      rw [IntWalk.i64_in _ (by omega)]
      first | refine HFnF.mk (minus (dvS (divN a b k) b k (a.getD k 0) i) ((divN a b k).getD i 0 * b.getD (k - i) 0)) ?_ | refine CallSF.mk (minus (dvS (divN a b k) b k (a.getD k 0) i) ((divN a b k).getD i 0 * b.getD (k - i) 0)) ?_ | refine HFnF.mkAt (minus (dvS (divN a b k) b k (a.getD k 0) i) ((divN a b k).getD i 0 * b.getD (k - i) 0)) ?_ | refine CallSF.mk (FnAt.fn0 (minus (dvS (divN a b k) b k (a.getD k 0) i) ((divN a b k).getD i 0 * b.getD (k - i) 0))) ?_
      simp (maxSteps := 1000000) -dsimp -implicitDefEqProofs only [go_sem, ↓reduceIte, keep243, ib243, mk243, Tryz.f243, upd_upd, hlt2, ei, eb, el, hc, ew]
      exact ⟨i + 1, ⟨rfl, by rw [IntWalk.i64_in _ (by omega)]; rfl⟩, by omega, by omega⟩
    · have hi' : i = k := by omega
      subst hi'
      simp (maxSteps := 1000000) -dsimp -implicitDefEqProofs only [go_sem, ↓reduceIte, keep243, ib243, mk243, Tryz.f243, upd_upd, Nat.lt_irrefl, hlt, eu, el, hc]
      have h1 := num_mul (num_dv (divN a b i) b i (ha.get i) i) (num_inv (b.getD 0 0))
      refine ⟨i + 1, by rw [IntWalk.i64_in _ (by omega)]; rfl, ?_, by omega, by omega⟩
      rw [wmod h1.1 (by omega), ← divL_get hlt, ← upL_set (by omega), ← rowSet I]
      exact Heap.le_refl _
  · have hk' : k = a.length := by omega
    subst hk'
    simp (maxSteps := 1000000) -dsimp -implicitDefEqProofs only [go_sem, ↓reduceIte, keep243, ib243, mk243, Tryz.f243, upd_upd, Nat.lt_irrefl]
    have hu : upL (divL a b) a.length = divL a b := by rw [← hc]; exact upL_all _
    rw [hu, show a.length = (divL a b).length from hc.symm]
    exact own_row hn
theorem quotient (a b : List Int) (hab : b.length = a.length) (hl : a.length ≤ 1048576) (h0 : 0 < a.length) (ha : Nums a) (hb : Nums b) : Fn0 Tryz.prog 243 [sls 1 (fun n => [I n]) a, sls 1 (fun n => [I n]) b] (sls 1 (fun n => [I n]) (divL a b)) := seal1 (quotientN a b hab hl h0 ha hb)
/-- A row of numbers of this function's own, handed back. -/
theorem shift_ints {h h' : Heap} {n : Nat} (l : List Int) (h0 : h n = none) (hl : (upd h n (.row 1 ((l.map fun n => [I n]).map (List.map .v)))).le h') {len : Nat} (e : len = l.length) : Shift (.os n 1 0 len) h' (sls 1 (fun n => [I n]) l) h :=
  shift_row (l.map fun n => [I n]) h0 hl len (by rw [List.length_map]; exact e)
theorem constL_len (n : Int) (sz : Nat) : (constL n sz).length = sz := by simp [constL]
theorem rep_get {sz : Nat} {x : List HVal} (h : 0 < sz) : (List.replicate sz x)[Int.toNat 0]? = some x := by
  show (List.replicate sz x)[0]? = some x
  rw [List.getElem?_replicate, if_pos h]
theorem rowConst (n : Int) (sz : Nat) : ((List.replicate sz [HVal.int .i64 0]).map (List.map Cell.v)).set 0 [Cell.v (I n)] = ((constL n sz).map fun n => [I n]).map (List.map .v) := by
  rw [rowZero, constL, rowSet I]
def keep300 : List Nat := [0, 1, 4, 5]
def ib300 : List Nat := []
def mk300 : Marks := fun _ => ([], .nil, [])
set_option maxRecDepth 100000 in
theorem constantI (h : Heap) (nb : Nat) (c0 c2 c3 : Cell) (n : Int) (sz : Nat) (hb : h nb = some (.row 4 [[c0, .v (I ((sz : Int) - 1)), c2, c3]])) (ho : 1 ≤ sz ∧ sz ≤ 1048576) : HFn Tryz.prog 300 [.op nb 4 0 0, I n] h fun r h' => r = sls 1 (fun n => [I n]) (constL n sz) ∧ h' = h := by
  have e1 : IntKind.i64.wrap ((sz : Int) - 1 + 1) = (sz : Int) := by rw [IntWalk.i64_in _ (by omega)]; omega
  have e2 := rep_get (x := [HVal.int .i64 0]) ho.1
  refine fnKF 16 keep300 ib300 mk300 mix Tryz.func300 rfl (by kernel_rfl) (by simp) ?_
  simp (maxSteps := 1000000) -dsimp -implicitDefEqProofs only [go_sem, ↓reduceIte, keep300, ib300, mk300, Tryz.f300, hb, e1, Int.toNat_natCast, e2]
  refine ⟨Nat.zero_lt_one, by omega, by omega, by omega, fun m hm => ⟨by omega, ?_⟩⟩
  rw [upd_upd, show Int.toNat 0 = 0 from rfl, rowConst]
  exact ⟨_, h, shift_ints _ hm (Heap.le_refl _) (constL_len n sz).symm, rfl, rfl⟩
open Go.Proofs
set_option linter.unusedVariables false
set_option linter.unusedSimpArgs false
def evBox (p : DProgram) (sz st : Nat) (c : Int) : HObj := .row 4 [[.v (sls 3 DFunc.c p.fFuncs), .v (I ((sz : Int) - 1)), .v (I st), .v (I c)]]
abbrev intss (l : List (List Int)) : HVal := sls 1 (fun s => [ints s]) l
/-- What an evaluation of one expression makes of the box of the evaluation. -/
def EvQ (h : Heap) (nb : Nat) (p : DProgram) (sz st : Nat) (c : Int) (X : Out (List Int)) : HVal → Heap → Prop := fun r h' => ∃ s t c', r = ints s ∧ h' = upd h nb (evBox p sz t c') ∧ serOK sz s ∧ st ≤ t ∧ t ≤ 3000 ∧ outR (runE c X) s t c'
def EvQL (h : Heap) (nb : Nat) (p : DProgram) (sz st : Nat) (c : Int) (n : Nat) (X : Out (List (List Int))) : HVal → Heap → Prop := fun r h' => ∃ l t c', r = intss l ∧ h' = upd h nb (evBox p sz t c') ∧ l.length = n ∧ (∀ s ∈ l, serOK sz s) ∧ st ≤ t ∧ t ≤ 3000 ∧ outR (runE c X) l t c'
def keep272 : List Nat := [0, 1, 2, 4, 6, 7, 8, 13, 20, 34, 35, 41, 48, 59, 74, 102, 106, 107, 126, 138, 159, 168, 177, 186, 197]
def ib272 : List Nat := [4, 90]
def mk272 : Marks := fun id => match id with | 17 => ([6, 13, 15, 16], (.op 0 (.op 1 (.op 2 (.op 3 (.op 4 (.op 5 (.op 7 (.op 8 (.op 9 (.op 10 (.op 11 (.op 12 (.op 6 (.op 13 (.op 14 (.op 15 (.op 16 (.op 17 .nil)))))))))))))))))), []) | 23 => ([5, 16], (.op 0 (.op 1 (.op 2 (.op 3 (.op 4 (.op 6 (.op 7 (.op 11 (.op 12 (.op 15 (.op 5 (.op 8 (.op 9 (.op 10 (.op 13 (.op 14 (.op 16 (.op 17 .nil)))))))))))))))))), []) | 28 => ([5, 12], (.op 0 (.op 1 (.op 2 (.op 3 (.op 4 (.op 6 (.op 7 (.op 11 (.op 5 (.op 8 (.op 9 (.op 10 (.op 12 (.op 13 .nil)))))))))))))), []) | 31 => ([6], (.op 0 (.op 1 (.op 2 (.op 3 (.op 4 (.op 5 (.op 6 (.op 7 .nil)))))))), []) | 33 => ([6], (.op 0 (.op 1 (.op 2 (.op 3 (.op 4 (.op 5 (.op 6 (.op 7 .nil)))))))), []) | 35 => ([6], (.op 0 (.op 1 (.op 2 (.op 3 (.op 4 (.op 5 (.op 6 (.op 7 .nil)))))))), []) | 41 => ([6], (.op 0 (.op 1 (.op 2 (.op 3 (.op 4 (.op 5 (.op 6 (.op 7 .nil)))))))), []) | _ => ([], .nil, [])
def ValueAt (p : DProgram) (sz n : Nat) : Prop := ∀ (h : Heap) (nb st : Nat) (c : Int) (e : DExpr) (env : List (List Int)) (funcs : Int), h nb = some (evBox p sz st c) → st ≤ 3000 → 3001 ≤ n + st → e.ok p funcs env.length → 0 ≤ funcs → funcs ≤ p.fFuncs.length → (∀ s ∈ env, serOK sz s) → env.length ≤ 412 + st →
  HFn Tryz.prog 272 [.op nb 4 0 0, .agg e.c, intss env] h (EvQ h nb p sz st c (evE p sz n st e env))
def keep230 : List Nat := [0, 1, 2, 6, 7, 9, 11, 12, 13, 14]
def ib230 : List Nat := [10, 22]
def mk230 : Marks := fun _ => ([], .nil, [])
set_option maxRecDepth 100000 in
theorem all_of {p : DProgram} {sz n : Nat} (hv : ValueAt p sz n) (h : Heap) (nb st : Nat) (c : Int) (l : List DExpr) (env : List (List Int)) (funcs : Int) (hb : h nb = some (evBox p sz st c)) (hst : st ≤ 3000) (hn : 3001 ≤ n + st)
    (hl : l.length ≤ 1048576) (hok : ∀ e ∈ l, e.ok p funcs env.length) (hf0 : 0 ≤ funcs) (hf : funcs ≤ p.fFuncs.length) (henv : ∀ s ∈ env, serOK sz s) (hel : env.length ≤ 412 + st) :
    HFn Tryz.prog 230 [.op nb 4 0 0, sls 5 DExpr.c l, intss env] h (EvQL h nb p sz st c l.length (seqE (fun t e => evE p sz n t e env) l st)) := by
  refine fnKF 26 keep230 ib230 mk230 mix Tryz.func230 rfl (by kernel_rfl) (by simp) ?_
  simp (maxSteps := 1000000) -dsimp -implicitDefEqProofs only [go_sem, ↓reduceIte, keep230, ib230, mk230, Tryz.f230]
  refine ⟨Nat.zero_lt_one, fun _ => ?_⟩
  refine loopF (keep := keep230) (ib := ib230) (mk := mk230) mix (by kernel_rfl) (fun x : Nat × List (List Int) × Nat × Int × Option Nat => [(0, .op nb 4 0 0), (2, intss env), (7, oval 1 x.2.1.length x.2.2.2.2), (11, sls 5 DExpr.c l), (12, I l.length), (13, I x.1)]) (fun x => oheap (upd h nb (evBox p sz x.2.2.1 x.2.2.2.1)) (.row 1 ((x.2.1.map fun s => [ints s]).map (List.map .v))) x.2.2.2.2) (fun x => x.1 ≤ l.length ∧ x.2.1.length = x.1 ∧ (∀ s ∈ x.2.1, serOK sz s) ∧ st ≤ x.2.2.1 ∧ x.2.2.1 ≤ 3000 ∧ outR (runE c (seqE (fun t e => evE p sz n t e env) (l.take x.1) st)) x.2.1 x.2.2.1 x.2.2.2.1 ∧ oside h x.2.1 x.2.2.2.2) (fun x => l.length - x.1) (0, [], st, c, none) ⟨by simp [SatL, tget, oval], by simp only [oheap_none]; rw [upd_self hb]; exact Heap.le_refl _, Nat.zero_le _, rfl, by simp, Nat.le_refl _, hst, outR_init _ _ _, rfl⟩ ?_
  rintro ⟨k, vs, t, c', o⟩ ⟨hk, hvl, hvs, ht0, ht, ho, hos⟩
  simp only at hk hvl hvs ht0 ht ho hos ⊢
  rcases Nat.lt_or_ge k l.length with hlt | hge
  · have ek : l[k]? = some l[k] := List.getElem?_eq_getElem hlt
    have hnext : ∀ (s : List Int) (t2 : Nat) (c2 : Int), outR (runE c' (evE p sz n t l[k] env)) s t2 c2 → outR (runE c (seqE (fun t e => evE p sz n t e env) (l.take (k + 1)) st)) (vs ++ [s]) t2 c2 := fun s t2 c2 h3 => by
      rw [List.take_succ_eq_append_getElem hlt, seqE_snoc]
      exact ho.thenC (h3.thenC (outR_init _ _ _))
    have hall : ∀ s, serOK sz s → ∀ x ∈ vs ++ [s], serOK sz x := fun s hs x hx => by
      rcases List.mem_append.1 hx with hx | hx
      · exact hvs x hx
      · rw [List.mem_singleton.1 hx]; exact hs
    cases o with
    | none =>
      rw [oside_none] at hos
      subst hos
      simp (maxSteps := 1000000) -dsimp -implicitDefEqProofs only [go_sem, ↓reduceIte, keep230, ib230, mk230, Tryz.f230, oval_none, oheap_none, hlt, ek, DExpr.c_eq]
      intro m9 q_m9
      have d_m9_nb : ¬ m9 = nb := by first | exact q_m9.1 | exact q_m9 | exact q_m9.2.1 | exact q_m9.2 | exact q_m9.2.2.1 | exact q_m9.2.2 | exact q_m9.2.2.2.1 | exact q_m9.2.2.2 | exact q_m9.2.2.2.2.1 | exact q_m9.2.2.2.2 | exact q_m9.2.2.2.2.2.1 | exact q_m9.2.2.2.2.2 | exact q_m9.2.2.2.2.2.2.1 | exact q_m9.2.2.2.2.2.2 | exact q_m9.2.2.2.2.2.2.2.1 | exact q_m9.2.2.2.2.2.2.2 | exact q_m9.2.2.2.2.2.2.2.2.1 | exact q_m9.2.2.2.2.2.2.2.2 | exact q_m9.2.2.2.2.2.2.2.2.2.1 | exact q_m9.2.2.2.2.2.2.2.2.2 | exact q_m9.2.2.2.2.2.2.2.2.2.2.1 | exact q_m9.2.2.2.2.2.2.2.2.2.2 | exact q_m9.2.2.2.2.2.2.2.2.2.2.2.1 | exact q_m9.2.2.2.2.2.2.2.2.2.2.2 | exact q_m9.2.2.2.2.2.2.2.2.2.2.2.2.1 | exact q_m9.2.2.2.2.2.2.2.2.2.2.2.2 | exact q_m9.2.2.2.2.2.2.2.2.2.2.2.2.2.1 | exact q_m9.2.2.2.2.2.2.2.2.2.2.2.2.2
      have e_m9_nb : (m9 = nb) = False := eq_false d_m9_nb
      have e_nb_m9 : (nb = m9) = False := eq_false (Ne.symm d_m9_nb)
      have d_nb_m9 : ¬ nb = m9 := Ne.symm d_m9_nb
      have z_m9 : h m9 = none := by first | exact q_m9.1 | exact q_m9 | exact q_m9.2.1 | exact q_m9.2 | exact q_m9.2.2.1 | exact q_m9.2.2 | exact q_m9.2.2.2.1 | exact q_m9.2.2.2 | exact q_m9.2.2.2.2.1 | exact q_m9.2.2.2.2 | exact q_m9.2.2.2.2.2.1 | exact q_m9.2.2.2.2.2 | exact q_m9.2.2.2.2.2.2.1 | exact q_m9.2.2.2.2.2.2 | exact q_m9.2.2.2.2.2.2.2.1 | exact q_m9.2.2.2.2.2.2.2 | exact q_m9.2.2.2.2.2.2.2.2.1 | exact q_m9.2.2.2.2.2.2.2.2 | exact q_m9.2.2.2.2.2.2.2.2.2.1 | exact q_m9.2.2.2.2.2.2.2.2.2 | exact q_m9.2.2.2.2.2.2.2.2.2.2.1 | exact q_m9.2.2.2.2.2.2.2.2.2.2 | exact q_m9.2.2.2.2.2.2.2.2.2.2.2.1 | exact q_m9.2.2.2.2.2.2.2.2.2.2.2 | exact q_m9.2.2.2.2.2.2.2.2.2.2.2.2.1 | exact q_m9.2.2.2.2.2.2.2.2.2.2.2.2 | exact q_m9.2.2.2.2.2.2.2.2.2.2.2.2.2.1 | exact q_m9.2.2.2.2.2.2.2.2.2.2.2.2.2
      rw [upd_upd]
      have hvk := hv (upd (upd h nb (evBox p sz t c')) m9 (.row 5 [l[k].c.map .v])) nb t c' l[k] env funcs (by rw [upd_ne _ _ _ _ d_nb_m9, upd_same]) ht (by omega) (hok _ (List.getElem_mem _)) hf0 hf henv (by omega)
      rw [DExpr.c_eq] at hvk
      refine HFnF.mkH hvk ?_
      rintro r h' ⟨s, t2, c2, rfl, rfl, hs, h1, h2, h3⟩
      simp (maxSteps := 1000000) -dsimp -implicitDefEqProofs only [go_sem, ↓reduceIte, keep230, ib230, mk230, Tryz.f230]
      refine ⟨Nat.zero_lt_one, Nat.zero_lt_one, Nat.zero_lt_one, ?_⟩
      intro b q_b
      have d_b_nb : ¬ b = nb := by first | exact q_b.1 | exact q_b | exact q_b.2.1 | exact q_b.2 | exact q_b.2.2.1 | exact q_b.2.2 | exact q_b.2.2.2.1 | exact q_b.2.2.2 | exact q_b.2.2.2.2.1 | exact q_b.2.2.2.2 | exact q_b.2.2.2.2.2.1 | exact q_b.2.2.2.2.2 | exact q_b.2.2.2.2.2.2.1 | exact q_b.2.2.2.2.2.2 | exact q_b.2.2.2.2.2.2.2.1 | exact q_b.2.2.2.2.2.2.2 | exact q_b.2.2.2.2.2.2.2.2.1 | exact q_b.2.2.2.2.2.2.2.2 | exact q_b.2.2.2.2.2.2.2.2.2.1 | exact q_b.2.2.2.2.2.2.2.2.2 | exact q_b.2.2.2.2.2.2.2.2.2.2.1 | exact q_b.2.2.2.2.2.2.2.2.2.2 | exact q_b.2.2.2.2.2.2.2.2.2.2.2.1 | exact q_b.2.2.2.2.2.2.2.2.2.2.2 | exact q_b.2.2.2.2.2.2.2.2.2.2.2.2.1 | exact q_b.2.2.2.2.2.2.2.2.2.2.2.2 | exact q_b.2.2.2.2.2.2.2.2.2.2.2.2.2.1 | exact q_b.2.2.2.2.2.2.2.2.2.2.2.2.2
      have e_b_nb : (b = nb) = False := eq_false d_b_nb
      have e_nb_b : (nb = b) = False := eq_false (Ne.symm d_b_nb)
      have d_nb_b : ¬ nb = b := Ne.symm d_b_nb
      have d_b_m9 : ¬ b = m9 := by first | exact q_b.1 | exact q_b | exact q_b.2.1 | exact q_b.2 | exact q_b.2.2.1 | exact q_b.2.2 | exact q_b.2.2.2.1 | exact q_b.2.2.2 | exact q_b.2.2.2.2.1 | exact q_b.2.2.2.2 | exact q_b.2.2.2.2.2.1 | exact q_b.2.2.2.2.2 | exact q_b.2.2.2.2.2.2.1 | exact q_b.2.2.2.2.2.2 | exact q_b.2.2.2.2.2.2.2.1 | exact q_b.2.2.2.2.2.2.2 | exact q_b.2.2.2.2.2.2.2.2.1 | exact q_b.2.2.2.2.2.2.2.2 | exact q_b.2.2.2.2.2.2.2.2.2.1 | exact q_b.2.2.2.2.2.2.2.2.2 | exact q_b.2.2.2.2.2.2.2.2.2.2.1 | exact q_b.2.2.2.2.2.2.2.2.2.2 | exact q_b.2.2.2.2.2.2.2.2.2.2.2.1 | exact q_b.2.2.2.2.2.2.2.2.2.2.2 | exact q_b.2.2.2.2.2.2.2.2.2.2.2.2.1 | exact q_b.2.2.2.2.2.2.2.2.2.2.2.2 | exact q_b.2.2.2.2.2.2.2.2.2.2.2.2.2.1 | exact q_b.2.2.2.2.2.2.2.2.2.2.2.2.2
      have e_b_m9 : (b = m9) = False := eq_false d_b_m9
      have e_m9_b : (m9 = b) = False := eq_false (Ne.symm d_b_m9)
      have d_m9_b : ¬ m9 = b := Ne.symm d_b_m9
      have z_b : h b = none := by first | exact q_b.1 | exact q_b | exact q_b.2.1 | exact q_b.2 | exact q_b.2.2.1 | exact q_b.2.2 | exact q_b.2.2.2.1 | exact q_b.2.2.2 | exact q_b.2.2.2.2.1 | exact q_b.2.2.2.2 | exact q_b.2.2.2.2.2.1 | exact q_b.2.2.2.2.2 | exact q_b.2.2.2.2.2.2.1 | exact q_b.2.2.2.2.2.2 | exact q_b.2.2.2.2.2.2.2.1 | exact q_b.2.2.2.2.2.2.2 | exact q_b.2.2.2.2.2.2.2.2.1 | exact q_b.2.2.2.2.2.2.2.2 | exact q_b.2.2.2.2.2.2.2.2.2.1 | exact q_b.2.2.2.2.2.2.2.2.2 | exact q_b.2.2.2.2.2.2.2.2.2.2.1 | exact q_b.2.2.2.2.2.2.2.2.2.2 | exact q_b.2.2.2.2.2.2.2.2.2.2.2.1 | exact q_b.2.2.2.2.2.2.2.2.2.2.2 | exact q_b.2.2.2.2.2.2.2.2.2.2.2.2.1 | exact q_b.2.2.2.2.2.2.2.2.2.2.2.2 | exact q_b.2.2.2.2.2.2.2.2.2.2.2.2.2.1 | exact q_b.2.2.2.2.2.2.2.2.2.2.2.2.2
      refine ⟨(k + 1, [s], t2, c2, some b), ⟨rfl, by rw [IntWalk.i64_in _ (by omega)]; rfl⟩, (leX_nil (by repeat' (first | exact leX_refl _ _ | refine leX_put (by simp only [upd_apply, ↓reduceIte, eq_self, if_true, e_nb_m9, e_nb_b, e_m9_nb, e_m9_b, e_b_nb, e_b_m9, List.map_cons, List.map_nil]) ?_ | refine leX_strip (by first | exact .inr (by assumption) | exact .inl (by simp)) ?_))), ⟨by omega, by simp only [List.length_nil] at hvl; subst hvl; rfl, fun x hx => hall s hs x hx, Nat.le_trans ht0 h1, h2, hnext s t2 c2 h3, z_b⟩, by simp only; omega⟩
    | some m =>
      rw [oside_some] at hos
      have d_m_nb : ¬ m = nb := fun e => by rw [e, hb] at hos; cases hos
      have d_nb_m : ¬ nb = m := Ne.symm d_m_nb
      have e_m_nb : (m = nb) = False := eq_false d_m_nb
      have e_nb_m : (nb = m) = False := eq_false d_nb_m
      simp (maxSteps := 1000000) -dsimp -implicitDefEqProofs only [go_sem, ↓reduceIte, keep230, ib230, mk230, Tryz.f230, oval_some, oheap_some, hlt, ek, DExpr.c_eq]
      intro m9 q_m9
      have d_m9_m : ¬ m9 = m := by first | exact q_m9.1 | exact q_m9 | exact q_m9.2.1 | exact q_m9.2 | exact q_m9.2.2.1 | exact q_m9.2.2 | exact q_m9.2.2.2.1 | exact q_m9.2.2.2 | exact q_m9.2.2.2.2.1 | exact q_m9.2.2.2.2 | exact q_m9.2.2.2.2.2.1 | exact q_m9.2.2.2.2.2 | exact q_m9.2.2.2.2.2.2.1 | exact q_m9.2.2.2.2.2.2 | exact q_m9.2.2.2.2.2.2.2.1 | exact q_m9.2.2.2.2.2.2.2 | exact q_m9.2.2.2.2.2.2.2.2.1 | exact q_m9.2.2.2.2.2.2.2.2 | exact q_m9.2.2.2.2.2.2.2.2.2.1 | exact q_m9.2.2.2.2.2.2.2.2.2 | exact q_m9.2.2.2.2.2.2.2.2.2.2.1 | exact q_m9.2.2.2.2.2.2.2.2.2.2 | exact q_m9.2.2.2.2.2.2.2.2.2.2.2.1 | exact q_m9.2.2.2.2.2.2.2.2.2.2.2 | exact q_m9.2.2.2.2.2.2.2.2.2.2.2.2.1 | exact q_m9.2.2.2.2.2.2.2.2.2.2.2.2 | exact q_m9.2.2.2.2.2.2.2.2.2.2.2.2.2.1 | exact q_m9.2.2.2.2.2.2.2.2.2.2.2.2.2
      have e_m9_m : (m9 = m) = False := eq_false d_m9_m
      have e_m_m9 : (m = m9) = False := eq_false (Ne.symm d_m9_m)
      have d_m_m9 : ¬ m = m9 := Ne.symm d_m9_m
      have d_m9_nb : ¬ m9 = nb := by first | exact q_m9.1 | exact q_m9 | exact q_m9.2.1 | exact q_m9.2 | exact q_m9.2.2.1 | exact q_m9.2.2 | exact q_m9.2.2.2.1 | exact q_m9.2.2.2 | exact q_m9.2.2.2.2.1 | exact q_m9.2.2.2.2 | exact q_m9.2.2.2.2.2.1 | exact q_m9.2.2.2.2.2 | exact q_m9.2.2.2.2.2.2.1 | exact q_m9.2.2.2.2.2.2 | exact q_m9.2.2.2.2.2.2.2.1 | exact q_m9.2.2.2.2.2.2.2 | exact q_m9.2.2.2.2.2.2.2.2.1 | exact q_m9.2.2.2.2.2.2.2.2 | exact q_m9.2.2.2.2.2.2.2.2.2.1 | exact q_m9.2.2.2.2.2.2.2.2.2 | exact q_m9.2.2.2.2.2.2.2.2.2.2.1 | exact q_m9.2.2.2.2.2.2.2.2.2.2 | exact q_m9.2.2.2.2.2.2.2.2.2.2.2.1 | exact q_m9.2.2.2.2.2.2.2.2.2.2.2 | exact q_m9.2.2.2.2.2.2.2.2.2.2.2.2.1 | exact q_m9.2.2.2.2.2.2.2.2.2.2.2.2 | exact q_m9.2.2.2.2.2.2.2.2.2.2.2.2.2.1 | exact q_m9.2.2.2.2.2.2.2.2.2.2.2.2.2
      have e_m9_nb : (m9 = nb) = False := eq_false d_m9_nb
      have e_nb_m9 : (nb = m9) = False := eq_false (Ne.symm d_m9_nb)
      have d_nb_m9 : ¬ nb = m9 := Ne.symm d_m9_nb
      have z_m9 : h m9 = none := by first | exact q_m9.1 | exact q_m9 | exact q_m9.2.1 | exact q_m9.2 | exact q_m9.2.2.1 | exact q_m9.2.2 | exact q_m9.2.2.2.1 | exact q_m9.2.2.2 | exact q_m9.2.2.2.2.1 | exact q_m9.2.2.2.2 | exact q_m9.2.2.2.2.2.1 | exact q_m9.2.2.2.2.2 | exact q_m9.2.2.2.2.2.2.1 | exact q_m9.2.2.2.2.2.2 | exact q_m9.2.2.2.2.2.2.2.1 | exact q_m9.2.2.2.2.2.2.2 | exact q_m9.2.2.2.2.2.2.2.2.1 | exact q_m9.2.2.2.2.2.2.2.2 | exact q_m9.2.2.2.2.2.2.2.2.2.1 | exact q_m9.2.2.2.2.2.2.2.2.2 | exact q_m9.2.2.2.2.2.2.2.2.2.2.1 | exact q_m9.2.2.2.2.2.2.2.2.2.2 | exact q_m9.2.2.2.2.2.2.2.2.2.2.2.1 | exact q_m9.2.2.2.2.2.2.2.2.2.2.2 | exact q_m9.2.2.2.2.2.2.2.2.2.2.2.2.1 | exact q_m9.2.2.2.2.2.2.2.2.2.2.2.2 | exact q_m9.2.2.2.2.2.2.2.2.2.2.2.2.2.1 | exact q_m9.2.2.2.2.2.2.2.2.2.2.2.2.2
      rw [upd_upd]
      have hvk := hv (upd (upd (upd h nb (evBox p sz t c')) m (.row 1 ((vs.map fun s => [ints s]).map (List.map .v)))) m9 (.row 5 [l[k].c.map .v])) nb t c' l[k] env funcs (by rw [upd_ne _ _ _ _ d_nb_m9, upd_ne _ _ _ _ d_nb_m, upd_same]) ht (by omega) (hok _ (List.getElem_mem _)) hf0 hf henv (by omega)
      rw [DExpr.c_eq] at hvk
      refine HFnF.mkH hvk ?_
      rintro r h' ⟨s, t2, c2, rfl, rfl, hs, h1, h2, h3⟩
      simp (maxSteps := 1000000) -dsimp -implicitDefEqProofs only [go_sem, ↓reduceIte, keep230, ib230, mk230, Tryz.f230, upd_ne, e_m_nb, e_m_m9, e_nb_m, e_nb_m9, e_m9_m, e_m9_nb]
      refine ⟨Nat.zero_lt_one, Nat.zero_lt_one, Nat.zero_lt_one, Nat.le_refl _, by omega, by omega, ?_⟩
      intro b q_b
      have d_b_nb : ¬ b = nb := by first | exact q_b.1 | exact q_b | exact q_b.2.1 | exact q_b.2 | exact q_b.2.2.1 | exact q_b.2.2 | exact q_b.2.2.2.1 | exact q_b.2.2.2 | exact q_b.2.2.2.2.1 | exact q_b.2.2.2.2 | exact q_b.2.2.2.2.2.1 | exact q_b.2.2.2.2.2 | exact q_b.2.2.2.2.2.2.1 | exact q_b.2.2.2.2.2.2 | exact q_b.2.2.2.2.2.2.2.1 | exact q_b.2.2.2.2.2.2.2 | exact q_b.2.2.2.2.2.2.2.2.1 | exact q_b.2.2.2.2.2.2.2.2 | exact q_b.2.2.2.2.2.2.2.2.2.1 | exact q_b.2.2.2.2.2.2.2.2.2 | exact q_b.2.2.2.2.2.2.2.2.2.2.1 | exact q_b.2.2.2.2.2.2.2.2.2.2 | exact q_b.2.2.2.2.2.2.2.2.2.2.2.1 | exact q_b.2.2.2.2.2.2.2.2.2.2.2 | exact q_b.2.2.2.2.2.2.2.2.2.2.2.2.1 | exact q_b.2.2.2.2.2.2.2.2.2.2.2.2 | exact q_b.2.2.2.2.2.2.2.2.2.2.2.2.2.1 | exact q_b.2.2.2.2.2.2.2.2.2.2.2.2.2
      have e_b_nb : (b = nb) = False := eq_false d_b_nb
      have e_nb_b : (nb = b) = False := eq_false (Ne.symm d_b_nb)
      have d_nb_b : ¬ nb = b := Ne.symm d_b_nb
      have d_b_m9 : ¬ b = m9 := by first | exact q_b.1 | exact q_b | exact q_b.2.1 | exact q_b.2 | exact q_b.2.2.1 | exact q_b.2.2 | exact q_b.2.2.2.1 | exact q_b.2.2.2 | exact q_b.2.2.2.2.1 | exact q_b.2.2.2.2 | exact q_b.2.2.2.2.2.1 | exact q_b.2.2.2.2.2 | exact q_b.2.2.2.2.2.2.1 | exact q_b.2.2.2.2.2.2 | exact q_b.2.2.2.2.2.2.2.1 | exact q_b.2.2.2.2.2.2.2 | exact q_b.2.2.2.2.2.2.2.2.1 | exact q_b.2.2.2.2.2.2.2.2 | exact q_b.2.2.2.2.2.2.2.2.2.1 | exact q_b.2.2.2.2.2.2.2.2.2 | exact q_b.2.2.2.2.2.2.2.2.2.2.1 | exact q_b.2.2.2.2.2.2.2.2.2.2 | exact q_b.2.2.2.2.2.2.2.2.2.2.2.1 | exact q_b.2.2.2.2.2.2.2.2.2.2.2 | exact q_b.2.2.2.2.2.2.2.2.2.2.2.2.1 | exact q_b.2.2.2.2.2.2.2.2.2.2.2.2 | exact q_b.2.2.2.2.2.2.2.2.2.2.2.2.2.1 | exact q_b.2.2.2.2.2.2.2.2.2.2.2.2.2
      have e_b_m9 : (b = m9) = False := eq_false d_b_m9
      have e_m9_b : (m9 = b) = False := eq_false (Ne.symm d_b_m9)
      have d_m9_b : ¬ m9 = b := Ne.symm d_b_m9
      have d_b_m : ¬ b = m := by first | exact q_b.1 | exact q_b | exact q_b.2.1 | exact q_b.2 | exact q_b.2.2.1 | exact q_b.2.2 | exact q_b.2.2.2.1 | exact q_b.2.2.2 | exact q_b.2.2.2.2.1 | exact q_b.2.2.2.2 | exact q_b.2.2.2.2.2.1 | exact q_b.2.2.2.2.2 | exact q_b.2.2.2.2.2.2.1 | exact q_b.2.2.2.2.2.2 | exact q_b.2.2.2.2.2.2.2.1 | exact q_b.2.2.2.2.2.2.2 | exact q_b.2.2.2.2.2.2.2.2.1 | exact q_b.2.2.2.2.2.2.2.2 | exact q_b.2.2.2.2.2.2.2.2.2.1 | exact q_b.2.2.2.2.2.2.2.2.2 | exact q_b.2.2.2.2.2.2.2.2.2.2.1 | exact q_b.2.2.2.2.2.2.2.2.2.2 | exact q_b.2.2.2.2.2.2.2.2.2.2.2.1 | exact q_b.2.2.2.2.2.2.2.2.2.2.2 | exact q_b.2.2.2.2.2.2.2.2.2.2.2.2.1 | exact q_b.2.2.2.2.2.2.2.2.2.2.2.2 | exact q_b.2.2.2.2.2.2.2.2.2.2.2.2.2.1 | exact q_b.2.2.2.2.2.2.2.2.2.2.2.2.2
      have e_b_m : (b = m) = False := eq_false d_b_m
      have e_m_b : (m = b) = False := eq_false (Ne.symm d_b_m)
      have d_m_b : ¬ m = b := Ne.symm d_b_m
      have z_b : h b = none := by first | exact q_b.1 | exact q_b | exact q_b.2.1 | exact q_b.2 | exact q_b.2.2.1 | exact q_b.2.2 | exact q_b.2.2.2.1 | exact q_b.2.2.2 | exact q_b.2.2.2.2.1 | exact q_b.2.2.2.2 | exact q_b.2.2.2.2.2.1 | exact q_b.2.2.2.2.2 | exact q_b.2.2.2.2.2.2.1 | exact q_b.2.2.2.2.2.2 | exact q_b.2.2.2.2.2.2.2.1 | exact q_b.2.2.2.2.2.2.2 | exact q_b.2.2.2.2.2.2.2.2.1 | exact q_b.2.2.2.2.2.2.2.2 | exact q_b.2.2.2.2.2.2.2.2.2.1 | exact q_b.2.2.2.2.2.2.2.2.2 | exact q_b.2.2.2.2.2.2.2.2.2.2.1 | exact q_b.2.2.2.2.2.2.2.2.2.2 | exact q_b.2.2.2.2.2.2.2.2.2.2.2.1 | exact q_b.2.2.2.2.2.2.2.2.2.2.2 | exact q_b.2.2.2.2.2.2.2.2.2.2.2.2.1 | exact q_b.2.2.2.2.2.2.2.2.2.2.2.2 | exact q_b.2.2.2.2.2.2.2.2.2.2.2.2.2.1 | exact q_b.2.2.2.2.2.2.2.2.2.2.2.2.2
      refine ⟨(k + 1, vs ++ [s], t2, c2, some b), ⟨by rw [oval_some, List.length_append]; rfl, by rw [IntWalk.i64_in _ (by omega)]; rfl⟩, ?_, ⟨by omega, by rw [List.length_append, hvl]; rfl, hall s hs, Nat.le_trans ht0 h1, h2, hnext s t2 c2 h3, z_b⟩, by simp only; omega⟩
      simp only [oheap_some]
      rw [← grow_row ints]
      exact (leX_nil (by repeat' (first | exact leX_refl _ _ | refine leX_put (by simp only [upd_apply, ↓reduceIte, eq_self, if_true, e_nb_m9, e_nb_b, e_nb_m, e_m9_nb, e_m9_b, e_m9_m, e_b_nb, e_b_m9, e_b_m, e_m_nb, e_m_m9, e_m_b]) ?_ | refine leX_strip (by first | exact .inr (by assumption) | exact .inl (by simp)) ?_)))
  · have hk' : k = l.length := by omega
    subst hk'
    rw [List.take_length] at ho
    cases o with
    | none =>
      rw [oside_none] at hos
      subst hos
      simp (maxSteps := 1000000) -dsimp -implicitDefEqProofs only [go_sem, ↓reduceIte, keep230, ib230, mk230, Tryz.f230, oval_none, oheap_none, Nat.lt_irrefl]
      exact ⟨intss [], _, Shift.of (Sub.loose _ _ _) (Heap.le_refl _), [], t, c', rfl, rfl, hvl, hvs, ht0, ht, ho⟩
    | some m =>
      rw [oside_some] at hos
      simp (maxSteps := 1000000) -dsimp -implicitDefEqProofs only [go_sem, ↓reduceIte, keep230, ib230, mk230, Tryz.f230, oval_some, oheap_some, Nat.lt_irrefl]
      have hmn : ¬ m = nb := fun e => by rw [e, hb] at hos; cases hos
      exact ⟨intss vs, _, shift_row (vs.map fun s => [ints s]) (h := upd h nb (evBox p sz t c')) (by rw [upd_ne _ _ _ _ hmn, hos]) (Heap.le_refl _) _ (by rw [List.length_map]), vs, t, c', rfl, rfl, hvl, hvs, ht0, ht, ho⟩
end Go.Hl

/-
  Contracts of functions and laws of the layer over the walk.
-/
import Derived.Test.YtpnelljgohjjdaaDoorHlB
import Derived.ReadAgain
import Derived.ChangeArms
import Derived.ChangeSame
import Derived.Handed
import Derived.JoinedOf
namespace Go.Hl
attribute [go_sem] List.nil_append List.cons_append
theorem nn (n : Nat) : (0 ≤ (n : Int)) = True := by simp
attribute [go_sem] Call.operands Array.toList_append Option.map List.map Option.bind List.contains List.elem List.filterMap Op.operands Option.toList Array.size List.all List.set
attribute [go_sem] if_true if_false Option.bind_some Option.bind_none List.toList_toArray List.getElem?_toArray List.getElem?_cons_zero List.getElem?_cons_succ true_and and_true forall_const Bool.true_eq_false Bool.false_eq_true false_implies implies_true decide_true decide_false List.length_map BEq.rfl List.append_nil List.getElem?_map Int.toNat_natCast Bool.not_eq_true' Bool.not_eq_false' decide_eq_true_eq decide_eq_false_iff_not Int.natCast_inj Int.ofNat_lt Int.ofNat_le Bool.not_true Bool.not_false aA.int.injEq aA.bool.injEq Heap.le_refl
attribute [go_sem] ne_eq Bool.and_self Bool.true_and Bool.and_true Bool.false_and Bool.and_false Int.reduceLT Int.reduceNeg Int.reduceLE Int.reduceEq Nat.reduceLeDiff Nat.reduceSub Nat.reduceMul Nat.zero_add Nat.add_zero List.length_cons List.length_nil List.drop_zero List.take_zero List.take_nil List.drop_nil List.take_succ_cons List.drop_succ_cons List.replicate List.map_nil List.map_cons List.length_map not_true_eq_false not_false_eq_true true_implies decide_not ite_not
attribute [go_sem] Bool.true_or Bool.false_or Bool.or_true Bool.or_false Nat.reduceAdd Nat.reduceEqDiff Nat.reduceBEq reduceCtorEq
@[go_sem] theorem aEZ  : aA.cells (aA.any) = [(aA.any)] := rfl
@[go_sem] theorem aGP  : aA.flat (aA.any) = false := rfl
@[go_sem] theorem aC9 (b : Bool) : aA.cells (aA.bool b) = [(aA.bool b)] := rfl
@[go_sem] theorem aE0 (b : Bool) : aA.flat (aA.bool b) = true := rfl
@[go_sem] theorem aE1 (k : IntKind) (n : Int) : aA.cells (aA.int k n) = [(aA.int k n)] := rfl
@[go_sem] theorem aGQ (k : IntKind) (n : Int) : aA.flat (aA.int k n) = true := rfl
@[go_sem] theorem aE2 (s : List UInt8) : aA.cells (aA.str s) = [(aA.str s)] := rfl
@[go_sem] theorem aGR (s : List UInt8) : aA.flat (aA.str s) = true := rfl
@[go_sem] theorem aAW  : aA.cells (aA.dJ) = [(aA.dJ)] := rfl
@[go_sem] theorem aB4  : aA.flat (aA.dJ) = true := rfl
@[go_sem] theorem aB5  : aA.cells (aA.aV) = [(aA.aV)] := rfl
@[go_sem] theorem aDA  : aA.flat (aA.aV) = true := rfl
@[go_sem] theorem aB6  : aA.cells (aA.gH) = [(aA.gH)] := rfl
@[go_sem] theorem aDB  : aA.flat (aA.gH) = true := rfl
@[go_sem] theorem aB7  : aA.cells (aA.cK) = [(aA.cK)] := rfl
@[go_sem] theorem aDC  : aA.flat (aA.cK) = true := rfl
@[go_sem] theorem aAX  : aA.cells (aA.dX) = [(aA.dX)] := rfl
@[go_sem] theorem aB8  : aA.flat (aA.dX) = true := rfl
@[go_sem] theorem aGS (sz : Nat) (es : List (List aA)) (b : Bool) : aA.cells (aA.sl sz es b) = [(aA.sl sz es b)] := rfl
@[go_sem] theorem aI5 (sz : Nat) (es : List (List aA)) (b : Bool) : aA.flat (aA.sl sz es b) = true := rfl
@[go_sem] theorem aGT (sz : Nat) (es : List (List aA)) (i o : Nat) : aA.cells (aA.ip sz es i o) = [(aA.ip sz es i o)] := rfl
@[go_sem] theorem aI6 (sz : Nat) (es : List (List aA)) (i o : Nat) : aA.flat (aA.ip sz es i o) = true := rfl
@[go_sem] theorem aGU (n sz i l : Nat) : aA.cells (aA.os n sz i l) = [(aA.os n sz i l)] := rfl
@[go_sem] theorem aI7 (n sz i l : Nat) : aA.flat (aA.os n sz i l) = true := rfl
@[go_sem] theorem aGV (n sz i l : Nat) : aA.cells (aA.op n sz i l) = [(aA.op n sz i l)] := rfl
@[go_sem] theorem aI8 (n sz i l : Nat) : aA.flat (aA.op n sz i l) = true := rfl
@[go_sem] theorem aE3 (cs : List aA) : aA.cells (aA.bY cs) = [(aA.bY cs)] := rfl
@[go_sem] theorem aGW (cs : List aA) : aA.flat (aA.bY cs) = false := rfl
@[go_sem] theorem aGX (f : Fn) (a b : List aA) : aA.cells (aA.fn f a b) = [(aA.fn f a b)] := rfl
@[go_sem] theorem aI9 (f : Fn) (a b : List aA) : aA.flat (aA.fn f a b) = true := rfl
@[go_sem] theorem aB9 (t : TypeId) (v : aA) : aA.cells (aA.iface t v) = [(aA.iface t v)] := rfl
@[go_sem] theorem aDD (t : TypeId) (v : aA) : aA.flat (aA.iface t v) = true := rfl
@[go_sem] theorem aGY (n : Nat) : aA.cells (aA.mp n) = [(aA.mp n)] := rfl
@[go_sem] theorem aJA (n : Nat) : aA.flat (aA.mp n) = true := rfl
@[go_sem] theorem aE4 (cs : List aA) : aA.cells (.agg cs) = cs := rfl
@[go_sem] theorem aGZ (cs : List aA) : aA.flat (.agg cs) = false := rfl
@[go_sem] theorem aDE : maxLen = 9223372036854775807 := rfl
set_option linter.unusedVariables false
set_option linter.unusedSimpArgs false
def Sub (x y : aA) : Prop := ∀ E h w v, aZ E h w x v → aZ E h w y v
theorem Sub.refl (x : aA) : Sub x x := fun _ _ _ _ r => r
theorem Sub.trans {x y z : aA} (a : Sub x y) (b : Sub y z) : Sub x z := fun E h w v r => b E h w v (a E h w v r)
theorem Sub.any (x : aA) : Sub x .any := fun _ _ _ v _ => .any v
theorem Sub.nil (sz : Nat) (t : Bool) : Sub .aV (.sl sz [] t) := fun E h w v r => by
 cases r
 exact .k6 sz t none 0 (fun _ => rfl) (by simp [maxLen]) trivial
theorem Sub.loose (sz : Nat) (es : List (List aA)) (t : Bool) : Sub (.sl sz es t) (.sl sz es false) := fun E h w v r => by
 cases r with
 |k6 _ _ a cap ht hmax ha => exact .k6 sz false _ _ (fun e => by simp at e) hmax ha
 |sl _ _ _ b o cap cv hi hcap hmax ht hs hc h1 hr => exact .sl sz es false b o _ cv hi hcap hmax (fun e => by simp at e) hs hc h1 hr
def dZ (xs ys : List aA) : Prop := xs.length = ys.length ∧ ∀ (i : Nat) (x y : aA), xs[i]? = some x → ys[i]? = some y → Sub x y
theorem dZ.nil : dZ [] [] := ⟨rfl, fun i x y hx => by simp at hx⟩
theorem dZ.cons {x y : aA} {xs ys : List aA} (a : Sub x y) (b : dZ xs ys) : dZ (x :: xs) (y :: ys) :=
 ⟨by simp [b.1], fun i u v hu hv => by
  cases i with
  |zero => simp at hu hv; subst hu; subst hv; exact a
  |succ i => exact b.2 i u v (by simpa using hu) (by simpa using hv)⟩
theorem dZ.refl : ∀ (xs : List aA), dZ xs xs
 | [] => .nil
 |x :: xs => .cons (.refl x) (.refl xs)
theorem dZ.rZ {E : Env} {h : Heap} {w : World} : ∀ {xs ys : List aA} {vs : List Value}, dZ xs ys → aP E h w xs vs → aP E h w ys vs
 | [], [], _, _, r => r
 | [], _ :: _, _, s, _ => by have := s.1; simp at this
 | _ :: _, [], _, s, _ => by have := s.1; simp at this
 |x :: xs, y :: ys, [], s, r => r.elim
 |x :: xs, y :: ys, v :: vs, s, r => ⟨s.2 0 x y rfl rfl E h w v r.1, dZ.rZ (xs := xs) (ys := ys) ⟨by have := s.1; simpa using this, fun i u v hu hv => s.2 (i + 1) u v (by simpa using hu) (by simpa using hv)⟩ r.2⟩
theorem Sub.agg {xs ys : List aA} (s : dZ xs ys) : Sub (.agg xs) (.agg ys) := fun E h w v r => by
 cases r with
 |agg _ vs hl hr =>
  have := s.rZ (aP.mk hl hr)
  exact .agg _ _ this.length this.get
theorem Sub.bY {xs ys : List aA} (s : dZ xs ys) : Sub (.bY xs) (.bY ys) := fun E h w v r => by
 cases r with
 |bY _ vs hl hr =>
  have := s.rZ (aP.mk hl hr)
  exact .bY _ _ this.length this.get
theorem gC.sub {P : Program} {f : FuncId} {xs ys : List aA} {h : Heap} {K : aA → Heap → Prop} (s : dZ xs ys) (a : gC P f ys h K) : gC P f xs h K :=
 ⟨a.1, fun E w vs R hL => a.2 E w vs R (s.rZ hL)⟩
theorem dV.sub {P : Program} {f : FuncId} {xs ys : List aA} {r : aA} (s : dZ xs ys) (a : dV P f ys r) : dV P f xs r := fun h => (a h).sub s
def Shift (r' : aA) (h' : Heap) (r : aA) (h : Heap) : Prop :=
 ∀ E w v, Rel E h' w → aZ E h' w r' v → ∃ E', Ev E h' w E' h w ∧ Rel E' h w ∧ aZ E' h w r v
theorem Shift.of {r' r : aA} {h' h : Heap} (s : Sub r' r) (hl : h.le h') : Shift r' h' r h := fun E w v R x =>
 ⟨E, (Ev.refl E h' w).forget hl, R.forget hl, s _ _ _ _ (x.j3 fun b => e8.le hl)⟩
theorem Shift.trans {a b c : aA} {h1 h2 h3 : Heap} (x : Shift a h1 b h2) (y : Shift b h2 c h3) : Shift a h1 c h3 := fun E w v R r => by
 obtain ⟨E', ev, R', r'⟩ := x E w v R r
 obtain ⟨E'', ev', R'', r''⟩ := y E' w v R' r'
 exact ⟨E'', ev.trans ev', R'', r''⟩
mutual
def aA.jJ (n : Nat) (es : List (List aA)) : aA → aA
 | .os m sz i len => if m = n then .sl sz ((es.drop i).take len) false else .os m sz i len
 | .op m sz i off => if m = n then .ip sz es i off else .op m sz i off
 | .agg cs => .agg (tM n es cs)
 | .bY cs => .bY (tM n es cs)
 |x => x
def tM (n : Nat) (es : List (List aA)) : List aA → List aA
 | [] => []
 |x :: xs => x.jJ n es :: tM n es xs
end
theorem o9 (n : Nat) (es : List (List aA)) : ∀ l, tM n es l = l.map (aA.jJ n es)
 | [] => rfl
 |x :: l => by simp [tM, o9 n es l]
mutual
def kG (n sz k : Nat) : aA → Bool
 | .os m sz' i len => m != n || (sz' == sz && decide (i + len ≤ k))
 | .op m sz' i len => m != n || sz' == sz
 | .agg cs => kV n sz k cs
 | .bY cs => kV n sz k cs
 | _ => true
def kV (n sz k : Nat) : List aA → Bool
 | [] => true
 |x :: xs => kG n sz k x && kV n sz k xs
end
theorem kH (n sz k : Nat) : ∀ (l : List aA), kV n sz k l = true → ∀ (i : Nat) x, l[i]? = some x → kG n sz k x = true
 | [], _, i, x, hx => by simp at hx
 |y :: l, h, 0, x, hx => by simp at hx; subst hx; simp only [kV, Bool.and_eq_true] at h; exact h.1
 |y :: l, h, i + 1, x, hx => by simp only [kV, Bool.and_eq_true] at h; exact kH n sz k l h.2 i x (by simpa using hx)
theorem aZ.rO {E : Env} {h : Heap} {w : World} (R : Rel E h w) {n sz : Nat} {es : List (List Cell)} (hn : h n = some (.row sz es)) {x : aA} {v : Value} (r : aZ E h w x v)
  (hb : kG n sz es.length x = true) : aZ E (a7 h n .gone) w (x.jJ n (cD es)) v := by
 have hi : ∀ b, e8 E h w b → e8 E (a7 h n .gone) w b := fun b => x8 n b
 induction r with
 |any v => exact .any v
 |bool b => exact .bool b
 |int k n => exact .int k n
 |str s hl => exact .str s hl
 |dJ => exact .dJ
 |aV => exact .aV
 |gH => exact .gH
 |cK => exact .cK
 |dX => exact .dX
 |k6 sz t a cap ht hmax ha => exact .k6 sz t a cap ht hmax ha
 |sl sz es t b o cap cv hb' hcap hmax ht hs hc h1 hr ih => exact .sl sz es t b o cap cv (hi b hb') hcap hmax ht hs hc h1 fun i j x hx => (hr i j x hx).j3 hi
 |ip sz es i off b o cv hb' hs hc h1 hr ih => exact .ip sz es i off b o cv (hi b hb') hs hc h1 fun i j x hx => (hr i j x hx).j3 hi
 |sR m sz' hd hl =>
  simp only [aA.jJ]
  split
  ·have : ((cD es).drop 0).take 0 = [] := by simp
   rw [this]
   exact .k6 sz' false none 0 (fun _ => rfl) (by simp [maxLen]) trivial
  ·exact .sR m sz' hd hl
 |op m sz' i off b o hd hl =>
  simp only [aA.jJ]
  split
  ·rename_i e
   subst e
   simp only [kG, bne_self_eq_false, Bool.false_or, beq_iff_eq] at hb
   subst hb
   obtain ⟨b', o', hl', hbS, hs, cs, ct, cv, T, hh, hm', hT, hD, hc, hrr⟩ := j5 R hn (.inr ⟨_, hl⟩)
   rw [hl] at hl'
   obtain ⟨rfl, rfl⟩ := Prod.mk.inj (Option.some.inj hl')
   have himm : ∀ c, E.fp m c → e8 E (a7 h m .gone) w c := fun c hc => nD R hn trivial c hc
   have hat : ∀ i' j y, b9 (cD es) i' j = some y → ∃ c, b9 es i' j = some c ∧ y = c.val := by
    intro i' j y hy
    rw [fM] at hy
    obtain ⟨c, hc, rfl⟩ := Option.map_eq_some_iff.1 hy
    exact ⟨c, hc, rfl⟩
   exact .ip sz' (cD es) i off b o cv (himm b hbS) (fun e he => jB hs e he)
    (fun i' j y hy => by
     obtain ⟨c, hc', rfl⟩ := hat i' j y hy
     have := hc _ _ _ hc'
     simp only [World.cell?, hh]
     rw [← this]
     simp)
    (fun i' j y hy => by obtain ⟨c, hc', rfl⟩ := hat i' j y hy; exact (hrr _ _ _ hc').one)
    (fun i' j y hy => by
     obtain ⟨c, hc', rfl⟩ := hat i' j y hy
     exact (hrr _ _ _ hc').rO hi fun b hb => himm b (hT _ _ b hb).1)
  ·exact .op m sz' i off b o hd hl
 |fn f cs ds vs us hl hr hl' hr' ih ih' => exact .fn f cs ds vs us hl (fun i x v hx hv => (hr i x v hx hv).j3 hi) hl' (fun i x v hx hv => (hr' i x v hx hv).j3 hi)
 |iface t x v hr ih => exact .iface t x v (hr.j3 hi)
 |mp n b o hd hl => exact .mp n b o hd hl
 |agg cs vs hl hr ih =>
  simp only [aA.jJ, o9]
  simp only [kG] at hb
  refine .agg _ vs (by simpa using hl) fun i x v hx hv => ?_
  rw [List.getElem?_map] at hx
  obtain ⟨y, hy, rfl⟩ := Option.map_eq_some_iff.1 hx
  exact ih i y v hy hv (kH _ _ _ _ hb i y hy)
 |bY cs vs hl hr ih =>
  simp only [aA.jJ, o9]
  simp only [kG] at hb
  refine .bY _ vs (by simpa using hl) fun i x v hx hv => ?_
  rw [List.getElem?_map] at hx
  obtain ⟨y, hy, rfl⟩ := Option.map_eq_some_iff.1 hx
  exact ih i y v hy hv (kH _ _ _ _ hb i y hy)
 |os m sz' i len b o cap t mm hd hl hlc hmax hsh hm =>
  simp only [aA.jJ]
  split
  ·rename_i e
   subst e
   simp only [kG, bne_self_eq_false, Bool.false_or, Bool.and_eq_true, beq_iff_eq, decide_eq_true_eq] at hb
   obtain ⟨rfl, hle⟩ := hb
   obtain ⟨b', o', hl', hbS, hs, cs, ct, cv, T, hh, hm', hT, hD, hc, hrr⟩ := j5 R hn (.inr ⟨_, hl⟩)
   rw [hl] at hl'
   obtain ⟨rfl, rfl⟩ := Prod.mk.inj (Option.some.inj hl')
   have himm : ∀ c, E.fp m c → e8 E (a7 h m .gone) w c := fun c hc => nD R hn trivial c hc
   have hlen : (((cD es).drop i).take len).length = len := by rw [List.length_take, List.length_drop, gJ]; omega
   have hat : ∀ i' j y, b9 (((cD es).drop i).take len) i' j = some y → ∃ c, b9 es (i + i') j = some c ∧ y = c.val := by
    intro i' j y hy
    obtain ⟨e, h1, h2⟩ := dF hy
    have hlt : i' < len := by have := (List.getElem?_eq_some_iff.1 h1).1; rw [hlen] at this; exact this
    rw [List.getElem?_take_of_lt hlt, List.getElem?_drop] at h1
    have : b9 (cD es) (i + i') j = some y := by simp [b9, h1, h2]
    rw [fM] at this
    obtain ⟨c, hc, rfl⟩ := Option.map_eq_some_iff.1 this
    exact ⟨c, hc, rfl⟩
   have := aZ.sl (E := E) (h := a7 h m .gone) (w := w) sz' (((cD es).drop i).take len) false b (o + i * sz') cap (fun i' j => cv (i + i') j) (himm b hbS) (by rw [hlen]; exact hlc) hmax (fun e => by simp at e)
    (fun e he => jB hs e (List.mem_of_mem_drop (List.mem_of_mem_take he)))
    (fun i' j y hy => by
     obtain ⟨c, hc', rfl⟩ := hat i' j y hy
     have := hc _ _ _ hc'
     simp only [World.cell?, hh]
     rw [← this]
     simp only [Option.isSome_none, Bool.false_eq_true, if_false]
     congr 1; rw [Nat.add_mul]; omega)
    (fun i' j y hy => by obtain ⟨c, hc', rfl⟩ := hat i' j y hy; exact (hrr _ _ _ hc').one)
    (fun i' j y hy => by
     obtain ⟨c, hc', rfl⟩ := hat i' j y hy
     exact (hrr _ _ _ hc').rO hi fun b hb => himm b (hT _ _ b hb).1)
   rw [hlen] at this
   exact this
  ·exact .os m sz' i len b o cap t mm hd hl hlc hmax hsh hm
theorem pA {P : Program} {f : FuncId} {fn : Func} {c : Code} {N : Nat} {args : List aA} {h : Heap} {K K' : aA → Heap → Prop} (a : gC P f args h K') (hk : ∀ r h', K' r h' → ∃ r₁ h₁, Shift r h' r₁ h₁ ∧ K r₁ h₁) : gC P f args h K :=
 ⟨a.1, fun E w vs R hL => Calls.mono (a.2 E w vs R hL) fun e w' he => by
  cases e <;> try exact he
  obtain ⟨r, h', E', k, ev, R', rx⟩ := he
  obtain ⟨r₁, h₁, hs, k₁⟩ := hk r h' k
  obtain ⟨E'', ev', R'', rx'⟩ := hs E' w' _ R' rx
  exact ⟨r₁, h₁, E'', k₁, ev.trans ev', R'', rx'⟩⟩
theorem pB (r : aA) (h : Heap) : Shift r h r h := .of (.refl r) (Heap.le_refl h)
set_option linter.unusedVariables false
set_option linter.unusedSimpArgs false
abbrev Tag {α : Type} (_ : α) : Type := Unit
def bE {α : Type} (o : Option α) (K : α → Prop) (_ : Tag K) : Prop := match o with | some x => K x | none => False
@[go_sem] theorem aE5 {α : Type} (x : α) (K : α → Prop) (t : Tag K) : bE (some x) K t = K x := rfl
@[go_sem] theorem aE6 {α : Type} (K : α → Prop) (t : Tag K) : bE none K t = False := rfl
def kI (v : aA) (A B : Prop) (_ : Tag (A, B)) : Prop := match v with | .bool t => (t = true → A) ∧ (t = false → B) | _ => False
@[go_sem] theorem aDF (c : Bool) (A B : Prop) (t : Tag (A, B)) : kI (.bool c) A B t = ((c = true → A) ∧ (c = false → B)) := rfl
@[go_sem high] theorem aDG (A B : Prop) (t : Tag (A, B)) : kI (.bool true) A B t = A := by simp [kI]
@[go_sem high] theorem aCA (A B : Prop) (t : Tag (A, B)) : kI (.bool false) A B t = B := by simp [kI]
def tN (K : aE → Heap → Prop) (Q : Exit → aE → Heap → Prop) (_ : Tag (K, Q)) : Exit → aE → Heap → Prop := j9 K Q
@[go_sem] theorem aAY (K : aE → Heap → Prop) (Q : Exit → aE → Heap → Prop) (t : Tag (K, Q)) (τ : aE) (h : Heap) : tN K Q t .normal τ h = K τ h := rfl
@[go_sem] theorem aE7 (K : aE → Heap → Prop) (Q : Exit → aE → Heap → Prop) (t : Tag (K, Q)) (τ : aE) (h : Heap) : tN K Q t .ret τ h = Q .ret τ h := rfl
@[go_sem] theorem aDH (K : aE → Heap → Prop) (Q : Exit → aE → Heap → Prop) (t : Tag (K, Q)) (i : Nat) (τ : aE) (h : Heap) : tN K Q t (.exit i) τ h = Q (.exit i) τ h := rfl
def mV (id : Nat) (K : aE → Heap → Prop) (Q : Exit → aE → Heap → Prop) (_ : Tag (K, Q)) : Exit → aE → Heap → Prop := o8 id K Q
@[go_sem] theorem aDI (id : Nat) (K : aE → Heap → Prop) (Q : Exit → aE → Heap → Prop) (t : Tag (K, Q)) (τ : aE) (h : Heap) : mV id K Q t .ret τ h = Q .ret τ h := rfl
@[go_sem] theorem aCB (id : Nat) (K : aE → Heap → Prop) (Q : Exit → aE → Heap → Prop) (t : Tag (K, Q)) (τ : aE) (h : Heap) : mV id K Q t (.exit id) τ h = K τ h := by simp [mV, o8]
@[go_sem] theorem aAZ (id i : Nat) (K : aE → Heap → Prop) (Q : Exit → aE → Heap → Prop) (t : Tag (K, Q)) (τ : aE) (h : Heap) (hi : (i == id) = false) : mV id K Q t (.exit i) τ h = Q (.exit i) τ h := by
 have : i ≠ id := by simpa using hi
 simp [mV, o8, this]
def aG0 (P : Program) (N : Nat) (c : Code) (Q : Exit → aE → Heap → Prop) (τ : aE) (h : Heap) (_ : Tag (c, Q)) : Prop := gD P N c Q τ h
def cT (P : Program) (ib : List Nat) (d : Option Tmp) (op : Op) (ρ : Operand → aA) (h : Heap) (K : aA → Heap → Prop) (_ : Tag (op, K)) : Prop :=
 hE P ib ⟨d, op, 0, "", #[], none⟩ ρ h K
def stepG (P : Program) (ib : List Nat) (d : Option Tmp) (op : Op) (ρ : Operand → aA) (K : aA → Prop) (_ : Tag (op, K)) : Prop :=
 mT P ib ⟨d, op, 0, "", #[], none⟩ ρ K
def l9 (P : Program) (ib : List Nat) (os l : List Oper) (τ : aE) (h : Heap) (K : aE → Heap → Prop) (_ : Tag (os, l, K)) : Prop := l8 P ib os.toArray l τ h K
def kJ (os : List Oper) (g : Nat) (_ : Tag os) : Option Tmp := (os.toArray[g]?).bind (·.dst)
@[go_sem] theorem aDJ (o : Oper) (os : List Oper) (t : Tag (o :: os)) : kJ (o :: os) 0 t = o.dst := by simp [kJ]
@[go_sem] theorem aDK (o : Oper) (os : List Oper) (n : Nat) (t : Tag (o :: os)) : kJ (o :: os) (n + 1) t = kJ os n () := by simp [kJ]
def dO (v : aA) (b : Bool) (A B C : Prop) (_ : Tag (A, B, C)) : Prop := match v with
 | .bool b' => (b' = b → A) ∧ (b' = !b → B)
 | .bY [] => C
 | _ => False
@[go_sem] theorem aDL (b : Bool) (A B C : Prop) (t : Tag (A, B, C)) : dO (.bY []) b A B C t = C := rfl
@[go_sem] theorem aG1 (c : Bool) (A B C : Prop) (t : Tag (A, B, C)) : dO (.bool c) true A B C t = ((c = true → A) ∧ (c = false → B)) := rfl
@[go_sem] theorem aG2 (c : Bool) (A B C : Prop) (t : Tag (A, B, C)) : dO (.bool c) false A B C t = ((c = false → A) ∧ (c = true → B)) := rfl
@[go_sem high] theorem aE8 (A B C : Prop) (t : Tag (A, B, C)) : dO (.bool true) true A B C t = A := by simp [dO]
@[go_sem high] theorem aE9 (A B C : Prop) (t : Tag (A, B, C)) : dO (.bool false) true A B C t = B := by simp [dO]
@[go_sem high] theorem aFA (A B C : Prop) (t : Tag (A, B, C)) : dO (.bool true) false A B C t = B := by simp [dO]
@[go_sem high] theorem aFB (A B C : Prop) (t : Tag (A, B, C)) : dO (.bool false) false A B C t = A := by simp [dO]
section
variable (P : Program) (ib : List Nat) (os rest : List Oper) (τ : aE) (h : Heap) (K : aE → Heap → Prop) (d : Option Tmp) (op : Op) (ty : TypeId) (p : String) (af : Array Edge)
@[go_sem] theorem aFC (t : Tag (os, [], K)) : l9 P ib os [] τ h K t = K τ h := rfl
@[go_sem] theorem aDM (t : Tag (os, (⟨d, op, ty, p, af, none⟩ :: rest), K)) : l9 P ib os (⟨d, op, ty, p, af, none⟩ :: rest) τ h K t =
  cT P ib d op (nK τ) h (fun v h' => l9 P ib os rest (bK τ d v) h' K ()) () := rfl
@[go_sem] theorem aDN (g : Nat) (b : Bool) (t : Tag (os, (⟨d, op, ty, p, af, some (g, b)⟩ :: rest), K)) : l9 P ib os (⟨d, op, ty, p, af, some (g, b)⟩ :: rest) τ h K t =
  bE (kJ os g ()) (fun s => dO (bG τ s) b (cT P ib d op (nK ((s, .bool b) :: τ)) h (fun v h' => l9 P ib os rest (bK ((s, .bool b) :: τ) d v) h' K ()) ())
   (l9 P ib os rest (bK ((s, .bool !b) :: τ) d (.bY [])) h K ()) (l9 P ib os rest (bK τ d (.bY [])) h K ()) ()) () := by
 unfold l9
 rw [l8]
 simp only [bE, kJ]
 cases (os.toArray[g]?).bind (·.dst) with
 |none => rfl
 |some s =>
  simp only [dO]
  cases bG τ s <;> first | rfl | (rename_i cs; cases cs <;> rfl)
end
def mA (P : Program) (ib : List Nat) (os : List Oper) (ms : List Nat) (cr : List (Nat × Nat)) (l : fS) (pr : List (Nat × Nat)) (τ : aE) (h : Heap) (K : aE → Heap → Prop) (_ : Tag (os, K)) : Prop := mU P ib os.toArray ms cr l pr τ h K
def pC (P : Program) (ib : List Nat) (os : List Oper) (cr : List (Nat × Nat)) (i : Nat) (m : Bool) (o : Oper) (pr : List (Nat × Nat)) (τ : aE) (h : Heap) (K : List (Nat × Nat) → aE → Heap → Prop) (_ : Tag (os, o, K)) : Prop :=
 match o.guard with
 |none => nM P ib cr i m o (gO os.toArray o τ) pr h (fun pr' v h' => K pr' (bK τ o.dst v) h')
 |some (g, b) => match (os.toArray[g]?).bind (·.dst) with
  |some d => match bG τ d with
   | .bool b' => (b' = b → nM P ib cr i m o (gO os.toArray o ((d, .bool b) :: τ)) pr h (fun pr' v h' => K pr' (bK ((d, .bool b) :: τ) o.dst v) h')) ∧
     (b' = !b → K pr (bK ((d, .bool !b) :: τ) o.dst (.bY [])) h)
   | .bY [] => K pr (bK τ o.dst (.bY [])) h
   | _ => False
  |none => False
def tO (os : List Oper) (i : Nat) (K : Oper → Prop) (_ : Tag (os, K)) : Prop := match os[i]? with | some o => K o | none => False
@[go_sem] theorem aFD (o : Oper) (os : List Oper) (K : Oper → Prop) (t : Tag (o :: os, K)) : tO (o :: os) 0 K t = K o := rfl
@[go_sem] theorem aFE (o : Oper) (os : List Oper) (i : Nat) (K : Oper → Prop) (t : Tag (o :: os, K)) : tO (o :: os) (i + 1) K t = tO os i K () := rfl
def vE (os : List Oper) (o : Oper) (τ : aE) (_ : Tag (os, o)) : Operand → aA := gO os.toArray o τ
section
variable (P : Program) (ib : List Nat) (os : List Oper) (τ : aE) (h : Heap) (K : aE → Heap → Prop) (d : Option Tmp) (op : Op) (ty : TypeId) (p : String) (af : Array Edge)
variable (cr : List (Nat × Nat)) (pr : List (Nat × Nat)) (i : Nat)
@[go_sem] theorem aFF (ms : List Nat) (t : Tag (os, K)) : mA P ib os ms cr .nil pr τ h K t = K τ h := rfl
theorem vF (ms : List Nat) (i : Nat) (C : List (Nat × Nat) → aE → Heap → Prop) : yQ P ib os.toArray ms cr i pr τ h C = tO os i (fun o => pC P ib os cr i (ms.contains i) o pr τ h C ()) () := by
 simp only [yQ, tO, pC, List.getElem?_toArray]
 cases os[i]? <;> rfl
@[go_sem] theorem aG3 (ms : List Nat) (l : fS) (i : Nat) (t : Tag (os, K)) : mA P ib os ms cr (.op i l) pr τ h K t = tO os i (fun o => pC P ib os cr i (ms.contains i) o pr τ h (fun pr' τ' h' => mA P ib os ms cr l pr' τ' h' K ()) ()) () := by
 simp only [mA, mU]; exact vF P ib os τ h cr pr ms i _
@[go_sem] theorem aFG (ms : List Nat) (l q : fS) (i j : Nat) (t : Tag (os, K)) : mA P ib os ms cr (.alt i l j q) pr τ h K t = ((tO os i (fun o => pC P ib os cr i (ms.contains i) o pr τ h (fun pr' τ' h' => mA P ib os ms cr l pr' τ' h' K ()) ()) ()) ∧ tO os j (fun o => pC P ib os cr j (ms.contains j) o pr τ h (fun pr' τ' h' => mA P ib os ms cr q pr' τ' h' K ()) ()) ()) := by
 simp only [mA, mU]; rw [vF P ib os τ h cr pr ms i _, vF P ib os τ h cr pr ms j _]
@[go_sem] theorem aG4 (o : Oper) (t : Tag (os, o)) (k : Nat) : vE os o τ t (.tmp k) = if (gN os.toArray o).contains k then bG τ k else .any := rfl
@[go_sem] theorem aDO (o : Oper) (t : Tag (os, o)) (v : Value) : vE os o τ t (.const v) = aA.ofValue v := rfl
@[go_sem] theorem aFH (o : Oper) (t : Tag (os, o)) (f : FuncId) : vE os o τ t (.func f) = nK τ (.func f) := rfl
def bU : Op → Bool
 | .load _ _ => true
 | _ => false
def nN (d : Option Tmp) (op : Op) (ρ : Operand → aA) (M : List (Nat × Nat) → aA → Heap → Prop) (_ : Tag (op, M)) : Prop :=
 if bU op then tJ P ⟨d, op, 0, "", #[], none⟩ ρ h (fun n v => M (tL cr i n pr) v h) else hE P ib ⟨d, op, 0, "", #[], none⟩ ρ h (fun v h' => eT cr i pr h h' ∧ M pr v h')
theorem wO (ρ : Operand → aA) (g : Option (Nat × Bool)) (M : List (Nat × Nat) → aA → Heap → Prop) : nM P ib cr i true ⟨d, op, ty, p, af, g⟩ ρ pr h M = nN P ib h cr pr i d op ρ M () := by
 unfold nM nN
 cases op <;> rfl
@[go_sem] theorem aKE (L : List (Nat × Nat) → aE → Heap → Prop) (t : Tag (os, (⟨d, op, ty, p, af, none⟩ : Oper), L)) : pC P ib os cr i true ⟨d, op, ty, p, af, none⟩ pr τ h L t = nN P ib h cr pr i d op (vE os ⟨d, op, ty, p, af, none⟩ τ ()) (fun pr' v h' => L pr' (bK τ d v) h') () := by
 rw [← wO (ty := ty) (p := p) (af := af) (g := none)]; rfl
@[go_sem] theorem aKF (L : List (Nat × Nat) → aE → Heap → Prop) (t : Tag (os, (⟨d, op, ty, p, af, none⟩ : Oper), L)) : pC P ib os cr i false ⟨d, op, ty, p, af, none⟩ pr τ h L t = stepG P ib d op (vE os ⟨d, op, ty, p, af, none⟩ τ ()) (fun v => L pr (bK τ d v) h) () := rfl
@[go_sem] theorem aJB (L : List (Nat × Nat) → aE → Heap → Prop) (g : Nat) (b : Bool) (t : Tag (os, (⟨d, op, ty, p, af, some (g, b)⟩ : Oper), L)) : pC P ib os cr i true ⟨d, op, ty, p, af, some (g, b)⟩ pr τ h L t =
  bE (kJ os g ()) (fun s => dO (bG τ s) b (nN P ib h cr pr i d op (vE os ⟨d, op, ty, p, af, some (g, b)⟩ ((s, .bool b) :: τ) ()) (fun pr' v h' => L pr' (bK ((s, .bool b) :: τ) d v) h') ())
   (L pr (bK ((s, .bool !b) :: τ) d (.bY [])) h) (L pr (bK τ d (.bY [])) h) ()) () := by
 simp only [pC, bE, kJ, ← wO (ty := ty) (p := p) (af := af) (g := some (g, b))]
 cases (os.toArray[g]?).bind (·.dst) with
 |none => rfl
 |some s =>
  simp only [dO]
  cases bG τ s <;> first | rfl | (rename_i cs; cases cs <;> rfl)
@[go_sem] theorem aJC (L : List (Nat × Nat) → aE → Heap → Prop) (g : Nat) (b : Bool) (t : Tag (os, (⟨d, op, ty, p, af, some (g, b)⟩ : Oper), L)) : pC P ib os cr i false ⟨d, op, ty, p, af, some (g, b)⟩ pr τ h L t =
  bE (kJ os g ()) (fun s => dO (bG τ s) b (stepG P ib d op (vE os ⟨d, op, ty, p, af, some (g, b)⟩ ((s, .bool b) :: τ) ()) (fun v => L pr (bK ((s, .bool b) :: τ) d v) h) ())
   (L pr (bK ((s, .bool !b) :: τ) d (.bY [])) h) (L pr (bK τ d (.bY [])) h) ()) () := by
 simp only [pC, bE, kJ]
 cases (os.toArray[g]?).bind (·.dst) with
 |none => rfl
 |some s =>
  simp only [dO]
  cases bG τ s <;> first | rfl | (rename_i cs; cases cs <;> rfl)
end
def iG (P : Program) (N : Nat) (keep ib : List Nat) (mk : Marks) (c : Code) (K : aE → Heap → Prop) (Q : Exit → aE → Heap → Prop) (τ : aE) (h : Heap) (_ : Tag (c, K, Q)) : Prop := yR P N keep ib mk c K Q τ h
section
variable (P : Program) (N : Nat) (keep ib : List Nat) (mk : Marks) (K : aE → Heap → Prop) (Q : Exit → aE → Heap → Prop) (τ : aE) (h : Heap)
@[go_sem] theorem aFI (t : Tag (Code.skip, K, Q)) : iG P N keep ib mk .skip K Q τ h t = K τ h := rfl
@[go_sem] theorem aG5 (t : Tag (Code.ret, K, Q)) : iG P N keep ib mk .ret K Q τ h t = Q .ret τ h := rfl
@[go_sem] theorem aFJ (i : Nat) (t : Tag (Code.exit i, K, Q)) : iG P N keep ib mk (.exit i) K Q τ h t = Q (.exit i) τ h := rfl
@[go_sem] theorem aG6 (a b : Code) (t : Tag (Code.seq a b, K, Q)) : iG P N keep ib mk (.seq a b) K Q τ h t = iG P N keep ib mk a (fun τ h => iG P N keep ib mk b K Q τ h ()) Q τ h () := rfl
@[go_sem] theorem aFK (x : Operand) (a b : Code) (t : Tag (Code.cond x a b, K, Q)) : iG P N keep ib mk (.cond x a b) K Q τ h t = kI (nK τ x) (iG P N keep ib mk a K Q τ h ()) (iG P N keep ib mk b K Q τ h ()) () := by
 simp only [iG, yR, kI]; cases nK τ x <;> rfl
@[go_sem] theorem aDP (i : Nat) (c : Code) (t : Tag (Code.block i c, K, Q)) : iG P N keep ib mk (.block i c) K Q τ h t = iG P N keep ib mk c K (mV i K Q ()) τ h () := rfl
@[go_sem] theorem aFL (c : Code) (t : Tag (Code.loop c, K, Q)) : iG P N keep ib mk (.loop c) K Q τ h t = aG0 P N (.loop c) (tN K Q ()) τ h () := rfl
@[go_sem] theorem aCC (i : Nat) (os : List Oper) (t : Tag (Code.region i ⟨os⟩ false, K, Q)) : iG P N keep ib mk (.region i ⟨os⟩ false) K Q τ h t = l9 P ib os os τ h (fun τ' h' => K (Hl.prune keep τ') h') () := rfl
@[go_sem] theorem aFM (i : Nat) (os : List Oper) (t : Tag (Code.region i ⟨os⟩ true, K, Q)) : iG P N keep ib mk (.region i ⟨os⟩ true) K Q τ h t = mA P ib os (mk i).1 (mk i).2.2 (mk i).2.1 [] τ h (fun τ' h' => K (Hl.prune keep τ') h') () := rfl
end
theorem vG {P : Program} {N : Nat} {keep ib : List Nat} {mk : Marks} (hmix : P.follows .mixedOrders = true) (c : Code) (K : aE → Heap → Prop) (Q : Exit → aE → Heap → Prop) (τ : aE) (h : Heap) (hc : dK N mk c = true) (hw : iG P N keep ib mk c K Q τ h ()) : gD P N c (tN K Q ()) τ h :=
 fG hmix c K Q τ h hc hw
set_option linter.unusedVariables false
set_option linter.unusedSimpArgs false
def wP : Op → Bool
 | .box .. => false
 | .buildSlice .. => false
 | _ => true
theorem bD {P : Program} {ib : List Nat} {d : Option Tmp} {op : Op} {ρ : Operand → aA} {h : Heap} {K : aA → Heap → Prop} {t : Tag (op, K)} (hop : wP op = true) : cT P ib d op ρ h K t = step P ⟨d, op, 0, "", #[], none⟩ ρ h K := by
 unfold cT hE
 cases d with
 |none => rfl
 |some d =>
  simp only
  split
  ·cases op <;> first | rfl | (simp [wP] at hop)
  ·rfl
theorem bZ {P : Program} {ib : List Nat} {d : Option Tmp} {op : Op} {ρ : Operand → aA} {K : aA → Prop} {t : Tag (op, K)} (hop : wP op = true) : stepG P ib d op ρ K t = nL P ⟨d, op, 0, "", #[], none⟩ ρ K := by
 unfold stepG mT
 cases d with
 |none => rfl
 |some d =>
  simp only
  split
  ·cases op <;> first | rfl | (simp [wP] at hop)
  ·rfl
def tP (P : Program) (op : BinOp) (ty : TypeId) (c : Bool) (x y : aA) (K : aA → Prop) (_ : Tag K) : Prop := iS P op ty c x y K
def c6 (P : Program) (op : BinOp) (ty : TypeId) (x y : aA) (K : aA → Prop) (_ : Tag K) : Prop := bQ P op ty x y K
def unF (op : UnOp) (x : aA) (K : aA → Prop) (_ : Tag K) : Prop := mP op x K
def faF (d : Option sS) (f : Nat) (x : aA) (K : aA → Prop) (_ : Tag K) : Prop := mQ d f x K
def iaF (re : Option c8) (x i : aA) (K : aA → Prop) (_ : Tag K) : Prop := mR re x i K
def ixF (d : Option sS) (x i : aA) (K : aA → Prop) (_ : Tag K) : Prop := lI d x i K
def ldF (r : Option c8) (a : aA) (h : Heap) (K : aA → Prop) (_ : Tag K) : Prop := cA r a h K
def stF (r : Option c8) (a v : aA) (h : Heap) (K : Heap → Prop) (_ : Tag K) : Prop := rT r a v h K
def alF (r : Option c8) (h : Heap) (K : aA → Heap → Prop) (_ : Tag K) : Prop := mS r h K
def slD (P : Program) (t : TypeId) (x : aA) (lo hi : Option aA) (K : aA → Prop) (_ : Tag K) : Prop := fF P t x lo hi K
def slF (P : Program) (t : TypeId) (x : aA) (lo hi : Option aA) (K : aA → Prop) (_ : Tag K) : Prop := cX P t x lo hi K
def yS (P : Program) (d : Option sS) (x : aA) (K : aA → Prop) (_ : Tag K) : Prop := match d, x with
  |some (.slice _), .sl _ es _ => es.length ≤ 9223372036854775807 → K (.int .i64 es.length)
  |some (.slice _), .os _ _ _ n => n ≤ 9223372036854775807 → K (.int .i64 n)
  |some (.slice _), .aV => K (.int .i64 0)
  |some .str, .str s => s.length ≤ 9223372036854775807 → K (.int .i64 s.length)
  | _, _ => False
def cvF (P : Program) (s : Option sS) (d : Option sS) (x : aA) (K : aA → Prop) (_ : Tag K) : Prop := match d, x with
 |some (.int k'), .int k n => s.isSome = true ∧ K (.int k' (k'.wrap n))
 |some .str, .sl 1 es _ => (match s with
  |some (.slice et) => l7 P et = some (.int .u8) ∧ (match bytesOf es with | some bs => K (.str bs) | none => False)
  | _ => False)
 | _, _ => False
def rdF (cr : List (Nat × Nat)) (i : Nat) (pr : List (Nat × Nat)) (r : Option c8) (x : aA) (h : Heap) (M : List (Nat × Nat) → aA → Heap → Prop) (_ : Tag M) : Prop := match x with
 | .op n sz j off => cA r (.op n sz j off) h fun v => M (tL cr i (some n) pr) v h
 | .ip sz es j off => cA r (.ip sz es j off) h fun v => M (tL cr i none pr) v h
 | _ => False
def aA0 (c A : Prop) (_ : Tag A) : Prop := c ∧ A
@[go_sem] theorem aJI (c A : Prop) (t : Tag A) : aA0 c A t = (c ∧ A) := rfl
@[go_sem high] theorem aFP (A : Prop) (t : Tag A) : aA0 True A t = A := by simp [aA0]
def buF (P : Program) (r : Option c8) (ps : List (Nat × aA)) (K : aA → Prop) (_ : Tag K) : Prop := gE P r ps K
def exF (x : aA) (i : Nat) (K : aA → Prop) (_ : Tag K) : Prop := match x with
  | .bY cs => match cs[i]? with | some x => K x | none => False
  | _ => False
def ncF (x : aA) (K : aA → Prop) (_ : Tag K) : Prop := match x with
  | .op n sz i k => K (.op n sz i k)
  | .ip sz es i k => K (.ip sz es i k)
  | _ => False
def aCE (P : Program) (f : aA) (args : List aA) (h : Heap) (K : aA → Heap → Prop) (_ : Tag K) : Prop := match f with
  | .fn (.func g) first cap => gC P g (first ++ args ++ cap) h K
  | _ => False
def aCF (P : Program) (f : aA) (args : List aA) (K : aA → Prop) (_ : Tag K) : Prop := match f with
  | .fn (.func g) first cap => tH P g (first ++ args ++ cap) K
  | _ => False
def aI (P : Program) (g : FuncId) (args : List aA) (h : Heap) (K : aA → Heap → Prop) (_ : Tag K) : Prop := gC P g args h K
def aC (P : Program) (g : FuncId) (args : List aA) (K : aA → Prop) (_ : Tag K) : Prop := tH P g args K
theorem aI.mk {P : Program} {g : FuncId} {args : List aA} {h : Heap} {K : aA → Heap → Prop} {t : Tag K} {r : aA} (a : dV P g args r) (k : K r h) : aI P g args h K t := dV.call a k
theorem aC.mk {P : Program} {g : FuncId} {args : List aA} {K : aA → Prop} {t : Tag K} {r : aA} (a : dV P g args r) (k : K r) : aC P g args K t := ⟨r, a, k⟩
section
variable (P : Program) (ib : List Nat) (d : Option Tmp) (ρ : Operand → aA) (h : Heap) (K : aA → Heap → Prop) (L : aA → Prop)
@[go_sem] theorem aJL (x : Operand) (t : Tag (Op.move x, K)) : cT P ib d (.move x) ρ h K t = K (ρ x) h := by rw [bD rfl]; rfl
@[go_sem] theorem aJM (x : Operand) (t : Tag (Op.move x, L)) : stepG P ib d (.move x) ρ L t = L (ρ x) := by rw [bZ rfl]; rfl
@[go_sem] theorem aFQ (x : Operand) (t : Tag (Op.assign x, K)) : cT P ib d (.assign x) ρ h K t = K (ρ x) h := by rw [bD rfl]; rfl
@[go_sem] theorem aFR (x : Operand) (t : Tag (Op.assign x, L)) : stepG P ib d (.assign x) ρ L t = L (ρ x) := by rw [bZ rfl]; rfl
@[go_sem] theorem aJN (c a b : Operand) (t : Tag (Op.pick c a b, K)) : cT P ib d (.pick c a b) ρ h K t = kI (ρ c) (K (ρ a) h) (K (ρ b) h) () := by
 rw [bD rfl]; simp only [step, kI]; cases ρ c <;> rfl
@[go_sem] theorem aJO (c a b : Operand) (t : Tag (Op.pick c a b, L)) : stepG P ib d (.pick c a b) ρ L t = kI (ρ c) (L (ρ a)) (L (ρ b)) () := by
 rw [bZ rfl]; simp only [nL, kI]; cases ρ c <;> rfl
@[go_sem] theorem aKI (op : BinOp) (ty ty' : TypeId) (x y : Operand) (t : Tag (Op.binOp op ty x y ty', K)) : cT P ib d (.binOp op ty x y ty') ρ h K t = tP P op ty (fW y) (ρ x) (ρ y) (fun v => K v h) () := by rw [bD rfl]; rfl
@[go_sem] theorem aKJ (op : BinOp) (ty ty' : TypeId) (x y : Operand) (t : Tag (Op.binOp op ty x y ty', L)) : stepG P ib d (.binOp op ty x y ty') ρ L t = c6 P op ty (ρ x) (ρ y) L () := by rw [bZ rfl]; rfl
@[go_sem] theorem aMT (op : UnOp) (ty : TypeId) (x : Operand) (t : Tag (Op.unOp op ty x, K)) : cT P ib d (.unOp op ty x) ρ h K t = unF op (ρ x) (fun v => K v h) () := by rw [bD rfl]; rfl
@[go_sem] theorem aMU (op : UnOp) (ty : TypeId) (x : Operand) (t : Tag (Op.unOp op ty x, L)) : stepG P ib d (.unOp op ty x) ρ L t = unF op (ρ x) L () := by rw [bZ rfl]; rfl
@[go_sem] theorem aJP (s e : TypeId) (x : Operand) (t : Tag (Op.convert s e x, K)) : cT P ib d (.convert s e x) ρ h K t = cvF P (l7 P s) (l7 P e) (ρ x) (fun v => K v h) () := by rw [bD rfl]; rfl
@[go_sem] theorem aJQ (s e : TypeId) (x : Operand) (t : Tag (Op.convert s e x, L)) : stepG P ib d (.convert s e x) ρ L t = cvF P (l7 P s) (l7 P e) (ρ x) L () := by rw [bZ rfl]; rfl
@[go_sem] theorem aMV (ty : TypeId) (x : Operand) (f : Nat) (t : Tag (Op.fieldAddr ty x f, K)) : cT P ib d (.fieldAddr ty x f) ρ h K t = faF (l7 P ty) f (ρ x) (fun v => K v h) () := by rw [bD rfl]; rfl
@[go_sem] theorem aMW (ty : TypeId) (x : Operand) (f : Nat) (t : Tag (Op.fieldAddr ty x f, L)) : stepG P ib d (.fieldAddr ty x f) ρ L t = faF (l7 P ty) f (ρ x) L () := by rw [bZ rfl]; rfl
@[go_sem] theorem aMX (ty : TypeId) (x i : Operand) (t : Tag (Op.indexAddr ty x i, K)) : cT P ib d (.indexAddr ty x i) ρ h K t = iaF (dM P ty) (ρ x) (ρ i) (fun v => K v h) () := by rw [bD rfl]; rfl
@[go_sem] theorem aMY (ty : TypeId) (x i : Operand) (t : Tag (Op.indexAddr ty x i, L)) : stepG P ib d (.indexAddr ty x i) ρ L t = iaF (dM P ty) (ρ x) (ρ i) L () := by rw [bZ rfl]; rfl
@[go_sem] theorem aMZ (ty : TypeId) (x i : Operand) (t : Tag (Op.index ty x i, K)) : cT P ib d (.index ty x i) ρ h K t = ixF (l7 P ty) (ρ x) (ρ i) (fun v => K v h) () := by rw [bD rfl]; rfl
@[go_sem] theorem aM0 (ty : TypeId) (x i : Operand) (t : Tag (Op.index ty x i, L)) : stepG P ib d (.index ty x i) ρ L t = ixF (l7 P ty) (ρ x) (ρ i) L () := by rw [bZ rfl]; rfl
@[go_sem] theorem aM1 (ty : TypeId) (a : Operand) (t : Tag (Op.load ty a, K)) : cT P ib d (.load ty a) ρ h K t = ldF (b3 P ty) (ρ a) h (fun v => K v h) () := by rw [bD rfl]; rfl
@[go_sem] theorem aM2 (ty : TypeId) (a v : Operand) (t : Tag (Op.store ty a v, K)) : cT P ib d (.store ty a v) ρ h K t = stF (b3 P ty) (ρ a) (ρ v) h (fun h' => K .any h') () := by rw [bD rfl]; rfl
@[go_sem] theorem aM3 (ty : TypeId) (t : Tag (Op.alloc ty, K)) : cT P ib d (.alloc ty) ρ h K t = alF (b3 P ty) h K () := by rw [bD rfl]; rfl
@[go_sem] theorem aM4 (ty : TypeId) (x : Operand) (lo hi : Option Operand) (t : Tag (Op.slice ty x lo hi none, K)) : cT P ib d (.slice ty x lo hi none) ρ h K t = slD P ty (ρ x) (lo.map ρ) (hi.map ρ) (fun v => K v h) () := by rw [bD rfl]; rfl
@[go_sem] theorem aM5 (ty : TypeId) (x : Operand) (lo hi : Option Operand) (t : Tag (Op.slice ty x lo hi none, L)) : stepG P ib d (.slice ty x lo hi none) ρ L t = slF P ty (ρ x) (lo.map ρ) (hi.map ρ) L () := by rw [bZ rfl]; rfl
@[go_sem] theorem aM6 (cr pr : List (Nat × Nat)) (i : Nat) (ty : TypeId) (a : Operand) (M : List (Nat × Nat) → aA → Heap → Prop) (t : Tag (Op.load ty a, M)) : nN P ib h cr pr i d (.load ty a) ρ M t = rdF cr i pr (b3 P ty) (ρ a) h M () := by
 unfold nN tJ rdF; simp only [bU, if_true]
 cases ρ a <;> rfl
@[go_sem] theorem aKK (cr pr : List (Nat × Nat)) (i : Nat) (op : Op) (M : List (Nat × Nat) → aA → Heap → Prop) (t : Tag (op, M)) (hop : bU op = false) : nN P ib h cr pr i d op ρ M t = cT P ib d op ρ h (fun v h' => aA0 (eT cr i pr h h') (M pr v h') ()) () := by
 unfold nN; rw [hop]; rfl
@[go_sem] theorem aM7 (x : Operand) (i : Nat) (t : Tag (Op.extract x i, K)) : cT P ib d (.extract x i) ρ h K t = exF (ρ x) i (fun v => K v h) () := by rw [bD rfl]; rfl
@[go_sem] theorem aM8 (x : Operand) (i : Nat) (t : Tag (Op.extract x i, L)) : stepG P ib d (.extract x i) ρ L t = exF (ρ x) i L () := by rw [bZ rfl]; rfl
@[go_sem] theorem aM9 (x : Operand) (t : Tag (Op.nilCheck x, K)) : cT P ib d (.nilCheck x) ρ h K t = ncF (ρ x) (fun v => K v h) () := by rw [bD rfl]; rfl
@[go_sem] theorem aNA (x : Operand) (t : Tag (Op.nilCheck x, L)) : stepG P ib d (.nilCheck x) ρ L t = ncF (ρ x) L () := by rw [bZ rfl]; rfl
@[go_sem] theorem aNB (f : Fn) (fs cs : Array Operand) (t : Tag (Op.makeFunc f fs cs, K)) : cT P ib d (.makeFunc f fs cs) ρ h K t = K (.fn f (fs.toList.map ρ) (cs.toList.map ρ)) h := by rw [bD rfl]; rfl
@[go_sem] theorem aNC (f : Fn) (fs cs : Array Operand) (t : Tag (Op.makeFunc f fs cs, L)) : stepG P ib d (.makeFunc f fs cs) ρ L t = L (.fn f (fs.toList.map ρ) (cs.toList.map ρ)) := by rw [bZ rfl]; rfl
@[go_sem] theorem aND (ty : TypeId) (ps : Array (Nat × Operand)) (t : Tag (Op.build ty ps, K)) : cT P ib d (.build ty ps) ρ h K t = buF P (b3 P ty) (ps.toList.map fun p => (p.1, ρ p.2)) (fun v => K v h) () := by rw [bD rfl]; rfl
@[go_sem] theorem aNE (ty : TypeId) (ps : Array (Nat × Operand)) (t : Tag (Op.build ty ps, L)) : stepG P ib d (.build ty ps) ρ L t = buF P (b3 P ty) (ps.toList.map fun p => (p.1, ρ p.2)) L () := by rw [bZ rfl]; rfl
@[go_sem] theorem aJR (f : Operand) (as : Array Operand) (ats : Array TypeId) (t : Tag (Op.call ⟨.value f, as, ats⟩, K)) : cT P ib d (.call ⟨.value f, as, ats⟩) ρ h K t = aCE P (ρ f) (as.toList.map ρ) h K () := by rw [bD rfl]; rfl
@[go_sem] theorem aJS (f : Operand) (as : Array Operand) (ats : Array TypeId) (t : Tag (Op.call ⟨.value f, as, ats⟩, L)) : stepG P ib d (.call ⟨.value f, as, ats⟩) ρ L t = aCF P (ρ f) (as.toList.map ρ) L () := by rw [bZ rfl]; rfl
end
set_option linter.unusedVariables false
set_option linter.unusedSimpArgs false
section
variable (P : Program) (ib : List Nat) (d : Option Tmp) (ρ : Operand → aA) (h : Heap) (K : aA → Heap → Prop) (L : aA → Prop)
def ldG (r : Option c8) (a : aA) (K : aA → Prop) (_ : Tag K) : Prop := match a with
  | .ip sz es i off => cA r (.ip sz es i off) (fun _ => none) K
  | _ => False
@[go_sem] theorem aNF (ty : TypeId) (a : Operand) (t : Tag (Op.load ty a, L)) : stepG P ib d (.load ty a) ρ L t = ldG (b3 P ty) (ρ a) L () := by
 rw [bZ rfl]; simp only [nL, ldG]; cases ρ a <;> rfl
@[go_sem] theorem aKL (x : Operand) (ty : TypeId) (t : Tag (Op.call ⟨.builtin .len, #[x], #[ty]⟩, K)) : cT P ib d (.call ⟨.builtin .len, #[x], #[ty]⟩) ρ h K t = yS P (l7 P ty) (ρ x) (fun v => K v h) () := by rw [bD rfl]; rfl
def apF (P : Program) (re : Option c8) (t1 : Option TypeId) (x y : aA) (h : Heap) (K : aA → Heap → Prop) (_ : Tag K) : Prop := jF P re t1 x y h K
@[go_sem] theorem aKM (x y : Operand) (a b : TypeId) (t : Tag (Op.call ⟨.builtin .append, #[x, y], #[a, b]⟩, K)) : cT P ib d (.call ⟨.builtin .append, #[x, y], #[a, b]⟩) ρ h K t = apF P (dM P a) (some b) (ρ x) (ρ y) h K () := by
 rw [bD rfl]; rfl
def pD (ib : List Nat) (d : Option Tmp) : Bool := match d with | some d => ib.contains d | none => false
@[go_sem] theorem aDR (k : Nat) : pD ib (some k) = ib.contains k := rfl
def aA1 (i : Bool) (x : aA) (h : Heap) (K : aA → Heap → Prop) (_ : Tag K) : Prop := if i then oU x (fun v => K v h) else wJ x h K
@[go_sem] theorem aKN (ty : TypeId) (x : Operand) (t : Tag (Op.box ty x, K)) : cT P ib d (.box ty x) ρ h K t = aA1 (pD ib d) (ρ x) h K () := by
 unfold cT hE aA1 pD
 cases d with
 |none => rfl
 |some d => simp only; split <;> rfl
@[go_sem] theorem aKO (x : aA) (t : Tag K) : aA1 true x h K t = (x.cells.all aA.flat = true ∧ K (.ip x.cells.length [x.cells] 0 0) h) := rfl
@[go_sem] theorem aKP (x : aA) (t : Tag K) : aA1 false x h K t = (x.cells.all aA.flat = true ∧ ∀ n, h n = none → K (.op n x.cells.length 0 0) (a7 h n (.row x.cells.length [x.cells.map .v]))) := rfl
def bsF (i : Bool) (re : Option c8) (len : Nat) (ps : List (Nat × aA)) (h : Heap) (K : aA → Heap → Prop) (_ : Tag K) : Prop :=
 if i then gM re len ps (fun sz es => K (.sl sz es true) h) else gM re len ps fun sz es => ∀ n, h n = none → K (.os n sz 0 len) (a7 h n (.row sz (es.map (List.map .v))))
def bsG (i : Bool) (re : Option c8) (len : Nat) (ps : List (Nat × aA)) (K : aA → Prop) (_ : Tag K) : Prop :=
 if i then gM re len ps (fun sz es => K (.sl sz es true)) else False
@[go_sem] theorem aNG (ty : TypeId) (len : Nat) (ps : Array (Nat × Operand)) (t : Tag (Op.buildSlice ty len ps, K)) : cT P ib d (.buildSlice ty len ps) ρ h K t = bsF (pD ib d) (dM P ty) len (ps.toList.map fun p => (p.1, ρ p.2)) h K () := by
 unfold cT hE bsF pD
 cases d with
 |none => rfl
 |some d => simp only; split <;> rfl
@[go_sem] theorem aNH (ty : TypeId) (len : Nat) (ps : Array (Nat × Operand)) (t : Tag (Op.buildSlice ty len ps, L)) : stepG P ib d (.buildSlice ty len ps) ρ L t = bsG (pD ib d) (dM P ty) len (ps.toList.map fun p => (p.1, ρ p.2)) L () := by
 unfold stepG mT bsG pD
 cases d with
 |none => rfl
 |some d => simp only; split <;> rfl
@[go_sem] theorem aNI (re : c8) (len : Nat) (ps : List (Nat × aA)) (t : Tag K) : bsF true (some re) len ps h K t = (re.zero.length = re.sz ∧ 0 < re.sz ∧ re.zero.all aA.flat = true ∧ len * re.sz ≤ 16777216 ∧ fR len re.sz ps = true ∧ K (.sl re.sz (gY (List.replicate len re.zero) ps) true) h) := rfl
@[go_sem] theorem aNJ (re : c8) (len : Nat) (ps : List (Nat × aA)) (t : Tag L) : bsG true (some re) len ps L t = (re.zero.length = re.sz ∧ 0 < re.sz ∧ re.zero.all aA.flat = true ∧ len * re.sz ≤ 16777216 ∧ fR len re.sz ps = true ∧ L (.sl re.sz (gY (List.replicate len re.zero) ps) true)) := rfl
@[go_sem] theorem aNK (re : c8) (len : Nat) (ps : List (Nat × aA)) (t : Tag K) : bsF false (some re) len ps h K t = (re.zero.length = re.sz ∧ 0 < re.sz ∧ re.zero.all aA.flat = true ∧ len * re.sz ≤ 16777216 ∧ fR len re.sz ps = true ∧ ∀ n, h n = none → K (.os n re.sz 0 len) (a7 h n (.row re.sz ((gY (List.replicate len re.zero) ps).map (List.map .v))))) := rfl
@[go_sem] theorem aG7 (g : FuncId) (first cap args : List aA) (t : Tag K) : aCE P (.fn (.func g) first cap) args h K t = aI P g (first ++ args ++ cap) h K () := rfl
@[go_sem] theorem aG8 (g : FuncId) (first cap args : List aA) (t : Tag L) : aCF P (.fn (.func g) first cap) args L t = aC P g (first ++ args ++ cap) L () := rfl
@[go_sem] theorem aG9 (ty : TypeId) (k k' : IntKind) (a b : Int) (t : Tag L) : c6 P .add ty (.int k a) (.int k' b) L t = bE (dQ .add (.int k a) (.int k' b)) L () := by simp only [c6, bQ, bE]; cases dQ _ _ _ <;> rfl
@[go_sem] theorem aHA (ty : TypeId) (k k' : IntKind) (a b : Int) (t : Tag L) : c6 P .sub ty (.int k a) (.int k' b) L t = bE (dQ .sub (.int k a) (.int k' b)) L () := by simp only [c6, bQ, bE]; cases dQ _ _ _ <;> rfl
@[go_sem] theorem aHB (ty : TypeId) (k k' : IntKind) (a b : Int) (t : Tag L) : c6 P .mul ty (.int k a) (.int k' b) L t = bE (dQ .mul (.int k a) (.int k' b)) L () := by simp only [c6, bQ, bE]; cases dQ _ _ _ <;> rfl
@[go_sem] theorem aHC (ty : TypeId) (k k' : IntKind) (a b : Int) (t : Tag L) : c6 P .and ty (.int k a) (.int k' b) L t = bE (dQ .and (.int k a) (.int k' b)) L () := by simp only [c6, bQ, bE]; cases dQ _ _ _ <;> rfl
@[go_sem] theorem aJV (ty : TypeId) (k k' : IntKind) (a b : Int) (t : Tag L) : c6 P .or ty (.int k a) (.int k' b) L t = bE (dQ .or (.int k a) (.int k' b)) L () := by simp only [c6, bQ, bE]; cases dQ _ _ _ <;> rfl
@[go_sem] theorem aHD (ty : TypeId) (k k' : IntKind) (a b : Int) (t : Tag L) : c6 P .xor ty (.int k a) (.int k' b) L t = bE (dQ .xor (.int k a) (.int k' b)) L () := by simp only [c6, bQ, bE]; cases dQ _ _ _ <;> rfl
@[go_sem] theorem aCG (ty : TypeId) (k k' : IntKind) (a b : Int) (t : Tag L) : c6 P .andNot ty (.int k a) (.int k' b) L t = bE (dQ .andNot (.int k a) (.int k' b)) L () := by simp only [c6, bQ, bE]; cases dQ _ _ _ <;> rfl
@[go_sem] theorem aHE (ty : TypeId) (k k' : IntKind) (a b : Int) (t : Tag L) : c6 P .eql ty (.int k a) (.int k' b) L t = bE (dQ .eql (.int k a) (.int k' b)) L () := by simp only [c6, bQ, bE]; cases dQ _ _ _ <;> rfl
@[go_sem] theorem aHF (ty : TypeId) (k k' : IntKind) (a b : Int) (t : Tag L) : c6 P .neq ty (.int k a) (.int k' b) L t = bE (dQ .neq (.int k a) (.int k' b)) L () := by simp only [c6, bQ, bE]; cases dQ _ _ _ <;> rfl
@[go_sem] theorem aHG (ty : TypeId) (k k' : IntKind) (a b : Int) (t : Tag L) : c6 P .lss ty (.int k a) (.int k' b) L t = bE (dQ .lss (.int k a) (.int k' b)) L () := by simp only [c6, bQ, bE]; cases dQ _ _ _ <;> rfl
@[go_sem] theorem aHH (ty : TypeId) (k k' : IntKind) (a b : Int) (t : Tag L) : c6 P .leq ty (.int k a) (.int k' b) L t = bE (dQ .leq (.int k a) (.int k' b)) L () := by simp only [c6, bQ, bE]; cases dQ _ _ _ <;> rfl
@[go_sem] theorem aHI (ty : TypeId) (k k' : IntKind) (a b : Int) (t : Tag L) : c6 P .gtr ty (.int k a) (.int k' b) L t = bE (dQ .gtr (.int k a) (.int k' b)) L () := by simp only [c6, bQ, bE]; cases dQ _ _ _ <;> rfl
@[go_sem] theorem aHJ (ty : TypeId) (k k' : IntKind) (a b : Int) (t : Tag L) : c6 P .geq ty (.int k a) (.int k' b) L t = bE (dQ .geq (.int k a) (.int k' b)) L () := by simp only [c6, bQ, bE]; cases dQ _ _ _ <;> rfl
@[go_sem] theorem aHK (ty : TypeId) (k k' : IntKind) (a b : Int) (t : Tag L) : c6 P .quo ty (.int k a) (.int k' b) L t = (k = k' ∧ b ≠ 0 ∧ L (.int k (k.wrap (a.tdiv b)))) := rfl
@[go_sem] theorem aHL (ty : TypeId) (k k' : IntKind) (a b : Int) (t : Tag L) : c6 P .rem ty (.int k a) (.int k' b) L t = (k = k' ∧ b ≠ 0 ∧ L (.int k (a.tmod b))) := rfl
@[go_sem] theorem aHM (ty : TypeId) (k k' : IntKind) (a b : Int) (t : Tag L) : c6 P .shl ty (.int k a) (.int k' b) L t = (0 ≤ b ∧ L (.int k (k.wrap (a * 2 ^ (min b.toNat k.bits))))) := rfl
@[go_sem] theorem aHN (ty : TypeId) (k k' : IntKind) (a b : Int) (t : Tag L) : c6 P .shr ty (.int k a) (.int k' b) L t = (0 ≤ b ∧ L (.int k (a.fdiv (2 ^ (min b.toNat k.bits))))) := rfl
@[go_sem] theorem aFS (ty : TypeId) (a b : List UInt8) (t : Tag L) : c6 P .add ty (.str a) (.str b) L t = (a.length + b.length ≤ 9223372036854775807 ∧ L (.str (a ++ b))) := rfl
@[go_sem] theorem aFT (ty : TypeId) (a b : List UInt8) (t : Tag L) : c6 P .eql ty (.str a) (.str b) L t = L (.bool (decide (a = b))) := rfl
@[go_sem] theorem aFU (ty : TypeId) (a b : List UInt8) (t : Tag L) : c6 P .neq ty (.str a) (.str b) L t = L (.bool (!decide (a = b))) := rfl
@[go_sem] theorem aFV (ty : TypeId) (a b : List UInt8) (t : Tag L) : c6 P .lss ty (.str a) (.str b) L t = L (.bool (Op.bytesLess a b)) := rfl
@[go_sem] theorem aFW (ty : TypeId) (a b : Bool) (t : Tag L) : c6 P .eql ty (.bool a) (.bool b) L t = (l7 P ty = some .bool ∧ L (.bool (a == b))) := rfl
@[go_sem] theorem aFX (ty : TypeId) (a b : Bool) (t : Tag L) : c6 P .neq ty (.bool a) (.bool b) L t = (l7 P ty = some .bool ∧ L (.bool (a != b))) := rfl
@[go_sem] theorem aAF (v : Value) : fW (.const v) = true := rfl
@[go_sem] theorem aCH (v : Tmp) : fW (.tmp v) = false := rfl
@[go_sem] theorem yT (v : Nat) : fW (.global v) = false := rfl
@[go_sem] theorem aA2 (v : FuncId) : fW (.func v) = false := rfl
@[go_sem] theorem aHO (op : BinOp) (ty : TypeId) (c : Bool) (k : IntKind) (a : Int) (y : aA) (t : Tag L) : tP P op ty c (.int k a) y L t = c6 P op ty (.int k a) y L () := by cases c <;> rfl
@[go_sem] theorem aFY (op : BinOp) (ty : TypeId) (c : Bool) (a : Bool) (y : aA) (t : Tag L) : tP P op ty c (.bool a) y L t = c6 P op ty (.bool a) y L () := by cases c <;> rfl
@[go_sem] theorem aHP (op : BinOp) (ty : TypeId) (c : Bool) (a : List UInt8) (y : aA) (t : Tag L) : tP P op ty c (.str a) y L t = c6 P op ty (.str a) y L () := by cases c <;> rfl
@[go_sem] theorem aHQ (ty ti : TypeId) (v : aA) (t : Tag L) : tP P .eql ty true (.iface ti v) .cK L t = (iR P ty = true ∧ L (.bool false)) := rfl
@[go_sem] theorem aHR (ty : TypeId) (t : Tag L) : tP P .eql ty true .cK .cK L t = (iR P ty = true ∧ L (.bool true)) := rfl
@[go_sem] theorem aFZ (ty ti : TypeId) (v : aA) (t : Tag L) : tP P .neq ty true (.iface ti v) .cK L t = (iR P ty = true ∧ L (.bool true)) := rfl
@[go_sem] theorem aF0 (ty : TypeId) (t : Tag L) : tP P .neq ty true .cK .cK L t = (iR P ty = true ∧ L (.bool false)) := rfl
@[go_sem] theorem aJW (b : Bool) (t : Tag L) : unF .not (.bool b) L t = L (.bool (!b)) := rfl
@[go_sem] theorem aJX (k : IntKind) (n : Int) (t : Tag L) : unF .neg (.int k n) L t = L (.int k (k.wrap (0 - n))) := rfl
@[go_sem] theorem aJY (s : sS) (k k' : IntKind) (n : Int) (t : Tag L) : cvF P (some s) (some (.int k')) (.int k n) L t = L (.int k' (k'.wrap n)) := by simp [cvF]
@[go_sem] theorem aF1 (et : TypeId) (es : List (List aA)) (b : Bool) (t : Tag L) : cvF P (some (.slice et)) (some .str) (.sl 1 es b) L t = (l7 P et = some (.int .u8) ∧ bE (bytesOf es) (fun bs => L (.str bs)) ()) := by
 simp only [cvF, bE]; cases bytesOf es <;> rfl
@[go_sem] theorem aKR (cr pr : List (Nat × Nat)) (i : Nat) (r : Option c8) (n sz j off : Nat) (M : List (Nat × Nat) → aA → Heap → Prop) (t : Tag M) : rdF cr i pr r (.op n sz j off) h M t = ldF r (.op n sz j off) h (fun v => M (tL cr i (some n) pr) v h) () := rfl
@[go_sem] theorem aKS (cr pr : List (Nat × Nat)) (i : Nat) (r : Option c8) (sz j off : Nat) (es : List (List aA)) (M : List (Nat × Nat) → aA → Heap → Prop) (t : Tag M) : rdF cr i pr r (.ip sz es j off) h M t = ldF r (.ip sz es j off) h (fun v => M (tL cr i none pr) v h) () := rfl
attribute [go_sem] tL yK j0 eT bytesOf
@[go_sem] theorem aCI (x : Operand) : bU (.move x) = false := rfl
@[go_sem] theorem aAG (x : Operand) : bU (.assign x) = false := rfl
@[go_sem] theorem aA3 (x : TypeId) : bU (.alloc x) = false := rfl
@[go_sem] theorem aDS (x : TypeId) (v : Operand) : bU (.box x v) = false := rfl
@[go_sem] theorem aF2 (x : TypeId) (l : Nat) (ps : Array (Nat × Operand)) : bU (.buildSlice x l ps) = false := rfl
@[go_sem] theorem aA4 (x : TypeId) (ps : Array (Nat × Operand)) : bU (.build x ps) = false := rfl
@[go_sem] theorem aA5 (x : TypeId) (a v : Operand) : bU (.store x a v) = false := rfl
@[go_sem] theorem aF3 (x : TypeId) (a v : Operand) : bU (.makeSlice x a v) = false := rfl
@[go_sem] theorem aCJ (c : Call) : bU (.call c) = false := rfl
@[go_sem] theorem aF4 (x : TypeId) (r : Option Operand) : bU (.makeMap x r) = false := rfl
@[go_sem] theorem aAH (x : TypeId) (a b : Operand) (c : Bool) : bU (.lookup x a b c) = false := rfl
@[go_sem] theorem aF5 (x : TypeId) (a b c : Operand) : bU (.mapUpdate x a b c) = false := rfl
@[go_sem] theorem aF6 (x : TypeId) (a b : Operand) : bU (.mapEntry x a b) = false := rfl
@[go_sem] theorem aF7 (x : TypeId) (a b c : Operand) : bU (.entryStore x a b c) = false := rfl
@[go_sem] theorem aDT (x : TypeId) (a b c : Operand) : bU (.insert x a b c) = false := rfl
@[go_sem] theorem aA6 (x : TypeId) (a : Operand) : bU (.range x a) = false := rfl
@[go_sem] theorem aCK (a : Operand) (b : Bool) : bU (.next a b) = false := rfl
@[go_sem] theorem aA7 (a : Operand) : bU (.entry a) = false := rfl
@[go_sem] theorem aA8 (x : TypeId) (a : Operand) (b c d : Option Operand) : bU (.slice x a b c d) = false := rfl
@[go_sem] theorem aF8 (x : TypeId) (a b : Operand) : bU (.indexAddr x a b) = false := rfl
@[go_sem] theorem aF9 (x : TypeId) (a : Operand) (b : Nat) : bU (.fieldAddr x a b) = false := rfl
@[go_sem] theorem aGA (a : Operand) (b : Nat) : bU (.extract a b) = false := rfl
@[go_sem] theorem aGB (f : Fn) (a b : Array Operand) : bU (.makeFunc f a b) = false := rfl
@[go_sem] theorem aCL (a b : TypeId) (x : Operand) : bU (.convert a b x) = false := rfl
@[go_sem] theorem aDU (o : BinOp) (a b : TypeId) (x y : Operand) : bU (.binOp o a x y b) = false := rfl
@[go_sem] theorem aCM (x y z : Operand) : bU (.pick x y z) = false := rfl
@[go_sem] theorem aGC (x : Operand) : bU (.nilCheck x) = false := rfl
def yU (fs : List (Nat × TypeId × Nat)) (f : Nat) (K : Nat → Prop) (_ : Tag K) : Prop := match fs[f]? with | some (off, _, sz') => sz' ≠ 0 ∧ K off | none => False
@[go_sem] theorem aGD (off sz : Nat) (ty : TypeId) (fs : List (Nat × TypeId × Nat)) (M : Nat → Prop) (t : Tag M) : yU ((off, ty, sz) :: fs) 0 M t = (sz ≠ 0 ∧ M off) := rfl
@[go_sem] theorem aGE (x : Nat × TypeId × Nat) (fs : List (Nat × TypeId × Nat)) (n : Nat) (M : Nat → Prop) (t : Tag M) : yU (x :: fs) (n + 1) M t = yU fs n M () := rfl
@[go_sem] theorem aKT (fs : List (Nat × TypeId × Nat)) (f n sz i k : Nat) (t : Tag L) : faF (some (.st fs)) f (.op n sz i k) L t = yU fs f (fun off => L (.op n sz i (k + off))) () := rfl
@[go_sem] theorem aKU (fs : List (Nat × TypeId × Nat)) (f sz i k : Nat) (es : List (List aA)) (t : Tag L) : faF (some (.st fs)) f (.ip sz es i k) L t = yU fs f (fun off => L (.ip sz es i (k + off))) () := rfl
@[go_sem] theorem aKV (re : c8) (sz : Nat) (es : List (List aA)) (b : Bool) (k : IntKind) (n : Int) (t : Tag L) : iaF (some re) (.sl sz es b) (.int k n) L t = (re.sz = sz ∧ 0 ≤ n ∧ n < es.length ∧ L (.ip sz es n.toNat 0)) := rfl
@[go_sem] theorem aKW (re : c8) (m sz i0 len : Nat) (k : IntKind) (n : Int) (t : Tag L) : iaF (some re) (.os m sz i0 len) (.int k n) L t = (re.sz = sz ∧ 0 ≤ n ∧ n < len ∧ L (.op m sz (i0 + n.toNat) 0)) := rfl
@[go_sem] theorem aJZ (s : List UInt8) (k : IntKind) (n : Int) (t : Tag L) : ixF (some .str) (.str s) (.int k n) L t = (0 ≤ n ∧ bE s[n.toNat]? (fun c => L (.int .u8 c.toNat)) ()) := by
 simp only [ixF, lI, bE]; cases s[n.toNat]? <;> rfl
@[go_sem] theorem aKX (r : c8) (sz i off : Nat) (es : List (List aA)) (t : Tag L) : ldF (some r) (.ip sz es i off) h L t = bE es[i]? (fun e => bE (ld r e off) L ()) () := by
 simp only [ldF, cA, bE]
 cases es[i]? with
 |none => rfl
 |some e => simp only; cases ld r e off <;> rfl
@[go_sem] theorem aKY (r : c8) (sz i off : Nat) (es : List (List aA)) (t : Tag L) : ldG (some r) (.ip sz es i off) L t = bE es[i]? (fun e => bE (ld r e off) L ()) () := by
 simp only [ldG, cA, bE]
 cases es[i]? with
 |none => rfl
 |some e => simp only; cases ld r e off <;> rfl
def vH (o : Option aM) (K : Nat → List (List Cell) → Prop) (_ : Tag K) : Prop := match o with | some (.row sz es) => K sz es | _ => False
@[go_sem] theorem aHS (sz : Nat) (es : List (List Cell)) (M : Nat → List (List Cell) → Prop) (t : Tag M) : vH (some (.row sz es)) M t = M sz es := rfl
@[go_sem] theorem aKZ (r : c8) (n sz i off : Nat) (t : Tag L) : ldF (some r) (.op n sz i off) h L t = vH (h n) (fun sz' es => sz' = sz ∧ bE es[i]? (fun e => bE (oJ r e off) L ()) ()) () := by
 simp only [ldF, cA, vH]
 cases h n with
 |none => rfl
 |some o =>
  cases o with
  |row sz' es =>
   simp only [bE]
   cases es[i]? with
   |none => rfl
   |some e => simp only; cases oJ r e off <;> rfl
  | _ => rfl
@[go_sem] theorem aK0 (r : c8) (n sz i off : Nat) (v : aA) (M : Heap → Prop) (t : Tag M) : stF (some r) (.op n sz i off) v h M t = vH (h n) (fun sz' es => sz' = sz ∧ bE es[i]? (fun e => v.cells.all aA.flat = true ∧ v.cells.length = r.sz ∧ off + r.sz ≤ e.length ∧ M (a7 h n (.row sz (es.set i (eR e off v.cells))))) ()) () := by
 simp only [stF, rT, vH]
 cases h n with
 |none => rfl
 |some o =>
  cases o with
  |row sz' es => simp only [bE]; cases es[i]? <;> rfl
  | _ => rfl
@[go_sem] theorem aK1 (re : c8) (t1 : Option TypeId) (n sz i len : Nat) (y : aA) (t : Tag K) : apF P (some re) t1 (.os n sz i len) y h K t = (re.zero.length = re.sz ∧ 0 < re.sz ∧ k9 P t1 = true ∧ re.sz = sz ∧ vH (h n) (fun sz' es => sz' = sz ∧ i + len ≤ es.length ∧ bE (iQ h sz y) (fun ys => (len + ys.length) * re.bytes ≤ 140737488355328 ∧ len + ys.length ≤ 9223372036854775807 ∧
  ∀ b, h b = none → K (.os b sz 0 (len + ys.length)) (a7 (a7 h n .gone) b (.row sz ((es.drop i).take len ++ ys.map (List.map .v))))) ()) ()) := by
 simp only [apF, jF, vH]
 cases h n with
 |none => rfl
 |some o =>
  cases o with
  |row sz' es => simp only [bE]; cases iQ h sz y <;> rfl
  | _ => rfl
@[go_sem] theorem aK2 (re : c8) (t1 : Option TypeId) (sz : Nat) (es : List (List aA)) (tg : Bool) (y : aA) (t : Tag K) : apF P (some re) t1 (.sl sz es tg) y h K t = (re.zero.length = re.sz ∧ 0 < re.sz ∧ k9 P t1 = true ∧ bE (nI re.sz (.sl sz es tg)) (fun olds => bE (iQ h re.sz y) (fun ys => (ys = [] → K (.sl sz es tg) h) ∧ (ys ≠ [] → (olds.length + ys.length) * re.bytes ≤ 140737488355328 ∧ olds.length + ys.length ≤ 9223372036854775807 ∧
  ∀ n, h n = none → K (.os n re.sz 0 (olds.length + ys.length)) (a7 h n (.row re.sz ((olds ++ ys).map (List.map .v)))))) ()) ()) := by
 simp only [apF, jF]
 cases hd : nI re.sz (.sl sz es tg) with
 |none => rfl
 |some olds => simp only [bE]; cases iQ h re.sz y <;> rfl
@[go_sem] theorem aJ0 (re : c8) (t1 : Option TypeId) (y : aA) (t : Tag K) : apF P (some re) t1 .aV y h K t = (re.zero.length = re.sz ∧ 0 < re.sz ∧ k9 P t1 = true ∧ bE (iQ h re.sz y) (fun ys => (ys = [] → K .aV h) ∧ (ys ≠ [] → ((([] : List (List aA)).length) + ys.length) * re.bytes ≤ 140737488355328 ∧ (([] : List (List aA)).length) + ys.length ≤ 9223372036854775807 ∧
  ∀ n, h n = none → K (.os n re.sz 0 ((([] : List (List aA)).length) + ys.length)) (a7 h n (.row re.sz (([] ++ ys).map (List.map .v)))))) ()) := by
 simp only [apF, jF, nI]
 cases iQ h re.sz y <;> rfl
@[go_sem] theorem aHT (r : c8) (t : Tag K) : alF (some r) h K t = (r.zero ≠ [] ∧ r.zero.all aA.flat = true ∧ ∀ n, h n = none → K (.op n r.zero.length 0 0) (a7 h n (.row r.zero.length [r.zero.map .v]))) := rfl
@[go_sem] theorem aJ1 (et : TypeId) (sz : Nat) (es : List (List aA)) (b : Bool) (t : Tag L) : yS P (some (.slice et)) (.sl sz es b) L t = (es.length ≤ 9223372036854775807 → L (.int .i64 es.length)) := rfl
@[go_sem] theorem aJ2 (et : TypeId) (m sz i n : Nat) (t : Tag L) : yS P (some (.slice et)) (.os m sz i n) L t = (n ≤ 9223372036854775807 → L (.int .i64 n)) := rfl
@[go_sem] theorem aHU (et : TypeId) (t : Tag L) : yS P (some (.slice et)) .aV L t = L (.int .i64 0) := rfl
@[go_sem] theorem aHV (s : List UInt8) (t : Tag L) : yS P (some .str) (.str s) L t = (s.length ≤ 9223372036854775807 → L (.int .i64 s.length)) := rfl
@[go_sem] theorem aJ3 (cs : List aA) (i : Nat) (t : Tag L) : exF (.bY cs) i L t = bE cs[i]? L () := by
 simp only [exF, bE]; cases cs[i]? <;> rfl
@[go_sem] theorem aK3 (n sz i k : Nat) (t : Tag L) : ncF (.op n sz i k) L t = L (.op n sz i k) := rfl
@[go_sem] theorem aK4 (sz i k : Nat) (es : List (List aA)) (t : Tag L) : ncF (.ip sz es i k) L t = L (.ip sz es i k) := rfl
@[go_sem] theorem aHW (r : c8) (ps : List (Nat × aA)) (t : Tag L) : buF P (some r) ps L t = (l4 P r.d = true ∧ r.zero ≠ [] ∧ kU (places P r.d) r.zero.length ps = true ∧ L (.agg (qY (places P r.d) r.zero ps))) := rfl
theorem aA9 (ty : TypeId) (s : List UInt8) (lo hi : Option aA) (t : Tag L) : slF P ty (.str s) lo hi L t = (l7 P ty = some .str ∧ bE (cI 0 lo) (fun l => bE (cI s.length hi) (fun m => 0 ≤ l ∧ l ≤ m ∧ m ≤ s.length ∧ L (.str ((s.take m.toNat).drop l.toNat))) ()) ()) := by
 simp only [slF, cX, bE]
 cases cI 0 lo with
 |none => rfl
 |some l => simp only; cases cI s.length hi <;> rfl
attribute [go_sem] aA9
@[go_sem] theorem aK5 (ty : TypeId) (sz : Nat) (es : List (List aA)) (b : Bool) (lo hi : Option aA) (t : Tag L) : slF P ty (.sl sz es b) lo hi L t = bE (dM P ty) (fun re => re.sz = sz ∧ bE (cI 0 lo) (fun l => bE (cI es.length hi) (fun m => 0 ≤ l ∧ l ≤ m ∧ m ≤ es.length ∧ L (.sl sz ((es.take m.toNat).drop l.toNat) (b && decide (m = es.length)))) ()) ()) () := by
 simp only [slF, cX, bE]
 cases dM P ty with
 |none => rfl
 |some re =>
  simp only
  cases cI 0 lo with
  |none => rfl
  |some l => simp only; cases cI es.length hi <;> rfl
@[go_sem] theorem aK6 (ty : TypeId) (n sz i len : Nat) (lo hi : Option aA) (t : Tag L) : slF P ty (.os n sz i len) lo hi L t = bE (dM P ty) (fun re => re.sz = sz ∧ bE (cI 0 lo) (fun l => bE (cI len hi) (fun m => 0 ≤ l ∧ l < m ∧ m ≤ len ∧ L (.os n sz (i + l.toNat) (m.toNat - l.toNat))) ()) ()) () := by
 simp only [slF, cX, bE]
 cases dM P ty with
 |none => rfl
 |some re =>
  simp only
  cases cI 0 lo with
  |none => rfl
  |some l => simp only; cases cI len hi <;> rfl
@[go_sem] theorem aJ4 (ty : TypeId) (s : List UInt8) (lo hi : Option aA) (t : Tag L) : slD P ty (.str s) lo hi L t = slF P ty (.str s) lo hi L () := by cases hi <;> rfl
@[go_sem] theorem aK7 (ty : TypeId) (sz : Nat) (es : List (List aA)) (b : Bool) (lo hi : Option aA) (t : Tag L) : slD P ty (.sl sz es b) lo hi L t = slF P ty (.sl sz es b) lo hi L () := by cases hi <;> rfl
@[go_sem] theorem aK8 (ty : TypeId) (n sz i len : Nat) (lo : Option aA) (y : aA) (t : Tag L) : slD P ty (.os n sz i len) lo (some y) L t = slF P ty (.os n sz i len) lo (some y) L () := rfl
@[go_sem] theorem aJ5 (ty : TypeId) (n sz i len : Nat) (lo : Option aA) (t : Tag L) : slD P ty (.os n sz i len) lo none L t = bE (dM P ty) (fun re => re.sz = sz ∧ bE (cI 0 lo) (fun l => 0 ≤ l ∧ l ≤ len ∧ (l < len → L (.os n sz (i + l.toNat) (len - l.toNat))) ∧ (l = len → L (.os n sz (i + len) 0) ∧ L (.sl sz [] true))) ()) () := by
 simp only [slD, fF, bE]
 cases dM P ty with
 |none => rfl
 |some re =>
  simp only
  cases cI 0 lo <;> rfl
def vI (P : Program) (τ : aE) (h : Heap) (l : List ResultVar) (M : List aA → Prop) (_ : Tag M) : Prop := yH P τ h l M
@[go_sem] theorem aHX (τ : aE) (M : List aA → Prop) (t : Tag M) : vI P τ h [] M t = M [] := rfl
@[go_sem] theorem aHY (τ : aE) (s : Tmp) (l : List ResultVar) (M : List aA → Prop) (t : Tag M) : vI P τ h (.tmp s :: l) M t = vI P τ h l (fun vs => M (bG τ s :: vs)) () := rfl
@[go_sem] theorem aGF (τ : aE) (a : Tmp) (ty : TypeId) (l : List ResultVar) (M : List aA → Prop) (t : Tag M) : vI P τ h (.cell a ty :: l) M t = ldF (b3 P ty) (bG τ a) h (fun v => vI P τ h l (fun vs => M (v :: vs)) ()) () := rfl
def tQ (vs : List aA) (L : aA → Prop) (_ : Tag L) : Prop := match vs with | [v] => L v | vs => L (.bY vs)
@[go_sem] theorem aGG (t : Tag L) : tQ [] L t = L (.bY []) := rfl
@[go_sem] theorem aGH (v : aA) (t : Tag L) : tQ [v] L t = L v := rfl
@[go_sem] theorem aGI (v w : aA) (vs : List aA) (t : Tag L) : tQ (v :: w :: vs) L t = L (.bY (v :: w :: vs)) := rfl
end
def kK (P : Program) (rs : Array ResultVar) (K : aA → Heap → Prop) (_ : Tag K) : Exit → aE → Heap → Prop := oV P rs K
section
variable (P : Program) (rs : Array ResultVar) (K : aA → Heap → Prop) (τ : aE) (h : Heap)
@[go_sem] theorem aBA (t : Tag K) : kK P rs K t .normal τ h = vI P τ h rs.toList (fun vs => tQ vs (fun v => K v h) ()) () := rfl
@[go_sem] theorem aGJ (t : Tag K) : kK P rs K t .ret τ h = vI P τ h rs.toList (fun vs => tQ vs (fun v => K v h) ()) () := rfl
@[go_sem] theorem aDV (i : Nat) (t : Tag K) : kK P rs K t (.exit i) τ h = False := rfl
end
theorem dS {P : Program} {f : FuncId} {fn : Func} {c : Code} (N : Nat) (keep ib : List Nat) (mk : Marks) {args : List aA} {r : aA} (hmix : P.follows .mixedOrders = true) (hf : P.funcs[f]? = some fn) (hb : fn.body = some c)
  (hck : (dG P f && decide (fn.ntmps = N) && dK N mk c) = true) (hl : args.length ≤ N)
  (hw : ∀ h, iG P N keep ib mk c (fun τ h' => kK P fn.results (fun r' h' => r' = r ∧ h.le h') () .normal τ h') (kK P fn.results (fun r' h' => r' = r ∧ h.le h') ()) (kE 0 args) h ()) : dV P f args r :=
 aAV N keep ib mk hmix hf hb hck hl hw
theorem fV {P : Program} {N : Nat} {keep ib : List Nat} {mk : Marks} {c : Code} {Q : Exit → aE → Heap → Prop} {τ : aE} {h : Heap} {t : Tag (Code.loop c, Q)} {α : Type} (hmix : P.follows .mixedOrders = true) (hc : dK N mk c = true) (S : α → aE) (H : α → Heap) (side : α → Prop) (μ : α → Nat) (x₀ : α)
  (h₀ : fX (S x₀) τ ∧ (H x₀).le h ∧ side x₀)
  (round : ∀ x, side x → iG P N keep ib mk c (fun τ' h' => ∃ x', fX (S x') τ' ∧ (H x').le h' ∧ side x' ∧ μ x' < μ x) Q (S x) (H x) ()) : aG0 P N (.loop c) Q τ h t :=
 gD.fV S H side μ x₀ h₀ fun x hx => vG hmix c _ _ _ _ hc (round x hx)
set_option linter.unusedVariables false
set_option linter.unusedSimpArgs false
open Go.ChangeShapes Go.WideShapes
set_option linter.unusedVariables false
set_option linter.unusedSimpArgs false
def q8 (P : Program) : Nat → TypeId → List aA → Prop
 |0, _, _ => False
 |n + 1, t, xs =>
  match P.underlying t with
  |some .bool => ∃ b, xs = [.bool b]
  |some (.int k) => ∃ i, xs = [.int k i] ∧ (Lit.int k i).wf = true
  |some .string => ∃ s, xs = [.str s]
  |some (.slice e) => ∃ es, xs = [.sl (P.cellsOf e) es false] ∧ ∀ y ∈ es, q8 P n e y
  |some (.struct fs) => xs.length = P.cellsOf t ∧ ∀ (i : Nat) (f : Field), fs[i]? = some f → q8 P n f.type ((xs.drop f.offset).take (P.cellsOf f.type))
  | _ => False
def kL (P : Program) : List Field → Nat → Option Nat
 | [], o => some o
 |f :: fs, o => if f.offset = o then kL P fs (o + P.cellsOf f.type) else none
def xJ (P : Program) (T : List TypeId) : Bool := T.all fun t =>
 match P.underlying t with
 |some .bool | some (.int _) | some .string => P.cellsOf t == 1
 |some (.slice e) => P.cellsOf t == 1 && decide (0 < P.cellsOf e) && T.contains e
 |some (.struct fs) => (kL P fs.toList 0 == some (P.cellsOf t)) && fs.toList.all (fun f => T.contains f.type)
 | _ => false
theorem mB {P : Program} {T : List TypeId} (hT : xJ P T = true) : ∀ (n : Nat) (t : TypeId) (xs : List aA), t ∈ T → q8 P n t xs → xs.length = P.cellsOf t ∧ xs.all aA.flat = true
 |0, _, _, _, h => h.elim
 |n + 1, t, xs, ht, h => by
  have hd := List.all_eq_true.1 hT t ht
  unfold q8 at h
  split at h
  ·rename_i hu; rw [hu] at hd; obtain ⟨b, rfl⟩ := h; exact ⟨by simpa using (of_decide_eq_true hd).symm, rfl⟩
  ·rename_i hu; rw [hu] at hd; obtain ⟨i, rfl, _⟩ := h; exact ⟨by simpa using (of_decide_eq_true hd).symm, rfl⟩
  ·rename_i hu; rw [hu] at hd; obtain ⟨s, rfl⟩ := h; exact ⟨by simpa using (of_decide_eq_true hd).symm, rfl⟩
  ·rename_i e hu
   rw [hu] at hd; obtain ⟨es, rfl, _⟩ := h
   simp only [Bool.and_eq_true, beq_iff_eq] at hd
   exact ⟨by simp [hd.1.1], rfl⟩
  ·rename_i fs hu
   rw [hu] at hd
   obtain ⟨hl, hf⟩ := h
   refine ⟨hl, ?_⟩
   simp only [Bool.and_eq_true, beq_iff_eq, List.all_eq_true] at hd
   have key : ∀ (l : List Field) (o : Nat), (∀ f ∈ l, T.contains f.type = true ∧ q8 P n f.type ((xs.drop f.offset).take (P.cellsOf f.type))) → kL P l o = some (P.cellsOf t) → (xs.drop o).all aA.flat = true := by
    intro l
    induction l with
    |nil => intro o _ ho; simp only [kL, Option.some.injEq] at ho; rw [List.drop_eq_nil_of_le (by omega)]; rfl
    |cons f l ih =>
     intro o hl' ho
     simp only [kL] at ho
     split at ho
     ·rename_i e
      have h1 := hl' f List.mem_cons_self
      have h2 := (mB hT n _ _ (by simpa using h1.1) h1.2).2
      have h3 := ih _ (fun g hg => hl' g (List.mem_cons_of_mem _ hg)) ho
      rw [e] at h2
      rw [← List.take_append_drop (P.cellsOf f.type) (xs.drop o), List.all_append, h2, List.drop_drop, h3]; rfl
     ·cases ho
   have := key fs.toList 0 (fun f hf' => by
    obtain ⟨i, hi⟩ := List.getElem?_of_mem hf'
    exact ⟨hd.2 f hf', hf i f (by simpa using hi)⟩) hd.1
   simpa using this
  ·exact h.elim
section
variable {H : Type} {enc : TypeId × Value → H} {P : Program} {w : World} {base : Nat} {sp : Nat → Bool} {held : Bool}
theorem mW {E : Env} {h : Heap} {xs : List aA} {vs : List Value} (hr : aP E h w xs vs) (hf : xs.all aA.flat = true) (j : Nat) (v : Value) (hv : vs[j]? = some v) : v.oneCell' = true := by
 obtain ⟨hj, _⟩ := List.getElem?_eq_some_iff.1 hv
 have hl := hr.length
 have hx : xs[j]? = some xs[j] := List.getElem?_eq_getElem (by omega)
 exact (aZ.eQ (hr.get j _ _ hx hv) (List.all_eq_true.1 hf _ (List.mem_of_getElem? hx))).1
theorem pE {T : List TypeId} (hT : xJ P T = true) {E : Env} {h : Heap} (hI : ∀ b, b < w.heap.size → e8 E h w b) :
  ∀ (n : Nat) (t : TypeId) (cs : List Value) (x : DataW H × List MemPlace), t ∈ T → DataW.trod enc P w base sp held n t cs = some x → ∃ xs, q8 P n t xs ∧ aP E h w xs cs
 |0, t, cs, x, _, hx => by simp [DataW.trod] at hx
 |n + 1, t, cs, x, ht, hx => by
  have hd := List.all_eq_true.1 hT t ht
  match hu : P.underlying t with
  |some .bool =>
   obtain ⟨b, rfl, _⟩ := DataW.trod_bool hu hx
   exact ⟨[.bool b], by simp only [q8, hu]; exact ⟨b, rfl⟩, ⟨.bool b, trivial⟩⟩
  |some (.int k) =>
   obtain ⟨i, rfl, _, hw⟩ := DataW.trod_int hu hx
   exact ⟨[.int k i], by simp only [q8, hu]; exact ⟨i, rfl, hw⟩, ⟨.int k i, trivial⟩⟩
  |some .string =>
   obtain ⟨s, rfl, _, hs⟩ := DataW.trod_string hu hx
   refine ⟨[.str s.data.toList], by simp only [q8, hu]; exact ⟨_, rfl⟩, ⟨?_, trivial⟩⟩
   have : s = ⟨s.data.toList.toArray⟩ := by cases s; simp
   rw [this]
   exact .str _ (by simpa using hs)
  |some (.slice e) =>
   rw [hu] at hd
   simp only [Bool.and_eq_true, beq_iff_eq, decide_eq_true_eq, List.contains_iff_mem] at hd
   rcases DataW.trod_slice hu hx with ⟨rfl, _⟩ | ⟨a, len, cap, elems, rest, m, hm, rfl, _, hb, hlc, hmax, hel, hcell, _, _⟩
   ·exact ⟨[.sl (P.cellsOf e) [] false], by simp only [q8, hu]; exact ⟨[], rfl, by simp⟩, ⟨.k6 _ _ _ _ (fun e => by simp at e) (by simp) trivial, trivial⟩⟩
   ·obtain rfl : n = m := by omega

    have each : ∀ i, i < len → ∃ ys vs, q8 P n e ys ∧ aP E h w ys vs ∧ w.cells? base (a.add (i * P.cellsOf e)) (P.cellsOf e) = some vs := by
     intro i hi
     have h1 := hcell i hi
     have hi' : i < elems.length := by omega
     rw [List.getElem?_eq_getElem hi'] at h1
     simp only [Option.bind_eq_some_iff] at h1
     obtain ⟨vs, h2, h3⟩ := h1
     obtain ⟨ys, h4, h5⟩ := pE hT hI n e vs _ hd.2 h3
     exact ⟨ys, vs, h4, h5, h2⟩
    let ys : Nat → List aA := fun i => if hi : i < len then Classical.choose (each i hi) else []
    have hys : ∀ i, i < len → ∃ vs, q8 P n e (ys i) ∧ aP E h w (ys i) vs ∧ w.cells? base (a.add (i * P.cellsOf e)) (P.cellsOf e) = some vs := by
     intro i hi
     have := Classical.choose_spec (each i hi)
     simpa only [ys, dif_pos hi] using this
    by_cases h0 : len = 0
    ·subst h0
     exact ⟨[.sl (P.cellsOf e) [] false], by simp only [q8, hu]; exact ⟨[], rfl, by simp⟩, ⟨.k6 _ _ _ _ (fun e => by simp at e) hmax trivial, trivial⟩⟩
    have hpos : 0 < P.cellsOf e := hd.1.2

    obtain ⟨b, o, spot⟩ := a
    obtain ⟨vs0, _, _, xK⟩ := hys 0 (by omega)
    have aLA := World.cells?_some xK
    have hz : w.cell? ((Addr.add ⟨b, o, spot⟩ (0 * P.cellsOf e)).add 0) = vs0[0]? := aLA.2.2 0 hpos
    have hv0 : vs0[0]? = some vs0[0] := List.getElem?_eq_getElem (by omega)
    rw [hv0] at hz
    have hspot : spot = none := by
     have := World.cell?_spot hz
     simpa [Addr.add] using this
    subst hspot
    have hblt : b < w.heap.size := by
     have := World.cells?_block xK hpos
     simpa [Addr.add] using this
    have hmap : ∀ i, i < len → ((List.range len).map ys)[i]? = some (ys i) := fun i hi => by simp [hi]
    refine ⟨[.sl (P.cellsOf e) ((List.range len).map ys) false], ?_, ⟨?_, trivial⟩⟩
    ·simp only [q8, hu]
     refine ⟨_, rfl, fun y hy => ?_⟩
     simp only [List.mem_map, List.mem_range] at hy
     obtain ⟨i, hi, rfl⟩ := hy
     obtain ⟨vs, h1, _⟩ := hys i hi
     exact h1
    ·have hlen : len = ((List.range len).map ys).length := by simp
     have cells : ∀ i j x, b9 ((List.range len).map ys) i j = some x → ∃ v, w.cell? ⟨b, o + i * P.cellsOf e + j, none⟩ = some v ∧ v.oneCell' = true ∧ aZ E h w x v := by
      intro i j x hx
      have hi : i < len := by have := x5 hx; simpa using this
      obtain ⟨y, hy, hj⟩ := dF hx
      rw [hmap i hi] at hy
      obtain rfl := Option.some.inj hy
      obtain ⟨vs, h1, h2, h3⟩ := hys i hi
      have hone := mB hT n e _ hd.2 h1
      have hjl : j < (ys i).length := (List.getElem?_eq_some_iff.1 hj).1
      have h4 := World.cells?_some h3
      have hjv : j < vs.length := by rw [h2.length] at hjl; exact hjl
      have hv : vs[j]? = some vs[j] := List.getElem?_eq_getElem hjv
      refine ⟨vs[j], ?_, mW h2 hone.2 j _ hv, h2.get j x _ hj hv⟩
      have h5 := h4.2.2 j (by omega)
      rw [hv] at h5
      rw [← h5]
      rw [addr_add, addr_add]
     have cellsC : ∀ i j, ∃ v, ∀ x, b9 ((List.range len).map ys) i j = some x → w.cell? ⟨b, o + i * P.cellsOf e + j, none⟩ = some v ∧ v.oneCell' = true ∧ aZ E h w x v := by
      intro i j
      match hx : b9 ((List.range len).map ys) i j with
      |none => exact ⟨.bool true, fun x h => by simp at h⟩
      |some x =>
       obtain ⟨v, h1⟩ := cells i j x hx
       exact ⟨v, fun y hy => by obtain rfl := Option.some.inj hy; exact h1⟩
     let cv : Nat → Nat → Value := fun i j => Classical.choose (cellsC i j)
     have hcv : ∀ i j x, b9 ((List.range len).map ys) i j = some x → w.cell? ⟨b, o + i * P.cellsOf e + j, none⟩ = some (cv i j) ∧ (cv i j).oneCell' = true ∧ aZ E h w x (cv i j) := fun i j => Classical.choose_spec (cellsC i j)
     have := aZ.sl (E := E) (h := h) (w := w) (P.cellsOf e) ((List.range len).map ys) false b o cap cv (hI b hblt) (by simpa using hlc) hmax (fun e => by simp at e)
      (fun y hy => by
       simp only [List.mem_map, List.mem_range] at hy
       obtain ⟨i, hi, rfl⟩ := hy
       obtain ⟨vs, h1, _⟩ := hys i hi
       exact (mB hT n e _ hd.2 h1).1)
      (fun i j x hx => (hcv i j x hx).1) (fun i j x hx => (hcv i j x hx).2.1) (fun i j x hx => (hcv i j x hx).2.2)
     rw [← hlen] at this
     exact this
  |some (.struct fs) =>
   rw [hu] at hd
   simp only [Bool.and_eq_true, beq_iff_eq, List.all_eq_true] at hd
   obtain ⟨xs, m, hm, rfl, hl, hfl, hf⟩ := DataW.trod_struct hu hx
   obtain rfl : n = m := by omega

   have key : ∀ (l : List Field) (o : Nat), (∀ f ∈ l, T.contains f.type = true ∧ ∃ y, DataW.trod enc P w base sp held n f.type ((cs.drop f.offset).take (P.cellsOf f.type)) = some y) → kL P l o = some (P.cellsOf t) →
     ∃ ys, aP E h w ys (cs.drop o) ∧ ∀ f ∈ l, o ≤ f.offset ∧ q8 P n f.type ((ys.drop (f.offset - o)).take (P.cellsOf f.type)) := by
    intro l
    induction l with
    |nil =>
     intro o _ ho
     simp only [kL, Option.some.injEq] at ho
     rw [List.drop_eq_nil_of_le (by omega)]
     exact ⟨[], trivial, fun f hf => by simp at hf⟩
    |cons f l ih =>
     intro o hl' ho
     simp only [kL] at ho
     split at ho
     ·rename_i e
      obtain ⟨hc, y, hy⟩ := hl' f List.mem_cons_self
      obtain ⟨zs, hz1, hz2⟩ := pE hT hI n f.type _ y (by simpa using hc) hy
      obtain ⟨ys, hy1, hy2⟩ := ih _ (fun g hg => hl' g (List.mem_cons_of_mem _ hg)) ho
      have hzl := (mB hT n _ _ (by simpa using hc) hz1).1
      rw [e] at hz2
      have hjoin : aP E h w (zs ++ ys) (cs.drop o) := by
       have := aP.append hz2 hy1
       rw [← List.take_append_drop (P.cellsOf f.type) (cs.drop o), List.drop_drop]
       exact this
      refine ⟨zs ++ ys, hjoin, fun g hg => ?_⟩
      rcases List.mem_cons.1 hg with rfl | hg
      ·refine ⟨by omega, ?_⟩
       rw [e, Nat.sub_self, List.drop_zero, List.take_append_of_le_length (by omega), List.take_of_length_le (by omega)]
       exact hz1
      ·obtain ⟨h1, h2⟩ := hy2 g hg
       refine ⟨by omega, ?_⟩
       rw [List.drop_append, hzl, List.drop_eq_nil_of_le (by omega), List.nil_append, show g.offset - o - P.cellsOf f.type = g.offset - (o + P.cellsOf f.type) by omega]
       exact h2
     ·cases ho
   obtain ⟨ys, h1, h2⟩ := key fs.toList 0 (fun f hf' => by
    obtain ⟨i, hi⟩ := List.getElem?_of_mem hf'
    have hi' : fs[i]? = some f := by simpa using hi
    refine ⟨hd.2 f hf', ?_⟩
    have := hf i f hi'
    have hil : i < xs.length := by rw [hfl]; exact (Array.getElem?_eq_some_iff.1 hi').1
    rw [List.getElem?_eq_getElem hil] at this
    exact ⟨_, this⟩) hd.1
   rw [List.drop_zero] at h1
   refine ⟨ys, ?_, h1⟩
   simp only [q8, hu]
   refine ⟨h1.length.trans hl, fun i f hf' => ?_⟩
   have := h2 f (by have := Array.mem_of_getElem? hf'; simpa using this)
   simpa using this.2
  |none | some .invalid | some (.float _) | some (.complex _) | some .unsafePointer | some (.named ..) | some (.pointer _) | some (.array ..) | some (.map ..) | some (.func ..) | some (.interface _) | some (.chan ..) | some (.tuple _) => all_goals (rw [hu] at hd; simp at hd)
end
open Go.ChangeShapes Go.WideShapes
set_option linter.unusedVariables false
set_option linter.unusedSimpArgs false
def tR (P : Program) (n : Nat) (t : TypeId) (x : aA) : Prop :=
 match P.underlying t with
 |some (.struct _) => ∃ ys, x = .agg ys ∧ q8 P n t ys
 | _ => q8 P n t [x]
def tS (P : Program) : List TypeId → List aA → Prop
 | [], [] => True
 |t :: ts, x :: xs => (∃ n, tR P n t x) ∧ tS P ts xs
 | _, _ => False
section
variable {H : Type} {enc : TypeId × Value → H} {P : Program} {w : World} {base : Nat} {sp : Nat → Bool} {held : Bool}
theorem yV {T : List TypeId} (hT : xJ P T = true) {E : Env} {h : Heap} (hI : ∀ b, b < w.heap.size → e8 E h w b) {t : TypeId} (ht : t ∈ T) {v : Value} {d : DataW H} {ps : List MemPlace}
  (hok : Value.okWide P w .any base t v) (hr : DataW.Trod enc P w 0 sp held t v d ps) : ∃ x n, tR P n t x ∧ aZ E h w x v := by
 obtain ⟨n, hr⟩ := hr
 obtain ⟨xs, h1, h2⟩ := pE hT hI n t _ _ ht hr
 have hd := List.all_eq_true.1 hT t ht
 match hu : P.underlying t with
 |some (.struct fs) =>
  obtain ⟨cs, rfl, _⟩ := okWide_struct hu hok
  exact ⟨.agg xs, n, by simp only [tR, hu]; exact ⟨xs, rfl, h1⟩, .agg xs cs.toList h2.length h2.get⟩
 |some .bool =>
  obtain ⟨b, rfl⟩ := okWide_bool hu hok
  have hone := mB hT n t xs ht h1
  match xs, h2 with
  | [x], h2 => exact ⟨x, n, by simp only [tR, hu]; exact h1, by simpa [Value.cells] using h2.1⟩
  | [], h2 => exact h2.elim
  | _ :: _ :: _, h2 => exact h2.2.elim
 |some (.int k) =>
  obtain ⟨b, rfl⟩ := okWide_int hu hok
  match xs, h2 with
  | [x], h2 => exact ⟨x, n, by simp only [tR, hu]; exact h1, by simpa [Value.cells] using h2.1⟩
  | [], h2 => exact h2.elim
  | _ :: _ :: _, h2 => exact h2.2.elim
 |some .string =>
  obtain ⟨b, rfl⟩ := okWide_string hu hok
  match xs, h2 with
  | [x], h2 => exact ⟨x, n, by simp only [tR, hu]; exact h1, by simpa [Value.cells] using h2.1⟩
  | [], h2 => exact h2.elim
  | _ :: _ :: _, h2 => exact h2.2.elim
 |some (.slice e) =>
  obtain ⟨a, len, cap, rfl⟩ := okWide_slice hu hok
  match xs, h2 with
  | [x], h2 => exact ⟨x, n, by simp only [tR, hu]; exact h1, by simpa [Value.cells] using h2.1⟩
  | [], h2 => exact h2.elim
  | _ :: _ :: _, h2 => exact h2.2.elim
 |none | some .invalid | some (.float _) | some (.complex _) | some .unsafePointer | some (.named ..) | some (.pointer _) | some (.array ..) | some (.map ..) | some (.func ..) | some (.interface _) | some (.chan ..) | some (.tuple _) => all_goals (rw [hu] at hd; simp at hd)
theorem q9 {T : List TypeId} (hT : xJ P T = true) {E : Env} {h : Heap} (hI : ∀ b, b < w.heap.size → e8 E h w b) : ∀ {ts : List TypeId} {vs : List Value} {ds : List (DataW H)} {ps : List MemPlace},
  (∀ t ∈ ts, t ∈ T) → (∀ (j : Nat) t v, ts[j]? = some t → vs[j]? = some v → Value.okWide P w .any base t v) → DataW.TrodAll enc P w 0 sp held ts vs ds ps → ∃ xs, tS P ts xs ∧ aP E h w xs vs ∧ ds.length = ts.length
 | [], [], [], _, _, _, _ => ⟨[], trivial, trivial, rfl⟩
 |t :: ts, v :: vs, d :: ds, _, ht, hok, ⟨p, q, h1, h2, _⟩ => by
  obtain ⟨x, n, h3, h4⟩ := yV hT hI (ht t List.mem_cons_self) (hok 0 t v rfl rfl) h1
  obtain ⟨xs, h5, h6, h7⟩ := q9 hT hI (fun t' h' => ht t' (List.mem_cons_of_mem _ h')) (fun j t' v' a b => hok (j + 1) t' v' (by simpa using a) (by simpa using b)) h2
  exact ⟨x :: xs, ⟨⟨n, h3⟩, h5⟩, ⟨h4, h6⟩, by simp [h7]⟩
 | [], _ :: _, _, _, _, _, h => by cases ‹List (DataW H)› <;> exact h.elim
 | [], [], _ :: _, _, _, _, h => h.elim
 | _ :: _, [], _, _, _, _, h => by cases ‹List (DataW H)› <;> exact h.elim
 | _ :: _, _ :: _, [], _, _, _, h => h.elim
end
theorem lA {H : Type} {enc : TypeId × Value → H} {P : Program} {w w' : World} {base : Nat} {sp : Nat → Bool} {held : Bool} : ∀ {ts : List TypeId} {vs : List Value} {ds : List (DataW H)} {ps : List MemPlace},
  DataW.TrodAll enc P w base sp held ts vs ds ps → (∀ p ∈ ps, w.sameAt w' p) → DataW.TrodAll enc P w' base sp held ts vs ds ps
 | [], [], [], _, h, _ => h
 | _ :: _, _ :: _, _ :: _, _, ⟨p, q, ⟨n, h1⟩, h2, e⟩, hs => ⟨p, q, ⟨n, DataW.trod_carry n _ _ _ h1 (fun x hx => hs x (by rw [e]; exact List.mem_append_left _ hx))⟩, lA h2 (fun x hx => hs x (by rw [e]; exact List.mem_append_right _ hx)), e⟩
 | [], _ :: _, _, _, h, _ => by cases ‹List (DataW H)› <;> exact h.elim
 | [], [], _ :: _, _, h, _ => h.elim
 | _ :: _, [], _, _, h, _ => by cases ‹List (DataW H)› <;> exact h.elim
 | _ :: _, _ :: _, [], _, h, _ => h.elim
theorem pF {w w' : World} {p : MemPlace} (h : w'.heap[p.block]? = w.heap[p.block]?) : w.sameAt w' p := by
 cases p with
 |cell b o => exact iC h o none
 |map b => exact h
theorem yW {H : Type} {enc : TypeId × Value → H} {P : Program} (lo : laidOutB P = true) (mr : mapsRowed P = true)
  (hz : ((List.range P.types.size).all fun t => match P.underlying t with | some (.slice e) => decide (0 < P.cellsOf e) | _ => true) = true)
  {fn : Func} (hT : fn.params.all (fun t => decide (t < P.types.size)) = true) {s : ChangeSpec} (hsv : s.vars = []) (hs : ∀ ds : List (DataW H), ds.length = fn.params.size → s.fn H ds = { results := [.lit (.bool true)], args := ds })
  {tb : TypeId} (hr : fn.resultTypes = #[tb]) (htb : P.underlying tb = some .bool) {W W' : World} {args : Array Value} {ds gs : List (DataW H)} {before : List MemPlace}
  (hW : DataW.Whole enc P fn.params.toList s.vars false W args.toList ds gs before) (hl : ds.length = fn.params.size)
  (hheap : ∀ b, b < W.heap.size → W'.heap[b]? = W.heap[b]?) (hos : W'.os = W.os) (hout : W'.output = W.output) :
  s.post enc P fn false true false false W args (.bool true) W' := by
 have hlt := hW.lt
 have hW0 := hW
 obtain ⟨p, q, hA, hV, rfl, hfz, _⟩ := hW
 rw [hsv] at hV
 have hgs : gs = [] ∧ q = [] := by
  match gs, hV with
  | [], h => exact ⟨rfl, h⟩
 obtain ⟨rfl, rfl⟩ := hgs
 rw [List.append_nil] at hlt hfz hW0
 have e : s.fn H (ds ++ []) = { results := [.lit (.bool true)], args := ds } := by rw [List.append_nil]; exact hs ds hl
 refine ⟨ds, [], p, [], p, [], hW0, ?_, ?_, ?_, ?_, fun h => by simp at h⟩
 ·rw [e]
  simp only [hr]
  refine ⟨[], [], ⟨1, ?_⟩, rfl, rfl⟩
  simp [DataW.trod, htb, Value.cells]
 ·rw [e]
  have h1 : DataW.TrodAll enc P W' 0 (fun _ => true) true fn.params.toList args.toList ds p := lA hA fun x hx => pF (hheap _ (hlt x hx))
  refine DataW.TrodAll.respare (kids_rows lo mr) (fun t e ht hu => slices_full_of P hz t e ht hu) (fun t ht => ?_) h1 (fun x hx => by simpa using hlt x hx)
  have := Array.all_eq_true_iff_forall_mem.1 hT t (by simpa using ht)
  simpa using this
 ·rw [e, hsv]; exact rfl
 ·refine ⟨hos, hout, fun i hi => ?_⟩
  rw [hheap i hi]
  have hi' : W.heap[i]? = some W.heap[i] := Array.getElem?_eq_getElem hi
  rw [hi']
  cases W.heap[i] with
  |cells c t fr => exact ⟨rfl, rfl, rfl, fun _ _ => rfl⟩
  |map es clock => exact .inr ⟨rfl, rfl⟩
  | _ => rfl
def gQ : Heap := fun _ => none
def tT : Env where
 loc := fun _ => none
 fp := fun _ _ => False
 used := fun _ => False
theorem yX (w : World) (hl : LaidIn tT gQ w) : Rel tT gQ w where
 fin := ⟨0, fun n _ h => h⟩
 nC := fun n h => absurd rfl h
 lt := fun n o b h => by simp [gQ] at h
 apart := fun n o m o' b h => by simp [gQ] at h
 obj := fun n o h => by simp [gQ] at h
 laid := hl
theorem pG {w : World} {b : Nat} (hb : b < w.heap.size) : e8 tT gQ w b := ⟨hb, fun n o h => by simp [gQ] at h⟩
set_option linter.unusedVariables false
set_option linter.unusedSimpArgs false
def b5 (P : Program) (f : FuncId) (args : List aA) (r : aA) (h0 : Heap) : Prop := ∀ h : Heap, h0.le h → gC P f args h fun r' h' => r' = r ∧ h' = h
theorem dV.aBB {P : Program} {f : FuncId} {args : List aA} {r : aA} {h0 : Heap} (a : dV P f args r) : b5 P f args r h0 := fun h _ => a h
theorem b5.mono {P : Program} {f : FuncId} {args : List aA} {r : aA} {h0 h1 : Heap} (hl : h0.le h1) (a : b5 P f args r h0) : b5 P f args r h1 := fun h q => a h (Heap.le_trans hl q)
theorem aI.cJ {P : Program} {g : FuncId} {args : List aA} {h : Heap} {K : aA → Heap → Prop} {t : Tag K} {r : aA} (a : b5 P g args r h) (k : K r h) : aI P g args h K t :=
 gC.mono (a h (Heap.le_refl h)) fun _ _ ⟨e, e'⟩ => e ▸ e' ▸ k
theorem aI.mkH {P : Program} {g : FuncId} {args : List aA} {h : Heap} {K K' : aA → Heap → Prop} {t : Tag K} (a : gC P g args h K') (k : ∀ r h', K' r h' → K r h') : aI P g args h K t := gC.mono a k
theorem xL {P : Program} {f : FuncId} {fn : Func} {c : Code} (N : Nat) (keep ib : List Nat) (mk : Marks) {args : List aA} {h : Heap} {K : aA → Heap → Prop} (hmix : P.follows .mixedOrders = true) (hf : P.funcs[f]? = some fn) (hb : fn.body = some c)
  (hck : (dG P f && decide (fn.ntmps = N) && dK N mk c) = true) (hl : args.length ≤ N)
  (hw : iG P N keep ib mk c (fun τ h' => kK P fn.results (fun r h' => ∃ g : Heap, g.le h' ∧ K r g) () .normal τ h') (kK P fn.results (fun r h' => ∃ g : Heap, g.le h' ∧ K r g) ()) (kE 0 args) h ()) : gC P f args h K :=
 vD N keep ib mk hmix hf hb hck hl (K' := fun r h' => ∃ g : Heap, g.le h' ∧ K r g) hw fun _ _ hx => hx
theorem aCN {P : Program} {f : FuncId} {fn : Func} {c : Code} (N : Nat) (keep ib : List Nat) (mk : Marks) {args : List aA} {r : aA} {h0 : Heap} (hmix : P.follows .mixedOrders = true) (hf : P.funcs[f]? = some fn) (hb : fn.body = some c)
  (hck : (dG P f && decide (fn.ntmps = N) && dK N mk c) = true) (hl : args.length ≤ N)
  (hw : ∀ h : Heap, h0.le h → iG P N keep ib mk c (fun τ h' => kK P fn.results (fun r' h' => r' = r ∧ h.le h') () .normal τ h') (kK P fn.results (fun r' h' => r' = r ∧ h.le h') ()) (kE 0 args) h ()) : b5 P f args r h0 :=
 fun h hle => vD N keep ib mk hmix hf hb hck hl (K' := fun r' h' => r' = r ∧ h.le h') (hw h hle) fun _ _ hx => ⟨h, hx.2, hx.1, rfl⟩
end Go.Hl

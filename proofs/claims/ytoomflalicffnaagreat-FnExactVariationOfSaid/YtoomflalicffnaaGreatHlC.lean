/-
  Contracts of functions and laws of the layer over the walk.
-/
import Derived.Test.YtoomflalicffnaaGreatHlB
import Derived.ReadAgain
import Derived.ChangeArms
import Derived.ChangeSame
import Derived.Handed
import Derived.JoinedOf
namespace Go.Hl
attribute [go_sem] List.nil_append List.cons_append
theorem nn (n : Nat) : (0 ≤ (n : Int)) = True := by simp
attribute [go_sem] aVX qX yA u3 a02 pP o6 u6 aCQ tA aI9 p3 nU ld aAY uY mD jY uJ qQ pG o8 bJ eY p6 aD.ofValue aD.m6 k6 Hl.prune b8 iF
 aH b9 nn bF
attribute [go_sem] Call.operands Array.toList_append Option.map List.map Option.bind List.contains List.elem List.filterMap Op.operands Option.toList Array.size List.all List.set
attribute [go_sem] if_true if_false Option.bind_some Option.bind_none List.toList_toArray List.getElem?_toArray List.getElem?_cons_zero List.getElem?_cons_succ true_and and_true forall_const Bool.true_eq_false Bool.false_eq_true false_implies implies_true decide_true decide_false List.length_map BEq.rfl List.append_nil List.getElem?_map Int.toNat_natCast Bool.not_eq_true' Bool.not_eq_false' decide_eq_true_eq decide_eq_false_iff_not Int.natCast_inj Int.ofNat_lt Int.ofNat_le Bool.not_true Bool.not_false aD.int.injEq aD.bool.injEq aB.le_refl
attribute [go_sem] ne_eq Bool.and_self Bool.true_and Bool.and_true Bool.false_and Bool.and_false Int.reduceLT Int.reduceNeg Int.reduceLE Int.reduceEq Nat.reduceLeDiff Nat.reduceSub Nat.reduceMul Nat.zero_add Nat.add_zero List.length_cons List.length_nil List.drop_zero List.take_zero List.take_nil List.drop_nil List.take_succ_cons List.drop_succ_cons List.replicate List.map_nil List.map_cons List.length_map not_true_eq_false not_false_eq_true true_implies decide_not ite_not
attribute [go_sem] Bool.true_or Bool.false_or Bool.or_true Bool.or_false Nat.reduceAdd Nat.reduceEqDiff Nat.reduceBEq reduceCtorEq
@[go_sem] theorem a35  : aD.cells (aD.any) = [(aD.any)] := rfl
@[go_sem] theorem a50  : aD.flat (aD.any) = false := rfl
@[go_sem] theorem a1B (b : Bool) : aD.cells (aD.bool b) = [(aD.bool b)] := rfl
@[go_sem] theorem a36 (b : Bool) : aD.flat (aD.bool b) = true := rfl
@[go_sem] theorem a37 (k : IntKind) (n : Int) : aD.cells (aD.int k n) = [(aD.int k n)] := rfl
@[go_sem] theorem a51 (k : IntKind) (n : Int) : aD.flat (aD.int k n) = true := rfl
@[go_sem] theorem a38 (s : List UInt8) : aD.cells (aD.str s) = [(aD.str s)] := rfl
@[go_sem] theorem a52 (s : List UInt8) : aD.flat (aD.str s) = true := rfl
@[go_sem] theorem aV3  : aD.cells (aD.iE) = [(aD.iE)] := rfl
@[go_sem] theorem aYX  : aD.flat (aD.iE) = true := rfl
@[go_sem] theorem aYY  : aD.cells (aD.bO) = [(aD.bO)] := rfl
@[go_sem] theorem a1C  : aD.flat (aD.bO) = true := rfl
@[go_sem] theorem aYZ  : aD.cells (aD.pE) = [(aD.pE)] := rfl
@[go_sem] theorem a1D  : aD.flat (aD.pE) = true := rfl
@[go_sem] theorem aY0  : aD.cells (aD.j6) = [(aD.j6)] := rfl
@[go_sem] theorem a1E  : aD.flat (aD.j6) = true := rfl
@[go_sem] theorem aV4  : aD.cells (aD.lW) = [(aD.lW)] := rfl
@[go_sem] theorem aY1  : aD.flat (aD.lW) = true := rfl
@[go_sem] theorem a53 (sz : Nat) (es : List (List aD)) (b : Bool) : aD.cells (aD.sl sz es b) = [(aD.sl sz es b)] := rfl
@[go_sem] theorem a9M (sz : Nat) (es : List (List aD)) (b : Bool) : aD.flat (aD.sl sz es b) = true := rfl
@[go_sem] theorem a54 (sz : Nat) (es : List (List aD)) (i o : Nat) : aD.cells (aD.ip sz es i o) = [(aD.ip sz es i o)] := rfl
@[go_sem] theorem a9N (sz : Nat) (es : List (List aD)) (i o : Nat) : aD.flat (aD.ip sz es i o) = true := rfl
@[go_sem] theorem a55 (n sz i l : Nat) : aD.cells (aD.os n sz i l) = [(aD.os n sz i l)] := rfl
@[go_sem] theorem a9O (n sz i l : Nat) : aD.flat (aD.os n sz i l) = true := rfl
@[go_sem] theorem a56 (n sz i l : Nat) : aD.cells (aD.op n sz i l) = [(aD.op n sz i l)] := rfl
@[go_sem] theorem a9P (n sz i l : Nat) : aD.flat (aD.op n sz i l) = true := rfl
@[go_sem] theorem a39 (cs : List aD) : aD.cells (aD.gN cs) = [(aD.gN cs)] := rfl
@[go_sem] theorem a57 (cs : List aD) : aD.flat (aD.gN cs) = false := rfl
@[go_sem] theorem a58 (f : Fn) (a b : List aD) : aD.cells (aD.fn f a b) = [(aD.fn f a b)] := rfl
@[go_sem] theorem a9Q (f : Fn) (a b : List aD) : aD.flat (aD.fn f a b) = true := rfl
@[go_sem] theorem aY2 (t : TypeId) (v : aD) : aD.cells (aD.iface t v) = [(aD.iface t v)] := rfl
@[go_sem] theorem a1F (t : TypeId) (v : aD) : aD.flat (aD.iface t v) = true := rfl
@[go_sem] theorem a59 (n : Nat) : aD.cells (aD.mp n) = [(aD.mp n)] := rfl
@[go_sem] theorem a9R (n : Nat) : aD.flat (aD.mp n) = true := rfl
@[go_sem] theorem a4A (cs : List aD) : aD.cells (.agg cs) = cs := rfl
@[go_sem] theorem a6A (cs : List aD) : aD.flat (.agg cs) = false := rfl
@[go_sem] theorem a1G : maxLen = 9223372036854775807 := rfl
set_option linter.unusedVariables false
set_option linter.unusedSimpArgs false
def Sub (x y : aD) : Prop := ∀ E h w v, dY E h w x v → dY E h w y v
theorem Sub.refl (x : aD) : Sub x x := fun _ _ _ _ r => r
theorem Sub.trans {x y z : aD} (a : Sub x y) (b : Sub y z) : Sub x z := fun E h w v r => b E h w v (a E h w v r)
theorem Sub.any (x : aD) : Sub x .any := fun _ _ _ v _ => .any v
theorem Sub.nil (sz : Nat) (t : Bool) : Sub .bO (.sl sz [] t) := fun E h w v r => by
 cases r
 exact .wW sz t none 0 (fun _ => rfl) (by simp [maxLen]) trivial
theorem Sub.loose (sz : Nat) (es : List (List aD)) (t : Bool) : Sub (.sl sz es t) (.sl sz es false) := fun E h w v r => by
 cases r with
 |wW _ _ a cap ht hmax ha => exact .wW sz false _ _ (fun e => by simp at e) hmax ha
 |sl _ _ _ b o cap cv hi hcap hmax ht hs hc h1 hr => exact .sl sz es false b o _ cv hi hcap hmax (fun e => by simp at e) hs hc h1 hr
def fH (xs ys : List aD) : Prop := xs.length = ys.length ∧ ∀ (i : Nat) (x y : aD), xs[i]? = some x → ys[i]? = some y → Sub x y
theorem fH.nil : fH [] [] := ⟨rfl, fun i x y hx => by simp at hx⟩
theorem fH.cons {x y : aD} {xs ys : List aD} (a : Sub x y) (b : fH xs ys) : fH (x :: xs) (y :: ys) :=
 ⟨by simp [b.1], fun i u v hu hv => by
  cases i with
  |zero => simp at hu hv; subst hu; subst hv; exact a
  |succ i => exact b.2 i u v (by simpa using hu) (by simpa using hv)⟩
theorem fH.aJQ {E : Env} {h : aB} {w : World} : ∀ {xs ys : List aD} {vs : List Value}, fH xs ys → cX E h w xs vs → cX E h w ys vs
 | [], [], _, _, r => r
 | [], _ :: _, _, s, _ => by have := s.1; simp at this
 | _ :: _, [], _, s, _ => by have := s.1; simp at this
 |x :: xs, y :: ys, [], s, r => r.elim
 |x :: xs, y :: ys, v :: vs, s, r => ⟨s.2 0 x y rfl rfl E h w v r.1, fH.aJQ (xs := xs) (ys := ys) ⟨by have := s.1; simpa using this, fun i u v hu hv => s.2 (i + 1) u v (by simpa using hu) (by simpa using hv)⟩ r.2⟩
theorem Sub.agg {xs ys : List aD} (s : fH xs ys) : Sub (.agg xs) (.agg ys) := fun E h w v r => by
 cases r with
 |agg _ vs hl hr =>
  have := s.aJQ (cX.mk hl hr)
  exact .agg _ _ this.length this.get
theorem Sub.gN {xs ys : List aD} (s : fH xs ys) : Sub (.gN xs) (.gN ys) := fun E h w v r => by
 cases r with
 |gN _ vs hl hr =>
  have := s.aJQ (cX.mk hl hr)
  exact .gN _ _ this.length this.get
theorem eH.sub {P : Program} {f : FuncId} {xs ys : List aD} {h : aB} {K : aD → aB → Prop} (s : fH xs ys) (a : eH P f ys h K) : eH P f xs h K :=
 ⟨a.1, fun E w vs R hL => a.2 E w vs R (s.aJQ hL)⟩
theorem dV.sub {P : Program} {f : FuncId} {xs ys : List aD} {r : aD} (s : fH xs ys) (a : dV P f ys r) : dV P f xs r := fun h => (a h).sub s
def Shift (r' : aD) (h' : aB) (r : aD) (h : aB) : Prop :=
 ∀ E w v, Rel E h' w → dY E h' w r' v → ∃ E', Ev E h' w E' h w ∧ Rel E' h w ∧ dY E' h w r v
theorem Shift.of {r' r : aD} {h' h : aB} (s : Sub r' r) (hl : h.le h') : Shift r' h' r h := fun E w v R x =>
 ⟨E, (Ev.refl E h' w).forget hl, R.forget hl, s _ _ _ _ (x.nS fun b => mH.le hl)⟩
theorem Shift.trans {a b c : aD} {h1 h2 h3 : aB} (x : Shift a h1 b h2) (y : Shift b h2 c h3) : Shift a h1 c h3 := fun E w v R r => by
 obtain ⟨E', ev, R', r'⟩ := x E w v R r
 obtain ⟨E'', ev', R'', r''⟩ := y E' w v R' r'
 exact ⟨E'', ev.trans ev', R'', r''⟩
mutual
def aD.c9 (n : Nat) (es : List (List aD)) : aD → aD
 | .os m sz i len => if m = n then .sl sz ((es.drop i).take len) false else .os m sz i len
 | .op m sz i off => if m = n then .ip sz es i off else .op m sz i off
 | .agg cs => .agg (kH n es cs)
 | .gN cs => .gN (kH n es cs)
 |x => x
def kH (n : Nat) (es : List (List aD)) : List aD → List aD
 | [] => []
 |x :: xs => x.c9 n es :: kH n es xs
end
theorem aC6 (n : Nat) (es : List (List aD)) : ∀ l, kH n es l = l.map (aD.c9 n es)
 | [] => rfl
 |x :: l => by simp [kH, aC6 n es l]
mutual
def eF (n sz k : Nat) : aD → Bool
 | .os m sz' i len => m != n || (sz' == sz && decide (i + len ≤ k))
 | .op m sz' i len => m != n || sz' == sz
 | .agg cs => e8 n sz k cs
 | .gN cs => e8 n sz k cs
 | _ => true
def e8 (n sz k : Nat) : List aD → Bool
 | [] => true
 |x :: xs => eF n sz k x && e8 n sz k xs
end
theorem vC (n sz k : Nat) : ∀ (l : List aD), e8 n sz k l = true → ∀ (i : Nat) x, l[i]? = some x → eF n sz k x = true
 | [], _, i, x, hx => by simp at hx
 |y :: l, h, 0, x, hx => by simp at hx; subst hx; simp only [e8, Bool.and_eq_true] at h; exact h.1
 |y :: l, h, i + 1, x, hx => by simp only [e8, Bool.and_eq_true] at h; exact vC n sz k l h.2 i x (by simpa using hx)
theorem dY.nT {E : Env} {h : aB} {w : World} (R : Rel E h w) {n sz : Nat} {es : List (List Cell)} (hn : h n = some (.row sz es)) {x : aD} {v : Value} (r : dY E h w x v)
  (hb : eF n sz es.length x = true) : dY E (a5 h n .gone) w (x.c9 n (dR es)) v := by
 have hi : ∀ b, mH E h w b → mH E (a5 h n .gone) w b := fun b => uW n b
 induction r with
 |any v => exact .any v
 |bool b => exact .bool b
 |int k n => exact .int k n
 |str s hl => exact .str s hl
 |iE => exact .iE
 |bO => exact .bO
 |pE => exact .pE
 |j6 => exact .j6
 |lW => exact .lW
 |wW sz t a cap ht hmax ha => exact .wW sz t a cap ht hmax ha
 |sl sz es t b o cap cv hb' hcap hmax ht hs hc h1 hr ih => exact .sl sz es t b o cap cv (hi b hb') hcap hmax ht hs hc h1 fun i j x hx => (hr i j x hx).nS hi
 |ip sz es i off b o cv hb' hs hc h1 hr ih => exact .ip sz es i off b o cv (hi b hb') hs hc h1 fun i j x hx => (hr i j x hx).nS hi
 |os0 m sz' hd hl =>
  simp only [aD.c9]
  split
  ·have : ((dR es).drop 0).take 0 = [] := by simp
   rw [this]
   exact .wW sz' false none 0 (fun _ => rfl) (by simp [maxLen]) trivial
  ·exact .os0 m sz' hd hl
 |op m sz' i off b o hd hl =>
  simp only [aD.c9]
  split
  ·rename_i e
   subst e
   simp only [eF, bne_self_eq_false, Bool.false_or, beq_iff_eq] at hb
   subst hb
   obtain ⟨b', o', hl', hbS, hs, cs, ct, cv, T, hh, hm', hT, hD, hc, hrr⟩ := uZ R hn (.inr ⟨_, hl⟩)
   rw [hl] at hl'
   obtain ⟨rfl, rfl⟩ := Prod.mk.inj (Option.some.inj hl')
   have himm : ∀ c, E.fp m c → mH E (a5 h m .gone) w c := fun c hc => aAX R hn trivial c hc
   have hat : ∀ i' j y, gO (dR es) i' j = some y → ∃ c, gO es i' j = some c ∧ y = c.val := by
    intro i' j y hy
    rw [oO] at hy
    obtain ⟨c, hc, rfl⟩ := Option.map_eq_some_iff.1 hy
    exact ⟨c, hc, rfl⟩
   exact .ip sz' (dR es) i off b o cv (himm b hbS) (fun e he => s6 hs e he)
    (fun i' j y hy => by
     obtain ⟨c, hc', rfl⟩ := hat i' j y hy
     have := hc _ _ _ hc'
     simp only [World.cell?, hh]
     rw [← this]
     simp)
    (fun i' j y hy => by obtain ⟨c, hc', rfl⟩ := hat i' j y hy; exact (hrr _ _ _ hc').one)
    (fun i' j y hy => by
     obtain ⟨c, hc', rfl⟩ := hat i' j y hy
     exact (hrr _ _ _ hc').nT hi fun b hb => himm b (hT _ _ b hb).1)
  ·exact .op m sz' i off b o hd hl
 |fn f cs ds vs us hl hr hl' hr' ih ih' => exact .fn f cs ds vs us hl (fun i x v hx hv => (hr i x v hx hv).nS hi) hl' (fun i x v hx hv => (hr' i x v hx hv).nS hi)
 |iface t x v hr ih => exact .iface t x v (hr.nS hi)
 |mp n b o hd hl => exact .mp n b o hd hl
 |agg cs vs hl hr ih =>
  simp only [aD.c9, aC6]
  simp only [eF] at hb
  refine .agg _ vs (by simpa using hl) fun i x v hx hv => ?_
  rw [List.getElem?_map] at hx
  obtain ⟨y, hy, rfl⟩ := Option.map_eq_some_iff.1 hx
  exact ih i y v hy hv (vC _ _ _ _ hb i y hy)
 |gN cs vs hl hr ih =>
  simp only [aD.c9, aC6]
  simp only [eF] at hb
  refine .gN _ vs (by simpa using hl) fun i x v hx hv => ?_
  rw [List.getElem?_map] at hx
  obtain ⟨y, hy, rfl⟩ := Option.map_eq_some_iff.1 hx
  exact ih i y v hy hv (vC _ _ _ _ hb i y hy)
 |os m sz' i len b o cap t mm hd hl hlc hmax hsh hm =>
  simp only [aD.c9]
  split
  ·rename_i e
   subst e
   simp only [eF, bne_self_eq_false, Bool.false_or, Bool.and_eq_true, beq_iff_eq, decide_eq_true_eq] at hb
   obtain ⟨rfl, hle⟩ := hb
   obtain ⟨b', o', hl', hbS, hs, cs, ct, cv, T, hh, hm', hT, hD, hc, hrr⟩ := uZ R hn (.inr ⟨_, hl⟩)
   rw [hl] at hl'
   obtain ⟨rfl, rfl⟩ := Prod.mk.inj (Option.some.inj hl')
   have himm : ∀ c, E.fp m c → mH E (a5 h m .gone) w c := fun c hc => aAX R hn trivial c hc
   have hlen : (((dR es).drop i).take len).length = len := by rw [List.length_take, List.length_drop, p1]; omega
   have hat : ∀ i' j y, gO (((dR es).drop i).take len) i' j = some y → ∃ c, gO es (i + i') j = some c ∧ y = c.val := by
    intro i' j y hy
    obtain ⟨e, h1, h2⟩ := jH hy
    have hlt : i' < len := by have := (List.getElem?_eq_some_iff.1 h1).1; rw [hlen] at this; exact this
    rw [List.getElem?_take_of_lt hlt, List.getElem?_drop] at h1
    have : gO (dR es) (i + i') j = some y := by simp [gO, h1, h2]
    rw [oO] at this
    obtain ⟨c, hc, rfl⟩ := Option.map_eq_some_iff.1 this
    exact ⟨c, hc, rfl⟩
   have := dY.sl (E := E) (h := a5 h m .gone) (w := w) sz' (((dR es).drop i).take len) false b (o + i * sz') cap (fun i' j => cv (i + i') j) (himm b hbS) (by rw [hlen]; exact hlc) hmax (fun e => by simp at e)
    (fun e he => s6 hs e (List.mem_of_mem_drop (List.mem_of_mem_take he)))
    (fun i' j y hy => by
     obtain ⟨c, hc', rfl⟩ := hat i' j y hy
     have := hc _ _ _ hc'
     simp only [World.cell?, hh]
     rw [← this]
     simp only [Option.isSome_none, Bool.false_eq_true, if_false]
     congr 1; rw [Nat.add_mul]; omega)
    (fun i' j y hy => by obtain ⟨c, hc', rfl⟩ := hat i' j y hy; exact (hrr _ _ _ hc').one)
    (fun i' j y hy => by
     obtain ⟨c, hc', rfl⟩ := hat i' j y hy
     exact (hrr _ _ _ hc').nT hi fun b hb => himm b (hT _ _ b hb).1)
   rw [hlen] at this
   exact this
  ·exact .os m sz' i len b o cap t mm hd hl hlc hmax hsh hm
theorem Shift.c9 {x : aD} {h : aB} {n sz : Nat} {es : List (List Cell)} (hn : h n = some (.row sz es)) (hb : eF n sz es.length x = true) : Shift x h (x.c9 n (dR es)) (a5 h n .gone) := fun E w v R r =>
 ⟨E, Ev.gone n, R.gone hn, r.nT R hn hb⟩
theorem mI.nT {P : Program} {N : Nat} {c : Code} {Q : Exit → bB → aB → Prop} {τ : bB} {h : aB} (n : Nat) {sz : Nat} {es : List (List Cell)} (hn : h n = some (.row sz es)) (hb : τ.all (fun p => eF n sz es.length p.2) = true)
  (x : mI P N c Q (τ.map fun p => (p.1, p.2.c9 n (dR es))) (a5 h n .gone)) : mI P N c Q τ h := by
 intro ds E w a R r
 refine Code.wp_mono (fun e a' w' y => o7.trans (Ev.gone n) y) (x ds E w a (R.gone hn) ⟨r.size, r.defers, fun k => ?_⟩)
 have key : ∀ τ : bB, τ.all (fun p => eF n sz es.length p.2) = true → eF n sz es.length (bJ τ k) = true ∧ bJ (τ.map fun p => (p.1, p.2.c9 n (dR es))) k = (bJ τ k).c9 n (dR es) := by
  intro τ
  induction τ with
  |nil => intro _; exact ⟨rfl, rfl⟩
  |cons p τ ih =>
   intro hp
   simp only [List.all_cons, Bool.and_eq_true] at hp
   simp only [List.map_cons, bJ]
   split
   ·exact ⟨hp.1, rfl⟩
   ·exact ih hp.2
 rw [(key τ hb).2]
 exact (r.get k).nT R hn (key τ hb).1
theorem p8 {P : Program} {f : FuncId} {fn : Func} {c : Code} {N : Nat} {args : List aD} {h : aB} {K K' : aD → aB → Prop} (a : eH P f args h K') (hk : ∀ r h', K' r h' → ∃ r₁ h₁, Shift r h' r₁ h₁ ∧ K r₁ h₁) : eH P f args h K :=
 ⟨a.1, fun E w vs R hL => Calls.mono (a.2 E w vs R hL) fun e w' he => by
  cases e <;> try exact he
  obtain ⟨r, h', E', k, ev, R', rx⟩ := he
  obtain ⟨r₁, h₁, hs, k₁⟩ := hk r h' k
  obtain ⟨E'', ev', R'', rx'⟩ := hs E' w' _ R' rx
  exact ⟨r₁, h₁, E'', k₁, ev.trans ev', R'', rx'⟩⟩
theorem aSE {P : Program} {f : FuncId} {fn : Func} {c : Code} (N : Nat) (keep ib : List Nat) (mk : Marks) {args : List aD} {r : aD} (hmix : P.follows .mixedOrders = true) (hf : P.funcs[f]? = some fn) (hb : fn.body = some c)
  (hck : (kS P f && decide (fn.ntmps = N) && iS N mk c) = true) (hl : args.length ≤ N)
  (hw : ∀ h, hwp P N keep ib mk c (yG P fn.results (fun r' h' => Shift r' h' r h) .normal) (yG P fn.results fun r' h' => Shift r' h' r h) (p6 0 args) h) : dV P f args r := fun h =>
 p8 (fn := fn) (c := c) (N := N) (aC5 N keep ib mk hmix hf hb hck hl (hw h) fun r' h' hx => ⟨h', aB.le_refl _, hx⟩) fun r' h' hx => ⟨r, h, hx, rfl, rfl⟩
theorem bQ {r : aD} {h' h : aB} (hl : h.le h') : Shift r h' r h := .of (.refl r) hl
theorem aV (r : aD) (h : aB) : Shift r h r h := .of (.refl r) (aB.le_refl h)
abbrev Tag {α : Type} (_ : α) : Type := Unit
def eO {α : Type} (o : Option α) (K : α → Prop) (_ : Tag K) : Prop := match o with | some x => K x | none => False
@[go_sem] theorem a4B {α : Type} (x : α) (K : α → Prop) (t : Tag K) : eO (some x) K t = K x := rfl
@[go_sem] theorem a4C {α : Type} (K : α → Prop) (t : Tag K) : eO none K t = False := rfl
def vD (v : aD) (A B : Prop) (_ : Tag (A, B)) : Prop := match v with | .bool t => (t = true → A) ∧ (t = false → B) | _ => False
@[go_sem] theorem a1H (c : Bool) (A B : Prop) (t : Tag (A, B)) : vD (.bool c) A B t = ((c = true → A) ∧ (c = false → B)) := rfl
@[go_sem high] theorem a1I (A B : Prop) (t : Tag (A, B)) : vD (.bool true) A B t = A := by simp [vD]
@[go_sem high] theorem aY3 (A B : Prop) (t : Tag (A, B)) : vD (.bool false) A B t = B := by simp [vD]
def aJR (K : bB → aB → Prop) (Q : Exit → bB → aB → Prop) (_ : Tag (K, Q)) : Exit → bB → aB → Prop := r8 K Q
@[go_sem] theorem aV5 (K : bB → aB → Prop) (Q : Exit → bB → aB → Prop) (t : Tag (K, Q)) (τ : bB) (h : aB) : aJR K Q t .normal τ h = K τ h := rfl
@[go_sem] theorem a4D (K : bB → aB → Prop) (Q : Exit → bB → aB → Prop) (t : Tag (K, Q)) (τ : bB) (h : aB) : aJR K Q t .ret τ h = Q .ret τ h := rfl
@[go_sem] theorem a1J (K : bB → aB → Prop) (Q : Exit → bB → aB → Prop) (t : Tag (K, Q)) (i : Nat) (τ : bB) (h : aB) : aJR K Q t (.exit i) τ h = Q (.exit i) τ h := rfl
def aAD (id : Nat) (K : bB → aB → Prop) (Q : Exit → bB → aB → Prop) (_ : Tag (K, Q)) : Exit → bB → aB → Prop := aC4 id K Q
@[go_sem] theorem a1K (id : Nat) (K : bB → aB → Prop) (Q : Exit → bB → aB → Prop) (t : Tag (K, Q)) (τ : bB) (h : aB) : aAD id K Q t .ret τ h = Q .ret τ h := rfl
@[go_sem] theorem aY4 (id : Nat) (K : bB → aB → Prop) (Q : Exit → bB → aB → Prop) (t : Tag (K, Q)) (τ : bB) (h : aB) : aAD id K Q t (.exit id) τ h = K τ h := by simp [aAD, aC4]
@[go_sem] theorem aV6 (id i : Nat) (K : bB → aB → Prop) (Q : Exit → bB → aB → Prop) (t : Tag (K, Q)) (τ : bB) (h : aB) (hi : (i == id) = false) : aAD id K Q t (.exit i) τ h = Q (.exit i) τ h := by
 have : i ≠ id := by simpa using hi
 simp [aAD, aC4, this]
def yH (P : Program) (N : Nat) (c : Code) (Q : Exit → bB → aB → Prop) (τ : bB) (h : aB) (_ : Tag (c, Q)) : Prop := mI P N c Q τ h
def iO (P : Program) (ib : List Nat) (d : Option Tmp) (op : Op) (ρ : Operand → aD) (h : aB) (K : aD → aB → Prop) (_ : Tag (op, K)) : Prop :=
 p5 P ib ⟨d, op, 0, "", #[], none⟩ ρ h K
def stepG (P : Program) (ib : List Nat) (d : Option Tmp) (op : Op) (ρ : Operand → aD) (K : aD → Prop) (_ : Tag (op, K)) : Prop :=
 aAB P ib ⟨d, op, 0, "", #[], none⟩ ρ K
def yI (P : Program) (ib : List Nat) (os l : List Oper) (τ : bB) (h : aB) (K : bB → aB → Prop) (_ : Tag (os, l, K)) : Prop := yF P ib os.toArray l τ h K
def vE (os : List Oper) (g : Nat) (_ : Tag os) : Option Tmp := (os.toArray[g]?).bind (·.dst)
@[go_sem] theorem a1L (o : Oper) (os : List Oper) (t : Tag (o :: os)) : vE (o :: os) 0 t = o.dst := by simp [vE]
@[go_sem] theorem a1M (o : Oper) (os : List Oper) (n : Nat) (t : Tag (o :: os)) : vE (o :: os) (n + 1) t = vE os n () := by simp [vE]
def lE (v : aD) (b : Bool) (A B C : Prop) (_ : Tag (A, B, C)) : Prop := match v with
 | .bool b' => (b' = b → A) ∧ (b' = !b → B)
 | .gN [] => C
 | _ => False
@[go_sem] theorem a1N (b : Bool) (A B C : Prop) (t : Tag (A, B, C)) : lE (.gN []) b A B C t = C := rfl
@[go_sem] theorem a6B (c : Bool) (A B C : Prop) (t : Tag (A, B, C)) : lE (.bool c) true A B C t = ((c = true → A) ∧ (c = false → B)) := rfl
@[go_sem] theorem a6C (c : Bool) (A B C : Prop) (t : Tag (A, B, C)) : lE (.bool c) false A B C t = ((c = false → A) ∧ (c = true → B)) := rfl
@[go_sem high] theorem a4E (A B C : Prop) (t : Tag (A, B, C)) : lE (.bool true) true A B C t = A := by simp [lE]
@[go_sem high] theorem a4F (A B C : Prop) (t : Tag (A, B, C)) : lE (.bool false) true A B C t = B := by simp [lE]
@[go_sem high] theorem a4G (A B C : Prop) (t : Tag (A, B, C)) : lE (.bool true) false A B C t = B := by simp [lE]
@[go_sem high] theorem a4H (A B C : Prop) (t : Tag (A, B, C)) : lE (.bool false) false A B C t = A := by simp [lE]
section
variable (P : Program) (ib : List Nat) (os rest : List Oper) (τ : bB) (h : aB) (K : bB → aB → Prop) (d : Option Tmp) (op : Op) (ty : TypeId) (p : String) (af : Array Edge)
@[go_sem] theorem a4I (t : Tag (os, [], K)) : yI P ib os [] τ h K t = K τ h := rfl
@[go_sem] theorem a1O (t : Tag (os, (⟨d, op, ty, p, af, none⟩ :: rest), K)) : yI P ib os (⟨d, op, ty, p, af, none⟩ :: rest) τ h K t =
  iO P ib d op (qQ τ) h (fun v h' => yI P ib os rest (eY τ d v) h' K ()) () := rfl
@[go_sem] theorem a1P (g : Nat) (b : Bool) (t : Tag (os, (⟨d, op, ty, p, af, some (g, b)⟩ :: rest), K)) : yI P ib os (⟨d, op, ty, p, af, some (g, b)⟩ :: rest) τ h K t =
  eO (vE os g ()) (fun s => lE (bJ τ s) b (iO P ib d op (qQ ((s, .bool b) :: τ)) h (fun v h' => yI P ib os rest (eY ((s, .bool b) :: τ) d v) h' K ()) ())
   (yI P ib os rest (eY ((s, .bool !b) :: τ) d (.gN [])) h K ()) (yI P ib os rest (eY τ d (.gN [])) h K ()) ()) () := by
 unfold yI
 rw [yF]
 simp only [eO, vE]
 cases (os.toArray[g]?).bind (·.dst) with
 |none => rfl
 |some s =>
  simp only [lE]
  cases bJ τ s <;> first | rfl | (rename_i cs; cases cs <;> rfl)
end
def yJ (P : Program) (ib : List Nat) (os : List Oper) (ms : List Nat) (cr : List (Nat × Nat)) (l : o9) (pr : List (Nat × Nat)) (τ : bB) (h : aB) (K : bB → aB → Prop) (_ : Tag (os, K)) : Prop := aAC P ib os.toArray ms cr l pr τ h K
def aC7 (P : Program) (ib : List Nat) (os : List Oper) (cr : List (Nat × Nat)) (i : Nat) (m : Bool) (o : Oper) (pr : List (Nat × Nat)) (τ : bB) (h : aB) (K : List (Nat × Nat) → bB → aB → Prop) (_ : Tag (os, o, K)) : Prop :=
 match o.guard with
 |none => aA6 P ib cr i m o (pG os.toArray o τ) pr h (fun pr' v h' => K pr' (eY τ o.dst v) h')
 |some (g, b) => match (os.toArray[g]?).bind (·.dst) with
  |some d => match bJ τ d with
   | .bool b' => (b' = b → aA6 P ib cr i m o (pG os.toArray o ((d, .bool b) :: τ)) pr h (fun pr' v h' => K pr' (eY ((d, .bool b) :: τ) o.dst v) h')) ∧
     (b' = !b → K pr (eY ((d, .bool !b) :: τ) o.dst (.gN [])) h)
   | .gN [] => K pr (eY τ o.dst (.gN [])) h
   | _ => False
  |none => False
def aJS (os : List Oper) (i : Nat) (K : Oper → Prop) (_ : Tag (os, K)) : Prop := match os[i]? with | some o => K o | none => False
@[go_sem] theorem a4J (o : Oper) (os : List Oper) (K : Oper → Prop) (t : Tag (o :: os, K)) : aJS (o :: os) 0 K t = K o := rfl
@[go_sem] theorem a4K (o : Oper) (os : List Oper) (i : Nat) (K : Oper → Prop) (t : Tag (o :: os, K)) : aJS (o :: os) (i + 1) K t = aJS os i K () := rfl
def aMH (os : List Oper) (o : Oper) (τ : bB) (_ : Tag (os, o)) : Operand → aD := pG os.toArray o τ
section
variable (P : Program) (ib : List Nat) (os : List Oper) (τ : bB) (h : aB) (K : bB → aB → Prop) (d : Option Tmp) (op : Op) (ty : TypeId) (p : String) (af : Array Edge)
variable (cr : List (Nat × Nat)) (pr : List (Nat × Nat)) (i : Nat)
@[go_sem] theorem a4L (ms : List Nat) (t : Tag (os, K)) : yJ P ib os ms cr .nil pr τ h K t = K τ h := rfl
theorem aMI (ms : List Nat) (i : Nat) (C : List (Nat × Nat) → bB → aB → Prop) : OpD P ib os.toArray ms cr i pr τ h C = aJS os i (fun o => aC7 P ib os cr i (ms.contains i) o pr τ h C ()) () := by
 simp only [OpD, aJS, aC7, List.getElem?_toArray]
 cases os[i]? <;> rfl
@[go_sem] theorem a6D (ms : List Nat) (l : o9) (i : Nat) (t : Tag (os, K)) : yJ P ib os ms cr (.op i l) pr τ h K t = aJS os i (fun o => aC7 P ib os cr i (ms.contains i) o pr τ h (fun pr' τ' h' => yJ P ib os ms cr l pr' τ' h' K ()) ()) () := by
 simp only [yJ, aAC]; exact aMI P ib os τ h cr pr ms i _
@[go_sem] theorem a4M (ms : List Nat) (l q : o9) (i j : Nat) (t : Tag (os, K)) : yJ P ib os ms cr (.alt i l j q) pr τ h K t = ((aJS os i (fun o => aC7 P ib os cr i (ms.contains i) o pr τ h (fun pr' τ' h' => yJ P ib os ms cr l pr' τ' h' K ()) ()) ()) ∧ aJS os j (fun o => aC7 P ib os cr j (ms.contains j) o pr τ h (fun pr' τ' h' => yJ P ib os ms cr q pr' τ' h' K ()) ()) ()) := by
 simp only [yJ, aAC]; rw [aMI P ib os τ h cr pr ms i _, aMI P ib os τ h cr pr ms j _]
@[go_sem] theorem a6E (o : Oper) (t : Tag (os, o)) (k : Nat) : aMH os o τ t (.tmp k) = if (o8 os.toArray o).contains k then bJ τ k else .any := rfl
@[go_sem] theorem a1Q (o : Oper) (t : Tag (os, o)) (v : Value) : aMH os o τ t (.const v) = aD.ofValue v := rfl
@[go_sem] theorem a4N (o : Oper) (t : Tag (os, o)) (f : FuncId) : aMH os o τ t (.func f) = qQ τ (.func f) := rfl
def gF : Op → Bool
 | .load _ _ => true
 | _ => false
def aA7 (d : Option Tmp) (op : Op) (ρ : Operand → aD) (M : List (Nat × Nat) → aD → aB → Prop) (_ : Tag (op, M)) : Prop :=
 if gF op then aJN P ⟨d, op, 0, "", #[], none⟩ ρ h (fun n v => M (aJP cr i n pr) v h) else p5 P ib ⟨d, op, 0, "", #[], none⟩ ρ h (fun v h' => gP cr i pr h h' ∧ M pr v h')
theorem aOA (ρ : Operand → aD) (g : Option (Nat × Bool)) (M : List (Nat × Nat) → aD → aB → Prop) : aA6 P ib cr i true ⟨d, op, ty, p, af, g⟩ ρ pr h M = aA7 P ib h cr pr i d op ρ M () := by
 unfold aA6 aA7
 cases op <;> rfl
@[go_sem] theorem bA9 (L : List (Nat × Nat) → bB → aB → Prop) (t : Tag (os, (⟨d, op, ty, p, af, none⟩ : Oper), L)) : aC7 P ib os cr i true ⟨d, op, ty, p, af, none⟩ pr τ h L t = aA7 P ib h cr pr i d op (aMH os ⟨d, op, ty, p, af, none⟩ τ ()) (fun pr' v h' => L pr' (eY τ d v) h') () := by
 rw [← aOA (ty := ty) (p := p) (af := af) (g := none)]; rfl
@[go_sem] theorem bBA (L : List (Nat × Nat) → bB → aB → Prop) (t : Tag (os, (⟨d, op, ty, p, af, none⟩ : Oper), L)) : aC7 P ib os cr i false ⟨d, op, ty, p, af, none⟩ pr τ h L t = stepG P ib d op (aMH os ⟨d, op, ty, p, af, none⟩ τ ()) (fun v => L pr (eY τ d v) h) () := rfl
@[go_sem] theorem a9S (L : List (Nat × Nat) → bB → aB → Prop) (g : Nat) (b : Bool) (t : Tag (os, (⟨d, op, ty, p, af, some (g, b)⟩ : Oper), L)) : aC7 P ib os cr i true ⟨d, op, ty, p, af, some (g, b)⟩ pr τ h L t =
  eO (vE os g ()) (fun s => lE (bJ τ s) b (aA7 P ib h cr pr i d op (aMH os ⟨d, op, ty, p, af, some (g, b)⟩ ((s, .bool b) :: τ) ()) (fun pr' v h' => L pr' (eY ((s, .bool b) :: τ) d v) h') ())
   (L pr (eY ((s, .bool !b) :: τ) d (.gN [])) h) (L pr (eY τ d (.gN [])) h) ()) () := by
 simp only [aC7, eO, vE, ← aOA (ty := ty) (p := p) (af := af) (g := some (g, b))]
 cases (os.toArray[g]?).bind (·.dst) with
 |none => rfl
 |some s =>
  simp only [lE]
  cases bJ τ s <;> first | rfl | (rename_i cs; cases cs <;> rfl)
@[go_sem] theorem a9T (L : List (Nat × Nat) → bB → aB → Prop) (g : Nat) (b : Bool) (t : Tag (os, (⟨d, op, ty, p, af, some (g, b)⟩ : Oper), L)) : aC7 P ib os cr i false ⟨d, op, ty, p, af, some (g, b)⟩ pr τ h L t =
  eO (vE os g ()) (fun s => lE (bJ τ s) b (stepG P ib d op (aMH os ⟨d, op, ty, p, af, some (g, b)⟩ ((s, .bool b) :: τ) ()) (fun v => L pr (eY ((s, .bool b) :: τ) d v) h) ())
   (L pr (eY ((s, .bool !b) :: τ) d (.gN [])) h) (L pr (eY τ d (.gN [])) h) ()) () := by
 simp only [aC7, eO, vE]
 cases (os.toArray[g]?).bind (·.dst) with
 |none => rfl
 |some s =>
  simp only [lE]
  cases bJ τ s <;> first | rfl | (rename_i cs; cases cs <;> rfl)
end
def oQ (P : Program) (N : Nat) (keep ib : List Nat) (mk : Marks) (c : Code) (K : bB → aB → Prop) (Q : Exit → bB → aB → Prop) (τ : bB) (h : aB) (_ : Tag (c, K, Q)) : Prop := hwp P N keep ib mk c K Q τ h
section
variable (P : Program) (N : Nat) (keep ib : List Nat) (mk : Marks) (K : bB → aB → Prop) (Q : Exit → bB → aB → Prop) (τ : bB) (h : aB)
@[go_sem] theorem a4O (t : Tag (Code.skip, K, Q)) : oQ P N keep ib mk .skip K Q τ h t = K τ h := rfl
@[go_sem] theorem a6F (t : Tag (Code.ret, K, Q)) : oQ P N keep ib mk .ret K Q τ h t = Q .ret τ h := rfl
@[go_sem] theorem a4P (i : Nat) (t : Tag (Code.exit i, K, Q)) : oQ P N keep ib mk (.exit i) K Q τ h t = Q (.exit i) τ h := rfl
@[go_sem] theorem a6G (a b : Code) (t : Tag (Code.seq a b, K, Q)) : oQ P N keep ib mk (.seq a b) K Q τ h t = oQ P N keep ib mk a (fun τ h => oQ P N keep ib mk b K Q τ h ()) Q τ h () := rfl
@[go_sem] theorem a4Q (x : Operand) (a b : Code) (t : Tag (Code.cond x a b, K, Q)) : oQ P N keep ib mk (.cond x a b) K Q τ h t = vD (qQ τ x) (oQ P N keep ib mk a K Q τ h ()) (oQ P N keep ib mk b K Q τ h ()) () := by
 simp only [oQ, hwp, vD]; cases qQ τ x <;> rfl
@[go_sem] theorem a1R (i : Nat) (c : Code) (t : Tag (Code.block i c, K, Q)) : oQ P N keep ib mk (.block i c) K Q τ h t = oQ P N keep ib mk c K (aAD i K Q ()) τ h () := rfl
@[go_sem] theorem a4R (c : Code) (t : Tag (Code.loop c, K, Q)) : oQ P N keep ib mk (.loop c) K Q τ h t = yH P N (.loop c) (aJR K Q ()) τ h () := rfl
@[go_sem] theorem aY5 (i : Nat) (os : List Oper) (t : Tag (Code.region i ⟨os⟩ false, K, Q)) : oQ P N keep ib mk (.region i ⟨os⟩ false) K Q τ h t = yI P ib os os τ h (fun τ' h' => K (Hl.prune keep τ') h') () := rfl
@[go_sem] theorem a4S (i : Nat) (os : List Oper) (t : Tag (Code.region i ⟨os⟩ true, K, Q)) : oQ P N keep ib mk (.region i ⟨os⟩ true) K Q τ h t = yJ P ib os (mk i).1 (mk i).2.2 (mk i).2.1 [] τ h (fun τ' h' => K (Hl.prune keep τ') h') () := rfl
end
theorem aC8 {P : Program} {N : Nat} {keep ib : List Nat} {mk : Marks} (hmix : P.follows .mixedOrders = true) (c : Code) (K : bB → aB → Prop) (Q : Exit → bB → aB → Prop) (τ : bB) (h : aB) (hc : iS N mk c = true) (hw : oQ P N keep ib mk c K Q τ h ()) : mI P N c (aJR K Q ()) τ h :=
 nW hmix c K Q τ h hc hw
def aJT : Op → Bool
 | .box .. => false
 | .buildSlice .. => false
 | .call ⟨.builtin .append, _, _⟩ => false
 | _ => true
theorem eI {P : Program} {ib : List Nat} {d : Option Tmp} {op : Op} {ρ : Operand → aD} {h : aB} {K : aD → aB → Prop} {t : Tag (op, K)} (hop : aJT op = true) : iO P ib d op ρ h K t = step P ⟨d, op, 0, "", #[], none⟩ ρ h K := by
 unfold iO p5
 cases d with
 |none => rfl
 |some d =>
  simp only
  split
  ·cases op <;> first | rfl | (simp [aJT] at hop; done) | (rename_i c; rcases c with ⟨f, as, ats⟩; cases f <;> first | rfl | (rename_i b; cases b <;> first | rfl | (simp [aJT] at hop; done)))
  ·rfl
theorem fC {P : Program} {ib : List Nat} {d : Option Tmp} {op : Op} {ρ : Operand → aD} {K : aD → Prop} {t : Tag (op, K)} (hop : aJT op = true) : stepG P ib d op ρ K t = aA5 P ⟨d, op, 0, "", #[], none⟩ ρ K := by
 unfold stepG aAB
 cases d with
 |none => rfl
 |some d =>
  simp only
  split
  ·cases op <;> first | rfl | (simp [aJT] at hop)
  ·rfl
def aBO (P : Program) (op : BinOp) (ty : TypeId) (x y : aD) (K : aD → Prop) (_ : Tag K) : Prop := r9 P op ty x y K
def aC9 (P : Program) (op : BinOp) (ty : TypeId) (c : Bool) (x y : aD) (K : aD → Prop) (_ : Tag K) : Prop := sA P op ty c x y K
def jU (P : Program) (op : BinOp) (ty : TypeId) (x y : aD) (K : aD → Prop) (_ : Tag K) : Prop := eZ P op ty x y K
def unF (op : UnOp) (x : aD) (K : aD → Prop) (_ : Tag K) : Prop := z5 op x K
def faF (d : Option TyD) (f : Nat) (x : aD) (K : aD → Prop) (_ : Tag K) : Prop := z7 d f x K
def iaF (re : Option jS) (x i : aD) (K : aD → Prop) (_ : Tag K) : Prop := z8 re x i K
def ixF (d : Option TyD) (x i : aD) (K : aD → Prop) (_ : Tag K) : Prop := w8 d x i K
def ldF (r : Option jS) (a : aD) (h : aB) (K : aD → Prop) (_ : Tag K) : Prop := iG r a h K
def stF (r : Option jS) (a v : aD) (h : aB) (K : aB → Prop) (_ : Tag K) : Prop := aGY r a v h K
def alF (r : Option jS) (h : aB) (K : aD → aB → Prop) (_ : Tag K) : Prop := aAA r h K
def mkF (re : Option jS) (l c : aD) (h : aB) (K : aD → aB → Prop) (_ : Tag K) : Prop := aCS re l c h K
def slD (P : Program) (t : TypeId) (x : aD) (lo hi : Option aD) (K : aD → Prop) (_ : Tag K) : Prop := nV P t x lo hi K
def slF (P : Program) (t : TypeId) (x : aD) (lo hi : Option aD) (K : aD → Prop) (_ : Tag K) : Prop := kY P t x lo hi K
def aSF (P : Program) (d : Option TyD) (x : aD) (K : aD → Prop) (_ : Tag K) : Prop := match d, x with
  |some (.slice _), .sl _ es _ => es.length ≤ 9223372036854775807 → K (.int .i64 es.length)
  |some (.slice _), .os _ _ _ n => n ≤ 9223372036854775807 → K (.int .i64 n)
  |some (.slice _), .bO => K (.int .i64 0)
  |some .str, .str s => s.length ≤ 9223372036854775807 → K (.int .i64 s.length)
  | _, _ => False
def aSG (P : Program) (d : Option TyD) (x : aD) (K : aD → Prop) (_ : Tag K) : Prop := match d, x with
  |some (.slice _), .sl _ es _ => K (.int .i64 es.length)
  |some (.slice _), .os _ _ _ n => K (.int .i64 n)
  |some (.slice _), .bO => K (.int .i64 0)
  |some .str, .str s => K (.int .i64 s.length)
  | _, _ => False
def cvF (P : Program) (s : Option TyD) (d : Option TyD) (x : aD) (K : aD → Prop) (_ : Tag K) : Prop := match d, x with
 |some (.int k'), .int k n => s.isSome = true ∧ K (.int k' (k'.wrap n))
 |some .str, .sl 1 es _ => (match s with
  |some (.slice et) => uJ P et = some (.int .u8) ∧ (match bytesOf es with | some bs => K (.str bs) | none => False)
  | _ => False)
 | _, _ => False
def aV7 (P : Program) (t : TypeId) (x : aD) (lo : Option aD) (hi mx : aD) (K : aD → Prop) (_ : Tag K) : Prop := mJ P t x lo hi mx K
def rdF (cr : List (Nat × Nat)) (i : Nat) (pr : List (Nat × Nat)) (r : Option jS) (x : aD) (h : aB) (M : List (Nat × Nat) → aD → aB → Prop) (_ : Tag M) : Prop := match x with
 | .op n sz j off => iG r (.op n sz j off) h fun v => M (aJP cr i (some n) pr) v h
 | .ip sz es j off => iG r (.ip sz es j off) h fun v => M (aJP cr i none pr) v h
 | _ => False
def aV8 (c A : Prop) (_ : Tag A) : Prop := c ∧ A
@[go_sem] theorem a9Z (c A : Prop) (t : Tag A) : aV8 c A t = (c ∧ A) := rfl
@[go_sem high] theorem a4V (A : Prop) (t : Tag A) : aV8 True A t = A := by simp [aV8]
def buF (P : Program) (r : Option jS) (ps : List (Nat × aD)) (K : aD → Prop) (_ : Tag K) : Prop := pQ P r ps K
def exF (x : aD) (i : Nat) (K : aD → Prop) (_ : Tag K) : Prop := match x with
  | .gN cs => match cs[i]? with | some x => K x | none => False
  | _ => False
def ncF (x : aD) (K : aD → Prop) (_ : Tag K) : Prop := match x with
  | .op n sz i k => K (.op n sz i k)
  | .ip sz es i k => K (.ip sz es i k)
  | _ => False
def aY8 (P : Program) (f : aD) (args : List aD) (h : aB) (K : aD → aB → Prop) (_ : Tag K) : Prop := match f with
  | .fn (.func g) first cap => eH P g (first ++ args ++ cap) h K
  | _ => False
def aY9 (P : Program) (f : aD) (args : List aD) (K : aD → Prop) (_ : Tag K) : Prop := match f with
  | .fn (.func g) first cap => aJL P g (first ++ args ++ cap) K
  | _ => False
def aG (P : Program) (g : FuncId) (args : List aD) (h : aB) (K : aD → aB → Prop) (_ : Tag K) : Prop := eH P g args h K
def aE (P : Program) (g : FuncId) (args : List aD) (K : aD → Prop) (_ : Tag K) : Prop := aJL P g args K
theorem aG.mk {P : Program} {g : FuncId} {args : List aD} {h : aB} {K : aD → aB → Prop} {t : Tag K} {r : aD} (a : dV P g args r) (k : K r h) : aG P g args h K t := dV.call a k
theorem aE.mk {P : Program} {g : FuncId} {args : List aD} {K : aD → Prop} {t : Tag K} {r : aD} (a : dV P g args r) (k : K r) : aE P g args K t := ⟨r, a, k⟩
section
variable (P : Program) (ib : List Nat) (d : Option Tmp) (ρ : Operand → aD) (h : aB) (K : aD → aB → Prop) (L : aD → Prop)
@[go_sem] theorem a92 (x : Operand) (t : Tag (Op.move x, K)) : iO P ib d (.move x) ρ h K t = K (ρ x) h := by rw [eI rfl]; rfl
@[go_sem] theorem a93 (x : Operand) (t : Tag (Op.move x, L)) : stepG P ib d (.move x) ρ L t = L (ρ x) := by rw [fC rfl]; rfl
@[go_sem] theorem a4W (x : Operand) (t : Tag (Op.assign x, K)) : iO P ib d (.assign x) ρ h K t = K (ρ x) h := by rw [eI rfl]; rfl
@[go_sem] theorem a4X (x : Operand) (t : Tag (Op.assign x, L)) : stepG P ib d (.assign x) ρ L t = L (ρ x) := by rw [fC rfl]; rfl
@[go_sem] theorem a94 (c a b : Operand) (t : Tag (Op.pick c a b, K)) : iO P ib d (.pick c a b) ρ h K t = vD (ρ c) (K (ρ a) h) (K (ρ b) h) () := by
 rw [eI rfl]; simp only [step, vD]; cases ρ c <;> rfl
@[go_sem] theorem a95 (c a b : Operand) (t : Tag (Op.pick c a b, L)) : stepG P ib d (.pick c a b) ρ L t = vD (ρ c) (L (ρ a)) (L (ρ b)) () := by
 rw [fC rfl]; simp only [aA5, vD]; cases ρ c <;> rfl
@[go_sem] theorem bBD (op : BinOp) (ty ty' : TypeId) (x y : Operand) (t : Tag (Op.binOp op ty x y ty', K)) : iO P ib d (.binOp op ty x y ty') ρ h K t = aC9 P op ty (pF y) (ρ x) (ρ y) (fun v => K v h) () := by rw [eI rfl]; rfl
@[go_sem] theorem bBE (op : BinOp) (ty ty' : TypeId) (x y : Operand) (t : Tag (Op.binOp op ty x y ty', L)) : stepG P ib d (.binOp op ty x y ty') ρ L t = jU P op ty (ρ x) (ρ y) L () := by rw [fC rfl]; rfl
@[go_sem] theorem bC3 (op : UnOp) (ty : TypeId) (x : Operand) (t : Tag (Op.unOp op ty x, K)) : iO P ib d (.unOp op ty x) ρ h K t = unF op (ρ x) (fun v => K v h) () := by rw [eI rfl]; rfl
@[go_sem] theorem bC4 (op : UnOp) (ty : TypeId) (x : Operand) (t : Tag (Op.unOp op ty x, L)) : stepG P ib d (.unOp op ty x) ρ L t = unF op (ρ x) L () := by rw [fC rfl]; rfl
@[go_sem] theorem a96 (s e : TypeId) (x : Operand) (t : Tag (Op.convert s e x, K)) : iO P ib d (.convert s e x) ρ h K t = cvF P (uJ P s) (uJ P e) (ρ x) (fun v => K v h) () := by rw [eI rfl]; rfl
@[go_sem] theorem a97 (s e : TypeId) (x : Operand) (t : Tag (Op.convert s e x, L)) : stepG P ib d (.convert s e x) ρ L t = cvF P (uJ P s) (uJ P e) (ρ x) L () := by rw [fC rfl]; rfl
@[go_sem] theorem bC5 (ty : TypeId) (x : Operand) (f : Nat) (t : Tag (Op.fieldAddr ty x f, K)) : iO P ib d (.fieldAddr ty x f) ρ h K t = faF (uJ P ty) f (ρ x) (fun v => K v h) () := by rw [eI rfl]; rfl
@[go_sem] theorem bC6 (ty : TypeId) (x : Operand) (f : Nat) (t : Tag (Op.fieldAddr ty x f, L)) : stepG P ib d (.fieldAddr ty x f) ρ L t = faF (uJ P ty) f (ρ x) L () := by rw [fC rfl]; rfl
@[go_sem] theorem bC7 (ty : TypeId) (x i : Operand) (t : Tag (Op.indexAddr ty x i, K)) : iO P ib d (.indexAddr ty x i) ρ h K t = iaF (jY P ty) (ρ x) (ρ i) (fun v => K v h) () := by rw [eI rfl]; rfl
@[go_sem] theorem bC8 (ty : TypeId) (x i : Operand) (t : Tag (Op.indexAddr ty x i, L)) : stepG P ib d (.indexAddr ty x i) ρ L t = iaF (jY P ty) (ρ x) (ρ i) L () := by rw [fC rfl]; rfl
@[go_sem] theorem bC9 (ty : TypeId) (x i : Operand) (t : Tag (Op.index ty x i, K)) : iO P ib d (.index ty x i) ρ h K t = ixF (uJ P ty) (ρ x) (ρ i) (fun v => K v h) () := by rw [eI rfl]; rfl
@[go_sem] theorem bDA (ty : TypeId) (x i : Operand) (t : Tag (Op.index ty x i, L)) : stepG P ib d (.index ty x i) ρ L t = ixF (uJ P ty) (ρ x) (ρ i) L () := by rw [fC rfl]; rfl
@[go_sem] theorem bDB (ty : TypeId) (a : Operand) (t : Tag (Op.load ty a, K)) : iO P ib d (.load ty a) ρ h K t = ldF (gH P ty) (ρ a) h (fun v => K v h) () := by rw [eI rfl]; rfl
@[go_sem] theorem bDC (ty : TypeId) (a v : Operand) (t : Tag (Op.store ty a v, K)) : iO P ib d (.store ty a v) ρ h K t = stF (gH P ty) (ρ a) (ρ v) h (fun h' => K .any h') () := by rw [eI rfl]; rfl
@[go_sem] theorem bDD (ty : TypeId) (t : Tag (Op.alloc ty, K)) : iO P ib d (.alloc ty) ρ h K t = alF (gH P ty) h K () := by rw [eI rfl]; rfl
@[go_sem] theorem bDE (ty : TypeId) (l c : Operand) (t : Tag (Op.makeSlice ty l c, K)) : iO P ib d (.makeSlice ty l c) ρ h K t = mkF (jY P ty) (ρ l) (ρ c) h K () := by rw [eI rfl]; rfl
@[go_sem] theorem bDF (ty : TypeId) (x : Operand) (lo hi : Option Operand) (t : Tag (Op.slice ty x lo hi none, K)) : iO P ib d (.slice ty x lo hi none) ρ h K t = slD P ty (ρ x) (lo.map ρ) (hi.map ρ) (fun v => K v h) () := by rw [eI rfl]; rfl
@[go_sem] theorem bDG (ty : TypeId) (x : Operand) (lo hi : Option Operand) (t : Tag (Op.slice ty x lo hi none, L)) : stepG P ib d (.slice ty x lo hi none) ρ L t = slF P ty (ρ x) (lo.map ρ) (hi.map ρ) L () := by rw [fC rfl]; rfl
@[go_sem] theorem bBF (ty : TypeId) (x : Operand) (lo : Option Operand) (hi mx : Operand) (t : Tag (Op.slice ty x lo (some hi) (some mx), K)) : iO P ib d (.slice ty x lo (some hi) (some mx)) ρ h K t = aV7 P ty (ρ x) (lo.map ρ) (ρ hi) (ρ mx) (fun v => K v h) () := by rw [eI rfl]; rfl
@[go_sem] theorem bBG (ty : TypeId) (x : Operand) (lo : Option Operand) (hi mx : Operand) (t : Tag (Op.slice ty x lo (some hi) (some mx), L)) : stepG P ib d (.slice ty x lo (some hi) (some mx)) ρ L t = aV7 P ty (ρ x) (lo.map ρ) (ρ hi) (ρ mx) L () := by rw [fC rfl]; rfl
@[go_sem] theorem bDH (cr pr : List (Nat × Nat)) (i : Nat) (ty : TypeId) (a : Operand) (M : List (Nat × Nat) → aD → aB → Prop) (t : Tag (Op.load ty a, M)) : aA7 P ib h cr pr i d (.load ty a) ρ M t = rdF cr i pr (gH P ty) (ρ a) h M () := by
 unfold aA7 aJN rdF; simp only [gF, if_true]
 cases ρ a <;> rfl
@[go_sem] theorem bBH (cr pr : List (Nat × Nat)) (i : Nat) (op : Op) (M : List (Nat × Nat) → aD → aB → Prop) (t : Tag (op, M)) (hop : gF op = false) : aA7 P ib h cr pr i d op ρ M t = iO P ib d op ρ h (fun v h' => aV8 (gP cr i pr h h') (M pr v h') ()) () := by
 unfold aA7; rw [hop]; rfl
@[go_sem] theorem bDI (x : Operand) (i : Nat) (t : Tag (Op.extract x i, K)) : iO P ib d (.extract x i) ρ h K t = exF (ρ x) i (fun v => K v h) () := by rw [eI rfl]; rfl
@[go_sem] theorem bDJ (x : Operand) (i : Nat) (t : Tag (Op.extract x i, L)) : stepG P ib d (.extract x i) ρ L t = exF (ρ x) i L () := by rw [fC rfl]; rfl
@[go_sem] theorem bDK (x : Operand) (t : Tag (Op.nilCheck x, K)) : iO P ib d (.nilCheck x) ρ h K t = ncF (ρ x) (fun v => K v h) () := by rw [eI rfl]; rfl
@[go_sem] theorem bDL (x : Operand) (t : Tag (Op.nilCheck x, L)) : stepG P ib d (.nilCheck x) ρ L t = ncF (ρ x) L () := by rw [fC rfl]; rfl
@[go_sem] theorem bDM (f : Fn) (fs cs : Array Operand) (t : Tag (Op.makeFunc f fs cs, K)) : iO P ib d (.makeFunc f fs cs) ρ h K t = K (.fn f (fs.toList.map ρ) (cs.toList.map ρ)) h := by rw [eI rfl]; rfl
@[go_sem] theorem bDN (f : Fn) (fs cs : Array Operand) (t : Tag (Op.makeFunc f fs cs, L)) : stepG P ib d (.makeFunc f fs cs) ρ L t = L (.fn f (fs.toList.map ρ) (cs.toList.map ρ)) := by rw [fC rfl]; rfl
@[go_sem] theorem bDO (ty : TypeId) (ps : Array (Nat × Operand)) (t : Tag (Op.build ty ps, K)) : iO P ib d (.build ty ps) ρ h K t = buF P (gH P ty) (ps.toList.map fun p => (p.1, ρ p.2)) (fun v => K v h) () := by rw [eI rfl]; rfl
@[go_sem] theorem bDP (ty : TypeId) (ps : Array (Nat × Operand)) (t : Tag (Op.build ty ps, L)) : stepG P ib d (.build ty ps) ρ L t = buF P (gH P ty) (ps.toList.map fun p => (p.1, ρ p.2)) L () := by rw [fC rfl]; rfl
@[go_sem] theorem a98 (f : Operand) (as : Array Operand) (ats : Array TypeId) (t : Tag (Op.call ⟨.value f, as, ats⟩, K)) : iO P ib d (.call ⟨.value f, as, ats⟩) ρ h K t = aY8 P (ρ f) (as.toList.map ρ) h K () := by rw [eI rfl]; rfl
@[go_sem] theorem a99 (f : Operand) (as : Array Operand) (ats : Array TypeId) (t : Tag (Op.call ⟨.value f, as, ats⟩, L)) : stepG P ib d (.call ⟨.value f, as, ats⟩) ρ L t = aY9 P (ρ f) (as.toList.map ρ) L () := by rw [fC rfl]; rfl
end
section
variable (P : Program) (ib : List Nat) (d : Option Tmp) (ρ : Operand → aD) (h : aB) (K : aD → aB → Prop) (L : aD → Prop)
def ldG (r : Option jS) (a : aD) (K : aD → Prop) (_ : Tag K) : Prop := match a with
  | .ip sz es i off => iG r (.ip sz es i off) (fun _ => none) K
  | _ => False
@[go_sem] theorem bDQ (ty : TypeId) (a : Operand) (t : Tag (Op.load ty a, L)) : stepG P ib d (.load ty a) ρ L t = ldG (gH P ty) (ρ a) L () := by
 rw [fC rfl]; simp only [aA5, ldG]; cases ρ a <;> rfl
@[go_sem] theorem bBI (x : Operand) (ty : TypeId) (t : Tag (Op.call ⟨.builtin .len, #[x], #[ty]⟩, K)) : iO P ib d (.call ⟨.builtin .len, #[x], #[ty]⟩) ρ h K t = aSF P (uJ P ty) (ρ x) (fun v => K v h) () := by rw [eI rfl]; rfl
@[go_sem] theorem bBJ (x : Operand) (ty : TypeId) (t : Tag (Op.call ⟨.builtin .len, #[x], #[ty]⟩, L)) : stepG P ib d (.call ⟨.builtin .len, #[x], #[ty]⟩) ρ L t = aSG P (uJ P ty) (ρ x) L () := by rw [fC rfl]; rfl
def aV9 (x y : aD) (K : aD → Prop) (_ : Tag K) : Prop := match x, y with
   | .int k a, .int k' b => k' = k ∧ K (.int k (max a b))
   | _, _ => False
@[go_sem] theorem a6H (k k' : IntKind) (a b : Int) (t : Tag L) : aV9 (.int k a) (.int k' b) L t = (k' = k ∧ L (.int k (max a b))) := rfl
theorem aOB (x y : aD) (K : aD → Prop) : (match x, y with
   | .int k a, .int _ b => (match y with | .int k' _ => k' = k | _ => False) ∧ K (.int k (max a b))
   | _, _ => False) = aV9 x y K () := by cases x <;> cases y <;> rfl
@[go_sem] theorem bBK (x y : Operand) (ats : Array TypeId) (t : Tag (Op.call ⟨.builtin .max, #[x, y], ats⟩, K)) : iO P ib d (.call ⟨.builtin .max, #[x, y], ats⟩) ρ h K t = aV9 (ρ x) (ρ y) (fun v => K v h) () := by
 rw [eI rfl, ← aOB]; rfl
@[go_sem] theorem bBL (x y : Operand) (ats : Array TypeId) (t : Tag (Op.call ⟨.builtin .max, #[x, y], ats⟩, L)) : stepG P ib d (.call ⟨.builtin .max, #[x, y], ats⟩) ρ L t = aV9 (ρ x) (ρ y) L () := by
 rw [fC rfl, ← aOB]; rfl
def apF (P : Program) (re : Option jS) (t1 : Option TypeId) (x y : aD) (h : aB) (K : aD → aB → Prop) (_ : Tag K) : Prop := tC P re t1 x y h K
def yK (ib : List Nat) (d : Option Tmp) : Bool := match d with | some d => ib.contains d | none => false
@[go_sem] theorem a1S (k : Nat) : yK ib (some k) = ib.contains k := rfl
def apI (i : Bool) (P : Program) (re : Option jS) (t1 : Option TypeId) (x y : aD) (h : aB) (K : aD → aB → Prop) (_ : Tag K) : Prop := if i then apF P re t1 x y h (aN5 K) () else apF P re t1 x y h K ()
@[go_sem] theorem bBM (x y : Operand) (a b : TypeId) (t : Tag (Op.call ⟨.builtin .append, #[x, y], #[a, b]⟩, K)) : iO P ib d (.call ⟨.builtin .append, #[x, y], #[a, b]⟩) ρ h K t = apI (yK ib d) P (jY P a) (some b) (ρ x) (ρ y) h K () := by
 unfold iO p5 apI yK
 cases d with
 |none => rfl
 |some d => simp only; split <;> rfl
@[go_sem] theorem bDR (re : Option jS) (t1 : Option TypeId) (x y : aD) (t : Tag K) : apI true P re t1 x y h K t = apF P re t1 x y h (aN5 K) () := rfl
@[go_sem] theorem bDS (re : Option jS) (t1 : Option TypeId) (x y : aD) (t : Tag K) : apI false P re t1 x y h K t = apF P re t1 x y h K () := rfl
def aSH (i r : Bool) (ty : TypeId) (x : aD) (h : aB) (K : aD → aB → Prop) (_ : Tag K) : Prop := if i then aCV x (fun v => K v h) else if r then aN4 ty x h K else aN3 x h K
@[go_sem] theorem bBN (ty : TypeId) (x : Operand) (t : Tag (Op.box ty x, K)) : iO P ib d (.box ty x) ρ h K t = aSH (yK ib d) (a03 ty) ty (ρ x) h K () := by
 unfold iO p5 aSH yK
 cases d with
 |none => rfl
 |some d => simp only; split <;> rfl
@[go_sem] theorem bAC (ty : TypeId) : a03 ty = (match aRU with | none => false | some r => decide (ty = r)) := rfl
attribute [go_sem] aRU
@[go_sem] theorem bBO (r : Bool) (ty : TypeId) (x : aD) (t : Tag K) : aSH true r ty x h K t = (x.cells.all aD.flat = true ∧ K (.ip x.cells.length [x.cells] 0 0) h) := rfl
@[go_sem] theorem bBP (ty : TypeId) (x : aD) (t : Tag K) : aSH false true ty x h K t = (x.cells = [.iE, .bO] ∧ ∀ n, h n = none → K (.op n 2 0 0) (a5 h n (.raw ty #[.pointer none, .slice none 0 0]))) := rfl
@[go_sem] theorem bBQ (ty : TypeId) (x : aD) (t : Tag K) : aSH false false ty x h K t = (x.cells.all aD.flat = true ∧ ∀ n, h n = none → K (.op n x.cells.length 0 0) (a5 h n (.row x.cells.length [x.cells.map .v]))) := rfl
def bsF (i : Bool) (re : Option jS) (len : Nat) (ps : List (Nat × aD)) (h : aB) (K : aD → aB → Prop) (_ : Tag K) : Prop :=
 if i then p4 re len ps (fun sz es => K (.sl sz es true) h) else p4 re len ps fun sz es => ∀ n, h n = none → K (.os n sz 0 len) (a5 h n (.row sz (es.map (List.map .v))))
def bsG (i : Bool) (re : Option jS) (len : Nat) (ps : List (Nat × aD)) (K : aD → Prop) (_ : Tag K) : Prop :=
 if i then p4 re len ps (fun sz es => K (.sl sz es true)) else False
@[go_sem] theorem bDT (ty : TypeId) (len : Nat) (ps : Array (Nat × Operand)) (t : Tag (Op.buildSlice ty len ps, K)) : iO P ib d (.buildSlice ty len ps) ρ h K t = bsF (yK ib d) (jY P ty) len (ps.toList.map fun p => (p.1, ρ p.2)) h K () := by
 unfold iO p5 bsF yK
 cases d with
 |none => rfl
 |some d => simp only; split <;> rfl
@[go_sem] theorem bDU (ty : TypeId) (len : Nat) (ps : Array (Nat × Operand)) (t : Tag (Op.buildSlice ty len ps, L)) : stepG P ib d (.buildSlice ty len ps) ρ L t = bsG (yK ib d) (jY P ty) len (ps.toList.map fun p => (p.1, ρ p.2)) L () := by
 unfold stepG aAB bsG yK
 cases d with
 |none => rfl
 |some d => simp only; split <;> rfl
@[go_sem] theorem bDV (re : jS) (len : Nat) (ps : List (Nat × aD)) (t : Tag K) : bsF true (some re) len ps h K t = (re.zero.length = re.sz ∧ 0 < re.sz ∧ re.zero.all aD.flat = true ∧ len * re.sz ≤ 16777216 ∧ nU len re.sz ps = true ∧ K (.sl re.sz (p3 (List.replicate len re.zero) ps) true) h) := rfl
@[go_sem] theorem bDW (re : jS) (len : Nat) (ps : List (Nat × aD)) (t : Tag L) : bsG true (some re) len ps L t = (re.zero.length = re.sz ∧ 0 < re.sz ∧ re.zero.all aD.flat = true ∧ len * re.sz ≤ 16777216 ∧ nU len re.sz ps = true ∧ L (.sl re.sz (p3 (List.replicate len re.zero) ps) true)) := rfl
@[go_sem] theorem bDX (re : jS) (len : Nat) (ps : List (Nat × aD)) (t : Tag K) : bsF false (some re) len ps h K t = (re.zero.length = re.sz ∧ 0 < re.sz ∧ re.zero.all aD.flat = true ∧ len * re.sz ≤ 16777216 ∧ nU len re.sz ps = true ∧ ∀ n, h n = none → K (.os n re.sz 0 len) (a5 h n (.row re.sz ((p3 (List.replicate len re.zero) ps).map (List.map .v))))) := rfl
@[go_sem] theorem a6I (g : FuncId) (first cap args : List aD) (t : Tag K) : aY8 P (.fn (.func g) first cap) args h K t = aG P g (first ++ args ++ cap) h K () := rfl
@[go_sem] theorem a6J (g : FuncId) (first cap args : List aD) (t : Tag L) : aY9 P (.fn (.func g) first cap) args L t = aE P g (first ++ args ++ cap) L () := rfl
@[go_sem] theorem a6K (ty : TypeId) (k k' : IntKind) (a b : Int) (t : Tag L) : jU P .add ty (.int k a) (.int k' b) L t = eO (k6 .add (.int k a) (.int k' b)) L () := by simp only [jU, eZ, eO]; cases k6 _ _ _ <;> rfl
@[go_sem] theorem a6L (ty : TypeId) (k k' : IntKind) (a b : Int) (t : Tag L) : jU P .sub ty (.int k a) (.int k' b) L t = eO (k6 .sub (.int k a) (.int k' b)) L () := by simp only [jU, eZ, eO]; cases k6 _ _ _ <;> rfl
@[go_sem] theorem a6M (ty : TypeId) (k k' : IntKind) (a b : Int) (t : Tag L) : jU P .mul ty (.int k a) (.int k' b) L t = eO (k6 .mul (.int k a) (.int k' b)) L () := by simp only [jU, eZ, eO]; cases k6 _ _ _ <;> rfl
@[go_sem] theorem a6N (ty : TypeId) (k k' : IntKind) (a b : Int) (t : Tag L) : jU P .and ty (.int k a) (.int k' b) L t = eO (k6 .and (.int k a) (.int k' b)) L () := by simp only [jU, eZ, eO]; cases k6 _ _ _ <;> rfl
@[go_sem] theorem bAE (ty : TypeId) (k k' : IntKind) (a b : Int) (t : Tag L) : jU P .or ty (.int k a) (.int k' b) L t = eO (k6 .or (.int k a) (.int k' b)) L () := by simp only [jU, eZ, eO]; cases k6 _ _ _ <;> rfl
@[go_sem] theorem a6O (ty : TypeId) (k k' : IntKind) (a b : Int) (t : Tag L) : jU P .xor ty (.int k a) (.int k' b) L t = eO (k6 .xor (.int k a) (.int k' b)) L () := by simp only [jU, eZ, eO]; cases k6 _ _ _ <;> rfl
@[go_sem] theorem aZA (ty : TypeId) (k k' : IntKind) (a b : Int) (t : Tag L) : jU P .andNot ty (.int k a) (.int k' b) L t = eO (k6 .andNot (.int k a) (.int k' b)) L () := by simp only [jU, eZ, eO]; cases k6 _ _ _ <;> rfl
@[go_sem] theorem a6P (ty : TypeId) (k k' : IntKind) (a b : Int) (t : Tag L) : jU P .eql ty (.int k a) (.int k' b) L t = eO (k6 .eql (.int k a) (.int k' b)) L () := by simp only [jU, eZ, eO]; cases k6 _ _ _ <;> rfl
@[go_sem] theorem a6Q (ty : TypeId) (k k' : IntKind) (a b : Int) (t : Tag L) : jU P .neq ty (.int k a) (.int k' b) L t = eO (k6 .neq (.int k a) (.int k' b)) L () := by simp only [jU, eZ, eO]; cases k6 _ _ _ <;> rfl
@[go_sem] theorem a6R (ty : TypeId) (k k' : IntKind) (a b : Int) (t : Tag L) : jU P .lss ty (.int k a) (.int k' b) L t = eO (k6 .lss (.int k a) (.int k' b)) L () := by simp only [jU, eZ, eO]; cases k6 _ _ _ <;> rfl
@[go_sem] theorem a6S (ty : TypeId) (k k' : IntKind) (a b : Int) (t : Tag L) : jU P .leq ty (.int k a) (.int k' b) L t = eO (k6 .leq (.int k a) (.int k' b)) L () := by simp only [jU, eZ, eO]; cases k6 _ _ _ <;> rfl
@[go_sem] theorem a6T (ty : TypeId) (k k' : IntKind) (a b : Int) (t : Tag L) : jU P .gtr ty (.int k a) (.int k' b) L t = eO (k6 .gtr (.int k a) (.int k' b)) L () := by simp only [jU, eZ, eO]; cases k6 _ _ _ <;> rfl
@[go_sem] theorem a6U (ty : TypeId) (k k' : IntKind) (a b : Int) (t : Tag L) : jU P .geq ty (.int k a) (.int k' b) L t = eO (k6 .geq (.int k a) (.int k' b)) L () := by simp only [jU, eZ, eO]; cases k6 _ _ _ <;> rfl
@[go_sem] theorem a6V (ty : TypeId) (k k' : IntKind) (a b : Int) (t : Tag L) : jU P .quo ty (.int k a) (.int k' b) L t = (k = k' ∧ b ≠ 0 ∧ L (.int k (k.wrap (a.tdiv b)))) := rfl
@[go_sem] theorem a6W (ty : TypeId) (k k' : IntKind) (a b : Int) (t : Tag L) : jU P .rem ty (.int k a) (.int k' b) L t = (k = k' ∧ b ≠ 0 ∧ L (.int k (a.tmod b))) := rfl
@[go_sem] theorem a6X (ty : TypeId) (k k' : IntKind) (a b : Int) (t : Tag L) : jU P .shl ty (.int k a) (.int k' b) L t = (0 ≤ b ∧ L (.int k (k.wrap (a * 2 ^ (min b.toNat k.bits))))) := rfl
@[go_sem] theorem a6Y (ty : TypeId) (k k' : IntKind) (a b : Int) (t : Tag L) : jU P .shr ty (.int k a) (.int k' b) L t = (0 ≤ b ∧ L (.int k (a.fdiv (2 ^ (min b.toNat k.bits))))) := rfl
@[go_sem] theorem a4Y (ty : TypeId) (a b : List UInt8) (t : Tag L) : jU P .add ty (.str a) (.str b) L t = (a.length + b.length ≤ 9223372036854775807 ∧ L (.str (a ++ b))) := rfl
@[go_sem] theorem a4Z (ty : TypeId) (a b : List UInt8) (t : Tag L) : jU P .eql ty (.str a) (.str b) L t = L (.bool (decide (a = b))) := rfl
@[go_sem] theorem a40 (ty : TypeId) (a b : List UInt8) (t : Tag L) : jU P .neq ty (.str a) (.str b) L t = L (.bool (!decide (a = b))) := rfl
@[go_sem] theorem a41 (ty : TypeId) (a b : List UInt8) (t : Tag L) : jU P .lss ty (.str a) (.str b) L t = L (.bool (Op.bytesLess a b)) := rfl
@[go_sem] theorem a42 (ty : TypeId) (a b : Bool) (t : Tag L) : jU P .eql ty (.bool a) (.bool b) L t = (uJ P ty = some .bool ∧ L (.bool (a == b))) := rfl
@[go_sem] theorem a43 (ty : TypeId) (a b : Bool) (t : Tag L) : jU P .neq ty (.bool a) (.bool b) L t = (uJ P ty = some .bool ∧ L (.bool (a != b))) := rfl
@[go_sem] theorem aVJ (v : Value) : pF (.const v) = true := rfl
@[go_sem] theorem aZB (v : Tmp) : pF (.tmp v) = false := rfl
@[go_sem] theorem aSI (v : Nat) : pF (.global v) = false := rfl
@[go_sem] theorem aWA (v : FuncId) : pF (.func v) = false := rfl
@[go_sem] theorem a6Z (op : BinOp) (ty : TypeId) (c : Bool) (k : IntKind) (a : Int) (y : aD) (t : Tag L) : aC9 P op ty c (.int k a) y L t = jU P op ty (.int k a) y L () := by cases c <;> rfl
@[go_sem] theorem a44 (op : BinOp) (ty : TypeId) (c : Bool) (a : Bool) (y : aD) (t : Tag L) : aC9 P op ty c (.bool a) y L t = jU P op ty (.bool a) y L () := by cases c <;> rfl
@[go_sem] theorem a60 (op : BinOp) (ty : TypeId) (c : Bool) (a : List UInt8) (y : aD) (t : Tag L) : aC9 P op ty c (.str a) y L t = jU P op ty (.str a) y L () := by cases c <;> rfl
@[go_sem] theorem bAF (op : BinOp) (ty : TypeId) (c : Bool) (sz : Nat) (es : List (List aD)) (b : Bool) (y : aD) (t : Tag L) : aC9 P op ty c (.sl sz es b) y L t = aBO P op ty (.sl sz es b) y L () := by cases c <;> rfl
@[go_sem] theorem a61 (ty ti : TypeId) (v : aD) (t : Tag L) : aC9 P .eql ty true (.iface ti v) .j6 L t = (aA4 P ty = true ∧ L (.bool false)) := rfl
@[go_sem] theorem a62 (ty : TypeId) (t : Tag L) : aC9 P .eql ty true .j6 .j6 L t = (aA4 P ty = true ∧ L (.bool true)) := rfl
@[go_sem] theorem a45 (ty ti : TypeId) (v : aD) (t : Tag L) : aC9 P .neq ty true (.iface ti v) .j6 L t = (aA4 P ty = true ∧ L (.bool true)) := rfl
@[go_sem] theorem a46 (ty : TypeId) (t : Tag L) : aC9 P .neq ty true .j6 .j6 L t = (aA4 P ty = true ∧ L (.bool false)) := rfl
@[go_sem] theorem a63 (op : BinOp) (ty : TypeId) (k : IntKind) (a : Int) (y : aD) (t : Tag L) : aBO P op ty (.int k a) y L t = jU P op ty (.int k a) y L () := rfl
@[go_sem] theorem a47 (op : BinOp) (ty : TypeId) (a : Bool) (y : aD) (t : Tag L) : aBO P op ty (.bool a) y L t = jU P op ty (.bool a) y L () := rfl
@[go_sem] theorem a64 (op : BinOp) (ty : TypeId) (a : List UInt8) (y : aD) (t : Tag L) : aBO P op ty (.str a) y L t = jU P op ty (.str a) y L () := rfl
@[go_sem] theorem a65 (ty : TypeId) (sz : Nat) (es : List (List aD)) (b : Bool) (t : Tag L) : aBO P .eql ty (.sl sz es b) .bO L t = ((match uJ P ty with | some (.slice _) => True | _ => False) ∧ (es = [] → L (.bool true)) ∧ L (.bool false)) := rfl
@[go_sem] theorem a48 (ty : TypeId) (sz : Nat) (es : List (List aD)) (b : Bool) (t : Tag L) : aBO P .neq ty (.sl sz es b) .bO L t = ((match uJ P ty with | some (.slice _) => True | _ => False) ∧ (es = [] → L (.bool false)) ∧ L (.bool true)) := rfl
@[go_sem] theorem bAG (op : BinOp) (ty : TypeId) (c : Bool) (m sz i len : Nat) (y : aD) (t : Tag L) : aC9 P op ty c (.os m sz i len) y L t = aBO P op ty (.os m sz i len) y L () := by cases c <;> rfl
@[go_sem] theorem a66 (op : BinOp) (ty : TypeId) (c : Bool) (y : aD) (t : Tag L) : aC9 P op ty c .bO y L t = aBO P op ty .bO y L () := by cases c <;> rfl
@[go_sem] theorem bAH (ty : TypeId) (m sz i len : Nat) (t : Tag L) : aBO P .eql ty (.os m sz i len) .bO L t = ((match uJ P ty with | some (.slice _) => True | _ => False) ∧ (len = 0 → L (.bool true)) ∧ L (.bool false)) := rfl
@[go_sem] theorem a67 (ty : TypeId) (m sz i len : Nat) (t : Tag L) : aBO P .neq ty (.os m sz i len) .bO L t = ((match uJ P ty with | some (.slice _) => True | _ => False) ∧ (len = 0 → L (.bool false)) ∧ L (.bool true)) := rfl
@[go_sem] theorem bAI (ty : TypeId) (t : Tag L) : aBO P .eql ty .bO .bO L t = ((match uJ P ty with | some (.slice _) => True | _ => False) ∧ L (.bool true)) := rfl
@[go_sem] theorem a68 (ty : TypeId) (t : Tag L) : aBO P .neq ty .bO .bO L t = ((match uJ P ty with | some (.slice _) => True | _ => False) ∧ L (.bool false)) := rfl
@[go_sem] theorem bAJ (b : Bool) (t : Tag L) : unF .not (.bool b) L t = L (.bool (!b)) := rfl
@[go_sem] theorem bAK (k : IntKind) (n : Int) (t : Tag L) : unF .neg (.int k n) L t = L (.int k (k.wrap (0 - n))) := rfl
@[go_sem] theorem bAL (s : TyD) (k k' : IntKind) (n : Int) (t : Tag L) : cvF P (some s) (some (.int k')) (.int k n) L t = L (.int k' (k'.wrap n)) := by simp [cvF]
@[go_sem] theorem a49 (et : TypeId) (es : List (List aD)) (b : Bool) (t : Tag L) : cvF P (some (.slice et)) (some .str) (.sl 1 es b) L t = (uJ P et = some (.int .u8) ∧ eO (bytesOf es) (fun bs => L (.str bs)) ()) := by
 simp only [cvF, eO]; cases bytesOf es <;> rfl
@[go_sem] theorem bBS (cr pr : List (Nat × Nat)) (i : Nat) (r : Option jS) (n sz j off : Nat) (M : List (Nat × Nat) → aD → aB → Prop) (t : Tag M) : rdF cr i pr r (.op n sz j off) h M t = ldF r (.op n sz j off) h (fun v => M (aJP cr i (some n) pr) v h) () := rfl
@[go_sem] theorem bBT (cr pr : List (Nat × Nat)) (i : Nat) (r : Option jS) (sz j off : Nat) (es : List (List aD)) (M : List (Nat × Nat) → aD → aB → Prop) (t : Tag M) : rdF cr i pr r (.ip sz es j off) h M t = ldF r (.ip sz es j off) h (fun v => M (aJP cr i none pr) v h) () := rfl
attribute [go_sem] aJP aR7 uQ gP bytesOf
@[go_sem] theorem aZC (x : Operand) : gF (.move x) = false := rfl
@[go_sem] theorem aVK (x : Operand) : gF (.assign x) = false := rfl
@[go_sem] theorem aWB (x : TypeId) : gF (.alloc x) = false := rfl
@[go_sem] theorem a1T (x : TypeId) (v : Operand) : gF (.box x v) = false := rfl
@[go_sem] theorem a5A (x : TypeId) (l : Nat) (ps : Array (Nat × Operand)) : gF (.buildSlice x l ps) = false := rfl
@[go_sem] theorem aWC (x : TypeId) (ps : Array (Nat × Operand)) : gF (.build x ps) = false := rfl
@[go_sem] theorem aWD (x : TypeId) (a v : Operand) : gF (.store x a v) = false := rfl
@[go_sem] theorem a5B (x : TypeId) (a v : Operand) : gF (.makeSlice x a v) = false := rfl
@[go_sem] theorem aZD (c : Call) : gF (.call c) = false := rfl
@[go_sem] theorem a5C (x : TypeId) (r : Option Operand) : gF (.makeMap x r) = false := rfl
@[go_sem] theorem aVL (x : TypeId) (a b : Operand) (c : Bool) : gF (.lookup x a b c) = false := rfl
@[go_sem] theorem a5D (x : TypeId) (a b c : Operand) : gF (.mapUpdate x a b c) = false := rfl
@[go_sem] theorem a5E (x : TypeId) (a b : Operand) : gF (.mapEntry x a b) = false := rfl
@[go_sem] theorem a5F (x : TypeId) (a b c : Operand) : gF (.entryStore x a b c) = false := rfl
@[go_sem] theorem a1U (x : TypeId) (a b c : Operand) : gF (.insert x a b c) = false := rfl
@[go_sem] theorem aWE (x : TypeId) (a : Operand) : gF (.range x a) = false := rfl
@[go_sem] theorem aZE (a : Operand) (b : Bool) : gF (.next a b) = false := rfl
@[go_sem] theorem aWF (a : Operand) : gF (.entry a) = false := rfl
@[go_sem] theorem aWG (x : TypeId) (a : Operand) (b c d : Option Operand) : gF (.slice x a b c d) = false := rfl
@[go_sem] theorem a5G (x : TypeId) (a b : Operand) : gF (.indexAddr x a b) = false := rfl
@[go_sem] theorem a5H (x : TypeId) (a : Operand) (b : Nat) : gF (.fieldAddr x a b) = false := rfl
@[go_sem] theorem a5I (a : Operand) (b : Nat) : gF (.extract a b) = false := rfl
@[go_sem] theorem a5J (f : Fn) (a b : Array Operand) : gF (.makeFunc f a b) = false := rfl
@[go_sem] theorem aZF (a b : TypeId) (x : Operand) : gF (.convert a b x) = false := rfl
@[go_sem] theorem a1V (o : BinOp) (a b : TypeId) (x y : Operand) : gF (.binOp o a x y b) = false := rfl
@[go_sem] theorem aZG (x y z : Operand) : gF (.pick x y z) = false := rfl
@[go_sem] theorem a5K (x : Operand) : gF (.nilCheck x) = false := rfl
def aSJ (fs : List (Nat × TypeId × Nat)) (f : Nat) (K : Nat → Prop) (_ : Tag K) : Prop := match fs[f]? with | some (off, _, sz') => sz' ≠ 0 ∧ K off | none => False
@[go_sem] theorem a5L (off sz : Nat) (ty : TypeId) (fs : List (Nat × TypeId × Nat)) (M : Nat → Prop) (t : Tag M) : aSJ ((off, ty, sz) :: fs) 0 M t = (sz ≠ 0 ∧ M off) := rfl
@[go_sem] theorem a5M (x : Nat × TypeId × Nat) (fs : List (Nat × TypeId × Nat)) (n : Nat) (M : Nat → Prop) (t : Tag M) : aSJ (x :: fs) (n + 1) M t = aSJ fs n M () := rfl
@[go_sem] theorem bBU (fs : List (Nat × TypeId × Nat)) (f n sz i k : Nat) (t : Tag L) : faF (some (.st fs)) f (.op n sz i k) L t = aSJ fs f (fun off => L (.op n sz i (k + off))) () := rfl
@[go_sem] theorem bBV (fs : List (Nat × TypeId × Nat)) (f sz i k : Nat) (es : List (List aD)) (t : Tag L) : faF (some (.st fs)) f (.ip sz es i k) L t = aSJ fs f (fun off => L (.ip sz es i (k + off))) () := rfl
@[go_sem] theorem bBW (re : jS) (sz : Nat) (es : List (List aD)) (b : Bool) (k : IntKind) (n : Int) (t : Tag L) : iaF (some re) (.sl sz es b) (.int k n) L t = (re.sz = sz ∧ 0 ≤ n ∧ n < es.length ∧ L (.ip sz es n.toNat 0)) := rfl
@[go_sem] theorem bBX (re : jS) (m sz i0 len : Nat) (k : IntKind) (n : Int) (t : Tag L) : iaF (some re) (.os m sz i0 len) (.int k n) L t = (re.sz = sz ∧ 0 ≤ n ∧ n < len ∧ L (.op m sz (i0 + n.toNat) 0)) := rfl
@[go_sem] theorem bAM (s : List UInt8) (k : IntKind) (n : Int) (t : Tag L) : ixF (some .str) (.str s) (.int k n) L t = (0 ≤ n ∧ eO s[n.toNat]? (fun c => L (.int .u8 c.toNat)) ()) := by
 simp only [ixF, w8, eO]; cases s[n.toNat]? <;> rfl
@[go_sem] theorem bBY (r : jS) (sz i off : Nat) (es : List (List aD)) (t : Tag L) : ldF (some r) (.ip sz es i off) h L t = eO es[i]? (fun e => eO (ld r e off) L ()) () := by
 simp only [ldF, iG, eO]
 cases es[i]? with
 |none => rfl
 |some e => simp only; cases ld r e off <;> rfl
@[go_sem] theorem bBZ (r : jS) (sz i off : Nat) (es : List (List aD)) (t : Tag L) : ldG (some r) (.ip sz es i off) L t = eO es[i]? (fun e => eO (ld r e off) L ()) () := by
 simp only [ldG, iG, eO]
 cases es[i]? with
 |none => rfl
 |some e => simp only; cases ld r e off <;> rfl
def aMJ (o : Option bL) (K : Nat → List (List Cell) → Prop) (_ : Tag K) : Prop := match o with | some (.row sz es) => K sz es | _ => False
@[go_sem] theorem a69 (sz : Nat) (es : List (List Cell)) (M : Nat → List (List Cell) → Prop) (t : Tag M) : aMJ (some (.row sz es)) M t = M sz es := rfl
@[go_sem] theorem bB0 (r : jS) (n sz i off : Nat) (t : Tag L) : ldF (some r) (.op n sz i off) h L t = aMJ (h n) (fun sz' es => sz' = sz ∧ eO es[i]? (fun e => eO (aAY r e off) L ()) ()) () := by
 simp only [ldF, iG, aMJ]
 cases h n with
 |none => rfl
 |some o =>
  cases o with
  |row sz' es =>
   simp only [eO]
   cases es[i]? with
   |none => rfl
   |some e => simp only; cases aAY r e off <;> rfl
  | _ => rfl
@[go_sem] theorem bB1 (r : jS) (n sz i off : Nat) (v : aD) (M : aB → Prop) (t : Tag M) : stF (some r) (.op n sz i off) v h M t = aMJ (h n) (fun sz' es => sz' = sz ∧ eO es[i]? (fun e => v.cells.all aD.flat = true ∧ v.cells.length = r.sz ∧ off + r.sz ≤ e.length ∧ M (a5 h n (.row sz (es.set i (mD e off v.cells))))) ()) () := by
 simp only [stF, aGY, aMJ]
 cases h n with
 |none => rfl
 |some o =>
  cases o with
  |row sz' es => simp only [eO]; cases es[i]? <;> rfl
  | _ => rfl
@[go_sem] theorem bB2 (re : jS) (t1 : Option TypeId) (n sz i len : Nat) (y : aD) (t : Tag K) : apF P (some re) t1 (.os n sz i len) y h K t = (re.zero.length = re.sz ∧ 0 < re.sz ∧ u3 P t1 = true ∧ re.sz = sz ∧ aMJ (h n) (fun sz' es => sz' = sz ∧ i + len ≤ es.length ∧ eO (qX h sz y) (fun ys => (len + ys.length) * re.bytes ≤ 140737488355328 ∧ len + ys.length ≤ 9223372036854775807 ∧
  ∀ b, h b = none → K (.os b sz 0 (len + ys.length)) (a5 (a5 h n .gone) b (.row sz ((es.drop i).take len ++ ys.map (List.map .v))))) ()) ()) := by
 simp only [apF, tC, aMJ]
 cases h n with
 |none => rfl
 |some o =>
  cases o with
  |row sz' es => simp only [eO]; cases qX h sz y <;> rfl
  | _ => rfl
@[go_sem] theorem bB3 (re : jS) (t1 : Option TypeId) (sz : Nat) (es : List (List aD)) (tg : Bool) (y : aD) (t : Tag K) : apF P (some re) t1 (.sl sz es tg) y h K t = (re.zero.length = re.sz ∧ 0 < re.sz ∧ u3 P t1 = true ∧ eO (yA re.sz (.sl sz es tg)) (fun olds => eO (qX h re.sz y) (fun ys => (ys = [] → K (.sl sz es tg) h) ∧ (ys ≠ [] → (olds.length + ys.length) * re.bytes ≤ 140737488355328 ∧ olds.length + ys.length ≤ 9223372036854775807 ∧
  ∀ n, h n = none → K (.os n re.sz 0 (olds.length + ys.length)) (a5 h n (.row re.sz ((olds ++ ys).map (List.map .v)))))) ()) ()) := by
 simp only [apF, tC]
 cases hd : yA re.sz (.sl sz es tg) with
 |none => rfl
 |some olds => simp only [eO]; cases qX h re.sz y <;> rfl
@[go_sem] theorem bAN (re : jS) (t1 : Option TypeId) (y : aD) (t : Tag K) : apF P (some re) t1 .bO y h K t = (re.zero.length = re.sz ∧ 0 < re.sz ∧ u3 P t1 = true ∧ eO (qX h re.sz y) (fun ys => (ys = [] → K .bO h) ∧ (ys ≠ [] → ((([] : List (List aD)).length) + ys.length) * re.bytes ≤ 140737488355328 ∧ (([] : List (List aD)).length) + ys.length ≤ 9223372036854775807 ∧
  ∀ n, h n = none → K (.os n re.sz 0 ((([] : List (List aD)).length) + ys.length)) (a5 h n (.row re.sz (([] ++ ys).map (List.map .v)))))) ()) := by
 simp only [apF, tC, yA]
 cases qX h re.sz y <;> rfl
@[go_sem] theorem a7A (r : jS) (t : Tag K) : alF (some r) h K t = (r.zero ≠ [] ∧ r.zero.all aD.flat = true ∧ ∀ n, h n = none → K (.op n r.zero.length 0 0) (a5 h n (.row r.zero.length [r.zero.map .v]))) := rfl
@[go_sem] theorem bAO (re : jS) (k k' : IntKind) (a b : Int) (t : Tag K) : mkF (some re) (.int k a) (.int k' b) h K t = (re.zero.length = re.sz ∧ 0 < re.sz ∧ re.zero.all aD.flat = true ∧ 0 ≤ a ∧ a ≤ b ∧ b ≤ 281474976710656 ∧ re.bytes * b ≤ 281474976710656 ∧
    ∀ n, h n = none → K (.os n re.sz 0 a.toNat) (a5 h n (.row re.sz ((List.replicate b.toNat re.zero).map (List.map .v))))) := rfl
@[go_sem] theorem bAP (et : TypeId) (sz : Nat) (es : List (List aD)) (b : Bool) (t : Tag L) : aSF P (some (.slice et)) (.sl sz es b) L t = (es.length ≤ 9223372036854775807 → L (.int .i64 es.length)) := rfl
@[go_sem] theorem bAQ (et : TypeId) (m sz i n : Nat) (t : Tag L) : aSF P (some (.slice et)) (.os m sz i n) L t = (n ≤ 9223372036854775807 → L (.int .i64 n)) := rfl
@[go_sem] theorem a7B (et : TypeId) (t : Tag L) : aSF P (some (.slice et)) .bO L t = L (.int .i64 0) := rfl
@[go_sem] theorem a7C (s : List UInt8) (t : Tag L) : aSF P (some .str) (.str s) L t = (s.length ≤ 9223372036854775807 → L (.int .i64 s.length)) := rfl
@[go_sem] theorem bAR (et : TypeId) (sz : Nat) (es : List (List aD)) (b : Bool) (t : Tag L) : aSG P (some (.slice et)) (.sl sz es b) L t = L (.int .i64 es.length) := rfl
@[go_sem] theorem bAS (et : TypeId) (m sz i n : Nat) (t : Tag L) : aSG P (some (.slice et)) (.os m sz i n) L t = L (.int .i64 n) := rfl
@[go_sem] theorem a7D (et : TypeId) (t : Tag L) : aSG P (some (.slice et)) .bO L t = L (.int .i64 0) := rfl
@[go_sem] theorem a7E (s : List UInt8) (t : Tag L) : aSG P (some .str) (.str s) L t = L (.int .i64 s.length) := rfl
@[go_sem] theorem bAT (cs : List aD) (i : Nat) (t : Tag L) : exF (.gN cs) i L t = eO cs[i]? L () := by
 simp only [exF, eO]; cases cs[i]? <;> rfl
@[go_sem] theorem bB4 (n sz i k : Nat) (t : Tag L) : ncF (.op n sz i k) L t = L (.op n sz i k) := rfl
@[go_sem] theorem bB5 (sz i k : Nat) (es : List (List aD)) (t : Tag L) : ncF (.ip sz es i k) L t = L (.ip sz es i k) := rfl
@[go_sem] theorem a7F (r : jS) (ps : List (Nat × aD)) (t : Tag L) : buF P (some r) ps L t = (u6 P r.d = true ∧ r.zero ≠ [] ∧ tA (o6 P r.d) r.zero.length ps = true ∧ L (.agg (aCQ (o6 P r.d) r.zero ps))) := rfl
@[go_sem] theorem bB6 (ty : TypeId) (sz : Nat) (es : List (List aD)) (b : Bool) (lo hi : Option aD) (t : Tag L) : slF P ty (.sl sz es b) lo hi L t = eO (jY P ty) (fun re => re.sz = sz ∧ eO (iF 0 lo) (fun l => eO (iF es.length hi) (fun m => 0 ≤ l ∧ l ≤ m ∧ m ≤ es.length ∧ L (.sl sz ((es.take m.toNat).drop l.toNat) (b && decide (m = es.length)))) ()) ()) () := by
 simp only [slF, kY, eO]
 cases jY P ty with
 |none => rfl
 |some re =>
  simp only
  cases iF 0 lo with
  |none => rfl
  |some l => simp only; cases iF es.length hi <;> rfl
@[go_sem] theorem bB7 (ty : TypeId) (n sz i len : Nat) (lo hi : Option aD) (t : Tag L) : slF P ty (.os n sz i len) lo hi L t = eO (jY P ty) (fun re => re.sz = sz ∧ eO (iF 0 lo) (fun l => eO (iF len hi) (fun m => 0 ≤ l ∧ l < m ∧ m ≤ len ∧ L (.os n sz (i + l.toNat) (m.toNat - l.toNat))) ()) ()) () := by
 simp only [slF, kY, eO]
 cases jY P ty with
 |none => rfl
 |some re =>
  simp only
  cases iF 0 lo with
  |none => rfl
  |some l => simp only; cases iF len hi <;> rfl
@[go_sem] theorem bAU (ty : TypeId) (s : List UInt8) (lo hi : Option aD) (t : Tag L) : slD P ty (.str s) lo hi L t = slF P ty (.str s) lo hi L () := by cases hi <;> rfl
@[go_sem] theorem bB8 (ty : TypeId) (sz : Nat) (es : List (List aD)) (b : Bool) (lo hi : Option aD) (t : Tag L) : slD P ty (.sl sz es b) lo hi L t = slF P ty (.sl sz es b) lo hi L () := by cases hi <;> rfl
@[go_sem] theorem bB9 (ty : TypeId) (n sz i len : Nat) (lo : Option aD) (y : aD) (t : Tag L) : slD P ty (.os n sz i len) lo (some y) L t = slF P ty (.os n sz i len) lo (some y) L () := rfl
@[go_sem] theorem bAV (ty : TypeId) (n sz i len : Nat) (lo : Option aD) (t : Tag L) : slD P ty (.os n sz i len) lo none L t = eO (jY P ty) (fun re => re.sz = sz ∧ eO (iF 0 lo) (fun l => 0 ≤ l ∧ l ≤ len ∧ (l < len → L (.os n sz (i + l.toNat) (len - l.toNat))) ∧ (l = len → L (.os n sz (i + len) 0) ∧ L (.sl sz [] true))) ()) () := by
 simp only [slD, nV, eO]
 cases jY P ty with
 |none => rfl
 |some re =>
  simp only
  cases iF 0 lo <;> rfl
@[go_sem] theorem bAW (ty : TypeId) (sz : Nat) (es : List (List aD)) (b : Bool) (lo : Option aD) (hi mx : aD) (t : Tag L) : aV7 P ty (.sl sz es b) lo hi mx L t = eO (jY P ty) (fun re => re.sz = sz ∧ eO (iF 0 lo) (fun l => eO (iF es.length (some hi)) (fun m => eO (iF 0 (some mx)) (fun M => 0 ≤ l ∧ l ≤ m ∧ m ≤ M ∧ M ≤ es.length ∧ L (.sl sz ((es.take m.toNat).drop l.toNat) (decide (M = m)))) ()) ()) ()) () := by
 simp only [aV7, mJ, eO]
 cases jY P ty with
 |none => rfl
 |some re =>
  simp only
  cases iF 0 lo with
  |none => rfl
  |some l =>
   simp only
   cases iF es.length (some hi) with
   |none => rfl
   |some m => simp only; cases iF 0 (some mx) <;> rfl
def aMK (P : Program) (τ : bB) (h : aB) (l : List ResultVar) (M : List aD → Prop) (_ : Tag M) : Prop := aR4 P τ h l M
@[go_sem] theorem a7G (τ : bB) (M : List aD → Prop) (t : Tag M) : aMK P τ h [] M t = M [] := rfl
@[go_sem] theorem a7H (τ : bB) (s : Tmp) (l : List ResultVar) (M : List aD → Prop) (t : Tag M) : aMK P τ h (.tmp s :: l) M t = aMK P τ h l (fun vs => M (bJ τ s :: vs)) () := rfl
@[go_sem] theorem a5N (τ : bB) (a : Tmp) (ty : TypeId) (l : List ResultVar) (M : List aD → Prop) (t : Tag M) : aMK P τ h (.cell a ty :: l) M t = ldF (gH P ty) (bJ τ a) h (fun v => aMK P τ h l (fun vs => M (v :: vs)) ()) () := rfl
def aJU (vs : List aD) (L : aD → Prop) (_ : Tag L) : Prop := match vs with | [v] => L v | vs => L (.gN vs)
@[go_sem] theorem a5O (t : Tag L) : aJU [] L t = L (.gN []) := rfl
@[go_sem] theorem a5P (v : aD) (t : Tag L) : aJU [v] L t = L v := rfl
@[go_sem] theorem a5Q (v w : aD) (vs : List aD) (t : Tag L) : aJU (v :: w :: vs) L t = L (.gN (v :: w :: vs)) := rfl
end
def p9 (P : Program) (rs : Array ResultVar) (K : aD → aB → Prop) (_ : Tag K) : Exit → bB → aB → Prop := yG P rs K
section
variable (P : Program) (rs : Array ResultVar) (K : aD → aB → Prop) (τ : bB) (h : aB)
@[go_sem] theorem aWH (t : Tag K) : p9 P rs K t .normal τ h = aMK P τ h rs.toList (fun vs => aJU vs (fun v => K v h) ()) () := rfl
@[go_sem] theorem a5R (t : Tag K) : p9 P rs K t .ret τ h = aMK P τ h rs.toList (fun vs => aJU vs (fun v => K v h) ()) () := rfl
@[go_sem] theorem a1W (i : Nat) (t : Tag K) : p9 P rs K t (.exit i) τ h = False := rfl
end
theorem dS {P : Program} {f : FuncId} {fn : Func} {c : Code} (N : Nat) (keep ib : List Nat) (mk : Marks) {args : List aD} {r : aD} (hmix : P.follows .mixedOrders = true) (hf : P.funcs[f]? = some fn) (hb : fn.body = some c)
  (hck : (kS P f && decide (fn.ntmps = N) && iS N mk c) = true) (hl : args.length ≤ N)
  (hw : ∀ h, oQ P N keep ib mk c (fun τ h' => p9 P fn.results (fun r' h' => r' = r ∧ h.le h') () .normal τ h') (p9 P fn.results (fun r' h' => r' = r ∧ h.le h') ()) (p6 0 args) h ()) : dV P f args r :=
 aV2 N keep ib mk hmix hf hb hck hl hw
theorem lO {P : Program} {f : FuncId} {fn : Func} {c : Code} (N : Nat) (keep ib : List Nat) (mk : Marks) {args : List aD} {r : aD} (hmix : P.follows .mixedOrders = true) (hf : P.funcs[f]? = some fn) (hb : fn.body = some c)
  (hck : (kS P f && decide (fn.ntmps = N) && iS N mk c) = true) (hl : args.length ≤ N)
  (hw : ∀ h, oQ P N keep ib mk c (fun τ h' => p9 P fn.results (fun r' h' => Shift r' h' r h) () .normal τ h') (p9 P fn.results (fun r' h' => Shift r' h' r h) ()) (p6 0 args) h ()) : dV P f args r :=
 aSE N keep ib mk hmix hf hb hck hl hw
theorem bX {P : Program} {N : Nat} {keep ib : List Nat} {mk : Marks} {c : Code} {Q : Exit → bB → aB → Prop} {τ : bB} {h : aB} {t : Tag (Code.loop c, Q)} {α : Type} (hmix : P.follows .mixedOrders = true) (hc : iS N mk c = true) (S : α → bB) (H : α → aB) (side : α → Prop) (μ : α → Nat) (x₀ : α)
  (h₀ : b8 (S x₀) τ ∧ (H x₀).le h ∧ side x₀)
  (round : ∀ x, side x → oQ P N keep ib mk c (fun τ' h' => ∃ x', b8 (S x') τ' ∧ (H x').le h' ∧ side x' ∧ μ x' < μ x) Q (S x) (H x) ()) : yH P N (.loop c) Q τ h t :=
 mI.bX S H side μ x₀ h₀ fun x hx => aC8 hmix c _ _ _ _ hc (round x hx)
theorem Sub.fI {sz sz' i off : Nat} {es : List (List aD)} {e e' : List aD} (he : es[i]? = some e) (h' : (e.drop off).take sz' = e') (hl : e'.length = sz') : Sub (.ip sz es i off) (.ip sz' [e'] 0 0) := fun E h w v r => by
 cases r with
 |ip _ _ _ _ b o cv hi hs hc h1 hr =>
  have hat : ∀ i' j x, gO [e'] i' j = some x → i' = 0 ∧ gO es i (off + j) = some x := by
   intro i' j x hx
   obtain ⟨e1, h1, h2⟩ := jH hx
   cases i' with
   |zero =>
    simp at h1; subst h1
    refine ⟨rfl, ?_⟩
    subst h'
    rw [List.getElem?_take] at h2
    split at h2
    ·rw [List.getElem?_drop] at h2
     simp [gO, he, h2]
    ·cases h2
   |succ n => simp at h1
  have := dY.ip (E := E) (h := h) (w := w) sz' [e'] 0 0 b (o + i * sz + off) (fun i' j => cv (i + i') (off + j)) hi (fun e1 he' => by simp at he'; subst he'; exact hl)
   (fun i' j x hx => by obtain ⟨rfl, hy⟩ := hat i' j x hx; have := hc i _ x hy; simpa [Nat.add_assoc] using this)
   (fun i' j x hx => by obtain ⟨rfl, hy⟩ := hat i' j x hx; exact h1 i _ x hy)
   (fun i' j x hx => by obtain ⟨rfl, hy⟩ := hat i' j x hx; exact hr i _ x hy)
  simpa using this
theorem Sub.ip {sz i : Nat} {es : List (List aD)} {e : List aD} (he : es[i]? = some e) (hl : e.length = sz) : Sub (.ip sz es i 0) (.ip sz [e] 0 0) :=
 Sub.fI he (by rw [List.drop_zero, List.take_of_length_le (by omega)]) hl
open Go.ChangeShapes Go.WideShapes
def s4 (P : Program) : Nat → TypeId → List aD → Prop
 |0, _, _ => False
 |n + 1, t, xs =>
  match P.underlying t with
  |some .bool => ∃ b, xs = [.bool b]
  |some (.int k) => ∃ i, xs = [.int k i] ∧ (Lit.int k i).wf = true
  |some .string => ∃ s, xs = [.str s]
  |some (.slice e) => ∃ es, xs = [.sl (P.cellsOf e) es false] ∧ ∀ y ∈ es, s4 P n e y
  |some (.struct fs) => xs.length = P.cellsOf t ∧ ∀ (i : Nat) (f : Field), fs[i]? = some f → s4 P n f.type ((xs.drop f.offset).take (P.cellsOf f.type))
  | _ => False
def vF (P : Program) : List Field → Nat → Option Nat
 | [], o => some o
 |f :: fs, o => if f.offset = o then vF P fs (o + P.cellsOf f.type) else none
def aQM (P : Program) (T : List TypeId) : Bool := T.all fun t =>
 match P.underlying t with
 |some .bool | some (.int _) | some .string => P.cellsOf t == 1
 |some (.slice e) => P.cellsOf t == 1 && decide (0 < P.cellsOf e) && T.contains e
 |some (.struct fs) => (vF P fs.toList 0 == some (P.cellsOf t)) && fs.toList.all (fun f => T.contains f.type)
 | _ => false
theorem yL {P : Program} {T : List TypeId} (hT : aQM P T = true) : ∀ (n : Nat) (t : TypeId) (xs : List aD), t ∈ T → s4 P n t xs → xs.length = P.cellsOf t ∧ xs.all aD.flat = true
 |0, _, _, _, h => h.elim
 |n + 1, t, xs, ht, h => by
  have hd := List.all_eq_true.1 hT t ht
  unfold s4 at h
  split at h
  ·rename_i hu; rw [hu] at hd; obtain ⟨b, rfl⟩ := h; exact ⟨by simpa using (of_decide_eq_true hd).symm, rfl⟩
  ·rename_i hu; rw [hu] at hd; obtain ⟨i, rfl, _⟩ := h; exact ⟨by simpa using (of_decide_eq_true hd).symm, rfl⟩
  ·rename_i hu; rw [hu] at hd; obtain ⟨s, rfl⟩ := h; exact ⟨by simpa using (of_decide_eq_true hd).symm, rfl⟩
  ·rename_i e hu
   rw [hu] at hd; obtain ⟨es, rfl, _⟩ := h
   simp only [Bool.and_eq_true, beq_iff_eq] at hd
   exact ⟨by simp [hd.1.1], rfl⟩
  ·rename_i fs hu
   rw [hu] at hd
   obtain ⟨hl, hf⟩ := h
   refine ⟨hl, ?_⟩
   simp only [Bool.and_eq_true, beq_iff_eq, List.all_eq_true] at hd
   have key : ∀ (l : List Field) (o : Nat), (∀ f ∈ l, T.contains f.type = true ∧ s4 P n f.type ((xs.drop f.offset).take (P.cellsOf f.type))) → vF P l o = some (P.cellsOf t) → (xs.drop o).all aD.flat = true := by
    intro l
    induction l with
    |nil => intro o _ ho; simp only [vF, Option.some.injEq] at ho; rw [List.drop_eq_nil_of_le (by omega)]; rfl
    |cons f l ih =>
     intro o hl' ho
     simp only [vF] at ho
     split at ho
     ·rename_i e
      have h1 := hl' f List.mem_cons_self
      have h2 := (yL hT n _ _ (by simpa using h1.1) h1.2).2
      have h3 := ih _ (fun g hg => hl' g (List.mem_cons_of_mem _ hg)) ho
      rw [e] at h2
      rw [← List.take_append_drop (P.cellsOf f.type) (xs.drop o), List.all_append, h2, List.drop_drop, h3]; rfl
     ·cases ho
   have := key fs.toList 0 (fun f hf' => by
    obtain ⟨i, hi⟩ := List.getElem?_of_mem hf'
    exact ⟨hd.2 f hf', hf i f (by simpa using hi)⟩) hd.1
   simpa using this
  ·exact h.elim
section
variable {H : Type} {enc : TypeId × Value → H} {P : Program} {w : World} {base : Nat} {sp : Nat → Bool} {held : Bool}
theorem aAE {E : Env} {h : aB} {xs : List aD} {vs : List Value} (hr : cX E h w xs vs) (hf : xs.all aD.flat = true) (j : Nat) (v : Value) (hv : vs[j]? = some v) : v.oneCell' = true := by
 obtain ⟨hj, _⟩ := List.getElem?_eq_some_iff.1 hv
 have hl := hr.length
 have hx : xs[j]? = some xs[j] := List.getElem?_eq_getElem (by omega)
 exact (dY.m8 (hr.get j _ _ hx hv) (List.all_eq_true.1 hf _ (List.mem_of_getElem? hx))).1
theorem aDA {T : List TypeId} (hT : aQM P T = true) {E : Env} {h : aB} (hI : ∀ b, b < w.heap.size → mH E h w b) :
  ∀ (n : Nat) (t : TypeId) (cs : List Value) (x : DataW H × List MemPlace), t ∈ T → DataW.trod enc P w base sp held n t cs = some x → ∃ xs, s4 P n t xs ∧ cX E h w xs cs
 |0, t, cs, x, _, hx => by simp [DataW.trod] at hx
 |n + 1, t, cs, x, ht, hx => by
  have hd := List.all_eq_true.1 hT t ht
  match hu : P.underlying t with
  |some .bool =>
   obtain ⟨b, rfl, _⟩ := DataW.trod_bool hu hx
   exact ⟨[.bool b], by simp only [s4, hu]; exact ⟨b, rfl⟩, ⟨.bool b, trivial⟩⟩
  |some (.int k) =>
   obtain ⟨i, rfl, _, hw⟩ := DataW.trod_int hu hx
   exact ⟨[.int k i], by simp only [s4, hu]; exact ⟨i, rfl, hw⟩, ⟨.int k i, trivial⟩⟩
  |some .string =>
   obtain ⟨s, rfl, _, hs⟩ := DataW.trod_string hu hx
   refine ⟨[.str s.data.toList], by simp only [s4, hu]; exact ⟨_, rfl⟩, ⟨?_, trivial⟩⟩
   have : s = ⟨s.data.toList.toArray⟩ := by cases s; simp
   rw [this]
   exact .str _ (by simpa using hs)
  |some (.slice e) =>
   rw [hu] at hd
   simp only [Bool.and_eq_true, beq_iff_eq, decide_eq_true_eq, List.contains_iff_mem] at hd
   rcases DataW.trod_slice hu hx with ⟨rfl, _⟩ | ⟨a, len, cap, elems, rest, m, hm, rfl, _, hb, hlc, hmax, hel, hcell, _, _⟩
   ·exact ⟨[.sl (P.cellsOf e) [] false], by simp only [s4, hu]; exact ⟨[], rfl, by simp⟩, ⟨.wW _ _ _ _ (fun e => by simp at e) (by simp) trivial, trivial⟩⟩
   ·obtain rfl : n = m := by omega

    have each : ∀ i, i < len → ∃ ys vs, s4 P n e ys ∧ cX E h w ys vs ∧ w.cells? base (a.add (i * P.cellsOf e)) (P.cellsOf e) = some vs := by
     intro i hi
     have h1 := hcell i hi
     have hi' : i < elems.length := by omega
     rw [List.getElem?_eq_getElem hi'] at h1
     simp only [Option.bind_eq_some_iff] at h1
     obtain ⟨vs, h2, h3⟩ := h1
     obtain ⟨ys, h4, h5⟩ := aDA hT hI n e vs _ hd.2 h3
     exact ⟨ys, vs, h4, h5, h2⟩
    let ys : Nat → List aD := fun i => if hi : i < len then Classical.choose (each i hi) else []
    have hys : ∀ i, i < len → ∃ vs, s4 P n e (ys i) ∧ cX E h w (ys i) vs ∧ w.cells? base (a.add (i * P.cellsOf e)) (P.cellsOf e) = some vs := by
     intro i hi
     have := Classical.choose_spec (each i hi)
     simpa only [ys, dif_pos hi] using this
    by_cases h0 : len = 0
    ·subst h0
     exact ⟨[.sl (P.cellsOf e) [] false], by simp only [s4, hu]; exact ⟨[], rfl, by simp⟩, ⟨.wW _ _ _ _ (fun e => by simp at e) hmax trivial, trivial⟩⟩
    have hpos : 0 < P.cellsOf e := hd.1.2

    obtain ⟨b, o, spot⟩ := a
    obtain ⟨vs0, _, _, pB⟩ := hys 0 (by omega)
    have bCB := World.cells?_some pB
    have hz : w.cell? ((Addr.add ⟨b, o, spot⟩ (0 * P.cellsOf e)).add 0) = vs0[0]? := bCB.2.2 0 hpos
    have lV : vs0[0]? = some vs0[0] := List.getElem?_eq_getElem (by omega)
    rw [lV] at hz
    have hspot : spot = none := by
     have := World.cell?_spot hz
     simpa [Addr.add] using this
    subst hspot
    have hblt : b < w.heap.size := by
     have := World.cells?_block pB hpos
     simpa [Addr.add] using this
    have hmap : ∀ i, i < len → ((List.range len).map ys)[i]? = some (ys i) := fun i hi => by simp [hi]
    refine ⟨[.sl (P.cellsOf e) ((List.range len).map ys) false], ?_, ⟨?_, trivial⟩⟩
    ·simp only [s4, hu]
     refine ⟨_, rfl, fun y hy => ?_⟩
     simp only [List.mem_map, List.mem_range] at hy
     obtain ⟨i, hi, rfl⟩ := hy
     obtain ⟨vs, h1, _⟩ := hys i hi
     exact h1
    ·have hlen : len = ((List.range len).map ys).length := by simp
     have cells : ∀ i j x, gO ((List.range len).map ys) i j = some x → ∃ v, w.cell? ⟨b, o + i * P.cellsOf e + j, none⟩ = some v ∧ v.oneCell' = true ∧ dY E h w x v := by
      intro i j x hx
      have hi : i < len := by have := aRT hx; simpa using this
      obtain ⟨y, hy, hj⟩ := jH hx
      rw [hmap i hi] at hy
      obtain rfl := Option.some.inj hy
      obtain ⟨vs, h1, h2, h3⟩ := hys i hi
      have hone := yL hT n e _ hd.2 h1
      have hjl : j < (ys i).length := (List.getElem?_eq_some_iff.1 hj).1
      have h4 := World.cells?_some h3
      have hjv : j < vs.length := by rw [h2.length] at hjl; exact hjl
      have hv : vs[j]? = some vs[j] := List.getElem?_eq_getElem hjv
      refine ⟨vs[j], ?_, aAE h2 hone.2 j _ hv, h2.get j x _ hj hv⟩
      have h5 := h4.2.2 j (by omega)
      rw [hv] at h5
      rw [← h5]
      rw [j7, j7]
     have cellsC : ∀ i j, ∃ v, ∀ x, gO ((List.range len).map ys) i j = some x → w.cell? ⟨b, o + i * P.cellsOf e + j, none⟩ = some v ∧ v.oneCell' = true ∧ dY E h w x v := by
      intro i j
      match hx : gO ((List.range len).map ys) i j with
      |none => exact ⟨.bool true, fun x h => by simp at h⟩
      |some x =>
       obtain ⟨v, h1⟩ := cells i j x hx
       exact ⟨v, fun y hy => by obtain rfl := Option.some.inj hy; exact h1⟩
     let cv : Nat → Nat → Value := fun i j => Classical.choose (cellsC i j)
     have hcv : ∀ i j x, gO ((List.range len).map ys) i j = some x → w.cell? ⟨b, o + i * P.cellsOf e + j, none⟩ = some (cv i j) ∧ (cv i j).oneCell' = true ∧ dY E h w x (cv i j) := fun i j => Classical.choose_spec (cellsC i j)
     have := dY.sl (E := E) (h := h) (w := w) (P.cellsOf e) ((List.range len).map ys) false b o cap cv (hI b hblt) (by simpa using hlc) hmax (fun e => by simp at e)
      (fun y hy => by
       simp only [List.mem_map, List.mem_range] at hy
       obtain ⟨i, hi, rfl⟩ := hy
       obtain ⟨vs, h1, _⟩ := hys i hi
       exact (yL hT n e _ hd.2 h1).1)
      (fun i j x hx => (hcv i j x hx).1) (fun i j x hx => (hcv i j x hx).2.1) (fun i j x hx => (hcv i j x hx).2.2)
     rw [← hlen] at this
     exact this
  |some (.struct fs) =>
   rw [hu] at hd
   simp only [Bool.and_eq_true, beq_iff_eq, List.all_eq_true] at hd
   obtain ⟨xs, m, hm, rfl, hl, hfl, hf⟩ := DataW.trod_struct hu hx
   obtain rfl : n = m := by omega

   have key : ∀ (l : List Field) (o : Nat), (∀ f ∈ l, T.contains f.type = true ∧ ∃ y, DataW.trod enc P w base sp held n f.type ((cs.drop f.offset).take (P.cellsOf f.type)) = some y) → vF P l o = some (P.cellsOf t) →
     ∃ ys, cX E h w ys (cs.drop o) ∧ ∀ f ∈ l, o ≤ f.offset ∧ s4 P n f.type ((ys.drop (f.offset - o)).take (P.cellsOf f.type)) := by
    intro l
    induction l with
    |nil =>
     intro o _ ho
     simp only [vF, Option.some.injEq] at ho
     rw [List.drop_eq_nil_of_le (by omega)]
     exact ⟨[], trivial, fun f hf => by simp at hf⟩
    |cons f l ih =>
     intro o hl' ho
     simp only [vF] at ho
     split at ho
     ·rename_i e
      obtain ⟨hc, y, hy⟩ := hl' f List.mem_cons_self
      obtain ⟨zs, hz1, hz2⟩ := aDA hT hI n f.type _ y (by simpa using hc) hy
      obtain ⟨ys, hy1, hy2⟩ := ih _ (fun g hg => hl' g (List.mem_cons_of_mem _ hg)) ho
      have hzl := (yL hT n _ _ (by simpa using hc) hz1).1
      rw [e] at hz2
      have hjoin : cX E h w (zs ++ ys) (cs.drop o) := by
       have := cX.append hz2 hy1
       rw [← List.take_append_drop (P.cellsOf f.type) (cs.drop o), List.drop_drop]
       exact this
      refine ⟨zs ++ ys, hjoin, fun g hg => ?_⟩
      rcases List.mem_cons.1 hg with rfl | hg
      ·refine ⟨by omega, ?_⟩
       rw [e, Nat.sub_self, List.drop_zero, List.take_append_of_le_length (by omega), List.take_of_length_le (by omega)]
       exact hz1
      ·obtain ⟨h1, h2⟩ := hy2 g hg
       refine ⟨by omega, ?_⟩
       rw [List.drop_append, hzl, List.drop_eq_nil_of_le (by omega), List.nil_append, show g.offset - o - P.cellsOf f.type = g.offset - (o + P.cellsOf f.type) by omega]
       exact h2
     ·cases ho
   obtain ⟨ys, h1, h2⟩ := key fs.toList 0 (fun f hf' => by
    obtain ⟨i, hi⟩ := List.getElem?_of_mem hf'
    have hi' : fs[i]? = some f := by simpa using hi
    refine ⟨hd.2 f hf', ?_⟩
    have := hf i f hi'
    have hil : i < xs.length := by rw [hfl]; exact (Array.getElem?_eq_some_iff.1 hi').1
    rw [List.getElem?_eq_getElem hil] at this
    exact ⟨_, this⟩) hd.1
   rw [List.drop_zero] at h1
   refine ⟨ys, ?_, h1⟩
   simp only [s4, hu]
   refine ⟨h1.length.trans hl, fun i f hf' => ?_⟩
   have := h2 f (by have := Array.mem_of_getElem? hf'; simpa using this)
   simpa using this.2
  |none | some .invalid | some (.float _) | some (.complex _) | some .unsafePointer | some (.named ..) | some (.pointer _) | some (.array ..) | some (.map ..) | some (.func ..) | some (.interface _) | some (.chan ..) | some (.tuple _) => all_goals (rw [hu] at hd; simp at hd)
end
open Go.ChangeShapes Go.WideShapes
def aBP (P : Program) (n : Nat) (t : TypeId) (x : aD) : Prop :=
 match P.underlying t with
 |some (.struct _) => ∃ ys, x = .agg ys ∧ s4 P n t ys
 | _ => s4 P n t [x]
def aJV (P : Program) : List TypeId → List aD → Prop
 | [], [] => True
 |t :: ts, x :: xs => (∃ n, aBP P n t x) ∧ aJV P ts xs
 | _, _ => False
section
variable {H : Type} {enc : TypeId × Value → H} {P : Program} {w : World} {base : Nat} {sp : Nat → Bool} {held : Bool}
theorem aSK {T : List TypeId} (hT : aQM P T = true) {E : Env} {h : aB} (hI : ∀ b, b < w.heap.size → mH E h w b) {t : TypeId} (ht : t ∈ T) {v : Value} {d : DataW H} {ps : List MemPlace}
  (hok : Value.okWide P w .any base t v) (hr : DataW.Trod enc P w 0 sp held t v d ps) : ∃ x n, aBP P n t x ∧ dY E h w x v := by
 obtain ⟨n, hr⟩ := hr
 obtain ⟨xs, h1, h2⟩ := aDA hT hI n t _ _ ht hr
 have hd := List.all_eq_true.1 hT t ht
 match hu : P.underlying t with
 |some (.struct fs) =>
  obtain ⟨cs, rfl, _⟩ := okWide_struct hu hok
  exact ⟨.agg xs, n, by simp only [aBP, hu]; exact ⟨xs, rfl, h1⟩, .agg xs cs.toList h2.length h2.get⟩
 |some .bool =>
  obtain ⟨b, rfl⟩ := okWide_bool hu hok
  have hone := yL hT n t xs ht h1
  match xs, h2 with
  | [x], h2 => exact ⟨x, n, by simp only [aBP, hu]; exact h1, by simpa [Value.cells] using h2.1⟩
  | [], h2 => exact h2.elim
  | _ :: _ :: _, h2 => exact h2.2.elim
 |some (.int k) =>
  obtain ⟨b, rfl⟩ := okWide_int hu hok
  match xs, h2 with
  | [x], h2 => exact ⟨x, n, by simp only [aBP, hu]; exact h1, by simpa [Value.cells] using h2.1⟩
  | [], h2 => exact h2.elim
  | _ :: _ :: _, h2 => exact h2.2.elim
 |some .string =>
  obtain ⟨b, rfl⟩ := okWide_string hu hok
  match xs, h2 with
  | [x], h2 => exact ⟨x, n, by simp only [aBP, hu]; exact h1, by simpa [Value.cells] using h2.1⟩
  | [], h2 => exact h2.elim
  | _ :: _ :: _, h2 => exact h2.2.elim
 |some (.slice e) =>
  obtain ⟨a, len, cap, rfl⟩ := okWide_slice hu hok
  match xs, h2 with
  | [x], h2 => exact ⟨x, n, by simp only [aBP, hu]; exact h1, by simpa [Value.cells] using h2.1⟩
  | [], h2 => exact h2.elim
  | _ :: _ :: _, h2 => exact h2.2.elim
 |none | some .invalid | some (.float _) | some (.complex _) | some .unsafePointer | some (.named ..) | some (.pointer _) | some (.array ..) | some (.map ..) | some (.func ..) | some (.interface _) | some (.chan ..) | some (.tuple _) => all_goals (rw [hu] at hd; simp at hd)
theorem aFR {T : List TypeId} (hT : aQM P T = true) {E : Env} {h : aB} (hI : ∀ b, b < w.heap.size → mH E h w b) : ∀ {ts : List TypeId} {vs : List Value} {ds : List (DataW H)} {ps : List MemPlace},
  (∀ t ∈ ts, t ∈ T) → (∀ (j : Nat) t v, ts[j]? = some t → vs[j]? = some v → Value.okWide P w .any base t v) → DataW.TrodAll enc P w 0 sp held ts vs ds ps → ∃ xs, aJV P ts xs ∧ cX E h w xs vs ∧ ds.length = ts.length
 | [], [], [], _, _, _, _ => ⟨[], trivial, trivial, rfl⟩
 |t :: ts, v :: vs, d :: ds, _, ht, hok, ⟨p, q, h1, h2, _⟩ => by
  obtain ⟨x, n, h3, h4⟩ := aSK hT hI (ht t List.mem_cons_self) (hok 0 t v rfl rfl) h1
  obtain ⟨xs, h5, h6, h7⟩ := aFR hT hI (fun t' h' => ht t' (List.mem_cons_of_mem _ h')) (fun j t' v' a b => hok (j + 1) t' v' (by simpa using a) (by simpa using b)) h2
  exact ⟨x :: xs, ⟨⟨n, h3⟩, h5⟩, ⟨h4, h6⟩, by simp [h7]⟩
 | [], _ :: _, _, _, _, _, h => by cases ‹List (DataW H)› <;> exact h.elim
 | [], [], _ :: _, _, _, _, h => h.elim
 | _ :: _, [], _, _, _, _, h => by cases ‹List (DataW H)› <;> exact h.elim
 | _ :: _, _ :: _, [], _, _, _, h => h.elim
end
theorem wR {H : Type} {enc : TypeId × Value → H} {P : Program} {w w' : World} {base : Nat} {sp : Nat → Bool} {held : Bool} : ∀ {ts : List TypeId} {vs : List Value} {ds : List (DataW H)} {ps : List MemPlace},
  DataW.TrodAll enc P w base sp held ts vs ds ps → (∀ p ∈ ps, w.sameAt w' p) → DataW.TrodAll enc P w' base sp held ts vs ds ps
 | [], [], [], _, h, _ => h
 | _ :: _, _ :: _, _ :: _, _, ⟨p, q, ⟨n, h1⟩, h2, e⟩, hs => ⟨p, q, ⟨n, DataW.trod_carry n _ _ _ h1 (fun x hx => hs x (by rw [e]; exact List.mem_append_left _ hx))⟩, wR h2 (fun x hx => hs x (by rw [e]; exact List.mem_append_right _ hx)), e⟩
 | [], _ :: _, _, _, h, _ => by cases ‹List (DataW H)› <;> exact h.elim
 | [], [], _ :: _, _, h, _ => h.elim
 | _ :: _, [], _, _, h, _ => by cases ‹List (DataW H)› <;> exact h.elim
 | _ :: _, _ :: _, [], _, h, _ => h.elim
theorem aDB {w w' : World} {p : MemPlace} (h : w'.heap[p.block]? = w.heap[p.block]?) : w.sameAt w' p := by
 cases p with
 |cell b o => exact rL h o none
 |map b => exact h
theorem aSL {H : Type} {enc : TypeId × Value → H} {P : Program} (lo : laidOutB P = true) (mr : mapsRowed P = true)
  (hz : ((List.range P.types.size).all fun t => match P.underlying t with | some (.slice e) => decide (0 < P.cellsOf e) | _ => true) = true)
  {fn : Func} (hT : fn.params.all (fun t => decide (t < P.types.size)) = true) {s : ChangeSpec} (hsv : s.vars = []) (hs : ∀ ds : List (DataW H), ds.length = fn.params.size → s.fn H ds = { results := [.lit (.bool true)], args := ds })
  {tb : TypeId} (hr : fn.resultTypes = #[tb]) (htb : P.underlying tb = some .bool) {W W' : World} {args : Array Value} {ds gs : List (DataW H)} {before : List MemPlace}
  (hW : DataW.Whole enc P fn.params.toList s.vars false W args.toList ds gs before) (hl : ds.length = fn.params.size)
  (hheap : ∀ b, b < W.heap.size → W'.heap[b]? = W.heap[b]?) (hos : W'.os = W.os) (hout : W'.output = W.output) :
  s.post enc P fn false true false false W args (.bool true) W' := by
 have hlt := hW.lt
 have hW0 := hW
 obtain ⟨p, q, hA, hV, rfl, hfz, _⟩ := hW
 rw [hsv] at hV
 have hgs : gs = [] ∧ q = [] := by
  match gs, hV with
  | [], h => exact ⟨rfl, h⟩
 obtain ⟨rfl, rfl⟩ := hgs
 rw [List.append_nil] at hlt hfz hW0
 have e : s.fn H (ds ++ []) = { results := [.lit (.bool true)], args := ds } := by rw [List.append_nil]; exact hs ds hl
 refine ⟨ds, [], p, [], p, [], hW0, ?_, ?_, ?_, ?_, fun h => by simp at h⟩
 ·rw [e]
  simp only [hr]
  refine ⟨[], [], ⟨1, ?_⟩, rfl, rfl⟩
  simp [DataW.trod, htb, Value.cells]
 ·rw [e]
  have h1 : DataW.TrodAll enc P W' 0 (fun _ => true) true fn.params.toList args.toList ds p := wR hA fun x hx => aDB (hheap _ (hlt x hx))
  refine DataW.TrodAll.respare (kids_rows lo mr) (fun t e ht hu => slices_full_of P hz t e ht hu) (fun t ht => ?_) h1 (fun x hx => by simpa using hlt x hx)
  have := Array.all_eq_true_iff_forall_mem.1 hT t (by simpa using ht)
  simpa using this
 ·rw [e, hsv]; exact rfl
 ·refine ⟨hos, hout, fun i hi => ?_⟩
  rw [hheap i hi]
  have hi' : W.heap[i]? = some W.heap[i] := Array.getElem?_eq_getElem hi
  rw [hi']
  cases W.heap[i] with
  |cells c t fr => exact ⟨rfl, rfl, rfl, fun _ _ => rfl⟩
  |map es clock => exact .inr ⟨rfl, rfl⟩
  | _ => rfl
def nX : aB := fun _ => none
def aJW : Env where
 loc := fun _ => none
 fp := fun _ _ => False
 used := fun _ => False
theorem aSM (w : World) (hl : uV aJW nX w) : Rel aJW nX w where
 fin := ⟨0, fun n _ h => h⟩
 dom := fun n h => absurd rfl h
 lt := fun n o b h => by simp [nX] at h
 apart := fun n o m o' b h => by simp [nX] at h
 obj := fun n o h => by simp [nX] at h
 laid := hl
theorem aJX {w : World} {b : Nat} (hb : b < w.heap.size) : mH aJW nX w b := ⟨hb, fun n o h => by simp [nX] at h⟩
def a6 (P : Program) (f : FuncId) (args : List aD) (r : aD) (h0 : aB) : Prop := ∀ h : aB, h0.le h → eH P f args h fun r' h' => r' = r ∧ h' = h
theorem dV.aWI {P : Program} {f : FuncId} {args : List aD} {r : aD} {h0 : aB} (a : dV P f args r) : a6 P f args r h0 := fun h _ => a h
theorem a6.mono {P : Program} {f : FuncId} {args : List aD} {r : aD} {h0 h1 : aB} (hl : h0.le h1) (a : a6 P f args r h0) : a6 P f args r h1 := fun h q => a h (aB.le_trans hl q)
theorem aQN (h : aB) : nX.le h := fun _ => .inl rfl
theorem a6.cK {P : Program} {f : FuncId} {args : List aD} {r : aD} (a : a6 P f args r nX) : dV P f args r := fun h => a h (aQN h)
theorem aG.a8 {P : Program} {g : FuncId} {args : List aD} {h : aB} {K : aD → aB → Prop} {t : Tag K} {r : aD} (a : a6 P g args r h) (k : K r h) : aG P g args h K t :=
 eH.mono (a h (aB.le_refl h)) fun _ _ ⟨e, e'⟩ => e ▸ e' ▸ k
theorem aG.fF {P : Program} {g : FuncId} {args : List aD} {h : aB} {K K' : aD → aB → Prop} {t : Tag K} (a : eH P g args h K') (k : ∀ r h', K' r h' → K r h') : aG P g args h K t := eH.mono a k
theorem aB.a1X {h0 h : aB} (hl : h0.le h) {n : Nat} {o : bL} (hn : h0 n = some o) : h n = some o := by
 rcases hl n with e | e
 ·rw [hn] at e; cases e
 ·rw [← e]; exact hn
theorem aAF {P : Program} {f : FuncId} {fn : Func} {c : Code} (N : Nat) (keep ib : List Nat) (mk : Marks) {args : List aD} {h : aB} {K : aD → aB → Prop} (hmix : P.follows .mixedOrders = true) (hf : P.funcs[f]? = some fn) (hb : fn.body = some c)
  (hck : (kS P f && decide (fn.ntmps = N) && iS N mk c) = true) (hl : args.length ≤ N)
  (hw : oQ P N keep ib mk c (fun τ h' => p9 P fn.results (fun r h' => ∃ g : aB, g.le h' ∧ K r g) () .normal τ h') (p9 P fn.results (fun r h' => ∃ g : aB, g.le h' ∧ K r g) ()) (p6 0 args) h ()) : eH P f args h K :=
 aC5 N keep ib mk hmix hf hb hck hl (K' := fun r h' => ∃ g : aB, g.le h' ∧ K r g) hw fun _ _ hx => hx
theorem aJY {P : Program} {f : FuncId} {fn : Func} {c : Code} (N : Nat) (keep ib : List Nat) (mk : Marks) {args : List aD} {r : aD} {h0 : aB} (hmix : P.follows .mixedOrders = true) (hf : P.funcs[f]? = some fn) (hb : fn.body = some c)
  (hck : (kS P f && decide (fn.ntmps = N) && iS N mk c) = true) (hl : args.length ≤ N)
  (hw : ∀ h : aB, h0.le h → oQ P N keep ib mk c (fun τ h' => p9 P fn.results (fun r' h' => r' = r ∧ h.le h') () .normal τ h') (p9 P fn.results (fun r' h' => r' = r ∧ h.le h') ()) (p6 0 args) h ()) : a6 P f args r h0 :=
 fun h hle => aC5 N keep ib mk hmix hf hb hck hl (K' := fun r' h' => r' = r ∧ h.le h') (hw h hle) fun _ _ hx => ⟨h, hx.2, hx.1, rfl⟩
end Go.Hl

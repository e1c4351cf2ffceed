/-
  Contracts of functions and laws of the layer over the walk.
-/
import Derived.Test.YtgkipnacdihfnaaGreatHlB
import Derived.ReadAgain
import Derived.ChangeArms
import Derived.ChangeSame
import Derived.Handed
import Derived.JoinedOf
namespace Go.Hl
attribute [go_sem] List.nil_append List.cons_append
theorem nn (n : Nat) : (0 ≤ (n : Int)) = True := by simp
attribute [go_sem] aZ7 tS aA9 x7 a6F sH rI yA aF2 wB aNG sR qE ld aEB x3 oT lH xN vC r6 rK b6 fY sU aD.ofValue aD.pH mR Hl.prune dF jJ
 aG cW nn aP
attribute [go_sem] Call.operands Array.toList_append Option.map List.map Option.bind List.contains List.elem List.filterMap Op.operands Option.toList Array.size List.all List.set
attribute [go_sem] if_true if_false Option.bind_some Option.bind_none List.toList_toArray List.getElem?_toArray List.getElem?_cons_zero List.getElem?_cons_succ true_and and_true forall_const Bool.true_eq_false Bool.false_eq_true false_implies implies_true decide_true decide_false List.length_map BEq.rfl List.append_nil List.getElem?_map Int.toNat_natCast Bool.not_eq_true' Bool.not_eq_false' decide_eq_true_eq decide_eq_false_iff_not Int.natCast_inj Int.ofNat_lt Int.ofNat_le Bool.not_true Bool.not_false aD.int.injEq aD.bool.injEq aA.le_refl
attribute [go_sem] ne_eq Bool.and_self Bool.true_and Bool.and_true Bool.false_and Bool.and_false Int.reduceLT Int.reduceNeg Int.reduceLE Int.reduceEq Nat.reduceLeDiff Nat.reduceSub Nat.reduceMul Nat.zero_add Nat.add_zero List.length_cons List.length_nil List.drop_zero List.take_zero List.take_nil List.drop_nil List.take_succ_cons List.drop_succ_cons List.replicate List.map_nil List.map_cons List.length_map not_true_eq_false not_false_eq_true true_implies decide_not ite_not
attribute [go_sem] Bool.true_or Bool.false_or Bool.or_true Bool.or_false Nat.reduceAdd Nat.reduceEqDiff Nat.reduceBEq reduceCtorEq
@[go_sem] theorem bAD  : aD.cells (aD.any) = [(aD.any)] := rfl
@[go_sem] theorem bB5  : aD.flat (aD.any) = false := rfl
@[go_sem] theorem a6O (b : Bool) : aD.cells (aD.bool b) = [(aD.bool b)] := rfl
@[go_sem] theorem bAE (b : Bool) : aD.flat (aD.bool b) = true := rfl
@[go_sem] theorem bAF (k : IntKind) (n : Int) : aD.cells (aD.int k n) = [(aD.int k n)] := rfl
@[go_sem] theorem bB6 (k : IntKind) (n : Int) : aD.flat (aD.int k n) = true := rfl
@[go_sem] theorem bAG (s : List UInt8) : aD.cells (aD.str s) = [(aD.str s)] := rfl
@[go_sem] theorem bB7 (s : List UInt8) : aD.flat (aD.str s) = true := rfl
@[go_sem] theorem a0D  : aD.cells (aD.kH) = [(aD.kH)] := rfl
@[go_sem] theorem a4A  : aD.flat (aD.kH) = true := rfl
@[go_sem] theorem a4B  : aD.cells (aD.bI) = [(aD.bI)] := rfl
@[go_sem] theorem a6P  : aD.flat (aD.bI) = true := rfl
@[go_sem] theorem a4C  : aD.cells (aD.uY) = [(aD.uY)] := rfl
@[go_sem] theorem a6Q  : aD.flat (aD.uY) = true := rfl
@[go_sem] theorem a4D  : aD.cells (aD.mT) = [(aD.mT)] := rfl
@[go_sem] theorem a6R  : aD.flat (aD.mT) = true := rfl
@[go_sem] theorem a0E  : aD.cells (aD.qD) = [(aD.qD)] := rfl
@[go_sem] theorem a4E  : aD.flat (aD.qD) = true := rfl
@[go_sem] theorem bB8 (sz : Nat) (es : List (List aD)) (b : Bool) : aD.cells (aD.sl sz es b) = [(aD.sl sz es b)] := rfl
@[go_sem] theorem bHQ (sz : Nat) (es : List (List aD)) (b : Bool) : aD.flat (aD.sl sz es b) = true := rfl
@[go_sem] theorem bB9 (sz : Nat) (es : List (List aD)) (i o : Nat) : aD.cells (aD.ip sz es i o) = [(aD.ip sz es i o)] := rfl
@[go_sem] theorem bHR (sz : Nat) (es : List (List aD)) (i o : Nat) : aD.flat (aD.ip sz es i o) = true := rfl
@[go_sem] theorem bCA (n sz i l : Nat) : aD.cells (aD.os n sz i l) = [(aD.os n sz i l)] := rfl
@[go_sem] theorem bHS (n sz i l : Nat) : aD.flat (aD.os n sz i l) = true := rfl
@[go_sem] theorem bCB (n sz i l : Nat) : aD.cells (aD.op n sz i l) = [(aD.op n sz i l)] := rfl
@[go_sem] theorem bHT (n sz i l : Nat) : aD.flat (aD.op n sz i l) = true := rfl
@[go_sem] theorem bAH (cs : List aD) : aD.cells (aD.kL cs) = [(aD.kL cs)] := rfl
@[go_sem] theorem bCC (cs : List aD) : aD.flat (aD.kL cs) = false := rfl
@[go_sem] theorem bCD (f : Fn) (a b : List aD) : aD.cells (aD.fn f a b) = [(aD.fn f a b)] := rfl
@[go_sem] theorem bHU (f : Fn) (a b : List aD) : aD.flat (aD.fn f a b) = true := rfl
@[go_sem] theorem a4F (t : TypeId) (v : aD) : aD.cells (aD.iface t v) = [(aD.iface t v)] := rfl
@[go_sem] theorem a6S (t : TypeId) (v : aD) : aD.flat (aD.iface t v) = true := rfl
@[go_sem] theorem bCE (n : Nat) : aD.cells (aD.mp n) = [(aD.mp n)] := rfl
@[go_sem] theorem bHV (n : Nat) : aD.flat (aD.mp n) = true := rfl
@[go_sem] theorem bAI (cs : List aD) : aD.cells (.agg cs) = cs := rfl
@[go_sem] theorem bCF (cs : List aD) : aD.flat (.agg cs) = false := rfl
@[go_sem] theorem a6T : maxLen = 9223372036854775807 := rfl
set_option linter.unusedVariables false
set_option linter.unusedSimpArgs false
def Sub (x y : aD) : Prop := ∀ E h w v, fL E h w x v → fL E h w y v
theorem Sub.refl (x : aD) : Sub x x := fun _ _ _ _ r => r
theorem Sub.trans {x y z : aD} (a : Sub x y) (b : Sub y z) : Sub x z := fun E h w v r => b E h w v (a E h w v r)
theorem Sub.any (x : aD) : Sub x .any := fun _ _ _ v _ => .any v
theorem Sub.nil (sz : Nat) (t : Bool) : Sub .bI (.sl sz [] t) := fun E h w v r => by
 cases r
 exact .sl0 sz t none 0 (fun _ => rfl) (by simp [maxLen]) trivial
theorem Sub.loose (sz : Nat) (es : List (List aD)) (t : Bool) : Sub (.sl sz es t) (.sl sz es false) := fun E h w v r => by
 cases r with
 |sl0 _ _ a cap ht hmax ha => exact .sl0 sz false _ _ (fun e => by simp at e) hmax ha
 |sl _ _ _ b o cap cv hi hcap hmax ht hs hc h1 hr => exact .sl sz es false b o _ cv hi hcap hmax (fun e => by simp at e) hs hc h1 hr
def fN (xs ys : List aD) : Prop := xs.length = ys.length ∧ ∀ (i : Nat) (x y : aD), xs[i]? = some x → ys[i]? = some y → Sub x y
theorem fN.nil : fN [] [] := ⟨rfl, fun i x y hx => by simp at hx⟩
theorem fN.cons {x y : aD} {xs ys : List aD} (a : Sub x y) (b : fN xs ys) : fN (x :: xs) (y :: ys) :=
 ⟨by simp [b.1], fun i u v hu hv => by
  cases i with
  |zero => simp at hu hv; subst hu; subst hv; exact a
  |succ i => exact b.2 i u v (by simpa using hu) (by simpa using hv)⟩
theorem fN.refl : ∀ (xs : List aD), fN xs xs
 | [] => .nil
 |x :: xs => .cons (.refl x) (.refl xs)
theorem fN.a0F {E : Env} {h : aA} {w : World} : ∀ {xs ys : List aD} {vs : List Value}, fN xs ys → eL E h w xs vs → eL E h w ys vs
 | [], [], _, _, r => r
 | [], _ :: _, _, s, _ => by have := s.1; simp at this
 | _ :: _, [], _, s, _ => by have := s.1; simp at this
 |x :: xs, y :: ys, [], s, r => r.elim
 |x :: xs, y :: ys, v :: vs, s, r => ⟨s.2 0 x y rfl rfl E h w v r.1, fN.a0F (xs := xs) (ys := ys) ⟨by have := s.1; simpa using this, fun i u v hu hv => s.2 (i + 1) u v (by simpa using hu) (by simpa using hv)⟩ r.2⟩
theorem Sub.agg {xs ys : List aD} (s : fN xs ys) : Sub (.agg xs) (.agg ys) := fun E h w v r => by
 cases r with
 |agg _ vs hl hr =>
  have := s.a0F (eL.mk hl hr)
  exact .agg _ _ this.length this.get
theorem Sub.kL {xs ys : List aD} (s : fN xs ys) : Sub (.kL xs) (.kL ys) := fun E h w v r => by
 cases r with
 |kL _ vs hl hr =>
  have := s.a0F (eL.mk hl hr)
  exact .kL _ _ this.length this.get
theorem fF.sub {P : Program} {f : FuncId} {xs ys : List aD} {h : aA} {K : aD → aA → Prop} (s : fN xs ys) (a : fF P f ys h K) : fF P f xs h K :=
 ⟨a.1, fun E w vs R hL => a.2 E w vs R (s.a0F hL)⟩
theorem gV.sub {P : Program} {f : FuncId} {xs ys : List aD} {r : aD} (s : fN xs ys) (a : gV P f ys r) : gV P f xs r := fun h => (a h).sub s
def Shift (r' : aD) (h' : aA) (r : aD) (h : aA) : Prop :=
 ∀ E w v, Rel E h' w → fL E h' w r' v → ∃ E', Ev E h' w E' h w ∧ Rel E' h w ∧ fL E' h w r v
theorem Shift.of {r' r : aD} {h' h : aA} (s : Sub r' r) (hl : h.le h') : Shift r' h' r h := fun E w v R x =>
 ⟨E, (Ev.refl E h' w).forget hl, R.forget hl, s _ _ _ _ (x.rG fun b => pF.le hl)⟩
theorem Shift.trans {a b c : aD} {h1 h2 h3 : aA} (x : Shift a h1 b h2) (y : Shift b h2 c h3) : Shift a h1 c h3 := fun E w v R r => by
 obtain ⟨E', ev, R', r'⟩ := x E w v R r
 obtain ⟨E'', ev', R'', r''⟩ := y E' w v R' r'
 exact ⟨E'', ev.trans ev', R'', r''⟩
mutual
def aD.fK (n : Nat) (es : List (List aD)) : aD → aD
 | .os m sz i len => if m = n then .sl sz ((es.drop i).take len) false else .os m sz i len
 | .op m sz i off => if m = n then .ip sz es i off else .op m sz i off
 | .agg cs => .agg (lM n es cs)
 | .kL cs => .kL (lM n es cs)
 |x => x
def lM (n : Nat) (es : List (List aD)) : List aD → List aD
 | [] => []
 |x :: xs => x.fK n es :: lM n es xs
end
theorem aGJ (n : Nat) (es : List (List aD)) : ∀ l, lM n es l = l.map (aD.fK n es)
 | [] => rfl
 |x :: l => by simp [lM, aGJ n es l]
mutual
def gA (n sz k : Nat) : aD → Bool
 | .os m sz' i len => m != n || (sz' == sz && decide (i + len ≤ k))
 | .op m sz' i len => m != n || sz' == sz
 | .agg cs => gB n sz k cs
 | .kL cs => gB n sz k cs
 | _ => true
def gB (n sz k : Nat) : List aD → Bool
 | [] => true
 |x :: xs => gA n sz k x && gB n sz k xs
end
theorem yF (n sz k : Nat) : ∀ (l : List aD), gB n sz k l = true → ∀ (i : Nat) x, l[i]? = some x → gA n sz k x = true
 | [], _, i, x, hx => by simp at hx
 |y :: l, h, 0, x, hx => by simp at hx; subst hx; simp only [gB, Bool.and_eq_true] at h; exact h.1
 |y :: l, h, i + 1, x, hx => by simp only [gB, Bool.and_eq_true] at h; exact yF n sz k l h.2 i x (by simpa using hx)
theorem fL.rH {E : Env} {h : aA} {w : World} (R : Rel E h w) {n sz : Nat} {es : List (List Cell)} (hn : h n = some (.row sz es)) {x : aD} {v : Value} (r : fL E h w x v)
  (hb : gA n sz es.length x = true) : fL E (aT h n .gone) w (x.fK n (e8 es)) v := by
 have hi : ∀ b, pF E h w b → pF E (aT h n .gone) w b := fun b => xY n b
 induction r with
 |any v => exact .any v
 |bool b => exact .bool b
 |int k n => exact .int k n
 |str s hl => exact .str s hl
 |kH => exact .kH
 |bI => exact .bI
 |uY => exact .uY
 |mT => exact .mT
 |qD => exact .qD
 |sl0 sz t a cap ht hmax ha => exact .sl0 sz t a cap ht hmax ha
 |sl sz es t b o cap cv hb' hcap hmax ht hs hc h1 hr ih => exact .sl sz es t b o cap cv (hi b hb') hcap hmax ht hs hc h1 fun i j x hx => (hr i j x hx).rG hi
 |ip sz es i off b o cv hb' hs hc h1 hr ih => exact .ip sz es i off b o cv (hi b hb') hs hc h1 fun i j x hx => (hr i j x hx).rG hi
 |os0 m sz' hd hl =>
  simp only [aD.fK]
  split
  ·have : ((e8 es).drop 0).take 0 = [] := by simp
   rw [this]
   exact .sl0 sz' false none 0 (fun _ => rfl) (by simp [maxLen]) trivial
  ·exact .os0 m sz' hd hl
 |op m sz' i off b o hd hl =>
  simp only [aD.fK]
  split
  ·rename_i e
   subst e
   simp only [gA, bne_self_eq_false, Bool.false_or, beq_iff_eq] at hb
   subst hb
   obtain ⟨b', o', hl', hbS, hs, cs, ct, cv, T, hh, hm', hT, hD, hc, hrr⟩ := x4 R hn (.inr ⟨_, hl⟩)
   rw [hl] at hl'
   obtain ⟨rfl, rfl⟩ := Prod.mk.inj (Option.some.inj hl')
   have himm : ∀ c, E.fp m c → pF E (aT h m .gone) w c := fun c hc => aEA R hn trivial c hc
   have hat : ∀ i' j y, iW (e8 es) i' j = some y → ∃ c, iW es i' j = some c ∧ y = c.val := by
    intro i' j y hy
    rw [qT] at hy
    obtain ⟨c, hc, rfl⟩ := Option.map_eq_some_iff.1 hy
    exact ⟨c, hc, rfl⟩
   exact .ip sz' (e8 es) i off b o cv (himm b hbS) (fun e he => v7 hs e he)
    (fun i' j y hy => by
     obtain ⟨c, hc', rfl⟩ := hat i' j y hy
     have := hc _ _ _ hc'
     simp only [World.cell?, hh]
     rw [← this]
     simp)
    (fun i' j y hy => by obtain ⟨c, hc', rfl⟩ := hat i' j y hy; exact (hrr _ _ _ hc').one)
    (fun i' j y hy => by
     obtain ⟨c, hc', rfl⟩ := hat i' j y hy
     exact (hrr _ _ _ hc').rH hi fun b hb => himm b (hT _ _ b hb).1)
  ·exact .op m sz' i off b o hd hl
 |fn f cs ds vs us hl hr hl' hr' ih ih' => exact .fn f cs ds vs us hl (fun i x v hx hv => (hr i x v hx hv).rG hi) hl' (fun i x v hx hv => (hr' i x v hx hv).rG hi)
 |iface t x v hr ih => exact .iface t x v (hr.rG hi)
 |mp n b o hd hl => exact .mp n b o hd hl
 |agg cs vs hl hr ih =>
  simp only [aD.fK, aGJ]
  simp only [gA] at hb
  refine .agg _ vs (by simpa using hl) fun i x v hx hv => ?_
  rw [List.getElem?_map] at hx
  obtain ⟨y, hy, rfl⟩ := Option.map_eq_some_iff.1 hx
  exact ih i y v hy hv (yF _ _ _ _ hb i y hy)
 |kL cs vs hl hr ih =>
  simp only [aD.fK, aGJ]
  simp only [gA] at hb
  refine .kL _ vs (by simpa using hl) fun i x v hx hv => ?_
  rw [List.getElem?_map] at hx
  obtain ⟨y, hy, rfl⟩ := Option.map_eq_some_iff.1 hx
  exact ih i y v hy hv (yF _ _ _ _ hb i y hy)
 |os m sz' i len b o cap t mm hd hl hlc hmax hsh hm =>
  simp only [aD.fK]
  split
  ·rename_i e
   subst e
   simp only [gA, bne_self_eq_false, Bool.false_or, Bool.and_eq_true, beq_iff_eq, decide_eq_true_eq] at hb
   obtain ⟨rfl, hle⟩ := hb
   obtain ⟨b', o', hl', hbS, hs, cs, ct, cv, T, hh, hm', hT, hD, hc, hrr⟩ := x4 R hn (.inr ⟨_, hl⟩)
   rw [hl] at hl'
   obtain ⟨rfl, rfl⟩ := Prod.mk.inj (Option.some.inj hl')
   have himm : ∀ c, E.fp m c → pF E (aT h m .gone) w c := fun c hc => aEA R hn trivial c hc
   have hlen : (((e8 es).drop i).take len).length = len := by rw [List.length_take, List.length_drop, sP]; omega
   have hat : ∀ i' j y, iW (((e8 es).drop i).take len) i' j = some y → ∃ c, iW es (i + i') j = some c ∧ y = c.val := by
    intro i' j y hy
    obtain ⟨e, h1, h2⟩ := mH hy
    have hlt : i' < len := by have := (List.getElem?_eq_some_iff.1 h1).1; rw [hlen] at this; exact this
    rw [List.getElem?_take_of_lt hlt, List.getElem?_drop] at h1
    have : iW (e8 es) (i + i') j = some y := by simp [iW, h1, h2]
    rw [qT] at this
    obtain ⟨c, hc, rfl⟩ := Option.map_eq_some_iff.1 this
    exact ⟨c, hc, rfl⟩
   have := fL.sl (E := E) (h := aT h m .gone) (w := w) sz' (((e8 es).drop i).take len) false b (o + i * sz') cap (fun i' j => cv (i + i') j) (himm b hbS) (by rw [hlen]; exact hlc) hmax (fun e => by simp at e)
    (fun e he => v7 hs e (List.mem_of_mem_drop (List.mem_of_mem_take he)))
    (fun i' j y hy => by
     obtain ⟨c, hc', rfl⟩ := hat i' j y hy
     have := hc _ _ _ hc'
     simp only [World.cell?, hh]
     rw [← this]
     simp only [Option.isSome_none, Bool.false_eq_true, if_false]
     congr 1; rw [Nat.add_mul]; omega)
    (fun i' j y hy => by obtain ⟨c, hc', rfl⟩ := hat i' j y hy; exact (hrr _ _ _ hc').one)
    (fun i' j y hy => by
     obtain ⟨c, hc', rfl⟩ := hat i' j y hy
     exact (hrr _ _ _ hc').rH hi fun b hb => himm b (hT _ _ b hb).1)
   rw [hlen] at this
   exact this
  ·exact .os m sz' i len b o cap t mm hd hl hlc hmax hsh hm
theorem Shift.fK {x : aD} {h : aA} {n sz : Nat} {es : List (List Cell)} (hn : h n = some (.row sz es)) (hb : gA n sz es.length x = true) : Shift x h (x.fK n (e8 es)) (aT h n .gone) := fun E w v R r =>
 ⟨E, Ev.gone n, R.gone hn, r.rH R hn hb⟩
theorem o9.rH {P : Program} {N : Nat} {c : Code} {Q : Exit → bN → aA → Prop} {τ : bN} {h : aA} (n : Nat) {sz : Nat} {es : List (List Cell)} (hn : h n = some (.row sz es)) (hb : τ.all (fun p => gA n sz es.length p.2) = true)
  (x : o9 P N c Q (τ.map fun p => (p.1, p.2.fK n (e8 es))) (aT h n .gone)) : o9 P N c Q τ h := by
 intro ds E w a R r
 refine Code.wp_mono (fun e a' w' y => rJ.trans (Ev.gone n) y) (x ds E w a (R.gone hn) ⟨r.size, r.defers, fun k => ?_⟩)
 have key : ∀ τ : bN, τ.all (fun p => gA n sz es.length p.2) = true → gA n sz es.length (b6 τ k) = true ∧ b6 (τ.map fun p => (p.1, p.2.fK n (e8 es))) k = (b6 τ k).fK n (e8 es) := by
  intro τ
  induction τ with
  |nil => intro _; exact ⟨rfl, rfl⟩
  |cons p τ ih =>
   intro hp
   simp only [List.all_cons, Bool.and_eq_true] at hp
   simp only [List.map_cons, b6]
   split
   ·exact ⟨hp.1, rfl⟩
   ·exact ih hp.2
 rw [(key τ hb).2]
 exact (r.get k).rH R hn (key τ hb).1
theorem sW {P : Program} {f : FuncId} {fn : Func} {c : Code} {N : Nat} {args : List aD} {h : aA} {K K' : aD → aA → Prop} (a : fF P f args h K') (hk : ∀ r h', K' r h' → ∃ r₁ h₁, Shift r h' r₁ h₁ ∧ K r₁ h₁) : fF P f args h K :=
 ⟨a.1, fun E w vs R hL => Calls.mono (a.2 E w vs R hL) fun e w' he => by
  cases e <;> try exact he
  obtain ⟨r, h', E', k, ev, R', rx⟩ := he
  obtain ⟨r₁, h₁, hs, k₁⟩ := hk r h' k
  obtain ⟨E'', ev', R'', rx'⟩ := hs E' w' _ R' rx
  exact ⟨r₁, h₁, E'', k₁, ev.trans ev', R'', rx'⟩⟩
theorem aWC {P : Program} {f : FuncId} {fn : Func} {c : Code} (N : Nat) (keep ib : List Nat) (mk : Marks) {args : List aD} {r : aD} (hmix : P.follows .mixedOrders = true) (hf : P.funcs[f]? = some fn) (hb : fn.body = some c)
  (hck : (mI P f && decide (fn.ntmps = N) && jV N mk c) = true) (hl : args.length ≤ N)
  (hw : ∀ h, hwp P N keep ib mk c (aBF P fn.results (fun r' h' => Shift r' h' r h) .normal) (aBF P fn.results fun r' h' => Shift r' h' r h) (sU 0 args) h) : gV P f args r := fun h =>
 sW (fn := fn) (c := c) (N := N) (aGI N keep ib mk hmix hf hb hck hl (hw h) fun r' h' hx => ⟨h', aA.le_refl _, hx⟩) fun r' h' hx => ⟨r, h, hx, rfl, rfl⟩
theorem cI {r : aD} {h' h : aA} (hl : h.le h') : Shift r h' r h := .of (.refl r) hl
theorem bD (r : aD) (h : aA) : Shift r h r h := .of (.refl r) (aA.le_refl h)
set_option linter.unusedVariables false
set_option linter.unusedSimpArgs false
abbrev Tag {α : Type} (_ : α) : Type := Unit
def fV {α : Type} (o : Option α) (K : α → Prop) (_ : Tag K) : Prop := match o with | some x => K x | none => False
@[go_sem] theorem bAJ {α : Type} (x : α) (K : α → Prop) (t : Tag K) : fV (some x) K t = K x := rfl
@[go_sem] theorem bAK {α : Type} (K : α → Prop) (t : Tag K) : fV none K t = False := rfl
def yG (v : aD) (A B : Prop) (_ : Tag (A, B)) : Prop := match v with | .bool t => (t = true → A) ∧ (t = false → B) | _ => False
@[go_sem] theorem a6U (c : Bool) (A B : Prop) (t : Tag (A, B)) : yG (.bool c) A B t = ((c = true → A) ∧ (c = false → B)) := rfl
@[go_sem high] theorem a6V (A B : Prop) (t : Tag (A, B)) : yG (.bool true) A B t = A := by simp [yG]
@[go_sem high] theorem a4G (A B : Prop) (t : Tag (A, B)) : yG (.bool false) A B t = B := by simp [yG]
def aNW (K : bN → aA → Prop) (Q : Exit → bN → aA → Prop) (_ : Tag (K, Q)) : Exit → bN → aA → Prop := vD K Q
@[go_sem] theorem a0G (K : bN → aA → Prop) (Q : Exit → bN → aA → Prop) (t : Tag (K, Q)) (τ : bN) (h : aA) : aNW K Q t .normal τ h = K τ h := rfl
@[go_sem] theorem bAL (K : bN → aA → Prop) (Q : Exit → bN → aA → Prop) (t : Tag (K, Q)) (τ : bN) (h : aA) : aNW K Q t .ret τ h = Q .ret τ h := rfl
@[go_sem] theorem a6W (K : bN → aA → Prop) (Q : Exit → bN → aA → Prop) (t : Tag (K, Q)) (i : Nat) (τ : bN) (h : aA) : aNW K Q t (.exit i) τ h = Q (.exit i) τ h := rfl
def aDB (id : Nat) (K : bN → aA → Prop) (Q : Exit → bN → aA → Prop) (_ : Tag (K, Q)) : Exit → bN → aA → Prop := aGH id K Q
@[go_sem] theorem a6X (id : Nat) (K : bN → aA → Prop) (Q : Exit → bN → aA → Prop) (t : Tag (K, Q)) (τ : bN) (h : aA) : aDB id K Q t .ret τ h = Q .ret τ h := rfl
@[go_sem] theorem a4H (id : Nat) (K : bN → aA → Prop) (Q : Exit → bN → aA → Prop) (t : Tag (K, Q)) (τ : bN) (h : aA) : aDB id K Q t (.exit id) τ h = K τ h := by simp [aDB, aGH]
@[go_sem] theorem a0H (id i : Nat) (K : bN → aA → Prop) (Q : Exit → bN → aA → Prop) (t : Tag (K, Q)) (τ : bN) (h : aA) (hi : (i == id) = false) : aDB id K Q t (.exit i) τ h = Q (.exit i) τ h := by
 have : i ≠ id := by simpa using hi
 simp [aDB, aGH, this]
def aKE (P : Program) (N : Nat) (c : Code) (Q : Exit → bN → aA → Prop) (τ : bN) (h : aA) (_ : Tag (c, Q)) : Prop := o9 P N c Q τ h
def j4 (P : Program) (ib : List Nat) (d : Option Tmp) (op : Op) (ρ : Operand → aD) (h : aA) (K : aD → aA → Prop) (_ : Tag (op, K)) : Prop :=
 tV P ib ⟨d, op, 0, "", #[], none⟩ ρ h K
def stepG (P : Program) (ib : List Nat) (d : Option Tmp) (op : Op) (ρ : Operand → aD) (K : aD → Prop) (_ : Tag (op, K)) : Prop :=
 aC9 P ib ⟨d, op, 0, "", #[], none⟩ ρ K
def aBG (P : Program) (ib : List Nat) (os l : List Oper) (τ : bN) (h : aA) (K : bN → aA → Prop) (_ : Tag (os, l, K)) : Prop := aBE P ib os.toArray l τ h K
def yH (os : List Oper) (g : Nat) (_ : Tag os) : Option Tmp := (os.toArray[g]?).bind (·.dst)
@[go_sem] theorem a6Y (o : Oper) (os : List Oper) (t : Tag (o :: os)) : yH (o :: os) 0 t = o.dst := by simp [yH]
@[go_sem] theorem a6Z (o : Oper) (os : List Oper) (n : Nat) (t : Tag (o :: os)) : yH (o :: os) (n + 1) t = yH os n () := by simp [yH]
def nE (v : aD) (b : Bool) (A B C : Prop) (_ : Tag (A, B, C)) : Prop := match v with
 | .bool b' => (b' = b → A) ∧ (b' = !b → B)
 | .kL [] => C
 | _ => False
@[go_sem] theorem a60 (b : Bool) (A B C : Prop) (t : Tag (A, B, C)) : nE (.kL []) b A B C t = C := rfl
@[go_sem] theorem bCG (c : Bool) (A B C : Prop) (t : Tag (A, B, C)) : nE (.bool c) true A B C t = ((c = true → A) ∧ (c = false → B)) := rfl
@[go_sem] theorem bCH (c : Bool) (A B C : Prop) (t : Tag (A, B, C)) : nE (.bool c) false A B C t = ((c = false → A) ∧ (c = true → B)) := rfl
@[go_sem high] theorem bAM (A B C : Prop) (t : Tag (A, B, C)) : nE (.bool true) true A B C t = A := by simp [nE]
@[go_sem high] theorem bAN (A B C : Prop) (t : Tag (A, B, C)) : nE (.bool false) true A B C t = B := by simp [nE]
@[go_sem high] theorem bAO (A B C : Prop) (t : Tag (A, B, C)) : nE (.bool true) false A B C t = B := by simp [nE]
@[go_sem high] theorem bAP (A B C : Prop) (t : Tag (A, B, C)) : nE (.bool false) false A B C t = A := by simp [nE]
section
variable (P : Program) (ib : List Nat) (os rest : List Oper) (τ : bN) (h : aA) (K : bN → aA → Prop) (d : Option Tmp) (op : Op) (ty : TypeId) (p : String) (af : Array Edge)
@[go_sem] theorem bAQ (t : Tag (os, [], K)) : aBG P ib os [] τ h K t = K τ h := rfl
@[go_sem] theorem a61 (t : Tag (os, (⟨d, op, ty, p, af, none⟩ :: rest), K)) : aBG P ib os (⟨d, op, ty, p, af, none⟩ :: rest) τ h K t =
  j4 P ib d op (vC τ) h (fun v h' => aBG P ib os rest (fY τ d v) h' K ()) () := rfl
@[go_sem] theorem a62 (g : Nat) (b : Bool) (t : Tag (os, (⟨d, op, ty, p, af, some (g, b)⟩ :: rest), K)) : aBG P ib os (⟨d, op, ty, p, af, some (g, b)⟩ :: rest) τ h K t =
  fV (yH os g ()) (fun s => nE (b6 τ s) b (j4 P ib d op (vC ((s, .bool b) :: τ)) h (fun v h' => aBG P ib os rest (fY ((s, .bool b) :: τ) d v) h' K ()) ())
   (aBG P ib os rest (fY ((s, .bool !b) :: τ) d (.kL [])) h K ()) (aBG P ib os rest (fY τ d (.kL [])) h K ()) ()) () := by
 unfold aBG
 rw [aBE]
 simp only [fV, yH]
 cases (os.toArray[g]?).bind (·.dst) with
 |none => rfl
 |some s =>
  simp only [nE]
  cases b6 τ s <;> first | rfl | (rename_i cs; cases cs <;> rfl)
end
def aBH (P : Program) (ib : List Nat) (os : List Oper) (ms : List Nat) (cr : List (Nat × Nat)) (l : rL) (pr : List (Nat × Nat)) (τ : bN) (h : aA) (K : bN → aA → Prop) (_ : Tag (os, K)) : Prop := aDA P ib os.toArray ms cr l pr τ h K
def aGK (P : Program) (ib : List Nat) (os : List Oper) (cr : List (Nat × Nat)) (i : Nat) (m : Bool) (o : Oper) (pr : List (Nat × Nat)) (τ : bN) (h : aA) (K : List (Nat × Nat) → bN → aA → Prop) (_ : Tag (os, o, K)) : Prop :=
 match o.guard with
 |none => aEJ P ib cr i m o (r6 os.toArray o τ) pr h (fun pr' v h' => K pr' (fY τ o.dst v) h')
 |some (g, b) => match (os.toArray[g]?).bind (·.dst) with
  |some d => match b6 τ d with
   | .bool b' => (b' = b → aEJ P ib cr i m o (r6 os.toArray o ((d, .bool b) :: τ)) pr h (fun pr' v h' => K pr' (fY ((d, .bool b) :: τ) o.dst v) h')) ∧
     (b' = !b → K pr (fY ((d, .bool !b) :: τ) o.dst (.kL [])) h)
   | .kL [] => K pr (fY τ o.dst (.kL [])) h
   | _ => False
  |none => False
def aNX (os : List Oper) (i : Nat) (K : Oper → Prop) (_ : Tag (os, K)) : Prop := match os[i]? with | some o => K o | none => False
@[go_sem] theorem bAR (o : Oper) (os : List Oper) (K : Oper → Prop) (t : Tag (o :: os, K)) : aNX (o :: os) 0 K t = K o := rfl
@[go_sem] theorem bAS (o : Oper) (os : List Oper) (i : Nat) (K : Oper → Prop) (t : Tag (o :: os, K)) : aNX (o :: os) (i + 1) K t = aNX os i K () := rfl
def aP6 (os : List Oper) (o : Oper) (τ : bN) (_ : Tag (os, o)) : Operand → aD := r6 os.toArray o τ
section
variable (P : Program) (ib : List Nat) (os : List Oper) (τ : bN) (h : aA) (K : bN → aA → Prop) (d : Option Tmp) (op : Op) (ty : TypeId) (p : String) (af : Array Edge)
variable (cr : List (Nat × Nat)) (pr : List (Nat × Nat)) (i : Nat)
@[go_sem] theorem bAT (ms : List Nat) (t : Tag (os, K)) : aBH P ib os ms cr .nil pr τ h K t = K τ h := rfl
theorem aP7 (ms : List Nat) (i : Nat) (C : List (Nat × Nat) → bN → aA → Prop) : OpD P ib os.toArray ms cr i pr τ h C = aNX os i (fun o => aGK P ib os cr i (ms.contains i) o pr τ h C ()) () := by
 simp only [OpD, aNX, aGK, List.getElem?_toArray]
 cases os[i]? <;> rfl
@[go_sem] theorem bCI (ms : List Nat) (l : rL) (i : Nat) (t : Tag (os, K)) : aBH P ib os ms cr (.op i l) pr τ h K t = aNX os i (fun o => aGK P ib os cr i (ms.contains i) o pr τ h (fun pr' τ' h' => aBH P ib os ms cr l pr' τ' h' K ()) ()) () := by
 simp only [aBH, aDA]; exact aP7 P ib os τ h cr pr ms i _
@[go_sem] theorem bAU (ms : List Nat) (l q : rL) (i j : Nat) (t : Tag (os, K)) : aBH P ib os ms cr (.alt i l j q) pr τ h K t = ((aNX os i (fun o => aGK P ib os cr i (ms.contains i) o pr τ h (fun pr' τ' h' => aBH P ib os ms cr l pr' τ' h' K ()) ()) ()) ∧ aNX os j (fun o => aGK P ib os cr j (ms.contains j) o pr τ h (fun pr' τ' h' => aBH P ib os ms cr q pr' τ' h' K ()) ()) ()) := by
 simp only [aBH, aDA]; rw [aP7 P ib os τ h cr pr ms i _, aP7 P ib os τ h cr pr ms j _]
@[go_sem] theorem bCJ (o : Oper) (t : Tag (os, o)) (k : Nat) : aP6 os o τ t (.tmp k) = if (rK os.toArray o).contains k then b6 τ k else .any := rfl
@[go_sem] theorem a63 (o : Oper) (t : Tag (os, o)) (v : Value) : aP6 os o τ t (.const v) = aD.ofValue v := rfl
@[go_sem] theorem bAV (o : Oper) (t : Tag (os, o)) (f : FuncId) : aP6 os o τ t (.func f) = vC τ (.func f) := rfl
def iI : Op → Bool
 | .load _ _ => true
 | _ => false
def aEK (d : Option Tmp) (op : Op) (ρ : Operand → aD) (M : List (Nat × Nat) → aD → aA → Prop) (_ : Tag (op, M)) : Prop :=
 if iI op then aNT P ⟨d, op, 0, "", #[], none⟩ ρ h (fun n v => M (aNV cr i n pr) v h) else tV P ib ⟨d, op, 0, "", #[], none⟩ ρ h (fun v h' => aGG cr i pr h h' ∧ M pr v h')
theorem aRX (ρ : Operand → aD) (g : Option (Nat × Bool)) (M : List (Nat × Nat) → aD → aA → Prop) : aEJ P ib cr i true ⟨d, op, ty, p, af, g⟩ ρ pr h M = aEK P ib h cr pr i d op ρ M () := by
 unfold aEJ aEK
 cases op <;> rfl
@[go_sem] theorem bJB (L : List (Nat × Nat) → bN → aA → Prop) (t : Tag (os, (⟨d, op, ty, p, af, none⟩ : Oper), L)) : aGK P ib os cr i true ⟨d, op, ty, p, af, none⟩ pr τ h L t = aEK P ib h cr pr i d op (aP6 os ⟨d, op, ty, p, af, none⟩ τ ()) (fun pr' v h' => L pr' (fY τ d v) h') () := by
 rw [← aRX (ty := ty) (p := p) (af := af) (g := none)]; rfl
@[go_sem] theorem bJC (L : List (Nat × Nat) → bN → aA → Prop) (t : Tag (os, (⟨d, op, ty, p, af, none⟩ : Oper), L)) : aGK P ib os cr i false ⟨d, op, ty, p, af, none⟩ pr τ h L t = stepG P ib d op (aP6 os ⟨d, op, ty, p, af, none⟩ τ ()) (fun v => L pr (fY τ d v) h) () := rfl
@[go_sem] theorem bHW (L : List (Nat × Nat) → bN → aA → Prop) (g : Nat) (b : Bool) (t : Tag (os, (⟨d, op, ty, p, af, some (g, b)⟩ : Oper), L)) : aGK P ib os cr i true ⟨d, op, ty, p, af, some (g, b)⟩ pr τ h L t =
  fV (yH os g ()) (fun s => nE (b6 τ s) b (aEK P ib h cr pr i d op (aP6 os ⟨d, op, ty, p, af, some (g, b)⟩ ((s, .bool b) :: τ) ()) (fun pr' v h' => L pr' (fY ((s, .bool b) :: τ) d v) h') ())
   (L pr (fY ((s, .bool !b) :: τ) d (.kL [])) h) (L pr (fY τ d (.kL [])) h) ()) () := by
 simp only [aGK, fV, yH, ← aRX (ty := ty) (p := p) (af := af) (g := some (g, b))]
 cases (os.toArray[g]?).bind (·.dst) with
 |none => rfl
 |some s =>
  simp only [nE]
  cases b6 τ s <;> first | rfl | (rename_i cs; cases cs <;> rfl)
@[go_sem] theorem bHX (L : List (Nat × Nat) → bN → aA → Prop) (g : Nat) (b : Bool) (t : Tag (os, (⟨d, op, ty, p, af, some (g, b)⟩ : Oper), L)) : aGK P ib os cr i false ⟨d, op, ty, p, af, some (g, b)⟩ pr τ h L t =
  fV (yH os g ()) (fun s => nE (b6 τ s) b (stepG P ib d op (aP6 os ⟨d, op, ty, p, af, some (g, b)⟩ ((s, .bool b) :: τ) ()) (fun v => L pr (fY ((s, .bool b) :: τ) d v) h) ())
   (L pr (fY ((s, .bool !b) :: τ) d (.kL [])) h) (L pr (fY τ d (.kL [])) h) ()) () := by
 simp only [aGK, fV, yH]
 cases (os.toArray[g]?).bind (·.dst) with
 |none => rfl
 |some s =>
  simp only [nE]
  cases b6 τ s <;> first | rfl | (rename_i cs; cases cs <;> rfl)
end
def qU (P : Program) (N : Nat) (keep ib : List Nat) (mk : Marks) (c : Code) (K : bN → aA → Prop) (Q : Exit → bN → aA → Prop) (τ : bN) (h : aA) (_ : Tag (c, K, Q)) : Prop := hwp P N keep ib mk c K Q τ h
section
variable (P : Program) (N : Nat) (keep ib : List Nat) (mk : Marks) (K : bN → aA → Prop) (Q : Exit → bN → aA → Prop) (τ : bN) (h : aA)
@[go_sem] theorem bAW (t : Tag (Code.skip, K, Q)) : qU P N keep ib mk .skip K Q τ h t = K τ h := rfl
@[go_sem] theorem bCK (t : Tag (Code.ret, K, Q)) : qU P N keep ib mk .ret K Q τ h t = Q .ret τ h := rfl
@[go_sem] theorem bAX (i : Nat) (t : Tag (Code.exit i, K, Q)) : qU P N keep ib mk (.exit i) K Q τ h t = Q (.exit i) τ h := rfl
@[go_sem] theorem bCL (a b : Code) (t : Tag (Code.seq a b, K, Q)) : qU P N keep ib mk (.seq a b) K Q τ h t = qU P N keep ib mk a (fun τ h => qU P N keep ib mk b K Q τ h ()) Q τ h () := rfl
@[go_sem] theorem bAY (x : Operand) (a b : Code) (t : Tag (Code.cond x a b, K, Q)) : qU P N keep ib mk (.cond x a b) K Q τ h t = yG (vC τ x) (qU P N keep ib mk a K Q τ h ()) (qU P N keep ib mk b K Q τ h ()) () := by
 simp only [qU, hwp, yG]; cases vC τ x <;> rfl
@[go_sem] theorem a64 (i : Nat) (c : Code) (t : Tag (Code.block i c, K, Q)) : qU P N keep ib mk (.block i c) K Q τ h t = qU P N keep ib mk c K (aDB i K Q ()) τ h () := rfl
@[go_sem] theorem bAZ (c : Code) (t : Tag (Code.loop c, K, Q)) : qU P N keep ib mk (.loop c) K Q τ h t = aKE P N (.loop c) (aNW K Q ()) τ h () := rfl
@[go_sem] theorem a4I (i : Nat) (os : List Oper) (t : Tag (Code.region i ⟨os⟩ false, K, Q)) : qU P N keep ib mk (.region i ⟨os⟩ false) K Q τ h t = aBG P ib os os τ h (fun τ' h' => K (Hl.prune keep τ') h') () := rfl
@[go_sem] theorem bA0 (i : Nat) (os : List Oper) (t : Tag (Code.region i ⟨os⟩ true, K, Q)) : qU P N keep ib mk (.region i ⟨os⟩ true) K Q τ h t = aBH P ib os (mk i).1 (mk i).2.2 (mk i).2.1 [] τ h (fun τ' h' => K (Hl.prune keep τ') h') () := rfl
end
theorem aGL {P : Program} {N : Nat} {keep ib : List Nat} {mk : Marks} (hmix : P.follows .mixedOrders = true) (c : Code) (K : bN → aA → Prop) (Q : Exit → bN → aA → Prop) (τ : bN) (h : aA) (hc : jV N mk c = true) (hw : qU P N keep ib mk c K Q τ h ()) : o9 P N c (aNW K Q ()) τ h :=
 qG hmix c K Q τ h hc hw
set_option linter.unusedVariables false
set_option linter.unusedSimpArgs false
def aRY : Op → Bool
 | .box .. => false
 | .buildSlice .. => false
 | _ => true
theorem fC {P : Program} {ib : List Nat} {d : Option Tmp} {op : Op} {ρ : Operand → aD} {h : aA} {K : aD → aA → Prop} {t : Tag (op, K)} (hop : aRY op = true) : j4 P ib d op ρ h K t = step P ⟨d, op, 0, "", #[], none⟩ ρ h K := by
 unfold j4 tV
 cases d with
 |none => rfl
 |some d =>
  simp only
  split
  ·cases op <;> first | rfl | (simp [aRY] at hop)
  ·rfl
theorem gC {P : Program} {ib : List Nat} {d : Option Tmp} {op : Op} {ρ : Operand → aD} {K : aD → Prop} {t : Tag (op, K)} (hop : aRY op = true) : stepG P ib d op ρ K t = aEI P ⟨d, op, 0, "", #[], none⟩ ρ K := by
 unfold stepG aC9
 cases d with
 |none => rfl
 |some d =>
  simp only
  split
  ·cases op <;> first | rfl | (simp [aRY] at hop)
  ·rfl
def aEV (P : Program) (op : BinOp) (ty : TypeId) (x y : aD) (K : aD → Prop) (_ : Tag K) : Prop := vE P op ty x y K
def aGM (P : Program) (op : BinOp) (ty : TypeId) (c : Bool) (x y : aD) (K : aD → Prop) (_ : Tag K) : Prop := vF P op ty c x y K
def lB (P : Program) (op : BinOp) (ty : TypeId) (x y : aD) (K : aD → Prop) (_ : Tag K) : Prop := fZ P op ty x y K
def unF (op : UnOp) (x : aD) (K : aD → Prop) (_ : Tag K) : Prop := aC5 op x K
def faF (d : Option TyD) (f : Nat) (x : aD) (K : aD → Prop) (_ : Tag K) : Prop := aC6 d f x K
def iaF (re : Option lK) (x i : aD) (K : aD → Prop) (_ : Tag K) : Prop := aC7 re x i K
def ixF (d : Option TyD) (x i : aD) (K : aD → Prop) (_ : Tag K) : Prop := aAJ d x i K
def ldF (r : Option lK) (a : aD) (h : aA) (K : aD → Prop) (_ : Tag K) : Prop := jK r a h K
def stF (r : Option lK) (a v : aD) (h : aA) (K : aA → Prop) (_ : Tag K) : Prop := aJ8 r a v h K
def alF (r : Option lK) (h : aA) (K : aD → aA → Prop) (_ : Tag K) : Prop := aC8 r h K
def mkF (re : Option lK) (l c : aD) (h : aA) (K : aD → aA → Prop) (_ : Tag K) : Prop := aF4 re l c h K
def slD (P : Program) (t : TypeId) (x : aD) (lo hi : Option aD) (K : aD → Prop) (_ : Tag K) : Prop := qF P t x lo hi K
def slF (P : Program) (t : TypeId) (x : aD) (lo hi : Option aD) (K : aD → Prop) (_ : Tag K) : Prop := mN P t x lo hi K
def aUB (P : Program) (d : Option TyD) (x : aD) (K : aD → Prop) (_ : Tag K) : Prop := match d, x with
  |some (.slice _), .sl _ es _ => es.length ≤ 9223372036854775807 → K (.int .i64 es.length)
  |some (.slice _), .os _ _ _ n => n ≤ 9223372036854775807 → K (.int .i64 n)
  |some (.slice _), .bI => K (.int .i64 0)
  |some .str, .str s => s.length ≤ 9223372036854775807 → K (.int .i64 s.length)
  | _, _ => False
def aWD (P : Program) (d : Option TyD) (x : aD) (K : aD → Prop) (_ : Tag K) : Prop := match d, x with
  |some (.slice _), .sl _ es _ => K (.int .i64 es.length)
  |some (.slice _), .os _ _ _ n => K (.int .i64 n)
  |some (.slice _), .bI => K (.int .i64 0)
  |some .str, .str s => K (.int .i64 s.length)
  | _, _ => False
def cvF (P : Program) (s : Option TyD) (d : Option TyD) (x : aD) (K : aD → Prop) (_ : Tag K) : Prop := match d, x with
 |some (.int k'), .int k n => s.isSome = true ∧ K (.int k' (k'.wrap n))
 |some .str, .sl 1 es _ => (match s with
  |some (.slice et) => xN P et = some (.int .u8) ∧ (match bytesOf es with | some bs => K (.str bs) | none => False)
  | _ => False)
 | _, _ => False
def a0I (P : Program) (t : TypeId) (x : aD) (lo : Option aD) (hi mx : aD) (K : aD → Prop) (_ : Tag K) : Prop := oV P t x lo hi mx K
def rdF (cr : List (Nat × Nat)) (i : Nat) (pr : List (Nat × Nat)) (r : Option lK) (x : aD) (h : aA) (M : List (Nat × Nat) → aD → aA → Prop) (_ : Tag M) : Prop := match x with
 | .op n sz j off => jK r (.op n sz j off) h fun v => M (aNV cr i (some n) pr) v h
 | .ip sz es j off => jK r (.ip sz es j off) h fun v => M (aNV cr i none pr) v h
 | _ => False
def a0J (c A : Prop) (_ : Tag A) : Prop := c ∧ A
@[go_sem] theorem bH3 (c A : Prop) (t : Tag A) : a0J c A t = (c ∧ A) := rfl
@[go_sem high] theorem bA3 (A : Prop) (t : Tag A) : a0J True A t = A := by simp [a0J]
def buF (P : Program) (r : Option lK) (ps : List (Nat × aD)) (K : aD → Prop) (_ : Tag K) : Prop := sI P r ps K
def exF (x : aD) (i : Nat) (K : aD → Prop) (_ : Tag K) : Prop := match x with
  | .kL cs => match cs[i]? with | some x => K x | none => False
  | _ => False
def ncF (x : aD) (K : aD → Prop) (_ : Tag K) : Prop := match x with
  | .op n sz i k => K (.op n sz i k)
  | .ip sz es i k => K (.ip sz es i k)
  | _ => False
def a4L (P : Program) (f : aD) (args : List aD) (h : aA) (K : aD → aA → Prop) (_ : Tag K) : Prop := match f with
  | .fn (.func g) first cap => fF P g (first ++ args ++ cap) h K
  | _ => False
def a4M (P : Program) (f : aD) (args : List aD) (K : aD → Prop) (_ : Tag K) : Prop := match f with
  | .fn (.func g) first cap => aV9 P g (first ++ args ++ cap) K
  | _ => False
def aH (P : Program) (g : FuncId) (args : List aD) (h : aA) (K : aD → aA → Prop) (_ : Tag K) : Prop := fF P g args h K
def aF (P : Program) (g : FuncId) (args : List aD) (K : aD → Prop) (_ : Tag K) : Prop := aV9 P g args K
theorem aH.mk {P : Program} {g : FuncId} {args : List aD} {h : aA} {K : aD → aA → Prop} {t : Tag K} {r : aD} (a : gV P g args r) (k : K r h) : aH P g args h K t := gV.call a k
theorem aF.mk {P : Program} {g : FuncId} {args : List aD} {K : aD → Prop} {t : Tag K} {r : aD} (a : gV P g args r) (k : K r) : aF P g args K t := ⟨r, a, k⟩
section
variable (P : Program) (ib : List Nat) (d : Option Tmp) (ρ : Operand → aD) (h : aA) (K : aD → aA → Prop) (L : aD → Prop)
@[go_sem] theorem bH6 (x : Operand) (t : Tag (Op.move x, K)) : j4 P ib d (.move x) ρ h K t = K (ρ x) h := by rw [fC rfl]; rfl
@[go_sem] theorem bH7 (x : Operand) (t : Tag (Op.move x, L)) : stepG P ib d (.move x) ρ L t = L (ρ x) := by rw [gC rfl]; rfl
@[go_sem] theorem bA4 (x : Operand) (t : Tag (Op.assign x, K)) : j4 P ib d (.assign x) ρ h K t = K (ρ x) h := by rw [fC rfl]; rfl
@[go_sem] theorem bA5 (x : Operand) (t : Tag (Op.assign x, L)) : stepG P ib d (.assign x) ρ L t = L (ρ x) := by rw [gC rfl]; rfl
@[go_sem] theorem bH8 (c a b : Operand) (t : Tag (Op.pick c a b, K)) : j4 P ib d (.pick c a b) ρ h K t = yG (ρ c) (K (ρ a) h) (K (ρ b) h) () := by
 rw [fC rfl]; simp only [step, yG]; cases ρ c <;> rfl
@[go_sem] theorem bH9 (c a b : Operand) (t : Tag (Op.pick c a b, L)) : stepG P ib d (.pick c a b) ρ L t = yG (ρ c) (L (ρ a)) (L (ρ b)) () := by
 rw [gC rfl]; simp only [aEI, yG]; cases ρ c <;> rfl
@[go_sem] theorem bJF (op : BinOp) (ty ty' : TypeId) (x y : Operand) (t : Tag (Op.binOp op ty x y ty', K)) : j4 P ib d (.binOp op ty x y ty') ρ h K t = aGM P op ty (r5 y) (ρ x) (ρ y) (fun v => K v h) () := by rw [fC rfl]; rfl
@[go_sem] theorem bJG (op : BinOp) (ty ty' : TypeId) (x y : Operand) (t : Tag (Op.binOp op ty x y ty', L)) : stepG P ib d (.binOp op ty x y ty') ρ L t = lB P op ty (ρ x) (ρ y) L () := by rw [gC rfl]; rfl
@[go_sem] theorem bNM (op : UnOp) (ty : TypeId) (x : Operand) (t : Tag (Op.unOp op ty x, K)) : j4 P ib d (.unOp op ty x) ρ h K t = unF op (ρ x) (fun v => K v h) () := by rw [fC rfl]; rfl
@[go_sem] theorem bNN (op : UnOp) (ty : TypeId) (x : Operand) (t : Tag (Op.unOp op ty x, L)) : stepG P ib d (.unOp op ty x) ρ L t = unF op (ρ x) L () := by rw [gC rfl]; rfl
@[go_sem] theorem bIA (s e : TypeId) (x : Operand) (t : Tag (Op.convert s e x, K)) : j4 P ib d (.convert s e x) ρ h K t = cvF P (xN P s) (xN P e) (ρ x) (fun v => K v h) () := by rw [fC rfl]; rfl
@[go_sem] theorem bIB (s e : TypeId) (x : Operand) (t : Tag (Op.convert s e x, L)) : stepG P ib d (.convert s e x) ρ L t = cvF P (xN P s) (xN P e) (ρ x) L () := by rw [gC rfl]; rfl
@[go_sem] theorem bNO (ty : TypeId) (x : Operand) (f : Nat) (t : Tag (Op.fieldAddr ty x f, K)) : j4 P ib d (.fieldAddr ty x f) ρ h K t = faF (xN P ty) f (ρ x) (fun v => K v h) () := by rw [fC rfl]; rfl
@[go_sem] theorem bNP (ty : TypeId) (x : Operand) (f : Nat) (t : Tag (Op.fieldAddr ty x f, L)) : stepG P ib d (.fieldAddr ty x f) ρ L t = faF (xN P ty) f (ρ x) L () := by rw [gC rfl]; rfl
@[go_sem] theorem bNQ (ty : TypeId) (x i : Operand) (t : Tag (Op.indexAddr ty x i, K)) : j4 P ib d (.indexAddr ty x i) ρ h K t = iaF (lH P ty) (ρ x) (ρ i) (fun v => K v h) () := by rw [fC rfl]; rfl
@[go_sem] theorem bNR (ty : TypeId) (x i : Operand) (t : Tag (Op.indexAddr ty x i, L)) : stepG P ib d (.indexAddr ty x i) ρ L t = iaF (lH P ty) (ρ x) (ρ i) L () := by rw [gC rfl]; rfl
@[go_sem] theorem bNS (ty : TypeId) (x i : Operand) (t : Tag (Op.index ty x i, K)) : j4 P ib d (.index ty x i) ρ h K t = ixF (xN P ty) (ρ x) (ρ i) (fun v => K v h) () := by rw [fC rfl]; rfl
@[go_sem] theorem bNT (ty : TypeId) (x i : Operand) (t : Tag (Op.index ty x i, L)) : stepG P ib d (.index ty x i) ρ L t = ixF (xN P ty) (ρ x) (ρ i) L () := by rw [gC rfl]; rfl
@[go_sem] theorem bNU (ty : TypeId) (a : Operand) (t : Tag (Op.load ty a, K)) : j4 P ib d (.load ty a) ρ h K t = ldF (iT P ty) (ρ a) h (fun v => K v h) () := by rw [fC rfl]; rfl
@[go_sem] theorem bNV (ty : TypeId) (a v : Operand) (t : Tag (Op.store ty a v, K)) : j4 P ib d (.store ty a v) ρ h K t = stF (iT P ty) (ρ a) (ρ v) h (fun h' => K .any h') () := by rw [fC rfl]; rfl
@[go_sem] theorem bNW (ty : TypeId) (t : Tag (Op.alloc ty, K)) : j4 P ib d (.alloc ty) ρ h K t = alF (iT P ty) h K () := by rw [fC rfl]; rfl
@[go_sem] theorem bNX (ty : TypeId) (l c : Operand) (t : Tag (Op.makeSlice ty l c, K)) : j4 P ib d (.makeSlice ty l c) ρ h K t = mkF (lH P ty) (ρ l) (ρ c) h K () := by rw [fC rfl]; rfl
@[go_sem] theorem bNY (ty : TypeId) (x : Operand) (lo hi : Option Operand) (t : Tag (Op.slice ty x lo hi none, K)) : j4 P ib d (.slice ty x lo hi none) ρ h K t = slD P ty (ρ x) (lo.map ρ) (hi.map ρ) (fun v => K v h) () := by rw [fC rfl]; rfl
@[go_sem] theorem bNZ (ty : TypeId) (x : Operand) (lo hi : Option Operand) (t : Tag (Op.slice ty x lo hi none, L)) : stepG P ib d (.slice ty x lo hi none) ρ L t = slF P ty (ρ x) (lo.map ρ) (hi.map ρ) L () := by rw [gC rfl]; rfl
@[go_sem] theorem bJH (ty : TypeId) (x : Operand) (lo : Option Operand) (hi mx : Operand) (t : Tag (Op.slice ty x lo (some hi) (some mx), K)) : j4 P ib d (.slice ty x lo (some hi) (some mx)) ρ h K t = a0I P ty (ρ x) (lo.map ρ) (ρ hi) (ρ mx) (fun v => K v h) () := by rw [fC rfl]; rfl
@[go_sem] theorem bJI (ty : TypeId) (x : Operand) (lo : Option Operand) (hi mx : Operand) (t : Tag (Op.slice ty x lo (some hi) (some mx), L)) : stepG P ib d (.slice ty x lo (some hi) (some mx)) ρ L t = a0I P ty (ρ x) (lo.map ρ) (ρ hi) (ρ mx) L () := by rw [gC rfl]; rfl
@[go_sem] theorem bN0 (cr pr : List (Nat × Nat)) (i : Nat) (ty : TypeId) (a : Operand) (M : List (Nat × Nat) → aD → aA → Prop) (t : Tag (Op.load ty a, M)) : aEK P ib h cr pr i d (.load ty a) ρ M t = rdF cr i pr (iT P ty) (ρ a) h M () := by
 unfold aEK aNT rdF; simp only [iI, if_true]
 cases ρ a <;> rfl
@[go_sem] theorem bJJ (cr pr : List (Nat × Nat)) (i : Nat) (op : Op) (M : List (Nat × Nat) → aD → aA → Prop) (t : Tag (op, M)) (hop : iI op = false) : aEK P ib h cr pr i d op ρ M t = j4 P ib d op ρ h (fun v h' => a0J (aGG cr i pr h h') (M pr v h') ()) () := by
 unfold aEK; rw [hop]; rfl
@[go_sem] theorem bN1 (x : Operand) (i : Nat) (t : Tag (Op.extract x i, K)) : j4 P ib d (.extract x i) ρ h K t = exF (ρ x) i (fun v => K v h) () := by rw [fC rfl]; rfl
@[go_sem] theorem bN2 (x : Operand) (i : Nat) (t : Tag (Op.extract x i, L)) : stepG P ib d (.extract x i) ρ L t = exF (ρ x) i L () := by rw [gC rfl]; rfl
@[go_sem] theorem bN3 (x : Operand) (t : Tag (Op.nilCheck x, K)) : j4 P ib d (.nilCheck x) ρ h K t = ncF (ρ x) (fun v => K v h) () := by rw [fC rfl]; rfl
@[go_sem] theorem bN4 (x : Operand) (t : Tag (Op.nilCheck x, L)) : stepG P ib d (.nilCheck x) ρ L t = ncF (ρ x) L () := by rw [gC rfl]; rfl
@[go_sem] theorem bN5 (f : Fn) (fs cs : Array Operand) (t : Tag (Op.makeFunc f fs cs, K)) : j4 P ib d (.makeFunc f fs cs) ρ h K t = K (.fn f (fs.toList.map ρ) (cs.toList.map ρ)) h := by rw [fC rfl]; rfl
@[go_sem] theorem bN6 (f : Fn) (fs cs : Array Operand) (t : Tag (Op.makeFunc f fs cs, L)) : stepG P ib d (.makeFunc f fs cs) ρ L t = L (.fn f (fs.toList.map ρ) (cs.toList.map ρ)) := by rw [gC rfl]; rfl
@[go_sem] theorem bN7 (ty : TypeId) (ps : Array (Nat × Operand)) (t : Tag (Op.build ty ps, K)) : j4 P ib d (.build ty ps) ρ h K t = buF P (iT P ty) (ps.toList.map fun p => (p.1, ρ p.2)) (fun v => K v h) () := by rw [fC rfl]; rfl
@[go_sem] theorem bN8 (ty : TypeId) (ps : Array (Nat × Operand)) (t : Tag (Op.build ty ps, L)) : stepG P ib d (.build ty ps) ρ L t = buF P (iT P ty) (ps.toList.map fun p => (p.1, ρ p.2)) L () := by rw [gC rfl]; rfl
@[go_sem] theorem bIC (f : Operand) (as : Array Operand) (ats : Array TypeId) (t : Tag (Op.call ⟨.value f, as, ats⟩, K)) : j4 P ib d (.call ⟨.value f, as, ats⟩) ρ h K t = a4L P (ρ f) (as.toList.map ρ) h K () := by rw [fC rfl]; rfl
@[go_sem] theorem bID (f : Operand) (as : Array Operand) (ats : Array TypeId) (t : Tag (Op.call ⟨.value f, as, ats⟩, L)) : stepG P ib d (.call ⟨.value f, as, ats⟩) ρ L t = a4M P (ρ f) (as.toList.map ρ) L () := by rw [gC rfl]; rfl
end
set_option linter.unusedVariables false
set_option linter.unusedSimpArgs false
section
variable (P : Program) (ib : List Nat) (d : Option Tmp) (ρ : Operand → aD) (h : aA) (K : aD → aA → Prop) (L : aD → Prop)
def ldG (r : Option lK) (a : aD) (K : aD → Prop) (_ : Tag K) : Prop := match a with
  | .ip sz es i off => jK r (.ip sz es i off) (fun _ => none) K
  | _ => False
@[go_sem] theorem bN9 (ty : TypeId) (a : Operand) (t : Tag (Op.load ty a, L)) : stepG P ib d (.load ty a) ρ L t = ldG (iT P ty) (ρ a) L () := by
 rw [gC rfl]; simp only [aEI, ldG]; cases ρ a <;> rfl
@[go_sem] theorem bJK (x : Operand) (ty : TypeId) (t : Tag (Op.call ⟨.builtin .len, #[x], #[ty]⟩, K)) : j4 P ib d (.call ⟨.builtin .len, #[x], #[ty]⟩) ρ h K t = aUB P (xN P ty) (ρ x) (fun v => K v h) () := by rw [fC rfl]; rfl
@[go_sem] theorem bJL (x : Operand) (ty : TypeId) (t : Tag (Op.call ⟨.builtin .len, #[x], #[ty]⟩, L)) : stepG P ib d (.call ⟨.builtin .len, #[x], #[ty]⟩) ρ L t = aWD P (xN P ty) (ρ x) L () := by rw [gC rfl]; rfl
def a0K (x y : aD) (K : aD → Prop) (_ : Tag K) : Prop := match x, y with
   | .int k a, .int k' b => k' = k ∧ K (.int k (max a b))
   | _, _ => False
@[go_sem] theorem bCM (k k' : IntKind) (a b : Int) (t : Tag L) : a0K (.int k a) (.int k' b) L t = (k' = k ∧ L (.int k (max a b))) := rfl
theorem aRZ (x y : aD) (K : aD → Prop) : (match x, y with
   | .int k a, .int _ b => (match y with | .int k' _ => k' = k | _ => False) ∧ K (.int k (max a b))
   | _, _ => False) = a0K x y K () := by cases x <;> cases y <;> rfl
@[go_sem] theorem bJM (x y : Operand) (ats : Array TypeId) (t : Tag (Op.call ⟨.builtin .max, #[x, y], ats⟩, K)) : j4 P ib d (.call ⟨.builtin .max, #[x, y], ats⟩) ρ h K t = a0K (ρ x) (ρ y) (fun v => K v h) () := by
 rw [fC rfl, ← aRZ]; rfl
@[go_sem] theorem bJN (x y : Operand) (ats : Array TypeId) (t : Tag (Op.call ⟨.builtin .max, #[x, y], ats⟩, L)) : stepG P ib d (.call ⟨.builtin .max, #[x, y], ats⟩) ρ L t = a0K (ρ x) (ρ y) L () := by
 rw [gC rfl, ← aRZ]; rfl
def apF (P : Program) (re : Option lK) (t1 : Option TypeId) (x y : aD) (h : aA) (K : aD → aA → Prop) (_ : Tag K) : Prop := wD P re t1 x y h K
@[go_sem] theorem bJO (x y : Operand) (a b : TypeId) (t : Tag (Op.call ⟨.builtin .append, #[x, y], #[a, b]⟩, K)) : j4 P ib d (.call ⟨.builtin .append, #[x, y], #[a, b]⟩) ρ h K t = apF P (lH P a) (some b) (ρ x) (ρ y) h K () := by
 rw [fC rfl]; rfl
def aGN (ib : List Nat) (d : Option Tmp) : Bool := match d with | some d => ib.contains d | none => false
@[go_sem] theorem a66 (k : Nat) : aGN ib (some k) = ib.contains k := rfl
def aWE (i r : Bool) (ty : TypeId) (x : aD) (h : aA) (K : aD → aA → Prop) (_ : Tag K) : Prop := if i then aF7 x (fun v => K v h) else if r then aRS ty x h K else aRR x h K
@[go_sem] theorem bJP (ty : TypeId) (x : Operand) (t : Tag (Op.box ty x, K)) : j4 P ib d (.box ty x) ρ h K t = aWE (aGN ib d) (a6H ty) ty (ρ x) h K () := by
 unfold j4 tV aWE aGN
 cases d with
 |none => rfl
 |some d => simp only; split <;> rfl
@[go_sem] theorem bIF (ty : TypeId) : a6H ty = (match aVR with | none => false | some r => decide (ty = r)) := rfl
attribute [go_sem] aVR
@[go_sem] theorem bJQ (r : Bool) (ty : TypeId) (x : aD) (t : Tag K) : aWE true r ty x h K t = (x.cells.all aD.flat = true ∧ K (.ip x.cells.length [x.cells] 0 0) h) := rfl
@[go_sem] theorem bJR (ty : TypeId) (x : aD) (t : Tag K) : aWE false true ty x h K t = (x.cells = [.kH, .bI] ∧ ∀ n, h n = none → K (.op n 2 0 0) (aT h n (.raw ty #[.pointer none, .slice none 0 0]))) := rfl
@[go_sem] theorem bJS (ty : TypeId) (x : aD) (t : Tag K) : aWE false false ty x h K t = (x.cells.all aD.flat = true ∧ ∀ n, h n = none → K (.op n x.cells.length 0 0) (aT h n (.row x.cells.length [x.cells.map .v]))) := rfl
def bsF (i : Bool) (re : Option lK) (len : Nat) (ps : List (Nat × aD)) (h : aA) (K : aD → aA → Prop) (_ : Tag K) : Prop :=
 if i then sT re len ps (fun sz es => K (.sl sz es true) h) else sT re len ps fun sz es => ∀ n, h n = none → K (.os n sz 0 len) (aT h n (.row sz (es.map (List.map .v))))
def bsG (i : Bool) (re : Option lK) (len : Nat) (ps : List (Nat × aD)) (K : aD → Prop) (_ : Tag K) : Prop :=
 if i then sT re len ps (fun sz es => K (.sl sz es true)) else False
@[go_sem] theorem bOA (ty : TypeId) (len : Nat) (ps : Array (Nat × Operand)) (t : Tag (Op.buildSlice ty len ps, K)) : j4 P ib d (.buildSlice ty len ps) ρ h K t = bsF (aGN ib d) (lH P ty) len (ps.toList.map fun p => (p.1, ρ p.2)) h K () := by
 unfold j4 tV bsF aGN
 cases d with
 |none => rfl
 |some d => simp only; split <;> rfl
@[go_sem] theorem bOB (ty : TypeId) (len : Nat) (ps : Array (Nat × Operand)) (t : Tag (Op.buildSlice ty len ps, L)) : stepG P ib d (.buildSlice ty len ps) ρ L t = bsG (aGN ib d) (lH P ty) len (ps.toList.map fun p => (p.1, ρ p.2)) L () := by
 unfold stepG aC9 bsG aGN
 cases d with
 |none => rfl
 |some d => simp only; split <;> rfl
@[go_sem] theorem bOC (re : lK) (len : Nat) (ps : List (Nat × aD)) (t : Tag K) : bsF true (some re) len ps h K t = (re.zero.length = re.sz ∧ 0 < re.sz ∧ re.zero.all aD.flat = true ∧ len * re.sz ≤ 16777216 ∧ qE len re.sz ps = true ∧ K (.sl re.sz (sR (List.replicate len re.zero) ps) true) h) := rfl
@[go_sem] theorem bOD (re : lK) (len : Nat) (ps : List (Nat × aD)) (t : Tag L) : bsG true (some re) len ps L t = (re.zero.length = re.sz ∧ 0 < re.sz ∧ re.zero.all aD.flat = true ∧ len * re.sz ≤ 16777216 ∧ qE len re.sz ps = true ∧ L (.sl re.sz (sR (List.replicate len re.zero) ps) true)) := rfl
@[go_sem] theorem bOE (re : lK) (len : Nat) (ps : List (Nat × aD)) (t : Tag K) : bsF false (some re) len ps h K t = (re.zero.length = re.sz ∧ 0 < re.sz ∧ re.zero.all aD.flat = true ∧ len * re.sz ≤ 16777216 ∧ qE len re.sz ps = true ∧ ∀ n, h n = none → K (.os n re.sz 0 len) (aT h n (.row re.sz ((sR (List.replicate len re.zero) ps).map (List.map .v))))) := rfl
@[go_sem] theorem bCN (g : FuncId) (first cap args : List aD) (t : Tag K) : a4L P (.fn (.func g) first cap) args h K t = aH P g (first ++ args ++ cap) h K () := rfl
@[go_sem] theorem bCO (g : FuncId) (first cap args : List aD) (t : Tag L) : a4M P (.fn (.func g) first cap) args L t = aF P g (first ++ args ++ cap) L () := rfl
@[go_sem] theorem bCP (ty : TypeId) (k k' : IntKind) (a b : Int) (t : Tag L) : lB P .add ty (.int k a) (.int k' b) L t = fV (mR .add (.int k a) (.int k' b)) L () := by simp only [lB, fZ, fV]; cases mR _ _ _ <;> rfl
@[go_sem] theorem bCQ (ty : TypeId) (k k' : IntKind) (a b : Int) (t : Tag L) : lB P .sub ty (.int k a) (.int k' b) L t = fV (mR .sub (.int k a) (.int k' b)) L () := by simp only [lB, fZ, fV]; cases mR _ _ _ <;> rfl
@[go_sem] theorem bCR (ty : TypeId) (k k' : IntKind) (a b : Int) (t : Tag L) : lB P .mul ty (.int k a) (.int k' b) L t = fV (mR .mul (.int k a) (.int k' b)) L () := by simp only [lB, fZ, fV]; cases mR _ _ _ <;> rfl
@[go_sem] theorem bCS (ty : TypeId) (k k' : IntKind) (a b : Int) (t : Tag L) : lB P .and ty (.int k a) (.int k' b) L t = fV (mR .and (.int k a) (.int k' b)) L () := by simp only [lB, fZ, fV]; cases mR _ _ _ <;> rfl
@[go_sem] theorem bIH (ty : TypeId) (k k' : IntKind) (a b : Int) (t : Tag L) : lB P .or ty (.int k a) (.int k' b) L t = fV (mR .or (.int k a) (.int k' b)) L () := by simp only [lB, fZ, fV]; cases mR _ _ _ <;> rfl
@[go_sem] theorem bCT (ty : TypeId) (k k' : IntKind) (a b : Int) (t : Tag L) : lB P .xor ty (.int k a) (.int k' b) L t = fV (mR .xor (.int k a) (.int k' b)) L () := by simp only [lB, fZ, fV]; cases mR _ _ _ <;> rfl
@[go_sem] theorem a4N (ty : TypeId) (k k' : IntKind) (a b : Int) (t : Tag L) : lB P .andNot ty (.int k a) (.int k' b) L t = fV (mR .andNot (.int k a) (.int k' b)) L () := by simp only [lB, fZ, fV]; cases mR _ _ _ <;> rfl
@[go_sem] theorem bCU (ty : TypeId) (k k' : IntKind) (a b : Int) (t : Tag L) : lB P .eql ty (.int k a) (.int k' b) L t = fV (mR .eql (.int k a) (.int k' b)) L () := by simp only [lB, fZ, fV]; cases mR _ _ _ <;> rfl
@[go_sem] theorem bCV (ty : TypeId) (k k' : IntKind) (a b : Int) (t : Tag L) : lB P .neq ty (.int k a) (.int k' b) L t = fV (mR .neq (.int k a) (.int k' b)) L () := by simp only [lB, fZ, fV]; cases mR _ _ _ <;> rfl
@[go_sem] theorem bCW (ty : TypeId) (k k' : IntKind) (a b : Int) (t : Tag L) : lB P .lss ty (.int k a) (.int k' b) L t = fV (mR .lss (.int k a) (.int k' b)) L () := by simp only [lB, fZ, fV]; cases mR _ _ _ <;> rfl
@[go_sem] theorem bCX (ty : TypeId) (k k' : IntKind) (a b : Int) (t : Tag L) : lB P .leq ty (.int k a) (.int k' b) L t = fV (mR .leq (.int k a) (.int k' b)) L () := by simp only [lB, fZ, fV]; cases mR _ _ _ <;> rfl
@[go_sem] theorem bCY (ty : TypeId) (k k' : IntKind) (a b : Int) (t : Tag L) : lB P .gtr ty (.int k a) (.int k' b) L t = fV (mR .gtr (.int k a) (.int k' b)) L () := by simp only [lB, fZ, fV]; cases mR _ _ _ <;> rfl
@[go_sem] theorem bCZ (ty : TypeId) (k k' : IntKind) (a b : Int) (t : Tag L) : lB P .geq ty (.int k a) (.int k' b) L t = fV (mR .geq (.int k a) (.int k' b)) L () := by simp only [lB, fZ, fV]; cases mR _ _ _ <;> rfl
@[go_sem] theorem bC0 (ty : TypeId) (k k' : IntKind) (a b : Int) (t : Tag L) : lB P .quo ty (.int k a) (.int k' b) L t = (k = k' ∧ b ≠ 0 ∧ L (.int k (k.wrap (a.tdiv b)))) := rfl
@[go_sem] theorem bC1 (ty : TypeId) (k k' : IntKind) (a b : Int) (t : Tag L) : lB P .rem ty (.int k a) (.int k' b) L t = (k = k' ∧ b ≠ 0 ∧ L (.int k (a.tmod b))) := rfl
@[go_sem] theorem bC2 (ty : TypeId) (k k' : IntKind) (a b : Int) (t : Tag L) : lB P .shl ty (.int k a) (.int k' b) L t = (0 ≤ b ∧ L (.int k (k.wrap (a * 2 ^ (min b.toNat k.bits))))) := rfl
@[go_sem] theorem bC3 (ty : TypeId) (k k' : IntKind) (a b : Int) (t : Tag L) : lB P .shr ty (.int k a) (.int k' b) L t = (0 ≤ b ∧ L (.int k (a.fdiv (2 ^ (min b.toNat k.bits))))) := rfl
@[go_sem] theorem bA6 (ty : TypeId) (a b : List UInt8) (t : Tag L) : lB P .add ty (.str a) (.str b) L t = (a.length + b.length ≤ 9223372036854775807 ∧ L (.str (a ++ b))) := rfl
@[go_sem] theorem bA7 (ty : TypeId) (a b : List UInt8) (t : Tag L) : lB P .eql ty (.str a) (.str b) L t = L (.bool (decide (a = b))) := rfl
@[go_sem] theorem bA8 (ty : TypeId) (a b : List UInt8) (t : Tag L) : lB P .neq ty (.str a) (.str b) L t = L (.bool (!decide (a = b))) := rfl
@[go_sem] theorem bA9 (ty : TypeId) (a b : List UInt8) (t : Tag L) : lB P .lss ty (.str a) (.str b) L t = L (.bool (Op.bytesLess a b)) := rfl
@[go_sem] theorem bBA (ty : TypeId) (a b : Bool) (t : Tag L) : lB P .eql ty (.bool a) (.bool b) L t = (xN P ty = some .bool ∧ L (.bool (a == b))) := rfl
@[go_sem] theorem bBB (ty : TypeId) (a b : Bool) (t : Tag L) : lB P .neq ty (.bool a) (.bool b) L t = (xN P ty = some .bool ∧ L (.bool (a != b))) := rfl
@[go_sem] theorem aZS (v : Value) : r5 (.const v) = true := rfl
@[go_sem] theorem a4O (v : Tmp) : r5 (.tmp v) = false := rfl
@[go_sem] theorem aWF (v : Nat) : r5 (.global v) = false := rfl
@[go_sem] theorem a0L (v : FuncId) : r5 (.func v) = false := rfl
@[go_sem] theorem bC4 (op : BinOp) (ty : TypeId) (c : Bool) (k : IntKind) (a : Int) (y : aD) (t : Tag L) : aGM P op ty c (.int k a) y L t = lB P op ty (.int k a) y L () := by cases c <;> rfl
@[go_sem] theorem bBC (op : BinOp) (ty : TypeId) (c : Bool) (a : Bool) (y : aD) (t : Tag L) : aGM P op ty c (.bool a) y L t = lB P op ty (.bool a) y L () := by cases c <;> rfl
@[go_sem] theorem bC5 (op : BinOp) (ty : TypeId) (c : Bool) (a : List UInt8) (y : aD) (t : Tag L) : aGM P op ty c (.str a) y L t = lB P op ty (.str a) y L () := by cases c <;> rfl
@[go_sem] theorem bII (op : BinOp) (ty : TypeId) (c : Bool) (sz : Nat) (es : List (List aD)) (b : Bool) (y : aD) (t : Tag L) : aGM P op ty c (.sl sz es b) y L t = aEV P op ty (.sl sz es b) y L () := by cases c <;> rfl
@[go_sem] theorem bC6 (ty ti : TypeId) (v : aD) (t : Tag L) : aGM P .eql ty true (.iface ti v) .mT L t = (aEH P ty = true ∧ L (.bool false)) := rfl
@[go_sem] theorem bC7 (ty : TypeId) (t : Tag L) : aGM P .eql ty true .mT .mT L t = (aEH P ty = true ∧ L (.bool true)) := rfl
@[go_sem] theorem bBD (ty ti : TypeId) (v : aD) (t : Tag L) : aGM P .neq ty true (.iface ti v) .mT L t = (aEH P ty = true ∧ L (.bool true)) := rfl
@[go_sem] theorem bBE (ty : TypeId) (t : Tag L) : aGM P .neq ty true .mT .mT L t = (aEH P ty = true ∧ L (.bool false)) := rfl
@[go_sem] theorem bC8 (op : BinOp) (ty : TypeId) (k : IntKind) (a : Int) (y : aD) (t : Tag L) : aEV P op ty (.int k a) y L t = lB P op ty (.int k a) y L () := rfl
@[go_sem] theorem bBF (op : BinOp) (ty : TypeId) (a : Bool) (y : aD) (t : Tag L) : aEV P op ty (.bool a) y L t = lB P op ty (.bool a) y L () := rfl
@[go_sem] theorem bC9 (op : BinOp) (ty : TypeId) (a : List UInt8) (y : aD) (t : Tag L) : aEV P op ty (.str a) y L t = lB P op ty (.str a) y L () := rfl
@[go_sem] theorem bDA (ty : TypeId) (sz : Nat) (es : List (List aD)) (b : Bool) (t : Tag L) : aEV P .eql ty (.sl sz es b) .bI L t = ((match xN P ty with | some (.slice _) => True | _ => False) ∧ (es = [] → L (.bool true)) ∧ L (.bool false)) := rfl
@[go_sem] theorem bBG (ty : TypeId) (sz : Nat) (es : List (List aD)) (b : Bool) (t : Tag L) : aEV P .neq ty (.sl sz es b) .bI L t = ((match xN P ty with | some (.slice _) => True | _ => False) ∧ (es = [] → L (.bool false)) ∧ L (.bool true)) := rfl
@[go_sem] theorem bIJ (op : BinOp) (ty : TypeId) (c : Bool) (m sz i len : Nat) (y : aD) (t : Tag L) : aGM P op ty c (.os m sz i len) y L t = aEV P op ty (.os m sz i len) y L () := by cases c <;> rfl
@[go_sem] theorem bDB (op : BinOp) (ty : TypeId) (c : Bool) (y : aD) (t : Tag L) : aGM P op ty c .bI y L t = aEV P op ty .bI y L () := by cases c <;> rfl
@[go_sem] theorem bIK (ty : TypeId) (m sz i len : Nat) (t : Tag L) : aEV P .eql ty (.os m sz i len) .bI L t = ((match xN P ty with | some (.slice _) => True | _ => False) ∧ (len = 0 → L (.bool true)) ∧ L (.bool false)) := rfl
@[go_sem] theorem bDC (ty : TypeId) (m sz i len : Nat) (t : Tag L) : aEV P .neq ty (.os m sz i len) .bI L t = ((match xN P ty with | some (.slice _) => True | _ => False) ∧ (len = 0 → L (.bool false)) ∧ L (.bool true)) := rfl
@[go_sem] theorem bIL (ty : TypeId) (t : Tag L) : aEV P .eql ty .bI .bI L t = ((match xN P ty with | some (.slice _) => True | _ => False) ∧ L (.bool true)) := rfl
@[go_sem] theorem bDD (ty : TypeId) (t : Tag L) : aEV P .neq ty .bI .bI L t = ((match xN P ty with | some (.slice _) => True | _ => False) ∧ L (.bool false)) := rfl
@[go_sem] theorem bIM (b : Bool) (t : Tag L) : unF .not (.bool b) L t = L (.bool (!b)) := rfl
@[go_sem] theorem bIN (k : IntKind) (n : Int) (t : Tag L) : unF .neg (.int k n) L t = L (.int k (k.wrap (0 - n))) := rfl
@[go_sem] theorem bIO (s : TyD) (k k' : IntKind) (n : Int) (t : Tag L) : cvF P (some s) (some (.int k')) (.int k n) L t = L (.int k' (k'.wrap n)) := by simp [cvF]
@[go_sem] theorem bBH (et : TypeId) (es : List (List aD)) (b : Bool) (t : Tag L) : cvF P (some (.slice et)) (some .str) (.sl 1 es b) L t = (xN P et = some (.int .u8) ∧ fV (bytesOf es) (fun bs => L (.str bs)) ()) := by
 simp only [cvF, fV]; cases bytesOf es <;> rfl
@[go_sem] theorem bJU (cr pr : List (Nat × Nat)) (i : Nat) (r : Option lK) (n sz j off : Nat) (M : List (Nat × Nat) → aD → aA → Prop) (t : Tag M) : rdF cr i pr r (.op n sz j off) h M t = ldF r (.op n sz j off) h (fun v => M (aNV cr i (some n) pr) v h) () := rfl
@[go_sem] theorem bJV (cr pr : List (Nat × Nat)) (i : Nat) (r : Option lK) (sz j off : Nat) (es : List (List aD)) (M : List (Nat × Nat) → aD → aA → Prop) (t : Tag M) : rdF cr i pr r (.ip sz es j off) h M t = ldF r (.ip sz es j off) h (fun v => M (aNV cr i none pr) v h) () := rfl
attribute [go_sem] aNV aV4 xS aGG bytesOf
@[go_sem] theorem a4P (x : Operand) : iI (.move x) = false := rfl
@[go_sem] theorem aZT (x : Operand) : iI (.assign x) = false := rfl
@[go_sem] theorem a0M (x : TypeId) : iI (.alloc x) = false := rfl
@[go_sem] theorem a67 (x : TypeId) (v : Operand) : iI (.box x v) = false := rfl
@[go_sem] theorem bBI (x : TypeId) (l : Nat) (ps : Array (Nat × Operand)) : iI (.buildSlice x l ps) = false := rfl
@[go_sem] theorem a0N (x : TypeId) (ps : Array (Nat × Operand)) : iI (.build x ps) = false := rfl
@[go_sem] theorem a0O (x : TypeId) (a v : Operand) : iI (.store x a v) = false := rfl
@[go_sem] theorem bBJ (x : TypeId) (a v : Operand) : iI (.makeSlice x a v) = false := rfl
@[go_sem] theorem a4Q (c : Call) : iI (.call c) = false := rfl
@[go_sem] theorem bBK (x : TypeId) (r : Option Operand) : iI (.makeMap x r) = false := rfl
@[go_sem] theorem aZU (x : TypeId) (a b : Operand) (c : Bool) : iI (.lookup x a b c) = false := rfl
@[go_sem] theorem bBL (x : TypeId) (a b c : Operand) : iI (.mapUpdate x a b c) = false := rfl
@[go_sem] theorem bBM (x : TypeId) (a b : Operand) : iI (.mapEntry x a b) = false := rfl
@[go_sem] theorem bBN (x : TypeId) (a b c : Operand) : iI (.entryStore x a b c) = false := rfl
@[go_sem] theorem a68 (x : TypeId) (a b c : Operand) : iI (.insert x a b c) = false := rfl
@[go_sem] theorem a0P (x : TypeId) (a : Operand) : iI (.range x a) = false := rfl
@[go_sem] theorem a4R (a : Operand) (b : Bool) : iI (.next a b) = false := rfl
@[go_sem] theorem a0Q (a : Operand) : iI (.entry a) = false := rfl
@[go_sem] theorem a0R (x : TypeId) (a : Operand) (b c d : Option Operand) : iI (.slice x a b c d) = false := rfl
@[go_sem] theorem bBO (x : TypeId) (a b : Operand) : iI (.indexAddr x a b) = false := rfl
@[go_sem] theorem bBP (x : TypeId) (a : Operand) (b : Nat) : iI (.fieldAddr x a b) = false := rfl
@[go_sem] theorem bBQ (a : Operand) (b : Nat) : iI (.extract a b) = false := rfl
@[go_sem] theorem bBR (f : Fn) (a b : Array Operand) : iI (.makeFunc f a b) = false := rfl
@[go_sem] theorem a4S (a b : TypeId) (x : Operand) : iI (.convert a b x) = false := rfl
@[go_sem] theorem a69 (o : BinOp) (a b : TypeId) (x y : Operand) : iI (.binOp o a x y b) = false := rfl
@[go_sem] theorem a4T (x y z : Operand) : iI (.pick x y z) = false := rfl
@[go_sem] theorem bBS (x : Operand) : iI (.nilCheck x) = false := rfl
def aWG (fs : List (Nat × TypeId × Nat)) (f : Nat) (K : Nat → Prop) (_ : Tag K) : Prop := match fs[f]? with | some (off, _, sz') => sz' ≠ 0 ∧ K off | none => False
@[go_sem] theorem bBT (off sz : Nat) (ty : TypeId) (fs : List (Nat × TypeId × Nat)) (M : Nat → Prop) (t : Tag M) : aWG ((off, ty, sz) :: fs) 0 M t = (sz ≠ 0 ∧ M off) := rfl
@[go_sem] theorem bBU (x : Nat × TypeId × Nat) (fs : List (Nat × TypeId × Nat)) (n : Nat) (M : Nat → Prop) (t : Tag M) : aWG (x :: fs) (n + 1) M t = aWG fs n M () := rfl
@[go_sem] theorem bJW (fs : List (Nat × TypeId × Nat)) (f n sz i k : Nat) (t : Tag L) : faF (some (.st fs)) f (.op n sz i k) L t = aWG fs f (fun off => L (.op n sz i (k + off))) () := rfl
@[go_sem] theorem bJX (fs : List (Nat × TypeId × Nat)) (f sz i k : Nat) (es : List (List aD)) (t : Tag L) : faF (some (.st fs)) f (.ip sz es i k) L t = aWG fs f (fun off => L (.ip sz es i (k + off))) () := rfl
@[go_sem] theorem bJY (re : lK) (sz : Nat) (es : List (List aD)) (b : Bool) (k : IntKind) (n : Int) (t : Tag L) : iaF (some re) (.sl sz es b) (.int k n) L t = (re.sz = sz ∧ 0 ≤ n ∧ n < es.length ∧ L (.ip sz es n.toNat 0)) := rfl
@[go_sem] theorem bJZ (re : lK) (m sz i0 len : Nat) (k : IntKind) (n : Int) (t : Tag L) : iaF (some re) (.os m sz i0 len) (.int k n) L t = (re.sz = sz ∧ 0 ≤ n ∧ n < len ∧ L (.op m sz (i0 + n.toNat) 0)) := rfl
@[go_sem] theorem bIP (s : List UInt8) (k : IntKind) (n : Int) (t : Tag L) : ixF (some .str) (.str s) (.int k n) L t = (0 ≤ n ∧ fV s[n.toNat]? (fun c => L (.int .u8 c.toNat)) ()) := by
 simp only [ixF, aAJ, fV]; cases s[n.toNat]? <;> rfl
@[go_sem] theorem bJ0 (r : lK) (sz i off : Nat) (es : List (List aD)) (t : Tag L) : ldF (some r) (.ip sz es i off) h L t = fV es[i]? (fun e => fV (ld r e off) L ()) () := by
 simp only [ldF, jK, fV]
 cases es[i]? with
 |none => rfl
 |some e => simp only; cases ld r e off <;> rfl
@[go_sem] theorem bJ1 (r : lK) (sz i off : Nat) (es : List (List aD)) (t : Tag L) : ldG (some r) (.ip sz es i off) L t = fV es[i]? (fun e => fV (ld r e off) L ()) () := by
 simp only [ldG, jK, fV]
 cases es[i]? with
 |none => rfl
 |some e => simp only; cases ld r e off <;> rfl
def aP8 (o : Option cB) (K : Nat → List (List Cell) → Prop) (_ : Tag K) : Prop := match o with | some (.row sz es) => K sz es | _ => False
@[go_sem] theorem bDE (sz : Nat) (es : List (List Cell)) (M : Nat → List (List Cell) → Prop) (t : Tag M) : aP8 (some (.row sz es)) M t = M sz es := rfl
@[go_sem] theorem bJ2 (r : lK) (n sz i off : Nat) (t : Tag L) : ldF (some r) (.op n sz i off) h L t = aP8 (h n) (fun sz' es => sz' = sz ∧ fV es[i]? (fun e => fV (aEB r e off) L ()) ()) () := by
 simp only [ldF, jK, aP8]
 cases h n with
 |none => rfl
 |some o =>
  cases o with
  |row sz' es =>
   simp only [fV]
   cases es[i]? with
   |none => rfl
   |some e => simp only; cases aEB r e off <;> rfl
  | _ => rfl
@[go_sem] theorem bJ3 (r : lK) (n sz i off : Nat) (v : aD) (M : aA → Prop) (t : Tag M) : stF (some r) (.op n sz i off) v h M t = aP8 (h n) (fun sz' es => sz' = sz ∧ fV es[i]? (fun e => v.cells.all aD.flat = true ∧ v.cells.length = r.sz ∧ off + r.sz ≤ e.length ∧ M (aT h n (.row sz (es.set i (oT e off v.cells))))) ()) () := by
 simp only [stF, aJ8, aP8]
 cases h n with
 |none => rfl
 |some o =>
  cases o with
  |row sz' es => simp only [fV]; cases es[i]? <;> rfl
  | _ => rfl
@[go_sem] theorem bJ4 (re : lK) (t1 : Option TypeId) (n sz i len : Nat) (y : aD) (t : Tag K) : apF P (some re) t1 (.os n sz i len) y h K t = (re.zero.length = re.sz ∧ 0 < re.sz ∧ x7 P t1 = true ∧ re.sz = sz ∧ aP8 (h n) (fun sz' es => sz' = sz ∧ i + len ≤ es.length ∧ fV (tS h sz y) (fun ys => (len + ys.length) * re.bytes ≤ 140737488355328 ∧ len + ys.length ≤ 9223372036854775807 ∧
  ∀ b, h b = none → K (.os b sz 0 (len + ys.length)) (aT (aT h n .gone) b (.row sz ((es.drop i).take len ++ ys.map (List.map .v))))) ()) ()) := by
 simp only [apF, wD, aP8]
 cases h n with
 |none => rfl
 |some o =>
  cases o with
  |row sz' es => simp only [fV]; cases tS h sz y <;> rfl
  | _ => rfl
@[go_sem] theorem bJ5 (re : lK) (t1 : Option TypeId) (sz : Nat) (es : List (List aD)) (tg : Bool) (y : aD) (t : Tag K) : apF P (some re) t1 (.sl sz es tg) y h K t = (re.zero.length = re.sz ∧ 0 < re.sz ∧ x7 P t1 = true ∧ fV (aA9 re.sz (.sl sz es tg)) (fun olds => fV (tS h re.sz y) (fun ys => (ys = [] → K (.sl sz es tg) h) ∧ (ys ≠ [] → (olds.length + ys.length) * re.bytes ≤ 140737488355328 ∧ olds.length + ys.length ≤ 9223372036854775807 ∧
  ∀ n, h n = none → K (.os n re.sz 0 (olds.length + ys.length)) (aT h n (.row re.sz ((olds ++ ys).map (List.map .v)))))) ()) ()) := by
 simp only [apF, wD]
 cases hd : aA9 re.sz (.sl sz es tg) with
 |none => rfl
 |some olds => simp only [fV]; cases tS h re.sz y <;> rfl
@[go_sem] theorem bIQ (re : lK) (t1 : Option TypeId) (y : aD) (t : Tag K) : apF P (some re) t1 .bI y h K t = (re.zero.length = re.sz ∧ 0 < re.sz ∧ x7 P t1 = true ∧ fV (tS h re.sz y) (fun ys => (ys = [] → K .bI h) ∧ (ys ≠ [] → ((([] : List (List aD)).length) + ys.length) * re.bytes ≤ 140737488355328 ∧ (([] : List (List aD)).length) + ys.length ≤ 9223372036854775807 ∧
  ∀ n, h n = none → K (.os n re.sz 0 ((([] : List (List aD)).length) + ys.length)) (aT h n (.row re.sz (([] ++ ys).map (List.map .v)))))) ()) := by
 simp only [apF, wD, aA9]
 cases tS h re.sz y <;> rfl
@[go_sem] theorem bDF (r : lK) (t : Tag K) : alF (some r) h K t = (r.zero ≠ [] ∧ r.zero.all aD.flat = true ∧ ∀ n, h n = none → K (.op n r.zero.length 0 0) (aT h n (.row r.zero.length [r.zero.map .v]))) := rfl
@[go_sem] theorem bIR (re : lK) (k k' : IntKind) (a b : Int) (t : Tag K) : mkF (some re) (.int k a) (.int k' b) h K t = (re.zero.length = re.sz ∧ 0 < re.sz ∧ re.zero.all aD.flat = true ∧ 0 ≤ a ∧ a ≤ b ∧ b ≤ 281474976710656 ∧ re.bytes * b ≤ 281474976710656 ∧
    ∀ n, h n = none → K (.os n re.sz 0 a.toNat) (aT h n (.row re.sz ((List.replicate b.toNat re.zero).map (List.map .v))))) := rfl
@[go_sem] theorem bIS (et : TypeId) (sz : Nat) (es : List (List aD)) (b : Bool) (t : Tag L) : aUB P (some (.slice et)) (.sl sz es b) L t = (es.length ≤ 9223372036854775807 → L (.int .i64 es.length)) := rfl
@[go_sem] theorem bIT (et : TypeId) (m sz i n : Nat) (t : Tag L) : aUB P (some (.slice et)) (.os m sz i n) L t = (n ≤ 9223372036854775807 → L (.int .i64 n)) := rfl
@[go_sem] theorem bDG (et : TypeId) (t : Tag L) : aUB P (some (.slice et)) .bI L t = L (.int .i64 0) := rfl
@[go_sem] theorem bDH (s : List UInt8) (t : Tag L) : aUB P (some .str) (.str s) L t = (s.length ≤ 9223372036854775807 → L (.int .i64 s.length)) := rfl
@[go_sem] theorem bIU (et : TypeId) (sz : Nat) (es : List (List aD)) (b : Bool) (t : Tag L) : aWD P (some (.slice et)) (.sl sz es b) L t = L (.int .i64 es.length) := rfl
@[go_sem] theorem bIV (et : TypeId) (m sz i n : Nat) (t : Tag L) : aWD P (some (.slice et)) (.os m sz i n) L t = L (.int .i64 n) := rfl
@[go_sem] theorem bDI (et : TypeId) (t : Tag L) : aWD P (some (.slice et)) .bI L t = L (.int .i64 0) := rfl
@[go_sem] theorem bDJ (s : List UInt8) (t : Tag L) : aWD P (some .str) (.str s) L t = L (.int .i64 s.length) := rfl
@[go_sem] theorem bIW (cs : List aD) (i : Nat) (t : Tag L) : exF (.kL cs) i L t = fV cs[i]? L () := by
 simp only [exF, fV]; cases cs[i]? <;> rfl
@[go_sem] theorem bJ6 (n sz i k : Nat) (t : Tag L) : ncF (.op n sz i k) L t = L (.op n sz i k) := rfl
@[go_sem] theorem bJ7 (sz i k : Nat) (es : List (List aD)) (t : Tag L) : ncF (.ip sz es i k) L t = L (.ip sz es i k) := rfl
@[go_sem] theorem bDK (r : lK) (ps : List (Nat × aD)) (t : Tag L) : buF P (some r) ps L t = (yA P r.d = true ∧ r.zero ≠ [] ∧ wB (rI P r.d) r.zero.length ps = true ∧ L (.agg (aF2 (rI P r.d) r.zero ps))) := rfl
@[go_sem] theorem bJ8 (ty : TypeId) (sz : Nat) (es : List (List aD)) (b : Bool) (lo hi : Option aD) (t : Tag L) : slF P ty (.sl sz es b) lo hi L t = fV (lH P ty) (fun re => re.sz = sz ∧ fV (jJ 0 lo) (fun l => fV (jJ es.length hi) (fun m => 0 ≤ l ∧ l ≤ m ∧ m ≤ es.length ∧ L (.sl sz ((es.take m.toNat).drop l.toNat) (b && decide (m = es.length)))) ()) ()) () := by
 simp only [slF, mN, fV]
 cases lH P ty with
 |none => rfl
 |some re =>
  simp only
  cases jJ 0 lo with
  |none => rfl
  |some l => simp only; cases jJ es.length hi <;> rfl
@[go_sem] theorem bJ9 (ty : TypeId) (n sz i len : Nat) (lo hi : Option aD) (t : Tag L) : slF P ty (.os n sz i len) lo hi L t = fV (lH P ty) (fun re => re.sz = sz ∧ fV (jJ 0 lo) (fun l => fV (jJ len hi) (fun m => 0 ≤ l ∧ l < m ∧ m ≤ len ∧ L (.os n sz (i + l.toNat) (m.toNat - l.toNat))) ()) ()) () := by
 simp only [slF, mN, fV]
 cases lH P ty with
 |none => rfl
 |some re =>
  simp only
  cases jJ 0 lo with
  |none => rfl
  |some l => simp only; cases jJ len hi <;> rfl
@[go_sem] theorem bIX (ty : TypeId) (s : List UInt8) (lo hi : Option aD) (t : Tag L) : slD P ty (.str s) lo hi L t = slF P ty (.str s) lo hi L () := by cases hi <;> rfl
@[go_sem] theorem bKA (ty : TypeId) (sz : Nat) (es : List (List aD)) (b : Bool) (lo hi : Option aD) (t : Tag L) : slD P ty (.sl sz es b) lo hi L t = slF P ty (.sl sz es b) lo hi L () := by cases hi <;> rfl
@[go_sem] theorem bKB (ty : TypeId) (n sz i len : Nat) (lo : Option aD) (y : aD) (t : Tag L) : slD P ty (.os n sz i len) lo (some y) L t = slF P ty (.os n sz i len) lo (some y) L () := rfl
@[go_sem] theorem bIY (ty : TypeId) (n sz i len : Nat) (lo : Option aD) (t : Tag L) : slD P ty (.os n sz i len) lo none L t = fV (lH P ty) (fun re => re.sz = sz ∧ fV (jJ 0 lo) (fun l => 0 ≤ l ∧ l ≤ len ∧ (l < len → L (.os n sz (i + l.toNat) (len - l.toNat))) ∧ (l = len → L (.os n sz (i + len) 0) ∧ L (.sl sz [] true))) ()) () := by
 simp only [slD, qF, fV]
 cases lH P ty with
 |none => rfl
 |some re =>
  simp only
  cases jJ 0 lo <;> rfl
@[go_sem] theorem bIZ (ty : TypeId) (sz : Nat) (es : List (List aD)) (b : Bool) (lo : Option aD) (hi mx : aD) (t : Tag L) : a0I P ty (.sl sz es b) lo hi mx L t = fV (lH P ty) (fun re => re.sz = sz ∧ fV (jJ 0 lo) (fun l => fV (jJ es.length (some hi)) (fun m => fV (jJ 0 (some mx)) (fun M => 0 ≤ l ∧ l ≤ m ∧ m ≤ M ∧ M ≤ es.length ∧ L (.sl sz ((es.take m.toNat).drop l.toNat) (decide (M = m)))) ()) ()) ()) () := by
 simp only [a0I, oV, fV]
 cases lH P ty with
 |none => rfl
 |some re =>
  simp only
  cases jJ 0 lo with
  |none => rfl
  |some l =>
   simp only
   cases jJ es.length (some hi) with
   |none => rfl
   |some m => simp only; cases jJ 0 (some mx) <;> rfl
def aP9 (P : Program) (τ : bN) (h : aA) (l : List ResultVar) (M : List aD → Prop) (_ : Tag M) : Prop := aV1 P τ h l M
@[go_sem] theorem bDL (τ : bN) (M : List aD → Prop) (t : Tag M) : aP9 P τ h [] M t = M [] := rfl
@[go_sem] theorem bDM (τ : bN) (s : Tmp) (l : List ResultVar) (M : List aD → Prop) (t : Tag M) : aP9 P τ h (.tmp s :: l) M t = aP9 P τ h l (fun vs => M (b6 τ s :: vs)) () := rfl
@[go_sem] theorem bBV (τ : bN) (a : Tmp) (ty : TypeId) (l : List ResultVar) (M : List aD → Prop) (t : Tag M) : aP9 P τ h (.cell a ty :: l) M t = ldF (iT P ty) (b6 τ a) h (fun v => aP9 P τ h l (fun vs => M (v :: vs)) ()) () := rfl
def aNY (vs : List aD) (L : aD → Prop) (_ : Tag L) : Prop := match vs with | [v] => L v | vs => L (.kL vs)
@[go_sem] theorem bBW (t : Tag L) : aNY [] L t = L (.kL []) := rfl
@[go_sem] theorem bBX (v : aD) (t : Tag L) : aNY [v] L t = L v := rfl
@[go_sem] theorem bBY (v w : aD) (vs : List aD) (t : Tag L) : aNY (v :: w :: vs) L t = L (.kL (v :: w :: vs)) := rfl
end
def sX (P : Program) (rs : Array ResultVar) (K : aD → aA → Prop) (_ : Tag K) : Exit → bN → aA → Prop := aBF P rs K
section
variable (P : Program) (rs : Array ResultVar) (K : aD → aA → Prop) (τ : bN) (h : aA)
@[go_sem] theorem a0S (t : Tag K) : sX P rs K t .normal τ h = aP9 P τ h rs.toList (fun vs => aNY vs (fun v => K v h) ()) () := rfl
@[go_sem] theorem bBZ (t : Tag K) : sX P rs K t .ret τ h = aP9 P τ h rs.toList (fun vs => aNY vs (fun v => K v h) ()) () := rfl
@[go_sem] theorem a7A (i : Nat) (t : Tag K) : sX P rs K t (.exit i) τ h = False := rfl
end
theorem gD {P : Program} {f : FuncId} {fn : Func} {c : Code} (N : Nat) (keep ib : List Nat) (mk : Marks) {args : List aD} {r : aD} (hmix : P.follows .mixedOrders = true) (hf : P.funcs[f]? = some fn) (hb : fn.body = some c)
  (hck : (mI P f && decide (fn.ntmps = N) && jV N mk c) = true) (hl : args.length ≤ N)
  (hw : ∀ h, qU P N keep ib mk c (fun τ h' => sX P fn.results (fun r' h' => r' = r ∧ h.le h') () .normal τ h') (sX P fn.results (fun r' h' => r' = r ∧ h.le h') ()) (sU 0 args) h ()) : gV P f args r :=
 a0C N keep ib mk hmix hf hb hck hl hw
theorem uU {P : Program} {f : FuncId} {fn : Func} {c : Code} (N : Nat) (keep ib : List Nat) (mk : Marks) {args : List aD} {r : aD} (hmix : P.follows .mixedOrders = true) (hf : P.funcs[f]? = some fn) (hb : fn.body = some c)
  (hck : (mI P f && decide (fn.ntmps = N) && jV N mk c) = true) (hl : args.length ≤ N)
  (hw : ∀ h, qU P N keep ib mk c (fun τ h' => sX P fn.results (fun r' h' => Shift r' h' r h) () .normal τ h') (sX P fn.results (fun r' h' => Shift r' h' r h) ()) (sU 0 args) h ()) : gV P f args r :=
 aWC N keep ib mk hmix hf hb hck hl hw
theorem dA {P : Program} {N : Nat} {keep ib : List Nat} {mk : Marks} {c : Code} {Q : Exit → bN → aA → Prop} {τ : bN} {h : aA} {t : Tag (Code.loop c, Q)} {α : Type} (hmix : P.follows .mixedOrders = true) (hc : jV N mk c = true) (S : α → bN) (H : α → aA) (side : α → Prop) (μ : α → Nat) (x₀ : α)
  (h₀ : dF (S x₀) τ ∧ (H x₀).le h ∧ side x₀)
  (round : ∀ x, side x → qU P N keep ib mk c (fun τ' h' => ∃ x', dF (S x') τ' ∧ (H x').le h' ∧ side x' ∧ μ x' < μ x) Q (S x) (H x) ()) : aKE P N (.loop c) Q τ h t :=
 o9.dA S H side μ x₀ h₀ fun x hx => aGL hmix c _ _ _ _ hc (round x hx)
set_option linter.unusedVariables false
set_option linter.unusedSimpArgs false
theorem Sub.fP {sz sz' i off : Nat} {es : List (List aD)} {e e' : List aD} (he : es[i]? = some e) (h' : (e.drop off).take sz' = e') (hl : e'.length = sz') : Sub (.ip sz es i off) (.ip sz' [e'] 0 0) := fun E h w v r => by
 cases r with
 |ip _ _ _ _ b o cv hi hs hc h1 hr =>
  have hat : ∀ i' j x, iW [e'] i' j = some x → i' = 0 ∧ iW es i (off + j) = some x := by
   intro i' j x hx
   obtain ⟨e1, h1, h2⟩ := mH hx
   cases i' with
   |zero =>
    simp at h1; subst h1
    refine ⟨rfl, ?_⟩
    subst h'
    rw [List.getElem?_take] at h2
    split at h2
    ·rw [List.getElem?_drop] at h2
     simp [iW, he, h2]
    ·cases h2
   |succ n => simp at h1
  have := fL.ip (E := E) (h := h) (w := w) sz' [e'] 0 0 b (o + i * sz + off) (fun i' j => cv (i + i') (off + j)) hi (fun e1 he' => by simp at he'; subst he'; exact hl)
   (fun i' j x hx => by obtain ⟨rfl, hy⟩ := hat i' j x hx; have := hc i _ x hy; simpa [Nat.add_assoc] using this)
   (fun i' j x hx => by obtain ⟨rfl, hy⟩ := hat i' j x hx; exact h1 i _ x hy)
   (fun i' j x hx => by obtain ⟨rfl, hy⟩ := hat i' j x hx; exact hr i _ x hy)
  simpa using this
theorem Sub.ip {sz i : Nat} {es : List (List aD)} {e : List aD} (he : es[i]? = some e) (hl : e.length = sz) : Sub (.ip sz es i 0) (.ip sz [e] 0 0) :=
 Sub.fP he (by rw [List.drop_zero, List.take_of_length_le (by omega)]) hl
open Go.ChangeShapes Go.WideShapes
set_option linter.unusedVariables false
set_option linter.unusedSimpArgs false
def Dat (P : Program) : Nat → TypeId → List aD → Prop
 |0, _, _ => False
 |n + 1, t, xs =>
  match P.underlying t with
  |some .bool => ∃ b, xs = [.bool b]
  |some (.int k) => ∃ i, xs = [.int k i] ∧ (Lit.int k i).wf = true
  |some .string => ∃ s, xs = [.str s]
  |some (.slice e) => ∃ es, xs = [.sl (P.cellsOf e) es false] ∧ ∀ y ∈ es, Dat P n e y
  |some (.struct fs) => xs.length = P.cellsOf t ∧ ∀ (i : Nat) (f : Field), fs[i]? = some f → Dat P n f.type ((xs.drop f.offset).take (P.cellsOf f.type))
  | _ => False
def yI (P : Program) : List Field → Nat → Option Nat
 | [], o => some o
 |f :: fs, o => if f.offset = o then yI P fs (o + P.cellsOf f.type) else none
def aUC (P : Program) (T : List TypeId) : Bool := T.all fun t =>
 match P.underlying t with
 |some .bool | some (.int _) | some .string => P.cellsOf t == 1
 |some (.slice e) => P.cellsOf t == 1 && decide (0 < P.cellsOf e) && T.contains e
 |some (.struct fs) => (yI P fs.toList 0 == some (P.cellsOf t)) && fs.toList.all (fun f => T.contains f.type)
 | _ => false
theorem aBI {P : Program} {T : List TypeId} (hT : aUC P T = true) : ∀ (n : Nat) (t : TypeId) (xs : List aD), t ∈ T → Dat P n t xs → xs.length = P.cellsOf t ∧ xs.all aD.flat = true
 |0, _, _, _, h => h.elim
 |n + 1, t, xs, ht, h => by
  have hd := List.all_eq_true.1 hT t ht
  unfold Dat at h
  split at h
  ·rename_i hu; rw [hu] at hd; obtain ⟨b, rfl⟩ := h; exact ⟨by simpa using (of_decide_eq_true hd).symm, rfl⟩
  ·rename_i hu; rw [hu] at hd; obtain ⟨i, rfl, _⟩ := h; exact ⟨by simpa using (of_decide_eq_true hd).symm, rfl⟩
  ·rename_i hu; rw [hu] at hd; obtain ⟨s, rfl⟩ := h; exact ⟨by simpa using (of_decide_eq_true hd).symm, rfl⟩
  ·rename_i e hu
   rw [hu] at hd; obtain ⟨es, rfl, _⟩ := h
   simp only [Bool.and_eq_true, beq_iff_eq] at hd
   exact ⟨by simp [hd.1.1], rfl⟩
  ·rename_i fs hu
   rw [hu] at hd
   obtain ⟨hl, hf⟩ := h
   refine ⟨hl, ?_⟩
   simp only [Bool.and_eq_true, beq_iff_eq, List.all_eq_true] at hd
   have key : ∀ (l : List Field) (o : Nat), (∀ f ∈ l, T.contains f.type = true ∧ Dat P n f.type ((xs.drop f.offset).take (P.cellsOf f.type))) → yI P l o = some (P.cellsOf t) → (xs.drop o).all aD.flat = true := by
    intro l
    induction l with
    |nil => intro o _ ho; simp only [yI, Option.some.injEq] at ho; rw [List.drop_eq_nil_of_le (by omega)]; rfl
    |cons f l ih =>
     intro o hl' ho
     simp only [yI] at ho
     split at ho
     ·rename_i e
      have h1 := hl' f List.mem_cons_self
      have h2 := (aBI hT n _ _ (by simpa using h1.1) h1.2).2
      have h3 := ih _ (fun g hg => hl' g (List.mem_cons_of_mem _ hg)) ho
      rw [e] at h2
      rw [← List.take_append_drop (P.cellsOf f.type) (xs.drop o), List.all_append, h2, List.drop_drop, h3]; rfl
     ·cases ho
   have := key fs.toList 0 (fun f hf' => by
    obtain ⟨i, hi⟩ := List.getElem?_of_mem hf'
    exact ⟨hd.2 f hf', hf i f (by simpa using hi)⟩) hd.1
   simpa using this
  ·exact h.elim
section
variable {H : Type} {enc : TypeId × Value → H} {P : Program} {w : World} {base : Nat} {sp : Nat → Bool} {held : Bool}
theorem aDC {E : Env} {h : aA} {xs : List aD} {vs : List Value} (hr : eL E h w xs vs) (hf : xs.all aD.flat = true) (j : Nat) (v : Value) (hv : vs[j]? = some v) : v.oneCell' = true := by
 obtain ⟨hj, _⟩ := List.getElem?_eq_some_iff.1 hv
 have hl := hr.length
 have hx : xs[j]? = some xs[j] := List.getElem?_eq_getElem (by omega)
 exact (fL.pK (hr.get j _ _ hx hv) (List.all_eq_true.1 hf _ (List.mem_of_getElem? hx))).1
theorem aGP {T : List TypeId} (hT : aUC P T = true) {E : Env} {h : aA} (hI : ∀ b, b < w.heap.size → pF E h w b) :
  ∀ (n : Nat) (t : TypeId) (cs : List Value) (x : DataW H × List MemPlace), t ∈ T → DataW.trod enc P w base sp held n t cs = some x → ∃ xs, Dat P n t xs ∧ eL E h w xs cs
 |0, t, cs, x, _, hx => by simp [DataW.trod] at hx
 |n + 1, t, cs, x, ht, hx => by
  have hd := List.all_eq_true.1 hT t ht
  match hu : P.underlying t with
  |some .bool =>
   obtain ⟨b, rfl, _⟩ := DataW.trod_bool hu hx
   exact ⟨[.bool b], by simp only [Dat, hu]; exact ⟨b, rfl⟩, ⟨.bool b, trivial⟩⟩
  |some (.int k) =>
   obtain ⟨i, rfl, _, hw⟩ := DataW.trod_int hu hx
   exact ⟨[.int k i], by simp only [Dat, hu]; exact ⟨i, rfl, hw⟩, ⟨.int k i, trivial⟩⟩
  |some .string =>
   obtain ⟨s, rfl, _, hs⟩ := DataW.trod_string hu hx
   refine ⟨[.str s.data.toList], by simp only [Dat, hu]; exact ⟨_, rfl⟩, ⟨?_, trivial⟩⟩
   have : s = ⟨s.data.toList.toArray⟩ := by cases s; simp
   rw [this]
   exact .str _ (by simpa using hs)
  |some (.slice e) =>
   rw [hu] at hd
   simp only [Bool.and_eq_true, beq_iff_eq, decide_eq_true_eq, List.contains_iff_mem] at hd
   rcases DataW.trod_slice hu hx with ⟨rfl, _⟩ | ⟨a, len, cap, elems, rest, m, hm, rfl, _, hb, hlc, hmax, hel, hcell, _, _⟩
   ·exact ⟨[.sl (P.cellsOf e) [] false], by simp only [Dat, hu]; exact ⟨[], rfl, by simp⟩, ⟨.sl0 _ _ _ _ (fun e => by simp at e) (by simp) trivial, trivial⟩⟩
   ·obtain rfl : n = m := by omega

    have each : ∀ i, i < len → ∃ ys vs, Dat P n e ys ∧ eL E h w ys vs ∧ w.cells? base (a.add (i * P.cellsOf e)) (P.cellsOf e) = some vs := by
     intro i hi
     have h1 := hcell i hi
     have hi' : i < elems.length := by omega
     rw [List.getElem?_eq_getElem hi'] at h1
     simp only [Option.bind_eq_some_iff] at h1
     obtain ⟨vs, h2, h3⟩ := h1
     obtain ⟨ys, h4, h5⟩ := aGP hT hI n e vs _ hd.2 h3
     exact ⟨ys, vs, h4, h5, h2⟩
    let ys : Nat → List aD := fun i => if hi : i < len then Classical.choose (each i hi) else []
    have hys : ∀ i, i < len → ∃ vs, Dat P n e (ys i) ∧ eL E h w (ys i) vs ∧ w.cells? base (a.add (i * P.cellsOf e)) (P.cellsOf e) = some vs := by
     intro i hi
     have := Classical.choose_spec (each i hi)
     simpa only [ys, dif_pos hi] using this
    by_cases h0 : len = 0
    ·subst h0
     exact ⟨[.sl (P.cellsOf e) [] false], by simp only [Dat, hu]; exact ⟨[], rfl, by simp⟩, ⟨.sl0 _ _ _ _ (fun e => by simp at e) hmax trivial, trivial⟩⟩
    have hpos : 0 < P.cellsOf e := hd.1.2

    obtain ⟨b, o, spot⟩ := a
    obtain ⟨vs0, _, _, hc0⟩ := hys 0 (by omega)
    have bKD := World.cells?_some hc0
    have hz : w.cell? ((Addr.add ⟨b, o, spot⟩ (0 * P.cellsOf e)).add 0) = vs0[0]? := bKD.2.2 0 hpos
    have nF : vs0[0]? = some vs0[0] := List.getElem?_eq_getElem (by omega)
    rw [nF] at hz
    have hspot : spot = none := by
     have := World.cell?_spot hz
     simpa [Addr.add] using this
    subst hspot
    have hblt : b < w.heap.size := by
     have := World.cells?_block hc0 hpos
     simpa [Addr.add] using this
    have hmap : ∀ i, i < len → ((List.range len).map ys)[i]? = some (ys i) := fun i hi => by simp [hi]
    refine ⟨[.sl (P.cellsOf e) ((List.range len).map ys) false], ?_, ⟨?_, trivial⟩⟩
    ·simp only [Dat, hu]
     refine ⟨_, rfl, fun y hy => ?_⟩
     simp only [List.mem_map, List.mem_range] at hy
     obtain ⟨i, hi, rfl⟩ := hy
     obtain ⟨vs, h1, _⟩ := hys i hi
     exact h1
    ·have hlen : len = ((List.range len).map ys).length := by simp
     have cells : ∀ i j x, iW ((List.range len).map ys) i j = some x → ∃ v, w.cell? ⟨b, o + i * P.cellsOf e + j, none⟩ = some v ∧ v.oneCell' = true ∧ fL E h w x v := by
      intro i j x hx
      have hi : i < len := by have := aVQ hx; simpa using this
      obtain ⟨y, hy, hj⟩ := mH hx
      rw [hmap i hi] at hy
      obtain rfl := Option.some.inj hy
      obtain ⟨vs, h1, h2, h3⟩ := hys i hi
      have hone := aBI hT n e _ hd.2 h1
      have hjl : j < (ys i).length := (List.getElem?_eq_some_iff.1 hj).1
      have h4 := World.cells?_some h3
      have hjv : j < vs.length := by rw [h2.length] at hjl; exact hjl
      have hv : vs[j]? = some vs[j] := List.getElem?_eq_getElem hjv
      refine ⟨vs[j], ?_, aDC h2 hone.2 j _ hv, h2.get j x _ hj hv⟩
      have h5 := h4.2.2 j (by omega)
      rw [hv] at h5
      rw [← h5]
      rw [lL, lL]
     have cellsC : ∀ i j, ∃ v, ∀ x, iW ((List.range len).map ys) i j = some x → w.cell? ⟨b, o + i * P.cellsOf e + j, none⟩ = some v ∧ v.oneCell' = true ∧ fL E h w x v := by
      intro i j
      match hx : iW ((List.range len).map ys) i j with
      |none => exact ⟨.bool true, fun x h => by simp at h⟩
      |some x =>
       obtain ⟨v, h1⟩ := cells i j x hx
       exact ⟨v, fun y hy => by obtain rfl := Option.some.inj hy; exact h1⟩
     let cv : Nat → Nat → Value := fun i j => Classical.choose (cellsC i j)
     have hcv : ∀ i j x, iW ((List.range len).map ys) i j = some x → w.cell? ⟨b, o + i * P.cellsOf e + j, none⟩ = some (cv i j) ∧ (cv i j).oneCell' = true ∧ fL E h w x (cv i j) := fun i j => Classical.choose_spec (cellsC i j)
     have := fL.sl (E := E) (h := h) (w := w) (P.cellsOf e) ((List.range len).map ys) false b o cap cv (hI b hblt) (by simpa using hlc) hmax (fun e => by simp at e)
      (fun y hy => by
       simp only [List.mem_map, List.mem_range] at hy
       obtain ⟨i, hi, rfl⟩ := hy
       obtain ⟨vs, h1, _⟩ := hys i hi
       exact (aBI hT n e _ hd.2 h1).1)
      (fun i j x hx => (hcv i j x hx).1) (fun i j x hx => (hcv i j x hx).2.1) (fun i j x hx => (hcv i j x hx).2.2)
     rw [← hlen] at this
     exact this
  |some (.struct fs) =>
   rw [hu] at hd
   simp only [Bool.and_eq_true, beq_iff_eq, List.all_eq_true] at hd
   obtain ⟨xs, m, hm, rfl, hl, hfl, hf⟩ := DataW.trod_struct hu hx
   obtain rfl : n = m := by omega

   have key : ∀ (l : List Field) (o : Nat), (∀ f ∈ l, T.contains f.type = true ∧ ∃ y, DataW.trod enc P w base sp held n f.type ((cs.drop f.offset).take (P.cellsOf f.type)) = some y) → yI P l o = some (P.cellsOf t) →
     ∃ ys, eL E h w ys (cs.drop o) ∧ ∀ f ∈ l, o ≤ f.offset ∧ Dat P n f.type ((ys.drop (f.offset - o)).take (P.cellsOf f.type)) := by
    intro l
    induction l with
    |nil =>
     intro o _ ho
     simp only [yI, Option.some.injEq] at ho
     rw [List.drop_eq_nil_of_le (by omega)]
     exact ⟨[], trivial, fun f hf => by simp at hf⟩
    |cons f l ih =>
     intro o hl' ho
     simp only [yI] at ho
     split at ho
     ·rename_i e
      obtain ⟨hc, y, hy⟩ := hl' f List.mem_cons_self
      obtain ⟨zs, hz1, hz2⟩ := aGP hT hI n f.type _ y (by simpa using hc) hy
      obtain ⟨ys, hy1, hy2⟩ := ih _ (fun g hg => hl' g (List.mem_cons_of_mem _ hg)) ho
      have hzl := (aBI hT n _ _ (by simpa using hc) hz1).1
      rw [e] at hz2
      have hjoin : eL E h w (zs ++ ys) (cs.drop o) := by
       have := eL.append hz2 hy1
       rw [← List.take_append_drop (P.cellsOf f.type) (cs.drop o), List.drop_drop]
       exact this
      refine ⟨zs ++ ys, hjoin, fun g hg => ?_⟩
      rcases List.mem_cons.1 hg with rfl | hg
      ·refine ⟨by omega, ?_⟩
       rw [e, Nat.sub_self, List.drop_zero, List.take_append_of_le_length (by omega), List.take_of_length_le (by omega)]
       exact hz1
      ·obtain ⟨h1, h2⟩ := hy2 g hg
       refine ⟨by omega, ?_⟩
       rw [List.drop_append, hzl, List.drop_eq_nil_of_le (by omega), List.nil_append, show g.offset - o - P.cellsOf f.type = g.offset - (o + P.cellsOf f.type) by omega]
       exact h2
     ·cases ho
   obtain ⟨ys, h1, h2⟩ := key fs.toList 0 (fun f hf' => by
    obtain ⟨i, hi⟩ := List.getElem?_of_mem hf'
    have hi' : fs[i]? = some f := by simpa using hi
    refine ⟨hd.2 f hf', ?_⟩
    have := hf i f hi'
    have hil : i < xs.length := by rw [hfl]; exact (Array.getElem?_eq_some_iff.1 hi').1
    rw [List.getElem?_eq_getElem hil] at this
    exact ⟨_, this⟩) hd.1
   rw [List.drop_zero] at h1
   refine ⟨ys, ?_, h1⟩
   simp only [Dat, hu]
   refine ⟨h1.length.trans hl, fun i f hf' => ?_⟩
   have := h2 f (by have := Array.mem_of_getElem? hf'; simpa using this)
   simpa using this.2
  |none | some .invalid | some (.float _) | some (.complex _) | some .unsafePointer | some (.named ..) | some (.pointer _) | some (.array ..) | some (.map ..) | some (.func ..) | some (.interface _) | some (.chan ..) | some (.tuple _) => all_goals (rw [hu] at hd; simp at hd)
end
open Go.ChangeShapes Go.WideShapes
set_option linter.unusedVariables false
set_option linter.unusedSimpArgs false
def aKF (P : Program) (n : Nat) (t : TypeId) (x : aD) : Prop :=
 match P.underlying t with
 |some (.struct _) => ∃ ys, x = .agg ys ∧ Dat P n t ys
 | _ => Dat P n t [x]
def aNZ (P : Program) : List TypeId → List aD → Prop
 | [], [] => True
 |t :: ts, x :: xs => (∃ n, aKF P n t x) ∧ aNZ P ts xs
 | _, _ => False
section
variable {H : Type} {enc : TypeId × Value → H} {P : Program} {w : World} {base : Nat} {sp : Nat → Bool} {held : Bool}
theorem aWH {T : List TypeId} (hT : aUC P T = true) {E : Env} {h : aA} (hI : ∀ b, b < w.heap.size → pF E h w b) {t : TypeId} (ht : t ∈ T) {v : Value} {d : DataW H} {ps : List MemPlace}
  (hok : Value.okWide P w .any base t v) (hr : DataW.Trod enc P w 0 sp held t v d ps) : ∃ x n, aKF P n t x ∧ fL E h w x v := by
 obtain ⟨n, hr⟩ := hr
 obtain ⟨xs, h1, h2⟩ := aGP hT hI n t _ _ ht hr
 have hd := List.all_eq_true.1 hT t ht
 match hu : P.underlying t with
 |some (.struct fs) =>
  obtain ⟨cs, rfl, _⟩ := okWide_struct hu hok
  exact ⟨.agg xs, n, by simp only [aKF, hu]; exact ⟨xs, rfl, h1⟩, .agg xs cs.toList h2.length h2.get⟩
 |some .bool =>
  obtain ⟨b, rfl⟩ := okWide_bool hu hok
  have hone := aBI hT n t xs ht h1
  match xs, h2 with
  | [x], h2 => exact ⟨x, n, by simp only [aKF, hu]; exact h1, by simpa [Value.cells] using h2.1⟩
  | [], h2 => exact h2.elim
  | _ :: _ :: _, h2 => exact h2.2.elim
 |some (.int k) =>
  obtain ⟨b, rfl⟩ := okWide_int hu hok
  match xs, h2 with
  | [x], h2 => exact ⟨x, n, by simp only [aKF, hu]; exact h1, by simpa [Value.cells] using h2.1⟩
  | [], h2 => exact h2.elim
  | _ :: _ :: _, h2 => exact h2.2.elim
 |some .string =>
  obtain ⟨b, rfl⟩ := okWide_string hu hok
  match xs, h2 with
  | [x], h2 => exact ⟨x, n, by simp only [aKF, hu]; exact h1, by simpa [Value.cells] using h2.1⟩
  | [], h2 => exact h2.elim
  | _ :: _ :: _, h2 => exact h2.2.elim
 |some (.slice e) =>
  obtain ⟨a, len, cap, rfl⟩ := okWide_slice hu hok
  match xs, h2 with
  | [x], h2 => exact ⟨x, n, by simp only [aKF, hu]; exact h1, by simpa [Value.cells] using h2.1⟩
  | [], h2 => exact h2.elim
  | _ :: _ :: _, h2 => exact h2.2.elim
 |none | some .invalid | some (.float _) | some (.complex _) | some .unsafePointer | some (.named ..) | some (.pointer _) | some (.array ..) | some (.map ..) | some (.func ..) | some (.interface _) | some (.chan ..) | some (.tuple _) => all_goals (rw [hu] at hd; simp at hd)
theorem aI5 {T : List TypeId} (hT : aUC P T = true) {E : Env} {h : aA} (hI : ∀ b, b < w.heap.size → pF E h w b) : ∀ {ts : List TypeId} {vs : List Value} {ds : List (DataW H)} {ps : List MemPlace},
  (∀ t ∈ ts, t ∈ T) → (∀ (j : Nat) t v, ts[j]? = some t → vs[j]? = some v → Value.okWide P w .any base t v) → DataW.TrodAll enc P w 0 sp held ts vs ds ps → ∃ xs, aNZ P ts xs ∧ eL E h w xs vs ∧ ds.length = ts.length
 | [], [], [], _, _, _, _ => ⟨[], trivial, trivial, rfl⟩
 |t :: ts, v :: vs, d :: ds, _, ht, hok, ⟨p, q, h1, h2, _⟩ => by
  obtain ⟨x, n, h3, h4⟩ := aWH hT hI (ht t List.mem_cons_self) (hok 0 t v rfl rfl) h1
  obtain ⟨xs, h5, h6, h7⟩ := aI5 hT hI (fun t' h' => ht t' (List.mem_cons_of_mem _ h')) (fun j t' v' a b => hok (j + 1) t' v' (by simpa using a) (by simpa using b)) h2
  exact ⟨x :: xs, ⟨⟨n, h3⟩, h5⟩, ⟨h4, h6⟩, by simp [h7]⟩
 | [], _ :: _, _, _, _, _, h => by cases ‹List (DataW H)› <;> exact h.elim
 | [], [], _ :: _, _, _, _, h => h.elim
 | _ :: _, [], _, _, _, _, h => by cases ‹List (DataW H)› <;> exact h.elim
 | _ :: _, _ :: _, [], _, _, _, h => h.elim
end
theorem aAB {H : Type} {enc : TypeId × Value → H} {P : Program} {w w' : World} {base : Nat} {sp : Nat → Bool} {held : Bool} : ∀ {ts : List TypeId} {vs : List Value} {ds : List (DataW H)} {ps : List MemPlace},
  DataW.TrodAll enc P w base sp held ts vs ds ps → (∀ p ∈ ps, w.sameAt w' p) → DataW.TrodAll enc P w' base sp held ts vs ds ps
 | [], [], [], _, h, _ => h
 | _ :: _, _ :: _, _ :: _, _, ⟨p, q, ⟨n, h1⟩, h2, e⟩, hs => ⟨p, q, ⟨n, DataW.trod_carry n _ _ _ h1 (fun x hx => hs x (by rw [e]; exact List.mem_append_left _ hx))⟩, aAB h2 (fun x hx => hs x (by rw [e]; exact List.mem_append_right _ hx)), e⟩
 | [], _ :: _, _, _, h, _ => by cases ‹List (DataW H)› <;> exact h.elim
 | [], [], _ :: _, _, h, _ => h.elim
 | _ :: _, [], _, _, h, _ => by cases ‹List (DataW H)› <;> exact h.elim
 | _ :: _, _ :: _, [], _, h, _ => h.elim
theorem aGQ {w w' : World} {p : MemPlace} (h : w'.heap[p.block]? = w.heap[p.block]?) : w.sameAt w' p := by
 cases p with
 |cell b o => exact uR h o none
 |map b => exact h
theorem aWI {H : Type} {enc : TypeId × Value → H} {P : Program} (lo : laidOutB P = true) (mr : mapsRowed P = true)
  (hz : ((List.range P.types.size).all fun t => match P.underlying t with | some (.slice e) => decide (0 < P.cellsOf e) | _ => true) = true)
  {fn : Func} (hT : fn.params.all (fun t => decide (t < P.types.size)) = true) {s : ChangeSpec} (hsv : s.vars = []) (hs : ∀ ds : List (DataW H), ds.length = fn.params.size → s.fn H ds = { results := [.lit (.bool true)], args := ds })
  {tb : TypeId} (hr : fn.resultTypes = #[tb]) (htb : P.underlying tb = some .bool) {W W' : World} {args : Array Value} {ds gs : List (DataW H)} {before : List MemPlace}
  (hW : DataW.Whole enc P fn.params.toList s.vars false W args.toList ds gs before) (hl : ds.length = fn.params.size)
  (hheap : ∀ b, b < W.heap.size → W'.heap[b]? = W.heap[b]?) (hos : W'.os = W.os) (hout : W'.output = W.output) :
  s.post enc P fn false true false false W args (.bool true) W' := by
 have hlt := hW.lt
 have hW0 := hW
 obtain ⟨p, q, hA, hV, rfl, hfz, _⟩ := hW
 rw [hsv] at hV
 have hgs : gs = [] ∧ q = [] := by
  match gs, hV with
  | [], h => exact ⟨rfl, h⟩
 obtain ⟨rfl, rfl⟩ := hgs
 rw [List.append_nil] at hlt hfz hW0
 have e : s.fn H (ds ++ []) = { results := [.lit (.bool true)], args := ds } := by rw [List.append_nil]; exact hs ds hl
 refine ⟨ds, [], p, [], p, [], hW0, ?_, ?_, ?_, ?_, fun h => by simp at h⟩
 ·rw [e]
  simp only [hr]
  refine ⟨[], [], ⟨1, ?_⟩, rfl, rfl⟩
  simp [DataW.trod, htb, Value.cells]
 ·rw [e]
  have h1 : DataW.TrodAll enc P W' 0 (fun _ => true) true fn.params.toList args.toList ds p := aAB hA fun x hx => aGQ (hheap _ (hlt x hx))
  refine DataW.TrodAll.respare (kids_rows lo mr) (fun t e ht hu => slices_full_of P hz t e ht hu) (fun t ht => ?_) h1 (fun x hx => by simpa using hlt x hx)
  have := Array.all_eq_true_iff_forall_mem.1 hT t (by simpa using ht)
  simpa using this
 ·rw [e, hsv]; exact rfl
 ·refine ⟨hos, hout, fun i hi => ?_⟩
  rw [hheap i hi]
  have hi' : W.heap[i]? = some W.heap[i] := Array.getElem?_eq_getElem hi
  rw [hi']
  cases W.heap[i] with
  |cells c t fr => exact ⟨rfl, rfl, rfl, fun _ _ => rfl⟩
  |map es clock => exact .inr ⟨rfl, rfl⟩
  | _ => rfl
def sY : aA := fun _ => none
def aN0 : Env where
 loc := fun _ => none
 fp := fun _ _ => False
 used := fun _ => False
theorem aWJ (w : World) (hl : xX aN0 sY w) : Rel aN0 sY w where
 fin := ⟨0, fun n _ h => h⟩
 dom := fun n h => absurd rfl h
 lt := fun n o b h => by simp [sY] at h
 apart := fun n o m o' b h => by simp [sY] at h
 obj := fun n o h => by simp [sY] at h
 laid := hl
theorem aN1 {w : World} {b : Nat} (hb : b < w.heap.size) : pF aN0 sY w b := ⟨hb, fun n o h => by simp [sY] at h⟩
theorem aN2 {H : Type} {enc : TypeId × Value → H} {C : Checked} {os : Os} {f : FuncId} {fn : Func} {s : ChangeSpec}
  (own : ownKnob C.prog.godebug = none) (started : os.Started) (noInit : C.prog.inits.idxOf? f = none) (hfn : C.prog.funcs[f]? = some fn)
  (witness : ∃ (w : World) (tape : Tape) (i : Input), w.os = os ∧ (w.forCall tape i).Shaped C.prog ∧ i.vars = [] ∧ Input.okWide C.prog (w.forCall tape i) .any w.heap.size f i ∧
   s.pre6 enc C.prog fn [] false (w.forCall tape i).memory i.args ∧ ({} : Assume).holds C.prog (lone (Frame.enter C.prog f i.args .normal) [] (w.forCall tape i)))
  (lo : laidOutB C.prog = true) (mr : mapsRowed C.prog = true)
  (hz : ((List.range C.prog.types.size).all fun t => match C.prog.underlying t with | some (.slice e) => decide (0 < C.prog.cellsOf e) | _ => true) = true)
  (T : List TypeId) (hT : aUC C.prog T = true) (hp : fn.params.all (fun t => decide (t < C.prog.types.size) && T.contains t) = true)
  (hsv : s.vars = []) (hs : ∀ ds : List (DataW H), ds.length = fn.params.size → s.fn H ds = { results := [.lit (.bool true)], args := ds })
  {tb : TypeId} (hr : fn.resultTypes = #[tb]) (htb : C.prog.underlying tb = some .bool)
  (hc : ∀ xs, aNZ C.prog fn.params.toList xs → gV C.prog f xs (.bool true)) (hl0 : aFT = [] := by rfl) :
  ReturnsInHanded {} C os f .any (s.pre6 enc C.prog fn [] false) (s.post enc C.prog fn false true false false) := by
 refine returnsInHanded_of_change own started noInit hfn witness ?_
 intro W base args ds gs before hval hW _ _
 have hW0 := hW
 obtain ⟨p, q, hA, hV, _, _, _⟩ := hW
 have hp' := Array.all_eq_true_iff_forall_mem.1 hp
 simp only [Bool.and_eq_true, decide_eq_true_eq] at hp'
 have hbase : ∀ (j : Nat) t v, fn.params.toList[j]? = some t → args.toList[j]? = some v → Value.okWide C.prog W .any base t v := fun j t v h1 h2 => hval j t v (by simpa using h1) (by simpa using h2)
 obtain ⟨xs, h1, h2, h3⟩ := aI5 hT (E := aN0) (h := sY) (fun b hb => aN1 hb) (fun t ht => by have := (hp' t (by simpa using ht)).2; simpa using this) hbase hA
 refine Calls.mono (by simpa using (hc xs h1 sY).2 aN0 W args.toList (aWJ W fun p hp => by rw [hl0] at hp; cases hp) h2) fun e W' he => ?_
 cases e with
 |returned v =>
  obtain ⟨r, h', E', ⟨rfl, rfl⟩, ev, _, rep⟩ := he
  cases rep
  exact ⟨_, rfl, aWI lo mr hz (by rw [Array.all_eq_true_iff_forall_mem]; intro t ht; simpa using (hp' t ht).1) hsv hs hr htb hW0 (by simpa using h3) (fun b hb => (ev.keep b (aN1 hb)).1) ev.os ev.out⟩
 | _ => exact he.elim
set_option linter.unusedVariables false
set_option linter.unusedSimpArgs false
def bQ (P : Program) (f : FuncId) (args : List aD) (r : aD) (h0 : aA) : Prop := ∀ h : aA, h0.le h → fF P f args h fun r' h' => r' = r ∧ h' = h
theorem gV.a0T {P : Program} {f : FuncId} {args : List aD} {r : aD} {h0 : aA} (a : gV P f args r) : bQ P f args r h0 := fun h _ => a h
theorem bQ.mono {P : Program} {f : FuncId} {args : List aD} {r : aD} {h0 h1 : aA} (hl : h0.le h1) (a : bQ P f args r h0) : bQ P f args r h1 := fun h q => a h (aA.le_trans hl q)
theorem aUD (h : aA) : sY.le h := fun _ => .inl rfl
theorem bQ.fJ {P : Program} {f : FuncId} {args : List aD} {r : aD} (a : bQ P f args r sY) : gV P f args r := fun h => a h (aUD h)
theorem aH.bY {P : Program} {g : FuncId} {args : List aD} {h : aA} {K : aD → aA → Prop} {t : Tag K} {r : aD} (a : bQ P g args r h) (k : K r h) : aH P g args h K t :=
 fF.mono (a h (aA.le_refl h)) fun _ _ ⟨e, e'⟩ => e ▸ e' ▸ k
theorem aH.eM {P : Program} {g : FuncId} {args : List aD} {h : aA} {K K' : aD → aA → Prop} {t : Tag K} (a : fF P g args h K') (k : ∀ r h', K' r h' → K r h') : aH P g args h K t := fF.mono a k
theorem aA.aKG {h0 h : aA} (hl : h0.le h) {n : Nat} {o : cB} (hn : h0 n = some o) : h n = some o := by
 rcases hl n with e | e
 ·rw [hn] at e; cases e
 ·rw [← e]; exact hn
theorem aBJ {P : Program} {f : FuncId} {fn : Func} {c : Code} (N : Nat) (keep ib : List Nat) (mk : Marks) {args : List aD} {h : aA} {K : aD → aA → Prop} (hmix : P.follows .mixedOrders = true) (hf : P.funcs[f]? = some fn) (hb : fn.body = some c)
  (hck : (mI P f && decide (fn.ntmps = N) && jV N mk c) = true) (hl : args.length ≤ N)
  (hw : qU P N keep ib mk c (fun τ h' => sX P fn.results (fun r h' => ∃ g : aA, g.le h' ∧ K r g) () .normal τ h') (sX P fn.results (fun r h' => ∃ g : aA, g.le h' ∧ K r g) ()) (sU 0 args) h ()) : fF P f args h K :=
 aGI N keep ib mk hmix hf hb hck hl (K' := fun r h' => ∃ g : aA, g.le h' ∧ K r g) hw fun _ _ hx => hx
theorem aEL {P : Program} {f : FuncId} {fn : Func} {c : Code} (N : Nat) (keep ib : List Nat) (mk : Marks) {args : List aD} {r : aD} {h0 : aA} (hmix : P.follows .mixedOrders = true) (hf : P.funcs[f]? = some fn) (hb : fn.body = some c)
  (hck : (mI P f && decide (fn.ntmps = N) && jV N mk c) = true) (hl : args.length ≤ N)
  (hw : ∀ h : aA, h0.le h → qU P N keep ib mk c (fun τ h' => sX P fn.results (fun r' h' => r' = r ∧ h.le h') () .normal τ h') (sX P fn.results (fun r' h' => r' = r ∧ h.le h') ()) (sU 0 args) h ()) : bQ P f args r h0 :=
 fun h hle => aGI N keep ib mk hmix hf hb hck hl (K' := fun r' h' => r' = r ∧ h.le h') (hw h hle) fun _ _ hx => ⟨h, hx.2, hx.1, rfl⟩
end Go.Hl

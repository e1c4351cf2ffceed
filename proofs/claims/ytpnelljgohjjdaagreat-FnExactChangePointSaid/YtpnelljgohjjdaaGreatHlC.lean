/-
  Contracts of functions and laws of the layer over the walk.
-/
import Derived.Test.YtpnelljgohjjdaaGreatHlB
import Derived.ReadAgain
import Derived.ChangeArms
import Derived.ChangeSame
import Derived.Handed
import Derived.JoinedOf
namespace Go.Hl
attribute [go_sem] List.nil_append List.cons_append
theorem nn (n : Nat) : (0 ≤ (n : Int)) = True := by simp
attribute [go_sem] a4V vR aDX zU bBF uF tN zX aIL xR aQH uQ sP ld aGV zR pX nB dOf hev tZ tP cH fY uT aD.ofValue pM Hl.prune dA kS
 aU bU nn bD
attribute [go_sem] Call.operands Array.toList_append Option.map List.map Option.bind List.contains List.elem List.filterMap Op.operands Option.toList Array.size List.all List.set
attribute [go_sem] if_true if_false Option.bind_some Option.bind_none List.toList_toArray List.getElem?_toArray List.getElem?_cons_zero List.getElem?_cons_succ true_and and_true forall_const Bool.true_eq_false Bool.false_eq_true false_implies implies_true decide_true decide_false List.length_map BEq.rfl List.append_nil List.getElem?_map Int.toNat_natCast Bool.not_eq_true' Bool.not_eq_false' decide_eq_true_eq decide_eq_false_iff_not Int.natCast_inj Int.ofNat_lt Int.ofNat_le Bool.not_true Bool.not_false aD.int.injEq aD.bool.injEq aB.le_refl
attribute [go_sem] ne_eq Bool.and_self Bool.true_and Bool.and_true Bool.false_and Bool.and_false Int.reduceLT Int.reduceNeg Int.reduceLE Int.reduceEq Nat.reduceLeDiff Nat.reduceSub Nat.reduceMul Nat.zero_add Nat.add_zero List.length_cons List.length_nil List.drop_zero List.take_zero List.take_nil List.drop_nil List.take_succ_cons List.drop_succ_cons List.replicate List.map_nil List.map_cons List.length_map not_true_eq_false not_false_eq_true true_implies decide_not ite_not
attribute [go_sem] Bool.true_or Bool.false_or Bool.or_true Bool.or_false Nat.reduceAdd Nat.reduceEqDiff Nat.reduceBEq reduceCtorEq
@[go_sem] theorem bGA  : aD.cells (aD.any) = [(aD.any)] := rfl
@[go_sem] theorem bH0  : aD.flat (aD.any) = false := rfl
@[go_sem] theorem bBM (b : Bool) : aD.cells (aD.bool b) = [(aD.bool b)] := rfl
@[go_sem] theorem bGB (b : Bool) : aD.flat (aD.bool b) = true := rfl
@[go_sem] theorem bGC (k : IntKind) (n : Int) : aD.cells (aD.int k n) = [(aD.int k n)] := rfl
@[go_sem] theorem bH1 (k : IntKind) (n : Int) : aD.flat (aD.int k n) = true := rfl
@[go_sem] theorem bGD (s : List UInt8) : aD.cells (aD.str s) = [(aD.str s)] := rfl
@[go_sem] theorem bH2 (s : List UInt8) : aD.flat (aD.str s) = true := rfl
@[go_sem] theorem a41  : aD.cells (aD.nN) = [(aD.nN)] := rfl
@[go_sem] theorem a8N  : aD.flat (aD.nN) = true := rfl
@[go_sem] theorem a8O  : aD.cells (aD.bC) = [(aD.bC)] := rfl
@[go_sem] theorem bBN  : aD.flat (aD.bC) = true := rfl
@[go_sem] theorem a8P  : aD.cells (aD.uM) = [(aD.uM)] := rfl
@[go_sem] theorem bBO  : aD.flat (aD.uM) = true := rfl
@[go_sem] theorem a8Q  : aD.cells (aD.uN) = [(aD.uN)] := rfl
@[go_sem] theorem bBP  : aD.flat (aD.uN) = true := rfl
@[go_sem] theorem a42  : aD.cells (aD.p5) = [(aD.p5)] := rfl
@[go_sem] theorem a8R  : aD.flat (aD.p5) = true := rfl
@[go_sem] theorem bH3 (sz : Nat) (es : List (List aD)) (b : Bool) : aD.cells (aD.sl sz es b) = [(aD.sl sz es b)] := rfl
@[go_sem] theorem bNT (sz : Nat) (es : List (List aD)) (b : Bool) : aD.flat (aD.sl sz es b) = true := rfl
@[go_sem] theorem bH4 (sz : Nat) (es : List (List aD)) (i o : Nat) : aD.cells (aD.ip sz es i o) = [(aD.ip sz es i o)] := rfl
@[go_sem] theorem bNU (sz : Nat) (es : List (List aD)) (i o : Nat) : aD.flat (aD.ip sz es i o) = true := rfl
@[go_sem] theorem bH5 (n sz i l : Nat) : aD.cells (aD.os n sz i l) = [(aD.os n sz i l)] := rfl
@[go_sem] theorem bNV (n sz i l : Nat) : aD.flat (aD.os n sz i l) = true := rfl
@[go_sem] theorem bH6 (n sz i l : Nat) : aD.cells (aD.op n sz i l) = [(aD.op n sz i l)] := rfl
@[go_sem] theorem bNW (n sz i l : Nat) : aD.flat (aD.op n sz i l) = true := rfl
@[go_sem] theorem bGE (cs : List aD) : aD.cells (aD.lR cs) = [(aD.lR cs)] := rfl
@[go_sem] theorem bH7 (cs : List aD) : aD.flat (aD.lR cs) = false := rfl
@[go_sem] theorem bH8 (f : Fn) (a b : List aD) : aD.cells (aD.fn f a b) = [(aD.fn f a b)] := rfl
@[go_sem] theorem bNX (f : Fn) (a b : List aD) : aD.flat (aD.fn f a b) = true := rfl
@[go_sem] theorem a8S (t : TypeId) (v : aD) : aD.cells (aD.iface t v) = [(aD.iface t v)] := rfl
@[go_sem] theorem bBQ (t : TypeId) (v : aD) : aD.flat (aD.iface t v) = true := rfl
@[go_sem] theorem bH9 (n : Nat) : aD.cells (aD.mp n) = [(aD.mp n)] := rfl
@[go_sem] theorem bNY (n : Nat) : aD.flat (aD.mp n) = true := rfl
@[go_sem] theorem bGF (cs : List aD) : aD.cells (.agg cs) = cs := rfl
@[go_sem] theorem bIA (cs : List aD) : aD.flat (.agg cs) = false := rfl
@[go_sem] theorem bBR : maxLen = 9223372036854775807 := rfl
set_option linter.unusedVariables false
set_option linter.unusedSimpArgs false
def Sub (x y : aD) : Prop := ∀ E h w v, fL E h w x v → fL E h w y v
theorem Sub.refl (x : aD) : Sub x x := fun _ _ _ _ r => r
theorem Sub.trans {x y z : aD} (a : Sub x y) (b : Sub y z) : Sub x z := fun E h w v r => b E h w v (a E h w v r)
theorem Sub.any (x : aD) : Sub x .any := fun _ _ _ v _ => .any v
theorem Sub.nil (sz : Nat) (t : Bool) : Sub .bC (.sl sz [] t) := fun E h w v r => by
 cases r
 exact .sl0 sz t none 0 (fun _ => rfl) (by simp [maxLen]) trivial
theorem Sub.loose (sz : Nat) (es : List (List aD)) (t : Bool) : Sub (.sl sz es t) (.sl sz es false) := fun E h w v r => by
 cases r with
 |sl0 _ _ a cap ht hmax ha => exact .sl0 sz false _ _ (fun e => by simp at e) hmax ha
 |sl _ _ _ b o cap cv hi hcap hmax ht hs hc h1 hr => exact .sl sz es false b o _ cv hi hcap hmax (fun e => by simp at e) hs hc h1 hr
def cD (xs ys : List aD) : Prop := xs.length = ys.length ∧ ∀ (i : Nat) (x y : aD), xs[i]? = some x → ys[i]? = some y → Sub x y
theorem cD.nil : cD [] [] := ⟨rfl, fun i x y hx => by simp at hx⟩
theorem cD.cons {x y : aD} {xs ys : List aD} (a : Sub x y) (b : cD xs ys) : cD (x :: xs) (y :: ys) :=
 ⟨by simp [b.1], fun i u v hu hv => by
  cases i with
  |zero => simp at hu hv; subst hu; subst hv; exact a
  |succ i => exact b.2 i u v (by simpa using hu) (by simpa using hv)⟩
theorem cD.refl : ∀ (xs : List aD), cD xs xs
 | [] => .nil
 |x :: xs => .cons (.refl x) (.refl xs)
theorem cD.aQX {E : Env} {h : aB} {w : World} : ∀ {xs ys : List aD} {vs : List Value}, cD xs ys → eO E h w xs vs → eO E h w ys vs
 | [], [], _, _, r => r
 | [], _ :: _, _, s, _ => by have := s.1; simp at this
 | _ :: _, [], _, s, _ => by have := s.1; simp at this
 |x :: xs, y :: ys, [], s, r => r.elim
 |x :: xs, y :: ys, v :: vs, s, r => ⟨s.2 0 x y rfl rfl E h w v r.1, cD.aQX (xs := xs) (ys := ys) ⟨by have := s.1; simpa using this, fun i u v hu hv => s.2 (i + 1) u v (by simpa using hu) (by simpa using hv)⟩ r.2⟩
theorem Sub.agg {xs ys : List aD} (s : cD xs ys) : Sub (.agg xs) (.agg ys) := fun E h w v r => by
 cases r with
 |agg _ vs hl hr =>
  have := s.aQX (eO.mk hl hr)
  exact .agg _ _ this.length this.get
theorem Sub.lR {xs ys : List aD} (s : cD xs ys) : Sub (.lR xs) (.lR ys) := fun E h w v r => by
 cases r with
 |lR _ vs hl hr =>
  have := s.aQX (eO.mk hl hr)
  exact .lR _ _ this.length this.get
theorem fO.sub {P : Program} {f : FuncId} {xs ys : List aD} {h : aB} {K : aD → aB → Prop} (s : cD xs ys) (a : fO P f ys h K) : fO P f xs h K :=
 ⟨a.1, fun E w vs R hL => a.2 E w vs R (s.aQX hL)⟩
theorem e8.sub {P : Program} {f : FuncId} {xs ys : List aD} {r : aD} (s : cD xs ys) (a : e8 P f ys r) : e8 P f xs r := fun h => (a h).sub s
def Shift (r' : aD) (h' : aB) (r : aD) (h : aB) : Prop :=
 ∀ E w v, Rel E h' w → fL E h' w r' v → ∃ E', Ev E h' w E' h w ∧ Rel E' h w ∧ fL E' h w r v
theorem Shift.of {r' r : aD} {h' h : aB} (s : Sub r' r) (hl : h.le h') : Shift r' h' r h := fun E w v R x =>
 ⟨E, (Ev.refl E h' w).forget hl, R.forget hl, s _ _ _ _ (x.vM fun b => sD.le hl)⟩
theorem Shift.trans {a b c : aD} {h1 h2 h3 : aB} (x : Shift a h1 b h2) (y : Shift b h2 c h3) : Shift a h1 c h3 := fun E w v R r => by
 obtain ⟨E', ev, R', r'⟩ := x E w v R r
 obtain ⟨E'', ev', R'', r''⟩ := y E' w v R' r'
 exact ⟨E'', ev.trans ev', R'', r''⟩
mutual
def aD.fZ (n : Nat) (es : List (List aD)) : aD → aD
 | .os m sz i len => if m = n then .sl sz ((es.drop i).take len) false else .os m sz i len
 | .op m sz i off => if m = n then .ip sz es i off else .op m sz i off
 | .agg cs => .agg (nQ n es cs)
 | .lR cs => .lR (nQ n es cs)
 |x => x
def nQ (n : Nat) (es : List (List aD)) : List aD → List aD
 | [] => []
 |x :: xs => x.fZ n es :: nQ n es xs
end
theorem aI0 (n : Nat) (es : List (List aD)) : ∀ l, nQ n es l = l.map (aD.fZ n es)
 | [] => rfl
 |x :: l => by simp [nQ, aI0 n es l]
mutual
def iK (n sz k : Nat) : aD → Bool
 | .os m sz' i len => m != n || (sz' == sz && decide (i + len ≤ k))
 | .op m sz' i len => m != n || sz' == sz
 | .agg cs => iC n sz k cs
 | .lR cs => iC n sz k cs
 | _ => true
def iC (n sz k : Nat) : List aD → Bool
 | [] => true
 |x :: xs => iK n sz k x && iC n sz k xs
end
theorem aAC (n sz k : Nat) : ∀ (l : List aD), iC n sz k l = true → ∀ (i : Nat) x, l[i]? = some x → iK n sz k x = true
 | [], _, i, x, hx => by simp at hx
 |y :: l, h, 0, x, hx => by simp at hx; subst hx; simp only [iC, Bool.and_eq_true] at h; exact h.1
 |y :: l, h, i + 1, x, hx => by simp only [iC, Bool.and_eq_true] at h; exact aAC n sz k l h.2 i x (by simpa using hx)
theorem fL.uP {E : Env} {h : aB} {w : World} (R : Rel E h w) {n sz : Nat} {es : List (List Cell)} (hn : h n = some (.row sz es)) {x : aD} {v : Value} (r : fL E h w x v)
  (hb : iK n sz es.length x = true) : fL E (bK h n .gone) w (x.fZ n (gF es)) v := by
 have hi : ∀ b, sD E h w b → sD E (bK h n .gone) w b := fun b => aDQ n b
 induction r with
 |any v => exact .any v
 |bool b => exact .bool b
 |int k n => exact .int k n
 |str s hl => exact .str s hl
 |nN => exact .nN
 |bC => exact .bC
 |uM => exact .uM
 |uN => exact .uN
 |p5 => exact .p5
 |sl0 sz t a cap ht hmax ha => exact .sl0 sz t a cap ht hmax ha
 |sl sz es t b o cap cv hb' hcap hmax ht hs hc h1 hr ih => exact .sl sz es t b o cap cv (hi b hb') hcap hmax ht hs hc h1 fun i j x hx => (hr i j x hx).vM hi
 |ip sz es i off b o cv hb' hs hc h1 hr ih => exact .ip sz es i off b o cv (hi b hb') hs hc h1 fun i j x hx => (hr i j x hx).vM hi
 |os0 m sz' hd hl =>
  simp only [aD.fZ]
  split
  ·have : ((gF es).drop 0).take 0 = [] := by simp
   rw [this]
   exact .sl0 sz' false none 0 (fun _ => rfl) (by simp [maxLen]) trivial
  ·exact .os0 m sz' hd hl
 |op m sz' i off b o hd hl =>
  simp only [aD.fZ]
  split
  ·rename_i e
   subst e
   simp only [iK, bne_self_eq_false, Bool.false_or, beq_iff_eq] at hb
   subst hb
   obtain ⟨b', o', hl', hbS, hs, cs, ct, cv, T, hh, hm', hT, hD, hc, hrr⟩ := zS R hn (.inr ⟨_, hl⟩)
   rw [hl] at hl'
   obtain ⟨rfl, rfl⟩ := Prod.mk.inj (Option.some.inj hl')
   have himm : ∀ c, E.fp m c → sD E (bK h m .gone) w c := fun c hc => aGU R hn trivial c hc
   have hat : ∀ i' j y, jH (gF es) i' j = some y → ∃ c, jH es i' j = some c ∧ y = c.val := by
    intro i' j y hy
    rw [s9] at hy
    obtain ⟨c, hc, rfl⟩ := Option.map_eq_some_iff.1 hy
    exact ⟨c, hc, rfl⟩
   exact .ip sz' (gF es) i off b o cv (himm b hbS) (fun e he => xM hs e he)
    (fun i' j y hy => by
     obtain ⟨c, hc', rfl⟩ := hat i' j y hy
     have := hc _ _ _ hc'
     simp only [World.cell?, hh]
     rw [← this]
     simp)
    (fun i' j y hy => by obtain ⟨c, hc', rfl⟩ := hat i' j y hy; exact (hrr _ _ _ hc').one)
    (fun i' j y hy => by
     obtain ⟨c, hc', rfl⟩ := hat i' j y hy
     exact (hrr _ _ _ hc').uP hi fun b hb => himm b (hT _ _ b hb).1)
  ·exact .op m sz' i off b o hd hl
 |fn f cs ds vs us hl hr hl' hr' ih ih' => exact .fn f cs ds vs us hl (fun i x v hx hv => (hr i x v hx hv).vM hi) hl' (fun i x v hx hv => (hr' i x v hx hv).vM hi)
 |iface t x v hr ih => exact .iface t x v (hr.vM hi)
 |mp n b o hd hl => exact .mp n b o hd hl
 |agg cs vs hl hr ih =>
  simp only [aD.fZ, aI0]
  simp only [iK] at hb
  refine .agg _ vs (by simpa using hl) fun i x v hx hv => ?_
  rw [List.getElem?_map] at hx
  obtain ⟨y, hy, rfl⟩ := Option.map_eq_some_iff.1 hx
  exact ih i y v hy hv (aAC _ _ _ _ hb i y hy)
 |lR cs vs hl hr ih =>
  simp only [aD.fZ, aI0]
  simp only [iK] at hb
  refine .lR _ vs (by simpa using hl) fun i x v hx hv => ?_
  rw [List.getElem?_map] at hx
  obtain ⟨y, hy, rfl⟩ := Option.map_eq_some_iff.1 hx
  exact ih i y v hy hv (aAC _ _ _ _ hb i y hy)
 |os m sz' i len b o cap t mm hd hl hlc hmax hsh hm =>
  simp only [aD.fZ]
  split
  ·rename_i e
   subst e
   simp only [iK, bne_self_eq_false, Bool.false_or, Bool.and_eq_true, beq_iff_eq, decide_eq_true_eq] at hb
   obtain ⟨rfl, hle⟩ := hb
   obtain ⟨b', o', hl', hbS, hs, cs, ct, cv, T, hh, hm', hT, hD, hc, hrr⟩ := zS R hn (.inr ⟨_, hl⟩)
   rw [hl] at hl'
   obtain ⟨rfl, rfl⟩ := Prod.mk.inj (Option.some.inj hl')
   have himm : ∀ c, E.fp m c → sD E (bK h m .gone) w c := fun c hc => aGU R hn trivial c hc
   have hlen : (((gF es).drop i).take len).length = len := by rw [List.length_take, List.length_drop, uO]; omega
   have hat : ∀ i' j y, jH (((gF es).drop i).take len) i' j = some y → ∃ c, jH es (i + i') j = some c ∧ y = c.val := by
    intro i' j y hy
    obtain ⟨e, h1, h2⟩ := m6 hy
    have hlt : i' < len := by have := (List.getElem?_eq_some_iff.1 h1).1; rw [hlen] at this; exact this
    rw [List.getElem?_take_of_lt hlt, List.getElem?_drop] at h1
    have : jH (gF es) (i + i') j = some y := by simp [jH, h1, h2]
    rw [s9] at this
    obtain ⟨c, hc, rfl⟩ := Option.map_eq_some_iff.1 this
    exact ⟨c, hc, rfl⟩
   have := fL.sl (E := E) (h := bK h m .gone) (w := w) sz' (((gF es).drop i).take len) false b (o + i * sz') cap (fun i' j => cv (i + i') j) (himm b hbS) (by rw [hlen]; exact hlc) hmax (fun e => by simp at e)
    (fun e he => xM hs e (List.mem_of_mem_drop (List.mem_of_mem_take he)))
    (fun i' j y hy => by
     obtain ⟨c, hc', rfl⟩ := hat i' j y hy
     have := hc _ _ _ hc'
     simp only [World.cell?, hh]
     rw [← this]
     simp only [Option.isSome_none, Bool.false_eq_true, if_false]
     congr 1; rw [Nat.add_mul]; omega)
    (fun i' j y hy => by obtain ⟨c, hc', rfl⟩ := hat i' j y hy; exact (hrr _ _ _ hc').one)
    (fun i' j y hy => by
     obtain ⟨c, hc', rfl⟩ := hat i' j y hy
     exact (hrr _ _ _ hc').uP hi fun b hb => himm b (hT _ _ b hb).1)
   rw [hlen] at this
   exact this
  ·exact .os m sz' i len b o cap t mm hd hl hlc hmax hsh hm
theorem Shift.fZ {x : aD} {h : aB} {n sz : Nat} {es : List (List Cell)} (hn : h n = some (.row sz es)) (hb : iK n sz es.length x = true) : Shift x h (x.fZ n (gF es)) (bK h n .gone) := fun E w v R r =>
 ⟨E, Ev.gone n, R.gone hn, r.uP R hn hb⟩
theorem q0.uP {P : Program} {N : Nat} {c : Code} {Q : Exit → cG → aB → Prop} {τ : cG} {h : aB} (n : Nat) {sz : Nat} {es : List (List Cell)} (hn : h n = some (.row sz es)) (hb : τ.all (fun p => iK n sz es.length p.2) = true)
  (x : q0 P N c Q (τ.map fun p => (p.1, p.2.fZ n (gF es))) (bK h n .gone)) : q0 P N c Q τ h := by
 intro E w a R r
 refine Code.wp_mono (fun e a' w' y => tO.trans (Ev.gone n) y) (x E w a (R.gone hn) ⟨r.size, r.defers, fun k => ?_⟩)
 have key : ∀ τ : cG, τ.all (fun p => iK n sz es.length p.2) = true → iK n sz es.length (cH τ k) = true ∧ cH (τ.map fun p => (p.1, p.2.fZ n (gF es))) k = (cH τ k).fZ n (gF es) := by
  intro τ
  induction τ with
  |nil => intro _; exact ⟨rfl, rfl⟩
  |cons p τ ih =>
   intro hp
   simp only [List.all_cons, Bool.and_eq_true] at hp
   simp only [List.map_cons, cH]
   split
   ·exact ⟨hp.1, rfl⟩
   ·exact ih hp.2
 rw [(key τ hb).2]
 exact (r.get k).uP R hn (key τ hb).1
theorem uV {P : Program} {f : FuncId} {fn : Func} {c : Code} {N : Nat} {args : List aD} {h : aB} {K K' : aD → aB → Prop} (a : fO P f args h K') (hk : ∀ r h', K' r h' → ∃ r₁ h₁, Shift r h' r₁ h₁ ∧ K r₁ h₁) : fO P f args h K :=
 ⟨a.1, fun E w vs R hL => Calls.mono (a.2 E w vs R hL) fun e w' he => by
  cases e <;> try exact he
  obtain ⟨r, h', E', k, ev, R', rx⟩ := he
  obtain ⟨r₁, h₁, hs, k₁⟩ := hk r h' k
  obtain ⟨E'', ev', R'', rx'⟩ := hs E' w' _ R' rx
  exact ⟨r₁, h₁, E'', k₁, ev.trans ev', R'', rx'⟩⟩
theorem aZ4 {P : Program} {f : FuncId} {fn : Func} {c : Code} (N : Nat) (keep ib : List Nat) (mk : Marks) {args : List aD} {r : aD} (hmix : P.follows .mixedOrders = true) (hf : P.funcs[f]? = some fn) (hb : fn.body = some c)
  (hck : (nA P f && decide (fn.ntmps = N) && j3 N mk c) = true) (hl : args.length ≤ N)
  (hw : ∀ h, hwp P N keep ib mk c (aD0 P fn.results (fun r' h' => Shift r' h' r h) .normal) (aD0 P fn.results fun r' h' => Shift r' h' r h) (uT 0 args) h) : e8 P f args r := fun h =>
 uV (fn := fn) (c := c) (N := N) (aIZ N keep ib mk hmix hf hb hck hl (hw h) fun r' h' hx => ⟨h', aB.le_refl _, hx⟩) fun r' h' hx => ⟨r, h, hx, rfl, rfl⟩
theorem eA {r : aD} {h' h : aB} (hl : h.le h') : Shift r h' r h := .of (.refl r) hl
theorem bX (r : aD) (h : aB) : Shift r h r h := .of (.refl r) (aB.le_refl h)
set_option linter.unusedVariables false
set_option linter.unusedSimpArgs false
abbrev Tag {α : Type} (_ : α) : Type := Unit
def fX {α : Type} (o : Option α) (K : α → Prop) (_ : Tag K) : Prop := match o with | some x => K x | none => False
@[go_sem] theorem bGG {α : Type} (x : α) (K : α → Prop) (t : Tag K) : fX (some x) K t = K x := rfl
@[go_sem] theorem bGH {α : Type} (K : α → Prop) (t : Tag K) : fX none K t = False := rfl
def aAD (v : aD) (A B : Prop) (_ : Tag (A, B)) : Prop := match v with | .bool t => (t = true → A) ∧ (t = false → B) | _ => False
@[go_sem] theorem bBS (c : Bool) (A B : Prop) (t : Tag (A, B)) : aAD (.bool c) A B t = ((c = true → A) ∧ (c = false → B)) := rfl
@[go_sem high] theorem bBT (A B : Prop) (t : Tag (A, B)) : aAD (.bool true) A B t = A := by simp [aAD]
@[go_sem high] theorem a8T (A B : Prop) (t : Tag (A, B)) : aAD (.bool false) A B t = B := by simp [aAD]
def aQY (K : cG → aB → Prop) (Q : Exit → cG → aB → Prop) (_ : Tag (K, Q)) : Exit → cG → aB → Prop := wW K Q
@[go_sem] theorem a43 (K : cG → aB → Prop) (Q : Exit → cG → aB → Prop) (t : Tag (K, Q)) (τ : cG) (h : aB) : aQY K Q t .normal τ h = K τ h := rfl
@[go_sem] theorem bGI (K : cG → aB → Prop) (Q : Exit → cG → aB → Prop) (t : Tag (K, Q)) (τ : cG) (h : aB) : aQY K Q t .ret τ h = Q .ret τ h := rfl
@[go_sem] theorem bBU (K : cG → aB → Prop) (Q : Exit → cG → aB → Prop) (t : Tag (K, Q)) (i : Nat) (τ : cG) (h : aB) : aQY K Q t (.exit i) τ h = Q (.exit i) τ h := rfl
def aFW (id : Nat) (K : cG → aB → Prop) (Q : Exit → cG → aB → Prop) (_ : Tag (K, Q)) : Exit → cG → aB → Prop := aIY id K Q
@[go_sem] theorem bBV (id : Nat) (K : cG → aB → Prop) (Q : Exit → cG → aB → Prop) (t : Tag (K, Q)) (τ : cG) (h : aB) : aFW id K Q t .ret τ h = Q .ret τ h := rfl
@[go_sem] theorem a8U (id : Nat) (K : cG → aB → Prop) (Q : Exit → cG → aB → Prop) (t : Tag (K, Q)) (τ : cG) (h : aB) : aFW id K Q t (.exit id) τ h = K τ h := by simp [aFW, aIY]
@[go_sem] theorem a44 (id i : Nat) (K : cG → aB → Prop) (Q : Exit → cG → aB → Prop) (t : Tag (K, Q)) (τ : cG) (h : aB) (hi : (i == id) = false) : aFW id K Q t (.exit i) τ h = Q (.exit i) τ h := by
 have : i ≠ id := by simpa using hi
 simp [aFW, aIY, this]
def aNG (P : Program) (N : Nat) (c : Code) (Q : Exit → cG → aB → Prop) (τ : cG) (h : aB) (_ : Tag (c, Q)) : Prop := q0 P N c Q τ h
def j9 (P : Program) (ib : List Nat) (d : Option Tmp) (op : Op) (ρ : Operand → aD) (h : aB) (K : aD → aB → Prop) (_ : Tag (op, K)) : Prop :=
 vS P ib ⟨d, op, 0, "", #[], none⟩ ρ h K
def stepG (P : Program) (ib : List Nat) (d : Option Tmp) (op : Op) (ρ : Operand → aD) (K : aD → Prop) (_ : Tag (op, K)) : Prop :=
 aFU P ib ⟨d, op, 0, "", #[], none⟩ ρ K
def aD1 (P : Program) (ib : List Nat) (os l : List Oper) (τ : cG) (h : aB) (K : cG → aB → Prop) (_ : Tag (os, l, K)) : Prop := aDZ P ib os.toArray l τ h K
def aAE (os : List Oper) (g : Nat) (_ : Tag os) : Option Tmp := (os.toArray[g]?).bind (·.dst)
@[go_sem] theorem bBW (o : Oper) (os : List Oper) (t : Tag (o :: os)) : aAE (o :: os) 0 t = o.dst := by simp [aAE]
@[go_sem] theorem bBX (o : Oper) (os : List Oper) (n : Nat) (t : Tag (o :: os)) : aAE (o :: os) (n + 1) t = aAE os n () := by simp [aAE]
def oA (v : aD) (b : Bool) (A B C : Prop) (_ : Tag (A, B, C)) : Prop := match v with
 | .bool b' => (b' = b → A) ∧ (b' = !b → B)
 | .lR [] => C
 | _ => False
@[go_sem] theorem bBY (b : Bool) (A B C : Prop) (t : Tag (A, B, C)) : oA (.lR []) b A B C t = C := rfl
@[go_sem] theorem bIB (c : Bool) (A B C : Prop) (t : Tag (A, B, C)) : oA (.bool c) true A B C t = ((c = true → A) ∧ (c = false → B)) := rfl
@[go_sem] theorem bIC (c : Bool) (A B C : Prop) (t : Tag (A, B, C)) : oA (.bool c) false A B C t = ((c = false → A) ∧ (c = true → B)) := rfl
@[go_sem high] theorem bGJ (A B C : Prop) (t : Tag (A, B, C)) : oA (.bool true) true A B C t = A := by simp [oA]
@[go_sem high] theorem bGK (A B C : Prop) (t : Tag (A, B, C)) : oA (.bool false) true A B C t = B := by simp [oA]
@[go_sem high] theorem bGL (A B C : Prop) (t : Tag (A, B, C)) : oA (.bool true) false A B C t = B := by simp [oA]
@[go_sem high] theorem bGM (A B C : Prop) (t : Tag (A, B, C)) : oA (.bool false) false A B C t = A := by simp [oA]
section
variable (P : Program) (ib : List Nat) (os rest : List Oper) (τ : cG) (h : aB) (K : cG → aB → Prop) (d : Option Tmp) (op : Op) (ty : TypeId) (p : String) (af : Array Edge)
@[go_sem] theorem bGN (t : Tag (os, [], K)) : aD1 P ib os [] τ h K t = K τ h := rfl
@[go_sem] theorem bBZ (t : Tag (os, (⟨d, op, ty, p, af, none⟩ :: rest), K)) : aD1 P ib os (⟨d, op, ty, p, af, none⟩ :: rest) τ h K t =
  j9 P ib d op (hev τ) h (fun v h' => aD1 P ib os rest (fY τ d v) h' K ()) () := rfl
@[go_sem] theorem bB0 (g : Nat) (b : Bool) (t : Tag (os, (⟨d, op, ty, p, af, some (g, b)⟩ :: rest), K)) : aD1 P ib os (⟨d, op, ty, p, af, some (g, b)⟩ :: rest) τ h K t =
  fX (aAE os g ()) (fun s => oA (cH τ s) b (j9 P ib d op (hev ((s, .bool b) :: τ)) h (fun v h' => aD1 P ib os rest (fY ((s, .bool b) :: τ) d v) h' K ()) ())
   (aD1 P ib os rest (fY ((s, .bool !b) :: τ) d (.lR [])) h K ()) (aD1 P ib os rest (fY τ d (.lR [])) h K ()) ()) () := by
 unfold aD1
 rw [aDZ]
 simp only [fX, aAE]
 cases (os.toArray[g]?).bind (·.dst) with
 |none => rfl
 |some s =>
  simp only [oA]
  cases cH τ s <;> first | rfl | (rename_i cs; cases cs <;> rfl)
end
def aD2 (P : Program) (ib : List Nat) (os : List Oper) (ms : List Nat) (cr : List (Nat × Nat)) (l : tQ) (pr : List (Nat × Nat)) (τ : cG) (h : aB) (K : cG → aB → Prop) (_ : Tag (os, K)) : Prop := aFV P ib os.toArray ms cr l pr τ h K
def aI1 (P : Program) (ib : List Nat) (os : List Oper) (cr : List (Nat × Nat)) (i : Nat) (m : Bool) (o : Oper) (pr : List (Nat × Nat)) (τ : cG) (h : aB) (K : List (Nat × Nat) → cG → aB → Prop) (_ : Tag (os, o, K)) : Prop :=
 match o.guard with
 |none => aG2 P ib cr i m o (tZ os.toArray o τ) pr h (fun pr' v h' => K pr' (fY τ o.dst v) h')
 |some (g, b) => match (os.toArray[g]?).bind (·.dst) with
  |some d => match cH τ d with
   | .bool b' => (b' = b → aG2 P ib cr i m o (tZ os.toArray o ((d, .bool b) :: τ)) pr h (fun pr' v h' => K pr' (fY ((d, .bool b) :: τ) o.dst v) h')) ∧
     (b' = !b → K pr (fY ((d, .bool !b) :: τ) o.dst (.lR [])) h)
   | .lR [] => K pr (fY τ o.dst (.lR [])) h
   | _ => False
  |none => False
def aQZ (os : List Oper) (i : Nat) (K : Oper → Prop) (_ : Tag (os, K)) : Prop := match os[i]? with | some o => K o | none => False
@[go_sem] theorem bGO (o : Oper) (os : List Oper) (K : Oper → Prop) (t : Tag (o :: os, K)) : aQZ (o :: os) 0 K t = K o := rfl
@[go_sem] theorem bGP (o : Oper) (os : List Oper) (i : Nat) (K : Oper → Prop) (t : Tag (o :: os, K)) : aQZ (o :: os) (i + 1) K t = aQZ os i K () := rfl
def aS0 (os : List Oper) (o : Oper) (τ : cG) (_ : Tag (os, o)) : Operand → aD := tZ os.toArray o τ
section
variable (P : Program) (ib : List Nat) (os : List Oper) (τ : cG) (h : aB) (K : cG → aB → Prop) (d : Option Tmp) (op : Op) (ty : TypeId) (p : String) (af : Array Edge)
variable (cr : List (Nat × Nat)) (pr : List (Nat × Nat)) (i : Nat)
@[go_sem] theorem bGQ (ms : List Nat) (t : Tag (os, K)) : aD2 P ib os ms cr .nil pr τ h K t = K τ h := rfl
theorem aS1 (ms : List Nat) (i : Nat) (C : List (Nat × Nat) → cG → aB → Prop) : OpD P ib os.toArray ms cr i pr τ h C = aQZ os i (fun o => aI1 P ib os cr i (ms.contains i) o pr τ h C ()) () := by
 simp only [OpD, aQZ, aI1, List.getElem?_toArray]
 cases os[i]? <;> rfl
@[go_sem] theorem bID (ms : List Nat) (l : tQ) (i : Nat) (t : Tag (os, K)) : aD2 P ib os ms cr (.op i l) pr τ h K t = aQZ os i (fun o => aI1 P ib os cr i (ms.contains i) o pr τ h (fun pr' τ' h' => aD2 P ib os ms cr l pr' τ' h' K ()) ()) () := by
 simp only [aD2, aFV]; exact aS1 P ib os τ h cr pr ms i _
@[go_sem] theorem bGR (ms : List Nat) (l q : tQ) (i j : Nat) (t : Tag (os, K)) : aD2 P ib os ms cr (.alt i l j q) pr τ h K t = ((aQZ os i (fun o => aI1 P ib os cr i (ms.contains i) o pr τ h (fun pr' τ' h' => aD2 P ib os ms cr l pr' τ' h' K ()) ()) ()) ∧ aQZ os j (fun o => aI1 P ib os cr j (ms.contains j) o pr τ h (fun pr' τ' h' => aD2 P ib os ms cr q pr' τ' h' K ()) ()) ()) := by
 simp only [aD2, aFV]; rw [aS1 P ib os τ h cr pr ms i _, aS1 P ib os τ h cr pr ms j _]
@[go_sem] theorem bIE (o : Oper) (t : Tag (os, o)) (k : Nat) : aS0 os o τ t (.tmp k) = if (tP os.toArray o).contains k then cH τ k else .any := rfl
@[go_sem] theorem bB1 (o : Oper) (t : Tag (os, o)) (v : Value) : aS0 os o τ t (.const v) = aD.ofValue v := rfl
@[go_sem] theorem bGS (o : Oper) (t : Tag (os, o)) (f : FuncId) : aS0 os o τ t (.func f) = hev τ (.func f) := rfl
def iE : Op → Bool
 | .load _ _ => true
 | _ => false
def aG3 (d : Option Tmp) (op : Op) (ρ : Operand → aD) (M : List (Nat × Nat) → aD → aB → Prop) (_ : Tag (op, M)) : Prop :=
 if iE op then aQU P ⟨d, op, 0, "", #[], none⟩ ρ h (fun n v => M (aQW cr i n pr) v h) else vS P ib ⟨d, op, 0, "", #[], none⟩ ρ h (fun v h' => jO cr i pr h h' ∧ M pr v h')
theorem aV6 (ρ : Operand → aD) (g : Option (Nat × Bool)) (M : List (Nat × Nat) → aD → aB → Prop) : aG2 P ib cr i true ⟨d, op, ty, p, af, g⟩ ρ pr h M = aG3 P ib h cr pr i d op ρ M () := by
 unfold aG2 aG3
 cases op <;> rfl
@[go_sem] theorem bPC (L : List (Nat × Nat) → cG → aB → Prop) (t : Tag (os, (⟨d, op, ty, p, af, none⟩ : Oper), L)) : aI1 P ib os cr i true ⟨d, op, ty, p, af, none⟩ pr τ h L t = aG3 P ib h cr pr i d op (aS0 os ⟨d, op, ty, p, af, none⟩ τ ()) (fun pr' v h' => L pr' (fY τ d v) h') () := by
 rw [← aV6 (ty := ty) (p := p) (af := af) (g := none)]; rfl
@[go_sem] theorem bPD (L : List (Nat × Nat) → cG → aB → Prop) (t : Tag (os, (⟨d, op, ty, p, af, none⟩ : Oper), L)) : aI1 P ib os cr i false ⟨d, op, ty, p, af, none⟩ pr τ h L t = stepG P ib d op (aS0 os ⟨d, op, ty, p, af, none⟩ τ ()) (fun v => L pr (fY τ d v) h) () := rfl
@[go_sem] theorem bNZ (L : List (Nat × Nat) → cG → aB → Prop) (g : Nat) (b : Bool) (t : Tag (os, (⟨d, op, ty, p, af, some (g, b)⟩ : Oper), L)) : aI1 P ib os cr i true ⟨d, op, ty, p, af, some (g, b)⟩ pr τ h L t =
  fX (aAE os g ()) (fun s => oA (cH τ s) b (aG3 P ib h cr pr i d op (aS0 os ⟨d, op, ty, p, af, some (g, b)⟩ ((s, .bool b) :: τ) ()) (fun pr' v h' => L pr' (fY ((s, .bool b) :: τ) d v) h') ())
   (L pr (fY ((s, .bool !b) :: τ) d (.lR [])) h) (L pr (fY τ d (.lR [])) h) ()) () := by
 simp only [aI1, fX, aAE, ← aV6 (ty := ty) (p := p) (af := af) (g := some (g, b))]
 cases (os.toArray[g]?).bind (·.dst) with
 |none => rfl
 |some s =>
  simp only [oA]
  cases cH τ s <;> first | rfl | (rename_i cs; cases cs <;> rfl)
@[go_sem] theorem bN0 (L : List (Nat × Nat) → cG → aB → Prop) (g : Nat) (b : Bool) (t : Tag (os, (⟨d, op, ty, p, af, some (g, b)⟩ : Oper), L)) : aI1 P ib os cr i false ⟨d, op, ty, p, af, some (g, b)⟩ pr τ h L t =
  fX (aAE os g ()) (fun s => oA (cH τ s) b (stepG P ib d op (aS0 os ⟨d, op, ty, p, af, some (g, b)⟩ ((s, .bool b) :: τ) ()) (fun v => L pr (fY ((s, .bool b) :: τ) d v) h) ())
   (L pr (fY ((s, .bool !b) :: τ) d (.lR [])) h) (L pr (fY τ d (.lR [])) h) ()) () := by
 simp only [aI1, fX, aAE]
 cases (os.toArray[g]?).bind (·.dst) with
 |none => rfl
 |some s =>
  simp only [oA]
  cases cH τ s <;> first | rfl | (rename_i cs; cases cs <;> rfl)
end
def tA (P : Program) (N : Nat) (keep ib : List Nat) (mk : Marks) (c : Code) (K : cG → aB → Prop) (Q : Exit → cG → aB → Prop) (τ : cG) (h : aB) (_ : Tag (c, K, Q)) : Prop := hwp P N keep ib mk c K Q τ h
section
variable (P : Program) (N : Nat) (keep ib : List Nat) (mk : Marks) (K : cG → aB → Prop) (Q : Exit → cG → aB → Prop) (τ : cG) (h : aB)
@[go_sem] theorem bGT (t : Tag (Code.skip, K, Q)) : tA P N keep ib mk .skip K Q τ h t = K τ h := rfl
@[go_sem] theorem bIF (t : Tag (Code.ret, K, Q)) : tA P N keep ib mk .ret K Q τ h t = Q .ret τ h := rfl
@[go_sem] theorem bGU (i : Nat) (t : Tag (Code.exit i, K, Q)) : tA P N keep ib mk (.exit i) K Q τ h t = Q (.exit i) τ h := rfl
@[go_sem] theorem bIG (a b : Code) (t : Tag (Code.seq a b, K, Q)) : tA P N keep ib mk (.seq a b) K Q τ h t = tA P N keep ib mk a (fun τ h => tA P N keep ib mk b K Q τ h ()) Q τ h () := rfl
@[go_sem] theorem bGV (x : Operand) (a b : Code) (t : Tag (Code.cond x a b, K, Q)) : tA P N keep ib mk (.cond x a b) K Q τ h t = aAD (hev τ x) (tA P N keep ib mk a K Q τ h ()) (tA P N keep ib mk b K Q τ h ()) () := by
 simp only [tA, hwp, aAD]; cases hev τ x <;> rfl
@[go_sem] theorem bB2 (i : Nat) (c : Code) (t : Tag (Code.block i c, K, Q)) : tA P N keep ib mk (.block i c) K Q τ h t = tA P N keep ib mk c K (aFW i K Q ()) τ h () := rfl
@[go_sem] theorem bGW (c : Code) (t : Tag (Code.loop c, K, Q)) : tA P N keep ib mk (.loop c) K Q τ h t = aNG P N (.loop c) (aQY K Q ()) τ h () := rfl
@[go_sem] theorem a8V (i : Nat) (os : List Oper) (t : Tag (Code.region i ⟨os⟩ false, K, Q)) : tA P N keep ib mk (.region i ⟨os⟩ false) K Q τ h t = aD1 P ib os os τ h (fun τ' h' => K (Hl.prune keep τ') h') () := rfl
@[go_sem] theorem bGX (i : Nat) (os : List Oper) (t : Tag (Code.region i ⟨os⟩ true, K, Q)) : tA P N keep ib mk (.region i ⟨os⟩ true) K Q τ h t = aD2 P ib os (mk i).1 (mk i).2.2 (mk i).2.1 [] τ h (fun τ' h' => K (Hl.prune keep τ') h') () := rfl
end
theorem aI2 {P : Program} {N : Nat} {keep ib : List Nat} {mk : Marks} (hmix : P.follows .mixedOrders = true) (c : Code) (K : cG → aB → Prop) (Q : Exit → cG → aB → Prop) (τ : cG) (h : aB) (hc : j3 N mk c = true) (hw : tA P N keep ib mk c K Q τ h ()) : q0 P N c (aQY K Q ()) τ h :=
 sQ hmix c K Q τ h hc hw
set_option linter.unusedVariables false
set_option linter.unusedSimpArgs false
def aV7 : Op → Bool
 | .box .. => false
 | .buildSlice .. => false
 | _ => true
theorem fC {P : Program} {ib : List Nat} {d : Option Tmp} {op : Op} {ρ : Operand → aD} {h : aB} {K : aD → aB → Prop} {t : Tag (op, K)} (hop : aV7 op = true) : j9 P ib d op ρ h K t = step P ⟨d, op, 0, "", #[], none⟩ ρ h K := by
 unfold j9 vS
 cases d with
 |none => rfl
 |some d =>
  simp only
  split
  ·cases op <;> first | rfl | (simp [aV7] at hop)
  ·rfl
theorem gA {P : Program} {ib : List Nat} {d : Option Tmp} {op : Op} {ρ : Operand → aD} {K : aD → Prop} {t : Tag (op, K)} (hop : aV7 op = true) : stepG P ib d op ρ K t = aG1 P ⟨d, op, 0, "", #[], none⟩ ρ K := by
 unfold stepG aFU
 cases d with
 |none => rfl
 |some d =>
  simp only
  split
  ·cases op <;> first | rfl | (simp [aV7] at hop)
  ·rfl
def aYF (P : Program) (op : BinOp) (ty : TypeId) (x y : aD) (K : aD → Prop) (_ : Tag K) : Prop := wX P op ty x y K
def mJ (P : Program) (op : BinOp) (ty : TypeId) (x y : aD) (K : aD → Prop) (_ : Tag K) : Prop := iW P op ty x y K
def unF (op : UnOp) (x : aD) (K : aD → Prop) (_ : Tag K) : Prop := aFQ op x K
def faF (d : Option TyD) (f : Nat) (x : aD) (K : aD → Prop) (_ : Tag K) : Prop := aFR d f x K
def iaF (re : Option mL) (x i : aD) (K : aD → Prop) (_ : Tag K) : Prop := aFS re x i K
def ixF (d : Option TyD) (x i : aD) (K : aD → Prop) (_ : Tag K) : Prop := aB4 d x i K
def ldF (r : Option mL) (a : aD) (h : aB) (K : aD → Prop) (_ : Tag K) : Prop := jS r a h K
def stF (r : Option mL) (a v : aD) (h : aB) (K : aB → Prop) (_ : Tag K) : Prop := aNA r a v h K
def alF (r : Option mL) (h : aB) (K : aD → aB → Prop) (_ : Tag K) : Prop := aFT r h K
def mkF (re : Option mL) (l c : aD) (h : aB) (K : aD → aB → Prop) (_ : Tag K) : Prop := aIN re l c h K
def slF (P : Program) (t : TypeId) (x : aD) (lo hi : Option aD) (K : aD → Prop) (_ : Tag K) : Prop := q8 P t x lo hi K
def aZ5 (P : Program) (d : Option TyD) (x : aD) (K : aD → Prop) (_ : Tag K) : Prop := match d, x with
  |some (.slice _), .sl _ es _ => es.length ≤ 9223372036854775807 → K (.int .i64 es.length)
  |some (.slice _), .os _ _ _ n => n ≤ 9223372036854775807 → K (.int .i64 n)
  |some (.slice _), .bC => K (.int .i64 0)
  |some .str, .str s => s.length ≤ 9223372036854775807 → K (.int .i64 s.length)
  | _, _ => False
def aZ6 (P : Program) (d : Option TyD) (x : aD) (K : aD → Prop) (_ : Tag K) : Prop := match d, x with
  |some (.slice _), .sl _ es _ => K (.int .i64 es.length)
  |some (.slice _), .os _ _ _ n => K (.int .i64 n)
  |some (.slice _), .bC => K (.int .i64 0)
  |some .str, .str s => K (.int .i64 s.length)
  | _, _ => False
def cvF (P : Program) (s : Option TyD) (d : Option TyD) (x : aD) (K : aD → Prop) (_ : Tag K) : Prop := match d, x with
 |some (.int k'), .int k n => s.isSome = true ∧ K (.int k' (k'.wrap n))
 |some .str, .sl 1 es _ => (match s with
  |some (.slice et) => dOf P et = some (.int .u8) ∧ (match bytesOf es with | some bs => K (.str bs) | none => False)
  | _ => False)
 | _, _ => False
def a45 (P : Program) (t : TypeId) (x : aD) (lo : Option aD) (hi mx : aD) (K : aD → Prop) (_ : Tag K) : Prop := p6 P t x lo hi mx K
def rdF (cr : List (Nat × Nat)) (i : Nat) (pr : List (Nat × Nat)) (r : Option mL) (x : aD) (h : aB) (M : List (Nat × Nat) → aD → aB → Prop) (_ : Tag M) : Prop := match x with
 | .op n sz j off => jS r (.op n sz j off) h fun v => M (aQW cr i (some n) pr) v h
 | .ip sz es j off => jS r (.ip sz es j off) h fun v => M (aQW cr i none pr) v h
 | _ => False
def a46 (c A : Prop) (_ : Tag A) : Prop := c ∧ A
@[go_sem] theorem bN6 (c A : Prop) (t : Tag A) : a46 c A t = (c ∧ A) := rfl
@[go_sem high] theorem bG0 (A : Prop) (t : Tag A) : a46 True A t = A := by simp [a46]
def buF (P : Program) (r : Option mL) (ps : List (Nat × aD)) (K : aD → Prop) (_ : Tag K) : Prop := uG P r ps K
def exF (x : aD) (i : Nat) (K : aD → Prop) (_ : Tag K) : Prop := match x with
  | .lR cs => match cs[i]? with | some x => K x | none => False
  | _ => False
def ncF (x : aD) (K : aD → Prop) (_ : Tag K) : Prop := match x with
  | .op n sz i k => K (.op n sz i k)
  | .ip sz es i k => K (.ip sz es i k)
  | _ => False
def a8X (P : Program) (f : aD) (args : List aD) (h : aB) (K : aD → aB → Prop) (_ : Tag K) : Prop := match f with
  | .fn (.func g) first cap => fO P g (first ++ args ++ cap) h K
  | _ => False
def a8Y (P : Program) (f : aD) (args : List aD) (K : aD → Prop) (_ : Tag K) : Prop := match f with
  | .fn (.func g) first cap => aQS P g (first ++ args ++ cap) K
  | _ => False
def aJ (P : Program) (g : FuncId) (args : List aD) (h : aB) (K : aD → aB → Prop) (_ : Tag K) : Prop := fO P g args h K
def aL (P : Program) (g : FuncId) (args : List aD) (K : aD → Prop) (_ : Tag K) : Prop := aQS P g args K
theorem aJ.mk {P : Program} {g : FuncId} {args : List aD} {h : aB} {K : aD → aB → Prop} {t : Tag K} {r : aD} (a : e8 P g args r) (k : K r h) : aJ P g args h K t := e8.call a k
theorem aL.mk {P : Program} {g : FuncId} {args : List aD} {K : aD → Prop} {t : Tag K} {r : aD} (a : e8 P g args r) (k : K r) : aL P g args K t := ⟨r, a, k⟩
section
variable (P : Program) (ib : List Nat) (d : Option Tmp) (ρ : Operand → aD) (h : aB) (K : aD → aB → Prop) (L : aD → Prop)
@[go_sem] theorem bN9 (x : Operand) (t : Tag (Op.move x, K)) : j9 P ib d (.move x) ρ h K t = K (ρ x) h := by rw [fC rfl]; rfl
@[go_sem] theorem bOA (x : Operand) (t : Tag (Op.move x, L)) : stepG P ib d (.move x) ρ L t = L (ρ x) := by rw [gA rfl]; rfl
@[go_sem] theorem bG1 (x : Operand) (t : Tag (Op.assign x, K)) : j9 P ib d (.assign x) ρ h K t = K (ρ x) h := by rw [fC rfl]; rfl
@[go_sem] theorem bG2 (x : Operand) (t : Tag (Op.assign x, L)) : stepG P ib d (.assign x) ρ L t = L (ρ x) := by rw [gA rfl]; rfl
@[go_sem] theorem bOB (c a b : Operand) (t : Tag (Op.pick c a b, K)) : j9 P ib d (.pick c a b) ρ h K t = aAD (ρ c) (K (ρ a) h) (K (ρ b) h) () := by
 rw [fC rfl]; simp only [step, aAD]; cases ρ c <;> rfl
@[go_sem] theorem bOC (c a b : Operand) (t : Tag (Op.pick c a b, L)) : stepG P ib d (.pick c a b) ρ L t = aAD (ρ c) (L (ρ a)) (L (ρ b)) () := by
 rw [gA rfl]; simp only [aG1, aAD]; cases ρ c <;> rfl
@[go_sem] theorem bPG (op : BinOp) (ty ty' : TypeId) (x y : Operand) (t : Tag (Op.binOp op ty x y ty', K)) : j9 P ib d (.binOp op ty x y ty') ρ h K t = aYF P op ty (ρ x) (ρ y) (fun v => K v h) () := by rw [fC rfl]; rfl
@[go_sem] theorem bPH (op : BinOp) (ty ty' : TypeId) (x y : Operand) (t : Tag (Op.binOp op ty x y ty', L)) : stepG P ib d (.binOp op ty x y ty') ρ L t = mJ P op ty (ρ x) (ρ y) L () := by rw [gA rfl]; rfl
@[go_sem] theorem bS2 (op : UnOp) (ty : TypeId) (x : Operand) (t : Tag (Op.unOp op ty x, K)) : j9 P ib d (.unOp op ty x) ρ h K t = unF op (ρ x) (fun v => K v h) () := by rw [fC rfl]; rfl
@[go_sem] theorem bS3 (op : UnOp) (ty : TypeId) (x : Operand) (t : Tag (Op.unOp op ty x, L)) : stepG P ib d (.unOp op ty x) ρ L t = unF op (ρ x) L () := by rw [gA rfl]; rfl
@[go_sem] theorem bOD (s e : TypeId) (x : Operand) (t : Tag (Op.convert s e x, K)) : j9 P ib d (.convert s e x) ρ h K t = cvF P (dOf P s) (dOf P e) (ρ x) (fun v => K v h) () := by rw [fC rfl]; rfl
@[go_sem] theorem bOE (s e : TypeId) (x : Operand) (t : Tag (Op.convert s e x, L)) : stepG P ib d (.convert s e x) ρ L t = cvF P (dOf P s) (dOf P e) (ρ x) L () := by rw [gA rfl]; rfl
@[go_sem] theorem bS4 (ty : TypeId) (x : Operand) (f : Nat) (t : Tag (Op.fieldAddr ty x f, K)) : j9 P ib d (.fieldAddr ty x f) ρ h K t = faF (dOf P ty) f (ρ x) (fun v => K v h) () := by rw [fC rfl]; rfl
@[go_sem] theorem bS5 (ty : TypeId) (x : Operand) (f : Nat) (t : Tag (Op.fieldAddr ty x f, L)) : stepG P ib d (.fieldAddr ty x f) ρ L t = faF (dOf P ty) f (ρ x) L () := by rw [gA rfl]; rfl
@[go_sem] theorem bS6 (ty : TypeId) (x i : Operand) (t : Tag (Op.indexAddr ty x i, K)) : j9 P ib d (.indexAddr ty x i) ρ h K t = iaF (nB P ty) (ρ x) (ρ i) (fun v => K v h) () := by rw [fC rfl]; rfl
@[go_sem] theorem bS7 (ty : TypeId) (x i : Operand) (t : Tag (Op.indexAddr ty x i, L)) : stepG P ib d (.indexAddr ty x i) ρ L t = iaF (nB P ty) (ρ x) (ρ i) L () := by rw [gA rfl]; rfl
@[go_sem] theorem bS8 (ty : TypeId) (x i : Operand) (t : Tag (Op.index ty x i, K)) : j9 P ib d (.index ty x i) ρ h K t = ixF (dOf P ty) (ρ x) (ρ i) (fun v => K v h) () := by rw [fC rfl]; rfl
@[go_sem] theorem bS9 (ty : TypeId) (x i : Operand) (t : Tag (Op.index ty x i, L)) : stepG P ib d (.index ty x i) ρ L t = ixF (dOf P ty) (ρ x) (ρ i) L () := by rw [gA rfl]; rfl
@[go_sem] theorem bTA (ty : TypeId) (a : Operand) (t : Tag (Op.load ty a, K)) : j9 P ib d (.load ty a) ρ h K t = ldF (iT P ty) (ρ a) h (fun v => K v h) () := by rw [fC rfl]; rfl
@[go_sem] theorem bTB (ty : TypeId) (a v : Operand) (t : Tag (Op.store ty a v, K)) : j9 P ib d (.store ty a v) ρ h K t = stF (iT P ty) (ρ a) (ρ v) h (fun h' => K .any h') () := by rw [fC rfl]; rfl
@[go_sem] theorem bTC (ty : TypeId) (t : Tag (Op.alloc ty, K)) : j9 P ib d (.alloc ty) ρ h K t = alF (iT P ty) h K () := by rw [fC rfl]; rfl
@[go_sem] theorem bTD (ty : TypeId) (l c : Operand) (t : Tag (Op.makeSlice ty l c, K)) : j9 P ib d (.makeSlice ty l c) ρ h K t = mkF (nB P ty) (ρ l) (ρ c) h K () := by rw [fC rfl]; rfl
@[go_sem] theorem bTE (ty : TypeId) (x : Operand) (lo hi : Option Operand) (t : Tag (Op.slice ty x lo hi none, K)) : j9 P ib d (.slice ty x lo hi none) ρ h K t = slF P ty (ρ x) (lo.map ρ) (hi.map ρ) (fun v => K v h) () := by rw [fC rfl]; rfl
@[go_sem] theorem bTF (ty : TypeId) (x : Operand) (lo hi : Option Operand) (t : Tag (Op.slice ty x lo hi none, L)) : stepG P ib d (.slice ty x lo hi none) ρ L t = slF P ty (ρ x) (lo.map ρ) (hi.map ρ) L () := by rw [gA rfl]; rfl
@[go_sem] theorem bPI (ty : TypeId) (x : Operand) (lo : Option Operand) (hi mx : Operand) (t : Tag (Op.slice ty x lo (some hi) (some mx), K)) : j9 P ib d (.slice ty x lo (some hi) (some mx)) ρ h K t = a45 P ty (ρ x) (lo.map ρ) (ρ hi) (ρ mx) (fun v => K v h) () := by rw [fC rfl]; rfl
@[go_sem] theorem bPJ (ty : TypeId) (x : Operand) (lo : Option Operand) (hi mx : Operand) (t : Tag (Op.slice ty x lo (some hi) (some mx), L)) : stepG P ib d (.slice ty x lo (some hi) (some mx)) ρ L t = a45 P ty (ρ x) (lo.map ρ) (ρ hi) (ρ mx) L () := by rw [gA rfl]; rfl
@[go_sem] theorem bTG (cr pr : List (Nat × Nat)) (i : Nat) (ty : TypeId) (a : Operand) (M : List (Nat × Nat) → aD → aB → Prop) (t : Tag (Op.load ty a, M)) : aG3 P ib h cr pr i d (.load ty a) ρ M t = rdF cr i pr (iT P ty) (ρ a) h M () := by
 unfold aG3 aQU rdF; simp only [iE, if_true]
 cases ρ a <;> rfl
@[go_sem] theorem bPK (cr pr : List (Nat × Nat)) (i : Nat) (op : Op) (M : List (Nat × Nat) → aD → aB → Prop) (t : Tag (op, M)) (hop : iE op = false) : aG3 P ib h cr pr i d op ρ M t = j9 P ib d op ρ h (fun v h' => a46 (jO cr i pr h h') (M pr v h') ()) () := by
 unfold aG3; rw [hop]; rfl
@[go_sem] theorem bTH (x : Operand) (i : Nat) (t : Tag (Op.extract x i, K)) : j9 P ib d (.extract x i) ρ h K t = exF (ρ x) i (fun v => K v h) () := by rw [fC rfl]; rfl
@[go_sem] theorem bTI (x : Operand) (i : Nat) (t : Tag (Op.extract x i, L)) : stepG P ib d (.extract x i) ρ L t = exF (ρ x) i L () := by rw [gA rfl]; rfl
@[go_sem] theorem bTJ (x : Operand) (t : Tag (Op.nilCheck x, K)) : j9 P ib d (.nilCheck x) ρ h K t = ncF (ρ x) (fun v => K v h) () := by rw [fC rfl]; rfl
@[go_sem] theorem bTK (x : Operand) (t : Tag (Op.nilCheck x, L)) : stepG P ib d (.nilCheck x) ρ L t = ncF (ρ x) L () := by rw [gA rfl]; rfl
@[go_sem] theorem bTL (f : Fn) (fs cs : Array Operand) (t : Tag (Op.makeFunc f fs cs, K)) : j9 P ib d (.makeFunc f fs cs) ρ h K t = K (.fn f (fs.toList.map ρ) (cs.toList.map ρ)) h := by rw [fC rfl]; rfl
@[go_sem] theorem bTM (f : Fn) (fs cs : Array Operand) (t : Tag (Op.makeFunc f fs cs, L)) : stepG P ib d (.makeFunc f fs cs) ρ L t = L (.fn f (fs.toList.map ρ) (cs.toList.map ρ)) := by rw [gA rfl]; rfl
@[go_sem] theorem bTN (ty : TypeId) (ps : Array (Nat × Operand)) (t : Tag (Op.build ty ps, K)) : j9 P ib d (.build ty ps) ρ h K t = buF P (iT P ty) (ps.toList.map fun p => (p.1, ρ p.2)) (fun v => K v h) () := by rw [fC rfl]; rfl
@[go_sem] theorem bTO (ty : TypeId) (ps : Array (Nat × Operand)) (t : Tag (Op.build ty ps, L)) : stepG P ib d (.build ty ps) ρ L t = buF P (iT P ty) (ps.toList.map fun p => (p.1, ρ p.2)) L () := by rw [gA rfl]; rfl
@[go_sem] theorem bOF (f : Operand) (as : Array Operand) (ats : Array TypeId) (t : Tag (Op.call ⟨.value f, as, ats⟩, K)) : j9 P ib d (.call ⟨.value f, as, ats⟩) ρ h K t = a8X P (ρ f) (as.toList.map ρ) h K () := by rw [fC rfl]; rfl
@[go_sem] theorem bOG (f : Operand) (as : Array Operand) (ats : Array TypeId) (t : Tag (Op.call ⟨.value f, as, ats⟩, L)) : stepG P ib d (.call ⟨.value f, as, ats⟩) ρ L t = a8Y P (ρ f) (as.toList.map ρ) L () := by rw [gA rfl]; rfl
end
set_option linter.unusedVariables false
set_option linter.unusedSimpArgs false
section
variable (P : Program) (ib : List Nat) (d : Option Tmp) (ρ : Operand → aD) (h : aB) (K : aD → aB → Prop) (L : aD → Prop)
def ldG (r : Option mL) (a : aD) (K : aD → Prop) (_ : Tag K) : Prop := match a with
  | .ip sz es i off => jS r (.ip sz es i off) (fun _ => none) K
  | _ => False
@[go_sem] theorem bTP (ty : TypeId) (a : Operand) (t : Tag (Op.load ty a, L)) : stepG P ib d (.load ty a) ρ L t = ldG (iT P ty) (ρ a) L () := by
 rw [gA rfl]; simp only [aG1, ldG]; cases ρ a <;> rfl
@[go_sem] theorem bPL (x : Operand) (ty : TypeId) (t : Tag (Op.call ⟨.builtin .len, #[x], #[ty]⟩, K)) : j9 P ib d (.call ⟨.builtin .len, #[x], #[ty]⟩) ρ h K t = aZ5 P (dOf P ty) (ρ x) (fun v => K v h) () := by rw [fC rfl]; rfl
@[go_sem] theorem bPM (x : Operand) (ty : TypeId) (t : Tag (Op.call ⟨.builtin .len, #[x], #[ty]⟩, L)) : stepG P ib d (.call ⟨.builtin .len, #[x], #[ty]⟩) ρ L t = aZ6 P (dOf P ty) (ρ x) L () := by rw [gA rfl]; rfl
def a47 (x y : aD) (K : aD → Prop) (_ : Tag K) : Prop := match x, y with
   | .int k a, .int k' b => k' = k ∧ K (.int k (max a b))
   | _, _ => False
@[go_sem] theorem bIH (k k' : IntKind) (a b : Int) (t : Tag L) : a47 (.int k a) (.int k' b) L t = (k' = k ∧ L (.int k (max a b))) := rfl
theorem aV8 (x y : aD) (K : aD → Prop) : (match x, y with
   | .int k a, .int _ b => (match y with | .int k' _ => k' = k | _ => False) ∧ K (.int k (max a b))
   | _, _ => False) = a47 x y K () := by cases x <;> cases y <;> rfl
@[go_sem] theorem bPN (x y : Operand) (ats : Array TypeId) (t : Tag (Op.call ⟨.builtin .max, #[x, y], ats⟩, K)) : j9 P ib d (.call ⟨.builtin .max, #[x, y], ats⟩) ρ h K t = a47 (ρ x) (ρ y) (fun v => K v h) () := by
 rw [fC rfl, ← aV8]; rfl
@[go_sem] theorem bPO (x y : Operand) (ats : Array TypeId) (t : Tag (Op.call ⟨.builtin .max, #[x, y], ats⟩, L)) : stepG P ib d (.call ⟨.builtin .max, #[x, y], ats⟩) ρ L t = a47 (ρ x) (ρ y) L () := by
 rw [gA rfl, ← aV8]; rfl
def apF (P : Program) (re : Option mL) (t1 : Option TypeId) (x y : aD) (h : aB) (K : aD → aB → Prop) (_ : Tag K) : Prop := xS P re t1 x y h K
@[go_sem] theorem bPP (x y : Operand) (a b : TypeId) (t : Tag (Op.call ⟨.builtin .append, #[x, y], #[a, b]⟩, K)) : j9 P ib d (.call ⟨.builtin .append, #[x, y], #[a, b]⟩) ρ h K t = apF P (nB P a) (some b) (ρ x) (ρ y) h K () := by
 rw [fC rfl]; rfl
def aI3 (ib : List Nat) (d : Option Tmp) : Bool := match d with | some d => ib.contains d | none => false
@[go_sem] theorem bB4 (k : Nat) : aI3 ib (some k) = ib.contains k := rfl
def a48 (i : Bool) (x : aD) (h : aB) (K : aD → aB → Prop) (_ : Tag K) : Prop := if i then aIP x (fun v => K v h) else aV1 x h K
@[go_sem] theorem bPQ (ty : TypeId) (x : Operand) (t : Tag (Op.box ty x, K)) : j9 P ib d (.box ty x) ρ h K t = a48 (aI3 ib d) (ρ x) h K () := by
 unfold j9 vS a48 aI3
 cases d with
 |none => rfl
 |some d => simp only; split <;> rfl
@[go_sem] theorem bPR (x : aD) (t : Tag K) : a48 true x h K t = (x.cells.all aD.flat = true ∧ K (.ip x.cells.length [x.cells] 0 0) h) := rfl
@[go_sem] theorem bPS (x : aD) (t : Tag K) : a48 false x h K t = (x.cells.all aD.flat = true ∧ ∀ n, h n = none → K (.op n x.cells.length 0 0) (bK h n (.row x.cells.length [x.cells.map .v]))) := rfl
def bsF (i : Bool) (re : Option mL) (len : Nat) (ps : List (Nat × aD)) (h : aB) (K : aD → aB → Prop) (_ : Tag K) : Prop :=
 if i then uS re len ps (fun sz es => K (.sl sz es true) h) else uS re len ps fun sz es => ∀ n, h n = none → K (.os n sz 0 len) (bK h n (.row sz (es.map (List.map .v))))
def bsG (i : Bool) (re : Option mL) (len : Nat) (ps : List (Nat × aD)) (K : aD → Prop) (_ : Tag K) : Prop :=
 if i then uS re len ps (fun sz es => K (.sl sz es true)) else False
@[go_sem] theorem bTQ (ty : TypeId) (len : Nat) (ps : Array (Nat × Operand)) (t : Tag (Op.buildSlice ty len ps, K)) : j9 P ib d (.buildSlice ty len ps) ρ h K t = bsF (aI3 ib d) (nB P ty) len (ps.toList.map fun p => (p.1, ρ p.2)) h K () := by
 unfold j9 vS bsF aI3
 cases d with
 |none => rfl
 |some d => simp only; split <;> rfl
@[go_sem] theorem bTR (ty : TypeId) (len : Nat) (ps : Array (Nat × Operand)) (t : Tag (Op.buildSlice ty len ps, L)) : stepG P ib d (.buildSlice ty len ps) ρ L t = bsG (aI3 ib d) (nB P ty) len (ps.toList.map fun p => (p.1, ρ p.2)) L () := by
 unfold stepG aFU bsG aI3
 cases d with
 |none => rfl
 |some d => simp only; split <;> rfl
@[go_sem] theorem bTS (re : mL) (len : Nat) (ps : List (Nat × aD)) (t : Tag K) : bsF true (some re) len ps h K t = (re.zero.length = re.sz ∧ 0 < re.sz ∧ re.zero.all aD.flat = true ∧ len * re.sz ≤ 16777216 ∧ sP len re.sz ps = true ∧ K (.sl re.sz (uQ (List.replicate len re.zero) ps) true) h) := rfl
@[go_sem] theorem bTT (re : mL) (len : Nat) (ps : List (Nat × aD)) (t : Tag L) : bsG true (some re) len ps L t = (re.zero.length = re.sz ∧ 0 < re.sz ∧ re.zero.all aD.flat = true ∧ len * re.sz ≤ 16777216 ∧ sP len re.sz ps = true ∧ L (.sl re.sz (uQ (List.replicate len re.zero) ps) true)) := rfl
@[go_sem] theorem bTU (re : mL) (len : Nat) (ps : List (Nat × aD)) (t : Tag K) : bsF false (some re) len ps h K t = (re.zero.length = re.sz ∧ 0 < re.sz ∧ re.zero.all aD.flat = true ∧ len * re.sz ≤ 16777216 ∧ sP len re.sz ps = true ∧ ∀ n, h n = none → K (.os n re.sz 0 len) (bK h n (.row re.sz ((uQ (List.replicate len re.zero) ps).map (List.map .v))))) := rfl
@[go_sem] theorem bII (g : FuncId) (first cap args : List aD) (t : Tag K) : a8X P (.fn (.func g) first cap) args h K t = aJ P g (first ++ args ++ cap) h K () := rfl
@[go_sem] theorem bIJ (g : FuncId) (first cap args : List aD) (t : Tag L) : a8Y P (.fn (.func g) first cap) args L t = aL P g (first ++ args ++ cap) L () := rfl
@[go_sem] theorem bIK (ty : TypeId) (k k' : IntKind) (a b : Int) (t : Tag L) : mJ P .add ty (.int k a) (.int k' b) L t = fX (pM .add (.int k a) (.int k' b)) L () := by simp only [mJ, iW, fX]; cases pM _ _ _ <;> rfl
@[go_sem] theorem bIL (ty : TypeId) (k k' : IntKind) (a b : Int) (t : Tag L) : mJ P .sub ty (.int k a) (.int k' b) L t = fX (pM .sub (.int k a) (.int k' b)) L () := by simp only [mJ, iW, fX]; cases pM _ _ _ <;> rfl
@[go_sem] theorem bIM (ty : TypeId) (k k' : IntKind) (a b : Int) (t : Tag L) : mJ P .mul ty (.int k a) (.int k' b) L t = fX (pM .mul (.int k a) (.int k' b)) L () := by simp only [mJ, iW, fX]; cases pM _ _ _ <;> rfl
@[go_sem] theorem bIN (ty : TypeId) (k k' : IntKind) (a b : Int) (t : Tag L) : mJ P .and ty (.int k a) (.int k' b) L t = fX (pM .and (.int k a) (.int k' b)) L () := by simp only [mJ, iW, fX]; cases pM _ _ _ <;> rfl
@[go_sem] theorem bOJ (ty : TypeId) (k k' : IntKind) (a b : Int) (t : Tag L) : mJ P .or ty (.int k a) (.int k' b) L t = fX (pM .or (.int k a) (.int k' b)) L () := by simp only [mJ, iW, fX]; cases pM _ _ _ <;> rfl
@[go_sem] theorem bIO (ty : TypeId) (k k' : IntKind) (a b : Int) (t : Tag L) : mJ P .xor ty (.int k a) (.int k' b) L t = fX (pM .xor (.int k a) (.int k' b)) L () := by simp only [mJ, iW, fX]; cases pM _ _ _ <;> rfl
@[go_sem] theorem a8Z (ty : TypeId) (k k' : IntKind) (a b : Int) (t : Tag L) : mJ P .andNot ty (.int k a) (.int k' b) L t = fX (pM .andNot (.int k a) (.int k' b)) L () := by simp only [mJ, iW, fX]; cases pM _ _ _ <;> rfl
@[go_sem] theorem bIP (ty : TypeId) (k k' : IntKind) (a b : Int) (t : Tag L) : mJ P .eql ty (.int k a) (.int k' b) L t = fX (pM .eql (.int k a) (.int k' b)) L () := by simp only [mJ, iW, fX]; cases pM _ _ _ <;> rfl
@[go_sem] theorem bIQ (ty : TypeId) (k k' : IntKind) (a b : Int) (t : Tag L) : mJ P .neq ty (.int k a) (.int k' b) L t = fX (pM .neq (.int k a) (.int k' b)) L () := by simp only [mJ, iW, fX]; cases pM _ _ _ <;> rfl
@[go_sem] theorem bIR (ty : TypeId) (k k' : IntKind) (a b : Int) (t : Tag L) : mJ P .lss ty (.int k a) (.int k' b) L t = fX (pM .lss (.int k a) (.int k' b)) L () := by simp only [mJ, iW, fX]; cases pM _ _ _ <;> rfl
@[go_sem] theorem bIS (ty : TypeId) (k k' : IntKind) (a b : Int) (t : Tag L) : mJ P .leq ty (.int k a) (.int k' b) L t = fX (pM .leq (.int k a) (.int k' b)) L () := by simp only [mJ, iW, fX]; cases pM _ _ _ <;> rfl
@[go_sem] theorem bIT (ty : TypeId) (k k' : IntKind) (a b : Int) (t : Tag L) : mJ P .gtr ty (.int k a) (.int k' b) L t = fX (pM .gtr (.int k a) (.int k' b)) L () := by simp only [mJ, iW, fX]; cases pM _ _ _ <;> rfl
@[go_sem] theorem bIU (ty : TypeId) (k k' : IntKind) (a b : Int) (t : Tag L) : mJ P .geq ty (.int k a) (.int k' b) L t = fX (pM .geq (.int k a) (.int k' b)) L () := by simp only [mJ, iW, fX]; cases pM _ _ _ <;> rfl
@[go_sem] theorem bIV (ty : TypeId) (k k' : IntKind) (a b : Int) (t : Tag L) : mJ P .quo ty (.int k a) (.int k' b) L t = (k = k' ∧ b ≠ 0 ∧ L (.int k (k.wrap (a.tdiv b)))) := rfl
@[go_sem] theorem bIW (ty : TypeId) (k k' : IntKind) (a b : Int) (t : Tag L) : mJ P .rem ty (.int k a) (.int k' b) L t = (k = k' ∧ b ≠ 0 ∧ L (.int k (a.tmod b))) := rfl
@[go_sem] theorem bIX (ty : TypeId) (k k' : IntKind) (a b : Int) (t : Tag L) : mJ P .shl ty (.int k a) (.int k' b) L t = (0 ≤ b ∧ L (.int k (k.wrap (a * 2 ^ (min b.toNat k.bits))))) := rfl
@[go_sem] theorem bIY (ty : TypeId) (k k' : IntKind) (a b : Int) (t : Tag L) : mJ P .shr ty (.int k a) (.int k' b) L t = (0 ≤ b ∧ L (.int k (a.fdiv (2 ^ (min b.toNat k.bits))))) := rfl
@[go_sem] theorem bG3 (ty : TypeId) (a b : List UInt8) (t : Tag L) : mJ P .add ty (.str a) (.str b) L t = (a.length + b.length ≤ 9223372036854775807 ∧ L (.str (a ++ b))) := rfl
@[go_sem] theorem bG4 (ty : TypeId) (a b : List UInt8) (t : Tag L) : mJ P .eql ty (.str a) (.str b) L t = L (.bool (decide (a = b))) := rfl
@[go_sem] theorem bG5 (ty : TypeId) (a b : List UInt8) (t : Tag L) : mJ P .neq ty (.str a) (.str b) L t = L (.bool (!decide (a = b))) := rfl
@[go_sem] theorem bG6 (ty : TypeId) (a b : List UInt8) (t : Tag L) : mJ P .lss ty (.str a) (.str b) L t = L (.bool (Op.bytesLess a b)) := rfl
@[go_sem] theorem bG7 (ty : TypeId) (a b : Bool) (t : Tag L) : mJ P .eql ty (.bool a) (.bool b) L t = (dOf P ty = some .bool ∧ L (.bool (a == b))) := rfl
@[go_sem] theorem bG8 (ty : TypeId) (a b : Bool) (t : Tag L) : mJ P .neq ty (.bool a) (.bool b) L t = (dOf P ty = some .bool ∧ L (.bool (a != b))) := rfl
@[go_sem] theorem bIZ (op : BinOp) (ty : TypeId) (k : IntKind) (a : Int) (y : aD) (t : Tag L) : aYF P op ty (.int k a) y L t = mJ P op ty (.int k a) y L () := rfl
@[go_sem] theorem bG9 (op : BinOp) (ty : TypeId) (a : Bool) (y : aD) (t : Tag L) : aYF P op ty (.bool a) y L t = mJ P op ty (.bool a) y L () := rfl
@[go_sem] theorem bI0 (op : BinOp) (ty : TypeId) (a : List UInt8) (y : aD) (t : Tag L) : aYF P op ty (.str a) y L t = mJ P op ty (.str a) y L () := rfl
@[go_sem] theorem bI1 (ty : TypeId) (sz : Nat) (es : List (List aD)) (b : Bool) (t : Tag L) : aYF P .eql ty (.sl sz es b) .bC L t = ((match dOf P ty with | some (.slice _) => True | _ => False) ∧ (es = [] → L (.bool true)) ∧ L (.bool false)) := rfl
@[go_sem] theorem bHA (ty : TypeId) (sz : Nat) (es : List (List aD)) (b : Bool) (t : Tag L) : aYF P .neq ty (.sl sz es b) .bC L t = ((match dOf P ty with | some (.slice _) => True | _ => False) ∧ (es = [] → L (.bool false)) ∧ L (.bool true)) := rfl
@[go_sem] theorem bOK (b : Bool) (t : Tag L) : unF .not (.bool b) L t = L (.bool (!b)) := rfl
@[go_sem] theorem bOL (k : IntKind) (n : Int) (t : Tag L) : unF .neg (.int k n) L t = L (.int k (k.wrap (0 - n))) := rfl
@[go_sem] theorem bOM (s : TyD) (k k' : IntKind) (n : Int) (t : Tag L) : cvF P (some s) (some (.int k')) (.int k n) L t = L (.int k' (k'.wrap n)) := by simp [cvF]
@[go_sem] theorem bHB (et : TypeId) (es : List (List aD)) (b : Bool) (t : Tag L) : cvF P (some (.slice et)) (some .str) (.sl 1 es b) L t = (dOf P et = some (.int .u8) ∧ fX (bytesOf es) (fun bs => L (.str bs)) ()) := by
 simp only [cvF, fX]; cases bytesOf es <;> rfl
@[go_sem] theorem bPU (cr pr : List (Nat × Nat)) (i : Nat) (r : Option mL) (n sz j off : Nat) (M : List (Nat × Nat) → aD → aB → Prop) (t : Tag M) : rdF cr i pr r (.op n sz j off) h M t = ldF r (.op n sz j off) h (fun v => M (aQW cr i (some n) pr) v h) () := rfl
@[go_sem] theorem bPV (cr pr : List (Nat × Nat)) (i : Nat) (r : Option mL) (sz j off : Nat) (es : List (List aD)) (M : List (Nat × Nat) → aD → aB → Prop) (t : Tag M) : rdF cr i pr r (.ip sz es j off) h M t = ldF r (.ip sz es j off) h (fun v => M (aQW cr i none pr) v h) () := rfl
attribute [go_sem] aQW aZX zL jO bytesOf
@[go_sem] theorem a80 (x : Operand) : iE (.move x) = false := rfl
@[go_sem] theorem a4C (x : Operand) : iE (.assign x) = false := rfl
@[go_sem] theorem a49 (x : TypeId) : iE (.alloc x) = false := rfl
@[go_sem] theorem bB5 (x : TypeId) (v : Operand) : iE (.box x v) = false := rfl
@[go_sem] theorem bHC (x : TypeId) (l : Nat) (ps : Array (Nat × Operand)) : iE (.buildSlice x l ps) = false := rfl
@[go_sem] theorem a5A (x : TypeId) (ps : Array (Nat × Operand)) : iE (.build x ps) = false := rfl
@[go_sem] theorem a5B (x : TypeId) (a v : Operand) : iE (.store x a v) = false := rfl
@[go_sem] theorem bHD (x : TypeId) (a v : Operand) : iE (.makeSlice x a v) = false := rfl
@[go_sem] theorem a81 (c : Call) : iE (.call c) = false := rfl
@[go_sem] theorem bHE (x : TypeId) (r : Option Operand) : iE (.makeMap x r) = false := rfl
@[go_sem] theorem a4D (x : TypeId) (a b : Operand) (c : Bool) : iE (.lookup x a b c) = false := rfl
@[go_sem] theorem bHF (x : TypeId) (a b c : Operand) : iE (.mapUpdate x a b c) = false := rfl
@[go_sem] theorem bHG (x : TypeId) (a b : Operand) : iE (.mapEntry x a b) = false := rfl
@[go_sem] theorem bHH (x : TypeId) (a b c : Operand) : iE (.entryStore x a b c) = false := rfl
@[go_sem] theorem bB6 (x : TypeId) (a b c : Operand) : iE (.insert x a b c) = false := rfl
@[go_sem] theorem a5C (x : TypeId) (a : Operand) : iE (.range x a) = false := rfl
@[go_sem] theorem a82 (a : Operand) (b : Bool) : iE (.next a b) = false := rfl
@[go_sem] theorem a5D (a : Operand) : iE (.entry a) = false := rfl
@[go_sem] theorem a5E (x : TypeId) (a : Operand) (b c d : Option Operand) : iE (.slice x a b c d) = false := rfl
@[go_sem] theorem bHI (x : TypeId) (a b : Operand) : iE (.indexAddr x a b) = false := rfl
@[go_sem] theorem bHJ (x : TypeId) (a : Operand) (b : Nat) : iE (.fieldAddr x a b) = false := rfl
@[go_sem] theorem bHK (a : Operand) (b : Nat) : iE (.extract a b) = false := rfl
@[go_sem] theorem bHL (f : Fn) (a b : Array Operand) : iE (.makeFunc f a b) = false := rfl
@[go_sem] theorem a83 (a b : TypeId) (x : Operand) : iE (.convert a b x) = false := rfl
@[go_sem] theorem bB7 (o : BinOp) (a b : TypeId) (x y : Operand) : iE (.binOp o a x y b) = false := rfl
@[go_sem] theorem a84 (x y z : Operand) : iE (.pick x y z) = false := rfl
@[go_sem] theorem bHM (x : Operand) : iE (.nilCheck x) = false := rfl
def aZ7 (fs : List (Nat × TypeId × Nat)) (f : Nat) (K : Nat → Prop) (_ : Tag K) : Prop := match fs[f]? with | some (off, _, sz') => sz' ≠ 0 ∧ K off | none => False
@[go_sem] theorem bHN (off sz : Nat) (ty : TypeId) (fs : List (Nat × TypeId × Nat)) (M : Nat → Prop) (t : Tag M) : aZ7 ((off, ty, sz) :: fs) 0 M t = (sz ≠ 0 ∧ M off) := rfl
@[go_sem] theorem bHO (x : Nat × TypeId × Nat) (fs : List (Nat × TypeId × Nat)) (n : Nat) (M : Nat → Prop) (t : Tag M) : aZ7 (x :: fs) (n + 1) M t = aZ7 fs n M () := rfl
@[go_sem] theorem bPW (fs : List (Nat × TypeId × Nat)) (f n sz i k : Nat) (t : Tag L) : faF (some (.st fs)) f (.op n sz i k) L t = aZ7 fs f (fun off => L (.op n sz i (k + off))) () := rfl
@[go_sem] theorem bPX (fs : List (Nat × TypeId × Nat)) (f sz i k : Nat) (es : List (List aD)) (t : Tag L) : faF (some (.st fs)) f (.ip sz es i k) L t = aZ7 fs f (fun off => L (.ip sz es i (k + off))) () := rfl
@[go_sem] theorem bPY (re : mL) (sz : Nat) (es : List (List aD)) (b : Bool) (k : IntKind) (n : Int) (t : Tag L) : iaF (some re) (.sl sz es b) (.int k n) L t = (re.sz = sz ∧ 0 ≤ n ∧ n < es.length ∧ L (.ip sz es n.toNat 0)) := rfl
@[go_sem] theorem bPZ (re : mL) (m sz i0 len : Nat) (k : IntKind) (n : Int) (t : Tag L) : iaF (some re) (.os m sz i0 len) (.int k n) L t = (re.sz = sz ∧ 0 ≤ n ∧ n < len ∧ L (.op m sz (i0 + n.toNat) 0)) := rfl
@[go_sem] theorem bON (s : List UInt8) (k : IntKind) (n : Int) (t : Tag L) : ixF (some .str) (.str s) (.int k n) L t = (0 ≤ n ∧ fX s[n.toNat]? (fun c => L (.int .u8 c.toNat)) ()) := by
 simp only [ixF, aB4, fX]; cases s[n.toNat]? <;> rfl
@[go_sem] theorem bP0 (r : mL) (sz i off : Nat) (es : List (List aD)) (t : Tag L) : ldF (some r) (.ip sz es i off) h L t = fX es[i]? (fun e => fX (ld r e off) L ()) () := by
 simp only [ldF, jS, fX]
 cases es[i]? with
 |none => rfl
 |some e => simp only; cases ld r e off <;> rfl
@[go_sem] theorem bP1 (r : mL) (sz i off : Nat) (es : List (List aD)) (t : Tag L) : ldG (some r) (.ip sz es i off) L t = fX es[i]? (fun e => fX (ld r e off) L ()) () := by
 simp only [ldG, jS, fX]
 cases es[i]? with
 |none => rfl
 |some e => simp only; cases ld r e off <;> rfl
def aS2 (o : Option bM) (K : Nat → List (List Cell) → Prop) (_ : Tag K) : Prop := match o with | some (.row sz es) => K sz es | _ => False
@[go_sem] theorem bI2 (sz : Nat) (es : List (List Cell)) (M : Nat → List (List Cell) → Prop) (t : Tag M) : aS2 (some (.row sz es)) M t = M sz es := rfl
@[go_sem] theorem bP2 (r : mL) (n sz i off : Nat) (t : Tag L) : ldF (some r) (.op n sz i off) h L t = aS2 (h n) (fun sz' es => sz' = sz ∧ fX es[i]? (fun e => fX (aGV r e off) L ()) ()) () := by
 simp only [ldF, jS, aS2]
 cases h n with
 |none => rfl
 |some o =>
  cases o with
  |row sz' es =>
   simp only [fX]
   cases es[i]? with
   |none => rfl
   |some e => simp only; cases aGV r e off <;> rfl
  | _ => rfl
@[go_sem] theorem bP3 (r : mL) (n sz i off : Nat) (v : aD) (M : aB → Prop) (t : Tag M) : stF (some r) (.op n sz i off) v h M t = aS2 (h n) (fun sz' es => sz' = sz ∧ fX es[i]? (fun e => v.cells.all aD.flat = true ∧ v.cells.length = r.sz ∧ off + r.sz ≤ e.length ∧ M (bK h n (.row sz (es.set i (pX e off v.cells))))) ()) () := by
 simp only [stF, aNA, aS2]
 cases h n with
 |none => rfl
 |some o =>
  cases o with
  |row sz' es => simp only [fX]; cases es[i]? <;> rfl
  | _ => rfl
@[go_sem] theorem bP4 (re : mL) (t1 : Option TypeId) (n sz i len : Nat) (y : aD) (t : Tag K) : apF P (some re) t1 (.os n sz i len) y h K t = (re.zero.length = re.sz ∧ 0 < re.sz ∧ zU P t1 = true ∧ re.sz = sz ∧ aS2 (h n) (fun sz' es => sz' = sz ∧ i + len ≤ es.length ∧ fX (vR h sz y) (fun ys => (len + ys.length) * re.bytes ≤ 140737488355328 ∧ len + ys.length ≤ 9223372036854775807 ∧
  ∀ b, h b = none → K (.os b sz 0 (len + ys.length)) (bK (bK h n .gone) b (.row sz ((es.drop i).take len ++ ys.map (List.map .v))))) ()) ()) := by
 simp only [apF, xS, aS2]
 cases h n with
 |none => rfl
 |some o =>
  cases o with
  |row sz' es => simp only [fX]; cases vR h sz y <;> rfl
  | _ => rfl
@[go_sem] theorem bP5 (re : mL) (t1 : Option TypeId) (sz : Nat) (es : List (List aD)) (tg : Bool) (y : aD) (t : Tag K) : apF P (some re) t1 (.sl sz es tg) y h K t = (re.zero.length = re.sz ∧ 0 < re.sz ∧ zU P t1 = true ∧ fX (aDX re.sz (.sl sz es tg)) (fun olds => fX (vR h re.sz y) (fun ys => (ys = [] → K (.sl sz es tg) h) ∧ (ys ≠ [] → (olds.length + ys.length) * re.bytes ≤ 140737488355328 ∧ olds.length + ys.length ≤ 9223372036854775807 ∧
  ∀ n, h n = none → K (.os n re.sz 0 (olds.length + ys.length)) (bK h n (.row re.sz ((olds ++ ys).map (List.map .v)))))) ()) ()) := by
 simp only [apF, xS]
 cases hd : aDX re.sz (.sl sz es tg) with
 |none => rfl
 |some olds => simp only [fX]; cases vR h re.sz y <;> rfl
@[go_sem] theorem bOO (re : mL) (t1 : Option TypeId) (y : aD) (t : Tag K) : apF P (some re) t1 .bC y h K t = (re.zero.length = re.sz ∧ 0 < re.sz ∧ zU P t1 = true ∧ fX (vR h re.sz y) (fun ys => (ys = [] → K .bC h) ∧ (ys ≠ [] → ((([] : List (List aD)).length) + ys.length) * re.bytes ≤ 140737488355328 ∧ (([] : List (List aD)).length) + ys.length ≤ 9223372036854775807 ∧
  ∀ n, h n = none → K (.os n re.sz 0 ((([] : List (List aD)).length) + ys.length)) (bK h n (.row re.sz (([] ++ ys).map (List.map .v)))))) ()) := by
 simp only [apF, xS, aDX]
 cases vR h re.sz y <;> rfl
@[go_sem] theorem bI3 (r : mL) (t : Tag K) : alF (some r) h K t = (r.zero ≠ [] ∧ r.zero.all aD.flat = true ∧ ∀ n, h n = none → K (.op n r.zero.length 0 0) (bK h n (.row r.zero.length [r.zero.map .v]))) := rfl
@[go_sem] theorem bOP (re : mL) (k k' : IntKind) (a b : Int) (t : Tag K) : mkF (some re) (.int k a) (.int k' b) h K t = (re.zero.length = re.sz ∧ 0 < re.sz ∧ re.zero.all aD.flat = true ∧ 0 ≤ a ∧ a ≤ b ∧ b ≤ 281474976710656 ∧ re.bytes * b ≤ 281474976710656 ∧
    ∀ n, h n = none → K (.os n re.sz 0 a.toNat) (bK h n (.row re.sz ((List.replicate b.toNat re.zero).map (List.map .v))))) := rfl
@[go_sem] theorem bOQ (et : TypeId) (sz : Nat) (es : List (List aD)) (b : Bool) (t : Tag L) : aZ5 P (some (.slice et)) (.sl sz es b) L t = (es.length ≤ 9223372036854775807 → L (.int .i64 es.length)) := rfl
@[go_sem] theorem bOR (et : TypeId) (m sz i n : Nat) (t : Tag L) : aZ5 P (some (.slice et)) (.os m sz i n) L t = (n ≤ 9223372036854775807 → L (.int .i64 n)) := rfl
@[go_sem] theorem bI4 (et : TypeId) (t : Tag L) : aZ5 P (some (.slice et)) .bC L t = L (.int .i64 0) := rfl
@[go_sem] theorem bI5 (s : List UInt8) (t : Tag L) : aZ5 P (some .str) (.str s) L t = (s.length ≤ 9223372036854775807 → L (.int .i64 s.length)) := rfl
@[go_sem] theorem bOS (et : TypeId) (sz : Nat) (es : List (List aD)) (b : Bool) (t : Tag L) : aZ6 P (some (.slice et)) (.sl sz es b) L t = L (.int .i64 es.length) := rfl
@[go_sem] theorem bOT (et : TypeId) (m sz i n : Nat) (t : Tag L) : aZ6 P (some (.slice et)) (.os m sz i n) L t = L (.int .i64 n) := rfl
@[go_sem] theorem bI6 (et : TypeId) (t : Tag L) : aZ6 P (some (.slice et)) .bC L t = L (.int .i64 0) := rfl
@[go_sem] theorem bI7 (s : List UInt8) (t : Tag L) : aZ6 P (some .str) (.str s) L t = L (.int .i64 s.length) := rfl
@[go_sem] theorem bOU (cs : List aD) (i : Nat) (t : Tag L) : exF (.lR cs) i L t = fX cs[i]? L () := by
 simp only [exF, fX]; cases cs[i]? <;> rfl
@[go_sem] theorem bP6 (n sz i k : Nat) (t : Tag L) : ncF (.op n sz i k) L t = L (.op n sz i k) := rfl
@[go_sem] theorem bP7 (sz i k : Nat) (es : List (List aD)) (t : Tag L) : ncF (.ip sz es i k) L t = L (.ip sz es i k) := rfl
@[go_sem] theorem bI8 (r : mL) (ps : List (Nat × aD)) (t : Tag L) : buF P (some r) ps L t = (zX P r.d = true ∧ r.zero ≠ [] ∧ xR (tN P r.d) r.zero.length ps = true ∧ L (.agg (aIL (tN P r.d) r.zero ps))) := rfl
@[go_sem] theorem bP8 (ty : TypeId) (sz : Nat) (es : List (List aD)) (b : Bool) (lo hi : Option aD) (t : Tag L) : slF P ty (.sl sz es b) lo hi L t = fX (nB P ty) (fun re => re.sz = sz ∧ fX (kS 0 lo) (fun l => fX (kS es.length hi) (fun m => 0 ≤ l ∧ l ≤ m ∧ m ≤ es.length ∧ L (.sl sz ((es.take m.toNat).drop l.toNat) (b && decide (m = es.length)))) ()) ()) () := by
 simp only [slF, q8, fX]
 cases nB P ty with
 |none => rfl
 |some re =>
  simp only
  cases kS 0 lo with
  |none => rfl
  |some l => simp only; cases kS es.length hi <;> rfl
@[go_sem] theorem bP9 (ty : TypeId) (n sz i len : Nat) (lo hi : Option aD) (t : Tag L) : slF P ty (.os n sz i len) lo hi L t = fX (nB P ty) (fun re => re.sz = sz ∧ fX (kS 0 lo) (fun l => fX (kS len hi) (fun m => 0 ≤ l ∧ l < m ∧ m ≤ len ∧ L (.os n sz (i + l.toNat) (m.toNat - l.toNat))) ()) ()) () := by
 simp only [slF, q8, fX]
 cases nB P ty with
 |none => rfl
 |some re =>
  simp only
  cases kS 0 lo with
  |none => rfl
  |some l => simp only; cases kS len hi <;> rfl
@[go_sem] theorem bOV (ty : TypeId) (sz : Nat) (es : List (List aD)) (b : Bool) (lo : Option aD) (hi mx : aD) (t : Tag L) : a45 P ty (.sl sz es b) lo hi mx L t = fX (nB P ty) (fun re => re.sz = sz ∧ fX (kS 0 lo) (fun l => fX (kS es.length (some hi)) (fun m => fX (kS 0 (some mx)) (fun M => 0 ≤ l ∧ l ≤ m ∧ m ≤ M ∧ M ≤ es.length ∧ L (.sl sz ((es.take m.toNat).drop l.toNat) (decide (M = m)))) ()) ()) ()) () := by
 simp only [a45, p6, fX]
 cases nB P ty with
 |none => rfl
 |some re =>
  simp only
  cases kS 0 lo with
  |none => rfl
  |some l =>
   simp only
   cases kS es.length (some hi) with
   |none => rfl
   |some m => simp only; cases kS 0 (some mx) <;> rfl
def aS3 (P : Program) (τ : cG) (h : aB) (l : List ResultVar) (M : List aD → Prop) (_ : Tag M) : Prop := aZU P τ h l M
@[go_sem] theorem bI9 (τ : cG) (M : List aD → Prop) (t : Tag M) : aS3 P τ h [] M t = M [] := rfl
@[go_sem] theorem bJA (τ : cG) (s : Tmp) (l : List ResultVar) (M : List aD → Prop) (t : Tag M) : aS3 P τ h (.tmp s :: l) M t = aS3 P τ h l (fun vs => M (cH τ s :: vs)) () := rfl
@[go_sem] theorem bHP (τ : cG) (a : Tmp) (ty : TypeId) (l : List ResultVar) (M : List aD → Prop) (t : Tag M) : aS3 P τ h (.cell a ty :: l) M t = ldF (iT P ty) (cH τ a) h (fun v => aS3 P τ h l (fun vs => M (v :: vs)) ()) () := rfl
def aQ0 (vs : List aD) (L : aD → Prop) (_ : Tag L) : Prop := match vs with | [v] => L v | vs => L (.lR vs)
@[go_sem] theorem bHQ (t : Tag L) : aQ0 [] L t = L (.lR []) := rfl
@[go_sem] theorem bHR (v : aD) (t : Tag L) : aQ0 [v] L t = L v := rfl
@[go_sem] theorem bHS (v w : aD) (vs : List aD) (t : Tag L) : aQ0 (v :: w :: vs) L t = L (.lR (v :: w :: vs)) := rfl
end
def uW (P : Program) (rs : Array ResultVar) (K : aD → aB → Prop) (_ : Tag K) : Exit → cG → aB → Prop := aD0 P rs K
section
variable (P : Program) (rs : Array ResultVar) (K : aD → aB → Prop) (τ : cG) (h : aB)
@[go_sem] theorem a5F (t : Tag K) : uW P rs K t .normal τ h = aS3 P τ h rs.toList (fun vs => aQ0 vs (fun v => K v h) ()) () := rfl
@[go_sem] theorem bHT (t : Tag K) : uW P rs K t .ret τ h = aS3 P τ h rs.toList (fun vs => aQ0 vs (fun v => K v h) ()) () := rfl
@[go_sem] theorem bB8 (i : Nat) (t : Tag K) : uW P rs K t (.exit i) τ h = False := rfl
end
theorem eI {P : Program} {f : FuncId} {fn : Func} {c : Code} (N : Nat) (keep ib : List Nat) (mk : Marks) {args : List aD} {r : aD} (hmix : P.follows .mixedOrders = true) (hf : P.funcs[f]? = some fn) (hb : fn.body = some c)
  (hck : (nA P f && decide (fn.ntmps = N) && j3 N mk c) = true) (hl : args.length ≤ N)
  (hw : ∀ h, tA P N keep ib mk c (fun τ h' => uW P fn.results (fun r' h' => r' = r ∧ h.le h') () .normal τ h') (uW P fn.results (fun r' h' => r' = r ∧ h.le h') ()) (uT 0 args) h ()) : e8 P f args r :=
 a40 N keep ib mk hmix hf hb hck hl hw
theorem tB {P : Program} {f : FuncId} {fn : Func} {c : Code} (N : Nat) (keep ib : List Nat) (mk : Marks) {args : List aD} {r : aD} (hmix : P.follows .mixedOrders = true) (hf : P.funcs[f]? = some fn) (hb : fn.body = some c)
  (hck : (nA P f && decide (fn.ntmps = N) && j3 N mk c) = true) (hl : args.length ≤ N)
  (hw : ∀ h, tA P N keep ib mk c (fun τ h' => uW P fn.results (fun r' h' => Shift r' h' r h) () .normal τ h') (uW P fn.results (fun r' h' => Shift r' h' r h) ()) (uT 0 args) h ()) : e8 P f args r :=
 aZ4 N keep ib mk hmix hf hb hck hl hw
theorem cS {P : Program} {N : Nat} {keep ib : List Nat} {mk : Marks} {c : Code} {Q : Exit → cG → aB → Prop} {τ : cG} {h : aB} {t : Tag (Code.loop c, Q)} {α : Type} (hmix : P.follows .mixedOrders = true) (hc : j3 N mk c = true) (S : α → cG) (H : α → aB) (side : α → Prop) (μ : α → Nat) (x₀ : α)
  (h₀ : dA (S x₀) τ ∧ (H x₀).le h ∧ side x₀)
  (round : ∀ x, side x → tA P N keep ib mk c (fun τ' h' => ∃ x', dA (S x') τ' ∧ (H x').le h' ∧ side x' ∧ μ x' < μ x) Q (S x) (H x) ()) : aNG P N (.loop c) Q τ h t :=
 q0.cS S H side μ x₀ h₀ fun x hx => aI2 hmix c _ _ _ _ hc (round x hx)
set_option linter.unusedVariables false
set_option linter.unusedSimpArgs false
theorem Sub.dM {sz sz' i off : Nat} {es : List (List aD)} {e e' : List aD} (he : es[i]? = some e) (h' : (e.drop off).take sz' = e') (hl : e'.length = sz') : Sub (.ip sz es i off) (.ip sz' [e'] 0 0) := fun E h w v r => by
 cases r with
 |ip _ _ _ _ b o cv hi hs hc h1 hr =>
  have hat : ∀ i' j x, jH [e'] i' j = some x → i' = 0 ∧ jH es i (off + j) = some x := by
   intro i' j x hx
   obtain ⟨e1, h1, h2⟩ := m6 hx
   cases i' with
   |zero =>
    simp at h1; subst h1
    refine ⟨rfl, ?_⟩
    subst h'
    rw [List.getElem?_take] at h2
    split at h2
    ·rw [List.getElem?_drop] at h2
     simp [jH, he, h2]
    ·cases h2
   |succ n => simp at h1
  have := fL.ip (E := E) (h := h) (w := w) sz' [e'] 0 0 b (o + i * sz + off) (fun i' j => cv (i + i') (off + j)) hi (fun e1 he' => by simp at he'; subst he'; exact hl)
   (fun i' j x hx => by obtain ⟨rfl, hy⟩ := hat i' j x hx; have := hc i _ x hy; simpa [Nat.add_assoc] using this)
   (fun i' j x hx => by obtain ⟨rfl, hy⟩ := hat i' j x hx; exact h1 i _ x hy)
   (fun i' j x hx => by obtain ⟨rfl, hy⟩ := hat i' j x hx; exact hr i _ x hy)
  simpa using this
theorem Sub.ip {sz i : Nat} {es : List (List aD)} {e : List aD} (he : es[i]? = some e) (hl : e.length = sz) : Sub (.ip sz es i 0) (.ip sz [e] 0 0) :=
 Sub.dM he (by rw [List.drop_zero, List.take_of_length_le (by omega)]) hl
open Go.ChangeShapes Go.WideShapes
set_option linter.unusedVariables false
set_option linter.unusedSimpArgs false
def rJ (P : Program) : Nat → TypeId → List aD → Prop
 |0, _, _ => False
 |n + 1, t, xs =>
  match P.underlying t with
  |some .bool => ∃ b, xs = [.bool b]
  |some (.int k) => ∃ i, xs = [.int k i] ∧ (Lit.int k i).wf = true
  |some .string => ∃ s, xs = [.str s]
  |some (.slice e) => ∃ es, xs = [.sl (P.cellsOf e) es false] ∧ ∀ y ∈ es, rJ P n e y
  |some (.struct fs) => xs.length = P.cellsOf t ∧ ∀ (i : Nat) (f : Field), fs[i]? = some f → rJ P n f.type ((xs.drop f.offset).take (P.cellsOf f.type))
  | _ => False
def aAF (P : Program) : List Field → Nat → Option Nat
 | [], o => some o
 |f :: fs, o => if f.offset = o then aAF P fs (o + P.cellsOf f.type) else none
def aYG (P : Program) (T : List TypeId) : Bool := T.all fun t =>
 match P.underlying t with
 |some .bool | some (.int _) | some .string => P.cellsOf t == 1
 |some (.slice e) => P.cellsOf t == 1 && decide (0 < P.cellsOf e) && T.contains e
 |some (.struct fs) => (aAF P fs.toList 0 == some (P.cellsOf t)) && fs.toList.all (fun f => T.contains f.type)
 | _ => false
theorem aD3 {P : Program} {T : List TypeId} (hT : aYG P T = true) : ∀ (n : Nat) (t : TypeId) (xs : List aD), t ∈ T → rJ P n t xs → xs.length = P.cellsOf t ∧ xs.all aD.flat = true
 |0, _, _, _, h => h.elim
 |n + 1, t, xs, ht, h => by
  have hd := List.all_eq_true.1 hT t ht
  unfold rJ at h
  split at h
  ·rename_i hu; rw [hu] at hd; obtain ⟨b, rfl⟩ := h; exact ⟨by simpa using (of_decide_eq_true hd).symm, rfl⟩
  ·rename_i hu; rw [hu] at hd; obtain ⟨i, rfl, _⟩ := h; exact ⟨by simpa using (of_decide_eq_true hd).symm, rfl⟩
  ·rename_i hu; rw [hu] at hd; obtain ⟨s, rfl⟩ := h; exact ⟨by simpa using (of_decide_eq_true hd).symm, rfl⟩
  ·rename_i e hu
   rw [hu] at hd; obtain ⟨es, rfl, _⟩ := h
   simp only [Bool.and_eq_true, beq_iff_eq] at hd
   exact ⟨by simp [hd.1.1], rfl⟩
  ·rename_i fs hu
   rw [hu] at hd
   obtain ⟨hl, hf⟩ := h
   refine ⟨hl, ?_⟩
   simp only [Bool.and_eq_true, beq_iff_eq, List.all_eq_true] at hd
   have key : ∀ (l : List Field) (o : Nat), (∀ f ∈ l, T.contains f.type = true ∧ rJ P n f.type ((xs.drop f.offset).take (P.cellsOf f.type))) → aAF P l o = some (P.cellsOf t) → (xs.drop o).all aD.flat = true := by
    intro l
    induction l with
    |nil => intro o _ ho; simp only [aAF, Option.some.injEq] at ho; rw [List.drop_eq_nil_of_le (by omega)]; rfl
    |cons f l ih =>
     intro o hl' ho
     simp only [aAF] at ho
     split at ho
     ·rename_i e
      have h1 := hl' f List.mem_cons_self
      have h2 := (aD3 hT n _ _ (by simpa using h1.1) h1.2).2
      have h3 := ih _ (fun g hg => hl' g (List.mem_cons_of_mem _ hg)) ho
      rw [e] at h2
      rw [← List.take_append_drop (P.cellsOf f.type) (xs.drop o), List.all_append, h2, List.drop_drop, h3]; rfl
     ·cases ho
   have := key fs.toList 0 (fun f hf' => by
    obtain ⟨i, hi⟩ := List.getElem?_of_mem hf'
    exact ⟨hd.2 f hf', hf i f (by simpa using hi)⟩) hd.1
   simpa using this
  ·exact h.elim
section
variable {H : Type} {enc : TypeId × Value → H} {P : Program} {w : World} {base : Nat} {sp : Nat → Bool} {held : Bool}
theorem aFX {E : Env} {h : aB} {xs : List aD} {vs : List Value} (hr : eO E h w xs vs) (hf : xs.all aD.flat = true) (j : Nat) (v : Value) (hv : vs[j]? = some v) : v.oneCell' = true := by
 obtain ⟨hj, _⟩ := List.getElem?_eq_some_iff.1 hv
 have hl := hr.length
 have hx : xs[j]? = some xs[j] := List.getElem?_eq_getElem (by omega)
 exact (fL.rM (hr.get j _ _ hx hv) (List.all_eq_true.1 hf _ (List.mem_of_getElem? hx))).1
theorem aI4 {T : List TypeId} (hT : aYG P T = true) {E : Env} {h : aB} (hI : ∀ b, b < w.heap.size → sD E h w b) :
  ∀ (n : Nat) (t : TypeId) (cs : List Value) (x : DataW H × List MemPlace), t ∈ T → DataW.trod enc P w base sp held n t cs = some x → ∃ xs, rJ P n t xs ∧ eO E h w xs cs
 |0, t, cs, x, _, hx => by simp [DataW.trod] at hx
 |n + 1, t, cs, x, ht, hx => by
  have hd := List.all_eq_true.1 hT t ht
  match hu : P.underlying t with
  |some .bool =>
   obtain ⟨b, rfl, _⟩ := DataW.trod_bool hu hx
   exact ⟨[.bool b], by simp only [rJ, hu]; exact ⟨b, rfl⟩, ⟨.bool b, trivial⟩⟩
  |some (.int k) =>
   obtain ⟨i, rfl, _, hw⟩ := DataW.trod_int hu hx
   exact ⟨[.int k i], by simp only [rJ, hu]; exact ⟨i, rfl, hw⟩, ⟨.int k i, trivial⟩⟩
  |some .string =>
   obtain ⟨s, rfl, _, hs⟩ := DataW.trod_string hu hx
   refine ⟨[.str s.data.toList], by simp only [rJ, hu]; exact ⟨_, rfl⟩, ⟨?_, trivial⟩⟩
   have : s = ⟨s.data.toList.toArray⟩ := by cases s; simp
   rw [this]
   exact .str _ (by simpa using hs)
  |some (.slice e) =>
   rw [hu] at hd
   simp only [Bool.and_eq_true, beq_iff_eq, decide_eq_true_eq, List.contains_iff_mem] at hd
   rcases DataW.trod_slice hu hx with ⟨rfl, _⟩ | ⟨a, len, cap, elems, rest, m, hm, rfl, _, hb, hlc, hmax, hel, hcell, _, _⟩
   ·exact ⟨[.sl (P.cellsOf e) [] false], by simp only [rJ, hu]; exact ⟨[], rfl, by simp⟩, ⟨.sl0 _ _ _ _ (fun e => by simp at e) (by simp) trivial, trivial⟩⟩
   ·obtain rfl : n = m := by omega

    have each : ∀ i, i < len → ∃ ys vs, rJ P n e ys ∧ eO E h w ys vs ∧ w.cells? base (a.add (i * P.cellsOf e)) (P.cellsOf e) = some vs := by
     intro i hi
     have h1 := hcell i hi
     have hi' : i < elems.length := by omega
     rw [List.getElem?_eq_getElem hi'] at h1
     simp only [Option.bind_eq_some_iff] at h1
     obtain ⟨vs, h2, h3⟩ := h1
     obtain ⟨ys, h4, h5⟩ := aI4 hT hI n e vs _ hd.2 h3
     exact ⟨ys, vs, h4, h5, h2⟩
    let ys : Nat → List aD := fun i => if hi : i < len then Classical.choose (each i hi) else []
    have hys : ∀ i, i < len → ∃ vs, rJ P n e (ys i) ∧ eO E h w (ys i) vs ∧ w.cells? base (a.add (i * P.cellsOf e)) (P.cellsOf e) = some vs := by
     intro i hi
     have := Classical.choose_spec (each i hi)
     simpa only [ys, dif_pos hi] using this
    by_cases h0 : len = 0
    ·subst h0
     exact ⟨[.sl (P.cellsOf e) [] false], by simp only [rJ, hu]; exact ⟨[], rfl, by simp⟩, ⟨.sl0 _ _ _ _ (fun e => by simp at e) hmax trivial, trivial⟩⟩
    have hpos : 0 < P.cellsOf e := hd.1.2

    obtain ⟨b, o, spot⟩ := a
    obtain ⟨vs0, _, _, oB⟩ := hys 0 (by omega)
    have bQB := World.cells?_some oB
    have hz : w.cell? ((Addr.add ⟨b, o, spot⟩ (0 * P.cellsOf e)).add 0) = vs0[0]? := bQB.2.2 0 hpos
    have xK : vs0[0]? = some vs0[0] := List.getElem?_eq_getElem (by omega)
    rw [xK] at hz
    have hspot : spot = none := by
     have := World.cell?_spot hz
     simpa [Addr.add] using this
    subst hspot
    have hblt : b < w.heap.size := by
     have := World.cells?_block oB hpos
     simpa [Addr.add] using this
    have hmap : ∀ i, i < len → ((List.range len).map ys)[i]? = some (ys i) := fun i hi => by simp [hi]
    refine ⟨[.sl (P.cellsOf e) ((List.range len).map ys) false], ?_, ⟨?_, trivial⟩⟩
    ·simp only [rJ, hu]
     refine ⟨_, rfl, fun y hy => ?_⟩
     simp only [List.mem_map, List.mem_range] at hy
     obtain ⟨i, hi, rfl⟩ := hy
     obtain ⟨vs, h1, _⟩ := hys i hi
     exact h1
    ·have hlen : len = ((List.range len).map ys).length := by simp
     have cells : ∀ i j x, jH ((List.range len).map ys) i j = some x → ∃ v, w.cell? ⟨b, o + i * P.cellsOf e + j, none⟩ = some v ∧ v.oneCell' = true ∧ fL E h w x v := by
      intro i j x hx
      have hi : i < len := by have := aZL hx; simpa using this
      obtain ⟨y, hy, hj⟩ := m6 hx
      rw [hmap i hi] at hy
      obtain rfl := Option.some.inj hy
      obtain ⟨vs, h1, h2, h3⟩ := hys i hi
      have hone := aD3 hT n e _ hd.2 h1
      have hjl : j < (ys i).length := (List.getElem?_eq_some_iff.1 hj).1
      have h4 := World.cells?_some h3
      have hjv : j < vs.length := by rw [h2.length] at hjl; exact hjl
      have hv : vs[j]? = some vs[j] := List.getElem?_eq_getElem hjv
      refine ⟨vs[j], ?_, aFX h2 hone.2 j _ hv, h2.get j x _ hj hv⟩
      have h5 := h4.2.2 j (by omega)
      rw [hv] at h5
      rw [← h5]
      rw [m8, m8]
     have cellsC : ∀ i j, ∃ v, ∀ x, jH ((List.range len).map ys) i j = some x → w.cell? ⟨b, o + i * P.cellsOf e + j, none⟩ = some v ∧ v.oneCell' = true ∧ fL E h w x v := by
      intro i j
      match hx : jH ((List.range len).map ys) i j with
      |none => exact ⟨.bool true, fun x h => by simp at h⟩
      |some x =>
       obtain ⟨v, h1⟩ := cells i j x hx
       exact ⟨v, fun y hy => by obtain rfl := Option.some.inj hy; exact h1⟩
     let cv : Nat → Nat → Value := fun i j => Classical.choose (cellsC i j)
     have hcv : ∀ i j x, jH ((List.range len).map ys) i j = some x → w.cell? ⟨b, o + i * P.cellsOf e + j, none⟩ = some (cv i j) ∧ (cv i j).oneCell' = true ∧ fL E h w x (cv i j) := fun i j => Classical.choose_spec (cellsC i j)
     have := fL.sl (E := E) (h := h) (w := w) (P.cellsOf e) ((List.range len).map ys) false b o cap cv (hI b hblt) (by simpa using hlc) hmax (fun e => by simp at e)
      (fun y hy => by
       simp only [List.mem_map, List.mem_range] at hy
       obtain ⟨i, hi, rfl⟩ := hy
       obtain ⟨vs, h1, _⟩ := hys i hi
       exact (aD3 hT n e _ hd.2 h1).1)
      (fun i j x hx => (hcv i j x hx).1) (fun i j x hx => (hcv i j x hx).2.1) (fun i j x hx => (hcv i j x hx).2.2)
     rw [← hlen] at this
     exact this
  |some (.struct fs) =>
   rw [hu] at hd
   simp only [Bool.and_eq_true, beq_iff_eq, List.all_eq_true] at hd
   obtain ⟨xs, m, hm, rfl, hl, hfl, hf⟩ := DataW.trod_struct hu hx
   obtain rfl : n = m := by omega

   have key : ∀ (l : List Field) (o : Nat), (∀ f ∈ l, T.contains f.type = true ∧ ∃ y, DataW.trod enc P w base sp held n f.type ((cs.drop f.offset).take (P.cellsOf f.type)) = some y) → aAF P l o = some (P.cellsOf t) →
     ∃ ys, eO E h w ys (cs.drop o) ∧ ∀ f ∈ l, o ≤ f.offset ∧ rJ P n f.type ((ys.drop (f.offset - o)).take (P.cellsOf f.type)) := by
    intro l
    induction l with
    |nil =>
     intro o _ ho
     simp only [aAF, Option.some.injEq] at ho
     rw [List.drop_eq_nil_of_le (by omega)]
     exact ⟨[], trivial, fun f hf => by simp at hf⟩
    |cons f l ih =>
     intro o hl' ho
     simp only [aAF] at ho
     split at ho
     ·rename_i e
      obtain ⟨hc, y, hy⟩ := hl' f List.mem_cons_self
      obtain ⟨zs, hz1, hz2⟩ := aI4 hT hI n f.type _ y (by simpa using hc) hy
      obtain ⟨ys, hy1, hy2⟩ := ih _ (fun g hg => hl' g (List.mem_cons_of_mem _ hg)) ho
      have hzl := (aD3 hT n _ _ (by simpa using hc) hz1).1
      rw [e] at hz2
      have hjoin : eO E h w (zs ++ ys) (cs.drop o) := by
       have := eO.append hz2 hy1
       rw [← List.take_append_drop (P.cellsOf f.type) (cs.drop o), List.drop_drop]
       exact this
      refine ⟨zs ++ ys, hjoin, fun g hg => ?_⟩
      rcases List.mem_cons.1 hg with rfl | hg
      ·refine ⟨by omega, ?_⟩
       rw [e, Nat.sub_self, List.drop_zero, List.take_append_of_le_length (by omega), List.take_of_length_le (by omega)]
       exact hz1
      ·obtain ⟨h1, h2⟩ := hy2 g hg
       refine ⟨by omega, ?_⟩
       rw [List.drop_append, hzl, List.drop_eq_nil_of_le (by omega), List.nil_append, show g.offset - o - P.cellsOf f.type = g.offset - (o + P.cellsOf f.type) by omega]
       exact h2
     ·cases ho
   obtain ⟨ys, h1, h2⟩ := key fs.toList 0 (fun f hf' => by
    obtain ⟨i, hi⟩ := List.getElem?_of_mem hf'
    have hi' : fs[i]? = some f := by simpa using hi
    refine ⟨hd.2 f hf', ?_⟩
    have := hf i f hi'
    have hil : i < xs.length := by rw [hfl]; exact (Array.getElem?_eq_some_iff.1 hi').1
    rw [List.getElem?_eq_getElem hil] at this
    exact ⟨_, this⟩) hd.1
   rw [List.drop_zero] at h1
   refine ⟨ys, ?_, h1⟩
   simp only [rJ, hu]
   refine ⟨h1.length.trans hl, fun i f hf' => ?_⟩
   have := h2 f (by have := Array.mem_of_getElem? hf'; simpa using this)
   simpa using this.2
  |none | some .invalid | some (.float _) | some (.complex _) | some .unsafePointer | some (.named ..) | some (.pointer _) | some (.array ..) | some (.map ..) | some (.func ..) | some (.interface _) | some (.chan ..) | some (.tuple _) => all_goals (rw [hu] at hd; simp at hd)
end
open Go.ChangeShapes Go.WideShapes
set_option linter.unusedVariables false
set_option linter.unusedSimpArgs false
def aNH (P : Program) (n : Nat) (t : TypeId) (x : aD) : Prop :=
 match P.underlying t with
 |some (.struct _) => ∃ ys, x = .agg ys ∧ rJ P n t ys
 | _ => rJ P n t [x]
def aQ1 (P : Program) : List TypeId → List aD → Prop
 | [], [] => True
 |t :: ts, x :: xs => (∃ n, aNH P n t x) ∧ aQ1 P ts xs
 | _, _ => False
section
variable {H : Type} {enc : TypeId × Value → H} {P : Program} {w : World} {base : Nat} {sp : Nat → Bool} {held : Bool}
theorem aZ8 {T : List TypeId} (hT : aYG P T = true) {E : Env} {h : aB} (hI : ∀ b, b < w.heap.size → sD E h w b) {t : TypeId} (ht : t ∈ T) {v : Value} {d : DataW H} {ps : List MemPlace}
  (hok : Value.okWide P w .any base t v) (hr : DataW.Trod enc P w 0 sp held t v d ps) : ∃ x n, aNH P n t x ∧ fL E h w x v := by
 obtain ⟨n, hr⟩ := hr
 obtain ⟨xs, h1, h2⟩ := aI4 hT hI n t _ _ ht hr
 have hd := List.all_eq_true.1 hT t ht
 match hu : P.underlying t with
 |some (.struct fs) =>
  obtain ⟨cs, rfl, _⟩ := okWide_struct hu hok
  exact ⟨.agg xs, n, by simp only [aNH, hu]; exact ⟨xs, rfl, h1⟩, .agg xs cs.toList h2.length h2.get⟩
 |some .bool =>
  obtain ⟨b, rfl⟩ := okWide_bool hu hok
  have hone := aD3 hT n t xs ht h1
  match xs, h2 with
  | [x], h2 => exact ⟨x, n, by simp only [aNH, hu]; exact h1, by simpa [Value.cells] using h2.1⟩
  | [], h2 => exact h2.elim
  | _ :: _ :: _, h2 => exact h2.2.elim
 |some (.int k) =>
  obtain ⟨b, rfl⟩ := okWide_int hu hok
  match xs, h2 with
  | [x], h2 => exact ⟨x, n, by simp only [aNH, hu]; exact h1, by simpa [Value.cells] using h2.1⟩
  | [], h2 => exact h2.elim
  | _ :: _ :: _, h2 => exact h2.2.elim
 |some .string =>
  obtain ⟨b, rfl⟩ := okWide_string hu hok
  match xs, h2 with
  | [x], h2 => exact ⟨x, n, by simp only [aNH, hu]; exact h1, by simpa [Value.cells] using h2.1⟩
  | [], h2 => exact h2.elim
  | _ :: _ :: _, h2 => exact h2.2.elim
 |some (.slice e) =>
  obtain ⟨a, len, cap, rfl⟩ := okWide_slice hu hok
  match xs, h2 with
  | [x], h2 => exact ⟨x, n, by simp only [aNH, hu]; exact h1, by simpa [Value.cells] using h2.1⟩
  | [], h2 => exact h2.elim
  | _ :: _ :: _, h2 => exact h2.2.elim
 |none | some .invalid | some (.float _) | some (.complex _) | some .unsafePointer | some (.named ..) | some (.pointer _) | some (.array ..) | some (.map ..) | some (.func ..) | some (.interface _) | some (.chan ..) | some (.tuple _) => all_goals (rw [hu] at hd; simp at hd)
theorem aL9 {T : List TypeId} (hT : aYG P T = true) {E : Env} {h : aB} (hI : ∀ b, b < w.heap.size → sD E h w b) : ∀ {ts : List TypeId} {vs : List Value} {ds : List (DataW H)} {ps : List MemPlace},
  (∀ t ∈ ts, t ∈ T) → (∀ (j : Nat) t v, ts[j]? = some t → vs[j]? = some v → Value.okWide P w .any base t v) → DataW.TrodAll enc P w 0 sp held ts vs ds ps → ∃ xs, aQ1 P ts xs ∧ eO E h w xs vs ∧ ds.length = ts.length
 | [], [], [], _, _, _, _ => ⟨[], trivial, trivial, rfl⟩
 |t :: ts, v :: vs, d :: ds, _, ht, hok, ⟨p, q, h1, h2, _⟩ => by
  obtain ⟨x, n, h3, h4⟩ := aZ8 hT hI (ht t List.mem_cons_self) (hok 0 t v rfl rfl) h1
  obtain ⟨xs, h5, h6, h7⟩ := aL9 hT hI (fun t' h' => ht t' (List.mem_cons_of_mem _ h')) (fun j t' v' a b => hok (j + 1) t' v' (by simpa using a) (by simpa using b)) h2
  exact ⟨x :: xs, ⟨⟨n, h3⟩, h5⟩, ⟨h4, h6⟩, by simp [h7]⟩
 | [], _ :: _, _, _, _, _, h => by cases ‹List (DataW H)› <;> exact h.elim
 | [], [], _ :: _, _, _, _, h => h.elim
 | _ :: _, [], _, _, _, _, h => by cases ‹List (DataW H)› <;> exact h.elim
 | _ :: _, _ :: _, [], _, _, _, h => h.elim
end
theorem aBW {H : Type} {enc : TypeId × Value → H} {P : Program} {w w' : World} {base : Nat} {sp : Nat → Bool} {held : Bool} : ∀ {ts : List TypeId} {vs : List Value} {ds : List (DataW H)} {ps : List MemPlace},
  DataW.TrodAll enc P w base sp held ts vs ds ps → (∀ p ∈ ps, w.sameAt w' p) → DataW.TrodAll enc P w' base sp held ts vs ds ps
 | [], [], [], _, h, _ => h
 | _ :: _, _ :: _, _ :: _, _, ⟨p, q, ⟨n, h1⟩, h2, e⟩, hs => ⟨p, q, ⟨n, DataW.trod_carry n _ _ _ h1 (fun x hx => hs x (by rw [e]; exact List.mem_append_left _ hx))⟩, aBW h2 (fun x hx => hs x (by rw [e]; exact List.mem_append_right _ hx)), e⟩
 | [], _ :: _, _, _, h, _ => by cases ‹List (DataW H)› <;> exact h.elim
 | [], [], _ :: _, _, h, _ => h.elim
 | _ :: _, [], _, _, h, _ => by cases ‹List (DataW H)› <;> exact h.elim
 | _ :: _, _ :: _, [], _, h, _ => h.elim
theorem aI5 {w w' : World} {p : MemPlace} (h : w'.heap[p.block]? = w.heap[p.block]?) : w.sameAt w' p := by
 cases p with
 |cell b o => exact wG h o none
 |map b => exact h
theorem aZ9 {H : Type} {enc : TypeId × Value → H} {P : Program} (lo : laidOutB P = true) (mr : mapsRowed P = true)
  (hz : ((List.range P.types.size).all fun t => match P.underlying t with | some (.slice e) => decide (0 < P.cellsOf e) | _ => true) = true)
  {fn : Func} (hT : fn.params.all (fun t => decide (t < P.types.size)) = true) {s : ChangeSpec} (hsv : s.vars = []) (hs : ∀ ds : List (DataW H), ds.length = fn.params.size → s.fn H ds = { results := [.lit (.bool true)], args := ds })
  {tb : TypeId} (hr : fn.resultTypes = #[tb]) (htb : P.underlying tb = some .bool) {W W' : World} {args : Array Value} {ds gs : List (DataW H)} {before : List MemPlace}
  (hW : DataW.Whole enc P fn.params.toList s.vars false W args.toList ds gs before) (hl : ds.length = fn.params.size)
  (hheap : ∀ b, b < W.heap.size → W'.heap[b]? = W.heap[b]?) (hos : W'.os = W.os) (hout : W'.output = W.output) :
  s.post enc P fn false true false false W args (.bool true) W' := by
 have hlt := hW.lt
 have hW0 := hW
 obtain ⟨p, q, hA, hV, rfl, hfz, _⟩ := hW
 rw [hsv] at hV
 have hgs : gs = [] ∧ q = [] := by
  match gs, hV with
  | [], h => exact ⟨rfl, h⟩
 obtain ⟨rfl, rfl⟩ := hgs
 rw [List.append_nil] at hlt hfz hW0
 have e : s.fn H (ds ++ []) = { results := [.lit (.bool true)], args := ds } := by rw [List.append_nil]; exact hs ds hl
 refine ⟨ds, [], p, [], p, [], hW0, ?_, ?_, ?_, ?_, fun h => by simp at h⟩
 ·rw [e]
  simp only [hr]
  refine ⟨[], [], ⟨1, ?_⟩, rfl, rfl⟩
  simp [DataW.trod, htb, Value.cells]
 ·rw [e]
  have h1 : DataW.TrodAll enc P W' 0 (fun _ => true) true fn.params.toList args.toList ds p := aBW hA fun x hx => aI5 (hheap _ (hlt x hx))
  refine DataW.TrodAll.respare (kids_rows lo mr) (fun t e ht hu => slices_full_of P hz t e ht hu) (fun t ht => ?_) h1 (fun x hx => by simpa using hlt x hx)
  have := Array.all_eq_true_iff_forall_mem.1 hT t (by simpa using ht)
  simpa using this
 ·rw [e, hsv]; exact rfl
 ·refine ⟨hos, hout, fun i hi => ?_⟩
  rw [hheap i hi]
  have hi' : W.heap[i]? = some W.heap[i] := Array.getElem?_eq_getElem hi
  rw [hi']
  cases W.heap[i] with
  |cells c t fr => exact ⟨rfl, rfl, rfl, fun _ _ => rfl⟩
  |map es clock => exact .inr ⟨rfl, rfl⟩
  | _ => rfl
def sR : aB := fun _ => none
def aQ2 : Env where
 loc := fun _ => none
 fp := fun _ _ => False
 used := fun _ => False
theorem a0A (w : World) (hl : zP aQ2 sR w) : Rel aQ2 sR w where
 fin := ⟨0, fun n _ h => h⟩
 dom := fun n h => absurd rfl h
 lt := fun n o b h => by simp [sR] at h
 apart := fun n o m o' b h => by simp [sR] at h
 obj := fun n o h => by simp [sR] at h
 laid := hl
theorem aQ3 {w : World} {b : Nat} (hb : b < w.heap.size) : sD aQ2 sR w b := ⟨hb, fun n o h => by simp [sR] at h⟩
set_option linter.unusedVariables false
set_option linter.unusedSimpArgs false
def cZ (P : Program) (f : FuncId) (args : List aD) (r : aD) (h0 : aB) : Prop := ∀ h : aB, h0.le h → fO P f args h fun r' h' => r' = r ∧ h' = h
theorem e8.a5G {P : Program} {f : FuncId} {args : List aD} {r : aD} {h0 : aB} (a : e8 P f args r) : cZ P f args r h0 := fun h _ => a h
theorem cZ.mono {P : Program} {f : FuncId} {args : List aD} {r : aD} {h0 h1 : aB} (hl : h0.le h1) (a : cZ P f args r h0) : cZ P f args r h1 := fun h q => a h (aB.le_trans hl q)
theorem aYH (h : aB) : sR.le h := fun _ => .inl rfl
theorem cZ.gC {P : Program} {f : FuncId} {args : List aD} {r : aD} (a : cZ P f args r sR) : e8 P f args r := fun h => a h (aYH h)
theorem aJ.dF {P : Program} {g : FuncId} {args : List aD} {h : aB} {K : aD → aB → Prop} {t : Tag K} {r : aD} (a : cZ P g args r h) (k : K r h) : aJ P g args h K t :=
 fO.mono (a h (aB.le_refl h)) fun _ _ ⟨e, e'⟩ => e ▸ e' ▸ k
theorem aJ.iF {P : Program} {g : FuncId} {args : List aD} {h : aB} {K K' : aD → aB → Prop} {t : Tag K} (a : fO P g args h K') (k : ∀ r h', K' r h' → K r h') : aJ P g args h K t := fO.mono a k
theorem aB.a0B {h0 h : aB} (hl : h0.le h) {n : Nat} {o : bM} (hn : h0 n = some o) : h n = some o := by
 rcases hl n with e | e
 ·rw [hn] at e; cases e
 ·rw [← e]; exact hn
theorem wJ {P : Program} {f : FuncId} {fn : Func} {c : Code} (N : Nat) (keep ib : List Nat) (mk : Marks) {args : List aD} {h : aB} {K : aD → aB → Prop} (hmix : P.follows .mixedOrders = true) (hf : P.funcs[f]? = some fn) (hb : fn.body = some c)
  (hck : (nA P f && decide (fn.ntmps = N) && j3 N mk c) = true) (hl : args.length ≤ N)
  (hw : tA P N keep ib mk c (fun τ h' => uW P fn.results (fun r h' => ∃ g : aB, g.le h' ∧ K r g) () .normal τ h') (uW P fn.results (fun r h' => ∃ g : aB, g.le h' ∧ K r g) ()) (uT 0 args) h ()) : fO P f args h K :=
 aIZ N keep ib mk hmix hf hb hck hl (K' := fun r h' => ∃ g : aB, g.le h' ∧ K r g) hw fun _ _ hx => hx
theorem aG4 {P : Program} {f : FuncId} {fn : Func} {c : Code} (N : Nat) (keep ib : List Nat) (mk : Marks) {args : List aD} {r : aD} {h0 : aB} (hmix : P.follows .mixedOrders = true) (hf : P.funcs[f]? = some fn) (hb : fn.body = some c)
  (hck : (nA P f && decide (fn.ntmps = N) && j3 N mk c) = true) (hl : args.length ≤ N)
  (hw : ∀ h : aB, h0.le h → tA P N keep ib mk c (fun τ h' => uW P fn.results (fun r' h' => r' = r ∧ h.le h') () .normal τ h') (uW P fn.results (fun r' h' => r' = r ∧ h.le h') ()) (uT 0 args) h ()) : cZ P f args r h0 :=
 fun h hle => aIZ N keep ib mk hmix hf hb hck hl (K' := fun r' h' => r' = r ∧ h.le h') (hw h hle) fun _ _ hx => ⟨h, hx.2, hx.1, rfl⟩
end Go.Hl

/-
  Contracts of functions and laws of the layer over the walk.
-/
import Derived.Test.YtgkipnacdihfnaaGreatHlB
import Derived.ReadAgain
import Derived.ChangeArms
import Derived.ChangeSame
import Derived.Handed
import Derived.JoinedOf
namespace Go.Hl
attribute [go_sem] List.nil_append List.cons_append
theorem nn (n : Nat) : (0 ≤ (n : Int)) = True := by simp
attribute [go_sem] a06 tV aBP yK a7O s3 r6 yN aGG wS aNR s9 qS ld aEI yH o8 lR xW qT sM r8 bZ fW tD aD.ofValue aD.pY mV Hl.prune cV jW
 aG cP nn aY
attribute [go_sem] Call.operands Array.toList_append Option.map List.map Option.bind List.contains List.elem List.filterMap Op.operands Option.toList Array.size List.all List.set
attribute [go_sem] if_true if_false Option.bind_some Option.bind_none List.toList_toArray List.getElem?_toArray List.getElem?_cons_zero List.getElem?_cons_succ true_and and_true forall_const Bool.true_eq_false Bool.false_eq_true false_implies implies_true decide_true decide_false List.length_map BEq.rfl List.append_nil List.getElem?_map Int.toNat_natCast Bool.not_eq_true' Bool.not_eq_false' decide_eq_true_eq decide_eq_false_iff_not Int.natCast_inj Int.ofNat_lt Int.ofNat_le Bool.not_true Bool.not_false aD.int.injEq aD.bool.injEq aB.le_refl
attribute [go_sem] ne_eq Bool.and_self Bool.true_and Bool.and_true Bool.false_and Bool.and_false Int.reduceLT Int.reduceNeg Int.reduceLE Int.reduceEq Nat.reduceLeDiff Nat.reduceSub Nat.reduceMul Nat.zero_add Nat.add_zero List.length_cons List.length_nil List.drop_zero List.take_zero List.take_nil List.drop_nil List.take_succ_cons List.drop_succ_cons List.replicate List.map_nil List.map_cons List.length_map not_true_eq_false not_false_eq_true true_implies decide_not ite_not
attribute [go_sem] Bool.true_or Bool.false_or Bool.or_true Bool.or_false Nat.reduceAdd Nat.reduceEqDiff Nat.reduceBEq reduceCtorEq
@[go_sem] theorem bB9  : aD.cells (aD.any) = [(aD.any)] := rfl
@[go_sem] theorem bD2  : aD.flat (aD.any) = false := rfl
@[go_sem] theorem a7Y (b : Bool) : aD.cells (aD.bool b) = [(aD.bool b)] := rfl
@[go_sem] theorem bCA (b : Bool) : aD.flat (aD.bool b) = true := rfl
@[go_sem] theorem bCB (k : IntKind) (n : Int) : aD.cells (aD.int k n) = [(aD.int k n)] := rfl
@[go_sem] theorem bD3 (k : IntKind) (n : Int) : aD.flat (aD.int k n) = true := rfl
@[go_sem] theorem bCC (s : List UInt8) : aD.cells (aD.str s) = [(aD.str s)] := rfl
@[go_sem] theorem bD4 (s : List UInt8) : aD.flat (aD.str s) = true := rfl
@[go_sem] theorem a1C  : aD.cells (aD.jV) = [(aD.jV)] := rfl
@[go_sem] theorem a5H  : aD.flat (aD.jV) = true := rfl
@[go_sem] theorem a5I  : aD.cells (aD.bH) = [(aD.bH)] := rfl
@[go_sem] theorem a7Z  : aD.flat (aD.bH) = true := rfl
@[go_sem] theorem a5J  : aD.cells (aD.sG) = [(aD.sG)] := rfl
@[go_sem] theorem a70  : aD.flat (aD.sG) = true := rfl
@[go_sem] theorem a5K  : aD.cells (aD.lT) = [(aD.lT)] := rfl
@[go_sem] theorem a71  : aD.flat (aD.lT) = true := rfl
@[go_sem] theorem a1D  : aD.cells (aD.oS) = [(aD.oS)] := rfl
@[go_sem] theorem a5L  : aD.flat (aD.oS) = true := rfl
@[go_sem] theorem bD5 (sz : Nat) (es : List (List aD)) (b : Bool) : aD.cells (aD.sl sz es b) = [(aD.sl sz es b)] := rfl
@[go_sem] theorem bKD (sz : Nat) (es : List (List aD)) (b : Bool) : aD.flat (aD.sl sz es b) = true := rfl
@[go_sem] theorem bD6 (sz : Nat) (es : List (List aD)) (i o : Nat) : aD.cells (aD.ip sz es i o) = [(aD.ip sz es i o)] := rfl
@[go_sem] theorem bKE (sz : Nat) (es : List (List aD)) (i o : Nat) : aD.flat (aD.ip sz es i o) = true := rfl
@[go_sem] theorem bD7 (n sz i l : Nat) : aD.cells (aD.os n sz i l) = [(aD.os n sz i l)] := rfl
@[go_sem] theorem bKF (n sz i l : Nat) : aD.flat (aD.os n sz i l) = true := rfl
@[go_sem] theorem bD8 (n sz i l : Nat) : aD.cells (aD.op n sz i l) = [(aD.op n sz i l)] := rfl
@[go_sem] theorem bKG (n sz i l : Nat) : aD.flat (aD.op n sz i l) = true := rfl
@[go_sem] theorem bCD (cs : List aD) : aD.cells (aD.iI cs) = [(aD.iI cs)] := rfl
@[go_sem] theorem bD9 (cs : List aD) : aD.flat (aD.iI cs) = false := rfl
@[go_sem] theorem bEA (f : Fn) (a b : List aD) : aD.cells (aD.fn f a b) = [(aD.fn f a b)] := rfl
@[go_sem] theorem bKH (f : Fn) (a b : List aD) : aD.flat (aD.fn f a b) = true := rfl
@[go_sem] theorem a5M (t : TypeId) (v : aD) : aD.cells (aD.iface t v) = [(aD.iface t v)] := rfl
@[go_sem] theorem a72 (t : TypeId) (v : aD) : aD.flat (aD.iface t v) = true := rfl
@[go_sem] theorem bEB (n : Nat) : aD.cells (aD.mp n) = [(aD.mp n)] := rfl
@[go_sem] theorem bKI (n : Nat) : aD.flat (aD.mp n) = true := rfl
@[go_sem] theorem bCE (cs : List aD) : aD.cells (.agg cs) = cs := rfl
@[go_sem] theorem bEC (cs : List aD) : aD.flat (.agg cs) = false := rfl
@[go_sem] theorem a73 : maxLen = 9223372036854775807 := rfl
set_option linter.unusedVariables false
set_option linter.unusedSimpArgs false
def Sub (x y : aD) : Prop := ∀ E h w v, fD E h w x v → fD E h w y v
theorem Sub.refl (x : aD) : Sub x x := fun _ _ _ _ r => r
theorem Sub.trans {x y z : aD} (a : Sub x y) (b : Sub y z) : Sub x z := fun E h w v r => b E h w v (a E h w v r)
theorem Sub.any (x : aD) : Sub x .any := fun _ _ _ v _ => .any v
theorem Sub.nil (sz : Nat) (t : Bool) : Sub .bH (.sl sz [] t) := fun E h w v r => by
 cases r
 exact .sl0 sz t none 0 (fun _ => rfl) (by simp [maxLen]) trivial
theorem Sub.loose (sz : Nat) (es : List (List aD)) (t : Bool) : Sub (.sl sz es t) (.sl sz es false) := fun E h w v r => by
 cases r with
 |sl0 _ _ a cap ht hmax ha => exact .sl0 sz false _ _ (fun e => by simp at e) hmax ha
 |sl _ _ _ b o cap cv hi hcap hmax ht hs hc h1 hr => exact .sl sz es false b o _ cv hi hcap hmax (fun e => by simp at e) hs hc h1 hr
def gE (xs ys : List aD) : Prop := xs.length = ys.length ∧ ∀ (i : Nat) (x y : aD), xs[i]? = some x → ys[i]? = some y → Sub x y
theorem gE.nil : gE [] [] := ⟨rfl, fun i x y hx => by simp at hx⟩
theorem gE.cons {x y : aD} {xs ys : List aD} (a : Sub x y) (b : gE xs ys) : gE (x :: xs) (y :: ys) :=
 ⟨by simp [b.1], fun i u v hu hv => by
  cases i with
  |zero => simp at hu hv; subst hu; subst hv; exact a
  |succ i => exact b.2 i u v (by simpa using hu) (by simpa using hv)⟩
theorem gE.refl : ∀ (xs : List aD), gE xs xs
 | [] => .nil
 |x :: xs => .cons (.refl x) (.refl xs)
theorem gE.aN7 {E : Env} {h : aB} {w : World} : ∀ {xs ys : List aD} {vs : List Value}, gE xs ys → dV E h w xs vs → dV E h w ys vs
 | [], [], _, _, r => r
 | [], _ :: _, _, s, _ => by have := s.1; simp at this
 | _ :: _, [], _, s, _ => by have := s.1; simp at this
 |x :: xs, y :: ys, [], s, r => r.elim
 |x :: xs, y :: ys, v :: vs, s, r => ⟨s.2 0 x y rfl rfl E h w v r.1, gE.aN7 (xs := xs) (ys := ys) ⟨by have := s.1; simpa using this, fun i u v hu hv => s.2 (i + 1) u v (by simpa using hu) (by simpa using hv)⟩ r.2⟩
theorem Sub.agg {xs ys : List aD} (s : gE xs ys) : Sub (.agg xs) (.agg ys) := fun E h w v r => by
 cases r with
 |agg _ vs hl hr =>
  have := s.aN7 (dV.mk hl hr)
  exact .agg _ _ this.length this.get
theorem Sub.iI {xs ys : List aD} (s : gE xs ys) : Sub (.iI xs) (.iI ys) := fun E h w v r => by
 cases r with
 |iI _ vs hl hr =>
  have := s.aN7 (dV.mk hl hr)
  exact .iI _ _ this.length this.get
theorem iH.sub {P : Program} {f : FuncId} {xs ys : List aD} {h : aB} {K : aD → aB → Prop} (s : gE xs ys) (a : iH P f ys h K) : iH P f xs h K :=
 ⟨a.1, fun E w vs R hL => a.2 E w vs R (s.aN7 hL)⟩
theorem fL.sub {P : Program} {f : FuncId} {xs ys : List aD} {r : aD} (s : gE xs ys) (a : fL P f ys r) : fL P f xs r := fun h => (a h).sub s
def Shift (r' : aD) (h' : aB) (r : aD) (h : aB) : Prop :=
 ∀ E w v, Rel E h' w → fD E h' w r' v → ∃ E', Ev E h' w E' h w ∧ Rel E' h w ∧ fD E' h w r v
theorem Shift.of {r' r : aD} {h' h : aB} (s : Sub r' r) (hl : h.le h') : Shift r' h' r h := fun E w v R x =>
 ⟨E, (Ev.refl E h' w).forget hl, R.forget hl, s _ _ _ _ (x.qR fun b => o7.le hl)⟩
theorem Shift.trans {a b c : aD} {h1 h2 h3 : aB} (x : Shift a h1 b h2) (y : Shift b h2 c h3) : Shift a h1 c h3 := fun E w v R r => by
 obtain ⟨E', ev, R', r'⟩ := x E w v R r
 obtain ⟨E'', ev', R'', r''⟩ := y E' w v R' r'
 exact ⟨E'', ev.trans ev', R'', r''⟩
mutual
def aD.fE (n : Nat) (es : List (List aD)) : aD → aD
 | .os m sz i len => if m = n then .sl sz ((es.drop i).take len) false else .os m sz i len
 | .op m sz i off => if m = n then .ip sz es i off else .op m sz i off
 | .agg cs => .agg (lV n es cs)
 | .iI cs => .iI (lV n es cs)
 |x => x
def lV (n : Nat) (es : List (List aD)) : List aD → List aD
 | [] => []
 |x :: xs => x.fE n es :: lV n es xs
end
theorem aGX (n : Nat) (es : List (List aD)) : ∀ l, lV n es l = l.map (aD.fE n es)
 | [] => rfl
 |x :: l => by simp [lV, aGX n es l]
mutual
def fY (n sz k : Nat) : aD → Bool
 | .os m sz' i len => m != n || (sz' == sz && decide (i + len ≤ k))
 | .op m sz' i len => m != n || sz' == sz
 | .agg cs => fZ n sz k cs
 | .iI cs => fZ n sz k cs
 | _ => true
def fZ (n sz k : Nat) : List aD → Bool
 | [] => true
 |x :: xs => fY n sz k x && fZ n sz k xs
end
theorem yS (n sz k : Nat) : ∀ (l : List aD), fZ n sz k l = true → ∀ (i : Nat) x, l[i]? = some x → fY n sz k x = true
 | [], _, i, x, hx => by simp at hx
 |y :: l, h, 0, x, hx => by simp at hx; subst hx; simp only [fZ, Bool.and_eq_true] at h; exact h.1
 |y :: l, h, i + 1, x, hx => by simp only [fZ, Bool.and_eq_true] at h; exact yS n sz k l h.2 i x (by simpa using hx)
theorem fD.r5 {E : Env} {h : aB} {w : World} (R : Rel E h w) {n sz : Nat} {es : List (List Cell)} (hn : h n = some (.row sz es)) {x : aD} {v : Value} (r : fD E h w x v)
  (hb : fY n sz es.length x = true) : fD E (aR h n .gone) w (x.fE n (eT es)) v := by
 have hi : ∀ b, o7 E h w b → o7 E (aR h n .gone) w b := fun b => yF n b
 induction r with
 |any v => exact .any v
 |bool b => exact .bool b
 |int k n => exact .int k n
 |str s hl => exact .str s hl
 |jV => exact .jV
 |bH => exact .bH
 |sG => exact .sG
 |lT => exact .lT
 |oS => exact .oS
 |sl0 sz t a cap ht hmax ha => exact .sl0 sz t a cap ht hmax ha
 |sl sz es t b o cap cv hb' hcap hmax ht hs hc h1 hr ih => exact .sl sz es t b o cap cv (hi b hb') hcap hmax ht hs hc h1 fun i j x hx => (hr i j x hx).qR hi
 |ip sz es i off b o cv hb' hs hc h1 hr ih => exact .ip sz es i off b o cv (hi b hb') hs hc h1 fun i j x hx => (hr i j x hx).qR hi
 |os0 m sz' hd hl =>
  simp only [aD.fE]
  split
  ·have : ((eT es).drop 0).take 0 = [] := by simp
   rw [this]
   exact .sl0 sz' false none 0 (fun _ => rfl) (by simp [maxLen]) trivial
  ·exact .os0 m sz' hd hl
 |op m sz' i off b o hd hl =>
  simp only [aD.fE]
  split
  ·rename_i e
   subst e
   simp only [fY, bne_self_eq_false, Bool.false_or, beq_iff_eq] at hb
   subst hb
   obtain ⟨b', o', hl', hbS, hs, cs, ct, cv, T, hh, hm', hT, hD, hc, hrr⟩ := yI R hn (.inr ⟨_, hl⟩)
   rw [hl] at hl'
   obtain ⟨rfl, rfl⟩ := Prod.mk.inj (Option.some.inj hl')
   have himm : ∀ c, E.fp m c → o7 E (aR h m .gone) w c := fun c hc => aEH R hn trivial c hc
   have hat : ∀ i' j y, iZ (eT es) i' j = some y → ∃ c, iZ es i' j = some c ∧ y = c.val := by
    intro i' j y hy
    rw [rN] at hy
    obtain ⟨c, hc, rfl⟩ := Option.map_eq_some_iff.1 hy
    exact ⟨c, hc, rfl⟩
   exact .ip sz' (eT es) i off b o cv (himm b hbS) (fun e he => wO hs e he)
    (fun i' j y hy => by
     obtain ⟨c, hc', rfl⟩ := hat i' j y hy
     have := hc _ _ _ hc'
     simp only [World.cell?, hh]
     rw [← this]
     simp)
    (fun i' j y hy => by obtain ⟨c, hc', rfl⟩ := hat i' j y hy; exact (hrr _ _ _ hc').one)
    (fun i' j y hy => by
     obtain ⟨c, hc', rfl⟩ := hat i' j y hy
     exact (hrr _ _ _ hc').r5 hi fun b hb => himm b (hT _ _ b hb).1)
  ·exact .op m sz' i off b o hd hl
 |fn f cs ds vs us hl hr hl' hr' ih ih' => exact .fn f cs ds vs us hl (fun i x v hx hv => (hr i x v hx hv).qR hi) hl' (fun i x v hx hv => (hr' i x v hx hv).qR hi)
 |iface t x v hr ih => exact .iface t x v (hr.qR hi)
 |mp n b o hd hl => exact .mp n b o hd hl
 |agg cs vs hl hr ih =>
  simp only [aD.fE, aGX]
  simp only [fY] at hb
  refine .agg _ vs (by simpa using hl) fun i x v hx hv => ?_
  rw [List.getElem?_map] at hx
  obtain ⟨y, hy, rfl⟩ := Option.map_eq_some_iff.1 hx
  exact ih i y v hy hv (yS _ _ _ _ hb i y hy)
 |iI cs vs hl hr ih =>
  simp only [aD.fE, aGX]
  simp only [fY] at hb
  refine .iI _ vs (by simpa using hl) fun i x v hx hv => ?_
  rw [List.getElem?_map] at hx
  obtain ⟨y, hy, rfl⟩ := Option.map_eq_some_iff.1 hx
  exact ih i y v hy hv (yS _ _ _ _ hb i y hy)
 |os m sz' i len b o cap t mm hd hl hlc hmax hsh hm =>
  simp only [aD.fE]
  split
  ·rename_i e
   subst e
   simp only [fY, bne_self_eq_false, Bool.false_or, Bool.and_eq_true, beq_iff_eq, decide_eq_true_eq] at hb
   obtain ⟨rfl, hle⟩ := hb
   obtain ⟨b', o', hl', hbS, hs, cs, ct, cv, T, hh, hm', hT, hD, hc, hrr⟩ := yI R hn (.inr ⟨_, hl⟩)
   rw [hl] at hl'
   obtain ⟨rfl, rfl⟩ := Prod.mk.inj (Option.some.inj hl')
   have himm : ∀ c, E.fp m c → o7 E (aR h m .gone) w c := fun c hc => aEH R hn trivial c hc
   have hlen : (((eT es).drop i).take len).length = len := by rw [List.length_take, List.length_drop, s7]; omega
   have hat : ∀ i' j y, iZ (((eT es).drop i).take len) i' j = some y → ∃ c, iZ es (i + i') j = some c ∧ y = c.val := by
    intro i' j y hy
    obtain ⟨e, h1, h2⟩ := kX hy
    have hlt : i' < len := by have := (List.getElem?_eq_some_iff.1 h1).1; rw [hlen] at this; exact this
    rw [List.getElem?_take_of_lt hlt, List.getElem?_drop] at h1
    have : iZ (eT es) (i + i') j = some y := by simp [iZ, h1, h2]
    rw [rN] at this
    obtain ⟨c, hc, rfl⟩ := Option.map_eq_some_iff.1 this
    exact ⟨c, hc, rfl⟩
   have := fD.sl (E := E) (h := aR h m .gone) (w := w) sz' (((eT es).drop i).take len) false b (o + i * sz') cap (fun i' j => cv (i + i') j) (himm b hbS) (by rw [hlen]; exact hlc) hmax (fun e => by simp at e)
    (fun e he => wO hs e (List.mem_of_mem_drop (List.mem_of_mem_take he)))
    (fun i' j y hy => by
     obtain ⟨c, hc', rfl⟩ := hat i' j y hy
     have := hc _ _ _ hc'
     simp only [World.cell?, hh]
     rw [← this]
     simp only [Option.isSome_none, Bool.false_eq_true, if_false]
     congr 1; rw [Nat.add_mul]; omega)
    (fun i' j y hy => by obtain ⟨c, hc', rfl⟩ := hat i' j y hy; exact (hrr _ _ _ hc').one)
    (fun i' j y hy => by
     obtain ⟨c, hc', rfl⟩ := hat i' j y hy
     exact (hrr _ _ _ hc').r5 hi fun b hb => himm b (hT _ _ b hb).1)
   rw [hlen] at this
   exact this
  ·exact .os m sz' i len b o cap t mm hd hl hlc hmax hsh hm
theorem Shift.fE {x : aD} {h : aB} {n sz : Nat} {es : List (List Cell)} (hn : h n = some (.row sz es)) (hb : fY n sz es.length x = true) : Shift x h (x.fE n (eT es)) (aR h n .gone) := fun E w v R r =>
 ⟨E, Ev.gone n, R.gone hn, r.r5 R hn hb⟩
theorem pN.r5 {P : Program} {N : Nat} {c : Code} {Q : Exit → bL → aB → Prop} {τ : bL} {h : aB} (n : Nat) {sz : Nat} {es : List (List Cell)} (hn : h n = some (.row sz es)) (hb : τ.all (fun p => fY n sz es.length p.2) = true)
  (x : pN P N c Q (τ.map fun p => (p.1, p.2.fE n (eT es))) (aR h n .gone)) : pN P N c Q τ h := by
 intro ds E w a R r
 refine Code.wp_mono (fun e a' w' y => r7.trans (Ev.gone n) y) (x ds E w a (R.gone hn) ⟨r.size, r.defers, fun k => ?_⟩)
 have key : ∀ τ : bL, τ.all (fun p => fY n sz es.length p.2) = true → fY n sz es.length (bZ τ k) = true ∧ bZ (τ.map fun p => (p.1, p.2.fE n (eT es))) k = (bZ τ k).fE n (eT es) := by
  intro τ
  induction τ with
  |nil => intro _; exact ⟨rfl, rfl⟩
  |cons p τ ih =>
   intro hp
   simp only [List.all_cons, Bool.and_eq_true] at hp
   simp only [List.map_cons, bZ]
   split
   ·exact ⟨hp.1, rfl⟩
   ·exact ih hp.2
 rw [(key τ hb).2]
 exact (r.get k).r5 R hn (key τ hb).1
theorem tF {P : Program} {f : FuncId} {fn : Func} {c : Code} {N : Nat} {args : List aD} {h : aB} {K K' : aD → aB → Prop} (a : iH P f args h K') (hk : ∀ r h', K' r h' → ∃ r₁ h₁, Shift r h' r₁ h₁ ∧ K r₁ h₁) : iH P f args h K :=
 ⟨a.1, fun E w vs R hL => Calls.mono (a.2 E w vs R hL) fun e w' he => by
  cases e <;> try exact he
  obtain ⟨r, h', E', k, ev, R', rx⟩ := he
  obtain ⟨r₁, h₁, hs, k₁⟩ := hk r h' k
  obtain ⟨E'', ev', R'', rx'⟩ := hs E' w' _ R' rx
  exact ⟨r₁, h₁, E'', k₁, ev.trans ev', R'', rx'⟩⟩
theorem aW2 {P : Program} {f : FuncId} {fn : Func} {c : Code} (N : Nat) (keep ib : List Nat) (mk : Marks) {args : List aD} {r : aD} (hmix : P.follows .mixedOrders = true) (hf : P.funcs[f]? = some fn) (hb : fn.body = some c)
  (hck : (mI P f && decide (fn.ntmps = N) && j6 N mk c) = true) (hl : args.length ≤ N)
  (hw : ∀ h, hwp P N keep ib mk c (aBV P fn.results (fun r' h' => Shift r' h' r h) .normal) (aBV P fn.results fun r' h' => Shift r' h' r h) (tD 0 args) h) : fL P f args r := fun h =>
 tF (fn := fn) (c := c) (N := N) (aGW N keep ib mk hmix hf hb hck hl (hw h) fun r' h' hx => ⟨h', aB.le_refl _, hx⟩) fun r' h' hx => ⟨r, h, hx, rfl, rfl⟩
theorem cM {r : aD} {h' h : aB} (hl : h.le h') : Shift r h' r h := .of (.refl r) hl
theorem bI (r : aD) (h : aB) : Shift r h r h := .of (.refl r) (aB.le_refl h)
set_option linter.unusedVariables false
set_option linter.unusedSimpArgs false
abbrev Tag {α : Type} (_ : α) : Type := Unit
def fR {α : Type} (o : Option α) (K : α → Prop) (_ : Tag K) : Prop := match o with | some x => K x | none => False
@[go_sem] theorem bCF {α : Type} (x : α) (K : α → Prop) (t : Tag K) : fR (some x) K t = K x := rfl
@[go_sem] theorem bCG {α : Type} (K : α → Prop) (t : Tag K) : fR none K t = False := rfl
def yT (v : aD) (A B : Prop) (_ : Tag (A, B)) : Prop := match v with | .bool t => (t = true → A) ∧ (t = false → B) | _ => False
@[go_sem] theorem a74 (c : Bool) (A B : Prop) (t : Tag (A, B)) : yT (.bool c) A B t = ((c = true → A) ∧ (c = false → B)) := rfl
@[go_sem high] theorem a75 (A B : Prop) (t : Tag (A, B)) : yT (.bool true) A B t = A := by simp [yT]
@[go_sem high] theorem a5N (A B : Prop) (t : Tag (A, B)) : yT (.bool false) A B t = B := by simp [yT]
def aN8 (K : bL → aB → Prop) (Q : Exit → bL → aB → Prop) (_ : Tag (K, Q)) : Exit → bL → aB → Prop := vP K Q
@[go_sem] theorem a1E (K : bL → aB → Prop) (Q : Exit → bL → aB → Prop) (t : Tag (K, Q)) (τ : bL) (h : aB) : aN8 K Q t .normal τ h = K τ h := rfl
@[go_sem] theorem bCH (K : bL → aB → Prop) (Q : Exit → bL → aB → Prop) (t : Tag (K, Q)) (τ : bL) (h : aB) : aN8 K Q t .ret τ h = Q .ret τ h := rfl
@[go_sem] theorem a76 (K : bL → aB → Prop) (Q : Exit → bL → aB → Prop) (t : Tag (K, Q)) (i : Nat) (τ : bL) (h : aB) : aN8 K Q t (.exit i) τ h = Q (.exit i) τ h := rfl
def aDQ (id : Nat) (K : bL → aB → Prop) (Q : Exit → bL → aB → Prop) (_ : Tag (K, Q)) : Exit → bL → aB → Prop := aGV id K Q
@[go_sem] theorem a77 (id : Nat) (K : bL → aB → Prop) (Q : Exit → bL → aB → Prop) (t : Tag (K, Q)) (τ : bL) (h : aB) : aDQ id K Q t .ret τ h = Q .ret τ h := rfl
@[go_sem] theorem a5O (id : Nat) (K : bL → aB → Prop) (Q : Exit → bL → aB → Prop) (t : Tag (K, Q)) (τ : bL) (h : aB) : aDQ id K Q t (.exit id) τ h = K τ h := by simp [aDQ, aGV]
@[go_sem] theorem a1F (id i : Nat) (K : bL → aB → Prop) (Q : Exit → bL → aB → Prop) (t : Tag (K, Q)) (τ : bL) (h : aB) (hi : (i == id) = false) : aDQ id K Q t (.exit i) τ h = Q (.exit i) τ h := by
 have : i ≠ id := by simpa using hi
 simp [aDQ, aGV, this]
def aKR (P : Program) (N : Nat) (c : Code) (Q : Exit → bL → aB → Prop) (τ : bL) (h : aB) (_ : Tag (c, Q)) : Prop := pN P N c Q τ h
def j3 (P : Program) (ib : List Nat) (d : Option Tmp) (op : Op) (ρ : Operand → aD) (h : aB) (K : aD → aB → Prop) (_ : Tag (op, K)) : Prop :=
 tC P ib ⟨d, op, 0, "", #[], none⟩ ρ h K
def stepG (P : Program) (ib : List Nat) (d : Option Tmp) (op : Op) (ρ : Operand → aD) (K : aD → Prop) (_ : Tag (op, K)) : Prop :=
 aDO P ib ⟨d, op, 0, "", #[], none⟩ ρ K
def aBW (P : Program) (ib : List Nat) (os l : List Oper) (τ : bL) (h : aB) (K : bL → aB → Prop) (_ : Tag (os, l, K)) : Prop := aBU P ib os.toArray l τ h K
def yU (os : List Oper) (g : Nat) (_ : Tag os) : Option Tmp := (os.toArray[g]?).bind (·.dst)
@[go_sem] theorem a78 (o : Oper) (os : List Oper) (t : Tag (o :: os)) : yU (o :: os) 0 t = o.dst := by simp [yU]
@[go_sem] theorem a79 (o : Oper) (os : List Oper) (n : Nat) (t : Tag (o :: os)) : yU (o :: os) (n + 1) t = yU os n () := by simp [yU]
def nK (v : aD) (b : Bool) (A B C : Prop) (_ : Tag (A, B, C)) : Prop := match v with
 | .bool b' => (b' = b → A) ∧ (b' = !b → B)
 | .iI [] => C
 | _ => False
@[go_sem] theorem a8A (b : Bool) (A B C : Prop) (t : Tag (A, B, C)) : nK (.iI []) b A B C t = C := rfl
@[go_sem] theorem bED (c : Bool) (A B C : Prop) (t : Tag (A, B, C)) : nK (.bool c) true A B C t = ((c = true → A) ∧ (c = false → B)) := rfl
@[go_sem] theorem bEE (c : Bool) (A B C : Prop) (t : Tag (A, B, C)) : nK (.bool c) false A B C t = ((c = false → A) ∧ (c = true → B)) := rfl
@[go_sem high] theorem bCI (A B C : Prop) (t : Tag (A, B, C)) : nK (.bool true) true A B C t = A := by simp [nK]
@[go_sem high] theorem bCJ (A B C : Prop) (t : Tag (A, B, C)) : nK (.bool false) true A B C t = B := by simp [nK]
@[go_sem high] theorem bCK (A B C : Prop) (t : Tag (A, B, C)) : nK (.bool true) false A B C t = B := by simp [nK]
@[go_sem high] theorem bCL (A B C : Prop) (t : Tag (A, B, C)) : nK (.bool false) false A B C t = A := by simp [nK]
section
variable (P : Program) (ib : List Nat) (os rest : List Oper) (τ : bL) (h : aB) (K : bL → aB → Prop) (d : Option Tmp) (op : Op) (ty : TypeId) (p : String) (af : Array Edge)
@[go_sem] theorem bCM (t : Tag (os, [], K)) : aBW P ib os [] τ h K t = K τ h := rfl
@[go_sem] theorem a8B (t : Tag (os, (⟨d, op, ty, p, af, none⟩ :: rest), K)) : aBW P ib os (⟨d, op, ty, p, af, none⟩ :: rest) τ h K t =
  j3 P ib d op (qT τ) h (fun v h' => aBW P ib os rest (fW τ d v) h' K ()) () := rfl
@[go_sem] theorem a8C (g : Nat) (b : Bool) (t : Tag (os, (⟨d, op, ty, p, af, some (g, b)⟩ :: rest), K)) : aBW P ib os (⟨d, op, ty, p, af, some (g, b)⟩ :: rest) τ h K t =
  fR (yU os g ()) (fun s => nK (bZ τ s) b (j3 P ib d op (qT ((s, .bool b) :: τ)) h (fun v h' => aBW P ib os rest (fW ((s, .bool b) :: τ) d v) h' K ()) ())
   (aBW P ib os rest (fW ((s, .bool !b) :: τ) d (.iI [])) h K ()) (aBW P ib os rest (fW τ d (.iI [])) h K ()) ()) () := by
 unfold aBW
 rw [aBU]
 simp only [fR, yU]
 cases (os.toArray[g]?).bind (·.dst) with
 |none => rfl
 |some s =>
  simp only [nK]
  cases bZ τ s <;> first | rfl | (rename_i cs; cases cs <;> rfl)
end
def aBX (P : Program) (ib : List Nat) (os : List Oper) (ms : List Nat) (cr : List (Nat × Nat)) (l : r9) (pr : List (Nat × Nat)) (τ : bL) (h : aB) (K : bL → aB → Prop) (_ : Tag (os, K)) : Prop := aDP P ib os.toArray ms cr l pr τ h K
def aGY (P : Program) (ib : List Nat) (os : List Oper) (cr : List (Nat × Nat)) (i : Nat) (m : Bool) (o : Oper) (pr : List (Nat × Nat)) (τ : bL) (h : aB) (K : List (Nat × Nat) → bL → aB → Prop) (_ : Tag (os, o, K)) : Prop :=
 match o.guard with
 |none => aER P ib cr i m o (sM os.toArray o τ) pr h (fun pr' v h' => K pr' (fW τ o.dst v) h')
 |some (g, b) => match (os.toArray[g]?).bind (·.dst) with
  |some d => match bZ τ d with
   | .bool b' => (b' = b → aER P ib cr i m o (sM os.toArray o ((d, .bool b) :: τ)) pr h (fun pr' v h' => K pr' (fW ((d, .bool b) :: τ) o.dst v) h')) ∧
     (b' = !b → K pr (fW ((d, .bool !b) :: τ) o.dst (.iI [])) h)
   | .iI [] => K pr (fW τ o.dst (.iI [])) h
   | _ => False
  |none => False
def aN9 (os : List Oper) (i : Nat) (K : Oper → Prop) (_ : Tag (os, K)) : Prop := match os[i]? with | some o => K o | none => False
@[go_sem] theorem bCN (o : Oper) (os : List Oper) (K : Oper → Prop) (t : Tag (o :: os, K)) : aN9 (o :: os) 0 K t = K o := rfl
@[go_sem] theorem bCO (o : Oper) (os : List Oper) (i : Nat) (K : Oper → Prop) (t : Tag (o :: os, K)) : aN9 (o :: os) (i + 1) K t = aN9 os i K () := rfl
def aQM (os : List Oper) (o : Oper) (τ : bL) (_ : Tag (os, o)) : Operand → aD := sM os.toArray o τ
section
variable (P : Program) (ib : List Nat) (os : List Oper) (τ : bL) (h : aB) (K : bL → aB → Prop) (d : Option Tmp) (op : Op) (ty : TypeId) (p : String) (af : Array Edge)
variable (cr : List (Nat × Nat)) (pr : List (Nat × Nat)) (i : Nat)
@[go_sem] theorem bCP (ms : List Nat) (t : Tag (os, K)) : aBX P ib os ms cr .nil pr τ h K t = K τ h := rfl
theorem aQN (ms : List Nat) (i : Nat) (C : List (Nat × Nat) → bL → aB → Prop) : OpD P ib os.toArray ms cr i pr τ h C = aN9 os i (fun o => aGY P ib os cr i (ms.contains i) o pr τ h C ()) () := by
 simp only [OpD, aN9, aGY, List.getElem?_toArray]
 cases os[i]? <;> rfl
@[go_sem] theorem bEF (ms : List Nat) (l : r9) (i : Nat) (t : Tag (os, K)) : aBX P ib os ms cr (.op i l) pr τ h K t = aN9 os i (fun o => aGY P ib os cr i (ms.contains i) o pr τ h (fun pr' τ' h' => aBX P ib os ms cr l pr' τ' h' K ()) ()) () := by
 simp only [aBX, aDP]; exact aQN P ib os τ h cr pr ms i _
@[go_sem] theorem bCQ (ms : List Nat) (l q : r9) (i j : Nat) (t : Tag (os, K)) : aBX P ib os ms cr (.alt i l j q) pr τ h K t = ((aN9 os i (fun o => aGY P ib os cr i (ms.contains i) o pr τ h (fun pr' τ' h' => aBX P ib os ms cr l pr' τ' h' K ()) ()) ()) ∧ aN9 os j (fun o => aGY P ib os cr j (ms.contains j) o pr τ h (fun pr' τ' h' => aBX P ib os ms cr q pr' τ' h' K ()) ()) ()) := by
 simp only [aBX, aDP]; rw [aQN P ib os τ h cr pr ms i _, aQN P ib os τ h cr pr ms j _]
@[go_sem] theorem bEG (o : Oper) (t : Tag (os, o)) (k : Nat) : aQM os o τ t (.tmp k) = if (r8 os.toArray o).contains k then bZ τ k else .any := rfl
@[go_sem] theorem a8D (o : Oper) (t : Tag (os, o)) (v : Value) : aQM os o τ t (.const v) = aD.ofValue v := rfl
@[go_sem] theorem bCR (o : Oper) (t : Tag (os, o)) (f : FuncId) : aQM os o τ t (.func f) = qT τ (.func f) := rfl
def iE : Op → Bool
 | .load _ _ => true
 | _ => false
def aES (d : Option Tmp) (op : Op) (ρ : Operand → aD) (M : List (Nat × Nat) → aD → aB → Prop) (_ : Tag (op, M)) : Prop :=
 if iE op then aN4 P ⟨d, op, 0, "", #[], none⟩ ρ h (fun n v => M (aN6 cr i n pr) v h) else tC P ib ⟨d, op, 0, "", #[], none⟩ ρ h (fun v h' => aGU cr i pr h h' ∧ M pr v h')
theorem aSI (ρ : Operand → aD) (g : Option (Nat × Bool)) (M : List (Nat × Nat) → aD → aB → Prop) : aER P ib cr i true ⟨d, op, ty, p, af, g⟩ ρ pr h M = aES P ib h cr pr i d op ρ M () := by
 unfold aER aES
 cases op <;> rfl
@[go_sem] theorem bL2 (L : List (Nat × Nat) → bL → aB → Prop) (t : Tag (os, (⟨d, op, ty, p, af, none⟩ : Oper), L)) : aGY P ib os cr i true ⟨d, op, ty, p, af, none⟩ pr τ h L t = aES P ib h cr pr i d op (aQM os ⟨d, op, ty, p, af, none⟩ τ ()) (fun pr' v h' => L pr' (fW τ d v) h') () := by
 rw [← aSI (ty := ty) (p := p) (af := af) (g := none)]; rfl
@[go_sem] theorem bL3 (L : List (Nat × Nat) → bL → aB → Prop) (t : Tag (os, (⟨d, op, ty, p, af, none⟩ : Oper), L)) : aGY P ib os cr i false ⟨d, op, ty, p, af, none⟩ pr τ h L t = stepG P ib d op (aQM os ⟨d, op, ty, p, af, none⟩ τ ()) (fun v => L pr (fW τ d v) h) () := rfl
@[go_sem] theorem bKJ (L : List (Nat × Nat) → bL → aB → Prop) (g : Nat) (b : Bool) (t : Tag (os, (⟨d, op, ty, p, af, some (g, b)⟩ : Oper), L)) : aGY P ib os cr i true ⟨d, op, ty, p, af, some (g, b)⟩ pr τ h L t =
  fR (yU os g ()) (fun s => nK (bZ τ s) b (aES P ib h cr pr i d op (aQM os ⟨d, op, ty, p, af, some (g, b)⟩ ((s, .bool b) :: τ) ()) (fun pr' v h' => L pr' (fW ((s, .bool b) :: τ) d v) h') ())
   (L pr (fW ((s, .bool !b) :: τ) d (.iI [])) h) (L pr (fW τ d (.iI [])) h) ()) () := by
 simp only [aGY, fR, yU, ← aSI (ty := ty) (p := p) (af := af) (g := some (g, b))]
 cases (os.toArray[g]?).bind (·.dst) with
 |none => rfl
 |some s =>
  simp only [nK]
  cases bZ τ s <;> first | rfl | (rename_i cs; cases cs <;> rfl)
@[go_sem] theorem bKK (L : List (Nat × Nat) → bL → aB → Prop) (g : Nat) (b : Bool) (t : Tag (os, (⟨d, op, ty, p, af, some (g, b)⟩ : Oper), L)) : aGY P ib os cr i false ⟨d, op, ty, p, af, some (g, b)⟩ pr τ h L t =
  fR (yU os g ()) (fun s => nK (bZ τ s) b (stepG P ib d op (aQM os ⟨d, op, ty, p, af, some (g, b)⟩ ((s, .bool b) :: τ) ()) (fun v => L pr (fW ((s, .bool b) :: τ) d v) h) ())
   (L pr (fW ((s, .bool !b) :: τ) d (.iI [])) h) (L pr (fW τ d (.iI [])) h) ()) () := by
 simp only [aGY, fR, yU]
 cases (os.toArray[g]?).bind (·.dst) with
 |none => rfl
 |some s =>
  simp only [nK]
  cases bZ τ s <;> first | rfl | (rename_i cs; cases cs <;> rfl)
end
def rO (P : Program) (N : Nat) (keep ib : List Nat) (mk : Marks) (c : Code) (K : bL → aB → Prop) (Q : Exit → bL → aB → Prop) (τ : bL) (h : aB) (_ : Tag (c, K, Q)) : Prop := hwp P N keep ib mk c K Q τ h
section
variable (P : Program) (N : Nat) (keep ib : List Nat) (mk : Marks) (K : bL → aB → Prop) (Q : Exit → bL → aB → Prop) (τ : bL) (h : aB)
@[go_sem] theorem bCS (t : Tag (Code.skip, K, Q)) : rO P N keep ib mk .skip K Q τ h t = K τ h := rfl
@[go_sem] theorem bEH (t : Tag (Code.ret, K, Q)) : rO P N keep ib mk .ret K Q τ h t = Q .ret τ h := rfl
@[go_sem] theorem bCT (i : Nat) (t : Tag (Code.exit i, K, Q)) : rO P N keep ib mk (.exit i) K Q τ h t = Q (.exit i) τ h := rfl
@[go_sem] theorem bEI (a b : Code) (t : Tag (Code.seq a b, K, Q)) : rO P N keep ib mk (.seq a b) K Q τ h t = rO P N keep ib mk a (fun τ h => rO P N keep ib mk b K Q τ h ()) Q τ h () := rfl
@[go_sem] theorem bCU (x : Operand) (a b : Code) (t : Tag (Code.cond x a b, K, Q)) : rO P N keep ib mk (.cond x a b) K Q τ h t = yT (qT τ x) (rO P N keep ib mk a K Q τ h ()) (rO P N keep ib mk b K Q τ h ()) () := by
 simp only [rO, hwp, yT]; cases qT τ x <;> rfl
@[go_sem] theorem a8E (i : Nat) (c : Code) (t : Tag (Code.block i c, K, Q)) : rO P N keep ib mk (.block i c) K Q τ h t = rO P N keep ib mk c K (aDQ i K Q ()) τ h () := rfl
@[go_sem] theorem bCV (c : Code) (t : Tag (Code.loop c, K, Q)) : rO P N keep ib mk (.loop c) K Q τ h t = aKR P N (.loop c) (aN8 K Q ()) τ h () := rfl
@[go_sem] theorem a5P (i : Nat) (os : List Oper) (t : Tag (Code.region i ⟨os⟩ false, K, Q)) : rO P N keep ib mk (.region i ⟨os⟩ false) K Q τ h t = aBW P ib os os τ h (fun τ' h' => K (Hl.prune keep τ') h') () := rfl
@[go_sem] theorem bCW (i : Nat) (os : List Oper) (t : Tag (Code.region i ⟨os⟩ true, K, Q)) : rO P N keep ib mk (.region i ⟨os⟩ true) K Q τ h t = aBX P ib os (mk i).1 (mk i).2.2 (mk i).2.1 [] τ h (fun τ' h' => K (Hl.prune keep τ') h') () := rfl
end
theorem aGZ {P : Program} {N : Nat} {keep ib : List Nat} {mk : Marks} (hmix : P.follows .mixedOrders = true) (c : Code) (K : bL → aB → Prop) (Q : Exit → bL → aB → Prop) (τ : bL) (h : aB) (hc : j6 N mk c = true) (hw : rO P N keep ib mk c K Q τ h ()) : pN P N c (aN8 K Q ()) τ h :=
 qV hmix c K Q τ h hc hw
set_option linter.unusedVariables false
set_option linter.unusedSimpArgs false
def aOA : Op → Bool
 | .box .. => false
 | .buildSlice .. => false
 | .call ⟨.builtin .append, _, _⟩ => false
 | _ => true
theorem fF {P : Program} {ib : List Nat} {d : Option Tmp} {op : Op} {ρ : Operand → aD} {h : aB} {K : aD → aB → Prop} {t : Tag (op, K)} (hop : aOA op = true) : j3 P ib d op ρ h K t = step P ⟨d, op, 0, "", #[], none⟩ ρ h K := by
 unfold j3 tC
 cases d with
 |none => rfl
 |some d =>
  simp only
  split
  ·cases op <;> first | rfl | (simp [aOA] at hop; done) | (rename_i c; rcases c with ⟨f, as, ats⟩; cases f <;> first | rfl | (rename_i b; cases b <;> first | rfl | (simp [aOA] at hop; done)))
  ·rfl
theorem gA {P : Program} {ib : List Nat} {d : Option Tmp} {op : Op} {ρ : Operand → aD} {K : aD → Prop} {t : Tag (op, K)} (hop : aOA op = true) : stepG P ib d op ρ K t = aEQ P ⟨d, op, 0, "", #[], none⟩ ρ K := by
 unfold stepG aDO
 cases d with
 |none => rfl
 |some d =>
  simp only
  split
  ·cases op <;> first | rfl | (simp [aOA] at hop)
  ·rfl
def aE5 (P : Program) (op : BinOp) (ty : TypeId) (x y : aD) (K : aD → Prop) (_ : Tag K) : Prop := vQ P op ty x y K
def aG0 (P : Program) (op : BinOp) (ty : TypeId) (c : Bool) (x y : aD) (K : aD → Prop) (_ : Tag K) : Prop := vR P op ty c x y K
def lN (P : Program) (op : BinOp) (ty : TypeId) (x y : aD) (K : aD → Prop) (_ : Tag K) : Prop := fX P op ty x y K
def unF (op : UnOp) (x : aD) (K : aD → Prop) (_ : Tag K) : Prop := aDK op x K
def faF (d : Option TyD) (f : Nat) (x : aD) (K : aD → Prop) (_ : Tag K) : Prop := aDL d f x K
def iaF (re : Option lK) (x i : aD) (K : aD → Prop) (_ : Tag K) : Prop := aDM re x i K
def ixF (d : Option TyD) (x i : aD) (K : aD → Prop) (_ : Tag K) : Prop := aAV d x i K
def ldF (r : Option lK) (a : aD) (h : aB) (K : aD → Prop) (_ : Tag K) : Prop := jX r a h K
def stF (r : Option lK) (a v : aD) (h : aB) (K : aB → Prop) (_ : Tag K) : Prop := aKL r a v h K
def alF (r : Option lK) (h : aB) (K : aD → aB → Prop) (_ : Tag K) : Prop := aDN r h K
def mkF (re : Option lK) (l c : aD) (h : aB) (K : aD → aB → Prop) (_ : Tag K) : Prop := aGI re l c h K
def slD (P : Program) (t : TypeId) (x : aD) (lo hi : Option aD) (K : aD → Prop) (_ : Tag K) : Prop := qU P t x lo hi K
def slF (P : Program) (t : TypeId) (x : aD) (lo hi : Option aD) (K : aD → Prop) (_ : Tag K) : Prop := mQ P t x lo hi K
def aU2 (P : Program) (d : Option TyD) (x : aD) (K : aD → Prop) (_ : Tag K) : Prop := match d, x with
  |some (.slice _), .sl _ es _ => es.length ≤ 9223372036854775807 → K (.int .i64 es.length)
  |some (.slice _), .os _ _ _ n => n ≤ 9223372036854775807 → K (.int .i64 n)
  |some (.slice _), .bH => K (.int .i64 0)
  |some .str, .str s => s.length ≤ 9223372036854775807 → K (.int .i64 s.length)
  | _, _ => False
def aW3 (P : Program) (d : Option TyD) (x : aD) (K : aD → Prop) (_ : Tag K) : Prop := match d, x with
  |some (.slice _), .sl _ es _ => K (.int .i64 es.length)
  |some (.slice _), .os _ _ _ n => K (.int .i64 n)
  |some (.slice _), .bH => K (.int .i64 0)
  |some .str, .str s => K (.int .i64 s.length)
  | _, _ => False
def cvF (P : Program) (s : Option TyD) (d : Option TyD) (x : aD) (K : aD → Prop) (_ : Tag K) : Prop := match d, x with
 |some (.int k'), .int k n => s.isSome = true ∧ K (.int k' (k'.wrap n))
 |some .str, .sl 1 es _ => (match s with
  |some (.slice et) => xW P et = some (.int .u8) ∧ (match bytesOf es with | some bs => K (.str bs) | none => False)
  | _ => False)
 | _, _ => False
def a1G (P : Program) (t : TypeId) (x : aD) (lo : Option aD) (hi mx : aD) (K : aD → Prop) (_ : Tag K) : Prop := pB P t x lo hi mx K
def rdF (cr : List (Nat × Nat)) (i : Nat) (pr : List (Nat × Nat)) (r : Option lK) (x : aD) (h : aB) (M : List (Nat × Nat) → aD → aB → Prop) (_ : Tag M) : Prop := match x with
 | .op n sz j off => jX r (.op n sz j off) h fun v => M (aN6 cr i (some n) pr) v h
 | .ip sz es j off => jX r (.ip sz es j off) h fun v => M (aN6 cr i none pr) v h
 | _ => False
def a1H (c A : Prop) (_ : Tag A) : Prop := c ∧ A
@[go_sem] theorem bKQ (c A : Prop) (t : Tag A) : a1H c A t = (c ∧ A) := rfl
@[go_sem high] theorem bCZ (A : Prop) (t : Tag A) : a1H True A t = A := by simp [a1H]
def buF (P : Program) (r : Option lK) (ps : List (Nat × aD)) (K : aD → Prop) (_ : Tag K) : Prop := s4 P r ps K
def exF (x : aD) (i : Nat) (K : aD → Prop) (_ : Tag K) : Prop := match x with
  | .iI cs => match cs[i]? with | some x => K x | none => False
  | _ => False
def ncF (x : aD) (K : aD → Prop) (_ : Tag K) : Prop := match x with
  | .op n sz i k => K (.op n sz i k)
  | .ip sz es i k => K (.ip sz es i k)
  | _ => False
def a5S (P : Program) (f : aD) (args : List aD) (h : aB) (K : aD → aB → Prop) (_ : Tag K) : Prop := match f with
  | .fn (.func g) first cap => iH P g (first ++ args ++ cap) h K
  | _ => False
def a5T (P : Program) (f : aD) (args : List aD) (K : aD → Prop) (_ : Tag K) : Prop := match f with
  | .fn (.func g) first cap => aWZ P g (first ++ args ++ cap) K
  | _ => False
def aH (P : Program) (g : FuncId) (args : List aD) (h : aB) (K : aD → aB → Prop) (_ : Tag K) : Prop := iH P g args h K
def aF (P : Program) (g : FuncId) (args : List aD) (K : aD → Prop) (_ : Tag K) : Prop := aWZ P g args K
theorem aH.mk {P : Program} {g : FuncId} {args : List aD} {h : aB} {K : aD → aB → Prop} {t : Tag K} {r : aD} (a : fL P g args r) (k : K r h) : aH P g args h K t := fL.call a k
theorem aF.mk {P : Program} {g : FuncId} {args : List aD} {K : aD → Prop} {t : Tag K} {r : aD} (a : fL P g args r) (k : K r) : aF P g args K t := ⟨r, a, k⟩
section
variable (P : Program) (ib : List Nat) (d : Option Tmp) (ρ : Operand → aD) (h : aB) (K : aD → aB → Prop) (L : aD → Prop)
@[go_sem] theorem bKT (x : Operand) (t : Tag (Op.move x, K)) : j3 P ib d (.move x) ρ h K t = K (ρ x) h := by rw [fF rfl]; rfl
@[go_sem] theorem bKU (x : Operand) (t : Tag (Op.move x, L)) : stepG P ib d (.move x) ρ L t = L (ρ x) := by rw [gA rfl]; rfl
@[go_sem] theorem bC0 (x : Operand) (t : Tag (Op.assign x, K)) : j3 P ib d (.assign x) ρ h K t = K (ρ x) h := by rw [fF rfl]; rfl
@[go_sem] theorem bC1 (x : Operand) (t : Tag (Op.assign x, L)) : stepG P ib d (.assign x) ρ L t = L (ρ x) := by rw [gA rfl]; rfl
@[go_sem] theorem bKV (c a b : Operand) (t : Tag (Op.pick c a b, K)) : j3 P ib d (.pick c a b) ρ h K t = yT (ρ c) (K (ρ a) h) (K (ρ b) h) () := by
 rw [fF rfl]; simp only [step, yT]; cases ρ c <;> rfl
@[go_sem] theorem bKW (c a b : Operand) (t : Tag (Op.pick c a b, L)) : stepG P ib d (.pick c a b) ρ L t = yT (ρ c) (L (ρ a)) (L (ρ b)) () := by
 rw [gA rfl]; simp only [aEQ, yT]; cases ρ c <;> rfl
@[go_sem] theorem bL6 (op : BinOp) (ty ty' : TypeId) (x y : Operand) (t : Tag (Op.binOp op ty x y ty', K)) : j3 P ib d (.binOp op ty x y ty') ρ h K t = aG0 P op ty (sK y) (ρ x) (ρ y) (fun v => K v h) () := by rw [fF rfl]; rfl
@[go_sem] theorem bL7 (op : BinOp) (ty ty' : TypeId) (x y : Operand) (t : Tag (Op.binOp op ty x y ty', L)) : stepG P ib d (.binOp op ty x y ty') ρ L t = lN P op ty (ρ x) (ρ y) L () := by rw [gA rfl]; rfl
@[go_sem] theorem bQJ (op : UnOp) (ty : TypeId) (x : Operand) (t : Tag (Op.unOp op ty x, K)) : j3 P ib d (.unOp op ty x) ρ h K t = unF op (ρ x) (fun v => K v h) () := by rw [fF rfl]; rfl
@[go_sem] theorem bQK (op : UnOp) (ty : TypeId) (x : Operand) (t : Tag (Op.unOp op ty x, L)) : stepG P ib d (.unOp op ty x) ρ L t = unF op (ρ x) L () := by rw [gA rfl]; rfl
@[go_sem] theorem bKX (s e : TypeId) (x : Operand) (t : Tag (Op.convert s e x, K)) : j3 P ib d (.convert s e x) ρ h K t = cvF P (xW P s) (xW P e) (ρ x) (fun v => K v h) () := by rw [fF rfl]; rfl
@[go_sem] theorem bKY (s e : TypeId) (x : Operand) (t : Tag (Op.convert s e x, L)) : stepG P ib d (.convert s e x) ρ L t = cvF P (xW P s) (xW P e) (ρ x) L () := by rw [gA rfl]; rfl
@[go_sem] theorem bQL (ty : TypeId) (x : Operand) (f : Nat) (t : Tag (Op.fieldAddr ty x f, K)) : j3 P ib d (.fieldAddr ty x f) ρ h K t = faF (xW P ty) f (ρ x) (fun v => K v h) () := by rw [fF rfl]; rfl
@[go_sem] theorem bQM (ty : TypeId) (x : Operand) (f : Nat) (t : Tag (Op.fieldAddr ty x f, L)) : stepG P ib d (.fieldAddr ty x f) ρ L t = faF (xW P ty) f (ρ x) L () := by rw [gA rfl]; rfl
@[go_sem] theorem bQN (ty : TypeId) (x i : Operand) (t : Tag (Op.indexAddr ty x i, K)) : j3 P ib d (.indexAddr ty x i) ρ h K t = iaF (lR P ty) (ρ x) (ρ i) (fun v => K v h) () := by rw [fF rfl]; rfl
@[go_sem] theorem bQO (ty : TypeId) (x i : Operand) (t : Tag (Op.indexAddr ty x i, L)) : stepG P ib d (.indexAddr ty x i) ρ L t = iaF (lR P ty) (ρ x) (ρ i) L () := by rw [gA rfl]; rfl
@[go_sem] theorem bQP (ty : TypeId) (x i : Operand) (t : Tag (Op.index ty x i, K)) : j3 P ib d (.index ty x i) ρ h K t = ixF (xW P ty) (ρ x) (ρ i) (fun v => K v h) () := by rw [fF rfl]; rfl
@[go_sem] theorem bQQ (ty : TypeId) (x i : Operand) (t : Tag (Op.index ty x i, L)) : stepG P ib d (.index ty x i) ρ L t = ixF (xW P ty) (ρ x) (ρ i) L () := by rw [gA rfl]; rfl
@[go_sem] theorem bQR (ty : TypeId) (a : Operand) (t : Tag (Op.load ty a, K)) : j3 P ib d (.load ty a) ρ h K t = ldF (iW P ty) (ρ a) h (fun v => K v h) () := by rw [fF rfl]; rfl
@[go_sem] theorem bQS (ty : TypeId) (a v : Operand) (t : Tag (Op.store ty a v, K)) : j3 P ib d (.store ty a v) ρ h K t = stF (iW P ty) (ρ a) (ρ v) h (fun h' => K .any h') () := by rw [fF rfl]; rfl
@[go_sem] theorem bQT (ty : TypeId) (t : Tag (Op.alloc ty, K)) : j3 P ib d (.alloc ty) ρ h K t = alF (iW P ty) h K () := by rw [fF rfl]; rfl
@[go_sem] theorem bQU (ty : TypeId) (l c : Operand) (t : Tag (Op.makeSlice ty l c, K)) : j3 P ib d (.makeSlice ty l c) ρ h K t = mkF (lR P ty) (ρ l) (ρ c) h K () := by rw [fF rfl]; rfl
@[go_sem] theorem bQV (ty : TypeId) (x : Operand) (lo hi : Option Operand) (t : Tag (Op.slice ty x lo hi none, K)) : j3 P ib d (.slice ty x lo hi none) ρ h K t = slD P ty (ρ x) (lo.map ρ) (hi.map ρ) (fun v => K v h) () := by rw [fF rfl]; rfl
@[go_sem] theorem bQW (ty : TypeId) (x : Operand) (lo hi : Option Operand) (t : Tag (Op.slice ty x lo hi none, L)) : stepG P ib d (.slice ty x lo hi none) ρ L t = slF P ty (ρ x) (lo.map ρ) (hi.map ρ) L () := by rw [gA rfl]; rfl
@[go_sem] theorem bL8 (ty : TypeId) (x : Operand) (lo : Option Operand) (hi mx : Operand) (t : Tag (Op.slice ty x lo (some hi) (some mx), K)) : j3 P ib d (.slice ty x lo (some hi) (some mx)) ρ h K t = a1G P ty (ρ x) (lo.map ρ) (ρ hi) (ρ mx) (fun v => K v h) () := by rw [fF rfl]; rfl
@[go_sem] theorem bL9 (ty : TypeId) (x : Operand) (lo : Option Operand) (hi mx : Operand) (t : Tag (Op.slice ty x lo (some hi) (some mx), L)) : stepG P ib d (.slice ty x lo (some hi) (some mx)) ρ L t = a1G P ty (ρ x) (lo.map ρ) (ρ hi) (ρ mx) L () := by rw [gA rfl]; rfl
@[go_sem] theorem bQX (cr pr : List (Nat × Nat)) (i : Nat) (ty : TypeId) (a : Operand) (M : List (Nat × Nat) → aD → aB → Prop) (t : Tag (Op.load ty a, M)) : aES P ib h cr pr i d (.load ty a) ρ M t = rdF cr i pr (iW P ty) (ρ a) h M () := by
 unfold aES aN4 rdF; simp only [iE, if_true]
 cases ρ a <;> rfl
@[go_sem] theorem bMA (cr pr : List (Nat × Nat)) (i : Nat) (op : Op) (M : List (Nat × Nat) → aD → aB → Prop) (t : Tag (op, M)) (hop : iE op = false) : aES P ib h cr pr i d op ρ M t = j3 P ib d op ρ h (fun v h' => a1H (aGU cr i pr h h') (M pr v h') ()) () := by
 unfold aES; rw [hop]; rfl
@[go_sem] theorem bQY (x : Operand) (i : Nat) (t : Tag (Op.extract x i, K)) : j3 P ib d (.extract x i) ρ h K t = exF (ρ x) i (fun v => K v h) () := by rw [fF rfl]; rfl
@[go_sem] theorem bQZ (x : Operand) (i : Nat) (t : Tag (Op.extract x i, L)) : stepG P ib d (.extract x i) ρ L t = exF (ρ x) i L () := by rw [gA rfl]; rfl
@[go_sem] theorem bQ0 (x : Operand) (t : Tag (Op.nilCheck x, K)) : j3 P ib d (.nilCheck x) ρ h K t = ncF (ρ x) (fun v => K v h) () := by rw [fF rfl]; rfl
@[go_sem] theorem bQ1 (x : Operand) (t : Tag (Op.nilCheck x, L)) : stepG P ib d (.nilCheck x) ρ L t = ncF (ρ x) L () := by rw [gA rfl]; rfl
@[go_sem] theorem bQ2 (f : Fn) (fs cs : Array Operand) (t : Tag (Op.makeFunc f fs cs, K)) : j3 P ib d (.makeFunc f fs cs) ρ h K t = K (.fn f (fs.toList.map ρ) (cs.toList.map ρ)) h := by rw [fF rfl]; rfl
@[go_sem] theorem bQ3 (f : Fn) (fs cs : Array Operand) (t : Tag (Op.makeFunc f fs cs, L)) : stepG P ib d (.makeFunc f fs cs) ρ L t = L (.fn f (fs.toList.map ρ) (cs.toList.map ρ)) := by rw [gA rfl]; rfl
@[go_sem] theorem bQ4 (ty : TypeId) (ps : Array (Nat × Operand)) (t : Tag (Op.build ty ps, K)) : j3 P ib d (.build ty ps) ρ h K t = buF P (iW P ty) (ps.toList.map fun p => (p.1, ρ p.2)) (fun v => K v h) () := by rw [fF rfl]; rfl
@[go_sem] theorem bQ5 (ty : TypeId) (ps : Array (Nat × Operand)) (t : Tag (Op.build ty ps, L)) : stepG P ib d (.build ty ps) ρ L t = buF P (iW P ty) (ps.toList.map fun p => (p.1, ρ p.2)) L () := by rw [gA rfl]; rfl
@[go_sem] theorem bKZ (f : Operand) (as : Array Operand) (ats : Array TypeId) (t : Tag (Op.call ⟨.value f, as, ats⟩, K)) : j3 P ib d (.call ⟨.value f, as, ats⟩) ρ h K t = a5S P (ρ f) (as.toList.map ρ) h K () := by rw [fF rfl]; rfl
@[go_sem] theorem bK0 (f : Operand) (as : Array Operand) (ats : Array TypeId) (t : Tag (Op.call ⟨.value f, as, ats⟩, L)) : stepG P ib d (.call ⟨.value f, as, ats⟩) ρ L t = a5T P (ρ f) (as.toList.map ρ) L () := by rw [gA rfl]; rfl
end
set_option linter.unusedVariables false
set_option linter.unusedSimpArgs false
section
variable (P : Program) (ib : List Nat) (d : Option Tmp) (ρ : Operand → aD) (h : aB) (K : aD → aB → Prop) (L : aD → Prop)
def ldG (r : Option lK) (a : aD) (K : aD → Prop) (_ : Tag K) : Prop := match a with
  | .ip sz es i off => jX r (.ip sz es i off) (fun _ => none) K
  | _ => False
@[go_sem] theorem bQ6 (ty : TypeId) (a : Operand) (t : Tag (Op.load ty a, L)) : stepG P ib d (.load ty a) ρ L t = ldG (iW P ty) (ρ a) L () := by
 rw [gA rfl]; simp only [aEQ, ldG]; cases ρ a <;> rfl
@[go_sem] theorem bMB (x : Operand) (ty : TypeId) (t : Tag (Op.call ⟨.builtin .len, #[x], #[ty]⟩, K)) : j3 P ib d (.call ⟨.builtin .len, #[x], #[ty]⟩) ρ h K t = aU2 P (xW P ty) (ρ x) (fun v => K v h) () := by rw [fF rfl]; rfl
@[go_sem] theorem bMC (x : Operand) (ty : TypeId) (t : Tag (Op.call ⟨.builtin .len, #[x], #[ty]⟩, L)) : stepG P ib d (.call ⟨.builtin .len, #[x], #[ty]⟩) ρ L t = aW3 P (xW P ty) (ρ x) L () := by rw [gA rfl]; rfl
def a1I (x y : aD) (K : aD → Prop) (_ : Tag K) : Prop := match x, y with
   | .int k a, .int k' b => k' = k ∧ K (.int k (max a b))
   | _, _ => False
@[go_sem] theorem bEJ (k k' : IntKind) (a b : Int) (t : Tag L) : a1I (.int k a) (.int k' b) L t = (k' = k ∧ L (.int k (max a b))) := rfl
theorem aSJ (x y : aD) (K : aD → Prop) : (match x, y with
   | .int k a, .int _ b => (match y with | .int k' _ => k' = k | _ => False) ∧ K (.int k (max a b))
   | _, _ => False) = a1I x y K () := by cases x <;> cases y <;> rfl
@[go_sem] theorem bMD (x y : Operand) (ats : Array TypeId) (t : Tag (Op.call ⟨.builtin .max, #[x, y], ats⟩, K)) : j3 P ib d (.call ⟨.builtin .max, #[x, y], ats⟩) ρ h K t = a1I (ρ x) (ρ y) (fun v => K v h) () := by
 rw [fF rfl, ← aSJ]; rfl
@[go_sem] theorem bME (x y : Operand) (ats : Array TypeId) (t : Tag (Op.call ⟨.builtin .max, #[x, y], ats⟩, L)) : stepG P ib d (.call ⟨.builtin .max, #[x, y], ats⟩) ρ L t = a1I (ρ x) (ρ y) L () := by
 rw [gA rfl, ← aSJ]; rfl
def apF (P : Program) (re : Option lK) (t1 : Option TypeId) (x y : aD) (h : aB) (K : aD → aB → Prop) (_ : Tag K) : Prop := wU P re t1 x y h K
def aBY (ib : List Nat) (d : Option Tmp) : Bool := match d with | some d => ib.contains d | none => false
@[go_sem] theorem a8F (k : Nat) : aBY ib (some k) = ib.contains k := rfl
def apI (i : Bool) (P : Program) (re : Option lK) (t1 : Option TypeId) (x y : aD) (h : aB) (K : aD → aB → Prop) (_ : Tag K) : Prop := if i then apF P re t1 x y h (aSD K) () else apF P re t1 x y h K ()
@[go_sem] theorem bMF (x y : Operand) (a b : TypeId) (t : Tag (Op.call ⟨.builtin .append, #[x, y], #[a, b]⟩, K)) : j3 P ib d (.call ⟨.builtin .append, #[x, y], #[a, b]⟩) ρ h K t = apI (aBY ib d) P (lR P a) (some b) (ρ x) (ρ y) h K () := by
 unfold j3 tC apI aBY
 cases d with
 |none => rfl
 |some d => simp only; split <;> rfl
@[go_sem] theorem bQ7 (re : Option lK) (t1 : Option TypeId) (x y : aD) (t : Tag K) : apI true P re t1 x y h K t = apF P re t1 x y h (aSD K) () := rfl
@[go_sem] theorem bQ8 (re : Option lK) (t1 : Option TypeId) (x y : aD) (t : Tag K) : apI false P re t1 x y h K t = apF P re t1 x y h K () := rfl
def aW4 (i r : Bool) (ty : TypeId) (x : aD) (h : aB) (K : aD → aB → Prop) (_ : Tag K) : Prop := if i then aGL x (fun v => K v h) else if r then aSC ty x h K else aSB x h K
@[go_sem] theorem bMG (ty : TypeId) (x : Operand) (t : Tag (Op.box ty x, K)) : j3 P ib d (.box ty x) ρ h K t = aW4 (aBY ib d) (a7Q ty) ty (ρ x) h K () := by
 unfold j3 tC aW4 aBY
 cases d with
 |none => rfl
 |some d => simp only; split <;> rfl
@[go_sem] theorem bK3 (ty : TypeId) : a7Q ty = (match aWI with | none => false | some r => decide (ty = r)) := rfl
attribute [go_sem] aWI
@[go_sem] theorem bMH (r : Bool) (ty : TypeId) (x : aD) (t : Tag K) : aW4 true r ty x h K t = (x.cells.all aD.flat = true ∧ K (.ip x.cells.length [x.cells] 0 0) h) := rfl
@[go_sem] theorem bMI (ty : TypeId) (x : aD) (t : Tag K) : aW4 false true ty x h K t = (x.cells = [.jV, .bH] ∧ ∀ n, h n = none → K (.op n 2 0 0) (aR h n (.raw ty #[.pointer none, .slice none 0 0]))) := rfl
@[go_sem] theorem bMJ (ty : TypeId) (x : aD) (t : Tag K) : aW4 false false ty x h K t = (x.cells.all aD.flat = true ∧ ∀ n, h n = none → K (.op n x.cells.length 0 0) (aR h n (.row x.cells.length [x.cells.map .v]))) := rfl
def bsF (i : Bool) (re : Option lK) (len : Nat) (ps : List (Nat × aD)) (h : aB) (K : aD → aB → Prop) (_ : Tag K) : Prop :=
 if i then tB re len ps (fun sz es => K (.sl sz es true) h) else tB re len ps fun sz es => ∀ n, h n = none → K (.os n sz 0 len) (aR h n (.row sz (es.map (List.map .v))))
def bsG (i : Bool) (re : Option lK) (len : Nat) (ps : List (Nat × aD)) (K : aD → Prop) (_ : Tag K) : Prop :=
 if i then tB re len ps (fun sz es => K (.sl sz es true)) else False
@[go_sem] theorem bQ9 (ty : TypeId) (len : Nat) (ps : Array (Nat × Operand)) (t : Tag (Op.buildSlice ty len ps, K)) : j3 P ib d (.buildSlice ty len ps) ρ h K t = bsF (aBY ib d) (lR P ty) len (ps.toList.map fun p => (p.1, ρ p.2)) h K () := by
 unfold j3 tC bsF aBY
 cases d with
 |none => rfl
 |some d => simp only; split <;> rfl
@[go_sem] theorem bRA (ty : TypeId) (len : Nat) (ps : Array (Nat × Operand)) (t : Tag (Op.buildSlice ty len ps, L)) : stepG P ib d (.buildSlice ty len ps) ρ L t = bsG (aBY ib d) (lR P ty) len (ps.toList.map fun p => (p.1, ρ p.2)) L () := by
 unfold stepG aDO bsG aBY
 cases d with
 |none => rfl
 |some d => simp only; split <;> rfl
@[go_sem] theorem bRB (re : lK) (len : Nat) (ps : List (Nat × aD)) (t : Tag K) : bsF true (some re) len ps h K t = (re.zero.length = re.sz ∧ 0 < re.sz ∧ re.zero.all aD.flat = true ∧ len * re.sz ≤ 16777216 ∧ qS len re.sz ps = true ∧ K (.sl re.sz (s9 (List.replicate len re.zero) ps) true) h) := rfl
@[go_sem] theorem bRC (re : lK) (len : Nat) (ps : List (Nat × aD)) (t : Tag L) : bsG true (some re) len ps L t = (re.zero.length = re.sz ∧ 0 < re.sz ∧ re.zero.all aD.flat = true ∧ len * re.sz ≤ 16777216 ∧ qS len re.sz ps = true ∧ L (.sl re.sz (s9 (List.replicate len re.zero) ps) true)) := rfl
@[go_sem] theorem bRD (re : lK) (len : Nat) (ps : List (Nat × aD)) (t : Tag K) : bsF false (some re) len ps h K t = (re.zero.length = re.sz ∧ 0 < re.sz ∧ re.zero.all aD.flat = true ∧ len * re.sz ≤ 16777216 ∧ qS len re.sz ps = true ∧ ∀ n, h n = none → K (.os n re.sz 0 len) (aR h n (.row re.sz ((s9 (List.replicate len re.zero) ps).map (List.map .v))))) := rfl
@[go_sem] theorem bEK (g : FuncId) (first cap args : List aD) (t : Tag K) : a5S P (.fn (.func g) first cap) args h K t = aH P g (first ++ args ++ cap) h K () := rfl
@[go_sem] theorem bEL (g : FuncId) (first cap args : List aD) (t : Tag L) : a5T P (.fn (.func g) first cap) args L t = aF P g (first ++ args ++ cap) L () := rfl
@[go_sem] theorem bEM (ty : TypeId) (k k' : IntKind) (a b : Int) (t : Tag L) : lN P .add ty (.int k a) (.int k' b) L t = fR (mV .add (.int k a) (.int k' b)) L () := by simp only [lN, fX, fR]; cases mV _ _ _ <;> rfl
@[go_sem] theorem bEN (ty : TypeId) (k k' : IntKind) (a b : Int) (t : Tag L) : lN P .sub ty (.int k a) (.int k' b) L t = fR (mV .sub (.int k a) (.int k' b)) L () := by simp only [lN, fX, fR]; cases mV _ _ _ <;> rfl
@[go_sem] theorem bEO (ty : TypeId) (k k' : IntKind) (a b : Int) (t : Tag L) : lN P .mul ty (.int k a) (.int k' b) L t = fR (mV .mul (.int k a) (.int k' b)) L () := by simp only [lN, fX, fR]; cases mV _ _ _ <;> rfl
@[go_sem] theorem bEP (ty : TypeId) (k k' : IntKind) (a b : Int) (t : Tag L) : lN P .and ty (.int k a) (.int k' b) L t = fR (mV .and (.int k a) (.int k' b)) L () := by simp only [lN, fX, fR]; cases mV _ _ _ <;> rfl
@[go_sem] theorem bK5 (ty : TypeId) (k k' : IntKind) (a b : Int) (t : Tag L) : lN P .or ty (.int k a) (.int k' b) L t = fR (mV .or (.int k a) (.int k' b)) L () := by simp only [lN, fX, fR]; cases mV _ _ _ <;> rfl
@[go_sem] theorem bEQ (ty : TypeId) (k k' : IntKind) (a b : Int) (t : Tag L) : lN P .xor ty (.int k a) (.int k' b) L t = fR (mV .xor (.int k a) (.int k' b)) L () := by simp only [lN, fX, fR]; cases mV _ _ _ <;> rfl
@[go_sem] theorem a5U (ty : TypeId) (k k' : IntKind) (a b : Int) (t : Tag L) : lN P .andNot ty (.int k a) (.int k' b) L t = fR (mV .andNot (.int k a) (.int k' b)) L () := by simp only [lN, fX, fR]; cases mV _ _ _ <;> rfl
@[go_sem] theorem bER (ty : TypeId) (k k' : IntKind) (a b : Int) (t : Tag L) : lN P .eql ty (.int k a) (.int k' b) L t = fR (mV .eql (.int k a) (.int k' b)) L () := by simp only [lN, fX, fR]; cases mV _ _ _ <;> rfl
@[go_sem] theorem bES (ty : TypeId) (k k' : IntKind) (a b : Int) (t : Tag L) : lN P .neq ty (.int k a) (.int k' b) L t = fR (mV .neq (.int k a) (.int k' b)) L () := by simp only [lN, fX, fR]; cases mV _ _ _ <;> rfl
@[go_sem] theorem bET (ty : TypeId) (k k' : IntKind) (a b : Int) (t : Tag L) : lN P .lss ty (.int k a) (.int k' b) L t = fR (mV .lss (.int k a) (.int k' b)) L () := by simp only [lN, fX, fR]; cases mV _ _ _ <;> rfl
@[go_sem] theorem bEU (ty : TypeId) (k k' : IntKind) (a b : Int) (t : Tag L) : lN P .leq ty (.int k a) (.int k' b) L t = fR (mV .leq (.int k a) (.int k' b)) L () := by simp only [lN, fX, fR]; cases mV _ _ _ <;> rfl
@[go_sem] theorem bEV (ty : TypeId) (k k' : IntKind) (a b : Int) (t : Tag L) : lN P .gtr ty (.int k a) (.int k' b) L t = fR (mV .gtr (.int k a) (.int k' b)) L () := by simp only [lN, fX, fR]; cases mV _ _ _ <;> rfl
@[go_sem] theorem bEW (ty : TypeId) (k k' : IntKind) (a b : Int) (t : Tag L) : lN P .geq ty (.int k a) (.int k' b) L t = fR (mV .geq (.int k a) (.int k' b)) L () := by simp only [lN, fX, fR]; cases mV _ _ _ <;> rfl
@[go_sem] theorem bEX (ty : TypeId) (k k' : IntKind) (a b : Int) (t : Tag L) : lN P .quo ty (.int k a) (.int k' b) L t = (k = k' ∧ b ≠ 0 ∧ L (.int k (k.wrap (a.tdiv b)))) := rfl
@[go_sem] theorem bEY (ty : TypeId) (k k' : IntKind) (a b : Int) (t : Tag L) : lN P .rem ty (.int k a) (.int k' b) L t = (k = k' ∧ b ≠ 0 ∧ L (.int k (a.tmod b))) := rfl
@[go_sem] theorem bEZ (ty : TypeId) (k k' : IntKind) (a b : Int) (t : Tag L) : lN P .shl ty (.int k a) (.int k' b) L t = (0 ≤ b ∧ L (.int k (k.wrap (a * 2 ^ (min b.toNat k.bits))))) := rfl
@[go_sem] theorem bE0 (ty : TypeId) (k k' : IntKind) (a b : Int) (t : Tag L) : lN P .shr ty (.int k a) (.int k' b) L t = (0 ≤ b ∧ L (.int k (a.fdiv (2 ^ (min b.toNat k.bits))))) := rfl
@[go_sem] theorem bC2 (ty : TypeId) (a b : List UInt8) (t : Tag L) : lN P .add ty (.str a) (.str b) L t = (a.length + b.length ≤ 9223372036854775807 ∧ L (.str (a ++ b))) := rfl
@[go_sem] theorem bC3 (ty : TypeId) (a b : List UInt8) (t : Tag L) : lN P .eql ty (.str a) (.str b) L t = L (.bool (decide (a = b))) := rfl
@[go_sem] theorem bC4 (ty : TypeId) (a b : List UInt8) (t : Tag L) : lN P .neq ty (.str a) (.str b) L t = L (.bool (!decide (a = b))) := rfl
@[go_sem] theorem bC5 (ty : TypeId) (a b : List UInt8) (t : Tag L) : lN P .lss ty (.str a) (.str b) L t = L (.bool (Op.bytesLess a b)) := rfl
@[go_sem] theorem bC6 (ty : TypeId) (a b : Bool) (t : Tag L) : lN P .eql ty (.bool a) (.bool b) L t = (xW P ty = some .bool ∧ L (.bool (a == b))) := rfl
@[go_sem] theorem bC7 (ty : TypeId) (a b : Bool) (t : Tag L) : lN P .neq ty (.bool a) (.bool b) L t = (xW P ty = some .bool ∧ L (.bool (a != b))) := rfl
@[go_sem] theorem a0R (v : Value) : sK (.const v) = true := rfl
@[go_sem] theorem a5V (v : Tmp) : sK (.tmp v) = false := rfl
@[go_sem] theorem aW5 (v : Nat) : sK (.global v) = false := rfl
@[go_sem] theorem a1J (v : FuncId) : sK (.func v) = false := rfl
@[go_sem] theorem bE1 (op : BinOp) (ty : TypeId) (c : Bool) (k : IntKind) (a : Int) (y : aD) (t : Tag L) : aG0 P op ty c (.int k a) y L t = lN P op ty (.int k a) y L () := by cases c <;> rfl
@[go_sem] theorem bC8 (op : BinOp) (ty : TypeId) (c : Bool) (a : Bool) (y : aD) (t : Tag L) : aG0 P op ty c (.bool a) y L t = lN P op ty (.bool a) y L () := by cases c <;> rfl
@[go_sem] theorem bE2 (op : BinOp) (ty : TypeId) (c : Bool) (a : List UInt8) (y : aD) (t : Tag L) : aG0 P op ty c (.str a) y L t = lN P op ty (.str a) y L () := by cases c <;> rfl
@[go_sem] theorem bK6 (op : BinOp) (ty : TypeId) (c : Bool) (sz : Nat) (es : List (List aD)) (b : Bool) (y : aD) (t : Tag L) : aG0 P op ty c (.sl sz es b) y L t = aE5 P op ty (.sl sz es b) y L () := by cases c <;> rfl
@[go_sem] theorem bE3 (ty ti : TypeId) (v : aD) (t : Tag L) : aG0 P .eql ty true (.iface ti v) .lT L t = (aEP P ty = true ∧ L (.bool false)) := rfl
@[go_sem] theorem bE4 (ty : TypeId) (t : Tag L) : aG0 P .eql ty true .lT .lT L t = (aEP P ty = true ∧ L (.bool true)) := rfl
@[go_sem] theorem bC9 (ty ti : TypeId) (v : aD) (t : Tag L) : aG0 P .neq ty true (.iface ti v) .lT L t = (aEP P ty = true ∧ L (.bool true)) := rfl
@[go_sem] theorem bDA (ty : TypeId) (t : Tag L) : aG0 P .neq ty true .lT .lT L t = (aEP P ty = true ∧ L (.bool false)) := rfl
@[go_sem] theorem bE5 (op : BinOp) (ty : TypeId) (k : IntKind) (a : Int) (y : aD) (t : Tag L) : aE5 P op ty (.int k a) y L t = lN P op ty (.int k a) y L () := rfl
@[go_sem] theorem bDB (op : BinOp) (ty : TypeId) (a : Bool) (y : aD) (t : Tag L) : aE5 P op ty (.bool a) y L t = lN P op ty (.bool a) y L () := rfl
@[go_sem] theorem bE6 (op : BinOp) (ty : TypeId) (a : List UInt8) (y : aD) (t : Tag L) : aE5 P op ty (.str a) y L t = lN P op ty (.str a) y L () := rfl
@[go_sem] theorem bE7 (ty : TypeId) (sz : Nat) (es : List (List aD)) (b : Bool) (t : Tag L) : aE5 P .eql ty (.sl sz es b) .bH L t = ((match xW P ty with | some (.slice _) => True | _ => False) ∧ (es = [] → L (.bool true)) ∧ L (.bool false)) := rfl
@[go_sem] theorem bDC (ty : TypeId) (sz : Nat) (es : List (List aD)) (b : Bool) (t : Tag L) : aE5 P .neq ty (.sl sz es b) .bH L t = ((match xW P ty with | some (.slice _) => True | _ => False) ∧ (es = [] → L (.bool false)) ∧ L (.bool true)) := rfl
@[go_sem] theorem bK7 (op : BinOp) (ty : TypeId) (c : Bool) (m sz i len : Nat) (y : aD) (t : Tag L) : aG0 P op ty c (.os m sz i len) y L t = aE5 P op ty (.os m sz i len) y L () := by cases c <;> rfl
@[go_sem] theorem bE8 (op : BinOp) (ty : TypeId) (c : Bool) (y : aD) (t : Tag L) : aG0 P op ty c .bH y L t = aE5 P op ty .bH y L () := by cases c <;> rfl
@[go_sem] theorem bK8 (ty : TypeId) (m sz i len : Nat) (t : Tag L) : aE5 P .eql ty (.os m sz i len) .bH L t = ((match xW P ty with | some (.slice _) => True | _ => False) ∧ (len = 0 → L (.bool true)) ∧ L (.bool false)) := rfl
@[go_sem] theorem bE9 (ty : TypeId) (m sz i len : Nat) (t : Tag L) : aE5 P .neq ty (.os m sz i len) .bH L t = ((match xW P ty with | some (.slice _) => True | _ => False) ∧ (len = 0 → L (.bool false)) ∧ L (.bool true)) := rfl
@[go_sem] theorem bK9 (ty : TypeId) (t : Tag L) : aE5 P .eql ty .bH .bH L t = ((match xW P ty with | some (.slice _) => True | _ => False) ∧ L (.bool true)) := rfl
@[go_sem] theorem bFA (ty : TypeId) (t : Tag L) : aE5 P .neq ty .bH .bH L t = ((match xW P ty with | some (.slice _) => True | _ => False) ∧ L (.bool false)) := rfl
@[go_sem] theorem bLA (b : Bool) (t : Tag L) : unF .not (.bool b) L t = L (.bool (!b)) := rfl
@[go_sem] theorem bLB (k : IntKind) (n : Int) (t : Tag L) : unF .neg (.int k n) L t = L (.int k (k.wrap (0 - n))) := rfl
@[go_sem] theorem bLC (s : TyD) (k k' : IntKind) (n : Int) (t : Tag L) : cvF P (some s) (some (.int k')) (.int k n) L t = L (.int k' (k'.wrap n)) := by simp [cvF]
@[go_sem] theorem bDD (et : TypeId) (es : List (List aD)) (b : Bool) (t : Tag L) : cvF P (some (.slice et)) (some .str) (.sl 1 es b) L t = (xW P et = some (.int .u8) ∧ fR (bytesOf es) (fun bs => L (.str bs)) ()) := by
 simp only [cvF, fR]; cases bytesOf es <;> rfl
@[go_sem] theorem bML (cr pr : List (Nat × Nat)) (i : Nat) (r : Option lK) (n sz j off : Nat) (M : List (Nat × Nat) → aD → aB → Prop) (t : Tag M) : rdF cr i pr r (.op n sz j off) h M t = ldF r (.op n sz j off) h (fun v => M (aN6 cr i (some n) pr) v h) () := rfl
@[go_sem] theorem bMM (cr pr : List (Nat × Nat)) (i : Nat) (r : Option lK) (sz j off : Nat) (es : List (List aD)) (M : List (Nat × Nat) → aD → aB → Prop) (t : Tag M) : rdF cr i pr r (.ip sz es j off) h M t = ldF r (.ip sz es j off) h (fun v => M (aN6 cr i none pr) v h) () := rfl
attribute [go_sem] aN6 aWU x8 aGU bytesOf
@[go_sem] theorem a5W (x : Operand) : iE (.move x) = false := rfl
@[go_sem] theorem a0S (x : Operand) : iE (.assign x) = false := rfl
@[go_sem] theorem a1K (x : TypeId) : iE (.alloc x) = false := rfl
@[go_sem] theorem a8G (x : TypeId) (v : Operand) : iE (.box x v) = false := rfl
@[go_sem] theorem bDE (x : TypeId) (l : Nat) (ps : Array (Nat × Operand)) : iE (.buildSlice x l ps) = false := rfl
@[go_sem] theorem a1L (x : TypeId) (ps : Array (Nat × Operand)) : iE (.build x ps) = false := rfl
@[go_sem] theorem a1M (x : TypeId) (a v : Operand) : iE (.store x a v) = false := rfl
@[go_sem] theorem bDF (x : TypeId) (a v : Operand) : iE (.makeSlice x a v) = false := rfl
@[go_sem] theorem a5X (c : Call) : iE (.call c) = false := rfl
@[go_sem] theorem bDG (x : TypeId) (r : Option Operand) : iE (.makeMap x r) = false := rfl
@[go_sem] theorem a0T (x : TypeId) (a b : Operand) (c : Bool) : iE (.lookup x a b c) = false := rfl
@[go_sem] theorem bDH (x : TypeId) (a b c : Operand) : iE (.mapUpdate x a b c) = false := rfl
@[go_sem] theorem bDI (x : TypeId) (a b : Operand) : iE (.mapEntry x a b) = false := rfl
@[go_sem] theorem bDJ (x : TypeId) (a b c : Operand) : iE (.entryStore x a b c) = false := rfl
@[go_sem] theorem a8H (x : TypeId) (a b c : Operand) : iE (.insert x a b c) = false := rfl
@[go_sem] theorem a1N (x : TypeId) (a : Operand) : iE (.range x a) = false := rfl
@[go_sem] theorem a5Y (a : Operand) (b : Bool) : iE (.next a b) = false := rfl
@[go_sem] theorem a1O (a : Operand) : iE (.entry a) = false := rfl
@[go_sem] theorem a1P (x : TypeId) (a : Operand) (b c d : Option Operand) : iE (.slice x a b c d) = false := rfl
@[go_sem] theorem bDK (x : TypeId) (a b : Operand) : iE (.indexAddr x a b) = false := rfl
@[go_sem] theorem bDL (x : TypeId) (a : Operand) (b : Nat) : iE (.fieldAddr x a b) = false := rfl
@[go_sem] theorem bDM (a : Operand) (b : Nat) : iE (.extract a b) = false := rfl
@[go_sem] theorem bDN (f : Fn) (a b : Array Operand) : iE (.makeFunc f a b) = false := rfl
@[go_sem] theorem a5Z (a b : TypeId) (x : Operand) : iE (.convert a b x) = false := rfl
@[go_sem] theorem a8I (o : BinOp) (a b : TypeId) (x y : Operand) : iE (.binOp o a x y b) = false := rfl
@[go_sem] theorem a50 (x y z : Operand) : iE (.pick x y z) = false := rfl
@[go_sem] theorem bDO (x : Operand) : iE (.nilCheck x) = false := rfl
def aW6 (fs : List (Nat × TypeId × Nat)) (f : Nat) (K : Nat → Prop) (_ : Tag K) : Prop := match fs[f]? with | some (off, _, sz') => sz' ≠ 0 ∧ K off | none => False
@[go_sem] theorem bDP (off sz : Nat) (ty : TypeId) (fs : List (Nat × TypeId × Nat)) (M : Nat → Prop) (t : Tag M) : aW6 ((off, ty, sz) :: fs) 0 M t = (sz ≠ 0 ∧ M off) := rfl
@[go_sem] theorem bDQ (x : Nat × TypeId × Nat) (fs : List (Nat × TypeId × Nat)) (n : Nat) (M : Nat → Prop) (t : Tag M) : aW6 (x :: fs) (n + 1) M t = aW6 fs n M () := rfl
@[go_sem] theorem bMN (fs : List (Nat × TypeId × Nat)) (f n sz i k : Nat) (t : Tag L) : faF (some (.st fs)) f (.op n sz i k) L t = aW6 fs f (fun off => L (.op n sz i (k + off))) () := rfl
@[go_sem] theorem bMO (fs : List (Nat × TypeId × Nat)) (f sz i k : Nat) (es : List (List aD)) (t : Tag L) : faF (some (.st fs)) f (.ip sz es i k) L t = aW6 fs f (fun off => L (.ip sz es i (k + off))) () := rfl
@[go_sem] theorem bMP (re : lK) (sz : Nat) (es : List (List aD)) (b : Bool) (k : IntKind) (n : Int) (t : Tag L) : iaF (some re) (.sl sz es b) (.int k n) L t = (re.sz = sz ∧ 0 ≤ n ∧ n < es.length ∧ L (.ip sz es n.toNat 0)) := rfl
@[go_sem] theorem bMQ (re : lK) (m sz i0 len : Nat) (k : IntKind) (n : Int) (t : Tag L) : iaF (some re) (.os m sz i0 len) (.int k n) L t = (re.sz = sz ∧ 0 ≤ n ∧ n < len ∧ L (.op m sz (i0 + n.toNat) 0)) := rfl
@[go_sem] theorem bLD (s : List UInt8) (k : IntKind) (n : Int) (t : Tag L) : ixF (some .str) (.str s) (.int k n) L t = (0 ≤ n ∧ fR s[n.toNat]? (fun c => L (.int .u8 c.toNat)) ()) := by
 simp only [ixF, aAV, fR]; cases s[n.toNat]? <;> rfl
@[go_sem] theorem bMR (r : lK) (sz i off : Nat) (es : List (List aD)) (t : Tag L) : ldF (some r) (.ip sz es i off) h L t = fR es[i]? (fun e => fR (ld r e off) L ()) () := by
 simp only [ldF, jX, fR]
 cases es[i]? with
 |none => rfl
 |some e => simp only; cases ld r e off <;> rfl
@[go_sem] theorem bMS (r : lK) (sz i off : Nat) (es : List (List aD)) (t : Tag L) : ldG (some r) (.ip sz es i off) L t = fR es[i]? (fun e => fR (ld r e off) L ()) () := by
 simp only [ldG, jX, fR]
 cases es[i]? with
 |none => rfl
 |some e => simp only; cases ld r e off <;> rfl
def aQO (o : Option bP) (K : Nat → List (List Cell) → Prop) (_ : Tag K) : Prop := match o with | some (.row sz es) => K sz es | _ => False
@[go_sem] theorem bFB (sz : Nat) (es : List (List Cell)) (M : Nat → List (List Cell) → Prop) (t : Tag M) : aQO (some (.row sz es)) M t = M sz es := rfl
@[go_sem] theorem bMT (r : lK) (n sz i off : Nat) (t : Tag L) : ldF (some r) (.op n sz i off) h L t = aQO (h n) (fun sz' es => sz' = sz ∧ fR es[i]? (fun e => fR (aEI r e off) L ()) ()) () := by
 simp only [ldF, jX, aQO]
 cases h n with
 |none => rfl
 |some o =>
  cases o with
  |row sz' es =>
   simp only [fR]
   cases es[i]? with
   |none => rfl
   |some e => simp only; cases aEI r e off <;> rfl
  | _ => rfl
@[go_sem] theorem bMU (r : lK) (n sz i off : Nat) (v : aD) (M : aB → Prop) (t : Tag M) : stF (some r) (.op n sz i off) v h M t = aQO (h n) (fun sz' es => sz' = sz ∧ fR es[i]? (fun e => v.cells.all aD.flat = true ∧ v.cells.length = r.sz ∧ off + r.sz ≤ e.length ∧ M (aR h n (.row sz (es.set i (o8 e off v.cells))))) ()) () := by
 simp only [stF, aKL, aQO]
 cases h n with
 |none => rfl
 |some o =>
  cases o with
  |row sz' es => simp only [fR]; cases es[i]? <;> rfl
  | _ => rfl
@[go_sem] theorem bMV (re : lK) (t1 : Option TypeId) (n sz i len : Nat) (y : aD) (t : Tag K) : apF P (some re) t1 (.os n sz i len) y h K t = (re.zero.length = re.sz ∧ 0 < re.sz ∧ yK P t1 = true ∧ re.sz = sz ∧ aQO (h n) (fun sz' es => sz' = sz ∧ i + len ≤ es.length ∧ fR (tV h sz y) (fun ys => (len + ys.length) * re.bytes ≤ 140737488355328 ∧ len + ys.length ≤ 9223372036854775807 ∧
  ∀ b, h b = none → K (.os b sz 0 (len + ys.length)) (aR (aR h n .gone) b (.row sz ((es.drop i).take len ++ ys.map (List.map .v))))) ()) ()) := by
 simp only [apF, wU, aQO]
 cases h n with
 |none => rfl
 |some o =>
  cases o with
  |row sz' es => simp only [fR]; cases tV h sz y <;> rfl
  | _ => rfl
@[go_sem] theorem bMW (re : lK) (t1 : Option TypeId) (sz : Nat) (es : List (List aD)) (tg : Bool) (y : aD) (t : Tag K) : apF P (some re) t1 (.sl sz es tg) y h K t = (re.zero.length = re.sz ∧ 0 < re.sz ∧ yK P t1 = true ∧ fR (aBP re.sz (.sl sz es tg)) (fun olds => fR (tV h re.sz y) (fun ys => (ys = [] → K (.sl sz es tg) h) ∧ (ys ≠ [] → (olds.length + ys.length) * re.bytes ≤ 140737488355328 ∧ olds.length + ys.length ≤ 9223372036854775807 ∧
  ∀ n, h n = none → K (.os n re.sz 0 (olds.length + ys.length)) (aR h n (.row re.sz ((olds ++ ys).map (List.map .v)))))) ()) ()) := by
 simp only [apF, wU]
 cases hd : aBP re.sz (.sl sz es tg) with
 |none => rfl
 |some olds => simp only [fR]; cases tV h re.sz y <;> rfl
@[go_sem] theorem bLE (re : lK) (t1 : Option TypeId) (y : aD) (t : Tag K) : apF P (some re) t1 .bH y h K t = (re.zero.length = re.sz ∧ 0 < re.sz ∧ yK P t1 = true ∧ fR (tV h re.sz y) (fun ys => (ys = [] → K .bH h) ∧ (ys ≠ [] → ((([] : List (List aD)).length) + ys.length) * re.bytes ≤ 140737488355328 ∧ (([] : List (List aD)).length) + ys.length ≤ 9223372036854775807 ∧
  ∀ n, h n = none → K (.os n re.sz 0 ((([] : List (List aD)).length) + ys.length)) (aR h n (.row re.sz (([] ++ ys).map (List.map .v)))))) ()) := by
 simp only [apF, wU, aBP]
 cases tV h re.sz y <;> rfl
@[go_sem] theorem bFC (r : lK) (t : Tag K) : alF (some r) h K t = (r.zero ≠ [] ∧ r.zero.all aD.flat = true ∧ ∀ n, h n = none → K (.op n r.zero.length 0 0) (aR h n (.row r.zero.length [r.zero.map .v]))) := rfl
@[go_sem] theorem bLF (re : lK) (k k' : IntKind) (a b : Int) (t : Tag K) : mkF (some re) (.int k a) (.int k' b) h K t = (re.zero.length = re.sz ∧ 0 < re.sz ∧ re.zero.all aD.flat = true ∧ 0 ≤ a ∧ a ≤ b ∧ b ≤ 281474976710656 ∧ re.bytes * b ≤ 281474976710656 ∧
    ∀ n, h n = none → K (.os n re.sz 0 a.toNat) (aR h n (.row re.sz ((List.replicate b.toNat re.zero).map (List.map .v))))) := rfl
@[go_sem] theorem bLG (et : TypeId) (sz : Nat) (es : List (List aD)) (b : Bool) (t : Tag L) : aU2 P (some (.slice et)) (.sl sz es b) L t = (es.length ≤ 9223372036854775807 → L (.int .i64 es.length)) := rfl
@[go_sem] theorem bLH (et : TypeId) (m sz i n : Nat) (t : Tag L) : aU2 P (some (.slice et)) (.os m sz i n) L t = (n ≤ 9223372036854775807 → L (.int .i64 n)) := rfl
@[go_sem] theorem bFD (et : TypeId) (t : Tag L) : aU2 P (some (.slice et)) .bH L t = L (.int .i64 0) := rfl
@[go_sem] theorem bFE (s : List UInt8) (t : Tag L) : aU2 P (some .str) (.str s) L t = (s.length ≤ 9223372036854775807 → L (.int .i64 s.length)) := rfl
@[go_sem] theorem bLI (et : TypeId) (sz : Nat) (es : List (List aD)) (b : Bool) (t : Tag L) : aW3 P (some (.slice et)) (.sl sz es b) L t = L (.int .i64 es.length) := rfl
@[go_sem] theorem bLJ (et : TypeId) (m sz i n : Nat) (t : Tag L) : aW3 P (some (.slice et)) (.os m sz i n) L t = L (.int .i64 n) := rfl
@[go_sem] theorem bFF (et : TypeId) (t : Tag L) : aW3 P (some (.slice et)) .bH L t = L (.int .i64 0) := rfl
@[go_sem] theorem bFG (s : List UInt8) (t : Tag L) : aW3 P (some .str) (.str s) L t = L (.int .i64 s.length) := rfl
@[go_sem] theorem bLK (cs : List aD) (i : Nat) (t : Tag L) : exF (.iI cs) i L t = fR cs[i]? L () := by
 simp only [exF, fR]; cases cs[i]? <;> rfl
@[go_sem] theorem bMX (n sz i k : Nat) (t : Tag L) : ncF (.op n sz i k) L t = L (.op n sz i k) := rfl
@[go_sem] theorem bMY (sz i k : Nat) (es : List (List aD)) (t : Tag L) : ncF (.ip sz es i k) L t = L (.ip sz es i k) := rfl
@[go_sem] theorem bFH (r : lK) (ps : List (Nat × aD)) (t : Tag L) : buF P (some r) ps L t = (yN P r.d = true ∧ r.zero ≠ [] ∧ wS (r6 P r.d) r.zero.length ps = true ∧ L (.agg (aGG (r6 P r.d) r.zero ps))) := rfl
@[go_sem] theorem bMZ (ty : TypeId) (sz : Nat) (es : List (List aD)) (b : Bool) (lo hi : Option aD) (t : Tag L) : slF P ty (.sl sz es b) lo hi L t = fR (lR P ty) (fun re => re.sz = sz ∧ fR (jW 0 lo) (fun l => fR (jW es.length hi) (fun m => 0 ≤ l ∧ l ≤ m ∧ m ≤ es.length ∧ L (.sl sz ((es.take m.toNat).drop l.toNat) (b && decide (m = es.length)))) ()) ()) () := by
 simp only [slF, mQ, fR]
 cases lR P ty with
 |none => rfl
 |some re =>
  simp only
  cases jW 0 lo with
  |none => rfl
  |some l => simp only; cases jW es.length hi <;> rfl
@[go_sem] theorem bM0 (ty : TypeId) (n sz i len : Nat) (lo hi : Option aD) (t : Tag L) : slF P ty (.os n sz i len) lo hi L t = fR (lR P ty) (fun re => re.sz = sz ∧ fR (jW 0 lo) (fun l => fR (jW len hi) (fun m => 0 ≤ l ∧ l < m ∧ m ≤ len ∧ L (.os n sz (i + l.toNat) (m.toNat - l.toNat))) ()) ()) () := by
 simp only [slF, mQ, fR]
 cases lR P ty with
 |none => rfl
 |some re =>
  simp only
  cases jW 0 lo with
  |none => rfl
  |some l => simp only; cases jW len hi <;> rfl
@[go_sem] theorem bLL (ty : TypeId) (s : List UInt8) (lo hi : Option aD) (t : Tag L) : slD P ty (.str s) lo hi L t = slF P ty (.str s) lo hi L () := by cases hi <;> rfl
@[go_sem] theorem bM1 (ty : TypeId) (sz : Nat) (es : List (List aD)) (b : Bool) (lo hi : Option aD) (t : Tag L) : slD P ty (.sl sz es b) lo hi L t = slF P ty (.sl sz es b) lo hi L () := by cases hi <;> rfl
@[go_sem] theorem bM2 (ty : TypeId) (n sz i len : Nat) (lo : Option aD) (y : aD) (t : Tag L) : slD P ty (.os n sz i len) lo (some y) L t = slF P ty (.os n sz i len) lo (some y) L () := rfl
@[go_sem] theorem bLM (ty : TypeId) (n sz i len : Nat) (lo : Option aD) (t : Tag L) : slD P ty (.os n sz i len) lo none L t = fR (lR P ty) (fun re => re.sz = sz ∧ fR (jW 0 lo) (fun l => 0 ≤ l ∧ l ≤ len ∧ (l < len → L (.os n sz (i + l.toNat) (len - l.toNat))) ∧ (l = len → L (.os n sz (i + len) 0) ∧ L (.sl sz [] true))) ()) () := by
 simp only [slD, qU, fR]
 cases lR P ty with
 |none => rfl
 |some re =>
  simp only
  cases jW 0 lo <;> rfl
@[go_sem] theorem bLN (ty : TypeId) (sz : Nat) (es : List (List aD)) (b : Bool) (lo : Option aD) (hi mx : aD) (t : Tag L) : a1G P ty (.sl sz es b) lo hi mx L t = fR (lR P ty) (fun re => re.sz = sz ∧ fR (jW 0 lo) (fun l => fR (jW es.length (some hi)) (fun m => fR (jW 0 (some mx)) (fun M => 0 ≤ l ∧ l ≤ m ∧ m ≤ M ∧ M ≤ es.length ∧ L (.sl sz ((es.take m.toNat).drop l.toNat) (decide (M = m)))) ()) ()) ()) () := by
 simp only [a1G, pB, fR]
 cases lR P ty with
 |none => rfl
 |some re =>
  simp only
  cases jW 0 lo with
  |none => rfl
  |some l =>
   simp only
   cases jW es.length (some hi) with
   |none => rfl
   |some m => simp only; cases jW 0 (some mx) <;> rfl
def aQP (P : Program) (τ : bL) (h : aB) (l : List ResultVar) (M : List aD → Prop) (_ : Tag M) : Prop := aWR P τ h l M
@[go_sem] theorem bFI (τ : bL) (M : List aD → Prop) (t : Tag M) : aQP P τ h [] M t = M [] := rfl
@[go_sem] theorem bFJ (τ : bL) (s : Tmp) (l : List ResultVar) (M : List aD → Prop) (t : Tag M) : aQP P τ h (.tmp s :: l) M t = aQP P τ h l (fun vs => M (bZ τ s :: vs)) () := rfl
@[go_sem] theorem bDR (τ : bL) (a : Tmp) (ty : TypeId) (l : List ResultVar) (M : List aD → Prop) (t : Tag M) : aQP P τ h (.cell a ty :: l) M t = ldF (iW P ty) (bZ τ a) h (fun v => aQP P τ h l (fun vs => M (v :: vs)) ()) () := rfl
def aOB (vs : List aD) (L : aD → Prop) (_ : Tag L) : Prop := match vs with | [v] => L v | vs => L (.iI vs)
@[go_sem] theorem bDS (t : Tag L) : aOB [] L t = L (.iI []) := rfl
@[go_sem] theorem bDT (v : aD) (t : Tag L) : aOB [v] L t = L v := rfl
@[go_sem] theorem bDU (v w : aD) (vs : List aD) (t : Tag L) : aOB (v :: w :: vs) L t = L (.iI (v :: w :: vs)) := rfl
end
def tG (P : Program) (rs : Array ResultVar) (K : aD → aB → Prop) (_ : Tag K) : Exit → bL → aB → Prop := aBV P rs K
section
variable (P : Program) (rs : Array ResultVar) (K : aD → aB → Prop) (τ : bL) (h : aB)
@[go_sem] theorem a1Q (t : Tag K) : tG P rs K t .normal τ h = aQP P τ h rs.toList (fun vs => aOB vs (fun v => K v h) ()) () := rfl
@[go_sem] theorem bDV (t : Tag K) : tG P rs K t .ret τ h = aQP P τ h rs.toList (fun vs => aOB vs (fun v => K v h) ()) () := rfl
@[go_sem] theorem a8J (i : Nat) (t : Tag K) : tG P rs K t (.exit i) τ h = False := rfl
end
theorem fT {P : Program} {f : FuncId} {fn : Func} {c : Code} (N : Nat) (keep ib : List Nat) (mk : Marks) {args : List aD} {r : aD} (hmix : P.follows .mixedOrders = true) (hf : P.funcs[f]? = some fn) (hb : fn.body = some c)
  (hck : (mI P f && decide (fn.ntmps = N) && j6 N mk c) = true) (hl : args.length ≤ N)
  (hw : ∀ h, rO P N keep ib mk c (fun τ h' => tG P fn.results (fun r' h' => r' = r ∧ h.le h') () .normal τ h') (tG P fn.results (fun r' h' => r' = r ∧ h.le h') ()) (tD 0 args) h ()) : fL P f args r :=
 a1B N keep ib mk hmix hf hb hck hl hw
theorem rP {P : Program} {f : FuncId} {fn : Func} {c : Code} (N : Nat) (keep ib : List Nat) (mk : Marks) {args : List aD} {r : aD} (hmix : P.follows .mixedOrders = true) (hf : P.funcs[f]? = some fn) (hb : fn.body = some c)
  (hck : (mI P f && decide (fn.ntmps = N) && j6 N mk c) = true) (hl : args.length ≤ N)
  (hw : ∀ h, rO P N keep ib mk c (fun τ h' => tG P fn.results (fun r' h' => Shift r' h' r h) () .normal τ h') (tG P fn.results (fun r' h' => Shift r' h' r h) ()) (tD 0 args) h ()) : fL P f args r :=
 aW2 N keep ib mk hmix hf hb hck hl hw
theorem cS {P : Program} {N : Nat} {keep ib : List Nat} {mk : Marks} {c : Code} {Q : Exit → bL → aB → Prop} {τ : bL} {h : aB} {t : Tag (Code.loop c, Q)} {α : Type} (hmix : P.follows .mixedOrders = true) (hc : j6 N mk c = true) (S : α → bL) (H : α → aB) (side : α → Prop) (μ : α → Nat) (x₀ : α)
  (h₀ : cV (S x₀) τ ∧ (H x₀).le h ∧ side x₀)
  (round : ∀ x, side x → rO P N keep ib mk c (fun τ' h' => ∃ x', cV (S x') τ' ∧ (H x').le h' ∧ side x' ∧ μ x' < μ x) Q (S x) (H x) ()) : aKR P N (.loop c) Q τ h t :=
 pN.cS S H side μ x₀ h₀ fun x hx => aGZ hmix c _ _ _ _ hc (round x hx)
set_option linter.unusedVariables false
set_option linter.unusedSimpArgs false
theorem Sub.fO {sz sz' i off : Nat} {es : List (List aD)} {e e' : List aD} (he : es[i]? = some e) (h' : (e.drop off).take sz' = e') (hl : e'.length = sz') : Sub (.ip sz es i off) (.ip sz' [e'] 0 0) := fun E h w v r => by
 cases r with
 |ip _ _ _ _ b o cv hi hs hc h1 hr =>
  have hat : ∀ i' j x, iZ [e'] i' j = some x → i' = 0 ∧ iZ es i (off + j) = some x := by
   intro i' j x hx
   obtain ⟨e1, h1, h2⟩ := kX hx
   cases i' with
   |zero =>
    simp at h1; subst h1
    refine ⟨rfl, ?_⟩
    subst h'
    rw [List.getElem?_take] at h2
    split at h2
    ·rw [List.getElem?_drop] at h2
     simp [iZ, he, h2]
    ·cases h2
   |succ n => simp at h1
  have := fD.ip (E := E) (h := h) (w := w) sz' [e'] 0 0 b (o + i * sz + off) (fun i' j => cv (i + i') (off + j)) hi (fun e1 he' => by simp at he'; subst he'; exact hl)
   (fun i' j x hx => by obtain ⟨rfl, hy⟩ := hat i' j x hx; have := hc i _ x hy; simpa [Nat.add_assoc] using this)
   (fun i' j x hx => by obtain ⟨rfl, hy⟩ := hat i' j x hx; exact h1 i _ x hy)
   (fun i' j x hx => by obtain ⟨rfl, hy⟩ := hat i' j x hx; exact hr i _ x hy)
  simpa using this
theorem Sub.ip {sz i : Nat} {es : List (List aD)} {e : List aD} (he : es[i]? = some e) (hl : e.length = sz) : Sub (.ip sz es i 0) (.ip sz [e] 0 0) :=
 Sub.fO he (by rw [List.drop_zero, List.take_of_length_le (by omega)]) hl
open Go.ChangeShapes Go.WideShapes
set_option linter.unusedVariables false
set_option linter.unusedSimpArgs false
def Dat (P : Program) : Nat → TypeId → List aD → Prop
 |0, _, _ => False
 |n + 1, t, xs =>
  match P.underlying t with
  |some .bool => ∃ b, xs = [.bool b]
  |some (.int k) => ∃ i, xs = [.int k i] ∧ (Lit.int k i).wf = true
  |some .string => ∃ s, xs = [.str s]
  |some (.slice e) => ∃ es, xs = [.sl (P.cellsOf e) es false] ∧ ∀ y ∈ es, Dat P n e y
  |some (.struct fs) => xs.length = P.cellsOf t ∧ ∀ (i : Nat) (f : Field), fs[i]? = some f → Dat P n f.type ((xs.drop f.offset).take (P.cellsOf f.type))
  | _ => False
def yV (P : Program) : List Field → Nat → Option Nat
 | [], o => some o
 |f :: fs, o => if f.offset = o then yV P fs (o + P.cellsOf f.type) else none
def aU3 (P : Program) (T : List TypeId) : Bool := T.all fun t =>
 match P.underlying t with
 |some .bool | some (.int _) | some .string => P.cellsOf t == 1
 |some (.slice e) => P.cellsOf t == 1 && decide (0 < P.cellsOf e) && T.contains e
 |some (.struct fs) => (yV P fs.toList 0 == some (P.cellsOf t)) && fs.toList.all (fun f => T.contains f.type)
 | _ => false
theorem aBZ {P : Program} {T : List TypeId} (hT : aU3 P T = true) : ∀ (n : Nat) (t : TypeId) (xs : List aD), t ∈ T → Dat P n t xs → xs.length = P.cellsOf t ∧ xs.all aD.flat = true
 |0, _, _, _, h => h.elim
 |n + 1, t, xs, ht, h => by
  have hd := List.all_eq_true.1 hT t ht
  unfold Dat at h
  split at h
  ·rename_i hu; rw [hu] at hd; obtain ⟨b, rfl⟩ := h; exact ⟨by simpa using (of_decide_eq_true hd).symm, rfl⟩
  ·rename_i hu; rw [hu] at hd; obtain ⟨i, rfl, _⟩ := h; exact ⟨by simpa using (of_decide_eq_true hd).symm, rfl⟩
  ·rename_i hu; rw [hu] at hd; obtain ⟨s, rfl⟩ := h; exact ⟨by simpa using (of_decide_eq_true hd).symm, rfl⟩
  ·rename_i e hu
   rw [hu] at hd; obtain ⟨es, rfl, _⟩ := h
   simp only [Bool.and_eq_true, beq_iff_eq] at hd
   exact ⟨by simp [hd.1.1], rfl⟩
  ·rename_i fs hu
   rw [hu] at hd
   obtain ⟨hl, hf⟩ := h
   refine ⟨hl, ?_⟩
   simp only [Bool.and_eq_true, beq_iff_eq, List.all_eq_true] at hd
   have key : ∀ (l : List Field) (o : Nat), (∀ f ∈ l, T.contains f.type = true ∧ Dat P n f.type ((xs.drop f.offset).take (P.cellsOf f.type))) → yV P l o = some (P.cellsOf t) → (xs.drop o).all aD.flat = true := by
    intro l
    induction l with
    |nil => intro o _ ho; simp only [yV, Option.some.injEq] at ho; rw [List.drop_eq_nil_of_le (by omega)]; rfl
    |cons f l ih =>
     intro o hl' ho
     simp only [yV] at ho
     split at ho
     ·rename_i e
      have h1 := hl' f List.mem_cons_self
      have h2 := (aBZ hT n _ _ (by simpa using h1.1) h1.2).2
      have h3 := ih _ (fun g hg => hl' g (List.mem_cons_of_mem _ hg)) ho
      rw [e] at h2
      rw [← List.take_append_drop (P.cellsOf f.type) (xs.drop o), List.all_append, h2, List.drop_drop, h3]; rfl
     ·cases ho
   have := key fs.toList 0 (fun f hf' => by
    obtain ⟨i, hi⟩ := List.getElem?_of_mem hf'
    exact ⟨hd.2 f hf', hf i f (by simpa using hi)⟩) hd.1
   simpa using this
  ·exact h.elim
section
variable {H : Type} {enc : TypeId × Value → H} {P : Program} {w : World} {base : Nat} {sp : Nat → Bool} {held : Bool}
theorem aDR {E : Env} {h : aB} {xs : List aD} {vs : List Value} (hr : dV E h w xs vs) (hf : xs.all aD.flat = true) (j : Nat) (v : Value) (hv : vs[j]? = some v) : v.oneCell' = true := by
 obtain ⟨hj, _⟩ := List.getElem?_eq_some_iff.1 hv
 have hl := hr.length
 have hx : xs[j]? = some xs[j] := List.getElem?_eq_getElem (by omega)
 exact (fD.p5 (hr.get j _ _ hx hv) (List.all_eq_true.1 hf _ (List.mem_of_getElem? hx))).1
theorem aG2 {T : List TypeId} (hT : aU3 P T = true) {E : Env} {h : aB} (hI : ∀ b, b < w.heap.size → o7 E h w b) :
  ∀ (n : Nat) (t : TypeId) (cs : List Value) (x : DataW H × List MemPlace), t ∈ T → DataW.trod enc P w base sp held n t cs = some x → ∃ xs, Dat P n t xs ∧ dV E h w xs cs
 |0, t, cs, x, _, hx => by simp [DataW.trod] at hx
 |n + 1, t, cs, x, ht, hx => by
  have hd := List.all_eq_true.1 hT t ht
  match hu : P.underlying t with
  |some .bool =>
   obtain ⟨b, rfl, _⟩ := DataW.trod_bool hu hx
   exact ⟨[.bool b], by simp only [Dat, hu]; exact ⟨b, rfl⟩, ⟨.bool b, trivial⟩⟩
  |some (.int k) =>
   obtain ⟨i, rfl, _, hw⟩ := DataW.trod_int hu hx
   exact ⟨[.int k i], by simp only [Dat, hu]; exact ⟨i, rfl, hw⟩, ⟨.int k i, trivial⟩⟩
  |some .string =>
   obtain ⟨s, rfl, _, hs⟩ := DataW.trod_string hu hx
   refine ⟨[.str s.data.toList], by simp only [Dat, hu]; exact ⟨_, rfl⟩, ⟨?_, trivial⟩⟩
   have : s = ⟨s.data.toList.toArray⟩ := by cases s; simp
   rw [this]
   exact .str _ (by simpa using hs)
  |some (.slice e) =>
   rw [hu] at hd
   simp only [Bool.and_eq_true, beq_iff_eq, decide_eq_true_eq, List.contains_iff_mem] at hd
   rcases DataW.trod_slice hu hx with ⟨rfl, _⟩ | ⟨a, len, cap, elems, rest, m, hm, rfl, _, hb, hlc, hmax, hel, hcell, _, _⟩
   ·exact ⟨[.sl (P.cellsOf e) [] false], by simp only [Dat, hu]; exact ⟨[], rfl, by simp⟩, ⟨.sl0 _ _ _ _ (fun e => by simp at e) (by simp) trivial, trivial⟩⟩
   ·obtain rfl : n = m := by omega

    have each : ∀ i, i < len → ∃ ys vs, Dat P n e ys ∧ dV E h w ys vs ∧ w.cells? base (a.add (i * P.cellsOf e)) (P.cellsOf e) = some vs := by
     intro i hi
     have h1 := hcell i hi
     have hi' : i < elems.length := by omega
     rw [List.getElem?_eq_getElem hi'] at h1
     simp only [Option.bind_eq_some_iff] at h1
     obtain ⟨vs, h2, h3⟩ := h1
     obtain ⟨ys, h4, h5⟩ := aG2 hT hI n e vs _ hd.2 h3
     exact ⟨ys, vs, h4, h5, h2⟩
    let ys : Nat → List aD := fun i => if hi : i < len then Classical.choose (each i hi) else []
    have hys : ∀ i, i < len → ∃ vs, Dat P n e (ys i) ∧ dV E h w (ys i) vs ∧ w.cells? base (a.add (i * P.cellsOf e)) (P.cellsOf e) = some vs := by
     intro i hi
     have := Classical.choose_spec (each i hi)
     simpa only [ys, dif_pos hi] using this
    by_cases h0 : len = 0
    ·subst h0
     exact ⟨[.sl (P.cellsOf e) [] false], by simp only [Dat, hu]; exact ⟨[], rfl, by simp⟩, ⟨.sl0 _ _ _ _ (fun e => by simp at e) hmax trivial, trivial⟩⟩
    have hpos : 0 < P.cellsOf e := hd.1.2

    obtain ⟨b, o, spot⟩ := a
    obtain ⟨vs0, _, _, hc0⟩ := hys 0 (by omega)
    have bM4 := World.cells?_some hc0
    have hz : w.cell? ((Addr.add ⟨b, o, spot⟩ (0 * P.cellsOf e)).add 0) = vs0[0]? := bM4.2.2 0 hpos
    have uY : vs0[0]? = some vs0[0] := List.getElem?_eq_getElem (by omega)
    rw [uY] at hz
    have hspot : spot = none := by
     have := World.cell?_spot hz
     simpa [Addr.add] using this
    subst hspot
    have hblt : b < w.heap.size := by
     have := World.cells?_block hc0 hpos
     simpa [Addr.add] using this
    have hmap : ∀ i, i < len → ((List.range len).map ys)[i]? = some (ys i) := fun i hi => by simp [hi]
    refine ⟨[.sl (P.cellsOf e) ((List.range len).map ys) false], ?_, ⟨?_, trivial⟩⟩
    ·simp only [Dat, hu]
     refine ⟨_, rfl, fun y hy => ?_⟩
     simp only [List.mem_map, List.mem_range] at hy
     obtain ⟨i, hi, rfl⟩ := hy
     obtain ⟨vs, h1, _⟩ := hys i hi
     exact h1
    ·have hlen : len = ((List.range len).map ys).length := by simp
     have cells : ∀ i j x, iZ ((List.range len).map ys) i j = some x → ∃ v, w.cell? ⟨b, o + i * P.cellsOf e + j, none⟩ = some v ∧ v.oneCell' = true ∧ fD E h w x v := by
      intro i j x hx
      have hi : i < len := by have := aWH hx; simpa using this
      obtain ⟨y, hy, hj⟩ := kX hx
      rw [hmap i hi] at hy
      obtain rfl := Option.some.inj hy
      obtain ⟨vs, h1, h2, h3⟩ := hys i hi
      have hone := aBZ hT n e _ hd.2 h1
      have hjl : j < (ys i).length := (List.getElem?_eq_some_iff.1 hj).1
      have h4 := World.cells?_some h3
      have hjv : j < vs.length := by rw [h2.length] at hjl; exact hjl
      have hv : vs[j]? = some vs[j] := List.getElem?_eq_getElem hjv
      refine ⟨vs[j], ?_, aDR h2 hone.2 j _ hv, h2.get j x _ hj hv⟩
      have h5 := h4.2.2 j (by omega)
      rw [hv] at h5
      rw [← h5]
      rw [lU, lU]
     have cellsC : ∀ i j, ∃ v, ∀ x, iZ ((List.range len).map ys) i j = some x → w.cell? ⟨b, o + i * P.cellsOf e + j, none⟩ = some v ∧ v.oneCell' = true ∧ fD E h w x v := by
      intro i j
      match hx : iZ ((List.range len).map ys) i j with
      |none => exact ⟨.bool true, fun x h => by simp at h⟩
      |some x =>
       obtain ⟨v, h1⟩ := cells i j x hx
       exact ⟨v, fun y hy => by obtain rfl := Option.some.inj hy; exact h1⟩
     let cv : Nat → Nat → Value := fun i j => Classical.choose (cellsC i j)
     have hcv : ∀ i j x, iZ ((List.range len).map ys) i j = some x → w.cell? ⟨b, o + i * P.cellsOf e + j, none⟩ = some (cv i j) ∧ (cv i j).oneCell' = true ∧ fD E h w x (cv i j) := fun i j => Classical.choose_spec (cellsC i j)
     have := fD.sl (E := E) (h := h) (w := w) (P.cellsOf e) ((List.range len).map ys) false b o cap cv (hI b hblt) (by simpa using hlc) hmax (fun e => by simp at e)
      (fun y hy => by
       simp only [List.mem_map, List.mem_range] at hy
       obtain ⟨i, hi, rfl⟩ := hy
       obtain ⟨vs, h1, _⟩ := hys i hi
       exact (aBZ hT n e _ hd.2 h1).1)
      (fun i j x hx => (hcv i j x hx).1) (fun i j x hx => (hcv i j x hx).2.1) (fun i j x hx => (hcv i j x hx).2.2)
     rw [← hlen] at this
     exact this
  |some (.struct fs) =>
   rw [hu] at hd
   simp only [Bool.and_eq_true, beq_iff_eq, List.all_eq_true] at hd
   obtain ⟨xs, m, hm, rfl, hl, hfl, hf⟩ := DataW.trod_struct hu hx
   obtain rfl : n = m := by omega

   have key : ∀ (l : List Field) (o : Nat), (∀ f ∈ l, T.contains f.type = true ∧ ∃ y, DataW.trod enc P w base sp held n f.type ((cs.drop f.offset).take (P.cellsOf f.type)) = some y) → yV P l o = some (P.cellsOf t) →
     ∃ ys, dV E h w ys (cs.drop o) ∧ ∀ f ∈ l, o ≤ f.offset ∧ Dat P n f.type ((ys.drop (f.offset - o)).take (P.cellsOf f.type)) := by
    intro l
    induction l with
    |nil =>
     intro o _ ho
     simp only [yV, Option.some.injEq] at ho
     rw [List.drop_eq_nil_of_le (by omega)]
     exact ⟨[], trivial, fun f hf => by simp at hf⟩
    |cons f l ih =>
     intro o hl' ho
     simp only [yV] at ho
     split at ho
     ·rename_i e
      obtain ⟨hc, y, hy⟩ := hl' f List.mem_cons_self
      obtain ⟨zs, hz1, hz2⟩ := aG2 hT hI n f.type _ y (by simpa using hc) hy
      obtain ⟨ys, hy1, hy2⟩ := ih _ (fun g hg => hl' g (List.mem_cons_of_mem _ hg)) ho
      have hzl := (aBZ hT n _ _ (by simpa using hc) hz1).1
      rw [e] at hz2
      have hjoin : dV E h w (zs ++ ys) (cs.drop o) := by
       have := dV.append hz2 hy1
       rw [← List.take_append_drop (P.cellsOf f.type) (cs.drop o), List.drop_drop]
       exact this
      refine ⟨zs ++ ys, hjoin, fun g hg => ?_⟩
      rcases List.mem_cons.1 hg with rfl | hg
      ·refine ⟨by omega, ?_⟩
       rw [e, Nat.sub_self, List.drop_zero, List.take_append_of_le_length (by omega), List.take_of_length_le (by omega)]
       exact hz1
      ·obtain ⟨h1, h2⟩ := hy2 g hg
       refine ⟨by omega, ?_⟩
       rw [List.drop_append, hzl, List.drop_eq_nil_of_le (by omega), List.nil_append, show g.offset - o - P.cellsOf f.type = g.offset - (o + P.cellsOf f.type) by omega]
       exact h2
     ·cases ho
   obtain ⟨ys, h1, h2⟩ := key fs.toList 0 (fun f hf' => by
    obtain ⟨i, hi⟩ := List.getElem?_of_mem hf'
    have hi' : fs[i]? = some f := by simpa using hi
    refine ⟨hd.2 f hf', ?_⟩
    have := hf i f hi'
    have hil : i < xs.length := by rw [hfl]; exact (Array.getElem?_eq_some_iff.1 hi').1
    rw [List.getElem?_eq_getElem hil] at this
    exact ⟨_, this⟩) hd.1
   rw [List.drop_zero] at h1
   refine ⟨ys, ?_, h1⟩
   simp only [Dat, hu]
   refine ⟨h1.length.trans hl, fun i f hf' => ?_⟩
   have := h2 f (by have := Array.mem_of_getElem? hf'; simpa using this)
   simpa using this.2
  |none | some .invalid | some (.float _) | some (.complex _) | some .unsafePointer | some (.named ..) | some (.pointer _) | some (.array ..) | some (.map ..) | some (.func ..) | some (.interface _) | some (.chan ..) | some (.tuple _) => all_goals (rw [hu] at hd; simp at hd)
end
open Go.ChangeShapes Go.WideShapes
set_option linter.unusedVariables false
set_option linter.unusedSimpArgs false
def aOC (P : Program) (n : Nat) (t : TypeId) (x : aD) : Prop :=
 match P.underlying t with
 |some (.struct _) => ∃ ys, x = .agg ys ∧ Dat P n t ys
 | _ => Dat P n t [x]
def aOD (P : Program) : List TypeId → List aD → Prop
 | [], [] => True
 |t :: ts, x :: xs => (∃ n, aOC P n t x) ∧ aOD P ts xs
 | _, _ => False
section
variable {H : Type} {enc : TypeId × Value → H} {P : Program} {w : World} {base : Nat} {sp : Nat → Bool} {held : Bool}
theorem aW7 {T : List TypeId} (hT : aU3 P T = true) {E : Env} {h : aB} (hI : ∀ b, b < w.heap.size → o7 E h w b) {t : TypeId} (ht : t ∈ T) {v : Value} {d : DataW H} {ps : List MemPlace}
  (hok : Value.okWide P w .any base t v) (hr : DataW.Trod enc P w 0 sp held t v d ps) : ∃ x n, aOC P n t x ∧ fD E h w x v := by
 obtain ⟨n, hr⟩ := hr
 obtain ⟨xs, h1, h2⟩ := aG2 hT hI n t _ _ ht hr
 have hd := List.all_eq_true.1 hT t ht
 match hu : P.underlying t with
 |some (.struct fs) =>
  obtain ⟨cs, rfl, _⟩ := okWide_struct hu hok
  exact ⟨.agg xs, n, by simp only [aOC, hu]; exact ⟨xs, rfl, h1⟩, .agg xs cs.toList h2.length h2.get⟩
 |some .bool =>
  obtain ⟨b, rfl⟩ := okWide_bool hu hok
  have hone := aBZ hT n t xs ht h1
  match xs, h2 with
  | [x], h2 => exact ⟨x, n, by simp only [aOC, hu]; exact h1, by simpa [Value.cells] using h2.1⟩
  | [], h2 => exact h2.elim
  | _ :: _ :: _, h2 => exact h2.2.elim
 |some (.int k) =>
  obtain ⟨b, rfl⟩ := okWide_int hu hok
  match xs, h2 with
  | [x], h2 => exact ⟨x, n, by simp only [aOC, hu]; exact h1, by simpa [Value.cells] using h2.1⟩
  | [], h2 => exact h2.elim
  | _ :: _ :: _, h2 => exact h2.2.elim
 |some .string =>
  obtain ⟨b, rfl⟩ := okWide_string hu hok
  match xs, h2 with
  | [x], h2 => exact ⟨x, n, by simp only [aOC, hu]; exact h1, by simpa [Value.cells] using h2.1⟩
  | [], h2 => exact h2.elim
  | _ :: _ :: _, h2 => exact h2.2.elim
 |some (.slice e) =>
  obtain ⟨a, len, cap, rfl⟩ := okWide_slice hu hok
  match xs, h2 with
  | [x], h2 => exact ⟨x, n, by simp only [aOC, hu]; exact h1, by simpa [Value.cells] using h2.1⟩
  | [], h2 => exact h2.elim
  | _ :: _ :: _, h2 => exact h2.2.elim
 |none | some .invalid | some (.float _) | some (.complex _) | some .unsafePointer | some (.named ..) | some (.pointer _) | some (.array ..) | some (.map ..) | some (.func ..) | some (.interface _) | some (.chan ..) | some (.tuple _) => all_goals (rw [hu] at hd; simp at hd)
theorem aJD {T : List TypeId} (hT : aU3 P T = true) {E : Env} {h : aB} (hI : ∀ b, b < w.heap.size → o7 E h w b) : ∀ {ts : List TypeId} {vs : List Value} {ds : List (DataW H)} {ps : List MemPlace},
  (∀ t ∈ ts, t ∈ T) → (∀ (j : Nat) t v, ts[j]? = some t → vs[j]? = some v → Value.okWide P w .any base t v) → DataW.TrodAll enc P w 0 sp held ts vs ds ps → ∃ xs, aOD P ts xs ∧ dV E h w xs vs ∧ ds.length = ts.length
 | [], [], [], _, _, _, _ => ⟨[], trivial, trivial, rfl⟩
 |t :: ts, v :: vs, d :: ds, _, ht, hok, ⟨p, q, h1, h2, _⟩ => by
  obtain ⟨x, n, h3, h4⟩ := aW7 hT hI (ht t List.mem_cons_self) (hok 0 t v rfl rfl) h1
  obtain ⟨xs, h5, h6, h7⟩ := aJD hT hI (fun t' h' => ht t' (List.mem_cons_of_mem _ h')) (fun j t' v' a b => hok (j + 1) t' v' (by simpa using a) (by simpa using b)) h2
  exact ⟨x :: xs, ⟨⟨n, h3⟩, h5⟩, ⟨h4, h6⟩, by simp [h7]⟩
 | [], _ :: _, _, _, _, _, h => by cases ‹List (DataW H)› <;> exact h.elim
 | [], [], _ :: _, _, _, _, h => h.elim
 | _ :: _, [], _, _, _, _, h => by cases ‹List (DataW H)› <;> exact h.elim
 | _ :: _, _ :: _, [], _, _, _, h => h.elim
end
theorem aAK {H : Type} {enc : TypeId × Value → H} {P : Program} {w w' : World} {base : Nat} {sp : Nat → Bool} {held : Bool} : ∀ {ts : List TypeId} {vs : List Value} {ds : List (DataW H)} {ps : List MemPlace},
  DataW.TrodAll enc P w base sp held ts vs ds ps → (∀ p ∈ ps, w.sameAt w' p) → DataW.TrodAll enc P w' base sp held ts vs ds ps
 | [], [], [], _, h, _ => h
 | _ :: _, _ :: _, _ :: _, _, ⟨p, q, ⟨n, h1⟩, h2, e⟩, hs => ⟨p, q, ⟨n, DataW.trod_carry n _ _ _ h1 (fun x hx => hs x (by rw [e]; exact List.mem_append_left _ hx))⟩, aAK h2 (fun x hx => hs x (by rw [e]; exact List.mem_append_right _ hx)), e⟩
 | [], _ :: _, _, _, h, _ => by cases ‹List (DataW H)› <;> exact h.elim
 | [], [], _ :: _, _, h, _ => h.elim
 | _ :: _, [], _, _, h, _ => by cases ‹List (DataW H)› <;> exact h.elim
 | _ :: _, _ :: _, [], _, h, _ => h.elim
theorem aG3 {w w' : World} {p : MemPlace} (h : w'.heap[p.block]? = w.heap[p.block]?) : w.sameAt w' p := by
 cases p with
 |cell b o => exact uV h o none
 |map b => exact h
theorem aW8 {H : Type} {enc : TypeId × Value → H} {P : Program} (lo : laidOutB P = true) (mr : mapsRowed P = true)
  (hz : ((List.range P.types.size).all fun t => match P.underlying t with | some (.slice e) => decide (0 < P.cellsOf e) | _ => true) = true)
  {fn : Func} (hT : fn.params.all (fun t => decide (t < P.types.size)) = true) {s : ChangeSpec} (hsv : s.vars = []) (hs : ∀ ds : List (DataW H), ds.length = fn.params.size → s.fn H ds = { results := [.lit (.bool true)], args := ds })
  {tb : TypeId} (hr : fn.resultTypes = #[tb]) (htb : P.underlying tb = some .bool) {W W' : World} {args : Array Value} {ds gs : List (DataW H)} {before : List MemPlace}
  (hW : DataW.Whole enc P fn.params.toList s.vars false W args.toList ds gs before) (hl : ds.length = fn.params.size)
  (hheap : ∀ b, b < W.heap.size → W'.heap[b]? = W.heap[b]?) (hos : W'.os = W.os) (hout : W'.output = W.output) :
  s.post enc P fn false true false false W args (.bool true) W' := by
 have hlt := hW.lt
 have hW0 := hW
 obtain ⟨p, q, hA, hV, rfl, hfz, _⟩ := hW
 rw [hsv] at hV
 have hgs : gs = [] ∧ q = [] := by
  match gs, hV with
  | [], h => exact ⟨rfl, h⟩
 obtain ⟨rfl, rfl⟩ := hgs
 rw [List.append_nil] at hlt hfz hW0
 have e : s.fn H (ds ++ []) = { results := [.lit (.bool true)], args := ds } := by rw [List.append_nil]; exact hs ds hl
 refine ⟨ds, [], p, [], p, [], hW0, ?_, ?_, ?_, ?_, fun h => by simp at h⟩
 ·rw [e]
  simp only [hr]
  refine ⟨[], [], ⟨1, ?_⟩, rfl, rfl⟩
  simp [DataW.trod, htb, Value.cells]
 ·rw [e]
  have h1 : DataW.TrodAll enc P W' 0 (fun _ => true) true fn.params.toList args.toList ds p := aAK hA fun x hx => aG3 (hheap _ (hlt x hx))
  refine DataW.TrodAll.respare (kids_rows lo mr) (fun t e ht hu => slices_full_of P hz t e ht hu) (fun t ht => ?_) h1 (fun x hx => by simpa using hlt x hx)
  have := Array.all_eq_true_iff_forall_mem.1 hT t (by simpa using ht)
  simpa using this
 ·rw [e, hsv]; exact rfl
 ·refine ⟨hos, hout, fun i hi => ?_⟩
  rw [hheap i hi]
  have hi' : W.heap[i]? = some W.heap[i] := Array.getElem?_eq_getElem hi
  rw [hi']
  cases W.heap[i] with
  |cells c t fr => exact ⟨rfl, rfl, rfl, fun _ _ => rfl⟩
  |map es clock => exact .inr ⟨rfl, rfl⟩
  | _ => rfl
def tH : aB := fun _ => none
def aOE : Env where
 loc := fun _ => none
 fp := fun _ _ => False
 used := fun _ => False
theorem aW9 (w : World) (hl : yE aOE tH w) : Rel aOE tH w where
 fin := ⟨0, fun n _ h => h⟩
 dom := fun n h => absurd rfl h
 lt := fun n o b h => by simp [tH] at h
 apart := fun n o m o' b h => by simp [tH] at h
 obj := fun n o h => by simp [tH] at h
 laid := hl
theorem aOF {w : World} {b : Nat} (hb : b < w.heap.size) : o7 aOE tH w b := ⟨hb, fun n o h => by simp [tH] at h⟩
theorem aOG {H : Type} {enc : TypeId × Value → H} {C : Checked} {os : Os} {f : FuncId} {fn : Func} {s : ChangeSpec}
  (own : ownKnob C.prog.godebug = none) (started : os.Started) (noInit : C.prog.inits.idxOf? f = none) (hfn : C.prog.funcs[f]? = some fn)
  (witness : ∃ (w : World) (tape : Tape) (i : Input), w.os = os ∧ (w.forCall tape i).Shaped C.prog ∧ i.vars = [] ∧ Input.okWide C.prog (w.forCall tape i) .any w.heap.size f i ∧
   s.pre6 enc C.prog fn [] false (w.forCall tape i).memory i.args ∧ ({} : Assume).holds C.prog (lone (Frame.enter C.prog f i.args .normal) [] (w.forCall tape i)))
  (lo : laidOutB C.prog = true) (mr : mapsRowed C.prog = true)
  (hz : ((List.range C.prog.types.size).all fun t => match C.prog.underlying t with | some (.slice e) => decide (0 < C.prog.cellsOf e) | _ => true) = true)
  (T : List TypeId) (hT : aU3 C.prog T = true) (hp : fn.params.all (fun t => decide (t < C.prog.types.size) && T.contains t) = true)
  (hsv : s.vars = []) (hs : ∀ ds : List (DataW H), ds.length = fn.params.size → s.fn H ds = { results := [.lit (.bool true)], args := ds })
  {tb : TypeId} (hr : fn.resultTypes = #[tb]) (htb : C.prog.underlying tb = some .bool)
  (hc : ∀ xs, aOD C.prog fn.params.toList xs → fL C.prog f xs (.bool true)) (hl0 : aF8 = [] := by rfl) :
  ReturnsInHanded {} C os f .any (s.pre6 enc C.prog fn [] false) (s.post enc C.prog fn false true false false) := by
 refine returnsInHanded_of_change own started noInit hfn witness ?_
 intro W base args ds gs before hval hW _ _
 have hW0 := hW
 obtain ⟨p, q, hA, hV, _, _, _⟩ := hW
 have hp' := Array.all_eq_true_iff_forall_mem.1 hp
 simp only [Bool.and_eq_true, decide_eq_true_eq] at hp'
 have hbase : ∀ (j : Nat) t v, fn.params.toList[j]? = some t → args.toList[j]? = some v → Value.okWide C.prog W .any base t v := fun j t v h1 h2 => hval j t v (by simpa using h1) (by simpa using h2)
 obtain ⟨xs, h1, h2, h3⟩ := aJD hT (E := aOE) (h := tH) (fun b hb => aOF hb) (fun t ht => by have := (hp' t (by simpa using ht)).2; simpa using this) hbase hA
 refine Calls.mono (by simpa using (hc xs h1 tH).2 aOE W args.toList (aW9 W fun p hp => by rw [hl0] at hp; cases hp) h2) fun e W' he => ?_
 cases e with
 |returned v =>
  obtain ⟨r, h', E', ⟨rfl, rfl⟩, ev, _, rep⟩ := he
  cases rep
  exact ⟨_, rfl, aW8 lo mr hz (by rw [Array.all_eq_true_iff_forall_mem]; intro t ht; simpa using (hp' t ht).1) hsv hs hr htb hW0 (by simpa using h3) (fun b hb => (ev.keep b (aOF hb)).1) ev.os ev.out⟩
 | _ => exact he.elim
set_option linter.unusedVariables false
set_option linter.unusedSimpArgs false
def bM (P : Program) (f : FuncId) (args : List aD) (r : aD) (h0 : aB) : Prop := ∀ h : aB, h0.le h → iH P f args h fun r' h' => r' = r ∧ h' = h
theorem fL.a1R {P : Program} {f : FuncId} {args : List aD} {r : aD} {h0 : aB} (a : fL P f args r) : bM P f args r h0 := fun h _ => a h
theorem bM.mono {P : Program} {f : FuncId} {args : List aD} {r : aD} {h0 h1 : aB} (hl : h0.le h1) (a : bM P f args r h0) : bM P f args r h1 := fun h q => a h (aB.le_trans hl q)
theorem aU4 (h : aB) : tH.le h := fun _ => .inl rfl
theorem bM.eQ {P : Program} {f : FuncId} {args : List aD} {r : aD} (a : bM P f args r tH) : fL P f args r := fun h => a h (aU4 h)
theorem aH.bS {P : Program} {g : FuncId} {args : List aD} {h : aB} {K : aD → aB → Prop} {t : Tag K} {r : aD} (a : bM P g args r h) (k : K r h) : aH P g args h K t :=
 iH.mono (a h (aB.le_refl h)) fun _ _ ⟨e, e'⟩ => e ▸ e' ▸ k
theorem aH.fG {P : Program} {g : FuncId} {args : List aD} {h : aB} {K K' : aD → aB → Prop} {t : Tag K} (a : iH P g args h K') (k : ∀ r h', K' r h' → K r h') : aH P g args h K t := iH.mono a k
theorem aB.aG4 {h0 h : aB} (hl : h0.le h) {n : Nat} {o : bP} (hn : h0 n = some o) : h n = some o := by
 rcases hl n with e | e
 ·rw [hn] at e; cases e
 ·rw [← e]; exact hn
theorem aDS {P : Program} {f : FuncId} {fn : Func} {c : Code} (N : Nat) (keep ib : List Nat) (mk : Marks) {args : List aD} {h : aB} {K : aD → aB → Prop} (hmix : P.follows .mixedOrders = true) (hf : P.funcs[f]? = some fn) (hb : fn.body = some c)
  (hck : (mI P f && decide (fn.ntmps = N) && j6 N mk c) = true) (hl : args.length ≤ N)
  (hw : rO P N keep ib mk c (fun τ h' => tG P fn.results (fun r h' => ∃ g : aB, g.le h' ∧ K r g) () .normal τ h') (tG P fn.results (fun r h' => ∃ g : aB, g.le h' ∧ K r g) ()) (tD 0 args) h ()) : iH P f args h K :=
 aGW N keep ib mk hmix hf hb hck hl (K' := fun r h' => ∃ g : aB, g.le h' ∧ K r g) hw fun _ _ hx => hx
theorem aB0 {P : Program} {f : FuncId} {fn : Func} {c : Code} (N : Nat) (keep ib : List Nat) (mk : Marks) {args : List aD} {r : aD} {h0 : aB} (hmix : P.follows .mixedOrders = true) (hf : P.funcs[f]? = some fn) (hb : fn.body = some c)
  (hck : (mI P f && decide (fn.ntmps = N) && j6 N mk c) = true) (hl : args.length ≤ N)
  (hw : ∀ h : aB, h0.le h → rO P N keep ib mk c (fun τ h' => tG P fn.results (fun r' h' => r' = r ∧ h.le h') () .normal τ h') (tG P fn.results (fun r' h' => r' = r ∧ h.le h') ()) (tD 0 args) h ()) : bM P f args r h0 :=
 fun h hle => aGW N keep ib mk hmix hf hb hck hl (K' := fun r' h' => r' = r ∧ h.le h') (hw h hle) fun _ _ hx => ⟨h, hx.2, hx.1, rfl⟩
end Go.Hl

/-
  Contracts of functions and laws of the layer over the walk.
-/
import Derived.Test.YtoomflalicffnaaGreatHlB
import Derived.ReadAgain
import Derived.ChangeArms
import Derived.ChangeSame
import Derived.Handed
import Derived.JoinedOf
namespace Go.Hl
attribute [go_sem] List.nil_append List.cons_append
theorem nn (n:Nat):(0≤(n:Int)) = True:=by simp
attribute [go_sem] aYL qY yE u3 a3M pO o7 u6 aDB sW aKK p1 nW ld aA8 uY mJ j3 uF hev pH o9 bF fJ p4 aC.ofValue aC.nE lF Hl.prune bU iI
 aH b8 nn bI
attribute [go_sem] Call.operands Array.toList_append Option.map List.map Option.bind List.contains List.elem List.filterMap Op.operands Option.toList Array.size List.all List.set
attribute [go_sem] if_true if_false Option.bind_some Option.bind_none List.toList_toArray List.getElem?_toArray List.getElem?_cons_zero List.getElem?_cons_succ true_and and_true forall_const Bool.true_eq_false Bool.false_eq_true false_implies implies_true decide_true decide_false List.length_map BEq.rfl List.append_nil List.getElem?_map Int.toNat_natCast Bool.not_eq_true' Bool.not_eq_false' decide_eq_true_eq decide_eq_false_iff_not Int.natCast_inj Int.ofNat_lt Int.ofNat_le Bool.not_true Bool.not_false aC.int.injEq aC.bool.injEq aA.le_refl
attribute [go_sem] ne_eq Bool.and_self Bool.true_and Bool.and_true Bool.false_and Bool.and_false Int.reduceLT Int.reduceNeg Int.reduceLE Int.reduceEq Nat.reduceLeDiff Nat.reduceSub Nat.reduceMul Nat.zero_add Nat.add_zero List.length_cons List.length_nil List.drop_zero List.take_zero List.take_nil List.drop_nil List.take_succ_cons List.drop_succ_cons List.replicate List.map_nil List.map_cons List.length_map not_true_eq_false not_false_eq_true true_implies decide_not ite_not
attribute [go_sem] Bool.true_or Bool.false_or Bool.or_true Bool.or_false Nat.reduceAdd Nat.reduceEqDiff Nat.reduceBEq reduceCtorEq
@[go_sem] theorem a6X :aC.cells (aC.any) = [(aC.any)]:=rfl
@[go_sem] theorem a8Q :aC.flat (aC.any) = false:=rfl
@[go_sem] theorem a3V (b:Bool):aC.cells (aC.bool b) = [(aC.bool b)]:=rfl
@[go_sem] theorem a6Y (b:Bool):aC.flat (aC.bool b) = true:=rfl
@[go_sem] theorem a6Z (k:IntKind) (n:Int):aC.cells (aC.int k n) = [(aC.int k n)]:=rfl
@[go_sem] theorem a8R (k:IntKind) (n:Int):aC.flat (aC.int k n) = true:=rfl
@[go_sem] theorem a60 (s:List UInt8):aC.cells (aC.str s) = [(aC.str s)]:=rfl
@[go_sem] theorem a8S (s:List UInt8):aC.flat (aC.str s) = true:=rfl
@[go_sem] theorem aYR :aC.cells (aC.iH) = [(aC.iH)]:=rfl
@[go_sem] theorem a1O :aC.flat (aC.iH) = true:=rfl
@[go_sem] theorem a1P :aC.cells (aC.bO) = [(aC.bO)]:=rfl
@[go_sem] theorem a3W :aC.flat (aC.bO) = true:=rfl
@[go_sem] theorem a1Q :aC.cells (aC.pF) = [(aC.pF)]:=rfl
@[go_sem] theorem a3X :aC.flat (aC.pF) = true:=rfl
@[go_sem] theorem a1R :aC.cells (aC.kC) = [(aC.kC)]:=rfl
@[go_sem] theorem a3Y :aC.flat (aC.kC) = true:=rfl
@[go_sem] theorem aYS :aC.cells (aC.mB) = [(aC.mB)]:=rfl
@[go_sem] theorem a1S :aC.flat (aC.mB) = true:=rfl
@[go_sem] theorem a8T (sz:Nat) (es:List (List aC)) (b:Bool):aC.cells (aC.sl sz es b) = [(aC.sl sz es b)]:=rfl
@[go_sem] theorem bCF (sz:Nat) (es:List (List aC)) (b:Bool):aC.flat (aC.sl sz es b) = true:=rfl
@[go_sem] theorem a8U (sz:Nat) (es:List (List aC)) (i o:Nat):aC.cells (aC.ip sz es i o) = [(aC.ip sz es i o)]:=rfl
@[go_sem] theorem bCG (sz:Nat) (es:List (List aC)) (i o:Nat):aC.flat (aC.ip sz es i o) = true:=rfl
@[go_sem] theorem a8V (n sz i l:Nat):aC.cells (aC.os n sz i l) = [(aC.os n sz i l)]:=rfl
@[go_sem] theorem bCH (n sz i l:Nat):aC.flat (aC.os n sz i l) = true:=rfl
@[go_sem] theorem a8W (n sz i l:Nat):aC.cells (aC.op n sz i l) = [(aC.op n sz i l)]:=rfl
@[go_sem] theorem bCI (n sz i l:Nat):aC.flat (aC.op n sz i l) = true:=rfl
@[go_sem] theorem a61 (cs:List aC):aC.cells (aC.gW cs) = [(aC.gW cs)]:=rfl
@[go_sem] theorem a8X (cs:List aC):aC.flat (aC.gW cs) = false:=rfl
@[go_sem] theorem a8Y (f:Fn) (a b:List aC):aC.cells (aC.fn f a b) = [(aC.fn f a b)]:=rfl
@[go_sem] theorem bCJ (f:Fn) (a b:List aC):aC.flat (aC.fn f a b) = true:=rfl
@[go_sem] theorem a1T (t:TypeId) (v:aC):aC.cells (aC.iface t v) = [(aC.iface t v)]:=rfl
@[go_sem] theorem a3Z (t:TypeId) (v:aC):aC.flat (aC.iface t v) = true:=rfl
@[go_sem] theorem a8Z (n:Nat):aC.cells (aC.mp n) = [(aC.mp n)]:=rfl
@[go_sem] theorem bCK (n:Nat):aC.flat (aC.mp n) = true:=rfl
@[go_sem] theorem a62 (cs:List aC):aC.cells (.agg cs) = cs:=rfl
@[go_sem] theorem a80 (cs:List aC):aC.flat (.agg cs) = false:=rfl
@[go_sem] theorem a30:maxLen = 9223372036854775807:=rfl
set_option linter.unusedVariables false
set_option linter.unusedSimpArgs false
def Sub (x y:aC):Prop:=∀ E h w v,eC E h w x v→eC E h w y v
theorem Sub.refl (x:aC):Sub x x:=fun _ _ _ _ r=>r
theorem Sub.trans {x y z:aC} (a:Sub x y) (b:Sub y z):Sub x z:=fun E h w v r=>b E h w v (a E h w v r)
theorem Sub.any (x:aC):Sub x .any:=fun _ _ _ v _=>.any v
theorem Sub.nil (sz:Nat) (t:Bool):Sub .bO (.sl sz [] t):=fun E h w v r=>by
 cases r
 exact .w7 sz t none 0 (fun _=>rfl) (by simp [maxLen]) trivial
theorem Sub.loose (sz:Nat) (es:List (List aC)) (t:Bool):Sub (.sl sz es t) (.sl sz es false):=fun E h w v r=>by
 cases r with
 |w7 _ _ a cap ht hmax ha=>exact .w7 sz false _ _ (fun e=>by simp at e) hmax ha
 |sl _ _ _ b o cap cv hi hcap hmax ht hs hc h1 hr=>exact .sl sz es false b o _ cv hi hcap hmax (fun e=>by simp at e) hs hc h1 hr
def fU (xs ys:List aC):Prop:=xs.length = ys.length∧∀ (i:Nat) (x y:aC),xs[i]? = some x→ys[i]? = some y→Sub x y
theorem fU.nil:fU [] []:=⟨rfl,fun i x y hx=>by simp at hx⟩
theorem fU.cons {x y:aC} {xs ys:List aC} (a:Sub x y) (b:fU xs ys):fU (x :: xs) (y :: ys) :=
 ⟨by simp [b.1],fun i u v hu hv=>by
  cases i with
  |zero=>simp at hu hv;subst hu;subst hv;exact a
  |succ i=>exact b.2 i u v (by simpa using hu) (by simpa using hv)⟩
theorem fU.aK1 {E:Env} {h:aA} {w:World}:∀ {xs ys:List aC} {vs:List Value},fU xs ys→cX E h w xs vs→cX E h w ys vs
 | [],[],_,_,r=>r
 | [],_ :: _,_,s,_=>by have:=s.1;simp at this
 | _ :: _,[],_,s,_=>by have:=s.1;simp at this
 |x :: xs,y :: ys,[],s,r=>r.elim
 |x :: xs,y :: ys,v :: vs,s,r=>⟨s.2 0 x y rfl rfl E h w v r.1,fU.aK1 (xs:=xs) (ys:=ys) ⟨by have:=s.1;simpa using this,fun i u v hu hv=>s.2 (i + 1) u v (by simpa using hu) (by simpa using hv)⟩ r.2⟩
theorem Sub.agg {xs ys:List aC} (s:fU xs ys):Sub (.agg xs) (.agg ys):=fun E h w v r=>by
 cases r with
 |agg _ vs hl hr =>
  have:=s.aK1 (cX.mk hl hr)
  exact .agg _ _ this.length this.get
theorem Sub.gW {xs ys:List aC} (s:fU xs ys):Sub (.gW xs) (.gW ys):=fun E h w v r=>by
 cases r with
 |gW _ vs hl hr =>
  have:=s.aK1 (cX.mk hl hr)
  exact .gW _ _ this.length this.get
theorem fE.sub {P:Program} {f:FuncId} {xs ys:List aC} {h:aA} {K:aC→aA→Prop} (s:fU xs ys) (a:fE P f ys h K):fE P f xs h K :=
 ⟨a.1,fun E w vs R hL=>a.2 E w vs R (s.aK1 hL)⟩
theorem dI.sub {P:Program} {f:FuncId} {xs ys:List aC} {r:aC} (s:fU xs ys) (a:dI P f ys r):dI P f xs r:=fun h=>(a h).sub s
def Shift (r':aC) (h':aA) (r:aC) (h:aA):Prop :=
 ∀ E w v,Rel E h' w→eC E h' w r' v→∃ E',Ev E h' w E' h w∧Rel E' h w∧eC E' h w r v
theorem Shift.of {r' r:aC} {h' h:aA} (s:Sub r' r) (hl:h.le h'):Shift r' h' r h:=fun E w v R x =>
 ⟨E,(Ev.refl E h' w).forget hl,R.forget hl,s _ _ _ _ (x.pX fun b=>nB.le hl)⟩
theorem Shift.trans {a b c:aC} {h1 h2 h3:aA} (x:Shift a h1 b h2) (y:Shift b h2 c h3):Shift a h1 c h3:=fun E w v R r=>by
 obtain ⟨E',ev,R',r'⟩:=x E w v R r
 obtain ⟨E'',ev',R'',r''⟩:=y E' w v R' r'
 exact ⟨E'',ev.trans ev',R'',r''⟩
mutual
def aC.cR (n:Nat) (es:List (List aC)):aC→aC
 | .os m sz i len=>if m = n then .sl sz ((es.drop i).take len) false else .os m sz i len
 | .op m sz i off=>if m = n then .ip sz es i off else .op m sz i off
 | .agg cs=>.agg (iF n es cs)
 | .gW cs=>.gW (iF n es cs)
 |x=>x
def iF (n:Nat) (es:List (List aC)):List aC→List aC
 | []=>[]
 |x :: xs=>x.cR n es :: iF n es xs
end
theorem aDR (n:Nat) (es:List (List aC)):∀ l,iF n es l = l.map (aC.cR n es)
 | []=>rfl
 |x :: l=>by simp [iF,aDR n es l]
mutual
def dF (n sz k:Nat):aC→Bool
 | .os m sz' i len=>m != n || (sz' == sz && decide (i + len≤k))
 | .op m sz' i len=>m != n || sz' == sz
 | .agg cs=>dG n sz k cs
 | .gW cs=>dG n sz k cs
 | _=>true
def dG (n sz k:Nat):List aC→Bool
 | []=>true
 |x :: xs=>dF n sz k x && dG n sz k xs
end
theorem vC (n sz k:Nat):∀ (l:List aC),dG n sz k l = true→∀ (i:Nat) x,l[i]? = some x→dF n sz k x = true
 | [],_,i,x,hx=>by simp at hx
 |y :: l,h,0,x,hx=>by simp at hx;subst hx;simp only [dG,Bool.and_eq_true] at h;exact h.1
 |y :: l,h,i + 1,x,hx=>by simp only [dG,Bool.and_eq_true] at h;exact vC n sz k l h.2 i x (by simpa using hx)
theorem eC.nV {E:Env} {h:aA} {w:World} (R:Rel E h w) {n sz:Nat} {es:List (List Cell)} (hn:h n = some (.row sz es)) {x:aC} {v:Value} (r:eC E h w x v)
  (hb:dF n sz es.length x = true):eC E (a7 h n .gone) w (x.cR n (dP es)) v:=by
 have hi:∀ b,nB E h w b→nB E (a7 h n .gone) w b:=fun b=>uW n b
 induction r with
 |any v=>exact .any v
 |bool b=>exact .bool b
 |int k n=>exact .int k n
 |str s hl=>exact .str s hl
 |iH=>exact .iH
 |bO=>exact .bO
 |pF=>exact .pF
 |kC=>exact .kC
 |mB=>exact .mB
 |w7 sz t a cap ht hmax ha=>exact .w7 sz t a cap ht hmax ha
 |sl sz es t b o cap cv hb' hcap hmax ht hs hc h1 hr ih=>exact .sl sz es t b o cap cv (hi b hb') hcap hmax ht hs hc h1 fun i j x hx=>(hr i j x hx).pX hi
 |ip sz es i off b o cv hb' hs hc h1 hr ih=>exact .ip sz es i off b o cv (hi b hb') hs hc h1 fun i j x hx=>(hr i j x hx).pX hi
 |os0 m sz' hd hl =>
  simp only [aC.cR]
  split
  ·have:((dP es).drop 0).take 0 = []:=by simp
   rw [this]
   exact .w7 sz' false none 0 (fun _=>rfl) (by simp [maxLen]) trivial
  ·exact .os0 m sz' hd hl
 |op m sz' i off b o hd hl =>
  simp only [aC.cR]
  split
  ·rename_i e
   subst e
   simp only [dF,bne_self_eq_false,Bool.false_or,beq_iff_eq] at hb
   subst hb
   obtain ⟨b',o',hl',hbS,hs,cs,ct,cv,T,hh,hm',hT,hD,hc,hrr⟩:=uZ R hn (.inr ⟨_,hl⟩)
   rw [hl] at hl'
   obtain ⟨rfl,rfl⟩:=Prod.mk.inj (Option.some.inj hl')
   have himm:∀ c,E.fp m c→nB E (a7 h m .gone) w c:=fun c hc=>aA7 R hn trivial c hc
   have hat:∀ i' j y,iE (dP es) i' j = some y→∃ c,iE es i' j = some c∧y = c.val:=by
    intro i' j y hy
    rw [oN] at hy
    obtain ⟨c,hc,rfl⟩:=Option.map_eq_some_iff.1 hy
    exact ⟨c,hc,rfl⟩
   exact .ip sz' (dP es) i off b o cv (himm b hbS) (fun e he=>sS hs e he)
    (fun i' j y hy=>by
     obtain ⟨c,hc',rfl⟩:=hat i' j y hy
     have:=hc _ _ _ hc'
     simp only [World.cell?,hh]
     rw [← this]
     simp)
    (fun i' j y hy=>by obtain ⟨c,hc',rfl⟩:=hat i' j y hy;exact (hrr _ _ _ hc').one)
    (fun i' j y hy=>by
     obtain ⟨c,hc',rfl⟩:=hat i' j y hy
     exact (hrr _ _ _ hc').nV hi fun b hb=>himm b (hT _ _ b hb).1)
  ·exact .op m sz' i off b o hd hl
 |fn f cs ds vs us hl hr hl' hr' ih ih'=>exact .fn f cs ds vs us hl (fun i x v hx hv=>(hr i x v hx hv).pX hi) hl' (fun i x v hx hv=>(hr' i x v hx hv).pX hi)
 |iface t x v hr ih=>exact .iface t x v (hr.pX hi)
 |mp n b o hd hl=>exact .mp n b o hd hl
 |agg cs vs hl hr ih =>
  simp only [aC.cR,aDR]
  simp only [dF] at hb
  refine .agg _ vs (by simpa using hl) fun i x v hx hv=>?_
  rw [List.getElem?_map] at hx
  obtain ⟨y,hy,rfl⟩:=Option.map_eq_some_iff.1 hx
  exact ih i y v hy hv (vC _ _ _ _ hb i y hy)
 |gW cs vs hl hr ih =>
  simp only [aC.cR,aDR]
  simp only [dF] at hb
  refine .gW _ vs (by simpa using hl) fun i x v hx hv=>?_
  rw [List.getElem?_map] at hx
  obtain ⟨y,hy,rfl⟩:=Option.map_eq_some_iff.1 hx
  exact ih i y v hy hv (vC _ _ _ _ hb i y hy)
 |os m sz' i len b o cap t mm hd hl hlc hmax hsh hm =>
  simp only [aC.cR]
  split
  ·rename_i e
   subst e
   simp only [dF,bne_self_eq_false,Bool.false_or,Bool.and_eq_true,beq_iff_eq,decide_eq_true_eq] at hb
   obtain ⟨rfl,hle⟩:=hb
   obtain ⟨b',o',hl',hbS,hs,cs,ct,cv,T,hh,hm',hT,hD,hc,hrr⟩:=uZ R hn (.inr ⟨_,hl⟩)
   rw [hl] at hl'
   obtain ⟨rfl,rfl⟩:=Prod.mk.inj (Option.some.inj hl')
   have himm:∀ c,E.fp m c→nB E (a7 h m .gone) w c:=fun c hc=>aA7 R hn trivial c hc
   have hlen:(((dP es).drop i).take len).length = len:=by rw [List.length_take,List.length_drop,pZ];omega
   have hat:∀ i' j y,iE (((dP es).drop i).take len) i' j = some y→∃ c,iE es (i + i') j = some c∧y = c.val:=by
    intro i' j y hy
    obtain ⟨e,h1,h2⟩:=jI hy
    have hlt:i' < len:=by have:=(List.getElem?_eq_some_iff.1 h1).1;rw [hlen] at this;exact this
    rw [List.getElem?_take_of_lt hlt,List.getElem?_drop] at h1
    have:iE (dP es) (i + i') j = some y:=by simp [iE,h1,h2]
    rw [oN] at this
    obtain ⟨c,hc,rfl⟩:=Option.map_eq_some_iff.1 this
    exact ⟨c,hc,rfl⟩
   have:=eC.sl (E:=E) (h:=a7 h m .gone) (w:=w) sz' (((dP es).drop i).take len) false b (o + i * sz') cap (fun i' j=>cv (i + i') j) (himm b hbS) (by rw [hlen];exact hlc) hmax (fun e=>by simp at e)
    (fun e he=>sS hs e (List.mem_of_mem_drop (List.mem_of_mem_take he)))
    (fun i' j y hy=>by
     obtain ⟨c,hc',rfl⟩:=hat i' j y hy
     have:=hc _ _ _ hc'
     simp only [World.cell?,hh]
     rw [← this]
     simp only [Option.isSome_none,Bool.false_eq_true,if_false]
     congr 1;rw [Nat.add_mul];omega)
    (fun i' j y hy=>by obtain ⟨c,hc',rfl⟩:=hat i' j y hy;exact (hrr _ _ _ hc').one)
    (fun i' j y hy=>by
     obtain ⟨c,hc',rfl⟩:=hat i' j y hy
     exact (hrr _ _ _ hc').nV hi fun b hb=>himm b (hT _ _ b hb).1)
   rw [hlen] at this
   exact this
  ·exact .os m sz' i len b o cap t mm hd hl hlc hmax hsh hm
theorem Shift.cR {x:aC} {h:aA} {n sz:Nat} {es:List (List Cell)} (hn:h n = some (.row sz es)) (hb:dF n sz es.length x = true):Shift x h (x.cR n (dP es)) (a7 h n .gone):=fun E w v R r =>
 ⟨E,Ev.gone n,R.gone hn,r.nV R hn hb⟩
theorem mM.nV {P:Program} {N:Nat} {c:Code} {Q:Exit→bE→aA→Prop} {τ:bE} {h:aA} (n:Nat) {sz:Nat} {es:List (List Cell)} (hn:h n = some (.row sz es)) (hb:τ.all (fun p=>dF n sz es.length p.2) = true)
  (x:mM P N c Q (τ.map fun p=>(p.1,p.2.cR n (dP es))) (a7 h n .gone)):mM P N c Q τ h:=by
 intro ds E w a R r
 refine Code.wp_mono (fun e a' w' y=>o8.trans (Ev.gone n) y) (x ds E w a (R.gone hn) ⟨r.size,r.defers,fun k=>?_⟩)
 have key:∀ τ:bE,τ.all (fun p=>dF n sz es.length p.2) = true→dF n sz es.length (bF τ k) = true∧bF (τ.map fun p=>(p.1,p.2.cR n (dP es))) k = (bF τ k).cR n (dP es):=by
  intro τ
  induction τ with
  |nil=>intro _;exact ⟨rfl,rfl⟩
  |cons p τ ih =>
   intro hp
   simp only [List.all_cons,Bool.and_eq_true] at hp
   simp only [List.map_cons,bF]
   split
   ·exact ⟨hp.1,rfl⟩
   ·exact ih hp.2
 rw [(key τ hb).2]
 exact (r.get k).nV R hn (key τ hb).1
theorem p6 {P:Program} {f:FuncId} {fn:Func} {c:Code} {N:Nat} {args:List aC} {h:aA} {K K':aC→aA→Prop} (a:fE P f args h K') (hk:∀ r h',K' r h'→∃ r₁ h₁,Shift r h' r₁ h₁∧K r₁ h₁):fE P f args h K :=
 ⟨a.1,fun E w vs R hL=>Calls.mono (a.2 E w vs R hL) fun e w' he=>by
  cases e <;> try exact he
  obtain ⟨r,h',E',k,ev,R',rx⟩:=he
  obtain ⟨r₁,h₁,hs,k₁⟩:=hk r h' k
  obtain ⟨E'',ev',R'',rx'⟩:=hs E' w' _ R' rx
  exact ⟨r₁,h₁,E'',k₁,ev.trans ev',R'',rx'⟩⟩
theorem aUO {P:Program} {f:FuncId} {fn:Func} {c:Code} (N:Nat) (keep ib:List Nat) (mk:Marks) {args:List aC} {r:aC} (hmix:P.follows .mixedOrders = true) (hf:P.funcs[f]? = some fn) (hb:fn.body = some c)
  (hck:(kX P f && decide (fn.ntmps = N) && iS N mk c) = true) (hl:args.length≤N)
  (hw:∀ h,hwp P N keep ib mk c (yK P fn.results (fun r' h'=>Shift r' h' r h) .normal) (yK P fn.results fun r' h'=>Shift r' h' r h) (p4 0 args) h):dI P f args r:=fun h =>
 p6 (fn:=fn) (c:=c) (N:=N) (aDQ N keep ib mk hmix hf hb hck hl (hw h) fun r' h' hx=>⟨h',aA.le_refl _,hx⟩) fun r' h' hx=>⟨r,h,hx,rfl,rfl⟩
theorem cG {r:aC} {h' h:aA} (hl:h.le h'):Shift r h' r h:=.of (.refl r) hl
theorem aZ (r:aC) (h:aA):Shift r h r h:=.of (.refl r) (aA.le_refl h)
abbrev Tag {α:Type} (_:α):Type:=Unit
def fC {α:Type} (o:Option α) (K:α→Prop) (_:Tag K):Prop:=match o with | some x=>K x | none=>False
@[go_sem] theorem a63 {α:Type} (x:α) (K:α→Prop) (t:Tag K):fC (some x) K t = K x:=rfl
@[go_sem] theorem a64 {α:Type} (K:α→Prop) (t:Tag K):fC none K t = False:=rfl
def vD (v:aC) (A B:Prop) (_:Tag (A,B)):Prop:=match v with | .bool t=>(t = true→A)∧(t = false→B) | _=>False
@[go_sem] theorem a31 (c:Bool) (A B:Prop) (t:Tag (A,B)):vD (.bool c) A B t = ((c = true→A)∧(c = false→B)):=rfl
@[go_sem high] theorem a32 (A B:Prop) (t:Tag (A,B)):vD (.bool true) A B t = A:=by simp [vD]
@[go_sem high] theorem a1U (A B:Prop) (t:Tag (A,B)):vD (.bool false) A B t = B:=by simp [vD]
def aK2 (K:bE→aA→Prop) (Q:Exit→bE→aA→Prop) (_:Tag (K,Q)):Exit→bE→aA→Prop:=rX K Q
@[go_sem] theorem aYT (K:bE→aA→Prop) (Q:Exit→bE→aA→Prop) (t:Tag (K,Q)) (τ:bE) (h:aA):aK2 K Q t .normal τ h = K τ h:=rfl
@[go_sem] theorem a65 (K:bE→aA→Prop) (Q:Exit→bE→aA→Prop) (t:Tag (K,Q)) (τ:bE) (h:aA):aK2 K Q t .ret τ h = Q .ret τ h:=rfl
@[go_sem] theorem a33 (K:bE→aA→Prop) (Q:Exit→bE→aA→Prop) (t:Tag (K,Q)) (i:Nat) (τ:bE) (h:aA):aK2 K Q t (.exit i) τ h = Q (.exit i) τ h:=rfl
def aAI (id:Nat) (K:bE→aA→Prop) (Q:Exit→bE→aA→Prop) (_:Tag (K,Q)):Exit→bE→aA→Prop:=aDP id K Q
@[go_sem] theorem a34 (id:Nat) (K:bE→aA→Prop) (Q:Exit→bE→aA→Prop) (t:Tag (K,Q)) (τ:bE) (h:aA):aAI id K Q t .ret τ h = Q .ret τ h:=rfl
@[go_sem] theorem a1V (id:Nat) (K:bE→aA→Prop) (Q:Exit→bE→aA→Prop) (t:Tag (K,Q)) (τ:bE) (h:aA):aAI id K Q t (.exit id) τ h = K τ h:=by simp [aAI,aDP]
@[go_sem] theorem aYU (id i:Nat) (K:bE→aA→Prop) (Q:Exit→bE→aA→Prop) (t:Tag (K,Q)) (τ:bE) (h:aA) (hi:(i == id) = false):aAI id K Q t (.exit i) τ h = Q (.exit i) τ h:=by
 have:i≠id:=by simpa using hi
 simp [aAI,aDP,this]
def aAJ (P:Program) (N:Nat) (c:Code) (Q:Exit→bE→aA→Prop) (τ:bE) (h:aA) (_:Tag (c,Q)):Prop:=mM P N c Q τ h
def iP (P:Program) (ib:List Nat) (d:Option Tmp) (op:Op) (ρ:Operand→aC) (h:aA) (K:aC→aA→Prop) (_:Tag (op,K)):Prop :=
 p3 P ib ⟨d,op,0,"",#[],none⟩ ρ h K
def stepG (P:Program) (ib:List Nat) (d:Option Tmp) (op:Op) (ρ:Operand→aC) (K:aC→Prop) (_:Tag (op,K)):Prop :=
 aAG P ib ⟨d,op,0,"",#[],none⟩ ρ K
def yL (P:Program) (ib:List Nat) (os l:List Oper) (τ:bE) (h:aA) (K:bE→aA→Prop) (_:Tag (os,l,K)):Prop:=yJ P ib os.toArray l τ h K
def vE (os:List Oper) (g:Nat) (_:Tag os):Option Tmp:=(os.toArray[g]?).bind (·.dst)
@[go_sem] theorem a35 (o:Oper) (os:List Oper) (t:Tag (o :: os)):vE (o :: os) 0 t = o.dst:=by simp [vE]
@[go_sem] theorem a36 (o:Oper) (os:List Oper) (n:Nat) (t:Tag (o :: os)):vE (o :: os) (n + 1) t = vE os n ():=by simp [vE]
def lS (v:aC) (b:Bool) (A B C:Prop) (_:Tag (A,B,C)):Prop:=match v with
 | .bool b'=>(b' = b→A)∧(b' = !b→B)
 | .gW []=>C
 | _=>False
@[go_sem] theorem a37 (b:Bool) (A B C:Prop) (t:Tag (A,B,C)):lS (.gW []) b A B C t = C:=rfl
@[go_sem] theorem a81 (c:Bool) (A B C:Prop) (t:Tag (A,B,C)):lS (.bool c) true A B C t = ((c = true→A)∧(c = false→B)):=rfl
@[go_sem] theorem a82 (c:Bool) (A B C:Prop) (t:Tag (A,B,C)):lS (.bool c) false A B C t = ((c = false→A)∧(c = true→B)):=rfl
@[go_sem high] theorem a66 (A B C:Prop) (t:Tag (A,B,C)):lS (.bool true) true A B C t = A:=by simp [lS]
@[go_sem high] theorem a67 (A B C:Prop) (t:Tag (A,B,C)):lS (.bool false) true A B C t = B:=by simp [lS]
@[go_sem high] theorem a68 (A B C:Prop) (t:Tag (A,B,C)):lS (.bool true) false A B C t = B:=by simp [lS]
@[go_sem high] theorem a69 (A B C:Prop) (t:Tag (A,B,C)):lS (.bool false) false A B C t = A:=by simp [lS]
section
variable (P:Program) (ib:List Nat) (os rest:List Oper) (τ:bE) (h:aA) (K:bE→aA→Prop) (d:Option Tmp) (op:Op) (ty:TypeId) (p:String) (af:Array Edge)
@[go_sem] theorem a7A (t:Tag (os,[],K)):yL P ib os [] τ h K t = K τ h:=rfl
@[go_sem] theorem a38 (t:Tag (os,(⟨d,op,ty,p,af,none⟩ :: rest),K)):yL P ib os (⟨d,op,ty,p,af,none⟩ :: rest) τ h K t =
  iP P ib d op (hev τ) h (fun v h'=>yL P ib os rest (fJ τ d v) h' K ()) ():=rfl
@[go_sem] theorem a39 (g:Nat) (b:Bool) (t:Tag (os,(⟨d,op,ty,p,af,some (g,b)⟩ :: rest),K)):yL P ib os (⟨d,op,ty,p,af,some (g,b)⟩ :: rest) τ h K t =
  fC (vE os g ()) (fun s=>lS (bF τ s) b (iP P ib d op (hev ((s,.bool b) :: τ)) h (fun v h'=>yL P ib os rest (fJ ((s,.bool b) :: τ) d v) h' K ()) ())
   (yL P ib os rest (fJ ((s,.bool !b) :: τ) d (.gW [])) h K ()) (yL P ib os rest (fJ τ d (.gW [])) h K ()) ()) ():=by
 unfold yL
 rw [yJ]
 simp only [fC,vE]
 cases (os.toArray[g]?).bind (·.dst) with
 |none=>rfl
 |some s =>
  simp only [lS]
  cases bF τ s <;> first | rfl | (rename_i cs;cases cs <;> rfl)
end
def yM (P:Program) (ib:List Nat) (os:List Oper) (ms:List Nat) (cr:List (Nat × Nat)) (l:pA) (pr:List (Nat × Nat)) (τ:bE) (h:aA) (K:bE→aA→Prop) (_:Tag (os,K)):Prop:=aAH P ib os.toArray ms cr l pr τ h K
def aDS (P:Program) (ib:List Nat) (os:List Oper) (cr:List (Nat × Nat)) (i:Nat) (m:Bool) (o:Oper) (pr:List (Nat × Nat)) (τ:bE) (h:aA) (K:List (Nat × Nat)→bE→aA→Prop) (_:Tag (os,o,K)):Prop :=
 match o.guard with
 |none=>aBG P ib cr i m o (pH os.toArray o τ) pr h (fun pr' v h'=>K pr' (fJ τ o.dst v) h')
 |some (g,b)=>match (os.toArray[g]?).bind (·.dst) with
  |some d=>match bF τ d with
   | .bool b'=>(b' = b→aBG P ib cr i m o (pH os.toArray o ((d,.bool b) :: τ)) pr h (fun pr' v h'=>K pr' (fJ ((d,.bool b) :: τ) o.dst v) h')) ∧
     (b' = !b→K pr (fJ ((d,.bool !b) :: τ) o.dst (.gW [])) h)
   | .gW []=>K pr (fJ τ o.dst (.gW [])) h
   | _=>False
  |none=>False
def aK3 (os:List Oper) (i:Nat) (K:Oper→Prop) (_:Tag (os,K)):Prop:=match os[i]? with | some o=>K o | none=>False
@[go_sem] theorem a7B (o:Oper) (os:List Oper) (K:Oper→Prop) (t:Tag (o :: os,K)):aK3 (o :: os) 0 K t = K o:=rfl
@[go_sem] theorem a7C (o:Oper) (os:List Oper) (i:Nat) (K:Oper→Prop) (t:Tag (o :: os,K)):aK3 (o :: os) (i + 1) K t = aK3 os i K ():=rfl
def aNZ (os:List Oper) (o:Oper) (τ:bE) (_:Tag (os,o)):Operand→aC:=pH os.toArray o τ
section
variable (P:Program) (ib:List Nat) (os:List Oper) (τ:bE) (h:aA) (K:bE→aA→Prop) (d:Option Tmp) (op:Op) (ty:TypeId) (p:String) (af:Array Edge)
variable (cr:List (Nat × Nat)) (pr:List (Nat × Nat)) (i:Nat)
@[go_sem] theorem a7D (ms:List Nat) (t:Tag (os,K)):yM P ib os ms cr .nil pr τ h K t = K τ h:=rfl
theorem aN0 (ms:List Nat) (i:Nat) (C:List (Nat × Nat)→bE→aA→Prop):OpD P ib os.toArray ms cr i pr τ h C = aK3 os i (fun o=>aDS P ib os cr i (ms.contains i) o pr τ h C ()) ():=by
 simp only [OpD,aK3,aDS,List.getElem?_toArray]
 cases os[i]? <;> rfl
@[go_sem] theorem a83 (ms:List Nat) (l:pA) (i:Nat) (t:Tag (os,K)):yM P ib os ms cr (.op i l) pr τ h K t = aK3 os i (fun o=>aDS P ib os cr i (ms.contains i) o pr τ h (fun pr' τ' h'=>yM P ib os ms cr l pr' τ' h' K ()) ()) ():=by
 simp only [yM,aAH];exact aN0 P ib os τ h cr pr ms i _
@[go_sem] theorem a7E (ms:List Nat) (l q:pA) (i j:Nat) (t:Tag (os,K)):yM P ib os ms cr (.alt i l j q) pr τ h K t = ((aK3 os i (fun o=>aDS P ib os cr i (ms.contains i) o pr τ h (fun pr' τ' h'=>yM P ib os ms cr l pr' τ' h' K ()) ()) ())∧aK3 os j (fun o=>aDS P ib os cr j (ms.contains j) o pr τ h (fun pr' τ' h'=>yM P ib os ms cr q pr' τ' h' K ()) ()) ()):=by
 simp only [yM,aAH];rw [aN0 P ib os τ h cr pr ms i _,aN0 P ib os τ h cr pr ms j _]
@[go_sem] theorem a84 (o:Oper) (t:Tag (os,o)) (k:Nat):aNZ os o τ t (.tmp k) = if (o9 os.toArray o).contains k then bF τ k else .any:=rfl
@[go_sem] theorem a4A (o:Oper) (t:Tag (os,o)) (v:Value):aNZ os o τ t (.const v) = aC.ofValue v:=rfl
@[go_sem] theorem a7F (o:Oper) (t:Tag (os,o)) (f:FuncId):aNZ os o τ t (.func f) = hev τ (.func f):=rfl
def gF:Op→Bool
 | .load _ _=>true
 | _=>false
def aBH (d:Option Tmp) (op:Op) (ρ:Operand→aC) (M:List (Nat × Nat)→aC→aA→Prop) (_:Tag (op,M)):Prop :=
 if gF op then aKY P ⟨d,op,0,"",#[],none⟩ ρ h (fun n v=>M (aK0 cr i n pr) v h) else p3 P ib ⟨d,op,0,"",#[],none⟩ ρ h (fun v h'=>iT cr i pr h h'∧M pr v h')
theorem aP9 (ρ:Operand→aC) (g:Option (Nat × Bool)) (M:List (Nat × Nat)→aC→aA→Prop):aBG P ib cr i true ⟨d,op,ty,p,af,g⟩ ρ pr h M = aBH P ib h cr pr i d op ρ M ():=by
 unfold aBG aBH
 cases op <;> rfl
@[go_sem] theorem bD1 (L:List (Nat × Nat)→bE→aA→Prop) (t:Tag (os,(⟨d,op,ty,p,af,none⟩:Oper),L)):aDS P ib os cr i true ⟨d,op,ty,p,af,none⟩ pr τ h L t = aBH P ib h cr pr i d op (aNZ os ⟨d,op,ty,p,af,none⟩ τ ()) (fun pr' v h'=>L pr' (fJ τ d v) h') ():=by
 rw [← aP9 (ty:=ty) (p:=p) (af:=af) (g:=none)];rfl
@[go_sem] theorem bD2 (L:List (Nat × Nat)→bE→aA→Prop) (t:Tag (os,(⟨d,op,ty,p,af,none⟩:Oper),L)):aDS P ib os cr i false ⟨d,op,ty,p,af,none⟩ pr τ h L t = stepG P ib d op (aNZ os ⟨d,op,ty,p,af,none⟩ τ ()) (fun v=>L pr (fJ τ d v) h) ():=rfl
@[go_sem] theorem bCL (L:List (Nat × Nat)→bE→aA→Prop) (g:Nat) (b:Bool) (t:Tag (os,(⟨d,op,ty,p,af,some (g,b)⟩:Oper),L)):aDS P ib os cr i true ⟨d,op,ty,p,af,some (g,b)⟩ pr τ h L t =
  fC (vE os g ()) (fun s=>lS (bF τ s) b (aBH P ib h cr pr i d op (aNZ os ⟨d,op,ty,p,af,some (g,b)⟩ ((s,.bool b) :: τ) ()) (fun pr' v h'=>L pr' (fJ ((s,.bool b) :: τ) d v) h') ())
   (L pr (fJ ((s,.bool !b) :: τ) d (.gW [])) h) (L pr (fJ τ d (.gW [])) h) ()) ():=by
 simp only [aDS,fC,vE,← aP9 (ty:=ty) (p:=p) (af:=af) (g:=some (g,b))]
 cases (os.toArray[g]?).bind (·.dst) with
 |none=>rfl
 |some s =>
  simp only [lS]
  cases bF τ s <;> first | rfl | (rename_i cs;cases cs <;> rfl)
@[go_sem] theorem bCM (L:List (Nat × Nat)→bE→aA→Prop) (g:Nat) (b:Bool) (t:Tag (os,(⟨d,op,ty,p,af,some (g,b)⟩:Oper),L)):aDS P ib os cr i false ⟨d,op,ty,p,af,some (g,b)⟩ pr τ h L t =
  fC (vE os g ()) (fun s=>lS (bF τ s) b (stepG P ib d op (aNZ os ⟨d,op,ty,p,af,some (g,b)⟩ ((s,.bool b) :: τ) ()) (fun v=>L pr (fJ ((s,.bool b) :: τ) d v) h) ())
   (L pr (fJ ((s,.bool !b) :: τ) d (.gW [])) h) (L pr (fJ τ d (.gW [])) h) ()) ():=by
 simp only [aDS,fC,vE]
 cases (os.toArray[g]?).bind (·.dst) with
 |none=>rfl
 |some s =>
  simp only [lS]
  cases bF τ s <;> first | rfl | (rename_i cs;cases cs <;> rfl)
end
def oO (P:Program) (N:Nat) (keep ib:List Nat) (mk:Marks) (c:Code) (K:bE→aA→Prop) (Q:Exit→bE→aA→Prop) (τ:bE) (h:aA) (_:Tag (c,K,Q)):Prop:=hwp P N keep ib mk c K Q τ h
section
variable (P:Program) (N:Nat) (keep ib:List Nat) (mk:Marks) (K:bE→aA→Prop) (Q:Exit→bE→aA→Prop) (τ:bE) (h:aA)
@[go_sem] theorem a7G (t:Tag (Code.skip,K,Q)):oO P N keep ib mk .skip K Q τ h t = K τ h:=rfl
@[go_sem] theorem a85 (t:Tag (Code.ret,K,Q)):oO P N keep ib mk .ret K Q τ h t = Q .ret τ h:=rfl
@[go_sem] theorem a7H (i:Nat) (t:Tag (Code.exit i,K,Q)):oO P N keep ib mk (.exit i) K Q τ h t = Q (.exit i) τ h:=rfl
@[go_sem] theorem a86 (a b:Code) (t:Tag (Code.seq a b,K,Q)):oO P N keep ib mk (.seq a b) K Q τ h t = oO P N keep ib mk a (fun τ h=>oO P N keep ib mk b K Q τ h ()) Q τ h ():=rfl
@[go_sem] theorem a7I (x:Operand) (a b:Code) (t:Tag (Code.cond x a b,K,Q)):oO P N keep ib mk (.cond x a b) K Q τ h t = vD (hev τ x) (oO P N keep ib mk a K Q τ h ()) (oO P N keep ib mk b K Q τ h ()) ():=by
 simp only [oO,hwp,vD];cases hev τ x <;> rfl
@[go_sem] theorem a4B (i:Nat) (c:Code) (t:Tag (Code.block i c,K,Q)):oO P N keep ib mk (.block i c) K Q τ h t = oO P N keep ib mk c K (aAI i K Q ()) τ h ():=rfl
@[go_sem] theorem a7J (c:Code) (t:Tag (Code.loop c,K,Q)):oO P N keep ib mk (.loop c) K Q τ h t = aAJ P N (.loop c) (aK2 K Q ()) τ h ():=rfl
@[go_sem] theorem a1W (i:Nat) (os:List Oper) (t:Tag (Code.region i ⟨os⟩ false,K,Q)):oO P N keep ib mk (.region i ⟨os⟩ false) K Q τ h t = yL P ib os os τ h (fun τ' h'=>K (Hl.prune keep τ') h') ():=rfl
@[go_sem] theorem a7K (i:Nat) (os:List Oper) (t:Tag (Code.region i ⟨os⟩ true,K,Q)):oO P N keep ib mk (.region i ⟨os⟩ true) K Q τ h t = yM P ib os (mk i).1 (mk i).2.2 (mk i).2.1 [] τ h (fun τ' h'=>K (Hl.prune keep τ') h') ():=rfl
end
theorem aDT {P:Program} {N:Nat} {keep ib:List Nat} {mk:Marks} (hmix:P.follows .mixedOrders = true) (c:Code) (K:bE→aA→Prop) (Q:Exit→bE→aA→Prop) (τ:bE) (h:aA) (hc:iS N mk c = true) (hw:oO P N keep ib mk c K Q τ h ()):mM P N c (aK2 K Q ()) τ h :=
 nY hmix c K Q τ h hc hw
def aK4:Op→Bool
 | .box ..=>false
 | .buildSlice ..=>false
 | .call ⟨.builtin .append,_,_⟩=>false
 | _=>true
theorem eJ {P:Program} {ib:List Nat} {d:Option Tmp} {op:Op} {ρ:Operand→aC} {h:aA} {K:aC→aA→Prop} {t:Tag (op,K)} (hop:aK4 op = true):iP P ib d op ρ h K t = step P ⟨d,op,0,"",#[],none⟩ ρ h K:=by
 unfold iP p3
 cases d with
 |none=>rfl
 |some d =>
  simp only
  split
  ·cases op <;> first | rfl | (simp [aK4] at hop;done) | (rename_i c;rcases c with ⟨f,as,ats⟩;cases f <;> first | rfl | (rename_i b;cases b <;> first | rfl | (simp [aK4] at hop;done)))
  ·rfl
theorem fL {P:Program} {ib:List Nat} {d:Option Tmp} {op:Op} {ρ:Operand→aC} {K:aC→Prop} {t:Tag (op,K)} (hop:aK4 op = true):stepG P ib d op ρ K t = aBF P ⟨d,op,0,"",#[],none⟩ ρ K:=by
 unfold stepG aAG
 cases d with
 |none=>rfl
 |some d =>
  simp only
  split
  ·cases op <;> first | rfl | (simp [aK4] at hop)
  ·rfl
def aBY (P:Program) (op:BinOp) (ty:TypeId) (x y:aC) (K:aC→Prop) (_:Tag K):Prop:=rY P op ty x y K
def aDU (P:Program) (op:BinOp) (ty:TypeId) (c:Bool) (x y:aC) (K:aC→Prop) (_:Tag K):Prop:=rZ P op ty c x y K
def jW (P:Program) (op:BinOp) (ty:TypeId) (x y:aC) (K:aC→Prop) (_:Tag K):Prop:=fK P op ty x y K
def unF (op:UnOp) (x:aC) (K:aC→Prop) (_:Tag K):Prop:=aAC op x K
def faF (d:Option TyD) (f:Nat) (x:aC) (K:aC→Prop) (_:Tag K):Prop:=aAD d f x K
def iaF (re:Option jU) (x i:aC) (K:aC→Prop) (_:Tag K):Prop:=aAE re x i K
def ixF (d:Option TyD) (x i:aC) (K:aC→Prop) (_:Tag K):Prop:=xD d x i K
def ldF (r:Option jU) (a:aC) (h:aA) (K:aC→Prop) (_:Tag K):Prop:=iJ r a h K
def stF (r:Option jU) (a v:aC) (h:aA) (K:aA→Prop) (_:Tag K):Prop:=aHZ r a v h K
def alF (r:Option jU) (h:aA) (K:aC→aA→Prop) (_:Tag K):Prop:=aAF r h K
def mkF (re:Option jU) (l c:aC) (h:aA) (K:aC→aA→Prop) (_:Tag K):Prop:=aDD re l c h K
def slD (P:Program) (t:TypeId) (x:aC) (lo hi:Option aC) (K:aC→Prop) (_:Tag K):Prop:=nX P t x lo hi K
def slF (P:Program) (t:TypeId) (x:aC) (lo hi:Option aC) (K:aC→Prop) (_:Tag K):Prop:=k9 P t x lo hi K
def aUP (P:Program) (d:Option TyD) (x:aC) (K:aC→Prop) (_:Tag K):Prop:=match d,x with
  |some (.slice _),.sl _ es _=>es.length≤9223372036854775807→K (.int .i64 es.length)
  |some (.slice _),.os _ _ _ n=>n≤9223372036854775807→K (.int .i64 n)
  |some (.slice _),.bO=>K (.int .i64 0)
  |some .str,.str s=>s.length≤9223372036854775807→K (.int .i64 s.length)
  | _,_=>False
def aUQ (P:Program) (d:Option TyD) (x:aC) (K:aC→Prop) (_:Tag K):Prop:=match d,x with
  |some (.slice _),.sl _ es _=>K (.int .i64 es.length)
  |some (.slice _),.os _ _ _ n=>K (.int .i64 n)
  |some (.slice _),.bO=>K (.int .i64 0)
  |some .str,.str s=>K (.int .i64 s.length)
  | _,_=>False
def cvF (P:Program) (s:Option TyD) (d:Option TyD) (x:aC) (K:aC→Prop) (_:Tag K):Prop:=match d,x with
 |some (.int k'),.int k n=>s.isSome = true∧K (.int k' (k'.wrap n))
 |some .str,.sl 1 es _=>(match s with
  |some (.slice et)=>uF P et = some (.int .u8)∧(match bytesOf es with | some bs=>K (.str bs) | none=>False)
  | _=>False)
 | _,_=>False
def aYV (P:Program) (t:TypeId) (x:aC) (lo:Option aC) (hi mx:aC) (K:aC→Prop) (_:Tag K):Prop:=mO P t x lo hi mx K
def rdF (cr:List (Nat × Nat)) (i:Nat) (pr:List (Nat × Nat)) (r:Option jU) (x:aC) (h:aA) (M:List (Nat × Nat)→aC→aA→Prop) (_:Tag M):Prop:=match x with
 | .op n sz j off=>iJ r (.op n sz j off) h fun v=>M (aK0 cr i (some n) pr) v h
 | .ip sz es j off=>iJ r (.ip sz es j off) h fun v=>M (aK0 cr i none pr) v h
 | _=>False
def aYW (c A:Prop) (_:Tag A):Prop:=c∧A
@[go_sem] theorem bCS (c A:Prop) (t:Tag A):aYW c A t = (c∧A):=rfl
@[go_sem high] theorem a7N (A:Prop) (t:Tag A):aYW True A t = A:=by simp [aYW]
def buF (P:Program) (r:Option jU) (ps:List (Nat × aC)) (K:aC→Prop) (_:Tag K):Prop:=pP P r ps K
def exF (x:aC) (i:Nat) (K:aC→Prop) (_:Tag K):Prop:=match x with
  | .gW cs=>match cs[i]? with | some x=>K x | none=>False
  | _=>False
def ncF (x:aC) (K:aC→Prop) (_:Tag K):Prop:=match x with
  | .op n sz i k=>K (.op n sz i k)
  | .ip sz es i k=>K (.ip sz es i k)
  | _=>False
def a1Z (P:Program) (f:aC) (args:List aC) (h:aA) (K:aC→aA→Prop) (_:Tag K):Prop:=match f with
  | .fn (.func g) first cap=>fE P g (first ++ args ++ cap) h K
  | _=>False
def a10 (P:Program) (f:aC) (args:List aC) (K:aC→Prop) (_:Tag K):Prop:=match f with
  | .fn (.func g) first cap=>aKW P g (first ++ args ++ cap) K
  | _=>False
def aG (P:Program) (g:FuncId) (args:List aC) (h:aA) (K:aC→aA→Prop) (_:Tag K):Prop:=fE P g args h K
def aD (P:Program) (g:FuncId) (args:List aC) (K:aC→Prop) (_:Tag K):Prop:=aKW P g args K
theorem aG.mk {P:Program} {g:FuncId} {args:List aC} {h:aA} {K:aC→aA→Prop} {t:Tag K} {r:aC} (a:dI P g args r) (k:K r h):aG P g args h K t:=dI.call a k
theorem aD.mk {P:Program} {g:FuncId} {args:List aC} {K:aC→Prop} {t:Tag K} {r:aC} (a:dI P g args r) (k:K r):aD P g args K t:=⟨r,a,k⟩
section
variable (P:Program) (ib:List Nat) (d:Option Tmp) (ρ:Operand→aC) (h:aA) (K:aC→aA→Prop) (L:aC→Prop)
@[go_sem] theorem bCV (x:Operand) (t:Tag (Op.move x,K)):iP P ib d (.move x) ρ h K t = K (ρ x) h:=by rw [eJ rfl];rfl
@[go_sem] theorem bCW (x:Operand) (t:Tag (Op.move x,L)):stepG P ib d (.move x) ρ L t = L (ρ x):=by rw [fL rfl];rfl
@[go_sem] theorem a7O (x:Operand) (t:Tag (Op.assign x,K)):iP P ib d (.assign x) ρ h K t = K (ρ x) h:=by rw [eJ rfl];rfl
@[go_sem] theorem a7P (x:Operand) (t:Tag (Op.assign x,L)):stepG P ib d (.assign x) ρ L t = L (ρ x):=by rw [fL rfl];rfl
@[go_sem] theorem bCX (c a b:Operand) (t:Tag (Op.pick c a b,K)):iP P ib d (.pick c a b) ρ h K t = vD (ρ c) (K (ρ a) h) (K (ρ b) h) ():=by
 rw [eJ rfl];simp only [step,vD];cases ρ c <;> rfl
@[go_sem] theorem bCY (c a b:Operand) (t:Tag (Op.pick c a b,L)):stepG P ib d (.pick c a b) ρ L t = vD (ρ c) (L (ρ a)) (L (ρ b)) ():=by
 rw [fL rfl];simp only [aBF,vD];cases ρ c <;> rfl
@[go_sem] theorem bD5 (op:BinOp) (ty ty':TypeId) (x y:Operand) (t:Tag (Op.binOp op ty x y ty',K)):iP P ib d (.binOp op ty x y ty') ρ h K t = aDU P op ty (pG y) (ρ x) (ρ y) (fun v=>K v h) ():=by rw [eJ rfl];rfl
@[go_sem] theorem bD6 (op:BinOp) (ty ty':TypeId) (x y:Operand) (t:Tag (Op.binOp op ty x y ty',L)):stepG P ib d (.binOp op ty x y ty') ρ L t = jW P op ty (ρ x) (ρ y) L ():=by rw [fL rfl];rfl
@[go_sem] theorem bF1 (op:UnOp) (ty:TypeId) (x:Operand) (t:Tag (Op.unOp op ty x,K)):iP P ib d (.unOp op ty x) ρ h K t = unF op (ρ x) (fun v=>K v h) ():=by rw [eJ rfl];rfl
@[go_sem] theorem bF2 (op:UnOp) (ty:TypeId) (x:Operand) (t:Tag (Op.unOp op ty x,L)):stepG P ib d (.unOp op ty x) ρ L t = unF op (ρ x) L ():=by rw [fL rfl];rfl
@[go_sem] theorem bCZ (s e:TypeId) (x:Operand) (t:Tag (Op.convert s e x,K)):iP P ib d (.convert s e x) ρ h K t = cvF P (uF P s) (uF P e) (ρ x) (fun v=>K v h) ():=by rw [eJ rfl];rfl
@[go_sem] theorem bC0 (s e:TypeId) (x:Operand) (t:Tag (Op.convert s e x,L)):stepG P ib d (.convert s e x) ρ L t = cvF P (uF P s) (uF P e) (ρ x) L ():=by rw [fL rfl];rfl
@[go_sem] theorem bF3 (ty:TypeId) (x:Operand) (f:Nat) (t:Tag (Op.fieldAddr ty x f,K)):iP P ib d (.fieldAddr ty x f) ρ h K t = faF (uF P ty) f (ρ x) (fun v=>K v h) ():=by rw [eJ rfl];rfl
@[go_sem] theorem bF4 (ty:TypeId) (x:Operand) (f:Nat) (t:Tag (Op.fieldAddr ty x f,L)):stepG P ib d (.fieldAddr ty x f) ρ L t = faF (uF P ty) f (ρ x) L ():=by rw [fL rfl];rfl
@[go_sem] theorem bF5 (ty:TypeId) (x i:Operand) (t:Tag (Op.indexAddr ty x i,K)):iP P ib d (.indexAddr ty x i) ρ h K t = iaF (j3 P ty) (ρ x) (ρ i) (fun v=>K v h) ():=by rw [eJ rfl];rfl
@[go_sem] theorem bF6 (ty:TypeId) (x i:Operand) (t:Tag (Op.indexAddr ty x i,L)):stepG P ib d (.indexAddr ty x i) ρ L t = iaF (j3 P ty) (ρ x) (ρ i) L ():=by rw [fL rfl];rfl
@[go_sem] theorem bF7 (ty:TypeId) (x i:Operand) (t:Tag (Op.index ty x i,K)):iP P ib d (.index ty x i) ρ h K t = ixF (uF P ty) (ρ x) (ρ i) (fun v=>K v h) ():=by rw [eJ rfl];rfl
@[go_sem] theorem bF8 (ty:TypeId) (x i:Operand) (t:Tag (Op.index ty x i,L)):stepG P ib d (.index ty x i) ρ L t = ixF (uF P ty) (ρ x) (ρ i) L ():=by rw [fL rfl];rfl
@[go_sem] theorem bF9 (ty:TypeId) (a:Operand) (t:Tag (Op.load ty a,K)):iP P ib d (.load ty a) ρ h K t = ldF (gL P ty) (ρ a) h (fun v=>K v h) ():=by rw [eJ rfl];rfl
@[go_sem] theorem bGA (ty:TypeId) (a v:Operand) (t:Tag (Op.store ty a v,K)):iP P ib d (.store ty a v) ρ h K t = stF (gL P ty) (ρ a) (ρ v) h (fun h'=>K .any h') ():=by rw [eJ rfl];rfl
@[go_sem] theorem bGB (ty:TypeId) (t:Tag (Op.alloc ty,K)):iP P ib d (.alloc ty) ρ h K t = alF (gL P ty) h K ():=by rw [eJ rfl];rfl
@[go_sem] theorem bGC (ty:TypeId) (l c:Operand) (t:Tag (Op.makeSlice ty l c,K)):iP P ib d (.makeSlice ty l c) ρ h K t = mkF (j3 P ty) (ρ l) (ρ c) h K ():=by rw [eJ rfl];rfl
@[go_sem] theorem bGD (ty:TypeId) (x:Operand) (lo hi:Option Operand) (t:Tag (Op.slice ty x lo hi none,K)):iP P ib d (.slice ty x lo hi none) ρ h K t = slD P ty (ρ x) (lo.map ρ) (hi.map ρ) (fun v=>K v h) ():=by rw [eJ rfl];rfl
@[go_sem] theorem bGE (ty:TypeId) (x:Operand) (lo hi:Option Operand) (t:Tag (Op.slice ty x lo hi none,L)):stepG P ib d (.slice ty x lo hi none) ρ L t = slF P ty (ρ x) (lo.map ρ) (hi.map ρ) L ():=by rw [fL rfl];rfl
@[go_sem] theorem bD7 (ty:TypeId) (x:Operand) (lo:Option Operand) (hi mx:Operand) (t:Tag (Op.slice ty x lo (some hi) (some mx),K)):iP P ib d (.slice ty x lo (some hi) (some mx)) ρ h K t = aYV P ty (ρ x) (lo.map ρ) (ρ hi) (ρ mx) (fun v=>K v h) ():=by rw [eJ rfl];rfl
@[go_sem] theorem bD8 (ty:TypeId) (x:Operand) (lo:Option Operand) (hi mx:Operand) (t:Tag (Op.slice ty x lo (some hi) (some mx),L)):stepG P ib d (.slice ty x lo (some hi) (some mx)) ρ L t = aYV P ty (ρ x) (lo.map ρ) (ρ hi) (ρ mx) L ():=by rw [fL rfl];rfl
@[go_sem] theorem bGF (cr pr:List (Nat × Nat)) (i:Nat) (ty:TypeId) (a:Operand) (M:List (Nat × Nat)→aC→aA→Prop) (t:Tag (Op.load ty a,M)):aBH P ib h cr pr i d (.load ty a) ρ M t = rdF cr i pr (gL P ty) (ρ a) h M ():=by
 unfold aBH aKY rdF;simp only [gF,if_true]
 cases ρ a <;> rfl
@[go_sem] theorem bD9 (cr pr:List (Nat × Nat)) (i:Nat) (op:Op) (M:List (Nat × Nat)→aC→aA→Prop) (t:Tag (op,M)) (hop:gF op = false):aBH P ib h cr pr i d op ρ M t = iP P ib d op ρ h (fun v h'=>aYW (iT cr i pr h h') (M pr v h') ()) ():=by
 unfold aBH;rw [hop];rfl
@[go_sem] theorem bGG (x:Operand) (i:Nat) (t:Tag (Op.extract x i,K)):iP P ib d (.extract x i) ρ h K t = exF (ρ x) i (fun v=>K v h) ():=by rw [eJ rfl];rfl
@[go_sem] theorem bGH (x:Operand) (i:Nat) (t:Tag (Op.extract x i,L)):stepG P ib d (.extract x i) ρ L t = exF (ρ x) i L ():=by rw [fL rfl];rfl
@[go_sem] theorem bGI (x:Operand) (t:Tag (Op.nilCheck x,K)):iP P ib d (.nilCheck x) ρ h K t = ncF (ρ x) (fun v=>K v h) ():=by rw [eJ rfl];rfl
@[go_sem] theorem bGJ (x:Operand) (t:Tag (Op.nilCheck x,L)):stepG P ib d (.nilCheck x) ρ L t = ncF (ρ x) L ():=by rw [fL rfl];rfl
@[go_sem] theorem bGK (f:Fn) (fs cs:Array Operand) (t:Tag (Op.makeFunc f fs cs,K)):iP P ib d (.makeFunc f fs cs) ρ h K t = K (.fn f (fs.toList.map ρ) (cs.toList.map ρ)) h:=by rw [eJ rfl];rfl
@[go_sem] theorem bGL (f:Fn) (fs cs:Array Operand) (t:Tag (Op.makeFunc f fs cs,L)):stepG P ib d (.makeFunc f fs cs) ρ L t = L (.fn f (fs.toList.map ρ) (cs.toList.map ρ)):=by rw [fL rfl];rfl
@[go_sem] theorem bGM (ty:TypeId) (ps:Array (Nat × Operand)) (t:Tag (Op.build ty ps,K)):iP P ib d (.build ty ps) ρ h K t = buF P (gL P ty) (ps.toList.map fun p=>(p.1,ρ p.2)) (fun v=>K v h) ():=by rw [eJ rfl];rfl
@[go_sem] theorem bGN (ty:TypeId) (ps:Array (Nat × Operand)) (t:Tag (Op.build ty ps,L)):stepG P ib d (.build ty ps) ρ L t = buF P (gL P ty) (ps.toList.map fun p=>(p.1,ρ p.2)) L ():=by rw [fL rfl];rfl
@[go_sem] theorem bC1 (f:Operand) (as:Array Operand) (ats:Array TypeId) (t:Tag (Op.call ⟨.value f,as,ats⟩,K)):iP P ib d (.call ⟨.value f,as,ats⟩) ρ h K t = a1Z P (ρ f) (as.toList.map ρ) h K ():=by rw [eJ rfl];rfl
@[go_sem] theorem bC2 (f:Operand) (as:Array Operand) (ats:Array TypeId) (t:Tag (Op.call ⟨.value f,as,ats⟩,L)):stepG P ib d (.call ⟨.value f,as,ats⟩) ρ L t = a10 P (ρ f) (as.toList.map ρ) L ():=by rw [fL rfl];rfl
end
section
variable (P:Program) (ib:List Nat) (d:Option Tmp) (ρ:Operand→aC) (h:aA) (K:aC→aA→Prop) (L:aC→Prop)
def ldG (r:Option jU) (a:aC) (K:aC→Prop) (_:Tag K):Prop:=match a with
  | .ip sz es i off=>iJ r (.ip sz es i off) (fun _=>none) K
  | _=>False
@[go_sem] theorem bGO (ty:TypeId) (a:Operand) (t:Tag (Op.load ty a,L)):stepG P ib d (.load ty a) ρ L t = ldG (gL P ty) (ρ a) L ():=by
 rw [fL rfl];simp only [aBF,ldG];cases ρ a <;> rfl
@[go_sem] theorem bEA (x:Operand) (ty:TypeId) (t:Tag (Op.call ⟨.builtin .len,#[x],#[ty]⟩,K)):iP P ib d (.call ⟨.builtin .len,#[x],#[ty]⟩) ρ h K t = aUP P (uF P ty) (ρ x) (fun v=>K v h) ():=by rw [eJ rfl];rfl
@[go_sem] theorem bEB (x:Operand) (ty:TypeId) (t:Tag (Op.call ⟨.builtin .len,#[x],#[ty]⟩,L)):stepG P ib d (.call ⟨.builtin .len,#[x],#[ty]⟩) ρ L t = aUQ P (uF P ty) (ρ x) L ():=by rw [fL rfl];rfl
def aYX (x y:aC) (K:aC→Prop) (_:Tag K):Prop:=match x,y with
   | .int k a,.int k' b=>k' = k∧K (.int k (max a b))
   | _,_=>False
@[go_sem] theorem a87 (k k':IntKind) (a b:Int) (t:Tag L):aYX (.int k a) (.int k' b) L t = (k' = k∧L (.int k (max a b))):=rfl
theorem aQA (x y:aC) (K:aC→Prop):(match x,y with
   | .int k a,.int _ b=>(match y with | .int k' _=>k' = k | _=>False)∧K (.int k (max a b))
   | _,_=>False) = aYX x y K ():=by cases x <;> cases y <;> rfl
@[go_sem] theorem bEC (x y:Operand) (ats:Array TypeId) (t:Tag (Op.call ⟨.builtin .max,#[x,y],ats⟩,K)):iP P ib d (.call ⟨.builtin .max,#[x,y],ats⟩) ρ h K t = aYX (ρ x) (ρ y) (fun v=>K v h) ():=by
 rw [eJ rfl,← aQA];rfl
@[go_sem] theorem bED (x y:Operand) (ats:Array TypeId) (t:Tag (Op.call ⟨.builtin .max,#[x,y],ats⟩,L)):stepG P ib d (.call ⟨.builtin .max,#[x,y],ats⟩) ρ L t = aYX (ρ x) (ρ y) L ():=by
 rw [fL rfl,← aQA];rfl
def apF (P:Program) (re:Option jU) (t1:Option TypeId) (x y:aC) (h:aA) (K:aC→aA→Prop) (_:Tag K):Prop:=sY P re t1 x y h K
def yN (ib:List Nat) (d:Option Tmp):Bool:=match d with | some d=>ib.contains d | none=>false
@[go_sem] theorem a4C (k:Nat):yN ib (some k) = ib.contains k:=rfl
def apI (i:Bool) (P:Program) (re:Option jU) (t1:Option TypeId) (x y:aC) (h:aA) (K:aC→aA→Prop) (_:Tag K):Prop:=if i then apF P re t1 x y h (aP4 K) () else apF P re t1 x y h K ()
@[go_sem] theorem bEE (x y:Operand) (a b:TypeId) (t:Tag (Op.call ⟨.builtin .append,#[x,y],#[a,b]⟩,K)):iP P ib d (.call ⟨.builtin .append,#[x,y],#[a,b]⟩) ρ h K t = apI (yN ib d) P (j3 P a) (some b) (ρ x) (ρ y) h K ():=by
 unfold iP p3 apI yN
 cases d with
 |none=>rfl
 |some d=>simp only;split <;> rfl
@[go_sem] theorem bGP (re:Option jU) (t1:Option TypeId) (x y:aC) (t:Tag K):apI true P re t1 x y h K t = apF P re t1 x y h (aP4 K) ():=rfl
@[go_sem] theorem bGQ (re:Option jU) (t1:Option TypeId) (x y:aC) (t:Tag K):apI false P re t1 x y h K t = apF P re t1 x y h K ():=rfl
def aUR (i r:Bool) (ty:TypeId) (x:aC) (h:aA) (K:aC→aA→Prop) (_:Tag K):Prop:=if i then aDG x (fun v=>K v h) else if r then aP3 ty x h K else aP2 x h K
@[go_sem] theorem bEF (ty:TypeId) (x:Operand) (t:Tag (Op.box ty x,K)):iP P ib d (.box ty x) ρ h K t = aUR (yN ib d) (a3N ty) ty (ρ x) h K ():=by
 unfold iP p3 aUR yN
 cases d with
 |none=>rfl
 |some d=>simp only;split <;> rfl
@[go_sem] theorem bC5 (ty:TypeId):a3N ty = (match aT4 with | none=>false | some r=>decide (ty = r)):=rfl
attribute [go_sem] aT4
@[go_sem] theorem bEG (r:Bool) (ty:TypeId) (x:aC) (t:Tag K):aUR true r ty x h K t = (x.cells.all aC.flat = true∧K (.ip x.cells.length [x.cells] 0 0) h):=rfl
@[go_sem] theorem bEH (ty:TypeId) (x:aC) (t:Tag K):aUR false true ty x h K t = (x.cells = [.iH,.bO]∧∀ n,h n = none→K (.op n 2 0 0) (a7 h n (.raw ty #[.pointer none,.slice none 0 0]))):=rfl
@[go_sem] theorem bEI (ty:TypeId) (x:aC) (t:Tag K):aUR false false ty x h K t = (x.cells.all aC.flat = true∧∀ n,h n = none→K (.op n x.cells.length 0 0) (a7 h n (.row x.cells.length [x.cells.map .v]))):=rfl
def bsF (i:Bool) (re:Option jU) (len:Nat) (ps:List (Nat × aC)) (h:aA) (K:aC→aA→Prop) (_:Tag K):Prop :=
 if i then p2 re len ps (fun sz es=>K (.sl sz es true) h) else p2 re len ps fun sz es=>∀ n,h n = none→K (.os n sz 0 len) (a7 h n (.row sz (es.map (List.map .v))))
def bsG (i:Bool) (re:Option jU) (len:Nat) (ps:List (Nat × aC)) (K:aC→Prop) (_:Tag K):Prop :=
 if i then p2 re len ps (fun sz es=>K (.sl sz es true)) else False
@[go_sem] theorem bGR (ty:TypeId) (len:Nat) (ps:Array (Nat × Operand)) (t:Tag (Op.buildSlice ty len ps,K)):iP P ib d (.buildSlice ty len ps) ρ h K t = bsF (yN ib d) (j3 P ty) len (ps.toList.map fun p=>(p.1,ρ p.2)) h K ():=by
 unfold iP p3 bsF yN
 cases d with
 |none=>rfl
 |some d=>simp only;split <;> rfl
@[go_sem] theorem bGS (ty:TypeId) (len:Nat) (ps:Array (Nat × Operand)) (t:Tag (Op.buildSlice ty len ps,L)):stepG P ib d (.buildSlice ty len ps) ρ L t = bsG (yN ib d) (j3 P ty) len (ps.toList.map fun p=>(p.1,ρ p.2)) L ():=by
 unfold stepG aAG bsG yN
 cases d with
 |none=>rfl
 |some d=>simp only;split <;> rfl
@[go_sem] theorem bGT (re:jU) (len:Nat) (ps:List (Nat × aC)) (t:Tag K):bsF true (some re) len ps h K t = (re.zero.length = re.sz∧0 < re.sz∧re.zero.all aC.flat = true∧len * re.sz≤16777216∧nW len re.sz ps = true∧K (.sl re.sz (p1 (List.replicate len re.zero) ps) true) h):=rfl
@[go_sem] theorem bGU (re:jU) (len:Nat) (ps:List (Nat × aC)) (t:Tag L):bsG true (some re) len ps L t = (re.zero.length = re.sz∧0 < re.sz∧re.zero.all aC.flat = true∧len * re.sz≤16777216∧nW len re.sz ps = true∧L (.sl re.sz (p1 (List.replicate len re.zero) ps) true)):=rfl
@[go_sem] theorem bGV (re:jU) (len:Nat) (ps:List (Nat × aC)) (t:Tag K):bsF false (some re) len ps h K t = (re.zero.length = re.sz∧0 < re.sz∧re.zero.all aC.flat = true∧len * re.sz≤16777216∧nW len re.sz ps = true∧∀ n,h n = none→K (.os n re.sz 0 len) (a7 h n (.row re.sz ((p1 (List.replicate len re.zero) ps).map (List.map .v))))):=rfl
@[go_sem] theorem a88 (g:FuncId) (first cap args:List aC) (t:Tag K):a1Z P (.fn (.func g) first cap) args h K t = aG P g (first ++ args ++ cap) h K ():=rfl
@[go_sem] theorem a89 (g:FuncId) (first cap args:List aC) (t:Tag L):a10 P (.fn (.func g) first cap) args L t = aD P g (first ++ args ++ cap) L ():=rfl
@[go_sem] theorem a9A (ty:TypeId) (k k':IntKind) (a b:Int) (t:Tag L):jW P .add ty (.int k a) (.int k' b) L t = fC (lF .add (.int k a) (.int k' b)) L ():=by simp only [jW,fK,fC];cases lF _ _ _ <;> rfl
@[go_sem] theorem a9B (ty:TypeId) (k k':IntKind) (a b:Int) (t:Tag L):jW P .sub ty (.int k a) (.int k' b) L t = fC (lF .sub (.int k a) (.int k' b)) L ():=by simp only [jW,fK,fC];cases lF _ _ _ <;> rfl
@[go_sem] theorem a9C (ty:TypeId) (k k':IntKind) (a b:Int) (t:Tag L):jW P .mul ty (.int k a) (.int k' b) L t = fC (lF .mul (.int k a) (.int k' b)) L ():=by simp only [jW,fK,fC];cases lF _ _ _ <;> rfl
@[go_sem] theorem a9D (ty:TypeId) (k k':IntKind) (a b:Int) (t:Tag L):jW P .and ty (.int k a) (.int k' b) L t = fC (lF .and (.int k a) (.int k' b)) L ():=by simp only [jW,fK,fC];cases lF _ _ _ <;> rfl
@[go_sem] theorem bC7 (ty:TypeId) (k k':IntKind) (a b:Int) (t:Tag L):jW P .or ty (.int k a) (.int k' b) L t = fC (lF .or (.int k a) (.int k' b)) L ():=by simp only [jW,fK,fC];cases lF _ _ _ <;> rfl
@[go_sem] theorem a9E (ty:TypeId) (k k':IntKind) (a b:Int) (t:Tag L):jW P .xor ty (.int k a) (.int k' b) L t = fC (lF .xor (.int k a) (.int k' b)) L ():=by simp only [jW,fK,fC];cases lF _ _ _ <;> rfl
@[go_sem] theorem a11 (ty:TypeId) (k k':IntKind) (a b:Int) (t:Tag L):jW P .andNot ty (.int k a) (.int k' b) L t = fC (lF .andNot (.int k a) (.int k' b)) L ():=by simp only [jW,fK,fC];cases lF _ _ _ <;> rfl
@[go_sem] theorem a9F (ty:TypeId) (k k':IntKind) (a b:Int) (t:Tag L):jW P .eql ty (.int k a) (.int k' b) L t = fC (lF .eql (.int k a) (.int k' b)) L ():=by simp only [jW,fK,fC];cases lF _ _ _ <;> rfl
@[go_sem] theorem a9G (ty:TypeId) (k k':IntKind) (a b:Int) (t:Tag L):jW P .neq ty (.int k a) (.int k' b) L t = fC (lF .neq (.int k a) (.int k' b)) L ():=by simp only [jW,fK,fC];cases lF _ _ _ <;> rfl
@[go_sem] theorem a9H (ty:TypeId) (k k':IntKind) (a b:Int) (t:Tag L):jW P .lss ty (.int k a) (.int k' b) L t = fC (lF .lss (.int k a) (.int k' b)) L ():=by simp only [jW,fK,fC];cases lF _ _ _ <;> rfl
@[go_sem] theorem a9I (ty:TypeId) (k k':IntKind) (a b:Int) (t:Tag L):jW P .leq ty (.int k a) (.int k' b) L t = fC (lF .leq (.int k a) (.int k' b)) L ():=by simp only [jW,fK,fC];cases lF _ _ _ <;> rfl
@[go_sem] theorem a9J (ty:TypeId) (k k':IntKind) (a b:Int) (t:Tag L):jW P .gtr ty (.int k a) (.int k' b) L t = fC (lF .gtr (.int k a) (.int k' b)) L ():=by simp only [jW,fK,fC];cases lF _ _ _ <;> rfl
@[go_sem] theorem a9K (ty:TypeId) (k k':IntKind) (a b:Int) (t:Tag L):jW P .geq ty (.int k a) (.int k' b) L t = fC (lF .geq (.int k a) (.int k' b)) L ():=by simp only [jW,fK,fC];cases lF _ _ _ <;> rfl
@[go_sem] theorem a9L (ty:TypeId) (k k':IntKind) (a b:Int) (t:Tag L):jW P .quo ty (.int k a) (.int k' b) L t = (k = k'∧b≠0∧L (.int k (k.wrap (a.tdiv b)))):=rfl
@[go_sem] theorem a9M (ty:TypeId) (k k':IntKind) (a b:Int) (t:Tag L):jW P .rem ty (.int k a) (.int k' b) L t = (k = k'∧b≠0∧L (.int k (a.tmod b))):=rfl
@[go_sem] theorem a9N (ty:TypeId) (k k':IntKind) (a b:Int) (t:Tag L):jW P .shl ty (.int k a) (.int k' b) L t = (0≤b∧L (.int k (k.wrap (a * 2 ^ (min b.toNat k.bits))))):=rfl
@[go_sem] theorem a9O (ty:TypeId) (k k':IntKind) (a b:Int) (t:Tag L):jW P .shr ty (.int k a) (.int k' b) L t = (0≤b∧L (.int k (a.fdiv (2 ^ (min b.toNat k.bits))))):=rfl
@[go_sem] theorem a7Q (ty:TypeId) (a b:List UInt8) (t:Tag L):jW P .add ty (.str a) (.str b) L t = (a.length + b.length≤9223372036854775807∧L (.str (a ++ b))):=rfl
@[go_sem] theorem a7R (ty:TypeId) (a b:List UInt8) (t:Tag L):jW P .eql ty (.str a) (.str b) L t = L (.bool (decide (a = b))):=rfl
@[go_sem] theorem a7S (ty:TypeId) (a b:List UInt8) (t:Tag L):jW P .neq ty (.str a) (.str b) L t = L (.bool (!decide (a = b))):=rfl
@[go_sem] theorem a7T (ty:TypeId) (a b:List UInt8) (t:Tag L):jW P .lss ty (.str a) (.str b) L t = L (.bool (Op.bytesLess a b)):=rfl
@[go_sem] theorem a7U (ty:TypeId) (a b:Bool) (t:Tag L):jW P .eql ty (.bool a) (.bool b) L t = (uF P ty = some .bool∧L (.bool (a == b))):=rfl
@[go_sem] theorem a7V (ty:TypeId) (a b:Bool) (t:Tag L):jW P .neq ty (.bool a) (.bool b) L t = (uF P ty = some .bool∧L (.bool (a != b))):=rfl
@[go_sem] theorem aX6 (v:Value):pG (.const v) = true:=rfl
@[go_sem] theorem a12 (v:Tmp):pG (.tmp v) = false:=rfl
@[go_sem] theorem aUS (v:Nat):pG (.global v) = false:=rfl
@[go_sem] theorem aYY (v:FuncId):pG (.func v) = false:=rfl
@[go_sem] theorem a9P (op:BinOp) (ty:TypeId) (c:Bool) (k:IntKind) (a:Int) (y:aC) (t:Tag L):aDU P op ty c (.int k a) y L t = jW P op ty (.int k a) y L ():=by cases c <;> rfl
@[go_sem] theorem a7W (op:BinOp) (ty:TypeId) (c:Bool) (a:Bool) (y:aC) (t:Tag L):aDU P op ty c (.bool a) y L t = jW P op ty (.bool a) y L ():=by cases c <;> rfl
@[go_sem] theorem a9Q (op:BinOp) (ty:TypeId) (c:Bool) (a:List UInt8) (y:aC) (t:Tag L):aDU P op ty c (.str a) y L t = jW P op ty (.str a) y L ():=by cases c <;> rfl
@[go_sem] theorem bC8 (op:BinOp) (ty:TypeId) (c:Bool) (sz:Nat) (es:List (List aC)) (b:Bool) (y:aC) (t:Tag L):aDU P op ty c (.sl sz es b) y L t = aBY P op ty (.sl sz es b) y L ():=by cases c <;> rfl
@[go_sem] theorem a9R (ty ti:TypeId) (v:aC) (t:Tag L):aDU P .eql ty true (.iface ti v) .kC L t = (aBE P ty = true∧L (.bool false)):=rfl
@[go_sem] theorem a9S (ty:TypeId) (t:Tag L):aDU P .eql ty true .kC .kC L t = (aBE P ty = true∧L (.bool true)):=rfl
@[go_sem] theorem a7X (ty ti:TypeId) (v:aC) (t:Tag L):aDU P .neq ty true (.iface ti v) .kC L t = (aBE P ty = true∧L (.bool true)):=rfl
@[go_sem] theorem a7Y (ty:TypeId) (t:Tag L):aDU P .neq ty true .kC .kC L t = (aBE P ty = true∧L (.bool false)):=rfl
@[go_sem] theorem a9T (op:BinOp) (ty:TypeId) (k:IntKind) (a:Int) (y:aC) (t:Tag L):aBY P op ty (.int k a) y L t = jW P op ty (.int k a) y L ():=rfl
@[go_sem] theorem a7Z (op:BinOp) (ty:TypeId) (a:Bool) (y:aC) (t:Tag L):aBY P op ty (.bool a) y L t = jW P op ty (.bool a) y L ():=rfl
@[go_sem] theorem a9U (op:BinOp) (ty:TypeId) (a:List UInt8) (y:aC) (t:Tag L):aBY P op ty (.str a) y L t = jW P op ty (.str a) y L ():=rfl
@[go_sem] theorem a9V (ty:TypeId) (sz:Nat) (es:List (List aC)) (b:Bool) (t:Tag L):aBY P .eql ty (.sl sz es b) .bO L t = ((match uF P ty with | some (.slice _)=>True | _=>False)∧(es = []→L (.bool true))∧L (.bool false)):=rfl
@[go_sem] theorem a70 (ty:TypeId) (sz:Nat) (es:List (List aC)) (b:Bool) (t:Tag L):aBY P .neq ty (.sl sz es b) .bO L t = ((match uF P ty with | some (.slice _)=>True | _=>False)∧(es = []→L (.bool false))∧L (.bool true)):=rfl
@[go_sem] theorem bC9 (op:BinOp) (ty:TypeId) (c:Bool) (m sz i len:Nat) (y:aC) (t:Tag L):aDU P op ty c (.os m sz i len) y L t = aBY P op ty (.os m sz i len) y L ():=by cases c <;> rfl
@[go_sem] theorem a9W (op:BinOp) (ty:TypeId) (c:Bool) (y:aC) (t:Tag L):aDU P op ty c .bO y L t = aBY P op ty .bO y L ():=by cases c <;> rfl
@[go_sem] theorem bDA (ty:TypeId) (m sz i len:Nat) (t:Tag L):aBY P .eql ty (.os m sz i len) .bO L t = ((match uF P ty with | some (.slice _)=>True | _=>False)∧(len = 0→L (.bool true))∧L (.bool false)):=rfl
@[go_sem] theorem a9X (ty:TypeId) (m sz i len:Nat) (t:Tag L):aBY P .neq ty (.os m sz i len) .bO L t = ((match uF P ty with | some (.slice _)=>True | _=>False)∧(len = 0→L (.bool false))∧L (.bool true)):=rfl
@[go_sem] theorem bDB (ty:TypeId) (t:Tag L):aBY P .eql ty .bO .bO L t = ((match uF P ty with | some (.slice _)=>True | _=>False)∧L (.bool true)):=rfl
@[go_sem] theorem a9Y (ty:TypeId) (t:Tag L):aBY P .neq ty .bO .bO L t = ((match uF P ty with | some (.slice _)=>True | _=>False)∧L (.bool false)):=rfl
@[go_sem] theorem bDC (b:Bool) (t:Tag L):unF .not (.bool b) L t = L (.bool (!b)):=rfl
@[go_sem] theorem bDD (k:IntKind) (n:Int) (t:Tag L):unF .neg (.int k n) L t = L (.int k (k.wrap (0 - n))):=rfl
@[go_sem] theorem bDE (s:TyD) (k k':IntKind) (n:Int) (t:Tag L):cvF P (some s) (some (.int k')) (.int k n) L t = L (.int k' (k'.wrap n)):=by simp [cvF]
@[go_sem] theorem a71 (et:TypeId) (es:List (List aC)) (b:Bool) (t:Tag L):cvF P (some (.slice et)) (some .str) (.sl 1 es b) L t = (uF P et = some (.int .u8)∧fC (bytesOf es) (fun bs=>L (.str bs)) ()):=by
 simp only [cvF,fC];cases bytesOf es <;> rfl
@[go_sem] theorem bEK (cr pr:List (Nat × Nat)) (i:Nat) (r:Option jU) (n sz j off:Nat) (M:List (Nat × Nat)→aC→aA→Prop) (t:Tag M):rdF cr i pr r (.op n sz j off) h M t = ldF r (.op n sz j off) h (fun v=>M (aK0 cr i (some n) pr) v h) ():=rfl
@[go_sem] theorem bEL (cr pr:List (Nat × Nat)) (i:Nat) (r:Option jU) (sz j off:Nat) (es:List (List aC)) (M:List (Nat × Nat)→aC→aA→Prop) (t:Tag M):rdF cr i pr r (.ip sz es j off) h M t = ldF r (.ip sz es j off) h (fun v=>M (aK0 cr i none pr) v h) ():=rfl
attribute [go_sem] aK0 aUH uK iT bytesOf
@[go_sem] theorem a13 (x:Operand):gF (.move x) = false:=rfl
@[go_sem] theorem aX7 (x:Operand):gF (.assign x) = false:=rfl
@[go_sem] theorem aYZ (x:TypeId):gF (.alloc x) = false:=rfl
@[go_sem] theorem a4D (x:TypeId) (v:Operand):gF (.box x v) = false:=rfl
@[go_sem] theorem a72 (x:TypeId) (l:Nat) (ps:Array (Nat × Operand)):gF (.buildSlice x l ps) = false:=rfl
@[go_sem] theorem aY0 (x:TypeId) (ps:Array (Nat × Operand)):gF (.build x ps) = false:=rfl
@[go_sem] theorem aY1 (x:TypeId) (a v:Operand):gF (.store x a v) = false:=rfl
@[go_sem] theorem a73 (x:TypeId) (a v:Operand):gF (.makeSlice x a v) = false:=rfl
@[go_sem] theorem a14 (c:Call):gF (.call c) = false:=rfl
@[go_sem] theorem a74 (x:TypeId) (r:Option Operand):gF (.makeMap x r) = false:=rfl
@[go_sem] theorem aX8 (x:TypeId) (a b:Operand) (c:Bool):gF (.lookup x a b c) = false:=rfl
@[go_sem] theorem a75 (x:TypeId) (a b c:Operand):gF (.mapUpdate x a b c) = false:=rfl
@[go_sem] theorem a76 (x:TypeId) (a b:Operand):gF (.mapEntry x a b) = false:=rfl
@[go_sem] theorem a77 (x:TypeId) (a b c:Operand):gF (.entryStore x a b c) = false:=rfl
@[go_sem] theorem a4E (x:TypeId) (a b c:Operand):gF (.insert x a b c) = false:=rfl
@[go_sem] theorem aY2 (x:TypeId) (a:Operand):gF (.range x a) = false:=rfl
@[go_sem] theorem a15 (a:Operand) (b:Bool):gF (.next a b) = false:=rfl
@[go_sem] theorem aY3 (a:Operand):gF (.entry a) = false:=rfl
@[go_sem] theorem aY4 (x:TypeId) (a:Operand) (b c d:Option Operand):gF (.slice x a b c d) = false:=rfl
@[go_sem] theorem a78 (x:TypeId) (a b:Operand):gF (.indexAddr x a b) = false:=rfl
@[go_sem] theorem a79 (x:TypeId) (a:Operand) (b:Nat):gF (.fieldAddr x a b) = false:=rfl
@[go_sem] theorem a8A (a:Operand) (b:Nat):gF (.extract a b) = false:=rfl
@[go_sem] theorem a8B (f:Fn) (a b:Array Operand):gF (.makeFunc f a b) = false:=rfl
@[go_sem] theorem a16 (a b:TypeId) (x:Operand):gF (.convert a b x) = false:=rfl
@[go_sem] theorem a4F (o:BinOp) (a b:TypeId) (x y:Operand):gF (.binOp o a x y b) = false:=rfl
@[go_sem] theorem a17 (x y z:Operand):gF (.pick x y z) = false:=rfl
@[go_sem] theorem a8C (x:Operand):gF (.nilCheck x) = false:=rfl
def aUT (fs:List (Nat × TypeId × Nat)) (f:Nat) (K:Nat→Prop) (_:Tag K):Prop:=match fs[f]? with | some (off,_,sz')=>sz'≠0∧K off | none=>False
@[go_sem] theorem a8D (off sz:Nat) (ty:TypeId) (fs:List (Nat × TypeId × Nat)) (M:Nat→Prop) (t:Tag M):aUT ((off,ty,sz) :: fs) 0 M t = (sz≠0∧M off):=rfl
@[go_sem] theorem a8E (x:Nat × TypeId × Nat) (fs:List (Nat × TypeId × Nat)) (n:Nat) (M:Nat→Prop) (t:Tag M):aUT (x :: fs) (n + 1) M t = aUT fs n M ():=rfl
@[go_sem] theorem bEM (fs:List (Nat × TypeId × Nat)) (f n sz i k:Nat) (t:Tag L):faF (some (.st fs)) f (.op n sz i k) L t = aUT fs f (fun off=>L (.op n sz i (k + off))) ():=rfl
@[go_sem] theorem bEN (fs:List (Nat × TypeId × Nat)) (f sz i k:Nat) (es:List (List aC)) (t:Tag L):faF (some (.st fs)) f (.ip sz es i k) L t = aUT fs f (fun off=>L (.ip sz es i (k + off))) ():=rfl
@[go_sem] theorem bEO (re:jU) (sz:Nat) (es:List (List aC)) (b:Bool) (k:IntKind) (n:Int) (t:Tag L):iaF (some re) (.sl sz es b) (.int k n) L t = (re.sz = sz∧0≤n∧n < es.length∧L (.ip sz es n.toNat 0)):=rfl
@[go_sem] theorem bEP (re:jU) (m sz i0 len:Nat) (k:IntKind) (n:Int) (t:Tag L):iaF (some re) (.os m sz i0 len) (.int k n) L t = (re.sz = sz∧0≤n∧n < len∧L (.op m sz (i0 + n.toNat) 0)):=rfl
@[go_sem] theorem bDF (s:List UInt8) (k:IntKind) (n:Int) (t:Tag L):ixF (some .str) (.str s) (.int k n) L t = (0≤n∧fC s[n.toNat]? (fun c=>L (.int .u8 c.toNat)) ()):=by
 simp only [ixF,xD,fC];cases s[n.toNat]? <;> rfl
@[go_sem] theorem bEQ (r:jU) (sz i off:Nat) (es:List (List aC)) (t:Tag L):ldF (some r) (.ip sz es i off) h L t = fC es[i]? (fun e=>fC (ld r e off) L ()) ():=by
 simp only [ldF,iJ,fC]
 cases es[i]? with
 |none=>rfl
 |some e=>simp only;cases ld r e off <;> rfl
@[go_sem] theorem bER (r:jU) (sz i off:Nat) (es:List (List aC)) (t:Tag L):ldG (some r) (.ip sz es i off) L t = fC es[i]? (fun e=>fC (ld r e off) L ()) ():=by
 simp only [ldG,iJ,fC]
 cases es[i]? with
 |none=>rfl
 |some e=>simp only;cases ld r e off <;> rfl
def aN1 (o:Option bH) (K:Nat→List (List Cell)→Prop) (_:Tag K):Prop:=match o with | some (.row sz es)=>K sz es | _=>False
@[go_sem] theorem a9Z (sz:Nat) (es:List (List Cell)) (M:Nat→List (List Cell)→Prop) (t:Tag M):aN1 (some (.row sz es)) M t = M sz es:=rfl
@[go_sem] theorem bES (r:jU) (n sz i off:Nat) (t:Tag L):ldF (some r) (.op n sz i off) h L t = aN1 (h n) (fun sz' es=>sz' = sz∧fC es[i]? (fun e=>fC (aA8 r e off) L ()) ()) ():=by
 simp only [ldF,iJ,aN1]
 cases h n with
 |none=>rfl
 |some o =>
  cases o with
  |row sz' es =>
   simp only [fC]
   cases es[i]? with
   |none=>rfl
   |some e=>simp only;cases aA8 r e off <;> rfl
  | _=>rfl
@[go_sem] theorem bET (r:jU) (n sz i off:Nat) (v:aC) (M:aA→Prop) (t:Tag M):stF (some r) (.op n sz i off) v h M t = aN1 (h n) (fun sz' es=>sz' = sz∧fC es[i]? (fun e=>v.cells.all aC.flat = true∧v.cells.length = r.sz∧off + r.sz≤e.length∧M (a7 h n (.row sz (es.set i (mJ e off v.cells))))) ()) ():=by
 simp only [stF,aHZ,aN1]
 cases h n with
 |none=>rfl
 |some o =>
  cases o with
  |row sz' es=>simp only [fC];cases es[i]? <;> rfl
  | _=>rfl
@[go_sem] theorem bEU (re:jU) (t1:Option TypeId) (n sz i len:Nat) (y:aC) (t:Tag K):apF P (some re) t1 (.os n sz i len) y h K t = (re.zero.length = re.sz∧0 < re.sz∧u3 P t1 = true∧re.sz = sz∧aN1 (h n) (fun sz' es=>sz' = sz∧i + len≤es.length∧fC (qY h sz y) (fun ys=>(len + ys.length) * re.bytes≤140737488355328∧len + ys.length≤9223372036854775807 ∧
  ∀ b,h b = none→K (.os b sz 0 (len + ys.length)) (a7 (a7 h n .gone) b (.row sz ((es.drop i).take len ++ ys.map (List.map .v))))) ()) ()):=by
 simp only [apF,sY,aN1]
 cases h n with
 |none=>rfl
 |some o =>
  cases o with
  |row sz' es=>simp only [fC];cases qY h sz y <;> rfl
  | _=>rfl
@[go_sem] theorem bEV (re:jU) (t1:Option TypeId) (sz:Nat) (es:List (List aC)) (tg:Bool) (y:aC) (t:Tag K):apF P (some re) t1 (.sl sz es tg) y h K t = (re.zero.length = re.sz∧0 < re.sz∧u3 P t1 = true∧fC (yE re.sz (.sl sz es tg)) (fun olds=>fC (qY h re.sz y) (fun ys=>(ys = []→K (.sl sz es tg) h)∧(ys≠[]→(olds.length + ys.length) * re.bytes≤140737488355328∧olds.length + ys.length≤9223372036854775807 ∧
  ∀ n,h n = none→K (.os n re.sz 0 (olds.length + ys.length)) (a7 h n (.row re.sz ((olds ++ ys).map (List.map .v)))))) ()) ()):=by
 simp only [apF,sY]
 cases hd:yE re.sz (.sl sz es tg) with
 |none=>rfl
 |some olds=>simp only [fC];cases qY h re.sz y <;> rfl
@[go_sem] theorem bDG (re:jU) (t1:Option TypeId) (y:aC) (t:Tag K):apF P (some re) t1 .bO y h K t = (re.zero.length = re.sz∧0 < re.sz∧u3 P t1 = true∧fC (qY h re.sz y) (fun ys=>(ys = []→K .bO h)∧(ys≠[]→((([]:List (List aC)).length) + ys.length) * re.bytes≤140737488355328∧(([]:List (List aC)).length) + ys.length≤9223372036854775807 ∧
  ∀ n,h n = none→K (.os n re.sz 0 ((([]:List (List aC)).length) + ys.length)) (a7 h n (.row re.sz (([] ++ ys).map (List.map .v)))))) ()):=by
 simp only [apF,sY,yE]
 cases qY h re.sz y <;> rfl
@[go_sem] theorem a90 (r:jU) (t:Tag K):alF (some r) h K t = (r.zero≠[]∧r.zero.all aC.flat = true∧∀ n,h n = none→K (.op n r.zero.length 0 0) (a7 h n (.row r.zero.length [r.zero.map .v]))):=rfl
@[go_sem] theorem bDH (re:jU) (k k':IntKind) (a b:Int) (t:Tag K):mkF (some re) (.int k a) (.int k' b) h K t = (re.zero.length = re.sz∧0 < re.sz∧re.zero.all aC.flat = true∧0≤a∧a≤b∧b≤281474976710656∧re.bytes * b≤281474976710656 ∧
    ∀ n,h n = none→K (.os n re.sz 0 a.toNat) (a7 h n (.row re.sz ((List.replicate b.toNat re.zero).map (List.map .v))))):=rfl
@[go_sem] theorem bDI (et:TypeId) (sz:Nat) (es:List (List aC)) (b:Bool) (t:Tag L):aUP P (some (.slice et)) (.sl sz es b) L t = (es.length≤9223372036854775807→L (.int .i64 es.length)):=rfl
@[go_sem] theorem bDJ (et:TypeId) (m sz i n:Nat) (t:Tag L):aUP P (some (.slice et)) (.os m sz i n) L t = (n≤9223372036854775807→L (.int .i64 n)):=rfl
@[go_sem] theorem a91 (et:TypeId) (t:Tag L):aUP P (some (.slice et)) .bO L t = L (.int .i64 0):=rfl
@[go_sem] theorem a92 (s:List UInt8) (t:Tag L):aUP P (some .str) (.str s) L t = (s.length≤9223372036854775807→L (.int .i64 s.length)):=rfl
@[go_sem] theorem bDK (et:TypeId) (sz:Nat) (es:List (List aC)) (b:Bool) (t:Tag L):aUQ P (some (.slice et)) (.sl sz es b) L t = L (.int .i64 es.length):=rfl
@[go_sem] theorem bDL (et:TypeId) (m sz i n:Nat) (t:Tag L):aUQ P (some (.slice et)) (.os m sz i n) L t = L (.int .i64 n):=rfl
@[go_sem] theorem a93 (et:TypeId) (t:Tag L):aUQ P (some (.slice et)) .bO L t = L (.int .i64 0):=rfl
@[go_sem] theorem a94 (s:List UInt8) (t:Tag L):aUQ P (some .str) (.str s) L t = L (.int .i64 s.length):=rfl
@[go_sem] theorem bDM (cs:List aC) (i:Nat) (t:Tag L):exF (.gW cs) i L t = fC cs[i]? L ():=by
 simp only [exF,fC];cases cs[i]? <;> rfl
@[go_sem] theorem bEW (n sz i k:Nat) (t:Tag L):ncF (.op n sz i k) L t = L (.op n sz i k):=rfl
@[go_sem] theorem bEX (sz i k:Nat) (es:List (List aC)) (t:Tag L):ncF (.ip sz es i k) L t = L (.ip sz es i k):=rfl
@[go_sem] theorem a95 (r:jU) (ps:List (Nat × aC)) (t:Tag L):buF P (some r) ps L t = (u6 P r.d = true∧r.zero≠[]∧sW (o7 P r.d) r.zero.length ps = true∧L (.agg (aDB (o7 P r.d) r.zero ps))):=rfl
@[go_sem] theorem bEY (ty:TypeId) (sz:Nat) (es:List (List aC)) (b:Bool) (lo hi:Option aC) (t:Tag L):slF P ty (.sl sz es b) lo hi L t = fC (j3 P ty) (fun re=>re.sz = sz∧fC (iI 0 lo) (fun l=>fC (iI es.length hi) (fun m=>0≤l∧l≤m∧m≤es.length∧L (.sl sz ((es.take m.toNat).drop l.toNat) (b && decide (m = es.length)))) ()) ()) ():=by
 simp only [slF,k9,fC]
 cases j3 P ty with
 |none=>rfl
 |some re =>
  simp only
  cases iI 0 lo with
  |none=>rfl
  |some l=>simp only;cases iI es.length hi <;> rfl
@[go_sem] theorem bEZ (ty:TypeId) (n sz i len:Nat) (lo hi:Option aC) (t:Tag L):slF P ty (.os n sz i len) lo hi L t = fC (j3 P ty) (fun re=>re.sz = sz∧fC (iI 0 lo) (fun l=>fC (iI len hi) (fun m=>0≤l∧l < m∧m≤len∧L (.os n sz (i + l.toNat) (m.toNat - l.toNat))) ()) ()) ():=by
 simp only [slF,k9,fC]
 cases j3 P ty with
 |none=>rfl
 |some re =>
  simp only
  cases iI 0 lo with
  |none=>rfl
  |some l=>simp only;cases iI len hi <;> rfl
@[go_sem] theorem bDN (ty:TypeId) (s:List UInt8) (lo hi:Option aC) (t:Tag L):slD P ty (.str s) lo hi L t = slF P ty (.str s) lo hi L ():=by cases hi <;> rfl
@[go_sem] theorem bE0 (ty:TypeId) (sz:Nat) (es:List (List aC)) (b:Bool) (lo hi:Option aC) (t:Tag L):slD P ty (.sl sz es b) lo hi L t = slF P ty (.sl sz es b) lo hi L ():=by cases hi <;> rfl
@[go_sem] theorem bE1 (ty:TypeId) (n sz i len:Nat) (lo:Option aC) (y:aC) (t:Tag L):slD P ty (.os n sz i len) lo (some y) L t = slF P ty (.os n sz i len) lo (some y) L ():=rfl
@[go_sem] theorem bDO (ty:TypeId) (n sz i len:Nat) (lo:Option aC) (t:Tag L):slD P ty (.os n sz i len) lo none L t = fC (j3 P ty) (fun re=>re.sz = sz∧fC (iI 0 lo) (fun l=>0≤l∧l≤len∧(l < len→L (.os n sz (i + l.toNat) (len - l.toNat)))∧(l = len→L (.os n sz (i + len) 0)∧L (.sl sz [] true))) ()) ():=by
 simp only [slD,nX,fC]
 cases j3 P ty with
 |none=>rfl
 |some re =>
  simp only
  cases iI 0 lo <;> rfl
@[go_sem] theorem bDP (ty:TypeId) (sz:Nat) (es:List (List aC)) (b:Bool) (lo:Option aC) (hi mx:aC) (t:Tag L):aYV P ty (.sl sz es b) lo hi mx L t = fC (j3 P ty) (fun re=>re.sz = sz∧fC (iI 0 lo) (fun l=>fC (iI es.length (some hi)) (fun m=>fC (iI 0 (some mx)) (fun M=>0≤l∧l≤m∧m≤M∧M≤es.length∧L (.sl sz ((es.take m.toNat).drop l.toNat) (decide (M = m)))) ()) ()) ()) ():=by
 simp only [aYV,mO,fC]
 cases j3 P ty with
 |none=>rfl
 |some re =>
  simp only
  cases iI 0 lo with
  |none=>rfl
  |some l =>
   simp only
   cases iI es.length (some hi) with
   |none=>rfl
   |some m=>simp only;cases iI 0 (some mx) <;> rfl
def aN2 (P:Program) (τ:bE) (h:aA) (l:List ResultVar) (M:List aC→Prop) (_:Tag M):Prop:=aUE P τ h l M
@[go_sem] theorem a96 (τ:bE) (M:List aC→Prop) (t:Tag M):aN2 P τ h [] M t = M []:=rfl
@[go_sem] theorem a97 (τ:bE) (s:Tmp) (l:List ResultVar) (M:List aC→Prop) (t:Tag M):aN2 P τ h (.tmp s :: l) M t = aN2 P τ h l (fun vs=>M (bF τ s :: vs)) ():=rfl
@[go_sem] theorem a8F (τ:bE) (a:Tmp) (ty:TypeId) (l:List ResultVar) (M:List aC→Prop) (t:Tag M):aN2 P τ h (.cell a ty :: l) M t = ldF (gL P ty) (bF τ a) h (fun v=>aN2 P τ h l (fun vs=>M (v :: vs)) ()) ():=rfl
def aK5 (vs:List aC) (L:aC→Prop) (_:Tag L):Prop:=match vs with | [v]=>L v | vs=>L (.gW vs)
@[go_sem] theorem a8G (t:Tag L):aK5 [] L t = L (.gW []):=rfl
@[go_sem] theorem a8H (v:aC) (t:Tag L):aK5 [v] L t = L v:=rfl
@[go_sem] theorem a8I (v w:aC) (vs:List aC) (t:Tag L):aK5 (v :: w :: vs) L t = L (.gW (v :: w :: vs)):=rfl
end
def p7 (P:Program) (rs:Array ResultVar) (K:aC→aA→Prop) (_:Tag K):Exit→bE→aA→Prop:=yK P rs K
section
variable (P:Program) (rs:Array ResultVar) (K:aC→aA→Prop) (τ:bE) (h:aA)
@[go_sem] theorem aY5 (t:Tag K):p7 P rs K t .normal τ h = aN2 P τ h rs.toList (fun vs=>aK5 vs (fun v=>K v h) ()) ():=rfl
@[go_sem] theorem a8J (t:Tag K):p7 P rs K t .ret τ h = aN2 P τ h rs.toList (fun vs=>aK5 vs (fun v=>K v h) ()) ():=rfl
@[go_sem] theorem a4G (i:Nat) (t:Tag K):p7 P rs K t (.exit i) τ h = False:=rfl
end
theorem dJ {P:Program} {f:FuncId} {fn:Func} {c:Code} (N:Nat) (keep ib:List Nat) (mk:Marks) {args:List aC} {r:aC} (hmix:P.follows .mixedOrders = true) (hf:P.funcs[f]? = some fn) (hb:fn.body = some c)
  (hck:(kX P f && decide (fn.ntmps = N) && iS N mk c) = true) (hl:args.length≤N)
  (hw:∀ h,oO P N keep ib mk c (fun τ h'=>p7 P fn.results (fun r' h'=>r' = r∧h.le h') () .normal τ h') (p7 P fn.results (fun r' h'=>r' = r∧h.le h') ()) (p4 0 args) h ()):dI P f args r :=
 aYQ N keep ib mk hmix hf hb hck hl hw
theorem j7 {P:Program} {f:FuncId} {fn:Func} {c:Code} (N:Nat) (keep ib:List Nat) (mk:Marks) {args:List aC} {r:aC} (hmix:P.follows .mixedOrders = true) (hf:P.funcs[f]? = some fn) (hb:fn.body = some c)
  (hck:(kX P f && decide (fn.ntmps = N) && iS N mk c) = true) (hl:args.length≤N)
  (hw:∀ h,oO P N keep ib mk c (fun τ h'=>p7 P fn.results (fun r' h'=>Shift r' h' r h) () .normal τ h') (p7 P fn.results (fun r' h'=>Shift r' h' r h) ()) (p4 0 args) h ()):dI P f args r :=
 aUO N keep ib mk hmix hf hb hck hl hw
theorem bQ {P:Program} {N:Nat} {keep ib:List Nat} {mk:Marks} {c:Code} {Q:Exit→bE→aA→Prop} {τ:bE} {h:aA} {t:Tag (Code.loop c,Q)} {α:Type} (hmix:P.follows .mixedOrders = true) (hc:iS N mk c = true) (S:α→bE) (H:α→aA) (side:α→Prop) (μ:α→Nat) (x₀:α)
  (h₀:bU (S x₀) τ∧(H x₀).le h∧side x₀)
  (round:∀ x,side x→oO P N keep ib mk c (fun τ' h'=>∃ x',bU (S x') τ'∧(H x').le h'∧side x'∧μ x' < μ x) Q (S x) (H x) ()):aAJ P N (.loop c) Q τ h t :=
 mM.bQ S H side μ x₀ h₀ fun x hx=>aDT hmix c _ _ _ _ hc (round x hx)
theorem Sub.fQ {sz sz' i off:Nat} {es:List (List aC)} {e e':List aC} (he:es[i]? = some e) (h':(e.drop off).take sz' = e') (hl:e'.length = sz'):Sub (.ip sz es i off) (.ip sz' [e'] 0 0):=fun E h w v r=>by
 cases r with
 |ip _ _ _ _ b o cv hi hs hc h1 hr =>
  have hat:∀ i' j x,iE [e'] i' j = some x→i' = 0∧iE es i (off + j) = some x:=by
   intro i' j x hx
   obtain ⟨e1,h1,h2⟩:=jI hx
   cases i' with
   |zero =>
    simp at h1;subst h1
    refine ⟨rfl,?_⟩
    subst h'
    rw [List.getElem?_take] at h2
    split at h2
    ·rw [List.getElem?_drop] at h2
     simp [iE,he,h2]
    ·cases h2
   |succ n=>simp at h1
  have:=eC.ip (E:=E) (h:=h) (w:=w) sz' [e'] 0 0 b (o + i * sz + off) (fun i' j=>cv (i + i') (off + j)) hi (fun e1 he'=>by simp at he';subst he';exact hl)
   (fun i' j x hx=>by obtain ⟨rfl,hy⟩:=hat i' j x hx;have:=hc i _ x hy;simpa [Nat.add_assoc] using this)
   (fun i' j x hx=>by obtain ⟨rfl,hy⟩:=hat i' j x hx;exact h1 i _ x hy)
   (fun i' j x hx=>by obtain ⟨rfl,hy⟩:=hat i' j x hx;exact hr i _ x hy)
  simpa using this
theorem Sub.ip {sz i:Nat} {es:List (List aC)} {e:List aC} (he:es[i]? = some e) (hl:e.length = sz):Sub (.ip sz es i 0) (.ip sz [e] 0 0) :=
 Sub.fQ he (by rw [List.drop_zero,List.take_of_length_le (by omega)]) hl
open Go.ChangeShapes Go.WideShapes
def sQ (P:Program):Nat→TypeId→List aC→Prop
 |0,_,_=>False
 |n + 1,t,xs =>
  match P.underlying t with
  |some .bool=>∃ b,xs = [.bool b]
  |some (.int k)=>∃ i,xs = [.int k i]∧(Lit.int k i).wf = true
  |some .string=>∃ s,xs = [.str s]
  |some (.slice e)=>∃ es,xs = [.sl (P.cellsOf e) es false]∧∀ y∈es,sQ P n e y
  |some (.struct fs)=>xs.length = P.cellsOf t∧∀ (i:Nat) (f:Field),fs[i]? = some f→sQ P n f.type ((xs.drop f.offset).take (P.cellsOf f.type))
  | _=>False
def vF (P:Program):List Field→Nat→Option Nat
 | [],o=>some o
 |f :: fs,o=>if f.offset = o then vF P fs (o + P.cellsOf f.type) else none
def aST (P:Program) (T:List TypeId):Bool:=T.all fun t =>
 match P.underlying t with
 |some .bool | some (.int _) | some .string=>P.cellsOf t == 1
 |some (.slice e)=>P.cellsOf t == 1 && decide (0 < P.cellsOf e) && T.contains e
 |some (.struct fs)=>(vF P fs.toList 0 == some (P.cellsOf t)) && fs.toList.all (fun f=>T.contains f.type)
 | _=>false
theorem yO {P:Program} {T:List TypeId} (hT:aST P T = true):∀ (n:Nat) (t:TypeId) (xs:List aC),t∈T→sQ P n t xs→xs.length = P.cellsOf t∧xs.all aC.flat = true
 |0,_,_,_,h=>h.elim
 |n + 1,t,xs,ht,h=>by
  have hd:=List.all_eq_true.1 hT t ht
  unfold sQ at h
  split at h
  ·rename_i hu;rw [hu] at hd;obtain ⟨b,rfl⟩:=h;exact ⟨by simpa using (of_decide_eq_true hd).symm,rfl⟩
  ·rename_i hu;rw [hu] at hd;obtain ⟨i,rfl,_⟩:=h;exact ⟨by simpa using (of_decide_eq_true hd).symm,rfl⟩
  ·rename_i hu;rw [hu] at hd;obtain ⟨s,rfl⟩:=h;exact ⟨by simpa using (of_decide_eq_true hd).symm,rfl⟩
  ·rename_i e hu
   rw [hu] at hd;obtain ⟨es,rfl,_⟩:=h
   simp only [Bool.and_eq_true,beq_iff_eq] at hd
   exact ⟨by simp [hd.1.1],rfl⟩
  ·rename_i fs hu
   rw [hu] at hd
   obtain ⟨hl,hf⟩:=h
   refine ⟨hl,?_⟩
   simp only [Bool.and_eq_true,beq_iff_eq,List.all_eq_true] at hd
   have key:∀ (l:List Field) (o:Nat),(∀ f∈l,T.contains f.type = true∧sQ P n f.type ((xs.drop f.offset).take (P.cellsOf f.type)))→vF P l o = some (P.cellsOf t)→(xs.drop o).all aC.flat = true:=by
    intro l
    induction l with
    |nil=>intro o _ ho;simp only [vF,Option.some.injEq] at ho;rw [List.drop_eq_nil_of_le (by omega)];rfl
    |cons f l ih =>
     intro o hl' ho
     simp only [vF] at ho
     split at ho
     ·rename_i e
      have h1:=hl' f List.mem_cons_self
      have h2:=(yO hT n _ _ (by simpa using h1.1) h1.2).2
      have h3:=ih _ (fun g hg=>hl' g (List.mem_cons_of_mem _ hg)) ho
      rw [e] at h2
      rw [← List.take_append_drop (P.cellsOf f.type) (xs.drop o),List.all_append,h2,List.drop_drop,h3];rfl
     ·cases ho
   have:=key fs.toList 0 (fun f hf'=>by
    obtain ⟨i,hi⟩:=List.getElem?_of_mem hf'
    exact ⟨hd.2 f hf',hf i f (by simpa using hi)⟩) hd.1
   simpa using this
  ·exact h.elim
section
variable {H:Type} {enc:TypeId × Value→H} {P:Program} {w:World} {base:Nat} {sp:Nat→Bool} {held:Bool}
theorem aAK {E:Env} {h:aA} {xs:List aC} {vs:List Value} (hr:cX E h w xs vs) (hf:xs.all aC.flat = true) (j:Nat) (v:Value) (hv:vs[j]? = some v):v.oneCell' = true:=by
 obtain ⟨hj,_⟩:=List.getElem?_eq_some_iff.1 hv
 have hl:=hr.length
 have hx:xs[j]? = some xs[j]:=List.getElem?_eq_getElem (by omega)
 exact (eC.nG (hr.get j _ _ hx hv) (List.all_eq_true.1 hf _ (List.mem_of_getElem? hx))).1
theorem aDV {T:List TypeId} (hT:aST P T = true) {E:Env} {h:aA} (hI:∀ b,b < w.heap.size→nB E h w b) :
  ∀ (n:Nat) (t:TypeId) (cs:List Value) (x:DataW H × List MemPlace),t∈T→DataW.trod enc P w base sp held n t cs = some x→∃ xs,sQ P n t xs∧cX E h w xs cs
 |0,t,cs,x,_,hx=>by simp [DataW.trod] at hx
 |n + 1,t,cs,x,ht,hx=>by
  have hd:=List.all_eq_true.1 hT t ht
  match hu:P.underlying t with
  |some .bool =>
   obtain ⟨b,rfl,_⟩:=DataW.trod_bool hu hx
   exact ⟨[.bool b],by simp only [sQ,hu];exact ⟨b,rfl⟩,⟨.bool b,trivial⟩⟩
  |some (.int k) =>
   obtain ⟨i,rfl,_,hw⟩:=DataW.trod_int hu hx
   exact ⟨[.int k i],by simp only [sQ,hu];exact ⟨i,rfl,hw⟩,⟨.int k i,trivial⟩⟩
  |some .string =>
   obtain ⟨s,rfl,_,hs⟩:=DataW.trod_string hu hx
   refine ⟨[.str s.data.toList],by simp only [sQ,hu];exact ⟨_,rfl⟩,⟨?_,trivial⟩⟩
   have:s = ⟨s.data.toList.toArray⟩:=by cases s;simp
   rw [this]
   exact .str _ (by simpa using hs)
  |some (.slice e) =>
   rw [hu] at hd
   simp only [Bool.and_eq_true,beq_iff_eq,decide_eq_true_eq,List.contains_iff_mem] at hd
   rcases DataW.trod_slice hu hx with ⟨rfl,_⟩ | ⟨a,len,cap,elems,rest,m,hm,rfl,_,hb,hlc,hmax,hel,hcell,_,_⟩
   ·exact ⟨[.sl (P.cellsOf e) [] false],by simp only [sQ,hu];exact ⟨[],rfl,by simp⟩,⟨.w7 _ _ _ _ (fun e=>by simp at e) (by simp) trivial,trivial⟩⟩
   ·obtain rfl:n = m:=by omega

    have each:∀ i,i < len→∃ ys vs,sQ P n e ys∧cX E h w ys vs∧w.cells? base (a.add (i * P.cellsOf e)) (P.cellsOf e) = some vs:=by
     intro i hi
     have h1:=hcell i hi
     have hi':i < elems.length:=by omega
     rw [List.getElem?_eq_getElem hi'] at h1
     simp only [Option.bind_eq_some_iff] at h1
     obtain ⟨vs,h2,h3⟩:=h1
     obtain ⟨ys,h4,h5⟩:=aDV hT hI n e vs _ hd.2 h3
     exact ⟨ys,vs,h4,h5,h2⟩
    let ys:Nat→List aC:=fun i=>if hi:i < len then Classical.choose (each i hi) else []
    have hys:∀ i,i < len→∃ vs,sQ P n e (ys i)∧cX E h w (ys i) vs∧w.cells? base (a.add (i * P.cellsOf e)) (P.cellsOf e) = some vs:=by
     intro i hi
     have:=Classical.choose_spec (each i hi)
     simpa only [ys,dif_pos hi] using this
    by_cases h0:len = 0
    ·subst h0
     exact ⟨[.sl (P.cellsOf e) [] false],by simp only [sQ,hu];exact ⟨[],rfl,by simp⟩,⟨.w7 _ _ _ _ (fun e=>by simp at e) hmax trivial,trivial⟩⟩
    have hpos:0 < P.cellsOf e:=hd.1.2

    obtain ⟨b,o,spot⟩:=a
    obtain ⟨vs0,_,_,pC⟩:=hys 0 (by omega)
    have bE3:=World.cells?_some pC
    have hz:w.cell? ((Addr.add ⟨b,o,spot⟩ (0 * P.cellsOf e)).add 0) = vs0[0]?:=bE3.2.2 0 hpos
    have qQ:vs0[0]? = some vs0[0]:=List.getElem?_eq_getElem (by omega)
    rw [qQ] at hz
    have hspot:spot = none:=by
     have:=World.cell?_spot hz
     simpa [Addr.add] using this
    subst hspot
    have hblt:b < w.heap.size:=by
     have:=World.cells?_block pC hpos
     simpa [Addr.add] using this
    have hmap:∀ i,i < len→((List.range len).map ys)[i]? = some (ys i):=fun i hi=>by simp [hi]
    refine ⟨[.sl (P.cellsOf e) ((List.range len).map ys) false],?_,⟨?_,trivial⟩⟩
    ·simp only [sQ,hu]
     refine ⟨_,rfl,fun y hy=>?_⟩
     simp only [List.mem_map,List.mem_range] at hy
     obtain ⟨i,hi,rfl⟩:=hy
     obtain ⟨vs,h1,_⟩:=hys i hi
     exact h1
    ·have hlen:len = ((List.range len).map ys).length:=by simp
     have cells:∀ i j x,iE ((List.range len).map ys) i j = some x→∃ v,w.cell? ⟨b,o + i * P.cellsOf e + j,none⟩ = some v∧v.oneCell' = true∧eC E h w x v:=by
      intro i j x hx
      have hi:i < len:=by have:=aT3 hx;simpa using this
      obtain ⟨y,hy,hj⟩:=jI hx
      rw [hmap i hi] at hy
      obtain rfl:=Option.some.inj hy
      obtain ⟨vs,h1,h2,h3⟩:=hys i hi
      have hone:=yO hT n e _ hd.2 h1
      have hjl:j < (ys i).length:=(List.getElem?_eq_some_iff.1 hj).1
      have h4:=World.cells?_some h3
      have hjv:j < vs.length:=by rw [h2.length] at hjl;exact hjl
      have hv:vs[j]? = some vs[j]:=List.getElem?_eq_getElem hjv
      refine ⟨vs[j],?_,aAK h2 hone.2 j _ hv,h2.get j x _ hj hv⟩
      have h5:=h4.2.2 j (by omega)
      rw [hv] at h5
      rw [← h5]
      rw [kD,kD]
     have cellsC:∀ i j,∃ v,∀ x,iE ((List.range len).map ys) i j = some x→w.cell? ⟨b,o + i * P.cellsOf e + j,none⟩ = some v∧v.oneCell' = true∧eC E h w x v:=by
      intro i j
      match hx:iE ((List.range len).map ys) i j with
      |none=>exact ⟨.bool true,fun x h=>by simp at h⟩
      |some x =>
       obtain ⟨v,h1⟩:=cells i j x hx
       exact ⟨v,fun y hy=>by obtain rfl:=Option.some.inj hy;exact h1⟩
     let cv:Nat→Nat→Value:=fun i j=>Classical.choose (cellsC i j)
     have hcv:∀ i j x,iE ((List.range len).map ys) i j = some x→w.cell? ⟨b,o + i * P.cellsOf e + j,none⟩ = some (cv i j)∧(cv i j).oneCell' = true∧eC E h w x (cv i j):=fun i j=>Classical.choose_spec (cellsC i j)
     have:=eC.sl (E:=E) (h:=h) (w:=w) (P.cellsOf e) ((List.range len).map ys) false b o cap cv (hI b hblt) (by simpa using hlc) hmax (fun e=>by simp at e)
      (fun y hy=>by
       simp only [List.mem_map,List.mem_range] at hy
       obtain ⟨i,hi,rfl⟩:=hy
       obtain ⟨vs,h1,_⟩:=hys i hi
       exact (yO hT n e _ hd.2 h1).1)
      (fun i j x hx=>(hcv i j x hx).1) (fun i j x hx=>(hcv i j x hx).2.1) (fun i j x hx=>(hcv i j x hx).2.2)
     rw [← hlen] at this
     exact this
  |some (.struct fs) =>
   rw [hu] at hd
   simp only [Bool.and_eq_true,beq_iff_eq,List.all_eq_true] at hd
   obtain ⟨xs,m,hm,rfl,hl,hfl,hf⟩:=DataW.trod_struct hu hx
   obtain rfl:n = m:=by omega

   have key:∀ (l:List Field) (o:Nat),(∀ f∈l,T.contains f.type = true∧∃ y,DataW.trod enc P w base sp held n f.type ((cs.drop f.offset).take (P.cellsOf f.type)) = some y)→vF P l o = some (P.cellsOf t) →
     ∃ ys,cX E h w ys (cs.drop o)∧∀ f∈l,o≤f.offset∧sQ P n f.type ((ys.drop (f.offset - o)).take (P.cellsOf f.type)):=by
    intro l
    induction l with
    |nil =>
     intro o _ ho
     simp only [vF,Option.some.injEq] at ho
     rw [List.drop_eq_nil_of_le (by omega)]
     exact ⟨[],trivial,fun f hf=>by simp at hf⟩
    |cons f l ih =>
     intro o hl' ho
     simp only [vF] at ho
     split at ho
     ·rename_i e
      obtain ⟨hc,y,hy⟩:=hl' f List.mem_cons_self
      obtain ⟨zs,hz1,hz2⟩:=aDV hT hI n f.type _ y (by simpa using hc) hy
      obtain ⟨ys,hy1,hy2⟩:=ih _ (fun g hg=>hl' g (List.mem_cons_of_mem _ hg)) ho
      have hzl:=(yO hT n _ _ (by simpa using hc) hz1).1
      rw [e] at hz2
      have hjoin:cX E h w (zs ++ ys) (cs.drop o):=by
       have:=cX.append hz2 hy1
       rw [← List.take_append_drop (P.cellsOf f.type) (cs.drop o),List.drop_drop]
       exact this
      refine ⟨zs ++ ys,hjoin,fun g hg=>?_⟩
      rcases List.mem_cons.1 hg with rfl | hg
      ·refine ⟨by omega,?_⟩
       rw [e,Nat.sub_self,List.drop_zero,List.take_append_of_le_length (by omega),List.take_of_length_le (by omega)]
       exact hz1
      ·obtain ⟨h1,h2⟩:=hy2 g hg
       refine ⟨by omega,?_⟩
       rw [List.drop_append,hzl,List.drop_eq_nil_of_le (by omega),List.nil_append,show g.offset - o - P.cellsOf f.type = g.offset - (o + P.cellsOf f.type) by omega]
       exact h2
     ·cases ho
   obtain ⟨ys,h1,h2⟩:=key fs.toList 0 (fun f hf'=>by
    obtain ⟨i,hi⟩:=List.getElem?_of_mem hf'
    have hi':fs[i]? = some f:=by simpa using hi
    refine ⟨hd.2 f hf',?_⟩
    have:=hf i f hi'
    have hil:i < xs.length:=by rw [hfl];exact (Array.getElem?_eq_some_iff.1 hi').1
    rw [List.getElem?_eq_getElem hil] at this
    exact ⟨_,this⟩) hd.1
   rw [List.drop_zero] at h1
   refine ⟨ys,?_,h1⟩
   simp only [sQ,hu]
   refine ⟨h1.length.trans hl,fun i f hf'=>?_⟩
   have:=h2 f (by have:=Array.mem_of_getElem? hf';simpa using this)
   simpa using this.2
  |none | some .invalid | some (.float _) | some (.complex _) | some .unsafePointer | some (.named ..) | some (.pointer _) | some (.array ..) | some (.map ..) | some (.func ..) | some (.interface _) | some (.chan ..) | some (.tuple _)=>all_goals (rw [hu] at hd;simp at hd)
end
open Go.ChangeShapes Go.WideShapes
def aF9 (P:Program) (n:Nat) (t:TypeId) (x:aC):Prop :=
 match P.underlying t with
 |some (.struct _)=>∃ ys,x = .agg ys∧sQ P n t ys
 | _=>sQ P n t [x]
def aK6 (P:Program):List TypeId→List aC→Prop
 | [],[]=>True
 |t :: ts,x :: xs=>(∃ n,aF9 P n t x)∧aK6 P ts xs
 | _,_=>False
section
variable {H:Type} {enc:TypeId × Value→H} {P:Program} {w:World} {base:Nat} {sp:Nat→Bool} {held:Bool}
theorem aUU {T:List TypeId} (hT:aST P T = true) {E:Env} {h:aA} (hI:∀ b,b < w.heap.size→nB E h w b) {t:TypeId} (ht:t∈T) {v:Value} {d:DataW H} {ps:List MemPlace}
  (hok:Value.okWide P w .any base t v) (hr:DataW.Trod enc P w 0 sp held t v d ps):∃ x n,aF9 P n t x∧eC E h w x v:=by
 obtain ⟨n,hr⟩:=hr
 obtain ⟨xs,h1,h2⟩:=aDV hT hI n t _ _ ht hr
 have hd:=List.all_eq_true.1 hT t ht
 match hu:P.underlying t with
 |some (.struct fs) =>
  obtain ⟨cs,rfl,_⟩:=okWide_struct hu hok
  exact ⟨.agg xs,n,by simp only [aF9,hu];exact ⟨xs,rfl,h1⟩,.agg xs cs.toList h2.length h2.get⟩
 |some .bool =>
  obtain ⟨b,rfl⟩:=okWide_bool hu hok
  have hone:=yO hT n t xs ht h1
  match xs,h2 with
  | [x],h2=>exact ⟨x,n,by simp only [aF9,hu];exact h1,by simpa [Value.cells] using h2.1⟩
  | [],h2=>exact h2.elim
  | _ :: _ :: _,h2=>exact h2.2.elim
 |some (.int k) =>
  obtain ⟨b,rfl⟩:=okWide_int hu hok
  match xs,h2 with
  | [x],h2=>exact ⟨x,n,by simp only [aF9,hu];exact h1,by simpa [Value.cells] using h2.1⟩
  | [],h2=>exact h2.elim
  | _ :: _ :: _,h2=>exact h2.2.elim
 |some .string =>
  obtain ⟨b,rfl⟩:=okWide_string hu hok
  match xs,h2 with
  | [x],h2=>exact ⟨x,n,by simp only [aF9,hu];exact h1,by simpa [Value.cells] using h2.1⟩
  | [],h2=>exact h2.elim
  | _ :: _ :: _,h2=>exact h2.2.elim
 |some (.slice e) =>
  obtain ⟨a,len,cap,rfl⟩:=okWide_slice hu hok
  match xs,h2 with
  | [x],h2=>exact ⟨x,n,by simp only [aF9,hu];exact h1,by simpa [Value.cells] using h2.1⟩
  | [],h2=>exact h2.elim
  | _ :: _ :: _,h2=>exact h2.2.elim
 |none | some .invalid | some (.float _) | some (.complex _) | some .unsafePointer | some (.named ..) | some (.pointer _) | some (.array ..) | some (.map ..) | some (.func ..) | some (.interface _) | some (.chan ..) | some (.tuple _)=>all_goals (rw [hu] at hd;simp at hd)
theorem aGT {T:List TypeId} (hT:aST P T = true) {E:Env} {h:aA} (hI:∀ b,b < w.heap.size→nB E h w b):∀ {ts:List TypeId} {vs:List Value} {ds:List (DataW H)} {ps:List MemPlace},
  (∀ t∈ts,t∈T)→(∀ (j:Nat) t v,ts[j]? = some t→vs[j]? = some v→Value.okWide P w .any base t v)→DataW.TrodAll enc P w 0 sp held ts vs ds ps→∃ xs,aK6 P ts xs∧cX E h w xs vs∧ds.length = ts.length
 | [],[],[],_,_,_,_=>⟨[],trivial,trivial,rfl⟩
 |t :: ts,v :: vs,d :: ds,_,ht,hok,⟨p,q,h1,h2,_⟩=>by
  obtain ⟨x,n,h3,h4⟩:=aUU hT hI (ht t List.mem_cons_self) (hok 0 t v rfl rfl) h1
  obtain ⟨xs,h5,h6,h7⟩:=aGT hT hI (fun t' h'=>ht t' (List.mem_cons_of_mem _ h')) (fun j t' v' a b=>hok (j + 1) t' v' (by simpa using a) (by simpa using b)) h2
  exact ⟨x :: xs,⟨⟨n,h3⟩,h5⟩,⟨h4,h6⟩,by simp [h7]⟩
 | [],_ :: _,_,_,_,_,h=>by cases ‹List (DataW H)› <;> exact h.elim
 | [],[],_ :: _,_,_,_,h=>h.elim
 | _ :: _,[],_,_,_,_,h=>by cases ‹List (DataW H)› <;> exact h.elim
 | _ :: _,_ :: _,[],_,_,_,h=>h.elim
end
theorem wV {H:Type} {enc:TypeId × Value→H} {P:Program} {w w':World} {base:Nat} {sp:Nat→Bool} {held:Bool}:∀ {ts:List TypeId} {vs:List Value} {ds:List (DataW H)} {ps:List MemPlace},
  DataW.TrodAll enc P w base sp held ts vs ds ps→(∀ p∈ps,w.sameAt w' p)→DataW.TrodAll enc P w' base sp held ts vs ds ps
 | [],[],[],_,h,_=>h
 | _ :: _,_ :: _,_ :: _,_,⟨p,q,⟨n,h1⟩,h2,e⟩,hs=>⟨p,q,⟨n,DataW.trod_carry n _ _ _ h1 (fun x hx=>hs x (by rw [e];exact List.mem_append_left _ hx))⟩,wV h2 (fun x hx=>hs x (by rw [e];exact List.mem_append_right _ hx)),e⟩
 | [],_ :: _,_,_,h,_=>by cases ‹List (DataW H)› <;> exact h.elim
 | [],[],_ :: _,_,h,_=>h.elim
 | _ :: _,[],_,_,h,_=>by cases ‹List (DataW H)› <;> exact h.elim
 | _ :: _,_ :: _,[],_,h,_=>h.elim
theorem aDW {w w':World} {p:MemPlace} (h:w'.heap[p.block]? = w.heap[p.block]?):w.sameAt w' p:=by
 cases p with
 |cell b o=>exact rK h o none
 |map b=>exact h
theorem aUV {H:Type} {enc:TypeId × Value→H} {P:Program} (lo:laidOutB P = true) (mr:mapsRowed P = true)
  (hz:((List.range P.types.size).all fun t=>match P.underlying t with | some (.slice e)=>decide (0 < P.cellsOf e) | _=>true) = true)
  {fn:Func} (hT:fn.params.all (fun t=>decide (t < P.types.size)) = true) {s:ChangeSpec} (hsv:s.vars = []) (hs:∀ ds:List (DataW H),ds.length = fn.params.size→s.fn H ds = { results:=[.lit (.bool true)],args:=ds })
  {tb:TypeId} (hr:fn.resultTypes = #[tb]) (htb:P.underlying tb = some .bool) {W W':World} {args:Array Value} {ds gs:List (DataW H)} {before:List MemPlace}
  (hW:DataW.Whole enc P fn.params.toList s.vars false W args.toList ds gs before) (hl:ds.length = fn.params.size)
  (hheap:∀ b,b < W.heap.size→W'.heap[b]? = W.heap[b]?) (hos:W'.os = W.os) (hout:W'.output = W.output) :
  s.post enc P fn false true false false W args (.bool true) W':=by
 have hlt:=hW.lt
 have hW0:=hW
 obtain ⟨p,q,hA,hV,rfl,hfz,_⟩:=hW
 rw [hsv] at hV
 have hgs:gs = []∧q = []:=by
  match gs,hV with
  | [],h=>exact ⟨rfl,h⟩
 obtain ⟨rfl,rfl⟩:=hgs
 rw [List.append_nil] at hlt hfz hW0
 have e:s.fn H (ds ++ []) = { results:=[.lit (.bool true)],args:=ds }:=by rw [List.append_nil];exact hs ds hl
 refine ⟨ds,[],p,[],p,[],hW0,?_,?_,?_,?_,fun h=>by simp at h⟩
 ·rw [e]
  simp only [hr]
  refine ⟨[],[],⟨1,?_⟩,rfl,rfl⟩
  simp [DataW.trod,htb,Value.cells]
 ·rw [e]
  have h1:DataW.TrodAll enc P W' 0 (fun _=>true) true fn.params.toList args.toList ds p:=wV hA fun x hx=>aDW (hheap _ (hlt x hx))
  refine DataW.TrodAll.respare (kids_rows lo mr) (fun t e ht hu=>slices_full_of P hz t e ht hu) (fun t ht=>?_) h1 (fun x hx=>by simpa using hlt x hx)
  have:=Array.all_eq_true_iff_forall_mem.1 hT t (by simpa using ht)
  simpa using this
 ·rw [e,hsv];exact rfl
 ·refine ⟨hos,hout,fun i hi=>?_⟩
  rw [hheap i hi]
  have hi':W.heap[i]? = some W.heap[i]:=Array.getElem?_eq_getElem hi
  rw [hi']
  cases W.heap[i] with
  |cells c t fr=>exact ⟨rfl,rfl,rfl,fun _ _=>rfl⟩
  |map es clock=>exact .inr ⟨rfl,rfl⟩
  | _=>rfl
def nZ:aA:=fun _=>none
def aK7:Env where
 loc:=fun _=>none
 fp:=fun _ _=>False
 used:=fun _=>False
theorem aUW (w:World) (hl:uV aK7 nZ w):Rel aK7 nZ w where
 fin:=⟨0,fun n _ h=>h⟩
 dom:=fun n h=>absurd rfl h
 lt:=fun n o b h=>by simp [nZ] at h
 apart:=fun n o m o' b h=>by simp [nZ] at h
 obj:=fun n o h=>by simp [nZ] at h
 laid:=hl
theorem aK8 {w:World} {b:Nat} (hb:b < w.heap.size):nB aK7 nZ w b:=⟨hb,fun n o h=>by simp [nZ] at h⟩
def aX (P:Program) (f:FuncId) (args:List aC) (r:aC) (h0:aA):Prop:=∀ h:aA,h0.le h→fE P f args h fun r' h'=>r' = r∧h' = h
theorem dI.aY6 {P:Program} {f:FuncId} {args:List aC} {r:aC} {h0:aA} (a:dI P f args r):aX P f args r h0:=fun h _=>a h
theorem aX.mono {P:Program} {f:FuncId} {args:List aC} {r:aC} {h0 h1:aA} (hl:h0.le h1) (a:aX P f args r h0):aX P f args r h1:=fun h q=>a h (aA.le_trans hl q)
theorem aSU (h:aA):nZ.le h:=fun _=>.inl rfl
theorem aX.cD {P:Program} {f:FuncId} {args:List aC} {r:aC} (a:aX P f args r nZ):dI P f args r:=fun h=>a h (aSU h)
theorem aG.a5 {P:Program} {g:FuncId} {args:List aC} {h:aA} {K:aC→aA→Prop} {t:Tag K} {r:aC} (a:aX P g args r h) (k:K r h):aG P g args h K t :=
 fE.mono (a h (aA.le_refl h)) fun _ _ ⟨e,e'⟩=>e ▸ e' ▸ k
theorem aG.gQ {P:Program} {g:FuncId} {args:List aC} {h:aA} {K K':aC→aA→Prop} {t:Tag K} (a:fE P g args h K') (k:∀ r h',K' r h'→K r h'):aG P g args h K t:=fE.mono a k
theorem aA.a4H {h0 h:aA} (hl:h0.le h) {n:Nat} {o:bH} (hn:h0 n = some o):h n = some o:=by
 rcases hl n with e | e
 ·rw [hn] at e;cases e
 ·rw [← e];exact hn
theorem yP {P:Program} {f:FuncId} {fn:Func} {c:Code} (N:Nat) (keep ib:List Nat) (mk:Marks) {args:List aC} {h:aA} {K:aC→aA→Prop} (hmix:P.follows .mixedOrders = true) (hf:P.funcs[f]? = some fn) (hb:fn.body = some c)
  (hck:(kX P f && decide (fn.ntmps = N) && iS N mk c) = true) (hl:args.length≤N)
  (hw:oO P N keep ib mk c (fun τ h'=>p7 P fn.results (fun r h'=>∃ g:aA,g.le h'∧K r g) () .normal τ h') (p7 P fn.results (fun r h'=>∃ g:aA,g.le h'∧K r g) ()) (p4 0 args) h ()):fE P f args h K :=
 aDQ N keep ib mk hmix hf hb hck hl (K':=fun r h'=>∃ g:aA,g.le h'∧K r g) hw fun _ _ hx=>hx
theorem aK9 {P:Program} {f:FuncId} {fn:Func} {c:Code} (N:Nat) (keep ib:List Nat) (mk:Marks) {args:List aC} {r:aC} {h0:aA} (hmix:P.follows .mixedOrders = true) (hf:P.funcs[f]? = some fn) (hb:fn.body = some c)
  (hck:(kX P f && decide (fn.ntmps = N) && iS N mk c) = true) (hl:args.length≤N)
  (hw:∀ h:aA,h0.le h→oO P N keep ib mk c (fun τ h'=>p7 P fn.results (fun r' h'=>r' = r∧h.le h') () .normal τ h') (p7 P fn.results (fun r' h'=>r' = r∧h.le h') ()) (p4 0 args) h ()):aX P f args r h0 :=
 fun h hle=>aDQ N keep ib mk hmix hf hb hck hl (K':=fun r' h'=>r' = r∧h.le h') (hw h hle) fun _ _ hx=>⟨h,hx.2,hx.1,rfl⟩
end Go.Hl

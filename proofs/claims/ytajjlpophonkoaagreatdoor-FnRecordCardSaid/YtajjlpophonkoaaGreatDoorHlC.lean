/-
  Contracts of functions and laws of the layer over the walk.
-/
import Derived.Test.YtajjlpophonkoaaGreatDoorHlB
import Derived.KernelRfl
import Derived.ReadAgain
import Derived.ChangeArms
import Derived.ChangeSame
import Derived.Handed
import Derived.JoinedOf
namespace Go.Hl
attribute [go_sem] eC aE9
theorem nn (n:Nat):(0<=(n:Int))=True:=by simp
attribute [go_sem] a13 sS aA0 w6 a7N rJ places xB aFO vB aM0 rU pJ ld aDH wX nF kA wJ rV rE qP cE eZ nA aC.ofValue aC.oL lI Hl.prune dM iK
 aH aMI nn bA
attribute [go_sem] Call.operands Array.toList_append Option.map List.map Option.bind List.contains List.elem List.filterMap Op.operands Option.toList Array.size List.all List.set
attribute [go_sem] if_true if_false aPK Option.bind_none fX aPO aWR List.getElem?_cons_succ true_and and_true forall_const Bool.true_eq_false aJ0 false_implies implies_true decide_true decide_false iG BEq.rfl eV nI tX aPP Bool.not_eq_false' decide_eq_true_eq decide_eq_false_iff_not Int.natCast_inj Int.ofNat_lt Int.ofNat_le aWZ Bool.not_false aC.int.injEq aC.bool.injEq Heap.le_refl
attribute [go_sem] ne_eq Bool.and_self Bool.true_and Bool.and_true Bool.false_and Bool.and_false Int.reduceLT Int.reduceNeg Int.reduceLE Int.reduceEq Nat.reduceLeDiff Nat.reduceSub Nat.reduceMul aD3 aPL al3 yZ aUU List.take_zero List.take_nil List.drop_nil a7J List.drop_succ_cons List.replicate x4 qH iG not_true_eq_false not_false_eq_true true_implies decide_not ite_not
attribute [go_sem] Bool.true_or aJ6 Bool.or_true Bool.or_false Nat.reduceAdd Nat.reduceEqDiff Nat.reduceBEq reduceCtorEq
@[go_sem] theorem bBD :aC.cells (aC.any)=[(aC.any)]:=rfl
@[go_sem] theorem bDH :aC.flat (aC.any)=false:=rfl
@[go_sem] theorem a7W (b:Bool):aC.cells (aC.bool b)=[(aC.bool b)]:=rfl
@[go_sem] theorem bBE (b:Bool):aC.flat (aC.bool b)=true:=rfl
@[go_sem] theorem bBF (k:IntKind) (n:Int):aC.cells (aC.int k n)=[(aC.int k n)]:=rfl
@[go_sem] theorem bDI (k:IntKind) (n:Int):aC.flat (aC.int k n)=true:=rfl
@[go_sem] theorem bBG (s:List UInt8):aC.cells (aC.str s)=[(aC.str s)]:=rfl
@[go_sem] theorem bDJ (s:List UInt8):aC.flat (aC.str s)=true:=rfl
@[go_sem] theorem a19 :aC.cells (aC.gV)=[(aC.gV)]:=rfl
@[go_sem] theorem a5T :aC.flat (aC.gV)=true:=rfl
@[go_sem] theorem a5U :aC.cells (aC.aW)=[(aC.aW)]:=rfl
@[go_sem] theorem a7X :aC.flat (aC.aW)=true:=rfl
@[go_sem] theorem a5V :aC.cells (aC.qV)=[(aC.qV)]:=rfl
@[go_sem] theorem a7Y :aC.flat (aC.qV)=true:=rfl
@[go_sem] theorem a5W :aC.cells (aC.gX)=[(aC.gX)]:=rfl
@[go_sem] theorem a7Z :aC.flat (aC.gX)=true:=rfl
@[go_sem] theorem a2A :aC.cells (aC.mT)=[(aC.mT)]:=rfl
@[go_sem] theorem a5X :aC.flat (aC.mT)=true:=rfl
@[go_sem] theorem bDK (sz:Nat) (es:List (List aC)) (b:Bool):aC.cells (aC.sl sz es b)=[(aC.sl sz es b)]:=rfl
@[go_sem] theorem bHB (sz:Nat) (es:List (List aC)) (b:Bool):aC.flat (aC.sl sz es b)=true:=rfl
@[go_sem] theorem bDL (sz:Nat) (es:List (List aC)) (i o:Nat):aC.cells (aC.ip sz es i o)=[(aC.ip sz es i o)]:=rfl
@[go_sem] theorem bHC (sz:Nat) (es:List (List aC)) (i o:Nat):aC.flat (aC.ip sz es i o)=true:=rfl
@[go_sem] theorem bDM (n sz i l:Nat):aC.cells (aC.os n sz i l)=[(aC.os n sz i l)]:=rfl
@[go_sem] theorem bHD (n sz i l:Nat):aC.flat (aC.os n sz i l)=true:=rfl
@[go_sem] theorem bDN (n sz i l:Nat):aC.cells (aC.op n sz i l)=[(aC.op n sz i l)]:=rfl
@[go_sem] theorem bHE (n sz i l:Nat):aC.flat (aC.op n sz i l)=true:=rfl
@[go_sem] theorem bBH (cs:List aC):aC.cells (aC.eW cs)=[(aC.eW cs)]:=rfl
@[go_sem] theorem bDO (cs:List aC):aC.flat (aC.eW cs)=false:=rfl
@[go_sem] theorem bDP (f:Fn) (a b:List aC):aC.cells (aC.fn f a b)=[(aC.fn f a b)]:=rfl
@[go_sem] theorem bHF (f:Fn) (a b:List aC):aC.flat (aC.fn f a b)=true:=rfl
@[go_sem] theorem a5Y (t:TypeId) (v:aC):aC.cells (aC.iface t v)=[(aC.iface t v)]:=rfl
@[go_sem] theorem a71 (t:TypeId) (v:aC):aC.flat (aC.iface t v)=true:=rfl
@[go_sem] theorem bDQ (n:Nat):aC.cells (aC.mp n)=[(aC.mp n)]:=rfl
@[go_sem] theorem bHG (n:Nat):aC.flat (aC.mp n)=true:=rfl
@[go_sem] theorem bBI (cs:List aC):aC.cells (.agg cs)=cs:=rfl
@[go_sem] theorem bDR (cs:List aC):aC.flat (.agg cs)=false:=rfl
@[go_sem] theorem a73:maxLen=9223372036854775807:=rfl
set_option linter.unusedVariables false
set_option linter.unusedSimpArgs false
def Sub (x y:aC):Prop:=∀ E h w v,dU E h w x v->dU E h w y v
theorem Sub.refl (x:aC):Sub x x:=λ_ _ _ _ r=>r
theorem Sub.trans {x y z:aC} (a:Sub x y) (b:Sub y z):Sub x z:=λE h w v r=>b E h w v (a E h w v r)
theorem Sub.any (x:aC):Sub x .any:=λ_ _ _ v _=>.any v
theorem Sub.nil (sz:Nat) (t:Bool):Sub .aW (.sl sz [] t):=λE h w v r=>by
 cases r
 exact .y6 sz t none 0 (λ_=>rfl) (by simp[maxLen]) trivial
theorem Sub.loose (sz:Nat) (es:List (List aC)) (t:Bool):Sub (.sl sz es t) (.sl sz es false):=λE h w v r=>by
 cases r with
 |y6 _ _ a cap ht hmax ha=>exact .y6 sz false _ _ (λe=>by simp at e) hmax ha
 |sl _ _ _ b o cap cv hi hcap hmax ht hs hc h1 hr=>exact .sl sz es false b o _ cv hi hcap hmax (λe=>by simp at e) hs hc h1 hr
def tL (xs ys:List aC):Prop:=xs.length=ys.length/\∀ (i:Nat) (x y:aC),xs[i]?=some x->ys[i]?=some y->Sub x y
theorem tL.nil:tL [] []:=⟨rfl,λi x y hx=>by simp at hx⟩
theorem tL.cons {x y:aC} {xs ys:List aC} (a:Sub x y) (b:tL xs ys):tL (x::xs) (y::ys) :=
 ⟨by simp[b.1],λi u v hu hv=>by
  cases i with
  |zero=>simp at hu hv;subst hu;subst hv;exact a
  |succ i=>exact b.2 i u v (by simpa using hu) aAR⟩
theorem tL.refl:∀ (xs:List aC),tL xs xs
 | []=>.nil
 |x::xs=>.cons (.refl x) (.refl xs)
theorem tL.aP2 {E:Env} {h:Heap} {w:World}:∀ {xs ys:List aC} {vs:List Value},tL xs ys->cU E h w xs vs->cU E h w ys vs
 | [],[],_,_,r=>r
 | [],_::_,_,s,_=>by have:=s.1;simp at this
 | _::_,[],_,s,_=>by have:=s.1;simp at this
 |x::xs,y::ys,[],s,r=>r.elim
 |x::xs,y::ys,v::vs,s,r=>⟨s.2 0 x y rfl rfl E h w v r.1,tL.aP2 (xs:=xs) (ys:=ys) ⟨by have:=s.1;simpa using this,λi u v hu hv=>s.2 (i+1) u v (by simpa using hu) aAR⟩ r.2⟩
theorem Sub.agg {xs ys:List aC} (s:tL xs ys):Sub (.agg xs) (.agg ys):=λE h w v r=>by
 cases r with
 |agg _ vs hl hr =>
  have:=s.aP2 (cU.mk hl hr)
  exact .agg _ _ this.length this.get
theorem Sub.eW {xs ys:List aC} (s:tL xs ys):Sub (.eW xs) (.eW ys):=λE h w v r=>by
 cases r with
 |eW _ vs hl hr =>
  have:=s.aP2 (cU.mk hl hr)
  exact .eW _ _ this.length this.get
theorem fH.sub {P:Program} {f:FuncId} {xs ys:List aC} {h:Heap} {K:aC->Heap->Prop} (s:tL xs ys) (a:fH P f ys h K):fH P f xs h K :=
 ⟨a.1,λE w vs R hL=>a.2 E w vs R (s.aP2 hL)⟩
theorem eX.sub {P:Program} {f:FuncId} {xs ys:List aC} {r:aC} (s:tL xs ys) (a:eX P f ys r):eX P f xs r:=λh=>(a h).sub s
def Shift (r':aC) (h':Heap) (r:aC) (h:Heap):Prop :=
 ∀ E w v,Rel E h' w->dU E h' w r' v->∃ E',Ev E h' w E' h w/\Rel E' h w/\dU E' h w r v
theorem Shift.of {r' r:aC} {h' h:Heap} (s:Sub r' r) (hl:h.le h'):Shift r' h' r h:=λE w v R x =>
 ⟨E,(Ev.refl E h' w).forget hl,R.forget hl,s _ _ _ _ (x.rP λb=>oE.le hl)⟩
theorem Shift.trans {a b c:aC} {h1 h2 h3:Heap} (x:Shift a h1 b h2) (y:Shift b h2 c h3):Shift a h1 c h3:=λE w v R r=>by
 obtain⟨E',ev,R',r'⟩:=x E w v R r
 obtain⟨E'',ev',R'',r''⟩:=y E' w v R' r'
 exact⟨E'',ev.trans ev',R'',r''⟩
mutual
def aC.gP (n:Nat) (es:List (List aC)):aC->aC
 | .os m sz i len=>if m=n then .sl sz ((es.drop i).take len) false else .os m sz i len
 | .op m sz i off=>if m=n then .ip sz es i off else .op m sz i off
 | .agg cs=>.agg (p5 n es cs)
 | .eW cs=>.eW (p5 n es cs)
 |x=>x
def p5 (n:Nat) (es:List (List aC)):List aC->List aC
 | []=>[]
 |x::xs=>x.gP n es::p5 n es xs
end
theorem aF5 (n:Nat) (es:List (List aC)):∀ l,p5 n es l=l.map (aC.gP n es)
 | []=>rfl
 |x::l=>by simp[p5,aF5 n es l]
mutual
def j5 (n sz k:Nat):aC->Bool
 | .os m sz' i len=>m != n || (sz' == sz && decide (i+len<=k))
 | .op m sz' i len=>m != n || sz' == sz
 | .agg cs=>kQ n sz k cs
 | .eW cs=>kQ n sz k cs
 | _=>true
def kQ (n sz k:Nat):List aC->Bool
 | []=>true
 |x::xs=>j5 n sz k x && kQ n sz k xs
end
theorem xG (n sz k:Nat):∀ (l:List aC),kQ n sz k l=true->∀ (i:Nat) x,l[i]?=some x->j5 n sz k x=true
 | [],_,i,x,hx=>by simp at hx
 |y::l,h,0,x,hx=>by simp at hx;subst hx;simp only[kQ,lH]at h;exact h.1
 |y::l,h,i+1,x,hx=>by simp only[kQ,lH]at h;exact xG n sz k l h.2 i x aMR
theorem dU.rS {E:Env} {h:Heap} {w:World} (R:Rel E h w) {n sz:Nat} {es:List (List Cell)} (hn:h n=some (.row sz es)) {x:aC} {v:Value} (r:dU E h w x v)
  (hb:j5 n sz es.length x=true):dU E (aR h n .gone) w (x.gP n (fF es)) v:=by
 have hi:∀ b,oE E h w b->oE E (aR h n .gone) w b:=λb=>aAT n b
 induction r with
 |any v=>exact .any v
 |bool b=>exact .bool b
 |int k n=>exact .int k n
 |str s hl=>exact .str s hl
 |gV=>exact .gV
 |aW=>exact .aW
 |qV=>exact .qV
 |gX=>exact .gX
 |mT=>exact .mT
 |y6 sz t a cap ht hmax ha=>exact .y6 sz t a cap ht hmax ha
 |sl sz es t b o cap cv hb' hcap hmax ht hs hc h1 hr ih=>exact .sl sz es t b o cap cv (hi b hb') hcap hmax ht hs hc h1 λi j x hx=>(hr i j x hx).rP hi
 |ip sz es i off b o cv hb' hs hc h1 hr ih=>exact .ip sz es i off b o cv (hi b hb') hs hc h1 λi j x hx=>(hr i j x hx).rP hi
 |os0 m sz' hd hl =>
  simp only[aC.gP]
  split
  ·have:((fF es).drop 0).take 0=[]:=by simp
   rw[this]
   exact .y6 sz' false none 0 (λ_=>rfl) (by simp[maxLen]) trivial
  ·exact .os0 m sz' hd hl
 |op m sz' i off b o hd hl =>
  simp only[aC.gP]
  split
  ·rename_i e
   subst e
   simp only[j5,bne_self_eq_false,aJ6,beq_iff_eq]at hb
   subst hb
   obtain⟨b',o',hl',hbS,hs,cs,ct,cv,T,hh,hm',hT,hD,hc,hrr⟩:=wY R hn (.inr ⟨_,hl⟩)
   rw[hl]at hl'
   obtain⟨rfl,rfl⟩:=aJ2 (eO hl')
   have himm:∀ c,E.fp m c->oE E (aR h m .gone) w c:=λc hc=>aDG R hn trivial c hc
   have hat:∀ i' j y,gT (fF es) i' j=some y->∃ c,gT es i' j=some c/\y=c.val:=by
    intro i' j y hy
    rw[pZ]at hy
    obtain⟨c,hc,rfl⟩:=nJ.1 hy
    exact⟨c,hc,rfl⟩
   exact .ip sz' (fF es) i off b o cv (himm b hbS) (λe he=>u6 hs e he)
    (λi' j y hy=>by
     obtain⟨c,hc',rfl⟩:=hat i' j y hy
     have:=hc _ _ _ hc'
     simp only[World.cell?,hh]
     rw[←this]
     simp)
    (λi' j y hy=>by obtain⟨c,hc',rfl⟩:=hat i' j y hy;exact(hrr _ _ _ hc').one)
    (λi' j y hy=>by
     obtain⟨c,hc',rfl⟩:=hat i' j y hy
     exact(hrr _ _ _ hc').rS hi λb hb=>himm b (hT _ _ b hb).1)
  ·exact .op m sz' i off b o hd hl
 |fn f cs ds vs us hl hr hl' hr' ih ih'=>exact .fn f cs ds vs us hl (λi x v hx hv=>(hr i x v hx hv).rP hi) hl' (λi x v hx hv=>(hr' i x v hx hv).rP hi)
 |iface t x v hr ih=>exact .iface t x v (hr.rP hi)
 |mp n b o hd hl=>exact .mp n b o hd hl
 |agg cs vs hl hr ih =>
  simp only[aC.gP,aF5]
  simp only[j5]at hb
  refine .agg _ vs (by simpa using hl) λi x v hx hv=>?_
  rw[nI]at hx
  obtain⟨y,hy,rfl⟩:=nJ.1 hx
  exact ih i y v hy hv (xG _ _ _ _ hb i y hy)
 |eW cs vs hl hr ih =>
  simp only[aC.gP,aF5]
  simp only[j5]at hb
  refine .eW _ vs (by simpa using hl) λi x v hx hv=>?_
  rw[nI]at hx
  obtain⟨y,hy,rfl⟩:=nJ.1 hx
  exact ih i y v hy hv (xG _ _ _ _ hb i y hy)
 |os m sz' i len b o cap t mm hd hl hlc hmax hsh hm =>
  simp only[aC.gP]
  split
  ·rename_i e
   subst e
   simp only[j5,bne_self_eq_false,aJ6,lH,beq_iff_eq,decide_eq_true_eq]at hb
   obtain⟨rfl,hle⟩:=hb
   obtain⟨b',o',hl',hbS,hs,cs,ct,cv,T,hh,hm',hT,hD,hc,hrr⟩:=wY R hn (.inr ⟨_,hl⟩)
   rw[hl]at hl'
   obtain⟨rfl,rfl⟩:=aJ2 (eO hl')
   have himm:∀ c,E.fp m c->oE E (aR h m .gone) w c:=λc hc=>aDG R hn trivial c hc
   have hlen:(((fF es).drop i).take len).length=len:=by rw[qI,List.length_drop,rR];omega
   have hat:∀ i' j y,gT (((fF es).drop i).take len) i' j=some y->∃ c,gT es (i+i') j=some c/\y=c.val:=by
    intro i' j y hy
    obtain⟨e,h1,h2⟩:=kF hy
    have hlt:i'<len:=by have:=(jQ.1 h1).1;rw[hlen]at this;exact this
    rw[aJ1 hlt,aME]at h1
    have:gT (fF es) (i+i') j=some y:=by simp[gT,h1,h2]
    rw[pZ]at this
    obtain⟨c,hc,rfl⟩:=nJ.1 this
    exact⟨c,hc,rfl⟩
   have:=dU.sl (E:=E) (h:=aR h m .gone) (w:=w) sz' (((fF es).drop i).take len) false b (o+i*sz') cap (λi' j=>cv (i+i') j) (himm b hbS) (by rw[hlen];exact hlc) hmax (λe=>by simp at e)
    (λe he=>u6 hs e (aWX (aJ4 he)))
    (λi' j y hy=>by
     obtain⟨c,hc',rfl⟩:=hat i' j y hy
     have:=hc _ _ _ hc'
     simp only[World.cell?,hh]
     rw[←this]
     simp only[a1L,aJ0,if_false]
     congr 1;rw[sI];omega)
    (λi' j y hy=>by obtain⟨c,hc',rfl⟩:=hat i' j y hy;exact(hrr _ _ _ hc').one)
    (λi' j y hy=>by
     obtain⟨c,hc',rfl⟩:=hat i' j y hy
     exact(hrr _ _ _ hc').rS hi λb hb=>himm b (hT _ _ b hb).1)
   rw[hlen]at this
   exact this
  ·exact .os m sz' i len b o cap t mm hd hl hlc hmax hsh hm
theorem Shift.gP {x:aC} {h:Heap} {n sz:Nat} {es:List (List Cell)} (hn:h n=some (.row sz es)) (hb:j5 n sz es.length x=true):Shift x h (x.gP n (fF es)) (aR h n .gone):=λE w v R r =>
 ⟨E,Ev.gone n,R.gone hn,r.rS R hn hb⟩
theorem nV.rS {P:Program} {N:Nat} {c:Code} {Q:Exit->bE->Heap->Prop} {τ:bE} {h:Heap} (n:Nat) {sz:Nat} {es:List (List Cell)} (hn:h n=some (.row sz es)) (hb:τ.all (λp=>j5 n sz es.length p.2)=true)
  (x:nV P N c Q (τ.map λp=>(p.1,p.2.gP n (fF es))) (aR h n .gone)):nV P N c Q τ h:=by
 intro ds E w a R r
 refine Code.wp_mono (λe a' w' y=>qO.trans (Ev.gone n) y) (x ds E w a (R.gone hn) ⟨r.size,r.defers,λk=>?_⟩)
 have key:∀ τ:bE,τ.all (λp=>j5 n sz es.length p.2)=true->j5 n sz es.length (cE τ k)=true/\cE (τ.map λp=>(p.1,p.2.gP n (fF es))) k=(cE τ k).gP n (fF es):=by
  intro τ
  induction τ with
  |nil=>intro _;exact⟨rfl,rfl⟩
  |cons p τ ih =>
   intro hp
   simp only[List.all_cons,lH]at hp
   simp only[qH,cE]
   split
   ·exact⟨hp.1,rfl⟩
   ·exact ih hp.2
 rw[(key τ hb).2]
 exact(r.get k).rS R hn (key τ hb).1
theorem r6 {P:Program} {f:FuncId} {fn:Func} {c:Code} {N:Nat} {args:List aC} {h:Heap} {K K':aC->Heap->Prop} (a:fH P f args h K') (hk:∀ r h',K' r h'->∃ r₁ h₁,Shift r h' r₁ h₁/\K r₁ h₁):fH P f args h K :=
 ⟨a.1,λE w vs R hL=>Calls.mono (a.2 E w vs R hL) λe w' he=>by
  cases e <;> try exact he
  obtain⟨r,h',E',k,ev,R',rx⟩:=he
  obtain⟨r₁,h₁,hs,k₁⟩:=hk r h' k
  obtain⟨E'',ev',R'',rx'⟩:=hs E' w' _ R' rx
  exact⟨r₁,h₁,E'',k₁,ev.trans ev',R'',rx'⟩⟩
theorem aXY {P:Program} {f:FuncId} {fn:Func} {c:Code} (N:Nat) (keep ib:List Nat) (mk:Marks) {args:List aC} {r:aC} (hmix:P.follows .mixedOrders=true) (hf:P.funcs[f]?=some fn) (hb:fn.body=some c)
  (hck:(eT P f && decide (fn.ntmps=N) && e8 N mk c)=true) (hl:args.length<=N)
  (hw:∀ h,hwp P N keep ib mk c (aA6 P fn.results (λr' h'=>Shift r' h' r h) .normal) (aA6 P fn.results λr' h'=>Shift r' h' r h) (nA 0 args) h):eX P f args r:=λh =>
 r6 (fn:=fn) (c:=c) (N:=N) (aF4 N keep ib mk hmix hf hb hck hl (hw h) λr' h' hx=>⟨h',Heap.le_refl _,hx⟩) λr' h' hx=>⟨r,h,hx,rfl,rfl⟩
theorem bJ {r:aC} {h' h:Heap} (hl:h.le h'):Shift r h' r h:=.of (.refl r) hl
theorem bM (r:aC) (h:Heap):Shift r h r h:=.of (.refl r) (Heap.le_refl h)
abbrev Tag {α:Type} (_:α):Type:=Unit
def eS {α:Type} (o:Option α) (K:α->Prop) (_:Tag K):Prop:=match o with|some x=>K x|none=>False
@[go_sem] theorem bBJ {α:Type} (x:α) (K:α->Prop) (t:Tag K):eS (some x) K t=K x:=rfl
@[go_sem] theorem bBK {α:Type} (K:α->Prop) (t:Tag K):eS none K t=False:=rfl
def xH (v:aC) (A B:Prop) (_:Tag (A,B)):Prop:=match v with | .bool t=>(t=true->A)/\(t=false->B)|_=>False
@[go_sem] theorem a74 (c:Bool) (A B:Prop) (t:Tag (A,B)):xH (.bool c) A B t=((c=true->A)/\(c=false->B)):=rfl
@[go_sem high] theorem a77 (A B:Prop) (t:Tag (A,B)):xH (.bool true) A B t=A:=by simp[xH]
@[go_sem high] theorem a5Z (A B:Prop) (t:Tag (A,B)):xH (.bool false) A B t=B:=by simp[xH]
def aNI (K:bE->Heap->Prop) (Q:Exit->bE->Heap->Prop) (_:Tag (K,Q)):Exit->bE->Heap->Prop:=uF K Q
@[go_sem] theorem a2B (K:bE->Heap->Prop) (Q:Exit->bE->Heap->Prop) (t:Tag (K,Q)) (τ:bE) (h:Heap):aNI K Q t .normal τ h=K τ h:=rfl
@[go_sem] theorem bBL (K:bE->Heap->Prop) (Q:Exit->bE->Heap->Prop) (t:Tag (K,Q)) (τ:bE) (h:Heap):aNI K Q t .ret τ h=Q .ret τ h:=rfl
@[go_sem] theorem a78 (K:bE->Heap->Prop) (Q:Exit->bE->Heap->Prop) (t:Tag (K,Q)) (i:Nat) (τ:bE) (h:Heap):aNI K Q t (.exit i) τ h=Q (.exit i) τ h:=rfl
def aCO (id:Nat) (K:bE->Heap->Prop) (Q:Exit->bE->Heap->Prop) (_:Tag (K,Q)):Exit->bE->Heap->Prop:=aF3 id K Q
@[go_sem] theorem a79 (id:Nat) (K:bE->Heap->Prop) (Q:Exit->bE->Heap->Prop) (t:Tag (K,Q)) (τ:bE) (h:Heap):aCO id K Q t .ret τ h=Q .ret τ h:=rfl
@[go_sem] theorem a50 (id:Nat) (K:bE->Heap->Prop) (Q:Exit->bE->Heap->Prop) (t:Tag (K,Q)) (τ:bE) (h:Heap):aCO id K Q t (.exit id) τ h=K τ h:=by simp[aCO,aF3]
@[go_sem] theorem a2C (id i:Nat) (K:bE->Heap->Prop) (Q:Exit->bE->Heap->Prop) (t:Tag (K,Q)) (τ:bE) (h:Heap) (hi:(i == id)=false):aCO id K Q t (.exit i) τ h=Q (.exit i) τ h:=by
 have:i≠id:=by simpa using hi
 simp[aCO,aF3,this]
def aCP (P:Program) (N:Nat) (c:Code) (Q:Exit->bE->Heap->Prop) (τ:bE) (h:Heap) (_:Tag (c,Q)):Prop:=nV P N c Q τ h
def iQ (P:Program) (ib:List Nat) (d:Option Tmp) (op:Op) (ρ:Operand->aC) (h:Heap) (K:aC->Heap->Prop) (_:Tag (op,K)):Prop :=
 rZ P ib ⟨d,op,0,"",#[],none⟩ ρ h K
def stepG (P:Program) (ib:List Nat) (d:Option Tmp) (op:Op) (ρ:Operand->aC) (K:aC->Prop) (_:Tag (op,K)):Prop :=
 aCM P ib ⟨d,op,0,"",#[],none⟩ ρ K
def aA7 (P:Program) (ib:List Nat) (os l:List Oper) (τ:bE) (h:Heap) (K:bE->Heap->Prop) (_:Tag (os,l,K)):Prop:=aA5 P ib os.toArray l τ h K
def xI (os:List Oper) (g:Nat) (_:Tag os):Option Tmp:=(os.toArray[g]?).bind (·.dst)
@[go_sem] theorem a8A (o:Oper) (os:List Oper) (t:Tag (o::os)):xI (o::os) 0 t=o.dst:=by simp[xI]
@[go_sem] theorem a8B (o:Oper) (os:List Oper) (n:Nat) (t:Tag (o::os)):xI (o::os) (n+1) t=xI os n ():=by simp[xI]
def l4 (v:aC) (b:Bool) (A B C:Prop) (_:Tag (A,B,C)):Prop:=match v with
 | .bool b'=>(b'=b->A)/\(b'=!b->B)
 | .eW []=>C
 | _=>False
@[go_sem] theorem a8C (b:Bool) (A B C:Prop) (t:Tag (A,B,C)):l4 (.eW []) b A B C t=C:=rfl
@[go_sem] theorem bDS (c:Bool) (A B C:Prop) (t:Tag (A,B,C)):l4 (.bool c) true A B C t=((c=true->A)/\(c=false->B)):=rfl
@[go_sem] theorem bDT (c:Bool) (A B C:Prop) (t:Tag (A,B,C)):l4 (.bool c) false A B C t=((c=false->A)/\(c=true->B)):=rfl
@[go_sem high] theorem bBM (A B C:Prop) (t:Tag (A,B,C)):l4 (.bool true) true A B C t=A:=by simp[l4]
@[go_sem high] theorem bBN (A B C:Prop) (t:Tag (A,B,C)):l4 (.bool false) true A B C t=B:=by simp[l4]
@[go_sem high] theorem bBO (A B C:Prop) (t:Tag (A,B,C)):l4 (.bool true) false A B C t=B:=by simp[l4]
@[go_sem high] theorem bBP (A B C:Prop) (t:Tag (A,B,C)):l4 (.bool false) false A B C t=A:=by simp[l4]
section
variable (P:Program) (ib:List Nat) (os rest:List Oper) (τ:bE) (h:Heap) (K:bE->Heap->Prop) (d:Option Tmp) (op:Op) (ty:TypeId) (p:String) (af:Array Edge)
@[go_sem] theorem bBQ (t:Tag (os,[],K)):aA7 P ib os [] τ h K t=K τ h:=rfl
@[go_sem] theorem a8D (t:Tag (os,(⟨d,op,ty,p,af,none⟩::rest),K)):aA7 P ib os (⟨d,op,ty,p,af,none⟩::rest) τ h K t =
  iQ P ib d op (rV τ) h (λv h'=>aA7 P ib os rest (eZ τ d v) h' K ()) ():=rfl
@[go_sem] theorem a8E (g:Nat) (b:Bool) (t:Tag (os,(⟨d,op,ty,p,af,some (g,b)⟩::rest),K)):aA7 P ib os (⟨d,op,ty,p,af,some (g,b)⟩::rest) τ h K t =
  eS (xI os g ()) (λs=>l4 (cE τ s) b (iQ P ib d op (rV ((s,.bool b)::τ)) h (λv h'=>aA7 P ib os rest (eZ ((s,.bool b)::τ) d v) h' K ()) ())
   (aA7 P ib os rest (eZ ((s,.bool !b)::τ) d (.eW [])) h K ()) (aA7 P ib os rest (eZ τ d (.eW [])) h K ()) ()) ():=by
 unfold aA7
 rw[aA5]
 simp only[eS,xI]
 cases (os.toArray[g]?).bind (·.dst)with
 |none=>rfl
 |some s =>
  simp only[l4]
  cases cE τ s <;> first|rfl|(rename_i cs;cases cs <;> rfl)
end
def aA8 (P:Program) (ib:List Nat) (os:List Oper) (ms:List Nat) (cr:List (Nat×Nat)) (l:qQ) (pr:List (Nat×Nat)) (τ:bE) (h:Heap) (K:bE->Heap->Prop) (_:Tag (os,K)):Prop:=aCN P ib os.toArray ms cr l pr τ h K
def aF6 (P:Program) (ib:List Nat) (os:List Oper) (cr:List (Nat×Nat)) (i:Nat) (m:Bool) (o:Oper) (pr:List (Nat×Nat)) (τ:bE) (h:Heap) (K:List (Nat×Nat)->bE->Heap->Prop) (_:Tag (os,o,K)):Prop :=
 match o.guard with
 |none=>aDP P ib cr i m o (rE os.toArray o τ) pr h (λpr' v h'=>K pr' (eZ τ o.dst v) h')
 |some (g,b)=>match (os.toArray[g]?).bind (·.dst)with
  |some d=>match cE τ d with
   | .bool b'=>(b'=b->aDP P ib cr i m o (rE os.toArray o ((d,.bool b)::τ)) pr h (λpr' v h'=>K pr' (eZ ((d,.bool b)::τ) o.dst v) h')) /\
     (b'=!b->K pr (eZ ((d,.bool !b)::τ) o.dst (.eW [])) h)
   | .eW []=>K pr (eZ τ o.dst (.eW [])) h
   | _=>False
  |none=>False
def aNJ (os:List Oper) (i:Nat) (K:Oper->Prop) (_:Tag (os,K)):Prop:=match os[i]? with|some o=>K o|none=>False
@[go_sem] theorem bBR (o:Oper) (os:List Oper) (K:Oper->Prop) (t:Tag (o::os,K)):aNJ (o::os) 0 K t=K o:=rfl
@[go_sem] theorem bBS (o:Oper) (os:List Oper) (i:Nat) (K:Oper->Prop) (t:Tag (o::os,K)):aNJ (o::os) (i+1) K t=aNJ os i K ():=rfl
def aP3 (os:List Oper) (o:Oper) (τ:bE) (_:Tag (os,o)):Operand->aC:=rE os.toArray o τ
section
variable (P:Program) (ib:List Nat) (os:List Oper) (τ:bE) (h:Heap) (K:bE->Heap->Prop) (d:Option Tmp) (op:Op) (ty:TypeId) (p:String) (af:Array Edge)
variable (cr:List (Nat×Nat)) (pr:List (Nat×Nat)) (i:Nat)
@[go_sem] theorem bBT (ms:List Nat) (t:Tag (os,K)):aA8 P ib os ms cr .nil pr τ h K t=K τ h:=rfl
theorem aP4 (ms:List Nat) (i:Nat) (C:List (Nat×Nat)->bE->Heap->Prop):OpD P ib os.toArray ms cr i pr τ h C=aNJ os i (λo=>aF6 P ib os cr i (ms.contains i) o pr τ h C ()) ():=by
 simp only[OpD,aNJ,aF6,aPO]
 cases os[i]? <;> rfl
@[go_sem] theorem bDU (ms:List Nat) (l:qQ) (i:Nat) (t:Tag (os,K)):aA8 P ib os ms cr (.op i l) pr τ h K t=aNJ os i (λo=>aF6 P ib os cr i (ms.contains i) o pr τ h (λpr' τ' h'=>aA8 P ib os ms cr l pr' τ' h' K ()) ()) ():=by
 simp only[aA8,aCN];exact aP4 P ib os τ h cr pr ms i _
@[go_sem] theorem bBU (ms:List Nat) (l q:qQ) (i j:Nat) (t:Tag (os,K)):aA8 P ib os ms cr (.alt i l j q) pr τ h K t=((aNJ os i (λo=>aF6 P ib os cr i (ms.contains i) o pr τ h (λpr' τ' h'=>aA8 P ib os ms cr l pr' τ' h' K ()) ()) ())/\aNJ os j (λo=>aF6 P ib os cr j (ms.contains j) o pr τ h (λpr' τ' h'=>aA8 P ib os ms cr q pr' τ' h' K ()) ()) ()):=by
 simp only[aA8,aCN];rw[aP4 P ib os τ h cr pr ms i _,aP4 P ib os τ h cr pr ms j _]
@[go_sem] theorem bDV (o:Oper) (t:Tag (os,o)) (k:Nat):aP3 os o τ t (.tmp k)=if (qP os.toArray o).contains k then cE τ k else .any:=rfl
@[go_sem] theorem a8F (o:Oper) (t:Tag (os,o)) (v:Value):aP3 os o τ t (.const v)=aC.ofValue v:=rfl
@[go_sem] theorem bBV (o:Oper) (t:Tag (os,o)) (f:FuncId):aP3 os o τ t (.func f)=rV τ (.func f):=rfl
def fV:Op->Bool
 | .load _ _=>true
 | _=>false
def aDQ (d:Option Tmp) (op:Op) (ρ:Operand->aC) (M:List (Nat×Nat)->aC->Heap->Prop) (_:Tag (op,M)):Prop :=
 if fV op then aNE P ⟨d,op,0,"",#[],none⟩ ρ h (λn v=>M (aNG cr i n pr) v h)else rZ P ib ⟨d,op,0,"",#[],none⟩ ρ h (λv h'=>aF2 cr i pr h h'/\M pr v h')
theorem aSO (ρ:Operand->aC) (g:Option (Nat×Bool)) (M:List (Nat×Nat)->aC->Heap->Prop):aDP P ib cr i true ⟨d,op,ty,p,af,g⟩ ρ pr h M=aDQ P ib h cr pr i d op ρ M ():=by
 unfold aDP aDQ
 cases op <;> rfl
@[go_sem] theorem bJV (L:List (Nat×Nat)->bE->Heap->Prop) (t:Tag (os,(⟨d,op,ty,p,af,none⟩:Oper),L)):aF6 P ib os cr i true ⟨d,op,ty,p,af,none⟩ pr τ h L t=aDQ P ib h cr pr i d op (aP3 os ⟨d,op,ty,p,af,none⟩ τ ()) (λpr' v h'=>L pr' (eZ τ d v) h') ():=by
 rw[←aSO (ty:=ty) (p:=p) (af:=af) (g:=none)];rfl
@[go_sem] theorem bJW (L:List (Nat×Nat)->bE->Heap->Prop) (t:Tag (os,(⟨d,op,ty,p,af,none⟩:Oper),L)):aF6 P ib os cr i false ⟨d,op,ty,p,af,none⟩ pr τ h L t=stepG P ib d op (aP3 os ⟨d,op,ty,p,af,none⟩ τ ()) (λv=>L pr (eZ τ d v) h) ():=rfl
@[go_sem] theorem bHH (L:List (Nat×Nat)->bE->Heap->Prop) (g:Nat) (b:Bool) (t:Tag (os,(⟨d,op,ty,p,af,some (g,b)⟩:Oper),L)):aF6 P ib os cr i true ⟨d,op,ty,p,af,some (g,b)⟩ pr τ h L t =
  eS (xI os g ()) (λs=>l4 (cE τ s) b (aDQ P ib h cr pr i d op (aP3 os ⟨d,op,ty,p,af,some (g,b)⟩ ((s,.bool b)::τ) ()) (λpr' v h'=>L pr' (eZ ((s,.bool b)::τ) d v) h') ())
   (L pr (eZ ((s,.bool !b)::τ) d (.eW [])) h) (L pr (eZ τ d (.eW [])) h) ()) ():=by
 simp only[aF6,eS,xI,←aSO (ty:=ty) (p:=p) (af:=af) (g:=some (g,b))]
 cases (os.toArray[g]?).bind (·.dst)with
 |none=>rfl
 |some s =>
  simp only[l4]
  cases cE τ s <;> first|rfl|(rename_i cs;cases cs <;> rfl)
@[go_sem] theorem bHI (L:List (Nat×Nat)->bE->Heap->Prop) (g:Nat) (b:Bool) (t:Tag (os,(⟨d,op,ty,p,af,some (g,b)⟩:Oper),L)):aF6 P ib os cr i false ⟨d,op,ty,p,af,some (g,b)⟩ pr τ h L t =
  eS (xI os g ()) (λs=>l4 (cE τ s) b (stepG P ib d op (aP3 os ⟨d,op,ty,p,af,some (g,b)⟩ ((s,.bool b)::τ) ()) (λv=>L pr (eZ ((s,.bool b)::τ) d v) h) ())
   (L pr (eZ ((s,.bool !b)::τ) d (.eW [])) h) (L pr (eZ τ d (.eW [])) h) ()) ():=by
 simp only[aF6,eS,xI]
 cases (os.toArray[g]?).bind (·.dst)with
 |none=>rfl
 |some s =>
  simp only[l4]
  cases cE τ s <;> first|rfl|(rename_i cs;cases cs <;> rfl)
end
def lS (P:Program) (N:Nat) (keep ib:List Nat) (mk:Marks) (c:Code) (K:bE->Heap->Prop) (Q:Exit->bE->Heap->Prop) (τ:bE) (h:Heap) (_:Tag (c,K,Q)):Prop:=hwp P N keep ib mk c K Q τ h
section
variable (P:Program) (N:Nat) (keep ib:List Nat) (mk:Marks) (K:bE->Heap->Prop) (Q:Exit->bE->Heap->Prop) (τ:bE) (h:Heap)
@[go_sem] theorem bBW (t:Tag (Code.skip,K,Q)):lS P N keep ib mk .skip K Q τ h t=K τ h:=rfl
@[go_sem] theorem bDW (t:Tag (Code.ret,K,Q)):lS P N keep ib mk .ret K Q τ h t=Q .ret τ h:=rfl
@[go_sem] theorem bBX (i:Nat) (t:Tag (Code.exit i,K,Q)):lS P N keep ib mk (.exit i) K Q τ h t=Q (.exit i) τ h:=rfl
@[go_sem] theorem bDX (a b:Code) (t:Tag (Code.seq a b,K,Q)):lS P N keep ib mk (.seq a b) K Q τ h t=lS P N keep ib mk a (λτ h=>lS P N keep ib mk b K Q τ h ()) Q τ h ():=rfl
@[go_sem] theorem bBY (x:Operand) (a b:Code) (t:Tag (Code.cond x a b,K,Q)):lS P N keep ib mk (.cond x a b) K Q τ h t=xH (rV τ x) (lS P N keep ib mk a K Q τ h ()) (lS P N keep ib mk b K Q τ h ()) ():=by
 simp only[lS,hwp,xH];cases rV τ x <;> rfl
@[go_sem] theorem a8G (i:Nat) (c:Code) (t:Tag (Code.block i c,K,Q)):lS P N keep ib mk (.block i c) K Q τ h t=lS P N keep ib mk c K (aCO i K Q ()) τ h ():=rfl
@[go_sem] theorem bBZ (c:Code) (t:Tag (Code.loop c,K,Q)):lS P N keep ib mk (.loop c) K Q τ h t=aCP P N (.loop c) (aNI K Q ()) τ h ():=rfl
@[go_sem] theorem a52 (i:Nat) (os:List Oper) (t:Tag (Code.region i ⟨os⟩ false,K,Q)):lS P N keep ib mk (.region i ⟨os⟩ false) K Q τ h t=aA7 P ib os os τ h (λτ' h'=>K (Hl.prune keep τ') h') ():=rfl
@[go_sem] theorem bB0 (i:Nat) (os:List Oper) (t:Tag (Code.region i ⟨os⟩ true,K,Q)):lS P N keep ib mk (.region i ⟨os⟩ true) K Q τ h t=aA8 P ib os (mk i).1 (mk i).2.2 (mk i).2.1 [] τ h (λτ' h'=>K (Hl.prune keep τ') h') ():=rfl
end
theorem aF7 {P:Program} {N:Nat} {keep ib:List Nat} {mk:Marks} (hmix:P.follows .mixedOrders=true) (c:Code) (K:bE->Heap->Prop) (Q:Exit->bE->Heap->Prop) (τ:bE) (h:Heap) (hc:e8 N mk c=true) (hw:lS P N keep ib mk c K Q τ h ()):nV P N c (aNI K Q ()) τ h :=
 pL hmix c K Q τ h hc hw
def aNK:Op->Bool
 | .box ..=>false
 | .buildSlice ..=>false
 | .call ⟨.builtin .append,_,_⟩=>false
 | _=>true
theorem eE {P:Program} {ib:List Nat} {d:Option Tmp} {op:Op} {ρ:Operand->aC} {h:Heap} {K:aC->Heap->Prop} {t:Tag (op,K)} (hop:aNK op=true):iQ P ib d op ρ h K t=step P ⟨d,op,0,"",#[],none⟩ ρ h K:=by
 unfold iQ rZ
 cases d with
 |none=>rfl
 |some d =>
  simp only
  split
  ·cases op <;> first|rfl|(simp[aNK]at hop;done)|(rename_i c;rcases c with⟨f,as,ats⟩;cases f <;> first|rfl|(rename_i b;cases b <;> first|rfl|(simp[aNK]at hop;done)))
  ·rfl
theorem fC {P:Program} {ib:List Nat} {d:Option Tmp} {op:Op} {ρ:Operand->aC} {K:aC->Prop} {t:Tag (op,K)} (hop:aNK op=true):stepG P ib d op ρ K t=aDO P ⟨d,op,0,"",#[],none⟩ ρ K:=by
 unfold stepG aCM
 cases d with
 |none=>rfl
 |some d =>
  simp only
  split
  ·cases op <;> first|rfl|(simp[aNK]at hop)
  ·rfl
def aCQ (P:Program) (op:BinOp) (ty:TypeId) (x y:aC) (K:aC->Prop) (_:Tag K):Prop:=uG P op ty x y K
def aD8 (P:Program) (op:BinOp) (ty:TypeId) (c:Bool) (x y:aC) (K:aC->Prop) (_:Tag K):Prop:=uH P op ty c x y K
def jK (P:Program) (op:BinOp) (ty:TypeId) (x y:aC) (K:aC->Prop) (_:Tag K):Prop:=e7 P op ty x y K
def unF (op:UnOp) (x:aC) (K:aC->Prop) (_:Tag K):Prop:=aCI op x K
def faF (d:Option TyD) (f:Nat) (x:aC) (K:aC->Prop) (_:Tag K):Prop:=aCJ d f x K
def iaF (re:Option j6) (x i:aC) (K:aC->Prop) (_:Tag K):Prop:=aCK re x i K
def ixF (d:Option TyD) (x i:aC) (K:aC->Prop) (_:Tag K):Prop:=zO d x i K
def ldF (r:Option j6) (a:aC) (h:Heap) (K:aC->Prop) (_:Tag K):Prop:=iL r a h K
def stF (r:Option j6) (a v:aC) (h:Heap) (K:Heap->Prop) (_:Tag K):Prop:=aKE r a v h K
def alF (r:Option j6) (h:Heap) (K:aC->Heap->Prop) (_:Tag K):Prop:=aCL r h K
def mkF (re:Option j6) (l c:aC) (h:Heap) (K:aC->Heap->Prop) (_:Tag K):Prop:=aFQ re l c h K
def slD (P:Program) (t:TypeId) (x:aC) (lo hi:Option aC) (K:aC->Prop) (_:Tag K):Prop:=pK P t x lo hi K
def slF (P:Program) (t:TypeId) (x:aC) (lo hi:Option aC) (K:aC->Prop) (_:Tag K):Prop:=lE P t x lo hi K
def aXZ (P:Program) (d:Option TyD) (x:aC) (K:aC->Prop) (_:Tag K):Prop:=match d,x with
  |some (.slice _),.sl _ es _=>es.length<=9223372036854775807->K (.int .i64 es.length)
  |some (.slice _),.os _ _ _ n=>n<=9223372036854775807->K (.int .i64 n)
  |some (.slice _),.aW=>K (.int .i64 0)
  |some .str,.str s=>s.length<=9223372036854775807->K (.int .i64 s.length)
  | _,_=>False
def aX0 (P:Program) (d:Option TyD) (x:aC) (K:aC->Prop) (_:Tag K):Prop:=match d,x with
  |some (.slice _),.sl _ es _=>K (.int .i64 es.length)
  |some (.slice _),.os _ _ _ n=>K (.int .i64 n)
  |some (.slice _),.aW=>K (.int .i64 0)
  |some .str,.str s=>K (.int .i64 s.length)
  | _,_=>False
def cvF (P:Program) (s:Option TyD) (d:Option TyD) (x:aC) (K:aC->Prop) (_:Tag K):Prop:=match d,x with
 |some (.int k'),.int k n=>s.isSome=true/\K (.int k' (k'.wrap n))
 |some .str,.sl 1 es _=>(match s with
  |some (.slice et)=>wJ P et=some (.int .u8)/\(match bytesOf es with|some bs=>K (.str bs)|none=>False)
  | _=>False)
 | _,_=>False
def a2D (P:Program) (t:TypeId) (x:aC) (lo:Option aC) (hi mx:aC) (K:aC->Prop) (_:Tag K):Prop:=nK P t x lo hi mx K
def rdF (cr:List (Nat×Nat)) (i:Nat) (pr:List (Nat×Nat)) (r:Option j6) (x:aC) (h:Heap) (M:List (Nat×Nat)->aC->Heap->Prop) (_:Tag M):Prop:=match x with
 | .op n sz j off=>iL r (.op n sz j off) h λv=>M (aNG cr i (some n) pr) v h
 | .ip sz es j off=>iL r (.ip sz es j off) h λv=>M (aNG cr i none pr) v h
 | _=>False
def a2E (c A:Prop) (_:Tag A):Prop:=c/\A
@[go_sem] theorem bHO (c A:Prop) (t:Tag A):a2E c A t=(c/\A):=rfl
@[go_sem high] theorem bB3 (A:Prop) (t:Tag A):a2E True A t=A:=by simp[a2E]
def buF (P:Program) (r:Option j6) (ps:List (Nat×aC)) (K:aC->Prop) (_:Tag K):Prop:=rK P r ps K
def exF (x:aC) (i:Nat) (K:aC->Prop) (_:Tag K):Prop:=match x with
  | .eW cs=>match cs[i]? with|some x=>K x|none=>False
  | _=>False
def ncF (x:aC) (K:aC->Prop) (_:Tag K):Prop:=match x with
  | .op n sz i k=>K (.op n sz i k)
  | .ip sz es i k=>K (.ip sz es i k)
  | _=>False
def a56 (P:Program) (f:aC) (args:List aC) (h:Heap) (K:aC->Heap->Prop) (_:Tag K):Prop:=match f with
  | .fn (.func g) first cap=>fH P g (first++args++cap) h K
  | _=>False
def a57 (P:Program) (f:aC) (args:List aC) (K:aC->Prop) (_:Tag K):Prop:=match f with
  | .fn (.func g) first cap=>aXV P g (first++args++cap) K
  | _=>False
def aG (P:Program) (g:FuncId) (args:List aC) (h:Heap) (K:aC->Heap->Prop) (_:Tag K):Prop:=fH P g args h K
def aD (P:Program) (g:FuncId) (args:List aC) (K:aC->Prop) (_:Tag K):Prop:=aXV P g args K
theorem aG.mk {P:Program} {g:FuncId} {args:List aC} {h:Heap} {K:aC->Heap->Prop} {t:Tag K} {r:aC} (a:eX P g args r) (k:K r h):aG P g args h K t:=eX.call a k
theorem aD.mk {P:Program} {g:FuncId} {args:List aC} {K:aC->Prop} {t:Tag K} {r:aC} (a:eX P g args r) (k:K r):aD P g args K t:=⟨r,a,k⟩
section
variable (P:Program) (ib:List Nat) (d:Option Tmp) (ρ:Operand->aC) (h:Heap) (K:aC->Heap->Prop) (L:aC->Prop)
@[go_sem] theorem bHR (x:Operand) (t:Tag (Op.move x,K)):iQ P ib d (.move x) ρ h K t=K (ρ x) h:=by rw[eE rfl];rfl
@[go_sem] theorem bHS (x:Operand) (t:Tag (Op.move x,L)):stepG P ib d (.move x) ρ L t=L (ρ x):=by rw[fC rfl];rfl
@[go_sem] theorem bB4 (x:Operand) (t:Tag (Op.assign x,K)):iQ P ib d (.assign x) ρ h K t=K (ρ x) h:=by rw[eE rfl];rfl
@[go_sem] theorem bB5 (x:Operand) (t:Tag (Op.assign x,L)):stepG P ib d (.assign x) ρ L t=L (ρ x):=by rw[fC rfl];rfl
@[go_sem] theorem bHT (c a b:Operand) (t:Tag (Op.pick c a b,K)):iQ P ib d (.pick c a b) ρ h K t=xH (ρ c) (K (ρ a) h) (K (ρ b) h) ():=by
 rw[eE rfl];simp only[step,xH];cases ρ c <;> rfl
@[go_sem] theorem bHU (c a b:Operand) (t:Tag (Op.pick c a b,L)):stepG P ib d (.pick c a b) ρ L t=xH (ρ c) (L (ρ a)) (L (ρ b)) ():=by
 rw[fC rfl];simp only[aDO,xH];cases ρ c <;> rfl
@[go_sem] theorem bJZ (op:BinOp) (ty ty':TypeId) (x y:Operand) (t:Tag (Op.binOp op ty x y ty',K)):iQ P ib d (.binOp op ty x y ty') ρ h K t=aD8 P op ty (rD y) (ρ x) (ρ y) (λv=>K v h) ():=by rw[eE rfl];rfl
@[go_sem] theorem bJ0 (op:BinOp) (ty ty':TypeId) (x y:Operand) (t:Tag (Op.binOp op ty x y ty',L)):stepG P ib d (.binOp op ty x y ty') ρ L t=jK P op ty (ρ x) (ρ y) L ():=by rw[fC rfl];rfl
@[go_sem] theorem bMD (op:UnOp) (ty:TypeId) (x:Operand) (t:Tag (Op.unOp op ty x,K)):iQ P ib d (.unOp op ty x) ρ h K t=unF op (ρ x) (λv=>K v h) ():=by rw[eE rfl];rfl
@[go_sem] theorem bME (op:UnOp) (ty:TypeId) (x:Operand) (t:Tag (Op.unOp op ty x,L)):stepG P ib d (.unOp op ty x) ρ L t=unF op (ρ x) L ():=by rw[fC rfl];rfl
@[go_sem] theorem bHV (s e:TypeId) (x:Operand) (t:Tag (Op.convert s e x,K)):iQ P ib d (.convert s e x) ρ h K t=cvF P (wJ P s) (wJ P e) (ρ x) (λv=>K v h) ():=by rw[eE rfl];rfl
@[go_sem] theorem bHW (s e:TypeId) (x:Operand) (t:Tag (Op.convert s e x,L)):stepG P ib d (.convert s e x) ρ L t=cvF P (wJ P s) (wJ P e) (ρ x) L ():=by rw[fC rfl];rfl
@[go_sem] theorem bMF (ty:TypeId) (x:Operand) (f:Nat) (t:Tag (Op.fieldAddr ty x f,K)):iQ P ib d (.fieldAddr ty x f) ρ h K t=faF (wJ P ty) f (ρ x) (λv=>K v h) ():=by rw[eE rfl];rfl
@[go_sem] theorem bMG (ty:TypeId) (x:Operand) (f:Nat) (t:Tag (Op.fieldAddr ty x f,L)):stepG P ib d (.fieldAddr ty x f) ρ L t=faF (wJ P ty) f (ρ x) L ():=by rw[fC rfl];rfl
@[go_sem] theorem bMH (ty:TypeId) (x i:Operand) (t:Tag (Op.indexAddr ty x i,K)):iQ P ib d (.indexAddr ty x i) ρ h K t=iaF (kA P ty) (ρ x) (ρ i) (λv=>K v h) ():=by rw[eE rfl];rfl
@[go_sem] theorem bMI (ty:TypeId) (x i:Operand) (t:Tag (Op.indexAddr ty x i,L)):stepG P ib d (.indexAddr ty x i) ρ L t=iaF (kA P ty) (ρ x) (ρ i) L ():=by rw[fC rfl];rfl
@[go_sem] theorem bMJ (ty:TypeId) (x i:Operand) (t:Tag (Op.index ty x i,K)):iQ P ib d (.index ty x i) ρ h K t=ixF (wJ P ty) (ρ x) (ρ i) (λv=>K v h) ():=by rw[eE rfl];rfl
@[go_sem] theorem bMK (ty:TypeId) (x i:Operand) (t:Tag (Op.index ty x i,L)):stepG P ib d (.index ty x i) ρ L t=ixF (wJ P ty) (ρ x) (ρ i) L ():=by rw[fC rfl];rfl
@[go_sem] theorem bML (ty:TypeId) (a:Operand) (t:Tag (Op.load ty a,K)):iQ P ib d (.load ty a) ρ h K t=ldF (fE P ty) (ρ a) h (λv=>K v h) ():=by rw[eE rfl];rfl
@[go_sem] theorem bMM (ty:TypeId) (a v:Operand) (t:Tag (Op.store ty a v,K)):iQ P ib d (.store ty a v) ρ h K t=stF (fE P ty) (ρ a) (ρ v) h (λh'=>K .any h') ():=by rw[eE rfl];rfl
@[go_sem] theorem bMN (ty:TypeId) (t:Tag (Op.alloc ty,K)):iQ P ib d (.alloc ty) ρ h K t=alF (fE P ty) h K ():=by rw[eE rfl];rfl
@[go_sem] theorem bMO (ty:TypeId) (l c:Operand) (t:Tag (Op.makeSlice ty l c,K)):iQ P ib d (.makeSlice ty l c) ρ h K t=mkF (kA P ty) (ρ l) (ρ c) h K ():=by rw[eE rfl];rfl
@[go_sem] theorem bMP (ty:TypeId) (x:Operand) (lo hi:Option Operand) (t:Tag (Op.slice ty x lo hi none,K)):iQ P ib d (.slice ty x lo hi none) ρ h K t=slD P ty (ρ x) (lo.map ρ) (hi.map ρ) (λv=>K v h) ():=by rw[eE rfl];rfl
@[go_sem] theorem bMQ (ty:TypeId) (x:Operand) (lo hi:Option Operand) (t:Tag (Op.slice ty x lo hi none,L)):stepG P ib d (.slice ty x lo hi none) ρ L t=slF P ty (ρ x) (lo.map ρ) (hi.map ρ) L ():=by rw[fC rfl];rfl
@[go_sem] theorem bJ1 (ty:TypeId) (x:Operand) (lo:Option Operand) (hi mx:Operand) (t:Tag (Op.slice ty x lo (some hi) (some mx),K)):iQ P ib d (.slice ty x lo (some hi) (some mx)) ρ h K t=a2D P ty (ρ x) (lo.map ρ) (ρ hi) (ρ mx) (λv=>K v h) ():=by rw[eE rfl];rfl
@[go_sem] theorem bJ2 (ty:TypeId) (x:Operand) (lo:Option Operand) (hi mx:Operand) (t:Tag (Op.slice ty x lo (some hi) (some mx),L)):stepG P ib d (.slice ty x lo (some hi) (some mx)) ρ L t=a2D P ty (ρ x) (lo.map ρ) (ρ hi) (ρ mx) L ():=by rw[fC rfl];rfl
@[go_sem] theorem bMR (cr pr:List (Nat×Nat)) (i:Nat) (ty:TypeId) (a:Operand) (M:List (Nat×Nat)->aC->Heap->Prop) (t:Tag (Op.load ty a,M)):aDQ P ib h cr pr i d (.load ty a) ρ M t=rdF cr i pr (fE P ty) (ρ a) h M ():=by
 unfold aDQ aNE rdF;simp only[fV,if_true]
 cases ρ a <;> rfl
@[go_sem] theorem bJ3 (cr pr:List (Nat×Nat)) (i:Nat) (op:Op) (M:List (Nat×Nat)->aC->Heap->Prop) (t:Tag (op,M)) (hop:fV op=false):aDQ P ib h cr pr i d op ρ M t=iQ P ib d op ρ h (λv h'=>a2E (aF2 cr i pr h h') (M pr v h') ()) ():=by
 unfold aDQ;rw[hop];rfl
@[go_sem] theorem bMS (x:Operand) (i:Nat) (t:Tag (Op.extract x i,K)):iQ P ib d (.extract x i) ρ h K t=exF (ρ x) i (λv=>K v h) ():=by rw[eE rfl];rfl
@[go_sem] theorem bMT (x:Operand) (i:Nat) (t:Tag (Op.extract x i,L)):stepG P ib d (.extract x i) ρ L t=exF (ρ x) i L ():=by rw[fC rfl];rfl
@[go_sem] theorem bMU (x:Operand) (t:Tag (Op.nilCheck x,K)):iQ P ib d (.nilCheck x) ρ h K t=ncF (ρ x) (λv=>K v h) ():=by rw[eE rfl];rfl
@[go_sem] theorem bMV (x:Operand) (t:Tag (Op.nilCheck x,L)):stepG P ib d (.nilCheck x) ρ L t=ncF (ρ x) L ():=by rw[fC rfl];rfl
@[go_sem] theorem bMW (f:Fn) (fs cs:Array Operand) (t:Tag (Op.makeFunc f fs cs,K)):iQ P ib d (.makeFunc f fs cs) ρ h K t=K (.fn f (fs.toList.map ρ) (cs.toList.map ρ)) h:=by rw[eE rfl];rfl
@[go_sem] theorem bMX (f:Fn) (fs cs:Array Operand) (t:Tag (Op.makeFunc f fs cs,L)):stepG P ib d (.makeFunc f fs cs) ρ L t=L (.fn f (fs.toList.map ρ) (cs.toList.map ρ)):=by rw[fC rfl];rfl
@[go_sem] theorem bMY (ty:TypeId) (ps:Array (Nat×Operand)) (t:Tag (Op.build ty ps,K)):iQ P ib d (.build ty ps) ρ h K t=buF P (fE P ty) (ps.toList.map λp=>(p.1,ρ p.2)) (λv=>K v h) ():=by rw[eE rfl];rfl
@[go_sem] theorem bMZ (ty:TypeId) (ps:Array (Nat×Operand)) (t:Tag (Op.build ty ps,L)):stepG P ib d (.build ty ps) ρ L t=buF P (fE P ty) (ps.toList.map λp=>(p.1,ρ p.2)) L ():=by rw[fC rfl];rfl
@[go_sem] theorem bHX (f:Operand) (as:Array Operand) (ats:Array TypeId) (t:Tag (Op.call ⟨.value f,as,ats⟩,K)):iQ P ib d (.call ⟨.value f,as,ats⟩) ρ h K t=a56 P (ρ f) (as.toList.map ρ) h K ():=by rw[eE rfl];rfl
@[go_sem] theorem bHY (f:Operand) (as:Array Operand) (ats:Array TypeId) (t:Tag (Op.call ⟨.value f,as,ats⟩,L)):stepG P ib d (.call ⟨.value f,as,ats⟩) ρ L t=a57 P (ρ f) (as.toList.map ρ) L ():=by rw[fC rfl];rfl
end
section
variable (P:Program) (ib:List Nat) (d:Option Tmp) (ρ:Operand->aC) (h:Heap) (K:aC->Heap->Prop) (L:aC->Prop)
def ldG (r:Option j6) (a:aC) (K:aC->Prop) (_:Tag K):Prop:=match a with
  | .ip sz es i off=>iL r (.ip sz es i off) (λ_=>none) K
  | _=>False
@[go_sem] theorem bM0 (ty:TypeId) (a:Operand) (t:Tag (Op.load ty a,L)):stepG P ib d (.load ty a) ρ L t=ldG (fE P ty) (ρ a) L ():=by
 rw[fC rfl];simp only[aDO,ldG];cases ρ a <;> rfl
@[go_sem] theorem bJ4 (x:Operand) (ty:TypeId) (t:Tag (Op.call ⟨.builtin .len,#[x],#[ty]⟩,K)):iQ P ib d (.call ⟨.builtin .len,#[x],#[ty]⟩) ρ h K t=aXZ P (wJ P ty) (ρ x) (λv=>K v h) ():=by rw[eE rfl];rfl
@[go_sem] theorem bJ5 (x:Operand) (ty:TypeId) (t:Tag (Op.call ⟨.builtin .len,#[x],#[ty]⟩,L)):stepG P ib d (.call ⟨.builtin .len,#[x],#[ty]⟩) ρ L t=aX0 P (wJ P ty) (ρ x) L ():=by rw[fC rfl];rfl
def a2F (x y:aC) (K:aC->Prop) (_:Tag K):Prop:=match x,y with
   | .int k a,.int k' b=>k'=k/\K (.int k (max a b))
   | _,_=>False
@[go_sem] theorem bDY (k k':IntKind) (a b:Int) (t:Tag L):a2F (.int k a) (.int k' b) L t=(k'=k/\L (.int k (max a b))):=rfl
theorem aSP (x y:aC) (K:aC->Prop):(match x,y with
   | .int k a,.int _ b=>(match y with | .int k' _=>k'=k|_=>False)/\K (.int k (max a b))
   | _,_=>False)=a2F x y K ():=by cases x <;> cases y <;> rfl
@[go_sem] theorem bJ6 (x y:Operand) (ats:Array TypeId) (t:Tag (Op.call ⟨.builtin .max,#[x,y],ats⟩,K)):iQ P ib d (.call ⟨.builtin .max,#[x,y],ats⟩) ρ h K t=a2F (ρ x) (ρ y) (λv=>K v h) ():=by
 rw[eE rfl,←aSP];rfl
@[go_sem] theorem bJ7 (x y:Operand) (ats:Array TypeId) (t:Tag (Op.call ⟨.builtin .max,#[x,y],ats⟩,L)):stepG P ib d (.call ⟨.builtin .max,#[x,y],ats⟩) ρ L t=a2F (ρ x) (ρ y) L ():=by
 rw[fC rfl,←aSP];rfl
def apF (P:Program) (re:Option j6) (t1:Option TypeId) (x y:aC) (h:Heap) (K:aC->Heap->Prop) (_:Tag K):Prop:=vD P re t1 x y h K
def aA9 (ib:List Nat) (d:Option Tmp):Bool:=match d with|some d=>ib.contains d|none=>false
@[go_sem] theorem a8H (k:Nat):aA9 ib (some k)=ib.contains k:=rfl
def apI (i:Bool) (P:Program) (re:Option j6) (t1:Option TypeId) (x y:aC) (h:Heap) (K:aC->Heap->Prop) (_:Tag K):Prop:=if i then apF P re t1 x y h (aSJ K) ()else apF P re t1 x y h K ()
@[go_sem] theorem bJ8 (x y:Operand) (a b:TypeId) (t:Tag (Op.call ⟨.builtin .append,#[x,y],#[a,b]⟩,K)):iQ P ib d (.call ⟨.builtin .append,#[x,y],#[a,b]⟩) ρ h K t=apI (aA9 ib d) P (kA P a) (some b) (ρ x) (ρ y) h K ():=by
 unfold iQ rZ apI aA9
 cases d with
 |none=>rfl
 |some d=>simp only;split <;> rfl
@[go_sem] theorem bM1 (re:Option j6) (t1:Option TypeId) (x y:aC) (t:Tag K):apI true P re t1 x y h K t=apF P re t1 x y h (aSJ K) ():=rfl
@[go_sem] theorem bM2 (re:Option j6) (t1:Option TypeId) (x y:aC) (t:Tag K):apI false P re t1 x y h K t=apF P re t1 x y h K ():=rfl
def aX1 (i r:Bool) (ty:TypeId) (x:aC) (h:Heap) (K:aC->Heap->Prop) (_:Tag K):Prop:=if i then aFT x (λv=>K v h)else if r then aSI ty x h K else aSH x h K
@[go_sem] theorem bJ9 (ty:TypeId) (x:Operand) (t:Tag (Op.box ty x,K)):iQ P ib d (.box ty x) ρ h K t=aX1 (aA9 ib d) (a7O ty) ty (ρ x) h K ():=by
 unfold iQ rZ aX1 aA9
 cases d with
 |none=>rfl
 |some d=>simp only;split <;> rfl
@[go_sem] theorem bH1 (ty:TypeId):a7O ty=(match aXC with|none=>false|some r=>decide (ty=r)):=rfl
attribute [go_sem] aXC
@[go_sem] theorem bKA (r:Bool) (ty:TypeId) (x:aC) (t:Tag K):aX1 true r ty x h K t=(x.cells.all aC.flat=true/\K (.ip x.cells.length [x.cells] 0 0) h):=rfl
@[go_sem] theorem bKB (ty:TypeId) (x:aC) (t:Tag K):aX1 false true ty x h K t=(x.cells=[.gV,.aW]/\∀ n,h n=none->K (.op n 2 0 0) (aR h n (.raw ty #[.pointer none,.slice none 0 0]))):=rfl
@[go_sem] theorem bKC (ty:TypeId) (x:aC) (t:Tag K):aX1 false false ty x h K t=(x.cells.all aC.flat=true/\∀ n,h n=none->K (.op n x.cells.length 0 0) (aR h n (.row x.cells.length [x.cells.map .v]))):=rfl
def bsF (i:Bool) (re:Option j6) (len:Nat) (ps:List (Nat×aC)) (h:Heap) (K:aC->Heap->Prop) (_:Tag K):Prop :=
 if i then rW re len ps (λsz es=>K (.sl sz es true) h)else rW re len ps λsz es=>∀ n,h n=none->K (.os n sz 0 len) (aR h n (.row sz (es.map (List.map .v))))
def bsG (i:Bool) (re:Option j6) (len:Nat) (ps:List (Nat×aC)) (K:aC->Prop) (_:Tag K):Prop :=
 if i then rW re len ps (λsz es=>K (.sl sz es true))else False
@[go_sem] theorem bM3 (ty:TypeId) (len:Nat) (ps:Array (Nat×Operand)) (t:Tag (Op.buildSlice ty len ps,K)):iQ P ib d (.buildSlice ty len ps) ρ h K t=bsF (aA9 ib d) (kA P ty) len (ps.toList.map λp=>(p.1,ρ p.2)) h K ():=by
 unfold iQ rZ bsF aA9
 cases d with
 |none=>rfl
 |some d=>simp only;split <;> rfl
@[go_sem] theorem bM4 (ty:TypeId) (len:Nat) (ps:Array (Nat×Operand)) (t:Tag (Op.buildSlice ty len ps,L)):stepG P ib d (.buildSlice ty len ps) ρ L t=bsG (aA9 ib d) (kA P ty) len (ps.toList.map λp=>(p.1,ρ p.2)) L ():=by
 unfold stepG aCM bsG aA9
 cases d with
 |none=>rfl
 |some d=>simp only;split <;> rfl
@[go_sem] theorem bM5 (re:j6) (len:Nat) (ps:List (Nat×aC)) (t:Tag K):bsF true (some re) len ps h K t=(re.zero.length=re.sz/\0<re.sz/\re.zero.all aC.flat=true/\len*re.sz<=16777216/\pJ len re.sz ps=true/\K (.sl re.sz (rU (List.replicate len re.zero) ps) true) h):=rfl
@[go_sem] theorem bM6 (re:j6) (len:Nat) (ps:List (Nat×aC)) (t:Tag L):bsG true (some re) len ps L t=(re.zero.length=re.sz/\0<re.sz/\re.zero.all aC.flat=true/\len*re.sz<=16777216/\pJ len re.sz ps=true/\L (.sl re.sz (rU (List.replicate len re.zero) ps) true)):=rfl
@[go_sem] theorem bM7 (re:j6) (len:Nat) (ps:List (Nat×aC)) (t:Tag K):bsF false (some re) len ps h K t=(re.zero.length=re.sz/\0<re.sz/\re.zero.all aC.flat=true/\len*re.sz<=16777216/\pJ len re.sz ps=true/\∀ n,h n=none->K (.os n re.sz 0 len) (aR h n (.row re.sz ((rU (List.replicate len re.zero) ps).map (List.map .v))))):=rfl
@[go_sem] theorem bDZ (g:FuncId) (first cap args:List aC) (t:Tag K):a56 P (.fn (.func g) first cap) args h K t=aG P g (first++args++cap) h K ():=rfl
@[go_sem] theorem bD0 (g:FuncId) (first cap args:List aC) (t:Tag L):a57 P (.fn (.func g) first cap) args L t=aD P g (first++args++cap) L ():=rfl
@[go_sem] theorem bD1 (ty:TypeId) (k k':IntKind) (a b:Int) (t:Tag L):jK P .add ty (.int k a) (.int k' b) L t=eS (lI .add (.int k a) (.int k' b)) L ():=by simp only[jK,e7,eS];cases lI _ _ _ <;> rfl
@[go_sem] theorem bD2 (ty:TypeId) (k k':IntKind) (a b:Int) (t:Tag L):jK P .sub ty (.int k a) (.int k' b) L t=eS (lI .sub (.int k a) (.int k' b)) L ():=by simp only[jK,e7,eS];cases lI _ _ _ <;> rfl
@[go_sem] theorem bD3 (ty:TypeId) (k k':IntKind) (a b:Int) (t:Tag L):jK P .mul ty (.int k a) (.int k' b) L t=eS (lI .mul (.int k a) (.int k' b)) L ():=by simp only[jK,e7,eS];cases lI _ _ _ <;> rfl
@[go_sem] theorem bD4 (ty:TypeId) (k k':IntKind) (a b:Int) (t:Tag L):jK P .and ty (.int k a) (.int k' b) L t=eS (lI .and (.int k a) (.int k' b)) L ():=by simp only[jK,e7,eS];cases lI _ _ _ <;> rfl
@[go_sem] theorem bH3 (ty:TypeId) (k k':IntKind) (a b:Int) (t:Tag L):jK P .or ty (.int k a) (.int k' b) L t=eS (lI .or (.int k a) (.int k' b)) L ():=by simp only[jK,e7,eS];cases lI _ _ _ <;> rfl
@[go_sem] theorem bD5 (ty:TypeId) (k k':IntKind) (a b:Int) (t:Tag L):jK P .xor ty (.int k a) (.int k' b) L t=eS (lI .xor (.int k a) (.int k' b)) L ():=by simp only[jK,e7,eS];cases lI _ _ _ <;> rfl
@[go_sem] theorem a58 (ty:TypeId) (k k':IntKind) (a b:Int) (t:Tag L):jK P .andNot ty (.int k a) (.int k' b) L t=eS (lI .andNot (.int k a) (.int k' b)) L ():=by simp only[jK,e7,eS];cases lI _ _ _ <;> rfl
@[go_sem] theorem bD6 (ty:TypeId) (k k':IntKind) (a b:Int) (t:Tag L):jK P .eql ty (.int k a) (.int k' b) L t=eS (lI .eql (.int k a) (.int k' b)) L ():=by simp only[jK,e7,eS];cases lI _ _ _ <;> rfl
@[go_sem] theorem bD7 (ty:TypeId) (k k':IntKind) (a b:Int) (t:Tag L):jK P .neq ty (.int k a) (.int k' b) L t=eS (lI .neq (.int k a) (.int k' b)) L ():=by simp only[jK,e7,eS];cases lI _ _ _ <;> rfl
@[go_sem] theorem bD8 (ty:TypeId) (k k':IntKind) (a b:Int) (t:Tag L):jK P .lss ty (.int k a) (.int k' b) L t=eS (lI .lss (.int k a) (.int k' b)) L ():=by simp only[jK,e7,eS];cases lI _ _ _ <;> rfl
@[go_sem] theorem bD9 (ty:TypeId) (k k':IntKind) (a b:Int) (t:Tag L):jK P .leq ty (.int k a) (.int k' b) L t=eS (lI .leq (.int k a) (.int k' b)) L ():=by simp only[jK,e7,eS];cases lI _ _ _ <;> rfl
@[go_sem] theorem bEA (ty:TypeId) (k k':IntKind) (a b:Int) (t:Tag L):jK P .gtr ty (.int k a) (.int k' b) L t=eS (lI .gtr (.int k a) (.int k' b)) L ():=by simp only[jK,e7,eS];cases lI _ _ _ <;> rfl
@[go_sem] theorem bEB (ty:TypeId) (k k':IntKind) (a b:Int) (t:Tag L):jK P .geq ty (.int k a) (.int k' b) L t=eS (lI .geq (.int k a) (.int k' b)) L ():=by simp only[jK,e7,eS];cases lI _ _ _ <;> rfl
@[go_sem] theorem bEC (ty:TypeId) (k k':IntKind) (a b:Int) (t:Tag L):jK P .quo ty (.int k a) (.int k' b) L t=(k=k'/\b≠0/\L (.int k (k.wrap (a.tdiv b)))):=rfl
@[go_sem] theorem bED (ty:TypeId) (k k':IntKind) (a b:Int) (t:Tag L):jK P .rem ty (.int k a) (.int k' b) L t=(k=k'/\b≠0/\L (.int k (a.tmod b))):=rfl
@[go_sem] theorem bEE (ty:TypeId) (k k':IntKind) (a b:Int) (t:Tag L):jK P .shl ty (.int k a) (.int k' b) L t=(0<=b/\L (.int k (k.wrap (a*2 ^ (min b.toNat k.bits))))):=rfl
@[go_sem] theorem bEF (ty:TypeId) (k k':IntKind) (a b:Int) (t:Tag L):jK P .shr ty (.int k a) (.int k' b) L t=(0<=b/\L (.int k (a.fdiv (2 ^ (min b.toNat k.bits))))):=rfl
@[go_sem] theorem bB6 (ty:TypeId) (a b:List UInt8) (t:Tag L):jK P .add ty (.str a) (.str b) L t=(a.length+b.length<=9223372036854775807/\L (.str (a++b))):=rfl
@[go_sem] theorem bB7 (ty:TypeId) (a b:List UInt8) (t:Tag L):jK P .eql ty (.str a) (.str b) L t=L (.bool (decide (a=b))):=rfl
@[go_sem] theorem bB8 (ty:TypeId) (a b:List UInt8) (t:Tag L):jK P .neq ty (.str a) (.str b) L t=L (.bool (!decide (a=b))):=rfl
@[go_sem] theorem bB9 (ty:TypeId) (a b:List UInt8) (t:Tag L):jK P .lss ty (.str a) (.str b) L t=L (.bool (Op.bytesLess a b)):=rfl
@[go_sem] theorem bCA (ty:TypeId) (a b:Bool) (t:Tag L):jK P .eql ty (.bool a) (.bool b) L t=(wJ P ty=some .bool/\L (.bool (a == b))):=rfl
@[go_sem] theorem bCB (ty:TypeId) (a b:Bool) (t:Tag L):jK P .neq ty (.bool a) (.bool b) L t=(wJ P ty=some .bool/\L (.bool (a != b))):=rfl
@[go_sem] theorem a01 (v:Value):rD (.const v)=true:=rfl
@[go_sem] theorem a6A (v:Tmp):rD (.tmp v)=false:=rfl
@[go_sem] theorem aX2 (v:Nat):rD (.global v)=false:=rfl
@[go_sem] theorem a2G (v:FuncId):rD (.func v)=false:=rfl
def vH (xs ys:List aC) (c n:Bool) (L:aC->Prop) (_:Tag L):Prop:=match xs,ys with
 | [],[]=>L (.bool (c != n))
 | .int k a::xs,.int k' b::ys=>k=k'/\vH xs ys (c && decide (a=b)) n L ()
 | .bool a::xs,.bool b::ys=>vH xs ys (c && (a == b)) n L ()
 | _,_=>False
@[go_sem] theorem bEG (c:Bool) (t:Tag L):vH [] [] c false L t=L (.bool c):=by simp[vH]
@[go_sem] theorem bCC (c:Bool) (t:Tag L):vH [] [] c true L t=L (.bool !c):=by simp[vH]
@[go_sem] theorem aX3 (k k':IntKind) (a b:Int) (xs ys:List aC) (c n:Bool) (t:Tag L):vH (.int k a::xs) (.int k' b::ys) c n L t=(k=k'/\vH xs ys (c && decide (a=b)) n L ()):=by rw[vH]
@[go_sem] theorem aU8 (a b:Bool) (xs ys:List aC) (c n:Bool) (t:Tag L):vH (.bool a::xs) (.bool b::ys) c n L t=vH xs ys (c && (a == b)) n L ():=by rw[vH]
theorem aEL (n:Bool):∀ (xs ys:List aC) (c:Bool),(match nW xs ys with|some b=>L (.bool ((c && b) != n))|none=>False)=vH xs ys c n L ()
 | [],[],c=>by rw[vH,nW];simp only[Bool.and_true]
 | [],_::_,c=>by simp[vH,nW]
 |x::_,[],c=>by cases x <;> simp[vH,nW]
 |x::xs,y::ys,c=>by
  cases x <;> cases y
  case int.int k a k' b =>
   rw[aX3,←aEL n xs ys,nW]
   by_cases h:k=k'
   ·rw[if_pos h]
    cases nW xs ys with
    |none=>simp
    |some r=>simp[h,Bool.and_assoc]
   ·rw[if_neg h];simp[h]
  case bool.bool a b =>
   rw[aU8,←aEL n xs ys,nW]
   cases nW xs ys with
   |none=>simp
   |some r=>simp[Bool.and_assoc]
  all_goals first|rfl|simp[vH,nW]
@[go_sem] theorem bCD (ty:TypeId) (xs ys:List aC) (t:Tag L):jK P .eql ty (.agg xs) (.agg ys) L t=(aM4 P ty=some (xs.map isB)/\vH xs ys true false L ()):=by
 rw[←aEL]
 show(_/\_)=_
 cases nW xs ys <;> simp
@[go_sem] theorem bCE (ty:TypeId) (xs ys:List aC) (t:Tag L):jK P .neq ty (.agg xs) (.agg ys) L t=(aM4 P ty=some (xs.map isB)/\vH xs ys true true L ()):=by
 rw[←aEL]
 show(_/\_)=_
 cases nW xs ys <;> simp
@[go_sem] theorem bEH (op:BinOp) (ty:TypeId) (c:Bool) (xs:List aC) (y:aC) (t:Tag L):aD8 P op ty c (.agg xs) y L t=jK P op ty (.agg xs) y L ():=by cases c <;> rfl
@[go_sem] theorem bEI (op:BinOp) (ty:TypeId) (xs:List aC) (y:aC) (t:Tag L):aCQ P op ty (.agg xs) y L t=jK P op ty (.agg xs) y L ():=rfl
attribute [go_sem] isB
@[go_sem] theorem bEJ (op:BinOp) (ty:TypeId) (c:Bool) (k:IntKind) (a:Int) (y:aC) (t:Tag L):aD8 P op ty c (.int k a) y L t=jK P op ty (.int k a) y L ():=by cases c <;> rfl
@[go_sem] theorem bCF (op:BinOp) (ty:TypeId) (c:Bool) (a:Bool) (y:aC) (t:Tag L):aD8 P op ty c (.bool a) y L t=jK P op ty (.bool a) y L ():=by cases c <;> rfl
@[go_sem] theorem bEK (op:BinOp) (ty:TypeId) (c:Bool) (a:List UInt8) (y:aC) (t:Tag L):aD8 P op ty c (.str a) y L t=jK P op ty (.str a) y L ():=by cases c <;> rfl
@[go_sem] theorem bH4 (op:BinOp) (ty:TypeId) (c:Bool) (sz:Nat) (es:List (List aC)) (b:Bool) (y:aC) (t:Tag L):aD8 P op ty c (.sl sz es b) y L t=aCQ P op ty (.sl sz es b) y L ():=by cases c <;> rfl
@[go_sem] theorem bEL (ty ti:TypeId) (v:aC) (t:Tag L):aD8 P .eql ty true (.iface ti v) .gX L t=(uE P ty=true/\L (.bool false)):=rfl
@[go_sem] theorem bEM (ty:TypeId) (t:Tag L):aD8 P .eql ty true .gX .gX L t=(uE P ty=true/\L (.bool true)):=rfl
@[go_sem] theorem bCG (ty ti:TypeId) (v:aC) (t:Tag L):aD8 P .neq ty true (.iface ti v) .gX L t=(uE P ty=true/\L (.bool true)):=rfl
@[go_sem] theorem bCH (ty:TypeId) (t:Tag L):aD8 P .neq ty true .gX .gX L t=(uE P ty=true/\L (.bool false)):=rfl
@[go_sem] theorem bEN (op:BinOp) (ty:TypeId) (k:IntKind) (a:Int) (y:aC) (t:Tag L):aCQ P op ty (.int k a) y L t=jK P op ty (.int k a) y L ():=rfl
@[go_sem] theorem bCI (op:BinOp) (ty:TypeId) (a:Bool) (y:aC) (t:Tag L):aCQ P op ty (.bool a) y L t=jK P op ty (.bool a) y L ():=rfl
@[go_sem] theorem bEO (op:BinOp) (ty:TypeId) (a:List UInt8) (y:aC) (t:Tag L):aCQ P op ty (.str a) y L t=jK P op ty (.str a) y L ():=rfl
@[go_sem] theorem bEP (ty:TypeId) (sz:Nat) (es:List (List aC)) (b:Bool) (t:Tag L):aCQ P .eql ty (.sl sz es b) .aW L t=((match wJ P ty with|some (.slice _)=>True|_=>False)/\(es=[]->L (.bool true))/\L (.bool false)):=rfl
@[go_sem] theorem bCJ (ty:TypeId) (sz:Nat) (es:List (List aC)) (b:Bool) (t:Tag L):aCQ P .neq ty (.sl sz es b) .aW L t=((match wJ P ty with|some (.slice _)=>True|_=>False)/\(es=[]->L (.bool false))/\L (.bool true)):=rfl
@[go_sem] theorem bH5 (op:BinOp) (ty:TypeId) (c:Bool) (m sz i len:Nat) (y:aC) (t:Tag L):aD8 P op ty c (.os m sz i len) y L t=aCQ P op ty (.os m sz i len) y L ():=by cases c <;> rfl
@[go_sem] theorem bEQ (op:BinOp) (ty:TypeId) (c:Bool) (y:aC) (t:Tag L):aD8 P op ty c .aW y L t=aCQ P op ty .aW y L ():=by cases c <;> rfl
@[go_sem] theorem bH6 (ty:TypeId) (m sz i len:Nat) (t:Tag L):aCQ P .eql ty (.os m sz i len) .aW L t=((match wJ P ty with|some (.slice _)=>True|_=>False)/\(len=0->L (.bool true))/\L (.bool false)):=rfl
@[go_sem] theorem bER (ty:TypeId) (m sz i len:Nat) (t:Tag L):aCQ P .neq ty (.os m sz i len) .aW L t=((match wJ P ty with|some (.slice _)=>True|_=>False)/\(len=0->L (.bool false))/\L (.bool true)):=rfl
@[go_sem] theorem bH7 (ty:TypeId) (t:Tag L):aCQ P .eql ty .aW .aW L t=((match wJ P ty with|some (.slice _)=>True|_=>False)/\L (.bool true)):=rfl
@[go_sem] theorem bES (ty:TypeId) (t:Tag L):aCQ P .neq ty .aW .aW L t=((match wJ P ty with|some (.slice _)=>True|_=>False)/\L (.bool false)):=rfl
@[go_sem] theorem bH8 (b:Bool) (t:Tag L):unF .not (.bool b) L t=L (.bool (!b)):=rfl
@[go_sem] theorem bH9 (k:IntKind) (n:Int) (t:Tag L):unF .neg (.int k n) L t=L (.int k (k.wrap (0-n))):=rfl
@[go_sem] theorem bIA (s:TyD) (k k':IntKind) (n:Int) (t:Tag L):cvF P (some s) (some (.int k')) (.int k n) L t=L (.int k' (k'.wrap n)):=by simp[cvF]
@[go_sem] theorem bCK (et:TypeId) (es:List (List aC)) (b:Bool) (t:Tag L):cvF P (some (.slice et)) (some .str) (.sl 1 es b) L t=(wJ P et=some (.int .u8)/\eS (bytesOf es) (λbs=>L (.str bs)) ()):=by
 simp only[cvF,eS];cases bytesOf es <;> rfl
@[go_sem] theorem bKE (cr pr:List (Nat×Nat)) (i:Nat) (r:Option j6) (n sz j off:Nat) (M:List (Nat×Nat)->aC->Heap->Prop) (t:Tag M):rdF cr i pr r (.op n sz j off) h M t=ldF r (.op n sz j off) h (λv=>M (aNG cr i (some n) pr) v h) ():=rfl
@[go_sem] theorem bKF (cr pr:List (Nat×Nat)) (i:Nat) (r:Option j6) (sz j off:Nat) (es:List (List aC)) (M:List (Nat×Nat)->aC->Heap->Prop) (t:Tag M):rdF cr i pr r (.ip sz es j off) h M t=ldF r (.ip sz es j off) h (λv=>M (aNG cr i none pr) v h) ():=rfl
attribute [go_sem] aNG aXQ wS aF2 bytesOf
@[go_sem] theorem a6B (x:Operand):fV (.move x)=false:=rfl
@[go_sem] theorem a02 (x:Operand):fV (.assign x)=false:=rfl
@[go_sem] theorem a2H (x:TypeId):fV (.alloc x)=false:=rfl
@[go_sem] theorem a8I (x:TypeId) (v:Operand):fV (.box x v)=false:=rfl
@[go_sem] theorem bCL (x:TypeId) (l:Nat) (ps:Array (Nat×Operand)):fV (.buildSlice x l ps)=false:=rfl
@[go_sem] theorem a2I (x:TypeId) (ps:Array (Nat×Operand)):fV (.build x ps)=false:=rfl
@[go_sem] theorem a2J (x:TypeId) (a v:Operand):fV (.store x a v)=false:=rfl
@[go_sem] theorem bCM (x:TypeId) (a v:Operand):fV (.makeSlice x a v)=false:=rfl
@[go_sem] theorem a6C (c:Call):fV (.call c)=false:=rfl
@[go_sem] theorem bCN (x:TypeId) (r:Option Operand):fV (.makeMap x r)=false:=rfl
@[go_sem] theorem a03 (x:TypeId) (a b:Operand) (c:Bool):fV (.lookup x a b c)=false:=rfl
@[go_sem] theorem bCO (x:TypeId) (a b c:Operand):fV (.mapUpdate x a b c)=false:=rfl
@[go_sem] theorem bCP (x:TypeId) (a b:Operand):fV (.mapEntry x a b)=false:=rfl
@[go_sem] theorem bCQ (x:TypeId) (a b c:Operand):fV (.entryStore x a b c)=false:=rfl
@[go_sem] theorem a8J (x:TypeId) (a b c:Operand):fV (.insert x a b c)=false:=rfl
@[go_sem] theorem a2K (x:TypeId) (a:Operand):fV (.range x a)=false:=rfl
@[go_sem] theorem a6D (a:Operand) (b:Bool):fV (.next a b)=false:=rfl
@[go_sem] theorem a2L (a:Operand):fV (.entry a)=false:=rfl
@[go_sem] theorem a2M (x:TypeId) (a:Operand) (b c d:Option Operand):fV (.slice x a b c d)=false:=rfl
@[go_sem] theorem bCR (x:TypeId) (a b:Operand):fV (.indexAddr x a b)=false:=rfl
@[go_sem] theorem bCS (x:TypeId) (a:Operand) (b:Nat):fV (.fieldAddr x a b)=false:=rfl
@[go_sem] theorem bCT (a:Operand) (b:Nat):fV (.extract a b)=false:=rfl
@[go_sem] theorem bCU (f:Fn) (a b:Array Operand):fV (.makeFunc f a b)=false:=rfl
@[go_sem] theorem a6E (a b:TypeId) (x:Operand):fV (.convert a b x)=false:=rfl
@[go_sem] theorem a8K (o:BinOp) (a b:TypeId) (x y:Operand):fV (.binOp o a x y b)=false:=rfl
@[go_sem] theorem a6F (x y z:Operand):fV (.pick x y z)=false:=rfl
@[go_sem] theorem bCV (x:Operand):fV (.nilCheck x)=false:=rfl
def aX4 (fs:List (Nat×TypeId×Nat)) (f:Nat) (K:Nat->Prop) (_:Tag K):Prop:=match fs[f]? with|some (off,_,sz')=>sz'≠0/\K off|none=>False
@[go_sem] theorem bCW (off sz:Nat) (ty:TypeId) (fs:List (Nat×TypeId×Nat)) (M:Nat->Prop) (t:Tag M):aX4 ((off,ty,sz)::fs) 0 M t=(sz≠0/\M off):=rfl
@[go_sem] theorem bCX (x:Nat×TypeId×Nat) (fs:List (Nat×TypeId×Nat)) (n:Nat) (M:Nat->Prop) (t:Tag M):aX4 (x::fs) (n+1) M t=aX4 fs n M ():=rfl
@[go_sem] theorem bKG (fs:List (Nat×TypeId×Nat)) (f n sz i k:Nat) (t:Tag L):faF (some (.st fs)) f (.op n sz i k) L t=aX4 fs f (λoff=>L (.op n sz i (k+off))) ():=rfl
@[go_sem] theorem bKH (fs:List (Nat×TypeId×Nat)) (f sz i k:Nat) (es:List (List aC)) (t:Tag L):faF (some (.st fs)) f (.ip sz es i k) L t=aX4 fs f (λoff=>L (.ip sz es i (k+off))) ():=rfl
@[go_sem] theorem bKI (re:j6) (sz:Nat) (es:List (List aC)) (b:Bool) (k:IntKind) (n:Int) (t:Tag L):iaF (some re) (.sl sz es b) (.int k n) L t=(re.sz=sz/\0<=n/\n<es.length/\L (.ip sz es n.toNat 0)):=rfl
@[go_sem] theorem bKJ (re:j6) (m sz i0 len:Nat) (k:IntKind) (n:Int) (t:Tag L):iaF (some re) (.os m sz i0 len) (.int k n) L t=(re.sz=sz/\0<=n/\n<len/\L (.op m sz (i0+n.toNat) 0)):=rfl
@[go_sem] theorem bIB (s:List UInt8) (k:IntKind) (n:Int) (t:Tag L):ixF (some .str) (.str s) (.int k n) L t=(0<=n/\eS s[n.toNat]? (λc=>L (.int .u8 c.toNat)) ()):=by
 simp only[ixF,zO,eS];cases s[n.toNat]? <;> rfl
@[go_sem] theorem bKK (r:j6) (sz i off:Nat) (es:List (List aC)) (t:Tag L):ldF (some r) (.ip sz es i off) h L t=eS es[i]? (λe=>eS (ld r e off) L ()) ():=by
 simp only[ldF,iL,eS]
 cases es[i]? with
 |none=>rfl
 |some e=>simp only;cases ld r e off <;> rfl
@[go_sem] theorem bKL (r:j6) (sz i off:Nat) (es:List (List aC)) (t:Tag L):ldG (some r) (.ip sz es i off) L t=eS es[i]? (λe=>eS (ld r e off) L ()) ():=by
 simp only[ldG,iL,eS]
 cases es[i]? with
 |none=>rfl
 |some e=>simp only;cases ld r e off <;> rfl
def aP5 (o:Option bW) (K:Nat->List (List Cell)->Prop) (_:Tag K):Prop:=match o with|some (.row sz es)=>K sz es|_=>False
@[go_sem] theorem bET (sz:Nat) (es:List (List Cell)) (M:Nat->List (List Cell)->Prop) (t:Tag M):aP5 (some (.row sz es)) M t=M sz es:=rfl
@[go_sem] theorem bKM (r:j6) (n sz i off:Nat) (t:Tag L):ldF (some r) (.op n sz i off) h L t=aP5 (h n) (λsz' es=>sz'=sz/\eS es[i]? (λe=>eS (aDH r e off) L ()) ()) ():=by
 simp only[ldF,iL,aP5]
 cases h n with
 |none=>rfl
 |some o =>
  cases o with
  |row sz' es =>
   simp only[eS]
   cases es[i]? with
   |none=>rfl
   |some e=>simp only;cases aDH r e off <;> rfl
  | _=>rfl
@[go_sem] theorem bKN (r:j6) (n sz i off:Nat) (v:aC) (M:Heap->Prop) (t:Tag M):stF (some r) (.op n sz i off) v h M t=aP5 (h n) (λsz' es=>sz'=sz/\eS es[i]? (λe=>v.cells.all aC.flat=true/\v.cells.length=r.sz/\off+r.sz<=e.length/\M (aR h n (.row sz (es.set i (nF e off v.cells))))) ()) ():=by
 simp only[stF,aKE,aP5]
 cases h n with
 |none=>rfl
 |some o =>
  cases o with
  |row sz' es=>simp only[eS];cases es[i]? <;> rfl
  | _=>rfl
@[go_sem] theorem bKO (re:j6) (t1:Option TypeId) (n sz i len:Nat) (y:aC) (t:Tag K):apF P (some re) t1 (.os n sz i len) y h K t=(re.zero.length=re.sz/\0<re.sz/\w6 P t1=true/\re.sz=sz/\aP5 (h n) (λsz' es=>sz'=sz/\i+len<=es.length/\eS (sS h sz y) (λys=>(len+ys.length)*re.bytes<=140737488355328/\len+ys.length<=9223372036854775807 /\
  ∀ b,h b=none->K (.os b sz 0 (len+ys.length)) (aR (aR h n .gone) b (.row sz ((es.drop i).take len++ys.map (List.map .v))))) ()) ()):=by
 simp only[apF,vD,aP5]
 cases h n with
 |none=>rfl
 |some o =>
  cases o with
  |row sz' es=>simp only[eS];cases sS h sz y <;> rfl
  | _=>rfl
@[go_sem] theorem bKP (re:j6) (t1:Option TypeId) (sz:Nat) (es:List (List aC)) (tg:Bool) (y:aC) (t:Tag K):apF P (some re) t1 (.sl sz es tg) y h K t=(re.zero.length=re.sz/\0<re.sz/\w6 P t1=true/\eS (aA0 re.sz (.sl sz es tg)) (λolds=>eS (sS h re.sz y) (λys=>(ys=[]->K (.sl sz es tg) h)/\(ys≠[]->(olds.length+ys.length)*re.bytes<=140737488355328/\olds.length+ys.length<=9223372036854775807 /\
  ∀ n,h n=none->K (.os n re.sz 0 (olds.length+ys.length)) (aR h n (.row re.sz ((olds++ys).map (List.map .v)))))) ()) ()):=by
 simp only[apF,vD]
 cases hd:aA0 re.sz (.sl sz es tg)with
 |none=>rfl
 |some olds=>simp only[eS];cases sS h re.sz y <;> rfl
@[go_sem] theorem bIC (re:j6) (t1:Option TypeId) (y:aC) (t:Tag K):apF P (some re) t1 .aW y h K t=(re.zero.length=re.sz/\0<re.sz/\w6 P t1=true/\eS (sS h re.sz y) (λys=>(ys=[]->K .aW h)/\(ys≠[]->((([]:List (List aC)).length)+ys.length)*re.bytes<=140737488355328/\(([]:List (List aC)).length)+ys.length<=9223372036854775807 /\
  ∀ n,h n=none->K (.os n re.sz 0 ((([]:List (List aC)).length)+ys.length)) (aR h n (.row re.sz (([]++ys).map (List.map .v)))))) ()):=by
 simp only[apF,vD,aA0]
 cases sS h re.sz y <;> rfl
@[go_sem] theorem bEU (r:j6) (t:Tag K):alF (some r) h K t=(r.zero≠[]/\r.zero.all aC.flat=true/\∀ n,h n=none->K (.op n r.zero.length 0 0) (aR h n (.row r.zero.length [r.zero.map .v]))):=rfl
@[go_sem] theorem bID (re:j6) (k k':IntKind) (a b:Int) (t:Tag K):mkF (some re) (.int k a) (.int k' b) h K t=(re.zero.length=re.sz/\0<re.sz/\re.zero.all aC.flat=true/\0<=a/\a<=b/\b<=281474976710656/\re.bytes*b<=281474976710656 /\
    ∀ n,h n=none->K (.os n re.sz 0 a.toNat) (aR h n (.row re.sz ((List.replicate b.toNat re.zero).map (List.map .v))))):=rfl
@[go_sem] theorem bIE (et:TypeId) (sz:Nat) (es:List (List aC)) (b:Bool) (t:Tag L):aXZ P (some (.slice et)) (.sl sz es b) L t=(es.length<=9223372036854775807->L (.int .i64 es.length)):=rfl
@[go_sem] theorem bIF (et:TypeId) (m sz i n:Nat) (t:Tag L):aXZ P (some (.slice et)) (.os m sz i n) L t=(n<=9223372036854775807->L (.int .i64 n)):=rfl
@[go_sem] theorem bEV (et:TypeId) (t:Tag L):aXZ P (some (.slice et)) .aW L t=L (.int .i64 0):=rfl
@[go_sem] theorem bEW (s:List UInt8) (t:Tag L):aXZ P (some .str) (.str s) L t=(s.length<=9223372036854775807->L (.int .i64 s.length)):=rfl
@[go_sem] theorem bIG (et:TypeId) (sz:Nat) (es:List (List aC)) (b:Bool) (t:Tag L):aX0 P (some (.slice et)) (.sl sz es b) L t=L (.int .i64 es.length):=rfl
@[go_sem] theorem bIH (et:TypeId) (m sz i n:Nat) (t:Tag L):aX0 P (some (.slice et)) (.os m sz i n) L t=L (.int .i64 n):=rfl
@[go_sem] theorem bEX (et:TypeId) (t:Tag L):aX0 P (some (.slice et)) .aW L t=L (.int .i64 0):=rfl
@[go_sem] theorem bEY (s:List UInt8) (t:Tag L):aX0 P (some .str) (.str s) L t=L (.int .i64 s.length):=rfl
@[go_sem] theorem bII (cs:List aC) (i:Nat) (t:Tag L):exF (.eW cs) i L t=eS cs[i]? L ():=by
 simp only[exF,eS];cases cs[i]? <;> rfl
@[go_sem] theorem bKQ (n sz i k:Nat) (t:Tag L):ncF (.op n sz i k) L t=L (.op n sz i k):=rfl
@[go_sem] theorem bKR (sz i k:Nat) (es:List (List aC)) (t:Tag L):ncF (.ip sz es i k) L t=L (.ip sz es i k):=rfl
@[go_sem] theorem bEZ (r:j6) (ps:List (Nat×aC)) (t:Tag L):buF P (some r) ps L t=(xB P r.d=true/\r.zero≠[]/\vB (places P r.d) r.zero.length ps=true/\L (.agg (aFO (places P r.d) r.zero ps))):=rfl
@[go_sem] theorem bKS (ty:TypeId) (sz:Nat) (es:List (List aC)) (b:Bool) (lo hi:Option aC) (t:Tag L):slF P ty (.sl sz es b) lo hi L t=eS (kA P ty) (λre=>re.sz=sz/\eS (iK 0 lo) (λl=>eS (iK es.length hi) (λm=>0<=l/\l<=m/\m<=es.length/\L (.sl sz ((es.take m.toNat).drop l.toNat) (b && decide (m=es.length)))) ()) ()) ():=by
 simp only[slF,lE,eS]
 cases kA P ty with
 |none=>rfl
 |some re =>
  simp only
  cases iK 0 lo with
  |none=>rfl
  |some l=>simp only;cases iK es.length hi <;> rfl
@[go_sem] theorem bKT (ty:TypeId) (n sz i len:Nat) (lo hi:Option aC) (t:Tag L):slF P ty (.os n sz i len) lo hi L t=eS (kA P ty) (λre=>re.sz=sz/\eS (iK 0 lo) (λl=>eS (iK len hi) (λm=>0<=l/\l<m/\m<=len/\L (.os n sz (i+l.toNat) (m.toNat-l.toNat))) ()) ()) ():=by
 simp only[slF,lE,eS]
 cases kA P ty with
 |none=>rfl
 |some re =>
  simp only
  cases iK 0 lo with
  |none=>rfl
  |some l=>simp only;cases iK len hi <;> rfl
@[go_sem] theorem bIJ (ty:TypeId) (s:List UInt8) (lo hi:Option aC) (t:Tag L):slD P ty (.str s) lo hi L t=slF P ty (.str s) lo hi L ():=by cases hi <;> rfl
@[go_sem] theorem bKU (ty:TypeId) (sz:Nat) (es:List (List aC)) (b:Bool) (lo hi:Option aC) (t:Tag L):slD P ty (.sl sz es b) lo hi L t=slF P ty (.sl sz es b) lo hi L ():=by cases hi <;> rfl
@[go_sem] theorem bKV (ty:TypeId) (n sz i len:Nat) (lo:Option aC) (y:aC) (t:Tag L):slD P ty (.os n sz i len) lo (some y) L t=slF P ty (.os n sz i len) lo (some y) L ():=rfl
@[go_sem] theorem bIK (ty:TypeId) (n sz i len:Nat) (lo:Option aC) (t:Tag L):slD P ty (.os n sz i len) lo none L t=eS (kA P ty) (λre=>re.sz=sz/\eS (iK 0 lo) (λl=>0<=l/\l<=len/\(l<len->L (.os n sz (i+l.toNat) (len-l.toNat)))/\(l=len->L (.os n sz (i+len) 0)/\L (.sl sz [] true))) ()) ():=by
 simp only[slD,pK,eS]
 cases kA P ty with
 |none=>rfl
 |some re =>
  simp only
  cases iK 0 lo <;> rfl
@[go_sem] theorem bIL (ty:TypeId) (sz:Nat) (es:List (List aC)) (b:Bool) (lo:Option aC) (hi mx:aC) (t:Tag L):a2D P ty (.sl sz es b) lo hi mx L t=eS (kA P ty) (λre=>re.sz=sz/\eS (iK 0 lo) (λl=>eS (iK es.length (some hi)) (λm=>eS (iK 0 (some mx)) (λM=>0<=l/\l<=m/\m<=M/\M<=es.length/\L (.sl sz ((es.take m.toNat).drop l.toNat) (decide (M=m)))) ()) ()) ()) ():=by
 simp only[a2D,nK,eS]
 cases kA P ty with
 |none=>rfl
 |some re =>
  simp only
  cases iK 0 lo with
  |none=>rfl
  |some l =>
   simp only
   cases iK es.length (some hi)with
   |none=>rfl
   |some m=>simp only;cases iK 0 (some mx) <;> rfl
def aP6 (P:Program) (τ:bE) (h:Heap) (l:List ResultVar) (M:List aC->Prop) (_:Tag M):Prop:=aXN P τ h l M
@[go_sem] theorem bE0 (τ:bE) (M:List aC->Prop) (t:Tag M):aP6 P τ h [] M t=M []:=rfl
@[go_sem] theorem bE1 (τ:bE) (s:Tmp) (l:List ResultVar) (M:List aC->Prop) (t:Tag M):aP6 P τ h (.tmp s::l) M t=aP6 P τ h l (λvs=>M (cE τ s::vs)) ():=rfl
@[go_sem] theorem bCY (τ:bE) (a:Tmp) (ty:TypeId) (l:List ResultVar) (M:List aC->Prop) (t:Tag M):aP6 P τ h (.cell a ty::l) M t=ldF (fE P ty) (cE τ a) h (λv=>aP6 P τ h l (λvs=>M (v::vs)) ()) ():=rfl
def aNL (vs:List aC) (L:aC->Prop) (_:Tag L):Prop:=match vs with|[v]=>L v|vs=>L (.eW vs)
@[go_sem] theorem bCZ (t:Tag L):aNL [] L t=L (.eW []):=rfl
@[go_sem] theorem bC0 (v:aC) (t:Tag L):aNL [v] L t=L v:=rfl
@[go_sem] theorem bC1 (v w:aC) (vs:List aC) (t:Tag L):aNL (v::w::vs) L t=L (.eW (v::w::vs)):=rfl
end
def kG (P:Program) (rs:Array ResultVar) (K:aC->Heap->Prop) (_:Tag K):Exit->bE->Heap->Prop:=aA6 P rs K
section
variable (P:Program) (rs:Array ResultVar) (K:aC->Heap->Prop) (τ:bE) (h:Heap)
@[go_sem] theorem a2N (t:Tag K):kG P rs K t .normal τ h=aP6 P τ h rs.toList (λvs=>aNL vs (λv=>K v h) ()) ():=rfl
@[go_sem] theorem bC2 (t:Tag K):kG P rs K t .ret τ h=aP6 P τ h rs.toList (λvs=>aNL vs (λv=>K v h) ()) ():=rfl
@[go_sem] theorem a8L (i:Nat) (t:Tag K):kG P rs K t (.exit i) τ h=False:=rfl
end
theorem bKW {P:Program} {f:FuncId} {fn:Func} {c:Code} (N:Nat) (keep ib:List Nat) (mk:Marks) {args:List aC} {r:aC} (hmix:P.follows .mixedOrders=true) (hf:P.funcs[f]?=some fn) (hb:fn.body=some c)
  (hck:(eT P f && decide (fn.ntmps=N) && e8 N mk c)=true) (hl:args.length<=N)
  (hw:∀ h,lS P N keep ib mk c (λτ h'=>kG P fn.results (λr' h'=>r'=r/\h.le h') () .normal τ h') (kG P fn.results (λr' h'=>r'=r/\h.le h') ()) (nA 0 args) h ()):eX P f args r :=
 a18 N keep ib mk hmix hf hb hck hl hw
theorem bKX {P:Program} {f:FuncId} {fn:Func} {c:Code} (N:Nat) (keep ib:List Nat) (mk:Marks) {args:List aC} {r:aC} (hmix:P.follows .mixedOrders=true) (hf:P.funcs[f]?=some fn) (hb:fn.body=some c)
  (hck:(eT P f && decide (fn.ntmps=N) && e8 N mk c)=true) (hl:args.length<=N)
  (hw:∀ h,lS P N keep ib mk c (λτ h'=>kG P fn.results (λr' h'=>Shift r' h' r h) () .normal τ h') (kG P fn.results (λr' h'=>Shift r' h' r h) ()) (nA 0 args) h ()):eX P f args r :=
 aXY N keep ib mk hmix hf hb hck hl hw
theorem aNH {P:Program} {N:Nat} {keep ib:List Nat} {mk:Marks} {c:Code} {Q:Exit->bE->Heap->Prop} {τ:bE} {h:Heap} {t:Tag (Code.loop c,Q)} {α:Type} (hmix:P.follows .mixedOrders=true) (hc:e8 N mk c=true) (S:α->bE) (H:α->Heap) (side:α->Prop) (μ:α->Nat) (x₀:α)
  (h₀:dM (S x₀) τ/\(H x₀).le h/\side x₀)
  (round:∀ x,side x->lS P N keep ib mk c (λτ' h'=>∃ x',dM (S x') τ'/\(H x').le h'/\side x'/\μ x'<μ x) Q (S x) (H x) ()):aCP P N (.loop c) Q τ h t :=
 nV.aNH S H side μ x₀ h₀ λx hx=>aF7 hmix c _ _ _ _ hc (round x hx)
theorem eJ {P:Program} {f:FuncId} {fn:Func} {c:Code} (N:Nat) (keep ib:List Nat) (mk:Marks) {args:List aC} {r:aC} (hf:P.funcs[f]?=some fn) (hw:∀ h,lS P N keep ib mk c (λτ h'=>kG P fn.results (λr' h'=>r'=r/\h.le h') () .normal τ h') (kG P fn.results (λr' h'=>r'=r/\h.le h') ()) (nA 0 args) h ()) (hmix:P.follows .mixedOrders=true:=by exact mix) (hb:fn.body=some c:=by rfl) (hck:(eT P f && decide (fn.ntmps=N) && e8 N mk c)=true:=by kernel_rfl) (hl:args.length<=N:=by simp):eX P f args r :=
 bKW N keep ib mk hmix hf hb hck hl hw
theorem aBA {P:Program} {f:FuncId} {fn:Func} {c:Code} (N:Nat) (keep ib:List Nat) (mk:Marks) {args:List aC} {r:aC} (hf:P.funcs[f]?=some fn) (hw:∀ h,lS P N keep ib mk c (λτ h'=>kG P fn.results (λr' h'=>Shift r' h' r h) () .normal τ h') (kG P fn.results (λr' h'=>Shift r' h' r h) ()) (nA 0 args) h ()) (hmix:P.follows .mixedOrders=true:=by exact mix) (hb:fn.body=some c:=by rfl) (hck:(eT P f && decide (fn.ntmps=N) && e8 N mk c)=true:=by kernel_rfl) (hl:args.length<=N:=by simp):eX P f args r :=
 bKX N keep ib mk hmix hf hb hck hl hw
theorem dJ {P:Program} {N:Nat} (keep ib:List Nat) (mk:Marks) {c:Code} {Q:Exit->bE->Heap->Prop} {τ:bE} {h:Heap} {t:Tag (Code.loop c,Q)} {α:Type} (S:α->bE) (H:α->Heap) (side:α->Prop) (μ:α->Nat) (x₀:α) (h₀:dM (S x₀) τ/\(H x₀).le h/\side x₀) (round:∀ x,side x->lS P N keep ib mk c (λτ' h'=>∃ x',dM (S x') τ'/\(H x').le h'/\side x'/\μ x'<μ x) Q (S x) (H x) ()) (hmix:P.follows .mixedOrders=true:=by exact mix) (hc:e8 N mk c=true:=by kernel_rfl):aCP P N (.loop c) Q τ h t :=
 aNH (keep:=keep) (ib:=ib) (mk:=mk) hmix hc S H side μ x₀ h₀ round
theorem Sub.a1N {sz sz' i off:Nat} {es:List (List aC)} {e e':List aC} (he:es[i]?=some e) (h':(e.drop off).take sz'=e') (hl:e'.length=sz'):Sub (.ip sz es i off) (.ip sz' [e'] 0 0):=λE h w v r=>by
 cases r with
 |ip _ _ _ _ b o cv hi hs hc h1 hr =>
  have hat:∀ i' j x,gT [e'] i' j=some x->i'=0/\gT es i (off+j)=some x:=by
   intro i' j x hx
   obtain⟨e1,h1,h2⟩:=kF hx
   cases i' with
   |zero =>
    simp at h1;subst h1
    refine⟨rfl,?_⟩
    subst h'
    rw[List.getElem?_take]at h2
    split at h2
    ·rw[aME]at h2
     simp[gT,he,h2]
    ·cases h2
   |succ n=>simp at h1
  have:=dU.ip (E:=E) (h:=h) (w:=w) sz' [e'] 0 0 b (o+i*sz+off) (λi' j=>cv (i+i') (off+j)) hi (λe1 he'=>by simp at he';subst he';exact hl)
   (λi' j x hx=>by obtain⟨rfl,hy⟩:=hat i' j x hx;have:=hc i _ x hy;simpa[a1G]using this)
   (λi' j x hx=>by obtain⟨rfl,hy⟩:=hat i' j x hx;exact h1 i _ x hy)
   (λi' j x hx=>by obtain⟨rfl,hy⟩:=hat i' j x hx;exact hr i _ x hy)
  simpa using this
theorem Sub.ip {sz i:Nat} {es:List (List aC)} {e:List aC} (he:es[i]?=some e) (hl:e.length=sz):Sub (.ip sz es i 0) (.ip sz [e] 0 0) :=
 Sub.a1N he (by rw[aUU,kC aA]) hl
open Go.ChangeShapes Go.WideShapes
def Dat (P:Program):Nat->TypeId->List aC->Prop
 |0,_,_=>False
 |n+1,t,xs =>
  match P.underlying t with
  |some .bool=>∃ b,xs=[.bool b]
  |some (.int k)=>∃ i,xs=[.int k i]/\(Lit.int k i).wf=true
  |some .string=>∃ s,xs=[.str s]
  |some (.slice e)=>∃ es,xs=[.sl (P.cellsOf e) es false]/\∀ y∈es,Dat P n e y
  |some (.struct fs)=>xs.length=P.cellsOf t/\∀ (i:Nat) (f:Field),fs[i]?=some f->Dat P n f.type ((xs.drop f.offset).take (P.cellsOf f.type))
  | _=>False
def xJ (P:Program):List Field->Nat->Option Nat
 | [],o=>some o
 |f::fs,o=>if f.offset=o then xJ P fs (o+P.cellsOf f.type)else none
def aU9 (P:Program) (T:List TypeId):Bool:=T.all λt =>
 match P.underlying t with
 |some .bool|some (.int _)|some .string=>P.cellsOf t == 1
 |some (.slice e)=>P.cellsOf t == 1 && decide (0<P.cellsOf e) && T.contains e
 |some (.struct fs)=>(xJ P fs.toList 0 == some (P.cellsOf t)) && fs.toList.all (λf=>T.contains f.type)
 | _=>false
theorem aBB {P:Program} {T:List TypeId} (hT:aU9 P T=true):∀ (n:Nat) (t:TypeId) (xs:List aC),t∈T->Dat P n t xs->xs.length=P.cellsOf t/\xs.all aC.flat=true
 |0,_,_,_,h=>h.elim
 |n+1,t,xs,ht,h=>by
  have hd:=tK.1 hT t ht
  unfold Dat at h
  split at h
  ·rename_i hu;rw[hu]at hd;obtain⟨b,rfl⟩:=h;exact⟨by simpa using(of_decide_eq_true hd).symm,rfl⟩
  ·rename_i hu;rw[hu]at hd;obtain⟨i,rfl,_⟩:=h;exact⟨by simpa using(of_decide_eq_true hd).symm,rfl⟩
  ·rename_i hu;rw[hu]at hd;obtain⟨s,rfl⟩:=h;exact⟨by simpa using(of_decide_eq_true hd).symm,rfl⟩
  ·rename_i e hu
   rw[hu]at hd;obtain⟨es,rfl,_⟩:=h
   simp only[lH,beq_iff_eq]at hd
   exact⟨by simp[hd.1.1],rfl⟩
  ·rename_i fs hu
   rw[hu]at hd
   obtain⟨hl,hf⟩:=h
   refine⟨hl,?_⟩
   simp only[lH,beq_iff_eq,tK]at hd
   have key:∀ (l:List Field) (o:Nat),(∀ f∈l,T.contains f.type=true/\Dat P n f.type ((xs.drop f.offset).take (P.cellsOf f.type)))->xJ P l o=some (P.cellsOf t)->(xs.drop o).all aC.flat=true:=by
    intro l
    induction l with
    |nil=>intro o _ ho;simp only[xJ,aPM]at ho;rw[aWW aA];rfl
    |cons f l ih =>
     intro o hl' ho
     simp only[xJ]at ho
     split at ho
     ·rename_i e
      have h1:=hl' f u4
      have h2:=(aBB hT n _ _ (by simpa using h1.1) h1.2).2
      have h3:=ih _ (λg hg=>hl' g (rM _ hg)) ho
      rw[e]at h2
      rw[←List.take_append_drop (P.cellsOf f.type) (xs.drop o),List.all_append,h2,List.drop_drop,h3];rfl
     ·cases ho
   have:=key fs.toList 0 (λf hf'=>by
    obtain⟨i,hi⟩:=a1C hf'
    exact⟨hd.2 f hf',hf i f (by simpa using hi)⟩) hd.1
   simpa using this
  ·exact h.elim
section
variable {H:Type} {enc:TypeId×Value->H} {P:Program} {w:World} {base:Nat} {sp:Nat->Bool} {held:Bool}
theorem aCR {E:Env} {h:Heap} {xs:List aC} {vs:List Value} (hr:cU E h w xs vs) (hf:xs.all aC.flat=true) (j:Nat) (v:Value) (hv:vs[j]?=some v):v.oneCell'=true:=by
 obtain⟨hj,_⟩:=jQ.1 hv
 have hl:=hr.length
 have hx:xs[j]?=some xs[j]:=cP aA
 exact(dU.oM (hr.get j _ _ hx hv) (tK.1 hf _ (al6 hx))).1
theorem aF9 {T:List TypeId} (hT:aU9 P T=true) {E:Env} {h:Heap} (hI:∀ b,b<w.heap.size->oE E h w b) :
  ∀ (n:Nat) (t:TypeId) (cs:List Value) (x:DataW H×List MemPlace),t∈T->DataW.trod enc P w base sp held n t cs=some x->∃ xs,Dat P n t xs/\cU E h w xs cs
 |0,t,cs,x,_,hx=>by simp[DataW.trod]at hx
 |n+1,t,cs,x,ht,hx=>by
  have hd:=tK.1 hT t ht
  match hu:P.underlying t with
  |some .bool =>
   obtain⟨b,rfl,_⟩:=DataW.trod_bool hu hx
   exact⟨[.bool b],by simp only[Dat,hu];exact⟨b,rfl⟩,⟨.bool b,trivial⟩⟩
  |some (.int k) =>
   obtain⟨i,rfl,_,hw⟩:=DataW.trod_int hu hx
   exact⟨[.int k i],by simp only[Dat,hu];exact⟨i,rfl,hw⟩,⟨.int k i,trivial⟩⟩
  |some .string =>
   obtain⟨s,rfl,_,hs⟩:=DataW.trod_string hu hx
   refine⟨[.str s.data.toList],by simp only[Dat,hu];exact⟨_,rfl⟩,⟨?_,trivial⟩⟩
   have:s=⟨s.data.toList.toArray⟩:=by cases s;simp
   rw[this]
   exact .str _ (by simpa using hs)
  |some (.slice e) =>
   rw[hu]at hd
   simp only[lH,beq_iff_eq,decide_eq_true_eq,a1M]at hd
   rcases DataW.trod_slice hu hx with⟨rfl,_⟩|⟨a,len,cap,elems,rest,m,hm,rfl,_,hb,hlc,hmax,hel,hcell,_,_⟩
   ·exact⟨[.sl (P.cellsOf e) [] false],by simp only[Dat,hu];exact⟨[],rfl,by simp⟩,⟨.y6 _ _ _ _ (λe=>by simp at e) cK trivial,trivial⟩⟩
   ·obtain rfl:n=m:=by omega

    have each:∀ i,i<len->∃ ys vs,Dat P n e ys/\cU E h w ys vs/\w.cells? base (a.add (i*P.cellsOf e)) (P.cellsOf e)=some vs:=by
     intro i hi
     have h1:=hcell i hi
     have hi':i<elems.length:=by omega
     rw[cP hi']at h1
     simp only[Option.bind_eq_some_iff]at h1
     obtain⟨vs,h2,h3⟩:=h1
     obtain⟨ys,h4,h5⟩:=aF9 hT hI n e vs _ hd.2 h3
     exact⟨ys,vs,h4,h5,h2⟩
    let ys:Nat->List aC:=λi=>if hi:i<len then Classical.choose (each i hi)else[]
    have hys:∀ i,i<len->∃ vs,Dat P n e (ys i)/\cU E h w (ys i) vs/\w.cells? base (a.add (i*P.cellsOf e)) (P.cellsOf e)=some vs:=by
     intro i hi
     have:=Classical.choose_spec (each i hi)
     simpa only[ys,dif_pos hi]using this
    by_cases h0:len=0
    ·subst h0
     exact⟨[.sl (P.cellsOf e) [] false],by simp only[Dat,hu];exact⟨[],rfl,by simp⟩,⟨.y6 _ _ _ _ (λe=>by simp at e) hmax trivial,trivial⟩⟩
    have hpos:0<P.cellsOf e:=hd.1.2

    obtain⟨b,o,spot⟩:=a
    obtain⟨vs0,_,_,hc0⟩:=hys 0 aA
    have bKZ:=World.cells?_some hc0
    have hz:w.cell? ((Addr.add ⟨b,o,spot⟩ (0*P.cellsOf e)).add 0)=vs0[0]?:=bKZ.2.2 0 hpos
    have wR:vs0[0]?=some vs0[0]:=cP aA
    rw[wR]at hz
    have hspot:spot=none:=by
     have:=World.cell?_spot hz
     simpa[Addr.add]using this
    subst hspot
    have hblt:b<w.heap.size:=by
     have:=World.cells?_block hc0 hpos
     simpa[Addr.add]using this
    have hmap:∀ i,i<len->((List.range len).map ys)[i]?=some (ys i):=λi hi=>by simp[hi]
    refine⟨[.sl (P.cellsOf e) ((List.range len).map ys) false],?_,⟨?_,trivial⟩⟩
    ·simp only[Dat,hu]
     refine⟨_,rfl,λy hy=>?_⟩
     simp only[rC,aUS]at hy
     obtain⟨i,hi,rfl⟩:=hy
     obtain⟨vs,h1,_⟩:=hys i hi
     exact h1
    ·have hlen:len=((List.range len).map ys).length:=by simp
     have cells:∀ i j x,gT ((List.range len).map ys) i j=some x->∃ v,w.cell? ⟨b,o+i*P.cellsOf e+j,none⟩=some v/\v.oneCell'=true/\dU E h w x v:=by
      intro i j x hx
      have hi:i<len:=by have:=aXB hx;simpa using this
      obtain⟨y,hy,hj⟩:=kF hx
      rw[hmap i hi]at hy
      obtain rfl:=eO hy
      obtain⟨vs,h1,h2,h3⟩:=hys i hi
      have hone:=aBB hT n e _ hd.2 h1
      have hjl:j<(ys i).length:=(jQ.1 hj).1
      have h4:=World.cells?_some h3
      have hjv:j<vs.length:=by rw[h2.length]at hjl;exact hjl
      have hv:vs[j]?=some vs[j]:=cP hjv
      refine⟨vs[j],?_,aCR h2 hone.2 j _ hv,h2.get j x _ hj hv⟩
      have h5:=h4.2.2 j aA
      rw[hv]at h5
      rw[←h5]
      rw[addr_add,addr_add]
     have cellsC:∀ i j,∃ v,∀ x,gT ((List.range len).map ys) i j=some x->w.cell? ⟨b,o+i*P.cellsOf e+j,none⟩=some v/\v.oneCell'=true/\dU E h w x v:=by
      intro i j
      match hx:gT ((List.range len).map ys) i j with
      |none=>exact⟨.bool true,λx h=>by simp at h⟩
      |some x =>
       obtain⟨v,h1⟩:=cells i j x hx
       exact⟨v,λy hy=>by obtain rfl:=eO hy;exact h1⟩
     let cv:Nat->Nat->Value:=λi j=>Classical.choose (cellsC i j)
     have hcv:∀ i j x,gT ((List.range len).map ys) i j=some x->w.cell? ⟨b,o+i*P.cellsOf e+j,none⟩=some (cv i j)/\(cv i j).oneCell'=true/\dU E h w x (cv i j):=λi j=>Classical.choose_spec (cellsC i j)
     have:=dU.sl (E:=E) (h:=h) (w:=w) (P.cellsOf e) ((List.range len).map ys) false b o cap cv (hI b hblt) (by simpa using hlc) hmax (λe=>by simp at e)
      (λy hy=>by
       simp only[rC,aUS]at hy
       obtain⟨i,hi,rfl⟩:=hy
       obtain⟨vs,h1,_⟩:=hys i hi
       exact(aBB hT n e _ hd.2 h1).1)
      (λi j x hx=>(hcv i j x hx).1) (λi j x hx=>(hcv i j x hx).2.1) (λi j x hx=>(hcv i j x hx).2.2)
     rw[←hlen]at this
     exact this
  |some (.struct fs) =>
   rw[hu]at hd
   simp only[lH,beq_iff_eq,tK]at hd
   obtain⟨xs,m,hm,rfl,hl,hfl,hf⟩:=DataW.trod_struct hu hx
   obtain rfl:n=m:=by omega

   have key:∀ (l:List Field) (o:Nat),(∀ f∈l,T.contains f.type=true/\∃ y,DataW.trod enc P w base sp held n f.type ((cs.drop f.offset).take (P.cellsOf f.type))=some y)->xJ P l o=some (P.cellsOf t) ->
     ∃ ys,cU E h w ys (cs.drop o)/\∀ f∈l,o<=f.offset/\Dat P n f.type ((ys.drop (f.offset-o)).take (P.cellsOf f.type)):=by
    intro l
    induction l with
    |nil =>
     intro o _ ho
     simp only[xJ,aPM]at ho
     rw[aWW aA]
     exact⟨[],trivial,λf hf=>by simp at hf⟩
    |cons f l ih =>
     intro o hl' ho
     simp only[xJ]at ho
     split at ho
     ·rename_i e
      obtain⟨hc,y,hy⟩:=hl' f u4
      obtain⟨zs,hz1,hz2⟩:=aF9 hT hI n f.type _ y (by simpa using hc) hy
      obtain⟨ys,hy1,hy2⟩:=ih _ (λg hg=>hl' g (rM _ hg)) ho
      have hzl:=(aBB hT n _ _ (by simpa using hc) hz1).1
      rw[e]at hz2
      have hjoin:cU E h w (zs++ys) (cs.drop o):=by
       have:=cU.append hz2 hy1
       rw[←List.take_append_drop (P.cellsOf f.type) (cs.drop o),List.drop_drop]
       exact this
      refine⟨zs++ys,hjoin,λg hg=>?_⟩
      rcases oH.1 hg with rfl|hg
      ·refine⟨by omega,?_⟩
       rw[e,zF,aUU,List.take_append_of_le_length aA,kC aA]
       exact hz1
      ·obtain⟨h1,h2⟩:=hy2 g hg
       refine⟨by omega,?_⟩
       rw[List.drop_append,hzl,aWW aA,eC,show g.offset-o-P.cellsOf f.type=g.offset-(o+P.cellsOf f.type)by omega]
       exact h2
     ·cases ho
   obtain⟨ys,h1,h2⟩:=key fs.toList 0 (λf hf'=>by
    obtain⟨i,hi⟩:=a1C hf'
    have hi':fs[i]?=some f:=by simpa using hi
    refine⟨hd.2 f hf',?_⟩
    have:=hf i f hi'
    have hil:i<xs.length:=by rw[hfl];exact(aH0.1 hi').1
    rw[cP hil]at this
    exact⟨_,this⟩) hd.1
   rw[aUU]at h1
   refine⟨ys,?_,h1⟩
   simp only[Dat,hu]
   refine⟨h1.length.trans hl,λi f hf'=>?_⟩
   have:=h2 f (by have:=Array.mem_of_getElem? hf';simpa using this)
   simpa using this.2
  |none|some .invalid|some (.float _)|some (.complex _)|some .unsafePointer|some (.named ..)|some (.pointer _)|some (.array ..)|some (.map ..)|some (.func ..)|some (.interface _)|some (.chan ..)|some (.tuple _)=>all_goals(rw[hu]at hd;simp at hd)
end
open Go.ChangeShapes Go.WideShapes
def aKK (P:Program) (n:Nat) (t:TypeId) (x:aC):Prop :=
 match P.underlying t with
 |some (.struct _)=>∃ ys,x=.agg ys/\Dat P n t ys
 | _=>Dat P n t [x]
def aNM (P:Program):List TypeId->List aC->Prop
 | [],[]=>True
 |t::ts,x::xs=>(∃ n,aKK P n t x)/\aNM P ts xs
 | _,_=>False
section
variable {H:Type} {enc:TypeId×Value->H} {P:Program} {w:World} {base:Nat} {sp:Nat->Bool} {held:Bool}
theorem aX5 {T:List TypeId} (hT:aU9 P T=true) {E:Env} {h:Heap} (hI:∀ b,b<w.heap.size->oE E h w b) {t:TypeId} (ht:t∈T) {v:Value} {d:DataW H} {ps:List MemPlace}
  (hok:Value.okWide P w .any base t v) (hr:DataW.Trod enc P w 0 sp held t v d ps):∃ x n,aKK P n t x/\dU E h w x v:=by
 obtain⟨n,hr⟩:=hr
 obtain⟨xs,h1,h2⟩:=aF9 hT hI n t _ _ ht hr
 have hd:=tK.1 hT t ht
 match hu:P.underlying t with
 |some (.struct fs) =>
  obtain⟨cs,rfl,_⟩:=okWide_struct hu hok
  exact⟨.agg xs,n,by simp only[aKK,hu];exact⟨xs,rfl,h1⟩,.agg xs cs.toList h2.length h2.get⟩
 |some .bool =>
  obtain⟨b,rfl⟩:=okWide_bool hu hok
  have hone:=aBB hT n t xs ht h1
  match xs,h2 with
  | [x],h2=>exact⟨x,n,by simp only[aKK,hu];exact h1,by simpa[Value.cells]using h2.1⟩
  | [],h2=>exact h2.elim
  | _::_::_,h2=>exact h2.2.elim
 |some (.int k) =>
  obtain⟨b,rfl⟩:=okWide_int hu hok
  match xs,h2 with
  | [x],h2=>exact⟨x,n,by simp only[aKK,hu];exact h1,by simpa[Value.cells]using h2.1⟩
  | [],h2=>exact h2.elim
  | _::_::_,h2=>exact h2.2.elim
 |some .string =>
  obtain⟨b,rfl⟩:=okWide_string hu hok
  match xs,h2 with
  | [x],h2=>exact⟨x,n,by simp only[aKK,hu];exact h1,by simpa[Value.cells]using h2.1⟩
  | [],h2=>exact h2.elim
  | _::_::_,h2=>exact h2.2.elim
 |some (.slice e) =>
  obtain⟨a,len,cap,rfl⟩:=okWide_slice hu hok
  match xs,h2 with
  | [x],h2=>exact⟨x,n,by simp only[aKK,hu];exact h1,by simpa[Value.cells]using h2.1⟩
  | [],h2=>exact h2.elim
  | _::_::_,h2=>exact h2.2.elim
 |none|some .invalid|some (.float _)|some (.complex _)|some .unsafePointer|some (.named ..)|some (.pointer _)|some (.array ..)|some (.map ..)|some (.func ..)|some (.interface _)|some (.chan ..)|some (.tuple _)=>all_goals(rw[hu]at hd;simp at hd)
theorem aJB {T:List TypeId} (hT:aU9 P T=true) {E:Env} {h:Heap} (hI:∀ b,b<w.heap.size->oE E h w b):∀ {ts:List TypeId} {vs:List Value} {ds:List (DataW H)} {ps:List MemPlace},
  (∀ t∈ts,t∈T)->(∀ (j:Nat) t v,ts[j]?=some t->vs[j]?=some v->Value.okWide P w .any base t v)->DataW.TrodAll enc P w 0 sp held ts vs ds ps->∃ xs,aNM P ts xs/\cU E h w xs vs/\ds.length=ts.length
 | [],[],[],_,_,_,_=>⟨[],trivial,trivial,rfl⟩
 |t::ts,v::vs,d::ds,_,ht,hok,⟨p,q,h1,h2,_⟩=>by
  obtain⟨x,n,h3,h4⟩:=aX5 hT hI (ht t u4) (hok 0 t v rfl rfl) h1
  obtain⟨xs,h5,h6,h7⟩:=aJB hT hI (λt' h'=>ht t' (rM _ h')) (λj t' v' a b=>hok (j+1) t' v' (by simpa using a) (by simpa using b)) h2
  exact⟨x::xs,⟨⟨n,h3⟩,h5⟩,⟨h4,h6⟩,by simp[h7]⟩
 | [],_::_,_,_,_,_,h=>by cases ‹List (DataW H)› <;> exact h.elim
 | [],[],_::_,_,_,_,h=>h.elim
 | _::_,[],_,_,_,_,h=>by cases ‹List (DataW H)› <;> exact h.elim
 | _::_,_::_,[],_,_,_,h=>h.elim
end
theorem zB {H:Type} {enc:TypeId×Value->H} {P:Program} {w w':World} {base:Nat} {sp:Nat->Bool} {held:Bool}:∀ {ts:List TypeId} {vs:List Value} {ds:List (DataW H)} {ps:List MemPlace},
  DataW.TrodAll enc P w base sp held ts vs ds ps->(∀ p∈ps,w.sameAt w' p)->DataW.TrodAll enc P w' base sp held ts vs ds ps
 | [],[],[],_,h,_=>h
 | _::_,_::_,_::_,_,⟨p,q,⟨n,h1⟩,h2,e⟩,hs=>⟨p,q,⟨n,DataW.trod_carry n _ _ _ h1 (λx hx=>hs x (by rw[e];exact al8 _ hx))⟩,zB h2 (λx hx=>hs x (by rw[e];exact al7 _ hx)),e⟩
 | [],_::_,_,_,h,_=>by cases ‹List (DataW H)› <;> exact h.elim
 | [],[],_::_,_,h,_=>h.elim
 | _::_,[],_,_,h,_=>by cases ‹List (DataW H)› <;> exact h.elim
 | _::_,_::_,[],_,h,_=>h.elim
theorem aGA {w w':World} {p:MemPlace} (h:w'.heap[p.block]?=w.heap[p.block]?):w.sameAt w' p:=by
 cases p with
 |cell b o=>exact tO h o none
 |map b=>exact h
theorem aX6 {H:Type} {enc:TypeId×Value->H} {P:Program} (lo:laidOutB P=true) (mr:mapsRowed P=true)
  (hz:((List.range P.types.size).all λt=>match P.underlying t with|some (.slice e)=>decide (0<P.cellsOf e)|_=>true)=true)
  {fn:Func} (hT:fn.params.all (λt=>decide (t<P.types.size))=true) {s:ChangeSpec} (hsv:s.vars=[]) (hs:∀ ds:List (DataW H),ds.length=fn.params.size->s.fn H ds={ results:=[.lit (.bool true)],args:=ds })
  {tb:TypeId} (hr:fn.resultTypes=#[tb]) (htb:P.underlying tb=some .bool) {W W':World} {args:Array Value} {ds gs:List (DataW H)} {before:List MemPlace}
  (hW:DataW.Whole enc P fn.params.toList s.vars false W args.toList ds gs before) (hl:ds.length=fn.params.size)
  (hheap:∀ b,b<W.heap.size->W'.heap[b]?=W.heap[b]?) (hos:W'.os=W.os) (hout:W'.output=W.output) :
  s.post enc P fn false true false false W args (.bool true) W':=by
 have hlt:=hW.lt
 have hW0:=hW
 obtain⟨p,q,hA,hV,rfl,hfz,_⟩:=hW
 rw[hsv]at hV
 have hgs:gs=[]/\q=[]:=by
  match gs,hV with
  | [],h=>exact⟨rfl,h⟩
 obtain⟨rfl,rfl⟩:=hgs
 rw[eV]at hlt hfz hW0
 have e:s.fn H (ds++[])={ results:=[.lit (.bool true)],args:=ds }:=by rw[eV];exact hs ds hl
 refine⟨ds,[],p,[],p,[],hW0,?_,?_,?_,?_,λh=>by simp at h⟩
 ·rw[e]
  simp only[hr]
  refine⟨[],[],⟨1,?_⟩,rfl,rfl⟩
  simp[DataW.trod,htb,Value.cells]
 ·rw[e]
  have h1:DataW.TrodAll enc P W' 0 (λ_=>true) true fn.params.toList args.toList ds p:=zB hA λx hx=>aGA (hheap _ (hlt x hx))
  refine DataW.TrodAll.respare (kids_rows lo mr) (λt e ht hu=>slices_full_of P hz t e ht hu) (λt ht=>?_) h1 (λx hx=>by simpa using hlt x hx)
  have:=aW1.1 hT t (by simpa using ht)
  simpa using this
 ·rw[e,hsv];exact rfl
 ·refine⟨hos,hout,λi hi=>?_⟩
  rw[hheap i hi]
  have hi':W.heap[i]?=some W.heap[i]:=aE7 hi
  rw[hi']
  cases W.heap[i]with
  |cells c t fr=>exact⟨rfl,rfl,rfl,λ_ _=>rfl⟩
  |map es clock=>exact .inr ⟨rfl,rfl⟩
  | _=>rfl
def r7:Heap:=λ_=>none
def aNN:Env where
 loc:=λ_=>none
 fp:=λ_ _=>False
 used:=λ_=>False
theorem aX7 (w:World) (hl:LaidIn aNN r7 w):Rel aNN r7 w where
 fin:=⟨0,λn _ h=>h⟩
 dom:=λn h=>absurd rfl h
 lt:=λn o b h=>by simp[r7]at h
 apart:=λn o m o' b h=>by simp[r7]at h
 obj:=λn o h=>by simp[r7]at h
 laid:=hl
theorem aGB {w:World} {b:Nat} (hb:b<w.heap.size):oE aNN r7 w b:=⟨hb,λn o h=>by simp[r7]at h⟩
def aZ (P:Program) (f:FuncId) (args:List aC) (r:aC) (h0:Heap):Prop:=∀ h:Heap,h0.le h->fH P f args h λr' h'=>r'=r/\h'=h
theorem eX.a2O {P:Program} {f:FuncId} {args:List aC} {r:aC} {h0:Heap} (a:eX P f args r):aZ P f args r h0:=λh _=>a h
theorem aZ.mono {P:Program} {f:FuncId} {args:List aC} {r:aC} {h0 h1:Heap} (hl:h0.le h1) (a:aZ P f args r h0):aZ P f args r h1:=λh q=>a h (Heap.le_trans hl q)
theorem aVA (h:Heap):r7.le h:=λ_=>.inl rfl
theorem aZ.dB {P:Program} {f:FuncId} {args:List aC} {r:aC} (a:aZ P f args r r7):eX P f args r:=λh=>a h (aVA h)
theorem aG.bC {P:Program} {g:FuncId} {args:List aC} {h:Heap} {K:aC->Heap->Prop} {t:Tag K} {r:aC} (a:aZ P g args r h) (k:K r h):aG P g args h K t :=
 fH.mono (a h (Heap.le_refl h)) λ_ _ ⟨e,e'⟩=>e▸e'▸k
theorem aG.eH {P:Program} {g:FuncId} {args:List aC} {h:Heap} {K K':aC->Heap->Prop} {t:Tag K} (a:fH P g args h K') (k:∀ r h',K' r h'->K r h'):aG P g args h K t:=fH.mono a k
theorem Heap.zR {h0 h:Heap} (hl:h0.le h) {n:Nat} {o:bW} (hn:h0 n=some o):h n=some o:=by
 rcases hl n with e|e
 ·rw[hn]at e;cases e
 ·rw[←e];exact hn
theorem bE2 {P:Program} {f:FuncId} {fn:Func} {c:Code} (N:Nat) (keep ib:List Nat) (mk:Marks) {args:List aC} {h:Heap} {K:aC->Heap->Prop} (hmix:P.follows .mixedOrders=true) (hf:P.funcs[f]?=some fn) (hb:fn.body=some c)
  (hck:(eT P f && decide (fn.ntmps=N) && e8 N mk c)=true) (hl:args.length<=N)
  (hw:lS P N keep ib mk c (λτ h'=>kG P fn.results (λr h'=>∃ g:Heap,g.le h'/\K r g) () .normal τ h') (kG P fn.results (λr h'=>∃ g:Heap,g.le h'/\K r g) ()) (nA 0 args) h ()):fH P f args h K :=
 aF4 N keep ib mk hmix hf hb hck hl (K':=λr h'=>∃ g:Heap,g.le h'/\K r g) hw λ_ _ hx=>hx
theorem bE3 {P:Program} {f:FuncId} {fn:Func} {c:Code} (N:Nat) (keep ib:List Nat) (mk:Marks) {args:List aC} {r:aC} {h0:Heap} (hmix:P.follows .mixedOrders=true) (hf:P.funcs[f]?=some fn) (hb:fn.body=some c)
  (hck:(eT P f && decide (fn.ntmps=N) && e8 N mk c)=true) (hl:args.length<=N)
  (hw:∀ h:Heap,h0.le h->lS P N keep ib mk c (λτ h'=>kG P fn.results (λr' h'=>r'=r/\h.le h') () .normal τ h') (kG P fn.results (λr' h'=>r'=r/\h.le h') ()) (nA 0 args) h ()):aZ P f args r h0 :=
 λh hle=>aF4 N keep ib mk hmix hf hb hck hl (K':=λr' h'=>r'=r/\h.le h') (hw h hle) λ_ _ hx=>⟨h,hx.2,hx.1,rfl⟩
theorem aGC {P:Program} {f:FuncId} {fn:Func} {c:Code} (N:Nat) (keep ib:List Nat) (mk:Marks) {args:List aC} {h:Heap} {K:aC->Heap->Prop} (hf:P.funcs[f]?=some fn) (hw:lS P N keep ib mk c (λτ h'=>kG P fn.results (λr h'=>∃ g:Heap,g.le h'/\K r g) () .normal τ h') (kG P fn.results (λr h'=>∃ g:Heap,g.le h'/\K r g) ()) (nA 0 args) h ()) (hmix:P.follows .mixedOrders=true:=by exact mix) (hb:fn.body=some c:=by rfl) (hck:(eT P f && decide (fn.ntmps=N) && e8 N mk c)=true:=by kernel_rfl) (hl:args.length<=N:=by simp):fH P f args h K :=
 bE2 N keep ib mk hmix hf hb hck hl hw
theorem aBC {P:Program} {f:FuncId} {fn:Func} {c:Code} (N:Nat) (keep ib:List Nat) (mk:Marks) {args:List aC} {r:aC} {h0:Heap} (hf:P.funcs[f]?=some fn) (hw:∀ h:Heap,h0.le h->lS P N keep ib mk c (λτ h'=>kG P fn.results (λr' h'=>r'=r/\h.le h') () .normal τ h') (kG P fn.results (λr' h'=>r'=r/\h.le h') ()) (nA 0 args) h ()) (hmix:P.follows .mixedOrders=true:=by exact mix) (hb:fn.body=some c:=by rfl) (hck:(eT P f && decide (fn.ntmps=N) && e8 N mk c)=true:=by kernel_rfl) (hl:args.length<=N:=by simp):aZ P f args r h0 :=
 bE3 N keep ib mk hmix hf hb hck hl hw
end Go.Hl

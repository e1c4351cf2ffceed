/-
  Contracts of functions and laws of the layer over the walk.
-/
import Derived.Test.YtchbdakgjlnbgaaGreatDoorHlB
import Derived.KernelRfl
import Derived.ReadAgain
import Derived.ChangeArms
import Derived.ChangeSame
import Derived.Handed
import Derived.JoinedOf
namespace Go.Hl
attribute [go_sem] al0 aED
theorem nn (n:Nat):(0<=(n:Int))=True:=by simp
attribute [go_sem] bK5 aAE aJR aEW bR4 yK places aEZ aQF aCZ a0T y1 v7 ld aNC aET r8 nV dOf hev xY xG dB iT rU aC.ofValue aC.uX pO Hl.prune dT kL
 bG lX nn aW
attribute [go_sem] Call.operands Array.toList_append Option.map List.map Option.bind List.contains List.elem List.filterMap Op.operands Option.toList Array.size List.all List.set
attribute [go_sem] if_true if_false a33 Option.bind_none bR2 a4A a32 aUB true_and and_true forall_const Bool.true_eq_false aWG false_implies implies_true decide_true decide_false k5 BEq.rfl wP rM wQ bCW Bool.not_eq_false' decide_eq_true_eq decide_eq_false_iff_not Int.natCast_inj Int.ofNat_lt Int.ofNat_le bCX Bool.not_false aC.int.injEq aC.bool.injEq Heap.le_refl
attribute [go_sem] ne_eq Bool.and_self Bool.true_and Bool.and_true bKP Bool.and_false Int.reduceLT Int.reduceNeg Int.reduceLE Int.reduceEq Nat.reduceLeDiff Nat.reduceSub Nat.reduceMul al4 a34 al2 al3 aPU bKJ List.take_nil List.drop_nil a8K List.drop_succ_cons List.replicate tP lU k5 not_true_eq_false not_false_eq_true true_implies decide_not ite_not
attribute [go_sem] Bool.true_or aPT Bool.or_true Bool.or_false Nat.reduceAdd Nat.reduceEqDiff Nat.reduceBEq reduceCtorEq
@[go_sem] theorem bVQ :aC.cells (aC.any)=[(aC.any)]:=rfl
@[go_sem] theorem bXO :aC.flat (aC.any)=false:=rfl
@[go_sem] theorem bSD (b:Bool):aC.cells (aC.bool b)=[(aC.bool b)]:=rfl
@[go_sem] theorem bVR (b:Bool):aC.flat (aC.bool b)=true:=rfl
@[go_sem] theorem bVS (k:IntKind) (n:Int):aC.cells (aC.int k n)=[(aC.int k n)]:=rfl
@[go_sem] theorem bXP (k:IntKind) (n:Int):aC.flat (aC.int k n)=true:=rfl
@[go_sem] theorem bVT (s:List UInt8):aC.cells (aC.str s)=[(aC.str s)]:=rfl
@[go_sem] theorem bXQ (s:List UInt8):aC.flat (aC.str s)=true:=rfl
@[go_sem] theorem bLB :aC.cells (aC.lB)=[(aC.lB)]:=rfl
@[go_sem] theorem bPF :aC.flat (aC.lB)=true:=rfl
@[go_sem] theorem bPG :aC.cells (aC.aV)=[(aC.aV)]:=rfl
@[go_sem] theorem bSE :aC.flat (aC.aV)=true:=rfl
@[go_sem] theorem bPH :aC.cells (aC.xS)=[(aC.xS)]:=rfl
@[go_sem] theorem bSF :aC.flat (aC.xS)=true:=rfl
@[go_sem] theorem bPI :aC.cells (aC.lS)=[(aC.lS)]:=rfl
@[go_sem] theorem bSG :aC.flat (aC.lS)=true:=rfl
@[go_sem] theorem bLC :aC.cells (aC.rP)=[(aC.rP)]:=rfl
@[go_sem] theorem bPJ :aC.flat (aC.rP)=true:=rfl
@[go_sem] theorem bXR (sz:Nat) (es:List (List aC)) (b:Bool):aC.cells (aC.sl sz es b)=[(aC.sl sz es b)]:=rfl
@[go_sem] theorem b21 (sz:Nat) (es:List (List aC)) (b:Bool):aC.flat (aC.sl sz es b)=true:=rfl
@[go_sem] theorem bXS (sz:Nat) (es:List (List aC)) (i o:Nat):aC.cells (aC.ip sz es i o)=[(aC.ip sz es i o)]:=rfl
@[go_sem] theorem b22 (sz:Nat) (es:List (List aC)) (i o:Nat):aC.flat (aC.ip sz es i o)=true:=rfl
@[go_sem] theorem bXT (n sz i l:Nat):aC.cells (aC.os n sz i l)=[(aC.os n sz i l)]:=rfl
@[go_sem] theorem b23 (n sz i l:Nat):aC.flat (aC.os n sz i l)=true:=rfl
@[go_sem] theorem bXU (n sz i l:Nat):aC.cells (aC.op n sz i l)=[(aC.op n sz i l)]:=rfl
@[go_sem] theorem b24 (n sz i l:Nat):aC.flat (aC.op n sz i l)=true:=rfl
@[go_sem] theorem bVU (cs:List aC):aC.cells (aC.iF cs)=[(aC.iF cs)]:=rfl
@[go_sem] theorem bXV (cs:List aC):aC.flat (aC.iF cs)=false:=rfl
@[go_sem] theorem bXW (f:Fn) (a b:List aC):aC.cells (aC.fn f a b)=[(aC.fn f a b)]:=rfl
@[go_sem] theorem b25 (f:Fn) (a b:List aC):aC.flat (aC.fn f a b)=true:=rfl
@[go_sem] theorem bPK (t:TypeId) (v:aC):aC.cells (aC.iface t v)=[(aC.iface t v)]:=rfl
@[go_sem] theorem bSH (t:TypeId) (v:aC):aC.flat (aC.iface t v)=true:=rfl
@[go_sem] theorem bXX (n:Nat):aC.cells (aC.mp n)=[(aC.mp n)]:=rfl
@[go_sem] theorem b26 (n:Nat):aC.flat (aC.mp n)=true:=rfl
@[go_sem] theorem bVV (cs:List aC):aC.cells (.agg cs)=cs:=rfl
@[go_sem] theorem bXY (cs:List aC):aC.flat (.agg cs)=false:=rfl
@[go_sem] theorem bSI:maxLen=9223372036854775807:=rfl
set_option linter.unusedVariables false
set_option linter.unusedSimpArgs false
def Sub (x y:aC):Prop:=∀ E h w v,fY E h w x v->fY E h w y v
theorem Sub.refl (x:aC):Sub x x:=λ_ _ _ _ r=>r
theorem Sub.trans {x y z:aC} (a:Sub x y) (b:Sub y z):Sub x z:=λE h w v r=>b E h w v (a E h w v r)
theorem Sub.any (x:aC):Sub x .any:=λ_ _ _ v _=>.any v
theorem Sub.nil (sz:Nat) (t:Bool):Sub .aV (.sl sz [] t):=λE h w v r=>by
 cases r
 exact .sl0 sz t none 0 (λ_=>rfl) (by simp[maxLen]) trivial
theorem Sub.loose (sz:Nat) (es:List (List aC)) (t:Bool):Sub (.sl sz es t) (.sl sz es false):=λE h w v r=>by
 cases r with
 |sl0 _ _ a cap ht hmax ha=>exact .sl0 sz false _ _ (λe=>by simp at e) hmax ha
 |sl _ _ _ b o cap cv hi hcap hmax ht hs hc h1 hr=>exact .sl sz es false b o _ cv hi hcap hmax (λe=>by simp at e) hs hc h1 hr
def bQ (xs ys:List aC):Prop:=xs.length=ys.length/\∀ (i:Nat) (x y:aC),xs[i]?=some x->ys[i]?=some y->Sub x y
theorem bQ.nil:bQ [] []:=⟨rfl,λi x y hx=>by simp at hx⟩
theorem bQ.cons {x y:aC} {xs ys:List aC} (a:Sub x y) (b:bQ xs ys):bQ (x::xs) (y::ys) :=
 ⟨by simp[b.1],λi u v hu hv=>by
  cases i with
  |zero=>simp at hu hv;subst hu;subst hv;exact a
  |succ i=>exact b.2 i u v (by simpa using hu) aJH⟩
theorem bQ.refl:∀ (xs:List aC),bQ xs xs
 | []=>.nil
 |x::xs=>.cons (.refl x) (.refl xs)
theorem bQ.a1A {E:Env} {h:Heap} {w:World}:∀ {xs ys:List aC} {vs:List Value},bQ xs ys->eT E h w xs vs->eT E h w ys vs
 | [],[],_,_,r=>r
 | [],_::_,_,s,_=>by have:=s.1;simp at this
 | _::_,[],_,s,_=>by have:=s.1;simp at this
 |x::xs,y::ys,[],s,r=>r.elim
 |x::xs,y::ys,v::vs,s,r=>⟨s.2 0 x y rfl rfl E h w v r.1,bQ.a1A (xs:=xs) (ys:=ys) ⟨by have:=s.1;simpa using this,λi u v hu hv=>s.2 (i+1) u v (by simpa using hu) aJH⟩ r.2⟩
theorem Sub.agg {xs ys:List aC} (s:bQ xs ys):Sub (.agg xs) (.agg ys):=λE h w v r=>by
 cases r with
 |agg _ vs hl hr =>
  have:=s.a1A (eT.mk hl hr)
  exact .agg _ _ this.length this.get
theorem Sub.iF {xs ys:List aC} (s:bQ xs ys):Sub (.iF xs) (.iF ys):=λE h w v r=>by
 cases r with
 |iF _ vs hl hr =>
  have:=s.a1A (eT.mk hl hr)
  exact .iF _ _ this.length this.get
theorem gK.sub {P:Program} {f:FuncId} {xs ys:List aC} {h:Heap} {K:aC->Heap->Prop} (s:bQ xs ys) (a:gK P f ys h K):gK P f xs h K :=
 ⟨a.1,λE w vs R hL=>a.2 E w vs R (s.a1A hL)⟩
theorem dQ.sub {P:Program} {f:FuncId} {xs ys:List aC} {r:aC} (s:bQ xs ys) (a:dQ P f ys r):dQ P f xs r:=λh=>(a h).sub s
def Shift (r':aC) (h':Heap) (r:aC) (h:Heap):Prop :=
 ∀ E w v,Rel E h' w->fY E h' w r' v->∃ E',Ev E h' w E' h w/\Rel E' h w/\fY E' h w r v
theorem Shift.of {r' r:aC} {h' h:Heap} (s:Sub r' r) (hl:h.le h'):Shift r' h' r h:=λE w v R x =>
 ⟨E,(Ev.refl E h' w).forget hl,R.forget hl,s _ _ _ _ (x.zW λb=>vO.le hl)⟩
theorem Shift.trans {a b c:aC} {h1 h2 h3:Heap} (x:Shift a h1 b h2) (y:Shift b h2 c h3):Shift a h1 c h3:=λE w v R r=>by
 obtain⟨E',ev,R',r'⟩:=x E w v R r
 obtain⟨E'',ev',R'',r''⟩:=y E' w v R' r'
 exact⟨E'',ev.trans ev',R'',r''⟩
mutual
def aC.gU (n:Nat) (es:List (List aC)):aC->aC
 | .os m sz i len=>if m=n then .sl sz ((es.drop i).take len) false else .os m sz i len
 | .op m sz i off=>if m=n then .ip sz es i off else .op m sz i off
 | .agg cs=>.agg (nZ n es cs)
 | .iF cs=>.iF (nZ n es cs)
 |x=>x
def nZ (n:Nat) (es:List (List aC)):List aC->List aC
 | []=>[]
 |x::xs=>x.gU n es::nZ n es xs
end
theorem aQW (n:Nat) (es:List (List aC)):∀ l,nZ n es l=l.map (aC.gU n es)
 | []=>rfl
 |x::l=>by simp[nZ,aQW n es l]
mutual
def lJ (n sz k:Nat):aC->Bool
 | .os m sz' i len=>m != n || (sz' == sz && decide (i+len<=k))
 | .op m sz' i len=>m != n || sz' == sz
 | .agg cs=>lK n sz k cs
 | .iF cs=>lK n sz k cs
 | _=>true
def lK (n sz k:Nat):List aC->Bool
 | []=>true
 |x::xs=>lJ n sz k x && lK n sz k xs
end
theorem aE4 (n sz k:Nat):∀ (l:List aC),lK n sz k l=true->∀ (i:Nat) x,l[i]?=some x->lJ n sz k x=true
 | [],_,i,x,hx=>by simp at hx
 |y::l,h,0,x,hx=>by simp at hx;subst hx;simp only[lK,oN]at h;exact h.1
 |y::l,h,i+1,x,hx=>by simp only[lK,oN]at h;exact aE4 n sz k l h.2 i x a0H
theorem fY.yY {E:Env} {h:Heap} {w:World} (R:Rel E h w) {n sz:Nat} {es:List (List Cell)} (hn:h n=some (.row sz es)) {x:aC} {v:Value} (r:fY E h w x v)
  (hb:lJ n sz es.length x=true):fY E (bT h n .gone) w (x.gU n (jD es)) v:=by
 have hi:∀ b,vO E h w b->vO E (bT h n .gone) w b:=λb=>aJK n b
 induction r with
 |any v=>exact .any v
 |bool b=>exact .bool b
 |int k n=>exact .int k n
 |str s hl=>exact .str s hl
 |lB=>exact .lB
 |aV=>exact .aV
 |xS=>exact .xS
 |lS=>exact .lS
 |rP=>exact .rP
 |sl0 sz t a cap ht hmax ha=>exact .sl0 sz t a cap ht hmax ha
 |sl sz es t b o cap cv hb' hcap hmax ht hs hc h1 hr ih=>exact .sl sz es t b o cap cv (hi b hb') hcap hmax ht hs hc h1 λi j x hx=>(hr i j x hx).zW hi
 |ip sz es i off b o cv hb' hs hc h1 hr ih=>exact .ip sz es i off b o cv (hi b hb') hs hc h1 λi j x hx=>(hr i j x hx).zW hi
 |os0 m sz' hd hl =>
  simp only[aC.gU]
  split
  ·have:((jD es).drop 0).take 0=[]:=by simp
   rw[this]
   exact .sl0 sz' false none 0 (λ_=>rfl) (by simp[maxLen]) trivial
  ·exact .os0 m sz' hd hl
 |op m sz' i off b o hd hl =>
  simp only[aC.gU]
  split
  ·rename_i e
   subst e
   simp only[lJ,bne_self_eq_false,aPT,beq_iff_eq]at hb
   subst hb
   obtain⟨b',o',hl',hbS,hs,cs,ct,cv,T,hh,hm',hT,hD,hc,hrr⟩:=aEU R hn (.inr ⟨_,hl⟩)
   rw[hl]at hl'
   obtain⟨rfl,rfl⟩:=nI (dY hl')
   have himm:∀ c,E.fp m c->vO E (bT h m .gone) w c:=λc hc=>aNB R hn trivial c hc
   have hat:∀ i' j y,kE (jD es) i' j=some y->∃ c,kE es i' j=some c/\y=c.val:=by
    intro i' j y hy
    rw[wS]at hy
    obtain⟨c,hc,rfl⟩:=xD.1 hy
    exact⟨c,hc,rfl⟩
   exact .ip sz' (jD es) i off b o cv (himm b hbS) (λe he=>aCV hs e he)
    (λi' j y hy=>by
     obtain⟨c,hc',rfl⟩:=hat i' j y hy
     have:=hc _ _ _ hc'
     simp only[World.cell?,hh]
     rw[←this]
     simp)
    (λi' j y hy=>by obtain⟨c,hc',rfl⟩:=hat i' j y hy;exact(hrr _ _ _ hc').one)
    (λi' j y hy=>by
     obtain⟨c,hc',rfl⟩:=hat i' j y hy
     exact(hrr _ _ _ hc').yY hi λb hb=>himm b (hT _ _ b hb).1)
  ·exact .op m sz' i off b o hd hl
 |fn f cs ds vs us hl hr hl' hr' ih ih'=>exact .fn f cs ds vs us hl (λi x v hx hv=>(hr i x v hx hv).zW hi) hl' (λi x v hx hv=>(hr' i x v hx hv).zW hi)
 |iface t x v hr ih=>exact .iface t x v (hr.zW hi)
 |mp n b o hd hl=>exact .mp n b o hd hl
 |agg cs vs hl hr ih =>
  simp only[aC.gU,aQW]
  simp only[lJ]at hb
  refine .agg _ vs (by simpa using hl) λi x v hx hv=>?_
  rw[rM]at hx
  obtain⟨y,hy,rfl⟩:=xD.1 hx
  exact ih i y v hy hv (aE4 _ _ _ _ hb i y hy)
 |iF cs vs hl hr ih =>
  simp only[aC.gU,aQW]
  simp only[lJ]at hb
  refine .iF _ vs (by simpa using hl) λi x v hx hv=>?_
  rw[rM]at hx
  obtain⟨y,hy,rfl⟩:=xD.1 hx
  exact ih i y v hy hv (aE4 _ _ _ _ hb i y hy)
 |os m sz' i len b o cap t mm hd hl hlc hmax hsh hm =>
  simp only[aC.gU]
  split
  ·rename_i e
   subst e
   simp only[lJ,bne_self_eq_false,aPT,oN,beq_iff_eq,decide_eq_true_eq]at hb
   obtain⟨rfl,hle⟩:=hb
   obtain⟨b',o',hl',hbS,hs,cs,ct,cv,T,hh,hm',hT,hD,hc,hrr⟩:=aEU R hn (.inr ⟨_,hl⟩)
   rw[hl]at hl'
   obtain⟨rfl,rfl⟩:=nI (dY hl')
   have himm:∀ c,E.fp m c->vO E (bT h m .gone) w c:=λc hc=>aNB R hn trivial c hc
   have hlen:(((jD es).drop i).take len).length=len:=by rw[nX,aLG,yX];omega
   have hat:∀ i' j y,kE (((jD es).drop i).take len) i' j=some y->∃ c,kE es (i+i') j=some c/\y=c.val:=by
    intro i' j y hy
    obtain⟨e,h1,h2⟩:=mY hy
    have hlt:i'<len:=by have:=(mU.1 h1).1;rw[hlen]at this;exact this
    rw[aWH hlt,aPR]at h1
    have:kE (jD es) (i+i') j=some y:=by simp[kE,h1,h2]
    rw[wS]at this
    obtain⟨c,hc,rfl⟩:=xD.1 this
    exact⟨c,hc,rfl⟩
   have:=fY.sl (E:=E) (h:=bT h m .gone) (w:=w) sz' (((jD es).drop i).take len) false b (o+i*sz') cap (λi' j=>cv (i+i') j) (himm b hbS) (by rw[hlen];exact hlc) hmax (λe=>by simp at e)
    (λe he=>aCV hs e (bE6 (aWJ he)))
    (λi' j y hy=>by
     obtain⟨c,hc',rfl⟩:=hat i' j y hy
     have:=hc _ _ _ hc'
     simp only[World.cell?,hh]
     rw[←this]
     simp only[bE8,aWG,if_false]
     congr 1;rw[aAT];omega)
    (λi' j y hy=>by obtain⟨c,hc',rfl⟩:=hat i' j y hy;exact(hrr _ _ _ hc').one)
    (λi' j y hy=>by
     obtain⟨c,hc',rfl⟩:=hat i' j y hy
     exact(hrr _ _ _ hc').yY hi λb hb=>himm b (hT _ _ b hb).1)
   rw[hlen]at this
   exact this
  ·exact .os m sz' i len b o cap t mm hd hl hlc hmax hsh hm
theorem Shift.gU {x:aC} {h:Heap} {n sz:Nat} {es:List (List Cell)} (hn:h n=some (.row sz es)) (hb:lJ n sz es.length x=true):Shift x h (x.gU n (jD es)) (bT h n .gone):=λE w v R r =>
 ⟨E,Ev.gone n,R.gone hn,r.yY R hn hb⟩
theorem tE.yY {P:Program} {N:Nat} {c:Code} {Q:Exit->cJ->Heap->Prop} {τ:cJ} {h:Heap} (n:Nat) {sz:Nat} {es:List (List Cell)} (hn:h n=some (.row sz es)) (hb:τ.all (λp=>lJ n sz es.length p.2)=true)
  (x:tE P N c Q (τ.map λp=>(p.1,p.2.gU n (jD es))) (bT h n .gone)):tE P N c Q τ h:=by
 intro ds E w a R r
 refine Code.wp_mono (λe a' w' y=>xF.trans (Ev.gone n) y) (x ds E w a (R.gone hn) ⟨r.size,r.defers,λk=>?_⟩)
 have key:∀ τ:cJ,τ.all (λp=>lJ n sz es.length p.2)=true->lJ n sz es.length (dB τ k)=true/\dB (τ.map λp=>(p.1,p.2.gU n (jD es))) k=(dB τ k).gU n (jD es):=by
  intro τ
  induction τ with
  |nil=>intro _;exact⟨rfl,rfl⟩
  |cons p τ ih =>
   intro hp
   simp only[al7,oN]at hp
   simp only[lU,dB]
   split
   ·exact⟨hp.1,rfl⟩
   ·exact ih hp.2
 rw[(key τ hb).2]
 exact(r.get k).yY R hn (key τ hb).1
theorem zD {P:Program} {f:FuncId} {fn:Func} {c:Code} {N:Nat} {args:List aC} {h:Heap} {K K':aC->Heap->Prop} (a:gK P f args h K') (hk:∀ r h',K' r h'->∃ r₁ h₁,Shift r h' r₁ h₁/\K r₁ h₁):gK P f args h K :=
 ⟨a.1,λE w vs R hL=>Calls.mono (a.2 E w vs R hL) λe w' he=>by
  cases e <;> try exact he
  obtain⟨r,h',E',k,ev,R',rx⟩:=he
  obtain⟨r₁,h₁,hs,k₁⟩:=hk r h' k
  obtain⟨E'',ev',R'',rx'⟩:=hs E' w' _ R' rx
  exact⟨r₁,h₁,E'',k₁,ev.trans ev',R'',rx'⟩⟩
theorem bGE {P:Program} {f:FuncId} {fn:Func} {c:Code} (N:Nat) (keep ib:List Nat) (mk:Marks) {args:List aC} {r:aC} (hmix:P.follows .mixedOrders=true) (hf:P.funcs[f]?=some fn) (hb:fn.body=some c)
  (hck:(jG P f && decide (fn.ntmps=N) && iV N mk c)=true) (hl:args.length<=N)
  (hw:∀ h,hwp P N keep ib mk c (aJX P fn.results (λr' h'=>Shift r' h' r h) .normal) (aJX P fn.results λr' h'=>Shift r' h' r h) (rU 0 args) h):dQ P f args r:=λh =>
 zD (fn:=fn) (c:=c) (N:=N) (aQV N keep ib mk hmix hf hb hck hl (hw h) λr' h' hx=>⟨h',Heap.le_refl _,hx⟩) λr' h' hx=>⟨r,h,hx,rfl,rfl⟩
theorem eD {r:aC} {h' h:Heap} (hl:h.le h'):Shift r h' r h:=.of (.refl r) hl
theorem cR (r:aC) (h:Heap):Shift r h r h:=.of (.refl r) (Heap.le_refl h)
abbrev Tag {α:Type} (_:α):Type:=Unit
def gQ {α:Type} (o:Option α) (K:α->Prop) (_:Tag K):Prop:=match o with|some x=>K x|none=>False
@[go_sem] theorem bVW {α:Type} (x:α) (K:α->Prop) (t:Tag K):gQ (some x) K t=K x:=rfl
@[go_sem] theorem bVX {α:Type} (K:α->Prop) (t:Tag K):gQ none K t=False:=rfl
def aE5 (v:aC) (A B:Prop) (_:Tag (A,B)):Prop:=match v with | .bool t=>(t=true->A)/\(t=false->B)|_=>False
@[go_sem] theorem bSJ (c:Bool) (A B:Prop) (t:Tag (A,B)):aE5 (.bool c) A B t=((c=true->A)/\(c=false->B)):=rfl
@[go_sem high] theorem bSK (A B:Prop) (t:Tag (A,B)):aE5 (.bool true) A B t=A:=by simp[aE5]
@[go_sem high] theorem bPL (A B:Prop) (t:Tag (A,B)):aE5 (.bool false) A B t=B:=by simp[aE5]
def a1B (K:cJ->Heap->Prop) (Q:Exit->cJ->Heap->Prop) (_:Tag (K,Q)):Exit->cJ->Heap->Prop:=aBR K Q
@[go_sem] theorem bLD (K:cJ->Heap->Prop) (Q:Exit->cJ->Heap->Prop) (t:Tag (K,Q)) (τ:cJ) (h:Heap):a1B K Q t .normal τ h=K τ h:=rfl
@[go_sem] theorem bVY (K:cJ->Heap->Prop) (Q:Exit->cJ->Heap->Prop) (t:Tag (K,Q)) (τ:cJ) (h:Heap):a1B K Q t .ret τ h=Q .ret τ h:=rfl
@[go_sem] theorem bSL (K:cJ->Heap->Prop) (Q:Exit->cJ->Heap->Prop) (t:Tag (K,Q)) (i:Nat) (τ:cJ) (h:Heap):a1B K Q t (.exit i) τ h=Q (.exit i) τ h:=rfl
def aLT (id:Nat) (K:cJ->Heap->Prop) (Q:Exit->cJ->Heap->Prop) (_:Tag (K,Q)):Exit->cJ->Heap->Prop:=aQU id K Q
@[go_sem] theorem bSM (id:Nat) (K:cJ->Heap->Prop) (Q:Exit->cJ->Heap->Prop) (t:Tag (K,Q)) (τ:cJ) (h:Heap):aLT id K Q t .ret τ h=Q .ret τ h:=rfl
@[go_sem] theorem bPM (id:Nat) (K:cJ->Heap->Prop) (Q:Exit->cJ->Heap->Prop) (t:Tag (K,Q)) (τ:cJ) (h:Heap):aLT id K Q t (.exit id) τ h=K τ h:=by simp[aLT,aQU]
@[go_sem] theorem bLE (id i:Nat) (K:cJ->Heap->Prop) (Q:Exit->cJ->Heap->Prop) (t:Tag (K,Q)) (τ:cJ) (h:Heap) (hi:(i == id)=false):aLT id K Q t (.exit i) τ h=Q (.exit i) τ h:=by
 have:i≠id:=by simpa using hi
 simp[aLT,aQU,this]
def aLU (P:Program) (N:Nat) (c:Code) (Q:Exit->cJ->Heap->Prop) (τ:cJ) (h:Heap) (_:Tag (c,Q)):Prop:=tE P N c Q τ h
def lG (P:Program) (ib:List Nat) (d:Option Tmp) (op:Op) (ρ:Operand->aC) (h:Heap) (K:aC->Heap->Prop) (_:Tag (op,K)):Prop :=
 zB P ib ⟨d,op,0,"",#[],none⟩ ρ h K
def stepG (P:Program) (ib:List Nat) (d:Option Tmp) (op:Op) (ρ:Operand->aC) (K:aC->Prop) (_:Tag (op,K)):Prop :=
 aLR P ib ⟨d,op,0,"",#[],none⟩ ρ K
def aJY (P:Program) (ib:List Nat) (os l:List Oper) (τ:cJ) (h:Heap) (K:cJ->Heap->Prop) (_:Tag (os,l,K)):Prop:=aJW P ib os.toArray l τ h K
def aE6 (os:List Oper) (g:Nat) (_:Tag os):Option Tmp:=(os.toArray[g]?).bind (·.dst)
@[go_sem] theorem bSN (o:Oper) (os:List Oper) (t:Tag (o::os)):aE6 (o::os) 0 t=o.dst:=by simp[aE6]
@[go_sem] theorem bSO (o:Oper) (os:List Oper) (n:Nat) (t:Tag (o::os)):aE6 (o::os) (n+1) t=aE6 os n ():=by simp[aE6]
def qB (v:aC) (b:Bool) (A B C:Prop) (_:Tag (A,B,C)):Prop:=match v with
 | .bool b'=>(b'=b->A)/\(b'=!b->B)
 | .iF []=>C
 | _=>False
@[go_sem] theorem bSP (b:Bool) (A B C:Prop) (t:Tag (A,B,C)):qB (.iF []) b A B C t=C:=rfl
@[go_sem] theorem bXZ (c:Bool) (A B C:Prop) (t:Tag (A,B,C)):qB (.bool c) true A B C t=((c=true->A)/\(c=false->B)):=rfl
@[go_sem] theorem bX0 (c:Bool) (A B C:Prop) (t:Tag (A,B,C)):qB (.bool c) false A B C t=((c=false->A)/\(c=true->B)):=rfl
@[go_sem high] theorem bVZ (A B C:Prop) (t:Tag (A,B,C)):qB (.bool true) true A B C t=A:=by simp[qB]
@[go_sem high] theorem bV0 (A B C:Prop) (t:Tag (A,B,C)):qB (.bool false) true A B C t=B:=by simp[qB]
@[go_sem high] theorem bV1 (A B C:Prop) (t:Tag (A,B,C)):qB (.bool true) false A B C t=B:=by simp[qB]
@[go_sem high] theorem bV2 (A B C:Prop) (t:Tag (A,B,C)):qB (.bool false) false A B C t=A:=by simp[qB]
section
variable (P:Program) (ib:List Nat) (os rest:List Oper) (τ:cJ) (h:Heap) (K:cJ->Heap->Prop) (d:Option Tmp) (op:Op) (ty:TypeId) (p:String) (af:Array Edge)
@[go_sem] theorem bV3 (t:Tag (os,[],K)):aJY P ib os [] τ h K t=K τ h:=rfl
@[go_sem] theorem bSQ (t:Tag (os,(⟨d,op,ty,p,af,none⟩::rest),K)):aJY P ib os (⟨d,op,ty,p,af,none⟩::rest) τ h K t =
  lG P ib d op (hev τ) h (λv h'=>aJY P ib os rest (iT τ d v) h' K ()) ():=rfl
@[go_sem] theorem bSR (g:Nat) (b:Bool) (t:Tag (os,(⟨d,op,ty,p,af,some (g,b)⟩::rest),K)):aJY P ib os (⟨d,op,ty,p,af,some (g,b)⟩::rest) τ h K t =
  gQ (aE6 os g ()) (λs=>qB (dB τ s) b (lG P ib d op (hev ((s,.bool b)::τ)) h (λv h'=>aJY P ib os rest (iT ((s,.bool b)::τ) d v) h' K ()) ())
   (aJY P ib os rest (iT ((s,.bool !b)::τ) d (.iF [])) h K ()) (aJY P ib os rest (iT τ d (.iF [])) h K ()) ()) ():=by
 unfold aJY
 rw[aJW]
 simp only[gQ,aE6]
 cases (os.toArray[g]?).bind (·.dst)with
 |none=>rfl
 |some s =>
  simp only[qB]
  cases dB τ s <;> first|rfl|(rename_i cs;cases cs <;> rfl)
end
def aJZ (P:Program) (ib:List Nat) (os:List Oper) (ms:List Nat) (cr:List (Nat×Nat)) (l:xH) (pr:List (Nat×Nat)) (τ:cJ) (h:Heap) (K:cJ->Heap->Prop) (_:Tag (os,K)):Prop:=aLS P ib os.toArray ms cr l pr τ h K
def aQX (P:Program) (ib:List Nat) (os:List Oper) (cr:List (Nat×Nat)) (i:Nat) (m:Bool) (o:Oper) (pr:List (Nat×Nat)) (τ:cJ) (h:Heap) (K:List (Nat×Nat)->cJ->Heap->Prop) (_:Tag (os,o,K)):Prop :=
 match o.guard with
 |none=>aNK P ib cr i m o (xY os.toArray o τ) pr h (λpr' v h'=>K pr' (iT τ o.dst v) h')
 |some (g,b)=>match (os.toArray[g]?).bind (·.dst)with
  |some d=>match dB τ d with
   | .bool b'=>(b'=b->aNK P ib cr i m o (xY os.toArray o ((d,.bool b)::τ)) pr h (λpr' v h'=>K pr' (iT ((d,.bool b)::τ) o.dst v) h')) /\
     (b'=!b->K pr (iT ((d,.bool !b)::τ) o.dst (.iF [])) h)
   | .iF []=>K pr (iT τ o.dst (.iF [])) h
   | _=>False
  |none=>False
def a1C (os:List Oper) (i:Nat) (K:Oper->Prop) (_:Tag (os,K)):Prop:=match os[i]? with|some o=>K o|none=>False
@[go_sem] theorem bV4 (o:Oper) (os:List Oper) (K:Oper->Prop) (t:Tag (o::os,K)):a1C (o::os) 0 K t=K o:=rfl
@[go_sem] theorem bV5 (o:Oper) (os:List Oper) (i:Nat) (K:Oper->Prop) (t:Tag (o::os,K)):a1C (o::os) (i+1) K t=a1C os i K ():=rfl
def a4O (os:List Oper) (o:Oper) (τ:cJ) (_:Tag (os,o)):Operand->aC:=xY os.toArray o τ
section
variable (P:Program) (ib:List Nat) (os:List Oper) (τ:cJ) (h:Heap) (K:cJ->Heap->Prop) (d:Option Tmp) (op:Op) (ty:TypeId) (p:String) (af:Array Edge)
variable (cr:List (Nat×Nat)) (pr:List (Nat×Nat)) (i:Nat)
@[go_sem] theorem bV6 (ms:List Nat) (t:Tag (os,K)):aJZ P ib os ms cr .nil pr τ h K t=K τ h:=rfl
theorem a4P (ms:List Nat) (i:Nat) (C:List (Nat×Nat)->cJ->Heap->Prop):OpD P ib os.toArray ms cr i pr τ h C=a1C os i (λo=>aQX P ib os cr i (ms.contains i) o pr τ h C ()) ():=by
 simp only[OpD,a1C,aQX,a4A]
 cases os[i]? <;> rfl
@[go_sem] theorem bX1 (ms:List Nat) (l:xH) (i:Nat) (t:Tag (os,K)):aJZ P ib os ms cr (.op i l) pr τ h K t=a1C os i (λo=>aQX P ib os cr i (ms.contains i) o pr τ h (λpr' τ' h'=>aJZ P ib os ms cr l pr' τ' h' K ()) ()) ():=by
 simp only[aJZ,aLS];exact a4P P ib os τ h cr pr ms i _
@[go_sem] theorem bV7 (ms:List Nat) (l q:xH) (i j:Nat) (t:Tag (os,K)):aJZ P ib os ms cr (.alt i l j q) pr τ h K t=((a1C os i (λo=>aQX P ib os cr i (ms.contains i) o pr τ h (λpr' τ' h'=>aJZ P ib os ms cr l pr' τ' h' K ()) ()) ())/\a1C os j (λo=>aQX P ib os cr j (ms.contains j) o pr τ h (λpr' τ' h'=>aJZ P ib os ms cr q pr' τ' h' K ()) ()) ()):=by
 simp only[aJZ,aLS];rw[a4P P ib os τ h cr pr ms i _,a4P P ib os τ h cr pr ms j _]
@[go_sem] theorem bX2 (o:Oper) (t:Tag (os,o)) (k:Nat):a4O os o τ t (.tmp k)=if (xG os.toArray o).contains k then dB τ k else .any:=rfl
@[go_sem] theorem bSS (o:Oper) (t:Tag (os,o)) (v:Value):a4O os o τ t (.const v)=aC.ofValue v:=rfl
@[go_sem] theorem bV8 (o:Oper) (t:Tag (os,o)) (f:FuncId):a4O os o τ t (.func f)=hev τ (.func f):=rfl
def j8:Op->Bool
 | .load _ _=>true
 | _=>false
def aNL (d:Option Tmp) (op:Op) (ρ:Operand->aC) (M:List (Nat×Nat)->aC->Heap->Prop) (_:Tag (op,M)):Prop :=
 if j8 op then a06 P ⟨d,op,0,"",#[],none⟩ ρ h (λn v=>M (a08 cr i n pr) v h)else zB P ib ⟨d,op,0,"",#[],none⟩ ρ h (λv h'=>aQT cr i pr h h'/\M pr v h')
theorem a92 (ρ:Operand->aC) (g:Option (Nat×Bool)) (M:List (Nat×Nat)->aC->Heap->Prop):aNK P ib cr i true ⟨d,op,ty,p,af,g⟩ ρ pr h M=aNL P ib h cr pr i d op ρ M ():=by
 unfold aNK aNL
 cases op <;> rfl
@[go_sem] theorem b4V (L:List (Nat×Nat)->cJ->Heap->Prop) (t:Tag (os,(⟨d,op,ty,p,af,none⟩:Oper),L)):aQX P ib os cr i true ⟨d,op,ty,p,af,none⟩ pr τ h L t=aNL P ib h cr pr i d op (a4O os ⟨d,op,ty,p,af,none⟩ τ ()) (λpr' v h'=>L pr' (iT τ d v) h') ():=by
 rw[←a92 (ty:=ty) (p:=p) (af:=af) (g:=none)];rfl
@[go_sem] theorem b4W (L:List (Nat×Nat)->cJ->Heap->Prop) (t:Tag (os,(⟨d,op,ty,p,af,none⟩:Oper),L)):aQX P ib os cr i false ⟨d,op,ty,p,af,none⟩ pr τ h L t=stepG P ib d op (a4O os ⟨d,op,ty,p,af,none⟩ τ ()) (λv=>L pr (iT τ d v) h) ():=rfl
@[go_sem] theorem b27 (L:List (Nat×Nat)->cJ->Heap->Prop) (g:Nat) (b:Bool) (t:Tag (os,(⟨d,op,ty,p,af,some (g,b)⟩:Oper),L)):aQX P ib os cr i true ⟨d,op,ty,p,af,some (g,b)⟩ pr τ h L t =
  gQ (aE6 os g ()) (λs=>qB (dB τ s) b (aNL P ib h cr pr i d op (a4O os ⟨d,op,ty,p,af,some (g,b)⟩ ((s,.bool b)::τ) ()) (λpr' v h'=>L pr' (iT ((s,.bool b)::τ) d v) h') ())
   (L pr (iT ((s,.bool !b)::τ) d (.iF [])) h) (L pr (iT τ d (.iF [])) h) ()) ():=by
 simp only[aQX,gQ,aE6,←a92 (ty:=ty) (p:=p) (af:=af) (g:=some (g,b))]
 cases (os.toArray[g]?).bind (·.dst)with
 |none=>rfl
 |some s =>
  simp only[qB]
  cases dB τ s <;> first|rfl|(rename_i cs;cases cs <;> rfl)
@[go_sem] theorem b28 (L:List (Nat×Nat)->cJ->Heap->Prop) (g:Nat) (b:Bool) (t:Tag (os,(⟨d,op,ty,p,af,some (g,b)⟩:Oper),L)):aQX P ib os cr i false ⟨d,op,ty,p,af,some (g,b)⟩ pr τ h L t =
  gQ (aE6 os g ()) (λs=>qB (dB τ s) b (stepG P ib d op (a4O os ⟨d,op,ty,p,af,some (g,b)⟩ ((s,.bool b)::τ) ()) (λv=>L pr (iT ((s,.bool b)::τ) d v) h) ())
   (L pr (iT ((s,.bool !b)::τ) d (.iF [])) h) (L pr (iT τ d (.iF [])) h) ()) ():=by
 simp only[aQX,gQ,aE6]
 cases (os.toArray[g]?).bind (·.dst)with
 |none=>rfl
 |some s =>
  simp only[qB]
  cases dB τ s <;> first|rfl|(rename_i cs;cases cs <;> rfl)
end
def p2 (P:Program) (N:Nat) (keep ib:List Nat) (mk:Marks) (c:Code) (K:cJ->Heap->Prop) (Q:Exit->cJ->Heap->Prop) (τ:cJ) (h:Heap) (_:Tag (c,K,Q)):Prop:=hwp P N keep ib mk c K Q τ h
section
variable (P:Program) (N:Nat) (keep ib:List Nat) (mk:Marks) (K:cJ->Heap->Prop) (Q:Exit->cJ->Heap->Prop) (τ:cJ) (h:Heap)
@[go_sem] theorem bV9 (t:Tag (Code.skip,K,Q)):p2 P N keep ib mk .skip K Q τ h t=K τ h:=rfl
@[go_sem] theorem bX3 (t:Tag (Code.ret,K,Q)):p2 P N keep ib mk .ret K Q τ h t=Q .ret τ h:=rfl
@[go_sem] theorem bWA (i:Nat) (t:Tag (Code.exit i,K,Q)):p2 P N keep ib mk (.exit i) K Q τ h t=Q (.exit i) τ h:=rfl
@[go_sem] theorem bX4 (a b:Code) (t:Tag (Code.seq a b,K,Q)):p2 P N keep ib mk (.seq a b) K Q τ h t=p2 P N keep ib mk a (λτ h=>p2 P N keep ib mk b K Q τ h ()) Q τ h ():=rfl
@[go_sem] theorem bWB (x:Operand) (a b:Code) (t:Tag (Code.cond x a b,K,Q)):p2 P N keep ib mk (.cond x a b) K Q τ h t=aE5 (hev τ x) (p2 P N keep ib mk a K Q τ h ()) (p2 P N keep ib mk b K Q τ h ()) ():=by
 simp only[p2,hwp,aE5];cases hev τ x <;> rfl
@[go_sem] theorem bST (i:Nat) (c:Code) (t:Tag (Code.block i c,K,Q)):p2 P N keep ib mk (.block i c) K Q τ h t=p2 P N keep ib mk c K (aLT i K Q ()) τ h ():=rfl
@[go_sem] theorem bWC (c:Code) (t:Tag (Code.loop c,K,Q)):p2 P N keep ib mk (.loop c) K Q τ h t=aLU P N (.loop c) (a1B K Q ()) τ h ():=rfl
@[go_sem] theorem bPN (i:Nat) (os:List Oper) (t:Tag (Code.region i ⟨os⟩ false,K,Q)):p2 P N keep ib mk (.region i ⟨os⟩ false) K Q τ h t=aJY P ib os os τ h (λτ' h'=>K (Hl.prune keep τ') h') ():=rfl
@[go_sem] theorem bWD (i:Nat) (os:List Oper) (t:Tag (Code.region i ⟨os⟩ true,K,Q)):p2 P N keep ib mk (.region i ⟨os⟩ true) K Q τ h t=aJZ P ib os (mk i).1 (mk i).2.2 (mk i).2.1 [] τ h (λτ' h'=>K (Hl.prune keep τ') h') ():=rfl
end
theorem aQY {P:Program} {N:Nat} {keep ib:List Nat} {mk:Marks} (hmix:P.follows .mixedOrders=true) (c:Code) (K:cJ->Heap->Prop) (Q:Exit->cJ->Heap->Prop) (τ:cJ) (h:Heap) (hc:iV N mk c=true) (hw:p2 P N keep ib mk c K Q τ h ()):tE P N c (a1B K Q ()) τ h :=
 wA hmix c K Q τ h hc hw
def a1D:Op->Bool
 | .box ..=>false
 | .buildSlice ..=>false
 | .call ⟨.builtin .append,_,_⟩=>false
 | _=>true
theorem gI {P:Program} {ib:List Nat} {d:Option Tmp} {op:Op} {ρ:Operand->aC} {h:Heap} {K:aC->Heap->Prop} {t:Tag (op,K)} (hop:a1D op=true):lG P ib d op ρ h K t=step P ⟨d,op,0,"",#[],none⟩ ρ h K:=by
 unfold lG zB
 cases d with
 |none=>rfl
 |some d =>
  simp only
  split
  ·cases op <;> first|rfl|(simp[a1D]at hop;done)|(rename_i c;rcases c with⟨f,as,ats⟩;cases f <;> first|rfl|(rename_i b;cases b <;> first|rfl|(simp[a1D]at hop;done)))
  ·rfl
theorem iW {P:Program} {ib:List Nat} {d:Option Tmp} {op:Op} {ρ:Operand->aC} {K:aC->Prop} {t:Tag (op,K)} (hop:a1D op=true):stepG P ib d op ρ K t=aNJ P ⟨d,op,0,"",#[],none⟩ ρ K:=by
 unfold stepG aLR
 cases d with
 |none=>rfl
 |some d =>
  simp only
  split
  ·cases op <;> first|rfl|(simp[a1D]at hop)
  ·rfl
def aOG (P:Program) (op:BinOp) (ty:TypeId) (x y:aC) (K:aC->Prop) (_:Tag K):Prop:=aBS P op ty x y K
def aQZ (P:Program) (op:BinOp) (ty:TypeId) (c:Bool) (x y:aC) (K:aC->Prop) (_:Tag K):Prop:=aBT P op ty c x y K
def nN (P:Program) (op:BinOp) (ty:TypeId) (x y:aC) (K:aC->Prop) (_:Tag K):Prop:=iU P op ty x y K
def unF (op:UnOp) (x:aC) (K:aC->Prop) (_:Tag K):Prop:=aLN op x K
def faF (d:Option TyD) (f:Nat) (x:aC) (K:aC->Prop) (_:Tag K):Prop:=aLO d f x K
def iaF (re:Option nK) (x i:aC) (K:aC->Prop) (_:Tag K):Prop:=aLP re x i K
def ixF (d:Option TyD) (x i:aC) (K:aC->Prop) (_:Tag K):Prop:=aHF d x i K
def ldF (r:Option nK) (a:aC) (h:Heap) (K:aC->Prop) (_:Tag K):Prop:=lC r a h K
def stF (r:Option nK) (a v:aC) (h:Heap) (K:Heap->Prop) (_:Tag K):Prop:=aWP r a v h K
def alF (r:Option nK) (h:Heap) (K:aC->Heap->Prop) (_:Tag K):Prop:=aLQ r h K
def mkF (re:Option nK) (l c:aC) (h:Heap) (K:aC->Heap->Prop) (_:Tag K):Prop:=aQH re l c h K
def slD (P:Program) (t:TypeId) (x:aC) (lo hi:Option aC) (K:aC->Prop) (_:Tag K):Prop:=v8 P t x lo hi K
def slF (P:Program) (t:TypeId) (x:aC) (lo hi:Option aC) (K:aC->Prop) (_:Tag K):Prop:=nY P t x lo hi K
def bGF (P:Program) (d:Option TyD) (x:aC) (K:aC->Prop) (_:Tag K):Prop:=match d,x with
  |some (.slice _),.sl _ es _=>es.length<=9223372036854775807->K (.int .i64 es.length)
  |some (.slice _),.os _ _ _ n=>n<=9223372036854775807->K (.int .i64 n)
  |some (.slice _),.aV=>K (.int .i64 0)
  |some .str,.str s=>s.length<=9223372036854775807->K (.int .i64 s.length)
  | _,_=>False
def bGG (P:Program) (d:Option TyD) (x:aC) (K:aC->Prop) (_:Tag K):Prop:=match d,x with
  |some (.slice _),.sl _ es _=>K (.int .i64 es.length)
  |some (.slice _),.os _ _ _ n=>K (.int .i64 n)
  |some (.slice _),.aV=>K (.int .i64 0)
  |some .str,.str s=>K (.int .i64 s.length)
  | _,_=>False
def cvF (P:Program) (s:Option TyD) (d:Option TyD) (x:aC) (K:aC->Prop) (_:Tag K):Prop:=match d,x with
 |some (.int k'),.int k n=>s.isSome=true/\K (.int k' (k'.wrap n))
 |some .str,.sl 1 es _=>(match s with
  |some (.slice et)=>dOf P et=some (.int .u8)/\(match bytesOf es with|some bs=>K (.str bs)|none=>False)
  | _=>False)
 | _,_=>False
def bLF (P:Program) (t:TypeId) (x:aC) (lo:Option aC) (hi mx:aC) (K:aC->Prop) (_:Tag K):Prop:=sF P t x lo hi mx K
def rdF (cr:List (Nat×Nat)) (i:Nat) (pr:List (Nat×Nat)) (r:Option nK) (x:aC) (h:Heap) (M:List (Nat×Nat)->aC->Heap->Prop) (_:Tag M):Prop:=match x with
 | .op n sz j off=>lC r (.op n sz j off) h λv=>M (a08 cr i (some n) pr) v h
 | .ip sz es j off=>lC r (.ip sz es j off) h λv=>M (a08 cr i none pr) v h
 | _=>False
def bLG (c A:Prop) (_:Tag A):Prop:=c/\A
@[go_sem] theorem b3E (c A:Prop) (t:Tag A):bLG c A t=(c/\A):=rfl
@[go_sem high] theorem bWG (A:Prop) (t:Tag A):bLG True A t=A:=by simp[bLG]
def buF (P:Program) (r:Option nK) (ps:List (Nat×aC)) (K:aC->Prop) (_:Tag K):Prop:=yL P r ps K
def exF (x:aC) (i:Nat) (K:aC->Prop) (_:Tag K):Prop:=match x with
  | .iF cs=>match cs[i]? with|some x=>K x|none=>False
  | _=>False
def ncF (x:aC) (K:aC->Prop) (_:Tag K):Prop:=match x with
  | .op n sz i k=>K (.op n sz i k)
  | .ip sz es i k=>K (.ip sz es i k)
  | _=>False
def bPP (P:Program) (f:aC) (args:List aC) (h:Heap) (K:aC->Heap->Prop) (_:Tag K):Prop:=match f with
  | .fn (.func g) first cap=>gK P g (first++args++cap) h K
  | _=>False
def bPQ (P:Program) (f:aC) (args:List aC) (K:aC->Prop) (_:Tag K):Prop:=match f with
  | .fn (.func g) first cap=>bGB P g (first++args++cap) K
  | _=>False
def aH (P:Program) (g:FuncId) (args:List aC) (h:Heap) (K:aC->Heap->Prop) (_:Tag K):Prop:=gK P g args h K
def aE (P:Program) (g:FuncId) (args:List aC) (K:aC->Prop) (_:Tag K):Prop:=bGB P g args K
theorem aH.mk {P:Program} {g:FuncId} {args:List aC} {h:Heap} {K:aC->Heap->Prop} {t:Tag K} {r:aC} (a:dQ P g args r) (k:K r h):aH P g args h K t:=dQ.call a k
theorem aE.mk {P:Program} {g:FuncId} {args:List aC} {K:aC->Prop} {t:Tag K} {r:aC} (a:dQ P g args r) (k:K r):aE P g args K t:=⟨r,a,k⟩
section
variable (P:Program) (ib:List Nat) (d:Option Tmp) (ρ:Operand->aC) (h:Heap) (K:aC->Heap->Prop) (L:aC->Prop)
@[go_sem] theorem b3H (x:Operand) (t:Tag (Op.move x,K)):lG P ib d (.move x) ρ h K t=K (ρ x) h:=by rw[gI rfl];rfl
@[go_sem] theorem b3I (x:Operand) (t:Tag (Op.move x,L)):stepG P ib d (.move x) ρ L t=L (ρ x):=by rw[iW rfl];rfl
@[go_sem] theorem bWH (x:Operand) (t:Tag (Op.assign x,K)):lG P ib d (.assign x) ρ h K t=K (ρ x) h:=by rw[gI rfl];rfl
@[go_sem] theorem bWI (x:Operand) (t:Tag (Op.assign x,L)):stepG P ib d (.assign x) ρ L t=L (ρ x):=by rw[iW rfl];rfl
@[go_sem] theorem b3J (c a b:Operand) (t:Tag (Op.pick c a b,K)):lG P ib d (.pick c a b) ρ h K t=aE5 (ρ c) (K (ρ a) h) (K (ρ b) h) ():=by
 rw[gI rfl];simp only[step,aE5];cases ρ c <;> rfl
@[go_sem] theorem b3K (c a b:Operand) (t:Tag (Op.pick c a b,L)):stepG P ib d (.pick c a b) ρ L t=aE5 (ρ c) (L (ρ a)) (L (ρ b)) ():=by
 rw[iW rfl];simp only[aNJ,aE5];cases ρ c <;> rfl
@[go_sem] theorem b4Z (op:BinOp) (ty ty':TypeId) (x y:Operand) (t:Tag (Op.binOp op ty x y ty',K)):lG P ib d (.binOp op ty x y ty') ρ h K t=aQZ P op ty (xX y) (ρ x) (ρ y) (λv=>K v h) ():=by rw[gI rfl];rfl
@[go_sem] theorem b40 (op:BinOp) (ty ty':TypeId) (x y:Operand) (t:Tag (Op.binOp op ty x y ty',L)):stepG P ib d (.binOp op ty x y ty') ρ L t=nN P op ty (ρ x) (ρ y) L ():=by rw[iW rfl];rfl
@[go_sem] theorem b69 (op:UnOp) (ty:TypeId) (x:Operand) (t:Tag (Op.unOp op ty x,K)):lG P ib d (.unOp op ty x) ρ h K t=unF op (ρ x) (λv=>K v h) ():=by rw[gI rfl];rfl
@[go_sem] theorem b7A (op:UnOp) (ty:TypeId) (x:Operand) (t:Tag (Op.unOp op ty x,L)):stepG P ib d (.unOp op ty x) ρ L t=unF op (ρ x) L ():=by rw[iW rfl];rfl
@[go_sem] theorem b3L (s e:TypeId) (x:Operand) (t:Tag (Op.convert s e x,K)):lG P ib d (.convert s e x) ρ h K t=cvF P (dOf P s) (dOf P e) (ρ x) (λv=>K v h) ():=by rw[gI rfl];rfl
@[go_sem] theorem b3M (s e:TypeId) (x:Operand) (t:Tag (Op.convert s e x,L)):stepG P ib d (.convert s e x) ρ L t=cvF P (dOf P s) (dOf P e) (ρ x) L ():=by rw[iW rfl];rfl
@[go_sem] theorem b7B (ty:TypeId) (x:Operand) (f:Nat) (t:Tag (Op.fieldAddr ty x f,K)):lG P ib d (.fieldAddr ty x f) ρ h K t=faF (dOf P ty) f (ρ x) (λv=>K v h) ():=by rw[gI rfl];rfl
@[go_sem] theorem b7C (ty:TypeId) (x:Operand) (f:Nat) (t:Tag (Op.fieldAddr ty x f,L)):stepG P ib d (.fieldAddr ty x f) ρ L t=faF (dOf P ty) f (ρ x) L ():=by rw[iW rfl];rfl
@[go_sem] theorem b7D (ty:TypeId) (x i:Operand) (t:Tag (Op.indexAddr ty x i,K)):lG P ib d (.indexAddr ty x i) ρ h K t=iaF (nV P ty) (ρ x) (ρ i) (λv=>K v h) ():=by rw[gI rfl];rfl
@[go_sem] theorem b7E (ty:TypeId) (x i:Operand) (t:Tag (Op.indexAddr ty x i,L)):stepG P ib d (.indexAddr ty x i) ρ L t=iaF (nV P ty) (ρ x) (ρ i) L ():=by rw[iW rfl];rfl
@[go_sem] theorem b7F (ty:TypeId) (x i:Operand) (t:Tag (Op.index ty x i,K)):lG P ib d (.index ty x i) ρ h K t=ixF (dOf P ty) (ρ x) (ρ i) (λv=>K v h) ():=by rw[gI rfl];rfl
@[go_sem] theorem b7G (ty:TypeId) (x i:Operand) (t:Tag (Op.index ty x i,L)):stepG P ib d (.index ty x i) ρ L t=ixF (dOf P ty) (ρ x) (ρ i) L ():=by rw[iW rfl];rfl
@[go_sem] theorem b7H (ty:TypeId) (a:Operand) (t:Tag (Op.load ty a,K)):lG P ib d (.load ty a) ρ h K t=ldF (gZ P ty) (ρ a) h (λv=>K v h) ():=by rw[gI rfl];rfl
@[go_sem] theorem b7I (ty:TypeId) (a v:Operand) (t:Tag (Op.store ty a v,K)):lG P ib d (.store ty a v) ρ h K t=stF (gZ P ty) (ρ a) (ρ v) h (λh'=>K .any h') ():=by rw[gI rfl];rfl
@[go_sem] theorem b7J (ty:TypeId) (t:Tag (Op.alloc ty,K)):lG P ib d (.alloc ty) ρ h K t=alF (gZ P ty) h K ():=by rw[gI rfl];rfl
@[go_sem] theorem b7K (ty:TypeId) (l c:Operand) (t:Tag (Op.makeSlice ty l c,K)):lG P ib d (.makeSlice ty l c) ρ h K t=mkF (nV P ty) (ρ l) (ρ c) h K ():=by rw[gI rfl];rfl
@[go_sem] theorem b7L (ty:TypeId) (x:Operand) (lo hi:Option Operand) (t:Tag (Op.slice ty x lo hi none,K)):lG P ib d (.slice ty x lo hi none) ρ h K t=slD P ty (ρ x) (lo.map ρ) (hi.map ρ) (λv=>K v h) ():=by rw[gI rfl];rfl
@[go_sem] theorem b7M (ty:TypeId) (x:Operand) (lo hi:Option Operand) (t:Tag (Op.slice ty x lo hi none,L)):stepG P ib d (.slice ty x lo hi none) ρ L t=slF P ty (ρ x) (lo.map ρ) (hi.map ρ) L ():=by rw[iW rfl];rfl
@[go_sem] theorem b41 (ty:TypeId) (x:Operand) (lo:Option Operand) (hi mx:Operand) (t:Tag (Op.slice ty x lo (some hi) (some mx),K)):lG P ib d (.slice ty x lo (some hi) (some mx)) ρ h K t=bLF P ty (ρ x) (lo.map ρ) (ρ hi) (ρ mx) (λv=>K v h) ():=by rw[gI rfl];rfl
@[go_sem] theorem b42 (ty:TypeId) (x:Operand) (lo:Option Operand) (hi mx:Operand) (t:Tag (Op.slice ty x lo (some hi) (some mx),L)):stepG P ib d (.slice ty x lo (some hi) (some mx)) ρ L t=bLF P ty (ρ x) (lo.map ρ) (ρ hi) (ρ mx) L ():=by rw[iW rfl];rfl
@[go_sem] theorem b7N (cr pr:List (Nat×Nat)) (i:Nat) (ty:TypeId) (a:Operand) (M:List (Nat×Nat)->aC->Heap->Prop) (t:Tag (Op.load ty a,M)):aNL P ib h cr pr i d (.load ty a) ρ M t=rdF cr i pr (gZ P ty) (ρ a) h M ():=by
 unfold aNL a06 rdF;simp only[j8,if_true]
 cases ρ a <;> rfl
@[go_sem] theorem b43 (cr pr:List (Nat×Nat)) (i:Nat) (op:Op) (M:List (Nat×Nat)->aC->Heap->Prop) (t:Tag (op,M)) (hop:j8 op=false):aNL P ib h cr pr i d op ρ M t=lG P ib d op ρ h (λv h'=>bLG (aQT cr i pr h h') (M pr v h') ()) ():=by
 unfold aNL;rw[hop];rfl
@[go_sem] theorem b7O (x:Operand) (i:Nat) (t:Tag (Op.extract x i,K)):lG P ib d (.extract x i) ρ h K t=exF (ρ x) i (λv=>K v h) ():=by rw[gI rfl];rfl
@[go_sem] theorem b7P (x:Operand) (i:Nat) (t:Tag (Op.extract x i,L)):stepG P ib d (.extract x i) ρ L t=exF (ρ x) i L ():=by rw[iW rfl];rfl
@[go_sem] theorem b7Q (x:Operand) (t:Tag (Op.nilCheck x,K)):lG P ib d (.nilCheck x) ρ h K t=ncF (ρ x) (λv=>K v h) ():=by rw[gI rfl];rfl
@[go_sem] theorem b7R (x:Operand) (t:Tag (Op.nilCheck x,L)):stepG P ib d (.nilCheck x) ρ L t=ncF (ρ x) L ():=by rw[iW rfl];rfl
@[go_sem] theorem b7S (f:Fn) (fs cs:Array Operand) (t:Tag (Op.makeFunc f fs cs,K)):lG P ib d (.makeFunc f fs cs) ρ h K t=K (.fn f (fs.toList.map ρ) (cs.toList.map ρ)) h:=by rw[gI rfl];rfl
@[go_sem] theorem b7T (f:Fn) (fs cs:Array Operand) (t:Tag (Op.makeFunc f fs cs,L)):stepG P ib d (.makeFunc f fs cs) ρ L t=L (.fn f (fs.toList.map ρ) (cs.toList.map ρ)):=by rw[iW rfl];rfl
@[go_sem] theorem b7U (ty:TypeId) (ps:Array (Nat×Operand)) (t:Tag (Op.build ty ps,K)):lG P ib d (.build ty ps) ρ h K t=buF P (gZ P ty) (ps.toList.map λp=>(p.1,ρ p.2)) (λv=>K v h) ():=by rw[gI rfl];rfl
@[go_sem] theorem b7V (ty:TypeId) (ps:Array (Nat×Operand)) (t:Tag (Op.build ty ps,L)):stepG P ib d (.build ty ps) ρ L t=buF P (gZ P ty) (ps.toList.map λp=>(p.1,ρ p.2)) L ():=by rw[iW rfl];rfl
@[go_sem] theorem b3N (f:Operand) (as:Array Operand) (ats:Array TypeId) (t:Tag (Op.call ⟨.value f,as,ats⟩,K)):lG P ib d (.call ⟨.value f,as,ats⟩) ρ h K t=bPP P (ρ f) (as.toList.map ρ) h K ():=by rw[gI rfl];rfl
@[go_sem] theorem b3O (f:Operand) (as:Array Operand) (ats:Array TypeId) (t:Tag (Op.call ⟨.value f,as,ats⟩,L)):stepG P ib d (.call ⟨.value f,as,ats⟩) ρ L t=bPQ P (ρ f) (as.toList.map ρ) L ():=by rw[iW rfl];rfl
end
section
variable (P:Program) (ib:List Nat) (d:Option Tmp) (ρ:Operand->aC) (h:Heap) (K:aC->Heap->Prop) (L:aC->Prop)
def ldG (r:Option nK) (a:aC) (K:aC->Prop) (_:Tag K):Prop:=match a with
  | .ip sz es i off=>lC r (.ip sz es i off) (λ_=>none) K
  | _=>False
@[go_sem] theorem b7W (ty:TypeId) (a:Operand) (t:Tag (Op.load ty a,L)):stepG P ib d (.load ty a) ρ L t=ldG (gZ P ty) (ρ a) L ():=by
 rw[iW rfl];simp only[aNJ,ldG];cases ρ a <;> rfl
@[go_sem] theorem b44 (x:Operand) (ty:TypeId) (t:Tag (Op.call ⟨.builtin .len,#[x],#[ty]⟩,K)):lG P ib d (.call ⟨.builtin .len,#[x],#[ty]⟩) ρ h K t=bGF P (dOf P ty) (ρ x) (λv=>K v h) ():=by rw[gI rfl];rfl
@[go_sem] theorem b45 (x:Operand) (ty:TypeId) (t:Tag (Op.call ⟨.builtin .len,#[x],#[ty]⟩,L)):stepG P ib d (.call ⟨.builtin .len,#[x],#[ty]⟩) ρ L t=bGG P (dOf P ty) (ρ x) L ():=by rw[iW rfl];rfl
def bLH (x y:aC) (K:aC->Prop) (_:Tag K):Prop:=match x,y with
   | .int k a,.int k' b=>k'=k/\K (.int k (max a b))
   | _,_=>False
@[go_sem] theorem bX5 (k k':IntKind) (a b:Int) (t:Tag L):bLH (.int k a) (.int k' b) L t=(k'=k/\L (.int k (max a b))):=rfl
theorem a94 (x y:aC) (K:aC->Prop):(match x,y with
   | .int k a,.int _ b=>(match y with | .int k' _=>k'=k|_=>False)/\K (.int k (max a b))
   | _,_=>False)=bLH x y K ():=by cases x <;> cases y <;> rfl
@[go_sem] theorem b46 (x y:Operand) (ats:Array TypeId) (t:Tag (Op.call ⟨.builtin .max,#[x,y],ats⟩,K)):lG P ib d (.call ⟨.builtin .max,#[x,y],ats⟩) ρ h K t=bLH (ρ x) (ρ y) (λv=>K v h) ():=by
 rw[gI rfl,←a94];rfl
@[go_sem] theorem b47 (x y:Operand) (ats:Array TypeId) (t:Tag (Op.call ⟨.builtin .max,#[x,y],ats⟩,L)):stepG P ib d (.call ⟨.builtin .max,#[x,y],ats⟩) ρ L t=bLH (ρ x) (ρ y) L ():=by
 rw[iW rfl,←a94];rfl
def apF (P:Program) (re:Option nK) (t1:Option TypeId) (x y:aC) (h:Heap) (K:aC->Heap->Prop) (_:Tag K):Prop:=aC2 P re t1 x y h K
def aJ0 (ib:List Nat) (d:Option Tmp):Bool:=match d with|some d=>ib.contains d|none=>false
@[go_sem] theorem bSU (k:Nat):aJ0 ib (some k)=ib.contains k:=rfl
def apI (i:Bool) (P:Program) (re:Option nK) (t1:Option TypeId) (x y:aC) (h:Heap) (K:aC->Heap->Prop) (_:Tag K):Prop:=if i then apF P re t1 x y h (a9W K) ()else apF P re t1 x y h K ()
@[go_sem] theorem b48 (x y:Operand) (a b:TypeId) (t:Tag (Op.call ⟨.builtin .append,#[x,y],#[a,b]⟩,K)):lG P ib d (.call ⟨.builtin .append,#[x,y],#[a,b]⟩) ρ h K t=apI (aJ0 ib d) P (nV P a) (some b) (ρ x) (ρ y) h K ():=by
 unfold lG zB apI aJ0
 cases d with
 |none=>rfl
 |some d=>simp only;split <;> rfl
@[go_sem] theorem b7X (re:Option nK) (t1:Option TypeId) (x y:aC) (t:Tag K):apI true P re t1 x y h K t=apF P re t1 x y h (a9W K) ():=rfl
@[go_sem] theorem b7Y (re:Option nK) (t1:Option TypeId) (x y:aC) (t:Tag K):apI false P re t1 x y h K t=apF P re t1 x y h K ():=rfl
def bGH (i r:Bool) (ty:TypeId) (x:aC) (h:Heap) (K:aC->Heap->Prop) (_:Tag K):Prop:=if i then aQK x (λv=>K v h)else if r then a9V ty x h K else a9U x h K
@[go_sem] theorem b49 (ty:TypeId) (x:Operand) (t:Tag (Op.box ty x,K)):lG P ib d (.box ty x) ρ h K t=bGH (aJ0 ib d) (bR5 ty) ty (ρ x) h K ():=by
 unfold lG zB bGH aJ0
 cases d with
 |none=>rfl
 |some d=>simp only;split <;> rfl
@[go_sem] theorem b3R (ty:TypeId):bR5 ty=(match bFT with|none=>false|some r=>decide (ty=r)):=rfl
attribute [go_sem] bFT
@[go_sem] theorem b5A (r:Bool) (ty:TypeId) (x:aC) (t:Tag K):bGH true r ty x h K t=(x.cells.all aC.flat=true/\K (.ip x.cells.length [x.cells] 0 0) h):=rfl
@[go_sem] theorem b5B (ty:TypeId) (x:aC) (t:Tag K):bGH false true ty x h K t=(x.cells=[.lB,.aV]/\∀ n,h n=none->K (.op n 2 0 0) (bT h n (.raw ty #[.pointer none,.slice none 0 0]))):=rfl
@[go_sem] theorem b5C (ty:TypeId) (x:aC) (t:Tag K):bGH false false ty x h K t=(x.cells.all aC.flat=true/\∀ n,h n=none->K (.op n x.cells.length 0 0) (bT h n (.row x.cells.length [x.cells.map .v]))):=rfl
def bsF (i:Bool) (re:Option nK) (len:Nat) (ps:List (Nat×aC)) (h:Heap) (K:aC->Heap->Prop) (_:Tag K):Prop :=
 if i then zA re len ps (λsz es=>K (.sl sz es true) h)else zA re len ps λsz es=>∀ n,h n=none->K (.os n sz 0 len) (bT h n (.row sz (es.map (List.map .v))))
def bsG (i:Bool) (re:Option nK) (len:Nat) (ps:List (Nat×aC)) (K:aC->Prop) (_:Tag K):Prop :=
 if i then zA re len ps (λsz es=>K (.sl sz es true))else False
@[go_sem] theorem b7Z (ty:TypeId) (len:Nat) (ps:Array (Nat×Operand)) (t:Tag (Op.buildSlice ty len ps,K)):lG P ib d (.buildSlice ty len ps) ρ h K t=bsF (aJ0 ib d) (nV P ty) len (ps.toList.map λp=>(p.1,ρ p.2)) h K ():=by
 unfold lG zB bsF aJ0
 cases d with
 |none=>rfl
 |some d=>simp only;split <;> rfl
@[go_sem] theorem b70 (ty:TypeId) (len:Nat) (ps:Array (Nat×Operand)) (t:Tag (Op.buildSlice ty len ps,L)):stepG P ib d (.buildSlice ty len ps) ρ L t=bsG (aJ0 ib d) (nV P ty) len (ps.toList.map λp=>(p.1,ρ p.2)) L ():=by
 unfold stepG aLR bsG aJ0
 cases d with
 |none=>rfl
 |some d=>simp only;split <;> rfl
@[go_sem] theorem b71 (re:nK) (len:Nat) (ps:List (Nat×aC)) (t:Tag K):bsF true (some re) len ps h K t=(re.zero.length=re.sz/\0<re.sz/\re.zero.all aC.flat=true/\len*re.sz<=16777216/\v7 len re.sz ps=true/\K (.sl re.sz (y1 (List.replicate len re.zero) ps) true) h):=rfl
@[go_sem] theorem b72 (re:nK) (len:Nat) (ps:List (Nat×aC)) (t:Tag L):bsG true (some re) len ps L t=(re.zero.length=re.sz/\0<re.sz/\re.zero.all aC.flat=true/\len*re.sz<=16777216/\v7 len re.sz ps=true/\L (.sl re.sz (y1 (List.replicate len re.zero) ps) true)):=rfl
@[go_sem] theorem b73 (re:nK) (len:Nat) (ps:List (Nat×aC)) (t:Tag K):bsF false (some re) len ps h K t=(re.zero.length=re.sz/\0<re.sz/\re.zero.all aC.flat=true/\len*re.sz<=16777216/\v7 len re.sz ps=true/\∀ n,h n=none->K (.os n re.sz 0 len) (bT h n (.row re.sz ((y1 (List.replicate len re.zero) ps).map (List.map .v))))):=rfl
@[go_sem] theorem bX6 (g:FuncId) (first cap args:List aC) (t:Tag K):bPP P (.fn (.func g) first cap) args h K t=aH P g (first++args++cap) h K ():=rfl
@[go_sem] theorem bX7 (g:FuncId) (first cap args:List aC) (t:Tag L):bPQ P (.fn (.func g) first cap) args L t=aE P g (first++args++cap) L ():=rfl
@[go_sem] theorem bX8 (ty:TypeId) (k k':IntKind) (a b:Int) (t:Tag L):nN P .add ty (.int k a) (.int k' b) L t=gQ (pO .add (.int k a) (.int k' b)) L ():=by simp only[nN,iU,gQ];cases pO _ _ _ <;> rfl
@[go_sem] theorem bX9 (ty:TypeId) (k k':IntKind) (a b:Int) (t:Tag L):nN P .sub ty (.int k a) (.int k' b) L t=gQ (pO .sub (.int k a) (.int k' b)) L ():=by simp only[nN,iU,gQ];cases pO _ _ _ <;> rfl
@[go_sem] theorem bYA (ty:TypeId) (k k':IntKind) (a b:Int) (t:Tag L):nN P .mul ty (.int k a) (.int k' b) L t=gQ (pO .mul (.int k a) (.int k' b)) L ():=by simp only[nN,iU,gQ];cases pO _ _ _ <;> rfl
@[go_sem] theorem bYB (ty:TypeId) (k k':IntKind) (a b:Int) (t:Tag L):nN P .and ty (.int k a) (.int k' b) L t=gQ (pO .and (.int k a) (.int k' b)) L ():=by simp only[nN,iU,gQ];cases pO _ _ _ <;> rfl
@[go_sem] theorem b3T (ty:TypeId) (k k':IntKind) (a b:Int) (t:Tag L):nN P .or ty (.int k a) (.int k' b) L t=gQ (pO .or (.int k a) (.int k' b)) L ():=by simp only[nN,iU,gQ];cases pO _ _ _ <;> rfl
@[go_sem] theorem bYC (ty:TypeId) (k k':IntKind) (a b:Int) (t:Tag L):nN P .xor ty (.int k a) (.int k' b) L t=gQ (pO .xor (.int k a) (.int k' b)) L ():=by simp only[nN,iU,gQ];cases pO _ _ _ <;> rfl
@[go_sem] theorem bPR (ty:TypeId) (k k':IntKind) (a b:Int) (t:Tag L):nN P .andNot ty (.int k a) (.int k' b) L t=gQ (pO .andNot (.int k a) (.int k' b)) L ():=by simp only[nN,iU,gQ];cases pO _ _ _ <;> rfl
@[go_sem] theorem bYD (ty:TypeId) (k k':IntKind) (a b:Int) (t:Tag L):nN P .eql ty (.int k a) (.int k' b) L t=gQ (pO .eql (.int k a) (.int k' b)) L ():=by simp only[nN,iU,gQ];cases pO _ _ _ <;> rfl
@[go_sem] theorem bYE (ty:TypeId) (k k':IntKind) (a b:Int) (t:Tag L):nN P .neq ty (.int k a) (.int k' b) L t=gQ (pO .neq (.int k a) (.int k' b)) L ():=by simp only[nN,iU,gQ];cases pO _ _ _ <;> rfl
@[go_sem] theorem bYF (ty:TypeId) (k k':IntKind) (a b:Int) (t:Tag L):nN P .lss ty (.int k a) (.int k' b) L t=gQ (pO .lss (.int k a) (.int k' b)) L ():=by simp only[nN,iU,gQ];cases pO _ _ _ <;> rfl
@[go_sem] theorem bYG (ty:TypeId) (k k':IntKind) (a b:Int) (t:Tag L):nN P .leq ty (.int k a) (.int k' b) L t=gQ (pO .leq (.int k a) (.int k' b)) L ():=by simp only[nN,iU,gQ];cases pO _ _ _ <;> rfl
@[go_sem] theorem bYH (ty:TypeId) (k k':IntKind) (a b:Int) (t:Tag L):nN P .gtr ty (.int k a) (.int k' b) L t=gQ (pO .gtr (.int k a) (.int k' b)) L ():=by simp only[nN,iU,gQ];cases pO _ _ _ <;> rfl
@[go_sem] theorem bYI (ty:TypeId) (k k':IntKind) (a b:Int) (t:Tag L):nN P .geq ty (.int k a) (.int k' b) L t=gQ (pO .geq (.int k a) (.int k' b)) L ():=by simp only[nN,iU,gQ];cases pO _ _ _ <;> rfl
@[go_sem] theorem bYJ (ty:TypeId) (k k':IntKind) (a b:Int) (t:Tag L):nN P .quo ty (.int k a) (.int k' b) L t=(k=k'/\b≠0/\L (.int k (k.wrap (a.tdiv b)))):=rfl
@[go_sem] theorem bYK (ty:TypeId) (k k':IntKind) (a b:Int) (t:Tag L):nN P .rem ty (.int k a) (.int k' b) L t=(k=k'/\b≠0/\L (.int k (a.tmod b))):=rfl
@[go_sem] theorem bYL (ty:TypeId) (k k':IntKind) (a b:Int) (t:Tag L):nN P .shl ty (.int k a) (.int k' b) L t=(0<=b/\L (.int k (k.wrap (a*2 ^ (min b.toNat k.bits))))):=rfl
@[go_sem] theorem bYM (ty:TypeId) (k k':IntKind) (a b:Int) (t:Tag L):nN P .shr ty (.int k a) (.int k' b) L t=(0<=b/\L (.int k (a.fdiv (2 ^ (min b.toNat k.bits))))):=rfl
@[go_sem] theorem bWJ (ty:TypeId) (a b:List UInt8) (t:Tag L):nN P .add ty (.str a) (.str b) L t=(a.length+b.length<=9223372036854775807/\L (.str (a++b))):=rfl
@[go_sem] theorem bWK (ty:TypeId) (a b:List UInt8) (t:Tag L):nN P .eql ty (.str a) (.str b) L t=L (.bool (decide (a=b))):=rfl
@[go_sem] theorem bWL (ty:TypeId) (a b:List UInt8) (t:Tag L):nN P .neq ty (.str a) (.str b) L t=L (.bool (!decide (a=b))):=rfl
@[go_sem] theorem bWM (ty:TypeId) (a b:List UInt8) (t:Tag L):nN P .lss ty (.str a) (.str b) L t=L (.bool (Op.bytesLess a b)):=rfl
@[go_sem] theorem bWN (ty:TypeId) (a b:Bool) (t:Tag L):nN P .eql ty (.bool a) (.bool b) L t=(dOf P ty=some .bool/\L (.bool (a == b))):=rfl
@[go_sem] theorem bWO (ty:TypeId) (a b:Bool) (t:Tag L):nN P .neq ty (.bool a) (.bool b) L t=(dOf P ty=some .bool/\L (.bool (a != b))):=rfl
@[go_sem] theorem bJ3 (v:Value):xX (.const v)=true:=rfl
@[go_sem] theorem bPS (v:Tmp):xX (.tmp v)=false:=rfl
@[go_sem] theorem bGI (v:Nat):xX (.global v)=false:=rfl
@[go_sem] theorem bLI (v:FuncId):xX (.func v)=false:=rfl
@[go_sem] theorem bYN (op:BinOp) (ty:TypeId) (c:Bool) (k:IntKind) (a:Int) (y:aC) (t:Tag L):aQZ P op ty c (.int k a) y L t=nN P op ty (.int k a) y L ():=by cases c <;> rfl
@[go_sem] theorem bWP (op:BinOp) (ty:TypeId) (c:Bool) (a:Bool) (y:aC) (t:Tag L):aQZ P op ty c (.bool a) y L t=nN P op ty (.bool a) y L ():=by cases c <;> rfl
@[go_sem] theorem bYO (op:BinOp) (ty:TypeId) (c:Bool) (a:List UInt8) (y:aC) (t:Tag L):aQZ P op ty c (.str a) y L t=nN P op ty (.str a) y L ():=by cases c <;> rfl
@[go_sem] theorem b3U (op:BinOp) (ty:TypeId) (c:Bool) (sz:Nat) (es:List (List aC)) (b:Bool) (y:aC) (t:Tag L):aQZ P op ty c (.sl sz es b) y L t=aOG P op ty (.sl sz es b) y L ():=by cases c <;> rfl
@[go_sem] theorem bYP (ty ti:TypeId) (v:aC) (t:Tag L):aQZ P .eql ty true (.iface ti v) .lS L t=(aBQ P ty=true/\L (.bool false)):=rfl
@[go_sem] theorem bYQ (ty:TypeId) (t:Tag L):aQZ P .eql ty true .lS .lS L t=(aBQ P ty=true/\L (.bool true)):=rfl
@[go_sem] theorem bWQ (ty ti:TypeId) (v:aC) (t:Tag L):aQZ P .neq ty true (.iface ti v) .lS L t=(aBQ P ty=true/\L (.bool true)):=rfl
@[go_sem] theorem bWR (ty:TypeId) (t:Tag L):aQZ P .neq ty true .lS .lS L t=(aBQ P ty=true/\L (.bool false)):=rfl
@[go_sem] theorem bYR (op:BinOp) (ty:TypeId) (k:IntKind) (a:Int) (y:aC) (t:Tag L):aOG P op ty (.int k a) y L t=nN P op ty (.int k a) y L ():=rfl
@[go_sem] theorem bWS (op:BinOp) (ty:TypeId) (a:Bool) (y:aC) (t:Tag L):aOG P op ty (.bool a) y L t=nN P op ty (.bool a) y L ():=rfl
@[go_sem] theorem bYS (op:BinOp) (ty:TypeId) (a:List UInt8) (y:aC) (t:Tag L):aOG P op ty (.str a) y L t=nN P op ty (.str a) y L ():=rfl
@[go_sem] theorem bYT (ty:TypeId) (sz:Nat) (es:List (List aC)) (b:Bool) (t:Tag L):aOG P .eql ty (.sl sz es b) .aV L t=((match dOf P ty with|some (.slice _)=>True|_=>False)/\(es=[]->L (.bool true))/\L (.bool false)):=rfl
@[go_sem] theorem bWT (ty:TypeId) (sz:Nat) (es:List (List aC)) (b:Bool) (t:Tag L):aOG P .neq ty (.sl sz es b) .aV L t=((match dOf P ty with|some (.slice _)=>True|_=>False)/\(es=[]->L (.bool false))/\L (.bool true)):=rfl
@[go_sem] theorem b3V (op:BinOp) (ty:TypeId) (c:Bool) (m sz i len:Nat) (y:aC) (t:Tag L):aQZ P op ty c (.os m sz i len) y L t=aOG P op ty (.os m sz i len) y L ():=by cases c <;> rfl
@[go_sem] theorem bYU (op:BinOp) (ty:TypeId) (c:Bool) (y:aC) (t:Tag L):aQZ P op ty c .aV y L t=aOG P op ty .aV y L ():=by cases c <;> rfl
@[go_sem] theorem b3W (ty:TypeId) (m sz i len:Nat) (t:Tag L):aOG P .eql ty (.os m sz i len) .aV L t=((match dOf P ty with|some (.slice _)=>True|_=>False)/\(len=0->L (.bool true))/\L (.bool false)):=rfl
@[go_sem] theorem bYV (ty:TypeId) (m sz i len:Nat) (t:Tag L):aOG P .neq ty (.os m sz i len) .aV L t=((match dOf P ty with|some (.slice _)=>True|_=>False)/\(len=0->L (.bool false))/\L (.bool true)):=rfl
@[go_sem] theorem b3X (ty:TypeId) (t:Tag L):aOG P .eql ty .aV .aV L t=((match dOf P ty with|some (.slice _)=>True|_=>False)/\L (.bool true)):=rfl
@[go_sem] theorem bYW (ty:TypeId) (t:Tag L):aOG P .neq ty .aV .aV L t=((match dOf P ty with|some (.slice _)=>True|_=>False)/\L (.bool false)):=rfl
@[go_sem] theorem b3Y (b:Bool) (t:Tag L):unF .not (.bool b) L t=L (.bool (!b)):=rfl
@[go_sem] theorem b3Z (k:IntKind) (n:Int) (t:Tag L):unF .neg (.int k n) L t=L (.int k (k.wrap (0-n))):=rfl
@[go_sem] theorem b30 (s:TyD) (k k':IntKind) (n:Int) (t:Tag L):cvF P (some s) (some (.int k')) (.int k n) L t=L (.int k' (k'.wrap n)):=by simp[cvF]
@[go_sem] theorem bWU (et:TypeId) (es:List (List aC)) (b:Bool) (t:Tag L):cvF P (some (.slice et)) (some .str) (.sl 1 es b) L t=(dOf P et=some (.int .u8)/\gQ (bytesOf es) (λbs=>L (.str bs)) ()):=by
 simp only[cvF,gQ];cases bytesOf es <;> rfl
@[go_sem] theorem b5E (cr pr:List (Nat×Nat)) (i:Nat) (r:Option nK) (n sz j off:Nat) (M:List (Nat×Nat)->aC->Heap->Prop) (t:Tag M):rdF cr i pr r (.op n sz j off) h M t=ldF r (.op n sz j off) h (λv=>M (a08 cr i (some n) pr) v h) ():=rfl
@[go_sem] theorem b5F (cr pr:List (Nat×Nat)) (i:Nat) (r:Option nK) (sz j off:Nat) (es:List (List aC)) (M:List (Nat×Nat)->aC->Heap->Prop) (t:Tag M):rdF cr i pr r (.ip sz es j off) h M t=ldF r (.ip sz es j off) h (λv=>M (a08 cr i none pr) v h) ():=rfl
attribute [go_sem] a08 bF6 aD5 aQT bytesOf
@[go_sem] theorem bPT (x:Operand):j8 (.move x)=false:=rfl
@[go_sem] theorem bJ4 (x:Operand):j8 (.assign x)=false:=rfl
@[go_sem] theorem bLJ (x:TypeId):j8 (.alloc x)=false:=rfl
@[go_sem] theorem bSV (x:TypeId) (v:Operand):j8 (.box x v)=false:=rfl
@[go_sem] theorem bWV (x:TypeId) (l:Nat) (ps:Array (Nat×Operand)):j8 (.buildSlice x l ps)=false:=rfl
@[go_sem] theorem bLK (x:TypeId) (ps:Array (Nat×Operand)):j8 (.build x ps)=false:=rfl
@[go_sem] theorem bLL (x:TypeId) (a v:Operand):j8 (.store x a v)=false:=rfl
@[go_sem] theorem bWW (x:TypeId) (a v:Operand):j8 (.makeSlice x a v)=false:=rfl
@[go_sem] theorem bPU (c:Call):j8 (.call c)=false:=rfl
@[go_sem] theorem bWX (x:TypeId) (r:Option Operand):j8 (.makeMap x r)=false:=rfl
@[go_sem] theorem bJ5 (x:TypeId) (a b:Operand) (c:Bool):j8 (.lookup x a b c)=false:=rfl
@[go_sem] theorem bWY (x:TypeId) (a b c:Operand):j8 (.mapUpdate x a b c)=false:=rfl
@[go_sem] theorem bWZ (x:TypeId) (a b:Operand):j8 (.mapEntry x a b)=false:=rfl
@[go_sem] theorem bW0 (x:TypeId) (a b c:Operand):j8 (.entryStore x a b c)=false:=rfl
@[go_sem] theorem bSW (x:TypeId) (a b c:Operand):j8 (.insert x a b c)=false:=rfl
@[go_sem] theorem bLM (x:TypeId) (a:Operand):j8 (.range x a)=false:=rfl
@[go_sem] theorem bPV (a:Operand) (b:Bool):j8 (.next a b)=false:=rfl
@[go_sem] theorem bLN (a:Operand):j8 (.entry a)=false:=rfl
@[go_sem] theorem bLO (x:TypeId) (a:Operand) (b c d:Option Operand):j8 (.slice x a b c d)=false:=rfl
@[go_sem] theorem bW1 (x:TypeId) (a b:Operand):j8 (.indexAddr x a b)=false:=rfl
@[go_sem] theorem bW2 (x:TypeId) (a:Operand) (b:Nat):j8 (.fieldAddr x a b)=false:=rfl
@[go_sem] theorem bW3 (a:Operand) (b:Nat):j8 (.extract a b)=false:=rfl
@[go_sem] theorem bW4 (f:Fn) (a b:Array Operand):j8 (.makeFunc f a b)=false:=rfl
@[go_sem] theorem bPW (a b:TypeId) (x:Operand):j8 (.convert a b x)=false:=rfl
@[go_sem] theorem bSX (o:BinOp) (a b:TypeId) (x y:Operand):j8 (.binOp o a x y b)=false:=rfl
@[go_sem] theorem bPX (x y z:Operand):j8 (.pick x y z)=false:=rfl
@[go_sem] theorem bW5 (x:Operand):j8 (.nilCheck x)=false:=rfl
def bGJ (fs:List (Nat×TypeId×Nat)) (f:Nat) (K:Nat->Prop) (_:Tag K):Prop:=match fs[f]? with|some (off,_,sz')=>sz'≠0/\K off|none=>False
@[go_sem] theorem bW6 (off sz:Nat) (ty:TypeId) (fs:List (Nat×TypeId×Nat)) (M:Nat->Prop) (t:Tag M):bGJ ((off,ty,sz)::fs) 0 M t=(sz≠0/\M off):=rfl
@[go_sem] theorem bW7 (x:Nat×TypeId×Nat) (fs:List (Nat×TypeId×Nat)) (n:Nat) (M:Nat->Prop) (t:Tag M):bGJ (x::fs) (n+1) M t=bGJ fs n M ():=rfl
@[go_sem] theorem b5G (fs:List (Nat×TypeId×Nat)) (f n sz i k:Nat) (t:Tag L):faF (some (.st fs)) f (.op n sz i k) L t=bGJ fs f (λoff=>L (.op n sz i (k+off))) ():=rfl
@[go_sem] theorem b5H (fs:List (Nat×TypeId×Nat)) (f sz i k:Nat) (es:List (List aC)) (t:Tag L):faF (some (.st fs)) f (.ip sz es i k) L t=bGJ fs f (λoff=>L (.ip sz es i (k+off))) ():=rfl
@[go_sem] theorem b5I (re:nK) (sz:Nat) (es:List (List aC)) (b:Bool) (k:IntKind) (n:Int) (t:Tag L):iaF (some re) (.sl sz es b) (.int k n) L t=(re.sz=sz/\0<=n/\n<es.length/\L (.ip sz es n.toNat 0)):=rfl
@[go_sem] theorem b5J (re:nK) (m sz i0 len:Nat) (k:IntKind) (n:Int) (t:Tag L):iaF (some re) (.os m sz i0 len) (.int k n) L t=(re.sz=sz/\0<=n/\n<len/\L (.op m sz (i0+n.toNat) 0)):=rfl
@[go_sem] theorem b31 (s:List UInt8) (k:IntKind) (n:Int) (t:Tag L):ixF (some .str) (.str s) (.int k n) L t=(0<=n/\gQ s[n.toNat]? (λc=>L (.int .u8 c.toNat)) ()):=by
 simp only[ixF,aHF,gQ];cases s[n.toNat]? <;> rfl
@[go_sem] theorem b5K (r:nK) (sz i off:Nat) (es:List (List aC)) (t:Tag L):ldF (some r) (.ip sz es i off) h L t=gQ es[i]? (λe=>gQ (ld r e off) L ()) ():=by
 simp only[ldF,lC,gQ]
 cases es[i]? with
 |none=>rfl
 |some e=>simp only;cases ld r e off <;> rfl
@[go_sem] theorem b5L (r:nK) (sz i off:Nat) (es:List (List aC)) (t:Tag L):ldG (some r) (.ip sz es i off) L t=gQ es[i]? (λe=>gQ (ld r e off) L ()) ():=by
 simp only[ldG,lC,gQ]
 cases es[i]? with
 |none=>rfl
 |some e=>simp only;cases ld r e off <;> rfl
def a4Q (o:Option cF) (K:Nat->List (List Cell)->Prop) (_:Tag K):Prop:=match o with|some (.row sz es)=>K sz es|_=>False
@[go_sem] theorem bYX (sz:Nat) (es:List (List Cell)) (M:Nat->List (List Cell)->Prop) (t:Tag M):a4Q (some (.row sz es)) M t=M sz es:=rfl
@[go_sem] theorem b5M (r:nK) (n sz i off:Nat) (t:Tag L):ldF (some r) (.op n sz i off) h L t=a4Q (h n) (λsz' es=>sz'=sz/\gQ es[i]? (λe=>gQ (aNC r e off) L ()) ()) ():=by
 simp only[ldF,lC,a4Q]
 cases h n with
 |none=>rfl
 |some o =>
  cases o with
  |row sz' es =>
   simp only[gQ]
   cases es[i]? with
   |none=>rfl
   |some e=>simp only;cases aNC r e off <;> rfl
  | _=>rfl
@[go_sem] theorem b5N (r:nK) (n sz i off:Nat) (v:aC) (M:Heap->Prop) (t:Tag M):stF (some r) (.op n sz i off) v h M t=a4Q (h n) (λsz' es=>sz'=sz/\gQ es[i]? (λe=>v.cells.all aC.flat=true/\v.cells.length=r.sz/\off+r.sz<=e.length/\M (bT h n (.row sz (es.set i (r8 e off v.cells))))) ()) ():=by
 simp only[stF,aWP,a4Q]
 cases h n with
 |none=>rfl
 |some o =>
  cases o with
  |row sz' es=>simp only[gQ];cases es[i]? <;> rfl
  | _=>rfl
@[go_sem] theorem b5O (re:nK) (t1:Option TypeId) (n sz i len:Nat) (y:aC) (t:Tag K):apF P (some re) t1 (.os n sz i len) y h K t=(re.zero.length=re.sz/\0<re.sz/\aEW P t1=true/\re.sz=sz/\a4Q (h n) (λsz' es=>sz'=sz/\i+len<=es.length/\gQ (aAE h sz y) (λys=>(len+ys.length)*re.bytes<=140737488355328/\len+ys.length<=9223372036854775807 /\
  ∀ b,h b=none->K (.os b sz 0 (len+ys.length)) (bT (bT h n .gone) b (.row sz ((es.drop i).take len++ys.map (List.map .v))))) ()) ()):=by
 simp only[apF,aC2,a4Q]
 cases h n with
 |none=>rfl
 |some o =>
  cases o with
  |row sz' es=>simp only[gQ];cases aAE h sz y <;> rfl
  | _=>rfl
@[go_sem] theorem b5P (re:nK) (t1:Option TypeId) (sz:Nat) (es:List (List aC)) (tg:Bool) (y:aC) (t:Tag K):apF P (some re) t1 (.sl sz es tg) y h K t=(re.zero.length=re.sz/\0<re.sz/\aEW P t1=true/\gQ (aJR re.sz (.sl sz es tg)) (λolds=>gQ (aAE h re.sz y) (λys=>(ys=[]->K (.sl sz es tg) h)/\(ys≠[]->(olds.length+ys.length)*re.bytes<=140737488355328/\olds.length+ys.length<=9223372036854775807 /\
  ∀ n,h n=none->K (.os n re.sz 0 (olds.length+ys.length)) (bT h n (.row re.sz ((olds++ys).map (List.map .v)))))) ()) ()):=by
 simp only[apF,aC2]
 cases hd:aJR re.sz (.sl sz es tg)with
 |none=>rfl
 |some olds=>simp only[gQ];cases aAE h re.sz y <;> rfl
@[go_sem] theorem b32 (re:nK) (t1:Option TypeId) (y:aC) (t:Tag K):apF P (some re) t1 .aV y h K t=(re.zero.length=re.sz/\0<re.sz/\aEW P t1=true/\gQ (aAE h re.sz y) (λys=>(ys=[]->K .aV h)/\(ys≠[]->((([]:List (List aC)).length)+ys.length)*re.bytes<=140737488355328/\(([]:List (List aC)).length)+ys.length<=9223372036854775807 /\
  ∀ n,h n=none->K (.os n re.sz 0 ((([]:List (List aC)).length)+ys.length)) (bT h n (.row re.sz (([]++ys).map (List.map .v)))))) ()):=by
 simp only[apF,aC2,aJR]
 cases aAE h re.sz y <;> rfl
@[go_sem] theorem bYY (r:nK) (t:Tag K):alF (some r) h K t=(r.zero≠[]/\r.zero.all aC.flat=true/\∀ n,h n=none->K (.op n r.zero.length 0 0) (bT h n (.row r.zero.length [r.zero.map .v]))):=rfl
@[go_sem] theorem b33 (re:nK) (k k':IntKind) (a b:Int) (t:Tag K):mkF (some re) (.int k a) (.int k' b) h K t=(re.zero.length=re.sz/\0<re.sz/\re.zero.all aC.flat=true/\0<=a/\a<=b/\b<=281474976710656/\re.bytes*b<=281474976710656 /\
    ∀ n,h n=none->K (.os n re.sz 0 a.toNat) (bT h n (.row re.sz ((List.replicate b.toNat re.zero).map (List.map .v))))):=rfl
@[go_sem] theorem b34 (et:TypeId) (sz:Nat) (es:List (List aC)) (b:Bool) (t:Tag L):bGF P (some (.slice et)) (.sl sz es b) L t=(es.length<=9223372036854775807->L (.int .i64 es.length)):=rfl
@[go_sem] theorem b35 (et:TypeId) (m sz i n:Nat) (t:Tag L):bGF P (some (.slice et)) (.os m sz i n) L t=(n<=9223372036854775807->L (.int .i64 n)):=rfl
@[go_sem] theorem bYZ (et:TypeId) (t:Tag L):bGF P (some (.slice et)) .aV L t=L (.int .i64 0):=rfl
@[go_sem] theorem bY0 (s:List UInt8) (t:Tag L):bGF P (some .str) (.str s) L t=(s.length<=9223372036854775807->L (.int .i64 s.length)):=rfl
@[go_sem] theorem b36 (et:TypeId) (sz:Nat) (es:List (List aC)) (b:Bool) (t:Tag L):bGG P (some (.slice et)) (.sl sz es b) L t=L (.int .i64 es.length):=rfl
@[go_sem] theorem b37 (et:TypeId) (m sz i n:Nat) (t:Tag L):bGG P (some (.slice et)) (.os m sz i n) L t=L (.int .i64 n):=rfl
@[go_sem] theorem bY1 (et:TypeId) (t:Tag L):bGG P (some (.slice et)) .aV L t=L (.int .i64 0):=rfl
@[go_sem] theorem bY2 (s:List UInt8) (t:Tag L):bGG P (some .str) (.str s) L t=L (.int .i64 s.length):=rfl
@[go_sem] theorem b38 (cs:List aC) (i:Nat) (t:Tag L):exF (.iF cs) i L t=gQ cs[i]? L ():=by
 simp only[exF,gQ];cases cs[i]? <;> rfl
@[go_sem] theorem b5Q (n sz i k:Nat) (t:Tag L):ncF (.op n sz i k) L t=L (.op n sz i k):=rfl
@[go_sem] theorem b5R (sz i k:Nat) (es:List (List aC)) (t:Tag L):ncF (.ip sz es i k) L t=L (.ip sz es i k):=rfl
@[go_sem] theorem bY3 (r:nK) (ps:List (Nat×aC)) (t:Tag L):buF P (some r) ps L t=(aEZ P r.d=true/\r.zero≠[]/\aCZ (places P r.d) r.zero.length ps=true/\L (.agg (aQF (places P r.d) r.zero ps))):=rfl
theorem bLP (ty:TypeId) (s:List UInt8) (lo hi:Option aC) (t:Tag L):slF P ty (.str s) lo hi L t=(dOf P ty=some .str/\gQ (kL 0 lo) (λl=>gQ (kL s.length hi) (λm=>0<=l/\l<=m/\m<=s.length/\L (.str ((s.take m.toNat).drop l.toNat))) ()) ()):=by
 simp only[slF,nY,gQ]
 cases kL 0 lo with
 |none=>rfl
 |some l=>simp only;cases kL s.length hi <;> rfl
attribute [go_sem] bLP
@[go_sem] theorem b5S (ty:TypeId) (sz:Nat) (es:List (List aC)) (b:Bool) (lo hi:Option aC) (t:Tag L):slF P ty (.sl sz es b) lo hi L t=gQ (nV P ty) (λre=>re.sz=sz/\gQ (kL 0 lo) (λl=>gQ (kL es.length hi) (λm=>0<=l/\l<=m/\m<=es.length/\L (.sl sz ((es.take m.toNat).drop l.toNat) (b && decide (m=es.length)))) ()) ()) ():=by
 simp only[slF,nY,gQ]
 cases nV P ty with
 |none=>rfl
 |some re =>
  simp only
  cases kL 0 lo with
  |none=>rfl
  |some l=>simp only;cases kL es.length hi <;> rfl
@[go_sem] theorem b5T (ty:TypeId) (n sz i len:Nat) (lo hi:Option aC) (t:Tag L):slF P ty (.os n sz i len) lo hi L t=gQ (nV P ty) (λre=>re.sz=sz/\gQ (kL 0 lo) (λl=>gQ (kL len hi) (λm=>0<=l/\l<m/\m<=len/\L (.os n sz (i+l.toNat) (m.toNat-l.toNat))) ()) ()) ():=by
 simp only[slF,nY,gQ]
 cases nV P ty with
 |none=>rfl
 |some re =>
  simp only
  cases kL 0 lo with
  |none=>rfl
  |some l=>simp only;cases kL len hi <;> rfl
@[go_sem] theorem b39 (ty:TypeId) (s:List UInt8) (lo hi:Option aC) (t:Tag L):slD P ty (.str s) lo hi L t=slF P ty (.str s) lo hi L ():=by cases hi <;> rfl
@[go_sem] theorem b5U (ty:TypeId) (sz:Nat) (es:List (List aC)) (b:Bool) (lo hi:Option aC) (t:Tag L):slD P ty (.sl sz es b) lo hi L t=slF P ty (.sl sz es b) lo hi L ():=by cases hi <;> rfl
@[go_sem] theorem b5V (ty:TypeId) (n sz i len:Nat) (lo:Option aC) (y:aC) (t:Tag L):slD P ty (.os n sz i len) lo (some y) L t=slF P ty (.os n sz i len) lo (some y) L ():=rfl
@[go_sem] theorem b4A (ty:TypeId) (n sz i len:Nat) (lo:Option aC) (t:Tag L):slD P ty (.os n sz i len) lo none L t=gQ (nV P ty) (λre=>re.sz=sz/\gQ (kL 0 lo) (λl=>0<=l/\l<=len/\(l<len->L (.os n sz (i+l.toNat) (len-l.toNat)))/\(l=len->L (.os n sz (i+len) 0)/\L (.sl sz [] true))) ()) ():=by
 simp only[slD,v8,gQ]
 cases nV P ty with
 |none=>rfl
 |some re =>
  simp only
  cases kL 0 lo <;> rfl
@[go_sem] theorem b4B (ty:TypeId) (sz:Nat) (es:List (List aC)) (b:Bool) (lo:Option aC) (hi mx:aC) (t:Tag L):bLF P ty (.sl sz es b) lo hi mx L t=gQ (nV P ty) (λre=>re.sz=sz/\gQ (kL 0 lo) (λl=>gQ (kL es.length (some hi)) (λm=>gQ (kL 0 (some mx)) (λM=>0<=l/\l<=m/\m<=M/\M<=es.length/\L (.sl sz ((es.take m.toNat).drop l.toNat) (decide (M=m)))) ()) ()) ()) ():=by
 simp only[bLF,sF,gQ]
 cases nV P ty with
 |none=>rfl
 |some re =>
  simp only
  cases kL 0 lo with
  |none=>rfl
  |some l =>
   simp only
   cases kL es.length (some hi)with
   |none=>rfl
   |some m=>simp only;cases kL 0 (some mx) <;> rfl
def a4R (P:Program) (τ:cJ) (h:Heap) (l:List ResultVar) (M:List aC->Prop) (_:Tag M):Prop:=bF3 P τ h l M
@[go_sem] theorem bY4 (τ:cJ) (M:List aC->Prop) (t:Tag M):a4R P τ h [] M t=M []:=rfl
@[go_sem] theorem bY5 (τ:cJ) (s:Tmp) (l:List ResultVar) (M:List aC->Prop) (t:Tag M):a4R P τ h (.tmp s::l) M t=a4R P τ h l (λvs=>M (dB τ s::vs)) ():=rfl
@[go_sem] theorem bW8 (τ:cJ) (a:Tmp) (ty:TypeId) (l:List ResultVar) (M:List aC->Prop) (t:Tag M):a4R P τ h (.cell a ty::l) M t=ldF (gZ P ty) (dB τ a) h (λv=>a4R P τ h l (λvs=>M (v::vs)) ()) ():=rfl
def a1E (vs:List aC) (L:aC->Prop) (_:Tag L):Prop:=match vs with|[v]=>L v|vs=>L (.iF vs)
@[go_sem] theorem bW9 (t:Tag L):a1E [] L t=L (.iF []):=rfl
@[go_sem] theorem bXA (v:aC) (t:Tag L):a1E [v] L t=L v:=rfl
@[go_sem] theorem bXB (v w:aC) (vs:List aC) (t:Tag L):a1E (v::w::vs) L t=L (.iF (v::w::vs)):=rfl
end
def n9 (P:Program) (rs:Array ResultVar) (K:aC->Heap->Prop) (_:Tag K):Exit->cJ->Heap->Prop:=aJX P rs K
section
variable (P:Program) (rs:Array ResultVar) (K:aC->Heap->Prop) (τ:cJ) (h:Heap)
@[go_sem] theorem bLQ (t:Tag K):n9 P rs K t .normal τ h=a4R P τ h rs.toList (λvs=>a1E vs (λv=>K v h) ()) ():=rfl
@[go_sem] theorem bXC (t:Tag K):n9 P rs K t .ret τ h=a4R P τ h rs.toList (λvs=>a1E vs (λv=>K v h) ()) ():=rfl
@[go_sem] theorem bSY (i:Nat) (t:Tag K):n9 P rs K t (.exit i) τ h=False:=rfl
end
theorem b5W {P:Program} {f:FuncId} {fn:Func} {c:Code} (N:Nat) (keep ib:List Nat) (mk:Marks) {args:List aC} {r:aC} (hmix:P.follows .mixedOrders=true) (hf:P.funcs[f]?=some fn) (hb:fn.body=some c)
  (hck:(jG P f && decide (fn.ntmps=N) && iV N mk c)=true) (hl:args.length<=N)
  (hw:∀ h,p2 P N keep ib mk c (λτ h'=>n9 P fn.results (λr' h'=>r'=r/\h.le h') () .normal τ h') (n9 P fn.results (λr' h'=>r'=r/\h.le h') ()) (rU 0 args) h ()):dQ P f args r :=
 bLA N keep ib mk hmix hf hb hck hl hw
theorem b5X {P:Program} {f:FuncId} {fn:Func} {c:Code} (N:Nat) (keep ib:List Nat) (mk:Marks) {args:List aC} {r:aC} (hmix:P.follows .mixedOrders=true) (hf:P.funcs[f]?=some fn) (hb:fn.body=some c)
  (hck:(jG P f && decide (fn.ntmps=N) && iV N mk c)=true) (hl:args.length<=N)
  (hw:∀ h,p2 P N keep ib mk c (λτ h'=>n9 P fn.results (λr' h'=>Shift r' h' r h) () .normal τ h') (n9 P fn.results (λr' h'=>Shift r' h' r h) ()) (rU 0 args) h ()):dQ P f args r :=
 bGE N keep ib mk hmix hf hb hck hl hw
theorem a09 {P:Program} {N:Nat} {keep ib:List Nat} {mk:Marks} {c:Code} {Q:Exit->cJ->Heap->Prop} {τ:cJ} {h:Heap} {t:Tag (Code.loop c,Q)} {α:Type} (hmix:P.follows .mixedOrders=true) (hc:iV N mk c=true) (S:α->cJ) (H:α->Heap) (side:α->Prop) (μ:α->Nat) (x₀:α)
  (h₀:dT (S x₀) τ/\(H x₀).le h/\side x₀)
  (round:∀ x,side x->p2 P N keep ib mk c (λτ' h'=>∃ x',dT (S x') τ'/\(H x').le h'/\side x'/\μ x'<μ x) Q (S x) (H x) ()):aLU P N (.loop c) Q τ h t :=
 tE.a09 S H side μ x₀ h₀ λx hx=>aQY hmix c _ _ _ _ hc (round x hx)
theorem dI {P:Program} {f:FuncId} {fn:Func} {c:Code} (N:Nat) (keep ib:List Nat) (mk:Marks) {args:List aC} {r:aC} (hf:P.funcs[f]?=some fn) (hw:∀ h,p2 P N keep ib mk c (λτ h'=>n9 P fn.results (λr' h'=>r'=r/\h.le h') () .normal τ h') (n9 P fn.results (λr' h'=>r'=r/\h.le h') ()) (rU 0 args) h ()) (hmix:P.follows .mixedOrders=true:=by exact mix) (hb:fn.body=some c:=by rfl) (hck:(jG P f && decide (fn.ntmps=N) && iV N mk c)=true:=by kernel_rfl) (hl:args.length<=N:=by simp):dQ P f args r :=
 b5W N keep ib mk hmix hf hb hck hl hw
theorem tQ {P:Program} {f:FuncId} {fn:Func} {c:Code} (N:Nat) (keep ib:List Nat) (mk:Marks) {args:List aC} {r:aC} (hf:P.funcs[f]?=some fn) (hw:∀ h,p2 P N keep ib mk c (λτ h'=>n9 P fn.results (λr' h'=>Shift r' h' r h) () .normal τ h') (n9 P fn.results (λr' h'=>Shift r' h' r h) ()) (rU 0 args) h ()) (hmix:P.follows .mixedOrders=true:=by exact mix) (hb:fn.body=some c:=by rfl) (hck:(jG P f && decide (fn.ntmps=N) && iV N mk c)=true:=by kernel_rfl) (hl:args.length<=N:=by simp):dQ P f args r :=
 b5X N keep ib mk hmix hf hb hck hl hw
theorem cY {P:Program} {N:Nat} (keep ib:List Nat) (mk:Marks) {c:Code} {Q:Exit->cJ->Heap->Prop} {τ:cJ} {h:Heap} {t:Tag (Code.loop c,Q)} {α:Type} (S:α->cJ) (H:α->Heap) (side:α->Prop) (μ:α->Nat) (x₀:α) (h₀:dT (S x₀) τ/\(H x₀).le h/\side x₀) (round:∀ x,side x->p2 P N keep ib mk c (λτ' h'=>∃ x',dT (S x') τ'/\(H x').le h'/\side x'/\μ x'<μ x) Q (S x) (H x) ()) (hmix:P.follows .mixedOrders=true:=by exact mix) (hc:iV N mk c=true:=by kernel_rfl):aLU P N (.loop c) Q τ h t :=
 a09 (keep:=keep) (ib:=ib) (mk:=mk) hmix hc S H side μ x₀ h₀ round
theorem Sub.cK {sz sz' i off:Nat} {es:List (List aC)} {e e':List aC} (he:es[i]?=some e) (h':(e.drop off).take sz'=e') (hl:e'.length=sz'):Sub (.ip sz es i off) (.ip sz' [e'] 0 0):=λE h w v r=>by
 cases r with
 |ip _ _ _ _ b o cv hi hs hc h1 hr =>
  have hat:∀ i' j x,kE [e'] i' j=some x->i'=0/\kE es i (off+j)=some x:=by
   intro i' j x hx
   obtain⟨e1,h1,h2⟩:=mY hx
   cases i' with
   |zero =>
    simp at h1;subst h1
    refine⟨rfl,?_⟩
    subst h'
    rw[List.getElem?_take]at h2
    split at h2
    ·rw[aPR]at h2
     simp[kE,he,h2]
    ·cases h2
   |succ n=>simp at h1
  have:=fY.ip (E:=E) (h:=h) (w:=w) sz' [e'] 0 0 b (o+i*sz+off) (λi' j=>cv (i+i') (off+j)) hi (λe1 he'=>by simp at he';subst he';exact hl)
   (λi' j x hx=>by obtain⟨rfl,hy⟩:=hat i' j x hx;have:=hc i _ x hy;simpa[bE3]using this)
   (λi' j x hx=>by obtain⟨rfl,hy⟩:=hat i' j x hx;exact h1 i _ x hy)
   (λi' j x hx=>by obtain⟨rfl,hy⟩:=hat i' j x hx;exact hr i _ x hy)
  simpa using this
theorem Sub.ip {sz i:Nat} {es:List (List aC)} {e:List aC} (he:es[i]?=some e) (hl:e.length=sz):Sub (.ip sz es i 0) (.ip sz [e] 0 0) :=
 Sub.cK he (by rw[aPU,gF aA]) hl
open Go.ChangeShapes Go.WideShapes
def pY (P:Program):Nat->TypeId->List aC->Prop
 |0,_,_=>False
 |n+1,t,xs =>
  match P.underlying t with
  |some .bool=>∃ b,xs=[.bool b]
  |some (.int k)=>∃ i,xs=[.int k i]/\(Lit.int k i).wf=true
  |some .string=>∃ s,xs=[.str s]
  |some (.slice e)=>∃ es,xs=[.sl (P.cellsOf e) es false]/\∀ y∈es,pY P n e y
  |some (.struct fs)=>xs.length=P.cellsOf t/\∀ (i:Nat) (f:Field),fs[i]?=some f->pY P n f.type ((xs.drop f.offset).take (P.cellsOf f.type))
  | _=>False
def aE7 (P:Program):List Field->Nat->Option Nat
 | [],o=>some o
 |f::fs,o=>if f.offset=o then aE7 P fs (o+P.cellsOf f.type)else none
def bDB (P:Program) (T:List TypeId):Bool:=T.all λt =>
 match P.underlying t with
 |some .bool|some (.int _)|some .string=>P.cellsOf t == 1
 |some (.slice e)=>P.cellsOf t == 1 && decide (0<P.cellsOf e) && T.contains e
 |some (.struct fs)=>(aE7 P fs.toList 0 == some (P.cellsOf t)) && fs.toList.all (λf=>T.contains f.type)
 | _=>false
theorem aJ1 {P:Program} {T:List TypeId} (hT:bDB P T=true):∀ (n:Nat) (t:TypeId) (xs:List aC),t∈T->pY P n t xs->xs.length=P.cellsOf t/\xs.all aC.flat=true
 |0,_,_,_,h=>h.elim
 |n+1,t,xs,ht,h=>by
  have hd:=zV.1 hT t ht
  unfold pY at h
  split at h
  ·rename_i hu;rw[hu]at hd;obtain⟨b,rfl⟩:=h;exact⟨by simpa using(of_decide_eq_true hd).symm,rfl⟩
  ·rename_i hu;rw[hu]at hd;obtain⟨i,rfl,_⟩:=h;exact⟨by simpa using(of_decide_eq_true hd).symm,rfl⟩
  ·rename_i hu;rw[hu]at hd;obtain⟨s,rfl⟩:=h;exact⟨by simpa using(of_decide_eq_true hd).symm,rfl⟩
  ·rename_i e hu
   rw[hu]at hd;obtain⟨es,rfl,_⟩:=h
   simp only[oN,beq_iff_eq]at hd
   exact⟨by simp[hd.1.1],rfl⟩
  ·rename_i fs hu
   rw[hu]at hd
   obtain⟨hl,hf⟩:=h
   refine⟨hl,?_⟩
   simp only[oN,beq_iff_eq,zV]at hd
   have key:∀ (l:List Field) (o:Nat),(∀ f∈l,T.contains f.type=true/\pY P n f.type ((xs.drop f.offset).take (P.cellsOf f.type)))->aE7 P l o=some (P.cellsOf t)->(xs.drop o).all aC.flat=true:=by
    intro l
    induction l with
    |nil=>intro o _ ho;simp only[aE7,bCU]at ho;rw[aI0 aA];rfl
    |cons f l ih =>
     intro o hl' ho
     simp only[aE7]at ho
     split at ho
     ·rename_i e
      have h1:=hl' f al5
      have h2:=(aJ1 hT n _ _ (by simpa using h1.1) h1.2).2
      have h3:=ih _ (λg hg=>hl' g (al6 _ hg)) ho
      rw[e]at h2
      rw[←aPV (P.cellsOf f.type) (xs.drop o),List.all_append,h2,aM3,h3];rfl
     ·cases ho
   have:=key fs.toList 0 (λf hf'=>by
    obtain⟨i,hi⟩:=bKG hf'
    exact⟨hd.2 f hf',hf i f (by simpa using hi)⟩) hd.1
   simpa using this
  ·exact h.elim
section
variable {H:Type} {enc:TypeId×Value->H} {P:Program} {w:World} {base:Nat} {sp:Nat->Bool} {held:Bool}
theorem aLV {E:Env} {h:Heap} {xs:List aC} {vs:List Value} (hr:eT E h w xs vs) (hf:xs.all aC.flat=true) (j:Nat) (v:Value) (hv:vs[j]?=some v):v.oneCell'=true:=by
 obtain⟨hj,_⟩:=mU.1 hv
 have hl:=hr.length
 have hx:xs[j]?=some xs[j]:=b6 aA
 exact(fY.uZ (hr.get j _ _ hx hv) (zV.1 hf _ (rS hx))).1
theorem aQ0 {T:List TypeId} (hT:bDB P T=true) {E:Env} {h:Heap} (hI:∀ b,b<w.heap.size->vO E h w b) :
  ∀ (n:Nat) (t:TypeId) (cs:List Value) (x:DataW H×List MemPlace),t∈T->DataW.trod enc P w base sp held n t cs=some x->∃ xs,pY P n t xs/\eT E h w xs cs
 |0,t,cs,x,_,hx=>by simp[DataW.trod]at hx
 |n+1,t,cs,x,ht,hx=>by
  have hd:=zV.1 hT t ht
  match hu:P.underlying t with
  |some .bool =>
   obtain⟨b,rfl,_⟩:=DataW.trod_bool hu hx
   exact⟨[.bool b],by simp only[pY,hu];exact⟨b,rfl⟩,⟨.bool b,trivial⟩⟩
  |some (.int k) =>
   obtain⟨i,rfl,_,hw⟩:=DataW.trod_int hu hx
   exact⟨[.int k i],by simp only[pY,hu];exact⟨i,rfl,hw⟩,⟨.int k i,trivial⟩⟩
  |some .string =>
   obtain⟨s,rfl,_,hs⟩:=DataW.trod_string hu hx
   refine⟨[.str s.data.toList],by simp only[pY,hu];exact⟨_,rfl⟩,⟨?_,trivial⟩⟩
   have:s=⟨s.data.toList.toArray⟩:=by cases s;simp
   rw[this]
   exact .str _ (by simpa using hs)
  |some (.slice e) =>
   rw[hu]at hd
   simp only[oN,beq_iff_eq,decide_eq_true_eq,bKQ]at hd
   rcases DataW.trod_slice hu hx with⟨rfl,_⟩|⟨a,len,cap,elems,rest,m,hm,rfl,_,hb,hlc,hmax,hel,hcell,_,_⟩
   ·exact⟨[.sl (P.cellsOf e) [] false],by simp only[pY,hu];exact⟨[],rfl,by simp⟩,⟨.sl0 _ _ _ _ (λe=>by simp at e) aS trivial,trivial⟩⟩
   ·obtain rfl:n=m:=by omega

    have each:∀ i,i<len->∃ ys vs,pY P n e ys/\eT E h w ys vs/\w.cells? base (a.add (i*P.cellsOf e)) (P.cellsOf e)=some vs:=by
     intro i hi
     have h1:=hcell i hi
     have hi':i<elems.length:=by omega
     rw[b6 hi']at h1
     simp only[Option.bind_eq_some_iff]at h1
     obtain⟨vs,h2,h3⟩:=h1
     obtain⟨ys,h4,h5⟩:=aQ0 hT hI n e vs _ hd.2 h3
     exact⟨ys,vs,h4,h5,h2⟩
    let ys:Nat->List aC:=λi=>if hi:i<len then Classical.choose (each i hi)else[]
    have hys:∀ i,i<len->∃ vs,pY P n e (ys i)/\eT E h w (ys i) vs/\w.cells? base (a.add (i*P.cellsOf e)) (P.cellsOf e)=some vs:=by
     intro i hi
     have:=Classical.choose_spec (each i hi)
     simpa only[ys,dif_pos hi]using this
    by_cases h0:len=0
    ·subst h0
     exact⟨[.sl (P.cellsOf e) [] false],by simp only[pY,hu];exact⟨[],rfl,by simp⟩,⟨.sl0 _ _ _ _ (λe=>by simp at e) hmax trivial,trivial⟩⟩
    have hpos:0<P.cellsOf e:=hd.1.2

    obtain⟨b,o,spot⟩:=a
    obtain⟨vs0,_,_,hc0⟩:=hys 0 aA
    have b5Z:=World.cells?_some hc0
    have hz:w.cell? ((Addr.add ⟨b,o,spot⟩ (0*P.cellsOf e)).add 0)=vs0[0]?:=b5Z.2.2 0 hpos
    have hv0:vs0[0]?=some vs0[0]:=b6 aA
    rw[hv0]at hz
    have hspot:spot=none:=by
     have:=World.cell?_spot hz
     simpa[Addr.add]using this
    subst hspot
    have hblt:b<w.heap.size:=by
     have:=World.cells?_block hc0 hpos
     simpa[Addr.add]using this
    have hmap:∀ i,i<len->((List.range len).map ys)[i]?=some (ys i):=λi hi=>by simp[hi]
    refine⟨[.sl (P.cellsOf e) ((List.range len).map ys) false],?_,⟨?_,trivial⟩⟩
    ·simp only[pY,hu]
     refine⟨_,rfl,λy hy=>?_⟩
     simp only[vZ,bCY]at hy
     obtain⟨i,hi,rfl⟩:=hy
     obtain⟨vs,h1,_⟩:=hys i hi
     exact h1
    ·have hlen:len=((List.range len).map ys).length:=by simp
     have cells:∀ i j x,kE ((List.range len).map ys) i j=some x->∃ v,w.cell? ⟨b,o+i*P.cellsOf e+j,none⟩=some v/\v.oneCell'=true/\fY E h w x v:=by
      intro i j x hx
      have hi:i<len:=by have:=bFS hx;simpa using this
      obtain⟨y,hy,hj⟩:=mY hx
      rw[hmap i hi]at hy
      obtain rfl:=dY hy
      obtain⟨vs,h1,h2,h3⟩:=hys i hi
      have hone:=aJ1 hT n e _ hd.2 h1
      have hjl:j<(ys i).length:=(mU.1 hj).1
      have h4:=World.cells?_some h3
      have hjv:j<vs.length:=by rw[h2.length]at hjl;exact hjl
      have hv:vs[j]?=some vs[j]:=b6 hjv
      refine⟨vs[j],?_,aLV h2 hone.2 j _ hv,h2.get j x _ hj hv⟩
      have h5:=h4.2.2 j aA
      rw[hv]at h5
      rw[←h5]
      rw[addr_add,addr_add]
     have cellsC:∀ i j,∃ v,∀ x,kE ((List.range len).map ys) i j=some x->w.cell? ⟨b,o+i*P.cellsOf e+j,none⟩=some v/\v.oneCell'=true/\fY E h w x v:=by
      intro i j
      match hx:kE ((List.range len).map ys) i j with
      |none=>exact⟨.bool true,λx h=>by simp at h⟩
      |some x =>
       obtain⟨v,h1⟩:=cells i j x hx
       exact⟨v,λy hy=>by obtain rfl:=dY hy;exact h1⟩
     let cv:Nat->Nat->Value:=λi j=>Classical.choose (cellsC i j)
     have hcv:∀ i j x,kE ((List.range len).map ys) i j=some x->w.cell? ⟨b,o+i*P.cellsOf e+j,none⟩=some (cv i j)/\(cv i j).oneCell'=true/\fY E h w x (cv i j):=λi j=>Classical.choose_spec (cellsC i j)
     have:=fY.sl (E:=E) (h:=h) (w:=w) (P.cellsOf e) ((List.range len).map ys) false b o cap cv (hI b hblt) (by simpa using hlc) hmax (λe=>by simp at e)
      (λy hy=>by
       simp only[vZ,bCY]at hy
       obtain⟨i,hi,rfl⟩:=hy
       obtain⟨vs,h1,_⟩:=hys i hi
       exact(aJ1 hT n e _ hd.2 h1).1)
      (λi j x hx=>(hcv i j x hx).1) (λi j x hx=>(hcv i j x hx).2.1) (λi j x hx=>(hcv i j x hx).2.2)
     rw[←hlen]at this
     exact this
  |some (.struct fs) =>
   rw[hu]at hd
   simp only[oN,beq_iff_eq,zV]at hd
   obtain⟨xs,m,hm,rfl,hl,hfl,hf⟩:=DataW.trod_struct hu hx
   obtain rfl:n=m:=by omega

   have key:∀ (l:List Field) (o:Nat),(∀ f∈l,T.contains f.type=true/\∃ y,DataW.trod enc P w base sp held n f.type ((cs.drop f.offset).take (P.cellsOf f.type))=some y)->aE7 P l o=some (P.cellsOf t) ->
     ∃ ys,eT E h w ys (cs.drop o)/\∀ f∈l,o<=f.offset/\pY P n f.type ((ys.drop (f.offset-o)).take (P.cellsOf f.type)):=by
    intro l
    induction l with
    |nil =>
     intro o _ ho
     simp only[aE7,bCU]at ho
     rw[aI0 aA]
     exact⟨[],trivial,λf hf=>by simp at hf⟩
    |cons f l ih =>
     intro o hl' ho
     simp only[aE7]at ho
     split at ho
     ·rename_i e
      obtain⟨hc,y,hy⟩:=hl' f al5
      obtain⟨zs,hz1,hz2⟩:=aQ0 hT hI n f.type _ y (by simpa using hc) hy
      obtain⟨ys,hy1,hy2⟩:=ih _ (λg hg=>hl' g (al6 _ hg)) ho
      have hzl:=(aJ1 hT n _ _ (by simpa using hc) hz1).1
      rw[e]at hz2
      have hjoin:eT E h w (zs++ys) (cs.drop o):=by
       have:=eT.append hz2 hy1
       rw[←aPV (P.cellsOf f.type) (cs.drop o),aM3]
       exact this
      refine⟨zs++ys,hjoin,λg hg=>?_⟩
      rcases p7.1 hg with rfl|hg
      ·refine⟨by omega,?_⟩
       rw[e,aLH,aPU,a8L aA,gF aA]
       exact hz1
      ·obtain⟨h1,h2⟩:=hy2 g hg
       refine⟨by omega,?_⟩
       rw[List.drop_append,hzl,aI0 aA,al0,show g.offset-o-P.cellsOf f.type=g.offset-(o+P.cellsOf f.type)by omega]
       exact h2
     ·cases ho
   obtain⟨ys,h1,h2⟩:=key fs.toList 0 (λf hf'=>by
    obtain⟨i,hi⟩:=bKG hf'
    have hi':fs[i]?=some f:=by simpa using hi
    refine⟨hd.2 f hf',?_⟩
    have:=hf i f hi'
    have hil:i<xs.length:=by rw[hfl];exact(aWF.1 hi').1
    rw[b6 hil]at this
    exact⟨_,this⟩) hd.1
   rw[aPU]at h1
   refine⟨ys,?_,h1⟩
   simp only[pY,hu]
   refine⟨h1.length.trans hl,λi f hf'=>?_⟩
   have:=h2 f (by have:=Array.mem_of_getElem? hf';simpa using this)
   simpa using this.2
  |none|some .invalid|some (.float _)|some (.complex _)|some .unsafePointer|some (.named ..)|some (.pointer _)|some (.array ..)|some (.map ..)|some (.func ..)|some (.interface _)|some (.chan ..)|some (.tuple _)=>all_goals(rw[hu]at hd;simp at hd)
end
open Go.ChangeShapes Go.WideShapes
def a1F (P:Program) (n:Nat) (t:TypeId) (x:aC):Prop :=
 match P.underlying t with
 |some (.struct _)=>∃ ys,x=.agg ys/\pY P n t ys
 | _=>pY P n t [x]
def a1G (P:Program):List TypeId->List aC->Prop
 | [],[]=>True
 |t::ts,x::xs=>(∃ n,a1F P n t x)/\a1G P ts xs
 | _,_=>False
section
variable {H:Type} {enc:TypeId×Value->H} {P:Program} {w:World} {base:Nat} {sp:Nat->Bool} {held:Bool}
theorem bGK {T:List TypeId} (hT:bDB P T=true) {E:Env} {h:Heap} (hI:∀ b,b<w.heap.size->vO E h w b) {t:TypeId} (ht:t∈T) {v:Value} {d:DataW H} {ps:List MemPlace}
  (hok:Value.okWide P w .any base t v) (hr:DataW.Trod enc P w 0 sp held t v d ps):∃ x n,a1F P n t x/\fY E h w x v:=by
 obtain⟨n,hr⟩:=hr
 obtain⟨xs,h1,h2⟩:=aQ0 hT hI n t _ _ ht hr
 have hd:=zV.1 hT t ht
 match hu:P.underlying t with
 |some (.struct fs) =>
  obtain⟨cs,rfl,_⟩:=okWide_struct hu hok
  exact⟨.agg xs,n,by simp only[a1F,hu];exact⟨xs,rfl,h1⟩,.agg xs cs.toList h2.length h2.get⟩
 |some .bool =>
  obtain⟨b,rfl⟩:=okWide_bool hu hok
  have hone:=aJ1 hT n t xs ht h1
  match xs,h2 with
  | [x],h2=>exact⟨x,n,by simp only[a1F,hu];exact h1,by simpa[Value.cells]using h2.1⟩
  | [],h2=>exact h2.elim
  | _::_::_,h2=>exact h2.2.elim
 |some (.int k) =>
  obtain⟨b,rfl⟩:=okWide_int hu hok
  match xs,h2 with
  | [x],h2=>exact⟨x,n,by simp only[a1F,hu];exact h1,by simpa[Value.cells]using h2.1⟩
  | [],h2=>exact h2.elim
  | _::_::_,h2=>exact h2.2.elim
 |some .string =>
  obtain⟨b,rfl⟩:=okWide_string hu hok
  match xs,h2 with
  | [x],h2=>exact⟨x,n,by simp only[a1F,hu];exact h1,by simpa[Value.cells]using h2.1⟩
  | [],h2=>exact h2.elim
  | _::_::_,h2=>exact h2.2.elim
 |some (.slice e) =>
  obtain⟨a,len,cap,rfl⟩:=okWide_slice hu hok
  match xs,h2 with
  | [x],h2=>exact⟨x,n,by simp only[a1F,hu];exact h1,by simpa[Value.cells]using h2.1⟩
  | [],h2=>exact h2.elim
  | _::_::_,h2=>exact h2.2.elim
 |none|some .invalid|some (.float _)|some (.complex _)|some .unsafePointer|some (.named ..)|some (.pointer _)|some (.array ..)|some (.map ..)|some (.func ..)|some (.interface _)|some (.chan ..)|some (.tuple _)=>all_goals(rw[hu]at hd;simp at hd)
theorem aUZ {T:List TypeId} (hT:bDB P T=true) {E:Env} {h:Heap} (hI:∀ b,b<w.heap.size->vO E h w b):∀ {ts:List TypeId} {vs:List Value} {ds:List (DataW H)} {ps:List MemPlace},
  (∀ t∈ts,t∈T)->(∀ (j:Nat) t v,ts[j]?=some t->vs[j]?=some v->Value.okWide P w .any base t v)->DataW.TrodAll enc P w 0 sp held ts vs ds ps->∃ xs,a1G P ts xs/\eT E h w xs vs/\ds.length=ts.length
 | [],[],[],_,_,_,_=>⟨[],trivial,trivial,rfl⟩
 |t::ts,v::vs,d::ds,_,ht,hok,⟨p,q,h1,h2,_⟩=>by
  obtain⟨x,n,h3,h4⟩:=bGK hT hI (ht t al5) (hok 0 t v rfl rfl) h1
  obtain⟨xs,h5,h6,h7⟩:=aUZ hT hI (λt' h'=>ht t' (al6 _ h')) (λj t' v' a b=>hok (j+1) t' v' (by simpa using a) (by simpa using b)) h2
  exact⟨x::xs,⟨⟨n,h3⟩,h5⟩,⟨h4,h6⟩,by simp[h7]⟩
 | [],_::_,_,_,_,_,h=>by cases ‹List (DataW H)› <;> exact h.elim
 | [],[],_::_,_,_,_,h=>h.elim
 | _::_,[],_,_,_,_,h=>by cases ‹List (DataW H)› <;> exact h.elim
 | _::_,_::_,[],_,_,_,h=>h.elim
end
theorem aGW {H:Type} {enc:TypeId×Value->H} {P:Program} {w w':World} {base:Nat} {sp:Nat->Bool} {held:Bool}:∀ {ts:List TypeId} {vs:List Value} {ds:List (DataW H)} {ps:List MemPlace},
  DataW.TrodAll enc P w base sp held ts vs ds ps->(∀ p∈ps,w.sameAt w' p)->DataW.TrodAll enc P w' base sp held ts vs ds ps
 | [],[],[],_,h,_=>h
 | _::_,_::_,_::_,_,⟨p,q,⟨n,h1⟩,h2,e⟩,hs=>⟨p,q,⟨n,DataW.trod_carry n _ _ _ h1 (λx hx=>hs x (by rw[e];exact aCH _ hx))⟩,aGW h2 (λx hx=>hs x (by rw[e];exact xV _ hx)),e⟩
 | [],_::_,_,_,h,_=>by cases ‹List (DataW H)› <;> exact h.elim
 | [],[],_::_,_,h,_=>h.elim
 | _::_,[],_,_,h,_=>by cases ‹List (DataW H)› <;> exact h.elim
 | _::_,_::_,[],_,h,_=>h.elim
theorem aQ1 {w w':World} {p:MemPlace} (h:w'.heap[p.block]?=w.heap[p.block]?):w.sameAt w' p:=by
 cases p with
 |cell b o=>exact aA7 h o none
 |map b=>exact h
theorem bGL {H:Type} {enc:TypeId×Value->H} {P:Program} (lo:laidOutB P=true) (mr:mapsRowed P=true)
  (hz:((List.range P.types.size).all λt=>match P.underlying t with|some (.slice e)=>decide (0<P.cellsOf e)|_=>true)=true)
  {fn:Func} (hT:fn.params.all (λt=>decide (t<P.types.size))=true) {s:ChangeSpec} (hsv:s.vars=[]) (hs:∀ ds:List (DataW H),ds.length=fn.params.size->s.fn H ds={ results:=[.lit (.bool true)],args:=ds })
  {tb:TypeId} (hr:fn.resultTypes=#[tb]) (htb:P.underlying tb=some .bool) {W W':World} {args:Array Value} {ds gs:List (DataW H)} {before:List MemPlace}
  (hW:DataW.Whole enc P fn.params.toList s.vars false W args.toList ds gs before) (hl:ds.length=fn.params.size)
  (hheap:∀ b,b<W.heap.size->W'.heap[b]?=W.heap[b]?) (hos:W'.os=W.os) (hout:W'.output=W.output) :
  s.post enc P fn false true false false W args (.bool true) W':=by
 have hlt:=hW.lt
 have hW0:=hW
 obtain⟨p,q,hA,hV,rfl,hfz,_⟩:=hW
 rw[hsv]at hV
 have hgs:gs=[]/\q=[]:=by
  match gs,hV with
  | [],h=>exact⟨rfl,h⟩
 obtain⟨rfl,rfl⟩:=hgs
 rw[wP]at hlt hfz hW0
 have e:s.fn H (ds++[])={ results:=[.lit (.bool true)],args:=ds }:=by rw[wP];exact hs ds hl
 refine⟨ds,[],p,[],p,[],hW0,?_,?_,?_,?_,λh=>by simp at h⟩
 ·rw[e]
  simp only[hr]
  refine⟨[],[],⟨1,?_⟩,rfl,rfl⟩
  simp[DataW.trod,htb,Value.cells]
 ·rw[e]
  have h1:DataW.TrodAll enc P W' 0 (λ_=>true) true fn.params.toList args.toList ds p:=aGW hA λx hx=>aQ1 (hheap _ (hlt x hx))
  refine DataW.TrodAll.respare (kids_rows lo mr) (λt e ht hu=>slices_full_of P hz t e ht hu) (λt ht=>?_) h1 (λx hx=>by simpa using hlt x hx)
  have:=bFC.1 hT t (by simpa using ht)
  simpa using this
 ·rw[e,hsv];exact rfl
 ·refine⟨hos,hout,λi hi=>?_⟩
  rw[hheap i hi]
  have hi':W.heap[i]?=some W.heap[i]:=aPS hi
  rw[hi']
  cases W.heap[i]with
  |cells c t fr=>exact⟨rfl,rfl,rfl,λ_ _=>rfl⟩
  |map es clock=>exact .inr ⟨rfl,rfl⟩
  | _=>rfl
def zE:Heap:=λ_=>none
def a1H:Env where
 loc:=λ_=>none
 fp:=λ_ _=>False
 used:=λ_=>False
theorem bGM (w:World) (hl:LaidIn a1H zE w):Rel a1H zE w where
 fin:=⟨0,λn _ h=>h⟩
 dom:=λn h=>absurd rfl h
 lt:=λn o b h=>by simp[zE]at h
 apart:=λn o m o' b h=>by simp[zE]at h
 obj:=λn o h=>by simp[zE]at h
 laid:=hl
theorem aQ2 {w:World} {b:Nat} (hb:b<w.heap.size):vO a1H zE w b:=⟨hb,λn o h=>by simp[zE]at h⟩
def bX (P:Program) (f:FuncId) (args:List aC) (r:aC) (h0:Heap):Prop:=∀ h:Heap,h0.le h->gK P f args h λr' h'=>r'=r/\h'=h
theorem dQ.bDC {P:Program} {f:FuncId} {args:List aC} {r:aC} {h0:Heap} (a:dQ P f args r):bX P f args r h0:=λh _=>a h
theorem bX.mono {P:Program} {f:FuncId} {args:List aC} {r:aC} {h0 h1:Heap} (hl:h0.le h1) (a:bX P f args r h0):bX P f args r h1:=λh q=>a h (Heap.le_trans hl q)
theorem bDD (h:Heap):zE.le h:=λ_=>.inl rfl
theorem bX.eA {P:Program} {f:FuncId} {args:List aC} {r:aC} (a:bX P f args r zE):dQ P f args r:=λh=>a h (bDD h)
theorem aH.b7 {P:Program} {g:FuncId} {args:List aC} {h:Heap} {K:aC->Heap->Prop} {t:Tag K} {r:aC} (a:bX P g args r h) (k:K r h):aH P g args h K t :=
 gK.mono (a h (Heap.le_refl h)) λ_ _ ⟨e,e'⟩=>e▸e'▸k
theorem aH.kF {P:Program} {g:FuncId} {args:List aC} {h:Heap} {K K':aC->Heap->Prop} {t:Tag K} (a:gK P g args h K') (k:∀ r h',K' r h'->K r h'):aH P g args h K t:=gK.mono a k
theorem Heap.aE8 {h0 h:Heap} (hl:h0.le h) {n:Nat} {o:cF} (hn:h0 n=some o):h n=some o:=by
 rcases hl n with e|e
 ·rw[hn]at e;cases e
 ·rw[←e];exact hn
theorem bY6 {P:Program} {f:FuncId} {fn:Func} {c:Code} (N:Nat) (keep ib:List Nat) (mk:Marks) {args:List aC} {h:Heap} {K:aC->Heap->Prop} (hmix:P.follows .mixedOrders=true) (hf:P.funcs[f]?=some fn) (hb:fn.body=some c)
  (hck:(jG P f && decide (fn.ntmps=N) && iV N mk c)=true) (hl:args.length<=N)
  (hw:p2 P N keep ib mk c (λτ h'=>n9 P fn.results (λr h'=>∃ g:Heap,g.le h'/\K r g) () .normal τ h') (n9 P fn.results (λr h'=>∃ g:Heap,g.le h'/\K r g) ()) (rU 0 args) h ()):gK P f args h K :=
 aQV N keep ib mk hmix hf hb hck hl (K':=λr h'=>∃ g:Heap,g.le h'/\K r g) hw λ_ _ hx=>hx
theorem bY7 {P:Program} {f:FuncId} {fn:Func} {c:Code} (N:Nat) (keep ib:List Nat) (mk:Marks) {args:List aC} {r:aC} {h0:Heap} (hmix:P.follows .mixedOrders=true) (hf:P.funcs[f]?=some fn) (hb:fn.body=some c)
  (hck:(jG P f && decide (fn.ntmps=N) && iV N mk c)=true) (hl:args.length<=N)
  (hw:∀ h:Heap,h0.le h->p2 P N keep ib mk c (λτ h'=>n9 P fn.results (λr' h'=>r'=r/\h.le h') () .normal τ h') (n9 P fn.results (λr' h'=>r'=r/\h.le h') ()) (rU 0 args) h ()):bX P f args r h0 :=
 λh hle=>aQV N keep ib mk hmix hf hb hck hl (K':=λr' h'=>r'=r/\h.le h') (hw h hle) λ_ _ hx=>⟨h,hx.2,hx.1,rfl⟩
theorem aTZ {P:Program} {f:FuncId} {fn:Func} {c:Code} (N:Nat) (keep ib:List Nat) (mk:Marks) {args:List aC} {h:Heap} {K:aC->Heap->Prop} (hf:P.funcs[f]?=some fn) (hw:p2 P N keep ib mk c (λτ h'=>n9 P fn.results (λr h'=>∃ g:Heap,g.le h'/\K r g) () .normal τ h') (n9 P fn.results (λr h'=>∃ g:Heap,g.le h'/\K r g) ()) (rU 0 args) h ()) (hmix:P.follows .mixedOrders=true:=by exact mix) (hb:fn.body=some c:=by rfl) (hck:(jG P f && decide (fn.ntmps=N) && iV N mk c)=true:=by kernel_rfl) (hl:args.length<=N:=by simp):gK P f args h K :=
 bY6 N keep ib mk hmix hf hb hck hl hw
theorem aGX {P:Program} {f:FuncId} {fn:Func} {c:Code} (N:Nat) (keep ib:List Nat) (mk:Marks) {args:List aC} {r:aC} {h0:Heap} (hf:P.funcs[f]?=some fn) (hw:∀ h:Heap,h0.le h->p2 P N keep ib mk c (λτ h'=>n9 P fn.results (λr' h'=>r'=r/\h.le h') () .normal τ h') (n9 P fn.results (λr' h'=>r'=r/\h.le h') ()) (rU 0 args) h ()) (hmix:P.follows .mixedOrders=true:=by exact mix) (hb:fn.body=some c:=by rfl) (hck:(jG P f && decide (fn.ntmps=N) && iV N mk c)=true:=by kernel_rfl) (hl:args.length<=N:=by simp):bX P f args r h0 :=
 bY7 N keep ib mk hmix hf hb hck hl hw
end Go.Hl

/-
  Contracts of functions and laws of the layer over the walk.
-/
import Derived.Test.YtoomflalicffnaaGreatHlB
import Derived.KernelRfl
import Derived.ReadAgain
import Derived.ChangeArms
import Derived.ChangeSame
import Derived.Handed
import Derived.JoinedOf
namespace Go.Hl
attribute [go_sem] dZ aU9
theorem nn (n:Nat):(0<=(n:Int))=True:=by simp
attribute [go_sem] bAC vQ aEG aAT bGX uJ s8 aAW aJZ yK aR5 uV sA ld aG3 aAQ pW lY z7 nX tR tA bZ gP pQ aE.ofValue aE.qW nJ Hl.prune cR j9
 aI aRM nn bM
attribute [go_sem] Call.operands Array.toList_append Option.map List.map Option.bind List.contains List.elem List.filterMap Op.operands Option.toList Array.size List.all List.set
attribute [go_sem] if_true if_false a13 Option.bind_none fQ aU8 aI9 List.getElem?_cons_succ true_and and_true forall_const Bool.true_eq_false aOH false_implies implies_true decide_true decide_false gX BEq.rfl dR sO r8 a17 Bool.not_eq_false' decide_eq_true_eq decide_eq_false_iff_not Int.natCast_inj Int.ofNat_lt Int.ofNat_le a4E Bool.not_false aE.int.injEq aE.bool.injEq aB.le_refl
attribute [go_sem] ne_eq Bool.and_self Bool.true_and Bool.and_true a9X Bool.and_false Int.reduceLT Int.reduceNeg Int.reduceLE Int.reduceEq Nat.reduceLeDiff Nat.reduceSub Nat.reduceMul aHQ aU4 aB9 rU aRI List.take_zero List.take_nil List.drop_nil bGS List.drop_succ_cons List.replicate w9 qR gX not_true_eq_false not_false_eq_true true_implies decide_not ite_not
attribute [go_sem] Bool.true_or aMB Bool.or_true Bool.or_false Nat.reduceAdd Nat.reduceEqDiff Nat.reduceBEq reduceCtorEq
@[go_sem] theorem bKY :aE.cells (aE.any)=[(aE.any)]:=rfl
@[go_sem] theorem bMX :aE.flat (aE.any)=false:=rfl
@[go_sem] theorem bG6 (b:Bool):aE.cells (aE.bool b)=[(aE.bool b)]:=rfl
@[go_sem] theorem bKZ (b:Bool):aE.flat (aE.bool b)=true:=rfl
@[go_sem] theorem bK0 (k:IntKind) (n:Int):aE.cells (aE.int k n)=[(aE.int k n)]:=rfl
@[go_sem] theorem bMY (k:IntKind) (n:Int):aE.flat (aE.int k n)=true:=rfl
@[go_sem] theorem bK1 (s:List UInt8):aE.cells (aE.str s)=[(aE.str s)]:=rfl
@[go_sem] theorem bMZ (s:List UInt8):aE.flat (aE.str s)=true:=rfl
@[go_sem] theorem bAI :aE.cells (aE.j8)=[(aE.j8)]:=rfl
@[go_sem] theorem bEJ :aE.flat (aE.j8)=true:=rfl
@[go_sem] theorem bEK :aE.cells (aE.bS)=[(aE.bS)]:=rfl
@[go_sem] theorem bG7 :aE.flat (aE.bS)=true:=rfl
@[go_sem] theorem bEL :aE.cells (aE.tN)=[(aE.tN)]:=rfl
@[go_sem] theorem bG8 :aE.flat (aE.tN)=true:=rfl
@[go_sem] theorem bEM :aE.cells (aE.l7)=[(aE.l7)]:=rfl
@[go_sem] theorem bG9 :aE.flat (aE.l7)=true:=rfl
@[go_sem] theorem bAJ :aE.cells (aE.pK)=[(aE.pK)]:=rfl
@[go_sem] theorem bEN :aE.flat (aE.pK)=true:=rfl
@[go_sem] theorem bM0 (sz:Nat) (es:List (List aE)) (b:Bool):aE.cells (aE.sl sz es b)=[(aE.sl sz es b)]:=rfl
@[go_sem] theorem bRC (sz:Nat) (es:List (List aE)) (b:Bool):aE.flat (aE.sl sz es b)=true:=rfl
@[go_sem] theorem bM1 (sz:Nat) (es:List (List aE)) (i o:Nat):aE.cells (aE.ip sz es i o)=[(aE.ip sz es i o)]:=rfl
@[go_sem] theorem bRD (sz:Nat) (es:List (List aE)) (i o:Nat):aE.flat (aE.ip sz es i o)=true:=rfl
@[go_sem] theorem bM2 (n sz i l:Nat):aE.cells (aE.os n sz i l)=[(aE.os n sz i l)]:=rfl
@[go_sem] theorem bRE (n sz i l:Nat):aE.flat (aE.os n sz i l)=true:=rfl
@[go_sem] theorem bM3 (n sz i l:Nat):aE.cells (aE.op n sz i l)=[(aE.op n sz i l)]:=rfl
@[go_sem] theorem bRF (n sz i l:Nat):aE.flat (aE.op n sz i l)=true:=rfl
@[go_sem] theorem bK2 (cs:List aE):aE.cells (aE.gK cs)=[(aE.gK cs)]:=rfl
@[go_sem] theorem bM4 (cs:List aE):aE.flat (aE.gK cs)=false:=rfl
@[go_sem] theorem bM5 (f:Fn) (a b:List aE):aE.cells (aE.fn f a b)=[(aE.fn f a b)]:=rfl
@[go_sem] theorem bRG (f:Fn) (a b:List aE):aE.flat (aE.fn f a b)=true:=rfl
@[go_sem] theorem bEO (t:TypeId) (v:aE):aE.cells (aE.iface t v)=[(aE.iface t v)]:=rfl
@[go_sem] theorem bHA (t:TypeId) (v:aE):aE.flat (aE.iface t v)=true:=rfl
@[go_sem] theorem bM6 (n:Nat):aE.cells (aE.mp n)=[(aE.mp n)]:=rfl
@[go_sem] theorem bRH (n:Nat):aE.flat (aE.mp n)=true:=rfl
@[go_sem] theorem bK3 (cs:List aE):aE.cells (.agg cs)=cs:=rfl
@[go_sem] theorem bM7 (cs:List aE):aE.flat (.agg cs)=false:=rfl
@[go_sem] theorem bHB:maxLen=9223372036854775807:=rfl
set_option linter.unusedVariables false
set_option linter.unusedSimpArgs false
def Sub (x y:aE):Prop:=∀ E h w v,fG E h w x v->fG E h w y v
theorem Sub.refl (x:aE):Sub x x:=λ_ _ _ _ r=>r
theorem Sub.trans {x y z:aE} (a:Sub x y) (b:Sub y z):Sub x z:=λE h w v r=>b E h w v (a E h w v r)
theorem Sub.any (x:aE):Sub x .any:=λ_ _ _ v _=>.any v
theorem Sub.nil (sz:Nat) (t:Bool):Sub .bS (.sl sz [] t):=λE h w v r=>by
 cases r
 exact .sl0 sz t none 0 (λ_=>rfl) (by simp[maxLen]) trivial
theorem Sub.loose (sz:Nat) (es:List (List aE)) (t:Bool):Sub (.sl sz es t) (.sl sz es false):=λE h w v r=>by
 cases r with
 |sl0 _ _ a cap ht hmax ha=>exact .sl0 sz false _ _ (λe=>by simp at e) hmax ha
 |sl _ _ _ b o cap cv hi hcap hmax ht hs hc h1 hr=>exact .sl sz es false b o _ cv hi hcap hmax (λe=>by simp at e) hs hc h1 hr
def aCV (xs ys:List aE):Prop:=xs.length=ys.length/\∀ (i:Nat) (x y:aE),xs[i]?=some x->ys[i]?=some y->Sub x y
theorem aCV.nil:aCV [] []:=⟨rfl,λi x y hx=>by simp at hx⟩
theorem aCV.cons {x y:aE} {xs ys:List aE} (a:Sub x y) (b:aCV xs ys):aCV (x::xs) (y::ys) :=
 ⟨by simp[b.1],λi u v hu hv=>by
  cases i with
  |zero=>simp at hu hv;subst hu;subst hv;exact a
  |succ i=>exact b.2 i u v (by simpa using hu) aD7⟩
theorem aCV.aVK {E:Env} {h:aB} {w:World}:∀ {xs ys:List aE} {vs:List Value},aCV xs ys->eF E h w xs vs->eF E h w ys vs
 | [],[],_,_,r=>r
 | [],_::_,_,s,_=>by have:=s.1;simp at this
 | _::_,[],_,s,_=>by have:=s.1;simp at this
 |x::xs,y::ys,[],s,r=>r.elim
 |x::xs,y::ys,v::vs,s,r=>⟨s.2 0 x y rfl rfl E h w v r.1,aCV.aVK (xs:=xs) (ys:=ys) ⟨by have:=s.1;simpa using this,λi u v hu hv=>s.2 (i+1) u v (by simpa using hu) aD7⟩ r.2⟩
theorem Sub.agg {xs ys:List aE} (s:aCV xs ys):Sub (.agg xs) (.agg ys):=λE h w v r=>by
 cases r with
 |agg _ vs hl hr =>
  have:=s.aVK (eF.mk hl hr)
  exact .agg _ _ this.length this.get
theorem Sub.gK {xs ys:List aE} (s:aCV xs ys):Sub (.gK xs) (.gK ys):=λE h w v r=>by
 cases r with
 |gK _ vs hl hr =>
  have:=s.aVK (eF.mk hl hr)
  exact .gK _ _ this.length this.get
theorem iD.sub {P:Program} {f:FuncId} {xs ys:List aE} {h:aB} {K:aE->aB->Prop} (s:aCV xs ys) (a:iD P f ys h K):iD P f xs h K :=
 ⟨a.1,λE w vs R hL=>a.2 E w vs R (s.aVK hL)⟩
theorem fR.sub {P:Program} {f:FuncId} {xs ys:List aE} {r:aE} (s:aCV xs ys) (a:fR P f ys r):fR P f xs r:=λh=>(a h).sub s
def Shift (r':aE) (h':aB) (r:aE) (h:aB):Prop :=
 ∀ E w v,Rel E h' w->fG E h' w r' v->∃ E',Ev E h' w E' h w/\Rel E' h w/\fG E' h w r v
theorem Shift.of {r' r:aE} {h' h:aB} (s:Sub r' r) (hl:h.le h'):Shift r' h' r h:=λE w v R x =>
 ⟨E,(Ev.refl E h' w).forget hl,R.forget hl,s _ _ _ _ (x.pV λb=>oU.le hl)⟩
theorem Shift.trans {a b c:aE} {h1 h2 h3:aB} (x:Shift a h1 b h2) (y:Shift b h2 c h3):Shift a h1 c h3:=λE w v R r=>by
 obtain⟨E',ev,R',r'⟩:=x E w v R r
 obtain⟨E'',ev',R'',r''⟩:=y E' w v R' r'
 exact⟨E'',ev.trans ev',R'',r''⟩
mutual
def aE.fS (n:Nat) (es:List (List aE)):aE->aE
 | .os m sz i len=>if m=n then .sl sz ((es.drop i).take len) false else .os m sz i len
 | .op m sz i off=>if m=n then .ip sz es i off else .op m sz i off
 | .agg cs=>.agg (mZ n es cs)
 | .gK cs=>.gK (mZ n es cs)
 |x=>x
def mZ (n:Nat) (es:List (List aE)):List aE->List aE
 | []=>[]
 |x::xs=>x.fS n es::mZ n es xs
end
theorem aKG (n:Nat) (es:List (List aE)):∀ l,mZ n es l=l.map (aE.fS n es)
 | []=>rfl
 |x::l=>by simp[mZ,aKG n es l]
mutual
def jK (n sz k:Nat):aE->Bool
 | .os m sz' i len=>m != n || (sz' == sz && decide (i+len<=k))
 | .op m sz' i len=>m != n || sz' == sz
 | .agg cs=>kK n sz k cs
 | .gK cs=>kK n sz k cs
 | _=>true
def kK (n sz k:Nat):List aE->Bool
 | []=>true
 |x::xs=>jK n sz k x && kK n sz k xs
end
theorem aA1 (n sz k:Nat):∀ (l:List aE),kK n sz k l=true->∀ (i:Nat) x,l[i]?=some x->jK n sz k x=true
 | [],_,i,x,hx=>by simp at hx
 |y::l,h,0,x,hx=>by simp at hx;subst hx;simp only[kK,mK]at h;exact h.1
 |y::l,h,i+1,x,hx=>by simp only[kK,mK]at h;exact aA1 n sz k l h.2 i x aRU
theorem fG.s7 {E:Env} {h:aB} {w:World} (R:Rel E h w) {n sz:Nat} {es:List (List Cell)} (hn:h n=some (.row sz es)) {x:aE} {v:Value} (r:fG E h w x v)
  (hb:jK n sz es.length x=true):fG E (aT h n .gone) w (x.fS n (fD es)) v:=by
 have hi:∀ b,oU E h w b->oU E (aT h n .gone) w b:=λb=>aAO n b
 induction r with
 |any v=>exact .any v
 |bool b=>exact .bool b
 |int k n=>exact .int k n
 |str s hl=>exact .str s hl
 |j8=>exact .j8
 |bS=>exact .bS
 |tN=>exact .tN
 |l7=>exact .l7
 |pK=>exact .pK
 |sl0 sz t a cap ht hmax ha=>exact .sl0 sz t a cap ht hmax ha
 |sl sz es t b o cap cv hb' hcap hmax ht hs hc h1 hr ih=>exact .sl sz es t b o cap cv (hi b hb') hcap hmax ht hs hc h1 λi j x hx=>(hr i j x hx).pV hi
 |ip sz es i off b o cv hb' hs hc h1 hr ih=>exact .ip sz es i off b o cv (hi b hb') hs hc h1 λi j x hx=>(hr i j x hx).pV hi
 |os0 m sz' hd hl =>
  simp only[aE.fS]
  split
  ·have:((fD es).drop 0).take 0=[]:=by simp
   rw[this]
   exact .sl0 sz' false none 0 (λ_=>rfl) (by simp[maxLen]) trivial
  ·exact .os0 m sz' hd hl
 |op m sz' i off b o hd hl =>
  simp only[aE.fS]
  split
  ·rename_i e
   subst e
   simp only[jK,bne_self_eq_false,aMB,beq_iff_eq]at hb
   subst hb
   obtain⟨b',o',hl',hbS,hs,cs,ct,cv,T,hh,hm',hT,hD,hc,hrr⟩:=aAR R hn (.inr ⟨_,hl⟩)
   rw[hl]at hl'
   obtain⟨rfl,rfl⟩:=aOI (gO hl')
   have himm:∀ c,E.fp m c->oU E (aT h m .gone) w c:=λc hc=>aG2 R hn trivial c hc
   have hat:∀ i' j y,iU (fD es) i' j=some y->∃ c,iU es i' j=some c/\y=c.val:=by
    intro i' j y hy
    rw[sT]at hy
    obtain⟨c,hc,rfl⟩:=r7.1 hy
    exact⟨c,hc,rfl⟩
   exact .ip sz' (fD es) i off b o cv (himm b hbS) (λe he=>yG hs e he)
    (λi' j y hy=>by
     obtain⟨c,hc',rfl⟩:=hat i' j y hy
     have:=hc _ _ _ hc'
     simp only[World.cell?,hh]
     rw[←this]
     simp)
    (λi' j y hy=>by obtain⟨c,hc',rfl⟩:=hat i' j y hy;exact(hrr _ _ _ hc').one)
    (λi' j y hy=>by
     obtain⟨c,hc',rfl⟩:=hat i' j y hy
     exact(hrr _ _ _ hc').s7 hi λb hb=>himm b (hT _ _ b hb).1)
  ·exact .op m sz' i off b o hd hl
 |fn f cs ds vs us hl hr hl' hr' ih ih'=>exact .fn f cs ds vs us hl (λi x v hx hv=>(hr i x v hx hv).pV hi) hl' (λi x v hx hv=>(hr' i x v hx hv).pV hi)
 |iface t x v hr ih=>exact .iface t x v (hr.pV hi)
 |mp n b o hd hl=>exact .mp n b o hd hl
 |agg cs vs hl hr ih =>
  simp only[aE.fS,aKG]
  simp only[jK]at hb
  refine .agg _ vs aRV λi x v hx hv=>?_
  rw[sO]at hx
  obtain⟨y,hy,rfl⟩:=r7.1 hx
  exact ih i y v hy hv (aA1 _ _ _ _ hb i y hy)
 |gK cs vs hl hr ih =>
  simp only[aE.fS,aKG]
  simp only[jK]at hb
  refine .gK _ vs aRV λi x v hx hv=>?_
  rw[sO]at hx
  obtain⟨y,hy,rfl⟩:=r7.1 hx
  exact ih i y v hy hv (aA1 _ _ _ _ hb i y hy)
 |os m sz' i len b o cap t mm hd hl hlc hmax hsh hm =>
  simp only[aE.fS]
  split
  ·rename_i e
   subst e
   simp only[jK,bne_self_eq_false,aMB,mK,beq_iff_eq,decide_eq_true_eq]at hb
   obtain⟨rfl,hle⟩:=hb
   obtain⟨b',o',hl',hbS,hs,cs,ct,cv,T,hh,hm',hT,hD,hc,hrr⟩:=aAR R hn (.inr ⟨_,hl⟩)
   rw[hl]at hl'
   obtain⟨rfl,rfl⟩:=aOI (gO hl')
   have himm:∀ c,E.fp m c->oU E (aT h m .gone) w c:=λc hc=>aG2 R hn trivial c hc
   have hlen:(((fD es).drop i).take len).length=len:=by rw[nU,List.length_drop,uT];omega
   have hat:∀ i' j y,iU (((fD es).drop i).take len) i' j=some y->∃ c,iU es (i+i') j=some c/\y=c.val:=by
    intro i' j y hy
    obtain⟨e,h1,h2⟩:=lC hy
    have hlt:i'<len:=by have:=(iY.1 h1).1;rw[hlen]at this;exact this
    rw[aJA hlt,aRH]at h1
    have:iU (fD es) (i+i') j=some y:=by simp[iU,h1,h2]
    rw[sT]at this
    obtain⟨c,hc,rfl⟩:=r7.1 this
    exact⟨c,hc,rfl⟩
   have:=fG.sl (E:=E) (h:=aT h m .gone) (w:=w) sz' (((fD es).drop i).take len) false b (o+i*sz') cap (λi' j=>cv (i+i') j) (himm b hbS) (by rw[hlen];exact hlc) hmax (λe=>by simp at e)
    (λe he=>yG hs e (a4D (aU7 he)))
    (λi' j y hy=>by
     obtain⟨c,hc',rfl⟩:=hat i' j y hy
     have:=hc _ _ _ hc'
     simp only[World.cell?,hh]
     rw[←this]
     simp only[bGO,aOH,if_false]
     congr 1;rw[uQ];omega)
    (λi' j y hy=>by obtain⟨c,hc',rfl⟩:=hat i' j y hy;exact(hrr _ _ _ hc').one)
    (λi' j y hy=>by
     obtain⟨c,hc',rfl⟩:=hat i' j y hy
     exact(hrr _ _ _ hc').s7 hi λb hb=>himm b (hT _ _ b hb).1)
   rw[hlen]at this
   exact this
  ·exact .os m sz' i len b o cap t mm hd hl hlc hmax hsh hm
theorem Shift.fS {x:aE} {h:aB} {n sz:Nat} {es:List (List Cell)} (hn:h n=some (.row sz es)) (hb:jK n sz es.length x=true):Shift x h (x.fS n (fD es)) (aT h n .gone):=λE w v R r =>
 ⟨E,Ev.gone n,R.gone hn,r.s7 R hn hb⟩
theorem qI.s7 {P:Program} {N:Nat} {c:Code} {Q:Exit->bK->aB->Prop} {τ:bK} {h:aB} (n:Nat) {sz:Nat} {es:List (List Cell)} (hn:h n=some (.row sz es)) (hb:τ.all (λp=>jK n sz es.length p.2)=true)
  (x:qI P N c Q (τ.map λp=>(p.1,p.2.fS n (fD es))) (aT h n .gone)):qI P N c Q τ h:=by
 intro ds E w a R r
 refine Code.wp_mono (λe a' w' y=>s9.trans (Ev.gone n) y) (x ds E w a (R.gone hn) ⟨r.size,r.defers,λk=>?_⟩)
 have key:∀ τ:bK,τ.all (λp=>jK n sz es.length p.2)=true->jK n sz es.length (bZ τ k)=true/\bZ (τ.map λp=>(p.1,p.2.fS n (fD es))) k=(bZ τ k).fS n (fD es):=by
  intro τ
  induction τ with
  |nil=>intro _;exact⟨rfl,rfl⟩
  |cons p τ ih =>
   intro hp
   simp only[List.all_cons,mK]at hp
   simp only[qR,bZ]
   split
   ·exact⟨hp.1,rfl⟩
   ·exact ih hp.2
 rw[(key τ hb).2]
 exact(r.get k).s7 R hn (key τ hb).1
theorem uZ {P:Program} {f:FuncId} {fn:Func} {c:Code} {N:Nat} {args:List aE} {h:aB} {K K':aE->aB->Prop} (a:iD P f args h K') (hk:∀ r h',K' r h'->∃ r₁ h₁,Shift r h' r₁ h₁/\K r₁ h₁):iD P f args h K :=
 ⟨a.1,λE w vs R hL=>Calls.mono (a.2 E w vs R hL) λe w' he=>by
  cases e <;> try exact he
  obtain⟨r,h',E',k,ev,R',rx⟩:=he
  obtain⟨r₁,h₁,hs,k₁⟩:=hk r h' k
  obtain⟨E'',ev',R'',rx'⟩:=hs E' w' _ R' rx
  exact⟨r₁,h₁,E'',k₁,ev.trans ev',R'',rx'⟩⟩
theorem a5J {P:Program} {f:FuncId} {fn:Func} {c:Code} (N:Nat) (keep ib:List Nat) (mk:Marks) {args:List aE} {r:aE} (hmix:P.follows .mixedOrders=true) (hf:P.funcs[f]?=some fn) (hb:fn.body=some c)
  (hck:(jF P f && decide (fn.ntmps=N) && gR N mk c)=true) (hl:args.length<=N)
  (hw:∀ h,hwp P N keep ib mk c (aEM P fn.results (λr' h'=>Shift r' h' r h) .normal) (aEM P fn.results λr' h'=>Shift r' h' r h) (pQ 0 args) h):fR P f args r:=λh =>
 uZ (fn:=fn) (c:=c) (N:=N) (aKF N keep ib mk hmix hf hb hck hl (hw h) λr' h' hx=>⟨h',aB.le_refl _,hx⟩) λr' h' hx=>⟨r,h,hx,rfl,rfl⟩
theorem cT {r:aE} {h' h:aB} (hl:h.le h'):Shift r h' r h:=.of (.refl r) hl
theorem bO (r:aE) (h:aB):Shift r h r h:=.of (.refl r) (aB.le_refl h)
abbrev Tag {α:Type} (_:α):Type:=Unit
def gI {α:Type} (o:Option α) (K:α->Prop) (_:Tag K):Prop:=match o with|some x=>K x|none=>False
@[go_sem] theorem bK4 {α:Type} (x:α) (K:α->Prop) (t:Tag K):gI (some x) K t=K x:=rfl
@[go_sem] theorem bK5 {α:Type} (K:α->Prop) (t:Tag K):gI none K t=False:=rfl
def aA2 (v:aE) (A B:Prop) (_:Tag (A,B)):Prop:=match v with | .bool t=>(t=true->A)/\(t=false->B)|_=>False
@[go_sem] theorem bHC (c:Bool) (A B:Prop) (t:Tag (A,B)):aA2 (.bool c) A B t=((c=true->A)/\(c=false->B)):=rfl
@[go_sem high] theorem bHD (A B:Prop) (t:Tag (A,B)):aA2 (.bool true) A B t=A:=by simp[aA2]
@[go_sem high] theorem bEP (A B:Prop) (t:Tag (A,B)):aA2 (.bool false) A B t=B:=by simp[aA2]
def aSM (K:bK->aB->Prop) (Q:Exit->bK->aB->Prop) (_:Tag (K,Q)):Exit->bK->aB->Prop:=xI K Q
@[go_sem] theorem bAK (K:bK->aB->Prop) (Q:Exit->bK->aB->Prop) (t:Tag (K,Q)) (τ:bK) (h:aB):aSM K Q t .normal τ h=K τ h:=rfl
@[go_sem] theorem bK6 (K:bK->aB->Prop) (Q:Exit->bK->aB->Prop) (t:Tag (K,Q)) (τ:bK) (h:aB):aSM K Q t .ret τ h=Q .ret τ h:=rfl
@[go_sem] theorem bHE (K:bK->aB->Prop) (Q:Exit->bK->aB->Prop) (t:Tag (K,Q)) (i:Nat) (τ:bK) (h:aB):aSM K Q t (.exit i) τ h=Q (.exit i) τ h:=rfl
def aF4 (id:Nat) (K:bK->aB->Prop) (Q:Exit->bK->aB->Prop) (_:Tag (K,Q)):Exit->bK->aB->Prop:=aKE id K Q
@[go_sem] theorem bHF (id:Nat) (K:bK->aB->Prop) (Q:Exit->bK->aB->Prop) (t:Tag (K,Q)) (τ:bK) (h:aB):aF4 id K Q t .ret τ h=Q .ret τ h:=rfl
@[go_sem] theorem bEQ (id:Nat) (K:bK->aB->Prop) (Q:Exit->bK->aB->Prop) (t:Tag (K,Q)) (τ:bK) (h:aB):aF4 id K Q t (.exit id) τ h=K τ h:=by simp[aF4,aKE]
@[go_sem] theorem bAL (id i:Nat) (K:bK->aB->Prop) (Q:Exit->bK->aB->Prop) (t:Tag (K,Q)) (τ:bK) (h:aB) (hi:(i == id)=false):aF4 id K Q t (.exit i) τ h=Q (.exit i) τ h:=by
 have:i≠id:=by simpa using hi
 simp[aF4,aKE,this]
def aF5 (P:Program) (N:Nat) (c:Code) (Q:Exit->bK->aB->Prop) (τ:bK) (h:aB) (_:Tag (c,Q)):Prop:=qI P N c Q τ h
def kF (P:Program) (ib:List Nat) (d:Option Tmp) (op:Op) (ρ:Operand->aE) (h:aB) (K:aE->aB->Prop) (_:Tag (op,K)):Prop :=
 uX P ib ⟨d,op,0,"",#[],none⟩ ρ h K
def stepG (P:Program) (ib:List Nat) (d:Option Tmp) (op:Op) (ρ:Operand->aE) (K:aE->Prop) (_:Tag (op,K)):Prop :=
 aF2 P ib ⟨d,op,0,"",#[],none⟩ ρ K
def aEN (P:Program) (ib:List Nat) (os l:List Oper) (τ:bK) (h:aB) (K:bK->aB->Prop) (_:Tag (os,l,K)):Prop:=aEL P ib os.toArray l τ h K
def aA3 (os:List Oper) (g:Nat) (_:Tag os):Option Tmp:=(os.toArray[g]?).bind (·.dst)
@[go_sem] theorem bHG (o:Oper) (os:List Oper) (t:Tag (o::os)):aA3 (o::os) 0 t=o.dst:=by simp[aA3]
@[go_sem] theorem bHH (o:Oper) (os:List Oper) (n:Nat) (t:Tag (o::os)):aA3 (o::os) (n+1) t=aA3 os n ():=by simp[aA3]
def oB (v:aE) (b:Bool) (A B C:Prop) (_:Tag (A,B,C)):Prop:=match v with
 | .bool b'=>(b'=b->A)/\(b'=!b->B)
 | .gK []=>C
 | _=>False
@[go_sem] theorem bHI (b:Bool) (A B C:Prop) (t:Tag (A,B,C)):oB (.gK []) b A B C t=C:=rfl
@[go_sem] theorem bM8 (c:Bool) (A B C:Prop) (t:Tag (A,B,C)):oB (.bool c) true A B C t=((c=true->A)/\(c=false->B)):=rfl
@[go_sem] theorem bM9 (c:Bool) (A B C:Prop) (t:Tag (A,B,C)):oB (.bool c) false A B C t=((c=false->A)/\(c=true->B)):=rfl
@[go_sem high] theorem bK7 (A B C:Prop) (t:Tag (A,B,C)):oB (.bool true) true A B C t=A:=by simp[oB]
@[go_sem high] theorem bK8 (A B C:Prop) (t:Tag (A,B,C)):oB (.bool false) true A B C t=B:=by simp[oB]
@[go_sem high] theorem bK9 (A B C:Prop) (t:Tag (A,B,C)):oB (.bool true) false A B C t=B:=by simp[oB]
@[go_sem high] theorem bLA (A B C:Prop) (t:Tag (A,B,C)):oB (.bool false) false A B C t=A:=by simp[oB]
section
variable (P:Program) (ib:List Nat) (os rest:List Oper) (τ:bK) (h:aB) (K:bK->aB->Prop) (d:Option Tmp) (op:Op) (ty:TypeId) (p:String) (af:Array Edge)
@[go_sem] theorem bLB (t:Tag (os,[],K)):aEN P ib os [] τ h K t=K τ h:=rfl
@[go_sem] theorem bHJ (t:Tag (os,(⟨d,op,ty,p,af,none⟩::rest),K)):aEN P ib os (⟨d,op,ty,p,af,none⟩::rest) τ h K t =
  kF P ib d op (nX τ) h (λv h'=>aEN P ib os rest (gP τ d v) h' K ()) ():=rfl
@[go_sem] theorem bHK (g:Nat) (b:Bool) (t:Tag (os,(⟨d,op,ty,p,af,some (g,b)⟩::rest),K)):aEN P ib os (⟨d,op,ty,p,af,some (g,b)⟩::rest) τ h K t =
  gI (aA3 os g ()) (λs=>oB (bZ τ s) b (kF P ib d op (nX ((s,.bool b)::τ)) h (λv h'=>aEN P ib os rest (gP ((s,.bool b)::τ) d v) h' K ()) ())
   (aEN P ib os rest (gP ((s,.bool !b)::τ) d (.gK [])) h K ()) (aEN P ib os rest (gP τ d (.gK [])) h K ()) ()) ():=by
 unfold aEN
 rw[aEL]
 simp only[gI,aA3]
 cases (os.toArray[g]?).bind (·.dst)with
 |none=>rfl
 |some s =>
  simp only[oB]
  cases bZ τ s <;> first|rfl|(rename_i cs;cases cs <;> rfl)
end
def aEO (P:Program) (ib:List Nat) (os:List Oper) (ms:List Nat) (cr:List (Nat×Nat)) (l:tB) (pr:List (Nat×Nat)) (τ:bK) (h:aB) (K:bK->aB->Prop) (_:Tag (os,K)):Prop:=aF3 P ib os.toArray ms cr l pr τ h K
def aKH (P:Program) (ib:List Nat) (os:List Oper) (cr:List (Nat×Nat)) (i:Nat) (m:Bool) (o:Oper) (pr:List (Nat×Nat)) (τ:bK) (h:aB) (K:List (Nat×Nat)->bK->aB->Prop) (_:Tag (os,o,K)):Prop :=
 match o.guard with
 |none=>aHD P ib cr i m o (tR os.toArray o τ) pr h (λpr' v h'=>K pr' (gP τ o.dst v) h')
 |some (g,b)=>match (os.toArray[g]?).bind (·.dst)with
  |some d=>match bZ τ d with
   | .bool b'=>(b'=b->aHD P ib cr i m o (tR os.toArray o ((d,.bool b)::τ)) pr h (λpr' v h'=>K pr' (gP ((d,.bool b)::τ) o.dst v) h')) /\
     (b'=!b->K pr (gP ((d,.bool !b)::τ) o.dst (.gK [])) h)
   | .gK []=>K pr (gP τ o.dst (.gK [])) h
   | _=>False
  |none=>False
def aSN (os:List Oper) (i:Nat) (K:Oper->Prop) (_:Tag (os,K)):Prop:=match os[i]? with|some o=>K o|none=>False
@[go_sem] theorem bLC (o:Oper) (os:List Oper) (K:Oper->Prop) (t:Tag (o::os,K)):aSN (o::os) 0 K t=K o:=rfl
@[go_sem] theorem bLD (o:Oper) (os:List Oper) (i:Nat) (K:Oper->Prop) (t:Tag (o::os,K)):aSN (o::os) (i+1) K t=aSN os i K ():=rfl
def aVL (os:List Oper) (o:Oper) (τ:bK) (_:Tag (os,o)):Operand->aE:=tR os.toArray o τ
section
variable (P:Program) (ib:List Nat) (os:List Oper) (τ:bK) (h:aB) (K:bK->aB->Prop) (d:Option Tmp) (op:Op) (ty:TypeId) (p:String) (af:Array Edge)
variable (cr:List (Nat×Nat)) (pr:List (Nat×Nat)) (i:Nat)
@[go_sem] theorem bLE (ms:List Nat) (t:Tag (os,K)):aEO P ib os ms cr .nil pr τ h K t=K τ h:=rfl
theorem aVM (ms:List Nat) (i:Nat) (C:List (Nat×Nat)->bK->aB->Prop):OpD P ib os.toArray ms cr i pr τ h C=aSN os i (λo=>aKH P ib os cr i (ms.contains i) o pr τ h C ()) ():=by
 simp only[OpD,aSN,aKH,aU8]
 cases os[i]? <;> rfl
@[go_sem] theorem bNA (ms:List Nat) (l:tB) (i:Nat) (t:Tag (os,K)):aEO P ib os ms cr (.op i l) pr τ h K t=aSN os i (λo=>aKH P ib os cr i (ms.contains i) o pr τ h (λpr' τ' h'=>aEO P ib os ms cr l pr' τ' h' K ()) ()) ():=by
 simp only[aEO,aF3];exact aVM P ib os τ h cr pr ms i _
@[go_sem] theorem bLF (ms:List Nat) (l q:tB) (i j:Nat) (t:Tag (os,K)):aEO P ib os ms cr (.alt i l j q) pr τ h K t=((aSN os i (λo=>aKH P ib os cr i (ms.contains i) o pr τ h (λpr' τ' h'=>aEO P ib os ms cr l pr' τ' h' K ()) ()) ())/\aSN os j (λo=>aKH P ib os cr j (ms.contains j) o pr τ h (λpr' τ' h'=>aEO P ib os ms cr q pr' τ' h' K ()) ()) ()):=by
 simp only[aEO,aF3];rw[aVM P ib os τ h cr pr ms i _,aVM P ib os τ h cr pr ms j _]
@[go_sem] theorem bNB (o:Oper) (t:Tag (os,o)) (k:Nat):aVL os o τ t (.tmp k)=if (tA os.toArray o).contains k then bZ τ k else .any:=rfl
@[go_sem] theorem bHL (o:Oper) (t:Tag (os,o)) (v:Value):aVL os o τ t (.const v)=aE.ofValue v:=rfl
@[go_sem] theorem bLG (o:Oper) (t:Tag (os,o)) (f:FuncId):aVL os o τ t (.func f)=nX τ (.func f):=rfl
def iN:Op->Bool
 | .load _ _=>true
 | _=>false
def aHE (d:Option Tmp) (op:Op) (ρ:Operand->aE) (M:List (Nat×Nat)->aE->aB->Prop) (_:Tag (op,M)):Prop :=
 if iN op then aSI P ⟨d,op,0,"",#[],none⟩ ρ h (λn v=>M (aSK cr i n pr) v h)else uX P ib ⟨d,op,0,"",#[],none⟩ ρ h (λv h'=>aKD cr i pr h h'/\M pr v h')
theorem aYV (ρ:Operand->aE) (g:Option (Nat×Bool)) (M:List (Nat×Nat)->aE->aB->Prop):aHD P ib cr i true ⟨d,op,ty,p,af,g⟩ ρ pr h M=aHE P ib h cr pr i d op ρ M ():=by
 unfold aHD aHE
 cases op <;> rfl
@[go_sem] theorem bUK (L:List (Nat×Nat)->bK->aB->Prop) (t:Tag (os,(⟨d,op,ty,p,af,none⟩:Oper),L)):aKH P ib os cr i true ⟨d,op,ty,p,af,none⟩ pr τ h L t=aHE P ib h cr pr i d op (aVL os ⟨d,op,ty,p,af,none⟩ τ ()) (λpr' v h'=>L pr' (gP τ d v) h') ():=by
 rw[←aYV (ty:=ty) (p:=p) (af:=af) (g:=none)];rfl
@[go_sem] theorem bUL (L:List (Nat×Nat)->bK->aB->Prop) (t:Tag (os,(⟨d,op,ty,p,af,none⟩:Oper),L)):aKH P ib os cr i false ⟨d,op,ty,p,af,none⟩ pr τ h L t=stepG P ib d op (aVL os ⟨d,op,ty,p,af,none⟩ τ ()) (λv=>L pr (gP τ d v) h) ():=rfl
@[go_sem] theorem bRI (L:List (Nat×Nat)->bK->aB->Prop) (g:Nat) (b:Bool) (t:Tag (os,(⟨d,op,ty,p,af,some (g,b)⟩:Oper),L)):aKH P ib os cr i true ⟨d,op,ty,p,af,some (g,b)⟩ pr τ h L t =
  gI (aA3 os g ()) (λs=>oB (bZ τ s) b (aHE P ib h cr pr i d op (aVL os ⟨d,op,ty,p,af,some (g,b)⟩ ((s,.bool b)::τ) ()) (λpr' v h'=>L pr' (gP ((s,.bool b)::τ) d v) h') ())
   (L pr (gP ((s,.bool !b)::τ) d (.gK [])) h) (L pr (gP τ d (.gK [])) h) ()) ():=by
 simp only[aKH,gI,aA3,←aYV (ty:=ty) (p:=p) (af:=af) (g:=some (g,b))]
 cases (os.toArray[g]?).bind (·.dst)with
 |none=>rfl
 |some s =>
  simp only[oB]
  cases bZ τ s <;> first|rfl|(rename_i cs;cases cs <;> rfl)
@[go_sem] theorem bRJ (L:List (Nat×Nat)->bK->aB->Prop) (g:Nat) (b:Bool) (t:Tag (os,(⟨d,op,ty,p,af,some (g,b)⟩:Oper),L)):aKH P ib os cr i false ⟨d,op,ty,p,af,some (g,b)⟩ pr τ h L t =
  gI (aA3 os g ()) (λs=>oB (bZ τ s) b (stepG P ib d op (aVL os ⟨d,op,ty,p,af,some (g,b)⟩ ((s,.bool b)::τ) ()) (λv=>L pr (gP ((s,.bool b)::τ) d v) h) ())
   (L pr (gP ((s,.bool !b)::τ) d (.gK [])) h) (L pr (gP τ d (.gK [])) h) ()) ():=by
 simp only[aKH,gI,aA3]
 cases (os.toArray[g]?).bind (·.dst)with
 |none=>rfl
 |some s =>
  simp only[oB]
  cases bZ τ s <;> first|rfl|(rename_i cs;cases cs <;> rfl)
end
def nV (P:Program) (N:Nat) (keep ib:List Nat) (mk:Marks) (c:Code) (K:bK->aB->Prop) (Q:Exit->bK->aB->Prop) (τ:bK) (h:aB) (_:Tag (c,K,Q)):Prop:=hwp P N keep ib mk c K Q τ h
section
variable (P:Program) (N:Nat) (keep ib:List Nat) (mk:Marks) (K:bK->aB->Prop) (Q:Exit->bK->aB->Prop) (τ:bK) (h:aB)
@[go_sem] theorem bLH (t:Tag (Code.skip,K,Q)):nV P N keep ib mk .skip K Q τ h t=K τ h:=rfl
@[go_sem] theorem bNC (t:Tag (Code.ret,K,Q)):nV P N keep ib mk .ret K Q τ h t=Q .ret τ h:=rfl
@[go_sem] theorem bLI (i:Nat) (t:Tag (Code.exit i,K,Q)):nV P N keep ib mk (.exit i) K Q τ h t=Q (.exit i) τ h:=rfl
@[go_sem] theorem bND (a b:Code) (t:Tag (Code.seq a b,K,Q)):nV P N keep ib mk (.seq a b) K Q τ h t=nV P N keep ib mk a (λτ h=>nV P N keep ib mk b K Q τ h ()) Q τ h ():=rfl
@[go_sem] theorem bLJ (x:Operand) (a b:Code) (t:Tag (Code.cond x a b,K,Q)):nV P N keep ib mk (.cond x a b) K Q τ h t=aA2 (nX τ x) (nV P N keep ib mk a K Q τ h ()) (nV P N keep ib mk b K Q τ h ()) ():=by
 simp only[nV,hwp,aA2];cases nX τ x <;> rfl
@[go_sem] theorem bHM (i:Nat) (c:Code) (t:Tag (Code.block i c,K,Q)):nV P N keep ib mk (.block i c) K Q τ h t=nV P N keep ib mk c K (aF4 i K Q ()) τ h ():=rfl
@[go_sem] theorem bLK (c:Code) (t:Tag (Code.loop c,K,Q)):nV P N keep ib mk (.loop c) K Q τ h t=aF5 P N (.loop c) (aSM K Q ()) τ h ():=rfl
@[go_sem] theorem bER (i:Nat) (os:List Oper) (t:Tag (Code.region i ⟨os⟩ false,K,Q)):nV P N keep ib mk (.region i ⟨os⟩ false) K Q τ h t=aEN P ib os os τ h (λτ' h'=>K (Hl.prune keep τ') h') ():=rfl
@[go_sem] theorem bLL (i:Nat) (os:List Oper) (t:Tag (Code.region i ⟨os⟩ true,K,Q)):nV P N keep ib mk (.region i ⟨os⟩ true) K Q τ h t=aEO P ib os (mk i).1 (mk i).2.2 (mk i).2.1 [] τ h (λτ' h'=>K (Hl.prune keep τ') h') ():=rfl
end
theorem aKI {P:Program} {N:Nat} {keep ib:List Nat} {mk:Marks} (hmix:P.follows .mixedOrders=true) (c:Code) (K:bK->aB->Prop) (Q:Exit->bK->aB->Prop) (τ:bK) (h:aB) (hc:gR N mk c=true) (hw:nV P N keep ib mk c K Q τ h ()):qI P N c (aSM K Q ()) τ h :=
 sC hmix c K Q τ h hc hw
def aSO:Op->Bool
 | .box ..=>false
 | .buildSlice ..=>false
 | .call ⟨.builtin .append,_,_⟩=>false
 | _=>true
theorem fO {P:Program} {ib:List Nat} {d:Option Tmp} {op:Op} {ρ:Operand->aE} {h:aB} {K:aE->aB->Prop} {t:Tag (op,K)} (hop:aSO op=true):kF P ib d op ρ h K t=step P ⟨d,op,0,"",#[],none⟩ ρ h K:=by
 unfold kF uX
 cases d with
 |none=>rfl
 |some d =>
  simp only
  split
  ·cases op <;> first|rfl|(simp[aSO]at hop;done)|(rename_i c;rcases c with⟨f,as,ats⟩;cases f <;> first|rfl|(rename_i b;cases b <;> first|rfl|(simp[aSO]at hop;done)))
  ·rfl
theorem gS {P:Program} {ib:List Nat} {d:Option Tmp} {op:Op} {ρ:Operand->aE} {K:aE->Prop} {t:Tag (op,K)} (hop:aSO op=true):stepG P ib d op ρ K t=aHC P ⟨d,op,0,"",#[],none⟩ ρ K:=by
 unfold stepG aF2
 cases d with
 |none=>rfl
 |some d =>
  simp only
  split
  ·cases op <;> first|rfl|(simp[aSO]at hop)
  ·rfl
def aHU (P:Program) (op:BinOp) (ty:TypeId) (x y:aE) (K:aE->Prop) (_:Tag K):Prop:=xJ P op ty x y K
def aKJ (P:Program) (op:BinOp) (ty:TypeId) (c:Bool) (x y:aE) (K:aE->Prop) (_:Tag K):Prop:=xK P op ty c x y K
def lW (P:Program) (op:BinOp) (ty:TypeId) (x y:aE) (K:aE->Prop) (_:Tag K):Prop:=gQ P op ty x y K
def unF (op:UnOp) (x:aE) (K:aE->Prop) (_:Tag K):Prop:=aFY op x K
def faF (d:Option TyD) (f:Nat) (x:aE) (K:aE->Prop) (_:Tag K):Prop:=aFZ d f x K
def iaF (re:Option lU) (x i:aE) (K:aE->Prop) (_:Tag K):Prop:=aF0 re x i K
def ixF (d:Option TyD) (x i:aE) (K:aE->Prop) (_:Tag K):Prop:=aC2 d x i K
def ldF (r:Option lU) (a:aE) (h:aB) (K:aE->Prop) (_:Tag K):Prop:=kA r a h K
def stF (r:Option lU) (a v:aE) (h:aB) (K:aB->Prop) (_:Tag K):Prop:=aOP r a v h K
def alF (r:Option lU) (h:aB) (K:aE->aB->Prop) (_:Tag K):Prop:=aF1 r h K
def mkF (re:Option lU) (l c:aE) (h:aB) (K:aE->aB->Prop) (_:Tag K):Prop:=aJ1 re l c h K
def slD (P:Program) (t:TypeId) (x:aE) (lo hi:Option aE) (K:aE->Prop) (_:Tag K):Prop:=sB P t x lo hi K
def slF (P:Program) (t:TypeId) (x:aE) (lo hi:Option aE) (K:aE->Prop) (_:Tag K):Prop:=nC P t x lo hi K
def a2J (P:Program) (d:Option TyD) (x:aE) (K:aE->Prop) (_:Tag K):Prop:=match d,x with
  |some (.slice _),.sl _ es _=>es.length<=9223372036854775807->K (.int .i64 es.length)
  |some (.slice _),.os _ _ _ n=>n<=9223372036854775807->K (.int .i64 n)
  |some (.slice _),.bS=>K (.int .i64 0)
  |some .str,.str s=>s.length<=9223372036854775807->K (.int .i64 s.length)
  | _,_=>False
def a5K (P:Program) (d:Option TyD) (x:aE) (K:aE->Prop) (_:Tag K):Prop:=match d,x with
  |some (.slice _),.sl _ es _=>K (.int .i64 es.length)
  |some (.slice _),.os _ _ _ n=>K (.int .i64 n)
  |some (.slice _),.bS=>K (.int .i64 0)
  |some .str,.str s=>K (.int .i64 s.length)
  | _,_=>False
def cvF (P:Program) (s:Option TyD) (d:Option TyD) (x:aE) (K:aE->Prop) (_:Tag K):Prop:=match d,x with
 |some (.int k'),.int k n=>s.isSome=true/\K (.int k' (k'.wrap n))
 |some .str,.sl 1 es _=>(match s with
  |some (.slice et)=>z7 P et=some (.int .u8)/\(match bytesOf es with|some bs=>K (.str bs)|none=>False)
  | _=>False)
 | _,_=>False
def bAM (P:Program) (t:TypeId) (x:aE) (lo:Option aE) (hi mx:aE) (K:aE->Prop) (_:Tag K):Prop:=p8 P t x lo hi mx K
def rdF (cr:List (Nat×Nat)) (i:Nat) (pr:List (Nat×Nat)) (r:Option lU) (x:aE) (h:aB) (M:List (Nat×Nat)->aE->aB->Prop) (_:Tag M):Prop:=match x with
 | .op n sz j off=>kA r (.op n sz j off) h λv=>M (aSK cr i (some n) pr) v h
 | .ip sz es j off=>kA r (.ip sz es j off) h λv=>M (aSK cr i none pr) v h
 | _=>False
def bAN (c A:Prop) (_:Tag A):Prop:=c/\A
@[go_sem] theorem bRP (c A:Prop) (t:Tag A):bAN c A t=(c/\A):=rfl
@[go_sem high] theorem bLO (A:Prop) (t:Tag A):bAN True A t=A:=by simp[bAN]
def buF (P:Program) (r:Option lU) (ps:List (Nat×aE)) (K:aE->Prop) (_:Tag K):Prop:=uK P r ps K
def exF (x:aE) (i:Nat) (K:aE->Prop) (_:Tag K):Prop:=match x with
  | .gK cs=>match cs[i]? with|some x=>K x|none=>False
  | _=>False
def ncF (x:aE) (K:aE->Prop) (_:Tag K):Prop:=match x with
  | .op n sz i k=>K (.op n sz i k)
  | .ip sz es i k=>K (.ip sz es i k)
  | _=>False
def bEU (P:Program) (f:aE) (args:List aE) (h:aB) (K:aE->aB->Prop) (_:Tag K):Prop:=match f with
  | .fn (.func g) first cap=>iD P g (first++args++cap) h K
  | _=>False
def bEV (P:Program) (f:aE) (args:List aE) (K:aE->Prop) (_:Tag K):Prop:=match f with
  | .fn (.func g) first cap=>a5G P g (first++args++cap) K
  | _=>False
def aH (P:Program) (g:FuncId) (args:List aE) (h:aB) (K:aE->aB->Prop) (_:Tag K):Prop:=iD P g args h K
def aG (P:Program) (g:FuncId) (args:List aE) (K:aE->Prop) (_:Tag K):Prop:=a5G P g args K
theorem aH.mk {P:Program} {g:FuncId} {args:List aE} {h:aB} {K:aE->aB->Prop} {t:Tag K} {r:aE} (a:fR P g args r) (k:K r h):aH P g args h K t:=fR.call a k
theorem aG.mk {P:Program} {g:FuncId} {args:List aE} {K:aE->Prop} {t:Tag K} {r:aE} (a:fR P g args r) (k:K r):aG P g args K t:=⟨r,a,k⟩
section
variable (P:Program) (ib:List Nat) (d:Option Tmp) (ρ:Operand->aE) (h:aB) (K:aE->aB->Prop) (L:aE->Prop)
@[go_sem] theorem bRS (x:Operand) (t:Tag (Op.move x,K)):kF P ib d (.move x) ρ h K t=K (ρ x) h:=by rw[fO rfl];rfl
@[go_sem] theorem bRT (x:Operand) (t:Tag (Op.move x,L)):stepG P ib d (.move x) ρ L t=L (ρ x):=by rw[gS rfl];rfl
@[go_sem] theorem bLP (x:Operand) (t:Tag (Op.assign x,K)):kF P ib d (.assign x) ρ h K t=K (ρ x) h:=by rw[fO rfl];rfl
@[go_sem] theorem bLQ (x:Operand) (t:Tag (Op.assign x,L)):stepG P ib d (.assign x) ρ L t=L (ρ x):=by rw[gS rfl];rfl
@[go_sem] theorem bRU (c a b:Operand) (t:Tag (Op.pick c a b,K)):kF P ib d (.pick c a b) ρ h K t=aA2 (ρ c) (K (ρ a) h) (K (ρ b) h) ():=by
 rw[fO rfl];simp only[step,aA2];cases ρ c <;> rfl
@[go_sem] theorem bRV (c a b:Operand) (t:Tag (Op.pick c a b,L)):stepG P ib d (.pick c a b) ρ L t=aA2 (ρ c) (L (ρ a)) (L (ρ b)) ():=by
 rw[gS rfl];simp only[aHC,aA2];cases ρ c <;> rfl
@[go_sem] theorem bUO (op:BinOp) (ty ty':TypeId) (x y:Operand) (t:Tag (Op.binOp op ty x y ty',K)):kF P ib d (.binOp op ty x y ty') ρ h K t=aKJ P op ty (tQ y) (ρ x) (ρ y) (λv=>K v h) ():=by rw[fO rfl];rfl
@[go_sem] theorem bUP (op:BinOp) (ty ty':TypeId) (x y:Operand) (t:Tag (Op.binOp op ty x y ty',L)):stepG P ib d (.binOp op ty x y ty') ρ L t=lW P op ty (ρ x) (ρ y) L ():=by rw[gS rfl];rfl
@[go_sem] theorem bXU (op:UnOp) (ty:TypeId) (x:Operand) (t:Tag (Op.unOp op ty x,K)):kF P ib d (.unOp op ty x) ρ h K t=unF op (ρ x) (λv=>K v h) ():=by rw[fO rfl];rfl
@[go_sem] theorem bXV (op:UnOp) (ty:TypeId) (x:Operand) (t:Tag (Op.unOp op ty x,L)):stepG P ib d (.unOp op ty x) ρ L t=unF op (ρ x) L ():=by rw[gS rfl];rfl
@[go_sem] theorem bRW (s e:TypeId) (x:Operand) (t:Tag (Op.convert s e x,K)):kF P ib d (.convert s e x) ρ h K t=cvF P (z7 P s) (z7 P e) (ρ x) (λv=>K v h) ():=by rw[fO rfl];rfl
@[go_sem] theorem bRX (s e:TypeId) (x:Operand) (t:Tag (Op.convert s e x,L)):stepG P ib d (.convert s e x) ρ L t=cvF P (z7 P s) (z7 P e) (ρ x) L ():=by rw[gS rfl];rfl
@[go_sem] theorem bXW (ty:TypeId) (x:Operand) (f:Nat) (t:Tag (Op.fieldAddr ty x f,K)):kF P ib d (.fieldAddr ty x f) ρ h K t=faF (z7 P ty) f (ρ x) (λv=>K v h) ():=by rw[fO rfl];rfl
@[go_sem] theorem bXX (ty:TypeId) (x:Operand) (f:Nat) (t:Tag (Op.fieldAddr ty x f,L)):stepG P ib d (.fieldAddr ty x f) ρ L t=faF (z7 P ty) f (ρ x) L ():=by rw[gS rfl];rfl
@[go_sem] theorem bXY (ty:TypeId) (x i:Operand) (t:Tag (Op.indexAddr ty x i,K)):kF P ib d (.indexAddr ty x i) ρ h K t=iaF (lY P ty) (ρ x) (ρ i) (λv=>K v h) ():=by rw[fO rfl];rfl
@[go_sem] theorem bXZ (ty:TypeId) (x i:Operand) (t:Tag (Op.indexAddr ty x i,L)):stepG P ib d (.indexAddr ty x i) ρ L t=iaF (lY P ty) (ρ x) (ρ i) L ():=by rw[gS rfl];rfl
@[go_sem] theorem bX0 (ty:TypeId) (x i:Operand) (t:Tag (Op.index ty x i,K)):kF P ib d (.index ty x i) ρ h K t=ixF (z7 P ty) (ρ x) (ρ i) (λv=>K v h) ():=by rw[fO rfl];rfl
@[go_sem] theorem bX1 (ty:TypeId) (x i:Operand) (t:Tag (Op.index ty x i,L)):stepG P ib d (.index ty x i) ρ L t=ixF (z7 P ty) (ρ x) (ρ i) L ():=by rw[gS rfl];rfl
@[go_sem] theorem bX2 (ty:TypeId) (a:Operand) (t:Tag (Op.load ty a,K)):kF P ib d (.load ty a) ρ h K t=ldF (iP P ty) (ρ a) h (λv=>K v h) ():=by rw[fO rfl];rfl
@[go_sem] theorem bX3 (ty:TypeId) (a v:Operand) (t:Tag (Op.store ty a v,K)):kF P ib d (.store ty a v) ρ h K t=stF (iP P ty) (ρ a) (ρ v) h (λh'=>K .any h') ():=by rw[fO rfl];rfl
@[go_sem] theorem bX4 (ty:TypeId) (t:Tag (Op.alloc ty,K)):kF P ib d (.alloc ty) ρ h K t=alF (iP P ty) h K ():=by rw[fO rfl];rfl
@[go_sem] theorem bX5 (ty:TypeId) (l c:Operand) (t:Tag (Op.makeSlice ty l c,K)):kF P ib d (.makeSlice ty l c) ρ h K t=mkF (lY P ty) (ρ l) (ρ c) h K ():=by rw[fO rfl];rfl
@[go_sem] theorem bX6 (ty:TypeId) (x:Operand) (lo hi:Option Operand) (t:Tag (Op.slice ty x lo hi none,K)):kF P ib d (.slice ty x lo hi none) ρ h K t=slD P ty (ρ x) (lo.map ρ) (hi.map ρ) (λv=>K v h) ():=by rw[fO rfl];rfl
@[go_sem] theorem bX7 (ty:TypeId) (x:Operand) (lo hi:Option Operand) (t:Tag (Op.slice ty x lo hi none,L)):stepG P ib d (.slice ty x lo hi none) ρ L t=slF P ty (ρ x) (lo.map ρ) (hi.map ρ) L ():=by rw[gS rfl];rfl
@[go_sem] theorem bUQ (ty:TypeId) (x:Operand) (lo:Option Operand) (hi mx:Operand) (t:Tag (Op.slice ty x lo (some hi) (some mx),K)):kF P ib d (.slice ty x lo (some hi) (some mx)) ρ h K t=bAM P ty (ρ x) (lo.map ρ) (ρ hi) (ρ mx) (λv=>K v h) ():=by rw[fO rfl];rfl
@[go_sem] theorem bUR (ty:TypeId) (x:Operand) (lo:Option Operand) (hi mx:Operand) (t:Tag (Op.slice ty x lo (some hi) (some mx),L)):stepG P ib d (.slice ty x lo (some hi) (some mx)) ρ L t=bAM P ty (ρ x) (lo.map ρ) (ρ hi) (ρ mx) L ():=by rw[gS rfl];rfl
@[go_sem] theorem bX8 (cr pr:List (Nat×Nat)) (i:Nat) (ty:TypeId) (a:Operand) (M:List (Nat×Nat)->aE->aB->Prop) (t:Tag (Op.load ty a,M)):aHE P ib h cr pr i d (.load ty a) ρ M t=rdF cr i pr (iP P ty) (ρ a) h M ():=by
 unfold aHE aSI rdF;simp only[iN,if_true]
 cases ρ a <;> rfl
@[go_sem] theorem bUS (cr pr:List (Nat×Nat)) (i:Nat) (op:Op) (M:List (Nat×Nat)->aE->aB->Prop) (t:Tag (op,M)) (hop:iN op=false):aHE P ib h cr pr i d op ρ M t=kF P ib d op ρ h (λv h'=>bAN (aKD cr i pr h h') (M pr v h') ()) ():=by
 unfold aHE;rw[hop];rfl
@[go_sem] theorem bX9 (x:Operand) (i:Nat) (t:Tag (Op.extract x i,K)):kF P ib d (.extract x i) ρ h K t=exF (ρ x) i (λv=>K v h) ():=by rw[fO rfl];rfl
@[go_sem] theorem bYA (x:Operand) (i:Nat) (t:Tag (Op.extract x i,L)):stepG P ib d (.extract x i) ρ L t=exF (ρ x) i L ():=by rw[gS rfl];rfl
@[go_sem] theorem bYB (x:Operand) (t:Tag (Op.nilCheck x,K)):kF P ib d (.nilCheck x) ρ h K t=ncF (ρ x) (λv=>K v h) ():=by rw[fO rfl];rfl
@[go_sem] theorem bYC (x:Operand) (t:Tag (Op.nilCheck x,L)):stepG P ib d (.nilCheck x) ρ L t=ncF (ρ x) L ():=by rw[gS rfl];rfl
@[go_sem] theorem bYD (f:Fn) (fs cs:Array Operand) (t:Tag (Op.makeFunc f fs cs,K)):kF P ib d (.makeFunc f fs cs) ρ h K t=K (.fn f (fs.toList.map ρ) (cs.toList.map ρ)) h:=by rw[fO rfl];rfl
@[go_sem] theorem bYE (f:Fn) (fs cs:Array Operand) (t:Tag (Op.makeFunc f fs cs,L)):stepG P ib d (.makeFunc f fs cs) ρ L t=L (.fn f (fs.toList.map ρ) (cs.toList.map ρ)):=by rw[gS rfl];rfl
@[go_sem] theorem bYF (ty:TypeId) (ps:Array (Nat×Operand)) (t:Tag (Op.build ty ps,K)):kF P ib d (.build ty ps) ρ h K t=buF P (iP P ty) (ps.toList.map λp=>(p.1,ρ p.2)) (λv=>K v h) ():=by rw[fO rfl];rfl
@[go_sem] theorem bYG (ty:TypeId) (ps:Array (Nat×Operand)) (t:Tag (Op.build ty ps,L)):stepG P ib d (.build ty ps) ρ L t=buF P (iP P ty) (ps.toList.map λp=>(p.1,ρ p.2)) L ():=by rw[gS rfl];rfl
@[go_sem] theorem bRY (f:Operand) (as:Array Operand) (ats:Array TypeId) (t:Tag (Op.call ⟨.value f,as,ats⟩,K)):kF P ib d (.call ⟨.value f,as,ats⟩) ρ h K t=bEU P (ρ f) (as.toList.map ρ) h K ():=by rw[fO rfl];rfl
@[go_sem] theorem bRZ (f:Operand) (as:Array Operand) (ats:Array TypeId) (t:Tag (Op.call ⟨.value f,as,ats⟩,L)):stepG P ib d (.call ⟨.value f,as,ats⟩) ρ L t=bEV P (ρ f) (as.toList.map ρ) L ():=by rw[gS rfl];rfl
end
section
variable (P:Program) (ib:List Nat) (d:Option Tmp) (ρ:Operand->aE) (h:aB) (K:aE->aB->Prop) (L:aE->Prop)
def ldG (r:Option lU) (a:aE) (K:aE->Prop) (_:Tag K):Prop:=match a with
  | .ip sz es i off=>kA r (.ip sz es i off) (λ_=>none) K
  | _=>False
@[go_sem] theorem bYH (ty:TypeId) (a:Operand) (t:Tag (Op.load ty a,L)):stepG P ib d (.load ty a) ρ L t=ldG (iP P ty) (ρ a) L ():=by
 rw[gS rfl];simp only[aHC,ldG];cases ρ a <;> rfl
@[go_sem] theorem bUT (x:Operand) (ty:TypeId) (t:Tag (Op.call ⟨.builtin .len,#[x],#[ty]⟩,K)):kF P ib d (.call ⟨.builtin .len,#[x],#[ty]⟩) ρ h K t=a2J P (z7 P ty) (ρ x) (λv=>K v h) ():=by rw[fO rfl];rfl
@[go_sem] theorem bUU (x:Operand) (ty:TypeId) (t:Tag (Op.call ⟨.builtin .len,#[x],#[ty]⟩,L)):stepG P ib d (.call ⟨.builtin .len,#[x],#[ty]⟩) ρ L t=a5K P (z7 P ty) (ρ x) L ():=by rw[gS rfl];rfl
def bAO (x y:aE) (K:aE->Prop) (_:Tag K):Prop:=match x,y with
   | .int k a,.int k' b=>k'=k/\K (.int k (max a b))
   | _,_=>False
@[go_sem] theorem bNE (k k':IntKind) (a b:Int) (t:Tag L):bAO (.int k a) (.int k' b) L t=(k'=k/\L (.int k (max a b))):=rfl
theorem aYW (x y:aE) (K:aE->Prop):(match x,y with
   | .int k a,.int _ b=>(match y with | .int k' _=>k'=k|_=>False)/\K (.int k (max a b))
   | _,_=>False)=bAO x y K ():=by cases x <;> cases y <;> rfl
@[go_sem] theorem bUV (x y:Operand) (ats:Array TypeId) (t:Tag (Op.call ⟨.builtin .max,#[x,y],ats⟩,K)):kF P ib d (.call ⟨.builtin .max,#[x,y],ats⟩) ρ h K t=bAO (ρ x) (ρ y) (λv=>K v h) ():=by
 rw[fO rfl,←aYW];rfl
@[go_sem] theorem bUW (x y:Operand) (ats:Array TypeId) (t:Tag (Op.call ⟨.builtin .max,#[x,y],ats⟩,L)):stepG P ib d (.call ⟨.builtin .max,#[x,y],ats⟩) ρ L t=bAO (ρ x) (ρ y) L ():=by
 rw[gS rfl,←aYW];rfl
def apF (P:Program) (re:Option lU) (t1:Option TypeId) (x y:aE) (h:aB) (K:aE->aB->Prop) (_:Tag K):Prop:=yM P re t1 x y h K
def aEP (ib:List Nat) (d:Option Tmp):Bool:=match d with|some d=>ib.contains d|none=>false
@[go_sem] theorem bHN (k:Nat):aEP ib (some k)=ib.contains k:=rfl
def apI (i:Bool) (P:Program) (re:Option lU) (t1:Option TypeId) (x y:aE) (h:aB) (K:aE->aB->Prop) (_:Tag K):Prop:=if i then apF P re t1 x y h (aYQ K) ()else apF P re t1 x y h K ()
@[go_sem] theorem bUX (x y:Operand) (a b:TypeId) (t:Tag (Op.call ⟨.builtin .append,#[x,y],#[a,b]⟩,K)):kF P ib d (.call ⟨.builtin .append,#[x,y],#[a,b]⟩) ρ h K t=apI (aEP ib d) P (lY P a) (some b) (ρ x) (ρ y) h K ():=by
 unfold kF uX apI aEP
 cases d with
 |none=>rfl
 |some d=>simp only;split <;> rfl
@[go_sem] theorem bYI (re:Option lU) (t1:Option TypeId) (x y:aE) (t:Tag K):apI true P re t1 x y h K t=apF P re t1 x y h (aYQ K) ():=rfl
@[go_sem] theorem bYJ (re:Option lU) (t1:Option TypeId) (x y:aE) (t:Tag K):apI false P re t1 x y h K t=apF P re t1 x y h K ():=rfl
def a5L (i r:Bool) (ty:TypeId) (x:aE) (h:aB) (K:aE->aB->Prop) (_:Tag K):Prop:=if i then aJ4 x (λv=>K v h)else if r then aYP ty x h K else aYO x h K
@[go_sem] theorem bUY (ty:TypeId) (x:Operand) (t:Tag (Op.box ty x,K)):kF P ib d (.box ty x) ρ h K t=a5L (aEP ib d) (bGY ty) ty (ρ x) h K ():=by
 unfold kF uX a5L aEP
 cases d with
 |none=>rfl
 |some d=>simp only;split <;> rfl
@[go_sem] theorem bR2 (ty:TypeId):bGY ty=(match a4Y with|none=>false|some r=>decide (ty=r)):=rfl
attribute [go_sem] a4Y
@[go_sem] theorem bUZ (r:Bool) (ty:TypeId) (x:aE) (t:Tag K):a5L true r ty x h K t=(x.cells.all aE.flat=true/\K (.ip x.cells.length [x.cells] 0 0) h):=rfl
@[go_sem] theorem bU0 (ty:TypeId) (x:aE) (t:Tag K):a5L false true ty x h K t=(x.cells=[.j8,.bS]/\∀ n,h n=none->K (.op n 2 0 0) (aT h n (.raw ty #[.pointer none,.slice none 0 0]))):=rfl
@[go_sem] theorem bU1 (ty:TypeId) (x:aE) (t:Tag K):a5L false false ty x h K t=(x.cells.all aE.flat=true/\∀ n,h n=none->K (.op n x.cells.length 0 0) (aT h n (.row x.cells.length [x.cells.map .v]))):=rfl
def bsF (i:Bool) (re:Option lU) (len:Nat) (ps:List (Nat×aE)) (h:aB) (K:aE->aB->Prop) (_:Tag K):Prop :=
 if i then uW re len ps (λsz es=>K (.sl sz es true) h)else uW re len ps λsz es=>∀ n,h n=none->K (.os n sz 0 len) (aT h n (.row sz (es.map (List.map .v))))
def bsG (i:Bool) (re:Option lU) (len:Nat) (ps:List (Nat×aE)) (K:aE->Prop) (_:Tag K):Prop :=
 if i then uW re len ps (λsz es=>K (.sl sz es true))else False
@[go_sem] theorem bYK (ty:TypeId) (len:Nat) (ps:Array (Nat×Operand)) (t:Tag (Op.buildSlice ty len ps,K)):kF P ib d (.buildSlice ty len ps) ρ h K t=bsF (aEP ib d) (lY P ty) len (ps.toList.map λp=>(p.1,ρ p.2)) h K ():=by
 unfold kF uX bsF aEP
 cases d with
 |none=>rfl
 |some d=>simp only;split <;> rfl
@[go_sem] theorem bYL (ty:TypeId) (len:Nat) (ps:Array (Nat×Operand)) (t:Tag (Op.buildSlice ty len ps,L)):stepG P ib d (.buildSlice ty len ps) ρ L t=bsG (aEP ib d) (lY P ty) len (ps.toList.map λp=>(p.1,ρ p.2)) L ():=by
 unfold stepG aF2 bsG aEP
 cases d with
 |none=>rfl
 |some d=>simp only;split <;> rfl
@[go_sem] theorem bYM (re:lU) (len:Nat) (ps:List (Nat×aE)) (t:Tag K):bsF true (some re) len ps h K t=(re.zero.length=re.sz/\0<re.sz/\re.zero.all aE.flat=true/\len*re.sz<=16777216/\sA len re.sz ps=true/\K (.sl re.sz (uV (List.replicate len re.zero) ps) true) h):=rfl
@[go_sem] theorem bYN (re:lU) (len:Nat) (ps:List (Nat×aE)) (t:Tag L):bsG true (some re) len ps L t=(re.zero.length=re.sz/\0<re.sz/\re.zero.all aE.flat=true/\len*re.sz<=16777216/\sA len re.sz ps=true/\L (.sl re.sz (uV (List.replicate len re.zero) ps) true)):=rfl
@[go_sem] theorem bYO (re:lU) (len:Nat) (ps:List (Nat×aE)) (t:Tag K):bsF false (some re) len ps h K t=(re.zero.length=re.sz/\0<re.sz/\re.zero.all aE.flat=true/\len*re.sz<=16777216/\sA len re.sz ps=true/\∀ n,h n=none->K (.os n re.sz 0 len) (aT h n (.row re.sz ((uV (List.replicate len re.zero) ps).map (List.map .v))))):=rfl
@[go_sem] theorem bNF (g:FuncId) (first cap args:List aE) (t:Tag K):bEU P (.fn (.func g) first cap) args h K t=aH P g (first++args++cap) h K ():=rfl
@[go_sem] theorem bNG (g:FuncId) (first cap args:List aE) (t:Tag L):bEV P (.fn (.func g) first cap) args L t=aG P g (first++args++cap) L ():=rfl
@[go_sem] theorem bNH (ty:TypeId) (k k':IntKind) (a b:Int) (t:Tag L):lW P .add ty (.int k a) (.int k' b) L t=gI (nJ .add (.int k a) (.int k' b)) L ():=by simp only[lW,gQ,gI];cases nJ _ _ _ <;> rfl
@[go_sem] theorem bNI (ty:TypeId) (k k':IntKind) (a b:Int) (t:Tag L):lW P .sub ty (.int k a) (.int k' b) L t=gI (nJ .sub (.int k a) (.int k' b)) L ():=by simp only[lW,gQ,gI];cases nJ _ _ _ <;> rfl
@[go_sem] theorem bNJ (ty:TypeId) (k k':IntKind) (a b:Int) (t:Tag L):lW P .mul ty (.int k a) (.int k' b) L t=gI (nJ .mul (.int k a) (.int k' b)) L ():=by simp only[lW,gQ,gI];cases nJ _ _ _ <;> rfl
@[go_sem] theorem bNK (ty:TypeId) (k k':IntKind) (a b:Int) (t:Tag L):lW P .and ty (.int k a) (.int k' b) L t=gI (nJ .and (.int k a) (.int k' b)) L ():=by simp only[lW,gQ,gI];cases nJ _ _ _ <;> rfl
@[go_sem] theorem bR4 (ty:TypeId) (k k':IntKind) (a b:Int) (t:Tag L):lW P .or ty (.int k a) (.int k' b) L t=gI (nJ .or (.int k a) (.int k' b)) L ():=by simp only[lW,gQ,gI];cases nJ _ _ _ <;> rfl
@[go_sem] theorem bNL (ty:TypeId) (k k':IntKind) (a b:Int) (t:Tag L):lW P .xor ty (.int k a) (.int k' b) L t=gI (nJ .xor (.int k a) (.int k' b)) L ():=by simp only[lW,gQ,gI];cases nJ _ _ _ <;> rfl
@[go_sem] theorem bEW (ty:TypeId) (k k':IntKind) (a b:Int) (t:Tag L):lW P .andNot ty (.int k a) (.int k' b) L t=gI (nJ .andNot (.int k a) (.int k' b)) L ():=by simp only[lW,gQ,gI];cases nJ _ _ _ <;> rfl
@[go_sem] theorem bNM (ty:TypeId) (k k':IntKind) (a b:Int) (t:Tag L):lW P .eql ty (.int k a) (.int k' b) L t=gI (nJ .eql (.int k a) (.int k' b)) L ():=by simp only[lW,gQ,gI];cases nJ _ _ _ <;> rfl
@[go_sem] theorem bNN (ty:TypeId) (k k':IntKind) (a b:Int) (t:Tag L):lW P .neq ty (.int k a) (.int k' b) L t=gI (nJ .neq (.int k a) (.int k' b)) L ():=by simp only[lW,gQ,gI];cases nJ _ _ _ <;> rfl
@[go_sem] theorem bNO (ty:TypeId) (k k':IntKind) (a b:Int) (t:Tag L):lW P .lss ty (.int k a) (.int k' b) L t=gI (nJ .lss (.int k a) (.int k' b)) L ():=by simp only[lW,gQ,gI];cases nJ _ _ _ <;> rfl
@[go_sem] theorem bNP (ty:TypeId) (k k':IntKind) (a b:Int) (t:Tag L):lW P .leq ty (.int k a) (.int k' b) L t=gI (nJ .leq (.int k a) (.int k' b)) L ():=by simp only[lW,gQ,gI];cases nJ _ _ _ <;> rfl
@[go_sem] theorem bNQ (ty:TypeId) (k k':IntKind) (a b:Int) (t:Tag L):lW P .gtr ty (.int k a) (.int k' b) L t=gI (nJ .gtr (.int k a) (.int k' b)) L ():=by simp only[lW,gQ,gI];cases nJ _ _ _ <;> rfl
@[go_sem] theorem bNR (ty:TypeId) (k k':IntKind) (a b:Int) (t:Tag L):lW P .geq ty (.int k a) (.int k' b) L t=gI (nJ .geq (.int k a) (.int k' b)) L ():=by simp only[lW,gQ,gI];cases nJ _ _ _ <;> rfl
@[go_sem] theorem bNS (ty:TypeId) (k k':IntKind) (a b:Int) (t:Tag L):lW P .quo ty (.int k a) (.int k' b) L t=(k=k'/\b≠0/\L (.int k (k.wrap (a.tdiv b)))):=rfl
@[go_sem] theorem bNT (ty:TypeId) (k k':IntKind) (a b:Int) (t:Tag L):lW P .rem ty (.int k a) (.int k' b) L t=(k=k'/\b≠0/\L (.int k (a.tmod b))):=rfl
@[go_sem] theorem bNU (ty:TypeId) (k k':IntKind) (a b:Int) (t:Tag L):lW P .shl ty (.int k a) (.int k' b) L t=(0<=b/\L (.int k (k.wrap (a*2 ^ (min b.toNat k.bits))))):=rfl
@[go_sem] theorem bNV (ty:TypeId) (k k':IntKind) (a b:Int) (t:Tag L):lW P .shr ty (.int k a) (.int k' b) L t=(0<=b/\L (.int k (a.fdiv (2 ^ (min b.toNat k.bits))))):=rfl
@[go_sem] theorem bLR (ty:TypeId) (a b:List UInt8) (t:Tag L):lW P .add ty (.str a) (.str b) L t=(a.length+b.length<=9223372036854775807/\L (.str (a++b))):=rfl
@[go_sem] theorem bLS (ty:TypeId) (a b:List UInt8) (t:Tag L):lW P .eql ty (.str a) (.str b) L t=L (.bool (decide (a=b))):=rfl
@[go_sem] theorem bLT (ty:TypeId) (a b:List UInt8) (t:Tag L):lW P .neq ty (.str a) (.str b) L t=L (.bool (!decide (a=b))):=rfl
@[go_sem] theorem bLU (ty:TypeId) (a b:List UInt8) (t:Tag L):lW P .lss ty (.str a) (.str b) L t=L (.bool (Op.bytesLess a b)):=rfl
@[go_sem] theorem bLV (ty:TypeId) (a b:Bool) (t:Tag L):lW P .eql ty (.bool a) (.bool b) L t=(z7 P ty=some .bool/\L (.bool (a == b))):=rfl
@[go_sem] theorem bLW (ty:TypeId) (a b:Bool) (t:Tag L):lW P .neq ty (.bool a) (.bool b) L t=(z7 P ty=some .bool/\L (.bool (a != b))):=rfl
@[go_sem] theorem a9M (v:Value):tQ (.const v)=true:=rfl
@[go_sem] theorem bEX (v:Tmp):tQ (.tmp v)=false:=rfl
@[go_sem] theorem a5M (v:Nat):tQ (.global v)=false:=rfl
@[go_sem] theorem bAP (v:FuncId):tQ (.func v)=false:=rfl
@[go_sem] theorem bNW (op:BinOp) (ty:TypeId) (c:Bool) (k:IntKind) (a:Int) (y:aE) (t:Tag L):aKJ P op ty c (.int k a) y L t=lW P op ty (.int k a) y L ():=by cases c <;> rfl
@[go_sem] theorem bLX (op:BinOp) (ty:TypeId) (c:Bool) (a:Bool) (y:aE) (t:Tag L):aKJ P op ty c (.bool a) y L t=lW P op ty (.bool a) y L ():=by cases c <;> rfl
@[go_sem] theorem bNX (op:BinOp) (ty:TypeId) (c:Bool) (a:List UInt8) (y:aE) (t:Tag L):aKJ P op ty c (.str a) y L t=lW P op ty (.str a) y L ():=by cases c <;> rfl
@[go_sem] theorem bR5 (op:BinOp) (ty:TypeId) (c:Bool) (sz:Nat) (es:List (List aE)) (b:Bool) (y:aE) (t:Tag L):aKJ P op ty c (.sl sz es b) y L t=aHU P op ty (.sl sz es b) y L ():=by cases c <;> rfl
@[go_sem] theorem bNY (ty ti:TypeId) (v:aE) (t:Tag L):aKJ P .eql ty true (.iface ti v) .l7 L t=(aHB P ty=true/\L (.bool false)):=rfl
@[go_sem] theorem bNZ (ty:TypeId) (t:Tag L):aKJ P .eql ty true .l7 .l7 L t=(aHB P ty=true/\L (.bool true)):=rfl
@[go_sem] theorem bLY (ty ti:TypeId) (v:aE) (t:Tag L):aKJ P .neq ty true (.iface ti v) .l7 L t=(aHB P ty=true/\L (.bool true)):=rfl
@[go_sem] theorem bLZ (ty:TypeId) (t:Tag L):aKJ P .neq ty true .l7 .l7 L t=(aHB P ty=true/\L (.bool false)):=rfl
@[go_sem] theorem bN0 (op:BinOp) (ty:TypeId) (k:IntKind) (a:Int) (y:aE) (t:Tag L):aHU P op ty (.int k a) y L t=lW P op ty (.int k a) y L ():=rfl
@[go_sem] theorem bL0 (op:BinOp) (ty:TypeId) (a:Bool) (y:aE) (t:Tag L):aHU P op ty (.bool a) y L t=lW P op ty (.bool a) y L ():=rfl
@[go_sem] theorem bN1 (op:BinOp) (ty:TypeId) (a:List UInt8) (y:aE) (t:Tag L):aHU P op ty (.str a) y L t=lW P op ty (.str a) y L ():=rfl
@[go_sem] theorem bN2 (ty:TypeId) (sz:Nat) (es:List (List aE)) (b:Bool) (t:Tag L):aHU P .eql ty (.sl sz es b) .bS L t=((match z7 P ty with|some (.slice _)=>True|_=>False)/\(es=[]->L (.bool true))/\L (.bool false)):=rfl
@[go_sem] theorem bL1 (ty:TypeId) (sz:Nat) (es:List (List aE)) (b:Bool) (t:Tag L):aHU P .neq ty (.sl sz es b) .bS L t=((match z7 P ty with|some (.slice _)=>True|_=>False)/\(es=[]->L (.bool false))/\L (.bool true)):=rfl
@[go_sem] theorem bR6 (op:BinOp) (ty:TypeId) (c:Bool) (m sz i len:Nat) (y:aE) (t:Tag L):aKJ P op ty c (.os m sz i len) y L t=aHU P op ty (.os m sz i len) y L ():=by cases c <;> rfl
@[go_sem] theorem bN3 (op:BinOp) (ty:TypeId) (c:Bool) (y:aE) (t:Tag L):aKJ P op ty c .bS y L t=aHU P op ty .bS y L ():=by cases c <;> rfl
@[go_sem] theorem bR7 (ty:TypeId) (m sz i len:Nat) (t:Tag L):aHU P .eql ty (.os m sz i len) .bS L t=((match z7 P ty with|some (.slice _)=>True|_=>False)/\(len=0->L (.bool true))/\L (.bool false)):=rfl
@[go_sem] theorem bN4 (ty:TypeId) (m sz i len:Nat) (t:Tag L):aHU P .neq ty (.os m sz i len) .bS L t=((match z7 P ty with|some (.slice _)=>True|_=>False)/\(len=0->L (.bool false))/\L (.bool true)):=rfl
@[go_sem] theorem bR8 (ty:TypeId) (t:Tag L):aHU P .eql ty .bS .bS L t=((match z7 P ty with|some (.slice _)=>True|_=>False)/\L (.bool true)):=rfl
@[go_sem] theorem bN5 (ty:TypeId) (t:Tag L):aHU P .neq ty .bS .bS L t=((match z7 P ty with|some (.slice _)=>True|_=>False)/\L (.bool false)):=rfl
@[go_sem] theorem bR9 (b:Bool) (t:Tag L):unF .not (.bool b) L t=L (.bool (!b)):=rfl
@[go_sem] theorem bSA (k:IntKind) (n:Int) (t:Tag L):unF .neg (.int k n) L t=L (.int k (k.wrap (0-n))):=rfl
@[go_sem] theorem bSB (s:TyD) (k k':IntKind) (n:Int) (t:Tag L):cvF P (some s) (some (.int k')) (.int k n) L t=L (.int k' (k'.wrap n)):=by simp[cvF]
@[go_sem] theorem bL2 (et:TypeId) (es:List (List aE)) (b:Bool) (t:Tag L):cvF P (some (.slice et)) (some .str) (.sl 1 es b) L t=(z7 P et=some (.int .u8)/\gI (bytesOf es) (λbs=>L (.str bs)) ()):=by
 simp only[cvF,gI];cases bytesOf es <;> rfl
@[go_sem] theorem bU3 (cr pr:List (Nat×Nat)) (i:Nat) (r:Option lU) (n sz j off:Nat) (M:List (Nat×Nat)->aE->aB->Prop) (t:Tag M):rdF cr i pr r (.op n sz j off) h M t=ldF r (.op n sz j off) h (λv=>M (aSK cr i (some n) pr) v h) ():=rfl
@[go_sem] theorem bU4 (cr pr:List (Nat×Nat)) (i:Nat) (r:Option lU) (sz j off:Nat) (es:List (List aE)) (M:List (Nat×Nat)->aE->aB->Prop) (t:Tag M):rdF cr i pr r (.ip sz es j off) h M t=ldF r (.ip sz es j off) h (λv=>M (aSK cr i none pr) v h) ():=rfl
attribute [go_sem] aSK a5B aAF aKD bytesOf
@[go_sem] theorem bEY (x:Operand):iN (.move x)=false:=rfl
@[go_sem] theorem a9N (x:Operand):iN (.assign x)=false:=rfl
@[go_sem] theorem bAQ (x:TypeId):iN (.alloc x)=false:=rfl
@[go_sem] theorem bHO (x:TypeId) (v:Operand):iN (.box x v)=false:=rfl
@[go_sem] theorem bL3 (x:TypeId) (l:Nat) (ps:Array (Nat×Operand)):iN (.buildSlice x l ps)=false:=rfl
@[go_sem] theorem bAR (x:TypeId) (ps:Array (Nat×Operand)):iN (.build x ps)=false:=rfl
@[go_sem] theorem bAS (x:TypeId) (a v:Operand):iN (.store x a v)=false:=rfl
@[go_sem] theorem bL4 (x:TypeId) (a v:Operand):iN (.makeSlice x a v)=false:=rfl
@[go_sem] theorem bEZ (c:Call):iN (.call c)=false:=rfl
@[go_sem] theorem bL5 (x:TypeId) (r:Option Operand):iN (.makeMap x r)=false:=rfl
@[go_sem] theorem a9O (x:TypeId) (a b:Operand) (c:Bool):iN (.lookup x a b c)=false:=rfl
@[go_sem] theorem bL6 (x:TypeId) (a b c:Operand):iN (.mapUpdate x a b c)=false:=rfl
@[go_sem] theorem bL7 (x:TypeId) (a b:Operand):iN (.mapEntry x a b)=false:=rfl
@[go_sem] theorem bL8 (x:TypeId) (a b c:Operand):iN (.entryStore x a b c)=false:=rfl
@[go_sem] theorem bHP (x:TypeId) (a b c:Operand):iN (.insert x a b c)=false:=rfl
@[go_sem] theorem bAT (x:TypeId) (a:Operand):iN (.range x a)=false:=rfl
@[go_sem] theorem bE0 (a:Operand) (b:Bool):iN (.next a b)=false:=rfl
@[go_sem] theorem bAU (a:Operand):iN (.entry a)=false:=rfl
@[go_sem] theorem bAV (x:TypeId) (a:Operand) (b c d:Option Operand):iN (.slice x a b c d)=false:=rfl
@[go_sem] theorem bL9 (x:TypeId) (a b:Operand):iN (.indexAddr x a b)=false:=rfl
@[go_sem] theorem bMA (x:TypeId) (a:Operand) (b:Nat):iN (.fieldAddr x a b)=false:=rfl
@[go_sem] theorem bMB (a:Operand) (b:Nat):iN (.extract a b)=false:=rfl
@[go_sem] theorem bMC (f:Fn) (a b:Array Operand):iN (.makeFunc f a b)=false:=rfl
@[go_sem] theorem bE1 (a b:TypeId) (x:Operand):iN (.convert a b x)=false:=rfl
@[go_sem] theorem bHQ (o:BinOp) (a b:TypeId) (x y:Operand):iN (.binOp o a x y b)=false:=rfl
@[go_sem] theorem bE2 (x y z:Operand):iN (.pick x y z)=false:=rfl
@[go_sem] theorem bMD (x:Operand):iN (.nilCheck x)=false:=rfl
def a5N (fs:List (Nat×TypeId×Nat)) (f:Nat) (K:Nat->Prop) (_:Tag K):Prop:=match fs[f]? with|some (off,_,sz')=>sz'≠0/\K off|none=>False
@[go_sem] theorem bME (off sz:Nat) (ty:TypeId) (fs:List (Nat×TypeId×Nat)) (M:Nat->Prop) (t:Tag M):a5N ((off,ty,sz)::fs) 0 M t=(sz≠0/\M off):=rfl
@[go_sem] theorem bMF (x:Nat×TypeId×Nat) (fs:List (Nat×TypeId×Nat)) (n:Nat) (M:Nat->Prop) (t:Tag M):a5N (x::fs) (n+1) M t=a5N fs n M ():=rfl
@[go_sem] theorem bU5 (fs:List (Nat×TypeId×Nat)) (f n sz i k:Nat) (t:Tag L):faF (some (.st fs)) f (.op n sz i k) L t=a5N fs f (λoff=>L (.op n sz i (k+off))) ():=rfl
@[go_sem] theorem bU6 (fs:List (Nat×TypeId×Nat)) (f sz i k:Nat) (es:List (List aE)) (t:Tag L):faF (some (.st fs)) f (.ip sz es i k) L t=a5N fs f (λoff=>L (.ip sz es i (k+off))) ():=rfl
@[go_sem] theorem bU7 (re:lU) (sz:Nat) (es:List (List aE)) (b:Bool) (k:IntKind) (n:Int) (t:Tag L):iaF (some re) (.sl sz es b) (.int k n) L t=(re.sz=sz/\0<=n/\n<es.length/\L (.ip sz es n.toNat 0)):=rfl
@[go_sem] theorem bU8 (re:lU) (m sz i0 len:Nat) (k:IntKind) (n:Int) (t:Tag L):iaF (some re) (.os m sz i0 len) (.int k n) L t=(re.sz=sz/\0<=n/\n<len/\L (.op m sz (i0+n.toNat) 0)):=rfl
@[go_sem] theorem bSC (s:List UInt8) (k:IntKind) (n:Int) (t:Tag L):ixF (some .str) (.str s) (.int k n) L t=(0<=n/\gI s[n.toNat]? (λc=>L (.int .u8 c.toNat)) ()):=by
 simp only[ixF,aC2,gI];cases s[n.toNat]? <;> rfl
@[go_sem] theorem bU9 (r:lU) (sz i off:Nat) (es:List (List aE)) (t:Tag L):ldF (some r) (.ip sz es i off) h L t=gI es[i]? (λe=>gI (ld r e off) L ()) ():=by
 simp only[ldF,kA,gI]
 cases es[i]? with
 |none=>rfl
 |some e=>simp only;cases ld r e off <;> rfl
@[go_sem] theorem bVA (r:lU) (sz i off:Nat) (es:List (List aE)) (t:Tag L):ldG (some r) (.ip sz es i off) L t=gI es[i]? (λe=>gI (ld r e off) L ()) ():=by
 simp only[ldG,kA,gI]
 cases es[i]? with
 |none=>rfl
 |some e=>simp only;cases ld r e off <;> rfl
def aVN (o:Option bU) (K:Nat->List (List Cell)->Prop) (_:Tag K):Prop:=match o with|some (.row sz es)=>K sz es|_=>False
@[go_sem] theorem bN6 (sz:Nat) (es:List (List Cell)) (M:Nat->List (List Cell)->Prop) (t:Tag M):aVN (some (.row sz es)) M t=M sz es:=rfl
@[go_sem] theorem bVB (r:lU) (n sz i off:Nat) (t:Tag L):ldF (some r) (.op n sz i off) h L t=aVN (h n) (λsz' es=>sz'=sz/\gI es[i]? (λe=>gI (aG3 r e off) L ()) ()) ():=by
 simp only[ldF,kA,aVN]
 cases h n with
 |none=>rfl
 |some o =>
  cases o with
  |row sz' es =>
   simp only[gI]
   cases es[i]? with
   |none=>rfl
   |some e=>simp only;cases aG3 r e off <;> rfl
  | _=>rfl
@[go_sem] theorem bVC (r:lU) (n sz i off:Nat) (v:aE) (M:aB->Prop) (t:Tag M):stF (some r) (.op n sz i off) v h M t=aVN (h n) (λsz' es=>sz'=sz/\gI es[i]? (λe=>v.cells.all aE.flat=true/\v.cells.length=r.sz/\off+r.sz<=e.length/\M (aT h n (.row sz (es.set i (pW e off v.cells))))) ()) ():=by
 simp only[stF,aOP,aVN]
 cases h n with
 |none=>rfl
 |some o =>
  cases o with
  |row sz' es=>simp only[gI];cases es[i]? <;> rfl
  | _=>rfl
@[go_sem] theorem bVD (re:lU) (t1:Option TypeId) (n sz i len:Nat) (y:aE) (t:Tag K):apF P (some re) t1 (.os n sz i len) y h K t=(re.zero.length=re.sz/\0<re.sz/\aAT P t1=true/\re.sz=sz/\aVN (h n) (λsz' es=>sz'=sz/\i+len<=es.length/\gI (vQ h sz y) (λys=>(len+ys.length)*re.bytes<=140737488355328/\len+ys.length<=9223372036854775807 /\
  ∀ b,h b=none->K (.os b sz 0 (len+ys.length)) (aT (aT h n .gone) b (.row sz ((es.drop i).take len++ys.map (List.map .v))))) ()) ()):=by
 simp only[apF,yM,aVN]
 cases h n with
 |none=>rfl
 |some o =>
  cases o with
  |row sz' es=>simp only[gI];cases vQ h sz y <;> rfl
  | _=>rfl
@[go_sem] theorem bVE (re:lU) (t1:Option TypeId) (sz:Nat) (es:List (List aE)) (tg:Bool) (y:aE) (t:Tag K):apF P (some re) t1 (.sl sz es tg) y h K t=(re.zero.length=re.sz/\0<re.sz/\aAT P t1=true/\gI (aEG re.sz (.sl sz es tg)) (λolds=>gI (vQ h re.sz y) (λys=>(ys=[]->K (.sl sz es tg) h)/\(ys≠[]->(olds.length+ys.length)*re.bytes<=140737488355328/\olds.length+ys.length<=9223372036854775807 /\
  ∀ n,h n=none->K (.os n re.sz 0 (olds.length+ys.length)) (aT h n (.row re.sz ((olds++ys).map (List.map .v)))))) ()) ()):=by
 simp only[apF,yM]
 cases hd:aEG re.sz (.sl sz es tg)with
 |none=>rfl
 |some olds=>simp only[gI];cases vQ h re.sz y <;> rfl
@[go_sem] theorem bSD (re:lU) (t1:Option TypeId) (y:aE) (t:Tag K):apF P (some re) t1 .bS y h K t=(re.zero.length=re.sz/\0<re.sz/\aAT P t1=true/\gI (vQ h re.sz y) (λys=>(ys=[]->K .bS h)/\(ys≠[]->((([]:List (List aE)).length)+ys.length)*re.bytes<=140737488355328/\(([]:List (List aE)).length)+ys.length<=9223372036854775807 /\
  ∀ n,h n=none->K (.os n re.sz 0 ((([]:List (List aE)).length)+ys.length)) (aT h n (.row re.sz (([]++ys).map (List.map .v)))))) ()):=by
 simp only[apF,yM,aEG]
 cases vQ h re.sz y <;> rfl
@[go_sem] theorem bN7 (r:lU) (t:Tag K):alF (some r) h K t=(r.zero≠[]/\r.zero.all aE.flat=true/\∀ n,h n=none->K (.op n r.zero.length 0 0) (aT h n (.row r.zero.length [r.zero.map .v]))):=rfl
@[go_sem] theorem bSE (re:lU) (k k':IntKind) (a b:Int) (t:Tag K):mkF (some re) (.int k a) (.int k' b) h K t=(re.zero.length=re.sz/\0<re.sz/\re.zero.all aE.flat=true/\0<=a/\a<=b/\b<=281474976710656/\re.bytes*b<=281474976710656 /\
    ∀ n,h n=none->K (.os n re.sz 0 a.toNat) (aT h n (.row re.sz ((List.replicate b.toNat re.zero).map (List.map .v))))):=rfl
@[go_sem] theorem bSF (et:TypeId) (sz:Nat) (es:List (List aE)) (b:Bool) (t:Tag L):a2J P (some (.slice et)) (.sl sz es b) L t=(es.length<=9223372036854775807->L (.int .i64 es.length)):=rfl
@[go_sem] theorem bSG (et:TypeId) (m sz i n:Nat) (t:Tag L):a2J P (some (.slice et)) (.os m sz i n) L t=(n<=9223372036854775807->L (.int .i64 n)):=rfl
@[go_sem] theorem bN8 (et:TypeId) (t:Tag L):a2J P (some (.slice et)) .bS L t=L (.int .i64 0):=rfl
@[go_sem] theorem bN9 (s:List UInt8) (t:Tag L):a2J P (some .str) (.str s) L t=(s.length<=9223372036854775807->L (.int .i64 s.length)):=rfl
@[go_sem] theorem bSH (et:TypeId) (sz:Nat) (es:List (List aE)) (b:Bool) (t:Tag L):a5K P (some (.slice et)) (.sl sz es b) L t=L (.int .i64 es.length):=rfl
@[go_sem] theorem bSI (et:TypeId) (m sz i n:Nat) (t:Tag L):a5K P (some (.slice et)) (.os m sz i n) L t=L (.int .i64 n):=rfl
@[go_sem] theorem bOA (et:TypeId) (t:Tag L):a5K P (some (.slice et)) .bS L t=L (.int .i64 0):=rfl
@[go_sem] theorem bOB (s:List UInt8) (t:Tag L):a5K P (some .str) (.str s) L t=L (.int .i64 s.length):=rfl
@[go_sem] theorem bSJ (cs:List aE) (i:Nat) (t:Tag L):exF (.gK cs) i L t=gI cs[i]? L ():=by
 simp only[exF,gI];cases cs[i]? <;> rfl
@[go_sem] theorem bVF (n sz i k:Nat) (t:Tag L):ncF (.op n sz i k) L t=L (.op n sz i k):=rfl
@[go_sem] theorem bVG (sz i k:Nat) (es:List (List aE)) (t:Tag L):ncF (.ip sz es i k) L t=L (.ip sz es i k):=rfl
@[go_sem] theorem bOC (r:lU) (ps:List (Nat×aE)) (t:Tag L):buF P (some r) ps L t=(aAW P r.d=true/\r.zero≠[]/\yK (s8 P r.d) r.zero.length ps=true/\L (.agg (aJZ (s8 P r.d) r.zero ps))):=rfl
@[go_sem] theorem bVH (ty:TypeId) (sz:Nat) (es:List (List aE)) (b:Bool) (lo hi:Option aE) (t:Tag L):slF P ty (.sl sz es b) lo hi L t=gI (lY P ty) (λre=>re.sz=sz/\gI (j9 0 lo) (λl=>gI (j9 es.length hi) (λm=>0<=l/\l<=m/\m<=es.length/\L (.sl sz ((es.take m.toNat).drop l.toNat) (b && decide (m=es.length)))) ()) ()) ():=by
 simp only[slF,nC,gI]
 cases lY P ty with
 |none=>rfl
 |some re =>
  simp only
  cases j9 0 lo with
  |none=>rfl
  |some l=>simp only;cases j9 es.length hi <;> rfl
@[go_sem] theorem bVI (ty:TypeId) (n sz i len:Nat) (lo hi:Option aE) (t:Tag L):slF P ty (.os n sz i len) lo hi L t=gI (lY P ty) (λre=>re.sz=sz/\gI (j9 0 lo) (λl=>gI (j9 len hi) (λm=>0<=l/\l<m/\m<=len/\L (.os n sz (i+l.toNat) (m.toNat-l.toNat))) ()) ()) ():=by
 simp only[slF,nC,gI]
 cases lY P ty with
 |none=>rfl
 |some re =>
  simp only
  cases j9 0 lo with
  |none=>rfl
  |some l=>simp only;cases j9 len hi <;> rfl
@[go_sem] theorem bSK (ty:TypeId) (s:List UInt8) (lo hi:Option aE) (t:Tag L):slD P ty (.str s) lo hi L t=slF P ty (.str s) lo hi L ():=by cases hi <;> rfl
@[go_sem] theorem bVJ (ty:TypeId) (sz:Nat) (es:List (List aE)) (b:Bool) (lo hi:Option aE) (t:Tag L):slD P ty (.sl sz es b) lo hi L t=slF P ty (.sl sz es b) lo hi L ():=by cases hi <;> rfl
@[go_sem] theorem bVK (ty:TypeId) (n sz i len:Nat) (lo:Option aE) (y:aE) (t:Tag L):slD P ty (.os n sz i len) lo (some y) L t=slF P ty (.os n sz i len) lo (some y) L ():=rfl
@[go_sem] theorem bSL (ty:TypeId) (n sz i len:Nat) (lo:Option aE) (t:Tag L):slD P ty (.os n sz i len) lo none L t=gI (lY P ty) (λre=>re.sz=sz/\gI (j9 0 lo) (λl=>0<=l/\l<=len/\(l<len->L (.os n sz (i+l.toNat) (len-l.toNat)))/\(l=len->L (.os n sz (i+len) 0)/\L (.sl sz [] true))) ()) ():=by
 simp only[slD,sB,gI]
 cases lY P ty with
 |none=>rfl
 |some re =>
  simp only
  cases j9 0 lo <;> rfl
@[go_sem] theorem bSM (ty:TypeId) (sz:Nat) (es:List (List aE)) (b:Bool) (lo:Option aE) (hi mx:aE) (t:Tag L):bAM P ty (.sl sz es b) lo hi mx L t=gI (lY P ty) (λre=>re.sz=sz/\gI (j9 0 lo) (λl=>gI (j9 es.length (some hi)) (λm=>gI (j9 0 (some mx)) (λM=>0<=l/\l<=m/\m<=M/\M<=es.length/\L (.sl sz ((es.take m.toNat).drop l.toNat) (decide (M=m)))) ()) ()) ()) ():=by
 simp only[bAM,p8,gI]
 cases lY P ty with
 |none=>rfl
 |some re =>
  simp only
  cases j9 0 lo with
  |none=>rfl
  |some l =>
   simp only
   cases j9 es.length (some hi)with
   |none=>rfl
   |some m=>simp only;cases j9 0 (some mx) <;> rfl
def aVO (P:Program) (τ:bK) (h:aB) (l:List ResultVar) (M:List aE->Prop) (_:Tag M):Prop:=a48 P τ h l M
@[go_sem] theorem bOD (τ:bK) (M:List aE->Prop) (t:Tag M):aVO P τ h [] M t=M []:=rfl
@[go_sem] theorem bOE (τ:bK) (s:Tmp) (l:List ResultVar) (M:List aE->Prop) (t:Tag M):aVO P τ h (.tmp s::l) M t=aVO P τ h l (λvs=>M (bZ τ s::vs)) ():=rfl
@[go_sem] theorem bMG (τ:bK) (a:Tmp) (ty:TypeId) (l:List ResultVar) (M:List aE->Prop) (t:Tag M):aVO P τ h (.cell a ty::l) M t=ldF (iP P ty) (bZ τ a) h (λv=>aVO P τ h l (λvs=>M (v::vs)) ()) ():=rfl
def aSP (vs:List aE) (L:aE->Prop) (_:Tag L):Prop:=match vs with|[v]=>L v|vs=>L (.gK vs)
@[go_sem] theorem bMH (t:Tag L):aSP [] L t=L (.gK []):=rfl
@[go_sem] theorem bMI (v:aE) (t:Tag L):aSP [v] L t=L v:=rfl
@[go_sem] theorem bMJ (v w:aE) (vs:List aE) (t:Tag L):aSP (v::w::vs) L t=L (.gK (v::w::vs)):=rfl
end
def l9 (P:Program) (rs:Array ResultVar) (K:aE->aB->Prop) (_:Tag K):Exit->bK->aB->Prop:=aEM P rs K
section
variable (P:Program) (rs:Array ResultVar) (K:aE->aB->Prop) (τ:bK) (h:aB)
@[go_sem] theorem bAW (t:Tag K):l9 P rs K t .normal τ h=aVO P τ h rs.toList (λvs=>aSP vs (λv=>K v h) ()) ():=rfl
@[go_sem] theorem bMK (t:Tag K):l9 P rs K t .ret τ h=aVO P τ h rs.toList (λvs=>aSP vs (λv=>K v h) ()) ():=rfl
@[go_sem] theorem bHR (i:Nat) (t:Tag K):l9 P rs K t (.exit i) τ h=False:=rfl
end
theorem bVL {P:Program} {f:FuncId} {fn:Func} {c:Code} (N:Nat) (keep ib:List Nat) (mk:Marks) {args:List aE} {r:aE} (hmix:P.follows .mixedOrders=true) (hf:P.funcs[f]?=some fn) (hb:fn.body=some c)
  (hck:(jF P f && decide (fn.ntmps=N) && gR N mk c)=true) (hl:args.length<=N)
  (hw:∀ h,nV P N keep ib mk c (λτ h'=>l9 P fn.results (λr' h'=>r'=r/\h.le h') () .normal τ h') (l9 P fn.results (λr' h'=>r'=r/\h.le h') ()) (pQ 0 args) h ()):fR P f args r :=
 bAH N keep ib mk hmix hf hb hck hl hw
theorem bVM {P:Program} {f:FuncId} {fn:Func} {c:Code} (N:Nat) (keep ib:List Nat) (mk:Marks) {args:List aE} {r:aE} (hmix:P.follows .mixedOrders=true) (hf:P.funcs[f]?=some fn) (hb:fn.body=some c)
  (hck:(jF P f && decide (fn.ntmps=N) && gR N mk c)=true) (hl:args.length<=N)
  (hw:∀ h,nV P N keep ib mk c (λτ h'=>l9 P fn.results (λr' h'=>Shift r' h' r h) () .normal τ h') (l9 P fn.results (λr' h'=>Shift r' h' r h) ()) (pQ 0 args) h ()):fR P f args r :=
 a5J N keep ib mk hmix hf hb hck hl hw
theorem aSL {P:Program} {N:Nat} {keep ib:List Nat} {mk:Marks} {c:Code} {Q:Exit->bK->aB->Prop} {τ:bK} {h:aB} {t:Tag (Code.loop c,Q)} {α:Type} (hmix:P.follows .mixedOrders=true) (hc:gR N mk c=true) (S:α->bK) (H:α->aB) (side:α->Prop) (μ:α->Nat) (x₀:α)
  (h₀:cR (S x₀) τ/\(H x₀).le h/\side x₀)
  (round:∀ x,side x->nV P N keep ib mk c (λτ' h'=>∃ x',cR (S x') τ'/\(H x').le h'/\side x'/\μ x'<μ x) Q (S x) (H x) ()):aF5 P N (.loop c) Q τ h t :=
 qI.aSL S H side μ x₀ h₀ λx hx=>aKI hmix c _ _ _ _ hc (round x hx)
theorem gA {P:Program} {f:FuncId} {fn:Func} {c:Code} (N:Nat) (keep ib:List Nat) (mk:Marks) {args:List aE} {r:aE} (hf:P.funcs[f]?=some fn) (hw:∀ h,nV P N keep ib mk c (λτ h'=>l9 P fn.results (λr' h'=>r'=r/\h.le h') () .normal τ h') (l9 P fn.results (λr' h'=>r'=r/\h.le h') ()) (pQ 0 args) h ()) (hmix:P.follows .mixedOrders=true:=by exact mix) (hb:fn.body=some c:=by rfl) (hck:(jF P f && decide (fn.ntmps=N) && gR N mk c)=true:=by kernel_rfl) (hl:args.length<=N:=by simp):fR P f args r :=
 bVL N keep ib mk hmix hf hb hck hl hw
theorem mP {P:Program} {f:FuncId} {fn:Func} {c:Code} (N:Nat) (keep ib:List Nat) (mk:Marks) {args:List aE} {r:aE} (hf:P.funcs[f]?=some fn) (hw:∀ h,nV P N keep ib mk c (λτ h'=>l9 P fn.results (λr' h'=>Shift r' h' r h) () .normal τ h') (l9 P fn.results (λr' h'=>Shift r' h' r h) ()) (pQ 0 args) h ()) (hmix:P.follows .mixedOrders=true:=by exact mix) (hb:fn.body=some c:=by rfl) (hck:(jF P f && decide (fn.ntmps=N) && gR N mk c)=true:=by kernel_rfl) (hl:args.length<=N:=by simp):fR P f args r :=
 bVM N keep ib mk hmix hf hb hck hl hw
theorem cM {P:Program} {N:Nat} (keep ib:List Nat) (mk:Marks) {c:Code} {Q:Exit->bK->aB->Prop} {τ:bK} {h:aB} {t:Tag (Code.loop c,Q)} {α:Type} (S:α->bK) (H:α->aB) (side:α->Prop) (μ:α->Nat) (x₀:α) (h₀:cR (S x₀) τ/\(H x₀).le h/\side x₀) (round:∀ x,side x->nV P N keep ib mk c (λτ' h'=>∃ x',cR (S x') τ'/\(H x').le h'/\side x'/\μ x'<μ x) Q (S x) (H x) ()) (hmix:P.follows .mixedOrders=true:=by exact mix) (hc:gR N mk c=true:=by kernel_rfl):aF5 P N (.loop c) Q τ h t :=
 aSL (keep:=keep) (ib:=ib) (mk:=mk) hmix hc S H side μ x₀ h₀ round
theorem Sub.a9Z {sz sz' i off:Nat} {es:List (List aE)} {e e':List aE} (he:es[i]?=some e) (h':(e.drop off).take sz'=e') (hl:e'.length=sz'):Sub (.ip sz es i off) (.ip sz' [e'] 0 0):=λE h w v r=>by
 cases r with
 |ip _ _ _ _ b o cv hi hs hc h1 hr =>
  have hat:∀ i' j x,iU [e'] i' j=some x->i'=0/\iU es i (off+j)=some x:=by
   intro i' j x hx
   obtain⟨e1,h1,h2⟩:=lC hx
   cases i' with
   |zero =>
    simp at h1;subst h1
    refine⟨rfl,?_⟩
    subst h'
    rw[List.getElem?_take]at h2
    split at h2
    ·rw[aRH]at h2
     simp[iU,he,h2]
    ·cases h2
   |succ n=>simp at h1
  have:=fG.ip (E:=E) (h:=h) (w:=w) sz' [e'] 0 0 b (o+i*sz+off) (λi' j=>cv (i+i') (off+j)) hi (λe1 he'=>by simp at he';subst he';exact hl)
   (λi' j x hx=>by obtain⟨rfl,hy⟩:=hat i' j x hx;have:=hc i _ x hy;simpa[aU6]using this)
   (λi' j x hx=>by obtain⟨rfl,hy⟩:=hat i' j x hx;exact h1 i _ x hy)
   (λi' j x hx=>by obtain⟨rfl,hy⟩:=hat i' j x hx;exact hr i _ x hy)
  simpa using this
theorem Sub.ip {sz i:Nat} {es:List (List aE)} {e:List aE} (he:es[i]?=some e) (hl:e.length=sz):Sub (.ip sz es i 0) (.ip sz [e] 0 0) :=
 Sub.a9Z he (by rw[aRI,hJ aA]) hl
open Go.ChangeShapes Go.WideShapes
def Dat (P:Program):Nat->TypeId->List aE->Prop
 |0,_,_=>False
 |n+1,t,xs =>
  match P.underlying t with
  |some .bool=>∃ b,xs=[.bool b]
  |some (.int k)=>∃ i,xs=[.int k i]/\(Lit.int k i).wf=true
  |some .string=>∃ s,xs=[.str s]
  |some (.slice e)=>∃ es,xs=[.sl (P.cellsOf e) es false]/\∀ y∈es,Dat P n e y
  |some (.struct fs)=>xs.length=P.cellsOf t/\∀ (i:Nat) (f:Field),fs[i]?=some f->Dat P n f.type ((xs.drop f.offset).take (P.cellsOf f.type))
  | _=>False
def aA4 (P:Program):List Field->Nat->Option Nat
 | [],o=>some o
 |f::fs,o=>if f.offset=o then aA4 P fs (o+P.cellsOf f.type)else none
def a2K (P:Program) (T:List TypeId):Bool:=T.all λt =>
 match P.underlying t with
 |some .bool|some (.int _)|some .string=>P.cellsOf t == 1
 |some (.slice e)=>P.cellsOf t == 1 && decide (0<P.cellsOf e) && T.contains e
 |some (.struct fs)=>(aA4 P fs.toList 0 == some (P.cellsOf t)) && fs.toList.all (λf=>T.contains f.type)
 | _=>false
theorem aEQ {P:Program} {T:List TypeId} (hT:a2K P T=true):∀ (n:Nat) (t:TypeId) (xs:List aE),t∈T->Dat P n t xs->xs.length=P.cellsOf t/\xs.all aE.flat=true
 |0,_,_,_,h=>h.elim
 |n+1,t,xs,ht,h=>by
  have hd:=vF.1 hT t ht
  unfold Dat at h
  split at h
  ·rename_i hu;rw[hu]at hd;obtain⟨b,rfl⟩:=h;exact⟨by simpa using(of_decide_eq_true hd).symm,rfl⟩
  ·rename_i hu;rw[hu]at hd;obtain⟨i,rfl,_⟩:=h;exact⟨by simpa using(of_decide_eq_true hd).symm,rfl⟩
  ·rename_i hu;rw[hu]at hd;obtain⟨s,rfl⟩:=h;exact⟨by simpa using(of_decide_eq_true hd).symm,rfl⟩
  ·rename_i e hu
   rw[hu]at hd;obtain⟨es,rfl,_⟩:=h
   simp only[mK,beq_iff_eq]at hd
   exact⟨by simp[hd.1.1],rfl⟩
  ·rename_i fs hu
   rw[hu]at hd
   obtain⟨hl,hf⟩:=h
   refine⟨hl,?_⟩
   simp only[mK,beq_iff_eq,vF]at hd
   have key:∀ (l:List Field) (o:Nat),(∀ f∈l,T.contains f.type=true/\Dat P n f.type ((xs.drop f.offset).take (P.cellsOf f.type)))->aA4 P l o=some (P.cellsOf t)->(xs.drop o).all aE.flat=true:=by
    intro l
    induction l with
    |nil=>intro o _ ho;simp only[aA4,a14]at ho;rw[a4C aA];rfl
    |cons f l ih =>
     intro o hl' ho
     simp only[aA4]at ho
     split at ho
     ·rename_i e
      have h1:=hl' f aAL
      have h2:=(aEQ hT n _ _ (by simpa using h1.1) h1.2).2
      have h3:=ih _ (λg hg=>hl' g (wN _ hg)) ho
      rw[e]at h2
      rw[←bGT (P.cellsOf f.type) (xs.drop o),List.all_append,h2,List.drop_drop,h3];rfl
     ·cases ho
   have:=key fs.toList 0 (λf hf'=>by
    obtain⟨i,hi⟩:=a9U hf'
    exact⟨hd.2 f hf',hf i f (by simpa using hi)⟩) hd.1
   simpa using this
  ·exact h.elim
section
variable {H:Type} {enc:TypeId×Value->H} {P:Program} {w:World} {base:Nat} {sp:Nat->Bool} {held:Bool}
theorem aF6 {E:Env} {h:aB} {xs:List aE} {vs:List Value} (hr:eF E h w xs vs) (hf:xs.all aE.flat=true) (j:Nat) (v:Value) (hv:vs[j]?=some v):v.oneCell'=true:=by
 obtain⟨hj,_⟩:=iY.1 hv
 have hl:=hr.length
 have hx:xs[j]?=some xs[j]:=fC aA
 exact(fG.qX (hr.get j _ _ hx hv) (vF.1 hf _ (s5 hx))).1
theorem aKL {T:List TypeId} (hT:a2K P T=true) {E:Env} {h:aB} (hI:∀ b,b<w.heap.size->oU E h w b) :
  ∀ (n:Nat) (t:TypeId) (cs:List Value) (x:DataW H×List MemPlace),t∈T->DataW.trod enc P w base sp held n t cs=some x->∃ xs,Dat P n t xs/\eF E h w xs cs
 |0,t,cs,x,_,hx=>by simp[DataW.trod]at hx
 |n+1,t,cs,x,ht,hx=>by
  have hd:=vF.1 hT t ht
  match hu:P.underlying t with
  |some .bool =>
   obtain⟨b,rfl,_⟩:=DataW.trod_bool hu hx
   exact⟨[.bool b],by simp only[Dat,hu];exact⟨b,rfl⟩,⟨.bool b,trivial⟩⟩
  |some (.int k) =>
   obtain⟨i,rfl,_,hw⟩:=DataW.trod_int hu hx
   exact⟨[.int k i],by simp only[Dat,hu];exact⟨i,rfl,hw⟩,⟨.int k i,trivial⟩⟩
  |some .string =>
   obtain⟨s,rfl,_,hs⟩:=DataW.trod_string hu hx
   refine⟨[.str s.data.toList],by simp only[Dat,hu];exact⟨_,rfl⟩,⟨?_,trivial⟩⟩
   have:s=⟨s.data.toList.toArray⟩:=by cases s;simp
   rw[this]
   exact .str _ (by simpa using hs)
  |some (.slice e) =>
   rw[hu]at hd
   simp only[mK,beq_iff_eq,decide_eq_true_eq,a9Y]at hd
   rcases DataW.trod_slice hu hx with⟨rfl,_⟩|⟨a,len,cap,elems,rest,m,hm,rfl,_,hb,hlc,hmax,hel,hcell,_,_⟩
   ·exact⟨[.sl (P.cellsOf e) [] false],by simp only[Dat,hu];exact⟨[],rfl,by simp⟩,⟨.sl0 _ _ _ _ (λe=>by simp at e) eC trivial,trivial⟩⟩
   ·obtain rfl:n=m:=by omega

    have each:∀ i,i<len->∃ ys vs,Dat P n e ys/\eF E h w ys vs/\w.cells? base (a.add (i*P.cellsOf e)) (P.cellsOf e)=some vs:=by
     intro i hi
     have h1:=hcell i hi
     have hi':i<elems.length:=by omega
     rw[fC hi']at h1
     simp only[Option.bind_eq_some_iff]at h1
     obtain⟨vs,h2,h3⟩:=h1
     obtain⟨ys,h4,h5⟩:=aKL hT hI n e vs _ hd.2 h3
     exact⟨ys,vs,h4,h5,h2⟩
    let ys:Nat->List aE:=λi=>if hi:i<len then Classical.choose (each i hi)else[]
    have hys:∀ i,i<len->∃ vs,Dat P n e (ys i)/\eF E h w (ys i) vs/\w.cells? base (a.add (i*P.cellsOf e)) (P.cellsOf e)=some vs:=by
     intro i hi
     have:=Classical.choose_spec (each i hi)
     simpa only[ys,dif_pos hi]using this
    by_cases h0:len=0
    ·subst h0
     exact⟨[.sl (P.cellsOf e) [] false],by simp only[Dat,hu];exact⟨[],rfl,by simp⟩,⟨.sl0 _ _ _ _ (λe=>by simp at e) hmax trivial,trivial⟩⟩
    have hpos:0<P.cellsOf e:=hd.1.2

    obtain⟨b,o,spot⟩:=a
    obtain⟨vs0,_,_,hc0⟩:=hys 0 aA
    have bVO:=World.cells?_some hc0
    have hz:w.cell? ((Addr.add ⟨b,o,spot⟩ (0*P.cellsOf e)).add 0)=vs0[0]?:=bVO.2.2 0 hpos
    have hv0:vs0[0]?=some vs0[0]:=fC aA
    rw[hv0]at hz
    have hspot:spot=none:=by
     have:=World.cell?_spot hz
     simpa[Addr.add]using this
    subst hspot
    have hblt:b<w.heap.size:=by
     have:=World.cells?_block hc0 hpos
     simpa[Addr.add]using this
    have hmap:∀ i,i<len->((List.range len).map ys)[i]?=some (ys i):=λi hi=>by simp[hi]
    refine⟨[.sl (P.cellsOf e) ((List.range len).map ys) false],?_,⟨?_,trivial⟩⟩
    ·simp only[Dat,hu]
     refine⟨_,rfl,λy hy=>?_⟩
     simp only[lZ,aDZ]at hy
     obtain⟨i,hi,rfl⟩:=hy
     obtain⟨vs,h1,_⟩:=hys i hi
     exact h1
    ·have hlen:len=((List.range len).map ys).length:=by simp
     have cells:∀ i j x,iU ((List.range len).map ys) i j=some x->∃ v,w.cell? ⟨b,o+i*P.cellsOf e+j,none⟩=some v/\v.oneCell'=true/\fG E h w x v:=by
      intro i j x hx
      have hi:i<len:=by have:=a4X hx;simpa using this
      obtain⟨y,hy,hj⟩:=lC hx
      rw[hmap i hi]at hy
      obtain rfl:=gO hy
      obtain⟨vs,h1,h2,h3⟩:=hys i hi
      have hone:=aEQ hT n e _ hd.2 h1
      have hjl:j<(ys i).length:=(iY.1 hj).1
      have h4:=World.cells?_some h3
      have hjv:j<vs.length:=by rw[h2.length]at hjl;exact hjl
      have hv:vs[j]?=some vs[j]:=fC hjv
      refine⟨vs[j],?_,aF6 h2 hone.2 j _ hv,h2.get j x _ hj hv⟩
      have h5:=h4.2.2 j aA
      rw[hv]at h5
      rw[←h5]
      rw[l8,l8]
     have cellsC:∀ i j,∃ v,∀ x,iU ((List.range len).map ys) i j=some x->w.cell? ⟨b,o+i*P.cellsOf e+j,none⟩=some v/\v.oneCell'=true/\fG E h w x v:=by
      intro i j
      match hx:iU ((List.range len).map ys) i j with
      |none=>exact⟨.bool true,λx h=>by simp at h⟩
      |some x =>
       obtain⟨v,h1⟩:=cells i j x hx
       exact⟨v,λy hy=>by obtain rfl:=gO hy;exact h1⟩
     let cv:Nat->Nat->Value:=λi j=>Classical.choose (cellsC i j)
     have hcv:∀ i j x,iU ((List.range len).map ys) i j=some x->w.cell? ⟨b,o+i*P.cellsOf e+j,none⟩=some (cv i j)/\(cv i j).oneCell'=true/\fG E h w x (cv i j):=λi j=>Classical.choose_spec (cellsC i j)
     have:=fG.sl (E:=E) (h:=h) (w:=w) (P.cellsOf e) ((List.range len).map ys) false b o cap cv (hI b hblt) (by simpa using hlc) hmax (λe=>by simp at e)
      (λy hy=>by
       simp only[lZ,aDZ]at hy
       obtain⟨i,hi,rfl⟩:=hy
       obtain⟨vs,h1,_⟩:=hys i hi
       exact(aEQ hT n e _ hd.2 h1).1)
      (λi j x hx=>(hcv i j x hx).1) (λi j x hx=>(hcv i j x hx).2.1) (λi j x hx=>(hcv i j x hx).2.2)
     rw[←hlen]at this
     exact this
  |some (.struct fs) =>
   rw[hu]at hd
   simp only[mK,beq_iff_eq,vF]at hd
   obtain⟨xs,m,hm,rfl,hl,hfl,hf⟩:=DataW.trod_struct hu hx
   obtain rfl:n=m:=by omega

   have key:∀ (l:List Field) (o:Nat),(∀ f∈l,T.contains f.type=true/\∃ y,DataW.trod enc P w base sp held n f.type ((cs.drop f.offset).take (P.cellsOf f.type))=some y)->aA4 P l o=some (P.cellsOf t) ->
     ∃ ys,eF E h w ys (cs.drop o)/\∀ f∈l,o<=f.offset/\Dat P n f.type ((ys.drop (f.offset-o)).take (P.cellsOf f.type)):=by
    intro l
    induction l with
    |nil =>
     intro o _ ho
     simp only[aA4,a14]at ho
     rw[a4C aA]
     exact⟨[],trivial,λf hf=>by simp at hf⟩
    |cons f l ih =>
     intro o hl' ho
     simp only[aA4]at ho
     split at ho
     ·rename_i e
      obtain⟨hc,y,hy⟩:=hl' f aAL
      obtain⟨zs,hz1,hz2⟩:=aKL hT hI n f.type _ y (by simpa using hc) hy
      obtain⟨ys,hy1,hy2⟩:=ih _ (λg hg=>hl' g (wN _ hg)) ho
      have hzl:=(aEQ hT n _ _ (by simpa using hc) hz1).1
      rw[e]at hz2
      have hjoin:eF E h w (zs++ys) (cs.drop o):=by
       have:=eF.append hz2 hy1
       rw[←bGT (P.cellsOf f.type) (cs.drop o),List.drop_drop]
       exact this
      refine⟨zs++ys,hjoin,λg hg=>?_⟩
      rcases pP.1 hg with rfl|hg
      ·refine⟨by omega,?_⟩
       rw[e,sP,aRI,List.take_append_of_le_length aA,hJ aA]
       exact hz1
      ·obtain⟨h1,h2⟩:=hy2 g hg
       refine⟨by omega,?_⟩
       rw[List.drop_append,hzl,a4C aA,dZ,show g.offset-o-P.cellsOf f.type=g.offset-(o+P.cellsOf f.type)by omega]
       exact h2
     ·cases ho
   obtain⟨ys,h1,h2⟩:=key fs.toList 0 (λf hf'=>by
    obtain⟨i,hi⟩:=a9U hf'
    have hi':fs[i]?=some f:=by simpa using hi
    refine⟨hd.2 f hf',?_⟩
    have:=hf i f hi'
    have hil:i<xs.length:=by rw[hfl];exact(aRG.1 hi').1
    rw[fC hil]at this
    exact⟨_,this⟩) hd.1
   rw[aRI]at h1
   refine⟨ys,?_,h1⟩
   simp only[Dat,hu]
   refine⟨h1.length.trans hl,λi f hf'=>?_⟩
   have:=h2 f (by have:=Array.mem_of_getElem? hf';simpa using this)
   simpa using this.2
  |none|some .invalid|some (.float _)|some (.complex _)|some .unsafePointer|some (.named ..)|some (.pointer _)|some (.array ..)|some (.map ..)|some (.func ..)|some (.interface _)|some (.chan ..)|some (.tuple _)=>all_goals(rw[hu]at hd;simp at hd)
end
open Go.ChangeShapes Go.WideShapes
def aOV (P:Program) (n:Nat) (t:TypeId) (x:aE):Prop :=
 match P.underlying t with
 |some (.struct _)=>∃ ys,x=.agg ys/\Dat P n t ys
 | _=>Dat P n t [x]
def aSQ (P:Program):List TypeId->List aE->Prop
 | [],[]=>True
 |t::ts,x::xs=>(∃ n,aOV P n t x)/\aSQ P ts xs
 | _,_=>False
section
variable {H:Type} {enc:TypeId×Value->H} {P:Program} {w:World} {base:Nat} {sp:Nat->Bool} {held:Bool}
theorem a5O {T:List TypeId} (hT:a2K P T=true) {E:Env} {h:aB} (hI:∀ b,b<w.heap.size->oU E h w b) {t:TypeId} (ht:t∈T) {v:Value} {d:DataW H} {ps:List MemPlace}
  (hok:Value.okWide P w .any base t v) (hr:DataW.Trod enc P w 0 sp held t v d ps):∃ x n,aOV P n t x/\fG E h w x v:=by
 obtain⟨n,hr⟩:=hr
 obtain⟨xs,h1,h2⟩:=aKL hT hI n t _ _ ht hr
 have hd:=vF.1 hT t ht
 match hu:P.underlying t with
 |some (.struct fs) =>
  obtain⟨cs,rfl,_⟩:=okWide_struct hu hok
  exact⟨.agg xs,n,by simp only[aOV,hu];exact⟨xs,rfl,h1⟩,.agg xs cs.toList h2.length h2.get⟩
 |some .bool =>
  obtain⟨b,rfl⟩:=okWide_bool hu hok
  have hone:=aEQ hT n t xs ht h1
  match xs,h2 with
  | [x],h2=>exact⟨x,n,by simp only[aOV,hu];exact h1,by simpa[Value.cells]using h2.1⟩
  | [],h2=>exact h2.elim
  | _::_::_,h2=>exact h2.2.elim
 |some (.int k) =>
  obtain⟨b,rfl⟩:=okWide_int hu hok
  match xs,h2 with
  | [x],h2=>exact⟨x,n,by simp only[aOV,hu];exact h1,by simpa[Value.cells]using h2.1⟩
  | [],h2=>exact h2.elim
  | _::_::_,h2=>exact h2.2.elim
 |some .string =>
  obtain⟨b,rfl⟩:=okWide_string hu hok
  match xs,h2 with
  | [x],h2=>exact⟨x,n,by simp only[aOV,hu];exact h1,by simpa[Value.cells]using h2.1⟩
  | [],h2=>exact h2.elim
  | _::_::_,h2=>exact h2.2.elim
 |some (.slice e) =>
  obtain⟨a,len,cap,rfl⟩:=okWide_slice hu hok
  match xs,h2 with
  | [x],h2=>exact⟨x,n,by simp only[aOV,hu];exact h1,by simpa[Value.cells]using h2.1⟩
  | [],h2=>exact h2.elim
  | _::_::_,h2=>exact h2.2.elim
 |none|some .invalid|some (.float _)|some (.complex _)|some .unsafePointer|some (.named ..)|some (.pointer _)|some (.array ..)|some (.map ..)|some (.func ..)|some (.interface _)|some (.chan ..)|some (.tuple _)=>all_goals(rw[hu]at hd;simp at hd)
theorem aNC {T:List TypeId} (hT:a2K P T=true) {E:Env} {h:aB} (hI:∀ b,b<w.heap.size->oU E h w b):∀ {ts:List TypeId} {vs:List Value} {ds:List (DataW H)} {ps:List MemPlace},
  (∀ t∈ts,t∈T)->(∀ (j:Nat) t v,ts[j]?=some t->vs[j]?=some v->Value.okWide P w .any base t v)->DataW.TrodAll enc P w 0 sp held ts vs ds ps->∃ xs,aSQ P ts xs/\eF E h w xs vs/\ds.length=ts.length
 | [],[],[],_,_,_,_=>⟨[],trivial,trivial,rfl⟩
 |t::ts,v::vs,d::ds,_,ht,hok,⟨p,q,h1,h2,_⟩=>by
  obtain⟨x,n,h3,h4⟩:=a5O hT hI (ht t aAL) (hok 0 t v rfl rfl) h1
  obtain⟨xs,h5,h6,h7⟩:=aNC hT hI (λt' h'=>ht t' (wN _ h')) (λj t' v' a b=>hok (j+1) t' v' (by simpa using a) (by simpa using b)) h2
  exact⟨x::xs,⟨⟨n,h3⟩,h5⟩,⟨h4,h6⟩,by simp[h7]⟩
 | [],_::_,_,_,_,_,h=>by cases ‹List (DataW H)› <;> exact h.elim
 | [],[],_::_,_,_,_,h=>h.elim
 | _::_,[],_,_,_,_,h=>by cases ‹List (DataW H)› <;> exact h.elim
 | _::_,_::_,[],_,_,_,h=>h.elim
end
theorem aCL {H:Type} {enc:TypeId×Value->H} {P:Program} {w w':World} {base:Nat} {sp:Nat->Bool} {held:Bool}:∀ {ts:List TypeId} {vs:List Value} {ds:List (DataW H)} {ps:List MemPlace},
  DataW.TrodAll enc P w base sp held ts vs ds ps->(∀ p∈ps,w.sameAt w' p)->DataW.TrodAll enc P w' base sp held ts vs ds ps
 | [],[],[],_,h,_=>h
 | _::_,_::_,_::_,_,⟨p,q,⟨n,h1⟩,h2,e⟩,hs=>⟨p,q,⟨n,DataW.trod_carry n _ _ _ h1 (λx hx=>hs x (by rw[e];exact aAK _ hx))⟩,aCL h2 (λx hx=>hs x (by rw[e];exact xA _ hx)),e⟩
 | [],_::_,_,_,h,_=>by cases ‹List (DataW H)› <;> exact h.elim
 | [],[],_::_,_,h,_=>h.elim
 | _::_,[],_,_,h,_=>by cases ‹List (DataW H)› <;> exact h.elim
 | _::_,_::_,[],_,h,_=>h.elim
theorem aKM {w w':World} {p:MemPlace} (h:w'.heap[p.block]?=w.heap[p.block]?):w.sameAt w' p:=by
 cases p with
 |cell b o=>exact wQ h o none
 |map b=>exact h
theorem a5P {H:Type} {enc:TypeId×Value->H} {P:Program} (lo:laidOutB P=true) (mr:mapsRowed P=true)
  (hz:((List.range P.types.size).all λt=>match P.underlying t with|some (.slice e)=>decide (0<P.cellsOf e)|_=>true)=true)
  {fn:Func} (hT:fn.params.all (λt=>decide (t<P.types.size))=true) {s:ChangeSpec} (hsv:s.vars=[]) (hs:∀ ds:List (DataW H),ds.length=fn.params.size->s.fn H ds={ results:=[.lit (.bool true)],args:=ds })
  {tb:TypeId} (hr:fn.resultTypes=#[tb]) (htb:P.underlying tb=some .bool) {W W':World} {args:Array Value} {ds gs:List (DataW H)} {before:List MemPlace}
  (hW:DataW.Whole enc P fn.params.toList s.vars false W args.toList ds gs before) (hl:ds.length=fn.params.size)
  (hheap:∀ b,b<W.heap.size->W'.heap[b]?=W.heap[b]?) (hos:W'.os=W.os) (hout:W'.output=W.output) :
  s.post enc P fn false true false false W args (.bool true) W':=by
 have hlt:=hW.lt
 have hW0:=hW
 obtain⟨p,q,hA,hV,rfl,hfz,_⟩:=hW
 rw[hsv]at hV
 have hgs:gs=[]/\q=[]:=by
  match gs,hV with
  | [],h=>exact⟨rfl,h⟩
 obtain⟨rfl,rfl⟩:=hgs
 rw[dR]at hlt hfz hW0
 have e:s.fn H (ds++[])={ results:=[.lit (.bool true)],args:=ds }:=by rw[dR];exact hs ds hl
 refine⟨ds,[],p,[],p,[],hW0,?_,?_,?_,?_,λh=>by simp at h⟩
 ·rw[e]
  simp only[hr]
  refine⟨[],[],⟨1,?_⟩,rfl,rfl⟩
  simp[DataW.trod,htb,Value.cells]
 ·rw[e]
  have h1:DataW.TrodAll enc P W' 0 (λ_=>true) true fn.params.toList args.toList ds p:=aCL hA λx hx=>aKM (hheap _ (hlt x hx))
  refine DataW.TrodAll.respare (kids_rows lo mr) (λt e ht hu=>slices_full_of P hz t e ht hu) (λt ht=>?_) h1 (λx hx=>by simpa using hlt x hx)
  have:=a4G.1 hT t (by simpa using ht)
  simpa using this
 ·rw[e,hsv];exact rfl
 ·refine⟨hos,hout,λi hi=>?_⟩
  rw[hheap i hi]
  have hi':W.heap[i]?=some W.heap[i]:=aJD hi
  rw[hi']
  cases W.heap[i]with
  |cells c t fr=>exact⟨rfl,rfl,rfl,λ_ _=>rfl⟩
  |map es clock=>exact .inr ⟨rfl,rfl⟩
  | _=>rfl
def u2:aB:=λ_=>none
def aSR:Env where
 loc:=λ_=>none
 fp:=λ_ _=>False
 used:=λ_=>False
theorem a5Q (w:World) (hl:aAN aSR u2 w):Rel aSR u2 w where
 fin:=⟨0,λn _ h=>h⟩
 dom:=λn h=>absurd rfl h
 lt:=λn o b h=>by simp[u2]at h
 apart:=λn o m o' b h=>by simp[u2]at h
 obj:=λn o h=>by simp[u2]at h
 laid:=hl
theorem aSS {w:World} {b:Nat} (hb:b<w.heap.size):oU aSR u2 w b:=⟨hb,λn o h=>by simp[u2]at h⟩
theorem aST {H:Type} {enc:TypeId×Value->H} {C:Checked} {os:Os} {f:FuncId} {fn:Func} {s:ChangeSpec}
  (own:ownKnob C.prog.godebug=none) (started:os.Started) (noInit:C.prog.inits.idxOf? f=none) (hfn:C.prog.funcs[f]?=some fn)
  (witness:∃ (w:World) (tape:Tape) (i:Input),w.os=os/\(w.forCall tape i).Shaped C.prog/\i.vars=[]/\Input.okWide C.prog (w.forCall tape i) .any w.heap.size f i /\
   s.pre6 enc C.prog fn [] false (w.forCall tape i).memory i.args/\({}:Assume).holds C.prog (lone (Frame.enter C.prog f i.args .normal) [] (w.forCall tape i)))
  (lo:laidOutB C.prog=true) (mr:mapsRowed C.prog=true)
  (hz:((List.range C.prog.types.size).all λt=>match C.prog.underlying t with|some (.slice e)=>decide (0<C.prog.cellsOf e)|_=>true)=true)
  (T:List TypeId) (hT:a2K C.prog T=true) (hp:fn.params.all (λt=>decide (t<C.prog.types.size) && T.contains t)=true)
  (hsv:s.vars=[]) (hs:∀ ds:List (DataW H),ds.length=fn.params.size->s.fn H ds={ results:=[.lit (.bool true)],args:=ds })
  {tb:TypeId} (hr:fn.resultTypes=#[tb]) (htb:C.prog.underlying tb=some .bool)
  (hc:∀ xs,aSQ C.prog fn.params.toList xs->fR C.prog f xs (.bool true)) (hl0:aJP=[]:=by rfl) :
  ReturnsInHanded {} C os f .any (s.pre6 enc C.prog fn [] false) (s.post enc C.prog fn false true false false):=by
 refine returnsInHanded_of_change own started noInit hfn witness ?_
 intro W base args ds gs before hval hW _ _
 have hW0:=hW
 obtain⟨p,q,hA,hV,_,_,_⟩:=hW
 have hp':=a4G.1 hp
 simp only[mK,decide_eq_true_eq]at hp'
 have hbase:∀ (j:Nat) t v,fn.params.toList[j]?=some t->args.toList[j]?=some v->Value.okWide C.prog W .any base t v:=λj t v h1 h2=>hval j t v (by simpa using h1) (by simpa using h2)
 obtain⟨xs,h1,h2,h3⟩:=aNC hT (E:=aSR) (h:=u2) (λb hb=>aSS hb) (λt ht=>by have:=(hp' t (by simpa using ht)).2;simpa using this) hbase hA
 refine Calls.mono (by simpa using(hc xs h1 u2).2 aSR W args.toList (a5Q W λp hp=>by rw[hl0]at hp;cases hp) h2) λe W' he=>?_
 cases e with
 |returned v =>
  obtain⟨r,h',E',⟨rfl,rfl⟩,ev,_,rep⟩:=he
  cases rep
  exact⟨_,rfl,a5P lo mr hz (by rw[a4G];intro t ht;simpa using(hp' t ht).1) hsv hs hr htb hW0 (by simpa using h3) (λb hb=>(ev.keep b (aSS hb)).1) ev.os ev.out⟩
 | _=>exact he.elim
def bB (P:Program) (f:FuncId) (args:List aE) (r:aE) (h0:aB):Prop:=∀ h:aB,h0.le h->iD P f args h λr' h'=>r'=r/\h'=h
theorem fR.bAX {P:Program} {f:FuncId} {args:List aE} {r:aE} {h0:aB} (a:fR P f args r):bB P f args r h0:=λh _=>a h
theorem bB.mono {P:Program} {f:FuncId} {args:List aE} {r:aE} {h0 h1:aB} (hl:h0.le h1) (a:bB P f args r h0):bB P f args r h1:=λh q=>a h (aB.le_trans hl q)
theorem a2L (h:aB):u2.le h:=λ_=>.inl rfl
theorem bB.dI {P:Program} {f:FuncId} {args:List aE} {r:aE} (a:bB P f args r u2):fR P f args r:=λh=>a h (a2L h)
theorem aH.bH {P:Program} {g:FuncId} {args:List aE} {h:aB} {K:aE->aB->Prop} {t:Tag K} {r:aE} (a:bB P g args r h) (k:K r h):aH P g args h K t :=
 iD.mono (a h (aB.le_refl h)) λ_ _ ⟨e,e'⟩=>e▸e'▸k
theorem aH.fX {P:Program} {g:FuncId} {args:List aE} {h:aB} {K K':aE->aB->Prop} {t:Tag K} (a:iD P g args h K') (k:∀ r h',K' r h'->K r h'):aH P g args h K t:=iD.mono a k
theorem aB.aVQ {h0 h:aB} (hl:h0.le h) {n:Nat} {o:bU} (hn:h0 n=some o):h n=some o:=by
 rcases hl n with e|e
 ·rw[hn]at e;cases e
 ·rw[←e];exact hn
theorem bOF {P:Program} {f:FuncId} {fn:Func} {c:Code} (N:Nat) (keep ib:List Nat) (mk:Marks) {args:List aE} {h:aB} {K:aE->aB->Prop} (hmix:P.follows .mixedOrders=true) (hf:P.funcs[f]?=some fn) (hb:fn.body=some c)
  (hck:(jF P f && decide (fn.ntmps=N) && gR N mk c)=true) (hl:args.length<=N)
  (hw:nV P N keep ib mk c (λτ h'=>l9 P fn.results (λr h'=>∃ g:aB,g.le h'/\K r g) () .normal τ h') (l9 P fn.results (λr h'=>∃ g:aB,g.le h'/\K r g) ()) (pQ 0 args) h ()):iD P f args h K :=
 aKF N keep ib mk hmix hf hb hck hl (K':=λr h'=>∃ g:aB,g.le h'/\K r g) hw λ_ _ hx=>hx
theorem bOG {P:Program} {f:FuncId} {fn:Func} {c:Code} (N:Nat) (keep ib:List Nat) (mk:Marks) {args:List aE} {r:aE} {h0:aB} (hmix:P.follows .mixedOrders=true) (hf:P.funcs[f]?=some fn) (hb:fn.body=some c)
  (hck:(jF P f && decide (fn.ntmps=N) && gR N mk c)=true) (hl:args.length<=N)
  (hw:∀ h:aB,h0.le h->nV P N keep ib mk c (λτ h'=>l9 P fn.results (λr' h'=>r'=r/\h.le h') () .normal τ h') (l9 P fn.results (λr' h'=>r'=r/\h.le h') ()) (pQ 0 args) h ()):bB P f args r h0 :=
 λh hle=>aKF N keep ib mk hmix hf hb hck hl (K':=λr' h'=>r'=r/\h.le h') (hw h hle) λ_ _ hx=>⟨h,hx.2,hx.1,rfl⟩
theorem aHV {P:Program} {f:FuncId} {fn:Func} {c:Code} (N:Nat) (keep ib:List Nat) (mk:Marks) {args:List aE} {h:aB} {K:aE->aB->Prop} (hf:P.funcs[f]?=some fn) (hw:nV P N keep ib mk c (λτ h'=>l9 P fn.results (λr h'=>∃ g:aB,g.le h'/\K r g) () .normal τ h') (l9 P fn.results (λr h'=>∃ g:aB,g.le h'/\K r g) ()) (pQ 0 args) h ()) (hmix:P.follows .mixedOrders=true:=by exact mix) (hb:fn.body=some c:=by rfl) (hck:(jF P f && decide (fn.ntmps=N) && gR N mk c)=true:=by kernel_rfl) (hl:args.length<=N:=by simp):iD P f args h K :=
 bOF N keep ib mk hmix hf hb hck hl hw
theorem aSU {P:Program} {f:FuncId} {fn:Func} {c:Code} (N:Nat) (keep ib:List Nat) (mk:Marks) {args:List aE} {r:aE} {h0:aB} (hf:P.funcs[f]?=some fn) (hw:∀ h:aB,h0.le h->nV P N keep ib mk c (λτ h'=>l9 P fn.results (λr' h'=>r'=r/\h.le h') () .normal τ h') (l9 P fn.results (λr' h'=>r'=r/\h.le h') ()) (pQ 0 args) h ()) (hmix:P.follows .mixedOrders=true:=by exact mix) (hb:fn.body=some c:=by rfl) (hck:(jF P f && decide (fn.ntmps=N) && gR N mk c)=true:=by kernel_rfl) (hl:args.length<=N:=by simp):bB P f args r h0 :=
 bOG N keep ib mk hmix hf hb hck hl hw
end Go.Hl

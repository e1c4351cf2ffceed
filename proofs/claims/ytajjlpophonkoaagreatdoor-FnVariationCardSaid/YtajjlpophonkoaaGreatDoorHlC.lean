/-
  Contracts of functions and laws of the layer over the walk.
-/
import Derived.Test.YtajjlpophonkoaaGreatDoorHlB
import Derived.KernelRfl
import Derived.ReadAgain
import Derived.ChangeArms
import Derived.ChangeSame
import Derived.Handed
import Derived.JoinedOf
namespace Go.Hl
attribute [go_sem] lW aU8
theorem nn (n:Nat):(0<=(n:Int))=True:=by simp
attribute [go_sem] bKI zN aJH aEI bRW xU places aEL aPB aCC aZK yD vC ld aMT aEF sP nT dOf zE xG wM b7 iT sC aH.ofValue aH.uB p5 Hl.prune c4 lR
 aM r9 nn bP
attribute [go_sem] Call.operands Array.toList_append Option.map List.map Option.bind List.contains List.elem List.filterMap Op.operands Option.toList Array.size List.all List.set
attribute [go_sem] if_true if_false a2I Option.bind_none iI a2K bAX bJ5 true_and and_true forall_const Bool.true_eq_false aU3 false_implies implies_true decide_true decide_false nG BEq.rfl dT nE nU bA2 Bool.not_eq_false' decide_eq_true_eq decide_eq_false_iff_not Int.natCast_inj Int.ofNat_lt Int.ofNat_le bDA Bool.not_false aH.int.injEq aH.bool.injEq aE.le_refl
attribute [go_sem] ne_eq Bool.and_self Bool.true_and Bool.and_true bJ3 Bool.and_false Int.reduceLT Int.reduceNeg Int.reduceLE Int.reduceEq Nat.reduceLeDiff Nat.reduceSub Nat.reduceMul al4 aNG al2 al3 aG8 aSF List.take_nil List.drop_nil bDD List.drop_succ_cons List.replicate sX nZ nG not_true_eq_false not_false_eq_true true_implies decide_not ite_not
attribute [go_sem] Bool.true_or aU7 Bool.or_true Bool.or_false Nat.reduceAdd Nat.reduceEqDiff Nat.reduceBEq reduceCtorEq
@[go_sem] theorem bWT :aH.cells (aH.any)=[(aH.any)]:=rfl
@[go_sem] theorem bY2 :aH.flat (aH.any)=false:=rfl
@[go_sem] theorem bR5 (b:Bool):aH.cells (aH.bool b)=[(aH.bool b)]:=rfl
@[go_sem] theorem bWU (b:Bool):aH.flat (aH.bool b)=true:=rfl
@[go_sem] theorem bWV (k:IntKind) (n:Int):aH.cells (aH.int k n)=[(aH.int k n)]:=rfl
@[go_sem] theorem bY3 (k:IntKind) (n:Int):aH.flat (aH.int k n)=true:=rfl
@[go_sem] theorem bWW (s:List UInt8):aH.cells (aH.str s)=[(aH.str s)]:=rfl
@[go_sem] theorem bY4 (s:List UInt8):aH.flat (aH.str s)=true:=rfl
@[go_sem] theorem bKO :aH.cells (aH.kT)=[(aH.kT)]:=rfl
@[go_sem] theorem bPM :aH.flat (aH.kT)=true:=rfl
@[go_sem] theorem bPN :aH.cells (aH.bD)=[(aH.bD)]:=rfl
@[go_sem] theorem bR6 :aH.flat (aH.bD)=true:=rfl
@[go_sem] theorem bPO :aH.cells (aH.wX)=[(aH.wX)]:=rfl
@[go_sem] theorem bR7 :aH.flat (aH.wX)=true:=rfl
@[go_sem] theorem bPP :aH.cells (aH.nK)=[(aH.nK)]:=rfl
@[go_sem] theorem bR8 :aH.flat (aH.nK)=true:=rfl
@[go_sem] theorem bKP :aH.cells (aH.r5)=[(aH.r5)]:=rfl
@[go_sem] theorem bPQ :aH.flat (aH.r5)=true:=rfl
@[go_sem] theorem bY5 (sz:Nat) (es:List (List aH)) (b:Bool):aH.cells (aH.sl sz es b)=[(aH.sl sz es b)]:=rfl
@[go_sem] theorem b3T (sz:Nat) (es:List (List aH)) (b:Bool):aH.flat (aH.sl sz es b)=true:=rfl
@[go_sem] theorem bY6 (sz:Nat) (es:List (List aH)) (i o:Nat):aH.cells (aH.ip sz es i o)=[(aH.ip sz es i o)]:=rfl
@[go_sem] theorem b3U (sz:Nat) (es:List (List aH)) (i o:Nat):aH.flat (aH.ip sz es i o)=true:=rfl
@[go_sem] theorem bY7 (n sz i l:Nat):aH.cells (aH.os n sz i l)=[(aH.os n sz i l)]:=rfl
@[go_sem] theorem b3V (n sz i l:Nat):aH.flat (aH.os n sz i l)=true:=rfl
@[go_sem] theorem bY8 (n sz i l:Nat):aH.cells (aH.op n sz i l)=[(aH.op n sz i l)]:=rfl
@[go_sem] theorem b3W (n sz i l:Nat):aH.flat (aH.op n sz i l)=true:=rfl
@[go_sem] theorem bWX (cs:List aH):aH.cells (aH.jO cs)=[(aH.jO cs)]:=rfl
@[go_sem] theorem bY9 (cs:List aH):aH.flat (aH.jO cs)=false:=rfl
@[go_sem] theorem bZA (f:Fn) (a b:List aH):aH.cells (aH.fn f a b)=[(aH.fn f a b)]:=rfl
@[go_sem] theorem b3X (f:Fn) (a b:List aH):aH.flat (aH.fn f a b)=true:=rfl
@[go_sem] theorem bPR (t:TypeId) (v:aH):aH.cells (aH.iface t v)=[(aH.iface t v)]:=rfl
@[go_sem] theorem bR9 (t:TypeId) (v:aH):aH.flat (aH.iface t v)=true:=rfl
@[go_sem] theorem bZB (n:Nat):aH.cells (aH.mp n)=[(aH.mp n)]:=rfl
@[go_sem] theorem b3Y (n:Nat):aH.flat (aH.mp n)=true:=rfl
@[go_sem] theorem bWY (cs:List aH):aH.cells (.agg cs)=cs:=rfl
@[go_sem] theorem bZC (cs:List aH):aH.flat (.agg cs)=false:=rfl
@[go_sem] theorem bSA:maxLen=9223372036854775807:=rfl
set_option linter.unusedVariables false
set_option linter.unusedSimpArgs false
def Sub (x y:aH):Prop:=∀ E h w v,gC E h w x v->gC E h w y v
theorem Sub.refl (x:aH):Sub x x:=λ_ _ _ _ r=>r
theorem Sub.trans {x y z:aH} (a:Sub x y) (b:Sub y z):Sub x z:=λE h w v r=>b E h w v (a E h w v r)
theorem Sub.any (x:aH):Sub x .any:=λ_ _ _ v _=>.any v
theorem Sub.nil (sz:Nat) (t:Bool):Sub .bD (.sl sz [] t):=λE h w v r=>by
 cases r
 exact .sl0 sz t none 0 (λ_=>rfl) (by simp[maxLen]) trivial
theorem Sub.loose (sz:Nat) (es:List (List aH)) (t:Bool):Sub (.sl sz es t) (.sl sz es false):=λE h w v r=>by
 cases r with
 |sl0 _ _ a cap ht hmax ha=>exact .sl0 sz false _ _ (λe=>by simp at e) hmax ha
 |sl _ _ _ b o cap cv hi hcap hmax ht hs hc h1 hr=>exact .sl sz es false b o _ cv hi hcap hmax (λe=>by simp at e) hs hc h1 hr
def qV (xs ys:List aH):Prop:=xs.length=ys.length/\∀ (i:Nat) (x y:aH),xs[i]?=some x->ys[i]?=some y->Sub x y
theorem qV.nil:qV [] []:=⟨rfl,λi x y hx=>by simp at hx⟩
theorem qV.cons {x y:aH} {xs ys:List aH} (a:Sub x y) (b:qV xs ys):qV (x::xs) (y::ys) :=
 ⟨by simp[b.1],λi u v hu hv=>by
  cases i with
  |zero=>simp at hu hv;subst hu;subst hv;exact a
  |succ i=>exact b.2 i u v (by simpa using hu) aB6⟩
theorem qV.aZ1 {E:Env} {h:aE} {w:World}:∀ {xs ys:List aH} {vs:List Value},qV xs ys->fD E h w xs vs->fD E h w ys vs
 | [],[],_,_,r=>r
 | [],_::_,_,s,_=>by have:=s.1;simp at this
 | _::_,[],_,s,_=>by have:=s.1;simp at this
 |x::xs,y::ys,[],s,r=>r.elim
 |x::xs,y::ys,v::vs,s,r=>⟨s.2 0 x y rfl rfl E h w v r.1,qV.aZ1 (xs:=xs) (ys:=ys) ⟨by have:=s.1;simpa using this,λi u v hu hv=>s.2 (i+1) u v (by simpa using hu) aB6⟩ r.2⟩
theorem Sub.agg {xs ys:List aH} (s:qV xs ys):Sub (.agg xs) (.agg ys):=λE h w v r=>by
 cases r with
 |agg _ vs hl hr =>
  have:=s.aZ1 (fD.mk hl hr)
  exact .agg _ _ this.length this.get
theorem Sub.jO {xs ys:List aH} (s:qV xs ys):Sub (.jO xs) (.jO ys):=λE h w v r=>by
 cases r with
 |jO _ vs hl hr =>
  have:=s.aZ1 (fD.mk hl hr)
  exact .jO _ _ this.length this.get
theorem jC.sub {P:Program} {f:FuncId} {xs ys:List aH} {h:aE} {K:aH->aE->Prop} (s:qV xs ys) (a:jC P f ys h K):jC P f xs h K :=
 ⟨a.1,λE w vs R hL=>a.2 E w vs R (s.aZ1 hL)⟩
theorem fM.sub {P:Program} {f:FuncId} {xs ys:List aH} {r:aH} (s:qV xs ys) (a:fM P f ys r):fM P f xs r:=λh=>(a h).sub s
def Shift (r':aH) (h':aE) (r:aH) (h:aE):Prop :=
 ∀ E w v,Rel E h' w->gC E h' w r' v->∃ E',Ev E h' w E' h w/\Rel E' h w/\gC E' h w r v
theorem Shift.of {r' r:aH} {h' h:aE} (s:Sub r' r) (hl:h.le h'):Shift r' h' r h:=λE w v R x =>
 ⟨E,(Ev.refl E h' w).forget hl,R.forget hl,s _ _ _ _ (x.sB λb=>qK.le hl)⟩
theorem Shift.trans {a b c:aH} {h1 h2 h3:aE} (x:Shift a h1 b h2) (y:Shift b h2 c h3):Shift a h1 c h3:=λE w v R r=>by
 obtain⟨E',ev,R',r'⟩:=x E w v R r
 obtain⟨E'',ev',R'',r''⟩:=y E' w v R' r'
 exact⟨E'',ev.trans ev',R'',r''⟩
mutual
def aH.eM (n:Nat) (es:List (List aH)):aH->aH
 | .os m sz i len=>if m=n then .sl sz ((es.drop i).take len) false else .os m sz i len
 | .op m sz i off=>if m=n then .ip sz es i off else .op m sz i off
 | .agg cs=>.agg (lX n es cs)
 | .jO cs=>.jO (lX n es cs)
 |x=>x
def lX (n:Nat) (es:List (List aH)):List aH->List aH
 | []=>[]
 |x::xs=>x.eM n es::lX n es xs
end
theorem aPS (n:Nat) (es:List (List aH)):∀ l,lX n es l=l.map (aH.eM n es)
 | []=>rfl
 |x::l=>by simp[lX,aPS n es l]
mutual
def gA (n sz k:Nat):aH->Bool
 | .os m oC i len=>m != n || (oC == sz && decide (i+len<=k))
 | .op m oC i len=>m != n || oC == sz
 | .agg cs=>jG n sz k cs
 | .jO cs=>jG n sz k cs
 | _=>true
def jG (n sz k:Nat):List aH->Bool
 | []=>true
 |x::xs=>gA n sz k x && jG n sz k xs
end
theorem aEQ (n sz k:Nat):∀ (l:List aH),jG n sz k l=true->∀ (i:Nat) x,l[i]?=some x->gA n sz k x=true
 | [],_,i,x,hx=>by simp at hx
 |y::l,h,0,x,hx=>by simp at hx;subst hx;simp only[jG,oW]at h;exact h.1
 |y::l,h,i+1,x,hx=>by simp only[jG,oW]at h;exact aEQ n sz k l h.2 i x aO1
theorem gC.vB {E:Env} {h:aE} {w:World} (R:Rel E h w) {n sz:Nat} {es:List (List Cell)} (hn:h n=some (.row sz es)) {x:aH} {v:Value} (r:gC E h w x v)
  (hb:gA n sz es.length x=true):gC E (aR h n .gone) w (x.eM n (fO es)) v:=by
 have hi:∀ b,qK E h w b->qK E (aR h n .gone) w b:=λb=>aED n b
 induction r with
 |any v=>exact .any v
 |bool b=>exact .bool b
 |int k n=>exact .int k n
 |str s hl=>exact .str s hl
 |kT=>exact .kT
 |bD=>exact .bD
 |wX=>exact .wX
 |nK=>exact .nK
 |r5=>exact .r5
 |sl0 sz t a cap ht hmax ha=>exact .sl0 sz t a cap ht hmax ha
 |sl sz es t b o cap cv hb' hcap hmax ht hs hc h1 hr ih=>exact .sl sz es t b o cap cv (hi b hb') hcap hmax ht hs hc h1 λi j x hx=>(hr i j x hx).sB hi
 |ip sz es i off b o cv hb' hs hc h1 hr ih=>exact .ip sz es i off b o cv (hi b hb') hs hc h1 λi j x hx=>(hr i j x hx).sB hi
 |os0 m oC hd hl =>
  simp only[aH.eM]
  split
  ·have:((fO es).drop 0).take 0=[]:=by simp
   rw[this]
   exact .sl0 oC false none 0 (λ_=>rfl) (by simp[maxLen]) trivial
  ·exact .os0 m oC hd hl
 |op m oC i off b o hd hl =>
  simp only[aH.eM]
  split
  ·rename_i e
   subst e
   simp only[gA,bne_self_eq_false,aU7,beq_iff_eq]at hb
   subst hb
   obtain⟨b',o',hl',hbS,hs,cs,ct,cv,T,hh,hm',hT,hD,hc,hrr⟩:=aEG R hn (.inr ⟨_,hl⟩)
   rw[hl]at hl'
   obtain⟨rfl,rfl⟩:=aU4 (gV hl')
   have himm:∀ c,E.fp m c->qK E (aR h m .gone) w c:=λc hc=>aMS R hn trivial c hc
   have hat:∀ i' j y,kA (fO es) i' j=some y->∃ c,kA es i' j=some c/\y=c.val:=by
    intro i' j y hy
    rw[vW]at hy
    obtain⟨c,hc,rfl⟩:=u5.1 hy
    exact⟨c,hc,rfl⟩
   exact .ip oC (fO es) i off b o cv (himm b hbS) (λe he=>aB8 hs e he)
    (λi' j y hy=>by
     obtain⟨c,hc',rfl⟩:=hat i' j y hy
     have:=hc _ _ _ hc'
     simp only[World.cell?,hh]
     rw[←this]
     simp)
    (λi' j y hy=>by obtain⟨c,hc',rfl⟩:=hat i' j y hy;exact(hrr _ _ _ hc').one)
    (λi' j y hy=>by
     obtain⟨c,hc',rfl⟩:=hat i' j y hy
     exact(hrr _ _ _ hc').vB hi λb hb=>himm b (hT _ _ b hb).1)
  ·exact .op m oC i off b o hd hl
 |fn f cs ds vs us hl hr hl' hr' ih ih'=>exact .fn f cs ds vs us hl (λi x v hx hv=>(hr i x v hx hv).sB hi) hl' (λi x v hx hv=>(hr' i x v hx hv).sB hi)
 |iface t x v hr ih=>exact .iface t x v (hr.sB hi)
 |mp n b o hd hl=>exact .mp n b o hd hl
 |agg cs vs hl hr ih =>
  simp only[aH.eM,aPS]
  simp only[gA]at hb
  refine .agg _ vs aLO λi x v hx hv=>?_
  rw[nE]at hx
  obtain⟨y,hy,rfl⟩:=u5.1 hx
  exact ih i y v hy hv (aEQ _ _ _ _ hb i y hy)
 |jO cs vs hl hr ih =>
  simp only[aH.eM,aPS]
  simp only[gA]at hb
  refine .jO _ vs aLO λi x v hx hv=>?_
  rw[nE]at hx
  obtain⟨y,hy,rfl⟩:=u5.1 hx
  exact ih i y v hy hv (aEQ _ _ _ _ hb i y hy)
 |os m oC i len b o cap t mm hd hl hlc hmax hsh hm =>
  simp only[aH.eM]
  split
  ·rename_i e
   subst e
   simp only[gA,bne_self_eq_false,aU7,oW,beq_iff_eq,decide_eq_true_eq]at hb
   obtain⟨rfl,hle⟩:=hb
   obtain⟨b',o',hl',hbS,hs,cs,ct,cv,T,hh,hm',hT,hD,hc,hrr⟩:=aEG R hn (.inr ⟨_,hl⟩)
   rw[hl]at hl'
   obtain⟨rfl,rfl⟩:=aU4 (gV hl')
   have himm:∀ c,E.fp m c->qK E (aR h m .gone) w c:=λc hc=>aMS R hn trivial c hc
   have hlen:(((fO es).drop i).take len).length=len:=by rw[jT,List.length_drop,yB];omega
   have hat:∀ i' j y,kA (((fO es).drop i).take len) i' j=some y->∃ c,kA es (i+i') j=some c/\y=c.val:=by
    intro i' j y hy
    obtain⟨e,h1,h2⟩:=lG hy
    have hlt:i'<len:=by have:=(mS.1 h1).1;rw[hlen]at this;exact this
    rw[aOS hlt,aYP]at h1
    have:kA (fO es) (i+i') j=some y:=by simp[kA,h1,h2]
    rw[vW]at this
    obtain⟨c,hc,rfl⟩:=u5.1 this
    exact⟨c,hc,rfl⟩
   have:=gC.sl (E:=E) (h:=aR h m .gone) (w:=w) oC (((fO es).drop i).take len) false b (o+i*oC) cap (λi' j=>cv (i+i') j) (himm b hbS) (by rw[hlen];exact hlc) hmax (λe=>by simp at e)
    (λe he=>aB8 hs e (bC7 (bAZ he)))
    (λi' j y hy=>by
     obtain⟨c,hc',rfl⟩:=hat i' j y hy
     have:=hc _ _ _ hc'
     simp only[World.cell?,hh]
     rw[←this]
     simp only[bRR,aU3,if_false]
     congr 1;rw[wH];omega)
    (λi' j y hy=>by obtain⟨c,hc',rfl⟩:=hat i' j y hy;exact(hrr _ _ _ hc').one)
    (λi' j y hy=>by
     obtain⟨c,hc',rfl⟩:=hat i' j y hy
     exact(hrr _ _ _ hc').vB hi λb hb=>himm b (hT _ _ b hb).1)
   rw[hlen]at this
   exact this
  ·exact .os m oC i len b o cap t mm hd hl hlc hmax hsh hm
theorem Shift.eM {x:aH} {h:aE} {n sz:Nat} {es:List (List Cell)} (hn:h n=some (.row sz es)) (hb:gA n sz es.length x=true):Shift x h (x.eM n (fO es)) (aR h n .gone):=λE w v R r =>
 ⟨E,Ev.gone n,R.gone hn,r.vB R hn hb⟩
theorem tH.vB {P:Program} {N:Nat} {c:Code} {Q:Exit->bJ->aE->Prop} {τ:bJ} {h:aE} (n:Nat) {sz:Nat} {es:List (List Cell)} (hn:h n=some (.row sz es)) (hb:τ.all (λp=>gA n sz es.length p.2)=true)
  (x:tH P N c Q (τ.map λp=>(p.1,p.2.eM n (fO es))) (aR h n .gone)):tH P N c Q τ h:=by
 intro ds E w a R r
 refine Code.wp_mono (λe a' w' y=>wL.trans (Ev.gone n) y) (x ds E w a (R.gone hn) ⟨r.size,r.defers,λk=>?_⟩)
 have key:∀ τ:bJ,τ.all (λp=>gA n sz es.length p.2)=true->gA n sz es.length (b7 τ k)=true/\b7 (τ.map λp=>(p.1,p.2.eM n (fO es))) k=(b7 τ k).eM n (fO es):=by
  intro τ
  induction τ with
  |nil=>intro _;exact⟨rfl,rfl⟩
  |cons p τ ih =>
   intro hp
   simp only[List.all_cons,oW]at hp
   simp only[nZ,b7]
   split
   ·exact⟨hp.1,rfl⟩
   ·exact ih hp.2
 rw[(key τ hb).2]
 exact(r.get k).vB R hn (key τ hb).1
theorem yH {P:Program} {f:FuncId} {fn:Func} {c:Code} {N:Nat} {args:List aH} {h:aE} {K K':aH->aE->Prop} (a:jC P f args h K') (hk:∀ r h',K' r h'->∃ r₁ h₁,Shift r h' r₁ h₁/\K r₁ h₁):jC P f args h K :=
 ⟨a.1,λE w vs R hL=>Calls.mono (a.2 E w vs R hL) λe w' he=>by
  cases e <;> try exact he
  obtain⟨r,h',E',k,ev,R',rx⟩:=he
  obtain⟨r₁,h₁,hs,k₁⟩:=hk r h' k
  obtain⟨E'',ev',R'',rx'⟩:=hs E' w' _ R' rx
  exact⟨r₁,h₁,E'',k₁,ev.trans ev',R'',rx'⟩⟩
theorem bEP {P:Program} {f:FuncId} {fn:Func} {c:Code} (N:Nat) (keep ib:List Nat) (mk:Marks) {args:List aH} {r:aH} (hmix:P.follows .mixedOrders=true) (hf:P.funcs[f]?=some fn) (hb:fn.body=some c)
  (hck:(kC P f && decide (fn.ntmps=N) && iV N mk c)=true) (hl:args.length<=N)
  (hw:∀ h,hwp P N keep ib mk c (aJO P fn.results (λr' h'=>Shift r' h' r h) .normal) (aJO P fn.results λr' h'=>Shift r' h' r h) (sC 0 args) h):fM P f args r:=λh =>
 yH (fn:=fn) (c:=c) (N:=N) (aPR N keep ib mk hmix hf hb hck hl (hw h) λr' h' hx=>⟨h',aE.le_refl _,hx⟩) λr' h' hx=>⟨r,h,hx,rfl,rfl⟩
theorem bG {r:aH} {h' h:aE} (hl:h.le h'):Shift r h' r h:=.of (.refl r) hl
theorem bQ (r:aH) (h:aE):Shift r h r h:=.of (.refl r) (aE.le_refl h)
abbrev Tag {α:Type} (_:α):Type:=Unit
def iJ {α:Type} (o:Option α) (K:α->Prop) (_:Tag K):Prop:=match o with|some x=>K x|none=>False
@[go_sem] theorem bWZ {α:Type} (x:α) (K:α->Prop) (t:Tag K):iJ (some x) K t=K x:=rfl
@[go_sem] theorem bW0 {α:Type} (K:α->Prop) (t:Tag K):iJ none K t=False:=rfl
def aER (v:aH) (A B:Prop) (_:Tag (A,B)):Prop:=match v with | .bool t=>(t=true->A)/\(t=false->B)|_=>False
@[go_sem] theorem bSB (c:Bool) (A B:Prop) (t:Tag (A,B)):aER (.bool c) A B t=((c=true->A)/\(c=false->B)):=rfl
@[go_sem high] theorem bSC (A B:Prop) (t:Tag (A,B)):aER (.bool true) A B t=A:=by simp[aER]
@[go_sem high] theorem bPS (A B:Prop) (t:Tag (A,B)):aER (.bool false) A B t=B:=by simp[aER]
def aZ2 (K:bJ->aE->Prop) (Q:Exit->bJ->aE->Prop) (_:Tag (K,Q)):Exit->bJ->aE->Prop:=aA7 K Q
@[go_sem] theorem bKQ (K:bJ->aE->Prop) (Q:Exit->bJ->aE->Prop) (t:Tag (K,Q)) (τ:bJ) (h:aE):aZ2 K Q t .normal τ h=K τ h:=rfl
@[go_sem] theorem bW1 (K:bJ->aE->Prop) (Q:Exit->bJ->aE->Prop) (t:Tag (K,Q)) (τ:bJ) (h:aE):aZ2 K Q t .ret τ h=Q .ret τ h:=rfl
@[go_sem] theorem bSD (K:bJ->aE->Prop) (Q:Exit->bJ->aE->Prop) (t:Tag (K,Q)) (i:Nat) (τ:bJ) (h:aE):aZ2 K Q t (.exit i) τ h=Q (.exit i) τ h:=rfl
def aL1 (id:Nat) (K:bJ->aE->Prop) (Q:Exit->bJ->aE->Prop) (_:Tag (K,Q)):Exit->bJ->aE->Prop:=aPQ id K Q
@[go_sem] theorem bSE (id:Nat) (K:bJ->aE->Prop) (Q:Exit->bJ->aE->Prop) (t:Tag (K,Q)) (τ:bJ) (h:aE):aL1 id K Q t .ret τ h=Q .ret τ h:=rfl
@[go_sem] theorem bPT (id:Nat) (K:bJ->aE->Prop) (Q:Exit->bJ->aE->Prop) (t:Tag (K,Q)) (τ:bJ) (h:aE):aL1 id K Q t (.exit id) τ h=K τ h:=by simp[aL1,aPQ]
@[go_sem] theorem bKR (id i:Nat) (K:bJ->aE->Prop) (Q:Exit->bJ->aE->Prop) (t:Tag (K,Q)) (τ:bJ) (h:aE) (hi:(i == id)=false):aL1 id K Q t (.exit i) τ h=Q (.exit i) τ h:=by
 have:i≠id:=by simpa using hi
 simp[aL1,aPQ,this]
def aJP (P:Program) (N:Nat) (c:Code) (Q:Exit->bJ->aE->Prop) (τ:bJ) (h:aE) (_:Tag (c,Q)):Prop:=tH P N c Q τ h
def lZ (P:Program) (ib:List Nat) (d:Option Tmp) (op:Op) (ρ:Operand->aH) (h:aE) (K:aH->aE->Prop) (_:Tag (op,K)):Prop :=
 yF P ib ⟨d,op,0,"",#[],none⟩ ρ h K
def stepG (P:Program) (ib:List Nat) (d:Option Tmp) (op:Op) (ρ:Operand->aH) (K:aH->Prop) (_:Tag (op,K)):Prop :=
 aLZ P ib ⟨d,op,0,"",#[],none⟩ ρ K
def aJQ (P:Program) (ib:List Nat) (os l:List Oper) (τ:bJ) (h:aE) (K:bJ->aE->Prop) (_:Tag (os,l,K)):Prop:=aJN P ib os.toArray l τ h K
def aES (os:List Oper) (g:Nat) (_:Tag os):Option Tmp:=(os.toArray[g]?).bind (·.dst)
@[go_sem] theorem bSF (o:Oper) (os:List Oper) (t:Tag (o::os)):aES (o::os) 0 t=o.dst:=by simp[aES]
@[go_sem] theorem bSG (o:Oper) (os:List Oper) (n:Nat) (t:Tag (o::os)):aES (o::os) (n+1) t=aES os n ():=by simp[aES]
def qL (v:aH) (b:Bool) (A B C:Prop) (_:Tag (A,B,C)):Prop:=match v with
 | .bool b'=>(b'=b->A)/\(b'=!b->B)
 | .jO []=>C
 | _=>False
@[go_sem] theorem bSH (b:Bool) (A B C:Prop) (t:Tag (A,B,C)):qL (.jO []) b A B C t=C:=rfl
@[go_sem] theorem bZD (c:Bool) (A B C:Prop) (t:Tag (A,B,C)):qL (.bool c) true A B C t=((c=true->A)/\(c=false->B)):=rfl
@[go_sem] theorem bZE (c:Bool) (A B C:Prop) (t:Tag (A,B,C)):qL (.bool c) false A B C t=((c=false->A)/\(c=true->B)):=rfl
@[go_sem high] theorem bW2 (A B C:Prop) (t:Tag (A,B,C)):qL (.bool true) true A B C t=A:=by simp[qL]
@[go_sem high] theorem bW3 (A B C:Prop) (t:Tag (A,B,C)):qL (.bool false) true A B C t=B:=by simp[qL]
@[go_sem high] theorem bW4 (A B C:Prop) (t:Tag (A,B,C)):qL (.bool true) false A B C t=B:=by simp[qL]
@[go_sem high] theorem bW5 (A B C:Prop) (t:Tag (A,B,C)):qL (.bool false) false A B C t=A:=by simp[qL]
section
variable (P:Program) (ib:List Nat) (os rest:List Oper) (τ:bJ) (h:aE) (K:bJ->aE->Prop) (d:Option Tmp) (op:Op) (ty:TypeId) (p:String) (af:Array Edge)
@[go_sem] theorem bW6 (t:Tag (os,[],K)):aJQ P ib os [] τ h K t=K τ h:=rfl
@[go_sem] theorem bSI (t:Tag (os,(⟨d,op,ty,p,af,none⟩::rest),K)):aJQ P ib os (⟨d,op,ty,p,af,none⟩::rest) τ h K t =
  lZ P ib d op (zE τ) h (λv h'=>aJQ P ib os rest (iT τ d v) h' K ()) ():=rfl
@[go_sem] theorem bSJ (g:Nat) (b:Bool) (t:Tag (os,(⟨d,op,ty,p,af,some (g,b)⟩::rest),K)):aJQ P ib os (⟨d,op,ty,p,af,some (g,b)⟩::rest) τ h K t =
  iJ (aES os g ()) (λs=>qL (b7 τ s) b (lZ P ib d op (zE ((s,.bool b)::τ)) h (λv h'=>aJQ P ib os rest (iT ((s,.bool b)::τ) d v) h' K ()) ())
   (aJQ P ib os rest (iT ((s,.bool !b)::τ) d (.jO [])) h K ()) (aJQ P ib os rest (iT τ d (.jO [])) h K ()) ()) ():=by
 unfold aJQ
 rw[aJN]
 simp only[iJ,aES]
 cases (os.toArray[g]?).bind (·.dst)with
 |none=>rfl
 |some s =>
  simp only[qL]
  cases b7 τ s <;> first|rfl|(rename_i cs;cases cs <;> rfl)
end
def aJR (P:Program) (ib:List Nat) (os:List Oper) (ms:List Nat) (cr:List (Nat×Nat)) (l:wN) (pr:List (Nat×Nat)) (τ:bJ) (h:aE) (K:bJ->aE->Prop) (_:Tag (os,K)):Prop:=aL0 P ib os.toArray ms cr l pr τ h K
def aPT (P:Program) (ib:List Nat) (os:List Oper) (cr:List (Nat×Nat)) (i:Nat) (m:Bool) (o:Oper) (pr:List (Nat×Nat)) (τ:bJ) (h:aE) (K:List (Nat×Nat)->bJ->aE->Prop) (_:Tag (os,o,K)):Prop :=
 match o.guard with
 |none=>aM1 P ib cr i m o (xG os.toArray o τ) pr h (λpr' v h'=>K pr' (iT τ o.dst v) h')
 |some (g,b)=>match (os.toArray[g]?).bind (·.dst)with
  |some d=>match b7 τ d with
   | .bool b'=>(b'=b->aM1 P ib cr i m o (xG os.toArray o ((d,.bool b)::τ)) pr h (λpr' v h'=>K pr' (iT ((d,.bool b)::τ) o.dst v) h')) /\
     (b'=!b->K pr (iT ((d,.bool !b)::τ) o.dst (.jO [])) h)
   | .jO []=>K pr (iT τ o.dst (.jO [])) h
   | _=>False
  |none=>False
def aZ3 (os:List Oper) (i:Nat) (K:Oper->Prop) (_:Tag (os,K)):Prop:=match os[i]? with|some o=>K o|none=>False
@[go_sem] theorem bW7 (o:Oper) (os:List Oper) (K:Oper->Prop) (t:Tag (o::os,K)):aZ3 (o::os) 0 K t=K o:=rfl
@[go_sem] theorem bW8 (o:Oper) (os:List Oper) (i:Nat) (K:Oper->Prop) (t:Tag (o::os,K)):aZ3 (o::os) (i+1) K t=aZ3 os i K ():=rfl
def a2Z (os:List Oper) (o:Oper) (τ:bJ) (_:Tag (os,o)):Operand->aH:=xG os.toArray o τ
section
variable (P:Program) (ib:List Nat) (os:List Oper) (τ:bJ) (h:aE) (K:bJ->aE->Prop) (d:Option Tmp) (op:Op) (ty:TypeId) (p:String) (af:Array Edge)
variable (cr:List (Nat×Nat)) (pr:List (Nat×Nat)) (i:Nat)
@[go_sem] theorem bW9 (ms:List Nat) (t:Tag (os,K)):aJR P ib os ms cr .nil pr τ h K t=K τ h:=rfl
theorem a22 (ms:List Nat) (i:Nat) (C:List (Nat×Nat)->bJ->aE->Prop):OpD P ib os.toArray ms cr i pr τ h C=aZ3 os i (λo=>aPT P ib os cr i (ms.contains i) o pr τ h C ()) ():=by
 simp only[OpD,aZ3,aPT,a2K]
 cases os[i]? <;> rfl
@[go_sem] theorem bZF (ms:List Nat) (l:wN) (i:Nat) (t:Tag (os,K)):aJR P ib os ms cr (.op i l) pr τ h K t=aZ3 os i (λo=>aPT P ib os cr i (ms.contains i) o pr τ h (λpr' τ' h'=>aJR P ib os ms cr l pr' τ' h' K ()) ()) ():=by
 simp only[aJR,aL0];exact a22 P ib os τ h cr pr ms i _
@[go_sem] theorem bXA (ms:List Nat) (l q:wN) (i j:Nat) (t:Tag (os,K)):aJR P ib os ms cr (.alt i l j q) pr τ h K t=((aZ3 os i (λo=>aPT P ib os cr i (ms.contains i) o pr τ h (λpr' τ' h'=>aJR P ib os ms cr l pr' τ' h' K ()) ()) ())/\aZ3 os j (λo=>aPT P ib os cr j (ms.contains j) o pr τ h (λpr' τ' h'=>aJR P ib os ms cr q pr' τ' h' K ()) ()) ()):=by
 simp only[aJR,aL0];rw[a22 P ib os τ h cr pr ms i _,a22 P ib os τ h cr pr ms j _]
@[go_sem] theorem bZG (o:Oper) (t:Tag (os,o)) (k:Nat):a2Z os o τ t (.tmp k)=if (wM os.toArray o).contains k then b7 τ k else .any:=rfl
@[go_sem] theorem bSK (o:Oper) (t:Tag (os,o)) (v:Value):a2Z os o τ t (.const v)=aH.ofValue v:=rfl
@[go_sem] theorem bXB (o:Oper) (t:Tag (os,o)) (f:FuncId):a2Z os o τ t (.func f)=zE τ (.func f):=rfl
def j7:Op->Bool
 | .load _ _=>true
 | _=>false
def aM2 (d:Option Tmp) (op:Op) (ρ:Operand->aH) (M:List (Nat×Nat)->aH->aE->Prop) (_:Tag (op,M)):Prop :=
 if j7 op then aZX P ⟨d,op,0,"",#[],none⟩ ρ h (λn v=>M (aZZ cr i n pr) v h)else yF P ib ⟨d,op,0,"",#[],none⟩ ρ h (λv h'=>aPP cr i pr h h'/\M pr v h')
theorem a7K (ρ:Operand->aH) (g:Option (Nat×Bool)) (M:List (Nat×Nat)->aH->aE->Prop):aM1 P ib cr i true ⟨d,op,ty,p,af,g⟩ ρ pr h M=aM2 P ib h cr pr i d op ρ M ():=by
 unfold aM1 aM2
 cases op <;> rfl
@[go_sem] theorem b7A (L:List (Nat×Nat)->bJ->aE->Prop) (t:Tag (os,(⟨d,op,ty,p,af,none⟩:Oper),L)):aPT P ib os cr i true ⟨d,op,ty,p,af,none⟩ pr τ h L t=aM2 P ib h cr pr i d op (a2Z os ⟨d,op,ty,p,af,none⟩ τ ()) (λpr' v h'=>L pr' (iT τ d v) h') ():=by
 rw[←a7K (ty:=ty) (p:=p) (af:=af) (g:=none)];rfl
@[go_sem] theorem b7B (L:List (Nat×Nat)->bJ->aE->Prop) (t:Tag (os,(⟨d,op,ty,p,af,none⟩:Oper),L)):aPT P ib os cr i false ⟨d,op,ty,p,af,none⟩ pr τ h L t=stepG P ib d op (a2Z os ⟨d,op,ty,p,af,none⟩ τ ()) (λv=>L pr (iT τ d v) h) ():=rfl
@[go_sem] theorem b3Z (L:List (Nat×Nat)->bJ->aE->Prop) (g:Nat) (b:Bool) (t:Tag (os,(⟨d,op,ty,p,af,some (g,b)⟩:Oper),L)):aPT P ib os cr i true ⟨d,op,ty,p,af,some (g,b)⟩ pr τ h L t =
  iJ (aES os g ()) (λs=>qL (b7 τ s) b (aM2 P ib h cr pr i d op (a2Z os ⟨d,op,ty,p,af,some (g,b)⟩ ((s,.bool b)::τ) ()) (λpr' v h'=>L pr' (iT ((s,.bool b)::τ) d v) h') ())
   (L pr (iT ((s,.bool !b)::τ) d (.jO [])) h) (L pr (iT τ d (.jO [])) h) ()) ():=by
 simp only[aPT,iJ,aES,←a7K (ty:=ty) (p:=p) (af:=af) (g:=some (g,b))]
 cases (os.toArray[g]?).bind (·.dst)with
 |none=>rfl
 |some s =>
  simp only[qL]
  cases b7 τ s <;> first|rfl|(rename_i cs;cases cs <;> rfl)
@[go_sem] theorem b30 (L:List (Nat×Nat)->bJ->aE->Prop) (g:Nat) (b:Bool) (t:Tag (os,(⟨d,op,ty,p,af,some (g,b)⟩:Oper),L)):aPT P ib os cr i false ⟨d,op,ty,p,af,some (g,b)⟩ pr τ h L t =
  iJ (aES os g ()) (λs=>qL (b7 τ s) b (stepG P ib d op (a2Z os ⟨d,op,ty,p,af,some (g,b)⟩ ((s,.bool b)::τ) ()) (λv=>L pr (iT ((s,.bool b)::τ) d v) h) ())
   (L pr (iT ((s,.bool !b)::τ) d (.jO [])) h) (L pr (iT τ d (.jO [])) h) ()) ():=by
 simp only[aPT,iJ,aES]
 cases (os.toArray[g]?).bind (·.dst)with
 |none=>rfl
 |some s =>
  simp only[qL]
  cases b7 τ s <;> first|rfl|(rename_i cs;cases cs <;> rfl)
end
def qH (P:Program) (N:Nat) (keep ib:List Nat) (mk:Marks) (c:Code) (K:bJ->aE->Prop) (Q:Exit->bJ->aE->Prop) (τ:bJ) (h:aE) (_:Tag (c,K,Q)):Prop:=hwp P N keep ib mk c K Q τ h
section
variable (P:Program) (N:Nat) (keep ib:List Nat) (mk:Marks) (K:bJ->aE->Prop) (Q:Exit->bJ->aE->Prop) (τ:bJ) (h:aE)
@[go_sem] theorem bXC (t:Tag (Code.skip,K,Q)):qH P N keep ib mk .skip K Q τ h t=K τ h:=rfl
@[go_sem] theorem bZH (t:Tag (Code.ret,K,Q)):qH P N keep ib mk .ret K Q τ h t=Q .ret τ h:=rfl
@[go_sem] theorem bXD (i:Nat) (t:Tag (Code.exit i,K,Q)):qH P N keep ib mk (.exit i) K Q τ h t=Q (.exit i) τ h:=rfl
@[go_sem] theorem bZI (a b:Code) (t:Tag (Code.seq a b,K,Q)):qH P N keep ib mk (.seq a b) K Q τ h t=qH P N keep ib mk a (λτ h=>qH P N keep ib mk b K Q τ h ()) Q τ h ():=rfl
@[go_sem] theorem bXE (x:Operand) (a b:Code) (t:Tag (Code.cond x a b,K,Q)):qH P N keep ib mk (.cond x a b) K Q τ h t=aER (zE τ x) (qH P N keep ib mk a K Q τ h ()) (qH P N keep ib mk b K Q τ h ()) ():=by
 simp only[qH,hwp,aER];cases zE τ x <;> rfl
@[go_sem] theorem bSL (i:Nat) (c:Code) (t:Tag (Code.block i c,K,Q)):qH P N keep ib mk (.block i c) K Q τ h t=qH P N keep ib mk c K (aL1 i K Q ()) τ h ():=rfl
@[go_sem] theorem bXF (c:Code) (t:Tag (Code.loop c,K,Q)):qH P N keep ib mk (.loop c) K Q τ h t=aJP P N (.loop c) (aZ2 K Q ()) τ h ():=rfl
@[go_sem] theorem bPU (i:Nat) (os:List Oper) (t:Tag (Code.region i ⟨os⟩ false,K,Q)):qH P N keep ib mk (.region i ⟨os⟩ false) K Q τ h t=aJQ P ib os os τ h (λτ' h'=>K (Hl.prune keep τ') h') ():=rfl
@[go_sem] theorem bXG (i:Nat) (os:List Oper) (t:Tag (Code.region i ⟨os⟩ true,K,Q)):qH P N keep ib mk (.region i ⟨os⟩ true) K Q τ h t=aJR P ib os (mk i).1 (mk i).2.2 (mk i).2.1 [] τ h (λτ' h'=>K (Hl.prune keep τ') h') ():=rfl
end
theorem aPU {P:Program} {N:Nat} {keep ib:List Nat} {mk:Marks} (hmix:P.follows .mixedOrders=true) (c:Code) (K:bJ->aE->Prop) (Q:Exit->bJ->aE->Prop) (τ:bJ) (h:aE) (hc:iV N mk c=true) (hw:qH P N keep ib mk c K Q τ h ()):tH P N c (aZ2 K Q ()) τ h :=
 vE hmix c K Q τ h hc hw
def aZ4:Op->Bool
 | .box ..=>false
 | .buildSlice ..=>false
 | .call ⟨.builtin .append,_,_⟩=>false
 | _=>true
theorem gR {P:Program} {ib:List Nat} {d:Option Tmp} {op:Op} {ρ:Operand->aH} {h:aE} {K:aH->aE->Prop} {t:Tag (op,K)} (hop:aZ4 op=true):lZ P ib d op ρ h K t=step P ⟨d,op,0,"",#[],none⟩ ρ h K:=by
 unfold lZ yF
 cases d with
 |none=>rfl
 |some d =>
  simp only
  split
  ·cases op <;> first|rfl|(simp[aZ4]at hop;done)|(rename_i c;rcases c with⟨f,as,ats⟩;cases f <;> first|rfl|(rename_i b;cases b <;> first|rfl|(simp[aZ4]at hop;done)))
  ·rfl
theorem iW {P:Program} {ib:List Nat} {d:Option Tmp} {op:Op} {ρ:Operand->aH} {K:aH->Prop} {t:Tag (op,K)} (hop:aZ4 op=true):stepG P ib d op ρ K t=aM0 P ⟨d,op,0,"",#[],none⟩ ρ K:=by
 unfold stepG aLZ
 cases d with
 |none=>rfl
 |some d =>
  simp only
  split
  ·cases op <;> first|rfl|(simp[aZ4]at hop)
  ·rfl
def aNL (P:Program) (op:BinOp) (ty:TypeId) (x y:aH) (K:aH->Prop) (_:Tag K):Prop:=aA8 P op ty x y K
def aPV (P:Program) (op:BinOp) (ty:TypeId) (c:Bool) (x y:aH) (K:aH->Prop) (_:Tag K):Prop:=aA9 P op ty c x y K
def nR (P:Program) (op:BinOp) (ty:TypeId) (x y:aH) (K:aH->Prop) (_:Tag K):Prop:=iU P op ty x y K
def unF (op:UnOp) (x:aH) (K:aH->Prop) (_:Tag K):Prop:=aLV op x K
def faF (d:Option TyD) (f:Nat) (x:aH) (K:aH->Prop) (_:Tag K):Prop:=aLW d f x K
def iaF (re:Option nP) (x i:aH) (K:aH->Prop) (_:Tag K):Prop:=aLX re x i K
def ixF (d:Option TyD) (x i:aH) (K:aH->Prop) (_:Tag K):Prop:=aHJ d x i K
def ldF (r:Option nP) (a:aH) (h:aE) (K:aH->Prop) (_:Tag K):Prop:=lS r a h K
def stF (r:Option nP) (a v:aH) (h:aE) (K:aE->Prop) (_:Tag K):Prop:=aVO r a v h K
def alF (r:Option nP) (h:aE) (K:aH->aE->Prop) (_:Tag K):Prop:=aLY r h K
def mkF (re:Option nP) (l c:aH) (h:aE) (K:aH->aE->Prop) (_:Tag K):Prop:=aPD re l c h K
def slD (P:Program) (t:TypeId) (x:aH) (lo hi:Option aH) (K:aH->Prop) (_:Tag K):Prop:=vD P t x lo hi K
def slF (P:Program) (t:TypeId) (x:aH) (lo hi:Option aH) (K:aH->Prop) (_:Tag K):Prop:=pT P t x lo hi K
def bBG (P:Program) (d:Option TyD) (x:aH) (K:aH->Prop) (_:Tag K):Prop:=match d,x with
  |some (.slice _),.sl _ es _=>es.length<=9223372036854775807->K (.int .i64 es.length)
  |some (.slice _),.os _ _ _ n=>n<=9223372036854775807->K (.int .i64 n)
  |some (.slice _),.bD=>K (.int .i64 0)
  |some .str,.str s=>s.length<=9223372036854775807->K (.int .i64 s.length)
  | _,_=>False
def bEQ (P:Program) (d:Option TyD) (x:aH) (K:aH->Prop) (_:Tag K):Prop:=match d,x with
  |some (.slice _),.sl _ es _=>K (.int .i64 es.length)
  |some (.slice _),.os _ _ _ n=>K (.int .i64 n)
  |some (.slice _),.bD=>K (.int .i64 0)
  |some .str,.str s=>K (.int .i64 s.length)
  | _,_=>False
def cvF (P:Program) (s:Option TyD) (d:Option TyD) (x:aH) (K:aH->Prop) (_:Tag K):Prop:=match d,x with
 |some (.int k'),.int k n=>s.isSome=true/\K (.int k' (k'.wrap n))
 |some .str,.sl 1 es _=>(match s with
  |some (.slice et)=>dOf P et=some (.int .u8)/\(match bytesOf es with|some bs=>K (.str bs)|none=>False)
  | _=>False)
 | _,_=>False
def bKS (P:Program) (t:TypeId) (x:aH) (lo:Option aH) (hi mx:aH) (K:aH->Prop) (_:Tag K):Prop:=s5 P t x lo hi mx K
def rdF (cr:List (Nat×Nat)) (i:Nat) (pr:List (Nat×Nat)) (r:Option nP) (x:aH) (h:aE) (M:List (Nat×Nat)->aH->aE->Prop) (_:Tag M):Prop:=match x with
 | .op n sz j off=>lS r (.op n sz j off) h λv=>M (aZZ cr i (some n) pr) v h
 | .ip sz es j off=>lS r (.ip sz es j off) h λv=>M (aZZ cr i none pr) v h
 | _=>False
def bKT (c A:Prop) (_:Tag A):Prop:=c/\A
@[go_sem] theorem b36 (c A:Prop) (t:Tag A):bKT c A t=(c/\A):=rfl
@[go_sem high] theorem bXJ (A:Prop) (t:Tag A):bKT True A t=A:=by simp[bKT]
def buF (P:Program) (r:Option nP) (ps:List (Nat×aH)) (K:aH->Prop) (_:Tag K):Prop:=xV P r ps K
def exF (x:aH) (i:Nat) (K:aH->Prop) (_:Tag K):Prop:=match x with
  | .jO cs=>match cs[i]? with|some x=>K x|none=>False
  | _=>False
def ncF (x:aH) (K:aH->Prop) (_:Tag K):Prop:=match x with
  | .op n sz i k=>K (.op n sz i k)
  | .ip sz es i k=>K (.ip sz es i k)
  | _=>False
def bPX (P:Program) (f:aH) (args:List aH) (h:aE) (K:aH->aE->Prop) (_:Tag K):Prop:=match f with
  | .fn (.func g) first cap=>jC P g (first++args++cap) h K
  | _=>False
def bPY (P:Program) (f:aH) (args:List aH) (K:aH->Prop) (_:Tag K):Prop:=match f with
  | .fn (.func g) first cap=>bEM P g (first++args++cap) K
  | _=>False
def aJ (P:Program) (g:FuncId) (args:List aH) (h:aE) (K:aH->aE->Prop) (_:Tag K):Prop:=jC P g args h K
def aF (P:Program) (g:FuncId) (args:List aH) (K:aH->Prop) (_:Tag K):Prop:=bEM P g args K
theorem aJ.mk {P:Program} {g:FuncId} {args:List aH} {h:aE} {K:aH->aE->Prop} {t:Tag K} {r:aH} (a:fM P g args r) (k:K r h):aJ P g args h K t:=fM.call a k
theorem aF.mk {P:Program} {g:FuncId} {args:List aH} {K:aH->Prop} {t:Tag K} {r:aH} (a:fM P g args r) (k:K r):aF P g args K t:=⟨r,a,k⟩
section
variable (P:Program) (ib:List Nat) (d:Option Tmp) (ρ:Operand->aH) (h:aE) (K:aH->aE->Prop) (L:aH->Prop)
@[go_sem] theorem b39 (x:Operand) (t:Tag (Op.move x,K)):lZ P ib d (.move x) ρ h K t=K (ρ x) h:=by rw[gR rfl];rfl
@[go_sem] theorem b4A (x:Operand) (t:Tag (Op.move x,L)):stepG P ib d (.move x) ρ L t=L (ρ x):=by rw[iW rfl];rfl
@[go_sem] theorem bXK (x:Operand) (t:Tag (Op.assign x,K)):lZ P ib d (.assign x) ρ h K t=K (ρ x) h:=by rw[gR rfl];rfl
@[go_sem] theorem bXL (x:Operand) (t:Tag (Op.assign x,L)):stepG P ib d (.assign x) ρ L t=L (ρ x):=by rw[iW rfl];rfl
@[go_sem] theorem b4B (c a b:Operand) (t:Tag (Op.pick c a b,K)):lZ P ib d (.pick c a b) ρ h K t=aER (ρ c) (K (ρ a) h) (K (ρ b) h) ():=by
 rw[gR rfl];simp only[step,aER];cases ρ c <;> rfl
@[go_sem] theorem b4C (c a b:Operand) (t:Tag (Op.pick c a b,L)):stepG P ib d (.pick c a b) ρ L t=aER (ρ c) (L (ρ a)) (L (ρ b)) ():=by
 rw[iW rfl];simp only[aM0,aER];cases ρ c <;> rfl
@[go_sem] theorem b7E (op:BinOp) (ty ty':TypeId) (x y:Operand) (t:Tag (Op.binOp op ty x y ty',K)):lZ P ib d (.binOp op ty x y ty') ρ h K t=aPV P op ty (xF y) (ρ x) (ρ y) (λv=>K v h) ():=by rw[gR rfl];rfl
@[go_sem] theorem b7F (op:BinOp) (ty ty':TypeId) (x y:Operand) (t:Tag (Op.binOp op ty x y ty',L)):stepG P ib d (.binOp op ty x y ty') ρ L t=nR P op ty (ρ x) (ρ y) L ():=by rw[iW rfl];rfl
@[go_sem] theorem cAU (op:UnOp) (ty:TypeId) (x:Operand) (t:Tag (Op.unOp op ty x,K)):lZ P ib d (.unOp op ty x) ρ h K t=unF op (ρ x) (λv=>K v h) ():=by rw[gR rfl];rfl
@[go_sem] theorem cAV (op:UnOp) (ty:TypeId) (x:Operand) (t:Tag (Op.unOp op ty x,L)):stepG P ib d (.unOp op ty x) ρ L t=unF op (ρ x) L ():=by rw[iW rfl];rfl
@[go_sem] theorem b4D (s e:TypeId) (x:Operand) (t:Tag (Op.convert s e x,K)):lZ P ib d (.convert s e x) ρ h K t=cvF P (dOf P s) (dOf P e) (ρ x) (λv=>K v h) ():=by rw[gR rfl];rfl
@[go_sem] theorem b4E (s e:TypeId) (x:Operand) (t:Tag (Op.convert s e x,L)):stepG P ib d (.convert s e x) ρ L t=cvF P (dOf P s) (dOf P e) (ρ x) L ():=by rw[iW rfl];rfl
@[go_sem] theorem cAW (ty:TypeId) (x:Operand) (f:Nat) (t:Tag (Op.fieldAddr ty x f,K)):lZ P ib d (.fieldAddr ty x f) ρ h K t=faF (dOf P ty) f (ρ x) (λv=>K v h) ():=by rw[gR rfl];rfl
@[go_sem] theorem cAX (ty:TypeId) (x:Operand) (f:Nat) (t:Tag (Op.fieldAddr ty x f,L)):stepG P ib d (.fieldAddr ty x f) ρ L t=faF (dOf P ty) f (ρ x) L ():=by rw[iW rfl];rfl
@[go_sem] theorem cAY (ty:TypeId) (x i:Operand) (t:Tag (Op.indexAddr ty x i,K)):lZ P ib d (.indexAddr ty x i) ρ h K t=iaF (nT P ty) (ρ x) (ρ i) (λv=>K v h) ():=by rw[gR rfl];rfl
@[go_sem] theorem cAZ (ty:TypeId) (x i:Operand) (t:Tag (Op.indexAddr ty x i,L)):stepG P ib d (.indexAddr ty x i) ρ L t=iaF (nT P ty) (ρ x) (ρ i) L ():=by rw[iW rfl];rfl
@[go_sem] theorem cA0 (ty:TypeId) (x i:Operand) (t:Tag (Op.index ty x i,K)):lZ P ib d (.index ty x i) ρ h K t=ixF (dOf P ty) (ρ x) (ρ i) (λv=>K v h) ():=by rw[gR rfl];rfl
@[go_sem] theorem cA1 (ty:TypeId) (x i:Operand) (t:Tag (Op.index ty x i,L)):stepG P ib d (.index ty x i) ρ L t=ixF (dOf P ty) (ρ x) (ρ i) L ():=by rw[iW rfl];rfl
@[go_sem] theorem cA2 (ty:TypeId) (a:Operand) (t:Tag (Op.load ty a,K)):lZ P ib d (.load ty a) ρ h K t=ldF (jH P ty) (ρ a) h (λv=>K v h) ():=by rw[gR rfl];rfl
@[go_sem] theorem cA3 (ty:TypeId) (a v:Operand) (t:Tag (Op.store ty a v,K)):lZ P ib d (.store ty a v) ρ h K t=stF (jH P ty) (ρ a) (ρ v) h (λh'=>K .any h') ():=by rw[gR rfl];rfl
@[go_sem] theorem cA4 (ty:TypeId) (t:Tag (Op.alloc ty,K)):lZ P ib d (.alloc ty) ρ h K t=alF (jH P ty) h K ():=by rw[gR rfl];rfl
@[go_sem] theorem cA5 (ty:TypeId) (l c:Operand) (t:Tag (Op.makeSlice ty l c,K)):lZ P ib d (.makeSlice ty l c) ρ h K t=mkF (nT P ty) (ρ l) (ρ c) h K ():=by rw[gR rfl];rfl
@[go_sem] theorem cA6 (ty:TypeId) (x:Operand) (lo hi:Option Operand) (t:Tag (Op.slice ty x lo hi none,K)):lZ P ib d (.slice ty x lo hi none) ρ h K t=slD P ty (ρ x) (lo.map ρ) (hi.map ρ) (λv=>K v h) ():=by rw[gR rfl];rfl
@[go_sem] theorem cA7 (ty:TypeId) (x:Operand) (lo hi:Option Operand) (t:Tag (Op.slice ty x lo hi none,L)):stepG P ib d (.slice ty x lo hi none) ρ L t=slF P ty (ρ x) (lo.map ρ) (hi.map ρ) L ():=by rw[iW rfl];rfl
@[go_sem] theorem b7G (ty:TypeId) (x:Operand) (lo:Option Operand) (hi mx:Operand) (t:Tag (Op.slice ty x lo (some hi) (some mx),K)):lZ P ib d (.slice ty x lo (some hi) (some mx)) ρ h K t=bKS P ty (ρ x) (lo.map ρ) (ρ hi) (ρ mx) (λv=>K v h) ():=by rw[gR rfl];rfl
@[go_sem] theorem b7H (ty:TypeId) (x:Operand) (lo:Option Operand) (hi mx:Operand) (t:Tag (Op.slice ty x lo (some hi) (some mx),L)):stepG P ib d (.slice ty x lo (some hi) (some mx)) ρ L t=bKS P ty (ρ x) (lo.map ρ) (ρ hi) (ρ mx) L ():=by rw[iW rfl];rfl
@[go_sem] theorem cA8 (cr pr:List (Nat×Nat)) (i:Nat) (ty:TypeId) (a:Operand) (M:List (Nat×Nat)->aH->aE->Prop) (t:Tag (Op.load ty a,M)):aM2 P ib h cr pr i d (.load ty a) ρ M t=rdF cr i pr (jH P ty) (ρ a) h M ():=by
 unfold aM2 aZX rdF;simp only[j7,if_true]
 cases ρ a <;> rfl
@[go_sem] theorem b7I (cr pr:List (Nat×Nat)) (i:Nat) (op:Op) (M:List (Nat×Nat)->aH->aE->Prop) (t:Tag (op,M)) (hop:j7 op=false):aM2 P ib h cr pr i d op ρ M t=lZ P ib d op ρ h (λv h'=>bKT (aPP cr i pr h h') (M pr v h') ()) ():=by
 unfold aM2;rw[hop];rfl
@[go_sem] theorem cA9 (x:Operand) (i:Nat) (t:Tag (Op.extract x i,K)):lZ P ib d (.extract x i) ρ h K t=exF (ρ x) i (λv=>K v h) ():=by rw[gR rfl];rfl
@[go_sem] theorem cBA (x:Operand) (i:Nat) (t:Tag (Op.extract x i,L)):stepG P ib d (.extract x i) ρ L t=exF (ρ x) i L ():=by rw[iW rfl];rfl
@[go_sem] theorem cBB (x:Operand) (t:Tag (Op.nilCheck x,K)):lZ P ib d (.nilCheck x) ρ h K t=ncF (ρ x) (λv=>K v h) ():=by rw[gR rfl];rfl
@[go_sem] theorem cBC (x:Operand) (t:Tag (Op.nilCheck x,L)):stepG P ib d (.nilCheck x) ρ L t=ncF (ρ x) L ():=by rw[iW rfl];rfl
@[go_sem] theorem cBD (f:Fn) (fs cs:Array Operand) (t:Tag (Op.makeFunc f fs cs,K)):lZ P ib d (.makeFunc f fs cs) ρ h K t=K (.fn f (fs.toList.map ρ) (cs.toList.map ρ)) h:=by rw[gR rfl];rfl
@[go_sem] theorem cBE (f:Fn) (fs cs:Array Operand) (t:Tag (Op.makeFunc f fs cs,L)):stepG P ib d (.makeFunc f fs cs) ρ L t=L (.fn f (fs.toList.map ρ) (cs.toList.map ρ)):=by rw[iW rfl];rfl
@[go_sem] theorem cBF (ty:TypeId) (ps:Array (Nat×Operand)) (t:Tag (Op.build ty ps,K)):lZ P ib d (.build ty ps) ρ h K t=buF P (jH P ty) (ps.toList.map λp=>(p.1,ρ p.2)) (λv=>K v h) ():=by rw[gR rfl];rfl
@[go_sem] theorem cBG (ty:TypeId) (ps:Array (Nat×Operand)) (t:Tag (Op.build ty ps,L)):stepG P ib d (.build ty ps) ρ L t=buF P (jH P ty) (ps.toList.map λp=>(p.1,ρ p.2)) L ():=by rw[iW rfl];rfl
@[go_sem] theorem b4F (f:Operand) (as:Array Operand) (ats:Array TypeId) (t:Tag (Op.call ⟨.value f,as,ats⟩,K)):lZ P ib d (.call ⟨.value f,as,ats⟩) ρ h K t=bPX P (ρ f) (as.toList.map ρ) h K ():=by rw[gR rfl];rfl
@[go_sem] theorem b4G (f:Operand) (as:Array Operand) (ats:Array TypeId) (t:Tag (Op.call ⟨.value f,as,ats⟩,L)):stepG P ib d (.call ⟨.value f,as,ats⟩) ρ L t=bPY P (ρ f) (as.toList.map ρ) L ():=by rw[iW rfl];rfl
end
section
variable (P:Program) (ib:List Nat) (d:Option Tmp) (ρ:Operand->aH) (h:aE) (K:aH->aE->Prop) (L:aH->Prop)
def ldG (r:Option nP) (a:aH) (K:aH->Prop) (_:Tag K):Prop:=match a with
  | .ip sz es i off=>lS r (.ip sz es i off) (λ_=>none) K
  | _=>False
@[go_sem] theorem cBH (ty:TypeId) (a:Operand) (t:Tag (Op.load ty a,L)):stepG P ib d (.load ty a) ρ L t=ldG (jH P ty) (ρ a) L ():=by
 rw[iW rfl];simp only[aM0,ldG];cases ρ a <;> rfl
@[go_sem] theorem b7J (x:Operand) (ty:TypeId) (t:Tag (Op.call ⟨.builtin .len,#[x],#[ty]⟩,K)):lZ P ib d (.call ⟨.builtin .len,#[x],#[ty]⟩) ρ h K t=bBG P (dOf P ty) (ρ x) (λv=>K v h) ():=by rw[gR rfl];rfl
@[go_sem] theorem b7K (x:Operand) (ty:TypeId) (t:Tag (Op.call ⟨.builtin .len,#[x],#[ty]⟩,L)):stepG P ib d (.call ⟨.builtin .len,#[x],#[ty]⟩) ρ L t=bEQ P (dOf P ty) (ρ x) L ():=by rw[iW rfl];rfl
def bKU (x y:aH) (K:aH->Prop) (_:Tag K):Prop:=match x,y with
   | .int k a,.int k' b=>k'=k/\K (.int k (max a b))
   | _,_=>False
@[go_sem] theorem bZJ (k k':IntKind) (a b:Int) (t:Tag L):bKU (.int k a) (.int k' b) L t=(k'=k/\L (.int k (max a b))):=rfl
theorem a7L (x y:aH) (K:aH->Prop):(match x,y with
   | .int k a,.int _ b=>(match y with | .int k' _=>k'=k|_=>False)/\K (.int k (max a b))
   | _,_=>False)=bKU x y K ():=by cases x <;> cases y <;> rfl
@[go_sem] theorem b7L (x y:Operand) (ats:Array TypeId) (t:Tag (Op.call ⟨.builtin .max,#[x,y],ats⟩,K)):lZ P ib d (.call ⟨.builtin .max,#[x,y],ats⟩) ρ h K t=bKU (ρ x) (ρ y) (λv=>K v h) ():=by
 rw[gR rfl,←a7L];rfl
@[go_sem] theorem b7M (x y:Operand) (ats:Array TypeId) (t:Tag (Op.call ⟨.builtin .max,#[x,y],ats⟩,L)):stepG P ib d (.call ⟨.builtin .max,#[x,y],ats⟩) ρ L t=bKU (ρ x) (ρ y) L ():=by
 rw[iW rfl,←a7L];rfl
def apF (P:Program) (re:Option nP) (t1:Option TypeId) (x y:aH) (h:aE) (K:aH->aE->Prop) (_:Tag K):Prop:=aCE P re t1 x y h K
def aJS (ib:List Nat) (d:Option Tmp):Bool:=match d with|some d=>ib.contains d|none=>false
@[go_sem] theorem bSM (k:Nat):aJS ib (some k)=ib.contains k:=rfl
def apI (i:Bool) (P:Program) (re:Option nP) (t1:Option TypeId) (x y:aH) (h:aE) (K:aH->aE->Prop) (_:Tag K):Prop:=if i then apF P re t1 x y h (a7F K) ()else apF P re t1 x y h K ()
@[go_sem] theorem b7N (x y:Operand) (a b:TypeId) (t:Tag (Op.call ⟨.builtin .append,#[x,y],#[a,b]⟩,K)):lZ P ib d (.call ⟨.builtin .append,#[x,y],#[a,b]⟩) ρ h K t=apI (aJS ib d) P (nT P a) (some b) (ρ x) (ρ y) h K ():=by
 unfold lZ yF apI aJS
 cases d with
 |none=>rfl
 |some d=>simp only;split <;> rfl
@[go_sem] theorem cBI (re:Option nP) (t1:Option TypeId) (x y:aH) (t:Tag K):apI true P re t1 x y h K t=apF P re t1 x y h (a7F K) ():=rfl
@[go_sem] theorem cBJ (re:Option nP) (t1:Option TypeId) (x y:aH) (t:Tag K):apI false P re t1 x y h K t=apF P re t1 x y h K ():=rfl
def bER (i r:Bool) (ty:TypeId) (x:aH) (h:aE) (K:aH->aE->Prop) (_:Tag K):Prop:=if i then aPG x (λv=>K v h)else if r then a7E ty x h K else a7D x h K
@[go_sem] theorem b7O (ty:TypeId) (x:Operand) (t:Tag (Op.box ty x,K)):lZ P ib d (.box ty x) ρ h K t=bER (aJS ib d) (bRX ty) ty (ρ x) h K ():=by
 unfold lZ yF bER aJS
 cases d with
 |none=>rfl
 |some d=>simp only;split <;> rfl
@[go_sem] theorem b4J (ty:TypeId):bRX ty=(match bD5 with|none=>false|some r=>decide (ty=r)):=rfl
attribute [go_sem] bD5
@[go_sem] theorem b7P (r:Bool) (ty:TypeId) (x:aH) (t:Tag K):bER true r ty x h K t=(x.cells.all aH.flat=true/\K (.ip x.cells.length [x.cells] 0 0) h):=rfl
@[go_sem] theorem b7Q (ty:TypeId) (x:aH) (t:Tag K):bER false true ty x h K t=(x.cells=[.kT,.bD]/\∀ n,h n=none->K (.op n 2 0 0) (aR h n (.raw ty #[.pointer none,.slice none 0 0]))):=rfl
@[go_sem] theorem b7R (ty:TypeId) (x:aH) (t:Tag K):bER false false ty x h K t=(x.cells.all aH.flat=true/\∀ n,h n=none->K (.op n x.cells.length 0 0) (aR h n (.row x.cells.length [x.cells.map .v]))):=rfl
def bsF (i:Bool) (re:Option nP) (len:Nat) (ps:List (Nat×aH)) (h:aE) (K:aH->aE->Prop) (_:Tag K):Prop :=
 if i then yE re len ps (λsz es=>K (.sl sz es true) h)else yE re len ps λsz es=>∀ n,h n=none->K (.os n sz 0 len) (aR h n (.row sz (es.map (List.map .v))))
def bsG (i:Bool) (re:Option nP) (len:Nat) (ps:List (Nat×aH)) (K:aH->Prop) (_:Tag K):Prop :=
 if i then yE re len ps (λsz es=>K (.sl sz es true))else False
@[go_sem] theorem cBK (ty:TypeId) (len:Nat) (ps:Array (Nat×Operand)) (t:Tag (Op.buildSlice ty len ps,K)):lZ P ib d (.buildSlice ty len ps) ρ h K t=bsF (aJS ib d) (nT P ty) len (ps.toList.map λp=>(p.1,ρ p.2)) h K ():=by
 unfold lZ yF bsF aJS
 cases d with
 |none=>rfl
 |some d=>simp only;split <;> rfl
@[go_sem] theorem cBL (ty:TypeId) (len:Nat) (ps:Array (Nat×Operand)) (t:Tag (Op.buildSlice ty len ps,L)):stepG P ib d (.buildSlice ty len ps) ρ L t=bsG (aJS ib d) (nT P ty) len (ps.toList.map λp=>(p.1,ρ p.2)) L ():=by
 unfold stepG aLZ bsG aJS
 cases d with
 |none=>rfl
 |some d=>simp only;split <;> rfl
@[go_sem] theorem cBM (re:nP) (len:Nat) (ps:List (Nat×aH)) (t:Tag K):bsF true (some re) len ps h K t=(re.zero.length=re.sz/\0<re.sz/\re.zero.all aH.flat=true/\len*re.sz<=16777216/\vC len re.sz ps=true/\K (.sl re.sz (yD (List.replicate len re.zero) ps) true) h):=rfl
@[go_sem] theorem cBN (re:nP) (len:Nat) (ps:List (Nat×aH)) (t:Tag L):bsG true (some re) len ps L t=(re.zero.length=re.sz/\0<re.sz/\re.zero.all aH.flat=true/\len*re.sz<=16777216/\vC len re.sz ps=true/\L (.sl re.sz (yD (List.replicate len re.zero) ps) true)):=rfl
@[go_sem] theorem cBO (re:nP) (len:Nat) (ps:List (Nat×aH)) (t:Tag K):bsF false (some re) len ps h K t=(re.zero.length=re.sz/\0<re.sz/\re.zero.all aH.flat=true/\len*re.sz<=16777216/\vC len re.sz ps=true/\∀ n,h n=none->K (.os n re.sz 0 len) (aR h n (.row re.sz ((yD (List.replicate len re.zero) ps).map (List.map .v))))):=rfl
@[go_sem] theorem bZK (g:FuncId) (first cap args:List aH) (t:Tag K):bPX P (.fn (.func g) first cap) args h K t=aJ P g (first++args++cap) h K ():=rfl
@[go_sem] theorem bZL (g:FuncId) (first cap args:List aH) (t:Tag L):bPY P (.fn (.func g) first cap) args L t=aF P g (first++args++cap) L ():=rfl
@[go_sem] theorem bZM (ty:TypeId) (k k':IntKind) (a b:Int) (t:Tag L):nR P .add ty (.int k a) (.int k' b) L t=iJ (p5 .add (.int k a) (.int k' b)) L ():=by simp only[nR,iU,iJ];cases p5 _ _ _ <;> rfl
@[go_sem] theorem bZN (ty:TypeId) (k k':IntKind) (a b:Int) (t:Tag L):nR P .sub ty (.int k a) (.int k' b) L t=iJ (p5 .sub (.int k a) (.int k' b)) L ():=by simp only[nR,iU,iJ];cases p5 _ _ _ <;> rfl
@[go_sem] theorem bZO (ty:TypeId) (k k':IntKind) (a b:Int) (t:Tag L):nR P .mul ty (.int k a) (.int k' b) L t=iJ (p5 .mul (.int k a) (.int k' b)) L ():=by simp only[nR,iU,iJ];cases p5 _ _ _ <;> rfl
@[go_sem] theorem bZP (ty:TypeId) (k k':IntKind) (a b:Int) (t:Tag L):nR P .and ty (.int k a) (.int k' b) L t=iJ (p5 .and (.int k a) (.int k' b)) L ():=by simp only[nR,iU,iJ];cases p5 _ _ _ <;> rfl
@[go_sem] theorem b4L (ty:TypeId) (k k':IntKind) (a b:Int) (t:Tag L):nR P .or ty (.int k a) (.int k' b) L t=iJ (p5 .or (.int k a) (.int k' b)) L ():=by simp only[nR,iU,iJ];cases p5 _ _ _ <;> rfl
@[go_sem] theorem bZQ (ty:TypeId) (k k':IntKind) (a b:Int) (t:Tag L):nR P .xor ty (.int k a) (.int k' b) L t=iJ (p5 .xor (.int k a) (.int k' b)) L ():=by simp only[nR,iU,iJ];cases p5 _ _ _ <;> rfl
@[go_sem] theorem bPZ (ty:TypeId) (k k':IntKind) (a b:Int) (t:Tag L):nR P .andNot ty (.int k a) (.int k' b) L t=iJ (p5 .andNot (.int k a) (.int k' b)) L ():=by simp only[nR,iU,iJ];cases p5 _ _ _ <;> rfl
@[go_sem] theorem bZR (ty:TypeId) (k k':IntKind) (a b:Int) (t:Tag L):nR P .eql ty (.int k a) (.int k' b) L t=iJ (p5 .eql (.int k a) (.int k' b)) L ():=by simp only[nR,iU,iJ];cases p5 _ _ _ <;> rfl
@[go_sem] theorem bZS (ty:TypeId) (k k':IntKind) (a b:Int) (t:Tag L):nR P .neq ty (.int k a) (.int k' b) L t=iJ (p5 .neq (.int k a) (.int k' b)) L ():=by simp only[nR,iU,iJ];cases p5 _ _ _ <;> rfl
@[go_sem] theorem bZT (ty:TypeId) (k k':IntKind) (a b:Int) (t:Tag L):nR P .lss ty (.int k a) (.int k' b) L t=iJ (p5 .lss (.int k a) (.int k' b)) L ():=by simp only[nR,iU,iJ];cases p5 _ _ _ <;> rfl
@[go_sem] theorem bZU (ty:TypeId) (k k':IntKind) (a b:Int) (t:Tag L):nR P .leq ty (.int k a) (.int k' b) L t=iJ (p5 .leq (.int k a) (.int k' b)) L ():=by simp only[nR,iU,iJ];cases p5 _ _ _ <;> rfl
@[go_sem] theorem bZV (ty:TypeId) (k k':IntKind) (a b:Int) (t:Tag L):nR P .gtr ty (.int k a) (.int k' b) L t=iJ (p5 .gtr (.int k a) (.int k' b)) L ():=by simp only[nR,iU,iJ];cases p5 _ _ _ <;> rfl
@[go_sem] theorem bZW (ty:TypeId) (k k':IntKind) (a b:Int) (t:Tag L):nR P .geq ty (.int k a) (.int k' b) L t=iJ (p5 .geq (.int k a) (.int k' b)) L ():=by simp only[nR,iU,iJ];cases p5 _ _ _ <;> rfl
@[go_sem] theorem bZX (ty:TypeId) (k k':IntKind) (a b:Int) (t:Tag L):nR P .quo ty (.int k a) (.int k' b) L t=(k=k'/\b≠0/\L (.int k (k.wrap (a.tdiv b)))):=rfl
@[go_sem] theorem bZY (ty:TypeId) (k k':IntKind) (a b:Int) (t:Tag L):nR P .rem ty (.int k a) (.int k' b) L t=(k=k'/\b≠0/\L (.int k (a.tmod b))):=rfl
@[go_sem] theorem bZZ (ty:TypeId) (k k':IntKind) (a b:Int) (t:Tag L):nR P .shl ty (.int k a) (.int k' b) L t=(0<=b/\L (.int k (k.wrap (a*2 ^ (min b.toNat k.bits))))):=rfl
@[go_sem] theorem bZ0 (ty:TypeId) (k k':IntKind) (a b:Int) (t:Tag L):nR P .shr ty (.int k a) (.int k' b) L t=(0<=b/\L (.int k (a.fdiv (2 ^ (min b.toNat k.bits))))):=rfl
@[go_sem] theorem bXM (ty:TypeId) (a b:List UInt8) (t:Tag L):nR P .add ty (.str a) (.str b) L t=(a.length+b.length<=9223372036854775807/\L (.str (a++b))):=rfl
@[go_sem] theorem bXN (ty:TypeId) (a b:List UInt8) (t:Tag L):nR P .eql ty (.str a) (.str b) L t=L (.bool (decide (a=b))):=rfl
@[go_sem] theorem bXO (ty:TypeId) (a b:List UInt8) (t:Tag L):nR P .neq ty (.str a) (.str b) L t=L (.bool (!decide (a=b))):=rfl
@[go_sem] theorem bXP (ty:TypeId) (a b:List UInt8) (t:Tag L):nR P .lss ty (.str a) (.str b) L t=L (.bool (Op.bytesLess a b)):=rfl
@[go_sem] theorem bXQ (ty:TypeId) (a b:Bool) (t:Tag L):nR P .eql ty (.bool a) (.bool b) L t=(dOf P ty=some .bool/\L (.bool (a == b))):=rfl
@[go_sem] theorem bXR (ty:TypeId) (a b:Bool) (t:Tag L):nR P .neq ty (.bool a) (.bool b) L t=(dOf P ty=some .bool/\L (.bool (a != b))):=rfl
@[go_sem] theorem bJU (v:Value):xF (.const v)=true:=rfl
@[go_sem] theorem bP0 (v:Tmp):xF (.tmp v)=false:=rfl
@[go_sem] theorem bES (v:Nat):xF (.global v)=false:=rfl
@[go_sem] theorem bKV (v:FuncId):xF (.func v)=false:=rfl
@[go_sem] theorem bZ1 (op:BinOp) (ty:TypeId) (c:Bool) (k:IntKind) (a:Int) (y:aH) (t:Tag L):aPV P op ty c (.int k a) y L t=nR P op ty (.int k a) y L ():=by cases c <;> rfl
@[go_sem] theorem bXS (op:BinOp) (ty:TypeId) (c:Bool) (a:Bool) (y:aH) (t:Tag L):aPV P op ty c (.bool a) y L t=nR P op ty (.bool a) y L ():=by cases c <;> rfl
@[go_sem] theorem bZ2 (op:BinOp) (ty:TypeId) (c:Bool) (a:List UInt8) (y:aH) (t:Tag L):aPV P op ty c (.str a) y L t=nR P op ty (.str a) y L ():=by cases c <;> rfl
@[go_sem] theorem b4M (op:BinOp) (ty:TypeId) (c:Bool) (sz:Nat) (es:List (List aH)) (b:Bool) (y:aH) (t:Tag L):aPV P op ty c (.sl sz es b) y L t=aNL P op ty (.sl sz es b) y L ():=by cases c <;> rfl
@[go_sem] theorem bZ3 (ty ti:TypeId) (v:aH) (t:Tag L):aPV P .eql ty true (.iface ti v) .nK L t=(aMZ P ty=true/\L (.bool false)):=rfl
@[go_sem] theorem bZ4 (ty:TypeId) (t:Tag L):aPV P .eql ty true .nK .nK L t=(aMZ P ty=true/\L (.bool true)):=rfl
@[go_sem] theorem bXT (ty ti:TypeId) (v:aH) (t:Tag L):aPV P .neq ty true (.iface ti v) .nK L t=(aMZ P ty=true/\L (.bool true)):=rfl
@[go_sem] theorem bXU (ty:TypeId) (t:Tag L):aPV P .neq ty true .nK .nK L t=(aMZ P ty=true/\L (.bool false)):=rfl
@[go_sem] theorem bZ5 (op:BinOp) (ty:TypeId) (k:IntKind) (a:Int) (y:aH) (t:Tag L):aNL P op ty (.int k a) y L t=nR P op ty (.int k a) y L ():=rfl
@[go_sem] theorem bXV (op:BinOp) (ty:TypeId) (a:Bool) (y:aH) (t:Tag L):aNL P op ty (.bool a) y L t=nR P op ty (.bool a) y L ():=rfl
@[go_sem] theorem bZ6 (op:BinOp) (ty:TypeId) (a:List UInt8) (y:aH) (t:Tag L):aNL P op ty (.str a) y L t=nR P op ty (.str a) y L ():=rfl
@[go_sem] theorem bZ7 (ty:TypeId) (sz:Nat) (es:List (List aH)) (b:Bool) (t:Tag L):aNL P .eql ty (.sl sz es b) .bD L t=((match dOf P ty with|some (.slice _)=>True|_=>False)/\(es=[]->L (.bool true))/\L (.bool false)):=rfl
@[go_sem] theorem bXW (ty:TypeId) (sz:Nat) (es:List (List aH)) (b:Bool) (t:Tag L):aNL P .neq ty (.sl sz es b) .bD L t=((match dOf P ty with|some (.slice _)=>True|_=>False)/\(es=[]->L (.bool false))/\L (.bool true)):=rfl
@[go_sem] theorem b4N (op:BinOp) (ty:TypeId) (c:Bool) (m sz i len:Nat) (y:aH) (t:Tag L):aPV P op ty c (.os m sz i len) y L t=aNL P op ty (.os m sz i len) y L ():=by cases c <;> rfl
@[go_sem] theorem bZ8 (op:BinOp) (ty:TypeId) (c:Bool) (y:aH) (t:Tag L):aPV P op ty c .bD y L t=aNL P op ty .bD y L ():=by cases c <;> rfl
@[go_sem] theorem b4O (ty:TypeId) (m sz i len:Nat) (t:Tag L):aNL P .eql ty (.os m sz i len) .bD L t=((match dOf P ty with|some (.slice _)=>True|_=>False)/\(len=0->L (.bool true))/\L (.bool false)):=rfl
@[go_sem] theorem bZ9 (ty:TypeId) (m sz i len:Nat) (t:Tag L):aNL P .neq ty (.os m sz i len) .bD L t=((match dOf P ty with|some (.slice _)=>True|_=>False)/\(len=0->L (.bool false))/\L (.bool true)):=rfl
@[go_sem] theorem b4P (ty:TypeId) (t:Tag L):aNL P .eql ty .bD .bD L t=((match dOf P ty with|some (.slice _)=>True|_=>False)/\L (.bool true)):=rfl
@[go_sem] theorem b0A (ty:TypeId) (t:Tag L):aNL P .neq ty .bD .bD L t=((match dOf P ty with|some (.slice _)=>True|_=>False)/\L (.bool false)):=rfl
@[go_sem] theorem b4Q (b:Bool) (t:Tag L):unF .not (.bool b) L t=L (.bool (!b)):=rfl
@[go_sem] theorem b4R (k:IntKind) (n:Int) (t:Tag L):unF .neg (.int k n) L t=L (.int k (k.wrap (0-n))):=rfl
@[go_sem] theorem b4S (s:TyD) (k k':IntKind) (n:Int) (t:Tag L):cvF P (some s) (some (.int k')) (.int k n) L t=L (.int k' (k'.wrap n)):=by simp[cvF]
@[go_sem] theorem bXX (et:TypeId) (es:List (List aH)) (b:Bool) (t:Tag L):cvF P (some (.slice et)) (some .str) (.sl 1 es b) L t=(dOf P et=some (.int .u8)/\iJ (bytesOf es) (λbs=>L (.str bs)) ()):=by
 simp only[cvF,iJ];cases bytesOf es <;> rfl
@[go_sem] theorem b7T (cr pr:List (Nat×Nat)) (i:Nat) (r:Option nP) (n sz j off:Nat) (M:List (Nat×Nat)->aH->aE->Prop) (t:Tag M):rdF cr i pr r (.op n sz j off) h M t=ldF r (.op n sz j off) h (λv=>M (aZZ cr i (some n) pr) v h) ():=rfl
@[go_sem] theorem b7U (cr pr:List (Nat×Nat)) (i:Nat) (r:Option nP) (sz j off:Nat) (es:List (List aH)) (M:List (Nat×Nat)->aH->aE->Prop) (t:Tag M):rdF cr i pr r (.ip sz es j off) h M t=ldF r (.ip sz es j off) h (λv=>M (aZZ cr i none pr) v h) ():=rfl
attribute [go_sem] aZZ bEH aD1 aPP bytesOf
@[go_sem] theorem bP1 (x:Operand):j7 (.move x)=false:=rfl
@[go_sem] theorem bJV (x:Operand):j7 (.assign x)=false:=rfl
@[go_sem] theorem bKW (x:TypeId):j7 (.alloc x)=false:=rfl
@[go_sem] theorem bSN (x:TypeId) (v:Operand):j7 (.box x v)=false:=rfl
@[go_sem] theorem bXY (x:TypeId) (l:Nat) (ps:Array (Nat×Operand)):j7 (.buildSlice x l ps)=false:=rfl
@[go_sem] theorem bKX (x:TypeId) (ps:Array (Nat×Operand)):j7 (.build x ps)=false:=rfl
@[go_sem] theorem bKY (x:TypeId) (a v:Operand):j7 (.store x a v)=false:=rfl
@[go_sem] theorem bXZ (x:TypeId) (a v:Operand):j7 (.makeSlice x a v)=false:=rfl
@[go_sem] theorem bP2 (c:Call):j7 (.call c)=false:=rfl
@[go_sem] theorem bX0 (x:TypeId) (r:Option Operand):j7 (.makeMap x r)=false:=rfl
@[go_sem] theorem bJW (x:TypeId) (a b:Operand) (c:Bool):j7 (.lookup x a b c)=false:=rfl
@[go_sem] theorem bX1 (x:TypeId) (a b c:Operand):j7 (.mapUpdate x a b c)=false:=rfl
@[go_sem] theorem bX2 (x:TypeId) (a b:Operand):j7 (.mapEntry x a b)=false:=rfl
@[go_sem] theorem bX3 (x:TypeId) (a b c:Operand):j7 (.entryStore x a b c)=false:=rfl
@[go_sem] theorem bSO (x:TypeId) (a b c:Operand):j7 (.insert x a b c)=false:=rfl
@[go_sem] theorem bKZ (x:TypeId) (a:Operand):j7 (.range x a)=false:=rfl
@[go_sem] theorem bP3 (a:Operand) (b:Bool):j7 (.next a b)=false:=rfl
@[go_sem] theorem bK0 (a:Operand):j7 (.entry a)=false:=rfl
@[go_sem] theorem bK1 (x:TypeId) (a:Operand) (b c d:Option Operand):j7 (.slice x a b c d)=false:=rfl
@[go_sem] theorem bX4 (x:TypeId) (a b:Operand):j7 (.indexAddr x a b)=false:=rfl
@[go_sem] theorem bX5 (x:TypeId) (a:Operand) (b:Nat):j7 (.fieldAddr x a b)=false:=rfl
@[go_sem] theorem bX6 (a:Operand) (b:Nat):j7 (.extract a b)=false:=rfl
@[go_sem] theorem bX7 (f:Fn) (a b:Array Operand):j7 (.makeFunc f a b)=false:=rfl
@[go_sem] theorem bP4 (a b:TypeId) (x:Operand):j7 (.convert a b x)=false:=rfl
@[go_sem] theorem bSP (o:BinOp) (a b:TypeId) (x y:Operand):j7 (.binOp o a x y b)=false:=rfl
@[go_sem] theorem bP5 (x y z:Operand):j7 (.pick x y z)=false:=rfl
@[go_sem] theorem bX8 (x:Operand):j7 (.nilCheck x)=false:=rfl
def bET (fs:List (Nat×TypeId×Nat)) (f:Nat) (K:Nat->Prop) (_:Tag K):Prop:=match fs[f]? with|some (off,_,oC)=>oC≠0/\K off|none=>False
@[go_sem] theorem bX9 (off sz:Nat) (ty:TypeId) (fs:List (Nat×TypeId×Nat)) (M:Nat->Prop) (t:Tag M):bET ((off,ty,sz)::fs) 0 M t=(sz≠0/\M off):=rfl
@[go_sem] theorem bYA (x:Nat×TypeId×Nat) (fs:List (Nat×TypeId×Nat)) (n:Nat) (M:Nat->Prop) (t:Tag M):bET (x::fs) (n+1) M t=bET fs n M ():=rfl
@[go_sem] theorem b7V (fs:List (Nat×TypeId×Nat)) (f n sz i k:Nat) (t:Tag L):faF (some (.st fs)) f (.op n sz i k) L t=bET fs f (λoff=>L (.op n sz i (k+off))) ():=rfl
@[go_sem] theorem b7W (fs:List (Nat×TypeId×Nat)) (f sz i k:Nat) (es:List (List aH)) (t:Tag L):faF (some (.st fs)) f (.ip sz es i k) L t=bET fs f (λoff=>L (.ip sz es i (k+off))) ():=rfl
@[go_sem] theorem b7X (re:nP) (sz:Nat) (es:List (List aH)) (b:Bool) (k:IntKind) (n:Int) (t:Tag L):iaF (some re) (.sl sz es b) (.int k n) L t=(re.sz=sz/\0<=n/\n<es.length/\L (.ip sz es n.toNat 0)):=rfl
@[go_sem] theorem b7Y (re:nP) (m sz i0 len:Nat) (k:IntKind) (n:Int) (t:Tag L):iaF (some re) (.os m sz i0 len) (.int k n) L t=(re.sz=sz/\0<=n/\n<len/\L (.op m sz (i0+n.toNat) 0)):=rfl
@[go_sem] theorem b4T (s:List UInt8) (k:IntKind) (n:Int) (t:Tag L):ixF (some .str) (.str s) (.int k n) L t=(0<=n/\iJ s[n.toNat]? (λc=>L (.int .u8 c.toNat)) ()):=by
 simp only[ixF,aHJ,iJ];cases s[n.toNat]? <;> rfl
@[go_sem] theorem b7Z (r:nP) (sz i off:Nat) (es:List (List aH)) (t:Tag L):ldF (some r) (.ip sz es i off) h L t=iJ es[i]? (λe=>iJ (ld r e off) L ()) ():=by
 simp only[ldF,lS,iJ]
 cases es[i]? with
 |none=>rfl
 |some e=>simp only;cases ld r e off <;> rfl
@[go_sem] theorem b70 (r:nP) (sz i off:Nat) (es:List (List aH)) (t:Tag L):ldG (some r) (.ip sz es i off) L t=iJ es[i]? (λe=>iJ (ld r e off) L ()) ():=by
 simp only[ldG,lS,iJ]
 cases es[i]? with
 |none=>rfl
 |some e=>simp only;cases ld r e off <;> rfl
def a23 (o:Option bE) (K:Nat->List (List Cell)->Prop) (_:Tag K):Prop:=match o with|some (.row sz es)=>K sz es|_=>False
@[go_sem] theorem b0B (sz:Nat) (es:List (List Cell)) (M:Nat->List (List Cell)->Prop) (t:Tag M):a23 (some (.row sz es)) M t=M sz es:=rfl
@[go_sem] theorem b71 (r:nP) (n sz i off:Nat) (t:Tag L):ldF (some r) (.op n sz i off) h L t=a23 (h n) (λoC es=>oC=sz/\iJ es[i]? (λe=>iJ (aMT r e off) L ()) ()) ():=by
 simp only[ldF,lS,a23]
 cases h n with
 |none=>rfl
 |some o =>
  cases o with
  |row oC es =>
   simp only[iJ]
   cases es[i]? with
   |none=>rfl
   |some e=>simp only;cases aMT r e off <;> rfl
  | _=>rfl
@[go_sem] theorem b72 (r:nP) (n sz i off:Nat) (v:aH) (M:aE->Prop) (t:Tag M):stF (some r) (.op n sz i off) v h M t=a23 (h n) (λoC es=>oC=sz/\iJ es[i]? (λe=>v.cells.all aH.flat=true/\v.cells.length=r.sz/\off+r.sz<=e.length/\M (aR h n (.row sz (es.set i (sP e off v.cells))))) ()) ():=by
 simp only[stF,aVO,a23]
 cases h n with
 |none=>rfl
 |some o =>
  cases o with
  |row oC es=>simp only[iJ];cases es[i]? <;> rfl
  | _=>rfl
@[go_sem] theorem b73 (re:nP) (t1:Option TypeId) (n sz i len:Nat) (y:aH) (t:Tag K):apF P (some re) t1 (.os n sz i len) y h K t=(re.zero.length=re.sz/\0<re.sz/\aEI P t1=true/\re.sz=sz/\a23 (h n) (λoC es=>oC=sz/\i+len<=es.length/\iJ (zN h sz y) (λys=>(len+ys.length)*re.bytes<=140737488355328/\len+ys.length<=9223372036854775807 /\
  ∀ b,h b=none->K (.os b sz 0 (len+ys.length)) (aR (aR h n .gone) b (.row sz ((es.drop i).take len++ys.map (List.map .v))))) ()) ()):=by
 simp only[apF,aCE,a23]
 cases h n with
 |none=>rfl
 |some o =>
  cases o with
  |row oC es=>simp only[iJ];cases zN h sz y <;> rfl
  | _=>rfl
@[go_sem] theorem b74 (re:nP) (t1:Option TypeId) (sz:Nat) (es:List (List aH)) (tg:Bool) (y:aH) (t:Tag K):apF P (some re) t1 (.sl sz es tg) y h K t=(re.zero.length=re.sz/\0<re.sz/\aEI P t1=true/\iJ (aJH re.sz (.sl sz es tg)) (λolds=>iJ (zN h re.sz y) (λys=>(ys=[]->K (.sl sz es tg) h)/\(ys≠[]->(olds.length+ys.length)*re.bytes<=140737488355328/\olds.length+ys.length<=9223372036854775807 /\
  ∀ n,h n=none->K (.os n re.sz 0 (olds.length+ys.length)) (aR h n (.row re.sz ((olds++ys).map (List.map .v)))))) ()) ()):=by
 simp only[apF,aCE]
 cases hd:aJH re.sz (.sl sz es tg)with
 |none=>rfl
 |some olds=>simp only[iJ];cases zN h re.sz y <;> rfl
@[go_sem] theorem b4U (re:nP) (t1:Option TypeId) (y:aH) (t:Tag K):apF P (some re) t1 .bD y h K t=(re.zero.length=re.sz/\0<re.sz/\aEI P t1=true/\iJ (zN h re.sz y) (λys=>(ys=[]->K .bD h)/\(ys≠[]->((([]:List (List aH)).length)+ys.length)*re.bytes<=140737488355328/\(([]:List (List aH)).length)+ys.length<=9223372036854775807 /\
  ∀ n,h n=none->K (.os n re.sz 0 ((([]:List (List aH)).length)+ys.length)) (aR h n (.row re.sz (([]++ys).map (List.map .v)))))) ()):=by
 simp only[apF,aCE,aJH]
 cases zN h re.sz y <;> rfl
@[go_sem] theorem b0C (r:nP) (t:Tag K):alF (some r) h K t=(r.zero≠[]/\r.zero.all aH.flat=true/\∀ n,h n=none->K (.op n r.zero.length 0 0) (aR h n (.row r.zero.length [r.zero.map .v]))):=rfl
@[go_sem] theorem b4V (re:nP) (k k':IntKind) (a b:Int) (t:Tag K):mkF (some re) (.int k a) (.int k' b) h K t=(re.zero.length=re.sz/\0<re.sz/\re.zero.all aH.flat=true/\0<=a/\a<=b/\b<=281474976710656/\re.bytes*b<=281474976710656 /\
    ∀ n,h n=none->K (.os n re.sz 0 a.toNat) (aR h n (.row re.sz ((List.replicate b.toNat re.zero).map (List.map .v))))):=rfl
@[go_sem] theorem b4W (et:TypeId) (sz:Nat) (es:List (List aH)) (b:Bool) (t:Tag L):bBG P (some (.slice et)) (.sl sz es b) L t=(es.length<=9223372036854775807->L (.int .i64 es.length)):=rfl
@[go_sem] theorem b4X (et:TypeId) (m sz i n:Nat) (t:Tag L):bBG P (some (.slice et)) (.os m sz i n) L t=(n<=9223372036854775807->L (.int .i64 n)):=rfl
@[go_sem] theorem b0D (et:TypeId) (t:Tag L):bBG P (some (.slice et)) .bD L t=L (.int .i64 0):=rfl
@[go_sem] theorem b0E (s:List UInt8) (t:Tag L):bBG P (some .str) (.str s) L t=(s.length<=9223372036854775807->L (.int .i64 s.length)):=rfl
@[go_sem] theorem b4Y (et:TypeId) (sz:Nat) (es:List (List aH)) (b:Bool) (t:Tag L):bEQ P (some (.slice et)) (.sl sz es b) L t=L (.int .i64 es.length):=rfl
@[go_sem] theorem b4Z (et:TypeId) (m sz i n:Nat) (t:Tag L):bEQ P (some (.slice et)) (.os m sz i n) L t=L (.int .i64 n):=rfl
@[go_sem] theorem b0F (et:TypeId) (t:Tag L):bEQ P (some (.slice et)) .bD L t=L (.int .i64 0):=rfl
@[go_sem] theorem b0G (s:List UInt8) (t:Tag L):bEQ P (some .str) (.str s) L t=L (.int .i64 s.length):=rfl
@[go_sem] theorem b40 (cs:List aH) (i:Nat) (t:Tag L):exF (.jO cs) i L t=iJ cs[i]? L ():=by
 simp only[exF,iJ];cases cs[i]? <;> rfl
@[go_sem] theorem b75 (n sz i k:Nat) (t:Tag L):ncF (.op n sz i k) L t=L (.op n sz i k):=rfl
@[go_sem] theorem b76 (sz i k:Nat) (es:List (List aH)) (t:Tag L):ncF (.ip sz es i k) L t=L (.ip sz es i k):=rfl
@[go_sem] theorem b0H (r:nP) (ps:List (Nat×aH)) (t:Tag L):buF P (some r) ps L t=(aEL P r.d=true/\r.zero≠[]/\aCC (places P r.d) r.zero.length ps=true/\L (.agg (aPB (places P r.d) r.zero ps))):=rfl
@[go_sem] theorem b77 (ty:TypeId) (sz:Nat) (es:List (List aH)) (b:Bool) (lo hi:Option aH) (t:Tag L):slF P ty (.sl sz es b) lo hi L t=iJ (nT P ty) (λre=>re.sz=sz/\iJ (lR 0 lo) (λl=>iJ (lR es.length hi) (λm=>0<=l/\l<=m/\m<=es.length/\L (.sl sz ((es.take m.toNat).drop l.toNat) (b && decide (m=es.length)))) ()) ()) ():=by
 simp only[slF,pT,iJ]
 cases nT P ty with
 |none=>rfl
 |some re =>
  simp only
  cases lR 0 lo with
  |none=>rfl
  |some l=>simp only;cases lR es.length hi <;> rfl
@[go_sem] theorem b78 (ty:TypeId) (n sz i len:Nat) (lo hi:Option aH) (t:Tag L):slF P ty (.os n sz i len) lo hi L t=iJ (nT P ty) (λre=>re.sz=sz/\iJ (lR 0 lo) (λl=>iJ (lR len hi) (λm=>0<=l/\l<m/\m<=len/\L (.os n sz (i+l.toNat) (m.toNat-l.toNat))) ()) ()) ():=by
 simp only[slF,pT,iJ]
 cases nT P ty with
 |none=>rfl
 |some re =>
  simp only
  cases lR 0 lo with
  |none=>rfl
  |some l=>simp only;cases lR len hi <;> rfl
@[go_sem] theorem b41 (ty:TypeId) (s:List UInt8) (lo hi:Option aH) (t:Tag L):slD P ty (.str s) lo hi L t=slF P ty (.str s) lo hi L ():=by cases hi <;> rfl
@[go_sem] theorem b79 (ty:TypeId) (sz:Nat) (es:List (List aH)) (b:Bool) (lo hi:Option aH) (t:Tag L):slD P ty (.sl sz es b) lo hi L t=slF P ty (.sl sz es b) lo hi L ():=by cases hi <;> rfl
@[go_sem] theorem b8A (ty:TypeId) (n sz i len:Nat) (lo:Option aH) (y:aH) (t:Tag L):slD P ty (.os n sz i len) lo (some y) L t=slF P ty (.os n sz i len) lo (some y) L ():=rfl
@[go_sem] theorem b42 (ty:TypeId) (n sz i len:Nat) (lo:Option aH) (t:Tag L):slD P ty (.os n sz i len) lo none L t=iJ (nT P ty) (λre=>re.sz=sz/\iJ (lR 0 lo) (λl=>0<=l/\l<=len/\(l<len->L (.os n sz (i+l.toNat) (len-l.toNat)))/\(l=len->L (.os n sz (i+len) 0)/\L (.sl sz [] true))) ()) ():=by
 simp only[slD,vD,iJ]
 cases nT P ty with
 |none=>rfl
 |some re =>
  simp only
  cases lR 0 lo <;> rfl
@[go_sem] theorem b43 (ty:TypeId) (sz:Nat) (es:List (List aH)) (b:Bool) (lo:Option aH) (hi mx:aH) (t:Tag L):bKS P ty (.sl sz es b) lo hi mx L t=iJ (nT P ty) (λre=>re.sz=sz/\iJ (lR 0 lo) (λl=>iJ (lR es.length (some hi)) (λm=>iJ (lR 0 (some mx)) (λM=>0<=l/\l<=m/\m<=M/\M<=es.length/\L (.sl sz ((es.take m.toNat).drop l.toNat) (decide (M=m)))) ()) ()) ()) ():=by
 simp only[bKS,s5,iJ]
 cases nT P ty with
 |none=>rfl
 |some re =>
  simp only
  cases lR 0 lo with
  |none=>rfl
  |some l =>
   simp only
   cases lR es.length (some hi)with
   |none=>rfl
   |some m=>simp only;cases lR 0 (some mx) <;> rfl
def a25 (P:Program) (τ:bJ) (h:aE) (l:List ResultVar) (M:List aH->Prop) (_:Tag M):Prop:=bEE P τ h l M
@[go_sem] theorem b0I (τ:bJ) (M:List aH->Prop) (t:Tag M):a25 P τ h [] M t=M []:=rfl
@[go_sem] theorem b0J (τ:bJ) (s:Tmp) (l:List ResultVar) (M:List aH->Prop) (t:Tag M):a25 P τ h (.tmp s::l) M t=a25 P τ h l (λvs=>M (b7 τ s::vs)) ():=rfl
@[go_sem] theorem bYB (τ:bJ) (a:Tmp) (ty:TypeId) (l:List ResultVar) (M:List aH->Prop) (t:Tag M):a25 P τ h (.cell a ty::l) M t=ldF (jH P ty) (b7 τ a) h (λv=>a25 P τ h l (λvs=>M (v::vs)) ()) ():=rfl
def aZ5 (vs:List aH) (L:aH->Prop) (_:Tag L):Prop:=match vs with|[v]=>L v|vs=>L (.jO vs)
@[go_sem] theorem bYC (t:Tag L):aZ5 [] L t=L (.jO []):=rfl
@[go_sem] theorem bYD (v:aH) (t:Tag L):aZ5 [v] L t=L v:=rfl
@[go_sem] theorem bYE (v w:aH) (vs:List aH) (t:Tag L):aZ5 (v::w::vs) L t=L (.jO (v::w::vs)):=rfl
end
def oD (P:Program) (rs:Array ResultVar) (K:aH->aE->Prop) (_:Tag K):Exit->bJ->aE->Prop:=aJO P rs K
section
variable (P:Program) (rs:Array ResultVar) (K:aH->aE->Prop) (τ:bJ) (h:aE)
@[go_sem] theorem bK2 (t:Tag K):oD P rs K t .normal τ h=a25 P τ h rs.toList (λvs=>aZ5 vs (λv=>K v h) ()) ():=rfl
@[go_sem] theorem bYF (t:Tag K):oD P rs K t .ret τ h=a25 P τ h rs.toList (λvs=>aZ5 vs (λv=>K v h) ()) ():=rfl
@[go_sem] theorem bSQ (i:Nat) (t:Tag K):oD P rs K t (.exit i) τ h=False:=rfl
end
theorem b8B {P:Program} {f:FuncId} {fn:Func} {c:Code} (N:Nat) (keep ib:List Nat) (mk:Marks) {args:List aH} {r:aH} (hmix:P.follows .mixedOrders=true) (hf:P.funcs[f]?=some fn) (hb:fn.body=some c)
  (hck:(kC P f && decide (fn.ntmps=N) && iV N mk c)=true) (hl:args.length<=N)
  (hw:∀ h,qH P N keep ib mk c (λτ h'=>oD P fn.results (λr' h'=>r'=r/\h.le h') () .normal τ h') (oD P fn.results (λr' h'=>r'=r/\h.le h') ()) (sC 0 args) h ()):fM P f args r :=
 bKN N keep ib mk hmix hf hb hck hl hw
theorem b8C {P:Program} {f:FuncId} {fn:Func} {c:Code} (N:Nat) (keep ib:List Nat) (mk:Marks) {args:List aH} {r:aH} (hmix:P.follows .mixedOrders=true) (hf:P.funcs[f]?=some fn) (hb:fn.body=some c)
  (hck:(kC P f && decide (fn.ntmps=N) && iV N mk c)=true) (hl:args.length<=N)
  (hw:∀ h,qH P N keep ib mk c (λτ h'=>oD P fn.results (λr' h'=>Shift r' h' r h) () .normal τ h') (oD P fn.results (λr' h'=>Shift r' h' r h) ()) (sC 0 args) h ()):fM P f args r :=
 bEP N keep ib mk hmix hf hb hck hl hw
theorem aZ0 {P:Program} {N:Nat} {keep ib:List Nat} {mk:Marks} {c:Code} {Q:Exit->bJ->aE->Prop} {τ:bJ} {h:aE} {t:Tag (Code.loop c,Q)} {α:Type} (hmix:P.follows .mixedOrders=true) (hc:iV N mk c=true) (S:α->bJ) (H:α->aE) (side:α->Prop) (μ:α->Nat) (x₀:α)
  (h₀:c4 (S x₀) τ/\(H x₀).le h/\side x₀)
  (round:∀ x,side x->qH P N keep ib mk c (λτ' h'=>∃ x',c4 (S x') τ'/\(H x').le h'/\side x'/\μ x'<μ x) Q (S x) (H x) ()):aJP P N (.loop c) Q τ h t :=
 tH.aZ0 S H side μ x₀ h₀ λx hx=>aPU hmix c _ _ _ _ hc (round x hx)
theorem gX {P:Program} {f:FuncId} {fn:Func} {c:Code} (N:Nat) (keep ib:List Nat) (mk:Marks) {args:List aH} {r:aH} (hf:P.funcs[f]?=some fn) (hw:∀ h,qH P N keep ib mk c (λτ h'=>oD P fn.results (λr' h'=>r'=r/\h.le h') () .normal τ h') (oD P fn.results (λr' h'=>r'=r/\h.le h') ()) (sC 0 args) h ()) (hmix:P.follows .mixedOrders=true:=by exact mix) (hb:fn.body=some c:=by rfl) (hck:(kC P f && decide (fn.ntmps=N) && iV N mk c)=true:=by kernel_rfl) (hl:args.length<=N:=by simp):fM P f args r :=
 b8B N keep ib mk hmix hf hb hck hl hw
theorem iN {P:Program} {f:FuncId} {fn:Func} {c:Code} (N:Nat) (keep ib:List Nat) (mk:Marks) {args:List aH} {r:aH} (hf:P.funcs[f]?=some fn) (hw:∀ h,qH P N keep ib mk c (λτ h'=>oD P fn.results (λr' h'=>Shift r' h' r h) () .normal τ h') (oD P fn.results (λr' h'=>Shift r' h' r h) ()) (sC 0 args) h ()) (hmix:P.follows .mixedOrders=true:=by exact mix) (hb:fn.body=some c:=by rfl) (hck:(kC P f && decide (fn.ntmps=N) && iV N mk c)=true:=by kernel_rfl) (hl:args.length<=N:=by simp):fM P f args r :=
 b8C N keep ib mk hmix hf hb hck hl hw
theorem cZ {P:Program} {N:Nat} (keep ib:List Nat) (mk:Marks) {c:Code} {Q:Exit->bJ->aE->Prop} {τ:bJ} {h:aE} {t:Tag (Code.loop c,Q)} {α:Type} (S:α->bJ) (H:α->aE) (side:α->Prop) (μ:α->Nat) (x₀:α) (h₀:c4 (S x₀) τ/\(H x₀).le h/\side x₀) (round:∀ x,side x->qH P N keep ib mk c (λτ' h'=>∃ x',c4 (S x') τ'/\(H x').le h'/\side x'/\μ x'<μ x) Q (S x) (H x) ()) (hmix:P.follows .mixedOrders=true:=by exact mix) (hc:iV N mk c=true:=by kernel_rfl):aJP P N (.loop c) Q τ h t :=
 aZ0 (keep:=keep) (ib:=ib) (mk:=mk) hmix hc S H side μ x₀ h₀ round
theorem Sub.bJ6 {sz oC i off:Nat} {es:List (List aH)} {e e':List aH} (he:es[i]?=some e) (h':(e.drop off).take oC=e') (hl:e'.length=oC):Sub (.ip sz es i off) (.ip oC [e'] 0 0):=λE h w v r=>by
 cases r with
 |ip _ _ _ _ b o cv hi hs hc h1 hr =>
  have hat:∀ i' j x,kA [e'] i' j=some x->i'=0/\kA es i (off+j)=some x:=by
   intro i' j x hx
   obtain⟨e1,h1,h2⟩:=lG hx
   cases i' with
   |zero =>
    simp at h1;subst h1
    refine⟨rfl,?_⟩
    subst h'
    rw[List.getElem?_take]at h2
    split at h2
    ·rw[aYP]at h2
     simp[kA,he,h2]
    ·cases h2
   |succ n=>simp at h1
  have:=gC.ip (E:=E) (h:=h) (w:=w) oC [e'] 0 0 b (o+i*sz+off) (λi' j=>cv (i+i') (off+j)) hi (λe1 he'=>by simp at he';subst he';exact hl)
   (λi' j x hx=>by obtain⟨rfl,hy⟩:=hat i' j x hx;have:=hc i _ x hy;simpa[bC2]using this)
   (λi' j x hx=>by obtain⟨rfl,hy⟩:=hat i' j x hx;exact h1 i _ x hy)
   (λi' j x hx=>by obtain⟨rfl,hy⟩:=hat i' j x hx;exact hr i _ x hy)
  simpa using this
theorem Sub.ip {sz i:Nat} {es:List (List aH)} {e:List aH} (he:es[i]?=some e) (hl:e.length=sz):Sub (.ip sz es i 0) (.ip sz [e] 0 0) :=
 Sub.bJ6 he (by rw[aG8,pQ aA]) hl
open Go.ChangeShapes Go.WideShapes
def Dat (P:Program):Nat->TypeId->List aH->Prop
 |0,_,_=>False
 |n+1,t,xs =>
  match P.underlying t with
  |some .bool=>∃ b,xs=[.bool b]
  |some (.int k)=>∃ i,xs=[.int k i]/\(Lit.int k i).wf=true
  |some .string=>∃ s,xs=[.str s]
  |some (.slice e)=>∃ es,xs=[.sl (P.cellsOf e) es false]/\∀ y∈es,Dat P n e y
  |some (.struct fs)=>xs.length=P.cellsOf t/\∀ (i:Nat) (f:Field),fs[i]?=some f->Dat P n f.type ((xs.drop f.offset).take (P.cellsOf f.type))
  | _=>False
def aET (P:Program):List Field->Nat->Option Nat
 | [],o=>some o
 |f::fs,o=>if f.offset=o then aET P fs (o+P.cellsOf f.type)else none
def bBH (P:Program) (T:List TypeId):Bool:=T.all λt =>
 match P.underlying t with
 |some .bool|some (.int _)|some .string=>P.cellsOf t == 1
 |some (.slice e)=>P.cellsOf t == 1 && decide (0<P.cellsOf e) && T.contains e
 |some (.struct fs)=>(aET P fs.toList 0 == some (P.cellsOf t)) && fs.toList.all (λf=>T.contains f.type)
 | _=>false
theorem aJT {P:Program} {T:List TypeId} (hT:bBH P T=true):∀ (n:Nat) (t:TypeId) (xs:List aH),t∈T->Dat P n t xs->xs.length=P.cellsOf t/\xs.all aH.flat=true
 |0,_,_,_,h=>h.elim
 |n+1,t,xs,ht,h=>by
  have hd:=zF.1 hT t ht
  unfold Dat at h
  split at h
  ·rename_i hu;rw[hu]at hd;obtain⟨b,rfl⟩:=h;exact⟨by simpa using(of_decide_eq_true hd).symm,rfl⟩
  ·rename_i hu;rw[hu]at hd;obtain⟨i,rfl,_⟩:=h;exact⟨by simpa using(of_decide_eq_true hd).symm,rfl⟩
  ·rename_i hu;rw[hu]at hd;obtain⟨s,rfl⟩:=h;exact⟨by simpa using(of_decide_eq_true hd).symm,rfl⟩
  ·rename_i e hu
   rw[hu]at hd;obtain⟨es,rfl,_⟩:=h
   simp only[oW,beq_iff_eq]at hd
   exact⟨by simp[hd.1.1],rfl⟩
  ·rename_i fs hu
   rw[hu]at hd
   obtain⟨hl,hf⟩:=h
   refine⟨hl,?_⟩
   simp only[oW,beq_iff_eq,zF]at hd
   have key:∀ (l:List Field) (o:Nat),(∀ f∈l,T.contains f.type=true/\Dat P n f.type ((xs.drop f.offset).take (P.cellsOf f.type)))->aET P l o=some (P.cellsOf t)->(xs.drop o).all aH.flat=true:=by
    intro l
    induction l with
    |nil=>intro o _ ho;simp only[aET,bAY]at ho;rw[bC6 aA];rfl
    |cons f l ih =>
     intro o hl' ho
     simp only[aET]at ho
     split at ho
     ·rename_i e
      have h1:=hl' f x6
      have h2:=(aJT hT n _ _ (by simpa using h1.1) h1.2).2
      have h3:=ih _ (λg hg=>hl' g (w6 _ hg)) ho
      rw[e]at h2
      rw[←bDE (P.cellsOf f.type) (xs.drop o),List.all_append,h2,List.drop_drop,h3];rfl
     ·cases ho
   have:=key fs.toList 0 (λf hf'=>by
    obtain⟨i,hi⟩:=bJ0 hf'
    exact⟨hd.2 f hf',hf i f (by simpa using hi)⟩) hd.1
   simpa using this
  ·exact h.elim
section
variable {H:Type} {enc:TypeId×Value->H} {P:Program} {w:World} {base:Nat} {sp:Nat->Bool} {held:Bool}
theorem aL2 {E:Env} {h:aE} {xs:List aH} {vs:List Value} (hr:fD E h w xs vs) (hf:xs.all aH.flat=true) (j:Nat) (v:Value) (hv:vs[j]?=some v):v.oneCell'=true:=by
 obtain⟨hj,_⟩:=mS.1 hv
 have hl:=hr.length
 have hx:xs[j]?=some xs[j]:=cM aA
 exact(gC.uC (hr.get j _ _ hx hv) (zF.1 hf _ (nO hx))).1
theorem aPX {T:List TypeId} (hT:bBH P T=true) {E:Env} {h:aE} (hI:∀ b,b<w.heap.size->qK E h w b) :
  ∀ (n:Nat) (t:TypeId) (cs:List Value) (x:DataW H×List MemPlace),t∈T->DataW.trod enc P w base sp held n t cs=some x->∃ xs,Dat P n t xs/\fD E h w xs cs
 |0,t,cs,x,_,hx=>by simp[DataW.trod]at hx
 |n+1,t,cs,x,ht,hx=>by
  have hd:=zF.1 hT t ht
  match hu:P.underlying t with
  |some .bool =>
   obtain⟨b,rfl,_⟩:=DataW.trod_bool hu hx
   exact⟨[.bool b],by simp only[Dat,hu];exact⟨b,rfl⟩,⟨.bool b,trivial⟩⟩
  |some (.int k) =>
   obtain⟨i,rfl,_,hw⟩:=DataW.trod_int hu hx
   exact⟨[.int k i],by simp only[Dat,hu];exact⟨i,rfl,hw⟩,⟨.int k i,trivial⟩⟩
  |some .string =>
   obtain⟨s,rfl,_,hs⟩:=DataW.trod_string hu hx
   refine⟨[.str s.data.toList],by simp only[Dat,hu];exact⟨_,rfl⟩,⟨?_,trivial⟩⟩
   have:s=⟨s.data.toList.toArray⟩:=by cases s;simp
   rw[this]
   exact .str _ (by simpa using hs)
  |some (.slice e) =>
   rw[hu]at hd
   simp only[oW,beq_iff_eq,decide_eq_true_eq,bJ4]at hd
   rcases DataW.trod_slice hu hx with⟨rfl,_⟩|⟨a,len,cap,elems,rest,m,hm,rfl,_,hb,hlc,hmax,hel,hcell,_,_⟩
   ·exact⟨[.sl (P.cellsOf e) [] false],by simp only[Dat,hu];exact⟨[],rfl,by simp⟩,⟨.sl0 _ _ _ _ (λe=>by simp at e) cT trivial,trivial⟩⟩
   ·obtain rfl:n=m:=by omega

    have each:∀ i,i<len->∃ ys vs,Dat P n e ys/\fD E h w ys vs/\w.cells? base (a.add (i*P.cellsOf e)) (P.cellsOf e)=some vs:=by
     intro i hi
     have h1:=hcell i hi
     have hi':i<elems.length:=by omega
     rw[cM hi']at h1
     simp only[Option.bind_eq_some_iff]at h1
     obtain⟨vs,h2,h3⟩:=h1
     obtain⟨ys,h4,h5⟩:=aPX hT hI n e vs _ hd.2 h3
     exact⟨ys,vs,h4,h5,h2⟩
    let ys:Nat->List aH:=λi=>if hi:i<len then Classical.choose (each i hi)else[]
    have hys:∀ i,i<len->∃ vs,Dat P n e (ys i)/\fD E h w (ys i) vs/\w.cells? base (a.add (i*P.cellsOf e)) (P.cellsOf e)=some vs:=by
     intro i hi
     have:=Classical.choose_spec (each i hi)
     simpa only[ys,dif_pos hi]using this
    by_cases h0:len=0
    ·subst h0
     exact⟨[.sl (P.cellsOf e) [] false],by simp only[Dat,hu];exact⟨[],rfl,by simp⟩,⟨.sl0 _ _ _ _ (λe=>by simp at e) hmax trivial,trivial⟩⟩
    have hpos:0<P.cellsOf e:=hd.1.2

    obtain⟨b,o,spot⟩:=a
    obtain⟨vs0,_,_,hc0⟩:=hys 0 aA
    have b8E:=World.cells?_some hc0
    have hz:w.cell? ((Addr.add ⟨b,o,spot⟩ (0*P.cellsOf e)).add 0)=vs0[0]?:=b8E.2.2 0 hpos
    have hv0:vs0[0]?=some vs0[0]:=cM aA
    rw[hv0]at hz
    have hspot:spot=none:=by
     have:=World.cell?_spot hz
     simpa[Addr.add]using this
    subst hspot
    have hblt:b<w.heap.size:=by
     have:=World.cells?_block hc0 hpos
     simpa[Addr.add]using this
    have hmap:∀ i,i<len->((List.range len).map ys)[i]?=some (ys i):=λi hi=>by simp[hi]
    refine⟨[.sl (P.cellsOf e) ((List.range len).map ys) false],?_,⟨?_,trivial⟩⟩
    ·simp only[Dat,hu]
     refine⟨_,rfl,λy hy=>?_⟩
     simp only[qU,aLK]at hy
     obtain⟨i,hi,rfl⟩:=hy
     obtain⟨vs,h1,_⟩:=hys i hi
     exact h1
    ·have hlen:len=((List.range len).map ys).length:=by simp
     have cells:∀ i j x,kA ((List.range len).map ys) i j=some x->∃ v,w.cell? ⟨b,o+i*P.cellsOf e+j,none⟩=some v/\v.oneCell'=true/\gC E h w x v:=by
      intro i j x hx
      have hi:i<len:=by have:=bD4 hx;simpa using this
      obtain⟨y,hy,hj⟩:=lG hx
      rw[hmap i hi]at hy
      obtain rfl:=gV hy
      obtain⟨vs,h1,h2,h3⟩:=hys i hi
      have hone:=aJT hT n e _ hd.2 h1
      have hjl:j<(ys i).length:=(mS.1 hj).1
      have h4:=World.cells?_some h3
      have hjv:j<vs.length:=by rw[h2.length]at hjl;exact hjl
      have hv:vs[j]?=some vs[j]:=cM hjv
      refine⟨vs[j],?_,aL2 h2 hone.2 j _ hv,h2.get j x _ hj hv⟩
      have h5:=h4.2.2 j aA
      rw[hv]at h5
      rw[←h5]
      rw[oB,oB]
     have cellsC:∀ i j,∃ v,∀ x,kA ((List.range len).map ys) i j=some x->w.cell? ⟨b,o+i*P.cellsOf e+j,none⟩=some v/\v.oneCell'=true/\gC E h w x v:=by
      intro i j
      match hx:kA ((List.range len).map ys) i j with
      |none=>exact⟨.bool true,λx h=>by simp at h⟩
      |some x =>
       obtain⟨v,h1⟩:=cells i j x hx
       exact⟨v,λy hy=>by obtain rfl:=gV hy;exact h1⟩
     let cv:Nat->Nat->Value:=λi j=>Classical.choose (cellsC i j)
     have hcv:∀ i j x,kA ((List.range len).map ys) i j=some x->w.cell? ⟨b,o+i*P.cellsOf e+j,none⟩=some (cv i j)/\(cv i j).oneCell'=true/\gC E h w x (cv i j):=λi j=>Classical.choose_spec (cellsC i j)
     have:=gC.sl (E:=E) (h:=h) (w:=w) (P.cellsOf e) ((List.range len).map ys) false b o cap cv (hI b hblt) (by simpa using hlc) hmax (λe=>by simp at e)
      (λy hy=>by
       simp only[qU,aLK]at hy
       obtain⟨i,hi,rfl⟩:=hy
       obtain⟨vs,h1,_⟩:=hys i hi
       exact(aJT hT n e _ hd.2 h1).1)
      (λi j x hx=>(hcv i j x hx).1) (λi j x hx=>(hcv i j x hx).2.1) (λi j x hx=>(hcv i j x hx).2.2)
     rw[←hlen]at this
     exact this
  |some (.struct fs) =>
   rw[hu]at hd
   simp only[oW,beq_iff_eq,zF]at hd
   obtain⟨xs,m,hm,rfl,hl,hfl,hf⟩:=DataW.trod_struct hu hx
   obtain rfl:n=m:=by omega

   have key:∀ (l:List Field) (o:Nat),(∀ f∈l,T.contains f.type=true/\∃ y,DataW.trod enc P w base sp held n f.type ((cs.drop f.offset).take (P.cellsOf f.type))=some y)->aET P l o=some (P.cellsOf t) ->
     ∃ ys,fD E h w ys (cs.drop o)/\∀ f∈l,o<=f.offset/\Dat P n f.type ((ys.drop (f.offset-o)).take (P.cellsOf f.type)):=by
    intro l
    induction l with
    |nil =>
     intro o _ ho
     simp only[aET,bAY]at ho
     rw[bC6 aA]
     exact⟨[],trivial,λf hf=>by simp at hf⟩
    |cons f l ih =>
     intro o hl' ho
     simp only[aET]at ho
     split at ho
     ·rename_i e
      obtain⟨hc,y,hy⟩:=hl' f x6
      obtain⟨zs,hz1,hz2⟩:=aPX hT hI n f.type _ y (by simpa using hc) hy
      obtain⟨ys,hy1,hy2⟩:=ih _ (λg hg=>hl' g (w6 _ hg)) ho
      have hzl:=(aJT hT n _ _ (by simpa using hc) hz1).1
      rw[e]at hz2
      have hjoin:fD E h w (zs++ys) (cs.drop o):=by
       have:=fD.append hz2 hy1
       rw[←bDE (P.cellsOf f.type) (cs.drop o),List.drop_drop]
       exact this
      refine⟨zs++ys,hjoin,λg hg=>?_⟩
      rcases pY.1 hg with rfl|hg
      ·refine⟨by omega,?_⟩
       rw[e,wI,aG8,bDF aA,pQ aA]
       exact hz1
      ·obtain⟨h1,h2⟩:=hy2 g hg
       refine⟨by omega,?_⟩
       rw[List.drop_append,hzl,bC6 aA,lW,show g.offset-o-P.cellsOf f.type=g.offset-(o+P.cellsOf f.type)by omega]
       exact h2
     ·cases ho
   obtain⟨ys,h1,h2⟩:=key fs.toList 0 (λf hf'=>by
    obtain⟨i,hi⟩:=bJ0 hf'
    have hi':fs[i]?=some f:=by simpa using hi
    refine⟨hd.2 f hf',?_⟩
    have:=hf i f hi'
    have hil:i<xs.length:=by rw[hfl];exact(aU2.1 hi').1
    rw[cM hil]at this
    exact⟨_,this⟩) hd.1
   rw[aG8]at h1
   refine⟨ys,?_,h1⟩
   simp only[Dat,hu]
   refine⟨h1.length.trans hl,λi f hf'=>?_⟩
   have:=h2 f (by have:=Array.mem_of_getElem? hf';simpa using this)
   simpa using this.2
  |none|some .invalid|some (.float _)|some (.complex _)|some .unsafePointer|some (.named ..)|some (.pointer _)|some (.array ..)|some (.map ..)|some (.func ..)|some (.interface _)|some (.chan ..)|some (.tuple _)=>all_goals(rw[hu]at hd;simp at hd)
end
open Go.ChangeShapes Go.WideShapes
def aVU (P:Program) (n:Nat) (t:TypeId) (x:aH):Prop :=
 match P.underlying t with
 |some (.struct _)=>∃ ys,x=.agg ys/\Dat P n t ys
 | _=>Dat P n t [x]
def aZ6 (P:Program):List TypeId->List aH->Prop
 | [],[]=>True
 |t::ts,x::xs=>(∃ n,aVU P n t x)/\aZ6 P ts xs
 | _,_=>False
section
variable {H:Type} {enc:TypeId×Value->H} {P:Program} {w:World} {base:Nat} {sp:Nat->Bool} {held:Bool}
theorem bEU {T:List TypeId} (hT:bBH P T=true) {E:Env} {h:aE} (hI:∀ b,b<w.heap.size->qK E h w b) {t:TypeId} (ht:t∈T) {v:Value} {d:DataW H} {ps:List MemPlace}
  (hok:Value.okWide P w .any base t v) (hr:DataW.Trod enc P w 0 sp held t v d ps):∃ x n,aVU P n t x/\gC E h w x v:=by
 obtain⟨n,hr⟩:=hr
 obtain⟨xs,h1,h2⟩:=aPX hT hI n t _ _ ht hr
 have hd:=zF.1 hT t ht
 match hu:P.underlying t with
 |some (.struct fs) =>
  obtain⟨cs,rfl,_⟩:=okWide_struct hu hok
  exact⟨.agg xs,n,by simp only[aVU,hu];exact⟨xs,rfl,h1⟩,.agg xs cs.toList h2.length h2.get⟩
 |some .bool =>
  obtain⟨b,rfl⟩:=okWide_bool hu hok
  have hone:=aJT hT n t xs ht h1
  match xs,h2 with
  | [x],h2=>exact⟨x,n,by simp only[aVU,hu];exact h1,by simpa[Value.cells]using h2.1⟩
  | [],h2=>exact h2.elim
  | _::_::_,h2=>exact h2.2.elim
 |some (.int k) =>
  obtain⟨b,rfl⟩:=okWide_int hu hok
  match xs,h2 with
  | [x],h2=>exact⟨x,n,by simp only[aVU,hu];exact h1,by simpa[Value.cells]using h2.1⟩
  | [],h2=>exact h2.elim
  | _::_::_,h2=>exact h2.2.elim
 |some .string =>
  obtain⟨b,rfl⟩:=okWide_string hu hok
  match xs,h2 with
  | [x],h2=>exact⟨x,n,by simp only[aVU,hu];exact h1,by simpa[Value.cells]using h2.1⟩
  | [],h2=>exact h2.elim
  | _::_::_,h2=>exact h2.2.elim
 |some (.slice e) =>
  obtain⟨a,len,cap,rfl⟩:=okWide_slice hu hok
  match xs,h2 with
  | [x],h2=>exact⟨x,n,by simp only[aVU,hu];exact h1,by simpa[Value.cells]using h2.1⟩
  | [],h2=>exact h2.elim
  | _::_::_,h2=>exact h2.2.elim
 |none|some .invalid|some (.float _)|some (.complex _)|some .unsafePointer|some (.named ..)|some (.pointer _)|some (.array ..)|some (.map ..)|some (.func ..)|some (.interface _)|some (.chan ..)|some (.tuple _)=>all_goals(rw[hu]at hd;simp at hd)
theorem aTR {T:List TypeId} (hT:bBH P T=true) {E:Env} {h:aE} (hI:∀ b,b<w.heap.size->qK E h w b):∀ {ts:List TypeId} {vs:List Value} {ds:List (DataW H)} {ps:List MemPlace},
  (∀ t∈ts,t∈T)->(∀ (j:Nat) t v,ts[j]?=some t->vs[j]?=some v->Value.okWide P w .any base t v)->DataW.TrodAll enc P w 0 sp held ts vs ds ps->∃ xs,aZ6 P ts xs/\fD E h w xs vs/\ds.length=ts.length
 | [],[],[],_,_,_,_=>⟨[],trivial,trivial,rfl⟩
 |t::ts,v::vs,d::ds,_,ht,hok,⟨p,q,h1,h2,_⟩=>by
  obtain⟨x,n,h3,h4⟩:=bEU hT hI (ht t x6) (hok 0 t v rfl rfl) h1
  obtain⟨xs,h5,h6,h7⟩:=aTR hT hI (λt' h'=>ht t' (w6 _ h')) (λj t' v' a b=>hok (j+1) t' v' (by simpa using a) (by simpa using b)) h2
  exact⟨x::xs,⟨⟨n,h3⟩,h5⟩,⟨h4,h6⟩,by simp[h7]⟩
 | [],_::_,_,_,_,_,h=>by cases ‹List (DataW H)› <;> exact h.elim
 | [],[],_::_,_,_,_,h=>h.elim
 | _::_,[],_,_,_,_,h=>by cases ‹List (DataW H)› <;> exact h.elim
 | _::_,_::_,[],_,_,_,h=>h.elim
end
theorem aGW {H:Type} {enc:TypeId×Value->H} {P:Program} {w w':World} {base:Nat} {sp:Nat->Bool} {held:Bool}:∀ {ts:List TypeId} {vs:List Value} {ds:List (DataW H)} {ps:List MemPlace},
  DataW.TrodAll enc P w base sp held ts vs ds ps->(∀ p∈ps,w.sameAt w' p)->DataW.TrodAll enc P w' base sp held ts vs ds ps
 | [],[],[],_,h,_=>h
 | _::_,_::_,_::_,_,⟨p,q,⟨n,h1⟩,h2,e⟩,hs=>⟨p,q,⟨n,DataW.trod_carry n _ _ _ h1 (λx hx=>hs x (by rw[e];exact aLF _ hx))⟩,aGW h2 (λx hx=>hs x (by rw[e];exact aD5 _ hx)),e⟩
 | [],_::_,_,_,h,_=>by cases ‹List (DataW H)› <;> exact h.elim
 | [],[],_::_,_,h,_=>h.elim
 | _::_,[],_,_,h,_=>by cases ‹List (DataW H)› <;> exact h.elim
 | _::_,_::_,[],_,h,_=>h.elim
theorem aPY {w w':World} {p:MemPlace} (h:w'.heap[p.block]?=w.heap[p.block]?):w.sameAt w' p:=by
 cases p with
 |cell b o=>exact aAL h o none
 |map b=>exact h
theorem bEV {H:Type} {enc:TypeId×Value->H} {P:Program} (lo:laidOutB P=true) (mr:mapsRowed P=true)
  (hz:((List.range P.types.size).all λt=>match P.underlying t with|some (.slice e)=>decide (0<P.cellsOf e)|_=>true)=true)
  {fn:Func} (hT:fn.params.all (λt=>decide (t<P.types.size))=true) {s:ChangeSpec} (hsv:s.vars=[]) (hs:∀ ds:List (DataW H),ds.length=fn.params.size->s.fn H ds={ results:=[.lit (.bool true)],args:=ds })
  {tb:TypeId} (hr:fn.resultTypes=#[tb]) (htb:P.underlying tb=some .bool) {W W':World} {args:Array Value} {ds gs:List (DataW H)} {before:List MemPlace}
  (hW:DataW.Whole enc P fn.params.toList s.vars false W args.toList ds gs before) (hl:ds.length=fn.params.size)
  (hheap:∀ b,b<W.heap.size->W'.heap[b]?=W.heap[b]?) (hos:W'.os=W.os) (hout:W'.output=W.output) :
  s.post enc P fn false true false false W args (.bool true) W':=by
 have hlt:=hW.lt
 have hW0:=hW
 obtain⟨p,q,hA,hV,rfl,hfz,_⟩:=hW
 rw[hsv]at hV
 have hgs:gs=[]/\q=[]:=by
  match gs,hV with
  | [],h=>exact⟨rfl,h⟩
 obtain⟨rfl,rfl⟩:=hgs
 rw[dT]at hlt hfz hW0
 have e:s.fn H (ds++[])={ results:=[.lit (.bool true)],args:=ds }:=by rw[dT];exact hs ds hl
 refine⟨ds,[],p,[],p,[],hW0,?_,?_,?_,?_,λh=>by simp at h⟩
 ·rw[e]
  simp only[hr]
  refine⟨[],[],⟨1,?_⟩,rfl,rfl⟩
  simp[DataW.trod,htb,Value.cells]
 ·rw[e]
  have h1:DataW.TrodAll enc P W' 0 (λ_=>true) true fn.params.toList args.toList ds p:=aGW hA λx hx=>aPY (hheap _ (hlt x hx))
  refine DataW.TrodAll.respare (kids_rows lo mr) (λt e ht hu=>slices_full_of P hz t e ht hu) (λt ht=>?_) h1 (λx hx=>by simpa using hlt x hx)
  have:=bDB.1 hT t (by simpa using ht)
  simpa using this
 ·rw[e,hsv];exact rfl
 ·refine⟨hos,hout,λi hi=>?_⟩
  rw[hheap i hi]
  have hi':W.heap[i]?=some W.heap[i]:=aOT hi
  rw[hi']
  cases W.heap[i]with
  |cells c t fr=>exact⟨rfl,rfl,rfl,λ_ _=>rfl⟩
  |map es clock=>exact .inr ⟨rfl,rfl⟩
  | _=>rfl
def yI:aE:=λ_=>none
def aZ7:Env where
 loc:=λ_=>none
 fp:=λ_ _=>False
 used:=λ_=>False
theorem bEW (w:World) (hl:LaidIn aZ7 yI w):Rel aZ7 yI w where
 fin:=⟨0,λn _ h=>h⟩
 dom:=λn h=>absurd rfl h
 lt:=λn o b h=>by simp[yI]at h
 apart:=λn o m o' b h=>by simp[yI]at h
 obj:=λn o h=>by simp[yI]at h
 laid:=hl
theorem aPZ {w:World} {b:Nat} (hb:b<w.heap.size):qK aZ7 yI w b:=⟨hb,λn o h=>by simp[yI]at h⟩
def aX (P:Program) (f:FuncId) (args:List aH) (r:aH) (h0:aE):Prop:=∀ h:aE,h0.le h->jC P f args h λr' h'=>r'=r/\h'=h
theorem fM.bK3 {P:Program} {f:FuncId} {args:List aH} {r:aH} {h0:aE} (a:fM P f args r):aX P f args r h0:=λh _=>a h
theorem aX.mono {P:Program} {f:FuncId} {args:List aH} {r:aH} {h0 h1:aE} (hl:h0.le h1) (a:aX P f args r h0):aX P f args r h1:=λh q=>a h (aE.le_trans hl q)
theorem bBI (h:aE):yI.le h:=λ_=>.inl rfl
theorem aX.cU {P:Program} {f:FuncId} {args:List aH} {r:aH} (a:aX P f args r yI):fM P f args r:=λh=>a h (bBI h)
theorem aJ.bA {P:Program} {g:FuncId} {args:List aH} {h:aE} {K:aH->aE->Prop} {t:Tag K} {r:aH} (a:aX P g args r h) (k:K r h):aJ P g args h K t :=
 jC.mono (a h (aE.le_refl h)) λ_ _ ⟨e,e'⟩=>e▸e'▸k
theorem aJ.gS {P:Program} {g:FuncId} {args:List aH} {h:aE} {K K':aH->aE->Prop} {t:Tag K} (a:jC P g args h K') (k:∀ r h',K' r h'->K r h'):aJ P g args h K t:=jC.mono a k
theorem aE.aVV {h0 h:aE} (hl:h0.le h) {n:Nat} {o:bE} (hn:h0 n=some o):h n=some o:=by
 rcases hl n with e|e
 ·rw[hn]at e;cases e
 ·rw[←e];exact hn
theorem b0K {P:Program} {f:FuncId} {fn:Func} {c:Code} (N:Nat) (keep ib:List Nat) (mk:Marks) {args:List aH} {h:aE} {K:aH->aE->Prop} (hmix:P.follows .mixedOrders=true) (hf:P.funcs[f]?=some fn) (hb:fn.body=some c)
  (hck:(kC P f && decide (fn.ntmps=N) && iV N mk c)=true) (hl:args.length<=N)
  (hw:qH P N keep ib mk c (λτ h'=>oD P fn.results (λr h'=>∃ g:aE,g.le h'/\K r g) () .normal τ h') (oD P fn.results (λr h'=>∃ g:aE,g.le h'/\K r g) ()) (sC 0 args) h ()):jC P f args h K :=
 aPR N keep ib mk hmix hf hb hck hl (K':=λr h'=>∃ g:aE,g.le h'/\K r g) hw λ_ _ hx=>hx
theorem b0L {P:Program} {f:FuncId} {fn:Func} {c:Code} (N:Nat) (keep ib:List Nat) (mk:Marks) {args:List aH} {r:aH} {h0:aE} (hmix:P.follows .mixedOrders=true) (hf:P.funcs[f]?=some fn) (hb:fn.body=some c)
  (hck:(kC P f && decide (fn.ntmps=N) && iV N mk c)=true) (hl:args.length<=N)
  (hw:∀ h:aE,h0.le h->qH P N keep ib mk c (λτ h'=>oD P fn.results (λr' h'=>r'=r/\h.le h') () .normal τ h') (oD P fn.results (λr' h'=>r'=r/\h.le h') ()) (sC 0 args) h ()):aX P f args r h0 :=
 λh hle=>aPR N keep ib mk hmix hf hb hck hl (K':=λr' h'=>r'=r/\h.le h') (hw h hle) λ_ _ hx=>⟨h,hx.2,hx.1,rfl⟩
theorem aP0 {P:Program} {f:FuncId} {fn:Func} {c:Code} (N:Nat) (keep ib:List Nat) (mk:Marks) {args:List aH} {h:aE} {K:aH->aE->Prop} (hf:P.funcs[f]?=some fn) (hw:qH P N keep ib mk c (λτ h'=>oD P fn.results (λr h'=>∃ g:aE,g.le h'/\K r g) () .normal τ h') (oD P fn.results (λr h'=>∃ g:aE,g.le h'/\K r g) ()) (sC 0 args) h ()) (hmix:P.follows .mixedOrders=true:=by exact mix) (hb:fn.body=some c:=by rfl) (hck:(kC P f && decide (fn.ntmps=N) && iV N mk c)=true:=by kernel_rfl) (hl:args.length<=N:=by simp):jC P f args h K :=
 b0K N keep ib mk hmix hf hb hck hl hw
theorem aTS {P:Program} {f:FuncId} {fn:Func} {c:Code} (N:Nat) (keep ib:List Nat) (mk:Marks) {args:List aH} {r:aH} {h0:aE} (hf:P.funcs[f]?=some fn) (hw:∀ h:aE,h0.le h->qH P N keep ib mk c (λτ h'=>oD P fn.results (λr' h'=>r'=r/\h.le h') () .normal τ h') (oD P fn.results (λr' h'=>r'=r/\h.le h') ()) (sC 0 args) h ()) (hmix:P.follows .mixedOrders=true:=by exact mix) (hb:fn.body=some c:=by rfl) (hck:(kC P f && decide (fn.ntmps=N) && iV N mk c)=true:=by kernel_rfl) (hl:args.length<=N:=by simp):aX P f args r h0 :=
 b0L N keep ib mk hmix hf hb hck hl hw
end Go.Hl

/-
  Contracts of functions and laws of the layer over the walk.
-/
import Derived.Test.YtoomflalicffnaaGreatHlB
import Derived.KernelRfl
import Derived.ReadAgain
import Derived.ChangeArms
import Derived.ChangeSame
import Derived.Handed
import Derived.JoinedOf
namespace Go.Hl
attribute [go_sem] dS aTV
theorem nn (n:Nat):(0<=(n:Int))=True:=by simp
attribute [go_sem] a74 vB aC8 zL bEP tM sD zO aIF xS aQS uC rC ld aFW zI pE lP yU qF sY sG b6 gK o7 aE.ofValue aE.qC mY Hl.prune cR jV
 aI aP9 nn bM
attribute [go_sem] Call.operands Array.toList_append Option.map List.map Option.bind List.contains List.elem List.filterMap Op.operands Option.toList Array.size List.all List.set
attribute [go_sem] if_true if_false aZ5 Option.bind_none fL aTU aZ4 List.getElem?_cons_succ true_and and_true forall_const Bool.true_eq_false aM9 false_implies implies_true decide_true decide_false gT BEq.rfl dP qR tX a0B Bool.not_eq_false' decide_eq_true_eq decide_eq_false_iff_not Int.natCast_inj Int.ofNat_lt Int.ofNat_le a2H Bool.not_false aE.int.injEq aE.bool.injEq aB.le_refl
attribute [go_sem] ne_eq Bool.and_self Bool.true_and Bool.and_true a7P Bool.and_false Int.reduceLT Int.reduceNeg Int.reduceLE Int.reduceEq Nat.reduceLeDiff Nat.reduceSub Nat.reduceMul aGG aTR tT sB aP0 a7N List.take_nil List.drop_nil bEL List.drop_succ_cons List.replicate v7 p5 gT not_true_eq_false not_false_eq_true true_implies decide_not ite_not
attribute [go_sem] Bool.true_or aKX Bool.or_true Bool.or_false Nat.reduceAdd Nat.reduceEqDiff Nat.reduceBEq reduceCtorEq
@[go_sem] theorem bIR :aE.cells (aE.any)=[(aE.any)]:=rfl
@[go_sem] theorem bKO :aE.flat (aE.any)=false:=rfl
@[go_sem] theorem bEZ (b:Bool):aE.cells (aE.bool b)=[(aE.bool b)]:=rfl
@[go_sem] theorem bIS (b:Bool):aE.flat (aE.bool b)=true:=rfl
@[go_sem] theorem bIT (k:IntKind) (n:Int):aE.cells (aE.int k n)=[(aE.int k n)]:=rfl
@[go_sem] theorem bKP (k:IntKind) (n:Int):aE.flat (aE.int k n)=true:=rfl
@[go_sem] theorem bIU (s:List UInt8):aE.cells (aE.str s)=[(aE.str s)]:=rfl
@[go_sem] theorem bKQ (s:List UInt8):aE.flat (aE.str s)=true:=rfl
@[go_sem] theorem a8A :aE.cells (aE.jU)=[(aE.jU)]:=rfl
@[go_sem] theorem bCC :aE.flat (aE.jU)=true:=rfl
@[go_sem] theorem bCD :aE.cells (aE.bS)=[(aE.bS)]:=rfl
@[go_sem] theorem bE0 :aE.flat (aE.bS)=true:=rfl
@[go_sem] theorem bCE :aE.cells (aE.sQ)=[(aE.sQ)]:=rfl
@[go_sem] theorem bE1 :aE.flat (aE.sQ)=true:=rfl
@[go_sem] theorem bCF :aE.cells (aE.lU)=[(aE.lU)]:=rfl
@[go_sem] theorem bE2 :aE.flat (aE.lU)=true:=rfl
@[go_sem] theorem a8B :aE.cells (aE.oX)=[(aE.oX)]:=rfl
@[go_sem] theorem bCG :aE.flat (aE.oX)=true:=rfl
@[go_sem] theorem bKR (sz:Nat) (es:List (List aE)) (b:Bool):aE.cells (aE.sl sz es b)=[(aE.sl sz es b)]:=rfl
@[go_sem] theorem bO0 (sz:Nat) (es:List (List aE)) (b:Bool):aE.flat (aE.sl sz es b)=true:=rfl
@[go_sem] theorem bKS (sz:Nat) (es:List (List aE)) (i o:Nat):aE.cells (aE.ip sz es i o)=[(aE.ip sz es i o)]:=rfl
@[go_sem] theorem bO1 (sz:Nat) (es:List (List aE)) (i o:Nat):aE.flat (aE.ip sz es i o)=true:=rfl
@[go_sem] theorem bKT (n sz i l:Nat):aE.cells (aE.os n sz i l)=[(aE.os n sz i l)]:=rfl
@[go_sem] theorem bO2 (n sz i l:Nat):aE.flat (aE.os n sz i l)=true:=rfl
@[go_sem] theorem bKU (n sz i l:Nat):aE.cells (aE.op n sz i l)=[(aE.op n sz i l)]:=rfl
@[go_sem] theorem bO3 (n sz i l:Nat):aE.flat (aE.op n sz i l)=true:=rfl
@[go_sem] theorem bIV (cs:List aE):aE.cells (aE.gU cs)=[(aE.gU cs)]:=rfl
@[go_sem] theorem bKV (cs:List aE):aE.flat (aE.gU cs)=false:=rfl
@[go_sem] theorem bKW (f:Fn) (a b:List aE):aE.cells (aE.fn f a b)=[(aE.fn f a b)]:=rfl
@[go_sem] theorem bO4 (f:Fn) (a b:List aE):aE.flat (aE.fn f a b)=true:=rfl
@[go_sem] theorem bCH (t:TypeId) (v:aE):aE.cells (aE.iface t v)=[(aE.iface t v)]:=rfl
@[go_sem] theorem bE3 (t:TypeId) (v:aE):aE.flat (aE.iface t v)=true:=rfl
@[go_sem] theorem bKX (n:Nat):aE.cells (aE.mp n)=[(aE.mp n)]:=rfl
@[go_sem] theorem bO5 (n:Nat):aE.flat (aE.mp n)=true:=rfl
@[go_sem] theorem bIW (cs:List aE):aE.cells (.agg cs)=cs:=rfl
@[go_sem] theorem bKY (cs:List aE):aE.flat (.agg cs)=false:=rfl
@[go_sem] theorem bE4:maxLen=9223372036854775807:=rfl
set_option linter.unusedVariables false
set_option linter.unusedSimpArgs false
def Sub (x y:aE):Prop:=∀ E h w v,fC E h w x v->fC E h w y v
theorem Sub.refl (x:aE):Sub x x:=λ_ _ _ _ r=>r
theorem Sub.trans {x y z:aE} (a:Sub x y) (b:Sub y z):Sub x z:=λE h w v r=>b E h w v (a E h w v r)
theorem Sub.any (x:aE):Sub x .any:=λ_ _ _ v _=>.any v
theorem Sub.nil (sz:Nat) (t:Bool):Sub .bS (.sl sz [] t):=λE h w v r=>by
 cases r
 exact .sl0 sz t none 0 (λ_=>rfl) (by simp[maxLen]) trivial
theorem Sub.loose (sz:Nat) (es:List (List aE)) (t:Bool):Sub (.sl sz es t) (.sl sz es false):=λE h w v r=>by
 cases r with
 |sl0 _ _ a cap ht hmax ha=>exact .sl0 sz false _ _ (λe=>by simp at e) hmax ha
 |sl _ _ _ b o cap cv hi hcap hmax ht hs hc h1 hr=>exact .sl sz es false b o _ cv hi hcap hmax (λe=>by simp at e) hs hc h1 hr
def aBU (xs ys:List aE):Prop:=xs.length=ys.length/\∀ (i:Nat) (x y:aE),xs[i]?=some x->ys[i]?=some y->Sub x y
theorem aBU.nil:aBU [] []:=⟨rfl,λi x y hx=>by simp at hx⟩
theorem aBU.cons {x y:aE} {xs ys:List aE} (a:Sub x y) (b:aBU xs ys):aBU (x::xs) (y::ys) :=
 ⟨by simp[b.1],λi u v hu hv=>by
  cases i with
  |zero=>simp at hu hv;subst hu;subst hv;exact a
  |succ i=>exact b.2 i u v (by simpa using hu) aCZ⟩
theorem aBU.aQ9 {E:Env} {h:aB} {w:World}:∀ {xs ys:List aE} {vs:List Value},aBU xs ys->dV E h w xs vs->dV E h w ys vs
 | [],[],_,_,r=>r
 | [],_::_,_,s,_=>by have:=s.1;simp at this
 | _::_,[],_,s,_=>by have:=s.1;simp at this
 |x::xs,y::ys,[],s,r=>r.elim
 |x::xs,y::ys,v::vs,s,r=>⟨s.2 0 x y rfl rfl E h w v r.1,aBU.aQ9 (xs:=xs) (ys:=ys) ⟨by have:=s.1;simpa using this,λi u v hu hv=>s.2 (i+1) u v (by simpa using hu) aCZ⟩ r.2⟩
theorem Sub.agg {xs ys:List aE} (s:aBU xs ys):Sub (.agg xs) (.agg ys):=λE h w v r=>by
 cases r with
 |agg _ vs hl hr =>
  have:=s.aQ9 (dV.mk hl hr)
  exact .agg _ _ this.length this.get
theorem Sub.gU {xs ys:List aE} (s:aBU xs ys):Sub (.gU xs) (.gU ys):=λE h w v r=>by
 cases r with
 |gU _ vs hl hr =>
  have:=s.aQ9 (dV.mk hl hr)
  exact .gU _ _ this.length this.get
theorem iV.sub {P:Program} {f:FuncId} {xs ys:List aE} {h:aB} {K:aE->aB->Prop} (s:aBU xs ys) (a:iV P f ys h K):iV P f xs h K :=
 ⟨a.1,λE w vs R hL=>a.2 E w vs R (s.aQ9 hL)⟩
theorem fE.sub {P:Program} {f:FuncId} {xs ys:List aE} {r:aE} (s:aBU xs ys) (a:fE P f ys r):fE P f xs r:=λh=>(a h).sub s
def Shift (r':aE) (h':aB) (r:aE) (h:aB):Prop :=
 ∀ E w v,Rel E h' w->fC E h' w r' v->∃ E',Ev E h' w E' h w/\Rel E' h w/\fC E' h w r v
theorem Shift.of {r' r:aE} {h' h:aB} (s:Sub r' r) (hl:h.le h'):Shift r' h' r h:=λE w v R x =>
 ⟨E,(Ev.refl E h' w).forget hl,R.forget hl,s _ _ _ _ (x.pD λb=>nX.le hl)⟩
theorem Shift.trans {a b c:aE} {h1 h2 h3:aB} (x:Shift a h1 b h2) (y:Shift b h2 c h3):Shift a h1 c h3:=λE w v R r=>by
 obtain⟨E',ev,R',r'⟩:=x E w v R r
 obtain⟨E'',ev',R'',r''⟩:=y E' w v R' r'
 exact⟨E'',ev.trans ev',R'',r''⟩
mutual
def aE.fG (n:Nat) (es:List (List aE)):aE->aE
 | .os m sz i len=>if m=n then .sl sz ((es.drop i).take len) false else .os m sz i len
 | .op m sz i off=>if m=n then .ip sz es i off else .op m sz i off
 | .agg cs=>.agg (l5 n es cs)
 | .gU cs=>.gU (l5 n es cs)
 |x=>x
def l5 (n:Nat) (es:List (List aE)):List aE->List aE
 | []=>[]
 |x::xs=>x.fG n es::l5 n es xs
end
theorem aIW (n:Nat) (es:List (List aE)):∀ l,l5 n es l=l.map (aE.fG n es)
 | []=>rfl
 |x::l=>by simp[l5,aIW n es l]
mutual
def jB (n sz k:Nat):aE->Bool
 | .os m sz' i len=>m != n || (sz' == sz && decide (i+len<=k))
 | .op m sz' i len=>m != n || sz' == sz
 | .agg cs=>j6 n sz k cs
 | .gU cs=>j6 n sz k cs
 | _=>true
def j6 (n sz k:Nat):List aE->Bool
 | []=>true
 |x::xs=>jB n sz k x && j6 n sz k xs
end
theorem zT (n sz k:Nat):∀ (l:List aE),j6 n sz k l=true->∀ (i:Nat) x,l[i]?=some x->jB n sz k x=true
 | [],_,i,x,hx=>by simp at hx
 |y::l,h,0,x,hx=>by simp at hx;subst hx;simp only[j6,l7]at h;exact h.1
 |y::l,h,i+1,x,hx=>by simp only[j6,l7]at h;exact zT n sz k l h.2 i x aQF
theorem fC.sC {E:Env} {h:aB} {w:World} (R:Rel E h w) {n sz:Nat} {es:List (List Cell)} (hn:h n=some (.row sz es)) {x:aE} {v:Value} (r:fC E h w x v)
  (hb:jB n sz es.length x=true):fC E (aU h n .gone) w (x.fG n (eU es)) v:=by
 have hi:∀ b,nX E h w b->nX E (aU h n .gone) w b:=λb=>zG n b
 induction r with
 |any v=>exact .any v
 |bool b=>exact .bool b
 |int k n=>exact .int k n
 |str s hl=>exact .str s hl
 |jU=>exact .jU
 |bS=>exact .bS
 |sQ=>exact .sQ
 |lU=>exact .lU
 |oX=>exact .oX
 |sl0 sz t a cap ht hmax ha=>exact .sl0 sz t a cap ht hmax ha
 |sl sz es t b o cap cv hb' hcap hmax ht hs hc h1 hr ih=>exact .sl sz es t b o cap cv (hi b hb') hcap hmax ht hs hc h1 λi j x hx=>(hr i j x hx).pD hi
 |ip sz es i off b o cv hb' hs hc h1 hr ih=>exact .ip sz es i off b o cv (hi b hb') hs hc h1 λi j x hx=>(hr i j x hx).pD hi
 |os0 m sz' hd hl =>
  simp only[aE.fG]
  split
  ·have:((eU es).drop 0).take 0=[]:=by simp
   rw[this]
   exact .sl0 sz' false none 0 (λ_=>rfl) (by simp[maxLen]) trivial
  ·exact .os0 m sz' hd hl
 |op m sz' i off b o hd hl =>
  simp only[aE.fG]
  split
  ·rename_i e
   subst e
   simp only[jB,bne_self_eq_false,aKX,beq_iff_eq]at hb
   subst hb
   obtain⟨b',o',hl',hbS,hs,cs,ct,cv,T,hh,hm',hT,hD,hc,hrr⟩:=zJ R hn (.inr ⟨_,hl⟩)
   rw[hl]at hl'
   obtain⟨rfl,rfl⟩:=aNA (gH hl')
   have himm:∀ c,E.fp m c->nX E (aU h m .gone) w c:=λc hc=>aFV R hn trivial c hc
   have hat:∀ i' j y,iJ (eU es) i' j=some y->∃ c,iJ es i' j=some c/\y=c.val:=by
    intro i' j y hy
    rw[rW]at hy
    obtain⟨c,hc,rfl⟩:=q0.1 hy
    exact⟨c,hc,rfl⟩
   exact .ip sz' (eU es) i off b o cv (himm b hbS) (λe he=>xO hs e he)
    (λi' j y hy=>by
     obtain⟨c,hc',rfl⟩:=hat i' j y hy
     have:=hc _ _ _ hc'
     simp only[World.cell?,hh]
     rw[←this]
     simp)
    (λi' j y hy=>by obtain⟨c,hc',rfl⟩:=hat i' j y hy;exact(hrr _ _ _ hc').one)
    (λi' j y hy=>by
     obtain⟨c,hc',rfl⟩:=hat i' j y hy
     exact(hrr _ _ _ hc').sC hi λb hb=>himm b (hT _ _ b hb).1)
  ·exact .op m sz' i off b o hd hl
 |fn f cs ds vs us hl hr hl' hr' ih ih'=>exact .fn f cs ds vs us hl (λi x v hx hv=>(hr i x v hx hv).pD hi) hl' (λi x v hx hv=>(hr' i x v hx hv).pD hi)
 |iface t x v hr ih=>exact .iface t x v (hr.pD hi)
 |mp n b o hd hl=>exact .mp n b o hd hl
 |agg cs vs hl hr ih =>
  simp only[aE.fG,aIW]
  simp only[jB]at hb
  refine .agg _ vs aQG λi x v hx hv=>?_
  rw[qR]at hx
  obtain⟨y,hy,rfl⟩:=q0.1 hx
  exact ih i y v hy hv (zT _ _ _ _ hb i y hy)
 |gU cs vs hl hr ih =>
  simp only[aE.fG,aIW]
  simp only[jB]at hb
  refine .gU _ vs aQG λi x v hx hv=>?_
  rw[qR]at hx
  obtain⟨y,hy,rfl⟩:=q0.1 hx
  exact ih i y v hy hv (zT _ _ _ _ hb i y hy)
 |os m sz' i len b o cap t mm hd hl hlc hmax hsh hm =>
  simp only[aE.fG]
  split
  ·rename_i e
   subst e
   simp only[jB,bne_self_eq_false,aKX,l7,beq_iff_eq,decide_eq_true_eq]at hb
   obtain⟨rfl,hle⟩:=hb
   obtain⟨b',o',hl',hbS,hs,cs,ct,cv,T,hh,hm',hT,hD,hc,hrr⟩:=zJ R hn (.inr ⟨_,hl⟩)
   rw[hl]at hl'
   obtain⟨rfl,rfl⟩:=aNA (gH hl')
   have himm:∀ c,E.fp m c->nX E (aU h m .gone) w c:=λc hc=>aFV R hn trivial c hc
   have hlen:(((eU es).drop i).take len).length=len:=by rw[mX,List.length_drop,uA];omega
   have hat:∀ i' j y,iJ (((eU es).drop i).take len) i' j=some y->∃ c,iJ es (i+i') j=some c/\y=c.val:=by
    intro i' j y hy
    obtain⟨e,h1,h2⟩:=kP hy
    have hlt:i'<len:=by have:=(iO.1 h1).1;rw[hlen]at this;exact this
    rw[aHV hlt,aHW]at h1
    have:iJ (eU es) (i+i') j=some y:=by simp[iJ,h1,h2]
    rw[rW]at this
    obtain⟨c,hc,rfl⟩:=q0.1 this
    exact⟨c,hc,rfl⟩
   have:=fC.sl (E:=E) (h:=aU h m .gone) (w:=w) sz' (((eU es).drop i).take len) false b (o+i*sz') cap (λi' j=>cv (i+i') j) (himm b hbS) (by rw[hlen];exact hlc) hmax (λe=>by simp at e)
    (λe he=>xO hs e (aZ8 (aZ7 he)))
    (λi' j y hy=>by
     obtain⟨c,hc',rfl⟩:=hat i' j y hy
     have:=hc _ _ _ hc'
     simp only[World.cell?,hh]
     rw[←this]
     simp only[bEH,aM9,if_false]
     congr 1;rw[tV];omega)
    (λi' j y hy=>by obtain⟨c,hc',rfl⟩:=hat i' j y hy;exact(hrr _ _ _ hc').one)
    (λi' j y hy=>by
     obtain⟨c,hc',rfl⟩:=hat i' j y hy
     exact(hrr _ _ _ hc').sC hi λb hb=>himm b (hT _ _ b hb).1)
   rw[hlen]at this
   exact this
  ·exact .os m sz' i len b o cap t mm hd hl hlc hmax hsh hm
theorem Shift.fG {x:aE} {h:aB} {n sz:Nat} {es:List (List Cell)} (hn:h n=some (.row sz es)) (hb:jB n sz es.length x=true):Shift x h (x.fG n (eU es)) (aU h n .gone):=λE w v R r =>
 ⟨E,Ev.gone n,R.gone hn,r.sC R hn hb⟩
theorem pT.sC {P:Program} {N:Nat} {c:Code} {Q:Exit->bP->aB->Prop} {τ:bP} {h:aB} (n:Nat) {sz:Nat} {es:List (List Cell)} (hn:h n=some (.row sz es)) (hb:τ.all (λp=>jB n sz es.length p.2)=true)
  (x:pT P N c Q (τ.map λp=>(p.1,p.2.fG n (eU es))) (aU h n .gone)):pT P N c Q τ h:=by
 intro ds E w a R r
 refine Code.wp_mono (λe a' w' y=>sE.trans (Ev.gone n) y) (x ds E w a (R.gone hn) ⟨r.size,r.defers,λk=>?_⟩)
 have key:∀ τ:bP,τ.all (λp=>jB n sz es.length p.2)=true->jB n sz es.length (b6 τ k)=true/\b6 (τ.map λp=>(p.1,p.2.fG n (eU es))) k=(b6 τ k).fG n (eU es):=by
  intro τ
  induction τ with
  |nil=>intro _;exact⟨rfl,rfl⟩
  |cons p τ ih =>
   intro hp
   simp only[List.all_cons,l7]at hp
   simp only[p5,b6]
   split
   ·exact⟨hp.1,rfl⟩
   ·exact ih hp.2
 rw[(key τ hb).2]
 exact(r.get k).sC R hn (key τ hb).1
theorem uH {P:Program} {f:FuncId} {fn:Func} {c:Code} {N:Nat} {args:List aE} {h:aB} {K K':aE->aB->Prop} (a:iV P f args h K') (hk:∀ r h',K' r h'->∃ r₁ h₁,Shift r h' r₁ h₁/\K r₁ h₁):iV P f args h K :=
 ⟨a.1,λE w vs R hL=>Calls.mono (a.2 E w vs R hL) λe w' he=>by
  cases e <;> try exact he
  obtain⟨r,h',E',k,ev,R',rx⟩:=he
  obtain⟨r₁,h₁,hs,k₁⟩:=hk r h' k
  obtain⟨E'',ev',R'',rx'⟩:=hs E' w' _ R' rx
  exact⟨r₁,h₁,E'',k₁,ev.trans ev',R'',rx'⟩⟩
theorem a3O {P:Program} {f:FuncId} {fn:Func} {c:Code} (N:Nat) (keep ib:List Nat) (mk:Marks) {args:List aE} {r:aE} (hmix:P.follows .mixedOrders=true) (hf:P.funcs[f]?=some fn) (hb:fn.body=some c)
  (hck:(iY P f && decide (fn.ntmps=N) && gM N mk c)=true) (hl:args.length<=N)
  (hw:∀ h,hwp P N keep ib mk c (aDF P fn.results (λr' h'=>Shift r' h' r h) .normal) (aDF P fn.results λr' h'=>Shift r' h' r h) (o7 0 args) h):fE P f args r:=λh =>
 uH (fn:=fn) (c:=c) (N:=N) (aIV N keep ib mk hmix hf hb hck hl (hw h) λr' h' hx=>⟨h',aB.le_refl _,hx⟩) λr' h' hx=>⟨r,h,hx,rfl,rfl⟩
theorem eK {r:aE} {h' h:aB} (hl:h.le h'):Shift r h' r h:=.of (.refl r) hl
theorem cD (r:aE) (h:aB):Shift r h r h:=.of (.refl r) (aB.le_refl h)
abbrev Tag {α:Type} (_:α):Type:=Unit
def fY {α:Type} (o:Option α) (K:α->Prop) (_:Tag K):Prop:=match o with|some x=>K x|none=>False
@[go_sem] theorem bIX {α:Type} (x:α) (K:α->Prop) (t:Tag K):fY (some x) K t=K x:=rfl
@[go_sem] theorem bIY {α:Type} (K:α->Prop) (t:Tag K):fY none K t=False:=rfl
def zU (v:aE) (A B:Prop) (_:Tag (A,B)):Prop:=match v with | .bool t=>(t=true->A)/\(t=false->B)|_=>False
@[go_sem] theorem bE5 (c:Bool) (A B:Prop) (t:Tag (A,B)):zU (.bool c) A B t=((c=true->A)/\(c=false->B)):=rfl
@[go_sem high] theorem bE6 (A B:Prop) (t:Tag (A,B)):zU (.bool true) A B t=A:=by simp[zU]
@[go_sem high] theorem bCI (A B:Prop) (t:Tag (A,B)):zU (.bool false) A B t=B:=by simp[zU]
def aRA (K:bP->aB->Prop) (Q:Exit->bP->aB->Prop) (_:Tag (K,Q)):Exit->bP->aB->Prop:=wW K Q
@[go_sem] theorem a8C (K:bP->aB->Prop) (Q:Exit->bP->aB->Prop) (t:Tag (K,Q)) (τ:bP) (h:aB):aRA K Q t .normal τ h=K τ h:=rfl
@[go_sem] theorem bIZ (K:bP->aB->Prop) (Q:Exit->bP->aB->Prop) (t:Tag (K,Q)) (τ:bP) (h:aB):aRA K Q t .ret τ h=Q .ret τ h:=rfl
@[go_sem] theorem bE7 (K:bP->aB->Prop) (Q:Exit->bP->aB->Prop) (t:Tag (K,Q)) (i:Nat) (τ:bP) (h:aB):aRA K Q t (.exit i) τ h=Q (.exit i) τ h:=rfl
def aE1 (id:Nat) (K:bP->aB->Prop) (Q:Exit->bP->aB->Prop) (_:Tag (K,Q)):Exit->bP->aB->Prop:=aIU id K Q
@[go_sem] theorem bE8 (id:Nat) (K:bP->aB->Prop) (Q:Exit->bP->aB->Prop) (t:Tag (K,Q)) (τ:bP) (h:aB):aE1 id K Q t .ret τ h=Q .ret τ h:=rfl
@[go_sem] theorem bCJ (id:Nat) (K:bP->aB->Prop) (Q:Exit->bP->aB->Prop) (t:Tag (K,Q)) (τ:bP) (h:aB):aE1 id K Q t (.exit id) τ h=K τ h:=by simp[aE1,aIU]
@[go_sem] theorem a8D (id i:Nat) (K:bP->aB->Prop) (Q:Exit->bP->aB->Prop) (t:Tag (K,Q)) (τ:bP) (h:aB) (hi:(i == id)=false):aE1 id K Q t (.exit i) τ h=Q (.exit i) τ h:=by
 have:i≠id:=by simpa using hi
 simp[aE1,aIU,this]
def aE2 (P:Program) (N:Nat) (c:Code) (Q:Exit->bP->aB->Prop) (τ:bP) (h:aB) (_:Tag (c,Q)):Prop:=pT P N c Q τ h
def j0 (P:Program) (ib:List Nat) (d:Option Tmp) (op:Op) (ρ:Operand->aE) (h:aB) (K:aE->aB->Prop) (_:Tag (op,K)):Prop :=
 uF P ib ⟨d,op,0,"",#[],none⟩ ρ h K
def stepG (P:Program) (ib:List Nat) (d:Option Tmp) (op:Op) (ρ:Operand->aE) (K:aE->Prop) (_:Tag (op,K)):Prop :=
 aEZ P ib ⟨d,op,0,"",#[],none⟩ ρ K
def aDG (P:Program) (ib:List Nat) (os l:List Oper) (τ:bP) (h:aB) (K:bP->aB->Prop) (_:Tag (os,l,K)):Prop:=aDE P ib os.toArray l τ h K
def zV (os:List Oper) (g:Nat) (_:Tag os):Option Tmp:=(os.toArray[g]?).bind (·.dst)
@[go_sem] theorem bE9 (o:Oper) (os:List Oper) (t:Tag (o::os)):zV (o::os) 0 t=o.dst:=by simp[zV]
@[go_sem] theorem bFA (o:Oper) (os:List Oper) (n:Nat) (t:Tag (o::os)):zV (o::os) (n+1) t=zV os n ():=by simp[zV]
def nN (v:aE) (b:Bool) (A B C:Prop) (_:Tag (A,B,C)):Prop:=match v with
 | .bool b'=>(b'=b->A)/\(b'=!b->B)
 | .gU []=>C
 | _=>False
@[go_sem] theorem bFB (b:Bool) (A B C:Prop) (t:Tag (A,B,C)):nN (.gU []) b A B C t=C:=rfl
@[go_sem] theorem bKZ (c:Bool) (A B C:Prop) (t:Tag (A,B,C)):nN (.bool c) true A B C t=((c=true->A)/\(c=false->B)):=rfl
@[go_sem] theorem bK0 (c:Bool) (A B C:Prop) (t:Tag (A,B,C)):nN (.bool c) false A B C t=((c=false->A)/\(c=true->B)):=rfl
@[go_sem high] theorem bI0 (A B C:Prop) (t:Tag (A,B,C)):nN (.bool true) true A B C t=A:=by simp[nN]
@[go_sem high] theorem bI1 (A B C:Prop) (t:Tag (A,B,C)):nN (.bool false) true A B C t=B:=by simp[nN]
@[go_sem high] theorem bI2 (A B C:Prop) (t:Tag (A,B,C)):nN (.bool true) false A B C t=B:=by simp[nN]
@[go_sem high] theorem bI3 (A B C:Prop) (t:Tag (A,B,C)):nN (.bool false) false A B C t=A:=by simp[nN]
section
variable (P:Program) (ib:List Nat) (os rest:List Oper) (τ:bP) (h:aB) (K:bP->aB->Prop) (d:Option Tmp) (op:Op) (ty:TypeId) (p:String) (af:Array Edge)
@[go_sem] theorem bI4 (t:Tag (os,[],K)):aDG P ib os [] τ h K t=K τ h:=rfl
@[go_sem] theorem bFC (t:Tag (os,(⟨d,op,ty,p,af,none⟩::rest),K)):aDG P ib os (⟨d,op,ty,p,af,none⟩::rest) τ h K t =
  j0 P ib d op (qF τ) h (λv h'=>aDG P ib os rest (gK τ d v) h' K ()) ():=rfl
@[go_sem] theorem bFD (g:Nat) (b:Bool) (t:Tag (os,(⟨d,op,ty,p,af,some (g,b)⟩::rest),K)):aDG P ib os (⟨d,op,ty,p,af,some (g,b)⟩::rest) τ h K t =
  fY (zV os g ()) (λs=>nN (b6 τ s) b (j0 P ib d op (qF ((s,.bool b)::τ)) h (λv h'=>aDG P ib os rest (gK ((s,.bool b)::τ) d v) h' K ()) ())
   (aDG P ib os rest (gK ((s,.bool !b)::τ) d (.gU [])) h K ()) (aDG P ib os rest (gK τ d (.gU [])) h K ()) ()) ():=by
 unfold aDG
 rw[aDE]
 simp only[fY,zV]
 cases (os.toArray[g]?).bind (·.dst)with
 |none=>rfl
 |some s =>
  simp only[nN]
  cases b6 τ s <;> first|rfl|(rename_i cs;cases cs <;> rfl)
end
def aDH (P:Program) (ib:List Nat) (os:List Oper) (ms:List Nat) (cr:List (Nat×Nat)) (l:sH) (pr:List (Nat×Nat)) (τ:bP) (h:aB) (K:bP->aB->Prop) (_:Tag (os,K)):Prop:=aE0 P ib os.toArray ms cr l pr τ h K
def aIX (P:Program) (ib:List Nat) (os:List Oper) (cr:List (Nat×Nat)) (i:Nat) (m:Bool) (o:Oper) (pr:List (Nat×Nat)) (τ:bP) (h:aB) (K:List (Nat×Nat)->bP->aB->Prop) (_:Tag (os,o,K)):Prop :=
 match o.guard with
 |none=>aF4 P ib cr i m o (sY os.toArray o τ) pr h (λpr' v h'=>K pr' (gK τ o.dst v) h')
 |some (g,b)=>match (os.toArray[g]?).bind (·.dst)with
  |some d=>match b6 τ d with
   | .bool b'=>(b'=b->aF4 P ib cr i m o (sY os.toArray o ((d,.bool b)::τ)) pr h (λpr' v h'=>K pr' (gK ((d,.bool b)::τ) o.dst v) h')) /\
     (b'=!b->K pr (gK ((d,.bool !b)::τ) o.dst (.gU [])) h)
   | .gU []=>K pr (gK τ o.dst (.gU [])) h
   | _=>False
  |none=>False
def aRB (os:List Oper) (i:Nat) (K:Oper->Prop) (_:Tag (os,K)):Prop:=match os[i]? with|some o=>K o|none=>False
@[go_sem] theorem bI5 (o:Oper) (os:List Oper) (K:Oper->Prop) (t:Tag (o::os,K)):aRB (o::os) 0 K t=K o:=rfl
@[go_sem] theorem bI6 (o:Oper) (os:List Oper) (i:Nat) (K:Oper->Prop) (t:Tag (o::os,K)):aRB (o::os) (i+1) K t=aRB os i K ():=rfl
def aT6 (os:List Oper) (o:Oper) (τ:bP) (_:Tag (os,o)):Operand->aE:=sY os.toArray o τ
section
variable (P:Program) (ib:List Nat) (os:List Oper) (τ:bP) (h:aB) (K:bP->aB->Prop) (d:Option Tmp) (op:Op) (ty:TypeId) (p:String) (af:Array Edge)
variable (cr:List (Nat×Nat)) (pr:List (Nat×Nat)) (i:Nat)
@[go_sem] theorem bI7 (ms:List Nat) (t:Tag (os,K)):aDH P ib os ms cr .nil pr τ h K t=K τ h:=rfl
theorem aT7 (ms:List Nat) (i:Nat) (C:List (Nat×Nat)->bP->aB->Prop):OpD P ib os.toArray ms cr i pr τ h C=aRB os i (λo=>aIX P ib os cr i (ms.contains i) o pr τ h C ()) ():=by
 simp only[OpD,aRB,aIX,aTU]
 cases os[i]? <;> rfl
@[go_sem] theorem bK1 (ms:List Nat) (l:sH) (i:Nat) (t:Tag (os,K)):aDH P ib os ms cr (.op i l) pr τ h K t=aRB os i (λo=>aIX P ib os cr i (ms.contains i) o pr τ h (λpr' τ' h'=>aDH P ib os ms cr l pr' τ' h' K ()) ()) ():=by
 simp only[aDH,aE0];exact aT7 P ib os τ h cr pr ms i _
@[go_sem] theorem bI8 (ms:List Nat) (l q:sH) (i j:Nat) (t:Tag (os,K)):aDH P ib os ms cr (.alt i l j q) pr τ h K t=((aRB os i (λo=>aIX P ib os cr i (ms.contains i) o pr τ h (λpr' τ' h'=>aDH P ib os ms cr l pr' τ' h' K ()) ()) ())/\aRB os j (λo=>aIX P ib os cr j (ms.contains j) o pr τ h (λpr' τ' h'=>aDH P ib os ms cr q pr' τ' h' K ()) ()) ()):=by
 simp only[aDH,aE0];rw[aT7 P ib os τ h cr pr ms i _,aT7 P ib os τ h cr pr ms j _]
@[go_sem] theorem bK2 (o:Oper) (t:Tag (os,o)) (k:Nat):aT6 os o τ t (.tmp k)=if (sG os.toArray o).contains k then b6 τ k else .any:=rfl
@[go_sem] theorem bFE (o:Oper) (t:Tag (os,o)) (v:Value):aT6 os o τ t (.const v)=aE.ofValue v:=rfl
@[go_sem] theorem bI9 (o:Oper) (t:Tag (os,o)) (f:FuncId):aT6 os o τ t (.func f)=qF τ (.func f):=rfl
def iC:Op->Bool
 | .load _ _=>true
 | _=>false
def aF5 (d:Option Tmp) (op:Op) (ρ:Operand->aE) (M:List (Nat×Nat)->aE->aB->Prop) (_:Tag (op,M)):Prop :=
 if iC op then aQ5 P ⟨d,op,0,"",#[],none⟩ ρ h (λn v=>M (aQ7 cr i n pr) v h)else uF P ib ⟨d,op,0,"",#[],none⟩ ρ h (λv h'=>aIT cr i pr h h'/\M pr v h')
theorem aXG (ρ:Operand->aE) (g:Option (Nat×Bool)) (M:List (Nat×Nat)->aE->aB->Prop):aF4 P ib cr i true ⟨d,op,ty,p,af,g⟩ ρ pr h M=aF5 P ib h cr pr i d op ρ M ():=by
 unfold aF4 aF5
 cases op <;> rfl
@[go_sem] theorem bR7 (L:List (Nat×Nat)->bP->aB->Prop) (t:Tag (os,(⟨d,op,ty,p,af,none⟩:Oper),L)):aIX P ib os cr i true ⟨d,op,ty,p,af,none⟩ pr τ h L t=aF5 P ib h cr pr i d op (aT6 os ⟨d,op,ty,p,af,none⟩ τ ()) (λpr' v h'=>L pr' (gK τ d v) h') ():=by
 rw[←aXG (ty:=ty) (p:=p) (af:=af) (g:=none)];rfl
@[go_sem] theorem bR8 (L:List (Nat×Nat)->bP->aB->Prop) (t:Tag (os,(⟨d,op,ty,p,af,none⟩:Oper),L)):aIX P ib os cr i false ⟨d,op,ty,p,af,none⟩ pr τ h L t=stepG P ib d op (aT6 os ⟨d,op,ty,p,af,none⟩ τ ()) (λv=>L pr (gK τ d v) h) ():=rfl
@[go_sem] theorem bO6 (L:List (Nat×Nat)->bP->aB->Prop) (g:Nat) (b:Bool) (t:Tag (os,(⟨d,op,ty,p,af,some (g,b)⟩:Oper),L)):aIX P ib os cr i true ⟨d,op,ty,p,af,some (g,b)⟩ pr τ h L t =
  fY (zV os g ()) (λs=>nN (b6 τ s) b (aF5 P ib h cr pr i d op (aT6 os ⟨d,op,ty,p,af,some (g,b)⟩ ((s,.bool b)::τ) ()) (λpr' v h'=>L pr' (gK ((s,.bool b)::τ) d v) h') ())
   (L pr (gK ((s,.bool !b)::τ) d (.gU [])) h) (L pr (gK τ d (.gU [])) h) ()) ():=by
 simp only[aIX,fY,zV,←aXG (ty:=ty) (p:=p) (af:=af) (g:=some (g,b))]
 cases (os.toArray[g]?).bind (·.dst)with
 |none=>rfl
 |some s =>
  simp only[nN]
  cases b6 τ s <;> first|rfl|(rename_i cs;cases cs <;> rfl)
@[go_sem] theorem bO7 (L:List (Nat×Nat)->bP->aB->Prop) (g:Nat) (b:Bool) (t:Tag (os,(⟨d,op,ty,p,af,some (g,b)⟩:Oper),L)):aIX P ib os cr i false ⟨d,op,ty,p,af,some (g,b)⟩ pr τ h L t =
  fY (zV os g ()) (λs=>nN (b6 τ s) b (stepG P ib d op (aT6 os ⟨d,op,ty,p,af,some (g,b)⟩ ((s,.bool b)::τ) ()) (λv=>L pr (gK ((s,.bool b)::τ) d v) h) ())
   (L pr (gK ((s,.bool !b)::τ) d (.gU [])) h) (L pr (gK τ d (.gU [])) h) ()) ():=by
 simp only[aIX,fY,zV]
 cases (os.toArray[g]?).bind (·.dst)with
 |none=>rfl
 |some s =>
  simp only[nN]
  cases b6 τ s <;> first|rfl|(rename_i cs;cases cs <;> rfl)
end
def nJ (P:Program) (N:Nat) (keep ib:List Nat) (mk:Marks) (c:Code) (K:bP->aB->Prop) (Q:Exit->bP->aB->Prop) (τ:bP) (h:aB) (_:Tag (c,K,Q)):Prop:=hwp P N keep ib mk c K Q τ h
section
variable (P:Program) (N:Nat) (keep ib:List Nat) (mk:Marks) (K:bP->aB->Prop) (Q:Exit->bP->aB->Prop) (τ:bP) (h:aB)
@[go_sem] theorem bJA (t:Tag (Code.skip,K,Q)):nJ P N keep ib mk .skip K Q τ h t=K τ h:=rfl
@[go_sem] theorem bK3 (t:Tag (Code.ret,K,Q)):nJ P N keep ib mk .ret K Q τ h t=Q .ret τ h:=rfl
@[go_sem] theorem bJB (i:Nat) (t:Tag (Code.exit i,K,Q)):nJ P N keep ib mk (.exit i) K Q τ h t=Q (.exit i) τ h:=rfl
@[go_sem] theorem bK4 (a b:Code) (t:Tag (Code.seq a b,K,Q)):nJ P N keep ib mk (.seq a b) K Q τ h t=nJ P N keep ib mk a (λτ h=>nJ P N keep ib mk b K Q τ h ()) Q τ h ():=rfl
@[go_sem] theorem bJC (x:Operand) (a b:Code) (t:Tag (Code.cond x a b,K,Q)):nJ P N keep ib mk (.cond x a b) K Q τ h t=zU (qF τ x) (nJ P N keep ib mk a K Q τ h ()) (nJ P N keep ib mk b K Q τ h ()) ():=by
 simp only[nJ,hwp,zU];cases qF τ x <;> rfl
@[go_sem] theorem bFF (i:Nat) (c:Code) (t:Tag (Code.block i c,K,Q)):nJ P N keep ib mk (.block i c) K Q τ h t=nJ P N keep ib mk c K (aE1 i K Q ()) τ h ():=rfl
@[go_sem] theorem bJD (c:Code) (t:Tag (Code.loop c,K,Q)):nJ P N keep ib mk (.loop c) K Q τ h t=aE2 P N (.loop c) (aRA K Q ()) τ h ():=rfl
@[go_sem] theorem bCK (i:Nat) (os:List Oper) (t:Tag (Code.region i ⟨os⟩ false,K,Q)):nJ P N keep ib mk (.region i ⟨os⟩ false) K Q τ h t=aDG P ib os os τ h (λτ' h'=>K (Hl.prune keep τ') h') ():=rfl
@[go_sem] theorem bJE (i:Nat) (os:List Oper) (t:Tag (Code.region i ⟨os⟩ true,K,Q)):nJ P N keep ib mk (.region i ⟨os⟩ true) K Q τ h t=aDH P ib os (mk i).1 (mk i).2.2 (mk i).2.1 [] τ h (λτ' h'=>K (Hl.prune keep τ') h') ():=rfl
end
theorem aIY {P:Program} {N:Nat} {keep ib:List Nat} {mk:Marks} (hmix:P.follows .mixedOrders=true) (c:Code) (K:bP->aB->Prop) (Q:Exit->bP->aB->Prop) (τ:bP) (h:aB) (hc:gM N mk c=true) (hw:nJ P N keep ib mk c K Q τ h ()):pT P N c (aRA K Q ()) τ h :=
 rE hmix c K Q τ h hc hw
def aRC:Op->Bool
 | .box ..=>false
 | .buildSlice ..=>false
 | .call ⟨.builtin .append,_,_⟩=>false
 | _=>true
theorem fJ {P:Program} {ib:List Nat} {d:Option Tmp} {op:Op} {ρ:Operand->aE} {h:aB} {K:aE->aB->Prop} {t:Tag (op,K)} (hop:aRC op=true):j0 P ib d op ρ h K t=step P ⟨d,op,0,"",#[],none⟩ ρ h K:=by
 unfold j0 uF
 cases d with
 |none=>rfl
 |some d =>
  simp only
  split
  ·cases op <;> first|rfl|(simp[aRC]at hop;done)|(rename_i c;rcases c with⟨f,as,ats⟩;cases f <;> first|rfl|(rename_i b;cases b <;> first|rfl|(simp[aRC]at hop;done)))
  ·rfl
theorem gN {P:Program} {ib:List Nat} {d:Option Tmp} {op:Op} {ρ:Operand->aE} {K:aE->Prop} {t:Tag (op,K)} (hop:aRC op=true):stepG P ib d op ρ K t=aF3 P ⟨d,op,0,"",#[],none⟩ ρ K:=by
 unfold stepG aEZ
 cases d with
 |none=>rfl
 |some d =>
  simp only
  split
  ·cases op <;> first|rfl|(simp[aRC]at hop)
  ·rfl
def aGN (P:Program) (op:BinOp) (ty:TypeId) (x y:aE) (K:aE->Prop) (_:Tag K):Prop:=wX P op ty x y K
def aIZ (P:Program) (op:BinOp) (ty:TypeId) (c:Bool) (x y:aE) (K:aE->Prop) (_:Tag K):Prop:=wY P op ty c x y K
def lL (P:Program) (op:BinOp) (ty:TypeId) (x y:aE) (K:aE->Prop) (_:Tag K):Prop:=gL P op ty x y K
def unF (op:UnOp) (x:aE) (K:aE->Prop) (_:Tag K):Prop:=aEV op x K
def faF (d:Option TyD) (f:Nat) (x:aE) (K:aE->Prop) (_:Tag K):Prop:=aEW d f x K
def iaF (re:Option lJ) (x i:aE) (K:aE->Prop) (_:Tag K):Prop:=aEX re x i K
def ixF (d:Option TyD) (x i:aE) (K:aE->Prop) (_:Tag K):Prop:=aB1 d x i K
def ldF (r:Option lJ) (a:aE) (h:aB) (K:aE->Prop) (_:Tag K):Prop:=jW r a h K
def stF (r:Option lJ) (a v:aE) (h:aB) (K:aB->Prop) (_:Tag K):Prop:=aNI r a v h K
def alF (r:Option lJ) (h:aB) (K:aE->aB->Prop) (_:Tag K):Prop:=aEY r h K
def mkF (re:Option lJ) (l c:aE) (h:aB) (K:aE->aB->Prop) (_:Tag K):Prop:=aIH re l c h K
def slD (P:Program) (t:TypeId) (x:aE) (lo hi:Option aE) (K:aE->Prop) (_:Tag K):Prop:=rD P t x lo hi K
def slF (P:Program) (t:TypeId) (x:aE) (lo hi:Option aE) (K:aE->Prop) (_:Tag K):Prop:=mP P t x lo hi K
def a0O (P:Program) (d:Option TyD) (x:aE) (K:aE->Prop) (_:Tag K):Prop:=match d,x with
  |some (.slice _),.sl _ es _=>es.length<=9223372036854775807->K (.int .i64 es.length)
  |some (.slice _),.os _ _ _ n=>n<=9223372036854775807->K (.int .i64 n)
  |some (.slice _),.bS=>K (.int .i64 0)
  |some .str,.str s=>s.length<=9223372036854775807->K (.int .i64 s.length)
  | _,_=>False
def a3P (P:Program) (d:Option TyD) (x:aE) (K:aE->Prop) (_:Tag K):Prop:=match d,x with
  |some (.slice _),.sl _ es _=>K (.int .i64 es.length)
  |some (.slice _),.os _ _ _ n=>K (.int .i64 n)
  |some (.slice _),.bS=>K (.int .i64 0)
  |some .str,.str s=>K (.int .i64 s.length)
  | _,_=>False
def cvF (P:Program) (s:Option TyD) (d:Option TyD) (x:aE) (K:aE->Prop) (_:Tag K):Prop:=match d,x with
 |some (.int k'),.int k n=>s.isSome=true/\K (.int k' (k'.wrap n))
 |some .str,.sl 1 es _=>(match s with
  |some (.slice et)=>yU P et=some (.int .u8)/\(match bytesOf es with|some bs=>K (.str bs)|none=>False)
  | _=>False)
 | _,_=>False
def a8E (P:Program) (t:TypeId) (x:aE) (lo:Option aE) (hi mx:aE) (K:aE->Prop) (_:Tag K):Prop:=pH P t x lo hi mx K
def rdF (cr:List (Nat×Nat)) (i:Nat) (pr:List (Nat×Nat)) (r:Option lJ) (x:aE) (h:aB) (M:List (Nat×Nat)->aE->aB->Prop) (_:Tag M):Prop:=match x with
 | .op n sz j off=>jW r (.op n sz j off) h λv=>M (aQ7 cr i (some n) pr) v h
 | .ip sz es j off=>jW r (.ip sz es j off) h λv=>M (aQ7 cr i none pr) v h
 | _=>False
def a8F (c A:Prop) (_:Tag A):Prop:=c/\A
@[go_sem] theorem bPD (c A:Prop) (t:Tag A):a8F c A t=(c/\A):=rfl
@[go_sem high] theorem bJH (A:Prop) (t:Tag A):a8F True A t=A:=by simp[a8F]
def buF (P:Program) (r:Option lJ) (ps:List (Nat×aE)) (K:aE->Prop) (_:Tag K):Prop:=tN P r ps K
def exF (x:aE) (i:Nat) (K:aE->Prop) (_:Tag K):Prop:=match x with
  | .gU cs=>match cs[i]? with|some x=>K x|none=>False
  | _=>False
def ncF (x:aE) (K:aE->Prop) (_:Tag K):Prop:=match x with
  | .op n sz i k=>K (.op n sz i k)
  | .ip sz es i k=>K (.ip sz es i k)
  | _=>False
def bCN (P:Program) (f:aE) (args:List aE) (h:aB) (K:aE->aB->Prop) (_:Tag K):Prop:=match f with
  | .fn (.func g) first cap=>iV P g (first++args++cap) h K
  | _=>False
def bCO (P:Program) (f:aE) (args:List aE) (K:aE->Prop) (_:Tag K):Prop:=match f with
  | .fn (.func g) first cap=>a3L P g (first++args++cap) K
  | _=>False
def aH (P:Program) (g:FuncId) (args:List aE) (h:aB) (K:aE->aB->Prop) (_:Tag K):Prop:=iV P g args h K
def aF (P:Program) (g:FuncId) (args:List aE) (K:aE->Prop) (_:Tag K):Prop:=a3L P g args K
theorem aH.mk {P:Program} {g:FuncId} {args:List aE} {h:aB} {K:aE->aB->Prop} {t:Tag K} {r:aE} (a:fE P g args r) (k:K r h):aH P g args h K t:=fE.call a k
theorem aF.mk {P:Program} {g:FuncId} {args:List aE} {K:aE->Prop} {t:Tag K} {r:aE} (a:fE P g args r) (k:K r):aF P g args K t:=⟨r,a,k⟩
section
variable (P:Program) (ib:List Nat) (d:Option Tmp) (ρ:Operand->aE) (h:aB) (K:aE->aB->Prop) (L:aE->Prop)
@[go_sem] theorem bPG (x:Operand) (t:Tag (Op.move x,K)):j0 P ib d (.move x) ρ h K t=K (ρ x) h:=by rw[fJ rfl];rfl
@[go_sem] theorem bPH (x:Operand) (t:Tag (Op.move x,L)):stepG P ib d (.move x) ρ L t=L (ρ x):=by rw[gN rfl];rfl
@[go_sem] theorem bJI (x:Operand) (t:Tag (Op.assign x,K)):j0 P ib d (.assign x) ρ h K t=K (ρ x) h:=by rw[fJ rfl];rfl
@[go_sem] theorem bJJ (x:Operand) (t:Tag (Op.assign x,L)):stepG P ib d (.assign x) ρ L t=L (ρ x):=by rw[gN rfl];rfl
@[go_sem] theorem bPI (c a b:Operand) (t:Tag (Op.pick c a b,K)):j0 P ib d (.pick c a b) ρ h K t=zU (ρ c) (K (ρ a) h) (K (ρ b) h) ():=by
 rw[fJ rfl];simp only[step,zU];cases ρ c <;> rfl
@[go_sem] theorem bPJ (c a b:Operand) (t:Tag (Op.pick c a b,L)):stepG P ib d (.pick c a b) ρ L t=zU (ρ c) (L (ρ a)) (L (ρ b)) ():=by
 rw[gN rfl];simp only[aF3,zU];cases ρ c <;> rfl
@[go_sem] theorem bSB (op:BinOp) (ty ty':TypeId) (x y:Operand) (t:Tag (Op.binOp op ty x y ty',K)):j0 P ib d (.binOp op ty x y ty') ρ h K t=aIZ P op ty (sX y) (ρ x) (ρ y) (λv=>K v h) ():=by rw[fJ rfl];rfl
@[go_sem] theorem bSC (op:BinOp) (ty ty':TypeId) (x y:Operand) (t:Tag (Op.binOp op ty x y ty',L)):stepG P ib d (.binOp op ty x y ty') ρ L t=lL P op ty (ρ x) (ρ y) L ():=by rw[gN rfl];rfl
@[go_sem] theorem bVG (op:UnOp) (ty:TypeId) (x:Operand) (t:Tag (Op.unOp op ty x,K)):j0 P ib d (.unOp op ty x) ρ h K t=unF op (ρ x) (λv=>K v h) ():=by rw[fJ rfl];rfl
@[go_sem] theorem bVH (op:UnOp) (ty:TypeId) (x:Operand) (t:Tag (Op.unOp op ty x,L)):stepG P ib d (.unOp op ty x) ρ L t=unF op (ρ x) L ():=by rw[gN rfl];rfl
@[go_sem] theorem bPK (s e:TypeId) (x:Operand) (t:Tag (Op.convert s e x,K)):j0 P ib d (.convert s e x) ρ h K t=cvF P (yU P s) (yU P e) (ρ x) (λv=>K v h) ():=by rw[fJ rfl];rfl
@[go_sem] theorem bPL (s e:TypeId) (x:Operand) (t:Tag (Op.convert s e x,L)):stepG P ib d (.convert s e x) ρ L t=cvF P (yU P s) (yU P e) (ρ x) L ():=by rw[gN rfl];rfl
@[go_sem] theorem bVI (ty:TypeId) (x:Operand) (f:Nat) (t:Tag (Op.fieldAddr ty x f,K)):j0 P ib d (.fieldAddr ty x f) ρ h K t=faF (yU P ty) f (ρ x) (λv=>K v h) ():=by rw[fJ rfl];rfl
@[go_sem] theorem bVJ (ty:TypeId) (x:Operand) (f:Nat) (t:Tag (Op.fieldAddr ty x f,L)):stepG P ib d (.fieldAddr ty x f) ρ L t=faF (yU P ty) f (ρ x) L ():=by rw[gN rfl];rfl
@[go_sem] theorem bVK (ty:TypeId) (x i:Operand) (t:Tag (Op.indexAddr ty x i,K)):j0 P ib d (.indexAddr ty x i) ρ h K t=iaF (lP P ty) (ρ x) (ρ i) (λv=>K v h) ():=by rw[fJ rfl];rfl
@[go_sem] theorem bVL (ty:TypeId) (x i:Operand) (t:Tag (Op.indexAddr ty x i,L)):stepG P ib d (.indexAddr ty x i) ρ L t=iaF (lP P ty) (ρ x) (ρ i) L ():=by rw[gN rfl];rfl
@[go_sem] theorem bVM (ty:TypeId) (x i:Operand) (t:Tag (Op.index ty x i,K)):j0 P ib d (.index ty x i) ρ h K t=ixF (yU P ty) (ρ x) (ρ i) (λv=>K v h) ():=by rw[fJ rfl];rfl
@[go_sem] theorem bVN (ty:TypeId) (x i:Operand) (t:Tag (Op.index ty x i,L)):stepG P ib d (.index ty x i) ρ L t=ixF (yU P ty) (ρ x) (ρ i) L ():=by rw[gN rfl];rfl
@[go_sem] theorem bVO (ty:TypeId) (a:Operand) (t:Tag (Op.load ty a,K)):j0 P ib d (.load ty a) ρ h K t=ldF (iE P ty) (ρ a) h (λv=>K v h) ():=by rw[fJ rfl];rfl
@[go_sem] theorem bVP (ty:TypeId) (a v:Operand) (t:Tag (Op.store ty a v,K)):j0 P ib d (.store ty a v) ρ h K t=stF (iE P ty) (ρ a) (ρ v) h (λh'=>K .any h') ():=by rw[fJ rfl];rfl
@[go_sem] theorem bVQ (ty:TypeId) (t:Tag (Op.alloc ty,K)):j0 P ib d (.alloc ty) ρ h K t=alF (iE P ty) h K ():=by rw[fJ rfl];rfl
@[go_sem] theorem bVR (ty:TypeId) (l c:Operand) (t:Tag (Op.makeSlice ty l c,K)):j0 P ib d (.makeSlice ty l c) ρ h K t=mkF (lP P ty) (ρ l) (ρ c) h K ():=by rw[fJ rfl];rfl
@[go_sem] theorem bVS (ty:TypeId) (x:Operand) (lo hi:Option Operand) (t:Tag (Op.slice ty x lo hi none,K)):j0 P ib d (.slice ty x lo hi none) ρ h K t=slD P ty (ρ x) (lo.map ρ) (hi.map ρ) (λv=>K v h) ():=by rw[fJ rfl];rfl
@[go_sem] theorem bVT (ty:TypeId) (x:Operand) (lo hi:Option Operand) (t:Tag (Op.slice ty x lo hi none,L)):stepG P ib d (.slice ty x lo hi none) ρ L t=slF P ty (ρ x) (lo.map ρ) (hi.map ρ) L ():=by rw[gN rfl];rfl
@[go_sem] theorem bSD (ty:TypeId) (x:Operand) (lo:Option Operand) (hi mx:Operand) (t:Tag (Op.slice ty x lo (some hi) (some mx),K)):j0 P ib d (.slice ty x lo (some hi) (some mx)) ρ h K t=a8E P ty (ρ x) (lo.map ρ) (ρ hi) (ρ mx) (λv=>K v h) ():=by rw[fJ rfl];rfl
@[go_sem] theorem bSE (ty:TypeId) (x:Operand) (lo:Option Operand) (hi mx:Operand) (t:Tag (Op.slice ty x lo (some hi) (some mx),L)):stepG P ib d (.slice ty x lo (some hi) (some mx)) ρ L t=a8E P ty (ρ x) (lo.map ρ) (ρ hi) (ρ mx) L ():=by rw[gN rfl];rfl
@[go_sem] theorem bVU (cr pr:List (Nat×Nat)) (i:Nat) (ty:TypeId) (a:Operand) (M:List (Nat×Nat)->aE->aB->Prop) (t:Tag (Op.load ty a,M)):aF5 P ib h cr pr i d (.load ty a) ρ M t=rdF cr i pr (iE P ty) (ρ a) h M ():=by
 unfold aF5 aQ5 rdF;simp only[iC,if_true]
 cases ρ a <;> rfl
@[go_sem] theorem bSF (cr pr:List (Nat×Nat)) (i:Nat) (op:Op) (M:List (Nat×Nat)->aE->aB->Prop) (t:Tag (op,M)) (hop:iC op=false):aF5 P ib h cr pr i d op ρ M t=j0 P ib d op ρ h (λv h'=>a8F (aIT cr i pr h h') (M pr v h') ()) ():=by
 unfold aF5;rw[hop];rfl
@[go_sem] theorem bVV (x:Operand) (i:Nat) (t:Tag (Op.extract x i,K)):j0 P ib d (.extract x i) ρ h K t=exF (ρ x) i (λv=>K v h) ():=by rw[fJ rfl];rfl
@[go_sem] theorem bVW (x:Operand) (i:Nat) (t:Tag (Op.extract x i,L)):stepG P ib d (.extract x i) ρ L t=exF (ρ x) i L ():=by rw[gN rfl];rfl
@[go_sem] theorem bVX (x:Operand) (t:Tag (Op.nilCheck x,K)):j0 P ib d (.nilCheck x) ρ h K t=ncF (ρ x) (λv=>K v h) ():=by rw[fJ rfl];rfl
@[go_sem] theorem bVY (x:Operand) (t:Tag (Op.nilCheck x,L)):stepG P ib d (.nilCheck x) ρ L t=ncF (ρ x) L ():=by rw[gN rfl];rfl
@[go_sem] theorem bVZ (f:Fn) (fs cs:Array Operand) (t:Tag (Op.makeFunc f fs cs,K)):j0 P ib d (.makeFunc f fs cs) ρ h K t=K (.fn f (fs.toList.map ρ) (cs.toList.map ρ)) h:=by rw[fJ rfl];rfl
@[go_sem] theorem bV0 (f:Fn) (fs cs:Array Operand) (t:Tag (Op.makeFunc f fs cs,L)):stepG P ib d (.makeFunc f fs cs) ρ L t=L (.fn f (fs.toList.map ρ) (cs.toList.map ρ)):=by rw[gN rfl];rfl
@[go_sem] theorem bV1 (ty:TypeId) (ps:Array (Nat×Operand)) (t:Tag (Op.build ty ps,K)):j0 P ib d (.build ty ps) ρ h K t=buF P (iE P ty) (ps.toList.map λp=>(p.1,ρ p.2)) (λv=>K v h) ():=by rw[fJ rfl];rfl
@[go_sem] theorem bV2 (ty:TypeId) (ps:Array (Nat×Operand)) (t:Tag (Op.build ty ps,L)):stepG P ib d (.build ty ps) ρ L t=buF P (iE P ty) (ps.toList.map λp=>(p.1,ρ p.2)) L ():=by rw[gN rfl];rfl
@[go_sem] theorem bPM (f:Operand) (as:Array Operand) (ats:Array TypeId) (t:Tag (Op.call ⟨.value f,as,ats⟩,K)):j0 P ib d (.call ⟨.value f,as,ats⟩) ρ h K t=bCN P (ρ f) (as.toList.map ρ) h K ():=by rw[fJ rfl];rfl
@[go_sem] theorem bPN (f:Operand) (as:Array Operand) (ats:Array TypeId) (t:Tag (Op.call ⟨.value f,as,ats⟩,L)):stepG P ib d (.call ⟨.value f,as,ats⟩) ρ L t=bCO P (ρ f) (as.toList.map ρ) L ():=by rw[gN rfl];rfl
end
section
variable (P:Program) (ib:List Nat) (d:Option Tmp) (ρ:Operand->aE) (h:aB) (K:aE->aB->Prop) (L:aE->Prop)
def ldG (r:Option lJ) (a:aE) (K:aE->Prop) (_:Tag K):Prop:=match a with
  | .ip sz es i off=>jW r (.ip sz es i off) (λ_=>none) K
  | _=>False
@[go_sem] theorem bV3 (ty:TypeId) (a:Operand) (t:Tag (Op.load ty a,L)):stepG P ib d (.load ty a) ρ L t=ldG (iE P ty) (ρ a) L ():=by
 rw[gN rfl];simp only[aF3,ldG];cases ρ a <;> rfl
@[go_sem] theorem bSG (x:Operand) (ty:TypeId) (t:Tag (Op.call ⟨.builtin .len,#[x],#[ty]⟩,K)):j0 P ib d (.call ⟨.builtin .len,#[x],#[ty]⟩) ρ h K t=a0O P (yU P ty) (ρ x) (λv=>K v h) ():=by rw[fJ rfl];rfl
@[go_sem] theorem bSH (x:Operand) (ty:TypeId) (t:Tag (Op.call ⟨.builtin .len,#[x],#[ty]⟩,L)):stepG P ib d (.call ⟨.builtin .len,#[x],#[ty]⟩) ρ L t=a3P P (yU P ty) (ρ x) L ():=by rw[gN rfl];rfl
def a8G (x y:aE) (K:aE->Prop) (_:Tag K):Prop:=match x,y with
   | .int k a,.int k' b=>k'=k/\K (.int k (max a b))
   | _,_=>False
@[go_sem] theorem bK5 (k k':IntKind) (a b:Int) (t:Tag L):a8G (.int k a) (.int k' b) L t=(k'=k/\L (.int k (max a b))):=rfl
theorem aXH (x y:aE) (K:aE->Prop):(match x,y with
   | .int k a,.int _ b=>(match y with | .int k' _=>k'=k|_=>False)/\K (.int k (max a b))
   | _,_=>False)=a8G x y K ():=by cases x <;> cases y <;> rfl
@[go_sem] theorem bSI (x y:Operand) (ats:Array TypeId) (t:Tag (Op.call ⟨.builtin .max,#[x,y],ats⟩,K)):j0 P ib d (.call ⟨.builtin .max,#[x,y],ats⟩) ρ h K t=a8G (ρ x) (ρ y) (λv=>K v h) ():=by
 rw[fJ rfl,←aXH];rfl
@[go_sem] theorem bSJ (x y:Operand) (ats:Array TypeId) (t:Tag (Op.call ⟨.builtin .max,#[x,y],ats⟩,L)):stepG P ib d (.call ⟨.builtin .max,#[x,y],ats⟩) ρ L t=a8G (ρ x) (ρ y) L ():=by
 rw[gN rfl,←aXH];rfl
def apF (P:Program) (re:Option lJ) (t1:Option TypeId) (x y:aE) (h:aB) (K:aE->aB->Prop) (_:Tag K):Prop:=xU P re t1 x y h K
def aDI (ib:List Nat) (d:Option Tmp):Bool:=match d with|some d=>ib.contains d|none=>false
@[go_sem] theorem bFG (k:Nat):aDI ib (some k)=ib.contains k:=rfl
def apI (i:Bool) (P:Program) (re:Option lJ) (t1:Option TypeId) (x y:aE) (h:aB) (K:aE->aB->Prop) (_:Tag K):Prop:=if i then apF P re t1 x y h (aXB K) ()else apF P re t1 x y h K ()
@[go_sem] theorem bSK (x y:Operand) (a b:TypeId) (t:Tag (Op.call ⟨.builtin .append,#[x,y],#[a,b]⟩,K)):j0 P ib d (.call ⟨.builtin .append,#[x,y],#[a,b]⟩) ρ h K t=apI (aDI ib d) P (lP P a) (some b) (ρ x) (ρ y) h K ():=by
 unfold j0 uF apI aDI
 cases d with
 |none=>rfl
 |some d=>simp only;split <;> rfl
@[go_sem] theorem bV4 (re:Option lJ) (t1:Option TypeId) (x y:aE) (t:Tag K):apI true P re t1 x y h K t=apF P re t1 x y h (aXB K) ():=rfl
@[go_sem] theorem bV5 (re:Option lJ) (t1:Option TypeId) (x y:aE) (t:Tag K):apI false P re t1 x y h K t=apF P re t1 x y h K ():=rfl
def a3Q (i r:Bool) (ty:TypeId) (x:aE) (h:aB) (K:aE->aB->Prop) (_:Tag K):Prop:=if i then aIK x (λv=>K v h)else if r then aXA ty x h K else aW9 x h K
@[go_sem] theorem bSL (ty:TypeId) (x:Operand) (t:Tag (Op.box ty x,K)):j0 P ib d (.box ty x) ρ h K t=a3Q (aDI ib d) (bER ty) ty (ρ x) h K ():=by
 unfold j0 uF a3Q aDI
 cases d with
 |none=>rfl
 |some d=>simp only;split <;> rfl
@[go_sem] theorem bPQ (ty:TypeId):bER ty=(match a24 with|none=>false|some r=>decide (ty=r)):=rfl
attribute [go_sem] a24
@[go_sem] theorem bSM (r:Bool) (ty:TypeId) (x:aE) (t:Tag K):a3Q true r ty x h K t=(x.cells.all aE.flat=true/\K (.ip x.cells.length [x.cells] 0 0) h):=rfl
@[go_sem] theorem bSN (ty:TypeId) (x:aE) (t:Tag K):a3Q false true ty x h K t=(x.cells=[.jU,.bS]/\∀ n,h n=none->K (.op n 2 0 0) (aU h n (.raw ty #[.pointer none,.slice none 0 0]))):=rfl
@[go_sem] theorem bSO (ty:TypeId) (x:aE) (t:Tag K):a3Q false false ty x h K t=(x.cells.all aE.flat=true/\∀ n,h n=none->K (.op n x.cells.length 0 0) (aU h n (.row x.cells.length [x.cells.map .v]))):=rfl
def bsF (i:Bool) (re:Option lJ) (len:Nat) (ps:List (Nat×aE)) (h:aB) (K:aE->aB->Prop) (_:Tag K):Prop :=
 if i then uE re len ps (λsz es=>K (.sl sz es true) h)else uE re len ps λsz es=>∀ n,h n=none->K (.os n sz 0 len) (aU h n (.row sz (es.map (List.map .v))))
def bsG (i:Bool) (re:Option lJ) (len:Nat) (ps:List (Nat×aE)) (K:aE->Prop) (_:Tag K):Prop :=
 if i then uE re len ps (λsz es=>K (.sl sz es true))else False
@[go_sem] theorem bV6 (ty:TypeId) (len:Nat) (ps:Array (Nat×Operand)) (t:Tag (Op.buildSlice ty len ps,K)):j0 P ib d (.buildSlice ty len ps) ρ h K t=bsF (aDI ib d) (lP P ty) len (ps.toList.map λp=>(p.1,ρ p.2)) h K ():=by
 unfold j0 uF bsF aDI
 cases d with
 |none=>rfl
 |some d=>simp only;split <;> rfl
@[go_sem] theorem bV7 (ty:TypeId) (len:Nat) (ps:Array (Nat×Operand)) (t:Tag (Op.buildSlice ty len ps,L)):stepG P ib d (.buildSlice ty len ps) ρ L t=bsG (aDI ib d) (lP P ty) len (ps.toList.map λp=>(p.1,ρ p.2)) L ():=by
 unfold stepG aEZ bsG aDI
 cases d with
 |none=>rfl
 |some d=>simp only;split <;> rfl
@[go_sem] theorem bV8 (re:lJ) (len:Nat) (ps:List (Nat×aE)) (t:Tag K):bsF true (some re) len ps h K t=(re.zero.length=re.sz/\0<re.sz/\re.zero.all aE.flat=true/\len*re.sz<=16777216/\rC len re.sz ps=true/\K (.sl re.sz (uC (List.replicate len re.zero) ps) true) h):=rfl
@[go_sem] theorem bV9 (re:lJ) (len:Nat) (ps:List (Nat×aE)) (t:Tag L):bsG true (some re) len ps L t=(re.zero.length=re.sz/\0<re.sz/\re.zero.all aE.flat=true/\len*re.sz<=16777216/\rC len re.sz ps=true/\L (.sl re.sz (uC (List.replicate len re.zero) ps) true)):=rfl
@[go_sem] theorem bWA (re:lJ) (len:Nat) (ps:List (Nat×aE)) (t:Tag K):bsF false (some re) len ps h K t=(re.zero.length=re.sz/\0<re.sz/\re.zero.all aE.flat=true/\len*re.sz<=16777216/\rC len re.sz ps=true/\∀ n,h n=none->K (.os n re.sz 0 len) (aU h n (.row re.sz ((uC (List.replicate len re.zero) ps).map (List.map .v))))):=rfl
@[go_sem] theorem bK6 (g:FuncId) (first cap args:List aE) (t:Tag K):bCN P (.fn (.func g) first cap) args h K t=aH P g (first++args++cap) h K ():=rfl
@[go_sem] theorem bK7 (g:FuncId) (first cap args:List aE) (t:Tag L):bCO P (.fn (.func g) first cap) args L t=aF P g (first++args++cap) L ():=rfl
@[go_sem] theorem bK8 (ty:TypeId) (k k':IntKind) (a b:Int) (t:Tag L):lL P .add ty (.int k a) (.int k' b) L t=fY (mY .add (.int k a) (.int k' b)) L ():=by simp only[lL,gL,fY];cases mY _ _ _ <;> rfl
@[go_sem] theorem bK9 (ty:TypeId) (k k':IntKind) (a b:Int) (t:Tag L):lL P .sub ty (.int k a) (.int k' b) L t=fY (mY .sub (.int k a) (.int k' b)) L ():=by simp only[lL,gL,fY];cases mY _ _ _ <;> rfl
@[go_sem] theorem bLA (ty:TypeId) (k k':IntKind) (a b:Int) (t:Tag L):lL P .mul ty (.int k a) (.int k' b) L t=fY (mY .mul (.int k a) (.int k' b)) L ():=by simp only[lL,gL,fY];cases mY _ _ _ <;> rfl
@[go_sem] theorem bLB (ty:TypeId) (k k':IntKind) (a b:Int) (t:Tag L):lL P .and ty (.int k a) (.int k' b) L t=fY (mY .and (.int k a) (.int k' b)) L ():=by simp only[lL,gL,fY];cases mY _ _ _ <;> rfl
@[go_sem] theorem bPS (ty:TypeId) (k k':IntKind) (a b:Int) (t:Tag L):lL P .or ty (.int k a) (.int k' b) L t=fY (mY .or (.int k a) (.int k' b)) L ():=by simp only[lL,gL,fY];cases mY _ _ _ <;> rfl
@[go_sem] theorem bLC (ty:TypeId) (k k':IntKind) (a b:Int) (t:Tag L):lL P .xor ty (.int k a) (.int k' b) L t=fY (mY .xor (.int k a) (.int k' b)) L ():=by simp only[lL,gL,fY];cases mY _ _ _ <;> rfl
@[go_sem] theorem bCP (ty:TypeId) (k k':IntKind) (a b:Int) (t:Tag L):lL P .andNot ty (.int k a) (.int k' b) L t=fY (mY .andNot (.int k a) (.int k' b)) L ():=by simp only[lL,gL,fY];cases mY _ _ _ <;> rfl
@[go_sem] theorem bLD (ty:TypeId) (k k':IntKind) (a b:Int) (t:Tag L):lL P .eql ty (.int k a) (.int k' b) L t=fY (mY .eql (.int k a) (.int k' b)) L ():=by simp only[lL,gL,fY];cases mY _ _ _ <;> rfl
@[go_sem] theorem bLE (ty:TypeId) (k k':IntKind) (a b:Int) (t:Tag L):lL P .neq ty (.int k a) (.int k' b) L t=fY (mY .neq (.int k a) (.int k' b)) L ():=by simp only[lL,gL,fY];cases mY _ _ _ <;> rfl
@[go_sem] theorem bLF (ty:TypeId) (k k':IntKind) (a b:Int) (t:Tag L):lL P .lss ty (.int k a) (.int k' b) L t=fY (mY .lss (.int k a) (.int k' b)) L ():=by simp only[lL,gL,fY];cases mY _ _ _ <;> rfl
@[go_sem] theorem bLG (ty:TypeId) (k k':IntKind) (a b:Int) (t:Tag L):lL P .leq ty (.int k a) (.int k' b) L t=fY (mY .leq (.int k a) (.int k' b)) L ():=by simp only[lL,gL,fY];cases mY _ _ _ <;> rfl
@[go_sem] theorem bLH (ty:TypeId) (k k':IntKind) (a b:Int) (t:Tag L):lL P .gtr ty (.int k a) (.int k' b) L t=fY (mY .gtr (.int k a) (.int k' b)) L ():=by simp only[lL,gL,fY];cases mY _ _ _ <;> rfl
@[go_sem] theorem bLI (ty:TypeId) (k k':IntKind) (a b:Int) (t:Tag L):lL P .geq ty (.int k a) (.int k' b) L t=fY (mY .geq (.int k a) (.int k' b)) L ():=by simp only[lL,gL,fY];cases mY _ _ _ <;> rfl
@[go_sem] theorem bLJ (ty:TypeId) (k k':IntKind) (a b:Int) (t:Tag L):lL P .quo ty (.int k a) (.int k' b) L t=(k=k'/\b≠0/\L (.int k (k.wrap (a.tdiv b)))):=rfl
@[go_sem] theorem bLK (ty:TypeId) (k k':IntKind) (a b:Int) (t:Tag L):lL P .rem ty (.int k a) (.int k' b) L t=(k=k'/\b≠0/\L (.int k (a.tmod b))):=rfl
@[go_sem] theorem bLL (ty:TypeId) (k k':IntKind) (a b:Int) (t:Tag L):lL P .shl ty (.int k a) (.int k' b) L t=(0<=b/\L (.int k (k.wrap (a*2 ^ (min b.toNat k.bits))))):=rfl
@[go_sem] theorem bLM (ty:TypeId) (k k':IntKind) (a b:Int) (t:Tag L):lL P .shr ty (.int k a) (.int k' b) L t=(0<=b/\L (.int k (a.fdiv (2 ^ (min b.toNat k.bits))))):=rfl
@[go_sem] theorem bJK (ty:TypeId) (a b:List UInt8) (t:Tag L):lL P .add ty (.str a) (.str b) L t=(a.length+b.length<=9223372036854775807/\L (.str (a++b))):=rfl
@[go_sem] theorem bJL (ty:TypeId) (a b:List UInt8) (t:Tag L):lL P .eql ty (.str a) (.str b) L t=L (.bool (decide (a=b))):=rfl
@[go_sem] theorem bJM (ty:TypeId) (a b:List UInt8) (t:Tag L):lL P .neq ty (.str a) (.str b) L t=L (.bool (!decide (a=b))):=rfl
@[go_sem] theorem bJN (ty:TypeId) (a b:List UInt8) (t:Tag L):lL P .lss ty (.str a) (.str b) L t=L (.bool (Op.bytesLess a b)):=rfl
@[go_sem] theorem bJO (ty:TypeId) (a b:Bool) (t:Tag L):lL P .eql ty (.bool a) (.bool b) L t=(yU P ty=some .bool/\L (.bool (a == b))):=rfl
@[go_sem] theorem bJP (ty:TypeId) (a b:Bool) (t:Tag L):lL P .neq ty (.bool a) (.bool b) L t=(yU P ty=some .bool/\L (.bool (a != b))):=rfl
@[go_sem] theorem a7E (v:Value):sX (.const v)=true:=rfl
@[go_sem] theorem bCQ (v:Tmp):sX (.tmp v)=false:=rfl
@[go_sem] theorem a3R (v:Nat):sX (.global v)=false:=rfl
@[go_sem] theorem a8H (v:FuncId):sX (.func v)=false:=rfl
@[go_sem] theorem bLN (op:BinOp) (ty:TypeId) (c:Bool) (k:IntKind) (a:Int) (y:aE) (t:Tag L):aIZ P op ty c (.int k a) y L t=lL P op ty (.int k a) y L ():=by cases c <;> rfl
@[go_sem] theorem bJQ (op:BinOp) (ty:TypeId) (c:Bool) (a:Bool) (y:aE) (t:Tag L):aIZ P op ty c (.bool a) y L t=lL P op ty (.bool a) y L ():=by cases c <;> rfl
@[go_sem] theorem bLO (op:BinOp) (ty:TypeId) (c:Bool) (a:List UInt8) (y:aE) (t:Tag L):aIZ P op ty c (.str a) y L t=lL P op ty (.str a) y L ():=by cases c <;> rfl
@[go_sem] theorem bPT (op:BinOp) (ty:TypeId) (c:Bool) (sz:Nat) (es:List (List aE)) (b:Bool) (y:aE) (t:Tag L):aIZ P op ty c (.sl sz es b) y L t=aGN P op ty (.sl sz es b) y L ():=by cases c <;> rfl
@[go_sem] theorem bLP (ty ti:TypeId) (v:aE) (t:Tag L):aIZ P .eql ty true (.iface ti v) .lU L t=(aF2 P ty=true/\L (.bool false)):=rfl
@[go_sem] theorem bLQ (ty:TypeId) (t:Tag L):aIZ P .eql ty true .lU .lU L t=(aF2 P ty=true/\L (.bool true)):=rfl
@[go_sem] theorem bJR (ty ti:TypeId) (v:aE) (t:Tag L):aIZ P .neq ty true (.iface ti v) .lU L t=(aF2 P ty=true/\L (.bool true)):=rfl
@[go_sem] theorem bJS (ty:TypeId) (t:Tag L):aIZ P .neq ty true .lU .lU L t=(aF2 P ty=true/\L (.bool false)):=rfl
@[go_sem] theorem bLR (op:BinOp) (ty:TypeId) (k:IntKind) (a:Int) (y:aE) (t:Tag L):aGN P op ty (.int k a) y L t=lL P op ty (.int k a) y L ():=rfl
@[go_sem] theorem bJT (op:BinOp) (ty:TypeId) (a:Bool) (y:aE) (t:Tag L):aGN P op ty (.bool a) y L t=lL P op ty (.bool a) y L ():=rfl
@[go_sem] theorem bLS (op:BinOp) (ty:TypeId) (a:List UInt8) (y:aE) (t:Tag L):aGN P op ty (.str a) y L t=lL P op ty (.str a) y L ():=rfl
@[go_sem] theorem bLT (ty:TypeId) (sz:Nat) (es:List (List aE)) (b:Bool) (t:Tag L):aGN P .eql ty (.sl sz es b) .bS L t=((match yU P ty with|some (.slice _)=>True|_=>False)/\(es=[]->L (.bool true))/\L (.bool false)):=rfl
@[go_sem] theorem bJU (ty:TypeId) (sz:Nat) (es:List (List aE)) (b:Bool) (t:Tag L):aGN P .neq ty (.sl sz es b) .bS L t=((match yU P ty with|some (.slice _)=>True|_=>False)/\(es=[]->L (.bool false))/\L (.bool true)):=rfl
@[go_sem] theorem bPU (op:BinOp) (ty:TypeId) (c:Bool) (m sz i len:Nat) (y:aE) (t:Tag L):aIZ P op ty c (.os m sz i len) y L t=aGN P op ty (.os m sz i len) y L ():=by cases c <;> rfl
@[go_sem] theorem bLU (op:BinOp) (ty:TypeId) (c:Bool) (y:aE) (t:Tag L):aIZ P op ty c .bS y L t=aGN P op ty .bS y L ():=by cases c <;> rfl
@[go_sem] theorem bPV (ty:TypeId) (m sz i len:Nat) (t:Tag L):aGN P .eql ty (.os m sz i len) .bS L t=((match yU P ty with|some (.slice _)=>True|_=>False)/\(len=0->L (.bool true))/\L (.bool false)):=rfl
@[go_sem] theorem bLV (ty:TypeId) (m sz i len:Nat) (t:Tag L):aGN P .neq ty (.os m sz i len) .bS L t=((match yU P ty with|some (.slice _)=>True|_=>False)/\(len=0->L (.bool false))/\L (.bool true)):=rfl
@[go_sem] theorem bPW (ty:TypeId) (t:Tag L):aGN P .eql ty .bS .bS L t=((match yU P ty with|some (.slice _)=>True|_=>False)/\L (.bool true)):=rfl
@[go_sem] theorem bLW (ty:TypeId) (t:Tag L):aGN P .neq ty .bS .bS L t=((match yU P ty with|some (.slice _)=>True|_=>False)/\L (.bool false)):=rfl
@[go_sem] theorem bPX (b:Bool) (t:Tag L):unF .not (.bool b) L t=L (.bool (!b)):=rfl
@[go_sem] theorem bPY (k:IntKind) (n:Int) (t:Tag L):unF .neg (.int k n) L t=L (.int k (k.wrap (0-n))):=rfl
@[go_sem] theorem bPZ (s:TyD) (k k':IntKind) (n:Int) (t:Tag L):cvF P (some s) (some (.int k')) (.int k n) L t=L (.int k' (k'.wrap n)):=by simp[cvF]
@[go_sem] theorem bJV (et:TypeId) (es:List (List aE)) (b:Bool) (t:Tag L):cvF P (some (.slice et)) (some .str) (.sl 1 es b) L t=(yU P et=some (.int .u8)/\fY (bytesOf es) (λbs=>L (.str bs)) ()):=by
 simp only[cvF,fY];cases bytesOf es <;> rfl
@[go_sem] theorem bSQ (cr pr:List (Nat×Nat)) (i:Nat) (r:Option lJ) (n sz j off:Nat) (M:List (Nat×Nat)->aE->aB->Prop) (t:Tag M):rdF cr i pr r (.op n sz j off) h M t=ldF r (.op n sz j off) h (λv=>M (aQ7 cr i (some n) pr) v h) ():=rfl
@[go_sem] theorem bSR (cr pr:List (Nat×Nat)) (i:Nat) (r:Option lJ) (sz j off:Nat) (es:List (List aE)) (M:List (Nat×Nat)->aE->aB->Prop) (t:Tag M):rdF cr i pr r (.ip sz es j off) h M t=ldF r (.ip sz es j off) h (λv=>M (aQ7 cr i none pr) v h) ():=rfl
attribute [go_sem] aQ7 a3G y3 aIT bytesOf
@[go_sem] theorem bCR (x:Operand):iC (.move x)=false:=rfl
@[go_sem] theorem a7F (x:Operand):iC (.assign x)=false:=rfl
@[go_sem] theorem a8I (x:TypeId):iC (.alloc x)=false:=rfl
@[go_sem] theorem bFH (x:TypeId) (v:Operand):iC (.box x v)=false:=rfl
@[go_sem] theorem bJW (x:TypeId) (l:Nat) (ps:Array (Nat×Operand)):iC (.buildSlice x l ps)=false:=rfl
@[go_sem] theorem a8J (x:TypeId) (ps:Array (Nat×Operand)):iC (.build x ps)=false:=rfl
@[go_sem] theorem a8K (x:TypeId) (a v:Operand):iC (.store x a v)=false:=rfl
@[go_sem] theorem bJX (x:TypeId) (a v:Operand):iC (.makeSlice x a v)=false:=rfl
@[go_sem] theorem bCS (c:Call):iC (.call c)=false:=rfl
@[go_sem] theorem bJY (x:TypeId) (r:Option Operand):iC (.makeMap x r)=false:=rfl
@[go_sem] theorem a7G (x:TypeId) (a b:Operand) (c:Bool):iC (.lookup x a b c)=false:=rfl
@[go_sem] theorem bJZ (x:TypeId) (a b c:Operand):iC (.mapUpdate x a b c)=false:=rfl
@[go_sem] theorem bJ0 (x:TypeId) (a b:Operand):iC (.mapEntry x a b)=false:=rfl
@[go_sem] theorem bJ1 (x:TypeId) (a b c:Operand):iC (.entryStore x a b c)=false:=rfl
@[go_sem] theorem bFI (x:TypeId) (a b c:Operand):iC (.insert x a b c)=false:=rfl
@[go_sem] theorem a8L (x:TypeId) (a:Operand):iC (.range x a)=false:=rfl
@[go_sem] theorem bCT (a:Operand) (b:Bool):iC (.next a b)=false:=rfl
@[go_sem] theorem a8M (a:Operand):iC (.entry a)=false:=rfl
@[go_sem] theorem a8N (x:TypeId) (a:Operand) (b c d:Option Operand):iC (.slice x a b c d)=false:=rfl
@[go_sem] theorem bJ2 (x:TypeId) (a b:Operand):iC (.indexAddr x a b)=false:=rfl
@[go_sem] theorem bJ3 (x:TypeId) (a:Operand) (b:Nat):iC (.fieldAddr x a b)=false:=rfl
@[go_sem] theorem bJ4 (a:Operand) (b:Nat):iC (.extract a b)=false:=rfl
@[go_sem] theorem bJ5 (f:Fn) (a b:Array Operand):iC (.makeFunc f a b)=false:=rfl
@[go_sem] theorem bCU (a b:TypeId) (x:Operand):iC (.convert a b x)=false:=rfl
@[go_sem] theorem bFJ (o:BinOp) (a b:TypeId) (x y:Operand):iC (.binOp o a x y b)=false:=rfl
@[go_sem] theorem bCV (x y z:Operand):iC (.pick x y z)=false:=rfl
@[go_sem] theorem bJ6 (x:Operand):iC (.nilCheck x)=false:=rfl
def a3S (fs:List (Nat×TypeId×Nat)) (f:Nat) (K:Nat->Prop) (_:Tag K):Prop:=match fs[f]? with|some (off,_,sz')=>sz'≠0/\K off|none=>False
@[go_sem] theorem bJ7 (off sz:Nat) (ty:TypeId) (fs:List (Nat×TypeId×Nat)) (M:Nat->Prop) (t:Tag M):a3S ((off,ty,sz)::fs) 0 M t=(sz≠0/\M off):=rfl
@[go_sem] theorem bJ8 (x:Nat×TypeId×Nat) (fs:List (Nat×TypeId×Nat)) (n:Nat) (M:Nat->Prop) (t:Tag M):a3S (x::fs) (n+1) M t=a3S fs n M ():=rfl
@[go_sem] theorem bSS (fs:List (Nat×TypeId×Nat)) (f n sz i k:Nat) (t:Tag L):faF (some (.st fs)) f (.op n sz i k) L t=a3S fs f (λoff=>L (.op n sz i (k+off))) ():=rfl
@[go_sem] theorem bST (fs:List (Nat×TypeId×Nat)) (f sz i k:Nat) (es:List (List aE)) (t:Tag L):faF (some (.st fs)) f (.ip sz es i k) L t=a3S fs f (λoff=>L (.ip sz es i (k+off))) ():=rfl
@[go_sem] theorem bSU (re:lJ) (sz:Nat) (es:List (List aE)) (b:Bool) (k:IntKind) (n:Int) (t:Tag L):iaF (some re) (.sl sz es b) (.int k n) L t=(re.sz=sz/\0<=n/\n<es.length/\L (.ip sz es n.toNat 0)):=rfl
@[go_sem] theorem bSV (re:lJ) (m sz i0 len:Nat) (k:IntKind) (n:Int) (t:Tag L):iaF (some re) (.os m sz i0 len) (.int k n) L t=(re.sz=sz/\0<=n/\n<len/\L (.op m sz (i0+n.toNat) 0)):=rfl
@[go_sem] theorem bP0 (s:List UInt8) (k:IntKind) (n:Int) (t:Tag L):ixF (some .str) (.str s) (.int k n) L t=(0<=n/\fY s[n.toNat]? (λc=>L (.int .u8 c.toNat)) ()):=by
 simp only[ixF,aB1,fY];cases s[n.toNat]? <;> rfl
@[go_sem] theorem bSW (r:lJ) (sz i off:Nat) (es:List (List aE)) (t:Tag L):ldF (some r) (.ip sz es i off) h L t=fY es[i]? (λe=>fY (ld r e off) L ()) ():=by
 simp only[ldF,jW,fY]
 cases es[i]? with
 |none=>rfl
 |some e=>simp only;cases ld r e off <;> rfl
@[go_sem] theorem bSX (r:lJ) (sz i off:Nat) (es:List (List aE)) (t:Tag L):ldG (some r) (.ip sz es i off) L t=fY es[i]? (λe=>fY (ld r e off) L ()) ():=by
 simp only[ldG,jW,fY]
 cases es[i]? with
 |none=>rfl
 |some e=>simp only;cases ld r e off <;> rfl
def aT8 (o:Option bV) (K:Nat->List (List Cell)->Prop) (_:Tag K):Prop:=match o with|some (.row sz es)=>K sz es|_=>False
@[go_sem] theorem bLX (sz:Nat) (es:List (List Cell)) (M:Nat->List (List Cell)->Prop) (t:Tag M):aT8 (some (.row sz es)) M t=M sz es:=rfl
@[go_sem] theorem bSY (r:lJ) (n sz i off:Nat) (t:Tag L):ldF (some r) (.op n sz i off) h L t=aT8 (h n) (λsz' es=>sz'=sz/\fY es[i]? (λe=>fY (aFW r e off) L ()) ()) ():=by
 simp only[ldF,jW,aT8]
 cases h n with
 |none=>rfl
 |some o =>
  cases o with
  |row sz' es =>
   simp only[fY]
   cases es[i]? with
   |none=>rfl
   |some e=>simp only;cases aFW r e off <;> rfl
  | _=>rfl
@[go_sem] theorem bSZ (r:lJ) (n sz i off:Nat) (v:aE) (M:aB->Prop) (t:Tag M):stF (some r) (.op n sz i off) v h M t=aT8 (h n) (λsz' es=>sz'=sz/\fY es[i]? (λe=>v.cells.all aE.flat=true/\v.cells.length=r.sz/\off+r.sz<=e.length/\M (aU h n (.row sz (es.set i (pE e off v.cells))))) ()) ():=by
 simp only[stF,aNI,aT8]
 cases h n with
 |none=>rfl
 |some o =>
  cases o with
  |row sz' es=>simp only[fY];cases es[i]? <;> rfl
  | _=>rfl
@[go_sem] theorem bS0 (re:lJ) (t1:Option TypeId) (n sz i len:Nat) (y:aE) (t:Tag K):apF P (some re) t1 (.os n sz i len) y h K t=(re.zero.length=re.sz/\0<re.sz/\zL P t1=true/\re.sz=sz/\aT8 (h n) (λsz' es=>sz'=sz/\i+len<=es.length/\fY (vB h sz y) (λys=>(len+ys.length)*re.bytes<=140737488355328/\len+ys.length<=9223372036854775807 /\
  ∀ b,h b=none->K (.os b sz 0 (len+ys.length)) (aU (aU h n .gone) b (.row sz ((es.drop i).take len++ys.map (List.map .v))))) ()) ()):=by
 simp only[apF,xU,aT8]
 cases h n with
 |none=>rfl
 |some o =>
  cases o with
  |row sz' es=>simp only[fY];cases vB h sz y <;> rfl
  | _=>rfl
@[go_sem] theorem bS1 (re:lJ) (t1:Option TypeId) (sz:Nat) (es:List (List aE)) (tg:Bool) (y:aE) (t:Tag K):apF P (some re) t1 (.sl sz es tg) y h K t=(re.zero.length=re.sz/\0<re.sz/\zL P t1=true/\fY (aC8 re.sz (.sl sz es tg)) (λolds=>fY (vB h re.sz y) (λys=>(ys=[]->K (.sl sz es tg) h)/\(ys≠[]->(olds.length+ys.length)*re.bytes<=140737488355328/\olds.length+ys.length<=9223372036854775807 /\
  ∀ n,h n=none->K (.os n re.sz 0 (olds.length+ys.length)) (aU h n (.row re.sz ((olds++ys).map (List.map .v)))))) ()) ()):=by
 simp only[apF,xU]
 cases hd:aC8 re.sz (.sl sz es tg)with
 |none=>rfl
 |some olds=>simp only[fY];cases vB h re.sz y <;> rfl
@[go_sem] theorem bP1 (re:lJ) (t1:Option TypeId) (y:aE) (t:Tag K):apF P (some re) t1 .bS y h K t=(re.zero.length=re.sz/\0<re.sz/\zL P t1=true/\fY (vB h re.sz y) (λys=>(ys=[]->K .bS h)/\(ys≠[]->((([]:List (List aE)).length)+ys.length)*re.bytes<=140737488355328/\(([]:List (List aE)).length)+ys.length<=9223372036854775807 /\
  ∀ n,h n=none->K (.os n re.sz 0 ((([]:List (List aE)).length)+ys.length)) (aU h n (.row re.sz (([]++ys).map (List.map .v)))))) ()):=by
 simp only[apF,xU,aC8]
 cases vB h re.sz y <;> rfl
@[go_sem] theorem bLY (r:lJ) (t:Tag K):alF (some r) h K t=(r.zero≠[]/\r.zero.all aE.flat=true/\∀ n,h n=none->K (.op n r.zero.length 0 0) (aU h n (.row r.zero.length [r.zero.map .v]))):=rfl
@[go_sem] theorem bP2 (re:lJ) (k k':IntKind) (a b:Int) (t:Tag K):mkF (some re) (.int k a) (.int k' b) h K t=(re.zero.length=re.sz/\0<re.sz/\re.zero.all aE.flat=true/\0<=a/\a<=b/\b<=281474976710656/\re.bytes*b<=281474976710656 /\
    ∀ n,h n=none->K (.os n re.sz 0 a.toNat) (aU h n (.row re.sz ((List.replicate b.toNat re.zero).map (List.map .v))))):=rfl
@[go_sem] theorem bP3 (et:TypeId) (sz:Nat) (es:List (List aE)) (b:Bool) (t:Tag L):a0O P (some (.slice et)) (.sl sz es b) L t=(es.length<=9223372036854775807->L (.int .i64 es.length)):=rfl
@[go_sem] theorem bP4 (et:TypeId) (m sz i n:Nat) (t:Tag L):a0O P (some (.slice et)) (.os m sz i n) L t=(n<=9223372036854775807->L (.int .i64 n)):=rfl
@[go_sem] theorem bLZ (et:TypeId) (t:Tag L):a0O P (some (.slice et)) .bS L t=L (.int .i64 0):=rfl
@[go_sem] theorem bL0 (s:List UInt8) (t:Tag L):a0O P (some .str) (.str s) L t=(s.length<=9223372036854775807->L (.int .i64 s.length)):=rfl
@[go_sem] theorem bP5 (et:TypeId) (sz:Nat) (es:List (List aE)) (b:Bool) (t:Tag L):a3P P (some (.slice et)) (.sl sz es b) L t=L (.int .i64 es.length):=rfl
@[go_sem] theorem bP6 (et:TypeId) (m sz i n:Nat) (t:Tag L):a3P P (some (.slice et)) (.os m sz i n) L t=L (.int .i64 n):=rfl
@[go_sem] theorem bL1 (et:TypeId) (t:Tag L):a3P P (some (.slice et)) .bS L t=L (.int .i64 0):=rfl
@[go_sem] theorem bL2 (s:List UInt8) (t:Tag L):a3P P (some .str) (.str s) L t=L (.int .i64 s.length):=rfl
@[go_sem] theorem bP7 (cs:List aE) (i:Nat) (t:Tag L):exF (.gU cs) i L t=fY cs[i]? L ():=by
 simp only[exF,fY];cases cs[i]? <;> rfl
@[go_sem] theorem bS2 (n sz i k:Nat) (t:Tag L):ncF (.op n sz i k) L t=L (.op n sz i k):=rfl
@[go_sem] theorem bS3 (sz i k:Nat) (es:List (List aE)) (t:Tag L):ncF (.ip sz es i k) L t=L (.ip sz es i k):=rfl
@[go_sem] theorem bL3 (r:lJ) (ps:List (Nat×aE)) (t:Tag L):buF P (some r) ps L t=(zO P r.d=true/\r.zero≠[]/\xS (sD P r.d) r.zero.length ps=true/\L (.agg (aIF (sD P r.d) r.zero ps))):=rfl
@[go_sem] theorem bS4 (ty:TypeId) (sz:Nat) (es:List (List aE)) (b:Bool) (lo hi:Option aE) (t:Tag L):slF P ty (.sl sz es b) lo hi L t=fY (lP P ty) (λre=>re.sz=sz/\fY (jV 0 lo) (λl=>fY (jV es.length hi) (λm=>0<=l/\l<=m/\m<=es.length/\L (.sl sz ((es.take m.toNat).drop l.toNat) (b && decide (m=es.length)))) ()) ()) ():=by
 simp only[slF,mP,fY]
 cases lP P ty with
 |none=>rfl
 |some re =>
  simp only
  cases jV 0 lo with
  |none=>rfl
  |some l=>simp only;cases jV es.length hi <;> rfl
@[go_sem] theorem bS5 (ty:TypeId) (n sz i len:Nat) (lo hi:Option aE) (t:Tag L):slF P ty (.os n sz i len) lo hi L t=fY (lP P ty) (λre=>re.sz=sz/\fY (jV 0 lo) (λl=>fY (jV len hi) (λm=>0<=l/\l<m/\m<=len/\L (.os n sz (i+l.toNat) (m.toNat-l.toNat))) ()) ()) ():=by
 simp only[slF,mP,fY]
 cases lP P ty with
 |none=>rfl
 |some re =>
  simp only
  cases jV 0 lo with
  |none=>rfl
  |some l=>simp only;cases jV len hi <;> rfl
@[go_sem] theorem bP8 (ty:TypeId) (s:List UInt8) (lo hi:Option aE) (t:Tag L):slD P ty (.str s) lo hi L t=slF P ty (.str s) lo hi L ():=by cases hi <;> rfl
@[go_sem] theorem bS6 (ty:TypeId) (sz:Nat) (es:List (List aE)) (b:Bool) (lo hi:Option aE) (t:Tag L):slD P ty (.sl sz es b) lo hi L t=slF P ty (.sl sz es b) lo hi L ():=by cases hi <;> rfl
@[go_sem] theorem bS7 (ty:TypeId) (n sz i len:Nat) (lo:Option aE) (y:aE) (t:Tag L):slD P ty (.os n sz i len) lo (some y) L t=slF P ty (.os n sz i len) lo (some y) L ():=rfl
@[go_sem] theorem bP9 (ty:TypeId) (n sz i len:Nat) (lo:Option aE) (t:Tag L):slD P ty (.os n sz i len) lo none L t=fY (lP P ty) (λre=>re.sz=sz/\fY (jV 0 lo) (λl=>0<=l/\l<=len/\(l<len->L (.os n sz (i+l.toNat) (len-l.toNat)))/\(l=len->L (.os n sz (i+len) 0)/\L (.sl sz [] true))) ()) ():=by
 simp only[slD,rD,fY]
 cases lP P ty with
 |none=>rfl
 |some re =>
  simp only
  cases jV 0 lo <;> rfl
@[go_sem] theorem bQA (ty:TypeId) (sz:Nat) (es:List (List aE)) (b:Bool) (lo:Option aE) (hi mx:aE) (t:Tag L):a8E P ty (.sl sz es b) lo hi mx L t=fY (lP P ty) (λre=>re.sz=sz/\fY (jV 0 lo) (λl=>fY (jV es.length (some hi)) (λm=>fY (jV 0 (some mx)) (λM=>0<=l/\l<=m/\m<=M/\M<=es.length/\L (.sl sz ((es.take m.toNat).drop l.toNat) (decide (M=m)))) ()) ()) ()) ():=by
 simp only[a8E,pH,fY]
 cases lP P ty with
 |none=>rfl
 |some re =>
  simp only
  cases jV 0 lo with
  |none=>rfl
  |some l =>
   simp only
   cases jV es.length (some hi)with
   |none=>rfl
   |some m=>simp only;cases jV 0 (some mx) <;> rfl
def aT9 (P:Program) (τ:bP) (h:aB) (l:List ResultVar) (M:List aE->Prop) (_:Tag M):Prop:=a3D P τ h l M
@[go_sem] theorem bL4 (τ:bP) (M:List aE->Prop) (t:Tag M):aT9 P τ h [] M t=M []:=rfl
@[go_sem] theorem bL5 (τ:bP) (s:Tmp) (l:List ResultVar) (M:List aE->Prop) (t:Tag M):aT9 P τ h (.tmp s::l) M t=aT9 P τ h l (λvs=>M (b6 τ s::vs)) ():=rfl
@[go_sem] theorem bJ9 (τ:bP) (a:Tmp) (ty:TypeId) (l:List ResultVar) (M:List aE->Prop) (t:Tag M):aT9 P τ h (.cell a ty::l) M t=ldF (iE P ty) (b6 τ a) h (λv=>aT9 P τ h l (λvs=>M (v::vs)) ()) ():=rfl
def aRD (vs:List aE) (L:aE->Prop) (_:Tag L):Prop:=match vs with|[v]=>L v|vs=>L (.gU vs)
@[go_sem] theorem bKA (t:Tag L):aRD [] L t=L (.gU []):=rfl
@[go_sem] theorem bKB (v:aE) (t:Tag L):aRD [v] L t=L v:=rfl
@[go_sem] theorem bKC (v w:aE) (vs:List aE) (t:Tag L):aRD (v::w::vs) L t=L (.gU (v::w::vs)):=rfl
end
def lW (P:Program) (rs:Array ResultVar) (K:aE->aB->Prop) (_:Tag K):Exit->bP->aB->Prop:=aDF P rs K
section
variable (P:Program) (rs:Array ResultVar) (K:aE->aB->Prop) (τ:bP) (h:aB)
@[go_sem] theorem a8O (t:Tag K):lW P rs K t .normal τ h=aT9 P τ h rs.toList (λvs=>aRD vs (λv=>K v h) ()) ():=rfl
@[go_sem] theorem bKD (t:Tag K):lW P rs K t .ret τ h=aT9 P τ h rs.toList (λvs=>aRD vs (λv=>K v h) ()) ():=rfl
@[go_sem] theorem bFK (i:Nat) (t:Tag K):lW P rs K t (.exit i) τ h=False:=rfl
end
theorem bS8 {P:Program} {f:FuncId} {fn:Func} {c:Code} (N:Nat) (keep ib:List Nat) (mk:Marks) {args:List aE} {r:aE} (hmix:P.follows .mixedOrders=true) (hf:P.funcs[f]?=some fn) (hb:fn.body=some c)
  (hck:(iY P f && decide (fn.ntmps=N) && gM N mk c)=true) (hl:args.length<=N)
  (hw:∀ h,nJ P N keep ib mk c (λτ h'=>lW P fn.results (λr' h'=>r'=r/\h.le h') () .normal τ h') (lW P fn.results (λr' h'=>r'=r/\h.le h') ()) (o7 0 args) h ()):fE P f args r :=
 a79 N keep ib mk hmix hf hb hck hl hw
theorem bS9 {P:Program} {f:FuncId} {fn:Func} {c:Code} (N:Nat) (keep ib:List Nat) (mk:Marks) {args:List aE} {r:aE} (hmix:P.follows .mixedOrders=true) (hf:P.funcs[f]?=some fn) (hb:fn.body=some c)
  (hck:(iY P f && decide (fn.ntmps=N) && gM N mk c)=true) (hl:args.length<=N)
  (hw:∀ h,nJ P N keep ib mk c (λτ h'=>lW P fn.results (λr' h'=>Shift r' h' r h) () .normal τ h') (lW P fn.results (λr' h'=>Shift r' h' r h) ()) (o7 0 args) h ()):fE P f args r :=
 a3O N keep ib mk hmix hf hb hck hl hw
theorem aQ8 {P:Program} {N:Nat} {keep ib:List Nat} {mk:Marks} {c:Code} {Q:Exit->bP->aB->Prop} {τ:bP} {h:aB} {t:Tag (Code.loop c,Q)} {α:Type} (hmix:P.follows .mixedOrders=true) (hc:gM N mk c=true) (S:α->bP) (H:α->aB) (side:α->Prop) (μ:α->Nat) (x₀:α)
  (h₀:cR (S x₀) τ/\(H x₀).le h/\side x₀)
  (round:∀ x,side x->nJ P N keep ib mk c (λτ' h'=>∃ x',cR (S x') τ'/\(H x').le h'/\side x'/\μ x'<μ x) Q (S x) (H x) ()):aE2 P N (.loop c) Q τ h t :=
 pT.aQ8 S H side μ x₀ h₀ λx hx=>aIY hmix c _ _ _ _ hc (round x hx)
theorem fU {P:Program} {f:FuncId} {fn:Func} {c:Code} (N:Nat) (keep ib:List Nat) (mk:Marks) {args:List aE} {r:aE} (hf:P.funcs[f]?=some fn) (hw:∀ h,nJ P N keep ib mk c (λτ h'=>lW P fn.results (λr' h'=>r'=r/\h.le h') () .normal τ h') (lW P fn.results (λr' h'=>r'=r/\h.le h') ()) (o7 0 args) h ()) (hmix:P.follows .mixedOrders=true:=by exact mix) (hb:fn.body=some c:=by rfl) (hck:(iY P f && decide (fn.ntmps=N) && gM N mk c)=true:=by kernel_rfl) (hl:args.length<=N:=by simp):fE P f args r :=
 bS8 N keep ib mk hmix hf hb hck hl hw
theorem lS {P:Program} {f:FuncId} {fn:Func} {c:Code} (N:Nat) (keep ib:List Nat) (mk:Marks) {args:List aE} {r:aE} (hf:P.funcs[f]?=some fn) (hw:∀ h,nJ P N keep ib mk c (λτ h'=>lW P fn.results (λr' h'=>Shift r' h' r h) () .normal τ h') (lW P fn.results (λr' h'=>Shift r' h' r h) ()) (o7 0 args) h ()) (hmix:P.follows .mixedOrders=true:=by exact mix) (hb:fn.body=some c:=by rfl) (hck:(iY P f && decide (fn.ntmps=N) && gM N mk c)=true:=by kernel_rfl) (hl:args.length<=N:=by simp):fE P f args r :=
 bS9 N keep ib mk hmix hf hb hck hl hw
theorem cM {P:Program} {N:Nat} (keep ib:List Nat) (mk:Marks) {c:Code} {Q:Exit->bP->aB->Prop} {τ:bP} {h:aB} {t:Tag (Code.loop c,Q)} {α:Type} (S:α->bP) (H:α->aB) (side:α->Prop) (μ:α->Nat) (x₀:α) (h₀:cR (S x₀) τ/\(H x₀).le h/\side x₀) (round:∀ x,side x->nJ P N keep ib mk c (λτ' h'=>∃ x',cR (S x') τ'/\(H x').le h'/\side x'/\μ x'<μ x) Q (S x) (H x) ()) (hmix:P.follows .mixedOrders=true:=by exact mix) (hc:gM N mk c=true:=by kernel_rfl):aE2 P N (.loop c) Q τ h t :=
 aQ8 (keep:=keep) (ib:=ib) (mk:=mk) hmix hc S H side μ x₀ h₀ round
theorem Sub.a7R {sz sz' i off:Nat} {es:List (List aE)} {e e':List aE} (he:es[i]?=some e) (h':(e.drop off).take sz'=e') (hl:e'.length=sz'):Sub (.ip sz es i off) (.ip sz' [e'] 0 0):=λE h w v r=>by
 cases r with
 |ip _ _ _ _ b o cv hi hs hc h1 hr =>
  have hat:∀ i' j x,iJ [e'] i' j=some x->i'=0/\iJ es i (off+j)=some x:=by
   intro i' j x hx
   obtain⟨e1,h1,h2⟩:=kP hx
   cases i' with
   |zero =>
    simp at h1;subst h1
    refine⟨rfl,?_⟩
    subst h'
    rw[List.getElem?_take]at h2
    split at h2
    ·rw[aHW]at h2
     simp[iJ,he,h2]
    ·cases h2
   |succ n=>simp at h1
  have:=fC.ip (E:=E) (h:=h) (w:=w) sz' [e'] 0 0 b (o+i*sz+off) (λi' j=>cv (i+i') (off+j)) hi (λe1 he'=>by simp at he';subst he';exact hl)
   (λi' j x hx=>by obtain⟨rfl,hy⟩:=hat i' j x hx;have:=hc i _ x hy;simpa[aTT]using this)
   (λi' j x hx=>by obtain⟨rfl,hy⟩:=hat i' j x hx;exact h1 i _ x hy)
   (λi' j x hx=>by obtain⟨rfl,hy⟩:=hat i' j x hx;exact hr i _ x hy)
  simpa using this
theorem Sub.ip {sz i:Nat} {es:List (List aE)} {e:List aE} (he:es[i]?=some e) (hl:e.length=sz):Sub (.ip sz es i 0) (.ip sz [e] 0 0) :=
 Sub.a7R he (by rw[aP0,nI aA]) hl
open Go.ChangeShapes Go.WideShapes
def Dat (P:Program):Nat->TypeId->List aE->Prop
 |0,_,_=>False
 |n+1,t,xs =>
  match P.underlying t with
  |some .bool=>∃ b,xs=[.bool b]
  |some (.int k)=>∃ i,xs=[.int k i]/\(Lit.int k i).wf=true
  |some .string=>∃ s,xs=[.str s]
  |some (.slice e)=>∃ es,xs=[.sl (P.cellsOf e) es false]/\∀ y∈es,Dat P n e y
  |some (.struct fs)=>xs.length=P.cellsOf t/\∀ (i:Nat) (f:Field),fs[i]?=some f->Dat P n f.type ((xs.drop f.offset).take (P.cellsOf f.type))
  | _=>False
def zW (P:Program):List Field->Nat->Option Nat
 | [],o=>some o
 |f::fs,o=>if f.offset=o then zW P fs (o+P.cellsOf f.type)else none
def a0P (P:Program) (T:List TypeId):Bool:=T.all λt =>
 match P.underlying t with
 |some .bool|some (.int _)|some .string=>P.cellsOf t == 1
 |some (.slice e)=>P.cellsOf t == 1 && decide (0<P.cellsOf e) && T.contains e
 |some (.struct fs)=>(zW P fs.toList 0 == some (P.cellsOf t)) && fs.toList.all (λf=>T.contains f.type)
 | _=>false
theorem aDJ {P:Program} {T:List TypeId} (hT:a0P P T=true):∀ (n:Nat) (t:TypeId) (xs:List aE),t∈T->Dat P n t xs->xs.length=P.cellsOf t/\xs.all aE.flat=true
 |0,_,_,_,h=>h.elim
 |n+1,t,xs,ht,h=>by
  have hd:=uX.1 hT t ht
  unfold Dat at h
  split at h
  ·rename_i hu;rw[hu]at hd;obtain⟨b,rfl⟩:=h;exact⟨by simpa using(of_decide_eq_true hd).symm,rfl⟩
  ·rename_i hu;rw[hu]at hd;obtain⟨i,rfl,_⟩:=h;exact⟨by simpa using(of_decide_eq_true hd).symm,rfl⟩
  ·rename_i hu;rw[hu]at hd;obtain⟨s,rfl⟩:=h;exact⟨by simpa using(of_decide_eq_true hd).symm,rfl⟩
  ·rename_i e hu
   rw[hu]at hd;obtain⟨es,rfl,_⟩:=h
   simp only[l7,beq_iff_eq]at hd
   exact⟨by simp[hd.1.1],rfl⟩
  ·rename_i fs hu
   rw[hu]at hd
   obtain⟨hl,hf⟩:=h
   refine⟨hl,?_⟩
   simp only[l7,beq_iff_eq,uX]at hd
   have key:∀ (l:List Field) (o:Nat),(∀ f∈l,T.contains f.type=true/\Dat P n f.type ((xs.drop f.offset).take (P.cellsOf f.type)))->zW P l o=some (P.cellsOf t)->(xs.drop o).all aE.flat=true:=by
    intro l
    induction l with
    |nil=>intro o _ ho;simp only[zW,aZ6]at ho;rw[a2G aA];rfl
    |cons f l ih =>
     intro o hl' ho
     simp only[zW]at ho
     split at ho
     ·rename_i e
      have h1:=hl' f zD
      have h2:=(aDJ hT n _ _ (by simpa using h1.1) h1.2).2
      have h3:=ih _ (λg hg=>hl' g (v9 _ hg)) ho
      rw[e]at h2
      rw[←bEM (P.cellsOf f.type) (xs.drop o),List.all_append,h2,List.drop_drop,h3];rfl
     ·cases ho
   have:=key fs.toList 0 (λf hf'=>by
    obtain⟨i,hi⟩:=a7L hf'
    exact⟨hd.2 f hf',hf i f (by simpa using hi)⟩) hd.1
   simpa using this
  ·exact h.elim
section
variable {H:Type} {enc:TypeId×Value->H} {P:Program} {w:World} {base:Nat} {sp:Nat->Bool} {held:Bool}
theorem aE3 {E:Env} {h:aB} {xs:List aE} {vs:List Value} (hr:dV E h w xs vs) (hf:xs.all aE.flat=true) (j:Nat) (v:Value) (hv:vs[j]?=some v):v.oneCell'=true:=by
 obtain⟨hj,_⟩:=iO.1 hv
 have hl:=hr.length
 have hx:xs[j]?=some xs[j]:=eY aA
 exact(fC.qD (hr.get j _ _ hx hv) (uX.1 hf _ (rS hx))).1
theorem aI1 {T:List TypeId} (hT:a0P P T=true) {E:Env} {h:aB} (hI:∀ b,b<w.heap.size->nX E h w b) :
  ∀ (n:Nat) (t:TypeId) (cs:List Value) (x:DataW H×List MemPlace),t∈T->DataW.trod enc P w base sp held n t cs=some x->∃ xs,Dat P n t xs/\dV E h w xs cs
 |0,t,cs,x,_,hx=>by simp[DataW.trod]at hx
 |n+1,t,cs,x,ht,hx=>by
  have hd:=uX.1 hT t ht
  match hu:P.underlying t with
  |some .bool =>
   obtain⟨b,rfl,_⟩:=DataW.trod_bool hu hx
   exact⟨[.bool b],by simp only[Dat,hu];exact⟨b,rfl⟩,⟨.bool b,trivial⟩⟩
  |some (.int k) =>
   obtain⟨i,rfl,_,hw⟩:=DataW.trod_int hu hx
   exact⟨[.int k i],by simp only[Dat,hu];exact⟨i,rfl,hw⟩,⟨.int k i,trivial⟩⟩
  |some .string =>
   obtain⟨s,rfl,_,hs⟩:=DataW.trod_string hu hx
   refine⟨[.str s.data.toList],by simp only[Dat,hu];exact⟨_,rfl⟩,⟨?_,trivial⟩⟩
   have:s=⟨s.data.toList.toArray⟩:=by cases s;simp
   rw[this]
   exact .str _ (by simpa using hs)
  |some (.slice e) =>
   rw[hu]at hd
   simp only[l7,beq_iff_eq,decide_eq_true_eq,a7Q]at hd
   rcases DataW.trod_slice hu hx with⟨rfl,_⟩|⟨a,len,cap,elems,rest,m,hm,rfl,_,hb,hlc,hmax,hel,hcell,_,_⟩
   ·exact⟨[.sl (P.cellsOf e) [] false],by simp only[Dat,hu];exact⟨[],rfl,by simp⟩,⟨.sl0 _ _ _ _ (λe=>by simp at e) dG trivial,trivial⟩⟩
   ·obtain rfl:n=m:=by omega

    have each:∀ i,i<len->∃ ys vs,Dat P n e ys/\dV E h w ys vs/\w.cells? base (a.add (i*P.cellsOf e)) (P.cellsOf e)=some vs:=by
     intro i hi
     have h1:=hcell i hi
     have hi':i<elems.length:=by omega
     rw[eY hi']at h1
     simp only[Option.bind_eq_some_iff]at h1
     obtain⟨vs,h2,h3⟩:=h1
     obtain⟨ys,h4,h5⟩:=aI1 hT hI n e vs _ hd.2 h3
     exact⟨ys,vs,h4,h5,h2⟩
    let ys:Nat->List aE:=λi=>if hi:i<len then Classical.choose (each i hi)else[]
    have hys:∀ i,i<len->∃ vs,Dat P n e (ys i)/\dV E h w (ys i) vs/\w.cells? base (a.add (i*P.cellsOf e)) (P.cellsOf e)=some vs:=by
     intro i hi
     have:=Classical.choose_spec (each i hi)
     simpa only[ys,dif_pos hi]using this
    by_cases h0:len=0
    ·subst h0
     exact⟨[.sl (P.cellsOf e) [] false],by simp only[Dat,hu];exact⟨[],rfl,by simp⟩,⟨.sl0 _ _ _ _ (λe=>by simp at e) hmax trivial,trivial⟩⟩
    have hpos:0<P.cellsOf e:=hd.1.2

    obtain⟨b,o,spot⟩:=a
    obtain⟨vs0,_,_,hc0⟩:=hys 0 aA
    have bTB:=World.cells?_some hc0
    have hz:w.cell? ((Addr.add ⟨b,o,spot⟩ (0*P.cellsOf e)).add 0)=vs0[0]?:=bTB.2.2 0 hpos
    have hv0:vs0[0]?=some vs0[0]:=eY aA
    rw[hv0]at hz
    have hspot:spot=none:=by
     have:=World.cell?_spot hz
     simpa[Addr.add]using this
    subst hspot
    have hblt:b<w.heap.size:=by
     have:=World.cells?_block hc0 hpos
     simpa[Addr.add]using this
    have hmap:∀ i,i<len->((List.range len).map ys)[i]?=some (ys i):=λi hi=>by simp[hi]
    refine⟨[.sl (P.cellsOf e) ((List.range len).map ys) false],?_,⟨?_,trivial⟩⟩
    ·simp only[Dat,hu]
     refine⟨_,rfl,λy hy=>?_⟩
     simp only[lA,aGK]at hy
     obtain⟨i,hi,rfl⟩:=hy
     obtain⟨vs,h1,_⟩:=hys i hi
     exact h1
    ·have hlen:len=((List.range len).map ys).length:=by simp
     have cells:∀ i j x,iJ ((List.range len).map ys) i j=some x->∃ v,w.cell? ⟨b,o+i*P.cellsOf e+j,none⟩=some v/\v.oneCell'=true/\fC E h w x v:=by
      intro i j x hx
      have hi:i<len:=by have:=a23 hx;simpa using this
      obtain⟨y,hy,hj⟩:=kP hx
      rw[hmap i hi]at hy
      obtain rfl:=gH hy
      obtain⟨vs,h1,h2,h3⟩:=hys i hi
      have hone:=aDJ hT n e _ hd.2 h1
      have hjl:j<(ys i).length:=(iO.1 hj).1
      have h4:=World.cells?_some h3
      have hjv:j<vs.length:=by rw[h2.length]at hjl;exact hjl
      have hv:vs[j]?=some vs[j]:=eY hjv
      refine⟨vs[j],?_,aE3 h2 hone.2 j _ hv,h2.get j x _ hj hv⟩
      have h5:=h4.2.2 j aA
      rw[hv]at h5
      rw[←h5]
      rw[lV,lV]
     have cellsC:∀ i j,∃ v,∀ x,iJ ((List.range len).map ys) i j=some x->w.cell? ⟨b,o+i*P.cellsOf e+j,none⟩=some v/\v.oneCell'=true/\fC E h w x v:=by
      intro i j
      match hx:iJ ((List.range len).map ys) i j with
      |none=>exact⟨.bool true,λx h=>by simp at h⟩
      |some x =>
       obtain⟨v,h1⟩:=cells i j x hx
       exact⟨v,λy hy=>by obtain rfl:=gH hy;exact h1⟩
     let cv:Nat->Nat->Value:=λi j=>Classical.choose (cellsC i j)
     have hcv:∀ i j x,iJ ((List.range len).map ys) i j=some x->w.cell? ⟨b,o+i*P.cellsOf e+j,none⟩=some (cv i j)/\(cv i j).oneCell'=true/\fC E h w x (cv i j):=λi j=>Classical.choose_spec (cellsC i j)
     have:=fC.sl (E:=E) (h:=h) (w:=w) (P.cellsOf e) ((List.range len).map ys) false b o cap cv (hI b hblt) (by simpa using hlc) hmax (λe=>by simp at e)
      (λy hy=>by
       simp only[lA,aGK]at hy
       obtain⟨i,hi,rfl⟩:=hy
       obtain⟨vs,h1,_⟩:=hys i hi
       exact(aDJ hT n e _ hd.2 h1).1)
      (λi j x hx=>(hcv i j x hx).1) (λi j x hx=>(hcv i j x hx).2.1) (λi j x hx=>(hcv i j x hx).2.2)
     rw[←hlen]at this
     exact this
  |some (.struct fs) =>
   rw[hu]at hd
   simp only[l7,beq_iff_eq,uX]at hd
   obtain⟨xs,m,hm,rfl,hl,hfl,hf⟩:=DataW.trod_struct hu hx
   obtain rfl:n=m:=by omega

   have key:∀ (l:List Field) (o:Nat),(∀ f∈l,T.contains f.type=true/\∃ y,DataW.trod enc P w base sp held n f.type ((cs.drop f.offset).take (P.cellsOf f.type))=some y)->zW P l o=some (P.cellsOf t) ->
     ∃ ys,dV E h w ys (cs.drop o)/\∀ f∈l,o<=f.offset/\Dat P n f.type ((ys.drop (f.offset-o)).take (P.cellsOf f.type)):=by
    intro l
    induction l with
    |nil =>
     intro o _ ho
     simp only[zW,aZ6]at ho
     rw[a2G aA]
     exact⟨[],trivial,λf hf=>by simp at hf⟩
    |cons f l ih =>
     intro o hl' ho
     simp only[zW]at ho
     split at ho
     ·rename_i e
      obtain⟨hc,y,hy⟩:=hl' f zD
      obtain⟨zs,hz1,hz2⟩:=aI1 hT hI n f.type _ y (by simpa using hc) hy
      obtain⟨ys,hy1,hy2⟩:=ih _ (λg hg=>hl' g (v9 _ hg)) ho
      have hzl:=(aDJ hT n _ _ (by simpa using hc) hz1).1
      rw[e]at hz2
      have hjoin:dV E h w (zs++ys) (cs.drop o):=by
       have:=dV.append hz2 hy1
       rw[←bEM (P.cellsOf f.type) (cs.drop o),List.drop_drop]
       exact this
      refine⟨zs++ys,hjoin,λg hg=>?_⟩
      rcases mW.1 hg with rfl|hg
      ·refine⟨by omega,?_⟩
       rw[e,sU,aP0,List.take_append_of_le_length aA,nI aA]
       exact hz1
      ·obtain⟨h1,h2⟩:=hy2 g hg
       refine⟨by omega,?_⟩
       rw[List.drop_append,hzl,a2G aA,dS,show g.offset-o-P.cellsOf f.type=g.offset-(o+P.cellsOf f.type)by omega]
       exact h2
     ·cases ho
   obtain⟨ys,h1,h2⟩:=key fs.toList 0 (λf hf'=>by
    obtain⟨i,hi⟩:=a7L hf'
    have hi':fs[i]?=some f:=by simpa using hi
    refine⟨hd.2 f hf',?_⟩
    have:=hf i f hi'
    have hil:i<xs.length:=by rw[hfl];exact(aPZ.1 hi').1
    rw[eY hil]at this
    exact⟨_,this⟩) hd.1
   rw[aP0]at h1
   refine⟨ys,?_,h1⟩
   simp only[Dat,hu]
   refine⟨h1.length.trans hl,λi f hf'=>?_⟩
   have:=h2 f (by have:=Array.mem_of_getElem? hf';simpa using this)
   simpa using this.2
  |none|some .invalid|some (.float _)|some (.complex _)|some .unsafePointer|some (.named ..)|some (.pointer _)|some (.array ..)|some (.map ..)|some (.func ..)|some (.interface _)|some (.chan ..)|some (.tuple _)=>all_goals(rw[hu]at hd;simp at hd)
end
open Go.ChangeShapes Go.WideShapes
def aNO (P:Program) (n:Nat) (t:TypeId) (x:aE):Prop :=
 match P.underlying t with
 |some (.struct _)=>∃ ys,x=.agg ys/\Dat P n t ys
 | _=>Dat P n t [x]
def aRE (P:Program):List TypeId->List aE->Prop
 | [],[]=>True
 |t::ts,x::xs=>(∃ n,aNO P n t x)/\aRE P ts xs
 | _,_=>False
section
variable {H:Type} {enc:TypeId×Value->H} {P:Program} {w:World} {base:Nat} {sp:Nat->Bool} {held:Bool}
theorem a3T {T:List TypeId} (hT:a0P P T=true) {E:Env} {h:aB} (hI:∀ b,b<w.heap.size->nX E h w b) {t:TypeId} (ht:t∈T) {v:Value} {d:DataW H} {ps:List MemPlace}
  (hok:Value.okWide P w .any base t v) (hr:DataW.Trod enc P w 0 sp held t v d ps):∃ x n,aNO P n t x/\fC E h w x v:=by
 obtain⟨n,hr⟩:=hr
 obtain⟨xs,h1,h2⟩:=aI1 hT hI n t _ _ ht hr
 have hd:=uX.1 hT t ht
 match hu:P.underlying t with
 |some (.struct fs) =>
  obtain⟨cs,rfl,_⟩:=okWide_struct hu hok
  exact⟨.agg xs,n,by simp only[aNO,hu];exact⟨xs,rfl,h1⟩,.agg xs cs.toList h2.length h2.get⟩
 |some .bool =>
  obtain⟨b,rfl⟩:=okWide_bool hu hok
  have hone:=aDJ hT n t xs ht h1
  match xs,h2 with
  | [x],h2=>exact⟨x,n,by simp only[aNO,hu];exact h1,by simpa[Value.cells]using h2.1⟩
  | [],h2=>exact h2.elim
  | _::_::_,h2=>exact h2.2.elim
 |some (.int k) =>
  obtain⟨b,rfl⟩:=okWide_int hu hok
  match xs,h2 with
  | [x],h2=>exact⟨x,n,by simp only[aNO,hu];exact h1,by simpa[Value.cells]using h2.1⟩
  | [],h2=>exact h2.elim
  | _::_::_,h2=>exact h2.2.elim
 |some .string =>
  obtain⟨b,rfl⟩:=okWide_string hu hok
  match xs,h2 with
  | [x],h2=>exact⟨x,n,by simp only[aNO,hu];exact h1,by simpa[Value.cells]using h2.1⟩
  | [],h2=>exact h2.elim
  | _::_::_,h2=>exact h2.2.elim
 |some (.slice e) =>
  obtain⟨a,len,cap,rfl⟩:=okWide_slice hu hok
  match xs,h2 with
  | [x],h2=>exact⟨x,n,by simp only[aNO,hu];exact h1,by simpa[Value.cells]using h2.1⟩
  | [],h2=>exact h2.elim
  | _::_::_,h2=>exact h2.2.elim
 |none|some .invalid|some (.float _)|some (.complex _)|some .unsafePointer|some (.named ..)|some (.pointer _)|some (.array ..)|some (.map ..)|some (.func ..)|some (.interface _)|some (.chan ..)|some (.tuple _)=>all_goals(rw[hu]at hd;simp at hd)
theorem aL5 {T:List TypeId} (hT:a0P P T=true) {E:Env} {h:aB} (hI:∀ b,b<w.heap.size->nX E h w b):∀ {ts:List TypeId} {vs:List Value} {ds:List (DataW H)} {ps:List MemPlace},
  (∀ t∈ts,t∈T)->(∀ (j:Nat) t v,ts[j]?=some t->vs[j]?=some v->Value.okWide P w .any base t v)->DataW.TrodAll enc P w 0 sp held ts vs ds ps->∃ xs,aRE P ts xs/\dV E h w xs vs/\ds.length=ts.length
 | [],[],[],_,_,_,_=>⟨[],trivial,trivial,rfl⟩
 |t::ts,v::vs,d::ds,_,ht,hok,⟨p,q,h1,h2,_⟩=>by
  obtain⟨x,n,h3,h4⟩:=a3T hT hI (ht t zD) (hok 0 t v rfl rfl) h1
  obtain⟨xs,h5,h6,h7⟩:=aL5 hT hI (λt' h'=>ht t' (v9 _ h')) (λj t' v' a b=>hok (j+1) t' v' (by simpa using a) (by simpa using b)) h2
  exact⟨x::xs,⟨⟨n,h3⟩,h5⟩,⟨h4,h6⟩,by simp[h7]⟩
 | [],_::_,_,_,_,_,h=>by cases ‹List (DataW H)› <;> exact h.elim
 | [],[],_::_,_,_,_,h=>h.elim
 | _::_,[],_,_,_,_,h=>by cases ‹List (DataW H)› <;> exact h.elim
 | _::_,_::_,[],_,_,_,h=>h.elim
end
theorem aBI {H:Type} {enc:TypeId×Value->H} {P:Program} {w w':World} {base:Nat} {sp:Nat->Bool} {held:Bool}:∀ {ts:List TypeId} {vs:List Value} {ds:List (DataW H)} {ps:List MemPlace},
  DataW.TrodAll enc P w base sp held ts vs ds ps->(∀ p∈ps,w.sameAt w' p)->DataW.TrodAll enc P w' base sp held ts vs ds ps
 | [],[],[],_,h,_=>h
 | _::_,_::_,_::_,_,⟨p,q,⟨n,h1⟩,h2,e⟩,hs=>⟨p,q,⟨n,DataW.trod_carry n _ _ _ h1 (λx hx=>hs x (by rw[e];exact zC _ hx))⟩,aBI h2 (λx hx=>hs x (by rw[e];exact wI _ hx)),e⟩
 | [],_::_,_,_,h,_=>by cases ‹List (DataW H)› <;> exact h.elim
 | [],[],_::_,_,h,_=>h.elim
 | _::_,[],_,_,h,_=>by cases ‹List (DataW H)› <;> exact h.elim
 | _::_,_::_,[],_,h,_=>h.elim
theorem aI2 {w w':World} {p:MemPlace} (h:w'.heap[p.block]?=w.heap[p.block]?):w.sameAt w' p:=by
 cases p with
 |cell b o=>exact wB h o none
 |map b=>exact h
theorem a3U {H:Type} {enc:TypeId×Value->H} {P:Program} (lo:laidOutB P=true) (mr:mapsRowed P=true)
  (hz:((List.range P.types.size).all λt=>match P.underlying t with|some (.slice e)=>decide (0<P.cellsOf e)|_=>true)=true)
  {fn:Func} (hT:fn.params.all (λt=>decide (t<P.types.size))=true) {s:ChangeSpec} (hsv:s.vars=[]) (hs:∀ ds:List (DataW H),ds.length=fn.params.size->s.fn H ds={ results:=[.lit (.bool true)],args:=ds })
  {tb:TypeId} (hr:fn.resultTypes=#[tb]) (htb:P.underlying tb=some .bool) {W W':World} {args:Array Value} {ds gs:List (DataW H)} {before:List MemPlace}
  (hW:DataW.Whole enc P fn.params.toList s.vars false W args.toList ds gs before) (hl:ds.length=fn.params.size)
  (hheap:∀ b,b<W.heap.size->W'.heap[b]?=W.heap[b]?) (hos:W'.os=W.os) (hout:W'.output=W.output) :
  s.post enc P fn false true false false W args (.bool true) W':=by
 have hlt:=hW.lt
 have hW0:=hW
 obtain⟨p,q,hA,hV,rfl,hfz,_⟩:=hW
 rw[hsv]at hV
 have hgs:gs=[]/\q=[]:=by
  match gs,hV with
  | [],h=>exact⟨rfl,h⟩
 obtain⟨rfl,rfl⟩:=hgs
 rw[dP]at hlt hfz hW0
 have e:s.fn H (ds++[])={ results:=[.lit (.bool true)],args:=ds }:=by rw[dP];exact hs ds hl
 refine⟨ds,[],p,[],p,[],hW0,?_,?_,?_,?_,λh=>by simp at h⟩
 ·rw[e]
  simp only[hr]
  refine⟨[],[],⟨1,?_⟩,rfl,rfl⟩
  simp[DataW.trod,htb,Value.cells]
 ·rw[e]
  have h1:DataW.TrodAll enc P W' 0 (λ_=>true) true fn.params.toList args.toList ds p:=aBI hA λx hx=>aI2 (hheap _ (hlt x hx))
  refine DataW.TrodAll.respare (kids_rows lo mr) (λt e ht hu=>slices_full_of P hz t e ht hu) (λt ht=>?_) h1 (λx hx=>by simpa using hlt x hx)
  have:=a2J.1 hT t (by simpa using ht)
  simpa using this
 ·rw[e,hsv];exact rfl
 ·refine⟨hos,hout,λi hi=>?_⟩
  rw[hheap i hi]
  have hi':W.heap[i]?=some W.heap[i]:=aHY hi
  rw[hi']
  cases W.heap[i]with
  |cells c t fr=>exact⟨rfl,rfl,rfl,λ_ _=>rfl⟩
  |map es clock=>exact .inr ⟨rfl,rfl⟩
  | _=>rfl
def uI:aB:=λ_=>none
def aRF:Env where
 loc:=λ_=>none
 fp:=λ_ _=>False
 used:=λ_=>False
theorem a3V (w:World) (hl:zF aRF uI w):Rel aRF uI w where
 fin:=⟨0,λn _ h=>h⟩
 dom:=λn h=>absurd rfl h
 lt:=λn o b h=>by simp[uI]at h
 apart:=λn o m o' b h=>by simp[uI]at h
 obj:=λn o h=>by simp[uI]at h
 laid:=hl
theorem aRG {w:World} {b:Nat} (hb:b<w.heap.size):nX aRF uI w b:=⟨hb,λn o h=>by simp[uI]at h⟩
theorem aRH {H:Type} {enc:TypeId×Value->H} {C:Checked} {os:Os} {f:FuncId} {fn:Func} {s:ChangeSpec}
  (own:ownKnob C.prog.godebug=none) (started:os.Started) (noInit:C.prog.inits.idxOf? f=none) (hfn:C.prog.funcs[f]?=some fn)
  (witness:∃ (w:World) (tape:Tape) (i:Input),w.os=os/\(w.forCall tape i).Shaped C.prog/\i.vars=[]/\Input.okWide C.prog (w.forCall tape i) .any w.heap.size f i /\
   s.pre6 enc C.prog fn [] false (w.forCall tape i).memory i.args/\({}:Assume).holds C.prog (lone (Frame.enter C.prog f i.args .normal) [] (w.forCall tape i)))
  (lo:laidOutB C.prog=true) (mr:mapsRowed C.prog=true)
  (hz:((List.range C.prog.types.size).all λt=>match C.prog.underlying t with|some (.slice e)=>decide (0<C.prog.cellsOf e)|_=>true)=true)
  (T:List TypeId) (hT:a0P C.prog T=true) (hp:fn.params.all (λt=>decide (t<C.prog.types.size) && T.contains t)=true)
  (hsv:s.vars=[]) (hs:∀ ds:List (DataW H),ds.length=fn.params.size->s.fn H ds={ results:=[.lit (.bool true)],args:=ds })
  {tb:TypeId} (hr:fn.resultTypes=#[tb]) (htb:C.prog.underlying tb=some .bool)
  (hc:∀ xs,aRE C.prog fn.params.toList xs->fE C.prog f xs (.bool true)) (hl0:aH6=[]:=by rfl) :
  ReturnsInHanded {} C os f .any (s.pre6 enc C.prog fn [] false) (s.post enc C.prog fn false true false false):=by
 refine returnsInHanded_of_change own started noInit hfn witness ?_
 intro W base args ds gs before hval hW _ _
 have hW0:=hW
 obtain⟨p,q,hA,hV,_,_,_⟩:=hW
 have hp':=a2J.1 hp
 simp only[l7,decide_eq_true_eq]at hp'
 have hbase:∀ (j:Nat) t v,fn.params.toList[j]?=some t->args.toList[j]?=some v->Value.okWide C.prog W .any base t v:=λj t v h1 h2=>hval j t v (by simpa using h1) (by simpa using h2)
 obtain⟨xs,h1,h2,h3⟩:=aL5 hT (E:=aRF) (h:=uI) (λb hb=>aRG hb) (λt ht=>by have:=(hp' t (by simpa using ht)).2;simpa using this) hbase hA
 refine Calls.mono (by simpa using(hc xs h1 uI).2 aRF W args.toList (a3V W λp hp=>by rw[hl0]at hp;cases hp) h2) λe W' he=>?_
 cases e with
 |returned v =>
  obtain⟨r,h',E',⟨rfl,rfl⟩,ev,_,rep⟩:=he
  cases rep
  exact⟨_,rfl,a3U lo mr hz (by rw[a2J];intro t ht;simpa using(hp' t ht).1) hsv hs hr htb hW0 (by simpa using h3) (λb hb=>(ev.keep b (aRG hb)).1) ev.os ev.out⟩
 | _=>exact he.elim
def bC (P:Program) (f:FuncId) (args:List aE) (r:aE) (h0:aB):Prop:=∀ h:aB,h0.le h->iV P f args h λr' h'=>r'=r/\h'=h
theorem fE.a3W {P:Program} {f:FuncId} {args:List aE} {r:aE} {h0:aB} (a:fE P f args r):bC P f args r h0:=λh _=>a h
theorem bC.mono {P:Program} {f:FuncId} {args:List aE} {r:aE} {h0 h1:aB} (hl:h0.le h1) (a:bC P f args r h0):bC P f args r h1:=λh q=>a h (aB.le_trans hl q)
theorem a0R (h:aB):uI.le h:=λ_=>.inl rfl
theorem bC.dI {P:Program} {f:FuncId} {args:List aE} {r:aE} (a:bC P f args r uI):fE P f args r:=λh=>a h (a0R h)
theorem aH.bI {P:Program} {g:FuncId} {args:List aE} {h:aB} {K:aE->aB->Prop} {t:Tag K} {r:aE} (a:bC P g args r h) (k:K r h):aH P g args h K t :=
 iV.mono (a h (aB.le_refl h)) λ_ _ ⟨e,e'⟩=>e▸e'▸k
theorem aH.gV {P:Program} {g:FuncId} {args:List aE} {h:aB} {K K':aE->aB->Prop} {t:Tag K} (a:iV P g args h K') (k:∀ r h',K' r h'->K r h'):aH P g args h K t:=iV.mono a k
theorem aB.aNP {h0 h:aB} (hl:h0.le h) {n:Nat} {o:bV} (hn:h0 n=some o):h n=some o:=by
 rcases hl n with e|e
 ·rw[hn]at e;cases e
 ·rw[←e];exact hn
theorem bL6 {P:Program} {f:FuncId} {fn:Func} {c:Code} (N:Nat) (keep ib:List Nat) (mk:Marks) {args:List aE} {h:aB} {K:aE->aB->Prop} (hmix:P.follows .mixedOrders=true) (hf:P.funcs[f]?=some fn) (hb:fn.body=some c)
  (hck:(iY P f && decide (fn.ntmps=N) && gM N mk c)=true) (hl:args.length<=N)
  (hw:nJ P N keep ib mk c (λτ h'=>lW P fn.results (λr h'=>∃ g:aB,g.le h'/\K r g) () .normal τ h') (lW P fn.results (λr h'=>∃ g:aB,g.le h'/\K r g) ()) (o7 0 args) h ()):iV P f args h K :=
 aIV N keep ib mk hmix hf hb hck hl (K':=λr h'=>∃ g:aB,g.le h'/\K r g) hw λ_ _ hx=>hx
theorem bL7 {P:Program} {f:FuncId} {fn:Func} {c:Code} (N:Nat) (keep ib:List Nat) (mk:Marks) {args:List aE} {r:aE} {h0:aB} (hmix:P.follows .mixedOrders=true) (hf:P.funcs[f]?=some fn) (hb:fn.body=some c)
  (hck:(iY P f && decide (fn.ntmps=N) && gM N mk c)=true) (hl:args.length<=N)
  (hw:∀ h:aB,h0.le h->nJ P N keep ib mk c (λτ h'=>lW P fn.results (λr' h'=>r'=r/\h.le h') () .normal τ h') (lW P fn.results (λr' h'=>r'=r/\h.le h') ()) (o7 0 args) h ()):bC P f args r h0 :=
 λh hle=>aIV N keep ib mk hmix hf hb hck hl (K':=λr' h'=>r'=r/\h.le h') (hw h hle) λ_ _ hx=>⟨h,hx.2,hx.1,rfl⟩
theorem aGO {P:Program} {f:FuncId} {fn:Func} {c:Code} (N:Nat) (keep ib:List Nat) (mk:Marks) {args:List aE} {h:aB} {K:aE->aB->Prop} (hf:P.funcs[f]?=some fn) (hw:nJ P N keep ib mk c (λτ h'=>lW P fn.results (λr h'=>∃ g:aB,g.le h'/\K r g) () .normal τ h') (lW P fn.results (λr h'=>∃ g:aB,g.le h'/\K r g) ()) (o7 0 args) h ()) (hmix:P.follows .mixedOrders=true:=by exact mix) (hb:fn.body=some c:=by rfl) (hck:(iY P f && decide (fn.ntmps=N) && gM N mk c)=true:=by kernel_rfl) (hl:args.length<=N:=by simp):iV P f args h K :=
 bL6 N keep ib mk hmix hf hb hck hl hw
theorem aF6 {P:Program} {f:FuncId} {fn:Func} {c:Code} (N:Nat) (keep ib:List Nat) (mk:Marks) {args:List aE} {r:aE} {h0:aB} (hf:P.funcs[f]?=some fn) (hw:∀ h:aB,h0.le h->nJ P N keep ib mk c (λτ h'=>lW P fn.results (λr' h'=>r'=r/\h.le h') () .normal τ h') (lW P fn.results (λr' h'=>r'=r/\h.le h') ()) (o7 0 args) h ()) (hmix:P.follows .mixedOrders=true:=by exact mix) (hb:fn.body=some c:=by rfl) (hck:(iY P f && decide (fn.ntmps=N) && gM N mk c)=true:=by kernel_rfl) (hl:args.length<=N:=by simp):bC P f args r h0 :=
 bL7 N keep ib mk hmix hf hb hck hl hw
end Go.Hl

/-
  Contracts of functions and laws of the layer over the walk.
-/
import Derived.Test.YtoomflalicffnaaGreatVvB
import Derived.Test.YtoomflalicffnaaGreatVvA
import Derived.Test.YtoomflalicffnaaGreatHlD
namespace Go.Hl
set_option maxRecDepth 100000
open Go.Proofs
set_option linter.unusedVariables false
set_option linter.unusedSimpArgs false
def aDX (X:Out (List (List Int))):List (List Int)×Int×Int:=match X with
 | .ok (vs,t)=>(vs,t,0)
 | .error c=>([],0,c)
theorem a4U {X:Out (List (List Int))} {l:List (List Int)} {t:Nat} {c:Int} (h:kY X l t c):aDX X=if c=0 then(l,(t:Int),0)else([],0,c):=by
 cases X with
 |ok p =>
  obtain⟨w,u⟩:=p
  obtain⟨rfl,rfl,rfl⟩:=h
  rfl
 |error d =>
  obtain⟨rfl,h⟩:=h
  rw[if_neg h];rfl
@[go_sem] def bQF:List Nat:=[0,1,2,3,4,8,9,10,11,12,13,15,33,39,40,41,42]
@[go_sem] def bW1:List Nat:=[4,38,48]
@[go_sem] def bW2:Marks:=λid=>match id with|4=>([3],(.op 0 (.op 1 (.op 2 (.op 3 (.op 4 (.op 5 (.op 6 .nil))))))),[])|11=>([4],(.op 0 (.op 1 (.op 2 (.op 3 (.op 4 (.op 5 (.op 6 (.op 7 .nil)))))))),[])|_=>([],.nil,[])
@[go_sem] def aYJ:List Nat:=[0,1,4,5,7,10,11,12,13]
theorem bMP (n i:Nat) (hn:n<=1048576) (hi:i<n):fE Tryz.prog 139 [I n,.sl 1 [[I i]] true] (ints ((List.replicate n 0).set i 1)):=by
 refine lS 27 aYJ cU cF Tryz.func139 λh=>?_
 simp -dsimp -implicitDefEqProofs only[go_sem,↓reduceIte,Tryz.f139]
 refine⟨bD,by omega,by omega,by omega,λm hm=>?_⟩
 rw[vF]
 refine aFA aYJ cU cF (λk:Nat=>[(5,.os m 1 0 n),(10,.sl 1 [[I i]] true),(11,I 1),(12,I k)]) m (λk=>.row 1 (((if k=0 then List.replicate n (0:Int)else(List.replicate n 0).set i 1).map λn=>[I n]).map (List.map .v))) (λk=>k<=1) (λk=>1-k) 0 ⟨by simp[cR,b6],by rw[aI,if_pos rfl],eF _⟩ ?_
 intro k hk
 rcases bT k 1 with hlt|hge
 ·have:k=0:=by omega
  subst this
  have e1:(List.replicate n (0:Int))[i]?=some 0:=by rw[tY,if_pos hi]
  rw[if_pos rfl]
  simp -dsimp -implicitDefEqProofs only[go_sem,↓reduceIte,Tryz.f139,aO,e1,aGI,tX]
  refine⟨λ_=>⟨bD,hi,hi,1,by decide,?_,by omega,by omega⟩,λq=>absurd bO q⟩
  rw[if_neg bO,show(IntKind.i64.wrap (0+1)).tmod 1000003=1 by decide,←qM I]
  exact aB.le_refl _
 ·have:k=1:=by omega
  subst this
  rw[if_neg bO]
  simp -dsimp -implicitDefEqProofs only[go_sem,↓reduceIte,Tryz.f139,cT]
  refine⟨λq=>absurd q bO,λ_=>?_⟩
  rw[aO]
  exact eT ((List.replicate n 0).set i 1) hm (aB.le_refl _) (by rw[tW,aGI])
def dX (args dir:List Int):List (List Int):=List.zipWith (λa d=>[a,d]) args dir
theorem w2:IntKind.i64.wrap (1+1)=2:=by decide
theorem n0:Int.toNat 0=0:=rfl
theorem n1:Int.toNat 1=1:=rfl
theorem n2:Int.toNat 2=2:=rfl
theorem bTJ (x:List aE):List.replicate 2 x=[x,x]:=rfl
@[go_sem] def bQG:List Nat:=[0,1,2,3,4,5,10,11,12,13,14,15,16,18,20,21,22,23,34]
@[go_sem] def bW3:List Nat:=[5,19,43]
theorem aFE {args dir:List Int} (hd:dir.length=args.length):(dX args dir).length=args.length:=by simp[dX,hd]
theorem oC {args dir:List Int} (na:dW args) (nd:dW dir):∀ s∈dX args dir,bJ 2 s:=λs hs=>by
 obtain⟨i,hi,rfl⟩:=wM.1 hs
 simp only[dX,List.getElem_zipWith]
 refine⟨rfl,λx hx=>?_⟩
 simp only[mW,aP4,or_false]at hx
 rcases hx with rfl|rfl
 ·exact na _ (kM _)
 ·exact nd _ (kM _)
def a4V (X:List (List Int)×Int×Int):List Int×List Int×Int:=if X.2.2=0 then(X.1.map (·.getD 0 0),X.1.map (·.getD 1 0),0)else([],[],X.2.2)
def eQ (n i:Nat):List Int:=(List.replicate n 0).set i 1
def wE (p:aG) (f:Int) (args:List Int) (i:Nat):List Int:=(a4V (aDX (evF p 2 f (dX args (eQ args.length i))))).2.1
def xC (S:Nat->List Int) (m i k:Nat):List (List Int):=(List.range m).map λr=>(List.range (if r<k then i+1 else i)).map λj=>(S j).getD r 0
theorem aAF (S:Nat->List Int) (m i k:Nat):(xC S m i k).length=m:=by simp[xC]
theorem a00 (S:Nat->List Int) (m:Nat):xC S m 0 0=List.replicate m []:=by
 rw[xC]
 simp[List.map_const']
theorem a01 (S:Nat->List Int) (m i:Nat):xC S m i m=xC S m (i+1) 0:=by
 refine zE λr hr=>?_
 rw[if_pos (aGK.1 hr),if_neg (aP5 _)]
theorem a4W (S:Nat->List Int) {m i k:Nat} (hk:k<m):(xC S m i k)[k]?=some ((List.range i).map λj=>(S j).getD k 0):=by
 rw[xC,qR,al9 hk]
 simp
theorem aR6 (S:Nat->List Int) {m i k:Nat} (hk:k<m):xC S m i (k+1)=(xC S m i k).set k (((List.range i).map λj=>(S j).getD k 0)++[(S i).getD k 0]):=by
 apply List.ext_getElem?
 intro r
 rw[List.getElem?_set,aAF]
 rcases Nat.lt_trichotomy r k with h|h|h
 ·rw[if_neg aA]
  simp only[xC,qR]
  rcases bT r m with hr|hr
  ·rw[al9 hr]
   simp[h,Nat.lt_succ_of_lt h]
  ·rw[aNC (by simpa using hr)];rfl
 ·subst h
  rw[if_pos rfl,if_pos hk]
  simp only[xC,qR]
  rw[al9 hk]
  simp[aV4]
 ·rw[if_neg aA]
  simp only[xC,qR]
  rcases bT r m with hr|hr
  ·rw[al9 hr]
   have h1:¬r<k:=by omega
   have h2:¬r<k+1:=by omega
   simp[h1,h2]
  ·rw[aNC (by simpa using hr)];rfl
theorem aYK {args:List Int}:∀ {l:List Int} {dir:List Int},dir.length=l.length->eR (l.map λn=>[n]) (dX l dir)
 | [],[],_=>trivial
 |a::l,d::dir,h=>⟨.inr ⟨a,[],[d],rfl,rfl⟩,aYK (args:=args) (by simpa using h)⟩
 | [],_::_,h=>by simp at h
 | _::_,[],h=>by simp at h
theorem a86 {p:aG} (hp:p.ok) {f:Int} (hf:0<=f/\f<p.aK.length) {args dir:List Int} (hd:dir.length=args.length) (na:dW args) (nd:dW dir) (hl:∀ F,p.aK[f.toNat]?=some F->(args.length:Int)=F.aW) {vs:List (List Int)} {t:Nat} (hok:evF p 1 f (args.map λn=>[n])=.ok (vs,t)) :
  ∃ ws,aDX (evF p 2 f (dX args dir))=(ws,(t:Int),0)/\ws.length=(p.outs f).length/\∀ s∈ws,bJ 2 s:=by
 have h:=aR0 p 0 1 f _ _ (aYK (args:=args) hd)
 have hs:=aOG hp (sz:=2) aA f hf (dX args dir) (oC na nd) (λF hF=>by rw[aFE hd];exact hl F hF)
 rw[hok]at h
 cases hX:evF p 2 f (dX args dir)with
 |ok q =>
  obtain⟨ws,u⟩:=q
  rw[hX]at h
  have:=h.2
  subst this
  have h2:=hs ws t hX
  exact⟨ws,rfl,h2.1,h2.2⟩
 |error c=>rw[hX]at h;exact h.elim
theorem aBN:∀ k,OV.bG (List.replicate k [OV.nil 1])=[]
 |0=>by simp[OV.bG]
 |k+1=>by rw[aGH,mQ,aBN k,OV.eC,OV.hJ,OV.qK];rfl
structure bH where
 gS:Int
 fA:Int
 fB:Int
 bB:Int
def bH.c (x:bH):List aE:=[I x.gS,I x.fA,I x.fB,I x.bB]
theorem bH.aZ (x:bH):x.c=[I x.gS,I x.fA,I x.fB,I x.bB]:=rfl
structure gA where
 aLG:Int
 bDM:Bool
def gA.c (x:gA):List aE:=[I x.aLG,.bool x.bDM]
theorem gA.aZ (x:gA):x.c=[I x.aLG,.bool x.bDM]:=rfl
structure dO where
 code:List bH
 fR:List Int
 guards:List gA
def dO.val (S:dO) (k:Int):Int:=S.fR.getD k.toNat 0
def dO.put (S:dO) (c:bH) (v:Int):dO:=⟨S.code++[c],S.fR++[v],S.guards⟩
def dO.guard (S:dO) (g:gA):dO:=⟨S.code,S.fR,S.guards++[g]⟩
def rI (ev:Nat->aD->dO->Out (Int×dO)):List aD->Nat->dO->Out (List Int×dO)
 | [],t,S=>.ok (([],S),t)
 |e::l,t,S=>(ev t e S).andThen λr t=>(rI ev l t r.2).andThen λq t=>.ok ((r.1::q.1,q.2),t)
def sS (f:List Int->Nat->dO->Out (List Int×dO)):Nat->List Int->Nat->dO->Out (List Int×dO)
 |0,vs,t,S=>.ok ((vs,S),t)
 |n+1,vs,t,S=>(f vs t S).andThen λr t=>sS f n r.1 t r.2
def opV (k a b:Int):Option Int :=
 if k=3 then some ((a+b)%1000003)else if k=4 then some ((a-b)%1000003)else if k=5 then some (a*b%1000003)else if k=7 then some ((0-a)%1000003)
 else if b=0 then none else some (a*gZ b%1000003)
def opB (k:Int) (vs:List Int):Int:=if k=7 then 0 else vs.getD 1 0
def opR (k:Int) (vs:List Int) (S:dO) (t:Nat):Out (Int×dO):=match opV k (S.val (vs.getD 0 0)) (S.val (opB k vs))with
 |none=>.error 6
 |some v=>.ok (((S.fR.length:Int),S.put ⟨k,vs.getD 0 0,opB k vs,0⟩ v),t)
def fD (p:aG):Nat->Nat->aD->List Int->dO->Out (Int×dO)
 |0,_,_,_,_=>.error 7
 |n+1,t,e,env,S =>
  if t=3000 then .error 7
  else if e.aT=1 then .ok (((S.fR.length:Int),S.put ⟨2,0,0,e.bB⟩ e.bB),t+1)
  else if e.aT=2 then .ok ((env.getD e.bB.toNat 0,S),t+1)
  else if e.aT=8 then(fD p n (t+1) (e.pY 0) env S).andThen λr t =>
   if r.2.val r.1=0 then fD p n t (e.pY 1) env (r.2.guard ⟨r.1,true⟩)else fD p n t (e.pY 2) env (r.2.guard ⟨r.1,false⟩)
  else if e.aT=9 then(fD p n (t+1) (e.pY 0) env S).andThen λr t=>fD p n t (e.pY 1) (env++[r.1]) r.2
  else(rI (λt e S=>fD p n t e env S) e.aM (t+1) S).andThen λr t =>
   if e.aT=10 then fD p n t (p.out e.bB e.c4) r.1 r.2
   else if e.aT=11 then(sS (λvs t S=>rI (λt e S=>fD p n t e vs S) (p.outs e.bB) t S) e.cN.toNat r.1 t r.2).andThen λr t=>.ok ((r.1.getD e.c4.toNat 0,r.2),t)
   else opR e.aT r.1 r.2 t
theorem aMG (ev:Nat->aD->dO->Out (Int×dO)) (e:aD):∀ (l:List aD) (t:Nat) (S:dO),rI ev (l++[e]) t S=(rI ev l t S).andThen λq t=>(ev t e q.2).andThen λr t=>.ok ((q.1++[r.1],r.2),t)
 | [],t,S=>rfl
 |x::l,t,S=>by
  simp only[aTV,rI,aMG ev e l,Out.mS,Out.andThen_ok]
theorem aCA (f:List Int->Nat->dO->Out (List Int×dO)):∀ (n:Nat) (vs:List Int) (t:Nat) (S:dO),sS f (n+1) vs t S=(sS f n vs t S).andThen λr t=>f r.1 t r.2
 |0,vs,t,S=>by
  show(f vs t S).andThen (λr t=>.ok ((r.1,r.2),t))=f vs t S
  cases f vs t S with
  |ok p=>rfl
  |error c=>rfl
 |n+1,vs,t,S=>by
  rw[sS,show sS f (n+1) vs t S=(f vs t S).andThen λr t=>sS f n r.1 t r.2 from rfl,Out.mS]
  congr 1
  funext r t
  exact aCA f n r.1 t r.2
theorem a02 (f:List Int->Nat->dO->Out (List Int×dO)) {vs:List Int} {t:Nat} {S:dO} {c:Int}:∀ (k:Nat) {n:Nat},k<=n->sS f k vs t S=.error c->sS f n vs t S=.error c:=by
 intro k n hkn h
 induction n with
 |zero => obtain rfl : k = 0 := by omega
          exact h
 |succ n ih =>
  rcases bT k (n+1)with h1|h1
  ·rw[aCA,ih aA];rfl
  ·obtain rfl:k=n+1:=by omega
   exact h
def bZ (inp:Int) (i:Nat) (c:bH):Prop :=
 (c.gS=1/\c.fA=0/\c.fB=0/\0<=c.bB/\c.bB<inp)∨(c.gS=2/\c.fA=0/\c.fB=0/\iW c.bB)∨((c.gS=3∨c.gS=4∨c.gS=5∨c.gS=6)/\c.bB=0/\0<=c.fA/\c.fA<i/\0<=c.fB/\c.fB<i)∨(c.gS=7/\c.bB=0/\c.fB=0/\0<=c.fA/\c.fA<i)
structure Good (inp:Int) (S:dO) (t:Nat):Prop where
 len:S.code.length=S.fR.length
 a87:dW S.fR
 ins:∀ i c,S.code[i]?=some c->bZ inp i c
 gds:∀ g∈S.guards,0<=g.aLG/\g.aLG<S.fR.length
 cap:S.fR.length<=12+t
 y6:S.guards.length<=t
def dO.ext (S S':dO):Prop:=S.code <+: S'.code/\S.fR <+: S'.fR/\S.guards <+: S'.guards
theorem dO.uO (S:dO):S.ext S:=⟨aLP _,aLP _,aLP _⟩
theorem dO.ext.trans {a b c:dO} (h:a.ext b) (k:b.ext c):a.ext c:=⟨h.1.trans k.1,h.2.1.trans k.2.1,h.2.2.trans k.2.2⟩
theorem dO.aHC (S:dO) (c:bH) (v:Int):S.ext (S.put c v):=⟨a2L _ _,a2L _ _,aLP _⟩
theorem dO.rJ (S:dO) (g:gA):S.ext (S.guard g):=⟨aLP _,aLP _,a2L _ _⟩
theorem dO.ext.val {S S':dO} (h:S.ext S') {k:Int} (h0:0<=k) (hk:k<S.fR.length):S'.val k=S.val k:=by
 obtain⟨x,hx⟩:=h.2.1
 rw[dO.val,dO.val,←hx,gG,gG,tU aA]
theorem dO.ext.len {S S':dO} (h:S.ext S'):S.fR.length<=S'.fR.length:=h.2.1.length_le
def qS (S:dO) (k:Int):Prop:=0<=k/\k<S.fR.length
theorem qS.ext {S S':dO} {k:Int} (h:qS S k) (e:S.ext S'):qS S' k:=⟨h.1,by have:=h.2;have:=e.len;omega⟩
theorem Good.vN {inp:Int} {S:dO} {t u:Nat} (h:Good inp S t) (hu:t<=u):Good inp S u:=⟨h.len,h.a87,h.ins,h.gds,by have:=h.cap;omega,by have:=h.y6;omega⟩
theorem Good.put {inp:Int} {S:dO} {t:Nat} {c:bH} {v:Int} (h:Good inp S t) (hc:bZ inp S.fR.length c) (hv:iW v) (hcap:S.fR.length<12+t):Good inp (S.put c v) t:=by
 refine⟨by simp[dO.put,h.len],λx hx=>?_,λi d hd=>?_,λg hg=>?_,by simp[dO.put];omega,h.y6⟩
 ·rcases oW.1 hx with hx|hx
  ·exact h.a87 x hx
  ·rw[jL.1 hx];exact hv
 ·rcases bT i S.code.length with hi|hi
  ·rw[dO.put,tU hi]at hd;exact h.ins i d hd
  ·rw[dO.put,v8 hi]at hd
   have hd2:=iO.1 hd
   obtain⟨h1,h2⟩:=hd2
   have h3:i=S.fR.length:=by simp at h1;have:=h.len;omega
   simp at h2
   subst h2;rw[h3];exact hc
 ·have:=h.gds g hg
  simp only[dO.put,gD,nA];omega
theorem Good.guard {inp:Int} {S:dO} {t:Nat} {k:Int} {b:Bool} (h:Good inp S t) (hk:qS S k) (hcap:S.guards.length<t):Good inp (S.guard ⟨k,b⟩) t:=by
 refine⟨h.len,h.a87,h.ins,λg hg=>?_,h.cap,by simp[dO.guard];omega⟩
 rcases oW.1 hg with hg|hg
 ·exact h.gds g hg
 ·rw[jL.1 hg];exact hk
theorem a88 {k a b v:Int} (h:opV k a b=some v):iW v:=by
 unfold opV at h
 repeat'(split at h)
 all_goals first|(cases h;done)|(cases h;exact eO _)
def vO {α:Type} (P:α->Nat->Prop) (X:Out α):Prop:=∀ v u,X=.ok (v,u)->P v u
theorem vO.then {α β:Type} {P:α->Nat->Prop} {Q:β->Nat->Prop} {X:Out α} {F:α->Nat->Out β} (h:vO P X) (hf:∀ v t,P v t->vO Q (F v t)):vO Q (X.andThen F):=λw u hw=>by
 cases X with
 |ok p=>obtain⟨v,t⟩:=p;exact hf v t (h v t rfl) w u hw
 |error c=>cases hw
theorem vO.pure {α:Type} {P:α->Nat->Prop} {v:α} {t:Nat} (h:P v t):vO P (.ok (v,t)):=λw u e=>by cases e;exact h
theorem vO.err {α:Type} {P:α->Nat->Prop} {c:Int}:vO P (.error c:Out α):=λw u e=>by cases e
theorem vO.mono {α:Type} {P Q:α->Nat->Prop} {X:Out α} (h:vO P X) (hq:∀ v u,P v u->Q v u):vO Q X:=λv u e=>hq v u (h v u e)
def pM (S:dO) (t:Nat) (S':dO) (u:Nat):Prop:=S'.fR.length+t<=S.fR.length+u/\S'.guards.length+t<=S.guards.length+u/\t<=u/\u<=3000
theorem pM.refl {S:dO} {t:Nat} (h:t<=3000):pM S t S t:=⟨bX _,bX _,bX _,h⟩
theorem pM.trans {A B C:dO} {t u v:Nat} (h:pM A t B u) (k:pM B u C v):pM A t C v:=by
 unfold pM at *;omega
def aJI (inp:Int) (S:dO) (t:Nat) (r:Int×dO) (u:Nat):Prop:=Good inp r.2 u/\S.ext r.2/\qS r.2 r.1/\pM S t r.2 u
def aBO (inp:Int) (S:dO) (t n:Nat) (r:List Int×dO) (u:Nat):Prop:=Good inp r.2 u/\S.ext r.2/\(r.1.length=n/\∀ x∈r.1,qS r.2 x)/\pM S t r.2 u
theorem lH {ev:Nat->aD->dO->Out (Int×dO)} {inp:Int}:∀ (l:List aD) (t:Nat) (S:dO),Good inp S t->t<=3000->(∀ e∈l,∀ u S',Good inp S' u->S.ext S'->pM S t S' u->vO (aJI inp S' u) (ev u e S'))->vO (aBO inp S t l.length) (rI ev l t S)
 | [],t,S,hg,ht,_=>vO.pure ⟨hg,S.uO,⟨rfl,by simp⟩,.refl ht⟩
 |e::l,t,S,hg,ht,h=>(h e zD t S hg S.uO (.refl ht)).then λr u hr=>by
  obtain⟨r1,r2,r3,r4⟩:=hr
  refine(lH l u r.2 r1 r4.2.2.2 λx hx u' S' a b c=>h x (v9 _ hx) u' S' a (r2.trans b) (r4.trans c)).then λq u' hq=>?_
  obtain⟨q1,q2,⟨q3,q4⟩,q5⟩:=hq
  refine vO.pure ⟨q1,r2.trans q2,⟨by rw[tT,q3];rfl,λx hx=>?_⟩,r4.trans q5⟩
  rcases mW.1 hx with rfl|hx
  ·exact r3.ext q2
  ·exact q4 x hx
theorem xD {f:List Int->Nat->dO->Out (List Int×dO)} {inp:Int} {m:Nat} (h:∀ vs t S,Good inp S t->(vs.length=m/\∀ x∈vs,qS S x)->t<=3000->vO (aBO inp S t m) (f vs t S)) :
  ∀ (n:Nat) (vs:List Int) (t:Nat) (S:dO),Good inp S t->(vs.length=m/\∀ x∈vs,qS S x)->t<=3000->vO (aBO inp S t m) (sS f n vs t S)
 |0,vs,t,S,hg,hv,ht=>vO.pure ⟨hg,S.uO,hv,.refl ht⟩
 |n+1,vs,t,S,hg,hv,ht=>(h vs t S hg hv ht).then λr u hr=>by
  obtain⟨r1,r2,r3,r4⟩:=hr
  refine(xD h n r.1 u r.2 r1 r3 r4.2.2.2).mono λq u' hq=>?_
  obtain⟨q1,q2,q3,q4⟩:=hq
  exact⟨q1,r2.trans q2,q3,r4.trans q4⟩
theorem bGE {inp k:Int} {vs:List Int} {S:dO} {t:Nat} {m:Nat} (hk:k=3∨k=4∨k=5∨k=6∨k=7) (hm:vs.length=m/\∀ x∈vs,qS S x) (hm1:1<=m) (hm2:¬k=7->2<=m) (hg:Good inp S (t+1)) (hcap:S.fR.length<12+(t+1)) (ht:t+1<=3000):vO (λr u=>Good inp r.2 u/\S.ext r.2/\qS r.2 r.1/\u=t+1/\r.2.fR.length=S.fR.length+1/\r.2.guards=S.guards) (opR k vs S (t+1)):=by
 have at_:∀ i,i<m->qS S (vs.getD i 0):=λi hi=>by
  rw[gG,eY aA]
  exact hm.2 _ (kM _)
 unfold opR
 split
 ·exact vO.err
 ·rename_i v hv
  have h0:=at_ 0 aA
  refine vO.pure ⟨hg.put ?_ (a88 hv) hcap,S.aHC _ _,⟨by simp,by simp[dO.put];omega⟩,rfl,by simp[dO.put],rfl⟩
  unfold qS at h0
  by_cases h7:k=7
  ·subst h7
   exact .inr (.inr (.inr ⟨rfl,rfl,rfl,h0⟩))
  ·have h1:=at_ 1 (hm2 h7)
   unfold qS at h1
   have hb:opB k vs=vs.getD 1 0:=if_neg h7
   exact .inr (.inr (.inl ⟨by simp only;omega,rfl,h0.1,h0.2,by simp only[hb];exact h1.1,by simp only[hb];exact h1.2⟩))
theorem aON {p:aG} {n st:Nat} {e:aD} {env:List Int} {S:dO} (h3:¬st=3000) (hk:e.aT=1):fD p (n+1) st e env S=.ok (((S.fR.length:Int),S.put ⟨2,0,0,e.bB⟩ e.bB),st+1):=by rw[fD,if_neg h3,if_pos hk]
theorem aOO {p:aG} {n st:Nat} {e:aD} {env:List Int} {S:dO} (h3:¬st=3000) (hk:e.aT=2):fD p (n+1) st e env S=.ok ((env.getD e.bB.toNat 0,S),st+1):=by rw[fD,if_neg h3,if_neg aA,if_pos hk]
theorem aAG {p:aG} {n st:Nat} {e:aD} {env:List Int} {S:dO} (h3:¬st=3000) (hk:e.aT=8):fD p (n+1) st e env S=(fD p n (st+1) (e.pY 0) env S).andThen λr t =>
   if r.2.val r.1=0 then fD p n t (e.pY 1) env (r.2.guard ⟨r.1,true⟩)else fD p n t (e.pY 2) env (r.2.guard ⟨r.1,false⟩):=by rw[fD,if_neg h3,if_neg aA,if_neg aA,if_pos hk]
theorem aOP {p:aG} {n st:Nat} {e:aD} {env:List Int} {S:dO} (h3:¬st=3000) (hk:e.aT=9):fD p (n+1) st e env S=(fD p n (st+1) (e.pY 0) env S).andThen λr t=>fD p n t (e.pY 1) (env++[r.1]) r.2:=by rw[fD,if_neg h3,if_neg aA,if_neg aA,if_neg aA,if_pos hk]
theorem aDY {p:aG} {n st:Nat} {e:aD} {env:List Int} {S:dO} (h3:¬st=3000) (hk:e.aT=10):fD p (n+1) st e env S=(rI (λt e S=>fD p n t e env S) e.aM (st+1) S).andThen λr t=>fD p n t (p.out e.bB e.c4) r.1 r.2:=by
 rw[fD,if_neg h3,if_neg aA,if_neg aA,if_neg aA,if_neg aA];simp only[if_pos hk]
theorem aDZ {p:aG} {n st:Nat} {e:aD} {env:List Int} {S:dO} (h3:¬st=3000) (hk:e.aT=11):fD p (n+1) st e env S=(rI (λt e S=>fD p n t e env S) e.aM (st+1) S).andThen λr t=>(sS (λvs t S=>rI (λt e S=>fD p n t e vs S) (p.outs e.bB) t S) e.cN.toNat r.1 t r.2).andThen λr t=>.ok ((r.1.getD e.c4.toNat 0,r.2),t):=by
 have h:¬e.aT=10:=by omega
 rw[fD,if_neg h3,if_neg aA,if_neg aA,if_neg aA,if_neg aA];simp only[if_neg h,if_pos hk]
theorem oD {p:aG} {n st:Nat} {e:aD} {env:List Int} {S:dO} (h3:¬st=3000) (hk:e.aT=3∨e.aT=4∨e.aT=5∨e.aT=6∨e.aT=7):fD p (n+1) st e env S=(rI (λt e S=>fD p n t e env S) e.aM (st+1) S).andThen λr t=>opR e.aT r.1 r.2 t:=by
 have h:¬e.aT=10:=by omega
 have h2:¬e.aT=11:=by omega
 rw[fD,if_neg h3,if_neg aA,if_neg aA,if_neg aA,if_neg aA];simp only[if_neg h,if_neg h2]
theorem pM.step {S S':dO} {t u:Nat} (h:pM S (t+1) S' u):pM S t S' u:=by unfold pM at *;omega
theorem vP {p:aG} (hp:p.ok) {inp:Int}:∀ (n t:Nat) (e:aD) (env:List Int) (S:dO) (funcs:Int),e.ok p funcs env.length->funcs<=p.aK.length->Good inp S t->t<=3000->(∀ x∈env,qS S x)->vO (aJI inp S t) (fD p n t e env S)
 |0,t,e,env,S,funcs,_,_,_,_,_=>vO.err
 |n+1,t,e,env,S,funcs,hok,hf,hg,ht,henv=>by
  have ih:=vP hp (inp:=inp) n
  have hnode:=((aD.eI _ _ _ _).1 hok).1
  by_cases h3:t=3000
  ·rw[fD,if_pos h3];exact vO.err
  have pK:=hg.vN (qV t)
  have hcap:=hg.cap
  have hgcap:=hg.y6
  have henvE:∀ {S'},S.ext S'->∀ x∈env,qS S' x:=λe x hx=>(henv x hx).ext e
  rcases tQ hnode with hk|hk|hk|hk|hk|hk|hk|hk|hk|hk|hk
  ·rw[aON h3 hk]
   have hn:=((eE aA).1 hnode).2.2.2.1 hk
   exact vO.pure ⟨pK.put (.inr (.inl ⟨rfl,rfl,rfl,hn⟩)) hn aA,S.aHC _ _,⟨by simp,by simp[dO.put];omega⟩,by simp[pM,dO.put];omega⟩
  ·rw[aOO h3 hk]
   have hn:=((eE aA).1 hnode).2.2.2.2.1 hk
   refine vO.pure ⟨pK,S.uO,?_,by simp[pM];omega⟩
   simp only[gG]
   rw[eY aA]
   exact henv _ (kM _)
  iterate 5
   ·have hlen:=fI hok aA
    rw[hk]at hlen
    rw[oD h3 aA]
    refine(lH _ _ S pK aA λx hx u S' a b c=>ih u x env S' funcs (gR hok aA x hx) hf a c.2.2.2 (henvE b)).then λr u hr=>?_
    obtain⟨r1,r2,r3,r4⟩:=hr
    obtain⟨u,rfl⟩:∃ w,u=w+1:=⟨u-1,by have:=r4.2.2.1;omega⟩
    unfold pM at r4
    refine(bGE (inp:=inp) aA r3 aQA (λq=>by unfold e8 at hlen;simp at hlen;omega) r1 aA aA).mono λq v hq=>?_
    obtain⟨q1,q2,q3,rfl,q5,q6⟩:=hq
    exact⟨q1,r2.trans q2,q3,by unfold pM;rw[q5,q6];omega⟩
  ·have hlen:=fI hok aA
   rw[hk,show e8 8=3 from rfl]at hlen
   have o0:=aD.fM hok (i:=0) aA
   have o1:=aD.fM hok (i:=1) aA
   have o2:=aD.fM hok (i:=2) aA
   rw[jA aA]at o0 o1 o2
   rw[aAG h3 hk]
   refine(ih _ _ _ _ _ o0 hf pK aA henv).then λr u hr=>?_
   obtain⟨r1,r2,r3,r4⟩:=hr
   have r4':=r4
   unfold pM at r4'
   have go:∀ (b:Bool) (k:aD),k.ok p funcs env.length->vO (aJI inp S t) (fD p n u k env (r.2.guard ⟨r.1,b⟩)):=λb k hk=>by
    have he:r.2.ext (r.2.guard ⟨r.1,b⟩):=r.2.rJ _
    refine(ih u k env _ _ hk hf (r1.guard r3 aA) aA (henvE (r2.trans he))).mono λq v hq=>?_
    obtain⟨q1,q2,q3,q4⟩:=hq
    refine⟨q1,(r2.trans he).trans q2,q3,?_⟩
    unfold pM at q4 ⊢
    simp only[dO.guard,gD,nA]at q4
    omega
   split
   ·exact go _ _ o1
   ·exact go _ _ o2
  ·have hlen:=fI hok aA
   rw[hk,show e8 9=2 from rfl]at hlen
   have o0:=aD.fM hok (i:=0) aA
   have o1:=aD.fM hok (i:=1) aA
   rw[jA aA]at o0
   rw[hk,show jG 9 1 (env.length:Int)=env.length+1 from rfl]at o1
   rw[aOP h3 hk]
   refine(ih _ _ _ _ _ o0 hf pK aA henv).then λr u hr=>?_
   obtain⟨r1,r2,r3,r4⟩:=hr
   refine(ih _ _ (env++[r.1]) _ _ aH2 hf r1 r4.2.2.2 λx hx=>?_).mono λq v hq=>?_
   ·rcases oW.1 hx with hx|hx
    ·exact henvE r2 x hx
    ·rw[jL.1 hx];exact r3
   ·obtain⟨q1,q2,q3,q4⟩:=hq
    exact⟨q1,r2.trans q2,q3,(r4.trans q4).step⟩
  ·obtain⟨f,F⟩:=pF hp hok hf (.inl hk)
   have f2:=F.hi
   have f4:=F.pk2
   rw[aDY h3 hk]
   refine(lH _ _ S pK aA λx hx u S' a b c=>ih u x env S' funcs (gR hok aA x hx) hf a c.2.2.2 (henvE b)).then λr u hr=>?_
   obtain⟨r1,r2,r3,r4⟩:=hr
   refine(ih _ _ r.1 _ e.bB bB8 aA r1 r4.2.2.2 r3.2).mono λq v hq=>?_
   obtain⟨q1,q2,q3,q4⟩:=hq
   exact⟨q1,r2.trans q2,q3,(r4.trans q4).step⟩
  ·obtain⟨f,F⟩:=pF hp hok hf (.inr hk)
   have f2:=F.hi
   have f4:=F.pk2
   have f9:=F.loop hk
   rw[aDZ h3 hk]
   refine(lH _ _ S pK aA λx hx u S' a b c=>ih u x env S' funcs (gR hok aA x hx) hf a c.2.2.2 (henvE b)).then λr u hr=>?_
   obtain⟨r1,r2,r3,r4⟩:=hr
   refine(xD (inp:=inp) (m:=f.aS.length) (λvs w S' hg' hv hw=>?_) _ _ _ _ r1 ⟨by have:=r3.1;have:=F.kids;omega,r3.2⟩ r4.2.2.2).then λq v hq=>?_
   ·rw[F.eq]
    exact lH _ _ S' hg' hw λx hx u S'' a b c=>ih u x vs S'' e.bB a2X aA a c.2.2.2 λy hy=>(hv.2 y hy).ext b
   ·obtain⟨q1,q2,q3,q4⟩:=hq
    refine vO.pure ⟨q1,r2.trans q2,?_,(r4.trans q4).step⟩
    simp only[gG]
    rw[eY (by rw[q3.1];exact f4)]
    exact q3.2 _ (kM _)
def mM {α β:Type} (R:α->β->Prop) (X:Out α) (Y:Out β):Prop:=match X,Y with
 | .ok (v,t),.ok (v',t')=>R v v'/\t=t'
 | .error c,.error c'=>c=c'
 | _,_=>False
theorem mM.bind {α β γ δ:Type} {R:α->β->Prop} {R':γ->δ->Prop} {P:α->Nat->Prop} {X:Out α} {Y:Out β} {F:α->Nat->Out γ} {G:β->Nat->Out δ} (hp:vO P X) (h:mM R X Y) (hf:∀ v v' t,P v t->R v v'->mM R' (F v t) (G v' t)):mM R' (X.andThen F) (Y.andThen G):=by
 cases X with
 |ok p =>
  cases Y with
  |ok q =>
   obtain⟨v,t⟩:=p
   obtain⟨v',t'⟩:=q
   obtain⟨h1,rfl⟩:=h
   exact hf _ _ _ (hp v t rfl) h1
  |error c=>exact h.elim
 |error c =>
  cases Y with
  |ok q=>exact h.elim
  |error d=>exact h
theorem mM.pure {α β:Type} {R:α->β->Prop} {v:α} {v':β} {t:Nat} (h:R v v'):mM R (.ok (v,t)) (.ok (v',t)):=⟨h,rfl⟩
def sv (S:dO) (l:List Int):List (List Int):=l.map λk=>[S.val k]
def sR1 (r:Int×dO) (v:List Int):Prop:=v=[r.2.val r.1]
def sRL (r:List Int×dO) (vs:List (List Int)):Prop:=vs=sv r.2 r.1
theorem aJJ {S S':dO} {l:List Int} (h:∀ x∈l,qS S x) (e:S.ext S'):sv S' l=sv S l :=
 zE λx hx=>by rw[e.val (h x hx).1 (h x hx).2]
theorem xE {ev:Nat->aD->dO->Out (Int×dO)} {ev':Nat->aD->Out (List Int)} {inp:Int}:∀ (l:List aD) (t:Nat) (S:dO),Good inp S t->t<=3000->(∀ e∈l,∀ u S',Good inp S' u->S.ext S'->pM S t S' u->vO (aJI inp S' u) (ev u e S')/\mM sR1 (ev u e S') (ev' u e))->mM sRL (rI ev l t S) (m6 ev' l t)
 | [],t,S,hg,ht,_=>mM.pure rfl
 |e::l,t,S,hg,ht,h=>by
  obtain⟨h1,h2⟩:=h e zD t S hg S.uO (.refl ht)
  refine mM.bind h1 h2 λr v u hr hv=>?_
  obtain⟨r1,r2,r3,r4⟩:=hr
  have hl:=λx hx u' S' a b c=>h x (v9 _ hx) u' S' a (r2.trans b) (r4.trans c)
  refine mM.bind (lH l u r.2 r1 r4.2.2.2 λx hx u' S' a b c=>(hl x hx u' S' a b c).1) (xE l u r.2 r1 r4.2.2.2 hl) λq vs u' hq hvs=>mM.pure ?_
  rw[sR1]at hv
  rw[sRL]at hvs ⊢
  rw[hv,hvs,←hq.2.1.val r3.1 r3.2];rfl
theorem aMH {f:List Int->Nat->dO->Out (List Int×dO)} {g:List (List Int)->Nat->Out (List (List Int))} {inp:Int} {m:Nat} (h:∀ vs t S,Good inp S t->(vs.length=m/\∀ x∈vs,qS S x)->t<=3000->vO (aBO inp S t m) (f vs t S)/\mM sRL (f vs t S) (g (sv S vs) t)) :
  ∀ (n:Nat) (vs:List Int) (t:Nat) (S:dO),Good inp S t->(vs.length=m/\∀ x∈vs,qS S x)->t<=3000->mM sRL (sS f n vs t S) (sR g n (sv S vs) t)
 |0,vs,t,S,hg,hv,ht=>mM.pure rfl
 |n+1,vs,t,S,hg,hv,ht=>by
  obtain⟨h1,h2⟩:=h vs t S hg hv ht
  refine mM.bind h1 h2 λr w u hr hw=>?_
  rw[sRL]at hw
  rw[hw]
  exact aMH h n r.1 u r.2 hr.1 hr.2.2.1 hr.2.2.2.2.2.2
theorem aCB {S:dO} {l:List Int} {i:Nat} (hi:i<l.length):(sv S l).getD i []=[S.val (l.getD i 0)]:=by
 simp[sv,gG,eY hi]
theorem a9A {k:Int} {vs:List Int} {S:dO} {t:Nat} (hk:k=3∨k=4∨k=5∨k=6∨k=7) (h1:1<=vs.length) (h2:¬k=7->2<=vs.length):mM sR1 (opR k vs S t) (opE k (sv S vs) t):=by
 have g0:=aCB (S:=S) (l:=vs) (i:=0) aA
 have pv:∀ c v,(S.put c v).val (S.fR.length:Int)=v:=λc v=>by
  rw[dO.val,dO.put,gG,tX,v8 (bX _),sU];rfl
 unfold opR opE opV
 rcases hk with rfl|rfl|rfl|rfl|rfl
 all_goals simp only[reduceCtorEq,if_true,if_false,Int.reduceEq]
 ·refine mM.pure ?_
  have g1:=aCB (S:=S) (l:=vs) (i:=1) (h2 bO)
  rw[sR1,pv,g0,g1]
  rfl
 ·refine mM.pure ?_
  have g1:=aCB (S:=S) (l:=vs) (i:=1) (h2 bO)
  rw[sR1,pv,g0,g1]
  show[(_+_*1000002%1000003)%1000003]=[(_-S.val (vs.getD 1 0))%1000003]
  congr 1
  omega
 ·refine mM.pure ?_
  have g1:=aCB (S:=S) (l:=vs) (i:=1) (h2 bO)
  rw[sR1,pv,g0,g1]
  show[(0+_*_)%1000003]=[_*S.val (vs.getD 1 0)%1000003]
  rw[Int.zero_add];rfl
 ·have g1:=aCB (S:=S) (l:=vs) (i:=1) (h2 bO)
  rw[g0,g1,show opB 6 vs=vs.getD 1 0 from rfl,show[S.val (vs.getD 1 0)].getD 0 0=S.val (vs.getD 1 0)from rfl]
  by_cases h:S.val (vs.getD 1 0)=0
  ·rw[if_pos h,if_pos h];exact rfl
  ·rw[if_neg h,if_neg h]
   refine mM.pure ?_
   rw[sR1,pv];rfl
 ·refine mM.pure ?_
  rw[sR1,pv,g0]
  show[_*1000002%1000003]=[(0-S.val (vs.getD 0 0))%1000003]
  congr 1
  omega
theorem aR7 {p:aG} (hp:p.ok) {inp:Int}:∀ (n t:Nat) (e:aD) (env:List Int) (S:dO) (funcs:Int),e.ok p funcs env.length->funcs<=p.aK.length->Good inp S t->t<=3000->(∀ x∈env,qS S x)->mM sR1 (fD p n t e env S) (kU p 1 n t e (sv S env))
 |0,t,e,env,S,funcs,_,_,_,_,_=>rfl
 |n+1,t,e,env,S,funcs,hok,hf,hg,ht,henv=>by
  have ih:=aR7 hp (inp:=inp) n
  have io:=vP hp (inp:=inp) n
  have hnode:=((aD.eI _ _ _ _).1 hok).1
  by_cases h3:t=3000
  ·rw[fD,kU,if_pos h3,if_pos h3];exact rfl
  have pK:=hg.vN (qV t)
  have hcap:=hg.cap
  have hgcap:=hg.y6
  have henvE:∀ {S'},S.ext S'->∀ x∈env,qS S' x:=λe x hx=>(henv x hx).ext e
  have kidsS:¬e.aT=9->∀ x∈e.aM,∀ u S',Good inp S' u->S.ext S'->pM S (t+1) S' u->vO (aJI inp S' u) (fD p n u x env S')/\mM sR1 (fD p n u x env S') (kU p 1 n u x (sv S env)):=λh9 x hx u S' a b c =>
   ⟨io u x env S' funcs (gR hok h9 x hx) hf a c.2.2.2 (henvE b),by
    have:=ih u x env S' funcs (gR hok h9 x hx) hf a c.2.2.2 (henvE b)
    rwa [aJJ henv b]at this⟩
  rcases tQ hnode with hk|hk|hk|hk|hk|hk|hk|hk|hk|hk|hk
  ·rw[aON h3 hk,aX5 h3 hk]
   refine mM.pure ?_
   simp[sR1,dO.val,dO.put,cS,aGH]
  ·rw[aOO h3 hk,aX6 h3 hk]
   have hn:=((eE aA).1 hnode).2.2.2.2.1 hk
   exact mM.pure (aCB aA)
  iterate 5
   ·have hlen:=fI hok aA
    rw[hk]at hlen
    rw[oD h3 aA,aJG h3 aA]
    have hs:=kidsS aA
    refine mM.bind (lH _ _ S pK aA λx hx u S' a b c=>(hs x hx u S' a b c).1) (xE _ _ S pK aA hs) λr vs u hr hv=>?_
    obtain⟨r1,r2,r3,r4⟩:=hr
    rw[sRL]at hv
    rw[hv]
    exact a9A aA aQA (λq=>by unfold e8 at hlen;simp at hlen;omega)
  ·have hlen:=fI hok aA
   rw[hk,show e8 8=3 from rfl]at hlen
   have o0:=aD.fM hok (i:=0) aA
   have o1:=aD.fM hok (i:=1) aA
   have o2:=aD.fM hok (i:=2) aA
   rw[jA aA]at o0 o1 o2
   rw[aAG h3 hk,aR2 h3 hk]
   refine mM.bind (io _ _ _ _ _ o0 hf pK aA henv) (ih _ _ _ _ _ o0 hf pK aA henv) λr v u hr hv=>?_
   obtain⟨r1,r2,r3,r4⟩:=hr
   have r4':=r4
   unfold pM at r4'
   rw[sR1]at hv
   subst hv
   rw[show[r.2.val r.1].getD 0 0=r.2.val r.1 from rfl]
   have go:∀ (b:Bool) (k:aD),k.ok p funcs env.length->mM sR1 (fD p n u k env (r.2.guard ⟨r.1,b⟩)) (kU p 1 n u k (sv S env)):=λb k hk=>by
    have he:r.2.ext (r.2.guard ⟨r.1,b⟩):=r.2.rJ _
    have:=ih u k env _ _ hk hf (r1.guard (b:=b) r3 aA) aA (henvE (r2.trans he))
    rwa [aJJ henv (r2.trans he)]at this
   by_cases hz:r.2.val r.1=0
   ·rw[if_pos hz,if_pos hz];exact go _ _ o1
   ·rw[if_neg hz,if_neg hz];exact go _ _ o2
  ·have hlen:=fI hok aA
   rw[hk,show e8 9=2 from rfl]at hlen
   have o0:=aD.fM hok (i:=0) aA
   have o1:=aD.fM hok (i:=1) aA
   rw[jA aA]at o0
   rw[hk,show jG 9 1 (env.length:Int)=env.length+1 from rfl]at o1
   rw[aOP h3 hk,aX7 h3 hk]
   refine mM.bind (io _ _ _ _ _ o0 hf pK aA henv) (ih _ _ _ _ _ o0 hf pK aA henv) λr v u hr hv=>?_
   obtain⟨r1,r2,r3,r4⟩:=hr
   rw[sR1]at hv
   subst hv
   have:=ih u (e.pY 1) (env++[r.1]) r.2 funcs aH2 hf r1 r4.2.2.2 (λx hx=>by
    rcases oW.1 hx with hx|hx
    ·exact henvE r2 x hx
    ·rw[jL.1 hx];exact r3)
   rwa [show sv r.2 (env++[r.1])=sv S env++[[r.2.val r.1]]by rw[←aJJ henv r2,sv,lT];rfl]at this
  ·obtain⟨f,F⟩:=pF hp hok hf (.inl hk)
   have f2:=F.hi
   have f4:=F.pk2
   rw[aDY h3 hk,aOD h3 hk]
   have hs:=kidsS aA
   refine mM.bind (lH _ _ S pK aA λx hx u S' a b c=>(hs x hx u S' a b c).1) (xE _ _ S pK aA hs) λr vs u hr hv=>?_
   obtain⟨r1,r2,r3,r4⟩:=hr
   rw[sRL]at hv
   rw[hv]
   exact ih _ _ r.1 _ e.bB bB8 aA r1 r4.2.2.2 r3.2
  ·obtain⟨f,F⟩:=pF hp hok hf (.inr hk)
   have f2:=F.hi
   have f4:=F.pk2
   have f9:=F.loop hk
   rw[aDZ h3 hk,aOE h3 hk]
   have hs:=kidsS aA
   refine mM.bind (lH _ _ S pK aA λx hx u S' a b c=>(hs x hx u S' a b c).1) (xE _ _ S pK aA hs) λr vs u hr hv=>?_
   obtain⟨r1,r2,r3,r4⟩:=hr
   rw[sRL]at hv
   rw[hv]
   have hfl:∀ vs t S,Good inp S t->(vs.length=f.aS.length/\∀ x∈vs,qS S x)->t<=3000->vO (aBO inp S t f.aS.length) (rI (λt e S=>fD p n t e vs S) (p.outs e.bB) t S)/\mM sRL (rI (λt e S=>fD p n t e vs S) (p.outs e.bB) t S) (m6 (λt e=>kU p 1 n t e (sv S vs)) (p.outs e.bB) t):=λvs w S' hg' hv hw=>by
    rw[F.eq]
    have hx2:∀ x∈f.aS,∀ u S'',Good inp S'' u->S'.ext S''->pM S' w S'' u->vO (aJI inp S'' u) (fD p n u x vs S'')/\mM sR1 (fD p n u x vs S'') (kU p 1 n u x (sv S' vs)):=λx hx u S'' a b c =>
     ⟨io u x vs S'' e.bB a2X aA a c.2.2.2 λy hy=>(hv.2 y hy).ext b,by
      have:=ih u x vs S'' e.bB a2X aA a c.2.2.2 λy hy=>(hv.2 y hy).ext b
      rwa [aJJ hv.2 b]at this⟩
    exact⟨lH _ _ S' hg' hw λx hx u S'' a b c=>(hx2 x hx u S'' a b c).1,xE _ _ S' hg' hw hx2⟩
   have hv0:r.1.length=f.aS.length/\∀ x∈r.1,qS r.2 x:=⟨by have:=r3.1;have:=F.kids;omega,r3.2⟩
   refine mM.bind (xD (inp:=inp) (m:=f.aS.length) (λvs t S a b c=>(hfl vs t S a b c).1) _ _ _ _ r1 hv0 r4.2.2.2) (aMH (inp:=inp) (m:=f.aS.length) (g:=λvs t=>m6 (λt e=>kU p 1 n t e vs) (p.outs e.bB) t) hfl _ _ _ _ r1 hv0 r4.2.2.2) λq vs2 v hq hvs=>?_
   refine mM.pure ?_
   rw[sRL]at hvs
   rw[hvs]
   exact aCB (by rw[hq.2.2.1.1];exact f4)
def inS (args:List Int):dO:=⟨(List.range args.length).map λi:Nat=>⟨1,0,0,(i:Int)⟩,args,[]⟩
def inE (args:List Int):List Int:=(List.range args.length).map λi:Nat=>(i:Int)
theorem aJK (args:List Int) (ha:dW args) (hl:args.length<=12):Good args.length (inS args) 0:=by
 refine⟨by simp[inS],ha,λi c hc=>?_,λg hg=>(by cases hg),by simpa[inS]using hl,bX _⟩
 obtain⟨h1,h2⟩:=iO.1 hc
 simp[inS]at h1 h2
 subst h2
 exact .inl ⟨rfl,rfl,rfl,by simp only;omega,by simp only;omega⟩
theorem aUM (args:List Int):∀ x∈inE args,qS (inS args) x:=λx hx=>by
 obtain⟨i,hi,rfl⟩:=lA.1 hx
 have:=aGK.1 hi
 exact⟨by omega,by simp[inS];omega⟩
theorem bGF (args:List Int):sv (inS args) (inE args)=args.map λn=>[n]:=by
 apply u4
 ·simp[sv,inE]
 ·intro i h1 h2
  simp[sv,inE,inS,dO.val]
  simp at h2
  rw[eY h2];rfl
def oE (p:aG) (f:Int) (args:List Int):Out (List Int×dO):=rI (λt e S=>fD p 3001 t e (inE args) S) (p.outs f) 0 (inS args)
theorem aHE {p:aG} (hp:p.ok) (f:Int) (hf:0<=f/\f<p.aK.length) (args:List Int) (ha:dW args) (hl:∀ F,p.aK[f.toNat]?=some F->(args.length:Int)=F.aW) :
  vO (aBO args.length (inS args) 0 (p.outs f).length) (oE p f args)/\mM sRL (oE p f args) (evF p 1 f (args.map λn=>[n])):=by
 obtain⟨F,ef,hF1,hF2,hF3,hF4⟩:=vK hp hf
 have hla:=hl F ef
 have hg:=aJK args ha aA
 have hin:=aUM args
 have hel:(inE args).length=args.length:=by simp[inE]
 have hx2:∀ x∈p.outs f,∀ u S'',Good args.length S'' u->(inS args).ext S''->pM (inS args) 0 S'' u->vO (aJI args.length S'' u) (fD p 3001 u x (inE args) S'')/\mM sR1 (fD p 3001 u x (inE args) S'') (kU p 1 3001 u x (args.map λn=>[n])):=λx hx u S'' a b c=>by
  have hxo:x.ok p f (inE args).length:=by rw[hel,hla];exact hF4 x (by rw[←hF3];exact hx)
  refine⟨vP hp _ u x _ S'' f hxo aA a c.2.2.2 λy hy=>(hin y hy).ext b,?_⟩
  have:=aR7 hp 3001 u x (inE args) S'' f hxo aA a c.2.2.2 λy hy=>(hin y hy).ext b
  rwa [aJJ hin b,bGF]at this
 exact⟨lH _ _ _ hg aA λx hx u S'' a b c=>(hx2 x hx u S'' a b c).1,xE _ _ _ hg aA hx2⟩
def c7 (p:aG) (inp:Int) (S:dO) (om og ov:Option Nat) (st:Nat) (c:Int):bV :=
 .row 8 [[.v (gF 3 aX.c p.aK),.v (I inp),.v (jN 4 S.code.length om),.v (jN 2 S.guards.length og),.v .bS,.v (jN 1 S.fR.length ov),.v (I st),.v (I c)]]
def aJL (h:aB) (sz:Nat) (rows:List (List Cell)):Option Nat->Prop
 |none=>rows=[]
 |some m=>rows≠[]/\h m=some (.row sz rows)
def rowsOf {α:Type} (c:α->List aE) (l:List α):List (List Cell):=(l.map c).map (List.map .v)
theorem rA {α:Type} (c:α->List aE) (l:List α):(rowsOf c l).length=l.length:=by simp[rowsOf]
theorem vQ {α:Type} (c:α->List aE) (l:List α) (x:α):rowsOf c (l++[x])=rowsOf c l++[(c x).map .v]:=by simp[rowsOf]
theorem nR {α:Type} {c:α->List aE} {l:List α}:rowsOf c l=[]↔l=[]:=by simp[rowsOf]
structure xF (bx:dO->Option Nat->Option Nat->Option Nat->bV) (h0:aB) (nb:Nat) (S:dO) (om og ov:Option Nat) (h:aB):Prop where
 box:h nb=some (bx S om og ov)
 odd:∀ S om og ov,∃ sz cs,bx S om og ov=.row sz cs/\¬sz=1/\¬sz=2/\¬sz=4
 code:aJL h 4 (rowsOf bH.c S.code) om
 gds:aJL h 2 (rowsOf gA.c S.guards) og
 fR:aJL h 1 (rowsOf (λn=>[I n]) S.fR) ov
 fresh:∀ n,n=nb∨some n=om∨some n=og∨some n=ov->h0 n=none
 upto:∀ n,¬n=nb->¬some n=om->¬some n=og->¬some n=ov->h n=h0 n
def qO (bx:dO->Option Nat->Option Nat->Option Nat->bV) (h0:aB) (nb:Nat) (S:dO) (h:aB):Prop:=∃ om og ov,xF bx h0 nb S om og ov h
abbrev bDN (h0:aB) (nb:Nat) (p:aG) (inp:Int) (S:dO) (st:Nat) (c:Int) (om og ov:Option Nat) (h:aB):Prop:=xF (λS om og ov=>c7 p inp S om og ov st c) h0 nb S om og ov h
abbrev jH (h0:aB) (nb:Nat) (p:aG) (inp:Int) (S:dO) (st:Nat) (c:Int) (h:aB):Prop:=qO (λS om og ov=>c7 p inp S om og ov st c) h0 nb S h
theorem aJM (p:aG) (inp:Int) (st:Nat) (c:Int):∀ S om og ov,∃ sz cs,c7 p inp S om og ov st c=.row sz cs/\¬sz=1/\¬sz=2/\¬sz=4:=λS om og ov=>⟨8,_,rfl,by decide,by decide,by decide⟩
theorem xF.kinds {h0 h:aB} {nb:Nat} {bx:dO->Option Nat->Option Nat->Option Nat->bV} {S:dO} {om og ov:Option Nat} (H:xF bx h0 nb S om og ov h) (n:Nat) :
  (n=nb->h n=some (bx S om og ov))/\(some n=om->h n=some (.row 4 (rowsOf bH.c S.code)))/\(some n=og->h n=some (.row 2 (rowsOf gA.c S.guards)))/\(some n=ov->h n=some (.row 1 (rowsOf (λn=>[I n]) S.fR))) :=
 ⟨λe=>e▸H.box,λe=>by have:=H.code;rw[←e]at this;exact this.2,λe=>by have:=H.gds;rw[←e]at this;exact this.2,λe=>by have:=H.fR;rw[←e]at this;exact this.2⟩
theorem xF.apart {h0 h:aB} {nb:Nat} {bx:dO->Option Nat->Option Nat->Option Nat->bV} {S:dO} {om og ov:Option Nat} (H:xF bx h0 nb S om og ov h) (n:Nat) :
  (n=nb->¬some n=om/\¬some n=og/\¬some n=ov)/\(some n=om->¬some n=og/\¬some n=ov)/\(some n=og->¬some n=ov)/\(h n=none->¬n=nb/\¬some n=om/\¬some n=og/\¬some n=ov):=by
 obtain⟨k1,k2,k3,k4⟩:=H.kinds n
 obtain⟨sz,cs,hB,o1,o2,o4⟩:=H.odd S om og ov
 rw[hB]at k1
 refine⟨λe=>⟨λq=>?_,λq=>?_,λq=>?_⟩,λe=>⟨λq=>?_,λq=>?_⟩,λe q=>?_,λe=>⟨λq=>?_,λq=>?_,λq=>?_,λq=>?_⟩⟩
 ·have:=(k1 e).symm.trans (k2 q);simp at this;exact o4 this.1
 ·have:=(k1 e).symm.trans (k3 q);simp at this;exact o2 this.1
 ·have:=(k1 e).symm.trans (k4 q);simp at this;exact o1 this.1
 ·have:=(k2 e).symm.trans (k3 q);simp at this
 ·have:=(k2 e).symm.trans (k4 q);simp at this
 ·have:=(k3 e).symm.trans (k4 q);simp at this
 ·have:=(k1 q);rw[e]at this;cases this
 ·have:=(k2 q);rw[e]at this;cases this
 ·have:=(k3 q);rw[e]at this;cases this
 ·have:=(k4 q);rw[e]at this;cases this
theorem xF.put {h0 h F:aB} {nb:Nat} {bx:dO->Option Nat->Option Nat->Option Nat->bV} {S:dO} {om og ov:Option Nat} (H:xF bx h0 nb S om og ov h) (x:bH) (v:Int) {b b2:Nat} (hb:h b=none) (wH:h b2=none) (hne:¬b2=b)
  (f1:F nb=some (bx (S.put x v) (some b) og (some b2))) (f2:F b=some (.row 4 (rowsOf bH.c (S.code++[x])))) (f3:F b2=some (.row 1 (rowsOf (λn=>[I n]) (S.fR++[v]))))
  (f4:∀ n,¬n=nb->¬n=b->¬n=b2->¬some n=om->¬some n=ov->F n=h n):∃ g:aB,g.le F/\qO bx h0 nb (S.put x v) g:=by
 have a1:=(H.apart nb).1 rfl
 have a2:=(H.apart b).2.2.2 hb
 have a3:=(H.apart b2).2.2.2 wH
 have g1:∀ n,some n=om∨some n=ov->h0 n=none:=λn hn=>H.fresh n (by rcases hn with hn|hn;exact .inr (.inl hn);exact .inr (.inr (.inr hn)))
 have g2:h0 b=none:=(H.upto b a2.1 a2.2.1 a2.2.2.1 a2.2.2.2).symm.trans hb
 have g3:h0 b2=none:=(H.upto b2 a3.1 a3.2.1 a3.2.2.1 a3.2.2.2).symm.trans wH
 have get:∀ n,¬some n=om->¬some n=ov->(λn=>if some n=om∨some n=ov then none else F n) n=F n:=λn h1 h2=>if_neg (by rintro(q|q);exact h1 q;exact h2 q)
 refine⟨λn=>if some n=om∨some n=ov then none else F n,λn=>?_,some b,og,some b2,⟨?_,H.odd,⟨by simp[rowsOf,dO.put],?_⟩,?_,⟨by simp[rowsOf,dO.put],?_⟩,λn hn=>?_,λn h1 h2 h3 h4=>?_⟩⟩
 ·by_cases e:some n=om∨some n=ov
  ·exact .inl (if_pos e)
  ·exact .inr (if_neg e)
 ·exact(get nb a1.1 a1.2.2).trans f1
 ·exact(get b a2.2.1 a2.2.2.2).trans f2
 ·have hg:=H.gds
  cases og with
  |none=>exact hg
  |some k =>
   have ak:=(H.apart k)
   have hk:=hg.2
   refine⟨hg.1,(get k (λq=>ak.2.1 q |>.1 rfl) (λq=>ak.2.2.1 rfl q)).trans ?_⟩
   rw[f4 k (λq=>(ak.1 q).2.1 rfl) (λq=>by rw[q,hb]at hk;cases hk) (λq=>by rw[q,wH]at hk;cases hk) (λq=>ak.2.1 q |>.1 rfl) (λq=>ak.2.2.1 rfl q)]
   exact hk
 ·exact(get b2 a3.2.1 a3.2.2.2).trans f3
 ·rcases hn with rfl|hn|hn|hn
  ·exact H.fresh _ (.inl rfl)
  ·obtain rfl:=gH hn;exact g2
  ·exact H.fresh n (.inr (.inr (.inl hn)))
  ·obtain rfl:=gH hn;exact g3
 ·have h2':¬n=b:=λq=>h2 (by rw[q])
  have h4':¬n=b2:=λq=>h4 (by rw[q])
  by_cases e:some n=om∨some n=ov
  ·exact(if_pos e).trans (g1 n e).symm
  ·have e1:¬some n=om:=λq=>e (.inl q)
   have e2:¬some n=ov:=λq=>e (.inr q)
   exact((get n e1 e2).trans (f4 n h1 h2' h4' e1 e2)).trans (H.upto n h1 e1 h3 e2)
@[go_sem] def bDO:List Nat:=[4,15,22]
@[go_sem] def bDP:Marks:=λid=>match id with|1=>([6,9,13,16,20,23],(.op 0 (.op 1 (.op 2 (.op 3 (.op 4 (.op 5 (.op 7 (.op 8 (.op 10 (.op 11 (.op 12 (.op 14 (.op 15 (.op 6 (.op 13 (.op 9 (.op 16 (.op 17 (.op 18 (.op 19 (.op 20 (.op 21 (.op 22 (.op 23 .nil)))))))))))))))))))))))),[(13,9)])|_=>([],.nil,[])
theorem aJN {h0 h:aB} {nb:Nat} {p:aG} {inp:Int} {S:dO} {st:Nat} {c:Int} (H:jH h0 nb p inp S st c h) (x:bH) (v:Int) (hl:S.code.length=S.fR.length) (hcap:S.fR.length<=1048576) :
  iV Tryz.prog 100 [.op nb 8 0 0,.agg x.c,I v] h λr h'=>r=I S.fR.length/\jH h0 nb p inp (S.put x v) st c h':=by
 obtain⟨om,og,ov,H⟩:=H
 have hb:=H.box
 have hc:=H.code
 have hv:=H.fR
 unfold c7 at hb
 rw[bH.aZ]
 cases om with
 |none =>
  have hc0:S.code=[]:=nR.1 hc
  cases ov with
  |some v =>
   have hv0:S.fR=[]:=a2K (by rw[←hl,hc0];rfl)
   exact absurd (by rw[hv0];rfl) hv.1
  |none =>
   have hv0:S.fR=[]:=nR.1 hv
   refine mC 35 bC4 bDO bDP Tryz.func100 ?_
   simp -dsimp -implicitDefEqProofs only[go_sem,↓reduceIte,Tryz.f100,hb,mR]
   refine⟨by decide,by decide,by decide,by decide,by decide,λm hm=>?_⟩
   obtain⟨uM,kO,kN,qA⟩:=cW (show ¬m=nb from λe=>by rw[e,hb]at hm;cases hm)
   refine⟨by rw[aC _ _ _ _ qA,hb];rfl,by decide,λw ⟨hwm,hw⟩=>?_⟩
   obtain⟨aUN,wF,wG,a4Y⟩:=cW (show ¬w=nb from λe=>by rw[e,hb]at hw;cases hw)
   obtain⟨bDQ,aR8,aR9,bDR⟩:=cW (show ¬w=m from hwm)
   try simp -dsimp -implicitDefEqProofs only[go_sem,↓reduceIte,Tryz.f100,hb,kO,aR9,kN,wG,aR8,wF,aC]
   obtain⟨g,hg,hR⟩:=H.put x v hm hw bDQ (F:=aU (aU (aU h m (.row 4 [x.c.map .v])) w (.row 1 [[.v (I v)]])) nb (c7 p inp (S.put x v) (some m) og (some w) st c)) (aI _ _ _)
    (by rw[aC _ _ _ _ uM,aC _ _ _ _ bDR,aI,hc0];rfl) (by rw[aC _ _ _ _ aUN,aI,hv0];rfl) (λn h1 h2 h3 _ _=>by rw[aC _ _ _ _ h1,aC _ _ _ _ h3,aC _ _ _ _ h2])
   refine⟨_,g,eK ?_,by rw[hv0];rfl,hR⟩
   rw[aO]
   unfold c7 at hg
   simp only[dO.put,hc0,hv0,cK,bH.aZ]at hg
   exact hg
 |some m =>
  cases ov with
  |none =>
   have hv0:S.fR=[]:=nR.1 hv
   have hc0:S.code=[]:=a2K (by rw[hl,hv0];rfl)
   exact absurd (by rw[hc0];rfl) hc.1
  |some w =>
   have hm:=hc.2
   have hw:=hv.2
   obtain⟨uM,kO,kN,qA⟩:=cW (show ¬m=nb from λe=>by rw[e,hb]at hm;cases hm)
   obtain⟨aUN,wF,wG,a4Y⟩:=cW (show ¬w=nb from λe=>by rw[e,hb]at hw;cases hw)
   obtain⟨bDQ,aR8,aR9,bDR⟩:=cW (show ¬w=m from λe=>by rw[e,hm]at hw;cases hw)
   refine mC 35 bC4 bDO bDP Tryz.func100 ?_
   simp -dsimp -implicitDefEqProofs only[go_sem,↓reduceIte,Tryz.f100,hb,cK,hm,hw,kO,aR9,kN,wG,aR8,wF,aC]
   refine⟨by decide,by decide,by decide,by decide,by decide,by rw[rA];exact bX _,by omega,by omega,λb s7=>?_⟩
   obtain⟨nP,gJ,gI,nQ⟩:=cW (show ¬b=nb from λe=>by rw[e,hb]at s7;cases s7)
   obtain⟨vM,nB,nC,uN⟩:=cW (show ¬b=m from λe=>by rw[e,hm]at s7;cases s7)
   obtain⟨bMS,bDS,bDT,bW4⟩:=cW (show ¬b=w from λe=>by rw[e,hw]at s7;cases s7)
   refine⟨by rw[aC _ _ _ _ nQ,aC _ _ _ _ qA,hb];rfl,by decide,?_⟩
   try simp -dsimp -implicitDefEqProofs only[go_sem,↓reduceIte,Tryz.f100,hb,hw,kO,aR9,nC,kN,wG,gI,aR8,wF,bDT,nB,gJ,bDS,aC]
   refine⟨by rw[rA];exact bX _,by omega,by omega,λb2 ⟨bTL,bTM,wH⟩=>?_⟩
   obtain⟨a9B,a9C,a9D,bQH⟩:=cW (show ¬b2=nb from λe=>by rw[e,hb]at wH;cases wH)
   obtain⟨bTN,bGG,bGH,bTO⟩:=cW (show ¬b2=m from bTM)
   obtain⟨bTP,bGI,bGJ,bTQ⟩:=cW (show ¬b2=w from λe=>by rw[e,hw]at wH;cases wH)
   obtain⟨bGK,bGL,bGM,bGN⟩:=cW (show ¬b2=b from bTL)
   simp -dsimp -implicitDefEqProofs only[go_sem,↓reduceIte,Tryz.f100,hb,hw,kO,aR9,nC,bGH,kN,wG,gI,a9D,aR8,wF,bDT,bGJ,nB,gJ,bDS,bGM,bGG,a9C,bGI,bGL,aC]
   rw[nI aWO,nI aWO]
   obtain⟨g,hg,hR⟩:=H.put x v s7 wH bGK (F:=aU (aU (aU (aU (aU h m .gone) b (.row 4 (rowsOf bH.c S.code++[x.c.map .v]))) w .gone) b2 (.row 1 (rowsOf (λn=>[I n]) S.fR++[[.v (I v)]]))) nb (c7 p inp (S.put x v) (some b) og (some b2) st c)) (aI _ _ _)
    (by rw[aC _ _ _ _ nP,aC _ _ _ _ bGN,aC _ _ _ _ bMS,aI,vQ]) (by rw[aC _ _ _ _ a9B,aI,vQ];rfl)
    (λn h1 h2 h3 h4 h5=>by rw[aC _ _ _ _ h1,aC _ _ _ _ h3,aC _ _ _ _ (λq=>h5 (by rw[q])),aC _ _ _ _ h2,aC _ _ _ _ (λq=>h4 (by rw[q]))])
   refine λ_=>⟨_,g,eK ?_,?_,hR⟩
   ·rw[aO]
    unfold c7 at hg
    simp only[dO.put,cK,bH.aZ,gD,nA]at hg
    exact hg
   ·rw[IntWalk.i64_in _ aA]
    congr 1
    omega
theorem xF.set {h0 h:aB} {nb:Nat} {p:aG} {inp:Int} {S:dO} {st:Nat} {c:Int} {om og ov:Option Nat} (H:bDN h0 nb p inp S st c om og ov h) (st':Nat) (c':Int):bDN h0 nb p inp S st' c' om og ov (aU h nb (c7 p inp S om og ov st' c')):=by
 have a1:=(H.apart nb).1 rfl
 have hr:∀ (o:Option Nat) (sz:Nat) (rows:List (List Cell)),¬some nb=o->aJL h sz rows o->aJL (aU h nb (c7 p inp S om og ov st' c')) sz rows o:=λo sz rows hn ho=>by
  cases o with
  |none=>exact ho
  |some m=>exact⟨ho.1,(aC _ _ _ _ λq=>hn (by rw[q])).trans ho.2⟩
 exact⟨aI _ _ _,aJM _ _ _ _,hr _ _ _ a1.1 H.code,hr _ _ _ a1.2.1 H.gds,hr _ _ _ a1.2.2 H.fR,H.fresh,λn h1 h2 h3 h4=>(aC _ _ _ _ h1).trans (H.upto n h1 h2 h3 h4)⟩
theorem qO.aSA {h0 h:aB} {nb:Nat} {bx:dO->Option Nat->Option Nat->Option Nat->bV} {S:dO} (H:qO bx h0 nb S h) {m:Nat} {o:bV} (hm:h m=none):qO bx (aU h0 m o) nb S (aU h m o):=by
 obtain⟨om,og,ov,H⟩:=H
 have a:=(H.apart m).2.2.2 hm
 have hr:∀ (q:Option Nat) (sz:Nat) (rows:List (List Cell)),¬some m=q->aJL h sz rows q->aJL (aU h m o) sz rows q:=λq sz rows hn ho=>by
  cases q with
  |none=>exact ho
  |some k=>exact⟨ho.1,(aC _ _ _ _ λe=>hn (by rw[e])).trans ho.2⟩
 refine⟨om,og,ov,(aC _ _ _ _ λe=>a.1 e.symm).trans H.box,H.odd,hr _ _ _ a.2.1 H.code,hr _ _ _ a.2.2.1 H.gds,hr _ _ _ a.2.2.2 H.fR,λn hn=>?_,λn h1 h2 h3 h4=>?_⟩
 ·have hnm:¬n=m:=λe=>by
   subst e
   rcases hn with hn|hn|hn|hn
   ·exact a.1 hn
   ·exact a.2.1 hn
   ·exact a.2.2.1 hn
   ·exact a.2.2.2 hn
  exact(aC _ _ _ _ hnm).trans (H.fresh n hn)
 ·by_cases e:n=m
  ·rw[e,aI,aI]
  ·rw[aC _ _ _ _ e,aC _ _ _ _ e];exact H.upto n h1 h2 h3 h4
theorem qO.base {h0 h:aB} {nb:Nat} {bx:dO->Option Nat->Option Nat->Option Nat->bV} {S:dO} {m:Nat} {o:bV} (H:qO bx (aU h0 m o) nb S h) (hm:h0 m=none):∃ g,h=aU g m o/\g m=none/\qO bx h0 nb S g:=by
 obtain⟨om,og,ov,H⟩:=H
 have hne:∀ n,(n=nb∨some n=om∨some n=og∨some n=ov)->¬n=m:=λn hn e=>by
  have:=H.fresh n hn
  rw[e,aI]at this;cases this
 have hmo:h m=some o:=(H.upto m (λe=>hne m (.inl e) rfl) (λe=>hne m (.inr (.inl e)) rfl) (λe=>hne m (.inr (.inr (.inl e))) rfl) (λe=>hne m (.inr (.inr (.inr e))) rfl)).trans (aI _ _ _)
 have get:∀ n,¬n=m->(λn=>if n=m then none else h n) n=h n:=λn hn=>if_neg hn
 have hr:∀ (q:Option Nat) (sz:Nat) (rows:List (List Cell)),(∀ n,some n=q->¬n=m)->aJL h sz rows q->aJL (λn=>if n=m then none else h n) sz rows q:=λq sz rows hn ho=>by
  cases q with
  |none=>exact ho
  |some k=>exact⟨ho.1,(get k (hn k rfl)).trans ho.2⟩
 refine⟨λn=>if n=m then none else h n,?_,if_pos rfl,om,og,ov,(get nb (hne nb (.inl rfl))).trans H.box,H.odd,hr _ _ _ (λn e=>hne n (.inr (.inl e))) H.code,hr _ _ _ (λn e=>hne n (.inr (.inr (.inl e)))) H.gds,hr _ _ _ (λn e=>hne n (.inr (.inr (.inr e)))) H.fR,λn hn=>?_,λn h1 h2 h3 h4=>?_⟩
 ·funext n
  by_cases e:n=m
  ·rw[e,aI,hmo]
  ·rw[aC _ _ _ _ e];exact(get n e).symm
 ·have:=H.fresh n hn
  rwa [aC _ _ _ _ (hne n hn)]at this
 ·by_cases e:n=m
  ·subst e;exact(if_pos rfl).trans hm.symm
  ·have:=H.upto n h1 h2 h3 h4
   rw[aC _ _ _ _ e]at this
   exact(get n e).trans this
theorem qO.none {h0 h:aB} {nb:Nat} {bx:dO->Option Nat->Option Nat->Option Nat->bV} {S:dO} (H:qO bx h0 nb S h) {m:Nat} (hm:h m=none):h0 m=none:=by
 obtain⟨om,og,ov,H⟩:=H
 have a:=(H.apart m).2.2.2 hm
 exact(H.upto m a.1 a.2.1 a.2.2.1 a.2.2.2).symm.trans hm
theorem xF.guard {h0 h F:aB} {nb:Nat} {bx:dO->Option Nat->Option Nat->Option Nat->bV} {S:dO} {om og ov:Option Nat} (H:xF bx h0 nb S om og ov h) (x:gA) {b:Nat} (hb:h b=none)
  (f1:F nb=some (bx (S.guard x) om (some b) ov)) (f2:F b=some (.row 2 (rowsOf gA.c (S.guards++[x]))))
  (f4:∀ n,¬n=nb->¬n=b->¬some n=og->F n=h n):∃ g:aB,g.le F/\xF bx h0 nb (S.guard x) om (some b) ov g:=by
 have a1:=(H.apart nb).1 rfl
 have a2:=(H.apart b).2.2.2 hb
 have g2:h0 b=none:=(H.upto b a2.1 a2.2.1 a2.2.2.1 a2.2.2.2).symm.trans hb
 have get:∀ n,¬some n=og->(λn=>if some n=og then none else F n) n=F n:=λn h1=>if_neg h1
 have hr:∀ (q:Option Nat) (sz:Nat) (rows:List (List Cell)),(∀ n,some n=q->¬n=nb/\¬n=b/\¬some n=og)->aJL h sz rows q->aJL (λn=>if some n=og then none else F n) sz rows q:=λq sz rows hn ho=>by
  cases q with
  |none=>exact ho
  |some k =>
   obtain⟨e1,e2,e3⟩:=hn k rfl
   exact⟨ho.1,((get k e3).trans (f4 k e1 e2 e3)).trans ho.2⟩
 refine⟨λn=>if some n=og then none else F n,λn=>?_,⟨?_,H.odd,hr _ _ _ (λn e=>⟨λq=>((H.apart n).1 q).1 e,λq=>a2.2.1 (by rw[←q];exact e),((H.apart n).2.1 e).1⟩) H.code,⟨by simp[rowsOf,dO.guard],?_⟩,hr _ _ _ (λn e=>⟨λq=>((H.apart n).1 q).2.2 e,λq=>a2.2.2.2 (by rw[←q];exact e),λq=>(H.apart n).2.2.1 q e⟩) H.fR,λn hn=>?_,λn h1 h2 h3 h4=>?_⟩⟩
 ·by_cases e:some n=og
  ·exact .inl (if_pos e)
  ·exact .inr (if_neg e)
 ·exact(get nb a1.2.1).trans f1
 ·exact(get b a2.2.2.1).trans f2
 ·rcases hn with rfl|hn|hn|hn
  ·exact H.fresh _ (.inl rfl)
  ·exact H.fresh n (.inr (.inl hn))
  ·obtain rfl:=gH hn;exact g2
  ·exact H.fresh n (.inr (.inr (.inr hn)))
 ·have h3':¬n=b:=λq=>h3 (by rw[q])
  by_cases e:some n=og
  ·exact(if_pos e).trans (H.fresh n (.inr (.inr (.inl e)))).symm
  ·exact((get n e).trans (f4 n h1 h3' e)).trans (H.upto n h1 h2 e h4)
theorem aAH (a b:Int) (ha:iW a) (hb:iW b):fE Tryz.prog 230 [I a,I b] (I (a*b%1000003)):=by
 have h1:=num_mul ha hb
 unfold iW at ha hb
 refine fU 11 zX cU cF Tryz.func230 λh=>?_
 simp -dsimp -implicitDefEqProofs only[go_sem,↓reduceIte,Tryz.f230]
 first|refine aH.mk (hU a) ?_|refine aF.mk (hU a) ?_|refine aH.bI (hU a) ?_|refine aF.mk (bC.dI (hU a)) ?_
 simp -dsimp -implicitDefEqProofs only[go_sem,↓reduceIte,Tryz.f230]
 first|refine aH.mk (hU b) ?_|refine aF.mk (hU b) ?_|refine aH.bI (hU b) ?_|refine aF.mk (bC.dI (hU b)) ?_
 simp -dsimp -implicitDefEqProofs only[go_sem,↓reduceIte,Tryz.f230]
 rw[aV3 ha.1 aA,aV3 hb.1 aA,aUI h1.1 aA]
@[go_sem] def a9E:List Nat:=[0,1,2,3,6,7,9,10,15,20,25,30]
theorem a4Z (x:bH) (a b:Int) (ha:iW a) (hb:iW b) (hk:x.gS=3∨x.gS=4∨x.gS=5∨x.gS=6∨x.gS=7):fE Tryz.prog 223 [.agg x.c,I a,I b] (.gU [I ((opV x.gS a b).getD 0),.bool (opV x.gS a b).isSome]):=by
 rw[bH.aZ]
 have hni:iW (gZ b):=num_inv b
 refine fU 35 a9E a0S cF Tryz.func223 λh=>?_
 simp -dsimp -implicitDefEqProofs only[go_sem,↓reduceIte,Tryz.f223]
 refine⟨λq=>?_,λq=>⟨λq4=>?_,λq4=>⟨λq5=>?_,λq5=>⟨λq7=>?_,λq7=>⟨λqb=>?_,λqb=>?_⟩⟩⟩⟩⟩
 ·first|refine aH.mk (aOC a b) ?_|refine aF.mk (aOC a b) ?_|refine aH.bI (aOC a b) ?_|refine aF.mk (bC.dI (aOC a b)) ?_
  simp -dsimp -implicitDefEqProofs only[go_sem,↓reduceIte,Tryz.f223]
  unfold opV;rw[if_pos q];rfl
 ·first|refine aH.mk (minus a b) ?_|refine aF.mk (minus a b) ?_|refine aH.bI (minus a b) ?_|refine aF.mk (bC.dI (minus a b)) ?_
  simp -dsimp -implicitDefEqProofs only[go_sem,↓reduceIte,Tryz.f223]
  unfold opV;rw[if_neg q,if_pos q4];rfl
 ·first|refine aH.mk (aAH a b ha hb) ?_|refine aF.mk (aAH a b ha hb) ?_|refine aH.bI (aAH a b ha hb) ?_|refine aF.mk (bC.dI (aAH a b ha hb)) ?_
  simp -dsimp -implicitDefEqProofs only[go_sem,↓reduceIte,Tryz.f223]
  unfold opV;rw[if_neg q,if_neg q4,if_pos q5];rfl
 ·first|refine aH.mk (minus 0 a) ?_|refine aF.mk (minus 0 a) ?_|refine aH.bI (minus 0 a) ?_|refine aF.mk (bC.dI (minus 0 a)) ?_
  simp -dsimp -implicitDefEqProofs only[go_sem,↓reduceIte,Tryz.f223]
  unfold opV;rw[if_neg q,if_neg q4,if_neg q5,if_pos q7];rfl
 ·unfold opV;rw[if_neg q,if_neg q4,if_neg q5,if_neg q7,if_pos qb];rfl
 ·first|refine aH.mk (vL b) ?_|refine aF.mk (vL b) ?_|refine aH.bI (vL b) ?_|refine aF.mk (bC.dI (vL b)) ?_
  simp -dsimp -implicitDefEqProofs only[go_sem,↓reduceIte,Tryz.f223]
  first|refine aH.mk (aAH a (gZ b) ha hni) ?_|refine aF.mk (aAH a (gZ b) ha hni) ?_|refine aH.bI (aAH a (gZ b) ha hni) ?_|refine aF.mk (bC.dI (aAH a (gZ b) ha hni)) ?_
  simp -dsimp -implicitDefEqProofs only[go_sem,↓reduceIte,Tryz.f223]
  unfold opV;rw[if_neg q,if_neg q4,if_neg q5,if_neg q7,if_neg qb];rfl
theorem Good.val {inp:Int} {S:dO} {t:Nat} (h:Good inp S t) (k:Int):iW (S.val k):=h.a87.get _
theorem xF.row {h0 h:aB} {nb:Nat} {bx:dO->Option Nat->Option Nat->Option Nat->bV} {S:dO} {om og ov:Option Nat} (H:xF bx h0 nb S om og ov h) {k:Int} (hk:qS S k):∃ w,ov=some w/\h w=some (.row 1 (rowsOf (λn=>[I n]) S.fR))/\¬w=nb:=by
 have hv:=H.fR
 cases ov with
 |none=>have:=nR.1 hv;have h2:=hk.1;have h3:=hk.2;rw[this]at h3;simp at h3;omega
 |some w=>exact⟨w,rfl,hv.2,λe=>((H.apart w).1 e).2.2 rfl⟩
theorem aCC {S:dO} {k:Int} (hk:qS S k):(rowsOf (λn=>[I n]) S.fR)[k.toNat]?=some [.v (I (S.val k))]:=by
 have h1:=hk.1
 have h2:=hk.2
 rw[rowsOf,qR,qR,eY aA,dO.val,gG,eY aA];rfl
@[go_sem] def a9F:List Nat:=[0,1,2,6,7,8,9,16,43]
@[go_sem] def bMT:Marks:=λid=>match id with|4=>([0,4,6,8,12,14,16],(.op 1 (.op 2 (.op 3 (.op 5 (.op 9 (.op 10 (.op 11 (.op 13 (.op 0 (.op 4 (.op 6 (.op 7 (.op 8 (.op 12 (.op 14 (.op 15 (.op 16 (.op 17 (.op 18 (.op 19 (.op 20 (.op 21 (.op 22 .nil))))))))))))))))))))))),[])|_=>([],.nil,[])
theorem qP {h0 h:aB} {nb:Nat} {p:aG} {inp:Int} {S:dO} {st:Nat} (H:jH h0 nb p inp S st 0 h) (hg:Good inp S st) (hst:st<=3000) (k:Int) (vs:List Int) (hk:k=3∨k=4∨k=5∨k=6∨k=7) (h1:1<=vs.length) (h2:¬k=7->2<=vs.length) (hv:∀ x∈vs,qS S x) (hl:vs.length<=1048576) :
  iV Tryz.prog 204 [.op nb 8 0 0,I k,ints vs] h λr h'=>∃ j S' c',r=I j/\jH h0 nb p inp S' st c' h'/\kY (opR k vs S st) (j,S') st c':=by
 obtain⟨om,og,ov,H⟩:=H
 have at_:∀ i,i<vs.length->qS S (vs.getD i 0):=λi hi=>by
  rw[gG,eY hi]
  exact hv _ (kM _)
 have i0:=at_ 0 aA
 have iB:qS S (opB k vs):=by
  unfold opB
  split
  ·have a:=i0.1;have b:=i0.2;exact⟨aEP _,by omega⟩
  ·exact at_ 1 (h2 lB)
 obtain⟨w,rfl,hw,dw⟩:=H.row i0
 have hb:=H.box
 unfold c7 at hb
 rw[cK]at hb
 have g0:vs[Int.toNat 0]?=some (vs.getD 0 0):=cQ aA
 have r0:=aCC i0
 have rB:=aCC iB
 obtain⟨aUN,wF,wG,a4Y⟩:=cW (show ¬w=nb from dw)
 have hva:=hg.val (vs.getD 0 0)
 have hvb:=hg.val (opB k vs)
 have hop:=a4Z ⟨k,vs.getD 0 0,opB k vs,0⟩ _ _ hva hvb hk
 simp only[bH.aZ]at hop
 have b0:=iB.1
 have b1:=i0.1
 have lw:=rA (λn=>[I n]) S.fR
 have i0b:=i0.2
 have iBb:=iB.2
 refine mC 51 a9F cU bMT Tryz.func204 ?_
 simp -dsimp -implicitDefEqProofs only[go_sem,↓reduceIte,Tryz.f204,hb,g0]
 refine⟨by omega,λn hn=>⟨λh7=>⟨by have:=h2 h7;omega,?_⟩,λh7=>?_⟩⟩
 ·obtain⟨aCD,iP,iQ,rK⟩:=cW (show ¬n=nb from λe=>by rw[e,hb]at hn;cases hn)
  obtain⟨bMU,aSB,aSC,bMV⟩:=cW (show ¬n=w from λe=>by rw[e,hw]at hn;cases hn)
  have eB:opB k vs=vs.getD 1 0:=if_neg h7
  have g1:vs[Int.toNat 1]?=some (vs.getD 1 0):=cQ (h2 h7)
  rw[eB]at rB hop b0 iBb
  simp -dsimp -implicitDefEqProofs only[go_sem,↓reduceIte,Tryz.f204,g1,hb,hw,r0,rB,iP,aSB,iQ,wG,aSC,wF,aC]
  refine⟨b1,i0b,b0,iBb,?_⟩
  cases hv:opV k (S.val (vs.getD 0 0)) (S.val ((vs.getD 1 0)))with
  |none =>
   rw[hv]at hop
   first|refine aH.mk (hop) ?_|refine aF.mk (hop) ?_|refine aH.bI (hop) ?_|refine aF.mk (bC.dI (hop)) ?_
   simp -dsimp -implicitDefEqProofs only[go_sem,↓reduceIte,Tryz.f204]
   refine⟨λ_=>?_,λq=>absurd q dG⟩
   simp -dsimp -implicitDefEqProofs only[go_sem,↓reduceIte,Tryz.f204,hb,iP,aSB,iQ,wG,aSC,wF,aC]
   refine⟨_,_,eK (?_:(aU h nb (c7 p inp S om og (some w) st 6)).le _),0,S,6,rfl,⟨_,_,_,H.set st 6⟩,by unfold opR;rw[eB,hv];exact o6 _ _ bO⟩
   unfold c7
   rw[cK]
   exact(nH bKL)
  |some v =>
   rw[hv]at hop
   first|refine aH.mk (hop) ?_|refine aF.mk (hop) ?_|refine aH.bI (hop) ?_|refine aF.mk (bC.dI (hop)) ?_
   simp -dsimp -implicitDefEqProofs only[go_sem,↓reduceIte,Tryz.f204]
   refine⟨λq=>absurd q dG,λ_=>?_⟩
   simp only[aO]
   refine aH.gV (aJN (qO.aSA ⟨om,og,some w,H⟩ hn) ⟨k,vs.getD 0 0,(vs.getD 1 0),0⟩ v hg.len (by have:=hg.cap;omega)) ?_
   rintro r h' ⟨rfl,hR⟩
   obtain⟨g,rfl,hgn,hR⟩:=hR.base (qO.none ⟨om,og,some w,H⟩ hn)
   simp -dsimp -implicitDefEqProofs only[go_sem,↓reduceIte,Tryz.f204]
   exact⟨_,g,eK (aB.bM hgn (aB.le_refl _)),_,_,0,rfl,hR,by unfold opR;rw[eB,hv];exact s5 _ _⟩
 ·obtain⟨aCD,iP,iQ,rK⟩:=cW (show ¬n=nb from λe=>by rw[e,hb]at hn;cases hn)
  obtain⟨bMU,aSB,aSC,bMV⟩:=cW (show ¬n=w from λe=>by rw[e,hw]at hn;cases hn)
  have eB:opB k vs=0:=if_pos h7
  rw[eB]at rB hop b0 iBb
  simp -dsimp -implicitDefEqProofs only[go_sem,↓reduceIte,Tryz.f204,hb,hw,r0,rB,iP,aSB,iQ,wG,aSC,wF,aC]
  refine⟨b1,i0b,iBb,?_⟩
  cases hv:opV k (S.val (vs.getD 0 0)) (S.val (0))with
  |none =>
   rw[hv]at hop
   first|refine aH.mk (hop) ?_|refine aF.mk (hop) ?_|refine aH.bI (hop) ?_|refine aF.mk (bC.dI (hop)) ?_
   simp -dsimp -implicitDefEqProofs only[go_sem,↓reduceIte,Tryz.f204]
   refine⟨λ_=>?_,λq=>absurd q dG⟩
   simp -dsimp -implicitDefEqProofs only[go_sem,↓reduceIte,Tryz.f204,hb,iP,aSB,iQ,wG,aSC,wF,aC]
   refine⟨_,_,eK (?_:(aU h nb (c7 p inp S om og (some w) st 6)).le _),0,S,6,rfl,⟨_,_,_,H.set st 6⟩,by unfold opR;rw[eB,hv];exact o6 _ _ bO⟩
   unfold c7
   rw[cK]
   exact(nH bKL)
  |some v =>
   rw[hv]at hop
   first|refine aH.mk (hop) ?_|refine aF.mk (hop) ?_|refine aH.bI (hop) ?_|refine aF.mk (bC.dI (hop)) ?_
   simp -dsimp -implicitDefEqProofs only[go_sem,↓reduceIte,Tryz.f204]
   refine⟨λq=>absurd q dG,λ_=>?_⟩
   simp only[aO]
   refine aH.gV (aJN (qO.aSA ⟨om,og,some w,H⟩ hn) ⟨k,vs.getD 0 0,0,0⟩ v hg.len (by have:=hg.cap;omega)) ?_
   rintro r h' ⟨rfl,hR⟩
   obtain⟨g,rfl,hgn,hR⟩:=hR.base (qO.none ⟨om,og,some w,H⟩ hn)
   simp -dsimp -implicitDefEqProofs only[go_sem,↓reduceIte,Tryz.f204]
   exact⟨_,g,eK (aB.bM hgn (aB.le_refl _)),_,_,0,rfl,hR,by unfold opR;rw[eB,hv];exact s5 _ _⟩
theorem kY.ok {α:Type} {c:Int} {X:Out α} {v:α} {t:Nat} {c':Int} (h:kY (rH c X) v t c') (hc:c'=0):c=0/\X=.ok (v,t):=by
 have h0:=h.bML hc
 subst h0
 rw[eV]at h
 cases X with
 |ok q=>obtain⟨w,u⟩:=q;obtain⟨_,rfl,rfl⟩:=h;exact⟨rfl,rfl⟩
 |error d=>exact absurd (h.1.symm.trans hc) h.2
def aFF (h0:aB) (nb:Nat) (p:aG) (inp:Int) (st:Nat) (c:Int) (X:Out (Int×dO)):aE->aB->Prop:=λr h'=>∃ k S' t c',r=I k/\jH h0 nb p inp S' t c' h'/\st<=t/\t<=3000/\kY (rH c X) (k,S') t c'
def bDU (h0:aB) (nb:Nat) (p:aG) (inp:Int) (st:Nat) (c:Int) (n:Nat) (X:Out (List Int×dO)):aE->aB->Prop:=λr h'=>∃ l S' t c',r=ints l/\jH h0 nb p inp S' t c' h'/\l.length=n/\st<=t/\t<=3000/\kY (rH c X) (l,S') t c'
@[go_sem] def oG:List Nat:=[0,1,2,4,6,7,8,9,10,15,20,32,33,42,49,62,85,100,128,130,131,150,162]
@[go_sem] def xG:List Nat:=[4,80,116]
@[go_sem] def xH:Marks:=λid=>match id with|22=>([6,13,15,16],(.op 0 (.op 1 (.op 2 (.op 3 (.op 4 (.op 5 (.op 7 (.op 8 (.op 9 (.op 10 (.op 11 (.op 12 (.op 6 (.op 13 (.op 14 (.op 15 (.op 16 (.op 17 .nil)))))))))))))))))),[])|28=>([5,16],(.op 0 (.op 1 (.op 2 (.op 3 (.op 4 (.op 6 (.op 7 (.op 11 (.op 12 (.op 15 (.op 5 (.op 8 (.op 9 (.op 10 (.op 13 (.op 14 (.op 16 (.op 17 .nil)))))))))))))))))),[])|33=>([5,12],(.op 0 (.op 1 (.op 2 (.op 3 (.op 4 (.op 6 (.op 7 (.op 11 (.op 5 (.op 8 (.op 9 (.op 10 (.op 12 (.op 13 .nil)))))))))))))),[])|_=>([],.nil,[])
def xI (p:aG) (inp:Int) (n:Nat):Prop:=∀ (h0 h:aB) (nb st:Nat) (c:Int) (e:aD) (env:List Int) (S:dO) (funcs:Int),jH h0 nb p inp S st c h->st<=3000->3001<=n+st->e.ok p funcs env.length->0<=funcs->funcs<=p.aK.length->(c=0->Good inp S st/\∀ x∈env,qS S x)->env.length<=412+st ->
 iV Tryz.prog 173 [.op nb 8 0 0,.agg e.c,ints env] h (aFF h0 nb p inp st c (fD p n st e env S))
theorem oH {p:aG} (hp:p.ok) {inp:Int} {n st:Nat} {S:dO} {l:List aD} {env:List Int} {funcs:Int} (hg:Good inp S st) (hst:st<=3000) (henv:∀ x∈env,qS S x) (hok:∀ e∈l,e.ok p funcs env.length) (hf:funcs<=p.aK.length):vO (aBO inp S st l.length) (rI (λt e S=>fD p n t e env S) l st S) :=
 lH l st S hg hst λx hx u S' a b c=>vP hp n u x env S' funcs (hok x hx) hf a c.2.2.2 λy hy=>(henv y hy).ext b
theorem s8 {p:aG} (hp:p.ok) {inp:Int} {n:Nat} (hv:xI p inp n) (h0 h:aB) (nb st:Nat) (c:Int) (l:List aD) (env:List Int) (S:dO) (funcs:Int) (hb:jH h0 nb p inp S st c h) (hst:st<=3000) (hn:3001<=n+st)
  (hl:l.length<=1048576) (hok:∀ e∈l,e.ok p funcs env.length) (iX:0<=funcs) (hf:funcs<=p.aK.length) (hgo:c=0->Good inp S st/\∀ x∈env,qS S x) (hel:env.length<=412+st) :
  iV Tryz.prog 101 [.op nb 8 0 0,gF 5 aD.c l,ints env] h (bDU h0 nb p inp st c l.length (rI (λt e S=>fD p n t e env S) l st S)):=by
 refine mC 26 bC1 aXL cF Tryz.func101 ?_
 simp -dsimp -implicitDefEqProofs only[go_sem,↓reduceIte,Tryz.f101]
 refine⟨bD,λ_=>?_⟩
 refine cM bC1 aXL cF (λx:Nat×List Int×Nat×Int×dO×aB×Option Nat=>[(0,.op nb 8 0 0),(2,ints env),(7,fT 1 x.2.1.length x.2.2.2.2.2.2),(11,gF 5 aD.c l),(12,I l.length),(13,I x.1)]) (λx=>cP x.2.2.2.2.2.1 (.row 1 ((x.2.1.map λn=>[I n]).map (List.map .v))) x.2.2.2.2.2.2) (λx=>x.1<=l.length/\x.2.1.length=x.1/\st<=x.2.2.1/\x.2.2.1<=3000/\kY (rH c (rI (λt e S=>fD p n t e env S) (l.take x.1) st S)) (x.2.1,x.2.2.2.2.1) x.2.2.1 x.2.2.2.1/\jH h0 nb p inp x.2.2.2.2.1 x.2.2.1 x.2.2.2.1 x.2.2.2.2.2.1/\eM x.2.2.2.2.2.1 x.2.1 x.2.2.2.2.2.2) (λx=>l.length-x.1) (0,[],st,c,S,h,none) ⟨by simp[cR,b6,fT],by simp only[aL];exact aB.le_refl _,eF _,rfl,bX _,hst,jE _ _ _,hb,rfl⟩ ?_
 rintro⟨k,vs,t,c',S1,g,o⟩ ⟨hk,hvl,ht0,ht,ho,hR,hos⟩
 simp only at hk hvl ht0 ht ho hR hos ⊢
 rcases bT k l.length with hlt|hge
 ·have ek:l[k]?=some l[k]:=eY hlt
  have hnext:∀ (j:Int) (S2:dO) (t2:Nat) (c2:Int),kY (rH c' (fD p n t l[k] env S1)) (j,S2) t2 c2->kY (rH c (rI (λt e S=>fD p n t e env S) (l.take (k+1)) st S)) (vs++[j],S2) t2 c2:=λj S2 t2 c2 h3=>by
   rw[jF hlt,aMG]
   exact ho.fV (h3.fV (jE _ _ _))
  have bMW:c'=0->Good inp S1 t/\∀ x∈env,qS S1 x:=λhc=>by
   obtain⟨e1,e2⟩:=ho.ok hc
   obtain⟨a1,a2⟩:=hgo e1
   obtain⟨b1,b2,b3,b4⟩:=oH hp (l:=l.take k) a1 hst a2 (λx hx=>hok x (aZ7 hx)) hf _ _ e2
   exact⟨b1,λx hx=>(a2 x hx).ext b2⟩
  cases o with
  |none =>
   rw[aY]at hos
   subst hos
   simp -dsimp -implicitDefEqProofs only[go_sem,↓reduceIte,Tryz.f101,bE,aL,hlt,ek,aD.aZ]
   intro m9 z9
   rw[aO]
   have hvk:=hv (aU h0 m9 (.row 5 [l[k].c.map .v])) (aU g m9 (.row 5 [l[k].c.map .v])) nb t c' l[k] env S1 funcs (hR.aSA z9) ht aA (hok _ (kM _)) iX hf bMW aA
   rw[aD.aZ]at hvk
   refine aH.gV hvk ?_
   rintro r h' ⟨j,S2,t2,c2,rfl,hR2,h1,h2,h3⟩
   obtain⟨g2,rfl,hg2,hR2⟩:=hR2.base (hR.none z9)
   simp -dsimp -implicitDefEqProofs only[go_sem,↓reduceIte,Tryz.f101]
   refine⟨bD,bD,bD,λb ⟨hb9,wH⟩=>?_⟩
   refine⟨(k+1,[j],t2,c2,S2,g2,some b),⟨rfl,by rw[IntWalk.i64_in _ aA];rfl⟩,?_,⟨by omega,by simp only[sB]at hvl;subst hvl;rfl,aKW ht0 h1,h2,hnext j S2 t2 c2 h3,hR2,wH⟩,by simp only;omega⟩
   simp only[aJ]
   exact(nH (by repeat'(first|exact p7 _ _|refine sV (by simp only[gB,↓reduceIte,eq_self,if_true,hb9,hg2,p5,v7]) ?_|refine nV aCT ?_)))
  |some m =>
   rw[aQ]at hos
   simp -dsimp -implicitDefEqProofs only[go_sem,↓reduceIte,Tryz.f101,aR,aJ,hlt,ek,aD.aZ]
   intro m9 ⟨h9m,z9⟩
   rw[aO]
   obtain⟨a40,a41,a42,bTS⟩:=cW (show ¬m9=m from h9m)
   have z9':(aU g m (.row 1 ((vs.map λn=>[I n]).map (List.map .v)))) m9=none:=by rw[aC _ _ _ _ a40];exact z9
   have hRo:=hR.aSA (o:=.row 1 ((vs.map λn=>[I n]).map (List.map .v))) hos
   have hvk:=hv _ _ nb t c' l[k] env S1 funcs (hRo.aSA (o:=.row 5 [l[k].c.map .v]) z9') ht aA (hok _ (kM _)) iX hf bMW aA
   rw[aD.aZ]at hvk
   refine aH.gV hvk ?_
   rintro r h' ⟨j,S2,t2,c2,rfl,hR2,h1,h2,h3⟩
   obtain⟨g1,rfl,pK,hR2⟩:=hR2.base (hRo.none z9')
   obtain⟨g2,rfl,hg2,hR2⟩:=hR2.base (hR.none hos)
   rw[aC _ _ _ _ a40]at pK
   simp -dsimp -implicitDefEqProofs only[go_sem,↓reduceIte,Tryz.f101,aC,a42,a41]
   refine⟨bD,bD,bD,bX _,by omega,by omega,λb ⟨hb9,hbm,wH⟩=>?_⟩
   obtain⟨vM,nB,nC,uN⟩:=cW (show ¬b=m from hbm)
   obtain⟨bTT,bGO,bGP,bTU⟩:=cW (show ¬b=m9 from hb9)
   refine⟨(k+1,vs++[j],t2,c2,S2,g2,some b),⟨by rw[aR,gD];rfl,by rw[IntWalk.i64_in _ aA];rfl⟩,?_,⟨by omega,by rw[gD,hvl];rfl,aKW ht0 h1,h2,hnext j S2 t2 c2 h3,hR2,wH⟩,by simp only;omega⟩
   simp only[aJ]
   rw[←dZ]
   exact(nH (by repeat'(first|exact p7 _ _|refine sV (by simp only[gB,↓reduceIte,eq_self,if_true,nB,bGO,nC,a42,bGP,a41]) ?_|refine nV aCT ?_)))
 ·have hk':k=l.length:=by omega
  subst hk'
  rw[nL]at ho
  cases o with
  |none =>
   rw[aY]at hos
   subst hos
   simp -dsimp -implicitDefEqProofs only[go_sem,↓reduceIte,Tryz.f101,bE,aL,bU]
   exact⟨ints [],_,Shift.of (Sub.loose _ _ _) (aB.le_refl _),[],S1,t,c',rfl,hR,hvl,ht0,ht,ho⟩
  |some m =>
   rw[aQ]at hos
   simp -dsimp -implicitDefEqProofs only[go_sem,↓reduceIte,Tryz.f101,aR,aJ,bU]
   exact⟨ints vs,g,eT vs hos (aB.le_refl _) rfl,vs,S1,t,c',rfl,hR,hvl,ht0,ht,ho⟩
theorem a43 {p:aG} {inp:Int} {n:Nat} {h0 h:aB} {nb st:Nat} {c:Int} {e:aD} {env:List Int} {S:dO} (hR:jH h0 nb p inp S st c h) (hst:st<=3000) (hs:¬c=0∨st=3000) :
  iV Tryz.prog 173 [.op nb 8 0 0,.agg e.c,ints env] h (aFF h0 nb p inp st c (fD p (n+1) st e env S)):=by
 obtain⟨om,og,ov,H⟩:=hR
 have hb:=H.box
 unfold c7 at hb
 rw[aD.aZ]
 refine mC 190 oG xG xH Tryz.func173 ?_
 simp -dsimp -implicitDefEqProofs only[go_sem,↓reduceIte,Tryz.f173,hb]
 refine⟨λhc=>?_,λhc=>?_⟩
 ·exact⟨_,_,cD _ _,0,S,st,c,rfl,⟨_,_,_,H⟩,bX _,hst,by rw[u5 _ hc];exact o6 _ _ hc⟩
 ·subst hc
  have h3:st=3000:=by rcases hs with hs|hs;exact absurd rfl hs;exact hs
  subst h3
  try simp -dsimp -implicitDefEqProofs only[go_sem,↓reduceIte,Tryz.f173,hb]
  refine⟨λ_=>?_,λq=>absurd q dG⟩
  refine⟨_,_,cD _ _,0,S,3000,7,rfl,⟨_,_,_,H.set 3000 7⟩,bX _,hst,?_⟩
  rw[eV,fD,if_pos rfl]
  exact o6 _ _ bO
theorem aYM (l:List Int) (hl:l.length<=1048576):fE Tryz.prog 203 [ints l] (.sl 1 (l.map λn=>[I n]) true):=by
 refine fU 9 aBD cU cF Tryz.func203 λh=>?_
 simp -dsimp -implicitDefEqProofs only[go_sem,↓reduceIte,Tryz.f203]
 repeat'(with_reducible first|intro _|refine And.intro ?_ ?_)
 all_goals try omega
 rw[nI aWH]
theorem bMX {p:aG} (hp:p.ok) {inp:Int} {n:Nat} (hv:xI p inp n) {h0 h:aB} {nb st:Nat} {e:aD} {env:List Int} {S:dO} {funcs:Int} (hR:jH h0 nb p inp S st 0 h) (hst:st<3000) (hn:3001<=n+1+st)
  (hok:e.ok p funcs env.length) (iX:0<=funcs) (hf:funcs<=p.aK.length) (hg:Good inp S st) (henv:∀ x∈env,qS S x) (hel:env.length<=412+st) (hk:e.aT=1) :
  iV Tryz.prog 173 [.op nb 8 0 0,.agg e.c,ints env] h (aFF h0 nb p inp st 0 (fD p (n+1) st e env S)):=by
 obtain⟨om,og,ov,H⟩:=hR
 rw[aD.aZ]
 have hb:=H.box
 unfold c7 at hb
 have e3:((st:Int)=3000)=False:=eq_false aA
 have ew:IntKind.i64.wrap ((st:Int)+1)=((st+1:Nat):Int):=by rw[IntWalk.i64_in _ aA];rfl
 have hnode:=(aD.eI _ _ _ _).1 hok
 have h3:¬st=3000:=by omega
 have hcap:=hg.cap
 have hgcap:=hg.y6
 have pK:=hg.vN (qV st)
 have hR1:jH h0 nb p inp S (st+1) 0 (aU h nb (c7 p inp S om og ov (st+1) 0)):=⟨_,_,_,H.set (st+1) 0⟩
 refine mC 190 oG xG xH Tryz.func173 ?_
 simp -dsimp -implicitDefEqProofs only[go_sem,↓reduceIte,Tryz.f173,hb,e3,ew,hk]
 refine aH.gV (aJN hR1 ⟨2,0,0,e.bB⟩ e.bB hg.len aA) ?_
 rintro r h' ⟨rfl,hR2⟩
 simp -dsimp -implicitDefEqProofs only[go_sem,↓reduceIte,Tryz.f173]
 refine⟨_,_,cD _ _,_,_,st+1,0,rfl,hR2,qV _,hst,?_⟩
 rw[eV,aON h3 hk]
 exact s5 _ _
theorem bMY {p:aG} (hp:p.ok) {inp:Int} {n:Nat} (hv:xI p inp n) {h0 h:aB} {nb st:Nat} {e:aD} {env:List Int} {S:dO} {funcs:Int} (hR:jH h0 nb p inp S st 0 h) (hst:st<3000) (hn:3001<=n+1+st)
  (hok:e.ok p funcs env.length) (iX:0<=funcs) (hf:funcs<=p.aK.length) (hg:Good inp S st) (henv:∀ x∈env,qS S x) (hel:env.length<=412+st) (hk:e.aT=2) :
  iV Tryz.prog 173 [.op nb 8 0 0,.agg e.c,ints env] h (aFF h0 nb p inp st 0 (fD p (n+1) st e env S)):=by
 obtain⟨om,og,ov,H⟩:=hR
 rw[aD.aZ]
 have hb:=H.box
 unfold c7 at hb
 have e3:((st:Int)=3000)=False:=eq_false aA
 have ew:IntKind.i64.wrap ((st:Int)+1)=((st+1:Nat):Int):=by rw[IntWalk.i64_in _ aA];rfl
 have hnode:=(aD.eI _ _ _ _).1 hok
 have h3:¬st=3000:=by omega
 have hcap:=hg.cap
 have hgcap:=hg.y6
 have pK:=hg.vN (qV st)
 have hR1:jH h0 nb p inp S (st+1) 0 (aU h nb (c7 p inp S om og ov (st+1) 0)):=⟨_,_,_,H.set (st+1) 0⟩
 have hnum:=((eE aA).1 hnode.1).2.2.2.2.1 hk
 have hlt:e.bB.toNat<env.length:=by omega
 refine mC 190 oG xG xH Tryz.func173 ?_
 simp -dsimp -implicitDefEqProofs only[go_sem,↓reduceIte,Tryz.f173,hb,e3,ew,hk,cQ hlt]
 refine⟨hnum.1,by omega,_,_,cD _ _,_,S,st+1,0,rfl,hR1,qV _,hst,?_⟩
 rw[eV,aOO h3 hk]
 exact s5 _ _
theorem bMZ {p:aG} (hp:p.ok) {inp:Int} {n:Nat} (hv:xI p inp n) {h0 h:aB} {nb st:Nat} {e:aD} {env:List Int} {S:dO} {funcs:Int} (hR:jH h0 nb p inp S st 0 h) (hst:st<3000) (hn:3001<=n+1+st)
  (hok:e.ok p funcs env.length) (iX:0<=funcs) (hf:funcs<=p.aK.length) (hg:Good inp S st) (henv:∀ x∈env,qS S x) (hel:env.length<=412+st) (hk:e.aT=9) :
  iV Tryz.prog 173 [.op nb 8 0 0,.agg e.c,ints env] h (aFF h0 nb p inp st 0 (fD p (n+1) st e env S)):=by
 obtain⟨om,og,ov,H⟩:=hR
 rw[aD.aZ]
 have hb:=H.box
 unfold c7 at hb
 have e3:((st:Int)=3000)=False:=eq_false aA
 have ew:IntKind.i64.wrap ((st:Int)+1)=((st+1:Nat):Int):=by rw[IntWalk.i64_in _ aA];rfl
 have hnode:=(aD.eI _ _ _ _).1 hok
 have h3:¬st=3000:=by omega
 have hcap:=hg.cap
 have hgcap:=hg.y6
 have pK:=hg.vN (qV st)
 have hR1:jH h0 nb p inp S (st+1) 0 (aU h nb (c7 p inp S om og ov (st+1) 0)):=⟨_,_,_,H.set (st+1) 0⟩
 have hlen:=fI hok aA
 rw[hk,show e8 9=2 from rfl]at hlen
 have g0:e.aM[Int.toNat 0]?=some (e.pY 0):=aD.jQ aA
 have g1:e.aM[Int.toNat 1]?=some (e.pY 1):=aD.jQ aA
 have o0:=aD.fM hok (i:=0) aA
 have o1:=aD.fM hok (i:=1) aA
 rw[jA aA]at o0
 rw[hk,show jG 9 1 (env.length:Int)=env.length+1 from rfl]at o1
 refine mC 190 oG xG xH Tryz.func173 ?_
 simp -dsimp -implicitDefEqProofs only[go_sem,↓reduceIte,Tryz.f173,hb,e3,ew,hk,g0,g1,aD.ld5]
 refine⟨by omega,by omega,?_⟩
 first|refine aH.mk (aYM env aA) ?_|refine aF.mk (aYM env aA) ?_|refine aH.bI (aYM env aA) ?_|refine aF.mk (bC.dI (aYM env aA)) ?_
 simp -dsimp -implicitDefEqProofs only[go_sem,↓reduceIte,Tryz.f173]
 refine aH.gV (hv _ _ nb (st+1) 0 (e.pY 0) env S funcs hR1 aA aA o0 iX hf (λ_=>⟨pK,henv⟩) aA) ?_
 rintro r h' ⟨k1,S1,t1,c1,rfl,hR2,a1,a2,a3⟩
 simp -dsimp -implicitDefEqProofs only[go_sem,↓reduceIte,Tryz.f173]
 refine⟨bD,bD,bD,by omega,by omega,λm hm=>?_⟩
 obtain⟨qA,kN,kO,uM⟩:=cW (show ¬nb=m from λe=>by obtain⟨_,_,_,H2⟩:=hR2;have:=H2.box;rw[e,hm]at this;cases this)
 have hrow:env.map (λn=>[I n])++[[aE.int .i64 k1]]=(env++[k1]).map λn=>[I n]:=by rw[lT];rfl
 rw[hrow]
 refine aH.a80 qA (by rw[gT,gD];rfl) hm ?_
 refine iV.mono (hv _ _ nb t1 c1 (e.pY 1) (env++[k1]) S1 funcs (hR2.aSA (o:=.gone) hm) aA aA aH2 iX hf (λhc=>?_) bCA) ?_
 ·obtain⟨_,e2⟩:=a3.ok hc
  obtain⟨b1,b2,b3,b4⟩:=vP hp n (st+1) (e.pY 0) env S funcs o0 hf pK aA henv _ _ e2
  refine⟨b1,λx hx=>?_⟩
  rcases oW.1 hx with hx|hx
  ·exact(henv x hx).ext b2
  ·rw[jL.1 hx];exact b3
 rintro r h2 ⟨k2,S2,t2,c2,rfl,hR3,b1,b2,b3⟩
 obtain⟨g,rfl,hgm,hR3⟩:=hR3.base (hR2.none hm)
 simp -dsimp -implicitDefEqProofs only[go_sem,↓reduceIte,Tryz.f173]
 refine⟨_,g,eK (aB.bM hgm (aB.le_refl _)),k2,S2,t2,c2,rfl,hR3,by omega,b2,?_⟩
 rw[aOP h3 hk]
 exact a3.fV b3
theorem bM0 {p:aG} (hp:p.ok) {inp:Int} {n:Nat} (hv:xI p inp n) {h0 h:aB} {nb st:Nat} {e:aD} {env:List Int} {S:dO} {funcs:Int} (hR:jH h0 nb p inp S st 0 h) (hst:st<3000) (hn:3001<=n+1+st)
  (hok:e.ok p funcs env.length) (iX:0<=funcs) (hf:funcs<=p.aK.length) (hg:Good inp S st) (henv:∀ x∈env,qS S x) (hel:env.length<=412+st) (hk:e.aT=8) :
  iV Tryz.prog 173 [.op nb 8 0 0,.agg e.c,ints env] h (aFF h0 nb p inp st 0 (fD p (n+1) st e env S)):=by
 obtain⟨om,og,ov,H⟩:=hR
 rw[aD.aZ]
 have hb:=H.box
 unfold c7 at hb
 have e3:((st:Int)=3000)=False:=eq_false aA
 have ew:IntKind.i64.wrap ((st:Int)+1)=((st+1:Nat):Int):=by rw[IntWalk.i64_in _ aA];rfl
 have hnode:=(aD.eI _ _ _ _).1 hok
 have h3:¬st=3000:=by omega
 have hcap:=hg.cap
 have hgcap:=hg.y6
 have pK:=hg.vN (qV st)
 have hR1:jH h0 nb p inp S (st+1) 0 (aU h nb (c7 p inp S om og ov (st+1) 0)):=⟨_,_,_,H.set (st+1) 0⟩
 have hlen:=fI hok aA
 rw[hk,show e8 8=3 from rfl]at hlen
 have g0:e.aM[Int.toNat 0]?=some (e.pY 0):=aD.jQ aA
 have g1:e.aM[Int.toNat 1]?=some (e.pY 1):=aD.jQ aA
 have g2:e.aM[Int.toNat 2]?=some (e.pY 2):=aD.jQ aA
 have o0:=aD.fM hok (i:=0) aA
 have o1:=aD.fM hok (i:=1) aA
 have o2:=aD.fM hok (i:=2) aA
 rw[jA aA]at o0 o1 o2
 refine mC 190 oG xG xH Tryz.func173 ?_
 simp -dsimp -implicitDefEqProofs only[go_sem,↓reduceIte,Tryz.f173,hb,e3,ew,hk,g0,aD.ld5]
 refine⟨by omega,?_⟩
 refine aH.gV (hv _ _ nb (st+1) 0 (e.pY 0) env S funcs hR1 aA aA o0 iX hf (λ_=>⟨pK,henv⟩) aA) ?_
 rintro r h' ⟨k1,S1,t1,c1,rfl,⟨om1,og1,ov1,H1⟩,a1,a2,a3⟩
 have s7:=H1.box
 unfold c7 at s7
 simp -dsimp -implicitDefEqProofs only[go_sem,↓reduceIte,Tryz.f173,s7]
 refine⟨λhc=>?_,λhc=>?_⟩
 ·refine⟨_,_,cD _ _,0,S1,t1,c1,rfl,⟨_,_,_,H1⟩,by omega,a2,?_⟩
  rw[aAG h3 hk]
  exact a3.fV aCV
 subst hc
 obtain⟨_,e2⟩:=a3.ok rfl
 obtain⟨q1,q2,q3,q4⟩:=vP hp n (st+1) (e.pY 0) env S funcs o0 hf pK aA henv _ _ e2
 unfold pM at q4
 simp only at q1 q2 q3 q4
 obtain⟨w,rfl,hw,dw⟩:=H1.row q3
 have rk:=aCC q3
 have k0:=q3.1
 have k2:=q3.2
 have lw:=rA (λn=>[I n]) S1.fR
 have hgc:=q1.y6
 rw[cK]at s7
 try simp -dsimp -implicitDefEqProofs only[go_sem,↓reduceIte,Tryz.f173,s7,hw,rk,cK]
 refine⟨k0,by omega,?_⟩
 have hgd:=H1.gds
 cases og1 with
 |none =>
  have hg0:S1.guards=[]:=nR.1 hgd
  rw[mR]
  simp -dsimp -implicitDefEqProofs only[go_sem,↓reduceIte,Tryz.f173,s7]
  refine⟨by decide,by decide,by decide,λb wH=>?_⟩
  obtain⟨nP,gJ,gI,nQ⟩:=cW (show ¬b=nb from λe=>by rw[e,s7]at wH;cases wH)
  simp -dsimp -implicitDefEqProofs only[go_sem,↓reduceIte,Tryz.f173,s7,gJ,gI,aC,g1,g2,aD.ld5]
  refine⟨λhz=>⟨by omega,?_⟩,λhz=>⟨by omega,?_⟩⟩
  ·rw[decide_eq_true hz]
   obtain⟨g,hgl,hG⟩:=H1.guard ⟨k1,true⟩ wH (F:=aU (aU h' b (.row 2 [[.v (I k1),.v (.bool true)]])) nb (c7 p inp (S1.guard ⟨k1,true⟩) om1 (some b) (some w) t1 0)) (aI _ _ _) (by rw[aC _ _ _ _ nP,aI,hg0];rfl) (λn h1 h2 _=>by rw[aC _ _ _ _ h1,aC _ _ _ _ h2])
   unfold c7 at hgl
   simp only[dO.guard,hg0,cK,dS,nA]at hgl
   refine aH.wk (aB.kR hgl) ?_
   have hgG:=q1.guard (b:=true) q3 aA
   have heG:=q2.trans (S1.rJ ⟨k1,true⟩)
   refine aH.gV (hv h0 g nb t1 0 (e.pY 1) env (S1.guard ⟨k1,true⟩) funcs ⟨_,_,_,hG⟩ aA aA o1 iX hf (λ_=>⟨hgG,λx hx=>(henv x hx).ext heG⟩) aA) ?_
   rintro r h2 ⟨k2,S2,t2,c2,rfl,hR3,b1,b2,b3⟩
   simp -dsimp -implicitDefEqProofs only[go_sem,↓reduceIte,Tryz.f173]
   refine⟨_,_,cD _ _,k2,S2,t2,c2,rfl,hR3,by omega,b2,?_⟩
   rw[aAG h3 hk]
   refine a3.fV ?_
   rw[if_pos hz]
   exact b3
  ·rw[decide_eq_false hz]
   obtain⟨g,hgl,hG⟩:=H1.guard ⟨k1,false⟩ wH (F:=aU (aU h' b (.row 2 [[.v (I k1),.v (.bool false)]])) nb (c7 p inp (S1.guard ⟨k1,false⟩) om1 (some b) (some w) t1 0)) (aI _ _ _) (by rw[aC _ _ _ _ nP,aI,hg0];rfl) (λn h1 h2 _=>by rw[aC _ _ _ _ h1,aC _ _ _ _ h2])
   unfold c7 at hgl
   simp only[dO.guard,hg0,cK,dS,nA]at hgl
   refine aH.wk (aB.kR hgl) ?_
   have hgG:=q1.guard (b:=false) q3 aA
   have heG:=q2.trans (S1.rJ ⟨k1,false⟩)
   refine aH.gV (hv h0 g nb t1 0 (e.pY 2) env (S1.guard ⟨k1,false⟩) funcs ⟨_,_,_,hG⟩ aA aA o2 iX hf (λ_=>⟨hgG,λx hx=>(henv x hx).ext heG⟩) aA) ?_
   rintro r h2 ⟨k2,S2,t2,c2,rfl,hR3,b1,b2,b3⟩
   simp -dsimp -implicitDefEqProofs only[go_sem,↓reduceIte,Tryz.f173]
   refine⟨_,_,cD _ _,k2,S2,t2,c2,rfl,hR3,by omega,b2,?_⟩
   rw[aAG h3 hk]
   refine a3.fV ?_
   rw[if_neg hz]
   exact b3
 |some gm =>
  have hgm:=hgd.2
  obtain⟨bQI,a9G,a9H,bQJ⟩:=cW (show ¬gm=nb from λe=>by rw[e,s7]at hgm;cases hgm)
  rw[cK]
  simp -dsimp -implicitDefEqProofs only[go_sem,↓reduceIte,Tryz.f173,s7,hgm,rA]
  refine⟨by decide,by decide,by decide,bX _,by omega,by omega,λb wH=>?_⟩
  obtain⟨nP,gJ,gI,nQ⟩:=cW (show ¬b=nb from λe=>by rw[e,s7]at wH;cases wH)
  obtain⟨bTV,bGR,bGS,bTW⟩:=cW (show ¬b=gm from λe=>by rw[e,hgm]at wH;cases wH)
  simp -dsimp -implicitDefEqProofs only[go_sem,↓reduceIte,Tryz.f173,s7,gJ,bGR,gI,a9H,bGS,a9G,aC,g1,g2,aD.ld5]
  refine⟨λhz=>⟨by omega,?_⟩,λhz=>⟨by omega,?_⟩⟩
  ·rw[decide_eq_true hz,nI aWO]
   obtain⟨g,hgl,hG⟩:=H1.guard ⟨k1,true⟩ wH (F:=aU (aU (aU h' gm .gone) b (.row 2 (rowsOf gA.c S1.guards++[[.v (I k1),.v (.bool true)]]))) nb (c7 p inp (S1.guard ⟨k1,true⟩) om1 (some b) (some w) t1 0)) (aI _ _ _) (by rw[aC _ _ _ _ nP,aI,vQ];rfl) (λn h1 h2 h3=>by rw[aC _ _ _ _ h1,aC _ _ _ _ h2,aC _ _ _ _ (λq=>h3 (by rw[q]))])
   unfold c7 at hgl
   simp only[dO.guard,cK,gD,nA]at hgl
   refine aH.wk (aB.kR hgl) ?_
   have hgG:=q1.guard (b:=true) q3 aA
   have heG:=q2.trans (S1.rJ ⟨k1,true⟩)
   refine aH.gV (hv h0 g nb t1 0 (e.pY 1) env (S1.guard ⟨k1,true⟩) funcs ⟨_,_,_,hG⟩ aA aA o1 iX hf (λ_=>⟨hgG,λx hx=>(henv x hx).ext heG⟩) aA) ?_
   rintro r h2 ⟨k2,S2,t2,c2,rfl,hR3,b1,b2,b3⟩
   simp -dsimp -implicitDefEqProofs only[go_sem,↓reduceIte,Tryz.f173]
   refine⟨_,_,cD _ _,k2,S2,t2,c2,rfl,hR3,by omega,b2,?_⟩
   rw[aAG h3 hk]
   refine a3.fV ?_
   rw[if_pos hz]
   exact b3
  ·rw[decide_eq_false hz,nI aWO]
   obtain⟨g,hgl,hG⟩:=H1.guard ⟨k1,false⟩ wH (F:=aU (aU (aU h' gm .gone) b (.row 2 (rowsOf gA.c S1.guards++[[.v (I k1),.v (.bool false)]]))) nb (c7 p inp (S1.guard ⟨k1,false⟩) om1 (some b) (some w) t1 0)) (aI _ _ _) (by rw[aC _ _ _ _ nP,aI,vQ];rfl) (λn h1 h2 h3=>by rw[aC _ _ _ _ h1,aC _ _ _ _ h2,aC _ _ _ _ (λq=>h3 (by rw[q]))])
   unfold c7 at hgl
   simp only[dO.guard,cK,gD,nA]at hgl
   refine aH.wk (aB.kR hgl) ?_
   have hgG:=q1.guard (b:=false) q3 aA
   have heG:=q2.trans (S1.rJ ⟨k1,false⟩)
   refine aH.gV (hv h0 g nb t1 0 (e.pY 2) env (S1.guard ⟨k1,false⟩) funcs ⟨_,_,_,hG⟩ aA aA o2 iX hf (λ_=>⟨hgG,λx hx=>(henv x hx).ext heG⟩) aA) ?_
   rintro r h2 ⟨k2,S2,t2,c2,rfl,hR3,b1,b2,b3⟩
   simp -dsimp -implicitDefEqProofs only[go_sem,↓reduceIte,Tryz.f173]
   refine⟨_,_,cD _ _,k2,S2,t2,c2,rfl,hR3,by omega,b2,?_⟩
   rw[aAG h3 hk]
   refine a3.fV ?_
   rw[if_neg hz]
   exact b3
theorem bM1 {p:aG} (hp:p.ok) {inp:Int} {n:Nat} (hv:xI p inp n) {h0 h:aB} {nb st:Nat} {e:aD} {env:List Int} {S:dO} {funcs:Int} (hR:jH h0 nb p inp S st 0 h) (hst:st<3000) (hn:3001<=n+1+st)
  (hok:e.ok p funcs env.length) (iX:0<=funcs) (hf:funcs<=p.aK.length) (hg:Good inp S st) (henv:∀ x∈env,qS S x) (hel:env.length<=412+st) (hk:e.aT=3) :
  iV Tryz.prog 173 [.op nb 8 0 0,.agg e.c,ints env] h (aFF h0 nb p inp st 0 (fD p (n+1) st e env S)):=by
 obtain⟨om,og,ov,H⟩:=hR
 rw[aD.aZ]
 have hb:=H.box
 unfold c7 at hb
 have e3:((st:Int)=3000)=False:=eq_false aA
 have ew:IntKind.i64.wrap ((st:Int)+1)=((st+1:Nat):Int):=by rw[IntWalk.i64_in _ aA];rfl
 have hnode:=(aD.eI _ _ _ _).1 hok
 have h3:¬st=3000:=by omega
 have hcap:=hg.cap
 have hgcap:=hg.y6
 have pK:=hg.vN (qV st)
 have hR1:jH h0 nb p inp S (st+1) 0 (aU h nb (c7 p inp S om og ov (st+1) 0)):=⟨_,_,_,H.set (st+1) 0⟩
 have hlen:=fI hok aA
 rw[hk,show e8 3=2 from rfl]at hlen
 have hkl:e.aM.length<=1048576:=by omega
 refine mC 190 oG xG xH Tryz.func173 ?_
 simp -dsimp -implicitDefEqProofs only[go_sem,↓reduceIte,Tryz.f173,hb,e3,ew,hk]
 refine aH.gV (s8 hp hv h0 _ nb (st+1) 0 e.aM env S funcs hR1 aA aA hkl (gR hok aA) iX hf (λ_=>⟨pK,henv⟩) aA) ?_
 rintro r h' ⟨vs,S1,t1,c1,rfl,⟨om1,og1,ov1,H1⟩,hvl,a1,a2,a3⟩
 have s7:=H1.box
 unfold c7 at s7
 simp -dsimp -implicitDefEqProofs only[go_sem,↓reduceIte,Tryz.f173,s7]
 refine⟨λhc=>?_,λhc=>?_⟩
 ·refine⟨_,_,cD _ _,0,S1,t1,c1,rfl,⟨_,_,_,H1⟩,by omega,a2,?_⟩
  rw[oD h3 aA]
  exact a3.fV aCV
 subst hc
 obtain⟨_,e2⟩:=a3.ok rfl
 obtain⟨q1,q2,q3,q4⟩:=oH hp pK aA henv (gR hok aA) hf _ _ e2
 simp only at q1 q2 q3
 try simp -dsimp -implicitDefEqProofs only[go_sem,↓reduceIte,Tryz.f173,hk]
 refine aH.gV (qP ⟨_,_,_,H1⟩ q1 a2 3 vs bO aA aA q3.2 aA) ?_
 rintro r h2 ⟨k2,S2,c2,rfl,hR3,b3⟩
 simp -dsimp -implicitDefEqProofs only[go_sem,↓reduceIte,Tryz.f173]
 refine⟨_,_,cD _ _,k2,S2,t1,c2,rfl,hR3,by omega,a2,?_⟩
 rw[oD h3 aA]
 refine a3.fV ?_
 rw[eV,hk]
 exact b3
theorem bM2 {p:aG} (hp:p.ok) {inp:Int} {n:Nat} (hv:xI p inp n) {h0 h:aB} {nb st:Nat} {e:aD} {env:List Int} {S:dO} {funcs:Int} (hR:jH h0 nb p inp S st 0 h) (hst:st<3000) (hn:3001<=n+1+st)
  (hok:e.ok p funcs env.length) (iX:0<=funcs) (hf:funcs<=p.aK.length) (hg:Good inp S st) (henv:∀ x∈env,qS S x) (hel:env.length<=412+st) (hk:e.aT=4) :
  iV Tryz.prog 173 [.op nb 8 0 0,.agg e.c,ints env] h (aFF h0 nb p inp st 0 (fD p (n+1) st e env S)):=by
 obtain⟨om,og,ov,H⟩:=hR
 rw[aD.aZ]
 have hb:=H.box
 unfold c7 at hb
 have e3:((st:Int)=3000)=False:=eq_false aA
 have ew:IntKind.i64.wrap ((st:Int)+1)=((st+1:Nat):Int):=by rw[IntWalk.i64_in _ aA];rfl
 have hnode:=(aD.eI _ _ _ _).1 hok
 have h3:¬st=3000:=by omega
 have hcap:=hg.cap
 have hgcap:=hg.y6
 have pK:=hg.vN (qV st)
 have hR1:jH h0 nb p inp S (st+1) 0 (aU h nb (c7 p inp S om og ov (st+1) 0)):=⟨_,_,_,H.set (st+1) 0⟩
 have hlen:=fI hok aA
 rw[hk,show e8 4=2 from rfl]at hlen
 have hkl:e.aM.length<=1048576:=by omega
 refine mC 190 oG xG xH Tryz.func173 ?_
 simp -dsimp -implicitDefEqProofs only[go_sem,↓reduceIte,Tryz.f173,hb,e3,ew,hk]
 refine aH.gV (s8 hp hv h0 _ nb (st+1) 0 e.aM env S funcs hR1 aA aA hkl (gR hok aA) iX hf (λ_=>⟨pK,henv⟩) aA) ?_
 rintro r h' ⟨vs,S1,t1,c1,rfl,⟨om1,og1,ov1,H1⟩,hvl,a1,a2,a3⟩
 have s7:=H1.box
 unfold c7 at s7
 simp -dsimp -implicitDefEqProofs only[go_sem,↓reduceIte,Tryz.f173,s7]
 refine⟨λhc=>?_,λhc=>?_⟩
 ·refine⟨_,_,cD _ _,0,S1,t1,c1,rfl,⟨_,_,_,H1⟩,by omega,a2,?_⟩
  rw[oD h3 aA]
  exact a3.fV aCV
 subst hc
 obtain⟨_,e2⟩:=a3.ok rfl
 obtain⟨q1,q2,q3,q4⟩:=oH hp pK aA henv (gR hok aA) hf _ _ e2
 simp only at q1 q2 q3
 try simp -dsimp -implicitDefEqProofs only[go_sem,↓reduceIte,Tryz.f173,hk]
 refine aH.gV (qP ⟨_,_,_,H1⟩ q1 a2 4 vs bO aA aA q3.2 aA) ?_
 rintro r h2 ⟨k2,S2,c2,rfl,hR3,b3⟩
 simp -dsimp -implicitDefEqProofs only[go_sem,↓reduceIte,Tryz.f173]
 refine⟨_,_,cD _ _,k2,S2,t1,c2,rfl,hR3,by omega,a2,?_⟩
 rw[oD h3 aA]
 refine a3.fV ?_
 rw[eV,hk]
 exact b3
theorem bM3 {p:aG} (hp:p.ok) {inp:Int} {n:Nat} (hv:xI p inp n) {h0 h:aB} {nb st:Nat} {e:aD} {env:List Int} {S:dO} {funcs:Int} (hR:jH h0 nb p inp S st 0 h) (hst:st<3000) (hn:3001<=n+1+st)
  (hok:e.ok p funcs env.length) (iX:0<=funcs) (hf:funcs<=p.aK.length) (hg:Good inp S st) (henv:∀ x∈env,qS S x) (hel:env.length<=412+st) (hk:e.aT=5) :
  iV Tryz.prog 173 [.op nb 8 0 0,.agg e.c,ints env] h (aFF h0 nb p inp st 0 (fD p (n+1) st e env S)):=by
 obtain⟨om,og,ov,H⟩:=hR
 rw[aD.aZ]
 have hb:=H.box
 unfold c7 at hb
 have e3:((st:Int)=3000)=False:=eq_false aA
 have ew:IntKind.i64.wrap ((st:Int)+1)=((st+1:Nat):Int):=by rw[IntWalk.i64_in _ aA];rfl
 have hnode:=(aD.eI _ _ _ _).1 hok
 have h3:¬st=3000:=by omega
 have hcap:=hg.cap
 have hgcap:=hg.y6
 have pK:=hg.vN (qV st)
 have hR1:jH h0 nb p inp S (st+1) 0 (aU h nb (c7 p inp S om og ov (st+1) 0)):=⟨_,_,_,H.set (st+1) 0⟩
 have hlen:=fI hok aA
 rw[hk,show e8 5=2 from rfl]at hlen
 have hkl:e.aM.length<=1048576:=by omega
 refine mC 190 oG xG xH Tryz.func173 ?_
 simp -dsimp -implicitDefEqProofs only[go_sem,↓reduceIte,Tryz.f173,hb,e3,ew,hk]
 refine aH.gV (s8 hp hv h0 _ nb (st+1) 0 e.aM env S funcs hR1 aA aA hkl (gR hok aA) iX hf (λ_=>⟨pK,henv⟩) aA) ?_
 rintro r h' ⟨vs,S1,t1,c1,rfl,⟨om1,og1,ov1,H1⟩,hvl,a1,a2,a3⟩
 have s7:=H1.box
 unfold c7 at s7
 simp -dsimp -implicitDefEqProofs only[go_sem,↓reduceIte,Tryz.f173,s7]
 refine⟨λhc=>?_,λhc=>?_⟩
 ·refine⟨_,_,cD _ _,0,S1,t1,c1,rfl,⟨_,_,_,H1⟩,by omega,a2,?_⟩
  rw[oD h3 aA]
  exact a3.fV aCV
 subst hc
 obtain⟨_,e2⟩:=a3.ok rfl
 obtain⟨q1,q2,q3,q4⟩:=oH hp pK aA henv (gR hok aA) hf _ _ e2
 simp only at q1 q2 q3
 try simp -dsimp -implicitDefEqProofs only[go_sem,↓reduceIte,Tryz.f173,hk]
 refine aH.gV (qP ⟨_,_,_,H1⟩ q1 a2 5 vs bO aA aA q3.2 aA) ?_
 rintro r h2 ⟨k2,S2,c2,rfl,hR3,b3⟩
 simp -dsimp -implicitDefEqProofs only[go_sem,↓reduceIte,Tryz.f173]
 refine⟨_,_,cD _ _,k2,S2,t1,c2,rfl,hR3,by omega,a2,?_⟩
 rw[oD h3 aA]
 refine a3.fV ?_
 rw[eV,hk]
 exact b3
theorem bM4 {p:aG} (hp:p.ok) {inp:Int} {n:Nat} (hv:xI p inp n) {h0 h:aB} {nb st:Nat} {e:aD} {env:List Int} {S:dO} {funcs:Int} (hR:jH h0 nb p inp S st 0 h) (hst:st<3000) (hn:3001<=n+1+st)
  (hok:e.ok p funcs env.length) (iX:0<=funcs) (hf:funcs<=p.aK.length) (hg:Good inp S st) (henv:∀ x∈env,qS S x) (hel:env.length<=412+st) (hk:e.aT=6) :
  iV Tryz.prog 173 [.op nb 8 0 0,.agg e.c,ints env] h (aFF h0 nb p inp st 0 (fD p (n+1) st e env S)):=by
 obtain⟨om,og,ov,H⟩:=hR
 rw[aD.aZ]
 have hb:=H.box
 unfold c7 at hb
 have e3:((st:Int)=3000)=False:=eq_false aA
 have ew:IntKind.i64.wrap ((st:Int)+1)=((st+1:Nat):Int):=by rw[IntWalk.i64_in _ aA];rfl
 have hnode:=(aD.eI _ _ _ _).1 hok
 have h3:¬st=3000:=by omega
 have hcap:=hg.cap
 have hgcap:=hg.y6
 have pK:=hg.vN (qV st)
 have hR1:jH h0 nb p inp S (st+1) 0 (aU h nb (c7 p inp S om og ov (st+1) 0)):=⟨_,_,_,H.set (st+1) 0⟩
 have hlen:=fI hok aA
 rw[hk,show e8 6=2 from rfl]at hlen
 have hkl:e.aM.length<=1048576:=by omega
 refine mC 190 oG xG xH Tryz.func173 ?_
 simp -dsimp -implicitDefEqProofs only[go_sem,↓reduceIte,Tryz.f173,hb,e3,ew,hk]
 refine aH.gV (s8 hp hv h0 _ nb (st+1) 0 e.aM env S funcs hR1 aA aA hkl (gR hok aA) iX hf (λ_=>⟨pK,henv⟩) aA) ?_
 rintro r h' ⟨vs,S1,t1,c1,rfl,⟨om1,og1,ov1,H1⟩,hvl,a1,a2,a3⟩
 have s7:=H1.box
 unfold c7 at s7
 simp -dsimp -implicitDefEqProofs only[go_sem,↓reduceIte,Tryz.f173,s7]
 refine⟨λhc=>?_,λhc=>?_⟩
 ·refine⟨_,_,cD _ _,0,S1,t1,c1,rfl,⟨_,_,_,H1⟩,by omega,a2,?_⟩
  rw[oD h3 aA]
  exact a3.fV aCV
 subst hc
 obtain⟨_,e2⟩:=a3.ok rfl
 obtain⟨q1,q2,q3,q4⟩:=oH hp pK aA henv (gR hok aA) hf _ _ e2
 simp only at q1 q2 q3
 try simp -dsimp -implicitDefEqProofs only[go_sem,↓reduceIte,Tryz.f173,hk]
 refine aH.gV (qP ⟨_,_,_,H1⟩ q1 a2 6 vs bO aA aA q3.2 aA) ?_
 rintro r h2 ⟨k2,S2,c2,rfl,hR3,b3⟩
 simp -dsimp -implicitDefEqProofs only[go_sem,↓reduceIte,Tryz.f173]
 refine⟨_,_,cD _ _,k2,S2,t1,c2,rfl,hR3,by omega,a2,?_⟩
 rw[oD h3 aA]
 refine a3.fV ?_
 rw[eV,hk]
 exact b3
theorem bM5 {p:aG} (hp:p.ok) {inp:Int} {n:Nat} (hv:xI p inp n) {h0 h:aB} {nb st:Nat} {e:aD} {env:List Int} {S:dO} {funcs:Int} (hR:jH h0 nb p inp S st 0 h) (hst:st<3000) (hn:3001<=n+1+st)
  (hok:e.ok p funcs env.length) (iX:0<=funcs) (hf:funcs<=p.aK.length) (hg:Good inp S st) (henv:∀ x∈env,qS S x) (hel:env.length<=412+st) (hk:e.aT=7) :
  iV Tryz.prog 173 [.op nb 8 0 0,.agg e.c,ints env] h (aFF h0 nb p inp st 0 (fD p (n+1) st e env S)):=by
 obtain⟨om,og,ov,H⟩:=hR
 rw[aD.aZ]
 have hb:=H.box
 unfold c7 at hb
 have e3:((st:Int)=3000)=False:=eq_false aA
 have ew:IntKind.i64.wrap ((st:Int)+1)=((st+1:Nat):Int):=by rw[IntWalk.i64_in _ aA];rfl
 have hnode:=(aD.eI _ _ _ _).1 hok
 have h3:¬st=3000:=by omega
 have hcap:=hg.cap
 have hgcap:=hg.y6
 have pK:=hg.vN (qV st)
 have hR1:jH h0 nb p inp S (st+1) 0 (aU h nb (c7 p inp S om og ov (st+1) 0)):=⟨_,_,_,H.set (st+1) 0⟩
 have hlen:=fI hok aA
 rw[hk,show e8 7=1 from rfl]at hlen
 have hkl:e.aM.length<=1048576:=by omega
 refine mC 190 oG xG xH Tryz.func173 ?_
 simp -dsimp -implicitDefEqProofs only[go_sem,↓reduceIte,Tryz.f173,hb,e3,ew,hk]
 refine aH.gV (s8 hp hv h0 _ nb (st+1) 0 e.aM env S funcs hR1 aA aA hkl (gR hok aA) iX hf (λ_=>⟨pK,henv⟩) aA) ?_
 rintro r h' ⟨vs,S1,t1,c1,rfl,⟨om1,og1,ov1,H1⟩,hvl,a1,a2,a3⟩
 have s7:=H1.box
 unfold c7 at s7
 simp -dsimp -implicitDefEqProofs only[go_sem,↓reduceIte,Tryz.f173,s7]
 refine⟨λhc=>?_,λhc=>?_⟩
 ·refine⟨_,_,cD _ _,0,S1,t1,c1,rfl,⟨_,_,_,H1⟩,by omega,a2,?_⟩
  rw[oD h3 aA]
  exact a3.fV aCV
 subst hc
 obtain⟨_,e2⟩:=a3.ok rfl
 obtain⟨q1,q2,q3,q4⟩:=oH hp pK aA henv (gR hok aA) hf _ _ e2
 simp only at q1 q2 q3
 try simp -dsimp -implicitDefEqProofs only[go_sem,↓reduceIte,Tryz.f173,hk]
 refine aH.gV (qP ⟨_,_,_,H1⟩ q1 a2 7 vs bO aA aA q3.2 aA) ?_
 rintro r h2 ⟨k2,S2,c2,rfl,hR3,b3⟩
 simp -dsimp -implicitDefEqProofs only[go_sem,↓reduceIte,Tryz.f173]
 refine⟨_,_,cD _ _,k2,S2,t1,c2,rfl,hR3,by omega,a2,?_⟩
 rw[oD h3 aA]
 refine a3.fV ?_
 rw[eV,hk]
 exact b3
theorem bGT {p:aG} (hp:p.ok) {inp:Int} {n:Nat} (hv:xI p inp n) {h0 h:aB} {nb st:Nat} {e:aD} {env:List Int} {S:dO} {funcs:Int} (hR:jH h0 nb p inp S st 0 h) (hst:st<3000) (hn:3001<=n+1+st)
  (hok:e.ok p funcs env.length) (iX:0<=funcs) (hf:funcs<=p.aK.length) (hg:Good inp S st) (henv:∀ x∈env,qS S x) (hel:env.length<=412+st) (hk:e.aT=10) :
  iV Tryz.prog 173 [.op nb 8 0 0,.agg e.c,ints env] h (aFF h0 nb p inp st 0 (fD p (n+1) st e env S)):=by
 obtain⟨om,og,ov,H⟩:=hR
 rw[aD.aZ]
 have hb:=H.box
 unfold c7 at hb
 have e3:((st:Int)=3000)=False:=eq_false aA
 have ew:IntKind.i64.wrap ((st:Int)+1)=((st+1:Nat):Int):=by rw[IntWalk.i64_in _ aA];rfl
 have hnode:=(aD.eI _ _ _ _).1 hok
 have h3:¬st=3000:=by omega
 have hcap:=hg.cap
 have hgcap:=hg.y6
 have pK:=hg.vN (qV st)
 have hR1:jH h0 nb p inp S (st+1) 0 (aU h nb (c7 p inp S om og ov (st+1) 0)):=⟨_,_,_,H.set (st+1) 0⟩
 obtain⟨f,F⟩:=pF hp hok hf (.inl hk)
 have hkl:e.aM.length<=1048576:=by have:=F.kids;have:=F.params;omega
 refine mC 190 oG xG xH Tryz.func173 ?_
 simp -dsimp -implicitDefEqProofs only[go_sem,↓reduceIte,Tryz.f173,hb,e3,ew,hk]
 refine aH.gV (s8 hp hv h0 _ nb (st+1) 0 e.aM env S funcs hR1 aA aA hkl (gR hok aA) iX hf (λ_=>⟨pK,henv⟩) aA) ?_
 rintro r h' ⟨vs,S1,t1,c1,rfl,⟨om1,og1,ov1,H1⟩,hvl,a1,a2,a3⟩
 have s7:=H1.box
 unfold c7 at s7
 simp -dsimp -implicitDefEqProofs only[go_sem,↓reduceIte,Tryz.f173,s7]
 refine⟨λhc=>?_,λhc=>?_⟩
 ·refine⟨_,_,cD _ _,0,S1,t1,c1,rfl,⟨_,_,_,H1⟩,by omega,a2,?_⟩
  rw[aDY h3 hk]
  exact a3.fV aCV
 subst hc
 obtain⟨_,e2⟩:=a3.ok rfl
 obtain⟨q1,q2,q3,q4⟩:=oH hp pK aA henv (gR hok aA) hf _ _ e2
 simp only at q1 q2 q3
 try simp -dsimp -implicitDefEqProofs only[go_sem,↓reduceIte,Tryz.f173,hk,s7,F.get,F.out,aX.aZ,aD.ld5]
 have f1:=F.lo
 have f2:=F.hi
 have f3:=F.pk
 have f4:=F.pk2
 have f5:=F.kids
 have f6:=F.params
 refine⟨f1,f2,f3,by omega,?_⟩
 refine aH.gV (hv h0 _ nb t1 0 (p.out e.bB e.c4) vs S1 e.bB ⟨_,_,_,H1⟩ aA aA a2V f1 aA (λ_=>⟨q1,q3.2⟩) aA) ?_
 rintro r h2 ⟨k2,S2,t2,c2,rfl,hR3,b1,b2,b3⟩
 simp -dsimp -implicitDefEqProofs only[go_sem,↓reduceIte,Tryz.f173]
 refine⟨_,_,cD _ _,k2,S2,t2,c2,rfl,hR3,by omega,b2,?_⟩
 rw[aDY h3 hk]
 exact a3.fV b3
theorem bGU {p:aG} (hp:p.ok) {inp:Int} {n:Nat} (hv:xI p inp n) {h0 h:aB} {nb st:Nat} {e:aD} {env:List Int} {S:dO} {funcs:Int} (hR:jH h0 nb p inp S st 0 h) (hst:st<3000) (hn:3001<=n+1+st)
  (hok:e.ok p funcs env.length) (iX:0<=funcs) (hf:funcs<=p.aK.length) (hg:Good inp S st) (henv:∀ x∈env,qS S x) (hel:env.length<=412+st) (hk:e.aT=11) :
  iV Tryz.prog 173 [.op nb 8 0 0,.agg e.c,ints env] h (aFF h0 nb p inp st 0 (fD p (n+1) st e env S)):=by
 obtain⟨om,og,ov,H⟩:=hR
 rw[aD.aZ]
 have hb:=H.box
 unfold c7 at hb
 have e3:((st:Int)=3000)=False:=eq_false aA
 have ew:IntKind.i64.wrap ((st:Int)+1)=((st+1:Nat):Int):=by rw[IntWalk.i64_in _ aA];rfl
 have hnode:=(aD.eI _ _ _ _).1 hok
 have h3:¬st=3000:=by omega
 have hcap:=hg.cap
 have hgcap:=hg.y6
 have pK:=hg.vN (qV st)
 have hR1:jH h0 nb p inp S (st+1) 0 (aU h nb (c7 p inp S om og ov (st+1) 0)):=⟨_,_,_,H.set (st+1) 0⟩
 obtain⟨f,F⟩:=pF hp hok hf (.inr hk)
 have hkl:e.aM.length<=1048576:=by have:=F.kids;have:=F.params;omega
 have f1:=F.lo
 have f2:=F.hi
 have f3:=F.pk
 have f4:=F.pk2
 have f5:=F.kids
 have f6:=F.params
 have f7:=F.loop hk
 have f8:=F.outs
 refine mC 190 oG xG xH Tryz.func173 ?_
 simp -dsimp -implicitDefEqProofs only[go_sem,↓reduceIte,Tryz.f173,hb,e3,ew,hk]
 refine aH.gV (s8 hp hv h0 _ nb (st+1) 0 e.aM env S funcs hR1 aA aA hkl (gR hok aA) iX hf (λ_=>⟨pK,henv⟩) aA) ?_
 rintro r h' ⟨vs,S1,t1,c1,rfl,⟨om1,og1,ov1,H1⟩,hvl,a1,a2,a3⟩
 have s7:=H1.box
 unfold c7 at s7
 simp -dsimp -implicitDefEqProofs only[go_sem,↓reduceIte,Tryz.f173,s7]
 refine⟨λhc=>?_,λhc=>?_⟩
 ·refine⟨_,_,cD _ _,0,S1,t1,c1,rfl,⟨_,_,_,H1⟩,by omega,a2,?_⟩
  rw[aDZ h3 hk]
  exact a3.fV aCV
 subst hc
 obtain⟨_,e2⟩:=a3.ok rfl
 obtain⟨q1,q2,q3,q4⟩:=oH hp pK aA henv (gR hok aA) hf _ _ e2
 simp only at q1 q2 q3
 try simp -dsimp -implicitDefEqProofs only[go_sem,↓reduceIte,Tryz.f173,hk]
 have hiter:∀ (k:Nat) (us:List Int) (S2:dO) (t:Nat) (c:Int),kY (sS (λvs t S=>rI (λt e S=>fD p n t e vs S) (p.outs e.bB) t S) k vs t1 S1) (us,S2) t c->k<=e.cN.toNat->(¬c=0∨k=e.cN.toNat)->kY (rH 0 (fD p (n+1) st e env S)) (us.getD e.c4.toNat 0,S2) t c:=λk us S2 t c ho hk1 hor=>by
  rw[aDZ h3 hk]
  refine a3.fV ?_
  rw[eV]
  refine kY.then (v:=(us,S2)) (t:=t) (c:=c) ?_ (jE _ _ _)
  rcases hor with hc|rfl
  ·have:=ho.err hc
   rw[a02 _ k hk1 this]
   exact o6 _ _ hc
  ·exact ho
 have hfl:∀ us t S2,Good inp S2 t->(us.length=f.aS.length/\∀ x∈us,qS S2 x)->t<=3000->vO (aBO inp S2 t f.aS.length) (rI (λt e S=>fD p n t e us S) (p.outs e.bB) t S2):=λus w S2 hg' hv' hw=>by
  rw[F.eq]
  exact oH hp hg' hw hv'.2 (funcs:=e.bB) (λx hx=>by rw[hv'.1,f7.2.2];exact F.oks x hx) aA
 refine cM oG xG xH (λx:Nat×List Int×Nat×Int×dO×aB=>[(0,.op nb 8 0 0),(4,.ip 5 [[I 11,I e.bB,I e.c4,I e.cN,gF 5 aD.c e.aM]] 0 0),(9,ints x.2.1),(10,I x.1)]) (λx=>x.2.2.2.2.2) (λx=>x.1<=e.cN.toNat/\x.2.1.length=f.aS.length/\t1<=x.2.2.1/\x.2.2.1<=3000/\kY (sS (λvs t S=>rI (λt e S=>fD p n t e vs S) (p.outs e.bB) t S) x.1 vs t1 S1) (x.2.1,x.2.2.2.2.1) x.2.2.1 x.2.2.2.1/\jH h0 nb p inp x.2.2.2.2.1 x.2.2.1 x.2.2.2.1 x.2.2.2.2.2) (λx=>e.cN.toNat-x.1) (0,vs,t1,0,S1,h') ⟨by simp[cR,b6],aB.le_refl _,eF _,by simp only;omega,bX _,a2,s5 _ _,⟨_,_,_,H1⟩⟩ ?_
 rintro⟨k,us,t,c,S2,g⟩ ⟨hk1,hul,ht0,ht,ho,⟨om2,og2,ov2,H2⟩⟩
 simp only at hk1 hul ht0 ht ho H2 ⊢
 have wH:=H2.box
 unfold c7 at wH
 have gp:us[e.c4.toNat]?=some (us.getD e.c4.toNat 0):=cQ aA
 simp -dsimp -implicitDefEqProofs only[go_sem,↓reduceIte,Tryz.f173,wH,F.get,aX.aZ,gp]
 refine⟨λhlt=>⟨λhc=>⟨f1,f2,?_⟩,λhc=>?_⟩,λhge=>?_⟩
 ·subst hc
  obtain⟨_,e3⟩:=kY.ok (c:=0) (by rw[eV];exact ho) rfl
  obtain⟨w1,w2,w3,w4⟩:=xD hfl k vs t1 S1 q1 ⟨by omega,q3.2⟩ a2 _ _ e3
  simp only at w1 w2 w3
  refine aH.gV (s8 hp hv h0 _ nb t 0 f.aS us S2 e.bB ⟨_,_,_,H2⟩ ht aA aA (by rw[hul,f7.2.2];exact F.oks) f1 aA (λ_=>⟨w1,w3.2⟩) aA) ?_
  rintro r h2 ⟨l2,S3,t2,c2,rfl,hR3,hl2,b1,b2,b3⟩
  simp -dsimp -implicitDefEqProofs only[go_sem,↓reduceIte,Tryz.f173]
  refine⟨(k+1,l2,t2,c2,S3,h2),⟨rfl,by rw[IntWalk.i64_in _ aA];rfl⟩,aB.le_refl _,⟨by omega,hl2,by simp only;omega,b2,?_,hR3⟩,by simp only;omega⟩
  simp only
  rw[aCA]
  refine ho.then ?_
  rw[F.eq]
  exact b3
 ·exact⟨f3,by omega,_,_,cD _ _,_,S2,t,c,rfl,⟨_,_,_,H2⟩,by omega,ht,hiter k us S2 t c ho hk1 (.inl hc)⟩
 ·exact⟨f3,by omega,_,_,cD _ _,_,S2,t,c,rfl,⟨_,_,_,H2⟩,by omega,ht,hiter k us S2 t c ho hk1 (.inr aA)⟩
theorem reg {p:aG} (hp:p.ok) {inp:Int}:∀ n,xI p inp n
 |0=>λh0 h nb st c e env S funcs hb hst hn=>by omega
 |n+1=>λh0 h nb st c e env S funcs hb hst hn hok iX hf hgo hel=>by
  have hv:=reg hp (inp:=inp) n
  by_cases hs:¬c=0∨st=3000
  ·exact a43 hb hst hs
  have hc:c=0:=a0C λq=>hs (.inl q)
  have h3:st<3000:=by
   rcases bT st 3000 with h|h
   ·exact h
   ·exact absurd (.inr aA) hs
  subst hc
  obtain⟨hg,henv⟩:=hgo rfl
  rcases tQ ((aD.eI _ _ _ _).1 hok).1 with hk|hk|hk|hk|hk|hk|hk|hk|hk|hk|hk
  ·exact bMX hp hv hb h3 hn hok iX hf hg henv hel hk
  ·exact bMY hp hv hb h3 hn hok iX hf hg henv hel hk
  ·exact bM1 hp hv hb h3 hn hok iX hf hg henv hel hk
  ·exact bM2 hp hv hb h3 hn hok iX hf hg henv hel hk
  ·exact bM3 hp hv hb h3 hn hok iX hf hg henv hel hk
  ·exact bM4 hp hv hb h3 hn hok iX hf hg henv hel hk
  ·exact bM5 hp hv hb h3 hn hok iX hf hg henv hel hk
  ·exact bM0 hp hv hb h3 hn hok iX hf hg henv hel hk
  ·exact bMZ hp hv hb h3 hn hok iX hf hg henv hel hk
  ·exact bGT hp hv hb h3 hn hok iX hf hg henv hel hk
  ·exact bGU hp hv hb h3 hn hok iX hf hg henv hel hk
structure iM where
 dK:Int
 aV:List bH
 iA:List gA
 aS:List Int
def iM.c (x:iM):List aE:=[I x.dK,gF 4 bH.c x.aV,gF 2 gA.c x.iA,ints x.aS]
theorem iM.aZ (x:iM):x.c=[I x.dK,gF 4 bH.c x.aV,gF 2 gA.c x.iA,ints x.aS]:=rfl
def oZ (p:aG) (f:Int) (args:List Int):iM×Int:=match oE p f args with
 | .ok ((l,S),_)=>(⟨args.length,S.code,S.guards,l⟩,0)
 | .error c=>(⟨0,[],[],[]⟩,c)
theorem xF.seal {bx:dO->Option Nat->Option Nat->Option Nat->bV} {h0 h F hh:aB} {nb:Nat} {inp:Int} {S:dO} {om og ov:Option Nat} (H:xF bx h0 nb S om og ov h) (l:List Int) (d:Int)
  (hF:∀ n,some n=om∨some n=og->F n=h n) (hl:hh.le F) (hn:∀ n,some n=om∨some n=og->hh n=none) :
  Shift (.gU [.agg [I inp,jN 4 S.code.length om,jN 2 S.guards.length og,ints l],I d]) F (.gU [.agg [I inp,gF 4 bH.c S.code,gF 2 gA.c S.guards,ints l],I d]) hh:=by
 have hc:=H.code
 have hg:=H.gds
 have ap:=H.apart
 cases om with
 |none =>
  have hc0:S.code=[]:=nR.1 hc
  cases og with
  |none =>
   have hg0:S.guards=[]:=nR.1 hg
   rw[hc0,hg0]
   exact Shift.of (Sub.gU (.cons (Sub.agg (.cons (.refl _) (.cons (Sub.nil _ _) (.cons (Sub.nil _ _) (.cons (.refl _) .nil))))) (.cons (.refl _) .nil))) hl
  |some g =>
   have hgF:=(hF g (.inr rfl)).trans hg.2
   rw[hc0]
   refine Shift.trans (Shift.of (Sub.gU (.cons (Sub.agg (.cons (.refl _) (.cons (Sub.nil 4 false) (.cons (.refl _) (.cons (.refl _) .nil))))) (.cons (.refl _) .nil))) (aB.le_refl F)) ?_
   refine kS (n:=g) (sz:=2) (S.guards.map gA.c) (hn g (.inr rfl)) ?_ a21 ?_
   ·intro q
    by_cases e:q=g
    ·subst e;right;rw[aI];exact hgF.symm
    ·rw[aC _ _ _ _ e];exact hl q
   ·simp[aE.fG,l5,jN,nI]
 |some m =>
  have hmF:=(hF m (.inl rfl)).trans hc.2
  cases og with
  |none =>
   have hg0:S.guards=[]:=nR.1 hg
   rw[hg0]
   refine Shift.trans (Shift.of (Sub.gU (.cons (Sub.agg (.cons (.refl _) (.cons (.refl _) (.cons (Sub.nil 2 false) (.cons (.refl _) .nil))))) (.cons (.refl _) .nil))) (aB.le_refl F)) ?_
   refine kS (n:=m) (sz:=4) (S.code.map bH.c) (hn m (.inl rfl)) ?_ a21 ?_
   ·intro q
    by_cases e:q=m
    ·subst e;right;rw[aI];exact hmF.symm
    ·rw[aC _ _ _ _ e];exact hl q
   ·simp[aE.fG,l5,jN,nI]
  |some g =>
   have hgF:=(hF g (.inr rfl)).trans hg.2
   have hne:¬g=m:=λe=>((ap g).2.1 (by rw[e])).1 rfl
   refine Shift.trans (b:=.gU [.agg [I inp,jN 4 S.code.length (some m),gF 2 gA.c S.guards,ints l],I d]) (h2:=aU hh m (.row 4 (rowsOf bH.c S.code))) ?_ ?_
   ·refine kS (n:=g) (sz:=2) (S.guards.map gA.c) (by rw[aC _ _ _ _ hne];exact hn g (.inr rfl)) ?_ (by simp[jB,j6,jN];exact λe=>hne e.symm) ?_
    ·intro q
     by_cases e:q=g
     ·subst e;right;rw[aI];exact hgF.symm
     ·rw[aC _ _ _ _ e]
      by_cases e2:q=m
      ·subst e2;right;rw[aI];exact hmF.symm
      ·rw[aC _ _ _ _ e2];exact hl q
    ·have hne':¬m=g:=λe=>hne e.symm
     simp[aE.fG,l5,jN,nI,hne']
   ·refine kS (n:=m) (sz:=4) (S.code.map bH.c) (hn m (.inl rfl)) (aB.le_refl _) a21 ?_
    simp[aE.fG,l5,jN,nI]
theorem xF.keep {h0 h:aB} {nb:Nat} {bx:dO->Option Nat->Option Nat->Option Nat->bV} {S:dO} {om og ov:Option Nat} (H:xF bx h0 nb S om og ov h) {n:Nat} {o:bV} (hn:h0 n=some o):h n=some o/\¬n=nb/\¬some n=om/\¬some n=og/\¬some n=ov:=by
 have hne:∀ q,¬(q=nb∨some q=om∨some q=og∨some q=ov)∨h0 q=.none:=λq=>by
  by_cases e:q=nb∨some q=om∨some q=og∨some q=ov
  ·exact .inr (H.fresh q e)
  ·exact .inl e
 have h1:¬(n=nb∨some n=om∨some n=og∨some n=ov):=by
  rcases hne n with e|e
  ·exact e
  ·rw[hn]at e;cases e
 have e1:¬n=nb:=λe=>h1 (.inl e)
 have e2:¬some n=om:=λe=>h1 (.inr (.inl e))
 have e3:¬some n=og:=λe=>h1 (.inr (.inr (.inl e)))
 have e4:¬some n=ov:=λe=>h1 (.inr (.inr (.inr e)))
 exact⟨(H.upto n e1 e2 e3 e4).trans hn,e1,e2,e3,e4⟩
theorem xF.le {h0 h:aB} {nb:Nat} {bx:dO->Option Nat->Option Nat->Option Nat->bV} {S:dO} {om og ov:Option Nat} (H:xF bx h0 nb S om og ov h):h0.le h:=λq=>by
 cases e:h0 q with
 |none=>exact .inl rfl
 |some o=>right;exact(H.keep e).1.symm
theorem aUO {h0:aB} {nb:Nat} (p:aG) (inp:Int) (hn:h0 nb=none):jH h0 nb p inp ⟨[],[],[]⟩ 0 0 (aU h0 nb (c7 p inp ⟨[],[],[]⟩ none none none 0 0)) :=
 ⟨none,none,none,aI _ _ _,aJM _ _ _ _,rfl,rfl,rfl,λn h=>(by rcases h with rfl|h|h|h;exact hn;cases h;cases h;cases h),λn h1 _ _ _=>aC _ _ _ _ h1⟩
def aGQ (args:List Int) (k:Nat):dO:=⟨(List.range k).map λi:Nat=>⟨1,0,0,(i:Int)⟩,args.take k,[]⟩
def aOQ (k:Nat):List Int:=(List.range k).map λi:Nat=>(i:Int)
theorem a45 (args:List Int):aGQ args args.length=inS args:=by rw[aGQ,nL];rfl
theorem aMI {args:List Int} {k:Nat} (hk:k<args.length):aGQ args (k+1)=(aGQ args k).put ⟨1,0,0,(k:Int)⟩ args[k]:=by
 rw[aGQ,aGQ,dO.put,aV4,lT,jF hk];rfl
theorem a03 (k:Nat):aOQ (k+1)=aOQ k++[(k:Int)]:=by rw[aOQ,aOQ,aV4,lT];rfl
@[go_sem] def a46:List Nat:=[0,1,2,3,6,7,8,9,10,11,12,28,30,44,45,46,47,77]
@[go_sem] def bM6:List Nat:=[3,43,57]
@[go_sem] def bM7:Marks:=λid=>match id with|6=>([9],(.op 0 (.op 1 (.op 2 (.op 3 (.op 4 (.op 5 (.op 6 (.op 7 (.op 8 (.op 9 (.op 10 .nil))))))))))),[])|15=>([4,5],(.op 0 (.op 1 (.op 2 (.op 3 (.op 4 (.op 5 (.op 6 .nil))))))),[(4,5)])|_=>([],.nil,[])
theorem aUP {p:aG} (hp:p.ok) (hps:p.s<=4194304) (f:Int) (hf:0<=f/\f<p.aK.length) (args:List Int) (ha:dW args) (bTX:args.length<=12) (hl:∀ F,p.aK[f.toNat]?=some F->(args.length:Int)=F.aW) :
  fE Tryz.prog 29 [.agg p.c,I f,ints args] (.gU [.agg (oZ p f args).1.c,I (oZ p f args).2]):=by
 have hif:=a4B p f hps
 obtain⟨F,ef,hF1,hF2,hF3,hF4⟩:=vK hp hf
 have hla:=hl F ef
 rw[if_pos hp,if_pos aA]at hif
 simp only[aG.aZ]at hif ⊢
 have han:=pJ args F.aW
 rw[decide_eq_true (show(args.length:Int)=F.aW/\dW args from⟨hla,ha⟩)]at han
 refine lS 87 a46 bM6 bM7 Tryz.func29 λh=>?_
 simp -dsimp -implicitDefEqProofs only[go_sem,↓reduceIte,Tryz.f29,ef,aX.aZ]
 intro n6 z6
 try simp -dsimp -implicitDefEqProofs only[go_sem,↓reduceIte,Tryz.f29,ef,aX.aZ]
 first|refine aH.mk (hif) ?_|refine aF.mk (hif) ?_|refine aH.bI (hif) ?_|refine aF.mk (bC.dI (hif)) ?_
 simp -dsimp -implicitDefEqProofs only[go_sem,↓reduceIte,Tryz.f29,ef,aX.aZ]
 refine⟨hf.1,hf.2,?_⟩
 first|refine aH.mk (han) ?_|refine aF.mk (han) ?_|refine aH.bI (han) ?_|refine aF.mk (bC.dI (han)) ?_
 simp -dsimp -implicitDefEqProofs only[go_sem,↓reduceIte,Tryz.f29,ef,aX.aZ]
 refine⟨hf.1,hf.2,λnb ⟨hb6,zb⟩=>⟨bD,λ_=>?_⟩⟩
 obtain⟨a9I,aYN,aYO,bQK⟩:=cW (show ¬nb=n6 from hb6)
 generalize hh6:aU h n6 (.row 4 [[.v (.int .i64 0),.v .bS,.v .bS,.v .bS]])=h6
 have zb6:h6 nb=none:=by rw[←hh6,aC _ _ _ _ a9I];exact zb
 have hin:=aUO (h0:=h6) p F.aW zb6
 refine cM a46 bM6 bM7 (λx:Nat×aB×Option Nat=>[(1,I f),(3,.ip 1 [[gF 3 aX.c p.aK]] 0 0),(6,.op n6 4 0 0),(9,.op nb 8 0 0),(10,fT 1 x.1 x.2.2),(44,ints args),(45,I args.length),(46,I x.1)]) (λx=>cP x.2.1 (.row 1 (((aOQ x.1).map λn=>[I n]).map (List.map .v))) x.2.2) (λx=>x.1<=args.length/\jH h6 nb p F.aW (aGQ args x.1) 0 0 x.2.1/\eM x.2.1 (aOQ x.1) x.2.2) (λx=>args.length-x.1) (0,aU h6 nb (c7 p F.aW ⟨[],[],[]⟩ none none none 0 0),none) ⟨by simp[cR,b6,fT],aB.le_refl _,eF _,hin,rfl⟩ ?_
 rintro⟨k,g,o⟩ ⟨hk,hR,hos⟩
 simp only at hk hR hos ⊢
 have hel:(aOQ k).length=k:=by simp[aOQ]
 rcases bT k args.length with hlt|hge
 ·have ek:args[k]?=some args[k]:=eY hlt
  have hsl:(aGQ args k).code.length=(aGQ args k).fR.length:=by simp[aGQ];omega
  have hvl:(aGQ args k).fR.length=k:=by simp[aGQ];omega
  have hy:=a03 k
  cases o with
  |none =>
   rw[aY]at hos
   have k0:k=0:=by rw[←hel,hos];rfl
   subst k0
   simp -dsimp -implicitDefEqProofs only[go_sem,↓reduceIte,Tryz.f29,bE,aL,hlt,ek]
   refine aH.gV (aJN hR ⟨1,0,0,((0:Nat):Int)⟩ args[0] hsl aA) ?_
   rintro r h' ⟨rfl,hR2⟩
   simp -dsimp -implicitDefEqProofs only[go_sem,↓reduceIte,Tryz.f29]
   refine⟨bD,bD,bD,λb wH=>⟨(1,h',some b),⟨rfl,by rw[IntWalk.i64_in _ aA];rfl⟩,?_,⟨hlt,by rw[aMI hlt];exact hR2,wH⟩,by simp only;omega⟩⟩
   rw[hvl]
   exact aB.le_refl _
  |some m =>
   rw[aQ]at hos
   simp -dsimp -implicitDefEqProofs only[go_sem,↓reduceIte,Tryz.f29,aR,aJ,hlt,ek]
   refine aH.gV (aJN (hR.aSA hos) ⟨1,0,0,(k:Int)⟩ args[k] hsl aA) ?_
   rintro r h' ⟨rfl,hR2⟩
   obtain⟨g2,rfl,hg2,hR2⟩:=hR2.base (hR.none hos)
   simp -dsimp -implicitDefEqProofs only[go_sem,↓reduceIte,Tryz.f29]
   refine⟨bD,bD,bD,Nat.le_of_eq hel.symm,by omega,by omega,λb ⟨hbm,wH⟩=>⟨(k+1,g2,some b),⟨rfl,by rw[IntWalk.i64_in _ aA];rfl⟩,?_,⟨hlt,by rw[aMI hlt];exact hR2,wH⟩,by simp only;omega⟩⟩
   simp only[aJ]
   rw[hvl,hy,←dZ (λn=>I n),hel]
   exact jC hg2
 ·have hk':k=args.length:=by omega
  subst hk'
  rw[a45]at hR
  have hg0:=aJK args ha bTX
  rw[hla]at hg0
  have hie:aOQ args.length=inE args:=rfl
  have hall:∀ {h0 g:aB},jH h0 nb p F.aW (inS args) 0 0 g->iV Tryz.prog 101 [.op nb 8 0 0,gF 5 aD.c F.aS,ints (inE args)] g (bDU h0 nb p F.aW 0 0 F.aS.length (rI (λt e S=>fD p 3001 t e (inE args) S) F.aS 0 (inS args))):=λhR =>
   s8 hp (reg hp 3001) _ _ nb 0 0 F.aS (inE args) (inS args) f hR aA aA aA (λx hx=>by rw[←hie,hel,hla];exact hF4 x hx) hf.1 aA (λ_=>⟨hg0,aUM args⟩) (by rw[←hie,hel];omega)
  cases o with
  |none =>
   rw[aY,hie]at hos
   simp -dsimp -implicitDefEqProofs only[go_sem,↓reduceIte,Tryz.f29,bE,aL,bU,cT,ef,aX.aZ]
   refine⟨hf.1,hf.2,aH.gV (iV.sub (.cons (.refl _) (.cons (.refl _) (.cons (by rw[hos];exact Sub.loose _ _ _) .nil))) (hall hR)) ?_⟩
   rintro r h2 ⟨l,S2,t2,c2,rfl,⟨om,og,ov,H2⟩,hll,a1,a2,a3⟩
   have wH:=H2.box
   unfold c7 at wH
   have hz:=H2.keep (n:=n6) (by rw[←hh6,aI])
   have hz1:=hz.1
   simp -dsimp -implicitDefEqProofs only[go_sem,↓reduceIte,Tryz.f29,wH,hz1,aYN,aYO,aC]
   generalize hE:h2=h2H at *
   have hle:h.le h2H:=by
    have h1:=H2.le
    rw[←hh6]at h1
    intro q
    by_cases e:q=n6
    ·subst e;exact .inl z6
    ·have:=h1 q
     rwa [aC _ _ _ _ e]at this
   have hfr:∀ n,some n=om∨some n=og->h n=none/\¬n=n6/\¬n=nb:=λn hn=>by
    have h1:=H2.fresh n bB5
    have h3:¬n=n6:=λe=>by rw[←hh6,e,aI]at h1;cases h1
    refine⟨by rwa [←hh6,aC _ _ _ _ h3]at h1,h3,λe=>?_⟩
    rcases hn with hn|hn
    ·exact((H2.apart n).1 e).1 hn
    ·exact((H2.apart n).1 e).2.1 hn
   refine⟨λhc=>?_,λhc=>⟨by rw[oA,oA];rfl,?_⟩⟩
   ·have e2:oZ p f args=(⟨0,[],[],[]⟩,c2):=by
     rw[eV]at a3
     rw[oZ,oE,hF3,a3.err hc]
    rw[e2]
    exact Shift.of (Sub.gU (.cons (Sub.agg (.cons (.refl _) (.cons (Sub.nil 4 false) (.cons (Sub.nil 2 false) (.cons (Sub.nil 1 false) .nil))))) (.cons (.refl _) .nil))) (aB.bM z6 (aB.bM zb (hle)))
   ·obtain⟨_,e1⟩:=a3.ok hc
    have e2:oZ p f args=(⟨args.length,S2.code,S2.guards,l⟩,0):=by
     rw[oZ,oE,hF3,e1]
    rw[e2,iM.aZ,hla]
    refine H2.seal l 0 (λn hn=>?_) (aB.bM z6 (aB.bM zb (hle))) (λn hn=>(hfr n hn).1)
    obtain⟨v1,v2,v3⟩:=hfr n hn
    rw[aC _ _ _ _ v2,aC _ _ _ _ v3]
  |some m =>
   rw[aQ]at hos
   simp -dsimp -implicitDefEqProofs only[go_sem,↓reduceIte,Tryz.f29,aR,aJ,bU,cT,ef,aX.aZ]
   obtain⟨qA,kN,kO,uM⟩:=cW (show ¬nb=m from λe=>by obtain⟨_,_,_,H1⟩:=hR;have:=H1.box;rw[e,hos]at this;cases this)
   refine⟨hf.1,hf.2,aH.a4P rfl rfl qA (by rw[gT];exact hel.symm) hos ?_⟩
   refine iV.mono (hall (hR.aSA (o:=.gone) hos)) ?_
   rintro r h2 ⟨l,S2,t2,c2,rfl,hR2,hll,a1,a2,a3⟩
   obtain⟨g3,rfl,hg3,⟨om,og,ov,H2⟩⟩:=hR2.base (hR.none hos)
   have wH:=H2.box
   unfold c7 at wH
   have hz:=H2.keep (n:=n6) (by rw[←hh6,aI])
   have hz1:=hz.1
   obtain⟨bGV,bGW,bGX,bTZ⟩:=cW (show ¬n6=m from λe=>by rw[e,hg3]at hz1;cases hz1)
   simp -dsimp -implicitDefEqProofs only[go_sem,↓reduceIte,Tryz.f29,wH,hz1,aYN,kN,aYO,bGW,kO,bGX,aC]
   have hgo:∀ n,some n=om∨some n=og->¬n=m:=λn hn e=>by
    have:=(H2.apart n).2.2.2 (by rw[e];exact hg3)
    rcases hn with hn|hn
    ·exact this.2.1 hn
    ·exact this.2.2.1 hn
   have hhm:h m=none:=by
    have h1:=hR.none hos
    rw[←hh6,aC _ _ _ _ (λe=>bGV e.symm)]at h1
    exact h1
   generalize hE:g3=h2H at *
   have hle:h.le h2H:=by
    have h1:=H2.le
    rw[←hh6]at h1
    intro q
    by_cases e:q=n6
    ·subst e;exact .inl z6
    ·have:=h1 q
     rwa [aC _ _ _ _ e]at this
   have hfr:∀ n,some n=om∨some n=og->h n=none/\¬n=n6/\¬n=nb:=λn hn=>by
    have h1:=H2.fresh n bB5
    have h3:¬n=n6:=λe=>by rw[←hh6,e,aI]at h1;cases h1
    refine⟨by rwa [←hh6,aC _ _ _ _ h3]at h1,h3,λe=>?_⟩
    rcases hn with hn|hn
    ·exact((H2.apart n).1 e).1 hn
    ·exact((H2.apart n).1 e).2.1 hn
   refine⟨λhc=>?_,λhc=>⟨by rw[oA,oA];rfl,?_⟩⟩
   ·have e2:oZ p f args=(⟨0,[],[],[]⟩,c2):=by
     rw[eV]at a3
     rw[oZ,oE,hF3,a3.err hc]
    rw[e2]
    exact Shift.of (Sub.gU (.cons (Sub.agg (.cons (.refl _) (.cons (Sub.nil 4 false) (.cons (Sub.nil 2 false) (.cons (Sub.nil 1 false) .nil))))) (.cons (.refl _) .nil))) (aB.bM z6 (aB.bM zb (aB.bM hhm hle)))
   ·obtain⟨_,e1⟩:=a3.ok hc
    have e2:oZ p f args=(⟨args.length,S2.code,S2.guards,l⟩,0):=by
     rw[oZ,oE,hF3,e1]
    rw[e2,iM.aZ,hla]
    refine H2.seal l 0 (λn hn=>?_) (aB.bM z6 (aB.bM zb (aB.bM hhm hle))) (λn hn=>(hfr n hn).1)
    obtain⟨v1,v2,v3⟩:=hfr n hn
    rw[aC _ _ _ _ v2,aC _ _ _ _ v3,aC _ _ _ _ (hgo n hn)]
end Go.Hl

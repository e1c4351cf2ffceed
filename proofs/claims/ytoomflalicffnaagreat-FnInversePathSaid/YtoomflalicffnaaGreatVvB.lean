/-
  Contracts of functions and laws of the layer over the walk.
-/
import Derived.Test.YtoomflalicffnaaGreatVvA
import Derived.Test.YtoomflalicffnaaGreatHlD
namespace Go.Hl
open Go.Proofs
set_option linter.unusedVariables false
set_option linter.unusedSimpArgs false
def aW (n:Nat) (s:List Int):Prop:=s.length=n/\eI s
def eJ (a:List Int) (n:Int):List Int:=a.map λx=>x*n%1000003
def kD (a b:List Int):List Int:=iA a (eJ b 1000002)
def yY (a b:List Int) (k:Nat):Nat->Int
 |0=>0
 |i+1=>(yY a b k i+a.getD i 0*b.getD (k-i) 0)%1000003
def mulL (a b:List Int):List Int:=(List.range a.length).map λk=>yY a b k (k+1)
def pwN (b:Int) (n:Nat):Int:=b ^ n%1000003
def gJ (x:Int):Int:=pwN (x%1000003) 1000001
def dvS (o b:List Int) (k:Nat) (r:Int):Nat->Int
 |0=>r
 |i+1=>(dvS o b k r i-o.getD i 0*b.getD (k-i) 0)%1000003
def jV (a b:List Int):Nat->List Int
 |0=>[]
 |k+1=>jV a b k++[dvS (jV a b k) b k (a.getD k 0) k*gJ (b.getD 0 0)%1000003]
def gG (a b:List Int):List Int:=jV a b a.length
def bX (n:Int) (sz:Nat):List Int:=(List.replicate sz 0).set 0 n
def dE:aC:=.mk 0 0 0 0 []
def aC.oE (e:aC) (i:Nat):aC:=e.aN.getD i dE
def aF.outs (p:aF) (f:Int):List aC:=((p.aK[f.toNat]?).map (·.aU)).getD []
def aF.out (p:aF) (f i:Int):aC:=(p.outs f).getD i.toNat dE
abbrev Out (α:Type):=Except Int (α×Nat)
def Out.andThen {α β:Type} (x:Out α) (f:α->Nat->Out β):Out β:=match x with
 | .ok (a,t)=>f a t
 | .error c=>.error c
def l3 (ev:Nat->aC->Out (List Int)):List aC->Nat->Out (List (List Int))
 | [],t=>.ok ([],t)
 |e::l,t=>(ev t e).andThen λv t=>(l3 ev l t).andThen λvs t=>.ok (v::vs,t)
def qM (f:List (List Int)->Nat->Out (List (List Int))):Nat->List (List Int)->Nat->Out (List (List Int))
 |0,vs,t=>.ok (vs,t)
 |n+1,vs,t=>(f vs t).andThen λvs t=>qM f n vs t
def opE (k:Int) (vs:List (List Int)) (t:Nat):Out (List Int) :=
 if k=3 then .ok (iA (vs.getD 0 []) (vs.getD 1 []),t)
 else if k=4 then .ok (kD (vs.getD 0 []) (vs.getD 1 []),t)
 else if k=5 then .ok (mulL (vs.getD 0 []) (vs.getD 1 []),t)
 else if k=7 then .ok (eJ (vs.getD 0 []) 1000002,t)
 else if (vs.getD 1 []).getD 0 0=0 then .error 6
 else .ok (gG (vs.getD 0 []) (vs.getD 1 []),t)
def iZ (p:aF) (sz:Nat):Nat->Nat->aC->List (List Int)->Out (List Int)
 |0,_,_,_=>.error 7
 |n+1,t,e,env =>
  if t=3000 then .error 7
  else if e.aS=1 then .ok (bX e.bA sz,t+1)
  else if e.aS=2 then .ok (env.getD e.bA.toNat [],t+1)
  else if e.aS=8 then(iZ p sz n (t+1) (e.oE 0) env).andThen λc t=>if c.getD 0 0=0 then iZ p sz n t (e.oE 1) env else iZ p sz n t (e.oE 2) env
  else if e.aS=9 then(iZ p sz n (t+1) (e.oE 0) env).andThen λv t=>iZ p sz n t (e.oE 1) (env++[v])
  else(l3 (λt e=>iZ p sz n t e env) e.aN (t+1)).andThen λvs t =>
   if e.aS=10 then iZ p sz n t (p.out e.bA e.cV) vs
   else if e.aS=11 then(qM (λvs t=>l3 (λt e=>iZ p sz n t e vs) (p.outs e.bA) t) e.cH.toNat vs t).andThen λvs t=>.ok (vs.getD e.cV.toNat [],t)
   else opE e.aS vs t
def jN {α:Type} (X:Out α) (v:α) (t:Nat) (c:Int):Prop:=match X with
 | .ok (w,u)=>c=0/\v=w/\t=u
 | .error d=>c=d/\d≠0
def pL {α:Type} (c:Int) (X:Out α):Out α:=if c=0 then X else .error c
theorem cZ {α:Type} (X:Out α):pL 0 X=X:=if_pos rfl
theorem sJ {α:Type} {c:Int} (X:Out α) (h:¬c=0):pL c X=.error c:=if_neg h
theorem lB {α:Type} {c:Int} (v:α) (t:Nat) (h:¬c=0):jN (.error c:Out α) v t c:=⟨rfl,h⟩
theorem lR {α:Type} (v:α) (t:Nat):jN (.ok (v,t):Out α) v t 0:=⟨rfl,rfl,rfl⟩
theorem gW {α:Type} (v:α) (t:Nat) (c:Int):jN (pL c (.ok (v,t))) v t c:=by
 by_cases e:c=0
 ·subst e;rw[cZ];exact lR v t
 ·rw[sJ _ e];exact lB v t e
theorem jN.then {α β:Type} {X:Out α} {F:α->Nat->Out β} {v:α} {t:Nat} {c:Int} {v2:β} {t2:Nat} {c2:Int} (h:jN X v t c) (h2:jN (pL c (F v t)) v2 t2 c2):jN (X.andThen F) v2 t2 c2:=by
 cases X with
 |ok p =>
  obtain⟨w,u⟩:=p
  obtain⟨rfl,rfl,rfl⟩:=h
  rw[cZ]at h2
  exact h2
 |error d =>
  obtain⟨rfl,h⟩:=h
  rw[sJ _ h]at h2
  exact h2
theorem jN.err {α:Type} {X:Out α} {v:α} {t:Nat} {c:Int} (h:jN X v t c) (hc:¬c=0):X=.error c:=by
 cases X with
 |ok p=>exact absurd h.1 hc
 |error d=>rw[h.1]
theorem jN.dU {α β:Type} {c0:Int} {X:Out α} {F:α->Nat->Out β} {v:α} {t:Nat} {c:Int} {v2:β} {t2:Nat} {c2:Int} (h:jN (pL c0 X) v t c) (h2:jN (pL c (F v t)) v2 t2 c2):jN (pL c0 (X.andThen F)) v2 t2 c2:=by
 by_cases e:c0=0
 ·subst e
  rw[cZ]at h ⊢
  exact h.then h2
 ·rw[sJ _ e]at h ⊢
  obtain⟨rfl,h⟩:=h
  rw[sJ _ h]at h2
  exact h2
theorem jN.bOY {α:Type} {c0:Int} {X:Out α} {v:α} {t:Nat} {c:Int} (h:jN (pL c0 X) v t c) (hc:c=0):c0=0:=by
 by_cases e:c0=0
 ·exact e
 ·rw[sJ _ e]at h
  exact h.1.symm.trans hc
theorem Out.nF {α β γ:Type} (x:Out α) (f:α->Nat->Out β) (g:β->Nat->Out γ):(x.andThen f).andThen g=x.andThen λa t=>(f a t).andThen g:=by
 cases x <;> rfl
theorem Out.andThen_ok {α β:Type} (a:α) (t:Nat) (f:α->Nat->Out β):Out.andThen (.ok (a,t)) f=f a t:=rfl
theorem xN (ev:Nat->aC->Out (List Int)) (e:aC):∀ (l:List aC) (t:Nat),l3 ev (l++[e]) t=(l3 ev l t).andThen λvs t=>(ev t e).andThen λv t=>.ok (vs++[v],t)
 | [],t=>rfl
 |x::l,t=>by
  simp only[aU9,l3,xN ev e l,Out.nF,Out.andThen_ok]
theorem yZ (f:List (List Int)->Nat->Out (List (List Int))):∀ (n:Nat) (vs:List (List Int)) (t:Nat),qM f (n+1) vs t=(qM f n vs t).andThen f
 |0,vs,t=>by
  show(f vs t).andThen (λvs t=>.ok (vs,t))=f vs t
  cases f vs t with
  |ok p=>rfl
  |error c=>rfl
 |n+1,vs,t=>by
  show(f vs t).andThen (λvs t=>qM f (n+1) vs t)=((f vs t).andThen λvs t=>qM f n vs t).andThen f
  rw[Out.nF]
  congr 1
  funext a t
  exact yZ f n a t
theorem aNJ {f:List (List Int)->Nat->Out (List (List Int))} {vs:List (List Int)} {t:Nat} {c:Int}:∀ (n k:Nat),k<=n->qM f k vs t=.error c->qM f n vs t=.error c
 |0,k,hk,h=>by
  have:k=0:=by omega
  subst this;exact h
 |n+1,k,hk,h=>by
  rcases bT k (n+1)with hlt|hge
  ·rw[yZ,aNJ n k aA h];rfl
  ·have:k=n+1:=by omega
   subst this;exact h
theorem dY (n:Int):iE (n%1000003):=by unfold iE;omega
theorem aW.len {n:Nat} {s:List Int} (h:aW n s):s.length=n:=h.1
theorem lL {n:Nat} {a b:List Int} (ha:aW n a) (hb:aW n b):aW n (iA a b):=by
 refine⟨by simp[iA,ha.1,hb.1],λx hx=>?_⟩
 obtain⟨i,hi,rfl⟩:=aCE.1 hx
 simp only[iA,List.getElem_zipWith]
 exact dY _
theorem dM {n:Nat} {a:List Int} (k:Int) (ha:aW n a):aW n (eJ a k):=by
 refine⟨by simp[eJ,ha.1],λx hx=>?_⟩
 obtain⟨y,_,rfl⟩:=lZ.1 hx
 exact dY _
theorem jO {n:Nat} {a b:List Int} (ha:aW n a) (hb:aW n b):aW n (kD a b):=lL ha (dM _ hb)
theorem a54 (a b:List Int) (k:Nat):∀ i,iE (yY a b k i)
 |0=>by unfold yY iE;omega
 |i+1=>dY _
theorem cF {n:Nat} {a:List Int} (b:List Int) (ha:aW n a):aW n (mulL a b):=by
 refine⟨by simp[mulL,ha.1],λx hx=>?_⟩
 obtain⟨k,_,rfl⟩:=lZ.1 hx
 exact a54 _ _ _ _
theorem pS (a b:List Int):∀ k,(jV a b k).length=k
 |0=>rfl
 |k+1=>by rw[jV,nT,pS a b k];rfl
theorem u6 (a b:List Int):∀ k,eI (jV a b k)
 |0=>λx hx=>by cases hx
 |k+1=>λx hx=>by
  rw[jV,nY,iO]at hx
  rcases hx with hx|rfl
  ·exact u6 a b k x hx
  ·exact dY _
theorem k8 {n:Nat} {a:List Int} (b:List Int) (ha:aW n a):aW n (gG a b):=⟨by rw[gG,pS,ha.1],u6 _ _ _⟩
theorem cS {n:Int} {sz:Nat} (h:iE n):aW sz (bX n sz):=by
 refine⟨by simp[bX],λx hx=>?_⟩
 rw[bX]at hx
 rcases s6 hx with hx|rfl
 ·have:=(aGW.1 hx).2
  subst this;unfold iE;omega
 ·exact h
theorem eI.get {l:List Int} (h:eI l) (i:Nat):iE (l.getD i 0):=by
 rw[e8]
 rcases bT i l.length with hi|hi
 ·rw[fC hi];exact h _ (lF hi)
 ·rw[aJE hi];unfold iE;simp
def hR (s s':List Int):Prop:=(s=[]/\s'=[])∨∃ x a b,s=x::a/\s'=x::b
theorem bH2:hR [] []:=.inl ⟨rfl,rfl⟩
theorem hR.hd {s s':List Int} (h:hR s s'):s.getD 0 0=s'.getD 0 0:=by
 rcases h with⟨rfl,rfl⟩|⟨x,a,b,rfl,rfl⟩ <;> rfl
theorem a55 {a a' b b':List Int} (ha:hR a a') (hb:hR b b'):hR (iA a b) (iA a' b'):=by
 rcases ha with⟨rfl,rfl⟩|⟨x,a,a',rfl,rfl⟩
 ·exact .inl ⟨rfl,rfl⟩
 ·rcases hb with⟨rfl,rfl⟩|⟨y,b,b',rfl,rfl⟩
  ·exact .inl ⟨rfl,rfl⟩
  ·exact .inr ⟨_,_,_,rfl,rfl⟩
theorem a56 {a a':List Int} (n:Int) (ha:hR a a'):hR (eJ a n) (eJ a' n):=by
 rcases ha with⟨rfl,rfl⟩|⟨x,a,a',rfl,rfl⟩
 ·exact .inl ⟨rfl,rfl⟩
 ·exact .inr ⟨_,_,_,rfl,rfl⟩
theorem bH3 {a a' b b':List Int} (ha:hR a a') (hb:hR b b'):hR (kD a b) (kD a' b'):=a55 ha (a56 _ hb)
theorem aBT (x:Int) (a b:List Int):∃ t,mulL (x::a) b=(x*b.getD 0 0)%1000003::t:=by
 refine⟨((List.range a.length).map Nat.succ).map λk=>yY (x::a) b k (k+1),?_⟩
 rw[mulL,aB9,List.range_succ_eq_map,qR]
 congr 1
 simp[yY]
theorem bH4 {a a' b b':List Int} (ha:hR a a') (hb:hR b b'):hR (mulL a b) (mulL a' b'):=by
 rcases ha with⟨rfl,rfl⟩|⟨x,a,a',rfl,rfl⟩
 ·exact .inl ⟨rfl,rfl⟩
 ·obtain⟨t,h⟩:=aBT x a b
  obtain⟨t',h'⟩:=aBT x a' b'
  rw[h,h',hb.hd]
  exact .inr ⟨_,_,_,rfl,rfl⟩
theorem xO (x:Int) (a b:List Int):∀ k,∃ t,jV (x::a) b (k+1)=x*gJ (b.getD 0 0)%1000003::t
 |0=>⟨[],rfl⟩
 |k+1=>by
  obtain⟨t,h⟩:=xO x a b k
  rw[jV,h]
  exact⟨_,rfl⟩
theorem bH5 {a a' b b':List Int} (ha:hR a a') (hb:hR b b'):hR (gG a b) (gG a' b'):=by
 rcases ha with⟨rfl,rfl⟩|⟨x,a,a',rfl,rfl⟩
 ·exact .inl ⟨rfl,rfl⟩
 ·obtain⟨t,h⟩:=xO x a b a.length
  obtain⟨t',h'⟩:=xO x a' b' a'.length
  rw[gG,gG,aB9,aB9,h,h',hb.hd]
  exact .inr ⟨_,_,_,rfl,rfl⟩
theorem a57 (n:Int) (sz sz':Nat):hR (bX n (sz+1)) (bX n (sz'+1)):=by
 rw[bX,bX,aJC,aJC]
 exact .inr ⟨_,_,_,rfl,rfl⟩
def eR:List (List Int)->List (List Int)->Prop
 | [],[]=>True
 |s::l,s'::l'=>hR s s'/\eR l l'
 | _,_=>False
theorem eR.get:∀ {l l':List (List Int)},eR l l'->∀ i,hR (l.getD i []) (l'.getD i [])
 | [],[],_,i=>by simp[bH2]
 |s::l,s'::l',h,0=>h.1
 |s::l,s'::l',h,i+1=>by simpa using eR.get h.2 i
 | [],_::_,h,_=>h.elim
 | _::_,[],h,_=>h.elim
theorem eR.len:∀ {l l':List (List Int)},eR l l'->l.length=l'.length
 | [],[],_=>rfl
 |s::l,s'::l',h=>by simp[eR.len h.2]
 | [],_::_,h=>h.elim
 | _::_,[],h=>h.elim
theorem eR.snoc {s s':List Int} (h:hR s s'):∀ {l l':List (List Int)},eR l l'->eR (l++[s]) (l'++[s'])
 | [],[],_=>⟨h,trivial⟩
 |x::l,x'::l',k=>⟨k.1,eR.snoc h k.2⟩
 | [],_::_,k=>k.elim
 | _::_,[],k=>k.elim
def oR {α:Type} (R:α->α->Prop) (X Y:Out α):Prop:=match X,Y with
 | .ok (v,t),.ok (v',t')=>R v v'/\t=t'
 | .error c,.error c'=>c=c'
 | _,_=>False
theorem oR.bind {α β:Type} {R:α->α->Prop} {S:β->β->Prop} {X Y:Out α} {F G:α->Nat->Out β} (h:oR R X Y) (hf:∀ v v' t,R v v'->oR S (F v t) (G v' t)):oR S (X.andThen F) (Y.andThen G):=by
 cases X with
 |ok p =>
  cases Y with
  |ok q =>
   obtain⟨v,t⟩:=p
   obtain⟨v',t'⟩:=q
   obtain⟨h1,rfl⟩:=h
   exact hf _ _ _ h1
  |error c=>exact h.elim
 |error c =>
  cases Y with
  |ok q=>exact h.elim
  |error d=>exact h
theorem oR.pure {α:Type} {R:α->α->Prop} {v v':α} {t:Nat} (h:R v v'):oR R (.ok (v,t)) (.ok (v',t)):=⟨h,rfl⟩
theorem aBU {ev ev':Nat->aC->Out (List Int)} (h:∀ t e,oR hR (ev t e) (ev' t e)):∀ (l:List aC) (t:Nat),oR eR (l3 ev l t) (l3 ev' l t)
 | [],t=>⟨trivial,rfl⟩
 |e::l,t=>(h t e).bind λv v' t hv=>(aBU h l t).bind λvs vs' t hvs=>oR.pure ⟨hv,hvs⟩
theorem aK0 {f g:List (List Int)->Nat->Out (List (List Int))} (h:∀ vs vs' t,eR vs vs'->oR eR (f vs t) (g vs' t)):∀ (n:Nat) (vs vs':List (List Int)) (t:Nat),eR vs vs'->oR eR (qM f n vs t) (qM g n vs' t)
 |0,vs,vs',t,hv=>⟨hv,rfl⟩
 |n+1,vs,vs',t,hv=>(h vs vs' t hv).bind λa a' t ha=>aK0 h n a a' t ha
theorem a58 (k:Int) {vs vs':List (List Int)} (t:Nat) (h:eR vs vs'):oR hR (opE k vs t) (opE k vs' t):=by
 have h0:=h.get 0
 have h1:=h.get 1
 unfold opE
 split
 ·exact oR.pure (a55 h0 h1)
 split
 ·exact oR.pure (bH3 h0 h1)
 split
 ·exact oR.pure (bH4 h0 h1)
 split
 ·exact oR.pure (a56 _ h0)
 rw[h1.hd]
 split
 ·exact rfl
 ·exact oR.pure (bH5 h0 h1)
theorem aTB (p:aF) (sz sz':Nat):∀ (n t:Nat) (e:aC) (env env':List (List Int)),eR env env'->oR hR (iZ p (sz+1) n t e env) (iZ p (sz'+1) n t e env')
 |0,t,e,env,env',h=>rfl
 |n+1,t,e,env,env',h=>by
  have ih:=aTB p sz sz' n
  rw[iZ,iZ]
  split
  ·exact rfl
  split
  ·exact oR.pure (a57 _ _ _)
  split
  ·exact oR.pure (h.get _)
  split
  ·refine(ih _ _ _ _ h).bind λc c' t hc=>?_
   rw[hc.hd]
   split
   ·exact ih _ _ _ _ h
   ·exact ih _ _ _ _ h
  split
  ·exact(ih _ _ _ _ h).bind λv v' t hv=>ih _ _ _ _ (eR.snoc hv h)
  refine(aBU (λt e=>ih t e _ _ h) _ _).bind λvs vs' t hv=>?_
  split
  ·exact ih _ _ _ _ hv
  split
  ·refine(aK0 (f:=λvs t=>l3 (λt e=>iZ p (sz+1) n t e vs) (p.outs e.bA) t) (g:=λvs t=>l3 (λt e=>iZ p (sz'+1) n t e vs) (p.outs e.bA) t) (λa a' u ha=>aBU (λu x=>ih u x a a' ha) (p.outs e.bA) u) e.cH.toNat vs vs' t hv).bind λa a' u ha=>?_
   exact oR.pure (ha.get _)
  ·exact a58 _ _ hv
def xP (p:aF) (sz:Nat) (f:Int) (args:List (List Int)):Out (List (List Int)):=l3 (λt e=>iZ p sz 3001 t e args) (p.outs f) 0
theorem aTC (p:aF) (sz sz':Nat) (f:Int) (args args':List (List Int)) (h:eR args args'):oR eR (xP p (sz+1) f args) (xP p (sz'+1) f args') :=
 aBU (λt e=>aTB p sz sz' _ t e _ _ h) _ _
theorem a59 (b:Int):∀ n:Nat,(b%1000003) ^ n%1000003=b ^ n%1000003
 |0=>by rw[aJH,aJH]
 |n+1=>by
  rw[aJI,aJI,aCF,a59 b n,aXC _ (Int.dvd_refl _),←aCF]
theorem aZG (x b:Int) (n:Nat):x*b ^ n%1000003=(if n%2=1 then x*b%1000003 else x)*(b*b%1000003) ^ (n / 2)%1000003:=by
 have h2:b ^ n=(b*b) ^ (n / 2)*b ^ (n%2):=by
  rw[show b*b=b ^ 2 by rw[aJI,aJI,aJH,aCG],←Int.pow_mul,←Int.pow_add]
  congr 1;omega
 have h3:∀ y:Int,y*(b*b%1000003) ^ (n / 2)%1000003=y*(b*b) ^ (n / 2)%1000003:=λy=>by
  rw[aCF,a59,←aCF]
 rw[h3,h2]
 split
 ·rename_i h
  rw[h,aJI,aJH,aCG,aCF (x*b%1000003),aXC _ (Int.dvd_refl _),←aCF]
  congr 1
  rw[aJJ ((b*b) ^ (n / 2)) b,aXD]
 ·rename_i h
  have:n%2=0:=by omega
  rw[this,aJH,Int.mul_one]
theorem aZH (x b:Int) (hx:0<=x/\x<1000003):x*b ^ 0%1000003=x:=by
 rw[aJH,Int.mul_one];omega
theorem a6A {x b m T:Int} (hm:0<=m) (h:m%2=1) (hp:x*b ^ m.toNat%1000003=T):(x*b%1000003)*(b*b%1000003) ^ (m / 2).toNat%1000003=T:=by
 rw[←hp,aZG x b m.toNat,if_pos aA,show(m / 2).toNat=m.toNat / 2 by omega]
theorem aZI {x b m T:Int} (hm:0<=m) (h:¬m%2=1) (hp:x*b ^ m.toNat%1000003=T):x*(b*b%1000003) ^ (m / 2).toNat%1000003=T:=by
 rw[←hp,aZG x b m.toNat,if_neg aA,show(m / 2).toNat=m.toNat / 2 by omega]
theorem aTD (y:Int):0<=y%1000003/\y%1000003<1000003:=by omega
theorem bW {l:List Int} {i:Nat} (h:i<l.length):l[i]?=some (l.getD i 0):=by
 rw[e8,fC h];rfl
theorem num_inv (x:Int):iE (gJ x):=dY _
theorem y3 (o b:List Int) (k:Nat) {r:Int} (hr:iE r):∀ i,iE (dvS o b k r i)
 |0=>hr
 |i+1=>dY _
theorem uM (a b:List Int) {k:Nat}:∀ n,k<=n->(jV a b n).take k=jV a b k
 |0,h=>by
  have:k=0:=by omega
  subst this;rfl
 |n+1,h=>by
  rcases bT k (n+1)with h1|h1
  ·rw[jV,List.take_append_of_le_length (by rw[pS];omega),uM a b n aA]
  ·have:k=n+1:=by omega
   subst this
   rw[hJ (by rw[pS];omega)]
theorem pT (a b:List Int):(gG a b).length=a.length:=pS _ _ _
theorem bA7 (a b:List Int) {k:Nat} (hk:k<=a.length):upL (gG a b) k=jV a b k++List.replicate (a.length-k) 0:=by
 rw[upL,pT,gG,uM a b _ hk]
theorem aHH {a b:List Int} {k i:Nat} (hk:k<=a.length) (hi:i<k):(upL (gG a b) k)[i]?=some ((jV a b k).getD i 0):=by
 rw[bA7 a b hk,uP (by rw[pS];exact hi)]
 exact bW (by rw[pS];exact hi)
theorem aEX {a b:List Int} {k:Nat} (hk:k<a.length):(gG a b)[k]'(by rw[pT];exact hk)=dvS (jV a b k) b k (a.getD k 0) k*gJ (b.getD 0 0)%1000003:=by
 have h:=aHH (a:=a) (b:=b) (k:=k+1) (i:=k) aA aA
 have h2:(jV a b (k+1)).getD k 0=dvS (jV a b k) b k (a.getD k 0) k*gJ (b.getD 0 0)%1000003:=by
  rw[jV,e8,yD (by rw[pS];omega),pS,sP];rfl
 rw[h2,upL,uP (by rw[nU,pT];omega),aJA aA,fC (by rw[pT];exact hk)]at h
 exact gO h
theorem num_mul {x y:Int} (hx:iE x) (hy:iE y):0<=x*y/\x*y<=1000004000004:=by
 refine⟨Int.mul_nonneg hx.1 hy.1,?_⟩
 have:=Int.mul_le_mul hx.2 hy.2 hy.1 aA
 omega
theorem qV (a:List Int) (n:Int):(eJ a n).length=a.length:=by simp[eJ]
theorem aEY (a b:List Int):(mulL a b).length=a.length:=by simp[mulL]
theorem sM {l:List Int} (h:eI l):∀ x∈l,0<=x/\x<1000003:=λx hx=>by have:=h x hx;unfold iE at this;omega
theorem aVZ {n:Int} (h0:0<=n) (h1:n<=9223372036854775807):(IntKind.i64.wrap n).tmod 1000003=n%1000003:=by
 rw[IntWalk.i64_in _ aA,uR h0]
theorem a6B {c:List Int} {k:Nat} (hk:k<c.length):(upL c k).set k 0=upL c k:=by
 have h:=aIG hk
 apply List.ext_getElem?
 intro i
 rw[List.getElem?_set]
 split
 ·subst_vars
  split
  ·exact h.symm
  ·rename_i h2
   rw[aJE aA]
 ·rfl
theorem aTE {p:aF} {sz n st:Nat} {e:aC} {env:List (List Int)} (h3:¬st=3000) (hk:e.aS=1):iZ p sz (n+1) st e env=.ok (bX e.bA sz,st+1):=by rw[iZ,if_neg h3,if_pos hk]
theorem aTF {p:aF} {sz n st:Nat} {e:aC} {env:List (List Int)} (h3:¬st=3000) (hk:e.aS=2):iZ p sz (n+1) st e env=.ok (env.getD e.bA.toNat [],st+1):=by rw[iZ,if_neg h3,if_neg aA,if_pos hk]
theorem aK1 {p:aF} {sz n st:Nat} {e:aC} {env:List (List Int)} (h3:¬st=3000) (hk:e.aS=8):iZ p sz (n+1) st e env=(iZ p sz n (st+1) (e.oE 0) env).andThen λc t=>if c.getD 0 0=0 then iZ p sz n t (e.oE 1) env else iZ p sz n t (e.oE 2) env:=by rw[iZ,if_neg h3,if_neg aA,if_neg aA,if_pos hk]
theorem aTG {p:aF} {sz n st:Nat} {e:aC} {env:List (List Int)} (h3:¬st=3000) (hk:e.aS=9):iZ p sz (n+1) st e env=(iZ p sz n (st+1) (e.oE 0) env).andThen λv t=>iZ p sz n t (e.oE 1) (env++[v]):=by rw[iZ,if_neg h3,if_neg aA,if_neg aA,if_neg aA,if_pos hk]
theorem aGD {p:aF} {sz n st:Nat} {e:aC} {env:List (List Int)} (h3:¬st=3000) (hk:e.aS=10):iZ p sz (n+1) st e env=(l3 (λt e=>iZ p sz n t e env) e.aN (st+1)).andThen λvs t=>iZ p sz n t (p.out e.bA e.cV) vs:=by
 rw[iZ,if_neg h3,if_neg aA,if_neg aA,if_neg aA,if_neg aA];simp only[if_pos hk]
theorem aGE {p:aF} {sz n st:Nat} {e:aC} {env:List (List Int)} (h3:¬st=3000) (hk:e.aS=11):iZ p sz (n+1) st e env=(l3 (λt e=>iZ p sz n t e env) e.aN (st+1)).andThen λvs t=>(qM (λvs t=>l3 (λt e=>iZ p sz n t e vs) (p.outs e.bA) t) e.cH.toNat vs t).andThen λvs t=>.ok (vs.getD e.cV.toNat [],t):=by
 have h:¬e.aS=10:=by omega
 rw[iZ,if_neg h3,if_neg aA,if_neg aA,if_neg aA,if_neg aA];simp only[if_neg h,if_pos hk]
theorem pM {p:aF} {sz n st:Nat} {e:aC} {env:List (List Int)} (h3:¬st=3000) (hk:e.aS=3∨e.aS=4∨e.aS=5∨e.aS=6∨e.aS=7):iZ p sz (n+1) st e env=(l3 (λt e=>iZ p sz n t e env) e.aN (st+1)).andThen λvs t=>opE e.aS vs t:=by
 have h:¬e.aS=10:=by omega
 have h2:¬e.aS=11:=by omega
 rw[iZ,if_neg h3,if_neg aA,if_neg aA,if_neg aA,if_neg aA];simp only[if_neg h,if_neg h2]
theorem aC.iC {e:aC} {i:Nat} (h:i<e.aN.length):e.aN[i]?=some (e.oE i):=by
 rw[aC.oE,e8,fC h];rfl
theorem aC.aPH {e:aC} {i:Nat} (h:i<e.aN.length):e.oE i=e.aN[i]:=by
 have:=aC.iC h
 rw[fC h]at this
 exact(gO this).symm
theorem aC.eZ {p:aF} {funcs vars:Int} {e:aC} {i:Nat} (hok:e.ok p funcs vars) (h:i<e.aN.length):(e.oE i).ok p funcs (jE e.aS i vars):=by
 rw[aC.aPH h];exact((aC.dK _ _ _ _).1 hok).2 i h
theorem aC.ld5 (x:aC):(if 5<=x.c.length then some (aE.agg (List.take 5 x.c))else none)=some (.agg x.c):=by
 rw[if_pos (by rw[aC.aY6];exact bY _),hJ (by rw[aC.aY6];exact bY _)]
theorem iG {k:Int} {i:Nat} {v:Int} (h:¬(k=9/\i=1)):jE k i v=v:=if_neg h
theorem iH {sz:Nat} {env:List (List Int)} (h:∀ s∈env,aW sz s) {i:Nat} (hi:i<env.length):aW sz (env.getD i []):=by
 rw[e8,fC hi];exact h _ (lF hi)
theorem jZ {env:List (List Int)} {i:Nat} (hi:i<env.length):env[i]?=some (env.getD i []):=by
 rw[e8,fC hi];rfl
theorem eD {p:aF} {funcs vars:Int} {e:aC} (hok:e.ok p funcs vars) (hk:¬(e.aS=10∨e.aS=11)):eO e.aS=e.aN.length:=((dT hk).1 ((aC.dK _ _ _ _).1 hok).1).1
theorem fF {p:aF} {funcs vars:Int} {e:aC} (hok:e.ok p funcs vars) (hk:¬e.aS=9):∀ x∈e.aN,x.ok p funcs vars:=λx hx=>by
 obtain⟨i,hi,rfl⟩:=aCE.1 hx
 have:=((aC.dK _ _ _ _).1 hok).2 i hi
 rwa [iG (λq=>hk q.1)]at this
structure bOZ (p:aF) (e:aC) (f:aV):Prop where
 get:p.aK[e.bA.toNat]?=some f
 lo:0<=e.bA
 hi:e.bA<p.aK.length
 pk:0<=e.cV
 pk2:e.cV.toNat<f.aU.length
 kids:(e.aN.length:Int)=f.aR
 params:0<=f.aR/\f.aR<=12
 outs:1<=f.aU.length/\f.aU.length<=12
 oks:∀ x∈f.aU,x.ok p e.bA f.aR
 eq:p.outs e.bA=f.aU
 out:f.aU[e.cV.toNat]?=some (p.out e.bA e.cV)
 loop:e.aS=11->0<=e.cH/\e.cH<=8/\(f.aU.length:Int)=f.aR
theorem nS {p:aF} (hp:p.ok) {e:aC} {funcs vars:Int} (hok:e.ok p funcs vars) (hf:funcs<=p.aK.length) (hk:e.aS=10∨e.aS=11):∃ f,bOZ p e f:=by
 have h1:=((aC.dK _ _ _ _).1 hok).1
 have h2:=h1
 unfold mR at h1
 rw[if_pos hk]at h1
 have hlt:e.bA.toNat<p.aK.length:=by omega
 have ef:p.aK[e.bA.toNat]?=some p.aK[e.bA.toNat]:=fC hlt
 rw[sX hk ef]at h2
 obtain⟨n1,n2,n3,n4,n5,n6,n7⟩:=h2
 have hF:=hp.2 _ _ ef
 have heq:p.outs e.bA=p.aK[e.bA.toNat].aU:=by rw[aF.outs,ef];rfl
 refine⟨_,⟨ef,n1,by omega,n3,by omega,n5,hF.2.1,by have:=hF.2.2.1;omega,λx hx=>?_,heq,?_,n7⟩⟩
 ·have:=(hF.2.2.2.2.2 x hx).2.2.2.2
  rwa [show((e.bA.toNat:Nat):Int)=e.bA by omega]at this
 ·rw[aF.out,heq,e8,fC aA];rfl
def aGF {α:Type} (X:Out α):Prop:=∀ c,X=.error c->c=6∨c=7
theorem aGF.ok {α:Type} {v:α} {t:Nat}:aGF (.ok (v,t):Out α):=λc h=>by cases h
theorem aGF.then {α β:Type} {X:Out α} {F:α->Nat->Out β} (h:aGF X) (hf:∀ v t,aGF (F v t)):aGF (X.andThen F):=λc hc=>by
 cases X with
 |ok p=>exact hf p.1 p.2 c hc
 |error d=>exact h c (by cases hc;rfl)
theorem aEZ {ev:Nat->aC->Out (List Int)} (h:∀ t e,aGF (ev t e)):∀ (l:List aC) (t:Nat),aGF (l3 ev l t)
 | [],t=>.ok
 |e::l,t=>(h t e).then λv t=>(aEZ h l t).then λvs t=>.ok
theorem aK2 {f:List (List Int)->Nat->Out (List (List Int))} (h:∀ vs t,aGF (f vs t)):∀ (n:Nat) (vs:List (List Int)) (t:Nat),aGF (qM f n vs t)
 |0,vs,t=>.ok
 |n+1,vs,t=>(h vs t).then λa t=>aK2 h n a t
theorem bA9 (k:Int) (vs:List (List Int)) (t:Nat):aGF (opE k vs t):=by
 unfold opE
 repeat' split
 all_goals first|exact .ok|(intro c h;cases h;exact .inl rfl)
theorem aZK (p:aF) (sz:Nat):∀ (n t:Nat) (e:aC) (env:List (List Int)),aGF (iZ p sz n t e env)
 |0,t,e,env=>λc h=>by rw[iZ]at h;cases h;exact .inr rfl
 |n+1,t,e,env=>by
  have ih:=aZK p sz n
  rw[iZ]
  split
  ·intro c h;cases h;exact .inr rfl
  split
  ·exact .ok
  split
  ·exact .ok
  split
  ·refine(ih _ _ _).then λv t=>?_
   split
   ·exact ih _ _ _
   ·exact ih _ _ _
  split
  ·exact(ih _ _ _).then λv t=>ih _ _ _
  refine(aEZ (λt e=>ih t e env) _ _).then λvs t=>?_
  split
  ·exact ih _ _ _
  split
  ·exact(aK2 (λvs t=>aEZ (λt e=>ih t e vs) _ t) _ _ _).then λvs t=>.ok
  ·exact bA9 _ _ _
theorem aE0 (p:aF) (sz:Nat) (f:Int) (args:List (List Int)):aGF (xP p sz f args):=aEZ (λt e=>aZK p sz 3001 t e args) _ _
def okP {α:Type} (P:α->Prop) (X:Out α):Prop:=∀ v u,X=.ok (v,u)->P v
theorem okP.then {α β:Type} {P:α->Prop} {Q:β->Prop} {X:Out α} {F:α->Nat->Out β} (h:okP P X) (hf:∀ v t,P v->okP Q (F v t)):okP Q (X.andThen F):=λw u hw=>by
 cases X with
 |ok p=>obtain⟨v,t⟩:=p;exact hf v t (h v t rfl) w u hw
 |error c=>cases hw
theorem okP.pure {α:Type} {P:α->Prop} {v:α} {t:Nat} (h:P v):okP P (.ok (v,t)):=λw u e=>by cases e;exact h
theorem okP.err {α:Type} {P:α->Prop} {c:Int}:okP P (.error c:Out α):=λw u e=>by cases e
def a6C (sz n:Nat) (l:List (List Int)):Prop:=l.length=n/\∀ s∈l,aW sz s
theorem xQ {ev:Nat->aC->Out (List Int)} {sz:Nat}:∀ (l:List aC) (t:Nat),(∀ e∈l,∀ t,okP (aW sz) (ev t e))->okP (a6C sz l.length) (l3 ev l t)
 | [],t,_=>okP.pure ⟨rfl,by simp⟩
 |e::l,t,h=>(h e aAL t).then λv t hv=>(xQ l t λx hx=>h x (wN _ hx)).then λvs t hvs=>okP.pure ⟨by rw[aB9,hvs.1];rfl,λs hs=>by
   rcases pP.1 hs with rfl|hs
   ·exact hv
   ·exact hvs.2 s hs⟩
theorem aNK {f:List (List Int)->Nat->Out (List (List Int))} {P:List (List Int)->Prop} (h:∀ vs t,P vs->okP P (f vs t)):∀ (n:Nat) (vs:List (List Int)) (t:Nat),P vs->okP P (qM f n vs t)
 |0,vs,t,hv=>okP.pure hv
 |n+1,vs,t,hv=>(h vs t hv).then λa t ha=>aNK h n a t ha
theorem a6C.get {sz n i:Nat} {l:List (List Int)} (h:a6C sz n l) (hi:i<n):aW sz (l.getD i []):=by
 rw[e8,fC (by rw[h.1];exact hi)];exact h.2 _ (lF _)
theorem sD {p:aF} {e:aC} {vars funcs:Int} (h:mR p e vars funcs):e.aS=1∨e.aS=2∨e.aS=3∨e.aS=4∨e.aS=5∨e.aS=6∨e.aS=7∨e.aS=8∨e.aS=9∨e.aS=10∨e.aS=11:=by
 by_cases hk:e.aS=10∨e.aS=11
 ·omega
 ·have h1:=((dT hk).1 h).1
  unfold eO at h1
  repeat'(split at h1)
  all_goals omega
theorem aZL {p:aF} (hp:p.ok) {sz:Nat} (hsz:1<=sz):∀ (n t:Nat) (e:aC) (env:List (List Int)) (funcs:Int),e.ok p funcs env.length->funcs<=p.aK.length->(∀ s∈env,aW sz s)->okP (aW sz) (iZ p sz n t e env)
 |0,t,e,env,funcs,_,_,_=>okP.err
 |n+1,t,e,env,funcs,hok,hf,henv=>by
  have ih:=aZL hp hsz n
  have hnode:=((aC.dK _ _ _ _).1 hok).1
  by_cases h3:t=3000
  ·rw[iZ,if_pos h3];exact okP.err
  rcases sD hnode with hk|hk|hk|hk|hk|hk|hk|hk|hk|hk|hk
  ·rw[aTE h3 hk];exact okP.pure (cS (((dT aA).1 hnode).2.2.2.1 hk))
  ·rw[aTF h3 hk]
   have:=((dT aA).1 hnode).2.2.2.2.1 hk
   exact okP.pure (iH henv aA)
  iterate 5
   ·have hlen:=eD hok aA
    rw[hk]at hlen
    rw[pM h3 aA]
    refine(xQ _ _ λx hx t=>ih t x env funcs (fF hok aA x hx) hf henv).then λvs t hv=>?_
    have h0:=hv.get (i:=0) aRN
    rw[hk]
    unfold opE
    first
    |exact okP.pure (dM _ h0)
    |(have h1:=hv.get (i:=1) aRN;first|exact okP.pure (lL h0 h1)|exact okP.pure (jO h0 h1)|exact okP.pure (cF _ h0)|(simp only[if_neg (show ¬(6:Int)=3 by decide),if_neg (show ¬(6:Int)=4 by decide),if_neg (show ¬(6:Int)=5 by decide),if_neg (show ¬(6:Int)=7 by decide)];split;exact okP.err;exact okP.pure (k8 _ h0)))
  ·have hlen:=eD hok aA
   rw[hk,show eO 8=3 from rfl]at hlen
   have o0:=aC.eZ hok (i:=0) aA
   have o1:=aC.eZ hok (i:=1) aA
   have o2:=aC.eZ hok (i:=2) aA
   rw[iG aA]at o0 o1 o2
   rw[aK1 h3 hk]
   refine(ih _ _ _ _ o0 hf henv).then λc t hc=>?_
   split
   ·exact ih _ _ _ _ o1 hf henv
   ·exact ih _ _ _ _ o2 hf henv
  ·have hlen:=eD hok aA
   rw[hk,show eO 9=2 from rfl]at hlen
   have o0:=aC.eZ hok (i:=0) aA
   have o1:=aC.eZ hok (i:=1) aA
   rw[iG aA]at o0
   rw[hk,show jE 9 1 (env.length:Int)=env.length+1 from rfl]at o1
   rw[aTG h3 hk]
   refine(ih _ _ _ _ o0 hf henv).then λv t hv=>ih _ _ _ _ aGY hf λs hs=>?_
   rcases nY.1 hs with hs|hs
   ·exact henv s hs
   ·rw[iO.1 hs];exact hv
  ·obtain⟨f,F⟩:=nS hp hok hf (.inl hk)
   have f2:=F.hi
   have f4:=F.pk2
   rw[aGD h3 hk]
   refine(xQ _ _ λx hx t=>ih t x env funcs (fF hok aA x hx) hf henv).then λvs t hv=>?_
   exact ih _ _ _ e.bA (by rw[hv.1,F.kids];exact F.oks _ (s5 F.out)) aA hv.2
  ·obtain⟨f,F⟩:=nS hp hok hf (.inr hk)
   have f2:=F.hi
   have f4:=F.pk2
   have f9:=F.loop hk
   rw[aGE h3 hk]
   refine(xQ _ _ λx hx t=>ih t x env funcs (fF hok aA x hx) hf henv).then λvs t hv=>?_
   refine(aNK (P:=a6C sz f.aU.length) (λus u hu=>?_) _ _ _ ⟨by have:=hv.1;have:=F.kids;omega,hv.2⟩).then λus u hu=>okP.pure (hu.get f4)
   rw[F.eq]
   exact xQ _ _ λx hx t=>ih t x us e.bA (by rw[hu.1,f9.2.2];exact F.oks x hx) aA hu.2
theorem pZ {p:aF} (hp:p.ok) {f:Int} (hf:0<=f/\f<p.aK.length):∃ F,p.aK[f.toNat]?=some F/\(1<=F.aU.length/\F.aU.length<=12)/\(0<=F.aR/\F.aR<=12)/\p.outs f=F.aU/\∀ x∈F.aU,x.ok p f F.aR:=by
 have hlt:f.toNat<p.aK.length:=by omega
 have ef:p.aK[f.toNat]?=some p.aK[f.toNat]:=fC hlt
 have hF:=hp.2 _ _ ef
 refine⟨_,ef,by have:=hF.2.2.1;omega,hF.2.1,by rw[aF.outs,ef];rfl,λx hx=>?_⟩
 have:=(hF.2.2.2.2.2 x hx).2.2.2.2
 rwa [show((f.toNat:Nat):Int)=f by omega]at this
theorem aZM {p:aF} (hp:p.ok) {sz:Nat} (hsz:1<=sz) (f:Int) (hf:0<=f/\f<p.aK.length) (args:List (List Int)) (ha:∀ s∈args,aW sz s) (hl:∀ F,p.aK[f.toNat]?=some F->(args.length:Int)=F.aR):okP (λl=>a6C sz (p.outs f).length l) (xP p sz f args):=by
 obtain⟨F,ef,hF1,hF2,hF3,hF4⟩:=pZ hp hf
 exact xQ _ _ λx hx t=>aZL hp hsz _ _ x args f (by rw[hl F ef];exact hF4 x (by rw[←hF3];exact hx)) aA ha
set_option maxRecDepth 100000
theorem bBA (a:List Int) (m:Int) (hm:iE m) (hl:a.length<=1048576) (ha:eI a):yR Tryz.prog 109 [gT 1 (λn=>[I n]) a,I m] (QS (OS (oP I) 1 (eJ a m))):=by
 refine yT 27 aY4 cU cG Tryz.func109 λh=>?_
 simp -dsimp -implicitDefEqProofs only[go_sem,↓reduceIte,Tryz.f109]
 intro _
 refine⟨aX,bY _,by omega,by omega,λn hn _=>?_⟩
 have hc:=qV a m
 rw[vS]
 refine aDA aY4 cU cG (λk:Nat=>[(0,gT 1 (λn=>[I n]) a),(1,I m),(5,.os n 1 0 a.length),(11,I a.length),(12,I k)]) n (λk=>.row 1 (((upL (eJ a m) k).map λn=>[I n]).map (List.map .v))) (λk=>k<=a.length) (λk=>a.length-k) 0 ⟨by simp[cR,bZ],by rw[aI,aER,hc],eM _⟩ ?_
 intro k hk
 rcases bT k a.length with hlt|hge
 ·have ea:a[k]?=some a[k]:=fC hlt
  have eu:=aIG (c:=eJ a m) (k:=k) aA
  have el:=aIF (eJ a m) (k:=k) aA
  simp -dsimp -implicitDefEqProofs only[go_sem,↓reduceIte,Tryz.f109,aL,hlt,ea,eu,el,hc]
  have h1:=num_mul (ha _ (lF hlt)) hm
  refine⟨k+1,by rw[IntWalk.i64_in _ aA];rfl,?_,by omega,by omega⟩
  have hv:(eJ a m)[k]'aA=a[k]*m%1000003:=by simp[eJ]
  rw[aVZ h1.1 aA,←aIH aA,hv,←nL I]
  exact aB.le_refl _
 ·have hk':k=a.length:=by omega
  subst hk'
  simp -dsimp -implicitDefEqProofs only[go_sem,↓reduceIte,Tryz.f109,aL,bV]
  have hu:upL (eJ a m) a.length=eJ a m:=by rw[←hc];exact aIE _
  rw[hu,show a.length=(eJ a m).length from hc.symm]
  exact sK hn
theorem aCP {P:Program} {f:FuncId} {args:List aE} {l:List Int} (a:yR P f args (QS (OS (oP I) 1 l))):fR P f args (gT 1 (λn=>[I n]) l):=QS.dI a (λy hy=>OS.pX (c:=λn=>[I n]) (λ_ _ q=>aC6 q) hy)
theorem scaled (a:List Int) (m:Int) (hm:iE m) (hl:a.length<=1048576) (ha:eI a):fR Tryz.prog 109 [gT 1 (λn=>[I n]) a,I m] (gT 1 (λn=>[I n]) (eJ a m)):=aCP (bBA a m hm hl ha)
theorem a6D (a b:List Int) (hab:b.length=a.length) (hl:a.length<=1048576) (ha:eI a) (hb:eI b):fR Tryz.prog 60 [gT 1 (λn=>[I n]) a,gT 1 (λn=>[I n]) b] (gT 1 (λn=>[I n]) (iA a b)):=aCP (added a b hab hl (sM ha) (sM hb))
theorem aTH (a b:List Int) (hab:b.length=a.length) (hl:a.length<=1048576) (ha:eI a) (hb:eI b):yR Tryz.prog 111 [gT 1 (λn=>[I n]) a,gT 1 (λn=>[I n]) b] (QS (OS (oP I) 1 (kD a b))):=by
 refine yT 9 aCC cU cG Tryz.func111 λh=>?_
 simp -dsimp -implicitDefEqProofs only[go_sem,↓reduceIte,Tryz.f111]
 first|refine aH.mk (scaled b 1000002 nO aA hb) ?_|refine aG.mk (scaled b 1000002 nO aA hb) ?_|refine aH.bH (scaled b 1000002 nO aA hb) ?_|refine aG.mk (bB.dI (scaled b 1000002 nO aA hb)) ?_
 simp -dsimp -implicitDefEqProofs only[go_sem,↓reduceIte,Tryz.f111]
 refine aH.wn0 (added a (eJ b 1000002) aRR hl (sM ha) (sM (dM _ ⟨rfl,hb⟩).2)) ?_
 rintro r l g ⟨y,oy,rfl,rfl⟩ wn
 simp -dsimp -implicitDefEqProofs only[go_sem,↓reduceIte,Tryz.f111,oy.flat,oy.one]
 exact⟨_,g,_,bO _ _,⟨y,oy,rfl,rfl⟩,wn⟩
theorem reduced (a b:List Int) (hab:b.length=a.length) (hl:a.length<=1048576) (ha:eI a) (hb:eI b):fR Tryz.prog 111 [gT 1 (λn=>[I n]) a,gT 1 (λn=>[I n]) b] (gT 1 (λn=>[I n]) (kD a b)):=aCP (aTH a b hab hl ha hb)
theorem minus (a b:Int):fR Tryz.prog 120 [I a,I b] (I ((a-b)%1000003)):=by
 refine gA 10 aCC cU cG Tryz.func120 λh=>?_
 simp -dsimp -implicitDefEqProofs only[go_sem,↓reduceIte,Tryz.f120]
 first|refine aH.mk (iJ b) ?_|refine aG.mk (iJ b) ?_|refine aH.bH (iJ b) ?_|refine aG.mk (bB.dI (iJ b)) ?_
 simp -dsimp -implicitDefEqProofs only[go_sem,↓reduceIte,Tryz.f120]
 rw[IntWalk.i64_in _ aA]
 first|refine aH.mk (aPG a (1000003-b%1000003)) ?_|refine aG.mk (aPG a (1000003-b%1000003)) ?_|refine aH.bH (aPG a (1000003-b%1000003)) ?_|refine aG.mk (bB.dI (aPG a (1000003-b%1000003))) ?_
 simp -dsimp -implicitDefEqProofs only[go_sem,↓reduceIte,Tryz.f120]
 omega
@[go_sem] def aV1:List Nat:=[0,1,4,5,6,7,12,13,14,18]
@[go_sem] def bH7:Marks:=λid=>match id with|8=>([5,20],(.op 0 (.op 1 (.op 2 (.op 3 (.op 4 (.op 6 (.op 7 (.op 8 (.op 9 (.op 10 (.op 11 (.op 12 (.op 13 (.op 14 (.op 15 (.op 16 (.op 5 (.op 17 (.op 18 (.op 19 (.op 20 .nil))))))))))))))))))))),[])|_=>([],.nil,[])
theorem aTI (a b:List Int) (hab:b.length=a.length) (hl:a.length<=1048576) (ha:eI a) (hb:eI b):yR Tryz.prog 61 [gT 1 (λn=>[I n]) a,gT 1 (λn=>[I n]) b] (QS (OS (oP I) 1 (mulL a b))):=by
 refine yT 43 aV1 cU bH7 Tryz.func61 λh=>?_
 simp -dsimp -implicitDefEqProofs only[go_sem,↓reduceIte,Tryz.f61]
 intro _
 refine⟨aX,bY _,by omega,by omega,λn hn _=>?_⟩
 have hc:=aEY a b
 rw[vS]
 refine aDA aV1 cU bH7 (λk:Nat=>[(0,gT 1 (λn=>[I n]) a),(1,gT 1 (λn=>[I n]) b),(5,.os n 1 0 a.length),(12,I a.length),(13,I k)]) n (λk=>.row 1 (((upL (mulL a b) k).map λn=>[I n]).map (List.map .v))) (λk=>k<=a.length) (λk=>a.length-k) 0 ⟨by simp[cR,bZ],by rw[aI,aER,hc],eM _⟩ ?_
 intro k hk
 rcases bT k a.length with hlt|hge
 ·simp -dsimp -implicitDefEqProofs only[go_sem,↓reduceIte,Tryz.f61,aL,hlt]
  refine aDA aV1 cU bH7 (λi:Nat=>[(0,gT 1 (λn=>[I n]) a),(1,gT 1 (λn=>[I n]) b),(5,.os n 1 0 a.length),(6,I k),(7,I i),(12,I a.length),(13,I k)]) n (λi=>.row 1 ((((upL (mulL a b) k).set k (yY a b k i)).map λn=>[I n]).map (List.map .v))) (λi=>i<=k+1) (λi=>k+1-i) 0 ⟨by simp[cR,bZ],by rw[aI,yY,a6B aA],eM _⟩ ?_
  intro i hi
  have el:((upL (mulL a b) k).set k (yY a b k i)).length=a.length:=by rw[p7,aIF _ aA,hc]
  have eu:((upL (mulL a b) k).set k (yY a b k i))[k]?=some (yY a b k i):=by rw[nH (by rw[p7]at el;omega)]
  rcases bT i (k+1)with iV|aBC
  ·have ea:=bW (l:=a) (i:=i) aA
   have eb:=bW (l:=b) (i:=k-i) aA
   have ew:IntKind.i64.wrap ((k:Int)-(i:Int))=((k-i:Nat):Int):=by rw[IntWalk.i64_in _ aA];omega
   simp -dsimp -implicitDefEqProofs only[go_sem,↓reduceIte,Tryz.f61,aL,hlt,ea,eb,eu,el,hc,ew]
   refine⟨λ_=>⟨by omega,by omega,i+1,by rw[IntWalk.i64_in _ aA];rfl,?_,by omega,by omega⟩,λq=>absurd aA q⟩
   have h1:=num_mul (ha.get i) (hb.get (k-i))
   have h2:=a54 a b k i
   unfold iE at h2
   rw[IntWalk.i64_in (a.getD i 0*b.getD (k-i) 0) aA,aVZ aA aA,show(upL (mulL a b) k).set k (yY a b k (i+1))=((upL (mulL a b) k).set k (yY a b k i)).set k ((yY a b k i+a.getD i 0*b.getD (k-i) 0)%1000003)by rw[List.set_set,yY],←nL I]
   exact aB.le_refl _
  ·have hi':i=k+1:=by omega
   subst hi'
   simp -dsimp -implicitDefEqProofs only[go_sem,↓reduceIte,Tryz.f61,aL,hlt]
   refine⟨λq=>absurd q aA,λ_=>⟨k+1,by rw[IntWalk.i64_in _ aA];rfl,?_,by omega,by omega⟩⟩
   have hv:(mulL a b)[k]'aA=yY a b k (k+1):=by simp[mulL]
   rw[←hv,aIH aA]
   exact aB.le_refl _
 ·have hk':k=a.length:=by omega
  subst hk'
  simp -dsimp -implicitDefEqProofs only[go_sem,↓reduceIte,Tryz.f61,aL,bV]
  have hu:upL (mulL a b) a.length=mulL a b:=by rw[←hc];exact aIE _
  rw[hu,show a.length=(mulL a b).length from hc.symm]
  exact sK hn
theorem product (a b:List Int) (hab:b.length=a.length) (hl:a.length<=1048576) (ha:eI a) (hb:eI b):fR Tryz.prog 61 [gT 1 (λn=>[I n]) a,gT 1 (λn=>[I n]) b] (gT 1 (λn=>[I n]) (mulL a b)):=aCP (aTI a b hab hl ha hb)
@[go_sem] def aZN:List Nat:=[0,1,4,5,6,8,12,17]
theorem Power (a n:Int) (hn:0<=n) (hn2:n<=4294967296):fR Tryz.prog 179 [I a,I n] (I (pwN (a%1000003) n.toNat)):=by
 refine gA 27 aZN cU cG Tryz.func179 λh=>?_
 simp -dsimp -implicitDefEqProofs only[go_sem,↓reduceIte,Tryz.f179]
 refine⟨λq=>absurd q aA,λ_=>?_⟩
 first|refine aH.mk (iJ a) ?_|refine aG.mk (iJ a) ?_|refine aH.bH (iJ a) ?_|refine aG.mk (bB.dI (iJ a)) ?_
 simp -dsimp -implicitDefEqProofs only[go_sem,↓reduceIte,Tryz.f179]
 generalize hT:pwN (a%1000003) n.toNat=T
 refine u3 aZN cU cG (λx:Int×Int×Int=>[(1,I x.2.2),(5,I x.1),(6,I x.2.1)]) (λx=>(0<=x.1/\x.1<1000003)/\(0<=x.2.1/\x.2.1<1000003)/\(0<=x.2.2/\x.2.2<=4294967296)/\x.1*x.2.1 ^ x.2.2.toNat%1000003=T) (λx=>x.2.2.toNat) (1,a%1000003,n) ⟨by simp[cR,bZ],⟨by simp,by simp⟩,aTD _,⟨hn,hn2⟩,by rw[aCG];exact hT⟩ ?_
 rintro⟨x,b,m⟩ ⟨hx,hb,hm,hp⟩
 simp only at hx hb hm hp ⊢
 simp -dsimp -implicitDefEqProofs only[go_sem,↓reduceIte,Tryz.f179]
 have h1:=num_mul (x:=x) (y:=b) nO nO
 have h2:=num_mul (x:=b) (y:=b) nO nO
 rw[uR hm.1,aXE hm.1,IntWalk.i64_in (m / 2) aA,aVZ h1.1 aA,aVZ h2.1 aA]
 refine⟨λhg=>⟨λho=>⟨(x*b%1000003,b*b%1000003,m / 2),⟨rfl,rfl,rfl⟩,⟨aTD _,aTD _,(show 0<=m / 2/\m / 2<=4294967296 by omega),a6A hm.1 ho hp⟩,by simp only;omega⟩,λho=>⟨(x,b*b%1000003,m / 2),⟨rfl,rfl,rfl⟩,⟨hx,aTD _,(show 0<=m / 2/\m / 2<=4294967296 by omega),aZI hm.1 ho hp⟩,by simp only;omega⟩⟩,λhg=>?_⟩
 have:m.toNat=0:=by omega
 rw[this,aZH x b hx]at hp
 exact hp
theorem p0 (a:Int):fR Tryz.prog 119 [I a] (I (gJ a)):=by
 refine gA 5 aBA cU cG Tryz.func119 λh=>?_
 simp -dsimp -implicitDefEqProofs only[go_sem,↓reduceIte,Tryz.f119]
 first|refine aH.mk (Power a 1000001 b6 b6) ?_|refine aG.mk (Power a 1000001 b6 b6) ?_|refine aH.bH (Power a 1000001 b6 b6) ?_|refine aG.mk (bB.dI (Power a 1000001 b6 b6)) ?_
 simp -dsimp -implicitDefEqProofs only[go_sem,↓reduceIte,Tryz.f119]
 rfl
@[go_sem] def aPJ:List Nat:=[0,1,4,5,6,7,8,9,18,19,20,28]
@[go_sem] def a6E:Marks:=λid=>match id with|1=>([2],(.op 0 (.op 1 (.op 3 (.op 4 (.op 5 (.op 6 (.op 2 (.op 7 (.op 8 .nil))))))))),[])|9=>([4],(.op 0 (.op 1 (.op 2 (.op 3 (.op 5 (.op 6 (.op 7 (.op 8 (.op 9 (.op 10 (.op 4 (.op 11 (.op 12 (.op 13 .nil)))))))))))))),[])|_=>([],.nil,[])
theorem a2Q (a b:List Int) (hab:b.length=a.length) (hl:a.length<=1048576) (h0:0<a.length) (ha:eI a) (hb:eI b):yR Tryz.prog 171 [gT 1 (λn=>[I n]) a,gT 1 (λn=>[I n]) b] (QS (OS (oP I) 1 (gG a b))):=by
 have e0:b[Int.toNat 0]?=some (b.getD 0 0):=bW (l:=b) (i:=0) aA
 refine yT 53 aPJ cU a6E Tryz.func171 λh=>?_
 simp -dsimp -implicitDefEqProofs only[go_sem,↓reduceIte,Tryz.f171,e0]
 refine⟨by omega,?_⟩
 first|refine aH.mk (p0 (b.getD 0 0)) ?_|refine aG.mk (p0 (b.getD 0 0)) ?_|refine aH.bH (p0 (b.getD 0 0)) ?_|refine aG.mk (bB.dI (p0 (b.getD 0 0))) ?_
 simp -dsimp -implicitDefEqProofs only[go_sem,↓reduceIte,Tryz.f171]
 refine⟨aX,bY _,by omega,by omega,λn hn _=>?_⟩
 have hc:=pT a b
 rw[vS]
 refine aDA aPJ cU a6E (λk:Nat=>[(0,gT 1 (λn=>[I n]) a),(1,gT 1 (λn=>[I n]) b),(5,.os n 1 0 a.length),(6,I (gJ (b.getD 0 0))),(18,I a.length),(19,I k)]) n (λk=>.row 1 (((upL (gG a b) k).map λn=>[I n]).map (List.map .v))) (λk=>k<=a.length) (λk=>a.length-k) 0 ⟨by simp[cR,bZ],by rw[aI,aER,hc],eM _⟩ ?_
 intro k hk
 rcases bT k a.length with hlt|hge
 ·have ek:=bW hlt
  simp -dsimp -implicitDefEqProofs only[go_sem,↓reduceIte,Tryz.f171,aL,hlt,ek]
  refine u3 aPJ cU a6E (λi:Nat=>[(0,gT 1 (λn=>[I n]) a),(1,gT 1 (λn=>[I n]) b),(5,.os n 1 0 a.length),(6,I (gJ (b.getD 0 0))),(7,I k),(8,I (dvS (jV a b k) b k (a.getD k 0) i)),(9,I i),(18,I a.length),(19,I k)]) (λi=>i<=k) (λi=>k-i) 0 ⟨by simp[cR,bZ,dvS],eM _⟩ ?_
  intro i hi
  have el:=aIF (gG a b) (k:=k) aA
  have eu:=aIG (c:=gG a b) (k:=k) aA
  rcases bT i k with iV|aBC
  ·have ei:=aHH (a:=a) (b:=b) (i:=i) hk iV
   have eb:=bW (l:=b) (i:=k-i) aA
   have ew:IntKind.i64.wrap ((k:Int)-(i:Int))=((k-i:Nat):Int):=by rw[IntWalk.i64_in _ aA];omega
   simp -dsimp -implicitDefEqProofs only[go_sem,↓reduceIte,Tryz.f171,aL,iV,ei,eb,el,hc,ew]
   have h1:=num_mul ((u6 a b k).get i) (hb.get (k-i))
   refine⟨by omega,by omega,?_⟩
   rw[IntWalk.i64_in _ aA]
   first|refine aH.mk (minus (dvS (jV a b k) b k (a.getD k 0) i) ((jV a b k).getD i 0*b.getD (k-i) 0)) ?_|refine aG.mk (minus (dvS (jV a b k) b k (a.getD k 0) i) ((jV a b k).getD i 0*b.getD (k-i) 0)) ?_|refine aH.bH (minus (dvS (jV a b k) b k (a.getD k 0) i) ((jV a b k).getD i 0*b.getD (k-i) 0)) ?_|refine aG.mk (bB.dI (minus (dvS (jV a b k) b k (a.getD k 0) i) ((jV a b k).getD i 0*b.getD (k-i) 0))) ?_
   simp -dsimp -implicitDefEqProofs only[go_sem,↓reduceIte,Tryz.f171,aL,iV,ei,eb,el,hc,ew]
   exact⟨i+1,⟨rfl,by rw[IntWalk.i64_in _ aA];rfl⟩,by omega,by omega⟩
  ·have hi':i=k:=by omega
   subst hi'
   simp -dsimp -implicitDefEqProofs only[go_sem,↓reduceIte,Tryz.f171,aL,bV,hlt,eu,el,hc]
   have h1:=num_mul (y3 (jV a b i) b i (ha.get i) i) (num_inv (b.getD 0 0))
   refine⟨i+1,by rw[IntWalk.i64_in _ aA];rfl,?_,by omega,by omega⟩
   rw[aVZ h1.1 aA,←aEX hlt,←aIH aA,←nL I]
   exact aB.le_refl _
 ·have hk':k=a.length:=by omega
  subst hk'
  simp -dsimp -implicitDefEqProofs only[go_sem,↓reduceIte,Tryz.f171,aL,bV]
  have hu:upL (gG a b) a.length=gG a b:=by rw[←hc];exact aIE _
  rw[hu,show a.length=(gG a b).length from hc.symm]
  exact sK hn
theorem quotient (a b:List Int) (hab:b.length=a.length) (hl:a.length<=1048576) (h0:0<a.length) (ha:eI a) (hb:eI b):fR Tryz.prog 171 [gT 1 (λn=>[I n]) a,gT 1 (λn=>[I n]) b] (gT 1 (λn=>[I n]) (gG a b)):=aCP (a2Q a b hab hl h0 ha hb)
theorem fU {h h':aB} {n:Nat} (l:List Int) (h0:h n=none) (hl:(aT h n (.row 1 ((l.map λn=>[I n]).map (List.map .v)))).le h') {len:Nat} (e:len=l.length):Shift (.os n 1 0 len) h' (gT 1 (λn=>[I n]) l) h :=
 aBS (l.map λn=>[I n]) h0 hl len (by rw[gX];exact e)
theorem gE (n:Int) (sz:Nat):(bX n sz).length=sz:=by simp[bX]
theorem y5 {sz:Nat} {x:List aE} (h:0<sz):(List.replicate sz x)[Int.toNat 0]?=some x:=by
 show(List.replicate sz x)[0]?=some x
 rw[sQ,if_pos h]
theorem xR (n:Int) (sz:Nat):((List.replicate sz [aE.int .i64 0]).map (List.map Cell.v)).set 0 [Cell.v (I n)]=((bX n sz).map λn=>[I n]).map (List.map .v):=by
 rw[vS,bX,nL I]
theorem mC (h:aB) (nb:Nat) (c0 c2 c3:Cell) (n:Int) (sz:Nat) (hb:h nb=some (.row 4 [[c0,.v (I ((sz:Int)-1)),c2,c3]])) (ho:1<=sz/\sz<=1048576):iD Tryz.prog 225 [.op nb 4 0 0,I n] h λr h'=>r=gT 1 (λn=>[I n]) (bX n sz)/\h'=h:=by
 have e1:IntKind.i64.wrap ((sz:Int)-1+1)=(sz:Int):=by rw[IntWalk.i64_in _ aA];omega
 have e2:=y5 (x:=[aE.int .i64 0]) ho.1
 refine jU 16 bE6 cU cG Tryz.func225 ?_
 simp -dsimp -implicitDefEqProofs only[go_sem,↓reduceIte,Tryz.f225,hb,e1,r8,e2]
 refine⟨aX,by omega,by omega,by omega,λm hm=>⟨by omega,?_⟩⟩
 rw[aL,show Int.toNat 0=0 from rfl,xR]
 exact⟨_,h,fU _ hm (aB.le_refl _) (gE n sz).symm,rfl,rfl⟩
def dJ (p:aF) (sz st:Nat) (c:Int):bU:=.row 4 [[.v (gT 3 aV.c p.aK),.v (I ((sz:Int)-1)),.v (I st),.v (I c)]]
abbrev bL (l:List (List Int)):aE:=gT 1 (λs=>[ints s]) l
def EvQ (h:aB) (nb:Nat) (p:aF) (sz st:Nat) (c:Int) (X:Out (List Int)):aE->aB->Prop:=λr h'=>∃ s t c',r=ints s/\h'=aT h nb (dJ p sz t c')/\aW sz s/\st<=t/\t<=3000/\jN (pL c X) s t c'
def bVT (h:aB) (nb:Nat) (p:aF) (sz st:Nat) (c:Int) (n:Nat) (X:Out (List (List Int))):aE->aB->Prop:=λr h'=>∃ l t c',r=bL l/\h'=aT h nb (dJ p sz t c')/\l.length=n/\(∀ s∈l,aW sz s)/\st<=t/\t<=3000/\jN (pL c X) l t c'
@[go_sem] def oX:List Nat:=[0,1,2,4,6,7,8,13,20,34,35,41,48,59,74,102,106,107,126,138,159,168,177,186,197]
@[go_sem] def xS:List Nat:=[4,90]
@[go_sem] def xT:Marks:=λid=>match id with|17=>([6,13,15,16],(.op 0 (.op 1 (.op 2 (.op 3 (.op 4 (.op 5 (.op 7 (.op 8 (.op 9 (.op 10 (.op 11 (.op 12 (.op 6 (.op 13 (.op 14 (.op 15 (.op 16 (.op 17 .nil)))))))))))))))))),[])|23=>([5,16],(.op 0 (.op 1 (.op 2 (.op 3 (.op 4 (.op 6 (.op 7 (.op 11 (.op 12 (.op 15 (.op 5 (.op 8 (.op 9 (.op 10 (.op 13 (.op 14 (.op 16 (.op 17 .nil)))))))))))))))))),[])|28=>([5,12],(.op 0 (.op 1 (.op 2 (.op 3 (.op 4 (.op 6 (.op 7 (.op 11 (.op 5 (.op 8 (.op 9 (.op 10 (.op 12 (.op 13 .nil)))))))))))))),[])|31=>([6],(.op 0 (.op 1 (.op 2 (.op 3 (.op 4 (.op 5 (.op 6 (.op 7 .nil)))))))),[])|33=>([6],(.op 0 (.op 1 (.op 2 (.op 3 (.op 4 (.op 5 (.op 6 (.op 7 .nil)))))))),[])|35=>([6],(.op 0 (.op 1 (.op 2 (.op 3 (.op 4 (.op 5 (.op 6 (.op 7 .nil)))))))),[])|41=>([6],(.op 0 (.op 1 (.op 2 (.op 3 (.op 4 (.op 5 (.op 6 (.op 7 .nil)))))))),[])|_=>([],.nil,[])
def oY (p:aF) (sz n:Nat):Prop:=∀ (h:aB) (nb st:Nat) (c:Int) (e:aC) (env:List (List Int)) (funcs:Int),h nb=some (dJ p sz st c)->st<=3000->3001<=n+st->e.ok p funcs env.length->0<=funcs->funcs<=p.aK.length->(∀ s∈env,aW sz s)->env.length<=412+st ->
 iD Tryz.prog 206 [.op nb 4 0 0,.agg e.c,bL env] h (EvQ h nb p sz st c (iZ p sz n st e env))
theorem y6 {p:aF} {sz n:Nat} (hv:oY p sz n) (h:aB) (nb st:Nat) (c:Int) (l:List aC) (env:List (List Int)) (funcs:Int) (hb:h nb=some (dJ p sz st c)) (hst:st<=3000) (hn:3001<=n+st)
  (hl:l.length<=1048576) (hok:∀ e∈l,e.ok p funcs env.length) (gF:0<=funcs) (hf:funcs<=p.aK.length) (henv:∀ s∈env,aW sz s) (hel:env.length<=412+st) :
  iD Tryz.prog 177 [.op nb 4 0 0,gT 5 aC.c l,bL env] h (bVT h nb p sz st c l.length (l3 (λt e=>iZ p sz n t e env) l st)):=by
 refine jU 26 aY5 aY1 cG Tryz.func177 ?_
 simp -dsimp -implicitDefEqProofs only[go_sem,↓reduceIte,Tryz.f177]
 refine⟨aX,λ_=>?_⟩
 refine cM aY5 aY1 cG (λx:Nat×List (List Int)×Nat×Int×Option Nat=>[(0,.op nb 4 0 0),(2,bL env),(7,fT 1 x.2.1.length x.2.2.2.2),(11,gT 5 aC.c l),(12,I l.length),(13,I x.1)]) (λx=>cQ (aT h nb (dJ p sz x.2.2.1 x.2.2.2.1)) (.row 1 ((x.2.1.map λs=>[ints s]).map (List.map .v))) x.2.2.2.2) (λx=>x.1<=l.length/\x.2.1.length=x.1/\(∀ s∈x.2.1,aW sz s)/\st<=x.2.2.1/\x.2.2.1<=3000/\jN (pL c (l3 (λt e=>iZ p sz n t e env) (l.take x.1) st)) x.2.1 x.2.2.1 x.2.2.2.1/\eU h x.2.1 x.2.2.2.2) (λx=>l.length-x.1) (0,[],st,c,none) ⟨by simp[cR,bZ,fT],by simp only[aM];rw[rA hb];exact aB.le_refl _,eM _,rfl,by simp,bY _,hst,gW _ _ _,rfl⟩ ?_
 rintro⟨k,vs,t,c',o⟩ ⟨hk,hvl,hvs,ht0,ht,ho,hos⟩
 simp only at hk hvl hvs ht0 ht ho hos ⊢
 rcases bT k l.length with hlt|hge
 ·have ek:l[k]?=some l[k]:=fC hlt
  have hnext:∀ (s:List Int) (t2:Nat) (c2:Int),jN (pL c' (iZ p sz n t l[k] env)) s t2 c2->jN (pL c (l3 (λt e=>iZ p sz n t e env) (l.take (k+1)) st)) (vs++[s]) t2 c2:=λs t2 c2 h3=>by
   rw[iW hlt,xN]
   exact ho.dU (h3.dU (gW _ _ _))
  have hall:∀ s,aW sz s->∀ x∈vs++[s],aW sz x:=λs hs x hx=>by
   rcases nY.1 hx with hx|hx
   ·exact hvs x hx
   ·rw[iO.1 hx];exact hs
  cases o with
  |none =>
   rw[aZ]at hos
   subst hos
   simp -dsimp -implicitDefEqProofs only[go_sem,↓reduceIte,Tryz.f177,bD,aM,hlt,ek,aC.aY]
   intro m9 a2S
   obtain⟨bBB,aIL,aIM,aPK⟩:=cW (show ¬m9=nb from pjx a2S)
   have bVU:h m9=none:=pjx a2S
   rw[aL]
   have hvk:=hv (aT (aT h nb (dJ p sz t c')) m9 (.row 5 [l[k].c.map .v])) nb t c' l[k] env funcs (by rw[aD _ _ _ _ aPK,aI]) ht aA (hok _ (lF _)) gF hf henv aA
   rw[aC.aY]at hvk
   refine aH.fX hvk ?_
   rintro r h' ⟨s,t2,c2,rfl,rfl,hs,h1,h2,h3⟩
   simp -dsimp -implicitDefEqProofs only[go_sem,↓reduceIte,Tryz.f177]
   refine⟨aX,aX,aX,?_⟩
   intro b y7
   obtain⟨mS,fW,fV,mT⟩:=cW (show ¬b=nb from pjx y7)
   obtain⟨a6F,aK3,aK4,a6G⟩:=cW (show ¬b=m9 from pjx y7)
   have z_b:h b=none:=pjx y7
   refine⟨(k+1,[s],t2,c2,some b),⟨rfl,by rw[IntWalk.i64_in _ aA];rfl⟩,(lG (by repeat'(first|exact nZ _ _|refine qS (by simp only[fN,↓reduceIte,eq_self,if_true,aIM,fV,aIL,aK4,fW,aK3,qR,w9]) ?_|refine l6 aAM ?_))),⟨by omega,by simp only[rU]at hvl;subst hvl;rfl,λx hx=>hall s hs x hx,aDW ht0 h1,h2,hnext s t2 c2 h3,z_b⟩,by simp only;omega⟩
  |some m =>
   rw[aP]at hos
   obtain⟨rC,jJ,jI,nI⟩:=cW (show ¬m=nb from λe=>by rw[e,hb]at hos;cases hos)
   simp -dsimp -implicitDefEqProofs only[go_sem,↓reduceIte,Tryz.f177,aQ,aJ,hlt,ek,aC.aY]
   intro m9 a2S
   obtain⟨aV2,aK5,aK6,bH8⟩:=cW (show ¬m9=m from pjx a2S)
   obtain⟨bBB,aIL,aIM,aPK⟩:=cW (show ¬m9=nb from pjx a2S)
   have bVU:h m9=none:=pjx a2S
   rw[aL]
   have hvk:=hv (aT (aT (aT h nb (dJ p sz t c')) m (.row 1 ((vs.map λs=>[ints s]).map (List.map .v)))) m9 (.row 5 [l[k].c.map .v])) nb t c' l[k] env funcs (by rw[aD _ _ _ _ aPK,aD _ _ _ _ nI,aI]) ht aA (hok _ (lF _)) gF hf henv aA
   rw[aC.aY]at hvk
   refine aH.fX hvk ?_
   rintro r h' ⟨s,t2,c2,rfl,rfl,hs,h1,h2,h3⟩
   simp -dsimp -implicitDefEqProofs only[go_sem,↓reduceIte,Tryz.f177,aD,jJ,aK6,jI,aIM,aK5,aIL]
   refine⟨aX,aX,aX,bY _,by omega,by omega,?_⟩
   intro b y7
   obtain⟨mS,fW,fV,mT⟩:=cW (show ¬b=nb from pjx y7)
   obtain⟨a6F,aK3,aK4,a6G⟩:=cW (show ¬b=m9 from pjx y7)
   obtain⟨rZ,lM,lN,rD⟩:=cW (show ¬b=m from pjx y7)
   have z_b:h b=none:=pjx y7
   refine⟨(k+1,vs++[s],t2,c2,some b),⟨by rw[aQ,nT];rfl,by rw[IntWalk.i64_in _ aA];rfl⟩,?_,⟨by omega,by rw[nT,hvl];rfl,hall s hs,aDW ht0 h1,h2,hnext s t2 c2 h3,z_b⟩,by simp only;omega⟩
   simp only[aJ]
   rw[←dS ints]
   exact(lG (by repeat'(first|exact nZ _ _|refine qS (by simp only[fN,↓reduceIte,eq_self,if_true,aIM,fV,jI,aIL,aK4,aK5,fW,aK3,lM,jJ,aK6,lN]) ?_|refine l6 aAM ?_)))
 ·have hk':k=l.length:=by omega
  subst hk'
  rw[nM]at ho
  cases o with
  |none =>
   rw[aZ]at hos
   subst hos
   simp -dsimp -implicitDefEqProofs only[go_sem,↓reduceIte,Tryz.f177,bD,aM,bV]
   exact⟨bL [],_,Shift.of (Sub.loose _ _ _) (aB.le_refl _),[],t,c',rfl,rfl,hvl,hvs,ht0,ht,ho⟩
  |some m =>
   rw[aP]at hos
   simp -dsimp -implicitDefEqProofs only[go_sem,↓reduceIte,Tryz.f177,aQ,aJ,bV]
   have hmn:¬m=nb:=λe=>by rw[e,hb]at hos;cases hos
   exact⟨bL vs,_,aBS (vs.map λs=>[ints s]) (h:=aT h nb (dJ p sz t c')) (by rw[aD _ _ _ _ hmn,hos]) (aB.le_refl _) _ aX9,vs,t,c',rfl,rfl,hvl,hvs,ht0,ht,ho⟩
theorem bH9 (m:Nat) (es:List (List aE)) (x:aC):mZ m es x.c=x.c:=by rw[aC.aY];rfl
theorem a6H (m sz k:Nat) (x:aC):kK m sz k x.c=true:=by rw[aC.aY];rfl
theorem aF5.a5U {P:Program} {N:Nat} {c:Code} {Q:Exit->bK->aB->Prop} {τ:bK} {h:aB} {t:Tag (c,Q)} (n:Nat) {es:List (List aE)} (hh:h n=none) (hb:τ.all (λp=>jK n 1 es.length p.2)=true)
  (x:aF5 P N c Q (τ.map λp=>(p.1,p.2.fS n es)) (aT h n .gone) ()):aF5 P N c Q τ (aT h n (.row 1 (es.map (List.map .v)))) t:=by
 have y:=qI.s7 (c:=c) (Q:=Q) (τ:=τ) (N:=N) (P:=P) (h:=aT h n (.row 1 (es.map (List.map .v)))) n (sz:=1) (es:=es.map (List.map .v)) (aI _ _ _) (by simpa using hb)
 rw[aL,oD]at y
 exact y x
theorem aH.a6I {P:Program} {f:FuncId} {h:aB} {K:aE->aB->Prop} {t:Tag K} {nb m k len:Nat} {x:aE} {es:List (List aE)} (hx:x.fS m es=x) (hx2:jK m 1 es.length x=true) (hne:¬nb=m) (hl:len=es.length) (hm:h m=none) (a:iD P f [.op nb k 0 0,x,.sl 1 es false] (aT h m .gone) K) :
  aH P f [.op nb k 0 0,x,.os m 1 0 len] (aT h m (.row 1 (es.map (List.map .v)))) K t:=by
 subst hl
 refine aH.a5U m (aI _ _ _) (by simp[kK,jK,hx2,hne]) ?_
 rw[aL,oD]
 have h1:mZ m es [.op nb k 0 0,x,.os m 1 0 es.length]=[.op nb k 0 0,x,.sl 1 es false]:=by
  simp only[mZ,aE.fS,hx,if_neg hne,if_true,aRI,nM]
 rw[h1]
 exact a
theorem aH.aZO {P:Program} {f:FuncId} {h:aB} {K:aE->aB->Prop} {t:Tag K} {nb m k len:Nat} {e:aC} {es:List (List aE)} (hne:¬nb=m) (hl:len=es.length) (hm:h m=none) (a:iD P f [.op nb k 0 0,.agg e.c,.sl 1 es false] (aT h m .gone) K) :
  aH P f [.op nb k 0 0,.agg e.c,.os m 1 0 len] (aT h m (.row 1 (es.map (List.map .v)))) K t:=by
 subst hl
 refine aH.a5U m (aI _ _ _) (by simp[kK,jK,a6H,hne]) ?_
 rw[aL,oD]
 have h1:mZ m es [.op nb k 0 0,.agg e.c,.os m 1 0 es.length]=[.op nb k 0 0,.agg e.c,.sl 1 es false]:=by
  simp only[mZ,aE.fS,bH9,if_neg hne,if_true,aRI,nM]
 rw[h1]
 exact a
theorem u7 {sz:Nat} {env:List (List Int)} {s:List Int} (he:∀ x∈env,aW sz x) (hs:aW sz s):∀ x∈env++[s],aW sz x:=λx hx=>by
 rcases nY.1 hx with hx|hx
 ·exact he x hx
 ·rw[iO.1 hx];exact hs
theorem aPL (l:List (List Int)) (hl:l.length<=1048576):fR Tryz.prog 226 [bL l] (.sl 1 (l.map λs=>[ints s]) true):=by
 refine gA 9 aBA cU cG Tryz.func226 λh=>?_
 simp -dsimp -implicitDefEqProofs only[go_sem,↓reduceIte,Tryz.f226]
 repeat'(with_reducible first|intro _|refine And.intro ?_ ?_)
 all_goals try omega
 rw[hJ aXW]
theorem gZ:iE 0:=by unfold iE;simp
theorem aV3 {p:aF} {sz n:Nat} (hsz:1<=sz/\sz<=1048576) (h:aB) (nb st:Nat) (c:Int) (e:aC) (env:List (List Int)) (hb:h nb=some (dJ p sz st c)) (hst:st<=3000) (hs:¬c=0∨st=3000) :
  iD Tryz.prog 206 [.op nb 4 0 0,.agg e.c,bL env] h (EvQ h nb p sz st c (iZ p sz (n+1) st e env)):=by
 rw[aC.aY]
 have hb':=hb
 unfold dJ at hb'
 refine jU 210 oX xS xT Tryz.func206 ?_
 simp -dsimp -implicitDefEqProofs only[go_sem,↓reduceIte,Tryz.f206,hb']
 refine⟨λhc=>?_,λhc=>?_⟩
 ·refine aH.fX (mC _ nb _ _ _ 0 sz hb' hsz) ?_
  rintro r h' ⟨rfl,rfl⟩
  simp -dsimp -implicitDefEqProofs only[go_sem,↓reduceIte,Tryz.f206]
  have hc':¬c=0:=by simpa using hc
  exact⟨_,_,bO _ _,_,st,c,rfl,(rA hb).symm,cS gZ,bY _,hst,by rw[sJ _ hc'];exact lB _ _ hc'⟩
 ·have hc0:c=0:=by simpa using hc
  subst hc0
  have h3:st=3000:=by rcases hs with hs|hs;exact absurd rfl hs;exact hs
  subst h3
  try simp -dsimp -implicitDefEqProofs only[go_sem,↓reduceIte,Tryz.f206,hb']
  refine⟨λ_=>?_,λq=>absurd q eC⟩
  refine aH.fX (mC _ nb _ _ _ 0 sz (aI _ _ _) hsz) ?_
  rintro r h' ⟨rfl,rfl⟩
  simp -dsimp -implicitDefEqProofs only[go_sem,↓reduceIte,Tryz.f206]
  refine⟨_,_,bO _ _,_,3000,7,rfl,rfl,cS gZ,bY _,hst,?_⟩
  rw[cZ,iZ,if_pos rfl]
  exact lB _ _ b6
theorem bBC {p:aF} (hp:p.ok) {sz n:Nat} (hsz:1<=sz/\sz<=1048576) (hv:oY p sz n) (h:aB) (nb st:Nat) (e:aC) (env:List (List Int)) (funcs:Int) (hb:h nb=some (dJ p sz st 0)) (hst:st<3000) (hn:3001<=n+1+st)
  (hok:e.ok p funcs env.length) (gF:0<=funcs) (hf:funcs<=p.aK.length) (henv:∀ s∈env,aW sz s) (hel:env.length<=412+st) (hk:e.aS=1) :
  iD Tryz.prog 206 [.op nb 4 0 0,.agg e.c,bL env] h (EvQ h nb p sz st 0 (iZ p sz (n+1) st e env)):=by
 rw[aC.aY]
 have hb':=hb
 unfold dJ at hb'
 have e3:((st:Int)=3000)=False:=eq_false aA
 have ew:IntKind.i64.wrap ((st:Int)+1)=((st+1:Nat):Int):=by rw[IntWalk.i64_in _ aA];rfl
 have hnode:=(aC.dK _ _ _ _).1 hok
 have h3:¬st=3000:=by omega
 have hnum:iE e.bA:=((dT aA).1 hnode.1).2.2.2.1 hk
 refine jU 210 oX xS xT Tryz.func206 ?_
 simp -dsimp -implicitDefEqProofs only[go_sem,↓reduceIte,Tryz.f206,hb',e3,ew,hk]
 refine aH.fX (mC _ nb _ _ _ e.bA sz (aI _ _ _) hsz) ?_
 rintro r h' ⟨rfl,rfl⟩
 simp -dsimp -implicitDefEqProofs only[go_sem,↓reduceIte,Tryz.f206]
 refine⟨_,_,bO _ _,_,st+1,0,rfl,rfl,cS hnum,qD _,hst,?_⟩
 rw[cZ,aTE h3 hk]
 exact lR _ _
theorem bBD {p:aF} (hp:p.ok) {sz n:Nat} (hsz:1<=sz/\sz<=1048576) (hv:oY p sz n) (h:aB) (nb st:Nat) (e:aC) (env:List (List Int)) (funcs:Int) (hb:h nb=some (dJ p sz st 0)) (hst:st<3000) (hn:3001<=n+1+st)
  (hok:e.ok p funcs env.length) (gF:0<=funcs) (hf:funcs<=p.aK.length) (henv:∀ s∈env,aW sz s) (hel:env.length<=412+st) (hk:e.aS=2) :
  iD Tryz.prog 206 [.op nb 4 0 0,.agg e.c,bL env] h (EvQ h nb p sz st 0 (iZ p sz (n+1) st e env)):=by
 rw[aC.aY]
 have hb':=hb
 unfold dJ at hb'
 have e3:((st:Int)=3000)=False:=eq_false aA
 have ew:IntKind.i64.wrap ((st:Int)+1)=((st+1:Nat):Int):=by rw[IntWalk.i64_in _ aA];rfl
 have hnode:=(aC.dK _ _ _ _).1 hok
 have h3:¬st=3000:=by omega
 have hnum:=((dT aA).1 hnode.1).2.2.2.2.1 hk
 have hlt:e.bA.toNat<env.length:=by omega
 refine jU 210 oX xS xT Tryz.func206 ?_
 simp -dsimp -implicitDefEqProofs only[go_sem,↓reduceIte,Tryz.f206,hb',e3,ew,hk,jZ hlt]
 refine⟨hnum.1,by omega,_,_,bO _ _,_,st+1,0,rfl,rfl,iH henv hlt,qD _,hst,?_⟩
 rw[cZ,aTF h3 hk]
 exact lR _ _
theorem bBE {p:aF} (hp:p.ok) {sz n:Nat} (hsz:1<=sz/\sz<=1048576) (hv:oY p sz n) (h:aB) (nb st:Nat) (e:aC) (env:List (List Int)) (funcs:Int) (hb:h nb=some (dJ p sz st 0)) (hst:st<3000) (hn:3001<=n+1+st)
  (hok:e.ok p funcs env.length) (gF:0<=funcs) (hf:funcs<=p.aK.length) (henv:∀ s∈env,aW sz s) (hel:env.length<=412+st) (hk:e.aS=8) :
  iD Tryz.prog 206 [.op nb 4 0 0,.agg e.c,bL env] h (EvQ h nb p sz st 0 (iZ p sz (n+1) st e env)):=by
 rw[aC.aY]
 have hb':=hb
 unfold dJ at hb'
 have e3:((st:Int)=3000)=False:=eq_false aA
 have ew:IntKind.i64.wrap ((st:Int)+1)=((st+1:Nat):Int):=by rw[IntWalk.i64_in _ aA];rfl
 have hnode:=(aC.dK _ _ _ _).1 hok
 have h3:¬st=3000:=by omega
 have hlen:=eD hok aA
 rw[hk,show eO 8=3 from rfl]at hlen
 have g0:e.aN[Int.toNat 0]?=some (e.oE 0):=aC.iC aA
 have g1:e.aN[Int.toNat 1]?=some (e.oE 1):=aC.iC aA
 have g2:e.aN[Int.toNat 2]?=some (e.oE 2):=aC.iC aA
 have o0:=aC.eZ hok (i:=0) aA
 have o1:=aC.eZ hok (i:=1) aA
 have o2:=aC.eZ hok (i:=2) aA
 rw[iG aA]at o0 o1 o2
 refine jU 210 oX xS xT Tryz.func206 ?_
 simp -dsimp -implicitDefEqProofs only[go_sem,↓reduceIte,Tryz.f206,hb',e3,ew,hk,g0,aC.ld5]
 refine⟨by omega,?_⟩
 refine aH.fX (hv (aT h nb (dJ p sz (st+1) 0)) nb (st+1) 0 (e.oE 0) env funcs (aI _ _ _) aA aA o0 gF hf henv aA) ?_
 rintro r h' ⟨s1,t1,c1,rfl,rfl,vK,a1,a2,a3⟩
 have gs:s1[Int.toNat 0]?=some (s1.getD 0 0):=bW qE
 simp -dsimp -implicitDefEqProofs only[go_sem,↓reduceIte,Tryz.f206,gs,g1,g2,aC.ld5]
 refine⟨by rw[vK.1];omega,λhz=>⟨by omega,?_⟩,λhz=>⟨by omega,?_⟩⟩
 ·rw[aL]
  refine aH.fX (hv (aT h nb (dJ p sz t1 c1)) nb t1 c1 (e.oE 1) env funcs (aI _ _ _) aA aA o1 gF hf henv aA) ?_
  rintro r h' ⟨s2,t2,c2,rfl,rfl,wO,b1,b2,b3⟩
  simp -dsimp -implicitDefEqProofs only[go_sem,↓reduceIte,Tryz.f206]
  refine⟨_,_,bO _ _,s2,t2,c2,rfl,by rw[aL],wO,by omega,b2,?_⟩
  rw[aK1 h3 hk]
  refine a3.dU ?_
  rw[if_pos hz]
  exact b3
 ·rw[aL]
  refine aH.fX (hv (aT h nb (dJ p sz t1 c1)) nb t1 c1 (e.oE 2) env funcs (aI _ _ _) aA aA o2 gF hf henv aA) ?_
  rintro r h' ⟨s2,t2,c2,rfl,rfl,wO,b1,b2,b3⟩
  simp -dsimp -implicitDefEqProofs only[go_sem,↓reduceIte,Tryz.f206]
  refine⟨_,_,bO _ _,s2,t2,c2,rfl,by rw[aL],wO,by omega,b2,?_⟩
  rw[aK1 h3 hk]
  refine a3.dU ?_
  rw[if_neg hz]
  exact b3
theorem bBF {p:aF} (hp:p.ok) {sz n:Nat} (hsz:1<=sz/\sz<=1048576) (hv:oY p sz n) (h:aB) (nb st:Nat) (e:aC) (env:List (List Int)) (funcs:Int) (hb:h nb=some (dJ p sz st 0)) (hst:st<3000) (hn:3001<=n+1+st)
  (hok:e.ok p funcs env.length) (gF:0<=funcs) (hf:funcs<=p.aK.length) (henv:∀ s∈env,aW sz s) (hel:env.length<=412+st) (hk:e.aS=9) :
  iD Tryz.prog 206 [.op nb 4 0 0,.agg e.c,bL env] h (EvQ h nb p sz st 0 (iZ p sz (n+1) st e env)):=by
 rw[aC.aY]
 have hb':=hb
 unfold dJ at hb'
 have e3:((st:Int)=3000)=False:=eq_false aA
 have ew:IntKind.i64.wrap ((st:Int)+1)=((st+1:Nat):Int):=by rw[IntWalk.i64_in _ aA];rfl
 have hnode:=(aC.dK _ _ _ _).1 hok
 have h3:¬st=3000:=by omega
 have hlen:=eD hok aA
 rw[hk,show eO 9=2 from rfl]at hlen
 have g0:e.aN[Int.toNat 0]?=some (e.oE 0):=aC.iC aA
 have g1:e.aN[Int.toNat 1]?=some (e.oE 1):=aC.iC aA
 have o0:=aC.eZ hok (i:=0) aA
 have o1:=aC.eZ hok (i:=1) aA
 rw[iG aA]at o0
 rw[hk,show jE 9 1 (env.length:Int)=env.length+1 from rfl]at o1
 refine jU 210 oX xS xT Tryz.func206 ?_
 simp -dsimp -implicitDefEqProofs only[go_sem,↓reduceIte,Tryz.f206,hb',e3,ew,hk,g0,g1,aC.ld5]
 refine⟨by omega,by omega,?_⟩
 first|refine aH.mk (aPL env aA) ?_|refine aG.mk (aPL env aA) ?_|refine aH.bH (aPL env aA) ?_|refine aG.mk (bB.dI (aPL env aA)) ?_
 simp -dsimp -implicitDefEqProofs only[go_sem,↓reduceIte,Tryz.f206]
 refine aH.fX (hv (aT h nb (dJ p sz (st+1) 0)) nb (st+1) 0 (e.oE 0) env funcs (aI _ _ _) aA aA o0 gF hf henv aA) ?_
 rintro r h' ⟨s1,t1,c1,rfl,rfl,vK,a1,a2,a3⟩
 simp -dsimp -implicitDefEqProofs only[go_sem,↓reduceIte,Tryz.f206]
 refine⟨aX,aX,aX,by omega,by omega,?_⟩
 intro m q_m
 obtain⟨rC,jJ,jI,nI⟩:=cW (show ¬m=nb from pjx q_m)
 have z_m:h m=none:=pjx q_m
 rw[aL]
 have hrow:env.map (λs=>[ints s])++[[aE.sl 1 (s1.map λn=>[I n]) false]]=(env++[s1]).map λs=>[ints s]:=by rw[mY];rfl
 rw[hrow]
 refine aH.aZO nI (by rw[gX,nT];rfl) (by rw[aD _ _ _ _ rC];exact z_m) ?_
 refine iD.mono (hv (aT (aT h nb (dJ p sz t1 c1)) m .gone) nb t1 c1 (e.oE 1) (env++[s1]) funcs aRP aA aA aGY gF hf (u7 henv vK) a4Q) ?_
 rintro r h' ⟨s2,t2,c2,rfl,rfl,wO,b1,b2,b3⟩
 simp -dsimp -implicitDefEqProofs only[go_sem,↓reduceIte,Tryz.f206]
 refine⟨_,aT h nb (dJ p sz t2 c2),cT (lG bMT),s2,t2,c2,rfl,rfl,wO,by omega,b2,?_⟩
 rw[aTG h3 hk]
 exact a3.dU b3
theorem a6J {p:aF} (hp:p.ok) {sz n:Nat} (hsz:1<=sz/\sz<=1048576) (hv:oY p sz n) (h:aB) (nb st:Nat) (e:aC) (env:List (List Int)) (funcs:Int) (hb:h nb=some (dJ p sz st 0)) (hst:st<3000) (hn:3001<=n+1+st)
  (hok:e.ok p funcs env.length) (gF:0<=funcs) (hf:funcs<=p.aK.length) (henv:∀ s∈env,aW sz s) (hel:env.length<=412+st) (hk:e.aS=10) :
  iD Tryz.prog 206 [.op nb 4 0 0,.agg e.c,bL env] h (EvQ h nb p sz st 0 (iZ p sz (n+1) st e env)):=by
 rw[aC.aY]
 have hb':=hb
 unfold dJ at hb'
 have e3:((st:Int)=3000)=False:=eq_false aA
 have ew:IntKind.i64.wrap ((st:Int)+1)=((st+1:Nat):Int):=by rw[IntWalk.i64_in _ aA];rfl
 have hnode:=(aC.dK _ _ _ _).1 hok
 have h3:¬st=3000:=by omega
 obtain⟨f,F⟩:=nS hp hok hf (.inl hk)
 have hkl:e.aN.length<=1048576:=by have:=F.kids;have:=F.params;omega
 refine jU 210 oX xS xT Tryz.func206 ?_
 simp -dsimp -implicitDefEqProofs only[go_sem,↓reduceIte,Tryz.f206,hb',e3,ew,hk]
 refine aH.fX (y6 hv (aT h nb (dJ p sz (st+1) 0)) nb (st+1) 0 e.aN env funcs (aI _ _ _) aA aA hkl (fF hok aA) gF hf henv aA) ?_
 rintro r h' ⟨vs,t1,c1,rfl,rfl,hvl,hvs,a1,a2,a3⟩
 simp -dsimp -implicitDefEqProofs only[go_sem,↓reduceIte,Tryz.f206,dJ]
 refine⟨λhc=>?_,λhc=>?_⟩
 ·have hc':¬c1=0:=by simpa using hc
  refine aH.fX (mC _ nb _ _ _ 0 sz (aI _ _ _) hsz) ?_
  rintro r h' ⟨rfl,rfl⟩
  simp -dsimp -implicitDefEqProofs only[go_sem,↓reduceIte,Tryz.f206]
  refine⟨_,aT h nb (dJ p sz t1 c1),cT tL,_,t1,c1,rfl,rfl,cS gZ,by omega,a2,?_⟩
  rw[aGD h3 hk]
  exact a3.dU aJM
 ·have hc':c1=0:=by simpa using hc
  subst hc'
  try simp -dsimp -implicitDefEqProofs only[go_sem,↓reduceIte,Tryz.f206,hk,F.get,F.out,aV.aY,aC.ld5,aL]
  have f1:=F.lo
  have f2:=F.hi
  have f3:=F.pk
  have f4:=F.pk2
  have f5:=F.kids
  have f6:=F.params
  refine⟨f1,f2,f3,by omega,?_⟩
  refine aH.fX (hv (aT h nb (dJ p sz t1 0)) nb t1 0 (p.out e.bA e.cV) vs e.bA (aI _ _ _) aA aA aXT f1 aA hvs aA) ?_
  rintro r h' ⟨s2,t2,c2,rfl,rfl,wO,b1,b2,b3⟩
  simp -dsimp -implicitDefEqProofs only[go_sem,↓reduceIte,Tryz.f206]
  refine⟨_,aT h nb (dJ p sz t2 c2),cT tL,s2,t2,c2,rfl,rfl,wO,by omega,b2,?_⟩
  rw[aGD h3 hk]
  exact a3.dU b3
theorem bBG {p:aF} (hp:p.ok) {sz n:Nat} (hsz:1<=sz/\sz<=1048576) (hv:oY p sz n) (h:aB) (nb st:Nat) (e:aC) (env:List (List Int)) (funcs:Int) (hb:h nb=some (dJ p sz st 0)) (hst:st<3000) (hn:3001<=n+1+st)
  (hok:e.ok p funcs env.length) (gF:0<=funcs) (hf:funcs<=p.aK.length) (henv:∀ s∈env,aW sz s) (hel:env.length<=412+st) (hk:e.aS=7) :
  iD Tryz.prog 206 [.op nb 4 0 0,.agg e.c,bL env] h (EvQ h nb p sz st 0 (iZ p sz (n+1) st e env)):=by
 rw[aC.aY]
 have hb':=hb
 unfold dJ at hb'
 have e3:((st:Int)=3000)=False:=eq_false aA
 have ew:IntKind.i64.wrap ((st:Int)+1)=((st+1:Nat):Int):=by rw[IntWalk.i64_in _ aA];rfl
 have hnode:=(aC.dK _ _ _ _).1 hok
 have h3:¬st=3000:=by omega
 have hlen:=eD hok aA
 rw[hk,show eO 7=1 from rfl]at hlen
 have hkl:e.aN.length<=1048576:=by omega
 refine jU 210 oX xS xT Tryz.func206 ?_
 simp -dsimp -implicitDefEqProofs only[go_sem,↓reduceIte,Tryz.f206,hb',e3,ew,hk]
 refine aH.fX (y6 hv (aT h nb (dJ p sz (st+1) 0)) nb (st+1) 0 e.aN env funcs (aI _ _ _) aA aA hkl (fF hok aA) gF hf henv aA) ?_
 rintro r h' ⟨vs,t1,c1,rfl,rfl,hvl,hvs,a1,a2,a3⟩
 have hv0:=iH hvs (i:=0) aA
 simp -dsimp -implicitDefEqProofs only[go_sem,↓reduceIte,Tryz.f206,dJ]
 refine⟨λhc=>?_,λhc=>?_⟩
 ·have hc':¬c1=0:=by simpa using hc
  refine aH.fX (mC _ nb _ _ _ 0 sz (aI _ _ _) hsz) ?_
  rintro r h' ⟨rfl,rfl⟩
  simp -dsimp -implicitDefEqProofs only[go_sem,↓reduceIte,Tryz.f206]
  refine⟨_,aT h nb (dJ p sz t1 c1),cT tL,_,t1,c1,rfl,rfl,cS gZ,by omega,a2,?_⟩
  rw[pM h3 aA]
  exact a3.dU aJM
 have hc':c1=0:=by simpa using hc
 subst hc'
 have g0:vs[Int.toNat 0]?=some (vs.getD 0 []):=jZ aA
 try simp -dsimp -implicitDefEqProofs only[go_sem,↓reduceIte,Tryz.f206,hk,aL,g0]
 refine⟨by omega,?_⟩
 refine aH.mk (scaled (vs.getD 0 []) 1000002 nO aM4 hv0.2) ?_
 simp -dsimp -implicitDefEqProofs only[go_sem,↓reduceIte,Tryz.f206]
 refine⟨_,aT h nb (dJ p sz t1 0),cT aM1,_,t1,0,rfl,rfl,dM _ hv0,by omega,a2,?_⟩
 rw[pM h3 aA]
 refine a3.dU ?_
 rw[cZ,hk]
 exact lR _ _
theorem bBH {p:aF} (hp:p.ok) {sz n:Nat} (hsz:1<=sz/\sz<=1048576) (hv:oY p sz n) (h:aB) (nb st:Nat) (e:aC) (env:List (List Int)) (funcs:Int) (hb:h nb=some (dJ p sz st 0)) (hst:st<3000) (hn:3001<=n+1+st)
  (hok:e.ok p funcs env.length) (gF:0<=funcs) (hf:funcs<=p.aK.length) (henv:∀ s∈env,aW sz s) (hel:env.length<=412+st) (hk:e.aS=3) :
  iD Tryz.prog 206 [.op nb 4 0 0,.agg e.c,bL env] h (EvQ h nb p sz st 0 (iZ p sz (n+1) st e env)):=by
 rw[aC.aY]
 have hb':=hb
 unfold dJ at hb'
 have e3:((st:Int)=3000)=False:=eq_false aA
 have ew:IntKind.i64.wrap ((st:Int)+1)=((st+1:Nat):Int):=by rw[IntWalk.i64_in _ aA];rfl
 have hnode:=(aC.dK _ _ _ _).1 hok
 have h3:¬st=3000:=by omega
 have hlen:=eD hok aA
 rw[hk,show eO 3=2 from rfl]at hlen
 have hkl:e.aN.length<=1048576:=by omega
 refine jU 210 oX xS xT Tryz.func206 ?_
 simp -dsimp -implicitDefEqProofs only[go_sem,↓reduceIte,Tryz.f206,hb',e3,ew,hk]
 refine aH.fX (y6 hv (aT h nb (dJ p sz (st+1) 0)) nb (st+1) 0 e.aN env funcs (aI _ _ _) aA aA hkl (fF hok aA) gF hf henv aA) ?_
 rintro r h' ⟨vs,t1,c1,rfl,rfl,hvl,hvs,a1,a2,a3⟩
 have hv0:=iH hvs (i:=0) aA
 simp -dsimp -implicitDefEqProofs only[go_sem,↓reduceIte,Tryz.f206,dJ]
 refine⟨λhc=>?_,λhc=>?_⟩
 ·have hc':¬c1=0:=by simpa using hc
  refine aH.fX (mC _ nb _ _ _ 0 sz (aI _ _ _) hsz) ?_
  rintro r h' ⟨rfl,rfl⟩
  simp -dsimp -implicitDefEqProofs only[go_sem,↓reduceIte,Tryz.f206]
  refine⟨_,aT h nb (dJ p sz t1 c1),cT tL,_,t1,c1,rfl,rfl,cS gZ,by omega,a2,?_⟩
  rw[pM h3 aA]
  exact a3.dU aJM
 have hc':c1=0:=by simpa using hc
 subst hc'
 have g0:vs[Int.toNat 0]?=some (vs.getD 0 []):=jZ aA
 have g1:vs[Int.toNat 1]?=some (vs.getD 1 []):=jZ aA
 have hv1:=iH hvs (i:=1) aA
 try simp -dsimp -implicitDefEqProofs only[go_sem,↓reduceIte,Tryz.f206,hk,aL,g0,g1]
 refine⟨by omega,by omega,?_⟩
 refine aH.mk (a6D (vs.getD 0 []) (vs.getD 1 []) aYE aM4 hv0.2 hv1.2) ?_
 simp -dsimp -implicitDefEqProofs only[go_sem,↓reduceIte,Tryz.f206]
 refine⟨_,aT h nb (dJ p sz t1 0),cT aM1,_,t1,0,rfl,rfl,lL hv0 hv1,by omega,a2,?_⟩
 rw[pM h3 aA]
 refine a3.dU ?_
 rw[cZ,hk]
 exact lR _ _
theorem bBI {p:aF} (hp:p.ok) {sz n:Nat} (hsz:1<=sz/\sz<=1048576) (hv:oY p sz n) (h:aB) (nb st:Nat) (e:aC) (env:List (List Int)) (funcs:Int) (hb:h nb=some (dJ p sz st 0)) (hst:st<3000) (hn:3001<=n+1+st)
  (hok:e.ok p funcs env.length) (gF:0<=funcs) (hf:funcs<=p.aK.length) (henv:∀ s∈env,aW sz s) (hel:env.length<=412+st) (hk:e.aS=4) :
  iD Tryz.prog 206 [.op nb 4 0 0,.agg e.c,bL env] h (EvQ h nb p sz st 0 (iZ p sz (n+1) st e env)):=by
 rw[aC.aY]
 have hb':=hb
 unfold dJ at hb'
 have e3:((st:Int)=3000)=False:=eq_false aA
 have ew:IntKind.i64.wrap ((st:Int)+1)=((st+1:Nat):Int):=by rw[IntWalk.i64_in _ aA];rfl
 have hnode:=(aC.dK _ _ _ _).1 hok
 have h3:¬st=3000:=by omega
 have hlen:=eD hok aA
 rw[hk,show eO 4=2 from rfl]at hlen
 have hkl:e.aN.length<=1048576:=by omega
 refine jU 210 oX xS xT Tryz.func206 ?_
 simp -dsimp -implicitDefEqProofs only[go_sem,↓reduceIte,Tryz.f206,hb',e3,ew,hk]
 refine aH.fX (y6 hv (aT h nb (dJ p sz (st+1) 0)) nb (st+1) 0 e.aN env funcs (aI _ _ _) aA aA hkl (fF hok aA) gF hf henv aA) ?_
 rintro r h' ⟨vs,t1,c1,rfl,rfl,hvl,hvs,a1,a2,a3⟩
 have hv0:=iH hvs (i:=0) aA
 simp -dsimp -implicitDefEqProofs only[go_sem,↓reduceIte,Tryz.f206,dJ]
 refine⟨λhc=>?_,λhc=>?_⟩
 ·have hc':¬c1=0:=by simpa using hc
  refine aH.fX (mC _ nb _ _ _ 0 sz (aI _ _ _) hsz) ?_
  rintro r h' ⟨rfl,rfl⟩
  simp -dsimp -implicitDefEqProofs only[go_sem,↓reduceIte,Tryz.f206]
  refine⟨_,aT h nb (dJ p sz t1 c1),cT tL,_,t1,c1,rfl,rfl,cS gZ,by omega,a2,?_⟩
  rw[pM h3 aA]
  exact a3.dU aJM
 have hc':c1=0:=by simpa using hc
 subst hc'
 have g0:vs[Int.toNat 0]?=some (vs.getD 0 []):=jZ aA
 have g1:vs[Int.toNat 1]?=some (vs.getD 1 []):=jZ aA
 have hv1:=iH hvs (i:=1) aA
 try simp -dsimp -implicitDefEqProofs only[go_sem,↓reduceIte,Tryz.f206,hk,aL,g0,g1]
 refine⟨by omega,by omega,?_⟩
 refine aH.mk (reduced (vs.getD 0 []) (vs.getD 1 []) aYE aM4 hv0.2 hv1.2) ?_
 simp -dsimp -implicitDefEqProofs only[go_sem,↓reduceIte,Tryz.f206]
 refine⟨_,aT h nb (dJ p sz t1 0),cT aM1,_,t1,0,rfl,rfl,jO hv0 hv1,by omega,a2,?_⟩
 rw[pM h3 aA]
 refine a3.dU ?_
 rw[cZ,hk]
 exact lR _ _
theorem bBJ {p:aF} (hp:p.ok) {sz n:Nat} (hsz:1<=sz/\sz<=1048576) (hv:oY p sz n) (h:aB) (nb st:Nat) (e:aC) (env:List (List Int)) (funcs:Int) (hb:h nb=some (dJ p sz st 0)) (hst:st<3000) (hn:3001<=n+1+st)
  (hok:e.ok p funcs env.length) (gF:0<=funcs) (hf:funcs<=p.aK.length) (henv:∀ s∈env,aW sz s) (hel:env.length<=412+st) (hk:e.aS=5) :
  iD Tryz.prog 206 [.op nb 4 0 0,.agg e.c,bL env] h (EvQ h nb p sz st 0 (iZ p sz (n+1) st e env)):=by
 rw[aC.aY]
 have hb':=hb
 unfold dJ at hb'
 have e3:((st:Int)=3000)=False:=eq_false aA
 have ew:IntKind.i64.wrap ((st:Int)+1)=((st+1:Nat):Int):=by rw[IntWalk.i64_in _ aA];rfl
 have hnode:=(aC.dK _ _ _ _).1 hok
 have h3:¬st=3000:=by omega
 have hlen:=eD hok aA
 rw[hk,show eO 5=2 from rfl]at hlen
 have hkl:e.aN.length<=1048576:=by omega
 refine jU 210 oX xS xT Tryz.func206 ?_
 simp -dsimp -implicitDefEqProofs only[go_sem,↓reduceIte,Tryz.f206,hb',e3,ew,hk]
 refine aH.fX (y6 hv (aT h nb (dJ p sz (st+1) 0)) nb (st+1) 0 e.aN env funcs (aI _ _ _) aA aA hkl (fF hok aA) gF hf henv aA) ?_
 rintro r h' ⟨vs,t1,c1,rfl,rfl,hvl,hvs,a1,a2,a3⟩
 have hv0:=iH hvs (i:=0) aA
 simp -dsimp -implicitDefEqProofs only[go_sem,↓reduceIte,Tryz.f206,dJ]
 refine⟨λhc=>?_,λhc=>?_⟩
 ·have hc':¬c1=0:=by simpa using hc
  refine aH.fX (mC _ nb _ _ _ 0 sz (aI _ _ _) hsz) ?_
  rintro r h' ⟨rfl,rfl⟩
  simp -dsimp -implicitDefEqProofs only[go_sem,↓reduceIte,Tryz.f206]
  refine⟨_,aT h nb (dJ p sz t1 c1),cT tL,_,t1,c1,rfl,rfl,cS gZ,by omega,a2,?_⟩
  rw[pM h3 aA]
  exact a3.dU aJM
 have hc':c1=0:=by simpa using hc
 subst hc'
 have g0:vs[Int.toNat 0]?=some (vs.getD 0 []):=jZ aA
 have g1:vs[Int.toNat 1]?=some (vs.getD 1 []):=jZ aA
 have hv1:=iH hvs (i:=1) aA
 try simp -dsimp -implicitDefEqProofs only[go_sem,↓reduceIte,Tryz.f206,hk,aL,g0,g1]
 refine⟨by omega,by omega,?_⟩
 refine aH.mk (product (vs.getD 0 []) (vs.getD 1 []) aYE aM4 hv0.2 hv1.2) ?_
 simp -dsimp -implicitDefEqProofs only[go_sem,↓reduceIte,Tryz.f206]
 refine⟨_,aT h nb (dJ p sz t1 0),cT aM1,_,t1,0,rfl,rfl,cF _ hv0,by omega,a2,?_⟩
 rw[pM h3 aA]
 refine a3.dU ?_
 rw[cZ,hk]
 exact lR _ _
theorem bBK {p:aF} (hp:p.ok) {sz n:Nat} (hsz:1<=sz/\sz<=1048576) (hv:oY p sz n) (h:aB) (nb st:Nat) (e:aC) (env:List (List Int)) (funcs:Int) (hb:h nb=some (dJ p sz st 0)) (hst:st<3000) (hn:3001<=n+1+st)
  (hok:e.ok p funcs env.length) (gF:0<=funcs) (hf:funcs<=p.aK.length) (henv:∀ s∈env,aW sz s) (hel:env.length<=412+st) (hk:e.aS=6) :
  iD Tryz.prog 206 [.op nb 4 0 0,.agg e.c,bL env] h (EvQ h nb p sz st 0 (iZ p sz (n+1) st e env)):=by
 rw[aC.aY]
 have hb':=hb
 unfold dJ at hb'
 have e3:((st:Int)=3000)=False:=eq_false aA
 have ew:IntKind.i64.wrap ((st:Int)+1)=((st+1:Nat):Int):=by rw[IntWalk.i64_in _ aA];rfl
 have hnode:=(aC.dK _ _ _ _).1 hok
 have h3:¬st=3000:=by omega
 have hlen:=eD hok aA
 rw[hk,show eO 6=2 from rfl]at hlen
 have hkl:e.aN.length<=1048576:=by omega
 refine jU 210 oX xS xT Tryz.func206 ?_
 simp -dsimp -implicitDefEqProofs only[go_sem,↓reduceIte,Tryz.f206,hb',e3,ew,hk]
 refine aH.fX (y6 hv (aT h nb (dJ p sz (st+1) 0)) nb (st+1) 0 e.aN env funcs (aI _ _ _) aA aA hkl (fF hok aA) gF hf henv aA) ?_
 rintro r h' ⟨vs,t1,c1,rfl,rfl,hvl,hvs,a1,a2,a3⟩
 have hv0:=iH hvs (i:=0) aA
 simp -dsimp -implicitDefEqProofs only[go_sem,↓reduceIte,Tryz.f206,dJ]
 refine⟨λhc=>?_,λhc=>?_⟩
 ·have hc':¬c1=0:=by simpa using hc
  refine aH.fX (mC _ nb _ _ _ 0 sz (aI _ _ _) hsz) ?_
  rintro r h' ⟨rfl,rfl⟩
  simp -dsimp -implicitDefEqProofs only[go_sem,↓reduceIte,Tryz.f206]
  refine⟨_,aT h nb (dJ p sz t1 c1),cT tL,_,t1,c1,rfl,rfl,cS gZ,by omega,a2,?_⟩
  rw[pM h3 aA]
  exact a3.dU aJM
 have hc':c1=0:=by simpa using hc
 subst hc'
 have g0:vs[Int.toNat 0]?=some (vs.getD 0 []):=jZ aA
 have g1:vs[Int.toNat 1]?=some (vs.getD 1 []):=jZ aA
 have hv1:=iH hvs (i:=1) aA
 have gs:(vs.getD 1 [])[Int.toNat 0]?=some ((vs.getD 1 []).getD 0 0):=bW (by rw[hv1.1];omega)
 try simp -dsimp -implicitDefEqProofs only[go_sem,↓reduceIte,Tryz.f206,hk,aL,g0,g1,gs]
 refine⟨by omega,by rw[hv1.1];omega,λhz=>?_,λhz=>?_⟩
 ·refine aH.fX (mC _ nb _ _ _ 0 sz (aI _ _ _) hsz) ?_
  rintro r h' ⟨rfl,rfl⟩
  simp -dsimp -implicitDefEqProofs only[go_sem,↓reduceIte,Tryz.f206]
  refine⟨_,aT h nb (dJ p sz t1 6),cT aM1,_,t1,6,rfl,rfl,cS gZ,by omega,a2,?_⟩
  rw[pM h3 aA]
  refine a3.dU ?_
  rw[cZ,hk]
  have:opE 6 vs t1=.error 6:=by rw[opE,if_neg b6,if_neg b6,if_neg b6,if_neg b6,if_pos hz]
  rw[this]
  exact lB _ _ b6
 ·try simp -dsimp -implicitDefEqProofs only[go_sem,↓reduceIte,Tryz.f206,hk,aL,g0,g1,gs]
  refine⟨by omega,by omega,?_⟩
  refine aH.mk (quotient (vs.getD 0 []) (vs.getD 1 []) aYE aM4 aM4 hv0.2 hv1.2) ?_
  simp -dsimp -implicitDefEqProofs only[go_sem,↓reduceIte,Tryz.f206]
  refine⟨_,aT h nb (dJ p sz t1 0),cT aM1,_,t1,0,rfl,rfl,k8 _ hv0,by omega,a2,?_⟩
  rw[pM h3 aA]
  refine a3.dU ?_
  rw[cZ,hk]
  have:opE 6 vs t1=.ok (gG (vs.getD 0 []) (vs.getD 1 []),t1):=by rw[opE,if_neg b6,if_neg b6,if_neg b6,if_neg b6,if_neg hz]
  rw[this]
  exact lR _ _
theorem a6K {p:aF} (hp:p.ok) {sz n:Nat} (hsz:1<=sz/\sz<=1048576) (hv:oY p sz n) (h:aB) (nb st:Nat) (e:aC) (env:List (List Int)) (funcs:Int) (hb:h nb=some (dJ p sz st 0)) (hst:st<3000) (hn:3001<=n+1+st)
  (hok:e.ok p funcs env.length) (gF:0<=funcs) (hf:funcs<=p.aK.length) (henv:∀ s∈env,aW sz s) (hel:env.length<=412+st) (hk:e.aS=11) :
  iD Tryz.prog 206 [.op nb 4 0 0,.agg e.c,bL env] h (EvQ h nb p sz st 0 (iZ p sz (n+1) st e env)):=by
 rw[aC.aY]
 have hb':=hb
 unfold dJ at hb'
 have e3:((st:Int)=3000)=False:=eq_false aA
 have ew:IntKind.i64.wrap ((st:Int)+1)=((st+1:Nat):Int):=by rw[IntWalk.i64_in _ aA];rfl
 have hnode:=(aC.dK _ _ _ _).1 hok
 have h3:¬st=3000:=by omega
 obtain⟨f,F⟩:=nS hp hok hf (.inr hk)
 have hkl:e.aN.length<=1048576:=by have:=F.kids;have:=F.params;omega
 have f1:=F.lo
 have f2:=F.hi
 have f3:=F.pk
 have f4:=F.pk2
 have f5:=F.kids
 have f6:=F.params
 have f7:=F.loop hk
 have f8:=F.outs
 refine jU 210 oX xS xT Tryz.func206 ?_
 simp -dsimp -implicitDefEqProofs only[go_sem,↓reduceIte,Tryz.f206,hb',e3,ew,hk]
 refine aH.fX (y6 hv (aT h nb (dJ p sz (st+1) 0)) nb (st+1) 0 e.aN env funcs (aI _ _ _) aA aA hkl (fF hok aA) gF hf henv aA) ?_
 rintro r h' ⟨vs,t1,c1,rfl,rfl,hvl,hvs,a1,a2,a3⟩
 simp -dsimp -implicitDefEqProofs only[go_sem,↓reduceIte,Tryz.f206,dJ]
 refine⟨λhc=>?_,λhc=>?_⟩
 ·have hc':¬c1=0:=by simpa using hc
  refine aH.fX (mC _ nb _ _ _ 0 sz (aI _ _ _) hsz) ?_
  rintro r h' ⟨rfl,rfl⟩
  simp -dsimp -implicitDefEqProofs only[go_sem,↓reduceIte,Tryz.f206]
  refine⟨_,aT h nb (dJ p sz t1 c1),cT tL,_,t1,c1,rfl,rfl,cS gZ,by omega,a2,?_⟩
  rw[aGE h3 hk]
  exact a3.dU aJM
 have hc':c1=0:=by simpa using hc
 subst hc'
 try simp -dsimp -implicitDefEqProofs only[go_sem,↓reduceIte,Tryz.f206,hk,aL]
 have hiter:∀ (k:Nat) (us:List (List Int)) (t:Nat) (c:Int),jN (qM (λvs t=>l3 (λt e=>iZ p sz n t e vs) (p.outs e.bA) t) k vs t1) us t c->k<=e.cH.toNat->(¬c=0∨k=e.cH.toNat)->jN (pL 0 (iZ p sz (n+1) st e env)) (us.getD e.cV.toNat []) t c:=λk us t c ho hk1 hor=>by
  rw[aGE h3 hk]
  refine a3.dU ?_
  rw[cZ]
  refine jN.then (v:=us) (t:=t) (c:=c) ?_ (gW _ _ _)
  rcases hor with hc|rfl
  ·have:=ho.err hc
   rw[aNJ _ k hk1 this]
   exact lB _ _ hc
  ·exact ho
 refine cM oX xS xT (λx:Nat×List (List Int)×Nat×Int=>[(0,.op nb 4 0 0),(4,.ip 5 [[I 11,I e.bA,I e.cV,I e.cH,gT 5 aC.c e.aN]] 0 0),(7,bL x.2.1),(8,I x.1)]) (λx=>aT h nb (dJ p sz x.2.2.1 x.2.2.2)) (λx=>x.1<=e.cH.toNat/\x.2.1.length=f.aU.length/\(∀ s∈x.2.1,aW sz s)/\t1<=x.2.2.1/\x.2.2.1<=3000/\jN (qM (λvs t=>l3 (λt e=>iZ p sz n t e vs) (p.outs e.bA) t) x.1 vs t1) x.2.1 x.2.2.1 x.2.2.2) (λx=>e.cH.toNat-x.1) (0,vs,t1,0) ⟨by simp[cR,bZ],aB.le_refl _,eM _,by simp only;omega,hvs,bY _,a2,lR _ _⟩ ?_
 rintro⟨k,us,t,c⟩ ⟨hk1,hul,hus,ht0,ht,ho⟩
 simp only at hk1 hul hus ht0 ht ho ⊢
 have gp:us[e.cV.toNat]?=some (us.getD e.cV.toNat []):=jZ aA
 simp -dsimp -implicitDefEqProofs only[go_sem,↓reduceIte,Tryz.f206,dJ,F.get,aV.aY,gp]
 refine⟨λhlt=>⟨λhc=>⟨f1,f2,?_⟩,λhc=>?_⟩,λhge=>?_⟩
 ·subst hc
  refine aH.fX (y6 hv (aT h nb (dJ p sz t 0)) nb t 0 f.aU us e.bA (aI _ _ _) ht aA aA (by rw[hul,f7.2.2];exact F.oks) f1 aA hus aA) ?_
  rintro r h' ⟨l2,t2,c2,rfl,rfl,hl2,wO,b1,b2,b3⟩
  simp -dsimp -implicitDefEqProofs only[go_sem,↓reduceIte,Tryz.f206]
  refine⟨(k+1,l2,t2,c2),⟨rfl,by rw[IntWalk.i64_in _ aA];rfl⟩,by simp only[aL];exact aB.le_refl _,⟨by omega,hl2,wO,by simp only;omega,b2,?_⟩,by simp only;omega⟩
  simp only
  rw[yZ]
  refine ho.then ?_
  rw[F.eq]
  exact b3
 ·exact⟨f3,by omega,_,_,bO _ _,us.getD e.cV.toNat [],t,c,rfl,rfl,iH hus aA,by omega,ht,hiter k us t c ho hk1 (.inl hc)⟩
 ·exact⟨f3,by omega,_,_,bO _ _,us.getD e.cV.toNat [],t,c,rfl,rfl,iH hus aA,by omega,ht,hiter k us t c ho hk1 (.inr aA)⟩
theorem value {p:aF} (hp:p.ok) {sz:Nat} (hsz:1<=sz/\sz<=1048576):∀ n,oY p sz n
 |0=>λh nb st c e env funcs hb hst hn=>by omega
 |n+1=>λh nb st c e env funcs hb hst hn hok gF hf henv hel=>by
  have hv:=value hp hsz n
  by_cases hs:¬c=0∨st=3000
  ·exact aV3 hsz h nb st c e env hb hst hs
  have hc:c=0:=a4H λq=>hs (.inl q)
  have h3:st<3000:=by
   rcases bT st 3000 with h|h
   ·exact h
   ·exact absurd (.inr aA) hs
  subst hc
  rcases sD ((aC.dK _ _ _ _).1 hok).1 with hk|hk|hk|hk|hk|hk|hk|hk|hk|hk|hk
  ·exact bBC hp hsz hv h nb st e env funcs hb h3 hn hok gF hf henv hel hk
  ·exact bBD hp hsz hv h nb st e env funcs hb h3 hn hok gF hf henv hel hk
  ·exact bBH hp hsz hv h nb st e env funcs hb h3 hn hok gF hf henv hel hk
  ·exact bBI hp hsz hv h nb st e env funcs hb h3 hn hok gF hf henv hel hk
  ·exact bBJ hp hsz hv h nb st e env funcs hb h3 hn hok gF hf henv hel hk
  ·exact bBK hp hsz hv h nb st e env funcs hb h3 hn hok gF hf henv hel hk
  ·exact bBG hp hsz hv h nb st e env funcs hb h3 hn hok gF hf henv hel hk
  ·exact bBE hp hsz hv h nb st e env funcs hb h3 hn hok gF hf henv hel hk
  ·exact bBF hp hsz hv h nb st e env funcs hb h3 hn hok gF hf henv hel hk
  ·exact a6J hp hsz hv h nb st e env funcs hb h3 hn hok gF hf henv hel hk
  ·exact a6K hp hsz hv h nb st e env funcs hb h3 hn hok gF hf henv hel hk
theorem bE (a b:Int) (ha:iE a) (hb:iE b):fR Tryz.prog 45 [I a,I b] (I (a*b%1000003)):=by
 refine gA 11 aCC cU cG Tryz.func45 λh=>?_
 simp -dsimp -implicitDefEqProofs only[go_sem,↓reduceIte,Tryz.f45]
 first|refine aH.mk (cX a) ?_|refine aG.mk (cX a) ?_|refine aH.bH (cX a) ?_|refine aG.mk (bB.dI (cX a)) ?_
 simp -dsimp -implicitDefEqProofs only[go_sem,↓reduceIte,Tryz.f45]
 first|refine aH.mk (cX b) ?_|refine aG.mk (cX b) ?_|refine aH.bH (cX b) ?_|refine aG.mk (bB.dI (cX b)) ?_
 simp -dsimp -implicitDefEqProofs only[go_sem,↓reduceIte,Tryz.f45]
 have h1:=num_mul ha hb
 have h2:=ha
 have h3:=hb
 unfold iE at h2 h3
 rw[aXF h2.1 aA,aXF h3.1 aA,aVZ h1.1 aA]
@[go_sem] def aZP:List Nat:=[0,1,4,5,6,8,12,15]
theorem aBV (a n:Int) (hn:0<=n) (hn2:n<=4294967296):fR Tryz.prog 133 [I a,I n] (I (pwN (a%1000003) n.toNat)):=by
 refine gA 25 aZP cU cG Tryz.func133 λh=>?_
 simp -dsimp -implicitDefEqProofs only[go_sem,↓reduceIte,Tryz.f133]
 refine⟨λq=>absurd q aA,λ_=>?_⟩
 first|refine aH.mk (cX a) ?_|refine aG.mk (cX a) ?_|refine aH.bH (cX a) ?_|refine aG.mk (bB.dI (cX a)) ?_
 simp -dsimp -implicitDefEqProofs only[go_sem,↓reduceIte,Tryz.f133]
 generalize hT:pwN (a%1000003) n.toNat=T
 refine u3 aZP cU cG (λx:Int×Int×Int=>[(1,I x.2.2),(5,I x.1),(6,I x.2.1)]) (λx=>(0<=x.1/\x.1<1000003)/\(0<=x.2.1/\x.2.1<1000003)/\(0<=x.2.2/\x.2.2<=4294967296)/\x.1*x.2.1 ^ x.2.2.toNat%1000003=T) (λx=>x.2.2.toNat) (1,a%1000003,n) ⟨by simp[cR,bZ],⟨by simp,by simp⟩,aTD _,⟨hn,hn2⟩,by rw[aCG];exact hT⟩ ?_
 rintro⟨x,b,m⟩ ⟨hx,hb,hm,hp⟩
 simp only at hx hb hm hp ⊢
 have nx:iE x:=by unfold iE;omega
 have nb:iE b:=by unfold iE;omega
 simp -dsimp -implicitDefEqProofs only[go_sem,↓reduceIte,Tryz.f133]
 rw[uR hm.1]
 refine⟨λhg=>⟨λho=>?_,λho=>?_⟩,λhg=>?_⟩
 ·first|refine aH.mk (bE x b nx nb) ?_|refine aG.mk (bE x b nx nb) ?_|refine aH.bH (bE x b nx nb) ?_|refine aG.mk (bB.dI (bE x b nx nb)) ?_
  simp -dsimp -implicitDefEqProofs only[go_sem,↓reduceIte,Tryz.f133]
  first|refine aH.mk (bE b b nb nb) ?_|refine aG.mk (bE b b nb nb) ?_|refine aH.bH (bE b b nb nb) ?_|refine aG.mk (bB.dI (bE b b nb nb)) ?_
  simp -dsimp -implicitDefEqProofs only[go_sem,↓reduceIte,Tryz.f133]
  rw[aXE hm.1,IntWalk.i64_in (m / 2) aA]
  exact⟨(x*b%1000003,b*b%1000003,m / 2),⟨rfl,rfl,rfl⟩,⟨aTD _,aTD _,(show 0<=m / 2/\m / 2<=4294967296 by omega),a6A hm.1 ho hp⟩,by simp only;omega⟩
 ·first|refine aH.mk (bE b b nb nb) ?_|refine aG.mk (bE b b nb nb) ?_|refine aH.bH (bE b b nb nb) ?_|refine aG.mk (bB.dI (bE b b nb nb)) ?_
  simp -dsimp -implicitDefEqProofs only[go_sem,↓reduceIte,Tryz.f133]
  rw[aXE hm.1,IntWalk.i64_in (m / 2) aA]
  exact⟨(x,b*b%1000003,m / 2),⟨rfl,rfl,rfl⟩,⟨hx,aTD _,(show 0<=m / 2/\m / 2<=4294967296 by omega),aZI hm.1 ho hp⟩,by simp only;omega⟩
 ·have:m.toNat=0:=by omega
  rw[this,aZH x b hx]at hp
  exact hp
theorem tF (a:Int):fR Tryz.prog 54 [I a] (I (gJ a)):=by
 refine gA 5 aBA cU cG Tryz.func54 λh=>?_
 simp -dsimp -implicitDefEqProofs only[go_sem,↓reduceIte,Tryz.f54]
 first|refine aH.mk (aBV a 1000001 b6 b6) ?_|refine aG.mk (aBV a 1000001 b6 b6) ?_|refine aH.bH (aBV a 1000001 b6 b6) ?_|refine aG.mk (bB.dI (aBV a 1000001 b6 b6)) ?_
 simp -dsimp -implicitDefEqProofs only[go_sem,↓reduceIte,Tryz.f54]
 rfl
theorem rE (a b:Int) (ha:iE a) (hb:iE b):fR Tryz.prog 107 [I a,I b] (I ((a-b)%1000003)):=by
 unfold iE at ha hb
 refine gA 9 aCC cU cG Tryz.func107 λh=>?_
 simp -dsimp -implicitDefEqProofs only[go_sem,↓reduceIte,Tryz.f107]
 rw[IntWalk.i64_in _ aA]
 first|refine aH.mk (cX (a-b)) ?_|refine aG.mk (cX (a-b)) ?_|refine aH.bH (cX (a-b)) ?_|refine aG.mk (bB.dI (cX (a-b))) ?_
 simp -dsimp -implicitDefEqProofs only[go_sem,↓reduceIte,Tryz.f107]
@[go_sem] def aPM:List Nat:=[0,1,4,5,9]
theorem m6 (n:Int) (sz:Nat) (hs:sz<=1048576):fR Tryz.prog 51 [I n,I sz] (ints (bX n sz)):=by
 rcases a16 sz with rfl|hp
 ·refine mP 14 aPM cU cG Tryz.func51 λh=>?_
  simp -dsimp -implicitDefEqProofs only[go_sem,↓reduceIte,Tryz.f51]
  refine⟨aX,by omega,by omega,λm hm=>⟨λq=>absurd q aA,λ_=>?_⟩⟩
  exact fU [] hm (aB.le_refl _) rfl
 ·have e2:=y5 (x:=[aE.int .i64 0]) hp
  refine mP 14 aPM cU cG Tryz.func51 λh=>?_
  simp -dsimp -implicitDefEqProofs only[go_sem,↓reduceIte,Tryz.f51,r8,e2]
  refine⟨aX,bY _,by omega,by omega,λm hm=>⟨λ_=>⟨by omega,?_⟩,λq=>absurd q aA⟩⟩
  rw[aL,show Int.toNat 0=0 from rfl,xR]
  exact fU _ hm (aB.le_refl _) (gE n sz).symm
theorem sY (a:List Int) (m:Int) (hm:iE m) (hl:a.length<=1048576) (ha:eI a):fR Tryz.prog 131 [ints a,I m] (ints (eJ a m)):=by
 have hc:=qV a m
 refine mP 24 aHW aNE cG Tryz.func131 λh=>?_
 simp -dsimp -implicitDefEqProofs only[go_sem,↓reduceIte,Tryz.f131]
 refine⟨aX,?_⟩
 refine cM aHW aNE cG (λx:Nat×Option Nat=>[(0,ints a),(1,I m),(5,fT 1 ((eJ a m).take x.1).length x.2),(6,I x.1)]) (λx=>cQ h (.row 1 ((((eJ a m).take x.1).map λn=>[I n]).map (List.map .v))) x.2) (λx=>x.1<=a.length/\eU h ((eJ a m).take x.1) x.2) (λx=>a.length-x.1) (0,none) ⟨by simp[cR,bZ,fT],by simp only[aM];exact aB.le_refl _,eM _,by simp[eU]⟩ ?_
 rintro⟨k,o⟩ ⟨hk,hos⟩
 simp only at hk hos ⊢
 rcases bT k a.length with hlt|hge
 ·have ea:a[k]?=some a[k]:=fC hlt
  have hy:(eJ a m).take (k+1)=(eJ a m).take k++[(eJ a m)[k]'aA]:=iW aA
  have hv:(eJ a m)[k]'aA=a[k]*m%1000003:=by simp[eJ]
  have hlk:((eJ a m).take k).length=k:=by rw[nU];omega
  rw[hv]at hy
  cases o with
  |none =>
   rw[aZ]at hos
   rw[hos]at hy ⊢
   simp -dsimp -implicitDefEqProofs only[go_sem,↓reduceIte,Tryz.f131,bD,aM,hlt,ea]
   intro _
   first|refine aH.mk (bE a[k] m (ha _ (lF hlt)) hm) ?_|refine aG.mk (bE a[k] m (ha _ (lF hlt)) hm) ?_|refine aH.bH (bE a[k] m (ha _ (lF hlt)) hm) ?_|refine aG.mk (bB.dI (bE a[k] m (ha _ (lF hlt)) hm)) ?_
   simp -dsimp -implicitDefEqProofs only[go_sem,↓reduceIte,Tryz.f131]
   repeat'(with_reducible first|intro _|refine And.intro ?_ ?_)
   all_goals try(first|omega|decide)
   rename_i b hb
   refine⟨(k+1,some b),?_⟩
   simp only[hy]
   refine⟨⟨rfl,?_⟩,aB.le_refl _,⟨by omega,hb⟩,by omega⟩
   rw[IntWalk.i64_in _ aA];rfl
  |some n =>
   rw[aP]at hos
   simp -dsimp -implicitDefEqProofs only[go_sem,↓reduceIte,Tryz.f131,aQ,aJ,hlt,ea]
   intro _
   first|refine aH.mk (bE a[k] m (ha _ (lF hlt)) hm) ?_|refine aG.mk (bE a[k] m (ha _ (lF hlt)) hm) ?_|refine aH.bH (bE a[k] m (ha _ (lF hlt)) hm) ?_|refine aG.mk (bB.dI (bE a[k] m (ha _ (lF hlt)) hm)) ?_
   simp -dsimp -implicitDefEqProofs only[go_sem,↓reduceIte,Tryz.f131]
   repeat'(with_reducible first|intro _|refine And.intro ?_ ?_)
   all_goals try(first|omega|decide|exact bY _)
   rename_i b hb
   refine⟨(k+1,some b),?_⟩
   simp only[hy,aJ,aQ,aP]
   refine⟨⟨by rw[nT];rfl,?_⟩,?_,⟨by omega,hb.2⟩,by omega⟩
   ·rw[IntWalk.i64_in _ aA];rfl
   ·rw[←dS];exact jL hos
 ·have hk':k=a.length:=by omega
  subst hk'
  rw[hJ aA]at hos ⊢
  cases o with
  |none =>
   rw[aZ]at hos
   simp -dsimp -implicitDefEqProofs only[go_sem,↓reduceIte,Tryz.f131,bD,aM,bV,cY]
   intro _
   rw[hos]
   exact Shift.of (Sub.loose _ _ _) (aB.le_refl _)
  |some n =>
   rw[aP]at hos
   simp -dsimp -implicitDefEqProofs only[go_sem,↓reduceIte,Tryz.f131,aQ,aJ,bV,cY]
   intro _
   exact fU _ hos (aB.le_refl _) rfl
@[go_sem] def bFJ:List Nat:=[7,24]
@[go_sem] def bFK:Marks:=λid=>match id with|5=>([11],(.op 0 (.op 1 (.op 2 (.op 3 (.op 4 (.op 5 (.op 6 (.op 7 (.op 8 (.op 9 (.op 10 (.op 11 (.op 12 .nil))))))))))))),[])|_=>([],.nil,[])
theorem aBD (a b:List Int) (hab:b.length=a.length) (hl:a.length<=1048576) (ha:eI a) (hb:eI b):fR Tryz.prog 129 [ints a,ints b] (ints (iA a b)):=by
 have hc:=aTA hab
 refine mP 27 aHW bFJ bFK Tryz.func129 λh=>?_
 simp -dsimp -implicitDefEqProofs only[go_sem,↓reduceIte,Tryz.f129]
 refine⟨aX,?_⟩
 refine cM aHW bFJ bFK (λx:Nat×Option Nat=>[(0,ints a),(1,ints b),(5,fT 1 ((iA a b).take x.1).length x.2),(6,I x.1)]) (λx=>cQ h (.row 1 ((((iA a b).take x.1).map λn=>[I n]).map (List.map .v))) x.2) (λx=>x.1<=a.length/\eU h ((iA a b).take x.1) x.2) (λx=>a.length-x.1) (0,none) ⟨by simp[cR,bZ,fT],by simp only[aM];exact aB.le_refl _,eM _,by simp[eU]⟩ ?_
 rintro⟨k,o⟩ ⟨hk,hos⟩
 simp only at hk hos ⊢
 rcases bT k a.length with hlt|hge
 ·have ea:a[k]?=some a[k]:=fC hlt
  have eb:b[k]?=some (b[k]'aA):=fC aA
  have hy:(iA a b).take (k+1)=(iA a b).take k++[(iA a b)[k]'aA]:=iW aA
  have hv:(iA a b)[k]'aA=(a[k]+b[k]'aA)%1000003:=by simp[iA]
  have hlk:((iA a b).take k).length=k:=by rw[nU];omega
  rw[hv]at hy
  cases o with
  |none =>
   rw[aZ]at hos
   rw[hos]at hy ⊢
   simp -dsimp -implicitDefEqProofs only[go_sem,↓reduceIte,Tryz.f129,bD,aM,hlt,ea,eb]
   intro _
   refine⟨by omega,?_⟩
   first|refine aH.mk (kI a[k] (b[k]'aA)) ?_|refine aG.mk (kI a[k] (b[k]'aA)) ?_|refine aH.bH (kI a[k] (b[k]'aA)) ?_|refine aG.mk (bB.dI (kI a[k] (b[k]'aA))) ?_
   simp -dsimp -implicitDefEqProofs only[go_sem,↓reduceIte,Tryz.f129]
   repeat'(with_reducible first|intro _|refine And.intro ?_ ?_)
   all_goals try(first|omega|decide)
   rename_i b hb
   refine⟨(k+1,some b),?_⟩
   simp only[hy]
   refine⟨⟨rfl,?_⟩,aB.le_refl _,⟨by omega,hb⟩,by omega⟩
   rw[IntWalk.i64_in _ aA];rfl
  |some n =>
   rw[aP]at hos
   simp -dsimp -implicitDefEqProofs only[go_sem,↓reduceIte,Tryz.f129,aQ,aJ,hlt,ea,eb]
   intro _
   refine⟨by omega,?_⟩
   first|refine aH.mk (kI a[k] (b[k]'aA)) ?_|refine aG.mk (kI a[k] (b[k]'aA)) ?_|refine aH.bH (kI a[k] (b[k]'aA)) ?_|refine aG.mk (bB.dI (kI a[k] (b[k]'aA))) ?_
   simp -dsimp -implicitDefEqProofs only[go_sem,↓reduceIte,Tryz.f129]
   repeat'(with_reducible first|intro _|refine And.intro ?_ ?_)
   all_goals try(first|omega|decide|exact bY _)
   rename_i b hb
   refine⟨(k+1,some b),?_⟩
   simp only[hy,aJ,aQ,aP]
   refine⟨⟨by rw[nT];rfl,?_⟩,?_,⟨by omega,hb.2⟩,by omega⟩
   ·rw[IntWalk.i64_in _ aA];rfl
   ·rw[←dS];exact jL hos
 ·have hk':k=a.length:=by omega
  subst hk'
  rw[hJ aA]at hos ⊢
  cases o with
  |none =>
   rw[aZ]at hos
   simp -dsimp -implicitDefEqProofs only[go_sem,↓reduceIte,Tryz.f129,bD,aM,bV,cY]
   intro _
   rw[hos]
   exact Shift.of (Sub.loose _ _ _) (aB.le_refl _)
  |some n =>
   rw[aP]at hos
   simp -dsimp -implicitDefEqProofs only[go_sem,↓reduceIte,Tryz.f129,aQ,aJ,bV,cY]
   intro _
   exact fU _ hos (aB.le_refl _) rfl
theorem aPN (a b:List Int) (hab:b.length=a.length) (hl:a.length<=1048576) (ha:eI a) (hb:eI b):fR Tryz.prog 75 [ints a,ints b] (ints (kD a b)):=by
 refine gA 9 aCC cU cG Tryz.func75 λh=>?_
 simp -dsimp -implicitDefEqProofs only[go_sem,↓reduceIte,Tryz.f75]
 first|refine aH.mk (sY b 1000002 nO aA hb) ?_|refine aG.mk (sY b 1000002 nO aA hb) ?_|refine aH.bH (sY b 1000002 nO aA hb) ?_|refine aG.mk (bB.dI (sY b 1000002 nO aA hb)) ?_
 simp -dsimp -implicitDefEqProofs only[go_sem,↓reduceIte,Tryz.f75]
 first|refine aH.mk (aBD a (eJ b 1000002) aRR hl ha (dM _ ⟨rfl,hb⟩).2) ?_|refine aG.mk (aBD a (eJ b 1000002) aRR hl ha (dM _ ⟨rfl,hb⟩).2) ?_|refine aH.bH (aBD a (eJ b 1000002) aRR hl ha (dM _ ⟨rfl,hb⟩).2) ?_|refine aG.mk (bB.dI (aBD a (eJ b 1000002) aRR hl ha (dM _ ⟨rfl,hb⟩).2)) ?_
 simp -dsimp -implicitDefEqProofs only[go_sem,↓reduceIte,Tryz.f75]
 rfl
@[go_sem] def aIN:List Nat:=[0,1,4,5,6,7,8,13,18]
@[go_sem] def aZQ:List Nat:=[9,36]
@[go_sem] def aZR:Marks:=λid=>match id with|9=>([],(.op 0 (.op 1 (.op 2 (.op 3 (.op 4 (.op 5 (.op 6 (.op 7 (.op 8 (.op 9 (.op 10 (.op 11 (.op 12 (.op 13 .nil)))))))))))))),[])|_=>([],.nil,[])
theorem aPO (a b:List Int) (hab:b.length=a.length) (hl:a.length<=1048576) (ha:eI a) (hb:eI b):fR Tryz.prog 130 [ints a,ints b] (ints (mulL a b)):=by
 have hc:=aEY a b
 refine mP 39 aIN aZQ aZR Tryz.func130 λh=>?_
 simp -dsimp -implicitDefEqProofs only[go_sem,↓reduceIte,Tryz.f130]
 refine⟨aX,?_⟩
 refine cM aIN aZQ aZR (λx:Nat×Option Nat=>[(0,ints a),(1,ints b),(5,fT 1 ((mulL a b).take x.1).length x.2),(6,I x.1)]) (λx=>cQ h (.row 1 ((((mulL a b).take x.1).map λn=>[I n]).map (List.map .v))) x.2) (λx=>x.1<=a.length/\eU h ((mulL a b).take x.1) x.2) (λx=>a.length-x.1) (0,none) ⟨by simp[cR,bZ,fT],by simp only[aM];exact aB.le_refl _,eM _,by simp[eU]⟩ ?_
 rintro⟨k,o⟩ ⟨hk,hos⟩
 simp only at hk hos ⊢
 rcases bT k a.length with hlt|hge
 ·have hy:(mulL a b).take (k+1)=(mulL a b).take k++[(mulL a b)[k]'aA]:=iW aA
  have hv:(mulL a b)[k]'aA=yY a b k (k+1):=by simp[mulL]
  have hlk:((mulL a b).take k).length=k:=by rw[nU];omega
  rw[hv]at hy
  cases o with
  |none =>
   rw[aZ]at hos
   rw[hos]at hy ⊢
   simp -dsimp -implicitDefEqProofs only[go_sem,↓reduceIte,Tryz.f130,bD,aM,hlt]
   intro _
   refine u3 aIN aZQ aZR (λi:Nat=>[(0,ints a),(1,ints b),(5,.sl 1 [] true),(6,I k),(7,I (yY a b k i)),(8,I i)]) (λi=>i<=k+1) (λi=>k+1-i) 0 ⟨by simp[cR,bZ,yY],eM _⟩ ?_
   intro i hi
   rcases bT i (k+1)with iV|aBC
   ·have ea:=bW (l:=a) (i:=i) aA
    have eb:=bW (l:=b) (i:=k-i) aA
    have ew:IntKind.i64.wrap ((k:Int)-(i:Int))=((k-i:Nat):Int):=by rw[IntWalk.i64_in _ aA];omega
    simp -dsimp -implicitDefEqProofs only[go_sem,↓reduceIte,Tryz.f130,ea,eb,ew]
    refine⟨λ_=>⟨by omega,by omega,?_⟩,λq=>absurd aA q⟩
    first|refine aH.mk (bE (a.getD i 0) (b.getD (k-i) 0) (ha.get i) (hb.get (k-i))) ?_|refine aG.mk (bE (a.getD i 0) (b.getD (k-i) 0) (ha.get i) (hb.get (k-i))) ?_|refine aH.bH (bE (a.getD i 0) (b.getD (k-i) 0) (ha.get i) (hb.get (k-i))) ?_|refine aG.mk (bB.dI (bE (a.getD i 0) (b.getD (k-i) 0) (ha.get i) (hb.get (k-i)))) ?_
    simp -dsimp -implicitDefEqProofs only[go_sem,↓reduceIte,Tryz.f130]
    first|refine aH.mk (kI (yY a b k i) (a.getD i 0*b.getD (k-i) 0%1000003)) ?_|refine aG.mk (kI (yY a b k i) (a.getD i 0*b.getD (k-i) 0%1000003)) ?_|refine aH.bH (kI (yY a b k i) (a.getD i 0*b.getD (k-i) 0%1000003)) ?_|refine aG.mk (bB.dI (kI (yY a b k i) (a.getD i 0*b.getD (k-i) 0%1000003))) ?_
    simp -dsimp -implicitDefEqProofs only[go_sem,↓reduceIte,Tryz.f130]
    refine⟨i+1,⟨?_,by rw[IntWalk.i64_in _ aA];rfl⟩,by omega,by omega⟩
    rw[yY]
    omega
   ·have hi':i=k+1:=by omega
    subst hi'
    simp -dsimp -implicitDefEqProofs only[go_sem,↓reduceIte,Tryz.f130,hlt]
    refine⟨λq=>absurd q aA,λ_=>?_⟩
    repeat'(with_reducible first|intro _|refine And.intro ?_ ?_)
    all_goals try(first|omega|decide)
    rename_i b hb
    refine⟨(k+1,some b),?_⟩
    simp only[hy]
    refine⟨⟨rfl,?_⟩,aB.le_refl _,⟨by omega,hb⟩,by omega⟩
    rw[IntWalk.i64_in _ aA];rfl
  |some n =>
   rw[aP]at hos
   simp -dsimp -implicitDefEqProofs only[go_sem,↓reduceIte,Tryz.f130,aQ,aJ,hlt]
   intro _
   refine u3 aIN aZQ aZR (λi:Nat=>[(0,ints a),(1,ints b),(5,.os n 1 0 ((mulL a b).take k).length),(6,I k),(7,I (yY a b k i)),(8,I i)]) (λi=>i<=k+1) (λi=>k+1-i) 0 ⟨by simp[cR,bZ,yY],eM _⟩ ?_
   intro i hi
   rcases bT i (k+1)with iV|aBC
   ·have ea:=bW (l:=a) (i:=i) aA
    have eb:=bW (l:=b) (i:=k-i) aA
    have ew:IntKind.i64.wrap ((k:Int)-(i:Int))=((k-i:Nat):Int):=by rw[IntWalk.i64_in _ aA];omega
    simp -dsimp -implicitDefEqProofs only[go_sem,↓reduceIte,Tryz.f130,ea,eb,ew]
    refine⟨λ_=>⟨by omega,by omega,?_⟩,λq=>absurd aA q⟩
    first|refine aH.mk (bE (a.getD i 0) (b.getD (k-i) 0) (ha.get i) (hb.get (k-i))) ?_|refine aG.mk (bE (a.getD i 0) (b.getD (k-i) 0) (ha.get i) (hb.get (k-i))) ?_|refine aH.bH (bE (a.getD i 0) (b.getD (k-i) 0) (ha.get i) (hb.get (k-i))) ?_|refine aG.mk (bB.dI (bE (a.getD i 0) (b.getD (k-i) 0) (ha.get i) (hb.get (k-i)))) ?_
    simp -dsimp -implicitDefEqProofs only[go_sem,↓reduceIte,Tryz.f130]
    first|refine aH.mk (kI (yY a b k i) (a.getD i 0*b.getD (k-i) 0%1000003)) ?_|refine aG.mk (kI (yY a b k i) (a.getD i 0*b.getD (k-i) 0%1000003)) ?_|refine aH.bH (kI (yY a b k i) (a.getD i 0*b.getD (k-i) 0%1000003)) ?_|refine aG.mk (bB.dI (kI (yY a b k i) (a.getD i 0*b.getD (k-i) 0%1000003))) ?_
    simp -dsimp -implicitDefEqProofs only[go_sem,↓reduceIte,Tryz.f130]
    refine⟨i+1,⟨?_,by rw[IntWalk.i64_in _ aA];rfl⟩,by omega,by omega⟩
    rw[yY]
    omega
   ·have hi':i=k+1:=by omega
    subst hi'
    simp -dsimp -implicitDefEqProofs only[go_sem,↓reduceIte,Tryz.f130,hlt]
    refine⟨λq=>absurd q aA,λ_=>?_⟩
    repeat'(with_reducible first|intro _|refine And.intro ?_ ?_)
    all_goals try(first|omega|decide|exact bY _)
    rename_i b hb
    refine⟨(k+1,some b),?_⟩
    simp only[hy,aJ,aQ,aP]
    refine⟨⟨by rw[nT];rfl,?_⟩,?_,⟨by omega,hb.2⟩,by omega⟩
    ·rw[IntWalk.i64_in _ aA];rfl
    ·rw[←dS];exact jL hos
 ·have hk':k=a.length:=by omega
  subst hk'
  rw[hJ aA]at hos ⊢
  cases o with
  |none =>
   rw[aZ]at hos
   simp -dsimp -implicitDefEqProofs only[go_sem,↓reduceIte,Tryz.f130,bD,aM,bV,cY]
   intro _
   rw[hos]
   exact Shift.of (Sub.loose _ _ _) (aB.le_refl _)
  |some n =>
   rw[aP]at hos
   simp -dsimp -implicitDefEqProofs only[go_sem,↓reduceIte,Tryz.f130,aQ,aJ,bV,cY]
   intro _
   exact fU _ hos (aB.le_refl _) rfl
@[go_sem] def aIO:List Nat:=[0,1,4,5,6,7,8,9,18,27]
@[go_sem] def aZS:List Nat:=[10,47]
@[go_sem] def aZT:Marks:=λid=>match id with|10=>([4],(.op 0 (.op 1 (.op 2 (.op 3 (.op 5 (.op 6 (.op 7 (.op 8 (.op 9 (.op 10 (.op 4 (.op 11 (.op 12 (.op 13 .nil)))))))))))))),[])|_=>([],.nil,[])
theorem bIA (a b:List Int) (hab:b.length=a.length) (hl:a.length<=1048576) (h0:0<a.length) (ha:eI a) (hb:eI b):fR Tryz.prog 132 [ints a,ints b] (ints (gG a b)):=by
 have hc:=pT a b
 have e0:b[Int.toNat 0]?=some (b.getD 0 0):=bW (l:=b) (i:=0) aA
 refine mP 50 aIO aZS aZT Tryz.func132 λh=>?_
 simp -dsimp -implicitDefEqProofs only[go_sem,↓reduceIte,Tryz.f132,e0]
 refine⟨aX,by omega,?_⟩
 first|refine aH.mk (tF (b.getD 0 0)) ?_|refine aG.mk (tF (b.getD 0 0)) ?_|refine aH.bH (tF (b.getD 0 0)) ?_|refine aG.mk (bB.dI (tF (b.getD 0 0))) ?_
 simp -dsimp -implicitDefEqProofs only[go_sem,↓reduceIte,Tryz.f132]
 refine cM aIO aZS aZT (λx:Nat×Option Nat=>[(0,ints a),(1,ints b),(6,I (gJ (b.getD 0 0))),(5,fT 1 ((gG a b).take x.1).length x.2),(7,I x.1)]) (λx=>cQ h (.row 1 ((((gG a b).take x.1).map λn=>[I n]).map (List.map .v))) x.2) (λx=>x.1<=a.length/\eU h ((gG a b).take x.1) x.2) (λx=>a.length-x.1) (0,none) ⟨by simp[cR,bZ,fT],by simp only[aM];exact aB.le_refl _,eM _,by simp[eU]⟩ ?_
 rintro⟨k,o⟩ ⟨hk,hos⟩
 simp only at hk hos ⊢
 rcases bT k a.length with hlt|hge
 ·have hy:(gG a b).take (k+1)=(gG a b).take k++[(gG a b)[k]'aA]:=iW aA
  have hv:=aEX (a:=a) (b:=b) hlt
  have hlk:((gG a b).take k).length=k:=by rw[nU];omega
  have ek:=bW hlt
  rw[hv]at hy
  cases o with
  |none =>
   rw[aZ]at hos
   rw[hos]at hy ⊢
   have hk0:k=0:=by rw[hos]at hlk;exact hlk.symm
   subst hk0
   simp -dsimp -implicitDefEqProofs only[go_sem,↓reduceIte,Tryz.f132,bD,aM,hlt,ek]
   intro _
   refine u3 aIO aZS aZT (λ_:Unit=>[(0,ints a),(1,ints b),(5,.sl 1 [] true),(6,I (gJ (b.getD 0 0))),(7,I (0:Nat)),(8,I (a.getD 0 0)),(9,I (0:Nat))]) (λ_=>True) (λ_=>0) () ⟨by simp[cR,bZ],trivial⟩ ?_
   intro _ _
   simp -dsimp -implicitDefEqProofs only[go_sem,↓reduceIte,Tryz.f132,bV,cY]
   try(refine⟨λq=>absurd q aA,λ_=>?_⟩)
   first|refine aH.mk (bE (a.getD 0 0) (gJ (b.getD 0 0)) (ha.get 0) (num_inv _)) ?_|refine aG.mk (bE (a.getD 0 0) (gJ (b.getD 0 0)) (ha.get 0) (num_inv _)) ?_|refine aH.bH (bE (a.getD 0 0) (gJ (b.getD 0 0)) (ha.get 0) (num_inv _)) ?_|refine aG.mk (bB.dI (bE (a.getD 0 0) (gJ (b.getD 0 0)) (ha.get 0) (num_inv _))) ?_
   simp -dsimp -implicitDefEqProofs only[go_sem,↓reduceIte,Tryz.f132]
   repeat'(with_reducible first|intro _|refine And.intro ?_ ?_)
   all_goals try(first|omega|decide)
   rename_i b hb
   refine⟨(0+1,some b),?_⟩
   simp only[hy]
   refine⟨⟨rfl,?_⟩,aB.le_refl _,⟨by omega,hb⟩,by omega⟩
   rw[IntWalk.i64_in _ aA];rfl
  |some n =>
   rw[aP]at hos
   simp -dsimp -implicitDefEqProofs only[go_sem,↓reduceIte,Tryz.f132,aQ,aJ,hlt,ek]
   intro _
   have htk:(gG a b).take k=jV a b k:=uM a b _ hk
   refine u3 aIO aZS aZT (λi:Nat=>[(0,ints a),(1,ints b),(5,.os n 1 0 ((gG a b).take k).length),(6,I (gJ (b.getD 0 0))),(7,I k),(8,I (dvS (jV a b k) b k (a.getD k 0) i)),(9,I i)]) (λi=>i<=k) (λi=>k-i) 0 ⟨by simp[cR,bZ,dvS],eM _⟩ ?_
   intro i hi
   rcases bT i k with iV|aBC
   ·have ei:((gG a b).take k)[i]?=some ((jV a b k).getD i 0):=by rw[htk];exact bW (by rw[pS];exact iV)
    have eb:=bW (l:=b) (i:=k-i) aA
    have ew:IntKind.i64.wrap ((k:Int)-(i:Int))=((k-i:Nat):Int):=by rw[IntWalk.i64_in _ aA];omega
    simp -dsimp -implicitDefEqProofs only[go_sem,↓reduceIte,Tryz.f132,iV,ei,eb,ew]
    refine⟨by omega,by omega,?_⟩
    first|refine aH.mk (bE ((jV a b k).getD i 0) (b.getD (k-i) 0) ((u6 a b k).get i) (hb.get (k-i))) ?_|refine aG.mk (bE ((jV a b k).getD i 0) (b.getD (k-i) 0) ((u6 a b k).get i) (hb.get (k-i))) ?_|refine aH.bH (bE ((jV a b k).getD i 0) (b.getD (k-i) 0) ((u6 a b k).get i) (hb.get (k-i))) ?_|refine aG.mk (bB.dI (bE ((jV a b k).getD i 0) (b.getD (k-i) 0) ((u6 a b k).get i) (hb.get (k-i)))) ?_
    simp -dsimp -implicitDefEqProofs only[go_sem,↓reduceIte,Tryz.f132]
    first|refine aH.mk (rE (dvS (jV a b k) b k (a.getD k 0) i) ((jV a b k).getD i 0*b.getD (k-i) 0%1000003) (y3 _ _ _ (ha.get k) i) (dY _)) ?_|refine aG.mk (rE (dvS (jV a b k) b k (a.getD k 0) i) ((jV a b k).getD i 0*b.getD (k-i) 0%1000003) (y3 _ _ _ (ha.get k) i) (dY _)) ?_|refine aH.bH (rE (dvS (jV a b k) b k (a.getD k 0) i) ((jV a b k).getD i 0*b.getD (k-i) 0%1000003) (y3 _ _ _ (ha.get k) i) (dY _)) ?_|refine aG.mk (bB.dI (rE (dvS (jV a b k) b k (a.getD k 0) i) ((jV a b k).getD i 0*b.getD (k-i) 0%1000003) (y3 _ _ _ (ha.get k) i) (dY _))) ?_
    simp -dsimp -implicitDefEqProofs only[go_sem,↓reduceIte,Tryz.f132]
    refine⟨i+1,⟨?_,by rw[IntWalk.i64_in _ aA];rfl⟩,by omega,by omega⟩
    rw[dvS]
    omega
   ·have hi':i=k:=by omega
    subst hi'
    simp -dsimp -implicitDefEqProofs only[go_sem,↓reduceIte,Tryz.f132,bV,cY]
    first|refine aH.mk (bE (dvS (jV a b i) b i (a.getD i 0) i) (gJ (b.getD 0 0)) (y3 _ _ _ (ha.get i) i) (num_inv _)) ?_|refine aG.mk (bE (dvS (jV a b i) b i (a.getD i 0) i) (gJ (b.getD 0 0)) (y3 _ _ _ (ha.get i) i) (num_inv _)) ?_|refine aH.bH (bE (dvS (jV a b i) b i (a.getD i 0) i) (gJ (b.getD 0 0)) (y3 _ _ _ (ha.get i) i) (num_inv _)) ?_|refine aG.mk (bB.dI (bE (dvS (jV a b i) b i (a.getD i 0) i) (gJ (b.getD 0 0)) (y3 _ _ _ (ha.get i) i) (num_inv _))) ?_
    simp -dsimp -implicitDefEqProofs only[go_sem,↓reduceIte,Tryz.f132]
    repeat'(with_reducible first|intro _|refine And.intro ?_ ?_)
    all_goals try(first|omega|decide|exact bY _)
    rename_i b hb
    refine⟨(i+1,some b),?_⟩
    simp only[hy,aJ,aQ,aP]
    refine⟨⟨by rw[nT];rfl,?_⟩,?_,⟨by omega,hb.2⟩,by omega⟩
    ·rw[IntWalk.i64_in _ aA];rfl
    ·rw[←dS];exact jL hos
 ·have hk':k=a.length:=by omega
  subst hk'
  rw[hJ aA]at hos ⊢
  cases o with
  |none =>
   rw[aZ]at hos
   simp -dsimp -implicitDefEqProofs only[go_sem,↓reduceIte,Tryz.f132,bD,aM,bV,cY]
   intro _
   rw[hos]
   exact Shift.of (Sub.loose _ _ _) (aB.le_refl _)
  |some n =>
   rw[aP]at hos
   simp -dsimp -implicitDefEqProofs only[go_sem,↓reduceIte,Tryz.f132,aQ,aJ,bV,cY]
   intro _
   exact fU _ hos (aB.le_refl _) rfl
theorem mI {h h':aB} {n:Nat} (l:List (List Int)) (h0:h n=none) (hl:(aT h n (.row 1 ((l.map λs=>[ints s]).map (List.map .v)))).le h') {len:Nat} (e:len=l.length):Shift (.os n 1 0 len) h' (gT 1 (λs=>[ints s]) l) h :=
 aBS (l.map λs=>[ints s]) h0 hl len (by rw[gX];exact e)
@[go_sem] def bFL:List Nat:=[7,19,23]
theorem aPP (env:List (List Int)) (s:List Int) (hl:env.length<=1048576):fR Tryz.prog 214 [gT 1 (λs=>[ints s]) env,ints s] (gT 1 (λs=>[ints s]) (env++[s])):=by
 refine mP 25 aHW bFL cG Tryz.func214 λh=>?_
 simp -dsimp -implicitDefEqProofs only[go_sem,↓reduceIte,Tryz.f214]
 refine⟨aX,?_⟩
 refine cM aHW bFL cG (λx:Nat×Option Nat=>[(0,gT 1 (λs=>[ints s]) env),(1,ints s),(5,fT 1 (env.take x.1).length x.2),(6,I x.1)]) (λx=>cQ h (.row 1 (((env.take x.1).map λs=>[ints s]).map (List.map .v))) x.2) (λx=>x.1<=env.length/\eU h (env.take x.1) x.2) (λx=>env.length-x.1) (0,none) ⟨by simp[cR,bZ,fT],by simp only[aM];exact aB.le_refl _,eM _,by simp[eU]⟩ ?_
 rintro⟨k,o⟩ ⟨hk,hos⟩
 simp only at hk hos ⊢
 rcases bT k env.length with hlt|hge
 ·have ea:env[k]?=some env[k]:=fC hlt
  have hy:env.take (k+1)=env.take k++[env[k]]:=iW hlt
  have hlk:(env.take k).length=k:=by rw[nU];omega
  cases o with
  |none =>
   rw[aZ]at hos
   rw[hos]at hy ⊢
   simp -dsimp -implicitDefEqProofs only[go_sem,↓reduceIte,Tryz.f214,bD,aM,hlt,ea]
   intro _
   repeat'(with_reducible first|intro _|refine And.intro ?_ ?_)
   all_goals try(first|omega|decide)
   rename_i b hb
   refine⟨(k+1,some b),?_⟩
   simp only[hy]
   refine⟨⟨rfl,?_⟩,aB.le_refl _,⟨by omega,hb⟩,by omega⟩
   rw[IntWalk.i64_in _ aA];rfl
  |some n =>
   rw[aP]at hos
   simp -dsimp -implicitDefEqProofs only[go_sem,↓reduceIte,Tryz.f214,aQ,aJ,hlt,ea]
   intro _
   repeat'(with_reducible first|intro _|refine And.intro ?_ ?_)
   all_goals try(first|omega|decide|exact bY _)
   rename_i b hb
   refine⟨(k+1,some b),?_⟩
   simp only[hy,aJ,aQ,aP]
   refine⟨⟨by rw[nT];rfl,?_⟩,?_,⟨by omega,hb.2⟩,by omega⟩
   ·rw[IntWalk.i64_in _ aA];rfl
   ·rw[←dS];exact jL hos
 ·have hk':k=env.length:=by omega
  subst hk'
  rw[nM]at hos ⊢
  cases o with
  |none =>
   rw[aZ]at hos
   simp -dsimp -implicitDefEqProofs only[go_sem,↓reduceIte,Tryz.f214,bD,aM,bV,cY]
   subst hos
   exact λ_=>⟨aX,aX,aX,λn hn=>mI [s] hn (aB.le_refl _) rfl⟩
  |some n =>
   rw[aP]at hos
   simp -dsimp -implicitDefEqProofs only[go_sem,↓reduceIte,Tryz.f214,aQ,aJ,bV,cY]
   exact λ_=>⟨aX,aX,aX,bY _,by omega,by omega,λm hm=>mI (env++[s]) hm.2 (by rw[←dS];exact jL hos) (by rw[nT];rfl)⟩
def eH (p:aF) (sz st:Nat) (c:Int):bU:=.row 4 [[.v (.ip 1 [p.c] 0 0),.v (I sz),.v (I st),.v (I c)]]
def RnQ (h:aB) (nb:Nat) (p:aF) (sz st:Nat) (c:Int) (X:Out (List Int)):aE->aB->Prop:=λr h'=>∃ s t c',r=ints s/\h'=aT h nb (eH p sz t c')/\aW sz s/\st<=t/\t<=3000/\jN (pL c X) s t c'
def bVW (h:aB) (nb:Nat) (p:aF) (sz st:Nat) (c:Int) (n:Nat) (X:Out (List (List Int))):aE->aB->Prop:=λr h'=>∃ l t c',r=bL l/\h'=aT h nb (eH p sz t c')/\l.length=n/\(∀ s∈l,aW sz s)/\st<=t/\t<=3000/\jN (pL c X) l t c'
@[go_sem] def bBL:List Nat:=[0,1,4,9]
theorem aZU (h:aB) (nb:Nat) (p:aF) (sz st:Nat) (c d:Int) (hb:h nb=some (eH p sz st c)) (hsz:sz<=1048576):iD Tryz.prog 213 [.op nb 4 0 0,I d] h λr h'=>r=ints (bX 0 sz)/\h'=aT h nb (eH p sz st (if c=0 then d else c)):=by
 have hb':=hb
 unfold eH at hb'
 refine aHV 19 bBL cU cG Tryz.func213 ?_
 simp -dsimp -implicitDefEqProofs only[go_sem,↓reduceIte,Tryz.f213,hb']
 refine⟨λhc=>?_,λhc=>?_⟩
 ·try simp -dsimp -implicitDefEqProofs only[go_sem,↓reduceIte,Tryz.f213]
  first|refine aH.mk (m6 0 sz hsz) ?_|refine aG.mk (m6 0 sz hsz) ?_|refine aH.bH (m6 0 sz hsz) ?_|refine aG.mk (bB.dI (m6 0 sz hsz)) ?_
  simp -dsimp -implicitDefEqProofs only[go_sem,↓reduceIte,Tryz.f213]
  exact⟨_,by rw[if_pos hc];exact aB.le_refl _,rfl⟩
 ·try simp -dsimp -implicitDefEqProofs only[go_sem,↓reduceIte,Tryz.f213,hb']
  first|refine aH.mk (m6 0 sz hsz) ?_|refine aG.mk (m6 0 sz hsz) ?_|refine aH.bH (m6 0 sz hsz) ?_|refine aG.mk (bB.dI (m6 0 sz hsz)) ?_
  simp -dsimp -implicitDefEqProofs only[go_sem,↓reduceIte,Tryz.f213]
  refine⟨_,?_,rfl⟩
  rw[if_neg hc,rA hb]
  exact aB.le_refl _
@[go_sem] def p5:List Nat:=[0,1,2,6,7,8,9,14,25,38,39,50,59,70,82,99,119,142,151,160,169]
@[go_sem] def aAB:Marks:=λid=>match id with|8=>([7,8],(.op 0 (.op 1 (.op 2 (.op 3 (.op 4 (.op 5 (.op 6 (.op 7 (.op 8 (.op 9 .nil)))))))))),[])|19=>([8,9],(.op 0 (.op 1 (.op 2 (.op 3 (.op 4 (.op 5 (.op 6 (.op 7 (.op 8 (.op 9 (.op 10 .nil))))))))))),[])|_=>([],.nil,[])
def sZ (p:aF) (sz n:Nat):Prop:=∀ (h:aB) (nb st:Nat) (c:Int) (e:aC) (env:List (List Int)) (funcs:Int),h nb=some (eH p sz st c)->st<=3000->3001<=n+st->e.ok p funcs env.length->0<=funcs->funcs<=p.aK.length->(∀ s∈env,aW sz s)->env.length<=412+st ->
 iD Tryz.prog 191 [.op nb 4 0 0,.ip 5 [e.c] 0 0,bL env] h (RnQ h nb p sz st c (iZ p sz n st e env))
theorem bIB {l:List aC} {k:Nat} {x:aC} (h:l[k]?=some x) (i:Nat) (hi:i=k):Sub (.ip 5 (l.map aC.c) i 0) (.ip 5 [x.c] 0 0):=by
 subst hi
 exact Sub.ip (by rw[sO,h];rfl) eC
theorem sZ.at {p:aF} {sz n:Nat} (hv:sZ p sz n) {l:List aC} {i:Nat} {e:aC} (hi:l[i]?=some e) (h:aB) (nb st:Nat) (c:Int) (env:List (List Int)) (funcs:Int) (hb:h nb=some (eH p sz st c)) (hst:st<=3000) (hn:3001<=n+st) (hok:e.ok p funcs env.length) (gF:0<=funcs) (hf:funcs<=p.aK.length) (henv:∀ s∈env,aW sz s) (hel:env.length<=412+st) :
  iD Tryz.prog 191 [.op nb 4 0 0,.ip 5 (l.map aC.c) i 0,bL env] h (RnQ h nb p sz st c (iZ p sz n st e env)) :=
 iD.sub (.cons (.refl _) (.cons (bIB hi _ rfl) (.cons (.refl _) .nil))) (hv h nb st c e env funcs hb hst hn hok gF hf henv hel)
theorem aIP {p:aF} {sz n:Nat} (hv:sZ p sz n) (h:aB) (nb st:Nat) (c:Int) (f:aV) (env:List (List Int)) (funcs:Int) (hb:h nb=some (eH p sz st c)) (hst:st<=3000) (hn:3001<=n+st)
  (hl:f.aU.length<=1048576) (hok:∀ e∈f.aU,e.ok p funcs env.length) (gF:0<=funcs) (hf:funcs<=p.aK.length) (henv:∀ s∈env,aW sz s) (hel:env.length<=412+st) :
  iD Tryz.prog 146 [.op nb 4 0 0,.ip 3 [f.c] 0 0,bL env] h (bVW h nb p sz st c f.aU.length (l3 (λt e=>iZ p sz n t e env) f.aU st)):=by
 rw[aV.aY]
 refine jU 32 bE8 bE9 cG Tryz.func146 ?_
 simp -dsimp -implicitDefEqProofs only[go_sem,↓reduceIte,Tryz.f146]
 refine⟨aX,?_⟩
 refine cM bE8 bE9 cG (λx:Nat×List (List Int)×Nat×Int×Option Nat=>[(0,.op nb 4 0 0),(1,.ip 3 [[.str f.lD,I f.aR,gT 5 aC.c f.aU]] 0 0),(2,bL env),(7,fT 1 x.2.1.length x.2.2.2.2),(8,I x.1)]) (λx=>cQ (aT h nb (eH p sz x.2.2.1 x.2.2.2.1)) (.row 1 ((x.2.1.map λs=>[ints s]).map (List.map .v))) x.2.2.2.2) (λx=>x.1<=f.aU.length/\x.2.1.length=x.1/\(∀ s∈x.2.1,aW sz s)/\st<=x.2.2.1/\x.2.2.1<=3000/\jN (pL c (l3 (λt e=>iZ p sz n t e env) (f.aU.take x.1) st)) x.2.1 x.2.2.1 x.2.2.2.1/\eU h x.2.1 x.2.2.2.2) (λx=>f.aU.length-x.1) (0,[],st,c,none) ⟨by simp[cR,bZ,fT],by simp only[aM];rw[rA hb];exact aB.le_refl _,eM _,rfl,by simp,bY _,hst,gW _ _ _,rfl⟩ ?_
 rintro⟨k,vs,t,c',o⟩ ⟨hk,hvl,hvs,ht0,ht,ho,hos⟩
 simp only at hk hvl hvs ht0 ht ho hos ⊢
 rcases bT k f.aU.length with hlt|hge
 ·have ek:f.aU[k]?=some f.aU[k]:=fC hlt
  have hnext:∀ (s:List Int) (t2:Nat) (c2:Int),jN (pL c' (iZ p sz n t f.aU[k] env)) s t2 c2->jN (pL c (l3 (λt e=>iZ p sz n t e env) (f.aU.take (k+1)) st)) (vs++[s]) t2 c2:=λs t2 c2 h3=>by
   rw[iW hlt,xN]
   exact ho.dU (h3.dU (gW _ _ _))
  have hall:∀ s,aW sz s->∀ x∈vs++[s],aW sz x:=λs hs=>u7 hvs hs
  cases o with
  |none =>
   rw[aZ]at hos
   subst hos
   simp -dsimp -implicitDefEqProofs only[go_sem,↓reduceIte,Tryz.f146,bD,aM,hlt,ek]
   intro _
   refine aH.fX (hv.at ek (aT h nb (eH p sz t c')) nb t c' env funcs (aI _ _ _) ht aA (hok _ (lF _)) gF hf henv aA) ?_
   rintro r h' ⟨s,t2,c2,rfl,rfl,hs,h1,h2,h3⟩
   simp -dsimp -implicitDefEqProofs only[go_sem,↓reduceIte,Tryz.f146]
   refine⟨aX,aX,aX,?_⟩
   intro b y7
   obtain⟨mS,fW,fV,mT⟩:=cW (show ¬b=nb from pjx y7)
   have z_b:h b=none:=pjx y7
   refine⟨(k+1,[s],t2,c2,some b),⟨rfl,by rw[IntWalk.i64_in _ aA];rfl⟩,(lG bGW),⟨by omega,by simp only[rU]at hvl;subst hvl;rfl,λx hx=>hall s hs x hx,aDW ht0 h1,h2,hnext s t2 c2 h3,z_b⟩,by simp only;omega⟩
  |some m =>
   rw[aP]at hos
   obtain⟨rC,jJ,jI,nI⟩:=cW (show ¬m=nb from λe=>by rw[e,hb]at hos;cases hos)
   simp -dsimp -implicitDefEqProofs only[go_sem,↓reduceIte,Tryz.f146,aQ,aJ,hlt,ek]
   intro _
   refine aH.fX (hv.at ek (aT (aT h nb (eH p sz t c')) m (.row 1 ((vs.map λs=>[ints s]).map (List.map .v)))) nb t c' env funcs aRP ht aA (hok _ (lF _)) gF hf henv aA) ?_
   rintro r h' ⟨s,t2,c2,rfl,rfl,hs,h1,h2,h3⟩
   simp -dsimp -implicitDefEqProofs only[go_sem,↓reduceIte,Tryz.f146,aD,jJ,jI]
   refine⟨aX,aX,aX,bY _,by omega,by omega,?_⟩
   intro b y7
   obtain⟨mS,fW,fV,mT⟩:=cW (show ¬b=nb from pjx y7)
   obtain⟨rZ,lM,lN,rD⟩:=cW (show ¬b=m from pjx y7)
   have z_b:h b=none:=pjx y7
   refine⟨(k+1,vs++[s],t2,c2,some b),⟨by rw[aQ,nT];rfl,by rw[IntWalk.i64_in _ aA];rfl⟩,?_,⟨by omega,by rw[nT,hvl];rfl,hall s hs,aDW ht0 h1,h2,hnext s t2 c2 h3,z_b⟩,by simp only;omega⟩
   simp only[aJ]
   rw[←dS ints]
   exact(lG bGV)
 ·have hk':k=f.aU.length:=by omega
  subst hk'
  rw[nM]at ho
  cases o with
  |none =>
   rw[aZ]at hos
   subst hos
   simp -dsimp -implicitDefEqProofs only[go_sem,↓reduceIte,Tryz.f146,bD,aM,bV,cY]
   intro _
   exact⟨bL [],_,Shift.of (Sub.loose _ _ _) (aB.le_refl _),[],t,c',rfl,rfl,hvl,hvs,ht0,ht,ho⟩
  |some m =>
   rw[aP]at hos
   simp -dsimp -implicitDefEqProofs only[go_sem,↓reduceIte,Tryz.f146,aQ,aJ,bV,cY]
   intro _
   have hmn:¬m=nb:=λe=>by rw[e,hb]at hos;cases hos
   exact⟨bL vs,_,aBS (vs.map λs=>[ints s]) (h:=aT h nb (eH p sz t c')) (by rw[aD _ _ _ _ hmn,hos]) (aB.le_refl _) _ aX9,vs,t,c',rfl,rfl,hvl,hvs,ht0,ht,ho⟩
end Go.Hl

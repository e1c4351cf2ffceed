/-
  Contracts of functions and laws of the layer over the walk.
-/
import Derived.Test.YtoomflalicffnaaGreatVvA
import Derived.Test.YtoomflalicffnaaGreatHlD
import Derived.Test.YtoomflalicffnaaGreatGn
namespace Go.Hl
open Go.Proofs
set_option linter.unusedVariables false
set_option linter.unusedSimpArgs false
def bJ (n:Nat) (s:List Int):Prop:=s.length=n/\dW s
def gW (a:List Int) (n:Int):List Int:=a.map λx=>x*n%1000003
def lN (a b:List Int):List Int:=jJ a (gW b 1000002)
def x8 (a b:List Int) (k:Nat):Nat->Int
 |0=>0
 |i+1=>(x8 a b k i+a.getD i 0*b.getD (k-i) 0)%1000003
def mulL (a b:List Int):List Int:=(List.range a.length).map λk=>x8 a b k (k+1)
def pwN (b:Int) (n:Nat):Int:=b ^ n%1000003
def gZ (x:Int):Int:=pwN (x%1000003) 1000001
def dvS (o b:List Int) (k:Nat) (r:Int):Nat->Int
 |0=>r
 |i+1=>(dvS o b k r i-o.getD i 0*b.getD (k-i) 0)%1000003
def jP (a b:List Int):Nat->List Int
 |0=>[]
 |k+1=>jP a b k++[dvS (jP a b k) b k (a.getD k 0) k*gZ (b.getD 0 0)%1000003]
def fZ (a b:List Int):List Int:=jP a b a.length
def cS (n:Int) (sz:Nat):List Int:=(List.replicate sz 0).set 0 n
def dE:aD:=.mk 0 0 0 0 []
def aD.pY (e:aD) (i:Nat):aD:=e.aM.getD i dE
def aG.outs (p:aG) (f:Int):List aD:=((p.aK[f.toNat]?).map (·.aS)).getD []
def aG.out (p:aG) (f i:Int):aD:=(p.outs f).getD i.toNat dE
abbrev Out (α:Type):=Except Int (α×Nat)
def Out.andThen {α β:Type} (x:Out α) (f:α->Nat->Out β):Out β:=match x with
 | .ok (a,t)=>f a t
 | .error c=>.error c
def m6 (ev:Nat->aD->Out (List Int)):List aD->Nat->Out (List (List Int))
 | [],t=>.ok ([],t)
 |e::l,t=>(ev t e).andThen λv t=>(m6 ev l t).andThen λvs t=>.ok (v::vs,t)
def sR (f:List (List Int)->Nat->Out (List (List Int))):Nat->List (List Int)->Nat->Out (List (List Int))
 |0,vs,t=>.ok (vs,t)
 |n+1,vs,t=>(f vs t).andThen λvs t=>sR f n vs t
def opE (k:Int) (vs:List (List Int)) (t:Nat):Out (List Int) :=
 if k=3 then .ok (jJ (vs.getD 0 []) (vs.getD 1 []),t)
 else if k=4 then .ok (lN (vs.getD 0 []) (vs.getD 1 []),t)
 else if k=5 then .ok (mulL (vs.getD 0 []) (vs.getD 1 []),t)
 else if k=7 then .ok (gW (vs.getD 0 []) 1000002,t)
 else if (vs.getD 1 []).getD 0 0=0 then .error 6
 else .ok (fZ (vs.getD 0 []) (vs.getD 1 []),t)
def kU (p:aG) (sz:Nat):Nat->Nat->aD->List (List Int)->Out (List Int)
 |0,_,_,_=>.error 7
 |n+1,t,e,env =>
  if t=3000 then .error 7
  else if e.aT=1 then .ok (cS e.bB sz,t+1)
  else if e.aT=2 then .ok (env.getD e.bB.toNat [],t+1)
  else if e.aT=8 then(kU p sz n (t+1) (e.pY 0) env).andThen λc t=>if c.getD 0 0=0 then kU p sz n t (e.pY 1) env else kU p sz n t (e.pY 2) env
  else if e.aT=9 then(kU p sz n (t+1) (e.pY 0) env).andThen λv t=>kU p sz n t (e.pY 1) (env++[v])
  else(m6 (λt e=>kU p sz n t e env) e.aM (t+1)).andThen λvs t =>
   if e.aT=10 then kU p sz n t (p.out e.bB e.c4) vs
   else if e.aT=11 then(sR (λvs t=>m6 (λt e=>kU p sz n t e vs) (p.outs e.bB) t) e.cN.toNat vs t).andThen λvs t=>.ok (vs.getD e.c4.toNat [],t)
   else opE e.aT vs t
def kY {α:Type} (X:Out α) (v:α) (t:Nat) (c:Int):Prop:=match X with
 | .ok (w,u)=>c=0/\v=w/\t=u
 | .error d=>c=d/\d≠0
def rH {α:Type} (c:Int) (X:Out α):Out α:=if c=0 then X else .error c
theorem eV {α:Type} (X:Out α):rH 0 X=X:=if_pos rfl
theorem u5 {α:Type} {c:Int} (X:Out α) (h:¬c=0):rH c X=.error c:=if_neg h
theorem o6 {α:Type} {c:Int} (v:α) (t:Nat) (h:¬c=0):kY (.error c:Out α) v t c:=⟨rfl,h⟩
theorem s5 {α:Type} (v:α) (t:Nat):kY (.ok (v,t):Out α) v t 0:=⟨rfl,rfl,rfl⟩
theorem jE {α:Type} (v:α) (t:Nat) (c:Int):kY (rH c (.ok (v,t))) v t c:=by
 by_cases e:c=0
 ·subst e;rw[eV];exact s5 v t
 ·rw[u5 _ e];exact o6 v t e
theorem kY.then {α β:Type} {X:Out α} {F:α->Nat->Out β} {v:α} {t:Nat} {c:Int} {v2:β} {t2:Nat} {c2:Int} (h:kY X v t c) (h2:kY (rH c (F v t)) v2 t2 c2):kY (X.andThen F) v2 t2 c2:=by
 cases X with
 |ok p =>
  obtain⟨w,u⟩:=p
  obtain⟨rfl,rfl,rfl⟩:=h
  rw[eV]at h2
  exact h2
 |error d =>
  obtain⟨rfl,h⟩:=h
  rw[u5 _ h]at h2
  exact h2
theorem kY.err {α:Type} {X:Out α} {v:α} {t:Nat} {c:Int} (h:kY X v t c) (hc:¬c=0):X=.error c:=by
 cases X with
 |ok p=>exact absurd h.1 hc
 |error d=>rw[h.1]
theorem kY.fV {α β:Type} {c0:Int} {X:Out α} {F:α->Nat->Out β} {v:α} {t:Nat} {c:Int} {v2:β} {t2:Nat} {c2:Int} (h:kY (rH c0 X) v t c) (h2:kY (rH c (F v t)) v2 t2 c2):kY (rH c0 (X.andThen F)) v2 t2 c2:=by
 by_cases e:c0=0
 ·subst e
  rw[eV]at h ⊢
  exact h.then h2
 ·rw[u5 _ e]at h ⊢
  obtain⟨rfl,h⟩:=h
  rw[u5 _ h]at h2
  exact h2
theorem kY.bML {α:Type} {c0:Int} {X:Out α} {v:α} {t:Nat} {c:Int} (h:kY (rH c0 X) v t c) (hc:c=0):c0=0:=by
 by_cases e:c0=0
 ·exact e
 ·rw[u5 _ e]at h
  exact h.1.symm.trans hc
theorem Out.mS {α β γ:Type} (x:Out α) (f:α->Nat->Out β) (g:β->Nat->Out γ):(x.andThen f).andThen g=x.andThen λa t=>(f a t).andThen g:=by
 cases x <;> rfl
theorem Out.andThen_ok {α β:Type} (a:α) (t:Nat) (f:α->Nat->Out β):Out.andThen (.ok (a,t)) f=f a t:=rfl
theorem aAV (ev:Nat->aD->Out (List Int)) (e:aD):∀ (l:List aD) (t:Nat),m6 ev (l++[e]) t=(m6 ev l t).andThen λvs t=>(ev t e).andThen λv t=>.ok (vs++[v],t)
 | [],t=>rfl
 |x::l,t=>by
  simp only[aTV,m6,aAV ev e l,Out.mS,Out.andThen_ok]
theorem aJE (f:List (List Int)->Nat->Out (List (List Int))):∀ (n:Nat) (vs:List (List Int)) (t:Nat),sR f (n+1) vs t=(sR f n vs t).andThen f
 |0,vs,t=>by
  show(f vs t).andThen (λvs t=>.ok (vs,t))=f vs t
  cases f vs t with
  |ok p=>rfl
  |error c=>rfl
 |n+1,vs,t=>by
  show(f vs t).andThen (λvs t=>sR f (n+1) vs t)=((f vs t).andThen λvs t=>sR f n vs t).andThen f
  rw[Out.mS]
  congr 1
  funext a t
  exact aJE f n a t
theorem eO (n:Int):iW (n%1000003):=by unfold iW;omega
theorem bJ.len {n:Nat} {s:List Int} (h:bJ n s):s.length=n:=h.1
theorem mT {n:Nat} {a b:List Int} (ha:bJ n a) (hb:bJ n b):bJ n (jJ a b):=by
 refine⟨by simp[jJ,ha.1,hb.1],λx hx=>?_⟩
 obtain⟨i,hi,rfl⟩:=wM.1 hx
 simp only[jJ,List.getElem_zipWith]
 exact eO _
theorem eJ {n:Nat} {a:List Int} (k:Int) (ha:bJ n a):bJ n (gW a k):=by
 refine⟨by simp[gW,ha.1],λx hx=>?_⟩
 obtain⟨y,_,rfl⟩:=lA.1 hx
 exact eO _
theorem mU {n:Nat} {a b:List Int} (ha:bJ n a) (hb:bJ n b):bJ n (lN a b):=mT ha (eJ _ hb)
theorem a4D (a b:List Int) (k:Nat):∀ i,iW (x8 a b k i)
 |0=>by unfold x8 iW;omega
 |i+1=>eO _
theorem c6 {n:Nat} {a:List Int} (b:List Int) (ha:bJ n a):bJ n (mulL a b):=by
 refine⟨by simp[mulL,ha.1],λx hx=>?_⟩
 obtain⟨k,_,rfl⟩:=lA.1 hx
 exact a4D _ _ _ _
theorem o8 (a b:List Int):∀ k,(jP a b k).length=k
 |0=>rfl
 |k+1=>by rw[jP,gD,o8 a b k];rfl
theorem uL (a b:List Int):∀ k,dW (jP a b k)
 |0=>λx hx=>by cases hx
 |k+1=>λx hx=>by
  rw[jP,oW,jL]at hx
  rcases hx with hx|rfl
  ·exact uL a b k x hx
  ·exact eO _
theorem k8 {n:Nat} {a:List Int} (b:List Int) (ha:bJ n a):bJ n (fZ a b):=⟨by rw[fZ,o8,ha.1],uL _ _ _⟩
theorem fS {n:Int} {sz:Nat} (h:iW n):bJ sz (cS n sz):=by
 refine⟨by simp[cS],λx hx=>?_⟩
 rw[cS]at hx
 rcases wJ hx with hx|rfl
 ·have:=(aH1.1 hx).2
  subst this;unfold iW;omega
 ·exact h
theorem dW.get {l:List Int} (h:dW l) (i:Nat):iW (l.getD i 0):=by
 rw[gG]
 rcases bT i l.length with hi|hi
 ·rw[eY hi];exact h _ (kM hi)
 ·rw[aNC hi];unfold iW;simp
def hR (s s':List Int):Prop:=(s=[]/\s'=[])∨∃ x a b,s=x::a/\s'=x::b
theorem bFS:hR [] []:=.inl ⟨rfl,rfl⟩
theorem hR.hd {s s':List Int} (h:hR s s'):s.getD 0 0=s'.getD 0 0:=by
 rcases h with⟨rfl,rfl⟩|⟨x,a,b,rfl,rfl⟩ <;> rfl
theorem a4E {a a' b b':List Int} (ha:hR a a') (hb:hR b b'):hR (jJ a b) (jJ a' b'):=by
 rcases ha with⟨rfl,rfl⟩|⟨x,a,a',rfl,rfl⟩
 ·exact .inl ⟨rfl,rfl⟩
 ·rcases hb with⟨rfl,rfl⟩|⟨y,b,b',rfl,rfl⟩
  ·exact .inl ⟨rfl,rfl⟩
  ·exact .inr ⟨_,_,_,rfl,rfl⟩
theorem a4F {a a':List Int} (n:Int) (ha:hR a a'):hR (gW a n) (gW a' n):=by
 rcases ha with⟨rfl,rfl⟩|⟨x,a,a',rfl,rfl⟩
 ·exact .inl ⟨rfl,rfl⟩
 ·exact .inr ⟨_,_,_,rfl,rfl⟩
theorem bFT {a a' b b':List Int} (ha:hR a a') (hb:hR b b'):hR (lN a b) (lN a' b'):=a4E ha (a4F _ hb)
theorem aAW (x:Int) (a b:List Int):∃ t,mulL (x::a) b=(x*b.getD 0 0)%1000003::t:=by
 refine⟨((List.range a.length).map Nat.succ).map λk=>x8 (x::a) b k (k+1),?_⟩
 rw[mulL,tT,List.range_succ_eq_map,p5]
 congr 1
 simp[x8]
theorem bFU {a a' b b':List Int} (ha:hR a a') (hb:hR b b'):hR (mulL a b) (mulL a' b'):=by
 rcases ha with⟨rfl,rfl⟩|⟨x,a,a',rfl,rfl⟩
 ·exact .inl ⟨rfl,rfl⟩
 ·obtain⟨t,h⟩:=aAW x a b
  obtain⟨t',h'⟩:=aAW x a' b'
  rw[h,h',hb.hd]
  exact .inr ⟨_,_,_,rfl,rfl⟩
theorem w9 (x:Int) (a b:List Int):∀ k,∃ t,jP (x::a) b (k+1)=x*gZ (b.getD 0 0)%1000003::t
 |0=>⟨[],rfl⟩
 |k+1=>by
  obtain⟨t,h⟩:=w9 x a b k
  rw[jP,h]
  exact⟨_,rfl⟩
theorem bFV {a a' b b':List Int} (ha:hR a a') (hb:hR b b'):hR (fZ a b) (fZ a' b'):=by
 rcases ha with⟨rfl,rfl⟩|⟨x,a,a',rfl,rfl⟩
 ·exact .inl ⟨rfl,rfl⟩
 ·obtain⟨t,h⟩:=w9 x a b a.length
  obtain⟨t',h'⟩:=w9 x a' b' a'.length
  rw[fZ,fZ,tT,tT,h,h',hb.hd]
  exact .inr ⟨_,_,_,rfl,rfl⟩
theorem a4G (n:Int) (sz sz':Nat):hR (cS n (sz+1)) (cS n (sz'+1)):=by
 rw[cS,cS,aGH,aGH]
 exact .inr ⟨_,_,_,rfl,rfl⟩
def eR:List (List Int)->List (List Int)->Prop
 | [],[]=>True
 |s::l,s'::l'=>hR s s'/\eR l l'
 | _,_=>False
theorem eR.get:∀ {l l':List (List Int)},eR l l'->∀ i,hR (l.getD i []) (l'.getD i [])
 | [],[],_,i=>by simp[bFS]
 |s::l,s'::l',h,0=>h.1
 |s::l,s'::l',h,i+1=>by simpa using eR.get h.2 i
 | [],_::_,h,_=>h.elim
 | _::_,[],h,_=>h.elim
theorem eR.len:∀ {l l':List (List Int)},eR l l'->l.length=l'.length
 | [],[],_=>rfl
 |s::l,s'::l',h=>by simp[eR.len h.2]
 | [],_::_,h=>h.elim
 | _::_,[],h=>h.elim
theorem eR.snoc {s s':List Int} (h:hR s s'):∀ {l l':List (List Int)},eR l l'->eR (l++[s]) (l'++[s'])
 | [],[],_=>⟨h,trivial⟩
 |x::l,x'::l',k=>⟨k.1,eR.snoc h k.2⟩
 | [],_::_,k=>k.elim
 | _::_,[],k=>k.elim
def oR {α:Type} (R:α->α->Prop) (X Y:Out α):Prop:=match X,Y with
 | .ok (v,t),.ok (v',t')=>R v v'/\t=t'
 | .error c,.error c'=>c=c'
 | _,_=>False
theorem oR.bind {α β:Type} {R:α->α->Prop} {S:β->β->Prop} {X Y:Out α} {F G:α->Nat->Out β} (h:oR R X Y) (hf:∀ v v' t,R v v'->oR S (F v t) (G v' t)):oR S (X.andThen F) (Y.andThen G):=by
 cases X with
 |ok p =>
  cases Y with
  |ok q =>
   obtain⟨v,t⟩:=p
   obtain⟨v',t'⟩:=q
   obtain⟨h1,rfl⟩:=h
   exact hf _ _ _ h1
  |error c=>exact h.elim
 |error c =>
  cases Y with
  |ok q=>exact h.elim
  |error d=>exact h
theorem oR.pure {α:Type} {R:α->α->Prop} {v v':α} {t:Nat} (h:R v v'):oR R (.ok (v,t)) (.ok (v',t)):=⟨h,rfl⟩
theorem aAX {ev ev':Nat->aD->Out (List Int)} (h:∀ t e,oR hR (ev t e) (ev' t e)):∀ (l:List aD) (t:Nat),oR eR (m6 ev l t) (m6 ev' l t)
 | [],t=>⟨trivial,rfl⟩
 |e::l,t=>(h t e).bind λv v' t hv=>(aAX h l t).bind λvs vs' t hvs=>oR.pure ⟨hv,hvs⟩
theorem aJF {f g:List (List Int)->Nat->Out (List (List Int))} (h:∀ vs vs' t,eR vs vs'->oR eR (f vs t) (g vs' t)):∀ (n:Nat) (vs vs':List (List Int)) (t:Nat),eR vs vs'->oR eR (sR f n vs t) (sR g n vs' t)
 |0,vs,vs',t,hv=>⟨hv,rfl⟩
 |n+1,vs,vs',t,hv=>(h vs vs' t hv).bind λa a' t ha=>aJF h n a a' t ha
theorem a4H (k:Int) {vs vs':List (List Int)} (t:Nat) (h:eR vs vs'):oR hR (opE k vs t) (opE k vs' t):=by
 have h0:=h.get 0
 have h1:=h.get 1
 unfold opE
 split
 ·exact oR.pure (a4E h0 h1)
 split
 ·exact oR.pure (bFT h0 h1)
 split
 ·exact oR.pure (bFU h0 h1)
 split
 ·exact oR.pure (a4F _ h0)
 rw[h1.hd]
 split
 ·exact rfl
 ·exact oR.pure (bFV h0 h1)
theorem aRZ (p:aG) (sz sz':Nat):∀ (n t:Nat) (e:aD) (env env':List (List Int)),eR env env'->oR hR (kU p (sz+1) n t e env) (kU p (sz'+1) n t e env')
 |0,t,e,env,env',h=>rfl
 |n+1,t,e,env,env',h=>by
  have ih:=aRZ p sz sz' n
  rw[kU,kU]
  split
  ·exact rfl
  split
  ·exact oR.pure (a4G _ _ _)
  split
  ·exact oR.pure (h.get _)
  split
  ·refine(ih _ _ _ _ h).bind λc c' t hc=>?_
   rw[hc.hd]
   split
   ·exact ih _ _ _ _ h
   ·exact ih _ _ _ _ h
  split
  ·exact(ih _ _ _ _ h).bind λv v' t hv=>ih _ _ _ _ (eR.snoc hv h)
  refine(aAX (λt e=>ih t e _ _ h) _ _).bind λvs vs' t hv=>?_
  split
  ·exact ih _ _ _ _ hv
  split
  ·refine(aJF (f:=λvs t=>m6 (λt e=>kU p (sz+1) n t e vs) (p.outs e.bB) t) (g:=λvs t=>m6 (λt e=>kU p (sz'+1) n t e vs) (p.outs e.bB) t) (λa a' u ha=>aAX (λu x=>ih u x a a' ha) (p.outs e.bB) u) e.cN.toNat vs vs' t hv).bind λa a' u ha=>?_
   exact oR.pure (ha.get _)
  ·exact a4H _ _ hv
def evF (p:aG) (sz:Nat) (f:Int) (args:List (List Int)):Out (List (List Int)):=m6 (λt e=>kU p sz 3001 t e args) (p.outs f) 0
theorem aR0 (p:aG) (sz sz':Nat) (f:Int) (args args':List (List Int)) (h:eR args args'):oR eR (evF p (sz+1) f args) (evF p (sz'+1) f args') :=
 aAX (λt e=>aRZ p sz sz' _ t e _ _ h) _ _
theorem a4I (b:Int):∀ n:Nat,(b%1000003) ^ n%1000003=b ^ n%1000003
 |0=>by rw[aLM,aLM]
 |n+1=>by
  rw[aP1,aP1,aLN,a4I b n,Int.emod_emod_of_dvd _ (Int.dvd_refl _),←aLN]
theorem aX2 (x b:Int) (n:Nat):x*b ^ n%1000003=(if n%2=1 then x*b%1000003 else x)*(b*b%1000003) ^ (n / 2)%1000003:=by
 have h2:b ^ n=(b*b) ^ (n / 2)*b ^ (n%2):=by
  rw[show b*b=b ^ 2 by rw[aP1,aP1,aLM,aP2],←Int.pow_mul,←Int.pow_add]
  congr 1;omega
 have h3:∀ y:Int,y*(b*b%1000003) ^ (n / 2)%1000003=y*(b*b) ^ (n / 2)%1000003:=λy=>by
  rw[aLN,a4I,←aLN]
 rw[h3,h2]
 split
 ·rename_i h
  rw[h,aP1,aLM,aP2,aLN (x*b%1000003),Int.emod_emod_of_dvd _ (Int.dvd_refl _),←aLN]
  congr 1
  rw[aLO ((b*b) ^ (n / 2)) b,aV1]
 ·rename_i h
  have:n%2=0:=by omega
  rw[this,aLM,aP3]
theorem aX3 (x b:Int) (hx:0<=x/\x<1000003):x*b ^ 0%1000003=x:=by
 rw[aLM,aP3];omega
theorem a4J {x b m T:Int} (hm:0<=m) (h:m%2=1) (hp:x*b ^ m.toNat%1000003=T):(x*b%1000003)*(b*b%1000003) ^ (m / 2).toNat%1000003=T:=by
 rw[←hp,aX2 x b m.toNat,if_pos aA,show(m / 2).toNat=m.toNat / 2 by omega]
theorem aX4 {x b m T:Int} (hm:0<=m) (h:¬m%2=1) (hp:x*b ^ m.toNat%1000003=T):x*(b*b%1000003) ^ (m / 2).toNat%1000003=T:=by
 rw[←hp,aX2 x b m.toNat,if_neg aA,show(m / 2).toNat=m.toNat / 2 by omega]
theorem aR1 (y:Int):0<=y%1000003/\y%1000003<1000003:=by omega
theorem cQ {l:List Int} {i:Nat} (h:i<l.length):l[i]?=some (l.getD i 0):=by
 rw[gG,eY h];rfl
theorem num_inv (x:Int):iW (gZ x):=eO _
theorem x9 (o b:List Int) (k:Nat) {r:Int} (hr:iW r):∀ i,iW (dvS o b k r i)
 |0=>hr
 |i+1=>eO _
theorem tP (a b:List Int) {k:Nat}:∀ n,k<=n->(jP a b n).take k=jP a b k
 |0,h=>by
  have:k=0:=by omega
  subst this;rfl
 |n+1,h=>by
  rcases bT k (n+1)with h1|h1
  ·rw[jP,List.take_append_of_le_length (by rw[o8];omega),tP a b n aA]
  ·have:k=n+1:=by omega
   subst this
   rw[nI (by rw[o8];omega)]
theorem o9 (a b:List Int):(fZ a b).length=a.length:=o8 _ _ _
theorem a8X (a b:List Int) {k:Nat} (hk:k<=a.length):upL (fZ a b) k=jP a b k++List.replicate (a.length-k) 0:=by
 rw[upL,o9,fZ,tP a b _ hk]
theorem aF8 {a b:List Int} {k i:Nat} (hk:k<=a.length) (hi:i<k):(upL (fZ a b) k)[i]?=some ((jP a b k).getD i 0):=by
 rw[a8X a b hk,tU (by rw[o8];exact hi)]
 exact cQ (by rw[o8];exact hi)
theorem aDS {a b:List Int} {k:Nat} (hk:k<a.length):(fZ a b)[k]'(by rw[o9];exact hk)=dvS (jP a b k) b k (a.getD k 0) k*gZ (b.getD 0 0)%1000003:=by
 have h:=aF8 (a:=a) (b:=b) (k:=k+1) (i:=k) aA aA
 have h2:(jP a b (k+1)).getD k 0=dvS (jP a b k) b k (a.getD k 0) k*gZ (b.getD 0 0)%1000003:=by
  rw[jP,gG,v8 (by rw[o8];omega),o8,sU];rfl
 rw[h2,upL,tU (by rw[mX,o9];omega),aHV aA,eY (by rw[o9];exact hk)]at h
 exact gH h
theorem num_mul {x y:Int} (hx:iW x) (hy:iW y):0<=x*y/\x*y<=1000004000004:=by
 refine⟨Int.mul_nonneg hx.1 hy.1,?_⟩
 have:=Int.mul_le_mul hx.2 hy.2 hy.1 aA
 omega
theorem wO (a:List Int) (n:Int):(gW a n).length=a.length:=by simp[gW]
theorem aDT (a b:List Int):(mulL a b).length=a.length:=by simp[mulL]
theorem vJ {l:List Int} (h:dW l):∀ x∈l,0<=x/\x<1000003:=λx hx=>by have:=h x hx;unfold iW at this;omega
theorem aUI {n:Int} (h0:0<=n) (h1:n<=9223372036854775807):(IntKind.i64.wrap n).tmod 1000003=n%1000003:=by
 rw[IntWalk.i64_in _ aA,wL h0]
theorem a4K {c:List Int} {k:Nat} (hk:k<c.length):(upL c k).set k 0=upL c k:=by
 have h:=aG4 hk
 apply List.ext_getElem?
 intro i
 rw[List.getElem?_set]
 split
 ·subst_vars
  split
  ·exact h.symm
  ·rename_i h2
   rw[aNC aA]
 ·rfl
theorem aX5 {p:aG} {sz n st:Nat} {e:aD} {env:List (List Int)} (h3:¬st=3000) (hk:e.aT=1):kU p sz (n+1) st e env=.ok (cS e.bB sz,st+1):=by rw[kU,if_neg h3,if_pos hk]
theorem aX6 {p:aG} {sz n st:Nat} {e:aD} {env:List (List Int)} (h3:¬st=3000) (hk:e.aT=2):kU p sz (n+1) st e env=.ok (env.getD e.bB.toNat [],st+1):=by rw[kU,if_neg h3,if_neg aA,if_pos hk]
theorem aR2 {p:aG} {sz n st:Nat} {e:aD} {env:List (List Int)} (h3:¬st=3000) (hk:e.aT=8):kU p sz (n+1) st e env=(kU p sz n (st+1) (e.pY 0) env).andThen λc t=>if c.getD 0 0=0 then kU p sz n t (e.pY 1) env else kU p sz n t (e.pY 2) env:=by rw[kU,if_neg h3,if_neg aA,if_neg aA,if_pos hk]
theorem aX7 {p:aG} {sz n st:Nat} {e:aD} {env:List (List Int)} (h3:¬st=3000) (hk:e.aT=9):kU p sz (n+1) st e env=(kU p sz n (st+1) (e.pY 0) env).andThen λv t=>kU p sz n t (e.pY 1) (env++[v]):=by rw[kU,if_neg h3,if_neg aA,if_neg aA,if_neg aA,if_pos hk]
theorem aOD {p:aG} {sz n st:Nat} {e:aD} {env:List (List Int)} (h3:¬st=3000) (hk:e.aT=10):kU p sz (n+1) st e env=(m6 (λt e=>kU p sz n t e env) e.aM (st+1)).andThen λvs t=>kU p sz n t (p.out e.bB e.c4) vs:=by
 rw[kU,if_neg h3,if_neg aA,if_neg aA,if_neg aA,if_neg aA];simp only[if_pos hk]
theorem aOE {p:aG} {sz n st:Nat} {e:aD} {env:List (List Int)} (h3:¬st=3000) (hk:e.aT=11):kU p sz (n+1) st e env=(m6 (λt e=>kU p sz n t e env) e.aM (st+1)).andThen λvs t=>(sR (λvs t=>m6 (λt e=>kU p sz n t e vs) (p.outs e.bB) t) e.cN.toNat vs t).andThen λvs t=>.ok (vs.getD e.c4.toNat [],t):=by
 have h:¬e.aT=10:=by omega
 rw[kU,if_neg h3,if_neg aA,if_neg aA,if_neg aA,if_neg aA];simp only[if_neg h,if_pos hk]
theorem aJG {p:aG} {sz n st:Nat} {e:aD} {env:List (List Int)} (h3:¬st=3000) (hk:e.aT=3∨e.aT=4∨e.aT=5∨e.aT=6∨e.aT=7):kU p sz (n+1) st e env=(m6 (λt e=>kU p sz n t e env) e.aM (st+1)).andThen λvs t=>opE e.aT vs t:=by
 have h:¬e.aT=10:=by omega
 have h2:¬e.aT=11:=by omega
 rw[kU,if_neg h3,if_neg aA,if_neg aA,if_neg aA,if_neg aA];simp only[if_neg h,if_neg h2]
theorem aD.jQ {e:aD} {i:Nat} (h:i<e.aM.length):e.aM[i]?=some (e.pY i):=by
 rw[aD.pY,gG,eY h];rfl
theorem aD.aOF {e:aD} {i:Nat} (h:i<e.aM.length):e.pY i=e.aM[i]:=by
 have:=aD.jQ h
 rw[eY h]at this
 exact(gH this).symm
theorem aD.fM {p:aG} {funcs vars:Int} {e:aD} {i:Nat} (hok:e.ok p funcs vars) (h:i<e.aM.length):(e.pY i).ok p funcs (jG e.aT i vars):=by
 rw[aD.aOF h];exact((aD.eI _ _ _ _).1 hok).2 i h
theorem aD.ld5 (x:aD):(if 5<=x.c.length then some (aE.agg (List.take 5 x.c))else none)=some (.agg x.c):=by
 rw[if_pos (by rw[aD.aRM];exact bX _),nI (by rw[aD.aRM];exact bX _)]
theorem jA {k:Int} {i:Nat} {v:Int} (h:¬(k=9/\i=1)):jG k i v=v:=if_neg h
theorem xA {sz:Nat} {env:List (List Int)} (h:∀ s∈env,bJ sz s) {i:Nat} (hi:i<env.length):bJ sz (env.getD i []):=by
 rw[gG,eY hi];exact h _ (kM hi)
theorem s6 {env:List (List Int)} {i:Nat} (hi:i<env.length):env[i]?=some (env.getD i []):=by
 rw[gG,eY hi];rfl
theorem fI {p:aG} {funcs vars:Int} {e:aD} (hok:e.ok p funcs vars) (hk:¬(e.aT=10∨e.aT=11)):e8 e.aT=e.aM.length:=((eE hk).1 ((aD.eI _ _ _ _).1 hok).1).1
theorem gR {p:aG} {funcs vars:Int} {e:aD} (hok:e.ok p funcs vars) (hk:¬e.aT=9):∀ x∈e.aM,x.ok p funcs vars:=λx hx=>by
 obtain⟨i,hi,rfl⟩:=wM.1 hx
 have:=((aD.eI _ _ _ _).1 hok).2 i hi
 rwa [jA (λq=>hk q.1)]at this
structure bMN (p:aG) (e:aD) (f:aX):Prop where
 get:p.aK[e.bB.toNat]?=some f
 lo:0<=e.bB
 hi:e.bB<p.aK.length
 pk:0<=e.c4
 pk2:e.c4.toNat<f.aS.length
 kids:(e.aM.length:Int)=f.aW
 params:0<=f.aW/\f.aW<=12
 outs:1<=f.aS.length/\f.aS.length<=12
 oks:∀ x∈f.aS,x.ok p e.bB f.aW
 eq:p.outs e.bB=f.aS
 out:f.aS[e.c4.toNat]?=some (p.out e.bB e.c4)
 loop:e.aT=11->0<=e.cN/\e.cN<=8/\(f.aS.length:Int)=f.aW
theorem pF {p:aG} (hp:p.ok) {e:aD} {funcs vars:Int} (hok:e.ok p funcs vars) (hf:funcs<=p.aK.length) (hk:e.aT=10∨e.aT=11):∃ f,bMN p e f:=by
 have h1:=((aD.eI _ _ _ _).1 hok).1
 have h2:=h1
 unfold mD at h1
 rw[if_pos hk]at h1
 have hlt:e.bB.toNat<p.aK.length:=by omega
 have ef:p.aK[e.bB.toNat]?=some p.aK[e.bB.toNat]:=eY hlt
 rw[rY hk ef]at h2
 obtain⟨n1,n2,n3,n4,n5,n6,n7⟩:=h2
 have hF:=hp.2 _ _ ef
 have heq:p.outs e.bB=p.aK[e.bB.toNat].aS:=by rw[aG.outs,ef];rfl
 refine⟨_,⟨ef,n1,by omega,n3,by omega,n5,hF.2.1,by have:=hF.2.2.1;omega,λx hx=>?_,heq,?_,n7⟩⟩
 ·have:=(hF.2.2.2.2.2 x hx).2.2.2.2
  rwa [show((e.bB.toNat:Nat):Int)=e.bB by omega]at this
 ·rw[aG.out,heq,gG,eY aA];rfl
def aFC {α:Type} (X:Out α):Prop:=∀ c,X=.error c->c=6∨c=7
theorem aFC.ok {α:Type} {v:α} {t:Nat}:aFC (.ok (v,t):Out α):=λc h=>by cases h
theorem aFC.then {α β:Type} {X:Out α} {F:α->Nat->Out β} (h:aFC X) (hf:∀ v t,aFC (F v t)):aFC (X.andThen F):=λc hc=>by
 cases X with
 |ok p=>exact hf p.1 p.2 c hc
 |error d=>exact h c (by cases hc;rfl)
theorem aDU {ev:Nat->aD->Out (List Int)} (h:∀ t e,aFC (ev t e)):∀ (l:List aD) (t:Nat),aFC (m6 ev l t)
 | [],t=>.ok
 |e::l,t=>(h t e).then λv t=>(aDU h l t).then λvs t=>.ok
theorem aJH {f:List (List Int)->Nat->Out (List (List Int))} (h:∀ vs t,aFC (f vs t)):∀ (n:Nat) (vs:List (List Int)) (t:Nat),aFC (sR f n vs t)
 |0,vs,t=>.ok
 |n+1,vs,t=>(h vs t).then λa t=>aJH h n a t
theorem a8Y (k:Int) (vs:List (List Int)) (t:Nat):aFC (opE k vs t):=by
 unfold opE
 repeat' split
 all_goals first|exact .ok|(intro c h;cases h;exact .inl rfl)
theorem aX8 (p:aG) (sz:Nat):∀ (n t:Nat) (e:aD) (env:List (List Int)),aFC (kU p sz n t e env)
 |0,t,e,env=>λc h=>by rw[kU]at h;cases h;exact .inr rfl
 |n+1,t,e,env=>by
  have ih:=aX8 p sz n
  rw[kU]
  split
  ·intro c h;cases h;exact .inr rfl
  split
  ·exact .ok
  split
  ·exact .ok
  split
  ·refine(ih _ _ _).then λv t=>?_
   split
   ·exact ih _ _ _
   ·exact ih _ _ _
  split
  ·exact(ih _ _ _).then λv t=>ih _ _ _
  refine(aDU (λt e=>ih t e env) _ _).then λvs t=>?_
  split
  ·exact ih _ _ _
  split
  ·exact(aJH (λvs t=>aDU (λt e=>ih t e vs) _ t) _ _ _).then λvs t=>.ok
  ·exact a8Y _ _ _
theorem aDV (p:aG) (sz:Nat) (f:Int) (args:List (List Int)):aFC (evF p sz f args):=aDU (λt e=>aX8 p sz 3001 t e args) _ _
def okP {α:Type} (P:α->Prop) (X:Out α):Prop:=∀ v u,X=.ok (v,u)->P v
theorem okP.then {α β:Type} {P:α->Prop} {Q:β->Prop} {X:Out α} {F:α->Nat->Out β} (h:okP P X) (hf:∀ v t,P v->okP Q (F v t)):okP Q (X.andThen F):=λw u hw=>by
 cases X with
 |ok p=>obtain⟨v,t⟩:=p;exact hf v t (h v t rfl) w u hw
 |error c=>cases hw
theorem okP.pure {α:Type} {P:α->Prop} {v:α} {t:Nat} (h:P v):okP P (.ok (v,t)):=λw u e=>by cases e;exact h
theorem okP.err {α:Type} {P:α->Prop} {c:Int}:okP P (.error c:Out α):=λw u e=>by cases e
def a4L (sz n:Nat) (l:List (List Int)):Prop:=l.length=n/\∀ s∈l,bJ sz s
theorem xB {ev:Nat->aD->Out (List Int)} {sz:Nat}:∀ (l:List aD) (t:Nat),(∀ e∈l,∀ t,okP (bJ sz) (ev t e))->okP (a4L sz l.length) (m6 ev l t)
 | [],t,_=>okP.pure ⟨rfl,by simp⟩
 |e::l,t,h=>(h e zD t).then λv t hv=>(xB l t λx hx=>h x (v9 _ hx)).then λvs t hvs=>okP.pure ⟨by rw[tT,hvs.1];rfl,λs hs=>by
   rcases mW.1 hs with rfl|hs
   ·exact hv
   ·exact hvs.2 s hs⟩
theorem aME {f:List (List Int)->Nat->Out (List (List Int))} {P:List (List Int)->Prop} (h:∀ vs t,P vs->okP P (f vs t)):∀ (n:Nat) (vs:List (List Int)) (t:Nat),P vs->okP P (sR f n vs t)
 |0,vs,t,hv=>okP.pure hv
 |n+1,vs,t,hv=>(h vs t hv).then λa t ha=>aME h n a t ha
theorem a4L.get {sz n i:Nat} {l:List (List Int)} (h:a4L sz n l) (hi:i<n):bJ sz (l.getD i []):=by
 rw[gG,eY (by rw[h.1];exact hi)];exact h.2 _ (kM _)
theorem tQ {p:aG} {e:aD} {vars funcs:Int} (h:mD p e vars funcs):e.aT=1∨e.aT=2∨e.aT=3∨e.aT=4∨e.aT=5∨e.aT=6∨e.aT=7∨e.aT=8∨e.aT=9∨e.aT=10∨e.aT=11:=by
 by_cases hk:e.aT=10∨e.aT=11
 ·omega
 ·have h1:=((eE hk).1 h).1
  unfold e8 at h1
  repeat'(split at h1)
  all_goals omega
theorem aX9 {p:aG} (hp:p.ok) {sz:Nat} (hsz:1<=sz):∀ (n t:Nat) (e:aD) (env:List (List Int)) (funcs:Int),e.ok p funcs env.length->funcs<=p.aK.length->(∀ s∈env,bJ sz s)->okP (bJ sz) (kU p sz n t e env)
 |0,t,e,env,funcs,_,_,_=>okP.err
 |n+1,t,e,env,funcs,hok,hf,henv=>by
  have ih:=aX9 hp hsz n
  have hnode:=((aD.eI _ _ _ _).1 hok).1
  by_cases h3:t=3000
  ·rw[kU,if_pos h3];exact okP.err
  rcases tQ hnode with hk|hk|hk|hk|hk|hk|hk|hk|hk|hk|hk
  ·rw[aX5 h3 hk];exact okP.pure (fS (((eE aA).1 hnode).2.2.2.1 hk))
  ·rw[aX6 h3 hk]
   have:=((eE aA).1 hnode).2.2.2.2.1 hk
   exact okP.pure (xA henv aA)
  iterate 5
   ·have hlen:=fI hok aA
    rw[hk]at hlen
    rw[aJG h3 aA]
    refine(xB _ _ λx hx t=>ih t x env funcs (gR hok aA x hx) hf henv).then λvs t hv=>?_
    have h0:=hv.get (i:=0) aQA
    rw[hk]
    unfold opE
    first
    |exact okP.pure (eJ _ h0)
    |(have h1:=hv.get (i:=1) aQA;first|exact okP.pure (mT h0 h1)|exact okP.pure (mU h0 h1)|exact okP.pure (c6 _ h0)|(simp only[if_neg (show ¬(6:Int)=3 by decide),if_neg (show ¬(6:Int)=4 by decide),if_neg (show ¬(6:Int)=5 by decide),if_neg (show ¬(6:Int)=7 by decide)];split;exact okP.err;exact okP.pure (k8 _ h0)))
  ·have hlen:=fI hok aA
   rw[hk,show e8 8=3 from rfl]at hlen
   have o0:=aD.fM hok (i:=0) aA
   have o1:=aD.fM hok (i:=1) aA
   have o2:=aD.fM hok (i:=2) aA
   rw[jA aA]at o0 o1 o2
   rw[aR2 h3 hk]
   refine(ih _ _ _ _ o0 hf henv).then λc t hc=>?_
   split
   ·exact ih _ _ _ _ o1 hf henv
   ·exact ih _ _ _ _ o2 hf henv
  ·have hlen:=fI hok aA
   rw[hk,show e8 9=2 from rfl]at hlen
   have o0:=aD.fM hok (i:=0) aA
   have o1:=aD.fM hok (i:=1) aA
   rw[jA aA]at o0
   rw[hk,show jG 9 1 (env.length:Int)=env.length+1 from rfl]at o1
   rw[aX7 h3 hk]
   refine(ih _ _ _ _ o0 hf henv).then λv t hv=>ih _ _ _ _ aH2 hf λs hs=>?_
   rcases oW.1 hs with hs|hs
   ·exact henv s hs
   ·rw[jL.1 hs];exact hv
  ·obtain⟨f,F⟩:=pF hp hok hf (.inl hk)
   have f2:=F.hi
   have f4:=F.pk2
   rw[aOD h3 hk]
   refine(xB _ _ λx hx t=>ih t x env funcs (gR hok aA x hx) hf henv).then λvs t hv=>?_
   exact ih _ _ _ e.bB (by rw[hv.1,F.kids];exact F.oks _ (rS F.out)) aA hv.2
  ·obtain⟨f,F⟩:=pF hp hok hf (.inr hk)
   have f2:=F.hi
   have f4:=F.pk2
   have f9:=F.loop hk
   rw[aOE h3 hk]
   refine(xB _ _ λx hx t=>ih t x env funcs (gR hok aA x hx) hf henv).then λvs t hv=>?_
   refine(aME (P:=a4L sz f.aS.length) (λus u hu=>?_) _ _ _ ⟨by have:=hv.1;have:=F.kids;omega,hv.2⟩).then λus u hu=>okP.pure (hu.get f4)
   rw[F.eq]
   exact xB _ _ λx hx t=>ih t x us e.bB (by rw[hu.1,f9.2.2];exact F.oks x hx) aA hu.2
theorem vK {p:aG} (hp:p.ok) {f:Int} (hf:0<=f/\f<p.aK.length):∃ F,p.aK[f.toNat]?=some F/\(1<=F.aS.length/\F.aS.length<=12)/\(0<=F.aW/\F.aW<=12)/\p.outs f=F.aS/\∀ x∈F.aS,x.ok p f F.aW:=by
 have hlt:f.toNat<p.aK.length:=by omega
 have ef:p.aK[f.toNat]?=some p.aK[f.toNat]:=eY hlt
 have hF:=hp.2 _ _ ef
 refine⟨_,ef,by have:=hF.2.2.1;omega,hF.2.1,by rw[aG.outs,ef];rfl,λx hx=>?_⟩
 have:=(hF.2.2.2.2.2 x hx).2.2.2.2
 rwa [show((f.toNat:Nat):Int)=f by omega]at this
theorem aOG {p:aG} (hp:p.ok) {sz:Nat} (hsz:1<=sz) (f:Int) (hf:0<=f/\f<p.aK.length) (args:List (List Int)) (ha:∀ s∈args,bJ sz s) (hl:∀ F,p.aK[f.toNat]?=some F->(args.length:Int)=F.aW):okP (λl=>a4L sz (p.outs f).length l) (evF p sz f args):=by
 obtain⟨F,ef,hF1,hF2,hF3,hF4⟩:=vK hp hf
 exact xB _ _ λx hx t=>aX9 hp hsz _ _ x args f (by rw[hl F ef];exact hF4 x (by rw[←hF3];exact hx)) aA ha
set_option maxRecDepth 100000
theorem a8Z (a:List Int) (m:Int) (hm:iW m) (hl:a.length<=1048576) (ha:dW a):FnN Tryz.prog 109 [gF 1 (λn=>[I n]) a,I m] (QS (OS (oP I) 1 (gW a m))):=by
 refine aBE 27 aXN cU cF Tryz.func109 λh=>?_
 simp -dsimp -implicitDefEqProofs only[go_sem,↓reduceIte,Tryz.f109]
 intro _
 refine⟨bD,bX _,by omega,by omega,λn hn _=>?_⟩
 have hc:=wO a m
 rw[vF]
 refine aFA aXN cU cF (λk:Nat=>[(0,gF 1 (λn=>[I n]) a),(1,I m),(5,.os n 1 0 a.length),(11,I a.length),(12,I k)]) n (λk=>.row 1 (((upL (gW a m) k).map λn=>[I n]).map (List.map .v))) (λk=>k<=a.length) (λk=>a.length-k) 0 ⟨by simp[cR,b6],by rw[aI,aDM,hc],eF _⟩ ?_
 intro k hk
 rcases bT k a.length with hlt|hge
 ·have ea:a[k]?=some a[k]:=eY hlt
  have eu:=aG4 (c:=gW a m) (k:=k) aA
  have el:=aG3 (gW a m) (k:=k) aA
  simp -dsimp -implicitDefEqProofs only[go_sem,↓reduceIte,Tryz.f109,aO,hlt,ea,eu,el,hc]
  have h1:=num_mul (ha _ (kM hlt)) hm
  refine⟨k+1,by rw[IntWalk.i64_in _ aA];rfl,?_,by omega,by omega⟩
  have hv:(gW a m)[k]'aA=a[k]*m%1000003:=by simp[gW]
  rw[aUI h1.1 aA,←aG5 aA,hv,←qM I]
  exact aB.le_refl _
 ·have hk':k=a.length:=by omega
  subst hk'
  simp -dsimp -implicitDefEqProofs only[go_sem,↓reduceIte,Tryz.f109,aO,bU]
  have hu:upL (gW a m) a.length=gW a m:=by rw[←hc];exact aG2 _
  rw[hu,show a.length=(gW a m).length from hc.symm]
  exact vE hn
theorem aF9 {P:Program} {f:FuncId} {args:List aE} {l:List Int} (a:FnN P f args (QS (OS (oP I) 1 l))):fE P f args (gF 1 (λn=>[I n]) l):=QS.dI a (λy hy=>OS.qG (c:=λn=>[I n]) (λ_ _ q=>aNU q) hy)
theorem scaled (a:List Int) (m:Int) (hm:iW m) (hl:a.length<=1048576) (ha:dW a):fE Tryz.prog 109 [gF 1 (λn=>[I n]) a,I m] (gF 1 (λn=>[I n]) (gW a m)):=aF9 (a8Z a m hm hl ha)
theorem aR4 (a b:List Int) (hab:b.length=a.length) (hl:a.length<=1048576) (ha:dW a) (hb:dW b):FnN Tryz.prog 111 [gF 1 (λn=>[I n]) a,gF 1 (λn=>[I n]) b] (QS (OS (oP I) 1 (lN a b))):=by
 refine aBE 9 zX cU cF Tryz.func111 λh=>?_
 simp -dsimp -implicitDefEqProofs only[go_sem,↓reduceIte,Tryz.f111]
 first|refine aH.mk (scaled b 1000002 nD aA hb) ?_|refine aF.mk (scaled b 1000002 nD aA hb) ?_|refine aH.bI (scaled b 1000002 nD aA hb) ?_|refine aF.mk (bC.dI (scaled b 1000002 nD aA hb)) ?_
 simp -dsimp -implicitDefEqProofs only[go_sem,↓reduceIte,Tryz.f111]
 refine aH.wn0 (added a (gW b 1000002) aQD hl (vJ ha) (vJ (eJ _ ⟨rfl,hb⟩).2)) ?_
 rintro r l g ⟨y,oy,rfl,rfl⟩ wn
 simp -dsimp -implicitDefEqProofs only[go_sem,↓reduceIte,Tryz.f111,oy.flat,oy.one]
 exact⟨_,g,_,cD _ _,⟨y,oy,rfl,rfl⟩,wn⟩
theorem reduced (a b:List Int) (hab:b.length=a.length) (hl:a.length<=1048576) (ha:dW a) (hb:dW b):fE Tryz.prog 111 [gF 1 (λn=>[I n]) a,gF 1 (λn=>[I n]) b] (gF 1 (λn=>[I n]) (lN a b)):=aF9 (aR4 a b hab hl ha hb)
theorem minus (a b:Int):fE Tryz.prog 120 [I a,I b] (I ((a-b)%1000003)):=by
 refine fU 10 zX cU cF Tryz.func120 λh=>?_
 simp -dsimp -implicitDefEqProofs only[go_sem,↓reduceIte,Tryz.f120]
 first|refine aH.mk (hU b) ?_|refine aF.mk (hU b) ?_|refine aH.bI (hU b) ?_|refine aF.mk (bC.dI (hU b)) ?_
 simp -dsimp -implicitDefEqProofs only[go_sem,↓reduceIte,Tryz.f120]
 rw[IntWalk.i64_in _ aA]
 first|refine aH.mk (aOC a (1000003-b%1000003)) ?_|refine aF.mk (aOC a (1000003-b%1000003)) ?_|refine aH.bI (aOC a (1000003-b%1000003)) ?_|refine aF.mk (bC.dI (aOC a (1000003-b%1000003))) ?_
 simp -dsimp -implicitDefEqProofs only[go_sem,↓reduceIte,Tryz.f120]
 omega
@[go_sem] def aUJ:List Nat:=[0,1,4,5,6,7,12,13,14,18]
@[go_sem] def bFX:Marks:=λid=>match id with|8=>([5,20],(.op 0 (.op 1 (.op 2 (.op 3 (.op 4 (.op 6 (.op 7 (.op 8 (.op 9 (.op 10 (.op 11 (.op 12 (.op 13 (.op 14 (.op 15 (.op 16 (.op 5 (.op 17 (.op 18 (.op 19 (.op 20 .nil))))))))))))))))))))),[])|_=>([],.nil,[])
theorem a4M (a b:List Int) (hab:b.length=a.length) (hl:a.length<=1048576) (ha:dW a) (hb:dW b):FnN Tryz.prog 61 [gF 1 (λn=>[I n]) a,gF 1 (λn=>[I n]) b] (QS (OS (oP I) 1 (mulL a b))):=by
 refine aBE 43 aUJ cU bFX Tryz.func61 λh=>?_
 simp -dsimp -implicitDefEqProofs only[go_sem,↓reduceIte,Tryz.f61]
 intro _
 refine⟨bD,bX _,by omega,by omega,λn hn _=>?_⟩
 have hc:=aDT a b
 rw[vF]
 refine aFA aUJ cU bFX (λk:Nat=>[(0,gF 1 (λn=>[I n]) a),(1,gF 1 (λn=>[I n]) b),(5,.os n 1 0 a.length),(12,I a.length),(13,I k)]) n (λk=>.row 1 (((upL (mulL a b) k).map λn=>[I n]).map (List.map .v))) (λk=>k<=a.length) (λk=>a.length-k) 0 ⟨by simp[cR,b6],by rw[aI,aDM,hc],eF _⟩ ?_
 intro k hk
 rcases bT k a.length with hlt|hge
 ·simp -dsimp -implicitDefEqProofs only[go_sem,↓reduceIte,Tryz.f61,aO,hlt]
  refine aFA aUJ cU bFX (λi:Nat=>[(0,gF 1 (λn=>[I n]) a),(1,gF 1 (λn=>[I n]) b),(5,.os n 1 0 a.length),(6,I k),(7,I i),(12,I a.length),(13,I k)]) n (λi=>.row 1 ((((upL (mulL a b) k).set k (x8 a b k i)).map λn=>[I n]).map (List.map .v))) (λi=>i<=k+1) (λi=>k+1-i) 0 ⟨by simp[cR,b6],by rw[aI,x8,a4K aA],eF _⟩ ?_
  intro i hi
  have el:((upL (mulL a b) k).set k (x8 a b k i)).length=a.length:=by rw[tW,aG3 _ aA,hc]
  have eu:((upL (mulL a b) k).set k (x8 a b k i))[k]?=some (x8 a b k i):=by rw[qT (by rw[tW]at el;omega)]
  rcases bT i (k+1)with jO|aFB
  ·have ea:=cQ (l:=a) (i:=i) aA
   have eb:=cQ (l:=b) (i:=k-i) aA
   have ew:IntKind.i64.wrap ((k:Int)-(i:Int))=((k-i:Nat):Int):=by rw[IntWalk.i64_in _ aA];omega
   simp -dsimp -implicitDefEqProofs only[go_sem,↓reduceIte,Tryz.f61,aO,hlt,ea,eb,eu,el,hc,ew]
   refine⟨λ_=>⟨by omega,by omega,i+1,by rw[IntWalk.i64_in _ aA];rfl,?_,by omega,by omega⟩,λq=>absurd aA q⟩
   have h1:=num_mul (ha.get i) (hb.get (k-i))
   have h2:=a4D a b k i
   unfold iW at h2
   rw[IntWalk.i64_in (a.getD i 0*b.getD (k-i) 0) aA,aUI aA aA,show(upL (mulL a b) k).set k (x8 a b k (i+1))=((upL (mulL a b) k).set k (x8 a b k i)).set k ((x8 a b k i+a.getD i 0*b.getD (k-i) 0)%1000003)by rw[List.set_set,x8],←qM I]
   exact aB.le_refl _
  ·have hi':i=k+1:=by omega
   subst hi'
   simp -dsimp -implicitDefEqProofs only[go_sem,↓reduceIte,Tryz.f61,aO,hlt]
   refine⟨λq=>absurd q aA,λ_=>⟨k+1,by rw[IntWalk.i64_in _ aA];rfl,?_,by omega,by omega⟩⟩
   have hv:(mulL a b)[k]'aA=x8 a b k (k+1):=by simp[mulL]
   rw[←hv,aG5 aA]
   exact aB.le_refl _
 ·have hk':k=a.length:=by omega
  subst hk'
  simp -dsimp -implicitDefEqProofs only[go_sem,↓reduceIte,Tryz.f61,aO,bU]
  have hu:upL (mulL a b) a.length=mulL a b:=by rw[←hc];exact aG2 _
  rw[hu,show a.length=(mulL a b).length from hc.symm]
  exact vE hn
theorem product (a b:List Int) (hab:b.length=a.length) (hl:a.length<=1048576) (ha:dW a) (hb:dW b):fE Tryz.prog 61 [gF 1 (λn=>[I n]) a,gF 1 (λn=>[I n]) b] (gF 1 (λn=>[I n]) (mulL a b)):=aF9 (a4M a b hab hl ha hb)
@[go_sem] def aYA:List Nat:=[0,1,4,5,6,8,12,17]
theorem Power (a n:Int) (hn:0<=n) (hn2:n<=4294967296):fE Tryz.prog 179 [I a,I n] (I (pwN (a%1000003) n.toNat)):=by
 refine fU 27 aYA cU cF Tryz.func179 λh=>?_
 simp -dsimp -implicitDefEqProofs only[go_sem,↓reduceIte,Tryz.f179]
 refine⟨λq=>absurd q aA,λ_=>?_⟩
 first|refine aH.mk (hU a) ?_|refine aF.mk (hU a) ?_|refine aH.bI (hU a) ?_|refine aF.mk (bC.dI (hU a)) ?_
 simp -dsimp -implicitDefEqProofs only[go_sem,↓reduceIte,Tryz.f179]
 generalize hT:pwN (a%1000003) n.toNat=T
 refine sM aYA cU cF (λx:Int×Int×Int=>[(1,I x.2.2),(5,I x.1),(6,I x.2.1)]) (λx=>(0<=x.1/\x.1<1000003)/\(0<=x.2.1/\x.2.1<1000003)/\(0<=x.2.2/\x.2.2<=4294967296)/\x.1*x.2.1 ^ x.2.2.toNat%1000003=T) (λx=>x.2.2.toNat) (1,a%1000003,n) ⟨by simp[cR,b6],⟨by simp,by simp⟩,aR1 _,⟨hn,hn2⟩,by rw[aP2];exact hT⟩ ?_
 rintro⟨x,b,m⟩ ⟨hx,hb,hm,hp⟩
 simp only at hx hb hm hp ⊢
 simp -dsimp -implicitDefEqProofs only[go_sem,↓reduceIte,Tryz.f179]
 have h1:=num_mul (x:=x) (y:=b) nD nD
 have h2:=num_mul (x:=b) (y:=b) nD nD
 rw[wL hm.1,aV2 hm.1,IntWalk.i64_in (m / 2) aA,aUI h1.1 aA,aUI h2.1 aA]
 refine⟨λhg=>⟨λho=>⟨(x*b%1000003,b*b%1000003,m / 2),⟨rfl,rfl,rfl⟩,⟨aR1 _,aR1 _,(show 0<=m / 2/\m / 2<=4294967296 by omega),a4J hm.1 ho hp⟩,by simp only;omega⟩,λho=>⟨(x,b*b%1000003,m / 2),⟨rfl,rfl,rfl⟩,⟨hx,aR1 _,(show 0<=m / 2/\m / 2<=4294967296 by omega),aX4 hm.1 ho hp⟩,by simp only;omega⟩⟩,λhg=>?_⟩
 have:m.toNat=0:=by omega
 rw[this,aX3 x b hx]at hp
 exact hp
theorem vL (a:Int):fE Tryz.prog 119 [I a] (I (gZ a)):=by
 refine fU 5 aBD cU cF Tryz.func119 λh=>?_
 simp -dsimp -implicitDefEqProofs only[go_sem,↓reduceIte,Tryz.f119]
 first|refine aH.mk (Power a 1000001 bO bO) ?_|refine aF.mk (Power a 1000001 bO bO) ?_|refine aH.bI (Power a 1000001 bO bO) ?_|refine aF.mk (bC.dI (Power a 1000001 bO bO)) ?_
 simp -dsimp -implicitDefEqProofs only[go_sem,↓reduceIte,Tryz.f119]
 rfl
@[go_sem] def aOH:List Nat:=[0,1,4,5,6,7,8,9,18,19,20,28]
@[go_sem] def a4N:Marks:=λid=>match id with|1=>([2],(.op 0 (.op 1 (.op 3 (.op 4 (.op 5 (.op 6 (.op 2 (.op 7 (.op 8 .nil))))))))),[])|9=>([4],(.op 0 (.op 1 (.op 2 (.op 3 (.op 5 (.op 6 (.op 7 (.op 8 (.op 9 (.op 10 (.op 4 (.op 11 (.op 12 (.op 13 .nil)))))))))))))),[])|_=>([],.nil,[])
theorem a0Y (a b:List Int) (hab:b.length=a.length) (hl:a.length<=1048576) (h0:0<a.length) (ha:dW a) (hb:dW b):FnN Tryz.prog 171 [gF 1 (λn=>[I n]) a,gF 1 (λn=>[I n]) b] (QS (OS (oP I) 1 (fZ a b))):=by
 have e0:b[Int.toNat 0]?=some (b.getD 0 0):=cQ (l:=b) (i:=0) aA
 refine aBE 53 aOH cU a4N Tryz.func171 λh=>?_
 simp -dsimp -implicitDefEqProofs only[go_sem,↓reduceIte,Tryz.f171,e0]
 refine⟨by omega,?_⟩
 first|refine aH.mk (vL (b.getD 0 0)) ?_|refine aF.mk (vL (b.getD 0 0)) ?_|refine aH.bI (vL (b.getD 0 0)) ?_|refine aF.mk (bC.dI (vL (b.getD 0 0))) ?_
 simp -dsimp -implicitDefEqProofs only[go_sem,↓reduceIte,Tryz.f171]
 refine⟨bD,bX _,by omega,by omega,λn hn _=>?_⟩
 have hc:=o9 a b
 rw[vF]
 refine aFA aOH cU a4N (λk:Nat=>[(0,gF 1 (λn=>[I n]) a),(1,gF 1 (λn=>[I n]) b),(5,.os n 1 0 a.length),(6,I (gZ (b.getD 0 0))),(18,I a.length),(19,I k)]) n (λk=>.row 1 (((upL (fZ a b) k).map λn=>[I n]).map (List.map .v))) (λk=>k<=a.length) (λk=>a.length-k) 0 ⟨by simp[cR,b6],by rw[aI,aDM,hc],eF _⟩ ?_
 intro k hk
 rcases bT k a.length with hlt|hge
 ·have ek:=cQ hlt
  simp -dsimp -implicitDefEqProofs only[go_sem,↓reduceIte,Tryz.f171,aO,hlt,ek]
  refine sM aOH cU a4N (λi:Nat=>[(0,gF 1 (λn=>[I n]) a),(1,gF 1 (λn=>[I n]) b),(5,.os n 1 0 a.length),(6,I (gZ (b.getD 0 0))),(7,I k),(8,I (dvS (jP a b k) b k (a.getD k 0) i)),(9,I i),(18,I a.length),(19,I k)]) (λi=>i<=k) (λi=>k-i) 0 ⟨by simp[cR,b6,dvS],eF _⟩ ?_
  intro i hi
  have el:=aG3 (fZ a b) (k:=k) aA
  have eu:=aG4 (c:=fZ a b) (k:=k) aA
  rcases bT i k with jO|aFB
  ·have ei:=aF8 (a:=a) (b:=b) (i:=i) hk jO
   have eb:=cQ (l:=b) (i:=k-i) aA
   have ew:IntKind.i64.wrap ((k:Int)-(i:Int))=((k-i:Nat):Int):=by rw[IntWalk.i64_in _ aA];omega
   simp -dsimp -implicitDefEqProofs only[go_sem,↓reduceIte,Tryz.f171,aO,jO,ei,eb,el,hc,ew]
   have h1:=num_mul ((uL a b k).get i) (hb.get (k-i))
   refine⟨by omega,by omega,?_⟩
   rw[IntWalk.i64_in _ aA]
   first|refine aH.mk (minus (dvS (jP a b k) b k (a.getD k 0) i) ((jP a b k).getD i 0*b.getD (k-i) 0)) ?_|refine aF.mk (minus (dvS (jP a b k) b k (a.getD k 0) i) ((jP a b k).getD i 0*b.getD (k-i) 0)) ?_|refine aH.bI (minus (dvS (jP a b k) b k (a.getD k 0) i) ((jP a b k).getD i 0*b.getD (k-i) 0)) ?_|refine aF.mk (bC.dI (minus (dvS (jP a b k) b k (a.getD k 0) i) ((jP a b k).getD i 0*b.getD (k-i) 0))) ?_
   simp -dsimp -implicitDefEqProofs only[go_sem,↓reduceIte,Tryz.f171,aO,jO,ei,eb,el,hc,ew]
   exact⟨i+1,⟨rfl,by rw[IntWalk.i64_in _ aA];rfl⟩,by omega,by omega⟩
  ·have hi':i=k:=by omega
   subst hi'
   simp -dsimp -implicitDefEqProofs only[go_sem,↓reduceIte,Tryz.f171,aO,bU,hlt,eu,el,hc]
   have h1:=num_mul (x9 (jP a b i) b i (ha.get i) i) (num_inv (b.getD 0 0))
   refine⟨i+1,by rw[IntWalk.i64_in _ aA];rfl,?_,by omega,by omega⟩
   rw[aUI h1.1 aA,←aDS hlt,←aG5 aA,←qM I]
   exact aB.le_refl _
 ·have hk':k=a.length:=by omega
  subst hk'
  simp -dsimp -implicitDefEqProofs only[go_sem,↓reduceIte,Tryz.f171,aO,bU]
  have hu:upL (fZ a b) a.length=fZ a b:=by rw[←hc];exact aG2 _
  rw[hu,show a.length=(fZ a b).length from hc.symm]
  exact vE hn
theorem quotient (a b:List Int) (hab:b.length=a.length) (hl:a.length<=1048576) (h0:0<a.length) (ha:dW a) (hb:dW b):fE Tryz.prog 171 [gF 1 (λn=>[I n]) a,gF 1 (λn=>[I n]) b] (gF 1 (λn=>[I n]) (fZ a b)):=aF9 (a0Y a b hab hl h0 ha hb)
theorem eT {h h':aB} {n:Nat} (l:List Int) (h0:h n=none) (hl:(aU h n (.row 1 ((l.map λn=>[I n]).map (List.map .v)))).le h') {len:Nat} (e:len=l.length):Shift (.os n 1 0 len) h' (gF 1 (λn=>[I n]) l) h :=
 aE5 (l.map λn=>[I n]) h0 hl len (by rw[gT];exact e)
theorem pL (n:Int) (sz:Nat):(cS n sz).length=sz:=by simp[cS]
theorem aDW {sz:Nat} {x:List aE} (h:0<sz):(List.replicate sz x)[Int.toNat 0]?=some x:=by
 show(List.replicate sz x)[0]?=some x
 rw[tY,if_pos h]
theorem aAD (n:Int) (sz:Nat):((List.replicate sz [aE.int .i64 0]).map (List.map Cell.v)).set 0 [Cell.v (I n)]=((cS n sz).map λn=>[I n]).map (List.map .v):=by
 rw[vF,cS,qM I]
abbrev bW (l:List (List Int)):aE:=gF 1 (λs=>[ints s]) l
@[go_sem] def bQE:List Nat:=[0,1,2,4,6,7,8,13,20,34,35,41,48,59,74,102,106,107,126,138,159,168,177,186,197]
@[go_sem] def bWZ:List Nat:=[4,90]
@[go_sem] def bW0:Marks:=λid=>match id with|17=>([6,13,15,16],(.op 0 (.op 1 (.op 2 (.op 3 (.op 4 (.op 5 (.op 7 (.op 8 (.op 9 (.op 10 (.op 11 (.op 12 (.op 6 (.op 13 (.op 14 (.op 15 (.op 16 (.op 17 .nil)))))))))))))))))),[])|23=>([5,16],(.op 0 (.op 1 (.op 2 (.op 3 (.op 4 (.op 6 (.op 7 (.op 11 (.op 12 (.op 15 (.op 5 (.op 8 (.op 9 (.op 10 (.op 13 (.op 14 (.op 16 (.op 17 .nil)))))))))))))))))),[])|28=>([5,12],(.op 0 (.op 1 (.op 2 (.op 3 (.op 4 (.op 6 (.op 7 (.op 11 (.op 5 (.op 8 (.op 9 (.op 10 (.op 12 (.op 13 .nil)))))))))))))),[])|31=>([6],(.op 0 (.op 1 (.op 2 (.op 3 (.op 4 (.op 5 (.op 6 (.op 7 .nil)))))))),[])|33=>([6],(.op 0 (.op 1 (.op 2 (.op 3 (.op 4 (.op 5 (.op 6 (.op 7 .nil)))))))),[])|35=>([6],(.op 0 (.op 1 (.op 2 (.op 3 (.op 4 (.op 5 (.op 6 (.op 7 .nil)))))))),[])|41=>([6],(.op 0 (.op 1 (.op 2 (.op 3 (.op 4 (.op 5 (.op 6 (.op 7 .nil)))))))),[])|_=>([],.nil,[])
theorem bFY (m:Nat) (es:List (List aE)) (x:aD):l5 m es x.c=x.c:=by rw[aD.aZ];rfl
theorem a4O (m sz k:Nat) (x:aD):j6 m sz k x.c=true:=by rw[aD.aZ];rfl
theorem aE2.a36 {P:Program} {N:Nat} {c:Code} {Q:Exit->bP->aB->Prop} {τ:bP} {h:aB} {t:Tag (c,Q)} (n:Nat) {es:List (List aE)} (hh:h n=none) (hb:τ.all (λp=>jB n 1 es.length p.2)=true)
  (x:aE2 P N c Q (τ.map λp=>(p.1,p.2.fG n es)) (aU h n .gone) ()):aE2 P N c Q τ (aU h n (.row 1 (es.map (List.map .v)))) t:=by
 have y:=pT.sC (c:=c) (Q:=Q) (τ:=τ) (N:=N) (P:=P) (h:=aU h n (.row 1 (es.map (List.map .v)))) n (sz:=1) (es:=es.map (List.map .v)) (aI _ _ _) (by simpa using hb)
 rw[aO,nO]at y
 exact y x
theorem aH.a4P {P:Program} {f:FuncId} {h:aB} {K:aE->aB->Prop} {t:Tag K} {nb m k len:Nat} {x:aE} {es:List (List aE)} (hx:x.fG m es=x) (hx2:jB m 1 es.length x=true) (hne:¬nb=m) (hl:len=es.length) (hm:h m=none) (a:iV P f [.op nb k 0 0,x,.sl 1 es false] (aU h m .gone) K) :
  aH P f [.op nb k 0 0,x,.os m 1 0 len] (aU h m (.row 1 (es.map (List.map .v)))) K t:=by
 subst hl
 refine aH.a36 m (aI _ _ _) (by simp[j6,jB,hx2,hne]) ?_
 rw[aO,nO]
 have h1:l5 m es [.op nb k 0 0,x,.os m 1 0 es.length]=[.op nb k 0 0,x,.sl 1 es false]:=by
  simp only[l5,aE.fG,hx,if_neg hne,if_true,aP0,nL]
 rw[h1]
 exact a
theorem aH.a80 {P:Program} {f:FuncId} {h:aB} {K:aE->aB->Prop} {t:Tag K} {nb m k len:Nat} {e:aD} {es:List (List aE)} (hne:¬nb=m) (hl:len=es.length) (hm:h m=none) (a:iV P f [.op nb k 0 0,.agg e.c,.sl 1 es false] (aU h m .gone) K) :
  aH P f [.op nb k 0 0,.agg e.c,.os m 1 0 len] (aU h m (.row 1 (es.map (List.map .v)))) K t:=by
 subst hl
 refine aH.a36 m (aI _ _ _) (by simp[j6,jB,a4O,hne]) ?_
 rw[aO,nO]
 have h1:l5 m es [.op nb k 0 0,.agg e.c,.os m 1 0 es.length]=[.op nb k 0 0,.agg e.c,.sl 1 es false]:=by
  simp only[l5,aE.fG,bFY,if_neg hne,if_true,aP0,nL]
 rw[h1]
 exact a
theorem yA {sz:Nat} {env:List (List Int)} {s:List Int} (he:∀ x∈env,bJ sz x) (hs:bJ sz s):∀ x∈env++[s],bJ sz x:=λx hx=>by
 rcases oW.1 hx with hx|hx
 ·exact he x hx
 ·rw[jL.1 hx];exact hs
theorem qN:iW 0:=by unfold iW;simp
theorem bA (a b:Int) (ha:iW a) (hb:iW b):fE Tryz.prog 45 [I a,I b] (I (a*b%1000003)):=by
 refine fU 11 zX cU cF Tryz.func45 λh=>?_
 simp -dsimp -implicitDefEqProofs only[go_sem,↓reduceIte,Tryz.f45]
 first|refine aH.mk (cV a) ?_|refine aF.mk (cV a) ?_|refine aH.bI (cV a) ?_|refine aF.mk (bC.dI (cV a)) ?_
 simp -dsimp -implicitDefEqProofs only[go_sem,↓reduceIte,Tryz.f45]
 first|refine aH.mk (cV b) ?_|refine aF.mk (cV b) ?_|refine aH.bI (cV b) ?_|refine aF.mk (bC.dI (cV b)) ?_
 simp -dsimp -implicitDefEqProofs only[go_sem,↓reduceIte,Tryz.f45]
 have h1:=num_mul ha hb
 have h2:=ha
 have h3:=hb
 unfold iW at h2 h3
 rw[aV3 h2.1 aA,aV3 h3.1 aA,aUI h1.1 aA]
@[go_sem] def aYB:List Nat:=[0,1,4,5,6,8,12,15]
theorem aAY (a n:Int) (hn:0<=n) (hn2:n<=4294967296):fE Tryz.prog 133 [I a,I n] (I (pwN (a%1000003) n.toNat)):=by
 refine fU 25 aYB cU cF Tryz.func133 λh=>?_
 simp -dsimp -implicitDefEqProofs only[go_sem,↓reduceIte,Tryz.f133]
 refine⟨λq=>absurd q aA,λ_=>?_⟩
 first|refine aH.mk (cV a) ?_|refine aF.mk (cV a) ?_|refine aH.bI (cV a) ?_|refine aF.mk (bC.dI (cV a)) ?_
 simp -dsimp -implicitDefEqProofs only[go_sem,↓reduceIte,Tryz.f133]
 generalize hT:pwN (a%1000003) n.toNat=T
 refine sM aYB cU cF (λx:Int×Int×Int=>[(1,I x.2.2),(5,I x.1),(6,I x.2.1)]) (λx=>(0<=x.1/\x.1<1000003)/\(0<=x.2.1/\x.2.1<1000003)/\(0<=x.2.2/\x.2.2<=4294967296)/\x.1*x.2.1 ^ x.2.2.toNat%1000003=T) (λx=>x.2.2.toNat) (1,a%1000003,n) ⟨by simp[cR,b6],⟨by simp,by simp⟩,aR1 _,⟨hn,hn2⟩,by rw[aP2];exact hT⟩ ?_
 rintro⟨x,b,m⟩ ⟨hx,hb,hm,hp⟩
 simp only at hx hb hm hp ⊢
 have nx:iW x:=by unfold iW;omega
 have nb:iW b:=by unfold iW;omega
 simp -dsimp -implicitDefEqProofs only[go_sem,↓reduceIte,Tryz.f133]
 rw[wL hm.1]
 refine⟨λhg=>⟨λho=>?_,λho=>?_⟩,λhg=>?_⟩
 ·first|refine aH.mk (bA x b nx nb) ?_|refine aF.mk (bA x b nx nb) ?_|refine aH.bI (bA x b nx nb) ?_|refine aF.mk (bC.dI (bA x b nx nb)) ?_
  simp -dsimp -implicitDefEqProofs only[go_sem,↓reduceIte,Tryz.f133]
  first|refine aH.mk (bA b b nb nb) ?_|refine aF.mk (bA b b nb nb) ?_|refine aH.bI (bA b b nb nb) ?_|refine aF.mk (bC.dI (bA b b nb nb)) ?_
  simp -dsimp -implicitDefEqProofs only[go_sem,↓reduceIte,Tryz.f133]
  rw[aV2 hm.1,IntWalk.i64_in (m / 2) aA]
  exact⟨(x*b%1000003,b*b%1000003,m / 2),⟨rfl,rfl,rfl⟩,⟨aR1 _,aR1 _,(show 0<=m / 2/\m / 2<=4294967296 by omega),a4J hm.1 ho hp⟩,by simp only;omega⟩
 ·first|refine aH.mk (bA b b nb nb) ?_|refine aF.mk (bA b b nb nb) ?_|refine aH.bI (bA b b nb nb) ?_|refine aF.mk (bC.dI (bA b b nb nb)) ?_
  simp -dsimp -implicitDefEqProofs only[go_sem,↓reduceIte,Tryz.f133]
  rw[aV2 hm.1,IntWalk.i64_in (m / 2) aA]
  exact⟨(x,b*b%1000003,m / 2),⟨rfl,rfl,rfl⟩,⟨hx,aR1 _,(show 0<=m / 2/\m / 2<=4294967296 by omega),aX4 hm.1 ho hp⟩,by simp only;omega⟩
 ·have:m.toNat=0:=by omega
  rw[this,aX3 x b hx]at hp
  exact hp
theorem sN (a:Int):fE Tryz.prog 54 [I a] (I (gZ a)):=by
 refine fU 5 aBD cU cF Tryz.func54 λh=>?_
 simp -dsimp -implicitDefEqProofs only[go_sem,↓reduceIte,Tryz.f54]
 first|refine aH.mk (aAY a 1000001 bO bO) ?_|refine aF.mk (aAY a 1000001 bO bO) ?_|refine aH.bI (aAY a 1000001 bO bO) ?_|refine aF.mk (bC.dI (aAY a 1000001 bO bO)) ?_
 simp -dsimp -implicitDefEqProofs only[go_sem,↓reduceIte,Tryz.f54]
 rfl
theorem rZ (a b:Int) (ha:iW a) (hb:iW b):fE Tryz.prog 107 [I a,I b] (I ((a-b)%1000003)):=by
 unfold iW at ha hb
 refine fU 9 zX cU cF Tryz.func107 λh=>?_
 simp -dsimp -implicitDefEqProofs only[go_sem,↓reduceIte,Tryz.f107]
 rw[IntWalk.i64_in _ aA]
 first|refine aH.mk (cV (a-b)) ?_|refine aF.mk (cV (a-b)) ?_|refine aH.bI (cV (a-b)) ?_|refine aF.mk (bC.dI (cV (a-b))) ?_
 simp -dsimp -implicitDefEqProofs only[go_sem,↓reduceIte,Tryz.f107]
@[go_sem] def aOI:List Nat:=[0,1,4,5,9]
theorem mK (n:Int) (sz:Nat) (hs:sz<=1048576):fE Tryz.prog 51 [I n,I sz] (ints (cS n sz)):=by
 rcases a0A sz with rfl|hp
 ·refine lS 14 aOI cU cF Tryz.func51 λh=>?_
  simp -dsimp -implicitDefEqProofs only[go_sem,↓reduceIte,Tryz.f51]
  refine⟨bD,by omega,by omega,λm hm=>⟨λq=>absurd q aA,λ_=>?_⟩⟩
  exact eT [] hm (aB.le_refl _) rfl
 ·have e2:=aDW (x:=[aE.int .i64 0]) hp
  refine lS 14 aOI cU cF Tryz.func51 λh=>?_
  simp -dsimp -implicitDefEqProofs only[go_sem,↓reduceIte,Tryz.f51,tX,e2]
  refine⟨bD,bX _,by omega,by omega,λm hm=>⟨λ_=>⟨by omega,?_⟩,λq=>absurd q aA⟩⟩
  rw[aO,show Int.toNat 0=0 from rfl,aAD]
  exact eT _ hm (aB.le_refl _) (pL n sz).symm
@[go_sem] def aYC:List Nat:=[7,21]
theorem r5 (a:List Int) (m:Int) (hm:iW m) (hl:a.length<=1048576) (ha:dW a):fE Tryz.prog 131 [ints a,I m] (ints (gW a m)):=by
 have hc:=wO a m
 refine lS 24 aK9 aYC cF Tryz.func131 λh=>?_
 simp -dsimp -implicitDefEqProofs only[go_sem,↓reduceIte,Tryz.f131]
 refine⟨bD,?_⟩
 refine cM aK9 aYC cF (λx:Nat×Option Nat=>[(0,ints a),(1,I m),(5,fT 1 ((gW a m).take x.1).length x.2),(6,I x.1)]) (λx=>cP h (.row 1 ((((gW a m).take x.1).map λn=>[I n]).map (List.map .v))) x.2) (λx=>x.1<=a.length/\eM h ((gW a m).take x.1) x.2) (λx=>a.length-x.1) (0,none) ⟨by simp[cR,b6,fT],by simp only[aL];exact aB.le_refl _,eF _,by simp[eM]⟩ ?_
 rintro⟨k,o⟩ ⟨hk,hos⟩
 simp only at hk hos ⊢
 rcases bT k a.length with hlt|hge
 ·have ea:a[k]?=some a[k]:=eY hlt
  have hy:(gW a m).take (k+1)=(gW a m).take k++[(gW a m)[k]'aA]:=jF aA
  have hv:(gW a m)[k]'aA=a[k]*m%1000003:=by simp[gW]
  have hlk:((gW a m).take k).length=k:=by rw[mX];omega
  rw[hv]at hy
  cases o with
  |none =>
   rw[aY]at hos
   rw[hos]at hy ⊢
   simp -dsimp -implicitDefEqProofs only[go_sem,↓reduceIte,Tryz.f131,bE,aL,hlt,ea]
   intro _
   first|refine aH.mk (bA a[k] m (ha _ (kM hlt)) hm) ?_|refine aF.mk (bA a[k] m (ha _ (kM hlt)) hm) ?_|refine aH.bI (bA a[k] m (ha _ (kM hlt)) hm) ?_|refine aF.mk (bC.dI (bA a[k] m (ha _ (kM hlt)) hm)) ?_
   simp -dsimp -implicitDefEqProofs only[go_sem,↓reduceIte,Tryz.f131]
   repeat'(with_reducible first|intro _|refine And.intro ?_ ?_)
   all_goals try(first|omega|decide)
   rename_i b hb
   refine⟨(k+1,some b),?_⟩
   simp only[hy]
   refine⟨⟨rfl,?_⟩,aB.le_refl _,⟨by omega,hb⟩,by omega⟩
   rw[IntWalk.i64_in _ aA];rfl
  |some n =>
   rw[aQ]at hos
   simp -dsimp -implicitDefEqProofs only[go_sem,↓reduceIte,Tryz.f131,aR,aJ,hlt,ea]
   intro _
   first|refine aH.mk (bA a[k] m (ha _ (kM hlt)) hm) ?_|refine aF.mk (bA a[k] m (ha _ (kM hlt)) hm) ?_|refine aH.bI (bA a[k] m (ha _ (kM hlt)) hm) ?_|refine aF.mk (bC.dI (bA a[k] m (ha _ (kM hlt)) hm)) ?_
   simp -dsimp -implicitDefEqProofs only[go_sem,↓reduceIte,Tryz.f131]
   repeat'(with_reducible first|intro _|refine And.intro ?_ ?_)
   all_goals try(first|omega|decide|exact bX _)
   rename_i b hb
   refine⟨(k+1,some b),?_⟩
   simp only[hy,aJ,aR,aQ]
   refine⟨⟨by rw[gD];rfl,?_⟩,?_,⟨by omega,hb.2⟩,by omega⟩
   ·rw[IntWalk.i64_in _ aA];rfl
   ·rw[←dZ];exact jC hos
 ·have hk':k=a.length:=by omega
  subst hk'
  rw[nI aA]at hos ⊢
  cases o with
  |none =>
   rw[aY]at hos
   simp -dsimp -implicitDefEqProofs only[go_sem,↓reduceIte,Tryz.f131,bE,aL,bU,cT]
   intro _
   rw[hos]
   exact Shift.of (Sub.loose _ _ _) (aB.le_refl _)
  |some n =>
   rw[aQ]at hos
   simp -dsimp -implicitDefEqProofs only[go_sem,↓reduceIte,Tryz.f131,aR,aJ,bU,cT]
   intro _
   exact eT _ hos (aB.le_refl _) rfl
@[go_sem] def bDF:List Nat:=[7,24]
@[go_sem] def bDG:Marks:=λid=>match id with|5=>([11],(.op 0 (.op 1 (.op 2 (.op 3 (.op 4 (.op 5 (.op 6 (.op 7 (.op 8 (.op 9 (.op 10 (.op 11 (.op 12 .nil))))))))))))),[])|_=>([],.nil,[])
theorem aAE (a b:List Int) (hab:b.length=a.length) (hl:a.length<=1048576) (ha:dW a) (hb:dW b):fE Tryz.prog 129 [ints a,ints b] (ints (jJ a b)):=by
 have hc:=aRY hab
 refine lS 27 aK9 bDF bDG Tryz.func129 λh=>?_
 simp -dsimp -implicitDefEqProofs only[go_sem,↓reduceIte,Tryz.f129]
 refine⟨bD,?_⟩
 refine cM aK9 bDF bDG (λx:Nat×Option Nat=>[(0,ints a),(1,ints b),(5,fT 1 ((jJ a b).take x.1).length x.2),(6,I x.1)]) (λx=>cP h (.row 1 ((((jJ a b).take x.1).map λn=>[I n]).map (List.map .v))) x.2) (λx=>x.1<=a.length/\eM h ((jJ a b).take x.1) x.2) (λx=>a.length-x.1) (0,none) ⟨by simp[cR,b6,fT],by simp only[aL];exact aB.le_refl _,eF _,by simp[eM]⟩ ?_
 rintro⟨k,o⟩ ⟨hk,hos⟩
 simp only at hk hos ⊢
 rcases bT k a.length with hlt|hge
 ·have ea:a[k]?=some a[k]:=eY hlt
  have eb:b[k]?=some (b[k]'aA):=eY aA
  have hy:(jJ a b).take (k+1)=(jJ a b).take k++[(jJ a b)[k]'aA]:=jF aA
  have hv:(jJ a b)[k]'aA=(a[k]+b[k]'aA)%1000003:=by simp[jJ]
  have hlk:((jJ a b).take k).length=k:=by rw[mX];omega
  rw[hv]at hy
  cases o with
  |none =>
   rw[aY]at hos
   rw[hos]at hy ⊢
   simp -dsimp -implicitDefEqProofs only[go_sem,↓reduceIte,Tryz.f129,bE,aL,hlt,ea,eb]
   intro _
   refine⟨by omega,?_⟩
   first|refine aH.mk (gY a[k] (b[k]'aA)) ?_|refine aF.mk (gY a[k] (b[k]'aA)) ?_|refine aH.bI (gY a[k] (b[k]'aA)) ?_|refine aF.mk (bC.dI (gY a[k] (b[k]'aA))) ?_
   simp -dsimp -implicitDefEqProofs only[go_sem,↓reduceIte,Tryz.f129]
   repeat'(with_reducible first|intro _|refine And.intro ?_ ?_)
   all_goals try(first|omega|decide)
   rename_i b hb
   refine⟨(k+1,some b),?_⟩
   simp only[hy]
   refine⟨⟨rfl,?_⟩,aB.le_refl _,⟨by omega,hb⟩,by omega⟩
   rw[IntWalk.i64_in _ aA];rfl
  |some n =>
   rw[aQ]at hos
   simp -dsimp -implicitDefEqProofs only[go_sem,↓reduceIte,Tryz.f129,aR,aJ,hlt,ea,eb]
   intro _
   refine⟨by omega,?_⟩
   first|refine aH.mk (gY a[k] (b[k]'aA)) ?_|refine aF.mk (gY a[k] (b[k]'aA)) ?_|refine aH.bI (gY a[k] (b[k]'aA)) ?_|refine aF.mk (bC.dI (gY a[k] (b[k]'aA))) ?_
   simp -dsimp -implicitDefEqProofs only[go_sem,↓reduceIte,Tryz.f129]
   repeat'(with_reducible first|intro _|refine And.intro ?_ ?_)
   all_goals try(first|omega|decide|exact bX _)
   rename_i b hb
   refine⟨(k+1,some b),?_⟩
   simp only[hy,aJ,aR,aQ]
   refine⟨⟨by rw[gD];rfl,?_⟩,?_,⟨by omega,hb.2⟩,by omega⟩
   ·rw[IntWalk.i64_in _ aA];rfl
   ·rw[←dZ];exact jC hos
 ·have hk':k=a.length:=by omega
  subst hk'
  rw[nI aA]at hos ⊢
  cases o with
  |none =>
   rw[aY]at hos
   simp -dsimp -implicitDefEqProofs only[go_sem,↓reduceIte,Tryz.f129,bE,aL,bU,cT]
   intro _
   rw[hos]
   exact Shift.of (Sub.loose _ _ _) (aB.le_refl _)
  |some n =>
   rw[aQ]at hos
   simp -dsimp -implicitDefEqProofs only[go_sem,↓reduceIte,Tryz.f129,aR,aJ,bU,cT]
   intro _
   exact eT _ hos (aB.le_refl _) rfl
theorem aOJ (a b:List Int) (hab:b.length=a.length) (hl:a.length<=1048576) (ha:dW a) (hb:dW b):fE Tryz.prog 75 [ints a,ints b] (ints (lN a b)):=by
 refine fU 9 zX cU cF Tryz.func75 λh=>?_
 simp -dsimp -implicitDefEqProofs only[go_sem,↓reduceIte,Tryz.f75]
 first|refine aH.mk (r5 b 1000002 nD aA hb) ?_|refine aF.mk (r5 b 1000002 nD aA hb) ?_|refine aH.bI (r5 b 1000002 nD aA hb) ?_|refine aF.mk (bC.dI (r5 b 1000002 nD aA hb)) ?_
 simp -dsimp -implicitDefEqProofs only[go_sem,↓reduceIte,Tryz.f75]
 first|refine aH.mk (aAE a (gW b 1000002) aQD hl ha (eJ _ ⟨rfl,hb⟩).2) ?_|refine aF.mk (aAE a (gW b 1000002) aQD hl ha (eJ _ ⟨rfl,hb⟩).2) ?_|refine aH.bI (aAE a (gW b 1000002) aQD hl ha (eJ _ ⟨rfl,hb⟩).2) ?_|refine aF.mk (bC.dI (aAE a (gW b 1000002) aQD hl ha (eJ _ ⟨rfl,hb⟩).2)) ?_
 simp -dsimp -implicitDefEqProofs only[go_sem,↓reduceIte,Tryz.f75]
 rfl
@[go_sem] def aG8:List Nat:=[0,1,4,5,6,7,8,13,18]
@[go_sem] def aYD:List Nat:=[9,36]
@[go_sem] def aYE:Marks:=λid=>match id with|9=>([],(.op 0 (.op 1 (.op 2 (.op 3 (.op 4 (.op 5 (.op 6 (.op 7 (.op 8 (.op 9 (.op 10 (.op 11 (.op 12 (.op 13 .nil)))))))))))))),[])|_=>([],.nil,[])
theorem aOK (a b:List Int) (hab:b.length=a.length) (hl:a.length<=1048576) (ha:dW a) (hb:dW b):fE Tryz.prog 130 [ints a,ints b] (ints (mulL a b)):=by
 have hc:=aDT a b
 refine lS 39 aG8 aYD aYE Tryz.func130 λh=>?_
 simp -dsimp -implicitDefEqProofs only[go_sem,↓reduceIte,Tryz.f130]
 refine⟨bD,?_⟩
 refine cM aG8 aYD aYE (λx:Nat×Option Nat=>[(0,ints a),(1,ints b),(5,fT 1 ((mulL a b).take x.1).length x.2),(6,I x.1)]) (λx=>cP h (.row 1 ((((mulL a b).take x.1).map λn=>[I n]).map (List.map .v))) x.2) (λx=>x.1<=a.length/\eM h ((mulL a b).take x.1) x.2) (λx=>a.length-x.1) (0,none) ⟨by simp[cR,b6,fT],by simp only[aL];exact aB.le_refl _,eF _,by simp[eM]⟩ ?_
 rintro⟨k,o⟩ ⟨hk,hos⟩
 simp only at hk hos ⊢
 rcases bT k a.length with hlt|hge
 ·have hy:(mulL a b).take (k+1)=(mulL a b).take k++[(mulL a b)[k]'aA]:=jF aA
  have hv:(mulL a b)[k]'aA=x8 a b k (k+1):=by simp[mulL]
  have hlk:((mulL a b).take k).length=k:=by rw[mX];omega
  rw[hv]at hy
  cases o with
  |none =>
   rw[aY]at hos
   rw[hos]at hy ⊢
   simp -dsimp -implicitDefEqProofs only[go_sem,↓reduceIte,Tryz.f130,bE,aL,hlt]
   intro _
   refine sM aG8 aYD aYE (λi:Nat=>[(0,ints a),(1,ints b),(5,.sl 1 [] true),(6,I k),(7,I (x8 a b k i)),(8,I i)]) (λi=>i<=k+1) (λi=>k+1-i) 0 ⟨by simp[cR,b6,x8],eF _⟩ ?_
   intro i hi
   rcases bT i (k+1)with jO|aFB
   ·have ea:=cQ (l:=a) (i:=i) aA
    have eb:=cQ (l:=b) (i:=k-i) aA
    have ew:IntKind.i64.wrap ((k:Int)-(i:Int))=((k-i:Nat):Int):=by rw[IntWalk.i64_in _ aA];omega
    simp -dsimp -implicitDefEqProofs only[go_sem,↓reduceIte,Tryz.f130,ea,eb,ew]
    refine⟨λ_=>⟨by omega,by omega,?_⟩,λq=>absurd aA q⟩
    first|refine aH.mk (bA (a.getD i 0) (b.getD (k-i) 0) (ha.get i) (hb.get (k-i))) ?_|refine aF.mk (bA (a.getD i 0) (b.getD (k-i) 0) (ha.get i) (hb.get (k-i))) ?_|refine aH.bI (bA (a.getD i 0) (b.getD (k-i) 0) (ha.get i) (hb.get (k-i))) ?_|refine aF.mk (bC.dI (bA (a.getD i 0) (b.getD (k-i) 0) (ha.get i) (hb.get (k-i)))) ?_
    simp -dsimp -implicitDefEqProofs only[go_sem,↓reduceIte,Tryz.f130]
    first|refine aH.mk (gY (x8 a b k i) (a.getD i 0*b.getD (k-i) 0%1000003)) ?_|refine aF.mk (gY (x8 a b k i) (a.getD i 0*b.getD (k-i) 0%1000003)) ?_|refine aH.bI (gY (x8 a b k i) (a.getD i 0*b.getD (k-i) 0%1000003)) ?_|refine aF.mk (bC.dI (gY (x8 a b k i) (a.getD i 0*b.getD (k-i) 0%1000003))) ?_
    simp -dsimp -implicitDefEqProofs only[go_sem,↓reduceIte,Tryz.f130]
    refine⟨i+1,⟨?_,by rw[IntWalk.i64_in _ aA];rfl⟩,by omega,by omega⟩
    rw[x8]
    omega
   ·have hi':i=k+1:=by omega
    subst hi'
    simp -dsimp -implicitDefEqProofs only[go_sem,↓reduceIte,Tryz.f130,hlt]
    refine⟨λq=>absurd q aA,λ_=>?_⟩
    repeat'(with_reducible first|intro _|refine And.intro ?_ ?_)
    all_goals try(first|omega|decide)
    rename_i b hb
    refine⟨(k+1,some b),?_⟩
    simp only[hy]
    refine⟨⟨rfl,?_⟩,aB.le_refl _,⟨by omega,hb⟩,by omega⟩
    rw[IntWalk.i64_in _ aA];rfl
  |some n =>
   rw[aQ]at hos
   simp -dsimp -implicitDefEqProofs only[go_sem,↓reduceIte,Tryz.f130,aR,aJ,hlt]
   intro _
   refine sM aG8 aYD aYE (λi:Nat=>[(0,ints a),(1,ints b),(5,.os n 1 0 ((mulL a b).take k).length),(6,I k),(7,I (x8 a b k i)),(8,I i)]) (λi=>i<=k+1) (λi=>k+1-i) 0 ⟨by simp[cR,b6,x8],eF _⟩ ?_
   intro i hi
   rcases bT i (k+1)with jO|aFB
   ·have ea:=cQ (l:=a) (i:=i) aA
    have eb:=cQ (l:=b) (i:=k-i) aA
    have ew:IntKind.i64.wrap ((k:Int)-(i:Int))=((k-i:Nat):Int):=by rw[IntWalk.i64_in _ aA];omega
    simp -dsimp -implicitDefEqProofs only[go_sem,↓reduceIte,Tryz.f130,ea,eb,ew]
    refine⟨λ_=>⟨by omega,by omega,?_⟩,λq=>absurd aA q⟩
    first|refine aH.mk (bA (a.getD i 0) (b.getD (k-i) 0) (ha.get i) (hb.get (k-i))) ?_|refine aF.mk (bA (a.getD i 0) (b.getD (k-i) 0) (ha.get i) (hb.get (k-i))) ?_|refine aH.bI (bA (a.getD i 0) (b.getD (k-i) 0) (ha.get i) (hb.get (k-i))) ?_|refine aF.mk (bC.dI (bA (a.getD i 0) (b.getD (k-i) 0) (ha.get i) (hb.get (k-i)))) ?_
    simp -dsimp -implicitDefEqProofs only[go_sem,↓reduceIte,Tryz.f130]
    first|refine aH.mk (gY (x8 a b k i) (a.getD i 0*b.getD (k-i) 0%1000003)) ?_|refine aF.mk (gY (x8 a b k i) (a.getD i 0*b.getD (k-i) 0%1000003)) ?_|refine aH.bI (gY (x8 a b k i) (a.getD i 0*b.getD (k-i) 0%1000003)) ?_|refine aF.mk (bC.dI (gY (x8 a b k i) (a.getD i 0*b.getD (k-i) 0%1000003))) ?_
    simp -dsimp -implicitDefEqProofs only[go_sem,↓reduceIte,Tryz.f130]
    refine⟨i+1,⟨?_,by rw[IntWalk.i64_in _ aA];rfl⟩,by omega,by omega⟩
    rw[x8]
    omega
   ·have hi':i=k+1:=by omega
    subst hi'
    simp -dsimp -implicitDefEqProofs only[go_sem,↓reduceIte,Tryz.f130,hlt]
    refine⟨λq=>absurd q aA,λ_=>?_⟩
    repeat'(with_reducible first|intro _|refine And.intro ?_ ?_)
    all_goals try(first|omega|decide|exact bX _)
    rename_i b hb
    refine⟨(k+1,some b),?_⟩
    simp only[hy,aJ,aR,aQ]
    refine⟨⟨by rw[gD];rfl,?_⟩,?_,⟨by omega,hb.2⟩,by omega⟩
    ·rw[IntWalk.i64_in _ aA];rfl
    ·rw[←dZ];exact jC hos
 ·have hk':k=a.length:=by omega
  subst hk'
  rw[nI aA]at hos ⊢
  cases o with
  |none =>
   rw[aY]at hos
   simp -dsimp -implicitDefEqProofs only[go_sem,↓reduceIte,Tryz.f130,bE,aL,bU,cT]
   intro _
   rw[hos]
   exact Shift.of (Sub.loose _ _ _) (aB.le_refl _)
  |some n =>
   rw[aQ]at hos
   simp -dsimp -implicitDefEqProofs only[go_sem,↓reduceIte,Tryz.f130,aR,aJ,bU,cT]
   intro _
   exact eT _ hos (aB.le_refl _) rfl
@[go_sem] def aG9:List Nat:=[0,1,4,5,6,7,8,9,18,27]
@[go_sem] def aYF:List Nat:=[10,47]
@[go_sem] def aYG:Marks:=λid=>match id with|10=>([4],(.op 0 (.op 1 (.op 2 (.op 3 (.op 5 (.op 6 (.op 7 (.op 8 (.op 9 (.op 10 (.op 4 (.op 11 (.op 12 (.op 13 .nil)))))))))))))),[])|_=>([],.nil,[])
theorem bFZ (a b:List Int) (hab:b.length=a.length) (hl:a.length<=1048576) (h0:0<a.length) (ha:dW a) (hb:dW b):fE Tryz.prog 132 [ints a,ints b] (ints (fZ a b)):=by
 have hc:=o9 a b
 have e0:b[Int.toNat 0]?=some (b.getD 0 0):=cQ (l:=b) (i:=0) aA
 refine lS 50 aG9 aYF aYG Tryz.func132 λh=>?_
 simp -dsimp -implicitDefEqProofs only[go_sem,↓reduceIte,Tryz.f132,e0]
 refine⟨bD,by omega,?_⟩
 first|refine aH.mk (sN (b.getD 0 0)) ?_|refine aF.mk (sN (b.getD 0 0)) ?_|refine aH.bI (sN (b.getD 0 0)) ?_|refine aF.mk (bC.dI (sN (b.getD 0 0))) ?_
 simp -dsimp -implicitDefEqProofs only[go_sem,↓reduceIte,Tryz.f132]
 refine cM aG9 aYF aYG (λx:Nat×Option Nat=>[(0,ints a),(1,ints b),(6,I (gZ (b.getD 0 0))),(5,fT 1 ((fZ a b).take x.1).length x.2),(7,I x.1)]) (λx=>cP h (.row 1 ((((fZ a b).take x.1).map λn=>[I n]).map (List.map .v))) x.2) (λx=>x.1<=a.length/\eM h ((fZ a b).take x.1) x.2) (λx=>a.length-x.1) (0,none) ⟨by simp[cR,b6,fT],by simp only[aL];exact aB.le_refl _,eF _,by simp[eM]⟩ ?_
 rintro⟨k,o⟩ ⟨hk,hos⟩
 simp only at hk hos ⊢
 rcases bT k a.length with hlt|hge
 ·have hy:(fZ a b).take (k+1)=(fZ a b).take k++[(fZ a b)[k]'aA]:=jF aA
  have hv:=aDS (a:=a) (b:=b) hlt
  have hlk:((fZ a b).take k).length=k:=by rw[mX];omega
  have ek:=cQ hlt
  rw[hv]at hy
  cases o with
  |none =>
   rw[aY]at hos
   rw[hos]at hy ⊢
   have hk0:k=0:=by rw[hos]at hlk;exact hlk.symm
   subst hk0
   simp -dsimp -implicitDefEqProofs only[go_sem,↓reduceIte,Tryz.f132,bE,aL,hlt,ek]
   intro _
   refine sM aG9 aYF aYG (λ_:Unit=>[(0,ints a),(1,ints b),(5,.sl 1 [] true),(6,I (gZ (b.getD 0 0))),(7,I (0:Nat)),(8,I (a.getD 0 0)),(9,I (0:Nat))]) (λ_=>True) (λ_=>0) () ⟨by simp[cR,b6],trivial⟩ ?_
   intro _ _
   simp -dsimp -implicitDefEqProofs only[go_sem,↓reduceIte,Tryz.f132,bU,cT]
   try(refine⟨λq=>absurd q aA,λ_=>?_⟩)
   first|refine aH.mk (bA (a.getD 0 0) (gZ (b.getD 0 0)) (ha.get 0) (num_inv _)) ?_|refine aF.mk (bA (a.getD 0 0) (gZ (b.getD 0 0)) (ha.get 0) (num_inv _)) ?_|refine aH.bI (bA (a.getD 0 0) (gZ (b.getD 0 0)) (ha.get 0) (num_inv _)) ?_|refine aF.mk (bC.dI (bA (a.getD 0 0) (gZ (b.getD 0 0)) (ha.get 0) (num_inv _))) ?_
   simp -dsimp -implicitDefEqProofs only[go_sem,↓reduceIte,Tryz.f132]
   repeat'(with_reducible first|intro _|refine And.intro ?_ ?_)
   all_goals try(first|omega|decide)
   rename_i b hb
   refine⟨(0+1,some b),?_⟩
   simp only[hy]
   refine⟨⟨rfl,?_⟩,aB.le_refl _,⟨by omega,hb⟩,by omega⟩
   rw[IntWalk.i64_in _ aA];rfl
  |some n =>
   rw[aQ]at hos
   simp -dsimp -implicitDefEqProofs only[go_sem,↓reduceIte,Tryz.f132,aR,aJ,hlt,ek]
   intro _
   have htk:(fZ a b).take k=jP a b k:=tP a b _ hk
   refine sM aG9 aYF aYG (λi:Nat=>[(0,ints a),(1,ints b),(5,.os n 1 0 ((fZ a b).take k).length),(6,I (gZ (b.getD 0 0))),(7,I k),(8,I (dvS (jP a b k) b k (a.getD k 0) i)),(9,I i)]) (λi=>i<=k) (λi=>k-i) 0 ⟨by simp[cR,b6,dvS],eF _⟩ ?_
   intro i hi
   rcases bT i k with jO|aFB
   ·have ei:((fZ a b).take k)[i]?=some ((jP a b k).getD i 0):=by rw[htk];exact cQ (by rw[o8];exact jO)
    have eb:=cQ (l:=b) (i:=k-i) aA
    have ew:IntKind.i64.wrap ((k:Int)-(i:Int))=((k-i:Nat):Int):=by rw[IntWalk.i64_in _ aA];omega
    simp -dsimp -implicitDefEqProofs only[go_sem,↓reduceIte,Tryz.f132,jO,ei,eb,ew]
    refine⟨by omega,by omega,?_⟩
    first|refine aH.mk (bA ((jP a b k).getD i 0) (b.getD (k-i) 0) ((uL a b k).get i) (hb.get (k-i))) ?_|refine aF.mk (bA ((jP a b k).getD i 0) (b.getD (k-i) 0) ((uL a b k).get i) (hb.get (k-i))) ?_|refine aH.bI (bA ((jP a b k).getD i 0) (b.getD (k-i) 0) ((uL a b k).get i) (hb.get (k-i))) ?_|refine aF.mk (bC.dI (bA ((jP a b k).getD i 0) (b.getD (k-i) 0) ((uL a b k).get i) (hb.get (k-i)))) ?_
    simp -dsimp -implicitDefEqProofs only[go_sem,↓reduceIte,Tryz.f132]
    first|refine aH.mk (rZ (dvS (jP a b k) b k (a.getD k 0) i) ((jP a b k).getD i 0*b.getD (k-i) 0%1000003) (x9 _ _ _ (ha.get k) i) (eO _)) ?_|refine aF.mk (rZ (dvS (jP a b k) b k (a.getD k 0) i) ((jP a b k).getD i 0*b.getD (k-i) 0%1000003) (x9 _ _ _ (ha.get k) i) (eO _)) ?_|refine aH.bI (rZ (dvS (jP a b k) b k (a.getD k 0) i) ((jP a b k).getD i 0*b.getD (k-i) 0%1000003) (x9 _ _ _ (ha.get k) i) (eO _)) ?_|refine aF.mk (bC.dI (rZ (dvS (jP a b k) b k (a.getD k 0) i) ((jP a b k).getD i 0*b.getD (k-i) 0%1000003) (x9 _ _ _ (ha.get k) i) (eO _))) ?_
    simp -dsimp -implicitDefEqProofs only[go_sem,↓reduceIte,Tryz.f132]
    refine⟨i+1,⟨?_,by rw[IntWalk.i64_in _ aA];rfl⟩,by omega,by omega⟩
    rw[dvS]
    omega
   ·have hi':i=k:=by omega
    subst hi'
    simp -dsimp -implicitDefEqProofs only[go_sem,↓reduceIte,Tryz.f132,bU,cT]
    first|refine aH.mk (bA (dvS (jP a b i) b i (a.getD i 0) i) (gZ (b.getD 0 0)) (x9 _ _ _ (ha.get i) i) (num_inv _)) ?_|refine aF.mk (bA (dvS (jP a b i) b i (a.getD i 0) i) (gZ (b.getD 0 0)) (x9 _ _ _ (ha.get i) i) (num_inv _)) ?_|refine aH.bI (bA (dvS (jP a b i) b i (a.getD i 0) i) (gZ (b.getD 0 0)) (x9 _ _ _ (ha.get i) i) (num_inv _)) ?_|refine aF.mk (bC.dI (bA (dvS (jP a b i) b i (a.getD i 0) i) (gZ (b.getD 0 0)) (x9 _ _ _ (ha.get i) i) (num_inv _))) ?_
    simp -dsimp -implicitDefEqProofs only[go_sem,↓reduceIte,Tryz.f132]
    repeat'(with_reducible first|intro _|refine And.intro ?_ ?_)
    all_goals try(first|omega|decide|exact bX _)
    rename_i b hb
    refine⟨(i+1,some b),?_⟩
    simp only[hy,aJ,aR,aQ]
    refine⟨⟨by rw[gD];rfl,?_⟩,?_,⟨by omega,hb.2⟩,by omega⟩
    ·rw[IntWalk.i64_in _ aA];rfl
    ·rw[←dZ];exact jC hos
 ·have hk':k=a.length:=by omega
  subst hk'
  rw[nI aA]at hos ⊢
  cases o with
  |none =>
   rw[aY]at hos
   simp -dsimp -implicitDefEqProofs only[go_sem,↓reduceIte,Tryz.f132,bE,aL,bU,cT]
   intro _
   rw[hos]
   exact Shift.of (Sub.loose _ _ _) (aB.le_refl _)
  |some n =>
   rw[aQ]at hos
   simp -dsimp -implicitDefEqProofs only[go_sem,↓reduceIte,Tryz.f132,aR,aJ,bU,cT]
   intro _
   exact eT _ hos (aB.le_refl _) rfl
theorem lG {h h':aB} {n:Nat} (l:List (List Int)) (h0:h n=none) (hl:(aU h n (.row 1 ((l.map λs=>[ints s]).map (List.map .v)))).le h') {len:Nat} (e:len=l.length):Shift (.os n 1 0 len) h' (gF 1 (λs=>[ints s]) l) h :=
 aE5 (l.map λs=>[ints s]) h0 hl len (by rw[gT];exact e)
@[go_sem] def bDH:List Nat:=[7,19,23]
theorem aOL (env:List (List Int)) (s:List Int) (hl:env.length<=1048576):fE Tryz.prog 214 [gF 1 (λs=>[ints s]) env,ints s] (gF 1 (λs=>[ints s]) (env++[s])):=by
 refine lS 25 aK9 bDH cF Tryz.func214 λh=>?_
 simp -dsimp -implicitDefEqProofs only[go_sem,↓reduceIte,Tryz.f214]
 refine⟨bD,?_⟩
 refine cM aK9 bDH cF (λx:Nat×Option Nat=>[(0,gF 1 (λs=>[ints s]) env),(1,ints s),(5,fT 1 (env.take x.1).length x.2),(6,I x.1)]) (λx=>cP h (.row 1 (((env.take x.1).map λs=>[ints s]).map (List.map .v))) x.2) (λx=>x.1<=env.length/\eM h (env.take x.1) x.2) (λx=>env.length-x.1) (0,none) ⟨by simp[cR,b6,fT],by simp only[aL];exact aB.le_refl _,eF _,by simp[eM]⟩ ?_
 rintro⟨k,o⟩ ⟨hk,hos⟩
 simp only at hk hos ⊢
 rcases bT k env.length with hlt|hge
 ·have ea:env[k]?=some env[k]:=eY hlt
  have hy:env.take (k+1)=env.take k++[env[k]]:=jF hlt
  have hlk:(env.take k).length=k:=by rw[mX];omega
  cases o with
  |none =>
   rw[aY]at hos
   rw[hos]at hy ⊢
   simp -dsimp -implicitDefEqProofs only[go_sem,↓reduceIte,Tryz.f214,bE,aL,hlt,ea]
   intro _
   repeat'(with_reducible first|intro _|refine And.intro ?_ ?_)
   all_goals try(first|omega|decide)
   rename_i b hb
   refine⟨(k+1,some b),?_⟩
   simp only[hy]
   refine⟨⟨rfl,?_⟩,aB.le_refl _,⟨by omega,hb⟩,by omega⟩
   rw[IntWalk.i64_in _ aA];rfl
  |some n =>
   rw[aQ]at hos
   simp -dsimp -implicitDefEqProofs only[go_sem,↓reduceIte,Tryz.f214,aR,aJ,hlt,ea]
   intro _
   repeat'(with_reducible first|intro _|refine And.intro ?_ ?_)
   all_goals try(first|omega|decide|exact bX _)
   rename_i b hb
   refine⟨(k+1,some b),?_⟩
   simp only[hy,aJ,aR,aQ]
   refine⟨⟨by rw[gD];rfl,?_⟩,?_,⟨by omega,hb.2⟩,by omega⟩
   ·rw[IntWalk.i64_in _ aA];rfl
   ·rw[←dZ];exact jC hos
 ·have hk':k=env.length:=by omega
  subst hk'
  rw[nL]at hos ⊢
  cases o with
  |none =>
   rw[aY]at hos
   simp -dsimp -implicitDefEqProofs only[go_sem,↓reduceIte,Tryz.f214,bE,aL,bU,cT]
   subst hos
   exact λ_=>⟨bD,bD,bD,λn hn=>lG [s] hn (aB.le_refl _) rfl⟩
  |some n =>
   rw[aQ]at hos
   simp -dsimp -implicitDefEqProofs only[go_sem,↓reduceIte,Tryz.f214,aR,aJ,bU,cT]
   exact λ_=>⟨bD,bD,bD,bX _,by omega,by omega,λm hm=>lG (env++[s]) hm.2 (by rw[←dZ];exact jC hos) (by rw[gD];rfl)⟩
def dY (p:aG) (sz st:Nat) (c:Int):bV:=.row 4 [[.v (.ip 1 [p.c] 0 0),.v (I sz),.v (I st),.v (I c)]]
def RnQ (h:aB) (nb:Nat) (p:aG) (sz st:Nat) (c:Int) (X:Out (List Int)):aE->aB->Prop:=λr h'=>∃ s t c',r=ints s/\h'=aU h nb (dY p sz t c')/\bJ sz s/\st<=t/\t<=3000/\kY (rH c X) s t c'
def bTG (h:aB) (nb:Nat) (p:aG) (sz st:Nat) (c:Int) (n:Nat) (X:Out (List (List Int))):aE->aB->Prop:=λr h'=>∃ l t c',r=bW l/\h'=aU h nb (dY p sz t c')/\l.length=n/\(∀ s∈l,bJ sz s)/\st<=t/\t<=3000/\kY (rH c X) l t c'
@[go_sem] def a81:List Nat:=[0,1,4,9]
theorem aYH (h:aB) (nb:Nat) (p:aG) (sz st:Nat) (c d:Int) (hb:h nb=some (dY p sz st c)) (hsz:sz<=1048576):iV Tryz.prog 213 [.op nb 4 0 0,I d] h λr h'=>r=ints (cS 0 sz)/\h'=aU h nb (dY p sz st (if c=0 then d else c)):=by
 have hb':=hb
 unfold dY at hb'
 refine aGO 19 a81 cU cF Tryz.func213 ?_
 simp -dsimp -implicitDefEqProofs only[go_sem,↓reduceIte,Tryz.f213,hb']
 refine⟨λhc=>?_,λhc=>?_⟩
 ·try simp -dsimp -implicitDefEqProofs only[go_sem,↓reduceIte,Tryz.f213]
  first|refine aH.mk (mK 0 sz hsz) ?_|refine aF.mk (mK 0 sz hsz) ?_|refine aH.bI (mK 0 sz hsz) ?_|refine aF.mk (bC.dI (mK 0 sz hsz)) ?_
  simp -dsimp -implicitDefEqProofs only[go_sem,↓reduceIte,Tryz.f213]
  exact⟨_,by rw[if_pos hc];exact aB.le_refl _,rfl⟩
 ·try simp -dsimp -implicitDefEqProofs only[go_sem,↓reduceIte,Tryz.f213,hb']
  first|refine aH.mk (mK 0 sz hsz) ?_|refine aF.mk (mK 0 sz hsz) ?_|refine aH.bI (mK 0 sz hsz) ?_|refine aF.mk (bC.dI (mK 0 sz hsz)) ?_
  simp -dsimp -implicitDefEqProofs only[go_sem,↓reduceIte,Tryz.f213]
  refine⟨_,?_,rfl⟩
  rw[if_neg hc,uJ hb]
  exact aB.le_refl _
@[go_sem] def pG:List Nat:=[0,1,2,6,7,8,9,14,25,38,39,50,59,70,82,99,119,142,151,160,169]
@[go_sem] def yW:Marks:=λid=>match id with|8=>([7,8],(.op 0 (.op 1 (.op 2 (.op 3 (.op 4 (.op 5 (.op 6 (.op 7 (.op 8 (.op 9 .nil)))))))))),[])|19=>([8,9],(.op 0 (.op 1 (.op 2 (.op 3 (.op 4 (.op 5 (.op 6 (.op 7 (.op 8 (.op 9 (.op 10 .nil))))))))))),[])|_=>([],.nil,[])
def r6 (p:aG) (sz n:Nat):Prop:=∀ (h:aB) (nb st:Nat) (c:Int) (e:aD) (env:List (List Int)) (funcs:Int),h nb=some (dY p sz st c)->st<=3000->3001<=n+st->e.ok p funcs env.length->0<=funcs->funcs<=p.aK.length->(∀ s∈env,bJ sz s)->env.length<=412+st ->
 iV Tryz.prog 191 [.op nb 4 0 0,.ip 5 [e.c] 0 0,bW env] h (RnQ h nb p sz st c (kU p sz n st e env))
theorem bF0 {l:List aD} {k:Nat} {x:aD} (h:l[k]?=some x) (i:Nat) (hi:i=k):Sub (.ip 5 (l.map aD.c) i 0) (.ip 5 [x.c] 0 0):=by
 subst hi
 exact Sub.ip (by rw[qR,h];rfl) dG
theorem r6.at {p:aG} {sz n:Nat} (hv:r6 p sz n) {l:List aD} {i:Nat} {e:aD} (hi:l[i]?=some e) (h:aB) (nb st:Nat) (c:Int) (env:List (List Int)) (funcs:Int) (hb:h nb=some (dY p sz st c)) (hst:st<=3000) (hn:3001<=n+st) (hok:e.ok p funcs env.length) (iX:0<=funcs) (hf:funcs<=p.aK.length) (henv:∀ s∈env,bJ sz s) (hel:env.length<=412+st) :
  iV Tryz.prog 191 [.op nb 4 0 0,.ip 5 (l.map aD.c) i 0,bW env] h (RnQ h nb p sz st c (kU p sz n st e env)) :=
 iV.sub (.cons (.refl _) (.cons (bF0 hi _ rfl) (.cons (.refl _) .nil))) (hv h nb st c e env funcs hb hst hn hok iX hf henv hel)
theorem aHA {p:aG} {sz n:Nat} (hv:r6 p sz n) (h:aB) (nb st:Nat) (c:Int) (f:aX) (env:List (List Int)) (funcs:Int) (hb:h nb=some (dY p sz st c)) (hst:st<=3000) (hn:3001<=n+st)
  (hl:f.aS.length<=1048576) (hok:∀ e∈f.aS,e.ok p funcs env.length) (iX:0<=funcs) (hf:funcs<=p.aK.length) (henv:∀ s∈env,bJ sz s) (hel:env.length<=412+st) :
  iV Tryz.prog 146 [.op nb 4 0 0,.ip 3 [f.c] 0 0,bW env] h (bTG h nb p sz st c f.aS.length (m6 (λt e=>kU p sz n t e env) f.aS st)):=by
 rw[aX.aZ]
 refine mC 32 bC2 bC3 cF Tryz.func146 ?_
 simp -dsimp -implicitDefEqProofs only[go_sem,↓reduceIte,Tryz.f146]
 refine⟨bD,?_⟩
 refine cM bC2 bC3 cF (λx:Nat×List (List Int)×Nat×Int×Option Nat=>[(0,.op nb 4 0 0),(1,.ip 3 [[.str f.kQ,I f.aW,gF 5 aD.c f.aS]] 0 0),(2,bW env),(7,fT 1 x.2.1.length x.2.2.2.2),(8,I x.1)]) (λx=>cP (aU h nb (dY p sz x.2.2.1 x.2.2.2.1)) (.row 1 ((x.2.1.map λs=>[ints s]).map (List.map .v))) x.2.2.2.2) (λx=>x.1<=f.aS.length/\x.2.1.length=x.1/\(∀ s∈x.2.1,bJ sz s)/\st<=x.2.2.1/\x.2.2.1<=3000/\kY (rH c (m6 (λt e=>kU p sz n t e env) (f.aS.take x.1) st)) x.2.1 x.2.2.1 x.2.2.2.1/\eM h x.2.1 x.2.2.2.2) (λx=>f.aS.length-x.1) (0,[],st,c,none) ⟨by simp[cR,b6,fT],by simp only[aL];rw[uJ hb];exact aB.le_refl _,eF _,rfl,by simp,bX _,hst,jE _ _ _,rfl⟩ ?_
 rintro⟨k,vs,t,c',o⟩ ⟨hk,hvl,hvs,ht0,ht,ho,hos⟩
 simp only at hk hvl hvs ht0 ht ho hos ⊢
 rcases bT k f.aS.length with hlt|hge
 ·have ek:f.aS[k]?=some f.aS[k]:=eY hlt
  have hnext:∀ (s:List Int) (t2:Nat) (c2:Int),kY (rH c' (kU p sz n t f.aS[k] env)) s t2 c2->kY (rH c (m6 (λt e=>kU p sz n t e env) (f.aS.take (k+1)) st)) (vs++[s]) t2 c2:=λs t2 c2 h3=>by
   rw[jF hlt,aAV]
   exact ho.fV (h3.fV (jE _ _ _))
  have hall:∀ s,bJ sz s->∀ x∈vs++[s],bJ sz x:=λs hs=>yA hvs hs
  cases o with
  |none =>
   rw[aY]at hos
   subst hos
   simp -dsimp -implicitDefEqProofs only[go_sem,↓reduceIte,Tryz.f146,bE,aL,hlt,ek]
   intro _
   refine aH.gV (hv.at ek (aU h nb (dY p sz t c')) nb t c' env funcs (aI _ _ _) ht aA (hok _ (kM _)) iX hf henv aA) ?_
   rintro r h' ⟨s,t2,c2,rfl,rfl,hs,h1,h2,h3⟩
   simp -dsimp -implicitDefEqProofs only[go_sem,↓reduceIte,Tryz.f146]
   refine⟨bD,bD,bD,?_⟩
   intro b q_b
   obtain⟨nP,gJ,gI,nQ⟩:=cW (show ¬b=nb from pjx q_b)
   have z_b:h b=none:=pjx q_b
   refine⟨(k+1,[s],t2,c2,some b),⟨rfl,by rw[IntWalk.i64_in _ aA];rfl⟩,(nH bEO),⟨by omega,by simp only[sB]at hvl;subst hvl;rfl,λx hx=>hall s hs x hx,aKW ht0 h1,h2,hnext s t2 c2 h3,z_b⟩,by simp only;omega⟩
  |some m =>
   rw[aQ]at hos
   obtain⟨uM,kO,kN,qA⟩:=cW (show ¬m=nb from λe=>by rw[e,hb]at hos;cases hos)
   simp -dsimp -implicitDefEqProofs only[go_sem,↓reduceIte,Tryz.f146,aR,aJ,hlt,ek]
   intro _
   refine aH.gV (hv.at ek (aU (aU h nb (dY p sz t c')) m (.row 1 ((vs.map λs=>[ints s]).map (List.map .v)))) nb t c' env funcs aWN ht aA (hok _ (kM _)) iX hf henv aA) ?_
   rintro r h' ⟨s,t2,c2,rfl,rfl,hs,h1,h2,h3⟩
   simp -dsimp -implicitDefEqProofs only[go_sem,↓reduceIte,Tryz.f146,aC,kO,kN]
   refine⟨bD,bD,bD,bX _,by omega,by omega,?_⟩
   intro b q_b
   obtain⟨nP,gJ,gI,nQ⟩:=cW (show ¬b=nb from pjx q_b)
   obtain⟨vM,nB,nC,uN⟩:=cW (show ¬b=m from pjx q_b)
   have z_b:h b=none:=pjx q_b
   refine⟨(k+1,vs++[s],t2,c2,some b),⟨by rw[aR,gD];rfl,by rw[IntWalk.i64_in _ aA];rfl⟩,?_,⟨by omega,by rw[gD,hvl];rfl,hall s hs,aKW ht0 h1,h2,hnext s t2 c2 h3,z_b⟩,by simp only;omega⟩
   simp only[aJ]
   rw[←dZ ints]
   exact(nH bEN)
 ·have hk':k=f.aS.length:=by omega
  subst hk'
  rw[nL]at ho
  cases o with
  |none =>
   rw[aY]at hos
   subst hos
   simp -dsimp -implicitDefEqProofs only[go_sem,↓reduceIte,Tryz.f146,bE,aL,bU,cT]
   intro _
   exact⟨bW [],_,Shift.of (Sub.loose _ _ _) (aB.le_refl _),[],t,c',rfl,rfl,hvl,hvs,ht0,ht,ho⟩
  |some m =>
   rw[aQ]at hos
   simp -dsimp -implicitDefEqProofs only[go_sem,↓reduceIte,Tryz.f146,aR,aJ,bU,cT]
   intro _
   have hmn:¬m=nb:=λe=>by rw[e,hb]at hos;cases hos
   exact⟨bW vs,_,aE5 (vs.map λs=>[ints s]) (h:=aU h nb (dY p sz t c')) (by rw[aC _ _ _ _ hmn,hos]) (aB.le_refl _) _ (by rw[gT]),vs,t,c',rfl,rfl,hvl,hvs,ht0,ht,ho⟩
theorem a82 {p:aG} (hp:p.ok) {sz n:Nat} (hv:r6 p sz n) (h:aB) (nb st:Nat) (e:aD) (env:List (List Int)) (funcs:Int) (hb:h nb=some (dY p sz st 0)) (hst:st<=3000) (hn:3001<=n+st) (hok:e.ok p funcs env.length) (iX:0<=funcs) (hf:funcs<=p.aK.length) (henv:∀ s∈env,bJ sz s) (hel:env.length<=412+st) (hk:e.aT=10) :
  iV Tryz.prog 215 [.op nb 4 0 0,.ip 5 [e.c] 0 0,bW env] h (RnQ h nb p sz st 0 ((m6 (λt e=>kU p sz n t e env) e.aM st).andThen λvs t=>kU p sz n t (p.out e.bB e.c4) vs)):=by
 obtain⟨f,F⟩:=pF hp hok hf (.inl hk)
 have f1:=F.lo
 have f2:=F.hi
 have f3:=F.pk
 have f4:=F.pk2
 have f5:=F.kids
 have f6:=F.params
 have f8:=F.outs
 have f9:=F.loop
 have hkok:=gR hok aA
 rw[aD.aZ]
 refine mC 81 aRJ aRK aRL Tryz.func215 ?_
 simp -dsimp -implicitDefEqProofs only[go_sem,↓reduceIte,Tryz.f215]
 refine⟨bD,?_⟩
 refine cM aRJ aRK aRL (λx:Nat×List (List Int)×Nat×Int×Option Nat=>[(0,.op nb 4 0 0),(1,.ip 5 [[I e.aT,I e.bB,I e.c4,I e.cN,gF 5 aD.c e.aM]] 0 0),(2,bW env),(7,fT 1 x.2.1.length x.2.2.2.2),(8,I x.1)]) (λx=>cP (aU h nb (dY p sz x.2.2.1 x.2.2.2.1)) (.row 1 ((x.2.1.map λs=>[ints s]).map (List.map .v))) x.2.2.2.2) (λx=>x.1<=e.aM.length/\x.2.1.length=x.1/\(∀ s∈x.2.1,bJ sz s)/\st<=x.2.2.1/\x.2.2.1<=3000/\kY (rH 0 (m6 (λt e=>kU p sz n t e env) (e.aM.take x.1) st)) x.2.1 x.2.2.1 x.2.2.2.1/\eM h x.2.1 x.2.2.2.2) (λx=>e.aM.length-x.1) (0,[],st,0,none) ⟨by simp[cR,b6,fT],by simp only[aL];rw[uJ hb];exact aB.le_refl _,eF _,rfl,by simp,bX _,hst,jE _ _ _,rfl⟩ ?_
 rintro⟨k,vs,t,c',o⟩ ⟨hk2,hvl,hvs,ht0,ht,ho,hos⟩
 simp only at hk2 hvl hvs ht0 ht ho hos ⊢
 rcases bT k e.aM.length with hlt|hge
 ·have ek:e.aM[k]?=some e.aM[k]:=eY hlt
  have hnext:∀ (s:List Int) (t2:Nat) (c2:Int),kY (rH c' (kU p sz n t e.aM[k] env)) s t2 c2->kY (rH 0 (m6 (λt e=>kU p sz n t e env) (e.aM.take (k+1)) st)) (vs++[s]) t2 c2:=λs t2 c2 h3=>by
   rw[jF hlt,aAV]
   exact ho.fV (h3.fV (jE _ _ _))
  have hall:∀ s,bJ sz s->∀ x∈vs++[s],bJ sz x:=λs hs=>yA hvs hs
  cases o with
  |none =>
   rw[aY]at hos
   subst hos
   simp -dsimp -implicitDefEqProofs only[go_sem,↓reduceIte,Tryz.f215,bE,aL,hlt,ek]
   intro _
   refine aH.gV (hv.at ek (aU h nb (dY p sz t c')) nb t c' env funcs (aI _ _ _) ht aA (hkok _ (kM _)) iX hf henv aA) ?_
   rintro r h' ⟨s,t2,c2,rfl,rfl,hs,h1,h2,h3⟩
   simp -dsimp -implicitDefEqProofs only[go_sem,↓reduceIte,Tryz.f215]
   refine⟨bD,bD,bD,?_⟩
   intro b q_b
   obtain⟨nP,gJ,gI,nQ⟩:=cW (show ¬b=nb from pjx q_b)
   have z_b:h b=none:=pjx q_b
   refine⟨(k+1,[s],t2,c2,some b),⟨rfl,by rw[IntWalk.i64_in _ aA];rfl⟩,(nH bEO),⟨by omega,by simp only[sB]at hvl;subst hvl;rfl,λx hx=>hall s hs x hx,aKW ht0 h1,h2,hnext s t2 c2 h3,z_b⟩,by simp only;omega⟩
  |some m =>
   rw[aQ]at hos
   obtain⟨uM,kO,kN,qA⟩:=cW (show ¬m=nb from λe=>by rw[e,hb]at hos;cases hos)
   simp -dsimp -implicitDefEqProofs only[go_sem,↓reduceIte,Tryz.f215,aR,aJ,hlt,ek]
   intro _
   refine aH.gV (hv.at ek (aU (aU h nb (dY p sz t c')) m (.row 1 ((vs.map λs=>[ints s]).map (List.map .v)))) nb t c' env funcs aWN ht aA (hkok _ (kM _)) iX hf henv aA) ?_
   rintro r h' ⟨s,t2,c2,rfl,rfl,hs,h1,h2,h3⟩
   simp -dsimp -implicitDefEqProofs only[go_sem,↓reduceIte,Tryz.f215,aC,kO,kN]
   refine⟨bD,bD,bD,bX _,by omega,by omega,?_⟩
   intro b q_b
   obtain⟨nP,gJ,gI,nQ⟩:=cW (show ¬b=nb from pjx q_b)
   obtain⟨vM,nB,nC,uN⟩:=cW (show ¬b=m from pjx q_b)
   have z_b:h b=none:=pjx q_b
   refine⟨(k+1,vs++[s],t2,c2,some b),⟨by rw[aR,gD];rfl,by rw[IntWalk.i64_in _ aA];rfl⟩,?_,⟨by omega,by rw[gD,hvl];rfl,hall s hs,aKW ht0 h1,h2,hnext s t2 c2 h3,z_b⟩,by simp only;omega⟩
   simp only[aJ]
   rw[←dZ ints]
   exact(nH bEN)
 have hk':k=e.aM.length:=by omega
 subst hk'
 rw[nL]at ho
 have gp:vs[e.c4.toNat]?=some (vs.getD e.c4.toNat [])∨e.aT=10:=by
  by_cases h10:e.aT=10
  ·exact .inr h10
  ·exact .inl (s6 (by have:=f9 aA;omega))
 cases o with
 |none =>
  rw[aY]at hos
  subst hos
  simp -dsimp -implicitDefEqProofs only[go_sem,↓reduceIte,Tryz.f215,bE,aL,bU,cT,dY,hk,F.get,F.out,aX.aZ,aG.aZ]
  intro _
  refine⟨f1,f2,f3,by omega,?_⟩
  refine aH.gV (iV.sub (.cons (.refl _) (.cons (.refl _) (.cons (Sub.loose _ _ _) .nil))) (hv.at F.out (aU h nb (dY p sz t c')) nb t c' [] e.bB (aI _ _ _) ht aA a2V f1 aA dG dG)) ?_
  rintro r h' ⟨s,t2,c2,rfl,rfl,hs,b1,b2,b3⟩
  simp -dsimp -implicitDefEqProofs only[go_sem,↓reduceIte,Tryz.f215]
  refine⟨_,aU h nb (dY p sz t2 c2),eK aCX,s,t2,c2,rfl,rfl,hs,by omega,b2,?_⟩
  exact ho.fV b3
 |some m =>
  rw[aQ]at hos
  obtain⟨uM,kO,kN,qA⟩:=cW (show ¬m=nb from λe=>by rw[e,hb]at hos;cases hos)
  simp -dsimp -implicitDefEqProofs only[go_sem,↓reduceIte,Tryz.f215,aR,aJ,bU,cT,dY,aC,kO,kN,hk,F.get,F.out,aX.aZ,aG.aZ]
  intro _
  refine⟨f1,f2,f3,by omega,?_⟩
  refine aH.a4P rfl rfl qA (by rw[gT]) (by rw[aC _ _ _ _ uM];exact hos) ?_
  refine iV.mono (hv.at F.out (aU (aU h nb (dY p sz t c')) m .gone) nb t c' vs e.bB aWN ht aA a2V f1 aA hvs aA) ?_
  rintro r h' ⟨s,t2,c2,rfl,rfl,hs,b1,b2,b3⟩
  simp -dsimp -implicitDefEqProofs only[go_sem,↓reduceIte,Tryz.f215]
  refine⟨_,aU h nb (dY p sz t2 c2),eK (nH (by repeat'(first|exact p7 _ _|refine sV (by simp only[gB,↓reduceIte,eq_self,if_true,kN,kO]) ?_|refine nV aCT ?_))),s,t2,c2,rfl,rfl,hs,by omega,b2,?_⟩
  exact ho.fV b3
theorem a83 {p:aG} (hp:p.ok) {sz n:Nat} (hv:r6 p sz n) (h:aB) (nb st:Nat) (e:aD) (env:List (List Int)) (funcs:Int) (hb:h nb=some (dY p sz st 0)) (hst:st<=3000) (hn:3001<=n+st) (hok:e.ok p funcs env.length) (iX:0<=funcs) (hf:funcs<=p.aK.length) (henv:∀ s∈env,bJ sz s) (hel:env.length<=412+st) (hk:e.aT=11) :
  iV Tryz.prog 215 [.op nb 4 0 0,.ip 5 [e.c] 0 0,bW env] h (RnQ h nb p sz st 0 ((m6 (λt e=>kU p sz n t e env) e.aM st).andThen λvs t=>(sR (λvs t=>m6 (λt e=>kU p sz n t e vs) (p.outs e.bB) t) e.cN.toNat vs t).andThen λvs t=>.ok (vs.getD e.c4.toNat [],t))):=by
 obtain⟨f,F⟩:=pF hp hok hf (.inr hk)
 have f1:=F.lo
 have f2:=F.hi
 have f3:=F.pk
 have f4:=F.pk2
 have f5:=F.kids
 have f6:=F.params
 have f8:=F.outs
 have f9:=F.loop
 have hkok:=gR hok aA
 rw[aD.aZ]
 refine mC 81 aRJ aRK aRL Tryz.func215 ?_
 simp -dsimp -implicitDefEqProofs only[go_sem,↓reduceIte,Tryz.f215]
 refine⟨bD,?_⟩
 refine cM aRJ aRK aRL (λx:Nat×List (List Int)×Nat×Int×Option Nat=>[(0,.op nb 4 0 0),(1,.ip 5 [[I e.aT,I e.bB,I e.c4,I e.cN,gF 5 aD.c e.aM]] 0 0),(2,bW env),(7,fT 1 x.2.1.length x.2.2.2.2),(8,I x.1)]) (λx=>cP (aU h nb (dY p sz x.2.2.1 x.2.2.2.1)) (.row 1 ((x.2.1.map λs=>[ints s]).map (List.map .v))) x.2.2.2.2) (λx=>x.1<=e.aM.length/\x.2.1.length=x.1/\(∀ s∈x.2.1,bJ sz s)/\st<=x.2.2.1/\x.2.2.1<=3000/\kY (rH 0 (m6 (λt e=>kU p sz n t e env) (e.aM.take x.1) st)) x.2.1 x.2.2.1 x.2.2.2.1/\eM h x.2.1 x.2.2.2.2) (λx=>e.aM.length-x.1) (0,[],st,0,none) ⟨by simp[cR,b6,fT],by simp only[aL];rw[uJ hb];exact aB.le_refl _,eF _,rfl,by simp,bX _,hst,jE _ _ _,rfl⟩ ?_
 rintro⟨k,vs,t,c',o⟩ ⟨hk2,hvl,hvs,ht0,ht,ho,hos⟩
 simp only at hk2 hvl hvs ht0 ht ho hos ⊢
 rcases bT k e.aM.length with hlt|hge
 ·have ek:e.aM[k]?=some e.aM[k]:=eY hlt
  have hnext:∀ (s:List Int) (t2:Nat) (c2:Int),kY (rH c' (kU p sz n t e.aM[k] env)) s t2 c2->kY (rH 0 (m6 (λt e=>kU p sz n t e env) (e.aM.take (k+1)) st)) (vs++[s]) t2 c2:=λs t2 c2 h3=>by
   rw[jF hlt,aAV]
   exact ho.fV (h3.fV (jE _ _ _))
  have hall:∀ s,bJ sz s->∀ x∈vs++[s],bJ sz x:=λs hs=>yA hvs hs
  cases o with
  |none =>
   rw[aY]at hos
   subst hos
   simp -dsimp -implicitDefEqProofs only[go_sem,↓reduceIte,Tryz.f215,bE,aL,hlt,ek]
   intro _
   refine aH.gV (hv.at ek (aU h nb (dY p sz t c')) nb t c' env funcs (aI _ _ _) ht aA (hkok _ (kM _)) iX hf henv aA) ?_
   rintro r h' ⟨s,t2,c2,rfl,rfl,hs,h1,h2,h3⟩
   simp -dsimp -implicitDefEqProofs only[go_sem,↓reduceIte,Tryz.f215]
   refine⟨bD,bD,bD,?_⟩
   intro b q_b
   obtain⟨nP,gJ,gI,nQ⟩:=cW (show ¬b=nb from pjx q_b)
   have z_b:h b=none:=pjx q_b
   refine⟨(k+1,[s],t2,c2,some b),⟨rfl,by rw[IntWalk.i64_in _ aA];rfl⟩,(nH bEO),⟨by omega,by simp only[sB]at hvl;subst hvl;rfl,λx hx=>hall s hs x hx,aKW ht0 h1,h2,hnext s t2 c2 h3,z_b⟩,by simp only;omega⟩
  |some m =>
   rw[aQ]at hos
   obtain⟨uM,kO,kN,qA⟩:=cW (show ¬m=nb from λe=>by rw[e,hb]at hos;cases hos)
   simp -dsimp -implicitDefEqProofs only[go_sem,↓reduceIte,Tryz.f215,aR,aJ,hlt,ek]
   intro _
   refine aH.gV (hv.at ek (aU (aU h nb (dY p sz t c')) m (.row 1 ((vs.map λs=>[ints s]).map (List.map .v)))) nb t c' env funcs aWN ht aA (hkok _ (kM _)) iX hf henv aA) ?_
   rintro r h' ⟨s,t2,c2,rfl,rfl,hs,h1,h2,h3⟩
   simp -dsimp -implicitDefEqProofs only[go_sem,↓reduceIte,Tryz.f215,aC,kO,kN]
   refine⟨bD,bD,bD,bX _,by omega,by omega,?_⟩
   intro b q_b
   obtain⟨nP,gJ,gI,nQ⟩:=cW (show ¬b=nb from pjx q_b)
   obtain⟨vM,nB,nC,uN⟩:=cW (show ¬b=m from pjx q_b)
   have z_b:h b=none:=pjx q_b
   refine⟨(k+1,vs++[s],t2,c2,some b),⟨by rw[aR,gD];rfl,by rw[IntWalk.i64_in _ aA];rfl⟩,?_,⟨by omega,by rw[gD,hvl];rfl,hall s hs,aKW ht0 h1,h2,hnext s t2 c2 h3,z_b⟩,by simp only;omega⟩
   simp only[aJ]
   rw[←dZ ints]
   exact(nH bEN)
 have hk':k=e.aM.length:=by omega
 subst hk'
 rw[nL]at ho
 have gp:vs[e.c4.toNat]?=some (vs.getD e.c4.toNat [])∨e.aT=10:=by
  by_cases h10:e.aT=10
  ·exact .inr h10
  ·exact .inl (s6 (by have:=f9 aA;omega))
 have gp':vs[e.c4.toNat]?=some (vs.getD e.c4.toNat []):=gp.resolve_right aA
 have g9:=f9 hk
 cases o with
 |none =>
  exfalso
  rw[aY]at hos
  rw[hos]at hvl
  simp at hvl
  omega
 |some m =>
  rw[aQ]at hos
  obtain⟨uM,kO,kN,qA⟩:=cW (show ¬m=nb from λe=>by rw[e,hb]at hos;cases hos)
  simp -dsimp -implicitDefEqProofs only[go_sem,↓reduceIte,Tryz.f215,aR,aJ,bU,cT,dY,aC,kO,kN,hk,F.get,F.out,aX.aZ,aG.aZ]
  intro _
  refine⟨f1,f2,?_⟩
  refine aE2.a36 m (by rw[aC _ _ _ _ uM];exact hos) (by simp[jB,kO,kN]) ?_
  refine cM aRJ aRK aRL (λx:Nat×List (List Int)×Nat×Int=>[(0,.op nb 4 0 0),(1,.ip 5 [[I 11,I e.bB,I e.c4,I e.cN,gF 5 aD.c e.aM]] 0 0),(7,bW x.2.1),(9,.ip 3 (p.aK.map aX.c) e.bB.toNat 0),(10,I x.1)]) (λx=>aU h nb (dY p sz x.2.2.1 x.2.2.2)) (λx=>x.1<=e.cN.toNat/\x.2.1.length=f.aS.length/\(∀ s∈x.2.1,bJ sz s)/\t<=x.2.2.1/\x.2.2.1<=3000/\kY (rH c' (sR (λvs t=>m6 (λt e=>kU p sz n t e vs) (p.outs e.bB) t) x.1 vs t)) x.2.1 x.2.2.1 x.2.2.2) (λx=>e.cN.toNat-x.1) (0,vs,t,c') ⟨by simp[cR,b6,aE.fG,kO,kN,nI],(nH (by repeat'(first|exact p7 _ _|refine sV (by simp only[gB,↓reduceIte,eq_self,if_true,kO,kN,dY,aG.aZ]) ?_|refine nV aCT ?_))),eF _,by simp only;omega,hvs,bX _,ht,jE _ _ _⟩ ?_
  rintro⟨k,us,u,d⟩ ⟨hk1,hul,hus,ht1,ht2,hd⟩
  simp only at hk1 hul hus ht1 ht2 hd ⊢
  have gu:us[e.c4.toNat]?=some (us.getD e.c4.toNat []):=s6 aA
  simp -dsimp -implicitDefEqProofs only[go_sem,↓reduceIte,Tryz.f215,dY,gu]
  refine⟨λhlt=>?_,λhge=>?_⟩
  ·refine aH.gV (iV.sub (.cons (.refl _) (.cons (Sub.ip (by rw[qR,F.get];rfl) aWZ) (.cons (.refl _) .nil))) (aHA hv (aU h nb (dY p sz u d)) nb u d f us e.bB (aI _ _ _) ht2 aA aA (by rw[hul,g9.2.2];exact F.oks) f1 aA hus aA)) ?_
   rintro r h' ⟨l2,t2,c2,rfl,rfl,hl2,uZ,b1,b2,b3⟩
   simp -dsimp -implicitDefEqProofs only[go_sem,↓reduceIte,Tryz.f215]
   refine⟨(k+1,l2,t2,c2),⟨rfl,by rw[IntWalk.i64_in _ aA];rfl⟩,by simp only[aO];exact aB.le_refl _,⟨by omega,hl2,uZ,by simp only;omega,b2,?_⟩,by simp only;omega⟩
   simp only
   rw[aJE]
   refine hd.fV ?_
   rw[F.eq]
   exact b3
  ·have hke:k=e.cN.toNat:=by omega
   refine⟨f3,by omega,_,_,cD _ _,us.getD e.c4.toNat [],u,d,rfl,rfl,xA hus aA,by omega,ht2,?_⟩
   refine ho.fV ?_
   rw[←hke]
   exact hd.fV (jE _ _ _)
theorem a0Z {p:aG} {sz n:Nat} (hsz:1<=sz/\sz<=1048576) (h:aB) (nb st:Nat) (c:Int) (e:aD) (env:List (List Int)) (hb:h nb=some (dY p sz st c)) (hst:st<=3000) (hs:¬c=0∨st=3000) :
  iV Tryz.prog 191 [.op nb 4 0 0,.ip 5 [e.c] 0 0,bW env] h (RnQ h nb p sz st c (kU p sz (n+1) st e env)):=by
 rw[aD.aZ]
 have hb':=hb
 unfold dY at hb'
 refine mC 186 pG cU yW Tryz.func191 ?_
 simp -dsimp -implicitDefEqProofs only[go_sem,↓reduceIte,Tryz.f191,hb']
 refine⟨λhc=>?_,λhc=>?_⟩
 ·have hc':¬c=0:=by simpa using hc
  refine aH.gV (aYH h nb p sz st c c hb hsz.2) ?_
  rintro r h' ⟨rfl,rfl⟩
  simp -dsimp -implicitDefEqProofs only[go_sem,↓reduceIte,Tryz.f191]
  refine⟨_,_,cD _ _,_,st,c,rfl,by rw[if_neg hc'],fS qN,bX _,hst,by rw[u5 _ hc'];exact o6 _ _ hc'⟩
 ·have hc0:c=0:=by simpa using hc
  subst hc0
  have h3:st=3000:=by rcases hs with hs|hs;exact absurd rfl hs;exact hs
  subst h3
  try simp -dsimp -implicitDefEqProofs only[go_sem,↓reduceIte,Tryz.f191,hb']
  refine⟨λ_=>?_,λq=>absurd q dG⟩
  refine aH.gV (aYH h nb p sz 3000 0 7 hb hsz.2) ?_
  rintro r h' ⟨rfl,rfl⟩
  simp -dsimp -implicitDefEqProofs only[go_sem,↓reduceIte,Tryz.f191]
  refine⟨_,_,cD _ _,_,3000,7,rfl,rfl,fS qN,bX _,hst,?_⟩
  rw[eV,kU,if_pos rfl]
  exact o6 _ _ bO
theorem bF3 {p:aG} (hp:p.ok) {sz n:Nat} (hsz:1<=sz/\sz<=1048576) (hv:r6 p sz n) (h:aB) (nb st:Nat) (e:aD) (env:List (List Int)) (funcs:Int) (hb:h nb=some (dY p sz st 0)) (hst:st<3000) (hn:3001<=n+1+st)
  (hok:e.ok p funcs env.length) (iX:0<=funcs) (hf:funcs<=p.aK.length) (henv:∀ s∈env,bJ sz s) (hel:env.length<=412+st) (hk:e.aT=1) :
  iV Tryz.prog 191 [.op nb 4 0 0,.ip 5 [e.c] 0 0,bW env] h (RnQ h nb p sz st 0 (kU p sz (n+1) st e env)):=by
 have hb':=hb
 unfold dY at hb'
 have e3:((st:Int)=3000)=False:=eq_false aA
 have ew:IntKind.i64.wrap ((st:Int)+1)=((st+1:Nat):Int):=by rw[IntWalk.i64_in _ aA];rfl
 have hnode:=(aD.eI _ _ _ _).1 hok
 have h3:¬st=3000:=by omega
 have hnum:iW e.bB:=((eE aA).1 hnode.1).2.2.2.1 hk
 rw[aD.aZ]
 refine mC 186 pG cU yW Tryz.func191 ?_
 simp -dsimp -implicitDefEqProofs only[go_sem,↓reduceIte,Tryz.f191,hb',e3,ew,hk]
 first|refine aH.mk (mK e.bB sz hsz.2) ?_|refine aF.mk (mK e.bB sz hsz.2) ?_|refine aH.bI (mK e.bB sz hsz.2) ?_|refine aF.mk (bC.dI (mK e.bB sz hsz.2)) ?_
 simp -dsimp -implicitDefEqProofs only[go_sem,↓reduceIte,Tryz.f191]
 refine⟨_,_,cD _ _,_,st+1,0,rfl,rfl,fS hnum,qV _,hst,?_⟩
 rw[eV,aX5 h3 hk]
 exact s5 _ _
theorem bF4 {p:aG} (hp:p.ok) {sz n:Nat} (hsz:1<=sz/\sz<=1048576) (hv:r6 p sz n) (h:aB) (nb st:Nat) (e:aD) (env:List (List Int)) (funcs:Int) (hb:h nb=some (dY p sz st 0)) (hst:st<3000) (hn:3001<=n+1+st)
  (hok:e.ok p funcs env.length) (iX:0<=funcs) (hf:funcs<=p.aK.length) (henv:∀ s∈env,bJ sz s) (hel:env.length<=412+st) (hk:e.aT=2) :
  iV Tryz.prog 191 [.op nb 4 0 0,.ip 5 [e.c] 0 0,bW env] h (RnQ h nb p sz st 0 (kU p sz (n+1) st e env)):=by
 have hb':=hb
 unfold dY at hb'
 have e3:((st:Int)=3000)=False:=eq_false aA
 have ew:IntKind.i64.wrap ((st:Int)+1)=((st+1:Nat):Int):=by rw[IntWalk.i64_in _ aA];rfl
 have hnode:=(aD.eI _ _ _ _).1 hok
 have h3:¬st=3000:=by omega
 have hnum:=((eE aA).1 hnode.1).2.2.2.2.1 hk
 have hlt:e.bB.toNat<env.length:=by omega
 rw[aD.aZ]
 refine mC 186 pG cU yW Tryz.func191 ?_
 simp -dsimp -implicitDefEqProofs only[go_sem,↓reduceIte,Tryz.f191,hb',e3,ew,hk,s6 hlt]
 refine⟨hnum.1,by omega,_,_,cD _ _,_,st+1,0,rfl,rfl,xA henv hlt,qV _,hst,?_⟩
 rw[eV,aX6 h3 hk]
 exact s5 _ _
theorem bF5 {p:aG} (hp:p.ok) {sz n:Nat} (hsz:1<=sz/\sz<=1048576) (hv:r6 p sz n) (h:aB) (nb st:Nat) (e:aD) (env:List (List Int)) (funcs:Int) (hb:h nb=some (dY p sz st 0)) (hst:st<3000) (hn:3001<=n+1+st)
  (hok:e.ok p funcs env.length) (iX:0<=funcs) (hf:funcs<=p.aK.length) (henv:∀ s∈env,bJ sz s) (hel:env.length<=412+st) (hk:e.aT=8) :
  iV Tryz.prog 191 [.op nb 4 0 0,.ip 5 [e.c] 0 0,bW env] h (RnQ h nb p sz st 0 (kU p sz (n+1) st e env)):=by
 have hb':=hb
 unfold dY at hb'
 have e3:((st:Int)=3000)=False:=eq_false aA
 have ew:IntKind.i64.wrap ((st:Int)+1)=((st+1:Nat):Int):=by rw[IntWalk.i64_in _ aA];rfl
 have hnode:=(aD.eI _ _ _ _).1 hok
 have h3:¬st=3000:=by omega
 have hlen:=fI hok aA
 rw[hk,show e8 8=3 from rfl]at hlen
 have g0:e.aM[Int.toNat 0]?=some (e.pY 0):=aD.jQ aA
 have g1:e.aM[Int.toNat 1]?=some (e.pY 1):=aD.jQ aA
 have g2:e.aM[Int.toNat 2]?=some (e.pY 2):=aD.jQ aA
 have o0:=aD.fM hok (i:=0) aA
 have o1:=aD.fM hok (i:=1) aA
 have o2:=aD.fM hok (i:=2) aA
 rw[jA aA]at o0 o1 o2
 rw[aD.aZ]
 refine mC 186 pG cU yW Tryz.func191 ?_
 simp -dsimp -implicitDefEqProofs only[go_sem,↓reduceIte,Tryz.f191,hb',e3,ew,hk,g0]
 refine⟨by omega,?_⟩
 refine aH.gV (hv.at g0 (aU h nb (dY p sz (st+1) 0)) nb (st+1) 0 env funcs (aI _ _ _) aA aA o0 iX hf henv aA) ?_
 rintro r h' ⟨s1,t1,c1,rfl,rfl,sA,a1,a2,a3⟩
 have gs:s1[Int.toNat 0]?=some (s1.getD 0 0):=cQ qB
 simp -dsimp -implicitDefEqProofs only[go_sem,↓reduceIte,Tryz.f191,gs,g1,g2]
 refine⟨by rw[sA.1];omega,λhz=>⟨by omega,?_⟩,λhz=>⟨by omega,?_⟩⟩
 ·rw[aO]
  refine aH.gV (hv.at g1 (aU h nb (dY p sz t1 c1)) nb t1 c1 env funcs (aI _ _ _) aA aA o1 iX hf henv aA) ?_
  rintro r h' ⟨s2,t2,c2,rfl,rfl,uZ,b1,b2,b3⟩
  simp -dsimp -implicitDefEqProofs only[go_sem,↓reduceIte,Tryz.f191]
  refine⟨_,_,cD _ _,s2,t2,c2,rfl,by rw[aO],uZ,by omega,b2,?_⟩
  rw[aR2 h3 hk]
  refine a3.fV ?_
  rw[if_pos hz]
  exact b3
 ·rw[aO]
  refine aH.gV (hv.at g2 (aU h nb (dY p sz t1 c1)) nb t1 c1 env funcs (aI _ _ _) aA aA o2 iX hf henv aA) ?_
  rintro r h' ⟨s2,t2,c2,rfl,rfl,uZ,b1,b2,b3⟩
  simp -dsimp -implicitDefEqProofs only[go_sem,↓reduceIte,Tryz.f191]
  refine⟨_,_,cD _ _,s2,t2,c2,rfl,by rw[aO],uZ,by omega,b2,?_⟩
  rw[aR2 h3 hk]
  refine a3.fV ?_
  rw[if_neg hz]
  exact b3
theorem bF6 {p:aG} (hp:p.ok) {sz n:Nat} (hsz:1<=sz/\sz<=1048576) (hv:r6 p sz n) (h:aB) (nb st:Nat) (e:aD) (env:List (List Int)) (funcs:Int) (hb:h nb=some (dY p sz st 0)) (hst:st<3000) (hn:3001<=n+1+st)
  (hok:e.ok p funcs env.length) (iX:0<=funcs) (hf:funcs<=p.aK.length) (henv:∀ s∈env,bJ sz s) (hel:env.length<=412+st) (hk:e.aT=9) :
  iV Tryz.prog 191 [.op nb 4 0 0,.ip 5 [e.c] 0 0,bW env] h (RnQ h nb p sz st 0 (kU p sz (n+1) st e env)):=by
 have hb':=hb
 unfold dY at hb'
 have e3:((st:Int)=3000)=False:=eq_false aA
 have ew:IntKind.i64.wrap ((st:Int)+1)=((st+1:Nat):Int):=by rw[IntWalk.i64_in _ aA];rfl
 have hnode:=(aD.eI _ _ _ _).1 hok
 have h3:¬st=3000:=by omega
 have hlen:=fI hok aA
 rw[hk,show e8 9=2 from rfl]at hlen
 have g0:e.aM[Int.toNat 0]?=some (e.pY 0):=aD.jQ aA
 have g1:e.aM[Int.toNat 1]?=some (e.pY 1):=aD.jQ aA
 have o0:=aD.fM hok (i:=0) aA
 have o1:=aD.fM hok (i:=1) aA
 rw[jA aA]at o0
 rw[hk,show jG 9 1 (env.length:Int)=env.length+1 from rfl]at o1
 rw[aD.aZ]
 refine mC 186 pG cU yW Tryz.func191 ?_
 simp -dsimp -implicitDefEqProofs only[go_sem,↓reduceIte,Tryz.f191,hb',e3,ew,hk,g0,g1]
 refine⟨by omega,?_⟩
 refine aH.gV (hv.at g0 (aU h nb (dY p sz (st+1) 0)) nb (st+1) 0 env funcs (aI _ _ _) aA aA o0 iX hf henv aA) ?_
 rintro r h' ⟨s1,t1,c1,rfl,rfl,sA,a1,a2,a3⟩
 simp -dsimp -implicitDefEqProofs only[go_sem,↓reduceIte,Tryz.f191,g0,g1]
 refine⟨by omega,?_⟩
 first|refine aH.mk (aOL env s1 aA) ?_|refine aF.mk (aOL env s1 aA) ?_|refine aH.bI (aOL env s1 aA) ?_|refine aF.mk (bC.dI (aOL env s1 aA)) ?_
 simp -dsimp -implicitDefEqProofs only[go_sem,↓reduceIte,Tryz.f191]
 rw[aO]
 refine aH.gV (hv.at g1 (aU h nb (dY p sz t1 c1)) nb t1 c1 (env++[s1]) funcs (aI _ _ _) aA aA aH2 iX hf (yA henv sA) bCA) ?_
 rintro r h' ⟨s2,t2,c2,rfl,rfl,uZ,b1,b2,b3⟩
 simp -dsimp -implicitDefEqProofs only[go_sem,↓reduceIte,Tryz.f191]
 refine⟨_,aU h nb (dY p sz t2 c2),eK aCX,s2,t2,c2,rfl,rfl,uZ,by omega,b2,?_⟩
 rw[aX7 h3 hk]
 exact a3.fV b3
theorem a84 {p:aG} (hp:p.ok) {sz n:Nat} (hsz:1<=sz/\sz<=1048576) (hv:r6 p sz n) (h:aB) (nb st:Nat) (e:aD) (env:List (List Int)) (funcs:Int) (hb:h nb=some (dY p sz st 0)) (hst:st<3000) (hn:3001<=n+1+st)
  (hok:e.ok p funcs env.length) (iX:0<=funcs) (hf:funcs<=p.aK.length) (henv:∀ s∈env,bJ sz s) (hel:env.length<=412+st) (hk:e.aT=10) :
  iV Tryz.prog 191 [.op nb 4 0 0,.ip 5 [e.c] 0 0,bW env] h (RnQ h nb p sz st 0 (kU p sz (n+1) st e env)):=by
 have hb':=hb
 unfold dY at hb'
 have e3:((st:Int)=3000)=False:=eq_false aA
 have ew:IntKind.i64.wrap ((st:Int)+1)=((st+1:Nat):Int):=by rw[IntWalk.i64_in _ aA];rfl
 have hnode:=(aD.eI _ _ _ _).1 hok
 have h3:¬st=3000:=by omega
 have hcl:=a82 hp hv (aU h nb (dY p sz (st+1) 0)) nb (st+1) e env funcs (aI _ _ _) aA aA hok iX hf henv aA hk
 rw[aD.aZ,hk]at hcl
 rw[aD.aZ]
 refine mC 186 pG cU yW Tryz.func191 ?_
 simp -dsimp -implicitDefEqProofs only[go_sem,↓reduceIte,Tryz.f191,hb',e3,ew,hk]
 refine aH.gV hcl ?_
 rintro r h' ⟨s2,t2,c2,rfl,rfl,uZ,b1,b2,b3⟩
 simp -dsimp -implicitDefEqProofs only[go_sem,↓reduceIte,Tryz.f191]
 refine⟨_,aU h nb (dY p sz t2 c2),eK aCX,s2,t2,c2,rfl,rfl,uZ,by omega,b2,?_⟩
 rw[aOD h3 hk]
 exact b3
theorem a85 {p:aG} (hp:p.ok) {sz n:Nat} (hsz:1<=sz/\sz<=1048576) (hv:r6 p sz n) (h:aB) (nb st:Nat) (e:aD) (env:List (List Int)) (funcs:Int) (hb:h nb=some (dY p sz st 0)) (hst:st<3000) (hn:3001<=n+1+st)
  (hok:e.ok p funcs env.length) (iX:0<=funcs) (hf:funcs<=p.aK.length) (henv:∀ s∈env,bJ sz s) (hel:env.length<=412+st) (hk:e.aT=11) :
  iV Tryz.prog 191 [.op nb 4 0 0,.ip 5 [e.c] 0 0,bW env] h (RnQ h nb p sz st 0 (kU p sz (n+1) st e env)):=by
 have hb':=hb
 unfold dY at hb'
 have e3:((st:Int)=3000)=False:=eq_false aA
 have ew:IntKind.i64.wrap ((st:Int)+1)=((st+1:Nat):Int):=by rw[IntWalk.i64_in _ aA];rfl
 have hnode:=(aD.eI _ _ _ _).1 hok
 have h3:¬st=3000:=by omega
 have hcl:=a83 hp hv (aU h nb (dY p sz (st+1) 0)) nb (st+1) e env funcs (aI _ _ _) aA aA hok iX hf henv aA hk
 rw[aD.aZ,hk]at hcl
 rw[aD.aZ]
 refine mC 186 pG cU yW Tryz.func191 ?_
 simp -dsimp -implicitDefEqProofs only[go_sem,↓reduceIte,Tryz.f191,hb',e3,ew,hk]
 refine aH.gV hcl ?_
 rintro r h' ⟨s2,t2,c2,rfl,rfl,uZ,b1,b2,b3⟩
 simp -dsimp -implicitDefEqProofs only[go_sem,↓reduceIte,Tryz.f191]
 refine⟨_,aU h nb (dY p sz t2 c2),eK aCX,s2,t2,c2,rfl,rfl,uZ,by omega,b2,?_⟩
 rw[aOE h3 hk]
 exact b3
theorem a4Q {e:aD} (h:e.aM.length=1):e.aM=[e.pY 0]:=by
 have h0:=aD.aOF (e:=e) (i:=0) aA
 rw[h0]
 apply u4 (by simp[h])
 intro i hi hi2
 match i,hi2 with
 |0,_=>rfl
theorem a4S {e:aD} (h:e.aM.length=2):e.aM=[e.pY 0,e.pY 1]:=by
 have h0:=aD.aOF (e:=e) (i:=0) aA
 have h1:=aD.aOF (e:=e) (i:=1) aA
 rw[h0,h1]
 apply u4 (by simp[h])
 intro i hi hi2
 match i,hi2 with
 |0,_=>rfl
 |1,_=>rfl
theorem bF7 {p:aG} {sz n st:Nat} {e:aD} {env:List (List Int)} (h3:¬st=3000) (hk:e.aT=7) (hl:e.aM.length=1):kU p sz (n+1) st e env=(kU p sz n (st+1) (e.pY 0) env).andThen λv t=>.ok (gW v 1000002,t):=by
 rw[aJG h3 aA,a4Q hl,hk]
 simp only[m6,Out.mS,Out.andThen_ok,opE]
 rfl
theorem aAZ {p:aG} {sz n st:Nat} {e:aD} {env:List (List Int)} (h3:¬st=3000) (hk:e.aT=3∨e.aT=4∨e.aT=5∨e.aT=6) (hl:e.aM.length=2):kU p sz (n+1) st e env=(kU p sz n (st+1) (e.pY 0) env).andThen λa t=>(kU p sz n t (e.pY 1) env).andThen λb t=>opE e.aT [a,b] t:=by
 rw[aJG h3 aA,a4S hl]
 simp only[m6,Out.mS,Out.andThen_ok]
theorem bF8 {p:aG} (hp:p.ok) {sz n:Nat} (hsz:1<=sz/\sz<=1048576) (hv:r6 p sz n) (h:aB) (nb st:Nat) (e:aD) (env:List (List Int)) (funcs:Int) (hb:h nb=some (dY p sz st 0)) (hst:st<3000) (hn:3001<=n+1+st)
  (hok:e.ok p funcs env.length) (iX:0<=funcs) (hf:funcs<=p.aK.length) (henv:∀ s∈env,bJ sz s) (hel:env.length<=412+st) (hk:e.aT=7) :
  iV Tryz.prog 191 [.op nb 4 0 0,.ip 5 [e.c] 0 0,bW env] h (RnQ h nb p sz st 0 (kU p sz (n+1) st e env)):=by
 have hb':=hb
 unfold dY at hb'
 have e3:((st:Int)=3000)=False:=eq_false aA
 have ew:IntKind.i64.wrap ((st:Int)+1)=((st+1:Nat):Int):=by rw[IntWalk.i64_in _ aA];rfl
 have hnode:=(aD.eI _ _ _ _).1 hok
 have h3:¬st=3000:=by omega
 have hlen:=fI hok aA
 rw[hk,show e8 7=1 from rfl]at hlen
 have g0:e.aM[Int.toNat 0]?=some (e.pY 0):=aD.jQ aA
 have o0:=aD.fM hok (i:=0) aA
 rw[jA aA]at o0
 rw[aD.aZ]
 refine mC 186 pG cU yW Tryz.func191 ?_
 simp -dsimp -implicitDefEqProofs only[go_sem,↓reduceIte,Tryz.f191,hb',e3,ew,hk,g0]
 refine⟨by omega,?_⟩
 refine aH.gV (hv.at g0 (aU h nb (dY p sz (st+1) 0)) nb (st+1) 0 env funcs (aI _ _ _) aA aA o0 iX hf henv aA) ?_
 rintro r h' ⟨s1,t1,c1,rfl,rfl,sA,a1,a2,a3⟩
 simp -dsimp -implicitDefEqProofs only[go_sem,↓reduceIte,Tryz.f191]
 first|refine aH.mk (r5 s1 1000002 nD qB sA.2) ?_|refine aF.mk (r5 s1 1000002 nD qB sA.2) ?_|refine aH.bI (r5 s1 1000002 nD qB sA.2) ?_|refine aF.mk (bC.dI (r5 s1 1000002 nD qB sA.2)) ?_
 simp -dsimp -implicitDefEqProofs only[go_sem,↓reduceIte,Tryz.f191]
 refine⟨_,aU h nb (dY p sz t1 c1),eK aCX,_,t1,c1,rfl,rfl,eJ _ sA,by omega,a2,?_⟩
 rw[bF7 h3 hk aA]
 exact a3.fV (jE _ _ _)
theorem bF9 {p:aG} (hp:p.ok) {sz n:Nat} (hsz:1<=sz/\sz<=1048576) (hv:r6 p sz n) (h:aB) (nb st:Nat) (e:aD) (env:List (List Int)) (funcs:Int) (hb:h nb=some (dY p sz st 0)) (hst:st<3000) (hn:3001<=n+1+st)
  (hok:e.ok p funcs env.length) (iX:0<=funcs) (hf:funcs<=p.aK.length) (henv:∀ s∈env,bJ sz s) (hel:env.length<=412+st) (hk:e.aT=3) :
  iV Tryz.prog 191 [.op nb 4 0 0,.ip 5 [e.c] 0 0,bW env] h (RnQ h nb p sz st 0 (kU p sz (n+1) st e env)):=by
 have hb':=hb
 unfold dY at hb'
 have e3:((st:Int)=3000)=False:=eq_false aA
 have ew:IntKind.i64.wrap ((st:Int)+1)=((st+1:Nat):Int):=by rw[IntWalk.i64_in _ aA];rfl
 have hnode:=(aD.eI _ _ _ _).1 hok
 have h3:¬st=3000:=by omega
 have hlen:=fI hok aA
 rw[hk,show e8 3=2 from rfl]at hlen
 have g0:e.aM[Int.toNat 0]?=some (e.pY 0):=aD.jQ aA
 have g1:e.aM[Int.toNat 1]?=some (e.pY 1):=aD.jQ aA
 have o0:=aD.fM hok (i:=0) aA
 have o1:=aD.fM hok (i:=1) aA
 rw[jA aA]at o0 o1
 rw[aD.aZ]
 refine mC 186 pG cU yW Tryz.func191 ?_
 simp -dsimp -implicitDefEqProofs only[go_sem,↓reduceIte,Tryz.f191,hb',e3,ew,hk,g0]
 refine⟨by omega,?_⟩
 refine aH.gV (hv.at g0 (aU h nb (dY p sz (st+1) 0)) nb (st+1) 0 env funcs (aI _ _ _) aA aA o0 iX hf henv aA) ?_
 rintro r h' ⟨s1,t1,c1,rfl,rfl,sA,a1,a2,a3⟩
 simp -dsimp -implicitDefEqProofs only[go_sem,↓reduceIte,Tryz.f191,g1]
 refine⟨by omega,?_⟩
 rw[aO]
 refine aH.gV (hv.at g1 (aU h nb (dY p sz t1 c1)) nb t1 c1 env funcs (aI _ _ _) aA aA o1 iX hf henv aA) ?_
 rintro r h' ⟨s2,t2,c2,rfl,rfl,uZ,b1,b2,b3⟩
 rw[aO]
 simp -dsimp -implicitDefEqProofs only[go_sem,↓reduceIte,Tryz.f191,hk]
 first|refine aH.mk (aAE s1 s2 wQ qB sA.2 uZ.2) ?_|refine aF.mk (aAE s1 s2 wQ qB sA.2 uZ.2) ?_|refine aH.bI (aAE s1 s2 wQ qB sA.2 uZ.2) ?_|refine aF.mk (bC.dI (aAE s1 s2 wQ qB sA.2 uZ.2)) ?_
 simp -dsimp -implicitDefEqProofs only[go_sem,↓reduceIte,Tryz.f191]
 refine⟨_,aU h nb (dY p sz t2 c2),eK (aB.le_refl _),_,t2,c2,rfl,rfl,mT sA uZ,by omega,b2,?_⟩
 rw[aAZ h3 aA aA,hk]
 exact a3.fV (b3.fV (jE _ _ _))
theorem bGA {p:aG} (hp:p.ok) {sz n:Nat} (hsz:1<=sz/\sz<=1048576) (hv:r6 p sz n) (h:aB) (nb st:Nat) (e:aD) (env:List (List Int)) (funcs:Int) (hb:h nb=some (dY p sz st 0)) (hst:st<3000) (hn:3001<=n+1+st)
  (hok:e.ok p funcs env.length) (iX:0<=funcs) (hf:funcs<=p.aK.length) (henv:∀ s∈env,bJ sz s) (hel:env.length<=412+st) (hk:e.aT=4) :
  iV Tryz.prog 191 [.op nb 4 0 0,.ip 5 [e.c] 0 0,bW env] h (RnQ h nb p sz st 0 (kU p sz (n+1) st e env)):=by
 have hb':=hb
 unfold dY at hb'
 have e3:((st:Int)=3000)=False:=eq_false aA
 have ew:IntKind.i64.wrap ((st:Int)+1)=((st+1:Nat):Int):=by rw[IntWalk.i64_in _ aA];rfl
 have hnode:=(aD.eI _ _ _ _).1 hok
 have h3:¬st=3000:=by omega
 have hlen:=fI hok aA
 rw[hk,show e8 4=2 from rfl]at hlen
 have g0:e.aM[Int.toNat 0]?=some (e.pY 0):=aD.jQ aA
 have g1:e.aM[Int.toNat 1]?=some (e.pY 1):=aD.jQ aA
 have o0:=aD.fM hok (i:=0) aA
 have o1:=aD.fM hok (i:=1) aA
 rw[jA aA]at o0 o1
 rw[aD.aZ]
 refine mC 186 pG cU yW Tryz.func191 ?_
 simp -dsimp -implicitDefEqProofs only[go_sem,↓reduceIte,Tryz.f191,hb',e3,ew,hk,g0]
 refine⟨by omega,?_⟩
 refine aH.gV (hv.at g0 (aU h nb (dY p sz (st+1) 0)) nb (st+1) 0 env funcs (aI _ _ _) aA aA o0 iX hf henv aA) ?_
 rintro r h' ⟨s1,t1,c1,rfl,rfl,sA,a1,a2,a3⟩
 simp -dsimp -implicitDefEqProofs only[go_sem,↓reduceIte,Tryz.f191,g1]
 refine⟨by omega,?_⟩
 rw[aO]
 refine aH.gV (hv.at g1 (aU h nb (dY p sz t1 c1)) nb t1 c1 env funcs (aI _ _ _) aA aA o1 iX hf henv aA) ?_
 rintro r h' ⟨s2,t2,c2,rfl,rfl,uZ,b1,b2,b3⟩
 rw[aO]
 simp -dsimp -implicitDefEqProofs only[go_sem,↓reduceIte,Tryz.f191,hk]
 first|refine aH.mk (aOJ s1 s2 wQ qB sA.2 uZ.2) ?_|refine aF.mk (aOJ s1 s2 wQ qB sA.2 uZ.2) ?_|refine aH.bI (aOJ s1 s2 wQ qB sA.2 uZ.2) ?_|refine aF.mk (bC.dI (aOJ s1 s2 wQ qB sA.2 uZ.2)) ?_
 simp -dsimp -implicitDefEqProofs only[go_sem,↓reduceIte,Tryz.f191]
 refine⟨_,aU h nb (dY p sz t2 c2),eK (aB.le_refl _),_,t2,c2,rfl,rfl,mU sA uZ,by omega,b2,?_⟩
 rw[aAZ h3 aA aA,hk]
 exact a3.fV (b3.fV (jE _ _ _))
theorem bGB {p:aG} (hp:p.ok) {sz n:Nat} (hsz:1<=sz/\sz<=1048576) (hv:r6 p sz n) (h:aB) (nb st:Nat) (e:aD) (env:List (List Int)) (funcs:Int) (hb:h nb=some (dY p sz st 0)) (hst:st<3000) (hn:3001<=n+1+st)
  (hok:e.ok p funcs env.length) (iX:0<=funcs) (hf:funcs<=p.aK.length) (henv:∀ s∈env,bJ sz s) (hel:env.length<=412+st) (hk:e.aT=5) :
  iV Tryz.prog 191 [.op nb 4 0 0,.ip 5 [e.c] 0 0,bW env] h (RnQ h nb p sz st 0 (kU p sz (n+1) st e env)):=by
 have hb':=hb
 unfold dY at hb'
 have e3:((st:Int)=3000)=False:=eq_false aA
 have ew:IntKind.i64.wrap ((st:Int)+1)=((st+1:Nat):Int):=by rw[IntWalk.i64_in _ aA];rfl
 have hnode:=(aD.eI _ _ _ _).1 hok
 have h3:¬st=3000:=by omega
 have hlen:=fI hok aA
 rw[hk,show e8 5=2 from rfl]at hlen
 have g0:e.aM[Int.toNat 0]?=some (e.pY 0):=aD.jQ aA
 have g1:e.aM[Int.toNat 1]?=some (e.pY 1):=aD.jQ aA
 have o0:=aD.fM hok (i:=0) aA
 have o1:=aD.fM hok (i:=1) aA
 rw[jA aA]at o0 o1
 rw[aD.aZ]
 refine mC 186 pG cU yW Tryz.func191 ?_
 simp -dsimp -implicitDefEqProofs only[go_sem,↓reduceIte,Tryz.f191,hb',e3,ew,hk,g0]
 refine⟨by omega,?_⟩
 refine aH.gV (hv.at g0 (aU h nb (dY p sz (st+1) 0)) nb (st+1) 0 env funcs (aI _ _ _) aA aA o0 iX hf henv aA) ?_
 rintro r h' ⟨s1,t1,c1,rfl,rfl,sA,a1,a2,a3⟩
 simp -dsimp -implicitDefEqProofs only[go_sem,↓reduceIte,Tryz.f191,g1]
 refine⟨by omega,?_⟩
 rw[aO]
 refine aH.gV (hv.at g1 (aU h nb (dY p sz t1 c1)) nb t1 c1 env funcs (aI _ _ _) aA aA o1 iX hf henv aA) ?_
 rintro r h' ⟨s2,t2,c2,rfl,rfl,uZ,b1,b2,b3⟩
 rw[aO]
 simp -dsimp -implicitDefEqProofs only[go_sem,↓reduceIte,Tryz.f191,hk]
 first|refine aH.mk (aOK s1 s2 wQ qB sA.2 uZ.2) ?_|refine aF.mk (aOK s1 s2 wQ qB sA.2 uZ.2) ?_|refine aH.bI (aOK s1 s2 wQ qB sA.2 uZ.2) ?_|refine aF.mk (bC.dI (aOK s1 s2 wQ qB sA.2 uZ.2)) ?_
 simp -dsimp -implicitDefEqProofs only[go_sem,↓reduceIte,Tryz.f191]
 refine⟨_,aU h nb (dY p sz t2 c2),eK (aB.le_refl _),_,t2,c2,rfl,rfl,c6 _ sA,by omega,b2,?_⟩
 rw[aAZ h3 aA aA,hk]
 exact a3.fV (b3.fV (jE _ _ _))
theorem bGC {p:aG} (hp:p.ok) {sz n:Nat} (hsz:1<=sz/\sz<=1048576) (hv:r6 p sz n) (h:aB) (nb st:Nat) (e:aD) (env:List (List Int)) (funcs:Int) (hb:h nb=some (dY p sz st 0)) (hst:st<3000) (hn:3001<=n+1+st)
  (hok:e.ok p funcs env.length) (iX:0<=funcs) (hf:funcs<=p.aK.length) (henv:∀ s∈env,bJ sz s) (hel:env.length<=412+st) (hk:e.aT=6) :
  iV Tryz.prog 191 [.op nb 4 0 0,.ip 5 [e.c] 0 0,bW env] h (RnQ h nb p sz st 0 (kU p sz (n+1) st e env)):=by
 have hb':=hb
 unfold dY at hb'
 have e3:((st:Int)=3000)=False:=eq_false aA
 have ew:IntKind.i64.wrap ((st:Int)+1)=((st+1:Nat):Int):=by rw[IntWalk.i64_in _ aA];rfl
 have hnode:=(aD.eI _ _ _ _).1 hok
 have h3:¬st=3000:=by omega
 have hlen:=fI hok aA
 rw[hk,show e8 6=2 from rfl]at hlen
 have g0:e.aM[Int.toNat 0]?=some (e.pY 0):=aD.jQ aA
 have g1:e.aM[Int.toNat 1]?=some (e.pY 1):=aD.jQ aA
 have o0:=aD.fM hok (i:=0) aA
 have o1:=aD.fM hok (i:=1) aA
 rw[jA aA]at o0 o1
 rw[aD.aZ]
 refine mC 186 pG cU yW Tryz.func191 ?_
 simp -dsimp -implicitDefEqProofs only[go_sem,↓reduceIte,Tryz.f191,hb',e3,ew,hk,g0]
 refine⟨by omega,?_⟩
 refine aH.gV (hv.at g0 (aU h nb (dY p sz (st+1) 0)) nb (st+1) 0 env funcs (aI _ _ _) aA aA o0 iX hf henv aA) ?_
 rintro r h' ⟨s1,t1,c1,rfl,rfl,sA,a1,a2,a3⟩
 simp -dsimp -implicitDefEqProofs only[go_sem,↓reduceIte,Tryz.f191,g1]
 refine⟨by omega,?_⟩
 rw[aO]
 refine aH.gV (hv.at g1 (aU h nb (dY p sz t1 c1)) nb t1 c1 env funcs (aI _ _ _) aA aA o1 iX hf henv aA) ?_
 rintro r h' ⟨s2,t2,c2,rfl,rfl,uZ,b1,b2,b3⟩
 rw[aO]
 have gs:s2[Int.toNat 0]?=some (s2.getD 0 0):=cQ (by rw[uZ.1];omega)
 simp -dsimp -implicitDefEqProofs only[go_sem,↓reduceIte,Tryz.f191,hk,dY,gs]
 refine⟨λhc=>?_,λhc=>?_⟩
 ·subst hc
  refine⟨by rw[uZ.1];omega,λhz=>?_,λhz=>?_⟩
  ·refine aH.gV (aYH (aU h nb (dY p sz t2 0)) nb p sz t2 0 6 (aI _ _ _) hsz.2) ?_
   rintro r h' ⟨rfl,rfl⟩
   simp -dsimp -implicitDefEqProofs only[go_sem,↓reduceIte,Tryz.f191]
   refine⟨_,aU h nb (dY p sz t2 6),eK aCX,_,t2,6,rfl,rfl,fS qN,by omega,b2,?_⟩
   rw[aAZ h3 aA aA,hk]
   refine a3.fV (b3.fV ?_)
   have:opE 6 [s1,s2] t2=.error 6:=by rw[opE,if_neg bO,if_neg bO,if_neg bO,if_neg bO];exact if_pos hz
   rw[eV,this]
   exact o6 _ _ bO
  ·refine aH.mk (bFZ s1 s2 wQ qB qB sA.2 uZ.2) ?_
   simp -dsimp -implicitDefEqProofs only[go_sem,↓reduceIte,Tryz.f191]
   refine⟨_,aU h nb (dY p sz t2 0),eK (aB.le_refl _),_,t2,0,rfl,rfl,k8 _ sA,by omega,b2,?_⟩
   rw[aAZ h3 aA aA,hk]
   refine a3.fV (b3.fV ?_)
   have:opE 6 [s1,s2] t2=.ok (fZ s1 s2,t2):=by rw[opE,if_neg bO,if_neg bO,if_neg bO,if_neg bO];exact if_neg hz
   rw[eV,this]
   exact s5 _ _
 ·refine aH.gV (aYH (aU h nb (dY p sz t2 c2)) nb p sz t2 c2 6 (aI _ _ _) hsz.2) ?_
  rintro r h' ⟨rfl,rfl⟩
  simp -dsimp -implicitDefEqProofs only[go_sem,↓reduceIte,Tryz.f191]
  refine⟨_,aU h nb (dY p sz t2 c2),eK (by rw[aO,if_neg hc];exact aB.le_refl _),_,t2,c2,rfl,rfl,fS qN,by omega,b2,?_⟩
  rw[aAZ h3 aA aA,hk]
  exact a3.fV (b3.fV aCV)
theorem run {p:aG} (hp:p.ok) {sz:Nat} (hsz:1<=sz/\sz<=1048576):∀ n,r6 p sz n
 |0=>λh nb st c e env funcs hb hst hn=>by omega
 |n+1=>λh nb st c e env funcs hb hst hn hok iX hf henv hel=>by
  have hv:=run hp hsz n
  by_cases hs:¬c=0∨st=3000
  ·exact a0Z hsz h nb st c e env hb hst hs
  have hc:c=0:=a0C λq=>hs (.inl q)
  have h3:st<3000:=by
   rcases bT st 3000 with h|h
   ·exact h
   ·exact absurd (.inr aA) hs
  subst hc
  rcases tQ ((aD.eI _ _ _ _).1 hok).1 with hk|hk|hk|hk|hk|hk|hk|hk|hk|hk|hk
  ·exact bF3 hp hsz hv h nb st e env funcs hb h3 hn hok iX hf henv hel hk
  ·exact bF4 hp hsz hv h nb st e env funcs hb h3 hn hok iX hf henv hel hk
  ·exact bF9 hp hsz hv h nb st e env funcs hb h3 hn hok iX hf henv hel hk
  ·exact bGA hp hsz hv h nb st e env funcs hb h3 hn hok iX hf henv hel hk
  ·exact bGB hp hsz hv h nb st e env funcs hb h3 hn hok iX hf henv hel hk
  ·exact bGC hp hsz hv h nb st e env funcs hb h3 hn hok iX hf henv hel hk
  ·exact bF8 hp hsz hv h nb st e env funcs hb h3 hn hok iX hf henv hel hk
  ·exact bF5 hp hsz hv h nb st e env funcs hb h3 hn hok iX hf henv hel hk
  ·exact bF6 hp hsz hv h nb st e env funcs hb h3 hn hok iX hf henv hel hk
  ·exact a84 hp hsz hv h nb st e env funcs hb h3 hn hok iX hf henv hel hk
  ·exact a85 hp hsz hv h nb st e env funcs hb h3 hn hok iX hf henv hel hk
theorem aR5 (l:List Int):eU ((l.map λn=>[I n]).map (List.map Cell.v))=l.map λn=>[I n]:=nO _
theorem kS {h h':aB} {n sz:Nat} {x r:aE} (es:List (List aE)) (h0:h n=none) (hl:(aU h n (.row sz (es.map (List.map .v)))).le h') (hb:jB n sz es.length x=true) (hr:x.fG n es=r):Shift x h' r h:=by
 subst hr
 refine(Shift.of (Sub.refl _) hl).trans ((Shift.fG (aI _ _ _) (by rw[gT];exact hb)).trans ?_)
 rw[nO]
 exact eK ((bM h0).2 ((bM h0).2 (aB.le_refl h)))
theorem aH.a4T {P:Program} {f:FuncId} {args args':List aE} {h:aB} {K:aE->aB->Prop} {t:Tag K} {r:aE} {n sz:Nat} {es:List (List aE)} (a:fE P f args' r) (hb:j6 n sz es.length args=true) (he:l5 n es args=args') (k:K r (aU h n .gone)) :
  aH P f args (aU h n (.row sz (es.map (List.map .v)))) K t:=by
 refine aH.a36 n (aI _ _ _) (by rw[gT];exact hb) ?_
 rw[aO,nO,he]
 exact fE.call a k
theorem aOM {h g:aB} {m b:Nat} (rows:List (List Int)) (s:List Int) (hm:h m=some (.row 1 ((s.map λn=>[I n]).map (List.map .v)))) (hb:h b=some (.row 1 ((rows.map λs=>[ints s]).map (List.map .v)++[[.v (.os m 1 0 s.length)]]))) (hne:¬b=m)
  (hg:g.le (aU (aU h m .gone) b (.row 1 (((rows++[s]).map λs=>[ints s]).map (List.map .v))))):g.wk h:=by
 have hat:∀ (es:List (List Cell)) i j x,iJ es i j=some x->∃ e∈es,x∈e:=λes i j x hx=>by
  obtain⟨e,h1,h2⟩:=kP hx
  exact⟨e,rS h1,rS h2⟩
 have hw:=aB.aYI hm hb hne (λi j x hx=>by
  obtain⟨e,he,hxe⟩:=hat _ i j _ hx
  rcases oW.1 he with he|he
  ·obtain⟨e1,h1,rfl⟩:=lA.1 he
   obtain⟨r,_,rfl⟩:=lA.1 h1
   simp only[p5,v7,jL,Cell.v.injEq]at hxe
   subst hxe;rfl
  ·rw[jL.1 he]at hxe
   simp only[jL,Cell.v.injEq]at hxe
   subst hxe
   simp[jB])
 refine aB.wk.trans (aB.kR ?_) hw
 have:((rows.map λs=>[ints s]).map (List.map Cell.v)++[[Cell.v (.os m 1 0 s.length)]]).map (List.map (Cell.yX m (eU ((s.map λn=>[I n]).map (List.map Cell.v)))))=((rows++[s]).map λs=>[ints s]).map (List.map .v):=by
  rw[aR5,lT,lT,lT]
  congr 1
  ·simp only[yS]
   exact zE λr _=>rfl
  ·simp only[p5,v7,Cell.yX,aE.fG,if_true,aP0]
   rw[nI aWH]
 rw[this]
 exact hg
theorem aA0 {h g:aB} {b:Nat} {A:List (List Cell)} {x y:aE} (hb:h b=some (.row 1 (A++[[.v x]]))) (s:Sub x y) (hg:g.le (aU h b (.row 1 (A++[[.v y]])))):g.wk h :=
 aB.wk.trans (aB.kR hg) (aB.bFO (m:=b) (λq hq=>aC _ _ _ _ hq) hb (aI _ _ _) (mZ.sub (.cons s .nil) A))
@[go_sem] def bMO:List Nat:=[6,15,16]
theorem aHB (l:List Int) (hl:l.length<=1048576):fE Tryz.prog 95 [ints l] (bW (l.map λn=>[n])):=by
 refine lS 20 aL7 bMO cF Tryz.func95 λh=>?_
 simp -dsimp -implicitDefEqProofs only[go_sem,↓reduceIte,Tryz.f95]
 refine⟨bD,λ_=>?_⟩
 refine aE8 aL7 bMO cF (λx:Nat×Option Nat=>[(3,fT 1 (l.take x.1).length x.2),(7,ints l),(8,I l.length),(9,I x.1)]) (λx=>cP h (.row 1 ((((l.take x.1).map λn=>[n]).map λs=>[ints s]).map (List.map .v))) x.2) (λx=>x.1<=l.length/\eM h (l.take x.1) x.2) (λx=>l.length-x.1) (0,none) ⟨by simp[cR,b6,fT],by simp only[aL];exact aB.kR (aB.le_refl _),eF _,by simp[eM]⟩ ?_
 rintro⟨k,o⟩ ⟨hk,hos⟩
 simp only at hk hos ⊢
 rcases bT k l.length with hlt|hge
 ·have ea:l[k]?=some l[k]:=eY hlt
  have hy:l.take (k+1)=l.take k++[l[k]]:=jF hlt
  have hlk:(l.take k).length=k:=by rw[mX];omega
  cases o with
  |none =>
   rw[aY]at hos
   rw[hos]at hy ⊢
   simp -dsimp -implicitDefEqProofs only[go_sem,↓reduceIte,Tryz.f95,bE,aL,hlt,ea]
   refine⟨bD,bD,bD,bD,bD,λb hb=>⟨(k+1,some b),?_⟩⟩
   simp only[hy]
   refine⟨⟨rfl,by rw[IntWalk.i64_in _ aA];rfl⟩,aA0 (A:=[]) (x:=.sl 1 [[I l[k]]] true) (y:=ints [l[k]]) (aI _ _ _) (Sub.loose _ _ _) aCX,⟨by omega,hb⟩,by omega⟩
  |some n =>
   rw[aQ]at hos
   simp -dsimp -implicitDefEqProofs only[go_sem,↓reduceIte,Tryz.f95,aR,aJ,hlt,ea]
   refine⟨bD,bD,bD,bD,bD,bX _,by omega,by omega,λb hb=>⟨(k+1,some b),?_⟩⟩
   simp only[hy,aJ,aR,aQ]
   refine⟨⟨by rw[gD];rfl,by rw[IntWalk.i64_in _ aA];rfl⟩,aA0 (x:=.sl 1 [[I l[k]]] true) (y:=ints [l[k]]) (aI _ _ _) (Sub.loose _ _ _) ?_,⟨by omega,hb.2⟩,by omega⟩
   have hl2:(l.take k).length=((l.take k).map λn=>[n]).length:=by rw[gT]
   rw[aO,lT,show((l.take k).map λn=>[n])++[l[k]].map (λn=>[n])=((l.take k).map λn=>[n])++[[l[k]]]from rfl,←dZ ints,hl2]
   exact jC hos
 ·have hk':k=l.length:=by omega
  subst hk'
  rw[nL]at hos ⊢
  cases o with
  |none =>
   rw[aY]at hos
   simp -dsimp -implicitDefEqProofs only[go_sem,↓reduceIte,Tryz.f95,bE,aL,bU,cT]
   subst hos
   exact Shift.of (Sub.loose _ _ _) (aB.le_refl _)
  |some n =>
   rw[aQ]at hos
   simp -dsimp -implicitDefEqProofs only[go_sem,↓reduceIte,Tryz.f95,aR,aJ,bU,cT]
   exact lG _ hos (aB.le_refl _) (by rw[gT])
@[go_sem] def bDL:List Nat:=[6,17]
theorem aUL (l:List (List Int)) (hl:l.length<=1048576) (hne:∀ s∈l,0<s.length):fE Tryz.prog 103 [bW l] (ints (l.map λs=>s.getD 0 0)):=by
 have hc:(l.map λs=>s.getD 0 0).length=l.length:=gT _
 refine lS 21 aL7 bDL cF Tryz.func103 λh=>?_
 simp -dsimp -implicitDefEqProofs only[go_sem,↓reduceIte,Tryz.f103]
 refine⟨bD,λ_=>?_⟩
 refine cM aL7 bDL cF (λx:Nat×Option Nat=>[(7,bW l),(8,I l.length),(3,fT 1 ((l.map λs=>s.getD 0 0).take x.1).length x.2),(9,I x.1)]) (λx=>cP h (.row 1 ((((l.map λs=>s.getD 0 0).take x.1).map λn=>[I n]).map (List.map .v))) x.2) (λx=>x.1<=l.length/\eM h ((l.map λs=>s.getD 0 0).take x.1) x.2) (λx=>l.length-x.1) (0,none) ⟨by simp[cR,b6,fT],by simp only[aL];exact aB.le_refl _,eF _,by simp[eM]⟩ ?_
 rintro⟨k,o⟩ ⟨hk,hos⟩
 simp only at hk hos ⊢
 rcases bT k l.length with hlt|hge
 ·have ea:l[k]?=some l[k]:=eY hlt
  have h0:=hne _ (kM hlt)
  have e0:(l[k])[Int.toNat 0]?=some (l[k].getD 0 0):=cQ h0
  have hy:(l.map λs=>s.getD 0 0).take (k+1)=(l.map λs=>s.getD 0 0).take k++[(l.map λs=>s.getD 0 0)[k]'aA]:=jF aA
  have hlk:((l.map λs=>s.getD 0 0).take k).length=k:=by rw[mX];omega
  rw[rU]at hy
  cases o with
  |none =>
   rw[aY]at hos
   rw[hos]at hy ⊢
   simp -dsimp -implicitDefEqProofs only[go_sem,↓reduceIte,Tryz.f103,bE,aL,hlt,ea,e0]
   repeat'(with_reducible first|intro _|refine And.intro ?_ ?_)
   all_goals try(first|omega|decide)
   rename_i b hb
   refine⟨(k+1,some b),?_⟩
   simp only[hy]
   refine⟨⟨rfl,?_⟩,aB.le_refl _,⟨by omega,hb⟩,by omega⟩
   rw[IntWalk.i64_in _ aA];rfl
  |some n =>
   rw[aQ]at hos
   simp -dsimp -implicitDefEqProofs only[go_sem,↓reduceIte,Tryz.f103,aR,aJ,hlt,ea,e0]
   repeat'(with_reducible first|intro _|refine And.intro ?_ ?_)
   all_goals try(first|omega|decide|exact bX _)
   rename_i b hb
   refine⟨(k+1,some b),?_⟩
   simp only[hy,aJ,aR,aQ]
   refine⟨⟨by rw[gD];rfl,?_⟩,?_,⟨by omega,hb.2⟩,by omega⟩
   ·rw[IntWalk.i64_in _ aA];rfl
   ·rw[←dZ];exact jC hos
 ·have hk':k=l.length:=by omega
  subst hk'
  rw[nI aA]at hos ⊢
  cases o with
  |none =>
   rw[aY]at hos
   simp -dsimp -implicitDefEqProofs only[go_sem,↓reduceIte,Tryz.f103,bE,aL,bU,cT]
   rw[hos]
   exact Shift.of (Sub.loose _ _ _) (aB.le_refl _)
  |some n =>
   rw[aQ]at hos
   simp -dsimp -implicitDefEqProofs only[go_sem,↓reduceIte,Tryz.f103,aR,aJ,bU,cT]
   exact eT _ hos (aB.le_refl _) hc.symm
end Go.Hl

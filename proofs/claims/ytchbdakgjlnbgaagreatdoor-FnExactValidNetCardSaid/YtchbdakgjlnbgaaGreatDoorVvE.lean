/-
  Contracts of functions and laws of the layer over the walk.
-/
import Derived.Test.YtchbdakgjlnbgaaGreatDoorVvD
import Derived.Test.YtchbdakgjlnbgaaGreatDoorHlD
import Derived.Test.YtchbdakgjlnbgaaGreatDoorVvC
import Derived.Test.YtchbdakgjlnbgaaGreatDoorGn
namespace Go.Hl
open Go.Proofs
set_option linter.unusedVariables false
set_option linter.unusedSimpArgs false
def gO (n:Nat) (s:List Int):Prop:=s.length=n/\p4 s
def aBE (a:List Int) (n:Int):List Int:=a.map λx=>x*n%1000003
def bT2 (a b:List Int):List Int:=aFN a (aBE b 1000002)
def cvS (a b:List Int) (k:Nat):Nat->Int
 |0=>0
 |i+1=>(cvS a b k i+a.getD i 0*b.getD (k-i) 0)%1000003
def mulL (a b:List Int):List Int:=(List.range a.length).map λk=>cvS a b k (k+1)
def pwN (b:Int) (n:Nat):Int:=b ^ n%1000003
def vP (x:Int):Int:=pwN (x%1000003) 1000001
def dvS (o b:List Int) (k:Nat) (r:Int):Nat->Int
 |0=>r
 |i+1=>(dvS o b k r i-o.getD i 0*b.getD (k-i) 0)%1000003
def qP (a b:List Int):Nat->List Int
 |0=>[]
 |k+1=>qP a b k++[dvS (qP a b k) b k (a.getD k 0) k*vP (b.getD 0 0)%1000003]
def aB2 (a b:List Int):List Int:=qP a b a.length
def xN (n:Int) (sz:Nat):List Int:=(List.replicate sz 0).set 0 n
def dE:aB:=.mk 0 0 0 0 []
def aB.rW (e:aB) (i:Nat):aB:=e.aO.getD i dE
def aK.outs (p:aK) (f:Int):List aB:=((p.aJ[f.toNat]?).map (·.bB)).getD []
def aK.out (p:aK) (f i:Int):aB:=(p.outs f).getD i.toNat dE
abbrev Out (α:Type):=Except Int (α×Nat)
def Out.andThen {α β:Type} (x:Out α) (f:α->Nat->Out β):Out β:=match x with
 | .ok (a,t)=>f a t
 | .error c=>.error c
def vQ (ev:Nat->aB->Out (List Int)):List aB->Nat->Out (List (List Int))
 | [],t=>.ok ([],t)
 |e::l,t=>(ev t e).andThen λv t=>(vQ ev l t).andThen λvs t=>.ok (v::vs,t)
def aFO (f:List (List Int)->Nat->Out (List (List Int))):Nat->List (List Int)->Nat->Out (List (List Int))
 |0,vs,t=>.ok (vs,t)
 |n+1,vs,t=>(f vs t).andThen λvs t=>aFO f n vs t
def opE (k:Int) (vs:List (List Int)) (t:Nat):Out (List Int) :=
 if k=3 then .ok (aFN (vs.getD 0 []) (vs.getD 1 []),t)
 else if k=4 then .ok (bT2 (vs.getD 0 []) (vs.getD 1 []),t)
 else if k=5 then .ok (mulL (vs.getD 0 []) (vs.getD 1 []),t)
 else if k=7 then .ok (aBE (vs.getD 0 []) 1000002,t)
 else if (vs.getD 1 []).getD 0 0=0 then .error 6
 else .ok (aB2 (vs.getD 0 []) (vs.getD 1 []),t)
def oU (p:aK) (sz:Nat):Nat->Nat->aB->List (List Int)->Out (List Int)
 |0,_,_,_=>.error 7
 |n+1,t,e,env =>
  if t=3000 then .error 7
  else if e.bH=1 then .ok (xN e.cC sz,t+1)
  else if e.bH=2 then .ok (env.getD e.cC.toNat [],t+1)
  else if e.bH=8 then(oU p sz n (t+1) (e.rW 0) env).andThen λc t=>if c.getD 0 0=0 then oU p sz n t (e.rW 1) env else oU p sz n t (e.rW 2) env
  else if e.bH=9 then(oU p sz n (t+1) (e.rW 0) env).andThen λv t=>oU p sz n t (e.rW 1) (env++[v])
  else(vQ (λt e=>oU p sz n t e env) e.aO (t+1)).andThen λvs t =>
   if e.bH=10 then oU p sz n t (p.out e.cC e.dO) vs
   else if e.bH=11 then(aFO (λvs t=>vQ (λt e=>oU p sz n t e vs) (p.outs e.cC) t) e.dF.toNat vs t).andThen λvs t=>.ok (vs.getD e.dO.toNat [],t)
   else opE e.bH vs t
def nS {α:Type} (X:Out α) (v:α) (t:Nat) (c:Int):Prop:=match X with
 | .ok (w,u)=>c=0/\v=w/\t=u
 | .error d=>c=d/\d≠0
def wH {α:Type} (c:Int) (X:Out α):Out α:=if c=0 then X else .error c
theorem gD {α:Type} (X:Out α):wH 0 X=X:=if_pos rfl
theorem aAA {α:Type} {c:Int} (X:Out α) (h:¬c=0):wH c X=.error c:=if_neg h
theorem rT {α:Type} {c:Int} (v:α) (t:Nat) (h:¬c=0):nS (.error c:Out α) v t c:=⟨rfl,h⟩
theorem yF {α:Type} (v:α) (t:Nat):nS (.ok (v,t):Out α) v t 0:=⟨rfl,rfl,rfl⟩
theorem kN {α:Type} (v:α) (t:Nat) (c:Int):nS (wH c (.ok (v,t))) v t c:=by
 by_cases e:c=0
 ·subst e;rw[gD];exact yF v t
 ·rw[aAA _ e];exact rT v t e
theorem nS.then {α β:Type} {X:Out α} {F:α->Nat->Out β} {v:α} {t:Nat} {c:Int} {v2:β} {t2:Nat} {c2:Int} (h:nS X v t c) (h2:nS (wH c (F v t)) v2 t2 c2):nS (X.andThen F) v2 t2 c2:=by
 cases X with
 |ok p =>
  obtain⟨w,u⟩:=p
  obtain⟨rfl,rfl,rfl⟩:=h
  rw[gD]at h2
  exact h2
 |error d =>
  obtain⟨rfl,h⟩:=h
  rw[aAA _ h]at h2
  exact h2
theorem nS.err {α:Type} {X:Out α} {v:α} {t:Nat} {c:Int} (h:nS X v t c) (hc:¬c=0):X=.error c:=by
 cases X with
 |ok p=>exact absurd h.1 hc
 |error d=>rw[h.1]
theorem nS.gY {α β:Type} {c0:Int} {X:Out α} {F:α->Nat->Out β} {v:α} {t:Nat} {c:Int} {v2:β} {t2:Nat} {c2:Int} (h:nS (wH c0 X) v t c) (h2:nS (wH c (F v t)) v2 t2 c2):nS (wH c0 (X.andThen F)) v2 t2 c2:=by
 by_cases e:c0=0
 ·subst e
  rw[gD]at h ⊢
  exact h.then h2
 ·rw[aAA _ e]at h ⊢
  obtain⟨rfl,h⟩:=h
  rw[aAA _ h]at h2
  exact h2
theorem nS.b04 {α:Type} {c0:Int} {X:Out α} {v:α} {t:Nat} {c:Int} (h:nS (wH c0 X) v t c) (hc:c=0):c0=0:=by
 by_cases e:c0=0
 ·exact e
 ·rw[aAA _ e]at h
  exact h.1.symm.trans hc
theorem Out.nT {α β γ:Type} (x:Out α) (f:α->Nat->Out β) (g:β->Nat->Out γ):(x.andThen f).andThen g=x.andThen λa t=>(f a t).andThen g:=by
 cases x <;> rfl
theorem Out.andThen_ok {α β:Type} (a:α) (t:Nat) (f:α->Nat->Out β):Out.andThen (.ok (a,t)) f=f a t:=rfl
theorem aGD (ev:Nat->aB->Out (List Int)) (e:aB):∀ (l:List aB) (t:Nat),vQ ev (l++[e]) t=(vQ ev l t).andThen λvs t=>(ev t e).andThen λv t=>.ok (vs++[v],t)
 | [],t=>rfl
 |x::l,t=>by
  simp only[aED,vQ,aGD ev e l,Out.nT,Out.andThen_ok]
theorem aSA (f:List (List Int)->Nat->Out (List (List Int))):∀ (n:Nat) (vs:List (List Int)) (t:Nat),aFO f (n+1) vs t=(aFO f n vs t).andThen f
 |0,vs,t=>by
  show(f vs t).andThen (λvs t=>.ok (vs,t))=f vs t
  cases f vs t with
  |ok p=>rfl
  |error c=>rfl
 |n+1,vs,t=>by
  show(f vs t).andThen (λvs t=>aFO f (n+1) vs t)=((f vs t).andThen λvs t=>aFO f n vs t).andThen f
  rw[Out.nT]
  congr 1
  funext a t
  exact aSA f n a t
theorem vF (n:Int):nJ (n%1000003):=by unfold nJ;omega
theorem gO.len {n:Nat} {s:List Int} (h:gO n s):s.length=n:=h.1
theorem aVL {n:Nat} {a b:List Int} (ha:gO n a) (hb:gO n b):gO n (aFN a b):=by
 refine⟨by simp[aFN,ha.1,hb.1],λx hx=>?_⟩
 obtain⟨i,hi,rfl⟩:=aM4.1 hx
 simp only[aFN,List.getElem_zipWith]
 exact vF _
theorem yO {n:Nat} {a:List Int} (k:Int) (ha:gO n a):gO n (aBE a k):=by
 refine⟨by simp[aBE,ha.1],λx hx=>?_⟩
 obtain⟨y,_,rfl⟩:=vZ.1 hx
 exact vF _
theorem bDV {n:Nat} {a b:List Int} (ha:gO n a) (hb:gO n b):gO n (bT2 a b):=aVL ha (yO _ hb)
theorem bT3 (a b:List Int) (k:Nat):∀ i,nJ (cvS a b k i)
 |0=>by unfold cvS nJ;omega
 |i+1=>vF _
theorem bDW {n:Nat} {a:List Int} (b:List Int) (ha:gO n a):gO n (mulL a b):=by
 refine⟨by simp[mulL,ha.1],λx hx=>?_⟩
 obtain⟨k,_,rfl⟩:=vZ.1 hx
 exact bT3 _ _ _ _
theorem rX (a b:List Int):∀ k,(qP a b k).length=k
 |0=>rfl
 |k+1=>by rw[qP,rL,rX a b k];rfl
theorem aB3 (a b:List Int):∀ k,p4 (qP a b k)
 |0=>λx hx=>by cases hx
 |k+1=>λx hx=>by
  rw[qP,pH,rG]at hx
  rcases hx with hx|rfl
  ·exact aB3 a b k x hx
  ·exact vF _
theorem bDX {n:Nat} {a:List Int} (b:List Int) (ha:gO n a):gO n (aB2 a b):=⟨by rw[aB2,rX,ha.1],aB3 _ _ _⟩
theorem w7 {n:Int} {sz:Nat} (h:nJ n):gO sz (xN n sz):=by
 refine⟨by simp[xN],λx hx=>?_⟩
 rw[xN]at hx
 rcases a36 hx with hx|rfl
 ·have:=(aUC.1 hx).2
  subst this;unfold nJ;omega
 ·exact h
theorem p4.get {l:List Int} (h:p4 l) (i:Nat):nJ (l.getD i 0):=by
 rw[jC]
 rcases cP i l.length with hi|hi
 ·rw[b6 hi];exact h _ (dG hi)
 ·rw[List.getElem?_eq_none hi];unfold nJ;simp
def hR (s s':List Int):Prop:=(s=[]/\s'=[])∨∃ x a b,s=x::a/\s'=x::b
theorem bT4:hR [] []:=.inl ⟨rfl,rfl⟩
def eR:List (List Int)->List (List Int)->Prop
 | [],[]=>True
 |s::l,s'::l'=>hR s s'/\eR l l'
 | _,_=>False
theorem eR.get:∀ {l l':List (List Int)},eR l l'->∀ i,hR (l.getD i []) (l'.getD i [])
 | [],[],_,i=>by simp[bT4]
 |s::l,s'::l',h,0=>h.1
 |s::l,s'::l',h,i+1=>by simpa using eR.get h.2 i
 | [],_::_,h,_=>h.elim
 | _::_,[],h,_=>h.elim
theorem eR.len:∀ {l l':List (List Int)},eR l l'->l.length=l'.length
 | [],[],_=>rfl
 |s::l,s'::l',h=>by simp[eR.len h.2]
 | [],_::_,h=>h.elim
 | _::_,[],h=>h.elim
def evF (p:aK) (sz:Nat) (f:Int) (args:List (List Int)):Out (List (List Int)):=vQ (λt e=>oU p sz 3001 t e args) (p.outs f) 0
theorem bH3 (b:Int):∀ n:Nat,(b%1000003) ^ n%1000003=b ^ n%1000003
 |0=>by rw[aUD,aUD]
 |n+1=>by
  rw[aZU,aZU,aUE,bH3 b n,Int.emod_emod_of_dvd _ (Int.dvd_refl _),←aUE]
theorem bA8 (x b:Int) (n:Nat):x*b ^ n%1000003=(if n%2=1 then x*b%1000003 else x)*(b*b%1000003) ^ (n / 2)%1000003:=by
 have h2:b ^ n=(b*b) ^ (n / 2)*b ^ (n%2):=by
  rw[show b*b=b ^ 2 by rw[aZU,aZU,aUD,Int.one_mul],←Int.pow_mul,←Int.pow_add]
  congr 1;omega
 have h3:∀ y:Int,y*(b*b%1000003) ^ (n / 2)%1000003=y*(b*b) ^ (n / 2)%1000003:=λy=>by
  rw[aUE,bH3,←aUE]
 rw[h3,h2]
 split
 ·rename_i h
  rw[h,aZU,aUD,Int.one_mul,aUE (x*b%1000003),Int.emod_emod_of_dvd _ (Int.dvd_refl _),←aUE]
  congr 1
  rw[Int.mul_comm ((b*b) ^ (n / 2)) b,Int.mul_assoc]
 ·rename_i h
  have:n%2=0:=by omega
  rw[this,aUD,Int.mul_one]
theorem bA9 (x b:Int) (hx:0<=x/\x<1000003):x*b ^ 0%1000003=x:=by
 rw[aUD,Int.mul_one];omega
theorem bH4 {x b m T:Int} (hm:0<=m) (h:m%2=1) (hp:x*b ^ m.toNat%1000003=T):(x*b%1000003)*(b*b%1000003) ^ (m / 2).toNat%1000003=T:=by
 rw[←hp,bA8 x b m.toNat,if_pos aA,show(m / 2).toNat=m.toNat / 2 by omega]
theorem bBA {x b m T:Int} (hm:0<=m) (h:¬m%2=1) (hp:x*b ^ m.toNat%1000003=T):x*(b*b%1000003) ^ (m / 2).toNat%1000003=T:=by
 rw[←hp,bA8 x b m.toNat,if_neg aA,show(m / 2).toNat=m.toNat / 2 by omega]
theorem a2D (y:Int):0<=y%1000003/\y%1000003<1000003:=by omega
theorem fU {l:List Int} {i:Nat} (h:i<l.length):l[i]?=some (l.getD i 0):=by
 rw[jC,b6 h];rfl
theorem num_inv (x:Int):nJ (vP x):=vF _
theorem aFP (o b:List Int) (k:Nat) {r:Int} (hr:nJ r):∀ i,nJ (dvS o b k r i)
 |0=>hr
 |i+1=>vF _
theorem aME (a b:List Int) {k:Nat}:∀ n,k<=n->(qP a b n).take k=qP a b k
 |0,h=>by
  have:k=0:=by omega
  subst this;rfl
 |n+1,h=>by
  rcases cP k (n+1)with h1|h1
  ·rw[qP,a8L (by rw[rX];omega),aME a b n aA]
  ·have:k=n+1:=by omega
   subst this
   rw[gF (by rw[rX];omega)]
theorem aFQ (a b:List Int):(aB2 a b).length=a.length:=rX _ _ _
theorem bMV (a b:List Int) {k:Nat} (hk:k<=a.length):upL (aB2 a b) k=qP a b k++List.replicate (a.length-k) 0:=by
 rw[upL,aFQ,aB2,aME a b _ hk]
theorem a2E {a b:List Int} {k i:Nat} (hk:k<=a.length) (hi:i<k):(upL (aB2 a b) k)[i]?=some ((qP a b k).getD i 0):=by
 rw[bMV a b hk,aGO (by rw[rX];exact hi)]
 exact fU (by rw[rX];exact hi)
theorem bH5 {a b:List Int} {k:Nat} (hk:k<a.length):(aB2 a b)[k]'(by rw[aFQ];exact hk)=dvS (qP a b k) b k (a.getD k 0) k*vP (b.getD 0 0)%1000003:=by
 have h:=a2E (a:=a) (b:=b) (k:=k+1) (i:=k) aA aA
 have h2:(qP a b (k+1)).getD k 0=dvS (qP a b k) b k (a.getD k 0) k*vP (b.getD 0 0)%1000003:=by
  rw[qP,jC,aEC (by rw[rX];omega),rX,aLH];rfl
 rw[h2,upL,aGO (by rw[nX,aFQ];omega),aWH aA,b6 (by rw[aFQ];exact hk)]at h
 exact dY h
theorem num_mul {x y:Int} (hx:nJ x) (hy:nJ y):0<=x*y/\x*y<=1000004000004:=by
 refine⟨Int.mul_nonneg hx.1 hy.1,?_⟩
 have:=Int.mul_le_mul hx.2 hy.2 hy.1 aA
 omega
theorem a0E (a:List Int) (n:Int):(aBE a n).length=a.length:=by simp[aBE]
theorem bH6 (a b:List Int):(mulL a b).length=a.length:=by simp[mulL]
theorem bMW {n:Int} (h0:0<=n) (h1:n<=9223372036854775807):(IntKind.i64.wrap n).tmod 1000003=n%1000003:=by
 rw[IntWalk.i64_in _ aA,aGP h0]
theorem bQS {p:aK} {sz n st:Nat} {e:aB} {env:List (List Int)} (h3:¬st=3000) (hk:e.bH=1):oU p sz (n+1) st e env=.ok (xN e.cC sz,st+1):=by rw[oU,if_neg h3,if_pos hk]
theorem bQT {p:aK} {sz n st:Nat} {e:aB} {env:List (List Int)} (h3:¬st=3000) (hk:e.bH=2):oU p sz (n+1) st e env=.ok (env.getD e.cC.toNat [],st+1):=by rw[oU,if_neg h3,if_neg aA,if_pos hk]
theorem bH7 {p:aK} {sz n st:Nat} {e:aB} {env:List (List Int)} (h3:¬st=3000) (hk:e.bH=8):oU p sz (n+1) st e env=(oU p sz n (st+1) (e.rW 0) env).andThen λc t=>if c.getD 0 0=0 then oU p sz n t (e.rW 1) env else oU p sz n t (e.rW 2) env:=by rw[oU,if_neg h3,if_neg aA,if_neg aA,if_pos hk]
theorem bQU {p:aK} {sz n st:Nat} {e:aB} {env:List (List Int)} (h3:¬st=3000) (hk:e.bH=9):oU p sz (n+1) st e env=(oU p sz n (st+1) (e.rW 0) env).andThen λv t=>oU p sz n t (e.rW 1) (env++[v]):=by rw[oU,if_neg h3,if_neg aA,if_neg aA,if_neg aA,if_pos hk]
theorem bH8 {p:aK} {sz n st:Nat} {e:aB} {env:List (List Int)} (h3:¬st=3000) (hk:e.bH=10):oU p sz (n+1) st e env=(vQ (λt e=>oU p sz n t e env) e.aO (st+1)).andThen λvs t=>oU p sz n t (p.out e.cC e.dO) vs:=by
 rw[oU,if_neg h3,if_neg aA,if_neg aA,if_neg aA,if_neg aA];simp only[if_pos hk]
theorem bH9 {p:aK} {sz n st:Nat} {e:aB} {env:List (List Int)} (h3:¬st=3000) (hk:e.bH=11):oU p sz (n+1) st e env=(vQ (λt e=>oU p sz n t e env) e.aO (st+1)).andThen λvs t=>(aFO (λvs t=>vQ (λt e=>oU p sz n t e vs) (p.outs e.cC) t) e.dF.toNat vs t).andThen λvs t=>.ok (vs.getD e.dO.toNat [],t):=by
 have h:¬e.bH=10:=by omega
 rw[oU,if_neg h3,if_neg aA,if_neg aA,if_neg aA,if_neg aA];simp only[if_neg h,if_pos hk]
theorem a7B {p:aK} {sz n st:Nat} {e:aB} {env:List (List Int)} (h3:¬st=3000) (hk:e.bH=3∨e.bH=4∨e.bH=5∨e.bH=6∨e.bH=7):oU p sz (n+1) st e env=(vQ (λt e=>oU p sz n t e env) e.aO (st+1)).andThen λvs t=>opE e.bH vs t:=by
 have h:¬e.bH=10:=by omega
 have h2:¬e.bH=11:=by omega
 rw[oU,if_neg h3,if_neg aA,if_neg aA,if_neg aA,if_neg aA];simp only[if_neg h,if_neg h2]
theorem aB.kI {e:aB} {i:Nat} (h:i<e.aO.length):e.aO[i]?=some (e.rW i):=by
 rw[aB.rW,jC,b6 h];rfl
theorem aB.zN {e:aB} {i:Nat} (h:i<e.aO.length):e.rW i=e.aO[i]:=by
 have:=aB.kI h
 rw[b6 h]at this
 exact(dY this).symm
theorem aB.jS {p:aK} {funcs vars:Int} {e:aB} {i:Nat} (hok:e.ok p funcs vars) (h:i<e.aO.length):(e.rW i).ok p funcs (oY e.bH i vars):=by
 rw[aB.zN h];exact((aB.fG _ _ _ _).1 hok).2 i h
theorem aB.ld5 (x:aB):(if 5<=x.c.length then some (aC.agg (List.take 5 x.c))else none)=some (.agg x.c):=by
 rw[if_pos (by rw[aB.aJ8];exact fL _),gF (by rw[aB.aJ8];exact fL _)]
theorem mA {k:Int} {i:Nat} {v:Int} (h:¬(k=9/\i=1)):oY k i v=v:=if_neg h
theorem aVM {sz:Nat} {env:List (List Int)} (h:∀ s∈env,gO sz s) {i:Nat} (hi:i<env.length):gO sz (env.getD i []):=by
 rw[jC,b6 hi];exact h _ (dG hi)
theorem aO6 {env:List (List Int)} {i:Nat} (hi:i<env.length):env[i]?=some (env.getD i []):=by
 rw[jC,b6 hi];rfl
theorem gE {p:aK} {funcs vars:Int} {e:aB} (hok:e.ok p funcs vars) (hk:¬(e.bH=10∨e.bH=11)):jH e.bH=e.aO.length:=((gW hk).1 ((aB.fG _ _ _ _).1 hok).1).1
theorem iL {p:aK} {funcs vars:Int} {e:aB} (hok:e.ok p funcs vars) (hk:¬e.bH=9):∀ x∈e.aO,x.ok p funcs vars:=λx hx=>by
 obtain⟨i,hi,rfl⟩:=aM4.1 hx
 have:=((aB.fG _ _ _ _).1 hok).2 i hi
 rwa [mA (λq=>hk q.1)]at this
structure b06 (p:aK) (e:aB) (f:aX):Prop where
 get:p.aJ[e.cC.toNat]?=some f
 lo:0<=e.cC
 hi:e.cC<p.aJ.length
 pk:0<=e.dO
 pk2:e.dO.toNat<f.bB.length
 kids:(e.aO.length:Int)=f.bV
 params:0<=f.bV/\f.bV<=12
 outs:1<=f.bB.length/\f.bB.length<=12
 oks:∀ x∈f.bB,x.ok p e.cC f.bV
 eq:p.outs e.cC=f.bB
 out:f.bB[e.dO.toNat]?=some (p.out e.cC e.dO)
 loop:e.bH=11->0<=e.dF/\e.dF<=8/\(f.bB.length:Int)=f.bV
theorem yG {p:aK} (hp:p.ok) {e:aB} {funcs vars:Int} (hok:e.ok p funcs vars) (hf:funcs<=p.aJ.length) (hk:e.bH=10∨e.bH=11):∃ f,b06 p e f:=by
 have h1:=((aB.fG _ _ _ _).1 hok).1
 have h2:=h1
 unfold sH at h1
 rw[if_pos hk]at h1
 have hlt:e.cC.toNat<p.aJ.length:=by omega
 have ef:p.aJ[e.cC.toNat]?=some p.aJ[e.cC.toNat]:=b6 hlt
 rw[wZ hk ef]at h2
 obtain⟨n1,n2,n3,n4,n5,n6,n7⟩:=h2
 have hF:=hp.2 _ _ ef
 have heq:p.outs e.cC=p.aJ[e.cC.toNat].bB:=by rw[aK.outs,ef];rfl
 refine⟨_,⟨ef,n1,by omega,n3,by omega,n5,hF.2.1,by have:=hF.2.2.1;omega,λx hx=>?_,heq,?_,n7⟩⟩
 ·have:=(hF.2.2.2.2.2 x hx).2.2.2.2
  rwa [show((e.cC.toNat:Nat):Int)=e.cC by omega]at this
 ·rw[aK.out,heq,jC,b6 aA];rfl
def aMF {α:Type} (X:Out α):Prop:=∀ c,X=.error c->c=6∨c=7
theorem aMF.ok {α:Type} {v:α} {t:Nat}:aMF (.ok (v,t):Out α):=λc h=>by cases h
theorem aMF.then {α β:Type} {X:Out α} {F:α->Nat->Out β} (h:aMF X) (hf:∀ v t,aMF (F v t)):aMF (X.andThen F):=λc hc=>by
 cases X with
 |ok p=>exact hf p.1 p.2 c hc
 |error d=>exact h c (by cases hc;rfl)
theorem aKS {ev:Nat->aB->Out (List Int)} (h:∀ t e,aMF (ev t e)):∀ (l:List aB) (t:Nat),aMF (vQ ev l t)
 | [],t=>.ok
 |e::l,t=>(h t e).then λv t=>(aKS h l t).then λvs t=>.ok
theorem aSB {f:List (List Int)->Nat->Out (List (List Int))} (h:∀ vs t,aMF (f vs t)):∀ (n:Nat) (vs:List (List Int)) (t:Nat),aMF (aFO f n vs t)
 |0,vs,t=>.ok
 |n+1,vs,t=>(h vs t).then λa t=>aSB h n a t
theorem bMY (k:Int) (vs:List (List Int)) (t:Nat):aMF (opE k vs t):=by
 unfold opE
 repeat' split
 all_goals first|exact .ok|(intro c h;cases h;exact .inl rfl)
theorem bBB (p:aK) (sz:Nat):∀ (n t:Nat) (e:aB) (env:List (List Int)),aMF (oU p sz n t e env)
 |0,t,e,env=>λc h=>by rw[oU]at h;cases h;exact .inr rfl
 |n+1,t,e,env=>by
  have ih:=bBB p sz n
  rw[oU]
  split
  ·intro c h;cases h;exact .inr rfl
  split
  ·exact .ok
  split
  ·exact .ok
  split
  ·refine(ih _ _ _).then λv t=>?_
   split
   ·exact ih _ _ _
   ·exact ih _ _ _
  split
  ·exact(ih _ _ _).then λv t=>ih _ _ _
  refine(aKS (λt e=>ih t e env) _ _).then λvs t=>?_
  split
  ·exact ih _ _ _
  split
  ·exact(aSB (λvs t=>aKS (λt e=>ih t e vs) _ t) _ _ _).then λvs t=>.ok
  ·exact bMY _ _ _
theorem bBC (p:aK) (sz:Nat) (f:Int) (args:List (List Int)):aMF (evF p sz f args):=aKS (λt e=>bBB p sz 3001 t e args) _ _
def okP {α:Type} (P:α->Prop) (X:Out α):Prop:=∀ v u,X=.ok (v,u)->P v
theorem okP.then {α β:Type} {P:α->Prop} {Q:β->Prop} {X:Out α} {F:α->Nat->Out β} (h:okP P X) (hf:∀ v t,P v->okP Q (F v t)):okP Q (X.andThen F):=λw u hw=>by
 cases X with
 |ok p=>obtain⟨v,t⟩:=p;exact hf v t (h v t rfl) w u hw
 |error c=>cases hw
theorem okP.err {α:Type} {P:α->Prop} {c:Int}:okP P (.error c:Out α):=λw u e=>by cases e
def b07 (sz n:Nat) (l:List (List Int)):Prop:=l.length=n/\∀ s∈l,gO sz s
theorem b07.get {sz n i:Nat} {l:List (List Int)} (h:b07 sz n l) (hi:i<n):gO sz (l.getD i []):=by
 rw[jC,b6 (by rw[h.1];exact hi)];exact h.2 _ (dG _)
theorem aB4 {p:aK} {e:aB} {vars funcs:Int} (h:sH p e vars funcs):e.bH=1∨e.bH=2∨e.bH=3∨e.bH=4∨e.bH=5∨e.bH=6∨e.bH=7∨e.bH=8∨e.bH=9∨e.bH=10∨e.bH=11:=by
 by_cases hk:e.bH=10∨e.bH=11
 ·omega
 ·have h1:=((gW hk).1 h).1
  unfold jH at h1
  repeat'(split at h1)
  all_goals omega
theorem aGE {p:aK} (hp:p.ok) {f:Int} (hf:0<=f/\f<p.aJ.length):∃ F,p.aJ[f.toNat]?=some F/\(1<=F.bB.length/\F.bB.length<=12)/\(0<=F.bV/\F.bV<=12)/\p.outs f=F.bB/\∀ x∈F.bB,x.ok p f F.bV:=by
 have hlt:f.toNat<p.aJ.length:=by omega
 have ef:p.aJ[f.toNat]?=some p.aJ[f.toNat]:=b6 hlt
 have hF:=hp.2 _ _ ef
 refine⟨_,ef,by have:=hF.2.2.1;omega,hF.2.1,by rw[aK.outs,ef];rfl,λx hx=>?_⟩
 have:=(hF.2.2.2.2.2 x hx).2.2.2.2
 rwa [show((f.toNat:Nat):Int)=f by omega]at this
set_option maxRecDepth 100000
theorem minus (a b:Int):dQ Tryz.prog 293 [I a,I b] (I ((a-b)%1000003)):=by
 refine dI 10 zG cG b9 Tryz.func293 λh=>?_
 simp -dsimp -implicitDefEqProofs only[go_sem,↓reduceIte,Tryz.f293]
 first|refine aH.mk (j5 b) ?_|refine aE.mk (j5 b) ?_|refine aH.b7 (j5 b) ?_|refine aE.mk (bX.eA (j5 b)) ?_
 simp -dsimp -implicitDefEqProofs only[go_sem,↓reduceIte,Tryz.f293]
 rw[IntWalk.i64_in _ aA]
 first|refine aH.mk (a2C a (1000003-b%1000003)) ?_|refine aE.mk (a2C a (1000003-b%1000003)) ?_|refine aH.b7 (a2C a (1000003-b%1000003)) ?_|refine aE.mk (bX.eA (a2C a (1000003-b%1000003))) ?_
 simp -dsimp -implicitDefEqProofs only[go_sem,↓reduceIte,Tryz.f293]
 omega
@[go_sem] def bBD:List Nat:=[0,1,4,5,6,8,12,17]
theorem Power (a n:Int) (hn:0<=n) (hn2:n<=4294967296):dQ Tryz.prog 298 [I a,I n] (I (pwN (a%1000003) n.toNat)):=by
 refine dI 27 bBD cG b9 Tryz.func298 λh=>?_
 simp -dsimp -implicitDefEqProofs only[go_sem,↓reduceIte,Tryz.f298]
 refine⟨λq=>absurd q aA,λ_=>?_⟩
 first|refine aH.mk (j5 a) ?_|refine aE.mk (j5 a) ?_|refine aH.b7 (j5 a) ?_|refine aE.mk (bX.eA (j5 a)) ?_
 simp -dsimp -implicitDefEqProofs only[go_sem,↓reduceIte,Tryz.f298]
 generalize hT:pwN (a%1000003) n.toNat=T
 refine aDB bBD cG b9 (λx:Int×Int×Int=>[(1,I x.2.2),(5,I x.1),(6,I x.2.1)]) (λx=>(0<=x.1/\x.1<1000003)/\(0<=x.2.1/\x.2.1<1000003)/\(0<=x.2.2/\x.2.2<=4294967296)/\x.1*x.2.1 ^ x.2.2.toNat%1000003=T) (λx=>x.2.2.toNat) (1,a%1000003,n) ⟨by simp[dT,dB],⟨by simp,by simp⟩,a2D _,⟨hn,hn2⟩,by rw[Int.one_mul];exact hT⟩ ?_
 rintro⟨x,b,m⟩ ⟨hx,hb,hm,hp⟩
 simp only at hx hb hm hp ⊢
 simp -dsimp -implicitDefEqProofs only[go_sem,↓reduceIte,Tryz.f298]
 have h1:=num_mul (x:=x) (y:=b) aAB aAB
 have h2:=num_mul (x:=b) (y:=b) aAB aAB
 rw[aGP hm.1,a8M hm.1,IntWalk.i64_in (m / 2) aA,bMW h1.1 aA,bMW h2.1 aA]
 refine⟨λhg=>⟨λho=>⟨(x*b%1000003,b*b%1000003,m / 2),⟨rfl,rfl,rfl⟩,⟨a2D _,a2D _,(show 0<=m / 2/\m / 2<=4294967296 by omega),bH4 hm.1 ho hp⟩,by simp only;omega⟩,λho=>⟨(x,b*b%1000003,m / 2),⟨rfl,rfl,rfl⟩,⟨hx,a2D _,(show 0<=m / 2/\m / 2<=4294967296 by omega),bBA hm.1 ho hp⟩,by simp only;omega⟩⟩,λhg=>?_⟩
 have:m.toNat=0:=by omega
 rw[this,bA9 x b hx]at hp
 exact hp
theorem aO7 (a:Int):dQ Tryz.prog 295 [I a] (I (vP a)):=by
 refine dI 5 aL3 cG b9 Tryz.func295 λh=>?_
 simp -dsimp -implicitDefEqProofs only[go_sem,↓reduceIte,Tryz.f295]
 first|refine aH.mk (Power a 1000001 dH dH) ?_|refine aE.mk (Power a 1000001 dH dH) ?_|refine aH.b7 (Power a 1000001 dH dH) ?_|refine aE.mk (bX.eA (Power a 1000001 dH dH)) ?_
 simp -dsimp -implicitDefEqProofs only[go_sem,↓reduceIte,Tryz.f295]
 rfl
theorem mB {h h':Heap} {n:Nat} (l:List Int) (h0:h n=none) (hl:(bT h n (.row 1 ((l.map λn=>[I n]).map (List.map .v)))).le h') {len:Nat} (e:len=l.length):Shift (.os n 1 0 len) h' (cI 1 (λn=>[I n]) l) h :=
 lV (l.map λn=>[I n]) h0 hl len (by rw[k5];exact e)
theorem a7C (n:Int) (sz:Nat):(xN n sz).length=sz:=by simp[xN]
theorem bMZ {sz:Nat} {x:List aC} (h:0<sz):(List.replicate sz x)[Int.toNat 0]?=some x:=by
 show(List.replicate sz x)[0]?=some x
 rw[List.getElem?_replicate,if_pos h]
theorem bIA (n:Int) (sz:Nat):((List.replicate sz [aC.int .i64 0]).map (List.map Cell.v)).set 0 [Cell.v (I n)]=((xN n sz).map λn=>[I n]).map (List.map .v):=by
 rw[bLV,xN,xK I]
abbrev oL (l:List (List Int)):aC:=cI 1 (λs=>[ints s]) l
theorem bT5 (m:Nat) (es:List (List aC)) (x:aB):nZ m es x.c=x.c:=by rw[aB.aM];rfl
theorem bIB (m sz k:Nat) (x:aB):lK m sz k x.c=true:=by rw[aB.aM];rfl
theorem aLU.a2B {P:Program} {N:Nat} {c:Code} {Q:Exit->cJ->Heap->Prop} {τ:cJ} {h:Heap} {t:Tag (c,Q)} (n:Nat) {es:List (List aC)} (hh:h n=none) (hb:τ.all (λp=>lJ n 1 es.length p.2)=true)
  (x:aLU P N c Q (τ.map λp=>(p.1,p.2.gU n es)) (bT h n .gone) ()):aLU P N c Q τ (bT h n (.row 1 (es.map (List.map .v)))) t:=by
 have y:=tE.yY (c:=c) (Q:=Q) (τ:=τ) (N:=N) (P:=P) (h:=bT h n (.row 1 (es.map (List.map .v)))) n (sz:=1) (es:=es.map (List.map .v)) (bG _ _ _) (by simpa using hb)
 rw[aF,tJ]at y
 exact y x
theorem aH.aN2 {P:Program} {f:FuncId} {h:Heap} {K:aC->Heap->Prop} {t:Tag K} {nb m k len:Nat} {x:aC} {es:List (List aC)} (hx:x.gU m es=x) (hx2:lJ m 1 es.length x=true) (hne:¬nb=m) (hl:len=es.length) (hm:h m=none) (a:gK P f [.op nb k 0 0,x,.sl 1 es false] (bT h m .gone) K) :
  aH P f [.op nb k 0 0,x,.os m 1 0 len] (bT h m (.row 1 (es.map (List.map .v)))) K t:=by
 subst hl
 refine aH.a2B m (bG _ _ _) (by simp[lK,lJ,hx2,hne]) ?_
 rw[aF,tJ]
 have h1:nZ m es [.op nb k 0 0,x,.os m 1 0 es.length]=[.op nb k 0 0,x,.sl 1 es false]:=by
  simp only[nZ,aC.gU,hx,if_neg hne,if_true,aPU,eL]
 rw[h1]
 exact a
theorem aH.bM0 {P:Program} {f:FuncId} {h:Heap} {K:aC->Heap->Prop} {t:Tag K} {nb m k len:Nat} {e:aB} {es:List (List aC)} (hne:¬nb=m) (hl:len=es.length) (hm:h m=none) (a:gK P f [.op nb k 0 0,.agg e.c,.sl 1 es false] (bT h m .gone) K) :
  aH P f [.op nb k 0 0,.agg e.c,.os m 1 0 len] (bT h m (.row 1 (es.map (List.map .v)))) K t:=by
 subst hl
 refine aH.a2B m (bG _ _ _) (by simp[lK,lJ,bIB,hne]) ?_
 rw[aF,tJ]
 have h1:nZ m es [.op nb k 0 0,.agg e.c,.os m 1 0 es.length]=[.op nb k 0 0,.agg e.c,.sl 1 es false]:=by
  simp only[nZ,aC.gU,bT5,if_neg hne,if_true,aPU,eL]
 rw[h1]
 exact a
theorem aDO {sz:Nat} {env:List (List Int)} {s:List Int} (he:∀ x∈env,gO sz x) (hs:gO sz s):∀ x∈env++[s],gO sz x:=λx hx=>by
 rcases pH.1 hx with hx|hx
 ·exact he x hx
 ·rw[rG.1 hx];exact hs
theorem aKT:nJ 0:=by unfold nJ;simp
theorem c8 (a b:Int) (ha:nJ a) (hb:nJ b):dQ Tryz.prog 288 [I a,I b] (I (a*b%1000003)):=by
 refine dI 11 zG cG b9 Tryz.func288 λh=>?_
 simp -dsimp -implicitDefEqProofs only[go_sem,↓reduceIte,Tryz.f288]
 first|refine aH.mk (dM a) ?_|refine aE.mk (dM a) ?_|refine aH.b7 (dM a) ?_|refine aE.mk (bX.eA (dM a)) ?_
 simp -dsimp -implicitDefEqProofs only[go_sem,↓reduceIte,Tryz.f288]
 first|refine aH.mk (dM b) ?_|refine aE.mk (dM b) ?_|refine aH.b7 (dM b) ?_|refine aE.mk (bX.eA (dM b)) ?_
 simp -dsimp -implicitDefEqProofs only[go_sem,↓reduceIte,Tryz.f288]
 have h1:=num_mul ha hb
 have h2:=ha
 have h3:=hb
 unfold nJ at h2 h3
 rw[a8N h2.1 aA,a8N h3.1 aA,bMW h1.1 aA]
@[go_sem] def bBE:List Nat:=[0,1,4,5,6,8,12,15]
theorem aGF (a n:Int) (hn:0<=n) (hn2:n<=4294967296):dQ Tryz.prog 296 [I a,I n] (I (pwN (a%1000003) n.toNat)):=by
 refine dI 25 bBE cG b9 Tryz.func296 λh=>?_
 simp -dsimp -implicitDefEqProofs only[go_sem,↓reduceIte,Tryz.f296]
 refine⟨λq=>absurd q aA,λ_=>?_⟩
 first|refine aH.mk (dM a) ?_|refine aE.mk (dM a) ?_|refine aH.b7 (dM a) ?_|refine aE.mk (bX.eA (dM a)) ?_
 simp -dsimp -implicitDefEqProofs only[go_sem,↓reduceIte,Tryz.f296]
 generalize hT:pwN (a%1000003) n.toNat=T
 refine aDB bBE cG b9 (λx:Int×Int×Int=>[(1,I x.2.2),(5,I x.1),(6,I x.2.1)]) (λx=>(0<=x.1/\x.1<1000003)/\(0<=x.2.1/\x.2.1<1000003)/\(0<=x.2.2/\x.2.2<=4294967296)/\x.1*x.2.1 ^ x.2.2.toNat%1000003=T) (λx=>x.2.2.toNat) (1,a%1000003,n) ⟨by simp[dT,dB],⟨by simp,by simp⟩,a2D _,⟨hn,hn2⟩,by rw[Int.one_mul];exact hT⟩ ?_
 rintro⟨x,b,m⟩ ⟨hx,hb,hm,hp⟩
 simp only at hx hb hm hp ⊢
 have nx:nJ x:=by unfold nJ;omega
 have nb:nJ b:=by unfold nJ;omega
 simp -dsimp -implicitDefEqProofs only[go_sem,↓reduceIte,Tryz.f296]
 rw[aGP hm.1]
 refine⟨λhg=>⟨λho=>?_,λho=>?_⟩,λhg=>?_⟩
 ·first|refine aH.mk (c8 x b nx nb) ?_|refine aE.mk (c8 x b nx nb) ?_|refine aH.b7 (c8 x b nx nb) ?_|refine aE.mk (bX.eA (c8 x b nx nb)) ?_
  simp -dsimp -implicitDefEqProofs only[go_sem,↓reduceIte,Tryz.f296]
  first|refine aH.mk (c8 b b nb nb) ?_|refine aE.mk (c8 b b nb nb) ?_|refine aH.b7 (c8 b b nb nb) ?_|refine aE.mk (bX.eA (c8 b b nb nb)) ?_
  simp -dsimp -implicitDefEqProofs only[go_sem,↓reduceIte,Tryz.f296]
  rw[a8M hm.1,IntWalk.i64_in (m / 2) aA]
  exact⟨(x*b%1000003,b*b%1000003,m / 2),⟨rfl,rfl,rfl⟩,⟨a2D _,a2D _,(show 0<=m / 2/\m / 2<=4294967296 by omega),bH4 hm.1 ho hp⟩,by simp only;omega⟩
 ·first|refine aH.mk (c8 b b nb nb) ?_|refine aE.mk (c8 b b nb nb) ?_|refine aH.b7 (c8 b b nb nb) ?_|refine aE.mk (bX.eA (c8 b b nb nb)) ?_
  simp -dsimp -implicitDefEqProofs only[go_sem,↓reduceIte,Tryz.f296]
  rw[a8M hm.1,IntWalk.i64_in (m / 2) aA]
  exact⟨(x,b*b%1000003,m / 2),⟨rfl,rfl,rfl⟩,⟨hx,a2D _,(show 0<=m / 2/\m / 2<=4294967296 by omega),bBA hm.1 ho hp⟩,by simp only;omega⟩
 ·have:m.toNat=0:=by omega
  rw[this,bA9 x b hx]at hp
  exact hp
theorem aFR (a:Int):dQ Tryz.prog 290 [I a] (I (vP a)):=by
 refine dI 5 aL3 cG b9 Tryz.func290 λh=>?_
 simp -dsimp -implicitDefEqProofs only[go_sem,↓reduceIte,Tryz.f290]
 first|refine aH.mk (aGF a 1000001 dH dH) ?_|refine aE.mk (aGF a 1000001 dH dH) ?_|refine aH.b7 (aGF a 1000001 dH dH) ?_|refine aE.mk (bX.eA (aGF a 1000001 dH dH)) ?_
 simp -dsimp -implicitDefEqProofs only[go_sem,↓reduceIte,Tryz.f290]
 rfl
theorem w8 (a b:Int) (ha:nJ a) (hb:nJ b):dQ Tryz.prog 291 [I a,I b] (I ((a-b)%1000003)):=by
 unfold nJ at ha hb
 refine dI 9 zG cG b9 Tryz.func291 λh=>?_
 simp -dsimp -implicitDefEqProofs only[go_sem,↓reduceIte,Tryz.f291]
 rw[IntWalk.i64_in _ aA]
 first|refine aH.mk (dM (a-b)) ?_|refine aE.mk (dM (a-b)) ?_|refine aH.b7 (dM (a-b)) ?_|refine aE.mk (bX.eA (dM (a-b))) ?_
 simp -dsimp -implicitDefEqProofs only[go_sem,↓reduceIte,Tryz.f291]
theorem pB (n:Int) (sz:Nat) (hs:sz<=1048576):dQ Tryz.prog 274 [I n,I sz] (ints (xN n sz)):=by
 rcases aTN sz with rfl|hp
 ·refine tQ 14 aU5 cG b9 Tryz.func274 λh=>?_
  simp -dsimp -implicitDefEqProofs only[go_sem,↓reduceIte,Tryz.f274]
  refine⟨cM,by omega,by omega,λm hm=>⟨λq=>absurd q aA,λ_=>?_⟩⟩
  exact mB [] hm (Heap.le_refl _) rfl
 ·have e2:=bMZ (x:=[aC.int .i64 0]) hp
  refine tQ 14 aU5 cG b9 Tryz.func274 λh=>?_
  simp -dsimp -implicitDefEqProofs only[go_sem,↓reduceIte,Tryz.f274,wQ,e2]
  refine⟨cM,fL _,by omega,by omega,λm hm=>⟨λ_=>⟨by omega,?_⟩,λq=>absurd q aA⟩⟩
  rw[aF,show Int.toNat 0=0 from rfl,bIA]
  exact mB _ hm (Heap.le_refl _) (a7C n sz).symm
@[go_sem] def bQV:List Nat:=[7,21]
theorem w9 (a:List Int) (m:Int) (hm:nJ m) (hl:a.length<=1048576) (ha:p4 a):dQ Tryz.prog 275 [ints a,I m] (ints (aBE a m)):=by
 have hc:=a0E a m
 refine tQ 24 aU6 bQV b9 Tryz.func275 λh=>?_
 simp -dsimp -implicitDefEqProofs only[go_sem,↓reduceIte,Tryz.f275]
 refine⟨cM,?_⟩
 refine cY aU6 bQV b9 (λx:Nat×Option Nat=>[(0,ints a),(1,I m),(5,mX 1 ((aBE a m).take x.1).length x.2),(6,I x.1)]) (λx=>c7 h (.row 1 ((((aBE a m).take x.1).map λn=>[I n]).map (List.map .v))) x.2) (λx=>x.1<=a.length/\k7 h ((aBE a m).take x.1) x.2) (λx=>a.length-x.1) (0,none) ⟨by simp[dT,dB,mX],by simp only[aN];exact Heap.le_refl _,iZ _,by simp[k7]⟩ ?_
 rintro⟨k,o⟩ ⟨hk,hos⟩
 simp only at hk hos ⊢
 rcases cP k a.length with hlt|hge
 ·have ea:a[k]?=some a[k]:=b6 hlt
  have hy:(aBE a m).take (k+1)=(aBE a m).take k++[(aBE a m)[k]'aA]:=kP aA
  have hv:(aBE a m)[k]'aA=a[k]*m%1000003:=by simp[aBE]
  have hlk:((aBE a m).take k).length=k:=by rw[nX];omega
  rw[hv]at hy
  cases o with
  |none =>
   rw[cZ]at hos
   rw[hos]at hy ⊢
   simp -dsimp -implicitDefEqProofs only[go_sem,↓reduceIte,Tryz.f275,dD,aN,hlt,ea]
   intro _
   first|refine aH.mk (c8 a[k] m (ha _ (dG hlt)) hm) ?_|refine aE.mk (c8 a[k] m (ha _ (dG hlt)) hm) ?_|refine aH.b7 (c8 a[k] m (ha _ (dG hlt)) hm) ?_|refine aE.mk (bX.eA (c8 a[k] m (ha _ (dG hlt)) hm)) ?_
   simp -dsimp -implicitDefEqProofs only[go_sem,↓reduceIte,Tryz.f275]
   repeat'(with_reducible first|intro _|refine And.intro ?_ ?_)
   all_goals try(first|omega|decide)
   rename_i b hb
   refine⟨(k+1,some b),?_⟩
   simp only[hy]
   refine⟨⟨rfl,?_⟩,Heap.le_refl _,⟨by omega,hb⟩,by omega⟩
   rw[IntWalk.i64_in _ aA];rfl
  |some n =>
   rw[b8]at hos
   simp -dsimp -implicitDefEqProofs only[go_sem,↓reduceIte,Tryz.f275,bZ,aL,hlt,ea]
   intro _
   first|refine aH.mk (c8 a[k] m (ha _ (dG hlt)) hm) ?_|refine aE.mk (c8 a[k] m (ha _ (dG hlt)) hm) ?_|refine aH.b7 (c8 a[k] m (ha _ (dG hlt)) hm) ?_|refine aE.mk (bX.eA (c8 a[k] m (ha _ (dG hlt)) hm)) ?_
   simp -dsimp -implicitDefEqProofs only[go_sem,↓reduceIte,Tryz.f275]
   repeat'(with_reducible first|intro _|refine And.intro ?_ ?_)
   all_goals try(first|omega|decide|exact fL _)
   rename_i b hb
   refine⟨(k+1,some b),?_⟩
   simp only[hy,aL,bZ,b8]
   refine⟨⟨by rw[rL];rfl,?_⟩,?_,⟨by omega,hb.2⟩,by omega⟩
   ·rw[IntWalk.i64_in _ aA];rfl
   ·rw[←iX];exact nP hos
 ·have hk':k=a.length:=by omega
  subst hk'
  rw[gF aA]at hos ⊢
  cases o with
  |none =>
   rw[cZ]at hos
   simp -dsimp -implicitDefEqProofs only[go_sem,↓reduceIte,Tryz.f275,dD,aN,cN,fP]
   intro _
   rw[hos]
   exact Shift.of (Sub.loose _ _ _) (Heap.le_refl _)
  |some n =>
   rw[b8]at hos
   simp -dsimp -implicitDefEqProofs only[go_sem,↓reduceIte,Tryz.f275,bZ,aL,cN,fP]
   intro _
   exact mB _ hos (Heap.le_refl _) rfl
@[go_sem] def bQW:List Nat:=[7,24]
@[go_sem] def bQX:Marks:=λid=>match id with|5=>([11],(.op 0 (.op 1 (.op 2 (.op 3 (.op 4 (.op 5 (.op 6 (.op 7 (.op 8 (.op 9 (.op 10 (.op 11 (.op 12 .nil))))))))))))),[])|_=>([],.nil,[])
theorem aFS (a b:List Int) (hab:b.length=a.length) (hl:a.length<=1048576) (ha:p4 a) (hb:p4 b):dQ Tryz.prog 278 [ints a,ints b] (ints (aFN a b)):=by
 have hc:=bH2 hab
 refine tQ 27 aU6 bQW bQX Tryz.func278 λh=>?_
 simp -dsimp -implicitDefEqProofs only[go_sem,↓reduceIte,Tryz.f278]
 refine⟨cM,?_⟩
 refine cY aU6 bQW bQX (λx:Nat×Option Nat=>[(0,ints a),(1,ints b),(5,mX 1 ((aFN a b).take x.1).length x.2),(6,I x.1)]) (λx=>c7 h (.row 1 ((((aFN a b).take x.1).map λn=>[I n]).map (List.map .v))) x.2) (λx=>x.1<=a.length/\k7 h ((aFN a b).take x.1) x.2) (λx=>a.length-x.1) (0,none) ⟨by simp[dT,dB,mX],by simp only[aN];exact Heap.le_refl _,iZ _,by simp[k7]⟩ ?_
 rintro⟨k,o⟩ ⟨hk,hos⟩
 simp only at hk hos ⊢
 rcases cP k a.length with hlt|hge
 ·have ea:a[k]?=some a[k]:=b6 hlt
  have eb:b[k]?=some (b[k]'aA):=b6 aA
  have hy:(aFN a b).take (k+1)=(aFN a b).take k++[(aFN a b)[k]'aA]:=kP aA
  have hv:(aFN a b)[k]'aA=(a[k]+b[k]'aA)%1000003:=by simp[aFN]
  have hlk:((aFN a b).take k).length=k:=by rw[nX];omega
  rw[hv]at hy
  cases o with
  |none =>
   rw[cZ]at hos
   rw[hos]at hy ⊢
   simp -dsimp -implicitDefEqProofs only[go_sem,↓reduceIte,Tryz.f278,dD,aN,hlt,ea,eb]
   intro _
   refine⟨by omega,?_⟩
   first|refine aH.mk (jZ a[k] (b[k]'aA)) ?_|refine aE.mk (jZ a[k] (b[k]'aA)) ?_|refine aH.b7 (jZ a[k] (b[k]'aA)) ?_|refine aE.mk (bX.eA (jZ a[k] (b[k]'aA))) ?_
   simp -dsimp -implicitDefEqProofs only[go_sem,↓reduceIte,Tryz.f278]
   repeat'(with_reducible first|intro _|refine And.intro ?_ ?_)
   all_goals try(first|omega|decide)
   rename_i b hb
   refine⟨(k+1,some b),?_⟩
   simp only[hy]
   refine⟨⟨rfl,?_⟩,Heap.le_refl _,⟨by omega,hb⟩,by omega⟩
   rw[IntWalk.i64_in _ aA];rfl
  |some n =>
   rw[b8]at hos
   simp -dsimp -implicitDefEqProofs only[go_sem,↓reduceIte,Tryz.f278,bZ,aL,hlt,ea,eb]
   intro _
   refine⟨by omega,?_⟩
   first|refine aH.mk (jZ a[k] (b[k]'aA)) ?_|refine aE.mk (jZ a[k] (b[k]'aA)) ?_|refine aH.b7 (jZ a[k] (b[k]'aA)) ?_|refine aE.mk (bX.eA (jZ a[k] (b[k]'aA))) ?_
   simp -dsimp -implicitDefEqProofs only[go_sem,↓reduceIte,Tryz.f278]
   repeat'(with_reducible first|intro _|refine And.intro ?_ ?_)
   all_goals try(first|omega|decide|exact fL _)
   rename_i b hb
   refine⟨(k+1,some b),?_⟩
   simp only[hy,aL,bZ,b8]
   refine⟨⟨by rw[rL];rfl,?_⟩,?_,⟨by omega,hb.2⟩,by omega⟩
   ·rw[IntWalk.i64_in _ aA];rfl
   ·rw[←iX];exact nP hos
 ·have hk':k=a.length:=by omega
  subst hk'
  rw[gF aA]at hos ⊢
  cases o with
  |none =>
   rw[cZ]at hos
   simp -dsimp -implicitDefEqProofs only[go_sem,↓reduceIte,Tryz.f278,dD,aN,cN,fP]
   intro _
   rw[hos]
   exact Shift.of (Sub.loose _ _ _) (Heap.le_refl _)
  |some n =>
   rw[b8]at hos
   simp -dsimp -implicitDefEqProofs only[go_sem,↓reduceIte,Tryz.f278,bZ,aL,cN,fP]
   intro _
   exact mB _ hos (Heap.le_refl _) rfl
theorem aX7 (a b:List Int) (hab:b.length=a.length) (hl:a.length<=1048576) (ha:p4 a) (hb:p4 b):dQ Tryz.prog 279 [ints a,ints b] (ints (bT2 a b)):=by
 refine dI 9 zG cG b9 Tryz.func279 λh=>?_
 simp -dsimp -implicitDefEqProofs only[go_sem,↓reduceIte,Tryz.f279]
 first|refine aH.mk (w9 b 1000002 aAB aA hb) ?_|refine aE.mk (w9 b 1000002 aAB aA hb) ?_|refine aH.b7 (w9 b 1000002 aAB aA hb) ?_|refine aE.mk (bX.eA (w9 b 1000002 aAB aA hb)) ?_
 simp -dsimp -implicitDefEqProofs only[go_sem,↓reduceIte,Tryz.f279]
 first|refine aH.mk (aFS a (aBE b 1000002) a9G hl ha (yO _ ⟨rfl,hb⟩).2) ?_|refine aE.mk (aFS a (aBE b 1000002) a9G hl ha (yO _ ⟨rfl,hb⟩).2) ?_|refine aH.b7 (aFS a (aBE b 1000002) a9G hl ha (yO _ ⟨rfl,hb⟩).2) ?_|refine aE.mk (bX.eA (aFS a (aBE b 1000002) a9G hl ha (yO _ ⟨rfl,hb⟩).2)) ?_
 simp -dsimp -implicitDefEqProofs only[go_sem,↓reduceIte,Tryz.f279]
 rfl
@[go_sem] def aO8:List Nat:=[0,1,4,5,6,7,8,13,18]
@[go_sem] def bBF:List Nat:=[9,36]
@[go_sem] def bBG:Marks:=λid=>match id with|9=>([],(.op 0 (.op 1 (.op 2 (.op 3 (.op 4 (.op 5 (.op 6 (.op 7 (.op 8 (.op 9 (.op 10 (.op 11 (.op 12 (.op 13 .nil)))))))))))))),[])|_=>([],.nil,[])
theorem aX8 (a b:List Int) (hab:b.length=a.length) (hl:a.length<=1048576) (ha:p4 a) (hb:p4 b):dQ Tryz.prog 280 [ints a,ints b] (ints (mulL a b)):=by
 have hc:=bH6 a b
 refine tQ 39 aO8 bBF bBG Tryz.func280 λh=>?_
 simp -dsimp -implicitDefEqProofs only[go_sem,↓reduceIte,Tryz.f280]
 refine⟨cM,?_⟩
 refine cY aO8 bBF bBG (λx:Nat×Option Nat=>[(0,ints a),(1,ints b),(5,mX 1 ((mulL a b).take x.1).length x.2),(6,I x.1)]) (λx=>c7 h (.row 1 ((((mulL a b).take x.1).map λn=>[I n]).map (List.map .v))) x.2) (λx=>x.1<=a.length/\k7 h ((mulL a b).take x.1) x.2) (λx=>a.length-x.1) (0,none) ⟨by simp[dT,dB,mX],by simp only[aN];exact Heap.le_refl _,iZ _,by simp[k7]⟩ ?_
 rintro⟨k,o⟩ ⟨hk,hos⟩
 simp only at hk hos ⊢
 rcases cP k a.length with hlt|hge
 ·have hy:(mulL a b).take (k+1)=(mulL a b).take k++[(mulL a b)[k]'aA]:=kP aA
  have hv:(mulL a b)[k]'aA=cvS a b k (k+1):=by simp[mulL]
  have hlk:((mulL a b).take k).length=k:=by rw[nX];omega
  rw[hv]at hy
  cases o with
  |none =>
   rw[cZ]at hos
   rw[hos]at hy ⊢
   simp -dsimp -implicitDefEqProofs only[go_sem,↓reduceIte,Tryz.f280,dD,aN,hlt]
   intro _
   refine aDB aO8 bBF bBG (λi:Nat=>[(0,ints a),(1,ints b),(5,.sl 1 [] true),(6,I k),(7,I (cvS a b k i)),(8,I i)]) (λi=>i<=k+1) (λi=>k+1-i) 0 ⟨by simp[dT,dB,cvS],iZ _⟩ ?_
   intro i hi
   rcases cP i (k+1)with aFJ|bL5
   ·have ea:=fU (l:=a) (i:=i) aA
    have eb:=fU (l:=b) (i:=k-i) aA
    have ew:IntKind.i64.wrap ((k:Int)-(i:Int))=((k-i:Nat):Int):=by rw[IntWalk.i64_in _ aA];omega
    simp -dsimp -implicitDefEqProofs only[go_sem,↓reduceIte,Tryz.f280,ea,eb,ew]
    refine⟨λ_=>⟨by omega,by omega,?_⟩,λq=>absurd aA q⟩
    first|refine aH.mk (c8 (a.getD i 0) (b.getD (k-i) 0) (ha.get i) (hb.get (k-i))) ?_|refine aE.mk (c8 (a.getD i 0) (b.getD (k-i) 0) (ha.get i) (hb.get (k-i))) ?_|refine aH.b7 (c8 (a.getD i 0) (b.getD (k-i) 0) (ha.get i) (hb.get (k-i))) ?_|refine aE.mk (bX.eA (c8 (a.getD i 0) (b.getD (k-i) 0) (ha.get i) (hb.get (k-i)))) ?_
    simp -dsimp -implicitDefEqProofs only[go_sem,↓reduceIte,Tryz.f280]
    first|refine aH.mk (jZ (cvS a b k i) (a.getD i 0*b.getD (k-i) 0%1000003)) ?_|refine aE.mk (jZ (cvS a b k i) (a.getD i 0*b.getD (k-i) 0%1000003)) ?_|refine aH.b7 (jZ (cvS a b k i) (a.getD i 0*b.getD (k-i) 0%1000003)) ?_|refine aE.mk (bX.eA (jZ (cvS a b k i) (a.getD i 0*b.getD (k-i) 0%1000003))) ?_
    simp -dsimp -implicitDefEqProofs only[go_sem,↓reduceIte,Tryz.f280]
    refine⟨i+1,⟨?_,by rw[IntWalk.i64_in _ aA];rfl⟩,by omega,by omega⟩
    rw[cvS]
    omega
   ·have hi':i=k+1:=by omega
    subst hi'
    simp -dsimp -implicitDefEqProofs only[go_sem,↓reduceIte,Tryz.f280,hlt]
    refine⟨λq=>absurd q aA,λ_=>?_⟩
    repeat'(with_reducible first|intro _|refine And.intro ?_ ?_)
    all_goals try(first|omega|decide)
    rename_i b hb
    refine⟨(k+1,some b),?_⟩
    simp only[hy]
    refine⟨⟨rfl,?_⟩,Heap.le_refl _,⟨by omega,hb⟩,by omega⟩
    rw[IntWalk.i64_in _ aA];rfl
  |some n =>
   rw[b8]at hos
   simp -dsimp -implicitDefEqProofs only[go_sem,↓reduceIte,Tryz.f280,bZ,aL,hlt]
   intro _
   refine aDB aO8 bBF bBG (λi:Nat=>[(0,ints a),(1,ints b),(5,.os n 1 0 ((mulL a b).take k).length),(6,I k),(7,I (cvS a b k i)),(8,I i)]) (λi=>i<=k+1) (λi=>k+1-i) 0 ⟨by simp[dT,dB,cvS],iZ _⟩ ?_
   intro i hi
   rcases cP i (k+1)with aFJ|bL5
   ·have ea:=fU (l:=a) (i:=i) aA
    have eb:=fU (l:=b) (i:=k-i) aA
    have ew:IntKind.i64.wrap ((k:Int)-(i:Int))=((k-i:Nat):Int):=by rw[IntWalk.i64_in _ aA];omega
    simp -dsimp -implicitDefEqProofs only[go_sem,↓reduceIte,Tryz.f280,ea,eb,ew]
    refine⟨λ_=>⟨by omega,by omega,?_⟩,λq=>absurd aA q⟩
    first|refine aH.mk (c8 (a.getD i 0) (b.getD (k-i) 0) (ha.get i) (hb.get (k-i))) ?_|refine aE.mk (c8 (a.getD i 0) (b.getD (k-i) 0) (ha.get i) (hb.get (k-i))) ?_|refine aH.b7 (c8 (a.getD i 0) (b.getD (k-i) 0) (ha.get i) (hb.get (k-i))) ?_|refine aE.mk (bX.eA (c8 (a.getD i 0) (b.getD (k-i) 0) (ha.get i) (hb.get (k-i)))) ?_
    simp -dsimp -implicitDefEqProofs only[go_sem,↓reduceIte,Tryz.f280]
    first|refine aH.mk (jZ (cvS a b k i) (a.getD i 0*b.getD (k-i) 0%1000003)) ?_|refine aE.mk (jZ (cvS a b k i) (a.getD i 0*b.getD (k-i) 0%1000003)) ?_|refine aH.b7 (jZ (cvS a b k i) (a.getD i 0*b.getD (k-i) 0%1000003)) ?_|refine aE.mk (bX.eA (jZ (cvS a b k i) (a.getD i 0*b.getD (k-i) 0%1000003))) ?_
    simp -dsimp -implicitDefEqProofs only[go_sem,↓reduceIte,Tryz.f280]
    refine⟨i+1,⟨?_,by rw[IntWalk.i64_in _ aA];rfl⟩,by omega,by omega⟩
    rw[cvS]
    omega
   ·have hi':i=k+1:=by omega
    subst hi'
    simp -dsimp -implicitDefEqProofs only[go_sem,↓reduceIte,Tryz.f280,hlt]
    refine⟨λq=>absurd q aA,λ_=>?_⟩
    repeat'(with_reducible first|intro _|refine And.intro ?_ ?_)
    all_goals try(first|omega|decide|exact fL _)
    rename_i b hb
    refine⟨(k+1,some b),?_⟩
    simp only[hy,aL,bZ,b8]
    refine⟨⟨by rw[rL];rfl,?_⟩,?_,⟨by omega,hb.2⟩,by omega⟩
    ·rw[IntWalk.i64_in _ aA];rfl
    ·rw[←iX];exact nP hos
 ·have hk':k=a.length:=by omega
  subst hk'
  rw[gF aA]at hos ⊢
  cases o with
  |none =>
   rw[cZ]at hos
   simp -dsimp -implicitDefEqProofs only[go_sem,↓reduceIte,Tryz.f280,dD,aN,cN,fP]
   intro _
   rw[hos]
   exact Shift.of (Sub.loose _ _ _) (Heap.le_refl _)
  |some n =>
   rw[b8]at hos
   simp -dsimp -implicitDefEqProofs only[go_sem,↓reduceIte,Tryz.f280,bZ,aL,cN,fP]
   intro _
   exact mB _ hos (Heap.le_refl _) rfl
@[go_sem] def aO9:List Nat:=[0,1,4,5,6,7,8,9,18,27]
@[go_sem] def bBH:List Nat:=[10,47]
@[go_sem] def bBI:Marks:=λid=>match id with|10=>([4],(.op 0 (.op 1 (.op 2 (.op 3 (.op 5 (.op 6 (.op 7 (.op 8 (.op 9 (.op 10 (.op 4 (.op 11 (.op 12 (.op 13 .nil)))))))))))))),[])|_=>([],.nil,[])
theorem bT6 (a b:List Int) (hab:b.length=a.length) (hl:a.length<=1048576) (h0:0<a.length) (ha:p4 a) (hb:p4 b):dQ Tryz.prog 281 [ints a,ints b] (ints (aB2 a b)):=by
 have hc:=aFQ a b
 have e0:b[Int.toNat 0]?=some (b.getD 0 0):=fU (l:=b) (i:=0) aA
 refine tQ 50 aO9 bBH bBI Tryz.func281 λh=>?_
 simp -dsimp -implicitDefEqProofs only[go_sem,↓reduceIte,Tryz.f281,e0]
 refine⟨cM,by omega,?_⟩
 first|refine aH.mk (aFR (b.getD 0 0)) ?_|refine aE.mk (aFR (b.getD 0 0)) ?_|refine aH.b7 (aFR (b.getD 0 0)) ?_|refine aE.mk (bX.eA (aFR (b.getD 0 0))) ?_
 simp -dsimp -implicitDefEqProofs only[go_sem,↓reduceIte,Tryz.f281]
 refine cY aO9 bBH bBI (λx:Nat×Option Nat=>[(0,ints a),(1,ints b),(6,I (vP (b.getD 0 0))),(5,mX 1 ((aB2 a b).take x.1).length x.2),(7,I x.1)]) (λx=>c7 h (.row 1 ((((aB2 a b).take x.1).map λn=>[I n]).map (List.map .v))) x.2) (λx=>x.1<=a.length/\k7 h ((aB2 a b).take x.1) x.2) (λx=>a.length-x.1) (0,none) ⟨by simp[dT,dB,mX],by simp only[aN];exact Heap.le_refl _,iZ _,by simp[k7]⟩ ?_
 rintro⟨k,o⟩ ⟨hk,hos⟩
 simp only at hk hos ⊢
 rcases cP k a.length with hlt|hge
 ·have hy:(aB2 a b).take (k+1)=(aB2 a b).take k++[(aB2 a b)[k]'aA]:=kP aA
  have hv:=bH5 (a:=a) (b:=b) hlt
  have hlk:((aB2 a b).take k).length=k:=by rw[nX];omega
  have ek:=fU hlt
  rw[hv]at hy
  cases o with
  |none =>
   rw[cZ]at hos
   rw[hos]at hy ⊢
   have hk0:k=0:=by rw[hos]at hlk;exact hlk.symm
   subst hk0
   simp -dsimp -implicitDefEqProofs only[go_sem,↓reduceIte,Tryz.f281,dD,aN,hlt,ek]
   intro _
   refine aDB aO9 bBH bBI (λ_:Unit=>[(0,ints a),(1,ints b),(5,.sl 1 [] true),(6,I (vP (b.getD 0 0))),(7,I (0:Nat)),(8,I (a.getD 0 0)),(9,I (0:Nat))]) (λ_=>True) (λ_=>0) () ⟨by simp[dT,dB],trivial⟩ ?_
   intro _ _
   simp -dsimp -implicitDefEqProofs only[go_sem,↓reduceIte,Tryz.f281,cN,fP]
   try(refine⟨λq=>absurd q aA,λ_=>?_⟩)
   first|refine aH.mk (c8 (a.getD 0 0) (vP (b.getD 0 0)) (ha.get 0) (num_inv _)) ?_|refine aE.mk (c8 (a.getD 0 0) (vP (b.getD 0 0)) (ha.get 0) (num_inv _)) ?_|refine aH.b7 (c8 (a.getD 0 0) (vP (b.getD 0 0)) (ha.get 0) (num_inv _)) ?_|refine aE.mk (bX.eA (c8 (a.getD 0 0) (vP (b.getD 0 0)) (ha.get 0) (num_inv _))) ?_
   simp -dsimp -implicitDefEqProofs only[go_sem,↓reduceIte,Tryz.f281]
   repeat'(with_reducible first|intro _|refine And.intro ?_ ?_)
   all_goals try(first|omega|decide)
   rename_i b hb
   refine⟨(0+1,some b),?_⟩
   simp only[hy]
   refine⟨⟨rfl,?_⟩,Heap.le_refl _,⟨by omega,hb⟩,by omega⟩
   rw[IntWalk.i64_in _ aA];rfl
  |some n =>
   rw[b8]at hos
   simp -dsimp -implicitDefEqProofs only[go_sem,↓reduceIte,Tryz.f281,bZ,aL,hlt,ek]
   intro _
   have htk:(aB2 a b).take k=qP a b k:=aME a b _ hk
   refine aDB aO9 bBH bBI (λi:Nat=>[(0,ints a),(1,ints b),(5,.os n 1 0 ((aB2 a b).take k).length),(6,I (vP (b.getD 0 0))),(7,I k),(8,I (dvS (qP a b k) b k (a.getD k 0) i)),(9,I i)]) (λi=>i<=k) (λi=>k-i) 0 ⟨by simp[dT,dB,dvS],iZ _⟩ ?_
   intro i hi
   rcases cP i k with aFJ|bL5
   ·have ei:((aB2 a b).take k)[i]?=some ((qP a b k).getD i 0):=by rw[htk];exact fU (by rw[rX];exact aFJ)
    have eb:=fU (l:=b) (i:=k-i) aA
    have ew:IntKind.i64.wrap ((k:Int)-(i:Int))=((k-i:Nat):Int):=by rw[IntWalk.i64_in _ aA];omega
    simp -dsimp -implicitDefEqProofs only[go_sem,↓reduceIte,Tryz.f281,aFJ,ei,eb,ew]
    refine⟨by omega,by omega,?_⟩
    first|refine aH.mk (c8 ((qP a b k).getD i 0) (b.getD (k-i) 0) ((aB3 a b k).get i) (hb.get (k-i))) ?_|refine aE.mk (c8 ((qP a b k).getD i 0) (b.getD (k-i) 0) ((aB3 a b k).get i) (hb.get (k-i))) ?_|refine aH.b7 (c8 ((qP a b k).getD i 0) (b.getD (k-i) 0) ((aB3 a b k).get i) (hb.get (k-i))) ?_|refine aE.mk (bX.eA (c8 ((qP a b k).getD i 0) (b.getD (k-i) 0) ((aB3 a b k).get i) (hb.get (k-i)))) ?_
    simp -dsimp -implicitDefEqProofs only[go_sem,↓reduceIte,Tryz.f281]
    first|refine aH.mk (w8 (dvS (qP a b k) b k (a.getD k 0) i) ((qP a b k).getD i 0*b.getD (k-i) 0%1000003) (aFP _ _ _ (ha.get k) i) (vF _)) ?_|refine aE.mk (w8 (dvS (qP a b k) b k (a.getD k 0) i) ((qP a b k).getD i 0*b.getD (k-i) 0%1000003) (aFP _ _ _ (ha.get k) i) (vF _)) ?_|refine aH.b7 (w8 (dvS (qP a b k) b k (a.getD k 0) i) ((qP a b k).getD i 0*b.getD (k-i) 0%1000003) (aFP _ _ _ (ha.get k) i) (vF _)) ?_|refine aE.mk (bX.eA (w8 (dvS (qP a b k) b k (a.getD k 0) i) ((qP a b k).getD i 0*b.getD (k-i) 0%1000003) (aFP _ _ _ (ha.get k) i) (vF _))) ?_
    simp -dsimp -implicitDefEqProofs only[go_sem,↓reduceIte,Tryz.f281]
    refine⟨i+1,⟨?_,by rw[IntWalk.i64_in _ aA];rfl⟩,by omega,by omega⟩
    rw[dvS]
    omega
   ·have hi':i=k:=by omega
    subst hi'
    simp -dsimp -implicitDefEqProofs only[go_sem,↓reduceIte,Tryz.f281,cN,fP]
    first|refine aH.mk (c8 (dvS (qP a b i) b i (a.getD i 0) i) (vP (b.getD 0 0)) (aFP _ _ _ (ha.get i) i) (num_inv _)) ?_|refine aE.mk (c8 (dvS (qP a b i) b i (a.getD i 0) i) (vP (b.getD 0 0)) (aFP _ _ _ (ha.get i) i) (num_inv _)) ?_|refine aH.b7 (c8 (dvS (qP a b i) b i (a.getD i 0) i) (vP (b.getD 0 0)) (aFP _ _ _ (ha.get i) i) (num_inv _)) ?_|refine aE.mk (bX.eA (c8 (dvS (qP a b i) b i (a.getD i 0) i) (vP (b.getD 0 0)) (aFP _ _ _ (ha.get i) i) (num_inv _))) ?_
    simp -dsimp -implicitDefEqProofs only[go_sem,↓reduceIte,Tryz.f281]
    repeat'(with_reducible first|intro _|refine And.intro ?_ ?_)
    all_goals try(first|omega|decide|exact fL _)
    rename_i b hb
    refine⟨(i+1,some b),?_⟩
    simp only[hy,aL,bZ,b8]
    refine⟨⟨by rw[rL];rfl,?_⟩,?_,⟨by omega,hb.2⟩,by omega⟩
    ·rw[IntWalk.i64_in _ aA];rfl
    ·rw[←iX];exact nP hos
 ·have hk':k=a.length:=by omega
  subst hk'
  rw[gF aA]at hos ⊢
  cases o with
  |none =>
   rw[cZ]at hos
   simp -dsimp -implicitDefEqProofs only[go_sem,↓reduceIte,Tryz.f281,dD,aN,cN,fP]
   intro _
   rw[hos]
   exact Shift.of (Sub.loose _ _ _) (Heap.le_refl _)
  |some n =>
   rw[b8]at hos
   simp -dsimp -implicitDefEqProofs only[go_sem,↓reduceIte,Tryz.f281,bZ,aL,cN,fP]
   intro _
   exact mB _ hos (Heap.le_refl _) rfl
theorem aN3 {h h':Heap} {n:Nat} (l:List (List Int)) (h0:h n=none) (hl:(bT h n (.row 1 ((l.map λs=>[ints s]).map (List.map .v)))).le h') {len:Nat} (e:len=l.length):Shift (.os n 1 0 len) h' (cI 1 (λs=>[ints s]) l) h :=
 lV (l.map λs=>[ints s]) h0 hl len (by rw[k5];exact e)
@[go_sem] def bQY:List Nat:=[7,19,23]
theorem aX9 (env:List (List Int)) (s:List Int) (hl:env.length<=1048576):dQ Tryz.prog 276 [cI 1 (λs=>[ints s]) env,ints s] (cI 1 (λs=>[ints s]) (env++[s])):=by
 refine tQ 25 aU6 bQY b9 Tryz.func276 λh=>?_
 simp -dsimp -implicitDefEqProofs only[go_sem,↓reduceIte,Tryz.f276]
 refine⟨cM,?_⟩
 refine cY aU6 bQY b9 (λx:Nat×Option Nat=>[(0,cI 1 (λs=>[ints s]) env),(1,ints s),(5,mX 1 (env.take x.1).length x.2),(6,I x.1)]) (λx=>c7 h (.row 1 (((env.take x.1).map λs=>[ints s]).map (List.map .v))) x.2) (λx=>x.1<=env.length/\k7 h (env.take x.1) x.2) (λx=>env.length-x.1) (0,none) ⟨by simp[dT,dB,mX],by simp only[aN];exact Heap.le_refl _,iZ _,by simp[k7]⟩ ?_
 rintro⟨k,o⟩ ⟨hk,hos⟩
 simp only at hk hos ⊢
 rcases cP k env.length with hlt|hge
 ·have ea:env[k]?=some env[k]:=b6 hlt
  have hy:env.take (k+1)=env.take k++[env[k]]:=kP hlt
  have hlk:(env.take k).length=k:=by rw[nX];omega
  cases o with
  |none =>
   rw[cZ]at hos
   rw[hos]at hy ⊢
   simp -dsimp -implicitDefEqProofs only[go_sem,↓reduceIte,Tryz.f276,dD,aN,hlt,ea]
   intro _
   repeat'(with_reducible first|intro _|refine And.intro ?_ ?_)
   all_goals try(first|omega|decide)
   rename_i b hb
   refine⟨(k+1,some b),?_⟩
   simp only[hy]
   refine⟨⟨rfl,?_⟩,Heap.le_refl _,⟨by omega,hb⟩,by omega⟩
   rw[IntWalk.i64_in _ aA];rfl
  |some n =>
   rw[b8]at hos
   simp -dsimp -implicitDefEqProofs only[go_sem,↓reduceIte,Tryz.f276,bZ,aL,hlt,ea]
   intro _
   repeat'(with_reducible first|intro _|refine And.intro ?_ ?_)
   all_goals try(first|omega|decide|exact fL _)
   rename_i b hb
   refine⟨(k+1,some b),?_⟩
   simp only[hy,aL,bZ,b8]
   refine⟨⟨by rw[rL];rfl,?_⟩,?_,⟨by omega,hb.2⟩,by omega⟩
   ·rw[IntWalk.i64_in _ aA];rfl
   ·rw[←iX];exact nP hos
 ·have hk':k=env.length:=by omega
  subst hk'
  rw[eL]at hos ⊢
  cases o with
  |none =>
   rw[cZ]at hos
   simp -dsimp -implicitDefEqProofs only[go_sem,↓reduceIte,Tryz.f276,dD,aN,cN,fP]
   subst hos
   exact λ_=>⟨cM,cM,cM,λn hn=>aN3 [s] hn (Heap.le_refl _) rfl⟩
  |some n =>
   rw[b8]at hos
   simp -dsimp -implicitDefEqProofs only[go_sem,↓reduceIte,Tryz.f276,bZ,aL,cN,fP]
   exact λ_=>⟨cM,cM,cM,fL _,by omega,by omega,λm hm=>aN3 (env++[s]) hm.2 (by rw[←iX];exact nP hos) (by rw[rL];rfl)⟩
def fJ (p:aK) (sz st:Nat) (c:Int):cF:=.row 4 [[.v (.ip 1 [p.c] 0 0),.v (I sz),.v (I st),.v (I c)]]
def RnQ (h:Heap) (nb:Nat) (p:aK) (sz st:Nat) (c:Int) (X:Out (List Int)):aC->Heap->Prop:=λr h'=>∃ s t c',r=ints s/\h'=bT h nb (fJ p sz t c')/\gO sz s/\st<=t/\t<=3000/\nS (wH c X) s t c'
def b6B (h:Heap) (nb:Nat) (p:aK) (sz st:Nat) (c:Int) (n:Nat) (X:Out (List (List Int))):aC->Heap->Prop:=λr h'=>∃ l t c',r=oL l/\h'=bT h nb (fJ p sz t c')/\l.length=n/\(∀ s∈l,gO sz s)/\st<=t/\t<=3000/\nS (wH c X) l t c'
@[go_sem] def bM1:List Nat:=[0,1,4,9]
theorem bBJ (h:Heap) (nb:Nat) (p:aK) (sz st:Nat) (c d:Int) (hb:h nb=some (fJ p sz st c)) (hsz:sz<=1048576):gK Tryz.prog 273 [.op nb 4 0 0,I d] h λr h'=>r=ints (xN 0 sz)/\h'=bT h nb (fJ p sz st (if c=0 then d else c)):=by
 have hb':=hb
 unfold fJ at hb'
 refine aTZ 19 bM1 cG b9 Tryz.func273 ?_
 simp -dsimp -implicitDefEqProofs only[go_sem,↓reduceIte,Tryz.f273,hb']
 refine⟨λhc=>?_,λhc=>?_⟩
 ·try simp -dsimp -implicitDefEqProofs only[go_sem,↓reduceIte,Tryz.f273]
  first|refine aH.mk (pB 0 sz hsz) ?_|refine aE.mk (pB 0 sz hsz) ?_|refine aH.b7 (pB 0 sz hsz) ?_|refine aE.mk (bX.eA (pB 0 sz hsz)) ?_
  simp -dsimp -implicitDefEqProofs only[go_sem,↓reduceIte,Tryz.f273]
  exact⟨_,by rw[if_pos hc];exact Heap.le_refl _,rfl⟩
 ·try simp -dsimp -implicitDefEqProofs only[go_sem,↓reduceIte,Tryz.f273,hb']
  first|refine aH.mk (pB 0 sz hsz) ?_|refine aE.mk (pB 0 sz hsz) ?_|refine aH.b7 (pB 0 sz hsz) ?_|refine aE.mk (bX.eA (pB 0 sz hsz)) ?_
  simp -dsimp -implicitDefEqProofs only[go_sem,↓reduceIte,Tryz.f273]
  refine⟨_,?_,rfl⟩
  rw[if_neg hc,aFB hb]
  exact Heap.le_refl _
@[go_sem] def r9:List Nat:=[0,1,2,6,7,8,9,14,25,38,39,50,59,70,82,99,119,142,151,160,169]
@[go_sem] def aD3:Marks:=λid=>match id with|8=>([7,8],(.op 0 (.op 1 (.op 2 (.op 3 (.op 4 (.op 5 (.op 6 (.op 7 (.op 8 (.op 9 .nil)))))))))),[])|19=>([8,9],(.op 0 (.op 1 (.op 2 (.op 3 (.op 4 (.op 5 (.op 6 (.op 7 (.op 8 (.op 9 (.op 10 .nil))))))))))),[])|_=>([],.nil,[])
def xA (p:aK) (sz n:Nat):Prop:=∀ (h:Heap) (nb st:Nat) (c:Int) (e:aB) (env:List (List Int)) (funcs:Int),h nb=some (fJ p sz st c)->st<=3000->3001<=n+st->e.ok p funcs env.length->0<=funcs->funcs<=p.aJ.length->(∀ s∈env,gO sz s)->env.length<=412+st ->
 gK Tryz.prog 262 [.op nb 4 0 0,.ip 5 [e.c] 0 0,oL env] h (RnQ h nb p sz st c (oU p sz n st e env))
theorem bT7 {l:List aB} {k:Nat} {x:aB} (h:l[k]?=some x) (i:Nat) (hi:i=k):Sub (.ip 5 (l.map aB.c) i 0) (.ip 5 [x.c] 0 0):=by
 subst hi
 exact Sub.ip (by rw[rM,h];rfl) aS
theorem xA.at {p:aK} {sz n:Nat} (hv:xA p sz n) {l:List aB} {i:Nat} {e:aB} (hi:l[i]?=some e) (h:Heap) (nb st:Nat) (c:Int) (env:List (List Int)) (funcs:Int) (hb:h nb=some (fJ p sz st c)) (hst:st<=3000) (hn:3001<=n+st) (hok:e.ok p funcs env.length) (gJ:0<=funcs) (hf:funcs<=p.aJ.length) (henv:∀ s∈env,gO sz s) (hel:env.length<=412+st) :
  gK Tryz.prog 262 [.op nb 4 0 0,.ip 5 (l.map aB.c) i 0,oL env] h (RnQ h nb p sz st c (oU p sz n st e env)) :=
 gK.sub (.cons (.refl _) (.cons (bT7 hi _ rfl) (.cons (.refl _) .nil))) (hv h nb st c e env funcs hb hst hn hok gJ hf henv hel)
theorem aYA {p:aK} {sz n:Nat} (hv:xA p sz n) (h:Heap) (nb st:Nat) (c:Int) (f:aX) (env:List (List Int)) (funcs:Int) (hb:h nb=some (fJ p sz st c)) (hst:st<=3000) (hn:3001<=n+st)
  (hl:f.bB.length<=1048576) (hok:∀ e∈f.bB,e.ok p funcs env.length) (gJ:0<=funcs) (hf:funcs<=p.aJ.length) (henv:∀ s∈env,gO sz s) (hel:env.length<=412+st) :
  gK Tryz.prog 248 [.op nb 4 0 0,.ip 3 [f.c] 0 0,oL env] h (b6B h nb p sz st c f.bB.length (vQ (λt e=>oU p sz n t e env) f.bB st)):=by
 rw[aX.aM]
 refine lW 32 bAC bAD b9 Tryz.func248 ?_
 simp -dsimp -implicitDefEqProofs only[go_sem,↓reduceIte,Tryz.f248]
 refine⟨cM,?_⟩
 refine cY bAC bAD b9 (λx:Nat×List (List Int)×Nat×Int×Option Nat=>[(0,.op nb 4 0 0),(1,.ip 3 [[.str f.fT,I f.bV,cI 5 aB.c f.bB]] 0 0),(2,oL env),(7,mX 1 x.2.1.length x.2.2.2.2),(8,I x.1)]) (λx=>c7 (bT h nb (fJ p sz x.2.2.1 x.2.2.2.1)) (.row 1 ((x.2.1.map λs=>[ints s]).map (List.map .v))) x.2.2.2.2) (λx=>x.1<=f.bB.length/\x.2.1.length=x.1/\(∀ s∈x.2.1,gO sz s)/\st<=x.2.2.1/\x.2.2.1<=3000/\nS (wH c (vQ (λt e=>oU p sz n t e env) (f.bB.take x.1) st)) x.2.1 x.2.2.1 x.2.2.2.1/\k7 h x.2.1 x.2.2.2.2) (λx=>f.bB.length-x.1) (0,[],st,c,none) ⟨by simp[dT,dB,mX],by simp only[aN];rw[aFB hb];exact Heap.le_refl _,iZ _,rfl,by simp,fL _,hst,kN _ _ _,rfl⟩ ?_
 rintro⟨k,vs,t,c',o⟩ ⟨hk,hvl,hvs,ht0,ht,ho,hos⟩
 simp only at hk hvl hvs ht0 ht ho hos ⊢
 rcases cP k f.bB.length with hlt|hge
 ·have ek:f.bB[k]?=some f.bB[k]:=b6 hlt
  have hnext:∀ (s:List Int) (t2:Nat) (c2:Int),nS (wH c' (oU p sz n t f.bB[k] env)) s t2 c2->nS (wH c (vQ (λt e=>oU p sz n t e env) (f.bB.take (k+1)) st)) (vs++[s]) t2 c2:=λs t2 c2 h3=>by
   rw[kP hlt,aGD]
   exact ho.gY (h3.gY (kN _ _ _))
  have hall:∀ s,gO sz s->∀ x∈vs++[s],gO sz x:=λs hs=>aDO hvs hs
  cases o with
  |none =>
   rw[cZ]at hos
   subst hos
   simp -dsimp -implicitDefEqProofs only[go_sem,↓reduceIte,Tryz.f248,dD,aN,hlt,ek]
   intro _
   refine aH.kF (hv.at ek (bT h nb (fJ p sz t c')) nb t c' env funcs (bG _ _ _) ht aA (hok _ (dG _)) gJ hf henv aA) ?_
   rintro r h' ⟨s,t2,c2,rfl,rfl,hs,h1,h2,h3⟩
   simp -dsimp -implicitDefEqProofs only[go_sem,↓reduceIte,Tryz.f248]
   refine⟨cM,cM,cM,?_⟩
   intro b q_b
   obtain⟨p9,kV,kU,pS⟩:=cE (show ¬b=nb from iS q_b)
   have z_b:h b=none:=iS q_b
   refine⟨(k+1,[s],t2,c2,some b),⟨rfl,by rw[IntWalk.i64_in _ aA];rfl⟩,(jM (by repeat'(first|exact gN _ _|refine jN bFK ?_|refine fS oZ ?_))),⟨by omega,by simp only[al3]at hvl;subst hvl;rfl,λx hx=>hall s hs x hx,aWE ht0 h1,h2,hnext s t2 c2 h3,z_b⟩,by simp only;omega⟩
  |some m =>
   rw[b8]at hos
   obtain⟨mM,fC,e8,kK⟩:=cE (show ¬m=nb from λe=>by rw[e,hb]at hos;cases hos)
   simp -dsimp -implicitDefEqProofs only[go_sem,↓reduceIte,Tryz.f248,bZ,aL,hlt,ek]
   intro _
   refine aH.kF (hv.at ek (bT (bT h nb (fJ p sz t c')) m (.row 1 ((vs.map λs=>[ints s]).map (List.map .v)))) nb t c' env funcs a9B ht aA (hok _ (dG _)) gJ hf henv aA) ?_
   rintro r h' ⟨s,t2,c2,rfl,rfl,hs,h1,h2,h3⟩
   simp -dsimp -implicitDefEqProofs only[go_sem,↓reduceIte,Tryz.f248,aD,fC,e8]
   refine⟨cM,cM,cM,fL _,by omega,by omega,?_⟩
   intro b q_b
   obtain⟨p9,kV,kU,pS⟩:=cE (show ¬b=nb from iS q_b)
   obtain⟨aN4,xQ,xR,aN5⟩:=cE (show ¬b=m from iS q_b)
   have z_b:h b=none:=iS q_b
   refine⟨(k+1,vs++[s],t2,c2,some b),⟨by rw[bZ,rL];rfl,by rw[IntWalk.i64_in _ aA];rfl⟩,?_,⟨by omega,by rw[rL,hvl];rfl,hall s hs,aWE ht0 h1,h2,hnext s t2 c2 h3,z_b⟩,by simp only;omega⟩
   simp only[aL]
   rw[←iX ints]
   exact(jM (by repeat'(first|exact gN _ _|refine jN bFJ ?_|refine fS oZ ?_)))
 ·have hk':k=f.bB.length:=by omega
  subst hk'
  rw[eL]at ho
  cases o with
  |none =>
   rw[cZ]at hos
   subst hos
   simp -dsimp -implicitDefEqProofs only[go_sem,↓reduceIte,Tryz.f248,dD,aN,cN,fP]
   intro _
   exact⟨oL [],_,Shift.of (Sub.loose _ _ _) (Heap.le_refl _),[],t,c',rfl,rfl,hvl,hvs,ht0,ht,ho⟩
  |some m =>
   rw[b8]at hos
   simp -dsimp -implicitDefEqProofs only[go_sem,↓reduceIte,Tryz.f248,bZ,aL,cN,fP]
   intro _
   have hmn:¬m=nb:=λe=>by rw[e,hb]at hos;cases hos
   exact⟨oL vs,_,lV (vs.map λs=>[ints s]) (h:=bT h nb (fJ p sz t c')) (by rw[aD _ _ _ _ hmn,hos]) (Heap.le_refl _) _ (by rw[k5]),vs,t,c',rfl,rfl,hvl,hvs,ht0,ht,ho⟩
theorem bM2 {p:aK} (hp:p.ok) {sz n:Nat} (hv:xA p sz n) (h:Heap) (nb st:Nat) (e:aB) (env:List (List Int)) (funcs:Int) (hb:h nb=some (fJ p sz st 0)) (hst:st<=3000) (hn:3001<=n+st) (hok:e.ok p funcs env.length) (gJ:0<=funcs) (hf:funcs<=p.aJ.length) (henv:∀ s∈env,gO sz s) (hel:env.length<=412+st) (hk:e.bH=10) :
  gK Tryz.prog 277 [.op nb 4 0 0,.ip 5 [e.c] 0 0,oL env] h (RnQ h nb p sz st 0 ((vQ (λt e=>oU p sz n t e env) e.aO st).andThen λvs t=>oU p sz n t (p.out e.cC e.dO) vs)):=by
 obtain⟨f,F⟩:=yG hp hok hf (.inl hk)
 have f1:=F.lo
 have f2:=F.hi
 have f3:=F.pk
 have f4:=F.pk2
 have f5:=F.kids
 have f6:=F.params
 have f8:=F.outs
 have f9:=F.loop
 have hkok:=iL hok aA
 rw[aB.aM]
 refine lW 81 aNS aNT aNU Tryz.func277 ?_
 simp -dsimp -implicitDefEqProofs only[go_sem,↓reduceIte,Tryz.f277]
 refine⟨cM,?_⟩
 refine cY aNS aNT aNU (λx:Nat×List (List Int)×Nat×Int×Option Nat=>[(0,.op nb 4 0 0),(1,.ip 5 [[I e.bH,I e.cC,I e.dO,I e.dF,cI 5 aB.c e.aO]] 0 0),(2,oL env),(7,mX 1 x.2.1.length x.2.2.2.2),(8,I x.1)]) (λx=>c7 (bT h nb (fJ p sz x.2.2.1 x.2.2.2.1)) (.row 1 ((x.2.1.map λs=>[ints s]).map (List.map .v))) x.2.2.2.2) (λx=>x.1<=e.aO.length/\x.2.1.length=x.1/\(∀ s∈x.2.1,gO sz s)/\st<=x.2.2.1/\x.2.2.1<=3000/\nS (wH 0 (vQ (λt e=>oU p sz n t e env) (e.aO.take x.1) st)) x.2.1 x.2.2.1 x.2.2.2.1/\k7 h x.2.1 x.2.2.2.2) (λx=>e.aO.length-x.1) (0,[],st,0,none) ⟨by simp[dT,dB,mX],by simp only[aN];rw[aFB hb];exact Heap.le_refl _,iZ _,rfl,by simp,fL _,hst,kN _ _ _,rfl⟩ ?_
 rintro⟨k,vs,t,c',o⟩ ⟨hk2,hvl,hvs,ht0,ht,ho,hos⟩
 simp only at hk2 hvl hvs ht0 ht ho hos ⊢
 rcases cP k e.aO.length with hlt|hge
 ·have ek:e.aO[k]?=some e.aO[k]:=b6 hlt
  have hnext:∀ (s:List Int) (t2:Nat) (c2:Int),nS (wH c' (oU p sz n t e.aO[k] env)) s t2 c2->nS (wH 0 (vQ (λt e=>oU p sz n t e env) (e.aO.take (k+1)) st)) (vs++[s]) t2 c2:=λs t2 c2 h3=>by
   rw[kP hlt,aGD]
   exact ho.gY (h3.gY (kN _ _ _))
  have hall:∀ s,gO sz s->∀ x∈vs++[s],gO sz x:=λs hs=>aDO hvs hs
  cases o with
  |none =>
   rw[cZ]at hos
   subst hos
   simp -dsimp -implicitDefEqProofs only[go_sem,↓reduceIte,Tryz.f277,dD,aN,hlt,ek]
   intro _
   refine aH.kF (hv.at ek (bT h nb (fJ p sz t c')) nb t c' env funcs (bG _ _ _) ht aA (hkok _ (dG _)) gJ hf henv aA) ?_
   rintro r h' ⟨s,t2,c2,rfl,rfl,hs,h1,h2,h3⟩
   simp -dsimp -implicitDefEqProofs only[go_sem,↓reduceIte,Tryz.f277]
   refine⟨cM,cM,cM,?_⟩
   intro b q_b
   obtain⟨p9,kV,kU,pS⟩:=cE (show ¬b=nb from iS q_b)
   have z_b:h b=none:=iS q_b
   refine⟨(k+1,[s],t2,c2,some b),⟨rfl,by rw[IntWalk.i64_in _ aA];rfl⟩,(jM (by repeat'(first|exact gN _ _|refine jN bFK ?_|refine fS oZ ?_))),⟨by omega,by simp only[al3]at hvl;subst hvl;rfl,λx hx=>hall s hs x hx,aWE ht0 h1,h2,hnext s t2 c2 h3,z_b⟩,by simp only;omega⟩
  |some m =>
   rw[b8]at hos
   obtain⟨mM,fC,e8,kK⟩:=cE (show ¬m=nb from λe=>by rw[e,hb]at hos;cases hos)
   simp -dsimp -implicitDefEqProofs only[go_sem,↓reduceIte,Tryz.f277,bZ,aL,hlt,ek]
   intro _
   refine aH.kF (hv.at ek (bT (bT h nb (fJ p sz t c')) m (.row 1 ((vs.map λs=>[ints s]).map (List.map .v)))) nb t c' env funcs a9B ht aA (hkok _ (dG _)) gJ hf henv aA) ?_
   rintro r h' ⟨s,t2,c2,rfl,rfl,hs,h1,h2,h3⟩
   simp -dsimp -implicitDefEqProofs only[go_sem,↓reduceIte,Tryz.f277,aD,fC,e8]
   refine⟨cM,cM,cM,fL _,by omega,by omega,?_⟩
   intro b q_b
   obtain⟨p9,kV,kU,pS⟩:=cE (show ¬b=nb from iS q_b)
   obtain⟨aN4,xQ,xR,aN5⟩:=cE (show ¬b=m from iS q_b)
   have z_b:h b=none:=iS q_b
   refine⟨(k+1,vs++[s],t2,c2,some b),⟨by rw[bZ,rL];rfl,by rw[IntWalk.i64_in _ aA];rfl⟩,?_,⟨by omega,by rw[rL,hvl];rfl,hall s hs,aWE ht0 h1,h2,hnext s t2 c2 h3,z_b⟩,by simp only;omega⟩
   simp only[aL]
   rw[←iX ints]
   exact(jM (by repeat'(first|exact gN _ _|refine jN bFJ ?_|refine fS oZ ?_)))
 have hk':k=e.aO.length:=by omega
 subst hk'
 rw[eL]at ho
 have gp:vs[e.dO.toNat]?=some (vs.getD e.dO.toNat [])∨e.bH=10:=by
  by_cases h10:e.bH=10
  ·exact .inr h10
  ·exact .inl (aO6 (by have:=f9 aA;omega))
 cases o with
 |none =>
  rw[cZ]at hos
  subst hos
  simp -dsimp -implicitDefEqProofs only[go_sem,↓reduceIte,Tryz.f277,dD,aN,cN,fP,fJ,hk,F.get,F.out,aX.aM,aK.aM]
  intro _
  refine⟨f1,f2,f3,by omega,?_⟩
  refine aH.kF (gK.sub (.cons (.refl _) (.cons (.refl _) (.cons (Sub.loose _ _ _) .nil))) (hv.at F.out (bT h nb (fJ p sz t c')) nb t c' [] e.cC (bG _ _ _) ht aA a81 f1 aA aS aS)) ?_
  rintro r h' ⟨s,t2,c2,rfl,rfl,hs,b1,b2,b3⟩
  simp -dsimp -implicitDefEqProofs only[go_sem,↓reduceIte,Tryz.f277]
  refine⟨_,bT h nb (fJ p sz t2 c2),eD aP7,s,t2,c2,rfl,rfl,hs,by omega,b2,?_⟩
  exact ho.gY b3
 |some m =>
  rw[b8]at hos
  obtain⟨mM,fC,e8,kK⟩:=cE (show ¬m=nb from λe=>by rw[e,hb]at hos;cases hos)
  simp -dsimp -implicitDefEqProofs only[go_sem,↓reduceIte,Tryz.f277,bZ,aL,cN,fP,fJ,aD,fC,e8,hk,F.get,F.out,aX.aM,aK.aM]
  intro _
  refine⟨f1,f2,f3,by omega,?_⟩
  refine aH.aN2 rfl rfl kK (by rw[k5]) (by rw[aD _ _ _ _ mM];exact hos) ?_
  refine gK.mono (hv.at F.out (bT (bT h nb (fJ p sz t c')) m .gone) nb t c' vs e.cC a9B ht aA a81 f1 aA hvs aA) ?_
  rintro r h' ⟨s,t2,c2,rfl,rfl,hs,b1,b2,b3⟩
  simp -dsimp -implicitDefEqProofs only[go_sem,↓reduceIte,Tryz.f277]
  refine⟨_,bT h nb (fJ p sz t2 c2),eD (jM (by repeat'(first|exact gN _ _|refine jN (by simp only[fN,↓reduceIte,eq_self,if_true,e8,fC]) ?_|refine fS oZ ?_))),s,t2,c2,rfl,rfl,hs,by omega,b2,?_⟩
  exact ho.gY b3
theorem bM3 {p:aK} (hp:p.ok) {sz n:Nat} (hv:xA p sz n) (h:Heap) (nb st:Nat) (e:aB) (env:List (List Int)) (funcs:Int) (hb:h nb=some (fJ p sz st 0)) (hst:st<=3000) (hn:3001<=n+st) (hok:e.ok p funcs env.length) (gJ:0<=funcs) (hf:funcs<=p.aJ.length) (henv:∀ s∈env,gO sz s) (hel:env.length<=412+st) (hk:e.bH=11) :
  gK Tryz.prog 277 [.op nb 4 0 0,.ip 5 [e.c] 0 0,oL env] h (RnQ h nb p sz st 0 ((vQ (λt e=>oU p sz n t e env) e.aO st).andThen λvs t=>(aFO (λvs t=>vQ (λt e=>oU p sz n t e vs) (p.outs e.cC) t) e.dF.toNat vs t).andThen λvs t=>.ok (vs.getD e.dO.toNat [],t))):=by
 obtain⟨f,F⟩:=yG hp hok hf (.inr hk)
 have f1:=F.lo
 have f2:=F.hi
 have f3:=F.pk
 have f4:=F.pk2
 have f5:=F.kids
 have f6:=F.params
 have f8:=F.outs
 have f9:=F.loop
 have hkok:=iL hok aA
 rw[aB.aM]
 refine lW 81 aNS aNT aNU Tryz.func277 ?_
 simp -dsimp -implicitDefEqProofs only[go_sem,↓reduceIte,Tryz.f277]
 refine⟨cM,?_⟩
 refine cY aNS aNT aNU (λx:Nat×List (List Int)×Nat×Int×Option Nat=>[(0,.op nb 4 0 0),(1,.ip 5 [[I e.bH,I e.cC,I e.dO,I e.dF,cI 5 aB.c e.aO]] 0 0),(2,oL env),(7,mX 1 x.2.1.length x.2.2.2.2),(8,I x.1)]) (λx=>c7 (bT h nb (fJ p sz x.2.2.1 x.2.2.2.1)) (.row 1 ((x.2.1.map λs=>[ints s]).map (List.map .v))) x.2.2.2.2) (λx=>x.1<=e.aO.length/\x.2.1.length=x.1/\(∀ s∈x.2.1,gO sz s)/\st<=x.2.2.1/\x.2.2.1<=3000/\nS (wH 0 (vQ (λt e=>oU p sz n t e env) (e.aO.take x.1) st)) x.2.1 x.2.2.1 x.2.2.2.1/\k7 h x.2.1 x.2.2.2.2) (λx=>e.aO.length-x.1) (0,[],st,0,none) ⟨by simp[dT,dB,mX],by simp only[aN];rw[aFB hb];exact Heap.le_refl _,iZ _,rfl,by simp,fL _,hst,kN _ _ _,rfl⟩ ?_
 rintro⟨k,vs,t,c',o⟩ ⟨hk2,hvl,hvs,ht0,ht,ho,hos⟩
 simp only at hk2 hvl hvs ht0 ht ho hos ⊢
 rcases cP k e.aO.length with hlt|hge
 ·have ek:e.aO[k]?=some e.aO[k]:=b6 hlt
  have hnext:∀ (s:List Int) (t2:Nat) (c2:Int),nS (wH c' (oU p sz n t e.aO[k] env)) s t2 c2->nS (wH 0 (vQ (λt e=>oU p sz n t e env) (e.aO.take (k+1)) st)) (vs++[s]) t2 c2:=λs t2 c2 h3=>by
   rw[kP hlt,aGD]
   exact ho.gY (h3.gY (kN _ _ _))
  have hall:∀ s,gO sz s->∀ x∈vs++[s],gO sz x:=λs hs=>aDO hvs hs
  cases o with
  |none =>
   rw[cZ]at hos
   subst hos
   simp -dsimp -implicitDefEqProofs only[go_sem,↓reduceIte,Tryz.f277,dD,aN,hlt,ek]
   intro _
   refine aH.kF (hv.at ek (bT h nb (fJ p sz t c')) nb t c' env funcs (bG _ _ _) ht aA (hkok _ (dG _)) gJ hf henv aA) ?_
   rintro r h' ⟨s,t2,c2,rfl,rfl,hs,h1,h2,h3⟩
   simp -dsimp -implicitDefEqProofs only[go_sem,↓reduceIte,Tryz.f277]
   refine⟨cM,cM,cM,?_⟩
   intro b q_b
   obtain⟨p9,kV,kU,pS⟩:=cE (show ¬b=nb from iS q_b)
   have z_b:h b=none:=iS q_b
   refine⟨(k+1,[s],t2,c2,some b),⟨rfl,by rw[IntWalk.i64_in _ aA];rfl⟩,(jM (by repeat'(first|exact gN _ _|refine jN bFK ?_|refine fS oZ ?_))),⟨by omega,by simp only[al3]at hvl;subst hvl;rfl,λx hx=>hall s hs x hx,aWE ht0 h1,h2,hnext s t2 c2 h3,z_b⟩,by simp only;omega⟩
  |some m =>
   rw[b8]at hos
   obtain⟨mM,fC,e8,kK⟩:=cE (show ¬m=nb from λe=>by rw[e,hb]at hos;cases hos)
   simp -dsimp -implicitDefEqProofs only[go_sem,↓reduceIte,Tryz.f277,bZ,aL,hlt,ek]
   intro _
   refine aH.kF (hv.at ek (bT (bT h nb (fJ p sz t c')) m (.row 1 ((vs.map λs=>[ints s]).map (List.map .v)))) nb t c' env funcs a9B ht aA (hkok _ (dG _)) gJ hf henv aA) ?_
   rintro r h' ⟨s,t2,c2,rfl,rfl,hs,h1,h2,h3⟩
   simp -dsimp -implicitDefEqProofs only[go_sem,↓reduceIte,Tryz.f277,aD,fC,e8]
   refine⟨cM,cM,cM,fL _,by omega,by omega,?_⟩
   intro b q_b
   obtain⟨p9,kV,kU,pS⟩:=cE (show ¬b=nb from iS q_b)
   obtain⟨aN4,xQ,xR,aN5⟩:=cE (show ¬b=m from iS q_b)
   have z_b:h b=none:=iS q_b
   refine⟨(k+1,vs++[s],t2,c2,some b),⟨by rw[bZ,rL];rfl,by rw[IntWalk.i64_in _ aA];rfl⟩,?_,⟨by omega,by rw[rL,hvl];rfl,hall s hs,aWE ht0 h1,h2,hnext s t2 c2 h3,z_b⟩,by simp only;omega⟩
   simp only[aL]
   rw[←iX ints]
   exact(jM (by repeat'(first|exact gN _ _|refine jN bFJ ?_|refine fS oZ ?_)))
 have hk':k=e.aO.length:=by omega
 subst hk'
 rw[eL]at ho
 have gp:vs[e.dO.toNat]?=some (vs.getD e.dO.toNat [])∨e.bH=10:=by
  by_cases h10:e.bH=10
  ·exact .inr h10
  ·exact .inl (aO6 (by have:=f9 aA;omega))
 have gp':vs[e.dO.toNat]?=some (vs.getD e.dO.toNat []):=gp.resolve_right aA
 have g9:=f9 hk
 cases o with
 |none =>
  exfalso
  rw[cZ]at hos
  rw[hos]at hvl
  simp at hvl
  omega
 |some m =>
  rw[b8]at hos
  obtain⟨mM,fC,e8,kK⟩:=cE (show ¬m=nb from λe=>by rw[e,hb]at hos;cases hos)
  simp -dsimp -implicitDefEqProofs only[go_sem,↓reduceIte,Tryz.f277,bZ,aL,cN,fP,fJ,aD,fC,e8,hk,F.get,F.out,aX.aM,aK.aM]
  intro _
  refine⟨f1,f2,?_⟩
  refine aLU.a2B m (by rw[aD _ _ _ _ mM];exact hos) (by simp[lJ,fC,e8]) ?_
  refine cY aNS aNT aNU (λx:Nat×List (List Int)×Nat×Int=>[(0,.op nb 4 0 0),(1,.ip 5 [[I 11,I e.cC,I e.dO,I e.dF,cI 5 aB.c e.aO]] 0 0),(7,oL x.2.1),(9,.ip 3 (p.aJ.map aX.c) e.cC.toNat 0),(10,I x.1)]) (λx=>bT h nb (fJ p sz x.2.2.1 x.2.2.2)) (λx=>x.1<=e.dF.toNat/\x.2.1.length=f.bB.length/\(∀ s∈x.2.1,gO sz s)/\t<=x.2.2.1/\x.2.2.1<=3000/\nS (wH c' (aFO (λvs t=>vQ (λt e=>oU p sz n t e vs) (p.outs e.cC) t) x.1 vs t)) x.2.1 x.2.2.1 x.2.2.2) (λx=>e.dF.toNat-x.1) (0,vs,t,c') ⟨by simp[dT,dB,aC.gU,fC,e8,gF],(jM (by repeat'(first|exact gN _ _|refine jN (by simp only[fN,↓reduceIte,eq_self,if_true,fC,e8,fJ,aK.aM]) ?_|refine fS oZ ?_))),iZ _,by simp only;omega,hvs,fL _,ht,kN _ _ _⟩ ?_
  rintro⟨k,us,u,d⟩ ⟨hk1,hul,hus,ht1,ht2,hd⟩
  simp only at hk1 hul hus ht1 ht2 hd ⊢
  have gu:us[e.dO.toNat]?=some (us.getD e.dO.toNat []):=aO6 aA
  simp -dsimp -implicitDefEqProofs only[go_sem,↓reduceIte,Tryz.f277,fJ,gu]
  refine⟨λhlt=>?_,λhge=>?_⟩
  ·refine aH.kF (gK.sub (.cons (.refl _) (.cons (Sub.ip (by rw[rM,F.get];rfl) (by simp[aX.aM])) (.cons (.refl _) .nil))) (aYA hv (bT h nb (fJ p sz u d)) nb u d f us e.cC (bG _ _ _) ht2 aA aA (by rw[hul,g9.2.2];exact F.oks) f1 aA hus aA)) ?_
   rintro r h' ⟨l2,t2,c2,rfl,rfl,hl2,rO,b1,b2,b3⟩
   simp -dsimp -implicitDefEqProofs only[go_sem,↓reduceIte,Tryz.f277]
   refine⟨(k+1,l2,t2,c2),⟨rfl,by rw[IntWalk.i64_in _ aA];rfl⟩,by simp only[aF];exact Heap.le_refl _,⟨by omega,hl2,rO,by simp only;omega,b2,?_⟩,by simp only;omega⟩
   simp only
   rw[aSA]
   refine hd.gY ?_
   rw[F.eq]
   exact b3
  ·have hke:k=e.dF.toNat:=by omega
   refine⟨f3,by omega,_,_,cR _ _,us.getD e.dO.toNat [],u,d,rfl,rfl,aVM hus aA,by omega,ht2,?_⟩
   refine ho.gY ?_
   rw[←hke]
   exact hd.gY (kN _ _ _)
theorem bDY {p:aK} {sz n:Nat} (hsz:1<=sz/\sz<=1048576) (h:Heap) (nb st:Nat) (c:Int) (e:aB) (env:List (List Int)) (hb:h nb=some (fJ p sz st c)) (hst:st<=3000) (hs:¬c=0∨st=3000) :
  gK Tryz.prog 262 [.op nb 4 0 0,.ip 5 [e.c] 0 0,oL env] h (RnQ h nb p sz st c (oU p sz (n+1) st e env)):=by
 rw[aB.aM]
 have hb':=hb
 unfold fJ at hb'
 refine lW 186 r9 cG aD3 Tryz.func262 ?_
 simp -dsimp -implicitDefEqProofs only[go_sem,↓reduceIte,Tryz.f262,hb']
 refine⟨λhc=>?_,λhc=>?_⟩
 ·have hc':¬c=0:=by simpa using hc
  refine aH.kF (bBJ h nb p sz st c c hb hsz.2) ?_
  rintro r h' ⟨rfl,rfl⟩
  simp -dsimp -implicitDefEqProofs only[go_sem,↓reduceIte,Tryz.f262]
  refine⟨_,_,cR _ _,_,st,c,rfl,by rw[if_neg hc'],w7 aKT,fL _,hst,by rw[aAA _ hc'];exact rT _ _ hc'⟩
 ·have hc0:c=0:=by simpa using hc
  subst hc0
  have h3:st=3000:=by rcases hs with hs|hs;exact absurd rfl hs;exact hs
  subst h3
  try simp -dsimp -implicitDefEqProofs only[go_sem,↓reduceIte,Tryz.f262,hb']
  refine⟨λ_=>?_,λq=>absurd q aS⟩
  refine aH.kF (bBJ h nb p sz 3000 0 7 hb hsz.2) ?_
  rintro r h' ⟨rfl,rfl⟩
  simp -dsimp -implicitDefEqProofs only[go_sem,↓reduceIte,Tryz.f262]
  refine⟨_,_,cR _ _,_,3000,7,rfl,rfl,w7 aKT,fL _,hst,?_⟩
  rw[gD,oU,if_pos rfl]
  exact rT _ _ dH
theorem bT8 {p:aK} (hp:p.ok) {sz n:Nat} (hsz:1<=sz/\sz<=1048576) (hv:xA p sz n) (h:Heap) (nb st:Nat) (e:aB) (env:List (List Int)) (funcs:Int) (hb:h nb=some (fJ p sz st 0)) (hst:st<3000) (hn:3001<=n+1+st)
  (hok:e.ok p funcs env.length) (gJ:0<=funcs) (hf:funcs<=p.aJ.length) (henv:∀ s∈env,gO sz s) (hel:env.length<=412+st) (hk:e.bH=1) :
  gK Tryz.prog 262 [.op nb 4 0 0,.ip 5 [e.c] 0 0,oL env] h (RnQ h nb p sz st 0 (oU p sz (n+1) st e env)):=by
 have hb':=hb
 unfold fJ at hb'
 have e3:((st:Int)=3000)=False:=eq_false aA
 have ew:IntKind.i64.wrap ((st:Int)+1)=((st+1:Nat):Int):=by rw[IntWalk.i64_in _ aA];rfl
 have hnode:=(aB.fG _ _ _ _).1 hok
 have h3:¬st=3000:=by omega
 have hnum:nJ e.cC:=((gW aA).1 hnode.1).2.2.2.1 hk
 rw[aB.aM]
 refine lW 186 r9 cG aD3 Tryz.func262 ?_
 simp -dsimp -implicitDefEqProofs only[go_sem,↓reduceIte,Tryz.f262,hb',e3,ew,hk]
 first|refine aH.mk (pB e.cC sz hsz.2) ?_|refine aE.mk (pB e.cC sz hsz.2) ?_|refine aH.b7 (pB e.cC sz hsz.2) ?_|refine aE.mk (bX.eA (pB e.cC sz hsz.2)) ?_
 simp -dsimp -implicitDefEqProofs only[go_sem,↓reduceIte,Tryz.f262]
 refine⟨_,_,cR _ _,_,st+1,0,rfl,rfl,w7 hnum,mF _,hst,?_⟩
 rw[gD,bQS h3 hk]
 exact yF _ _
theorem bT9 {p:aK} (hp:p.ok) {sz n:Nat} (hsz:1<=sz/\sz<=1048576) (hv:xA p sz n) (h:Heap) (nb st:Nat) (e:aB) (env:List (List Int)) (funcs:Int) (hb:h nb=some (fJ p sz st 0)) (hst:st<3000) (hn:3001<=n+1+st)
  (hok:e.ok p funcs env.length) (gJ:0<=funcs) (hf:funcs<=p.aJ.length) (henv:∀ s∈env,gO sz s) (hel:env.length<=412+st) (hk:e.bH=2) :
  gK Tryz.prog 262 [.op nb 4 0 0,.ip 5 [e.c] 0 0,oL env] h (RnQ h nb p sz st 0 (oU p sz (n+1) st e env)):=by
 have hb':=hb
 unfold fJ at hb'
 have e3:((st:Int)=3000)=False:=eq_false aA
 have ew:IntKind.i64.wrap ((st:Int)+1)=((st+1:Nat):Int):=by rw[IntWalk.i64_in _ aA];rfl
 have hnode:=(aB.fG _ _ _ _).1 hok
 have h3:¬st=3000:=by omega
 have hnum:=((gW aA).1 hnode.1).2.2.2.2.1 hk
 have hlt:e.cC.toNat<env.length:=by omega
 rw[aB.aM]
 refine lW 186 r9 cG aD3 Tryz.func262 ?_
 simp -dsimp -implicitDefEqProofs only[go_sem,↓reduceIte,Tryz.f262,hb',e3,ew,hk,aO6 hlt]
 refine⟨hnum.1,by omega,_,_,cR _ _,_,st+1,0,rfl,rfl,aVM henv hlt,mF _,hst,?_⟩
 rw[gD,bQT h3 hk]
 exact yF _ _
theorem bUA {p:aK} (hp:p.ok) {sz n:Nat} (hsz:1<=sz/\sz<=1048576) (hv:xA p sz n) (h:Heap) (nb st:Nat) (e:aB) (env:List (List Int)) (funcs:Int) (hb:h nb=some (fJ p sz st 0)) (hst:st<3000) (hn:3001<=n+1+st)
  (hok:e.ok p funcs env.length) (gJ:0<=funcs) (hf:funcs<=p.aJ.length) (henv:∀ s∈env,gO sz s) (hel:env.length<=412+st) (hk:e.bH=8) :
  gK Tryz.prog 262 [.op nb 4 0 0,.ip 5 [e.c] 0 0,oL env] h (RnQ h nb p sz st 0 (oU p sz (n+1) st e env)):=by
 have hb':=hb
 unfold fJ at hb'
 have e3:((st:Int)=3000)=False:=eq_false aA
 have ew:IntKind.i64.wrap ((st:Int)+1)=((st+1:Nat):Int):=by rw[IntWalk.i64_in _ aA];rfl
 have hnode:=(aB.fG _ _ _ _).1 hok
 have h3:¬st=3000:=by omega
 have hlen:=gE hok aA
 rw[hk,show jH 8=3 from rfl]at hlen
 have g0:e.aO[Int.toNat 0]?=some (e.rW 0):=aB.kI aA
 have g1:e.aO[Int.toNat 1]?=some (e.rW 1):=aB.kI aA
 have g2:e.aO[Int.toNat 2]?=some (e.rW 2):=aB.kI aA
 have o0:=aB.jS hok (i:=0) aA
 have o1:=aB.jS hok (i:=1) aA
 have o2:=aB.jS hok (i:=2) aA
 rw[mA aA]at o0 o1 o2
 rw[aB.aM]
 refine lW 186 r9 cG aD3 Tryz.func262 ?_
 simp -dsimp -implicitDefEqProofs only[go_sem,↓reduceIte,Tryz.f262,hb',e3,ew,hk,g0]
 refine⟨by omega,?_⟩
 refine aH.kF (hv.at g0 (bT h nb (fJ p sz (st+1) 0)) nb (st+1) 0 env funcs (bG _ _ _) aA aA o0 gJ hf henv aA) ?_
 rintro r h' ⟨s1,t1,c1,rfl,rfl,rH,a1,a2,a3⟩
 have gs:s1[Int.toNat 0]?=some (s1.getD 0 0):=fU uW
 simp -dsimp -implicitDefEqProofs only[go_sem,↓reduceIte,Tryz.f262,gs,g1,g2]
 refine⟨by rw[rH.1];omega,λhz=>⟨by omega,?_⟩,λhz=>⟨by omega,?_⟩⟩
 ·rw[aF]
  refine aH.kF (hv.at g1 (bT h nb (fJ p sz t1 c1)) nb t1 c1 env funcs (bG _ _ _) aA aA o1 gJ hf henv aA) ?_
  rintro r h' ⟨s2,t2,c2,rfl,rfl,rO,b1,b2,b3⟩
  simp -dsimp -implicitDefEqProofs only[go_sem,↓reduceIte,Tryz.f262]
  refine⟨_,_,cR _ _,s2,t2,c2,rfl,by rw[aF],rO,by omega,b2,?_⟩
  rw[bH7 h3 hk]
  refine a3.gY ?_
  rw[if_pos hz]
  exact b3
 ·rw[aF]
  refine aH.kF (hv.at g2 (bT h nb (fJ p sz t1 c1)) nb t1 c1 env funcs (bG _ _ _) aA aA o2 gJ hf henv aA) ?_
  rintro r h' ⟨s2,t2,c2,rfl,rfl,rO,b1,b2,b3⟩
  simp -dsimp -implicitDefEqProofs only[go_sem,↓reduceIte,Tryz.f262]
  refine⟨_,_,cR _ _,s2,t2,c2,rfl,by rw[aF],rO,by omega,b2,?_⟩
  rw[bH7 h3 hk]
  refine a3.gY ?_
  rw[if_neg hz]
  exact b3
theorem bUB {p:aK} (hp:p.ok) {sz n:Nat} (hsz:1<=sz/\sz<=1048576) (hv:xA p sz n) (h:Heap) (nb st:Nat) (e:aB) (env:List (List Int)) (funcs:Int) (hb:h nb=some (fJ p sz st 0)) (hst:st<3000) (hn:3001<=n+1+st)
  (hok:e.ok p funcs env.length) (gJ:0<=funcs) (hf:funcs<=p.aJ.length) (henv:∀ s∈env,gO sz s) (hel:env.length<=412+st) (hk:e.bH=9) :
  gK Tryz.prog 262 [.op nb 4 0 0,.ip 5 [e.c] 0 0,oL env] h (RnQ h nb p sz st 0 (oU p sz (n+1) st e env)):=by
 have hb':=hb
 unfold fJ at hb'
 have e3:((st:Int)=3000)=False:=eq_false aA
 have ew:IntKind.i64.wrap ((st:Int)+1)=((st+1:Nat):Int):=by rw[IntWalk.i64_in _ aA];rfl
 have hnode:=(aB.fG _ _ _ _).1 hok
 have h3:¬st=3000:=by omega
 have hlen:=gE hok aA
 rw[hk,show jH 9=2 from rfl]at hlen
 have g0:e.aO[Int.toNat 0]?=some (e.rW 0):=aB.kI aA
 have g1:e.aO[Int.toNat 1]?=some (e.rW 1):=aB.kI aA
 have o0:=aB.jS hok (i:=0) aA
 have o1:=aB.jS hok (i:=1) aA
 rw[mA aA]at o0
 rw[hk,show oY 9 1 (env.length:Int)=env.length+1 from rfl]at o1
 rw[aB.aM]
 refine lW 186 r9 cG aD3 Tryz.func262 ?_
 simp -dsimp -implicitDefEqProofs only[go_sem,↓reduceIte,Tryz.f262,hb',e3,ew,hk,g0,g1]
 refine⟨by omega,?_⟩
 refine aH.kF (hv.at g0 (bT h nb (fJ p sz (st+1) 0)) nb (st+1) 0 env funcs (bG _ _ _) aA aA o0 gJ hf henv aA) ?_
 rintro r h' ⟨s1,t1,c1,rfl,rfl,rH,a1,a2,a3⟩
 simp -dsimp -implicitDefEqProofs only[go_sem,↓reduceIte,Tryz.f262,g0,g1]
 refine⟨by omega,?_⟩
 first|refine aH.mk (aX9 env s1 aA) ?_|refine aE.mk (aX9 env s1 aA) ?_|refine aH.b7 (aX9 env s1 aA) ?_|refine aE.mk (bX.eA (aX9 env s1 aA)) ?_
 simp -dsimp -implicitDefEqProofs only[go_sem,↓reduceIte,Tryz.f262]
 rw[aF]
 refine aH.kF (hv.at g1 (bT h nb (fJ p sz t1 c1)) nb t1 c1 (env++[s1]) funcs (bG _ _ _) aA aA a0A gJ hf (aDO henv rH) bPA) ?_
 rintro r h' ⟨s2,t2,c2,rfl,rfl,rO,b1,b2,b3⟩
 simp -dsimp -implicitDefEqProofs only[go_sem,↓reduceIte,Tryz.f262]
 refine⟨_,bT h nb (fJ p sz t2 c2),eD aP7,s2,t2,c2,rfl,rfl,rO,by omega,b2,?_⟩
 rw[bQU h3 hk]
 exact a3.gY b3
theorem bM4 {p:aK} (hp:p.ok) {sz n:Nat} (hsz:1<=sz/\sz<=1048576) (hv:xA p sz n) (h:Heap) (nb st:Nat) (e:aB) (env:List (List Int)) (funcs:Int) (hb:h nb=some (fJ p sz st 0)) (hst:st<3000) (hn:3001<=n+1+st)
  (hok:e.ok p funcs env.length) (gJ:0<=funcs) (hf:funcs<=p.aJ.length) (henv:∀ s∈env,gO sz s) (hel:env.length<=412+st) (hk:e.bH=10) :
  gK Tryz.prog 262 [.op nb 4 0 0,.ip 5 [e.c] 0 0,oL env] h (RnQ h nb p sz st 0 (oU p sz (n+1) st e env)):=by
 have hb':=hb
 unfold fJ at hb'
 have e3:((st:Int)=3000)=False:=eq_false aA
 have ew:IntKind.i64.wrap ((st:Int)+1)=((st+1:Nat):Int):=by rw[IntWalk.i64_in _ aA];rfl
 have hnode:=(aB.fG _ _ _ _).1 hok
 have h3:¬st=3000:=by omega
 have hcl:=bM2 hp hv (bT h nb (fJ p sz (st+1) 0)) nb (st+1) e env funcs (bG _ _ _) aA aA hok gJ hf henv aA hk
 rw[aB.aM,hk]at hcl
 rw[aB.aM]
 refine lW 186 r9 cG aD3 Tryz.func262 ?_
 simp -dsimp -implicitDefEqProofs only[go_sem,↓reduceIte,Tryz.f262,hb',e3,ew,hk]
 refine aH.kF hcl ?_
 rintro r h' ⟨s2,t2,c2,rfl,rfl,rO,b1,b2,b3⟩
 simp -dsimp -implicitDefEqProofs only[go_sem,↓reduceIte,Tryz.f262]
 refine⟨_,bT h nb (fJ p sz t2 c2),eD aP7,s2,t2,c2,rfl,rfl,rO,by omega,b2,?_⟩
 rw[bH8 h3 hk]
 exact b3
theorem bM5 {p:aK} (hp:p.ok) {sz n:Nat} (hsz:1<=sz/\sz<=1048576) (hv:xA p sz n) (h:Heap) (nb st:Nat) (e:aB) (env:List (List Int)) (funcs:Int) (hb:h nb=some (fJ p sz st 0)) (hst:st<3000) (hn:3001<=n+1+st)
  (hok:e.ok p funcs env.length) (gJ:0<=funcs) (hf:funcs<=p.aJ.length) (henv:∀ s∈env,gO sz s) (hel:env.length<=412+st) (hk:e.bH=11) :
  gK Tryz.prog 262 [.op nb 4 0 0,.ip 5 [e.c] 0 0,oL env] h (RnQ h nb p sz st 0 (oU p sz (n+1) st e env)):=by
 have hb':=hb
 unfold fJ at hb'
 have e3:((st:Int)=3000)=False:=eq_false aA
 have ew:IntKind.i64.wrap ((st:Int)+1)=((st+1:Nat):Int):=by rw[IntWalk.i64_in _ aA];rfl
 have hnode:=(aB.fG _ _ _ _).1 hok
 have h3:¬st=3000:=by omega
 have hcl:=bM3 hp hv (bT h nb (fJ p sz (st+1) 0)) nb (st+1) e env funcs (bG _ _ _) aA aA hok gJ hf henv aA hk
 rw[aB.aM,hk]at hcl
 rw[aB.aM]
 refine lW 186 r9 cG aD3 Tryz.func262 ?_
 simp -dsimp -implicitDefEqProofs only[go_sem,↓reduceIte,Tryz.f262,hb',e3,ew,hk]
 refine aH.kF hcl ?_
 rintro r h' ⟨s2,t2,c2,rfl,rfl,rO,b1,b2,b3⟩
 simp -dsimp -implicitDefEqProofs only[go_sem,↓reduceIte,Tryz.f262]
 refine⟨_,bT h nb (fJ p sz t2 c2),eD aP7,s2,t2,c2,rfl,rfl,rO,by omega,b2,?_⟩
 rw[bH9 h3 hk]
 exact b3
theorem bID {e:aB} (h:e.aO.length=1):e.aO=[e.rW 0]:=by
 have h0:=aB.zN (e:=e) (i:=0) aA
 rw[h0]
 apply List.ext_getElem (by simp[h])
 intro i hi hi2
 match i,hi2 with
 |0,_=>rfl
theorem bIE {e:aB} (h:e.aO.length=2):e.aO=[e.rW 0,e.rW 1]:=by
 have h0:=aB.zN (e:=e) (i:=0) aA
 have h1:=aB.zN (e:=e) (i:=1) aA
 rw[h0,h1]
 apply List.ext_getElem (by simp[h])
 intro i hi hi2
 match i,hi2 with
 |0,_=>rfl
 |1,_=>rfl
theorem bUC {p:aK} {sz n st:Nat} {e:aB} {env:List (List Int)} (h3:¬st=3000) (hk:e.bH=7) (hl:e.aO.length=1):oU p sz (n+1) st e env=(oU p sz n (st+1) (e.rW 0) env).andThen λv t=>.ok (aBE v 1000002,t):=by
 rw[a7B h3 aA,bID hl,hk]
 simp only[vQ,Out.nT,Out.andThen_ok,opE]
 rfl
theorem aGG {p:aK} {sz n st:Nat} {e:aB} {env:List (List Int)} (h3:¬st=3000) (hk:e.bH=3∨e.bH=4∨e.bH=5∨e.bH=6) (hl:e.aO.length=2):oU p sz (n+1) st e env=(oU p sz n (st+1) (e.rW 0) env).andThen λa t=>(oU p sz n t (e.rW 1) env).andThen λb t=>opE e.bH [a,b] t:=by
 rw[a7B h3 aA,bIE hl]
 simp only[vQ,Out.nT,Out.andThen_ok]
theorem bUD {p:aK} (hp:p.ok) {sz n:Nat} (hsz:1<=sz/\sz<=1048576) (hv:xA p sz n) (h:Heap) (nb st:Nat) (e:aB) (env:List (List Int)) (funcs:Int) (hb:h nb=some (fJ p sz st 0)) (hst:st<3000) (hn:3001<=n+1+st)
  (hok:e.ok p funcs env.length) (gJ:0<=funcs) (hf:funcs<=p.aJ.length) (henv:∀ s∈env,gO sz s) (hel:env.length<=412+st) (hk:e.bH=7) :
  gK Tryz.prog 262 [.op nb 4 0 0,.ip 5 [e.c] 0 0,oL env] h (RnQ h nb p sz st 0 (oU p sz (n+1) st e env)):=by
 have hb':=hb
 unfold fJ at hb'
 have e3:((st:Int)=3000)=False:=eq_false aA
 have ew:IntKind.i64.wrap ((st:Int)+1)=((st+1:Nat):Int):=by rw[IntWalk.i64_in _ aA];rfl
 have hnode:=(aB.fG _ _ _ _).1 hok
 have h3:¬st=3000:=by omega
 have hlen:=gE hok aA
 rw[hk,show jH 7=1 from rfl]at hlen
 have g0:e.aO[Int.toNat 0]?=some (e.rW 0):=aB.kI aA
 have o0:=aB.jS hok (i:=0) aA
 rw[mA aA]at o0
 rw[aB.aM]
 refine lW 186 r9 cG aD3 Tryz.func262 ?_
 simp -dsimp -implicitDefEqProofs only[go_sem,↓reduceIte,Tryz.f262,hb',e3,ew,hk,g0]
 refine⟨by omega,?_⟩
 refine aH.kF (hv.at g0 (bT h nb (fJ p sz (st+1) 0)) nb (st+1) 0 env funcs (bG _ _ _) aA aA o0 gJ hf henv aA) ?_
 rintro r h' ⟨s1,t1,c1,rfl,rfl,rH,a1,a2,a3⟩
 simp -dsimp -implicitDefEqProofs only[go_sem,↓reduceIte,Tryz.f262]
 first|refine aH.mk (w9 s1 1000002 aAB uW rH.2) ?_|refine aE.mk (w9 s1 1000002 aAB uW rH.2) ?_|refine aH.b7 (w9 s1 1000002 aAB uW rH.2) ?_|refine aE.mk (bX.eA (w9 s1 1000002 aAB uW rH.2)) ?_
 simp -dsimp -implicitDefEqProofs only[go_sem,↓reduceIte,Tryz.f262]
 refine⟨_,bT h nb (fJ p sz t1 c1),eD aP7,_,t1,c1,rfl,rfl,yO _ rH,by omega,a2,?_⟩
 rw[bUC h3 hk aA]
 exact a3.gY (kN _ _ _)
theorem bUE {p:aK} (hp:p.ok) {sz n:Nat} (hsz:1<=sz/\sz<=1048576) (hv:xA p sz n) (h:Heap) (nb st:Nat) (e:aB) (env:List (List Int)) (funcs:Int) (hb:h nb=some (fJ p sz st 0)) (hst:st<3000) (hn:3001<=n+1+st)
  (hok:e.ok p funcs env.length) (gJ:0<=funcs) (hf:funcs<=p.aJ.length) (henv:∀ s∈env,gO sz s) (hel:env.length<=412+st) (hk:e.bH=3) :
  gK Tryz.prog 262 [.op nb 4 0 0,.ip 5 [e.c] 0 0,oL env] h (RnQ h nb p sz st 0 (oU p sz (n+1) st e env)):=by
 have hb':=hb
 unfold fJ at hb'
 have e3:((st:Int)=3000)=False:=eq_false aA
 have ew:IntKind.i64.wrap ((st:Int)+1)=((st+1:Nat):Int):=by rw[IntWalk.i64_in _ aA];rfl
 have hnode:=(aB.fG _ _ _ _).1 hok
 have h3:¬st=3000:=by omega
 have hlen:=gE hok aA
 rw[hk,show jH 3=2 from rfl]at hlen
 have g0:e.aO[Int.toNat 0]?=some (e.rW 0):=aB.kI aA
 have g1:e.aO[Int.toNat 1]?=some (e.rW 1):=aB.kI aA
 have o0:=aB.jS hok (i:=0) aA
 have o1:=aB.jS hok (i:=1) aA
 rw[mA aA]at o0 o1
 rw[aB.aM]
 refine lW 186 r9 cG aD3 Tryz.func262 ?_
 simp -dsimp -implicitDefEqProofs only[go_sem,↓reduceIte,Tryz.f262,hb',e3,ew,hk,g0]
 refine⟨by omega,?_⟩
 refine aH.kF (hv.at g0 (bT h nb (fJ p sz (st+1) 0)) nb (st+1) 0 env funcs (bG _ _ _) aA aA o0 gJ hf henv aA) ?_
 rintro r h' ⟨s1,t1,c1,rfl,rfl,rH,a1,a2,a3⟩
 simp -dsimp -implicitDefEqProofs only[go_sem,↓reduceIte,Tryz.f262,g1]
 refine⟨by omega,?_⟩
 rw[aF]
 refine aH.kF (hv.at g1 (bT h nb (fJ p sz t1 c1)) nb t1 c1 env funcs (bG _ _ _) aA aA o1 gJ hf henv aA) ?_
 rintro r h' ⟨s2,t2,c2,rfl,rfl,rO,b1,b2,b3⟩
 rw[aF]
 simp -dsimp -implicitDefEqProofs only[go_sem,↓reduceIte,Tryz.f262,hk]
 first|refine aH.mk (aFS s1 s2 aBL uW rH.2 rO.2) ?_|refine aE.mk (aFS s1 s2 aBL uW rH.2 rO.2) ?_|refine aH.b7 (aFS s1 s2 aBL uW rH.2 rO.2) ?_|refine aE.mk (bX.eA (aFS s1 s2 aBL uW rH.2 rO.2)) ?_
 simp -dsimp -implicitDefEqProofs only[go_sem,↓reduceIte,Tryz.f262]
 refine⟨_,bT h nb (fJ p sz t2 c2),eD (Heap.le_refl _),_,t2,c2,rfl,rfl,aVL rH rO,by omega,b2,?_⟩
 rw[aGG h3 aA aA,hk]
 exact a3.gY (b3.gY (kN _ _ _))
theorem bUF {p:aK} (hp:p.ok) {sz n:Nat} (hsz:1<=sz/\sz<=1048576) (hv:xA p sz n) (h:Heap) (nb st:Nat) (e:aB) (env:List (List Int)) (funcs:Int) (hb:h nb=some (fJ p sz st 0)) (hst:st<3000) (hn:3001<=n+1+st)
  (hok:e.ok p funcs env.length) (gJ:0<=funcs) (hf:funcs<=p.aJ.length) (henv:∀ s∈env,gO sz s) (hel:env.length<=412+st) (hk:e.bH=4) :
  gK Tryz.prog 262 [.op nb 4 0 0,.ip 5 [e.c] 0 0,oL env] h (RnQ h nb p sz st 0 (oU p sz (n+1) st e env)):=by
 have hb':=hb
 unfold fJ at hb'
 have e3:((st:Int)=3000)=False:=eq_false aA
 have ew:IntKind.i64.wrap ((st:Int)+1)=((st+1:Nat):Int):=by rw[IntWalk.i64_in _ aA];rfl
 have hnode:=(aB.fG _ _ _ _).1 hok
 have h3:¬st=3000:=by omega
 have hlen:=gE hok aA
 rw[hk,show jH 4=2 from rfl]at hlen
 have g0:e.aO[Int.toNat 0]?=some (e.rW 0):=aB.kI aA
 have g1:e.aO[Int.toNat 1]?=some (e.rW 1):=aB.kI aA
 have o0:=aB.jS hok (i:=0) aA
 have o1:=aB.jS hok (i:=1) aA
 rw[mA aA]at o0 o1
 rw[aB.aM]
 refine lW 186 r9 cG aD3 Tryz.func262 ?_
 simp -dsimp -implicitDefEqProofs only[go_sem,↓reduceIte,Tryz.f262,hb',e3,ew,hk,g0]
 refine⟨by omega,?_⟩
 refine aH.kF (hv.at g0 (bT h nb (fJ p sz (st+1) 0)) nb (st+1) 0 env funcs (bG _ _ _) aA aA o0 gJ hf henv aA) ?_
 rintro r h' ⟨s1,t1,c1,rfl,rfl,rH,a1,a2,a3⟩
 simp -dsimp -implicitDefEqProofs only[go_sem,↓reduceIte,Tryz.f262,g1]
 refine⟨by omega,?_⟩
 rw[aF]
 refine aH.kF (hv.at g1 (bT h nb (fJ p sz t1 c1)) nb t1 c1 env funcs (bG _ _ _) aA aA o1 gJ hf henv aA) ?_
 rintro r h' ⟨s2,t2,c2,rfl,rfl,rO,b1,b2,b3⟩
 rw[aF]
 simp -dsimp -implicitDefEqProofs only[go_sem,↓reduceIte,Tryz.f262,hk]
 first|refine aH.mk (aX7 s1 s2 aBL uW rH.2 rO.2) ?_|refine aE.mk (aX7 s1 s2 aBL uW rH.2 rO.2) ?_|refine aH.b7 (aX7 s1 s2 aBL uW rH.2 rO.2) ?_|refine aE.mk (bX.eA (aX7 s1 s2 aBL uW rH.2 rO.2)) ?_
 simp -dsimp -implicitDefEqProofs only[go_sem,↓reduceIte,Tryz.f262]
 refine⟨_,bT h nb (fJ p sz t2 c2),eD (Heap.le_refl _),_,t2,c2,rfl,rfl,bDV rH rO,by omega,b2,?_⟩
 rw[aGG h3 aA aA,hk]
 exact a3.gY (b3.gY (kN _ _ _))
theorem bUG {p:aK} (hp:p.ok) {sz n:Nat} (hsz:1<=sz/\sz<=1048576) (hv:xA p sz n) (h:Heap) (nb st:Nat) (e:aB) (env:List (List Int)) (funcs:Int) (hb:h nb=some (fJ p sz st 0)) (hst:st<3000) (hn:3001<=n+1+st)
  (hok:e.ok p funcs env.length) (gJ:0<=funcs) (hf:funcs<=p.aJ.length) (henv:∀ s∈env,gO sz s) (hel:env.length<=412+st) (hk:e.bH=5) :
  gK Tryz.prog 262 [.op nb 4 0 0,.ip 5 [e.c] 0 0,oL env] h (RnQ h nb p sz st 0 (oU p sz (n+1) st e env)):=by
 have hb':=hb
 unfold fJ at hb'
 have e3:((st:Int)=3000)=False:=eq_false aA
 have ew:IntKind.i64.wrap ((st:Int)+1)=((st+1:Nat):Int):=by rw[IntWalk.i64_in _ aA];rfl
 have hnode:=(aB.fG _ _ _ _).1 hok
 have h3:¬st=3000:=by omega
 have hlen:=gE hok aA
 rw[hk,show jH 5=2 from rfl]at hlen
 have g0:e.aO[Int.toNat 0]?=some (e.rW 0):=aB.kI aA
 have g1:e.aO[Int.toNat 1]?=some (e.rW 1):=aB.kI aA
 have o0:=aB.jS hok (i:=0) aA
 have o1:=aB.jS hok (i:=1) aA
 rw[mA aA]at o0 o1
 rw[aB.aM]
 refine lW 186 r9 cG aD3 Tryz.func262 ?_
 simp -dsimp -implicitDefEqProofs only[go_sem,↓reduceIte,Tryz.f262,hb',e3,ew,hk,g0]
 refine⟨by omega,?_⟩
 refine aH.kF (hv.at g0 (bT h nb (fJ p sz (st+1) 0)) nb (st+1) 0 env funcs (bG _ _ _) aA aA o0 gJ hf henv aA) ?_
 rintro r h' ⟨s1,t1,c1,rfl,rfl,rH,a1,a2,a3⟩
 simp -dsimp -implicitDefEqProofs only[go_sem,↓reduceIte,Tryz.f262,g1]
 refine⟨by omega,?_⟩
 rw[aF]
 refine aH.kF (hv.at g1 (bT h nb (fJ p sz t1 c1)) nb t1 c1 env funcs (bG _ _ _) aA aA o1 gJ hf henv aA) ?_
 rintro r h' ⟨s2,t2,c2,rfl,rfl,rO,b1,b2,b3⟩
 rw[aF]
 simp -dsimp -implicitDefEqProofs only[go_sem,↓reduceIte,Tryz.f262,hk]
 first|refine aH.mk (aX8 s1 s2 aBL uW rH.2 rO.2) ?_|refine aE.mk (aX8 s1 s2 aBL uW rH.2 rO.2) ?_|refine aH.b7 (aX8 s1 s2 aBL uW rH.2 rO.2) ?_|refine aE.mk (bX.eA (aX8 s1 s2 aBL uW rH.2 rO.2)) ?_
 simp -dsimp -implicitDefEqProofs only[go_sem,↓reduceIte,Tryz.f262]
 refine⟨_,bT h nb (fJ p sz t2 c2),eD (Heap.le_refl _),_,t2,c2,rfl,rfl,bDW _ rH,by omega,b2,?_⟩
 rw[aGG h3 aA aA,hk]
 exact a3.gY (b3.gY (kN _ _ _))
theorem bUH {p:aK} (hp:p.ok) {sz n:Nat} (hsz:1<=sz/\sz<=1048576) (hv:xA p sz n) (h:Heap) (nb st:Nat) (e:aB) (env:List (List Int)) (funcs:Int) (hb:h nb=some (fJ p sz st 0)) (hst:st<3000) (hn:3001<=n+1+st)
  (hok:e.ok p funcs env.length) (gJ:0<=funcs) (hf:funcs<=p.aJ.length) (henv:∀ s∈env,gO sz s) (hel:env.length<=412+st) (hk:e.bH=6) :
  gK Tryz.prog 262 [.op nb 4 0 0,.ip 5 [e.c] 0 0,oL env] h (RnQ h nb p sz st 0 (oU p sz (n+1) st e env)):=by
 have hb':=hb
 unfold fJ at hb'
 have e3:((st:Int)=3000)=False:=eq_false aA
 have ew:IntKind.i64.wrap ((st:Int)+1)=((st+1:Nat):Int):=by rw[IntWalk.i64_in _ aA];rfl
 have hnode:=(aB.fG _ _ _ _).1 hok
 have h3:¬st=3000:=by omega
 have hlen:=gE hok aA
 rw[hk,show jH 6=2 from rfl]at hlen
 have g0:e.aO[Int.toNat 0]?=some (e.rW 0):=aB.kI aA
 have g1:e.aO[Int.toNat 1]?=some (e.rW 1):=aB.kI aA
 have o0:=aB.jS hok (i:=0) aA
 have o1:=aB.jS hok (i:=1) aA
 rw[mA aA]at o0 o1
 rw[aB.aM]
 refine lW 186 r9 cG aD3 Tryz.func262 ?_
 simp -dsimp -implicitDefEqProofs only[go_sem,↓reduceIte,Tryz.f262,hb',e3,ew,hk,g0]
 refine⟨by omega,?_⟩
 refine aH.kF (hv.at g0 (bT h nb (fJ p sz (st+1) 0)) nb (st+1) 0 env funcs (bG _ _ _) aA aA o0 gJ hf henv aA) ?_
 rintro r h' ⟨s1,t1,c1,rfl,rfl,rH,a1,a2,a3⟩
 simp -dsimp -implicitDefEqProofs only[go_sem,↓reduceIte,Tryz.f262,g1]
 refine⟨by omega,?_⟩
 rw[aF]
 refine aH.kF (hv.at g1 (bT h nb (fJ p sz t1 c1)) nb t1 c1 env funcs (bG _ _ _) aA aA o1 gJ hf henv aA) ?_
 rintro r h' ⟨s2,t2,c2,rfl,rfl,rO,b1,b2,b3⟩
 rw[aF]
 have gs:s2[Int.toNat 0]?=some (s2.getD 0 0):=fU (by rw[rO.1];omega)
 simp -dsimp -implicitDefEqProofs only[go_sem,↓reduceIte,Tryz.f262,hk,fJ,gs]
 refine⟨λhc=>?_,λhc=>?_⟩
 ·subst hc
  refine⟨by rw[rO.1];omega,λhz=>?_,λhz=>?_⟩
  ·refine aH.kF (bBJ (bT h nb (fJ p sz t2 0)) nb p sz t2 0 6 (bG _ _ _) hsz.2) ?_
   rintro r h' ⟨rfl,rfl⟩
   simp -dsimp -implicitDefEqProofs only[go_sem,↓reduceIte,Tryz.f262]
   refine⟨_,bT h nb (fJ p sz t2 6),eD aP7,_,t2,6,rfl,rfl,w7 aKT,by omega,b2,?_⟩
   rw[aGG h3 aA aA,hk]
   refine a3.gY (b3.gY ?_)
   have:opE 6 [s1,s2] t2=.error 6:=by rw[opE,if_neg dH,if_neg dH,if_neg dH,if_neg dH];exact if_pos hz
   rw[gD,this]
   exact rT _ _ dH
  ·refine aH.mk (bT6 s1 s2 aBL uW uW rH.2 rO.2) ?_
   simp -dsimp -implicitDefEqProofs only[go_sem,↓reduceIte,Tryz.f262]
   refine⟨_,bT h nb (fJ p sz t2 0),eD (Heap.le_refl _),_,t2,0,rfl,rfl,bDX _ rH,by omega,b2,?_⟩
   rw[aGG h3 aA aA,hk]
   refine a3.gY (b3.gY ?_)
   have:opE 6 [s1,s2] t2=.ok (aB2 s1 s2,t2):=by rw[opE,if_neg dH,if_neg dH,if_neg dH,if_neg dH];exact if_neg hz
   rw[gD,this]
   exact yF _ _
 ·refine aH.kF (bBJ (bT h nb (fJ p sz t2 c2)) nb p sz t2 c2 6 (bG _ _ _) hsz.2) ?_
  rintro r h' ⟨rfl,rfl⟩
  simp -dsimp -implicitDefEqProofs only[go_sem,↓reduceIte,Tryz.f262]
  refine⟨_,bT h nb (fJ p sz t2 c2),eD (by rw[aF,if_neg hc];exact Heap.le_refl _),_,t2,c2,rfl,rfl,w7 aKT,by omega,b2,?_⟩
  rw[aGG h3 aA aA,hk]
  exact a3.gY (b3.gY aJG)
theorem run {p:aK} (hp:p.ok) {sz:Nat} (hsz:1<=sz/\sz<=1048576):∀ n,xA p sz n
 |0=>λh nb st c e env funcs hb hst hn=>by omega
 |n+1=>λh nb st c e env funcs hb hst hn hok gJ hf henv hel=>by
  have hv:=run hp hsz n
  by_cases hs:¬c=0∨st=3000
  ·exact bDY hsz h nb st c e env hb hst hs
  have hc:c=0:=bKR λq=>hs (.inl q)
  have h3:st<3000:=by
   rcases cP st 3000 with h|h
   ·exact h
   ·exact absurd (.inr aA) hs
  subst hc
  rcases aB4 ((aB.fG _ _ _ _).1 hok).1 with hk|hk|hk|hk|hk|hk|hk|hk|hk|hk|hk
  ·exact bT8 hp hsz hv h nb st e env funcs hb h3 hn hok gJ hf henv hel hk
  ·exact bT9 hp hsz hv h nb st e env funcs hb h3 hn hok gJ hf henv hel hk
  ·exact bUE hp hsz hv h nb st e env funcs hb h3 hn hok gJ hf henv hel hk
  ·exact bUF hp hsz hv h nb st e env funcs hb h3 hn hok gJ hf henv hel hk
  ·exact bUG hp hsz hv h nb st e env funcs hb h3 hn hok gJ hf henv hel hk
  ·exact bUH hp hsz hv h nb st e env funcs hb h3 hn hok gJ hf henv hel hk
  ·exact bUD hp hsz hv h nb st e env funcs hb h3 hn hok gJ hf henv hel hk
  ·exact bUA hp hsz hv h nb st e env funcs hb h3 hn hok gJ hf henv hel hk
  ·exact bUB hp hsz hv h nb st e env funcs hb h3 hn hok gJ hf henv hel hk
  ·exact bM4 hp hsz hv h nb st e env funcs hb h3 hn hok gJ hf henv hel hk
  ·exact bM5 hp hsz hv h nb st e env funcs hb h3 hn hok gJ hf henv hel hk
theorem nU {h h':Heap} {n sz:Nat} {x r:aC} (es:List (List aC)) (h0:h n=none) (hl:(bT h n (.row sz (es.map (List.map .v)))).le h') (hb:lJ n sz es.length x=true) (hr:x.gU n es=r):Shift x h' r h:=by
 subst hr
 refine(Shift.of (Sub.refl _) hl).trans ((Shift.gU (bG _ _ _) (by rw[k5];exact hb)).trans ?_)
 rw[tJ]
 exact eD ((aW h0).2 ((aW h0).2 (Heap.le_refl h)))
theorem aH.b08 {P:Program} {f:FuncId} {args args':List aC} {h:Heap} {K:aC->Heap->Prop} {t:Tag K} {r:aC} {n sz:Nat} {es:List (List aC)} (a:dQ P f args' r) (hb:lK n sz es.length args=true) (he:nZ n es args=args') (k:K r (bT h n .gone)) :
  aH P f args (bT h n (.row sz (es.map (List.map .v)))) K t:=by
 refine aH.a2B n (bG _ _ _) (by rw[k5];exact hb) ?_
 rw[aF,tJ,he]
 exact dQ.call a k
theorem bBK {h g:Heap} {b:Nat} {A:List (List Cell)} {x y:aC} (hb:h b=some (.row 1 (A++[[.v x]]))) (s:Sub x y) (hg:g.le (bT h b (.row 1 (A++[[.v y]])))):g.wk h :=
 Heap.wk.trans (Heap.iO hg) (Heap.aHL (m:=b) (λq hq=>aD _ _ _ _ hq) hb (bG _ _ _) (iM.sub (.cons s .nil) A))
theorem n1:Int.toNat 1=1:=rfl
theorem n2:Int.toNat 2=2:=rfl
theorem bM6 (n:Nat) (hn:n<=1048576) (h:Heap):gK Tryz.prog 261 [.aV,I n] h λr h'=>(n=0/\r=.aV/\h'=h)∨(0<n/\∃ m,h m=none/\r=.os m 1 0 0/\h'=bT h m (.row 1 [])):=by
 refine⟨by kernel_rfl,λE w vs R hL=>?_⟩
 have hvs:vs=[.slice none 0 0,.int .i64 n]:=by
  match vs,hL with
  | [a,b],hL=>rw[show a=.slice none 0 0 by cases hL.1;rfl,j4 hL.2.1]
 subst hvs
 rcases aTN n with rfl|h0
 ·refine(aYC w).mono ?_
  rintro e w' ⟨rfl,rfl⟩
  exact⟨.aV,h,E,.inl ⟨rfl,rfl,rfl⟩,.refl _ _ _,R,.aV⟩
 ·obtain⟨i,u,hi,hu,hsz,hby,hd,hag,hz⟩:=uY ty2
  cases hiz:i.zero with
  |none=>rw[hiz]at hz;simp at hz
  |some z =>
  have hb8:i.bytes=8:=hby.symm
  have rH:i.size=1:=hsz.symm
  have hrz:=λty=>Lib.run_append_nil_zeros (P:=Tryz.prog) w 25 3 ty 2 i z .i64 .i64 aBB aBB hi hiz n h0 aA aA (by rw[hb8];omega)
  have hge:=grownCap_ge w n 0 2
  have hmx:=grownCap_le_maxLen w n 0 2 (by unfold maxLen;omega)
  have hzs:z.cells.size=1:=by
   rw[hiz]at hz
   have:=congrArg List.length hz
   simp at this
   exact this.symm
  have hcz:(Builtin.zeroCells z.cells n++Builtin.zeroCells z.cells (grownCap w n 0 2-n)).size=grownCap w n 0 2:=by
   rw[bKN,y9,y9,hzs];omega
  refine(aYB n _ w _ h0 hn hge hmx hrz).mono ?_
  rintro e w' ⟨rfl,rfl⟩
  generalize Builtin.zeroCells z.cells n++Builtin.zeroCells z.cells (grownCap w n 0 2-n)=cs at hcz ⊢
  obtain⟨m,hm⟩:=R.fresh
  have hal:=R.aUR hm 1 [] aS cs 2 w.drew.drawn (λ_ _=>undef) aS (by simp[kE])
  have hev:=Ev.alloc R hm (.cells cs 2 (0,0)) (.row 1 []) w.drew.drawn
  refine⟨.os m 1 0 0,bT h m (.row 1 []),E.add m w.heap.size,.inr ⟨h0,m,R.none hm,rfl,rfl⟩,hev,hal,?_⟩
  refine fY.os m 1 0 0 w.heap.size 0 (grownCap w n 0 2) 2 cs.size a0K a0K (iZ _) hmx ?_ (by rw[hcz];omega)
  exact nL (f:=(0,0)) (xW w (.cells cs 2 (0,0)) w.drew.drawn)
def aFT (a b:List Int):Nat->List Int
 |0=>[]
 |1=>a
 | _=>a++b
@[go_sem] def aPA:List Nat:=[0,2,3,5,6,8,9,10,11,12,20,25,26,27,28]
theorem bM7 (a b:List Int) (ha:a.length<=1000) (hb:b.length<=1000):dQ Tryz.prog 243 [.sl 1 [[ints a],[ints b]] true] (ints (a++b)):=by
 refine tQ 36 aPA cG b9 Tryz.func243 λh=>?_
 simp -dsimp -implicitDefEqProofs only[go_sem,↓reduceIte,Tryz.f243]
 refine aDB aPA cG b9 (λk:Nat=>[(0,.sl 1 [[ints a],[ints b]] true),(3,I (aFT a b k).length),(9,.sl 1 [[ints a],[ints b]] true),(10,I 2),(11,I k)]) (λk=>k<=2) (λk=>2-k) 0 ⟨by simp[dT,dB,aFT],by omega⟩ ?_
 intro k hk
 have hk3:k=0∨k=1∨k=2:=by omega
 rcases hk3 with rfl|rfl|rfl
 ·simp -dsimp -implicitDefEqProofs only[go_sem,↓reduceIte,Tryz.f243]
  have e0:(aFT a b 0).length=0:=rfl
  have e1:aFT a b 1=a:=rfl
  refine⟨λ_=>⟨by decide,λ_=>?_⟩,λq=>absurd dH q⟩
  rw[IntWalk.i64_in _ aA]
  exact⟨λq=>absurd q aA,λ_=>⟨1,⟨by rw[e1];omega,by decide⟩,by omega,by omega⟩⟩
 ·simp -dsimp -implicitDefEqProofs only[go_sem,↓reduceIte,Tryz.f243]
  have e1:aFT a b 1=a:=rfl
  have e2:(aFT a b 2).length=a.length+b.length:=by simp[aFT]
  refine⟨λ_=>⟨by decide,λ_=>?_⟩,λq=>absurd dH q⟩
  rw[e1,IntWalk.i64_in _ aA]
  exact⟨λq=>absurd q aA,λ_=>⟨2,⟨by rw[e2];omega,by decide⟩,by omega,by omega⟩⟩
 ·simp -dsimp -implicitDefEqProofs only[go_sem,↓reduceIte,Tryz.f243]
  have e2:(aFT a b 2).length=a.length+b.length:=by simp[aFT]
  refine⟨λq=>absurd q dH,λ_=>?_⟩
  refine aH.kF (bM6 _ aA h) ?_
  rintro r h' (⟨hz,rfl,rfl⟩|⟨hp,m,hm,rfl,rfl⟩)
  ·have ha0:a=[]:=aZM.1 aA
   have hb0:b=[]:=aZM.1 aA
   subst ha0
   subst hb0
   simp -dsimp -implicitDefEqProofs only[go_sem,↓reduceIte,Tryz.f243]
   refine aDB aPA cG b9 (λk:Nat=>[(6,.aV),(25,.sl 1 [[ints []],[ints []]] true),(26,I 2),(27,I k)]) (λk=>k<=2) (λk=>2-k) 0 ⟨by simp[dT,dB],by omega⟩ ?_
   intro k hk
   have hk3:k=0∨k=1∨k=2:=by omega
   rcases hk3 with rfl|rfl|rfl
   ·simp -dsimp -implicitDefEqProofs only[go_sem,↓reduceIte,Tryz.f243]
    exact⟨λ_=>⟨by decide,cM,1,by decide,by omega,by omega⟩,λq=>absurd dH q⟩
   ·simp -dsimp -implicitDefEqProofs only[go_sem,↓reduceIte,Tryz.f243]
    exact⟨λ_=>⟨by decide,cM,2,by decide,by omega,by omega⟩,λq=>absurd dH q⟩
   ·simp -dsimp -implicitDefEqProofs only[go_sem,↓reduceIte,Tryz.f243]
    exact⟨λq=>absurd q dH,λ_=>Shift.of (Sub.nil 1 false) (Heap.le_refl _)⟩
  ·simp -dsimp -implicitDefEqProofs only[go_sem,↓reduceIte,Tryz.f243]
   refine cY aPA cG b9 (λx:Nat×Nat=>[(6,.os x.2 1 0 (aFT a b x.1).length),(25,.sl 1 [[ints a],[ints b]] true),(26,I 2),(27,I x.1)]) (λx=>bT h x.2 (.row 1 (((aFT a b x.1).map λn=>[I n]).map (List.map .v)))) (λx=>x.1<=2/\h x.2=none) (λx=>2-x.1) (0,m) ⟨by simp[dT,dB,aFT],Heap.le_refl _,by simp only;omega,hm⟩ ?_
   rintro⟨k,m⟩ ⟨hk,hm⟩
   simp only at hk hm ⊢
   have hk3:k=0∨k=1∨k=2:=by omega
   rcases hk3 with rfl|rfl|rfl
   ·simp -dsimp -implicitDefEqProofs only[go_sem,↓reduceIte,Tryz.f243]
    have e0:aFT a b 0=[]:=rfl
    have e1:aFT a b 1=a:=rfl
    rw[e0,al3,al4]
    refine⟨λ_=>⟨by decide,cM,fL _,by omega,by omega,λc hc=>⟨(1,c),⟨by rw[e1],by simp only;decide⟩,?_,⟨by simp only;omega,hc.2⟩,by simp only;omega⟩⟩,λq=>absurd dH q⟩
    simp only[e1]
    exact nP hm
   ·simp -dsimp -implicitDefEqProofs only[go_sem,↓reduceIte,Tryz.f243]
    have e1:aFT a b 1=a:=rfl
    have e2:aFT a b 2=a++b:=rfl
    rw[e1]
    refine⟨λ_=>⟨by decide,cM,fL _,by omega,by omega,λc hc=>⟨(2,c),⟨by rw[e2,rL],by simp only;decide⟩,?_,⟨by simp only;omega,hc.2⟩,by simp only;omega⟩⟩,λq=>absurd dH q⟩
    simp only[e2]
    rw[gF aS,tA,tA]
    exact nP hm
   ·simp -dsimp -implicitDefEqProofs only[go_sem,↓reduceIte,Tryz.f243]
    have e2:aFT a b 2=a++b:=rfl
    rw[e2]
    exact⟨λq=>absurd q dH,λ_=>mB _ hm (Heap.le_refl _) rfl⟩
theorem aGH {j:dN} (h:j.ok):∃ F,j.bN.aJ[j.b5.toNat]?=some F/\(0<=j.b5/\j.b5<j.bN.aJ.length)/\(0<=F.bV/\F.bV<=12)/\j.okF F:=by
 have hk:j.b5.toNat<j.bN.aJ.length:=by have:=h.2.1;omega
 have e:=b6 hk
 exact⟨_,e,by have:=h.2.1;omega,(h.1.2 _ _ e).2.1,h.2.2 _ e⟩
def dV (j:dN) (k:Nat):List Int:=j.cT++j.aQ.getD k []
theorem aIU {j:dN} (h:j.ok) {k:Nat} (hk:k<j.aQ.length):(j.aQ[k]?=some (j.aQ.getD k []))/\p4 (dV j k)/\(∀ F,j.bN.aJ[j.b5.toNat]?=some F->((dV j k).length:Int)=F.bV)/\(dV j k).length<=12/\j.cT.length<=12/\(j.aQ.getD k []).length<=12/\0<=j.aU/\j.aU.toNat<=(dV j k).length:=by
 obtain⟨F,eF,hf,hF,ok⟩:=aGH h
 obtain⟨o1,o2,o3,o4⟩:=ok
 have hg:j.aQ.getD k []=j.aQ[k]:=by rw[jC,b6 hk];rfl
 have ht:=o4 _ (dG hk)
 have hlen:((dV j k).length:Int)=F.bV:=by
  rw[dV,hg,rL]
  have:=ht.1
  have:=o2.1
  omega
 refine⟨by rw[hg];exact b6 hk,λx hx=>?_,λG hG=>?_,by omega,by have:=o2.1;omega,by rw[hg];have:=ht.1;omega,o1.1,by omega⟩
 ·rw[dV,hg]at hx
  rcases pH.1 hx with hx|hx
  ·exact o2.2 x hx
  ·exact ht.2 x hx
 ·rw[eF]at hG
  cases hG
  exact hlen
@[go_sem] def b1A:List Nat:=[2,12]
@[go_sem] def b1B:Marks:=λid=>match id with|1=>([],(.op 0 (.op 1 (.op 2 (.op 3 (.op 4 (.op 5 (.op 6 (.op 7 (.op 8 (.op 9 .nil)))))))))),[])|_=>([],.nil,[])
theorem b1C {j:dN} (h:j.ok) {k:Nat} (hk:k<j.aQ.length):dQ Tryz.prog 216 [.agg j.c,I k] (ints (dV j k)):=by
 obtain⟨t1,t2,t3,t4,t5,t6,t7,t8⟩:=aIU h hk
 have hc:=bM7 j.cT (j.aQ.getD k []) aA aA
 simp only[dN.aM]
 refine dI 14 bP3 b1A b1B Tryz.func216 λh=>?_
 simp -dsimp -implicitDefEqProofs only[go_sem,↓reduceIte,Tryz.f216,t1]
 refine⟨by omega,cM,rfl,?_⟩
 refine aE.mk hc ?_
 simp -dsimp -implicitDefEqProofs only[go_sem,↓reduceIte,Tryz.f216]
 rfl
structure cO where
 vN:Int
 fA:Int
 fB:Int
 cC:Int
def cO.c (x:cO):List aC:=[I x.vN,I x.fA,I x.fB,I x.cC]
theorem cO.aM (x:cO):x.c=[I x.vN,I x.fA,I x.fB,I x.cC]:=rfl
structure fK where
 aOJ:Int
 bQ0:Bool
def fK.c (x:fK):List aC:=[I x.aOJ,.bool x.bQ0]
theorem fK.aM (x:fK):x.c=[I x.aOJ,.bool x.bQ0]:=rfl
structure eE where
 code:List cO
 iG:List Int
 guards:List fK
def eE.val (S:eE) (k:Int):Int:=S.iG.getD k.toNat 0
def eE.put (S:eE) (c:cO) (v:Int):eE:=⟨S.code++[c],S.iG++[v],S.guards⟩
def eE.guard (S:eE) (g:fK):eE:=⟨S.code,S.iG,S.guards++[g]⟩
def oG (ev:Nat->aB->eE->Out (Int×eE)):List aB->Nat->eE->Out (List Int×eE)
 | [],t,S=>.ok (([],S),t)
 |e::l,t,S=>(ev t e S).andThen λr t=>(oG ev l t r.2).andThen λq t=>.ok ((r.1::q.1,q.2),t)
def vG (f:List Int->Nat->eE->Out (List Int×eE)):Nat->List Int->Nat->eE->Out (List Int×eE)
 |0,vs,t,S=>.ok ((vs,S),t)
 |n+1,vs,t,S=>(f vs t S).andThen λr t=>vG f n r.1 t r.2
def opV (k a b:Int):Option Int :=
 if k=3 then some ((a+b)%1000003)else if k=4 then some ((a-b)%1000003)else if k=5 then some (a*b%1000003)else if k=7 then some ((0-a)%1000003)
 else if b=0 then none else some (a*vP b%1000003)
def opB (k:Int) (vs:List Int):Int:=if k=7 then 0 else vs.getD 1 0
def opR (k:Int) (vs:List Int) (S:eE) (t:Nat):Out (Int×eE):=match opV k (S.val (vs.getD 0 0)) (S.val (opB k vs))with
 |none=>.error 6
 |some v=>.ok (((S.iG.length:Int),S.put ⟨k,vs.getD 0 0,opB k vs,0⟩ v),t)
def fM (p:aK):Nat->Nat->aB->List Int->eE->Out (Int×eE)
 |0,_,_,_,_=>.error 7
 |n+1,t,e,env,S =>
  if t=3000 then .error 7
  else if e.bH=1 then .ok (((S.iG.length:Int),S.put ⟨2,0,0,e.cC⟩ e.cC),t+1)
  else if e.bH=2 then .ok ((env.getD e.cC.toNat 0,S),t+1)
  else if e.bH=8 then(fM p n (t+1) (e.rW 0) env S).andThen λr t =>
   if r.2.val r.1=0 then fM p n t (e.rW 1) env (r.2.guard ⟨r.1,true⟩)else fM p n t (e.rW 2) env (r.2.guard ⟨r.1,false⟩)
  else if e.bH=9 then(fM p n (t+1) (e.rW 0) env S).andThen λr t=>fM p n t (e.rW 1) (env++[r.1]) r.2
  else(oG (λt e S=>fM p n t e env S) e.aO (t+1) S).andThen λr t =>
   if e.bH=10 then fM p n t (p.out e.cC e.dO) r.1 r.2
   else if e.bH=11 then(vG (λvs t S=>oG (λt e S=>fM p n t e vs S) (p.outs e.cC) t S) e.dF.toNat r.1 t r.2).andThen λr t=>.ok ((r.1.getD e.dO.toNat 0,r.2),t)
   else opR e.bH r.1 r.2 t
theorem aMG (ev:Nat->aB->eE->Out (Int×eE)) (e:aB):∀ (l:List aB) (t:Nat) (S:eE),oG ev (l++[e]) t S=(oG ev l t S).andThen λq t=>(ev t e q.2).andThen λr t=>.ok ((q.1++[r.1],r.2),t)
 | [],t,S=>rfl
 |x::l,t,S=>by
  simp only[aED,oG,aMG ev e l,Out.nT,Out.andThen_ok]
theorem aDP (f:List Int->Nat->eE->Out (List Int×eE)):∀ (n:Nat) (vs:List Int) (t:Nat) (S:eE),vG f (n+1) vs t S=(vG f n vs t S).andThen λr t=>f r.1 t r.2
 |0,vs,t,S=>by
  show(f vs t S).andThen (λr t=>.ok ((r.1,r.2),t))=f vs t S
  cases f vs t S with
  |ok p=>rfl
  |error c=>rfl
 |n+1,vs,t,S=>by
  rw[vG,show vG f (n+1) vs t S=(f vs t S).andThen λr t=>vG f n r.1 t r.2 from rfl,Out.nT]
  congr 1
  funext r t
  exact aDP f n r.1 t r.2
theorem aVO (f:List Int->Nat->eE->Out (List Int×eE)) {vs:List Int} {t:Nat} {S:eE} {c:Int}:∀ (k:Nat) {n:Nat},k<=n->vG f k vs t S=.error c->vG f n vs t S=.error c:=by
 intro k n hkn h
 induction n with
 |zero => obtain rfl : k = 0 := by omega
          exact h
 |succ n ih =>
  rcases cP k (n+1)with h1|h1
  ·rw[aDP,ih aA];rfl
  ·obtain rfl:k=n+1:=by omega
   exact h
def kH (inp:Int) (i:Nat) (c:cO):Prop :=
 (c.vN=1/\c.fA=0/\c.fB=0/\0<=c.cC/\c.cC<inp)∨(c.vN=2/\c.fA=0/\c.fB=0/\nJ c.cC)∨((c.vN=3∨c.vN=4∨c.vN=5∨c.vN=6)/\c.cC=0/\0<=c.fA/\c.fA<i/\0<=c.fB/\c.fB<i)∨(c.vN=7/\c.cC=0/\c.fB=0/\0<=c.fA/\c.fA<i)
structure Good (inp:Int) (S:eE) (t:Nat):Prop where
 len:S.code.length=S.iG.length
 bM8:p4 S.iG
 ins:∀ i c,S.code[i]?=some c->kH inp i c
 gds:∀ g∈S.guards,0<=g.aOJ/\g.aOJ<S.iG.length
 cap:S.iG.length<=12+t
 tT:S.guards.length<=t
def eE.ext (S S':eE):Prop:=S.code <+: S'.code/\S.iG <+: S'.iG/\S.guards <+: S'.guards
theorem eE.aFU (S:eE):S.ext S:=⟨aUF _,aUF _,aUF _⟩
theorem eE.ext.trans {a b c:eE} (h:a.ext b) (k:b.ext c):a.ext c:=⟨h.1.trans k.1,h.2.1.trans k.2.1,h.2.2.trans k.2.2⟩
theorem eE.bBL (S:eE) (c:cO) (v:Int):S.ext (S.put c v):=⟨bFF _ _,bFF _ _,aUF _⟩
theorem eE.pE (S:eE) (g:fK):S.ext (S.guard g):=⟨aUF _,aUF _,bFF _ _⟩
theorem eE.ext.val {S S':eE} (h:S.ext S') {k:Int} (h0:0<=k) (hk:k<S.iG.length):S'.val k=S.val k:=by
 obtain⟨x,hx⟩:=h.2.1
 rw[eE.val,eE.val,←hx,jC,jC,aGO aA]
theorem eE.ext.len {S S':eE} (h:S.ext S'):S.iG.length<=S'.iG.length:=h.2.1.length_le
def qQ (S:eE) (k:Int):Prop:=0<=k/\k<S.iG.length
theorem qQ.ext {S S':eE} {k:Int} (h:qQ S k) (e:S.ext S'):qQ S' k:=⟨h.1,by have:=h.2;have:=e.len;omega⟩
theorem Good.later {inp:Int} {S:eE} {t u:Nat} (h:Good inp S t) (hu:t<=u):Good inp S u:=⟨h.len,h.bM8,h.ins,h.gds,by have:=h.cap;omega,by have:=h.tT;omega⟩
theorem Good.put {inp:Int} {S:eE} {t:Nat} {c:cO} {v:Int} (h:Good inp S t) (hc:kH inp S.iG.length c) (hv:nJ v) (hcap:S.iG.length<12+t):Good inp (S.put c v) t:=by
 refine⟨by simp[eE.put,h.len],λx hx=>?_,λi d hd=>?_,λg hg=>?_,by simp[eE.put];omega,h.tT⟩
 ·rcases pH.1 hx with hx|hx
  ·exact h.bM8 x hx
  ·rw[rG.1 hx];exact hv
 ·rcases cP i S.code.length with hi|hi
  ·rw[eE.put,aGO hi]at hd;exact h.ins i d hd
  ·rw[eE.put,aEC hi]at hd
   have hd2:=mU.1 hd
   obtain⟨h1,h2⟩:=hd2
   have h3:i=S.iG.length:=by simp at h1;have:=h.len;omega
   simp at h2
   subst h2;rw[h3];exact hc
 ·have:=h.gds g hg
  simp only[eE.put,rL,yV];omega
theorem Good.guard {inp:Int} {S:eE} {t:Nat} {k:Int} {b:Bool} (h:Good inp S t) (hk:qQ S k) (hcap:S.guards.length<t):Good inp (S.guard ⟨k,b⟩) t:=by
 refine⟨h.len,h.bM8,h.ins,λg hg=>?_,h.cap,by simp[eE.guard];omega⟩
 rcases pH.1 hg with hg|hg
 ·exact h.gds g hg
 ·rw[rG.1 hg];exact hk
theorem bM9 {k a b v:Int} (h:opV k a b=some v):nJ v:=by
 unfold opV at h
 repeat'(split at h)
 all_goals first|(cases h;done)|(cases h;exact vF _)
def okQ {α:Type} (P:α->Nat->Prop) (X:Out α):Prop:=∀ v u,X=.ok (v,u)->P v u
theorem okQ.then {α β:Type} {P:α->Nat->Prop} {Q:β->Nat->Prop} {X:Out α} {F:α->Nat->Out β} (h:okQ P X) (hf:∀ v t,P v t->okQ Q (F v t)):okQ Q (X.andThen F):=λw u hw=>by
 cases X with
 |ok p=>obtain⟨v,t⟩:=p;exact hf v t (h v t rfl) w u hw
 |error c=>cases hw
theorem okQ.pure {α:Type} {P:α->Nat->Prop} {v:α} {t:Nat} (h:P v t):okQ P (.ok (v,t)):=λw u e=>by cases e;exact h
theorem okQ.err {α:Type} {P:α->Nat->Prop} {c:Int}:okQ P (.error c:Out α):=λw u e=>by cases e
theorem okQ.mono {α:Type} {P Q:α->Nat->Prop} {X:Out α} (h:okQ P X) (hq:∀ v u,P v u->Q v u):okQ Q X:=λv u e=>hq v u (h v u e)
def rD (S:eE) (t:Nat) (S':eE) (u:Nat):Prop:=S'.iG.length+t<=S.iG.length+u/\S'.guards.length+t<=S.guards.length+u/\t<=u/\u<=3000
theorem rD.refl {S:eE} {t:Nat} (h:t<=3000):rD S t S t:=⟨fL _,fL _,fL _,h⟩
theorem rD.trans {A B C:eE} {t u v:Nat} (h:rD A t B u) (k:rD B u C v):rD A t C v:=by
 unfold rD at *;omega
def a7E (inp:Int) (S:eE) (t:Nat) (r:Int×eE) (u:Nat):Prop:=Good inp r.2 u/\S.ext r.2/\qQ r.2 r.1/\rD S t r.2 u
def aKU (inp:Int) (S:eE) (t n:Nat) (r:List Int×eE) (u:Nat):Prop:=Good inp r.2 u/\S.ext r.2/\(r.1.length=n/\∀ x∈r.1,qQ r.2 x)/\rD S t r.2 u
theorem sA {ev:Nat->aB->eE->Out (Int×eE)} {inp:Int}:∀ (l:List aB) (t:Nat) (S:eE),Good inp S t->t<=3000->(∀ e∈l,∀ u S',Good inp S' u->S.ext S'->rD S t S' u->okQ (a7E inp S' u) (ev u e S'))->okQ (aKU inp S t l.length) (oG ev l t S)
 | [],t,S,hg,ht,_=>okQ.pure ⟨hg,S.aFU,⟨rfl,by simp⟩,.refl ht⟩
 |e::l,t,S,hg,ht,h=>(h e al5 t S hg S.aFU (.refl ht)).then λr u hr=>by
  obtain⟨r1,r2,r3,r4⟩:=hr
  refine(sA l u r.2 r1 r4.2.2.2 λx hx u' S' a b c=>h x (al6 _ hx) u' S' a (r2.trans b) (r4.trans c)).then λq u' hq=>?_
  obtain⟨q1,q2,⟨q3,q4⟩,q5⟩:=hq
  refine okQ.pure ⟨q1,r2.trans q2,⟨by rw[al2,q3];rfl,λx hx=>?_⟩,r4.trans q5⟩
  rcases p7.1 hx with rfl|hx
  ·exact r3.ext q2
  ·exact q4 x hx
theorem aFV {f:List Int->Nat->eE->Out (List Int×eE)} {inp:Int} {m:Nat} (h:∀ vs t S,Good inp S t->(vs.length=m/\∀ x∈vs,qQ S x)->t<=3000->okQ (aKU inp S t m) (f vs t S)) :
  ∀ (n:Nat) (vs:List Int) (t:Nat) (S:eE),Good inp S t->(vs.length=m/\∀ x∈vs,qQ S x)->t<=3000->okQ (aKU inp S t m) (vG f n vs t S)
 |0,vs,t,S,hg,hv,ht=>okQ.pure ⟨hg,S.aFU,hv,.refl ht⟩
 |n+1,vs,t,S,hg,hv,ht=>(h vs t S hg hv ht).then λr u hr=>by
  obtain⟨r1,r2,r3,r4⟩:=hr
  refine(aFV h n r.1 u r.2 r1 r3 r4.2.2.2).mono λq u' hq=>?_
  obtain⟨q1,q2,q3,q4⟩:=hq
  exact⟨q1,r2.trans q2,q3,r4.trans q4⟩
theorem bUI {inp k:Int} {vs:List Int} {S:eE} {t:Nat} {m:Nat} (hk:k=3∨k=4∨k=5∨k=6∨k=7) (hm:vs.length=m/\∀ x∈vs,qQ S x) (hm1:1<=m) (hm2:¬k=7->2<=m) (hg:Good inp S (t+1)) (hcap:S.iG.length<12+(t+1)) (ht:t+1<=3000):okQ (λr u=>Good inp r.2 u/\S.ext r.2/\qQ r.2 r.1/\u=t+1/\r.2.iG.length=S.iG.length+1/\r.2.guards=S.guards) (opR k vs S (t+1)):=by
 have at_:∀ i,i<m->qQ S (vs.getD i 0):=λi hi=>by
  rw[jC,b6 aA]
  exact hm.2 _ (dG _)
 unfold opR
 split
 ·exact okQ.err
 ·rename_i v hv
  have h0:=at_ 0 aA
  refine okQ.pure ⟨hg.put ?_ (bM9 hv) hcap,S.bBL _ _,⟨by simp,by simp[eE.put];omega⟩,rfl,by simp[eE.put],rfl⟩
  unfold qQ at h0
  by_cases h7:k=7
  ·subst h7
   exact .inr (.inr (.inr ⟨rfl,rfl,rfl,h0⟩))
  ·have h1:=at_ 1 (hm2 h7)
   unfold qQ at h1
   have hb:opB k vs=vs.getD 1 0:=if_neg h7
   exact .inr (.inr (.inl ⟨by simp only;omega,rfl,h0.1,h0.2,by simp only[hb];exact h1.1,by simp only[hb];exact h1.2⟩))
theorem aYD {p:aK} {n st:Nat} {e:aB} {env:List Int} {S:eE} (h3:¬st=3000) (hk:e.bH=1):fM p (n+1) st e env S=.ok (((S.iG.length:Int),S.put ⟨2,0,0,e.cC⟩ e.cC),st+1):=by rw[fM,if_neg h3,if_pos hk]
theorem aYE {p:aK} {n st:Nat} {e:aB} {env:List Int} {S:eE} (h3:¬st=3000) (hk:e.bH=2):fM p (n+1) st e env S=.ok ((env.getD e.cC.toNat 0,S),st+1):=by rw[fM,if_neg h3,if_neg aA,if_pos hk]
theorem aFW {p:aK} {n st:Nat} {e:aB} {env:List Int} {S:eE} (h3:¬st=3000) (hk:e.bH=8):fM p (n+1) st e env S=(fM p n (st+1) (e.rW 0) env S).andThen λr t =>
   if r.2.val r.1=0 then fM p n t (e.rW 1) env (r.2.guard ⟨r.1,true⟩)else fM p n t (e.rW 2) env (r.2.guard ⟨r.1,false⟩):=by rw[fM,if_neg h3,if_neg aA,if_neg aA,if_pos hk]
theorem aYF {p:aK} {n st:Nat} {e:aB} {env:List Int} {S:eE} (h3:¬st=3000) (hk:e.bH=9):fM p (n+1) st e env S=(fM p n (st+1) (e.rW 0) env S).andThen λr t=>fM p n t (e.rW 1) (env++[r.1]) r.2:=by rw[fM,if_neg h3,if_neg aA,if_neg aA,if_neg aA,if_pos hk]
theorem aGI {p:aK} {n st:Nat} {e:aB} {env:List Int} {S:eE} (h3:¬st=3000) (hk:e.bH=10):fM p (n+1) st e env S=(oG (λt e S=>fM p n t e env S) e.aO (st+1) S).andThen λr t=>fM p n t (p.out e.cC e.dO) r.1 r.2:=by
 rw[fM,if_neg h3,if_neg aA,if_neg aA,if_neg aA,if_neg aA];simp only[if_pos hk]
theorem aGJ {p:aK} {n st:Nat} {e:aB} {env:List Int} {S:eE} (h3:¬st=3000) (hk:e.bH=11):fM p (n+1) st e env S=(oG (λt e S=>fM p n t e env S) e.aO (st+1) S).andThen λr t=>(vG (λvs t S=>oG (λt e S=>fM p n t e vs S) (p.outs e.cC) t S) e.dF.toNat r.1 t r.2).andThen λr t=>.ok ((r.1.getD e.dO.toNat 0,r.2),t):=by
 have h:¬e.bH=10:=by omega
 rw[fM,if_neg h3,if_neg aA,if_neg aA,if_neg aA,if_neg aA];simp only[if_neg h,if_pos hk]
theorem nG {p:aK} {n st:Nat} {e:aB} {env:List Int} {S:eE} (h3:¬st=3000) (hk:e.bH=3∨e.bH=4∨e.bH=5∨e.bH=6∨e.bH=7):fM p (n+1) st e env S=(oG (λt e S=>fM p n t e env S) e.aO (st+1) S).andThen λr t=>opR e.bH r.1 r.2 t:=by
 have h:¬e.bH=10:=by omega
 have h2:¬e.bH=11:=by omega
 rw[fM,if_neg h3,if_neg aA,if_neg aA,if_neg aA,if_neg aA];simp only[if_neg h,if_neg h2]
theorem rD.step {S S':eE} {t u:Nat} (h:rD S (t+1) S' u):rD S t S' u:=by unfold rD at *;omega
theorem sB {p:aK} (hp:p.ok) {inp:Int}:∀ (n t:Nat) (e:aB) (env:List Int) (S:eE) (funcs:Int),e.ok p funcs env.length->funcs<=p.aJ.length->Good inp S t->t<=3000->(∀ x∈env,qQ S x)->okQ (a7E inp S t) (fM p n t e env S)
 |0,t,e,env,S,funcs,_,_,_,_,_=>okQ.err
 |n+1,t,e,env,S,funcs,hok,hf,hg,ht,henv=>by
  have ih:=sB hp (inp:=inp) n
  have hnode:=((aB.fG _ _ _ _).1 hok).1
  by_cases h3:t=3000
  ·rw[fM,if_pos h3];exact okQ.err
  have oC:=hg.later (mF t)
  have hcap:=hg.cap
  have hgcap:=hg.tT
  have henvE:∀ {S'},S.ext S'->∀ x∈env,qQ S' x:=λe x hx=>(henv x hx).ext e
  rcases aB4 hnode with hk|hk|hk|hk|hk|hk|hk|hk|hk|hk|hk
  ·rw[aYD h3 hk]
   have hn:=((gW aA).1 hnode).2.2.2.1 hk
   exact okQ.pure ⟨oC.put (.inr (.inl ⟨rfl,rfl,rfl,hn⟩)) hn aA,S.bBL _ _,⟨by simp,by simp[eE.put];omega⟩,by simp[rD,eE.put];omega⟩
  ·rw[aYE h3 hk]
   have hn:=((gW aA).1 hnode).2.2.2.2.1 hk
   refine okQ.pure ⟨oC,S.aFU,?_,by simp[rD];omega⟩
   simp only[jC]
   rw[b6 aA]
   exact henv _ (dG _)
  iterate 5
   ·have hlen:=gE hok aA
    rw[hk]at hlen
    rw[nG h3 aA]
    refine(sA _ _ S oC aA λx hx u S' a b c=>ih u x env S' funcs (iL hok aA x hx) hf a c.2.2.2 (henvE b)).then λr u hr=>?_
    obtain⟨r1,r2,r3,r4⟩:=hr
    obtain⟨u,rfl⟩:∃ w,u=w+1:=⟨u-1,by have:=r4.2.2.1;omega⟩
    unfold rD at r4
    refine(bUI (inp:=inp) aA r3 (by unfold jH at hlen;simp at hlen;omega) (λq=>by unfold jH at hlen;simp at hlen;omega) r1 aA aA).mono λq v hq=>?_
    obtain⟨q1,q2,q3,rfl,q5,q6⟩:=hq
    exact⟨q1,r2.trans q2,q3,by unfold rD;rw[q5,q6];omega⟩
  ·have hlen:=gE hok aA
   rw[hk,show jH 8=3 from rfl]at hlen
   have o0:=aB.jS hok (i:=0) aA
   have o1:=aB.jS hok (i:=1) aA
   have o2:=aB.jS hok (i:=2) aA
   rw[mA aA]at o0 o1 o2
   rw[aFW h3 hk]
   refine(ih _ _ _ _ _ o0 hf oC aA henv).then λr u hr=>?_
   obtain⟨r1,r2,r3,r4⟩:=hr
   have r4':=r4
   unfold rD at r4'
   have go:∀ (b:Bool) (k:aB),k.ok p funcs env.length->okQ (a7E inp S t) (fM p n u k env (r.2.guard ⟨r.1,b⟩)):=λb k hk=>by
    have he:r.2.ext (r.2.guard ⟨r.1,b⟩):=r.2.pE _
    refine(ih u k env _ _ hk hf (r1.guard r3 aA) aA (henvE (r2.trans he))).mono λq v hq=>?_
    obtain⟨q1,q2,q3,q4⟩:=hq
    refine⟨q1,(r2.trans he).trans q2,q3,?_⟩
    unfold rD at q4 ⊢
    simp only[eE.guard,rL,yV]at q4
    omega
   split
   ·exact go _ _ o1
   ·exact go _ _ o2
  ·have hlen:=gE hok aA
   rw[hk,show jH 9=2 from rfl]at hlen
   have o0:=aB.jS hok (i:=0) aA
   have o1:=aB.jS hok (i:=1) aA
   rw[mA aA]at o0
   rw[hk,show oY 9 1 (env.length:Int)=env.length+1 from rfl]at o1
   rw[aYF h3 hk]
   refine(ih _ _ _ _ _ o0 hf oC aA henv).then λr u hr=>?_
   obtain⟨r1,r2,r3,r4⟩:=hr
   refine(ih _ _ (env++[r.1]) _ _ a0A hf r1 r4.2.2.2 λx hx=>?_).mono λq v hq=>?_
   ·rcases pH.1 hx with hx|hx
    ·exact henvE r2 x hx
    ·rw[rG.1 hx];exact r3
   ·obtain⟨q1,q2,q3,q4⟩:=hq
    exact⟨q1,r2.trans q2,q3,(r4.trans q4).step⟩
  ·obtain⟨f,F⟩:=yG hp hok hf (.inl hk)
   have f2:=F.hi
   have f4:=F.pk2
   rw[aGI h3 hk]
   refine(sA _ _ S oC aA λx hx u S' a b c=>ih u x env S' funcs (iL hok aA x hx) hf a c.2.2.2 (henvE b)).then λr u hr=>?_
   obtain⟨r1,r2,r3,r4⟩:=hr
   refine(ih _ _ r.1 _ e.cC bO6 aA r1 r4.2.2.2 r3.2).mono λq v hq=>?_
   obtain⟨q1,q2,q3,q4⟩:=hq
   exact⟨q1,r2.trans q2,q3,(r4.trans q4).step⟩
  ·obtain⟨f,F⟩:=yG hp hok hf (.inr hk)
   have f2:=F.hi
   have f4:=F.pk2
   have f9:=F.loop hk
   rw[aGJ h3 hk]
   refine(sA _ _ S oC aA λx hx u S' a b c=>ih u x env S' funcs (iL hok aA x hx) hf a c.2.2.2 (henvE b)).then λr u hr=>?_
   obtain⟨r1,r2,r3,r4⟩:=hr
   refine(aFV (inp:=inp) (m:=f.bB.length) (λvs w S' hg' hv hw=>?_) _ _ _ _ r1 ⟨by have:=r3.1;have:=F.kids;omega,r3.2⟩ r4.2.2.2).then λq v hq=>?_
   ·rw[F.eq]
    exact sA _ _ S' hg' hw λx hx u S'' a b c=>ih u x vs S'' e.cC bFP aA a c.2.2.2 λy hy=>(hv.2 y hy).ext b
   ·obtain⟨q1,q2,q3,q4⟩:=hq
    refine okQ.pure ⟨q1,r2.trans q2,?_,(r4.trans q4).step⟩
    simp only[jC]
    rw[b6 (by rw[q3.1];exact f4)]
    exact q3.2 _ (dG _)
end Go.Hl

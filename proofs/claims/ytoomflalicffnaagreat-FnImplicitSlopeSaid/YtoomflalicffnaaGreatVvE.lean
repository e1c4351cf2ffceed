/-
  Contracts of functions and laws of the layer over the walk.
-/
import Derived.Test.YtoomflalicffnaaGreatVvD
import Derived.Test.YtoomflalicffnaaGreatVvC
namespace Go.Hl
open Go.Proofs
set_option linter.unusedVariables false
set_option linter.unusedSimpArgs false
def Cg (x y:Int):Prop:=∃ q:Int,x=y+1000003*q
theorem Cg.refl (x:Int):Cg x x:=⟨0,by omega⟩
theorem Cg.symm {x y:Int} (h:Cg x y):Cg y x:=by obtain⟨q,h⟩:=h;exact⟨-q,by omega⟩
theorem Cg.trans {x y z:Int} (h:Cg x y) (k:Cg y z):Cg x z:=by obtain⟨q,h⟩:=h;obtain⟨r,k⟩:=k;exact⟨q+r,by omega⟩
theorem Cg.add {a b c d:Int} (h:Cg a b) (k:Cg c d):Cg (a+c) (b+d):=by obtain⟨q,h⟩:=h;obtain⟨r,k⟩:=k;exact⟨q+r,by omega⟩
theorem Cg.mul {a b c d:Int} (h:Cg a b) (k:Cg c d):Cg (a*c) (b*d):=by
 obtain⟨q,rfl⟩:=h;obtain⟨r,rfl⟩:=k;exact⟨q*d+b*r+1000003*q*r,by grind⟩
theorem Cg.mod (x:Int):Cg (x%1000003) x:=⟨-(x / 1000003),by omega⟩
theorem Cg.of_eq {x y:Int} (h:x=y):Cg x y:=h▸Cg.refl x
theorem Cg.num {x y:Int} (h:Cg x y) (hx:iW x) (hy:iW y):x=y:=by
 obtain⟨q,h⟩:=h
 unfold iW at hx hy
 omega
theorem Cg.neg (x:Int):Cg (x*1000002%1000003) (-x):=(Cg.mod _).trans ⟨x,by omega⟩
def nK (A:List (List Int)) (k:Nat):Int:=(A.getD k []).getD 0 0
def pZ (a d:Nat->Int):Nat->Int
 |0=>0
 |m+1=>pZ a d m+a m*d m
theorem aMO {a a' d:Nat->Int}:∀ m,(∀ k,k<m->a' k=a k)->pZ a' d m=pZ a d m
 |0,_=>rfl
 |m+1,h=>by rw[pZ,pZ,aMO m λk hk=>h k aA,h m aA]
theorem aOX {a a' d:Nat->Int} {r:Nat} {s:Int} (h:∀ k,¬k=r->a' k=a k) (hr:Cg (a' r) (a r+s)):∀ m,r<m->Cg (pZ a' d m) (pZ a d m+s*d r)
 |0,q=>by omega
 |m+1,q=>by
  rw[pZ,pZ]
  by_cases e:m=r
  ·subst e
   rw[aMO m λk hk=>h k aA]
   exact((Cg.refl _).add (hr.mul (Cg.refl _))).trans (Cg.of_eq wR)
  ·rw[h m e]
   exact((aOX h hr m aA).add (Cg.refl _)).trans (Cg.of_eq wR)
theorem aGR {s:List Int} (h:bJ 2 s):∃ x y,s=[x,y]:=by
 match s,h.1 with
 | [x,y],_=>exact⟨x,y,rfl⟩
theorem a5L {s t:List Int} (hs:bJ 2 s) (ht:bJ 2 t):Cg ((jJ s t).getD 0 0) (s.getD 0 0+t.getD 0 0):=by
 obtain⟨x,y,rfl⟩:=aGR hs;obtain⟨z,w,rfl⟩:=aGR ht;exact Cg.mod _
theorem aUZ {s:List Int} (hs:bJ 2 s):Cg ((gW s 1000002).getD 0 0) (-(s.getD 0 0)):=by
 obtain⟨x,y,rfl⟩:=aGR hs;exact Cg.neg x
theorem aU0 {s t:List Int} (hs:bJ 2 s):Cg ((mulL s t).getD 0 0) (s.getD 0 0*t.getD 0 0):=by
 obtain⟨x,y,rfl⟩:=aGR hs
 obtain⟨u,e⟩:=aAW x [y] t
 rw[e];exact Cg.mod _
theorem bG4 {s t:List Int} (hs:bJ 2 s):Cg ((fZ s t).getD 0 0) (s.getD 0 0*gZ (t.getD 0 0)):=by
 obtain⟨x,y,rfl⟩:=aGR hs
 obtain⟨u,e⟩:=w9 x [y] t 1
 rw[fZ,show([x,y]:List Int).length=1+1 from rfl,e];exact Cg.mod _
theorem a5M {s t:List Int} (hs:bJ 2 s) (ht:bJ 2 t):Cg ((jJ s t).getD 1 0) (s.getD 1 0+t.getD 1 0):=by
 obtain⟨x,y,rfl⟩:=aGR hs;obtain⟨z,w,rfl⟩:=aGR ht;exact Cg.mod _
theorem a5N {s:List Int} (hs:bJ 2 s):Cg ((gW s 1000002).getD 1 0) (-(s.getD 1 0)):=by
 obtain⟨x,y,rfl⟩:=aGR hs;exact Cg.neg y
theorem bG5 {s t:List Int} (hs:bJ 2 s) (ht:bJ 2 t):Cg ((lN s t).getD 1 0) (s.getD 1 0-t.getD 1 0) :=
 (a5M hs (eJ _ ht)).trans (((Cg.refl _).add (a5N ht)).trans (Cg.of_eq aA))
theorem bG6 {s t:List Int} (hs:bJ 2 s) (ht:bJ 2 t):Cg ((mulL s t).getD 1 0) (s.getD 0 0*t.getD 1 0+s.getD 1 0*t.getD 0 0):=by
 obtain⟨x,y,rfl⟩:=aGR hs;obtain⟨z,w,rfl⟩:=aGR ht
 show Cg (((0+x*w)%1000003+y*z)%1000003) (x*w+y*z)
 exact(Cg.mod _).trans (((Cg.mod _).add (Cg.refl _)).trans (Cg.of_eq aA))
theorem bG7 {s t:List Int} (hs:bJ 2 s) (ht:bJ 2 t):Cg ((fZ s t).getD 1 0) ((s.getD 1 0-(fZ s t).getD 0 0*t.getD 1 0)*gZ (t.getD 0 0)):=by
 obtain⟨x,y,rfl⟩:=aGR hs;obtain⟨z,w,rfl⟩:=aGR ht
 show Cg ((y-(fZ [x,y] [z,w]).getD 0 0*w)%1000003*gZ z%1000003) ((y-(fZ [x,y] [z,w]).getD 0 0*w)*gZ z)
 exact(Cg.mod _).trans ((Cg.mod _).mul (Cg.refl _))
theorem aYY {n:Nat} {A:List (List Int)} (hA:dH 2 n A) {r:Int} (hr:r.toNat<n) {s:List Int} (hs:bJ 2 s):(∀ k,¬k=r.toNat->nK (pO r s A) k=nK A k)/\Cg (nK (pO r s A) r.toNat) (nK A r.toNat+s.getD 0 0):=by
 refine⟨λk hk=>?_,?_⟩
 ·rw[nK,nK,pO,gG (l:=A.set _ _),rT (iK hk),←gG]
 ·rw[nK,pO,gG (l:=A.set _ _),qT (by rw[hA.1];exact hr)]
  exact a5L (hA.get hr).2 hs
theorem aOY {n:Nat} {A:List (List Int)} (hA:dH 2 n A) {r:Int} {s:List Int} (hs:bJ 2 s) {d:Nat->Int} {m:Nat} (hr:r.toNat<m) (hm:m<=n):Cg (pZ (nK (pO r s A)) d m) (pZ (nK A) d m+s.getD 0 0*d r.toNat) :=
 aOX (aYY hA aA hs).1 (aYY hA aA hs).2 m hr
theorem aJP {S T own D1 e1 xa e2 xb:Int} (hB:Cg T (S+e1*xa+e2*xb)) (h:Cg (own*D1) (e1*xa+e2*xb)):Cg (S+own*D1) (T+0) :=
 ((Cg.refl S).add h).trans ((Cg.of_eq aA).trans (hB.symm.trans (Cg.of_eq aA)))
theorem sw7 {S T own D1 e1 xa:Int} (hB:Cg T (S+e1*xa)) (hd:Cg D1 (-xa)) (he:Cg e1 (-own)):Cg (S+own*D1) (T+0) :=
 aJP (e1:=e1) (xa:=xa) (e2:=0) (xb:=0) (hB.trans (Cg.of_eq aA)) (((Cg.refl own).mul hd).trans ((Cg.of_eq wR).trans ((he.mul (Cg.refl xa)).symm.trans (Cg.of_eq aA))))
theorem sw3 {S T own D1 xa xb:Int} (hB:Cg T (S+own*xa+own*xb)) (hd:Cg D1 (xa+xb)):Cg (S+own*D1) (T+0) :=
 aJP hB (((Cg.refl own).mul hd).trans (Cg.of_eq wR))
theorem sw4 {S T own D1 e2 xa xb:Int} (hB:Cg T (S+own*xa+e2*xb)) (hd:Cg D1 (xa-xb)) (he:Cg e2 (-own)):Cg (S+own*D1) (T+0) :=
 aJP hB (((Cg.refl own).mul hd).trans ((Cg.of_eq wR).trans ((Cg.refl (own*xa)).add (he.mul (Cg.refl xb)).symm)))
theorem sw5 {S T own D1 e1 e2 xa xb va vb:Int} (hB:Cg T (S+e1*xa+e2*xb)) (hd:Cg D1 (va*xb+xa*vb)) (h1:Cg e1 (own*vb)) (h2:Cg e2 (own*va)):Cg (S+own*D1) (T+0) :=
 aJP hB (((Cg.refl own).mul hd).trans ((Cg.of_eq wR).trans ((h1.mul (Cg.refl xa)).add (h2.mul (Cg.refl xb))).symm))
theorem sw6 {S T own D1 e1 e2 xa xb q iv:Int} (hB:Cg T (S+e1*xa+e2*xb)) (hd:Cg D1 ((xa-q*xb)*iv)) (h1:Cg e1 (own*iv)) (h2:Cg e2 (-(own*iv*q))):Cg (S+own*D1) (T+0) :=
 aJP hB (((Cg.refl own).mul hd).trans ((Cg.of_eq wR).trans ((h1.mul (Cg.refl xa)).add (h2.mul (Cg.refl xb))).symm))
theorem aAJ {x y:Int} (h:Cg x y):Cg (-x) (-y):=by obtain⟨q,h⟩:=h;exact⟨-q,by omega⟩
theorem aU1 {n y:Nat} (hy:y<n) {c:bH} {inp:Int} (hc:bZ inp y c) {rg:List (List Int)} (hrg:dH 2 n rg) {A:List (List Int)} (hA:dH 2 n A) {D:Nat->List Int} (hD:∀ k,k<n->bJ 2 (D k)) (hv:∀ k,k<n->(D k).getD 0 0=nK rg k)
  (h2:c.gS=2->(D y).getD 1 0=0) (hop:3<=c.gS->D y=opW c.gS (D c.fA.toNat) (D c.fB.toNat)) :
  Cg (pZ (nK A) (λk=>(D k).getD 1 0) y+nK A y*(D y).getD 1 0) (pZ (nK (jR c rg y A)) (λk=>(D k).getD 1 0) y+if c.gS=1 then nK A y*(D y).getD 1 0 else 0):=by
 have h0:=(hA.get hy).2
 have hc':=hc
 unfold bZ at hc
 have dy:=hD y hy
 by_cases e1:c.gS=1
 ·rw[if_pos e1,jR,if_neg aA,if_neg aA,if_neg aA,if_neg aA,if_neg aA];exact Cg.refl _
 rw[if_neg e1]
 by_cases e2:c.gS=2
 ·rw[h2 e2,jR,if_neg aA,if_neg aA,if_neg aA,if_neg aA,if_neg aA]
  exact Cg.of_eq aA
 have hop:=hop aA
 have ia:0<=c.fA/\c.fA<y:=by omega
 have da:=hD c.fA.toNat aA
 have va:=hv c.fA.toNat aA
 have two:3<=c.gS->¬c.gS=7->∀ s1 s2,bJ 2 s1->bJ 2 s2->Cg (pZ (nK (pO c.fB s2 (pO c.fA s1 A))) (λk=>(D k).getD 1 0) y) (pZ (nK A) (λk=>(D k).getD 1 0) y+s1.getD 0 0*(D c.fA.toNat).getD 1 0+s2.getD 0 0*(D c.fB.toNat).getD 1 0):=λq q2 s1 s2 z1 z2 =>
  (aOY (hA.put aA z1) z2 (d:=λk=>(D k).getD 1 0) (m:=y) aA aA).trans ((aOY hA z1 (d:=λk=>(D k).getD 1 0) (m:=y) aA aA).add (Cg.refl _))
 have one:∀ s1,bJ 2 s1->Cg (pZ (nK (pO c.fA s1 A)) (λk=>(D k).getD 1 0) y) (pZ (nK A) (λk=>(D k).getD 1 0) y+s1.getD 0 0*(D c.fA.toNat).getD 1 0):=λs1 z1=>aOY hA z1 (d:=λk=>(D k).getD 1 0) (m:=y) aA aA
 by_cases e7:c.gS=7
 ·rw[jR,if_neg aA,if_neg aA,if_neg aA,if_neg aA,if_pos e7]
  rw[e7]at hop
  exact sw7 (one _ (eJ 1000002 h0)) (by rw[hop];exact a5N da) (aUZ h0)
 have ib:0<=c.fB/\c.fB<y:=by omega
 have db:=hD c.fB.toNat aA
 have vb:=hv c.fB.toNat aA
 have two:=two aA e7
 by_cases e3:c.gS=3
 ·rw[jR,if_pos e3]
  rw[e3]at hop
  exact sw3 (two _ _ h0 h0) (by rw[hop];exact a5M da db)
 by_cases e4:c.gS=4
 ·rw[jR,if_neg e3,if_pos e4]
  rw[e4]at hop
  exact sw4 (two _ _ h0 (eJ 1000002 h0)) (by rw[hop];exact bG5 da db) (aUZ h0)
 by_cases e5:c.gS=5
 ·rw[jR,if_neg e3,if_neg e4,if_pos e5]
  rw[e5]at hop
  exact sw5 (va:=nK rg c.fA.toNat) (vb:=nK rg c.fB.toNat) (two _ _ (c6 _ h0) (c6 _ h0)) (by rw[hop,←va,←vb];exact bG6 da db) (aU0 h0) (aU0 h0)
 ·have e6:c.gS=6:=by omega
  rw[jR,if_neg e3,if_neg e4,if_neg e5,if_pos e6]
  rw[e6]at hop
  have vy:=hv y hy
  have hp:=k8 (rg.getD c.fB.toNat []) h0
  have hq1:Cg ((fZ (A.getD y []) (rg.getD c.fB.toNat [])).getD 0 0) ((A.getD y []).getD 0 0*gZ (nK rg c.fB.toNat)):=bG4 h0
  exact sw6 (q:=nK rg y) (iv:=gZ (nK rg c.fB.toNat)) (two _ _ hp (eJ 1000002 (c6 _ hp))) (by rw[←vy,←vb,hop];exact bG7 da db) hq1
   ((aUZ (c6 _ hp)).trans (aAJ ((aU0 (t:=rg.getD y []) hp).trans (hq1.mul (Cg.refl (nK rg y))))))
theorem a1C {n y k:Nat} {c:bH} {inp:Int} (hc:bZ inp y c) (hy:y<=k) (rg A:List (List Int)):nK (jR c rg y A) k=nK A k:=by
 unfold bZ at hc
 have hp:∀ (r:Int) s B,0<=r/\r<y->nK (pO r s B) k=nK B k:=λr s B hr=>by
  rw[nK,nK,pO,gG (l:=B.set _ _),rT aA,←gG]
 unfold jR
 by_cases h3:c.gS=3
 ·rw[if_pos h3,hp _ _ _ aA,hp _ _ _ aA]
 rw[if_neg h3]
 by_cases h4:c.gS=4
 ·rw[if_pos h4,hp _ _ _ aA,hp _ _ _ aA]
 rw[if_neg h4]
 by_cases h5:c.gS=5
 ·rw[if_pos h5,hp _ _ _ aA,hp _ _ _ aA]
 rw[if_neg h5]
 by_cases h6:c.gS=6
 ·rw[if_pos h6,hp _ _ _ aA,hp _ _ _ aA]
 rw[if_neg h6]
 by_cases h7:c.gS=7
 ·rw[if_pos h7,hp _ _ _ aA]
 ·rw[if_neg h7]
theorem tA {code:List bH} {j:Nat} {c:bH} (e:code[j]?=some c):code.getD j ⟨0,0,0,0⟩=c:=by rw[gG,e];rfl
theorem aSI {code:List bH} {inp:Int} (hins:∀ i c,code[i]?=some c->bZ inp i c) (rg A0:List (List Int)):∀ j k,j<=code.length->j<=k+1->nK (mG code rg A0 (code.length-j) j) k=nK (mG code rg A0 code.length 0) k
 |0,k,_,_=>rfl
 |j+1,k,hj,hk=>by
  rw[←aSI hins rg A0 j k aA aA]
  have ec:code[j]?=some code[j]:=eY aA
  rw[show code.length-j=(code.length-(j+1))+1 by omega,mG,tA ec,a1C (n:=0) (hins j _ ec) aA]
def dIn (code:List bH) (d:Nat->Int) (k:Nat):Int:=if (code.getD k ⟨0,0,0,0⟩).gS=1 then d k else 0
theorem aMP {code:List bH} {inp:Int} (hins:∀ i c,code[i]?=some c->bZ inp i c) {rg A0:List (List Int)} (hrg:dH 2 code.length rg) (hA0:dH 2 code.length A0) {D:Nat->List Int} (hD:∀ k,k<code.length->bJ 2 (D k)) (hv:∀ k,k<code.length->(D k).getD 0 0=nK rg k)
  (h2:∀ y c,code[y]?=some c->c.gS=2->(D y).getD 1 0=0) (hop:∀ y c,code[y]?=some c->3<=c.gS->D y=opW c.gS (D c.fA.toNat) (D c.fB.toNat)) :
  ∀ j,j<=code.length->Cg (pZ (nK (mG code rg A0 (code.length-j) j)) (λk=>(D k).getD 1 0) j) (pZ (nK (mG code rg A0 code.length 0)) (dIn code λk=>(D k).getD 1 0) j)
 |0,_=>Cg.refl _
 |y+1,hy=>by
  have ih:=aMP hins hrg hA0 hD hv h2 hop y aA
  have ec:code[y]?=some code[y]:=eY aA
  have hA:=pB (sz:=2) ⟨by decide,by decide⟩ hins hrg hA0 (code.length-(y+1)) (y+1) aA
  have hk:=aSI hins rg A0 (y+1) y hy (bX _)
  have hs:mG code rg A0 (code.length-y) y=jR code[y] rg y (mG code rg A0 (code.length-(y+1)) (y+1)):=by
   rw[show code.length-y=(code.length-(y+1))+1 by omega,mG,tA ec]
  rw[hs]at ih
  generalize mG code rg A0 (code.length-(y+1)) (y+1)=A at *
  have hst:=aU1 aA (hins y _ ec) hrg hA hD hv (h2 y _ ec) (hop y _ ec)
  rw[pZ,pZ]
  refine hst.trans (ih.add (Cg.of_eq ?_))
  rw[←hk,dIn,tA ec]
  split
  ·rfl
  ·omega
theorem a5O {code:List bH} {inp:Nat} (hins:∀ i c,code[i]?=some c->bZ inp i c) {L:List (List Int)} (hL:dH 2 code.length L) {i:Nat} (hi:i<inp) {d:Nat->Int} (hd:∀ k c,code[k]?=some c->c.gS=1->d k=if c.bB.toNat=i then 1 else 0):∀ k,k<=code.length->Cg (nK (byK code L 2 inp k) i) (pZ (nK L) (dIn code d) k)
 |0,_=>Cg.of_eq (by rw[nK,byK,gG (l:=List.replicate _ _),tY,if_pos hi];rfl)
 |k+1,hk=>by
  have ih:=a5O hins hL hi hd k aA
  have ec:code[k]?=some code[k]:=eY aA
  have hB:=vR hins hL k aA
  have hc:=hins k _ ec
  have hd:=hd k _ ec
  rw[pZ,dIn,byK,tA ec]
  generalize code[k]=c at *
  by_cases h1:c.gS=1
  ·rw[if_pos h1,if_pos h1,hd h1]
   have hn:0<=c.bB/\c.bB<inp:=by unfold bZ at hc;omega
   by_cases e:c.bB.toNat=i
   ·rw[if_pos e]
    have h2:Cg (nK ((byK code L 2 inp k).set c.bB.toNat (jJ ((byK code L 2 inp k).getD c.bB.toNat []) (L.getD k []))) i) (nK (byK code L 2 inp k) i+nK L k):=by
     rw[nK,gG (l:=List.set _ _ _),e,qT (by rw[hB.1];exact hi)]
     have:=a5L (hB.get (i:=i) hi).2 (hL.get (i:=k) aA).2
     exact this
    exact h2.trans (ih.add (Cg.of_eq aA))
   ·rw[if_neg e]
    have h2:nK ((byK code L 2 inp k).set c.bB.toNat (jJ ((byK code L 2 inp k).getD c.bB.toNat []) (L.getD k []))) i=nK (byK code L 2 inp k) i:=by
     rw[nK,nK,gG (l:=List.set _ _ _),rT e,←gG]
    rw[h2]
    exact ih.trans (Cg.of_eq aA)
  ·rw[if_neg h1,if_neg h1]
   exact ih.trans (Cg.of_eq aA)
theorem aYZ {outs ws:List Int} {n:Nat} (ho:∀ r∈outs,0<=r/\r<n) (hwn:dW ws) {d:Nat->Int}:∀ k,k<=outs.length->Cg (pZ (nK (pA outs ws (List.replicate n (u3 2)) k)) d n) (pZ (λk=>ws.getD k 0) (λk=>d (outs.getD k 0).toNat) k)
 |0,_=>by
  have hz:∀ m,pZ (nK (List.replicate n (u3 2))) d m=0:=λm=>by
   induction m with
   |zero=>rfl
   |succ m ih =>
    have h0:nK (List.replicate n (u3 2)) m=0:=by
     rw[nK,gG (l:=List.replicate _ _),tY]
     split <;> rfl
    rw[pZ,ih,h0];omega
  exact Cg.of_eq (hz n)
 |k+1,hk=>by
  have ih:=aYZ ho hwn (d:=d) k aA
  have hr:=ho (outs.getD k 0) a7T
  have hs:=r7 (sz:=2) bO ho hwn k aA
  rw[pA,pZ]
  generalize pA outs ws (List.replicate n (u3 2)) k=A at *
  generalize outs.getD k 0=r at *
  have hq:=hs.get (i:=r.toNat) aA
  have h1:∀ q,¬q=r.toNat->nK (A.set r.toNat ((A.getD r.toNat []).set 0 (((A.getD r.toNat []).getD 0 0+ws.getD k 0)%1000003))) q=nK A q:=λq hq=>by
   rw[nK,nK,gG (l:=List.set A _ _),rT (iK hq),←gG]
  have h2:Cg (nK (A.set r.toNat ((A.getD r.toNat []).set 0 (((A.getD r.toNat []).getD 0 0+ws.getD k 0)%1000003))) r.toNat) (nK A r.toNat+ws.getD k 0):=by
   rw[nK,gG (l:=List.set A _ _),qT (by rw[hs.1];omega),aEO,gG (l:=List.set _ 0 _),qT (by rw[hq.2.1];decide)]
   exact Cg.mod _
  exact(aOX h1 h2 n aA).trans (ih.add (Cg.refl _))
def eZ:(Nat->Int)->(Nat->Int)->Nat->Int
 |f,g,0=>f 0*g 0
 |f,g,k+1=>f 0*g (k+1)+eZ (λi=>f (i+1)) g k
theorem aFI:∀ (k:Nat) (f g:Nat->Int),eZ f g (k+1)=eZ f (λi=>g (i+1)) k+f (k+1)*g 0
 |0,f,g=>rfl
 |k+1,f,g=>by
  show f 0*g (k+2)+eZ (λi=>f (i+1)) g (k+1)=(f 0*g (k+2)+eZ (λi=>f (i+1)) (λi=>g (i+1)) k)+f (k+2)*g 0
  have:=aFI k (λi=>f (i+1)) g
  simp only[aTT,Nat.reduceAdd]at this ⊢
  omega
theorem pC:∀ (k:Nat) (f g:Nat->Int),eZ f g k=eZ g f k
 |0,f,g=>aLO _ _
 |k+1,f,g=>by
  rw[aFI k g f,eZ,pC k (λi=>f (i+1)) g,aLO (f 0)];omega
theorem yB:∀ (k:Nat) (f g h:Nat->Int),eZ (λi=>f i+g i) h k=eZ f h k+eZ g h k
 |0,f,g,h=>Int.add_mul _ _ _
 |k+1,f,g,h=>by
  rw[eZ,eZ,eZ,yB k (λi=>f (i+1)) (λi=>g (i+1)) h];grind
theorem yC (c:Int):∀ (k:Nat) (f h:Nat->Int),eZ (λi=>c*f i) h k=c*eZ f h k
 |0,f,h=>aV1 _ _ _
 |k+1,f,h=>by
  rw[eZ,eZ,yC c k (λi=>f (i+1)) h];grind
theorem aA7 (k:Nat) (f h:Nat->Int):eZ (λi=>-(f i)) h k=-(eZ f h k):=by
 have:=yC (-1) k f h
 simp only[Int.neg_mul,aP2]at this
 exact this
theorem aAK (k:Nat) (f g h:Nat->Int):eZ h (λi=>f i+g i) k=eZ h f k+eZ h g k:=by rw[pC,yB,pC k f,pC k g]
theorem aD5 (k:Nat) (f h:Nat->Int):eZ h (λi=>-(f i)) k=-(eZ h f k):=by rw[pC,aA7,pC k f]
theorem aSJ (c:Int) (k:Nat) (f h:Nat->Int):eZ h (λi=>c*f i) k=c*eZ h f k:=by rw[pC,yC,pC k f]
theorem pX:∀ (k:Nat) (f g h:Nat->Int),eZ (eZ f g) h k=eZ f (eZ g h) k
 |0,f,g,h=>aV1 _ _ _
 |k+1,f,g,h=>by
  have e:(λi=>eZ f g (i+1))=λi=>f 0*g (i+1)+eZ (λi=>f (i+1)) g i:=rfl
  rw[eZ,e,yB k (λi=>f 0*g (i+1)) (eZ (λi=>f (i+1)) g),yC,pX k (λi=>f (i+1)) g h,eZ,eZ,eZ]
  grind
theorem m7:∀ (k:Nat) (f f' g g':Nat->Int),(∀ i,i<=k->Cg (f i) (f' i))->(∀ i,i<=k->Cg (g i) (g' i))->Cg (eZ f g k) (eZ f' g' k)
 |0,f,f',g,g',a,b=>(a 0 (bX _)).mul (b 0 (bX _))
 |k+1,f,f',g,g',a,b=>((a 0 aA).mul (b (k+1) (bX _))).add (m7 k _ _ g g' (λi hi=>a (i+1) aA) λi hi=>b i aA)
theorem aHH:∀ (k:Nat) (f:Nat->Int),eZ f (λi=>if i=0 then 1 else 0) k=f k
 |0,f=>by simp[eZ]
 |k+1,f=>by rw[aFI];simp only[Nat.add_one_ne_zero,if_false,if_true];rw[pC];have:=yC 0 k (λ_=>0) f;simp only[Int.zero_mul]at this;rw[this];omega
def dT (F:Nat->Int):Nat->Int
 |0=>0
 |m+1=>dT F m+F m
theorem aMQ (F:Nat->Int):∀ m,dT F (m+1)=F 0+dT (λi=>F (i+1)) m
 |0=>by simp[dT]
 |m+1=>by rw[dT,aMQ F m,dT];omega
theorem lO {F G:Nat->Int}:∀ m,(∀ i,i<m->F i=G i)->dT F m=dT G m
 |0,_=>rfl
 |m+1,h=>by rw[dT,dT,lO m λi hi=>h i aA,h m aA]
theorem aD6 {F G:Nat->Int}:∀ m,(∀ i,i<m->Cg (F i) (G i))->Cg (dT F m) (dT G m)
 |0,_=>Cg.refl _
 |m+1,h=>(aD6 m λi hi=>h i aA).add (h m aA)
theorem aHI:∀ (k:Nat) (f g:Nat->Int),eZ f g k=dT (λi=>f i*g (k-i)) (k+1)
 |0,f,g=>by simp[eZ,dT]
 |k+1,f,g=>by
  have h:dT (λi=>f (i+1)*g (k-i)) (k+1)=dT (λi=>f (i+1)*g (k+1-(i+1))) (k+1):=lO _ λi hi=>by rw[show k+1-(i+1)=k-i by omega]
  rw[eZ,aHI k,h,aMQ (λi=>f i*g (k+1-i)) (k+1)];rfl
def sF (s:List Int):Nat->Int:=λi=>s.getD i 0
theorem a5P (a b:List Int) (k:Nat):∀ m,Cg (x8 a b k m) (dT (λi=>sF a i*sF b (k-i)) m)
 |0=>Cg.refl _
 |m+1=>(Cg.mod _).trans ((a5P a b k m).add (Cg.refl _))
theorem a5Q (o b:List Int) (k:Nat) (r:Int):∀ m,Cg (dvS o b k r m) (r-dT (λi=>sF o i*sF b (k-i)) m)
 |0=>Cg.of_eq (by simp[dvS,dT])
 |m+1=>(Cg.mod _).trans (((a5Q o b k r m).add (Cg.refl (-(o.getD m 0*b.getD (k-m) 0)))).trans (Cg.of_eq (by rw[dT];simp only[sF];omega)))
theorem aJQ {sz:Nat} {a b:List Int} (ha:bJ sz a) (hb:bJ sz b) {k:Nat} (hk:k<sz):Cg (sF (jJ a b) k) (sF a k+sF b k):=by
 have h:(jJ a b)[k]?=some ((a.getD k 0+b.getD k 0)%1000003):=by
  rw[jJ,aV5,cQ (l:=a) (by rw[ha.1];exact hk),cQ (l:=b) (by rw[hb.1];exact hk)]
 rw[sF,gG,h];exact Cg.mod _
theorem bG8 {sz:Nat} {a:List Int} (ha:bJ sz a) (n:Int) {k:Nat} (hk:k<sz):Cg (sF (gW a n) k) (sF a k*n):=by
 have h:(gW a n)[k]?=some (a.getD k 0*n%1000003):=by
  rw[gW,qR,cQ (l:=a) (by rw[ha.1];exact hk)];rfl
 rw[sF,gG,h];exact Cg.mod _
theorem aJR {sz:Nat} {a:List Int} (ha:bJ sz a) {k:Nat} (hk:k<sz):Cg (sF (gW a 1000002) k) (-(sF a k)):=(bG8 ha _ hk).trans ⟨sF a k,by omega⟩
theorem aJS {sz:Nat} {a b:List Int} (ha:bJ sz a) (hb:bJ sz b) {k:Nat} (hk:k<sz):Cg (sF (lN a b) k) (sF a k+-(sF b k)):=(aJQ ha (eJ _ hb) hk).trans ((Cg.refl _).add (aJR hb hk))
theorem yD {sz:Nat} {a:List Int} (b:List Int) (ha:bJ sz a) {k:Nat} (hk:k<sz):Cg (sF (mulL a b) k) (eZ (sF a) (sF b) k):=by
 have h:(mulL a b)[k]?=some (x8 a b k (k+1)):=by
  rw[mulL,qR,al9 (by rw[ha.1];exact hk)];rfl
 rw[sF,gG,h,aHI];exact a5P a b k _
theorem aAL {sz:Nat} (n:Int) (k:Nat) (hk:k<sz):sF (cS n sz) k=if k=0 then n else 0:=by
 rw[sF,cS,gG]
 split
 ·rename_i e;subst e
  rw[qT (by rw[aGI];exact hk)];rfl
 ·rename_i e
  rw[rT (iK e),tY,if_pos hk];rfl
theorem aJT {sz:Nat} {a:List Int} (b:List Int) (ha:bJ sz a) {k:Nat} (hk:k<sz):Cg (sF (fZ a b) k) ((sF a k-dT (λi=>sF (fZ a b) i*sF b (k-i)) k)*gZ (b.getD 0 0)):=by
 have hl:k<a.length:=by rw[ha.1];exact hk
 have h:sF (fZ a b) k=dvS (jP a b k) b k (a.getD k 0) k*gZ (b.getD 0 0)%1000003:=by
  rw[sF,gG,eY (by rw[o9];exact hl)]
  exact aDS hl
 rw[h]
 refine(Cg.mod _).trans (Cg.mul ((a5Q _ b k _ k).trans (Cg.of_eq ?_)) (Cg.refl _))
 congr 1
 refine lO k λi hi=>?_
 congr 1
 rw[sF,sF,fZ,←tP a b (k:=k) a.length aA,gG,aHV hi,←gG]
def ivL (b:List Int) (sz:Nat):List Int:=fZ (cS 1 sz) b
theorem aSK (f g:Nat->Int) (k:Nat):eZ f (λi=>if i=0 then 0 else g i) k=dT (λi=>f i*g (k-i)) k:=by
 rw[aHI,dT,sU,if_pos rfl,Int.mul_zero,Int.add_zero]
 exact lO k λi hi=>by rw[if_neg aA]
theorem aJU {sz:Nat} {a b:List Int} (ha:bJ sz a):∀ (m k:Nat),k<m->k<sz->Cg (sF (fZ a b) k) (eZ (sF a) (sF (ivL b sz)) k)
 |0,k,h,_=>by omega
 |m+1,k,h,hk=>by
  have ih:=λi hi hi2=>aJU (b:=b) ha m i hi hi2
  have hc:bJ sz (cS 1 sz):=fS nD
  have h1:=aJT b ha hk
  refine h1.trans ?_
  have h2:∀ i,i<=k->Cg (sF (ivL b sz) i) (gZ (b.getD 0 0)*((if i=0 then 1 else 0)+-(eZ (sF (ivL b sz)) (λi=>if i=0 then 0 else sF b i) i))):=λi hi=>by
   have:=aJT b hc (k:=i) aA
   rw[aAL _ _ aA]at this
   rw[aSK,aLO]
   exact this
  have h3:Cg (eZ (sF a) (sF (ivL b sz)) k) (gZ (b.getD 0 0)*(sF a k+-(eZ (eZ (sF a) (sF (ivL b sz))) (λi=>if i=0 then 0 else sF b i) k))):=by
   refine(m7 k _ _ _ _ (λi _=>Cg.refl _) h2).trans (Cg.of_eq ?_)
   rw[aSJ (gZ (b.getD 0 0)) k (λi=>(if i=0 then 1 else 0)+-(eZ (sF (ivL b sz)) (λi=>if i=0 then 0 else sF b i) i)) (sF a),aAK k (λi=>if i=0 then 1 else 0),aHH,aD5 k (eZ (sF (ivL b sz)) λi=>if i=0 then 0 else sF b i),pX]
  refine Cg.trans ?_ h3.symm
  rw[aSK,aLO]
  exact(Cg.refl _).mul ((Cg.refl _).add (aAJ (aD6 k λi hi=>(ih i aA aA).mul (Cg.refl _))))
def zA:Nat->Nat->Nat
 | _,0=>1
 |0,_+1=>0
 |n+1,k+1=>zA n k+zA n (k+1)
theorem yE:∀ n k,(k+1)*zA (n+1) (k+1)=(n+1)*zA n k
 |0,0=>rfl
 |0,k+1=>by simp[zA]
 |n+1,0=>by
  have h:=yE n 0
  simp only[zA,aGG,Nat.one_mul,aP7]at h ⊢
  omega
 |n+1,k+1=>by
  have h1:=yE n k
  have h2:=yE n (k+1)
  have e:zA (n+1+1) (k+1+1)=zA (n+1) (k+1)+zA (n+1) (k+1+1):=rfl
  have e2:zA (n+1) (k+1)=zA n k+zA n (k+1):=rfl
  rw[e]
  generalize zA (n+1) (k+1+1)=A at *
  generalize zA n k=B at *
  generalize zA n (k+1)=C at *
  rw[e2]at h1 ⊢
  grind
theorem aD7:∀ n k,n<k->zA n k=0
 |0,k+1,_=>rfl
 |n+1,k+1,h=>by rw[zA,aD7 n k aA,aD7 n (k+1) aA]
 | _,0,h=>by omega
theorem aSL:∀ n,zA n n=1
 |0=>rfl
 |n+1=>by rw[zA,aSL n,aD7 n (n+1) aA]
def oJ (F:Nat->Nat):Nat->Nat
 |0=>0
 |m+1=>oJ F m+F m
theorem aA8 (F:Nat->Nat):∀ m,oJ F (m+1)=F 0+oJ (λi=>F (i+1)) m
 |0=>by simp[oJ]
 |m+1=>by rw[oJ,aA8 F m,oJ];omega
theorem aCG {F G:Nat->Nat}:∀ m,(∀ i,i<m->F i=G i)->oJ F m=oJ G m
 |0,_=>rfl
 |m+1,h=>by rw[oJ,oJ,aCG m λi hi=>h i aA,h m aA]
theorem aSM (F G:Nat->Nat):∀ m,oJ (λi=>F i+G i) m=oJ F m+oJ G m
 |0=>rfl
 |m+1=>by rw[oJ,oJ,oJ,aSM F G m];omega
theorem aSN (a:Nat) (F:Nat->Nat):∀ m,a*oJ F m=oJ (λi=>a*F i) m
 |0=>rfl
 |m+1=>by rw[oJ,oJ,←aSN a F m,Nat.mul_add]
theorem bD3 (a:Nat):∀ n,(a+1) ^ n=oJ (λk=>zA n k*a ^ k) (n+1)
 |0=>by simp[oJ,zA]
 |n+1=>by
  have e1:oJ (λk=>zA (n+1) k*a ^ k) (n+1+1)=1+oJ (λk=>zA n k*a ^ (k+1)+zA n (k+1)*a ^ (k+1)) (n+1):=by
   rw[aA8,zA,Nat.pow_zero,aP7]
   exact congrArg (1+·) (aCG _ λi _=>by rw[zA,tV])
  have e2:oJ (λk=>zA n k*a ^ k) (n+1+1)=1+oJ (λk=>zA n (k+1)*a ^ (k+1)) (n+1):=by
   rw[aA8,show zA n 0=1 by cases n <;> rfl,Nat.pow_zero,aP7]
  have e3:oJ (λk=>zA n k*a ^ k) (n+1+1)=oJ (λk=>zA n k*a ^ k) (n+1):=by rw[oJ,aD7 n (n+1) aA];omega
  rw[e1,aSM,aP6,bD3 a n,aHX,tV,aSN]
  have e4:oJ (λi=>a*(zA n i*a ^ i)) (n+1)=oJ (λk=>zA n k*a ^ (k+1)) (n+1):=aCG _ λi _=>by rw[aP6];grind
  rw[e4]
  omega
theorem aSO {p:Nat} {F:Nat->Nat}:∀ m,(∀ i,i<m->p ∣ F i)->p ∣ oJ F m
 |0,_=>⟨0,rfl⟩
 |m+1,h=>Nat.dvd_add (aSO m λi hi=>h i aA) (h m aA)
theorem a5R {p:Nat} (hp:1<p) (hc:∀ k,0<k->k<p->Nat.Coprime p k):∀ a:Nat,∃ q,a ^ p=a+p*q
 |0=>⟨0,by rw[Nat.zero_pow aA];omega⟩
 |a+1=>by
  obtain⟨q,hq⟩:=a5R hp hc a
  obtain⟨n,rfl⟩:∃ n,p=n+1:=⟨p-1,by omega⟩
  have h1:n+1 ∣ oJ (λi=>zA (n+1) (i+1)*a ^ (i+1)) n:=aSO n λi hi=>by
   have h2:=yE n i
   have h3:n+1 ∣ (i+1)*zA (n+1) (i+1):=⟨_,h2⟩
   exact Nat.dvd_trans ((hc (i+1) aA aA).dvd_of_dvd_mul_left h3) ⟨_,rfl⟩
  obtain⟨r,hr⟩:=h1
  refine⟨q+r,?_⟩
  rw[bD3,oJ,aA8,hr,aSL,hq]
  simp only[zA]
  grind
def aY0:Nat->Bool
 |0=>true
 |k+1=>(decide (k<2) || decide (¬1000003%k=0)) && aY0 k
theorem aSP:∀ n,aY0 n=true->∀ k,2<=k->k<n->¬1000003%k=0
 |0,_,k,_,h=>by omega
 |n+1,t,k,h2,h=>by
  rw[aY0,l7]at t
  rcases bT k n with h3|h3
  ·exact aSP n t.2 k h2 h3
  ·obtain rfl:k=n:=by omega
   have:=t.1
   rw[decide_eq_false (show ¬k<2 by omega),aKX]at this
   exact of_decide_eq_true this
set_option maxRecDepth 20000 in
theorem a1D:aY0 1001=true:=by decide +kernel
theorem aSQ (k:Nat) (h0:0<k) (h1:k<1000003):Nat.Coprime 1000003 k:=by
 have d1:=Nat.gcd_dvd_left 1000003 k
 have d2:=Nat.le_of_dvd h0 (Nat.gcd_dvd_right 1000003 k)
 have d0:=Nat.gcd_pos_of_pos_right 1000003 h0
 show Nat.gcd 1000003 k=1
 generalize Nat.gcd 1000003 k=d at *
 obtain⟨e,he⟩:=d1
 have hd:∀ x y,1000003=x*y->2<=x->x<1001->False:=λx y h a b=>aSP 1001 a1D x a b (by rw[h,Nat.mul_mod_right])
 rcases bT d 2 with h|h
 ·omega
 exfalso
 rcases bT d 1001 with h2|h2
 ·exact hd d e he h h2
 rcases bT e 1001 with h3|h3
 ·rcases bT e 2 with h4|h4
  ·rcases(show e=0∨e=1 by omega)with rfl|rfl <;> omega
  ·exact hd e d (by rw[aHX];exact he) h4 h3
 ·have:=Nat.mul_le_mul h2 h3
  omega
theorem inv_mul {x:Int} (hx:iW x) (h0:¬x=0):Cg (x*gZ x) 1:=by
 obtain⟨n,rfl⟩:∃ n:Nat,x=n:=⟨x.toNat,by unfold iW at hx;omega⟩
 unfold iW at hx
 have hc:=aSQ n aA aA
 obtain⟨q,hq⟩:=a5R (p:=1000003) aA aSQ n
 have e:((n:Int)%1000003)=(n:Int):=by omega
 rw[gZ,pwN,e]
 have h1:Cg ((n:Int)*((n:Int) ^ 1000001%1000003)) ((n:Int)*(n:Int) ^ 1000001):=(Cg.refl _).mul (Cg.mod _)
 refine h1.trans ?_
 generalize hm:1000001=m
 have hm2:1000003=m+1+1:=by omega
 have h2:n*(n*(n ^ m)-1)=1000003*q:=by
  have h3:n ^ 1000003=n*(n*n ^ m):=by
   rw[hm2,aP6,aP6];grind
  have h4:1<=n*n ^ m:=Nat.mul_pos aA (Nat.pow_pos aA)
  rw[Nat.mul_sub,←h3,hq,aP7]
  omega
 have h5:1000003 ∣ n*(n*(n ^ m)-1):=⟨q,h2⟩
 obtain⟨r,hr⟩:=hc.dvd_of_dvd_mul_left h5
 have h6:1<=n*n ^ m:=Nat.mul_pos aA (Nat.pow_pos aA)
 have h7:n*n ^ m=1+1000003*r:=by omega
 refine⟨(r:Int),?_⟩
 have h8:((n*n ^ m:Nat):Int)=((1+1000003*r:Nat):Int):=by rw[h7]
 rw[Int.natCast_mul,Int.natCast_pow,Int.natCast_add,Int.natCast_mul]at h8
 exact h8
structure a94 (R:List Int->List Int->Prop) (sz sz':Nat):Prop where
 nil:R [] []
 hd:∀ {s s'},R s s'->s.getD 0 0=s'.getD 0 0
 add:∀ {a a' b b'},R a a'->R b b'->R (jJ a b) (jJ a' b')
 scl:∀ {a a'} (n:Int),R a a'->R (gW a n) (gW a' n)
 mul:∀ {a a' b b'},R a a'->R b b'->R (mulL a b) (mulL a' b')
 div:∀ {a a' b b'},R a a'->R b b'->R (fZ a b) (fZ a' b')
 const:∀ n,R (cS n sz) (cS n sz')
theorem a94.sub {R:List Int->List Int->Prop} {sz sz':Nat} (H:a94 R sz sz') {a a' b b':List Int} (ha:R a a') (hb:R b b'):R (lN a b) (lN a' b'):=H.add ha (H.scl _ hb)
def eG (R:List Int->List Int->Prop):List (List Int)->List (List Int)->Prop
 | [],[]=>True
 |s::l,s'::l'=>R s s'/\eG R l l'
 | _,_=>False
theorem eG.get {R:List Int->List Int->Prop} (hn:R [] []):∀ {l l':List (List Int)},eG R l l'->∀ i,R (l.getD i []) (l'.getD i [])
 | [],[],_,i=>by simp[hn]
 |s::l,s'::l',h,0=>h.1
 |s::l,s'::l',h,i+1=>by simpa using eG.get hn h.2 i
 | [],_::_,h,_=>h.elim
 | _::_,[],h,_=>h.elim
theorem eG.len {R:List Int->List Int->Prop}:∀ {l l':List (List Int)},eG R l l'->l.length=l'.length
 | [],[],_=>rfl
 |s::l,s'::l',h=>by simp[eG.len h.2]
 | [],_::_,h=>h.elim
 | _::_,[],h=>h.elim
def pR (m:Nat) (s s':List Int):Prop:=(s=[]/\s'=[])∨(m<=s.length/\m<=s'.length/\∀ i,i<m->sF s i=sF s' i)
theorem pR.get {m:Nat} {s s':List Int} (h:pR m s s') {i:Nat} (hi:i<m):sF s i=sF s' i:=by
 rcases h with⟨rfl,rfl⟩|⟨_,_,h⟩
 ·rfl
 ·exact h i hi
theorem aMR {a a' b b':List Int} {k m:Nat} (hk:k<m) (ha:∀ i,i<m->sF a i=sF a' i) (hb:∀ i,i<m->sF b i=sF b' i):∀ n,n<=k+1->x8 a b k n=x8 a' b' k n
 |0,_=>rfl
 |n+1,h=>by
  have h1:=ha n aA
  have h2:=hb (k-n) aA
  simp only[sF]at h1 h2
  rw[x8,x8,aMR hk ha hb n aA,h1,h2]
theorem aMS {o b b':List Int} {k m:Nat} (hk:k<m) (hb:∀ i,i<m->sF b i=sF b' i) (r:Int):∀ n,dvS o b k r n=dvS o b' k r n
 |0=>rfl
 |n+1=>by
  have h2:=hb (k-n) aA
  simp only[sF]at h2
  rw[dvS,dvS,aMS hk hb r n,h2]
theorem aJV {a a' b b':List Int} {m:Nat} (hm:0<m) (ha:∀ i,i<m->sF a i=sF a' i) (hb:∀ i,i<m->sF b i=sF b' i):∀ k,k<=m->jP a b k=jP a' b' k
 |0,_=>rfl
 |k+1,h=>by
  have h1:=ha k aA
  have h2:=hb 0 hm
  simp only[sF]at h1 h2
  rw[jP,jP,aJV hm ha hb k aA,h1,h2,aMS (m:=m) aA hb]
theorem aMT {s:List Int} {i:Nat} {x:Int} (h:s[i]?=some x):sF s i=x:=by rw[sF,gG,h];rfl
theorem bT8 {m sz sz':Nat} (hm:0<m) (h1:m<=sz) (h2:m<=sz'):a94 (pR m) sz sz' where
 nil:=.inl ⟨rfl,rfl⟩
 hd h:=h.get hm
 add {a a' b b'} ha hb:=by
  rcases ha with⟨rfl,rfl⟩|⟨a1,a2,a3⟩
  ·exact .inl ⟨rfl,rfl⟩
  rcases hb with⟨rfl,rfl⟩|⟨b1,b2,b3⟩
  ·exact .inl ⟨by simp[jJ],by simp[jJ]⟩
  ·refine .inr ⟨by simp[jJ];omega,by simp[jJ];omega,λi hi=>?_⟩
   have e1:=a3 i hi
   have e2:=b3 i hi
   simp only[sF]at e1 e2
   rw[aMT (s:=jJ a b) (x:=(a.getD i 0+b.getD i 0)%1000003) (by rw[jJ,aV5,cQ (l:=a) aA,cQ (l:=b) aA]),
    aMT (s:=jJ a' b') (x:=(a'.getD i 0+b'.getD i 0)%1000003) (by rw[jJ,aV5,cQ (l:=a') aA,cQ (l:=b') aA]),e1,e2]
 scl {a a'} n ha:=by
  rcases ha with⟨rfl,rfl⟩|⟨a1,a2,a3⟩
  ·exact .inl ⟨rfl,rfl⟩
  ·refine .inr ⟨by rw[wO];exact a1,by rw[wO];exact a2,λi hi=>?_⟩
   have e1:=a3 i hi
   simp only[sF]at e1
   rw[aMT (s:=gW a n) (x:=a.getD i 0*n%1000003) (by rw[gW,qR,cQ (l:=a) aA];rfl),
    aMT (s:=gW a' n) (x:=a'.getD i 0*n%1000003) (by rw[gW,qR,cQ (l:=a') aA];rfl),e1]
 mul {a a' b b'} ha hb:=by
  have hb':=λi hi=>hb.get (i:=i) hi
  rcases ha with⟨rfl,rfl⟩|⟨a1,a2,a3⟩
  ·exact .inl ⟨rfl,rfl⟩
  ·refine .inr ⟨by rw[aDT];exact a1,by rw[aDT];exact a2,λi hi=>?_⟩
   rw[aMT (s:=mulL a b) (x:=x8 a b i (i+1)) bB7,
    aMT (s:=mulL a' b') (x:=x8 a' b' i (i+1)) bB7,aMR hi a3 hb' _ (bX _)]
 div {a a' b b'} ha hb:=by
  have hb':=λi hi=>hb.get (i:=i) hi
  rcases ha with⟨rfl,rfl⟩|⟨a1,a2,a3⟩
  ·exact .inl ⟨rfl,rfl⟩
  ·refine .inr ⟨by rw[o9];exact a1,by rw[o9];exact a2,λi hi=>?_⟩
   have e:∀ x:List Int,sF x i=sF (x.take m) i:=λx=>by rw[sF,sF,gG,gG,aHV hi]
   rw[e (fZ a b),e (fZ a' b'),fZ,fZ,tP a b _ a1,tP a' b' _ a2,aJV hm a3 hb' m (bX _)]
 const n:=.inr ⟨by simp[cS];exact h1,by simp[cS];exact h2,λi hi=>by rw[aAL _ _ aA,aAL _ _ aA]⟩
def aLI (sz:Nat) (dirs:List (List Int)) (D rg:Nat->List Int) (k:Nat) (c:bH):List Int :=
 if c.gS=1 then dirs.getD c.bB.toNat []
 else if c.gS=2 then cS 0 sz
 else if c.gS=3 then jJ (D c.fA.toNat) (D c.fB.toNat)
 else if c.gS=4 then lN (D c.fA.toNat) (D c.fB.toNat)
 else if c.gS=5 then jJ (mulL (D c.fA.toNat) (rg c.fB.toNat)) (mulL (rg c.fA.toNat) (D c.fB.toNat))
 else if c.gS=7 then gW (D c.fA.toNat) 1000002
 else fZ (lN (D c.fA.toNat) (mulL (rg k) (D c.fB.toNat))) (rg c.fB.toNat)
def drS (sz:Nat) (dirs:List (List Int)) (rg:Nat->List Int) (code:List bH):Nat->List (List Int)
 |0=>[]
 |k+1=>drS sz dirs rg code k++[aLI sz dirs (λi=>(drS sz dirs rg code k).getD i []) rg k (code.getD k ⟨0,0,0,0⟩)]
theorem aHK (sz:Nat) (dirs:List (List Int)) (rg:Nat->List Int) (code:List bH):∀ k,(drS sz dirs rg code k).length=k
 |0=>rfl
 |k+1=>by rw[drS,gD,aHK sz dirs rg code k];rfl
theorem aOZ (sz:Nat) (dirs:List (List Int)) (rg:Nat->List Int) (code:List bH) {r k:Nat} (hr:r<k):∀ n,k<=n->(drS sz dirs rg code n).getD r []=(drS sz dirs rg code k).getD r []
 |0,h=>by omega
 |n+1,h=>by
  rcases bT n k with h1|h1
  ·have:k=n+1:=by omega
   rw[this]
  ·rw[←aOZ sz dirs rg code hr n h1,drS,gG,tU (by rw[aHK];omega),gG]
def dgS (sz:Nat) (dirs:List (List Int)) (rg:Nat->List Int) (code:List bH) (k:Nat):List Int:=(drS sz dirs rg code code.length).getD k []
theorem aJW {sz:Nat} {dirs:List (List Int)} {rg:Nat->List Int} {code:List bH} {inp:Int} {k:Nat} {c:bH} (e:code[k]?=some c) (hi:bZ inp k c):dgS sz dirs rg code k=aLI sz dirs (dgS sz dirs rg code) rg k c:=by
 have h:=(iO.1 e).1
 have h1:dgS sz dirs rg code k=aLI sz dirs (λi=>(drS sz dirs rg code k).getD i []) rg k c:=by
  rw[dgS,aOZ sz dirs rg code (wN k) code.length h,drS,gG,v8 (by rw[aHK];exact bX _),aHK,sU,tA e];rfl
 have h2:∀ i,i<k->(drS sz dirs rg code k).getD i []=dgS sz dirs rg code i:=λi hi=>(aOZ sz dirs rg code hi code.length aA).symm
 rw[h1]
 unfold bZ at hi
 unfold aLI
 split
 ·rfl
 split
 ·rfl
 dsimp only
 rw[h2 c.fA.toNat aA]
 by_cases h7:c.gS=7
 ·rw[if_neg aA,if_neg aA,if_neg aA,if_pos h7,if_neg aA,if_neg aA,if_neg aA,if_pos h7]
 ·rw[h2 c.fB.toNat aA]
theorem aY1 {sz:Nat} (hsz:1<=sz) {dirs:List (List Int)} {rg:Nat->List Int} {code:List bH} {inp:Int} (hins:∀ i c,code[i]?=some c->bZ inp i c) (hd:∀ s∈dirs,bJ sz s) (hl:(dirs.length:Int)=inp) (hrg:∀ k,k<code.length->bJ sz (rg k)):∀ n k,k<n->k<code.length->bJ sz (dgS sz dirs rg code k)
 |0,k,h,_=>by omega
 |n+1,k,hn,hk=>by
  have ih:=λi hi=>aY1 hsz hins hd hl hrg n i hi
  have e:code[k]?=some code[k]:=eY hk
  have hc:=hins k _ e
  rw[aJW e hc]
  generalize code[k]=c at *
  unfold bZ at hc
  unfold aLI
  by_cases h1:c.gS=1
  ·rw[if_pos h1];exact xA hd aA
  rw[if_neg h1]
  by_cases h2:c.gS=2
  ·rw[if_pos h2];exact fS nD
  rw[if_neg h2]
  have da:=ih c.fA.toNat aA aA
  by_cases h3:c.gS=3
  ·rw[if_pos h3];exact mT da (ih _ aA aA)
  rw[if_neg h3]
  by_cases h4:c.gS=4
  ·rw[if_pos h4];exact mU da (ih _ aA aA)
  rw[if_neg h4]
  by_cases h5:c.gS=5
  ·rw[if_pos h5];exact mT (c6 _ da) (c6 _ (hrg _ aA))
  rw[if_neg h5]
  by_cases h7:c.gS=7
  ·rw[if_pos h7];exact eJ _ da
  ·rw[if_neg h7];exact k8 _ (mU da (c6 _ (hrg _ aA)))
def fA (A:List (List Int)) (i:Nat):Nat->Int:=sF (A.getD i [])
theorem a1F {a a':Nat->Nat->Int} (d:Nat->Nat->Int) (j:Nat) (m:Nat) (h:∀ k,k<m->a' k=a k):dT (λi=>eZ (a' i) (d i) j) m=dT (λi=>eZ (a i) (d i) j) m:=lO m λi hi=>by rw[h i hi]
theorem aO0 {a a':Nat->Nat->Int} {d:Nat->Nat->Int} {r j:Nat} {s:Nat->Int} (h:∀ k,¬k=r->a' k=a k) (hr:∀ q,q<=j->Cg (a' r q) (a r q+s q)):∀ m,r<m->Cg (dT (λi=>eZ (a' i) (d i) j) m) (dT (λi=>eZ (a i) (d i) j) m+eZ s (d r) j)
 |0,q=>by omega
 |m+1,q=>by
  rw[dT,dT]
  by_cases e:m=r
  ·subst e
   rw[a1F d j m λk hk=>h k aA]
   exact((Cg.refl _).add ((m7 j _ _ _ _ hr λi _=>Cg.refl _).trans (Cg.of_eq (yB j _ _ _)))).trans (Cg.of_eq aA)
  ·rw[h m e]
   exact((aO0 h hr m aA).add (Cg.refl _)).trans (Cg.of_eq aA)
theorem a5T {sz n:Nat} {A:List (List Int)} (hA:dH sz n A) {r:Int} (hr:r.toNat<n) {s:List Int} (hs:bJ sz s):(∀ k,¬k=r.toNat->fA (pO r s A) k=fA A k)/\∀ q,q<sz->Cg (fA (pO r s A) r.toNat q) (fA A r.toNat q+sF s q):=by
 refine⟨λk hk=>?_,λq hq=>?_⟩
 ·rw[fA,fA,pO,gG (l:=A.set _ _),rT (iK hk),←gG]
 ·rw[fA,pO,gG (l:=A.set _ _),qT (by rw[hA.1];exact hr)]
  exact aJQ (hA.get hr).2 hs hq
theorem aO1 {sz n:Nat} {A:List (List Int)} (hA:dH sz n A) {r:Int} {s:List Int} (hs:bJ sz s) {d:Nat->Nat->Int} {j m:Nat} (hj:j<sz) (hr:r.toNat<m) (hm:m<=n):Cg (dT (λi=>eZ (fA (pO r s A) i) (d i) j) m) (dT (λi=>eZ (fA A i) (d i) j) m+eZ (sF s) (d r.toNat) j) :=
 aO0 (a5T hA aA hs).1 (λq hq=>(a5T hA aA hs).2 q aA) m hr
theorem l3 (f g:Nat->Int):eZ f g=eZ g f:=funext λk=>pC k f g
theorem aCH (f g h:Nat->Int):eZ (eZ f g) h=eZ f (eZ g h):=funext λk=>pX k f g h
theorem bG9 {sz n y j:Nat} (hj:j<sz) (hy:y<n) {c:bH} {inp:Int} (hc:bZ inp y c) {rg:List (List Int)} (hrg:dH sz n rg) {A:List (List Int)} (hA:dH sz n A) {D:Nat->List Int} (hD:∀ k,k<n->bJ sz (D k)) {dirs:List (List Int)} (hop:D y=aLI sz dirs D (λi=>rg.getD i []) y c) :
  Cg (dT (λi=>eZ (fA A i) (sF (D i)) j) y+eZ (fA A y) (sF (D y)) j) (dT (λi=>eZ (fA (jR c rg y A) i) (sF (D i)) j) y+if c.gS=1 then eZ (fA A y) (sF (D y)) j else 0):=by
 have h0:=(hA.get hy).2
 have hc':=hc
 unfold bZ at hc
 have dy:=hD y hy
 unfold aLI at hop
 dsimp only at hop
 by_cases e1:c.gS=1
 ·rw[if_pos e1,jR,if_neg aA,if_neg aA,if_neg aA,if_neg aA,if_neg aA];exact Cg.refl _
 rw[if_neg e1]at hop ⊢
 by_cases e2:c.gS=2
 ·rw[if_pos e2]at hop
  rw[jR,if_neg aA,if_neg aA,if_neg aA,if_neg aA,if_neg aA]
  refine(Cg.refl _).add ((m7 j _ _ _ (λ_=>0) (λi _=>Cg.refl _) λi hi=>Cg.of_eq ?_).trans (Cg.of_eq ?_))
  ·rw[hop,aAL _ _ aA];split <;> rfl
  ·have:=aSJ 0 j (λ_=>0) (fA A y)
   simp only[Int.zero_mul]at this
   exact this
 rw[if_neg e2]at hop
 have ia:0<=c.fA/\c.fA<y:=by omega
 have da:=hD c.fA.toNat aA
 have fin:∀ {T e:Int},Cg T (dT (λi=>eZ (fA A i) (sF (D i)) j) y+e)->Cg (eZ (fA A y) (sF (D y)) j) e->Cg (dT (λi=>eZ (fA A i) (sF (D i)) j) y+eZ (fA A y) (sF (D y)) j) (T+0):=λhB h =>
  ((Cg.refl _).add h).trans (hB.symm.trans (Cg.of_eq aA))
 have one:∀ s1,bJ sz s1->Cg (dT (λi=>eZ (fA (pO c.fA s1 A) i) (sF (D i)) j) y) (dT (λi=>eZ (fA A i) (sF (D i)) j) y+eZ (sF s1) (sF (D c.fA.toNat)) j):=λs1 z1=>aO1 hA z1 (d:=λi=>sF (D i)) hj aA aA
 by_cases e7:c.gS=7
 ·rw[if_neg aA,if_neg aA,if_neg aA,if_pos e7]at hop
  rw[jR,if_neg aA,if_neg aA,if_neg aA,if_neg aA,if_pos e7]
  refine fin (one _ (eJ 1000002 h0)) ?_
  refine(m7 j _ _ _ (λi=>-(sF (D c.fA.toNat) i)) (λi _=>Cg.refl _) λi hi=>by rw[hop];exact aJR da aA).trans ?_
  refine Cg.trans (Cg.of_eq ?_) (m7 j _ (λi=>-(fA A y i)) _ _ (λi hi=>aJR h0 aA) λi _=>Cg.refl _).symm
  rw[aD5 j (sF (D c.fA.toNat)),aA7 j (fA A y)]
 have ib:0<=c.fB/\c.fB<y:=by omega
 have db:=hD c.fB.toNat aA
 have two:∀ s1 s2,bJ sz s1->bJ sz s2->Cg (dT (λi=>eZ (fA (pO c.fB s2 (pO c.fA s1 A)) i) (sF (D i)) j) y) (dT (λi=>eZ (fA A i) (sF (D i)) j) y+(eZ (sF s1) (sF (D c.fA.toNat)) j+eZ (sF s2) (sF (D c.fB.toNat)) j)):=λs1 s2 z1 z2 =>
  (aO1 (hA.put aA z1) z2 (d:=λi=>sF (D i)) hj aA aA).trans (((one s1 z1).add (Cg.refl _)).trans (Cg.of_eq aA))
 by_cases e3:c.gS=3
 ·rw[if_pos e3]at hop
  rw[jR,if_pos e3]
  refine fin (two _ _ h0 h0) ?_
  refine(m7 j _ _ _ (λi=>sF (D c.fA.toNat) i+sF (D c.fB.toNat) i) (λi _=>Cg.refl _) λi hi=>by rw[hop];exact aJQ da db aA).trans (Cg.of_eq ?_)
  rw[aAK j (sF (D c.fA.toNat))];rfl
 rw[if_neg e3]at hop
 by_cases e4:c.gS=4
 ·rw[if_pos e4]at hop
  rw[jR,if_neg e3,if_pos e4]
  refine fin (two _ _ h0 (eJ 1000002 h0)) ?_
  refine(m7 j _ _ _ (λi=>sF (D c.fA.toNat) i+-(sF (D c.fB.toNat) i)) (λi _=>Cg.refl _) λi hi=>by rw[hop];exact aJS da db aA).trans ?_
  refine Cg.trans (Cg.of_eq ?_) ((Cg.refl (eZ (sF (A.getD y [])) (sF (D c.fA.toNat)) j)).add (m7 j _ (λi=>-(fA A y i)) _ _ (λi hi=>aJR h0 aA) λi _=>Cg.refl _).symm)
  rw[aAK j (sF (D c.fA.toNat)) (λi=>-(sF (D c.fB.toNat) i)),aD5 j (sF (D c.fB.toNat)),aA7 j (fA A y)];rfl
 rw[if_neg e4]at hop
 have ra:=(hrg.get (i:=c.fA.toNat) aA).2
 have rb:=(hrg.get (i:=c.fB.toNat) aA).2
 have ry:=(hrg.get (i:=y) hy).2
 by_cases e5:c.gS=5
 ·rw[if_pos e5]at hop
  rw[jR,if_neg e3,if_neg e4,if_pos e5]
  refine fin (two _ _ (c6 _ h0) (c6 _ h0)) ?_
  generalize rg.getD c.fA.toNat []=ra' at *
  generalize rg.getD c.fB.toNat []=rb' at *
  refine(m7 j _ _ _ (λi=>eZ (sF (D c.fA.toNat)) (sF rb') i+eZ (sF ra') (sF (D c.fB.toNat)) i) (λi _=>Cg.refl _) λi hi=>by
   rw[hop]
   exact(aJQ (c6 _ da) (c6 _ ra) aA).trans ((yD _ da aA).add (yD _ ra aA))).trans ?_
  refine Cg.trans (Cg.of_eq ?_) ((m7 j _ (eZ (fA A y) (sF rb')) _ _ (λi hi=>yD _ h0 aA) λi _=>Cg.refl _).symm.add (m7 j _ (eZ (fA A y) (sF ra')) _ _ (λi hi=>yD _ h0 aA) λi _=>Cg.refl _).symm)
  rw[aAK j (eZ (sF (D c.fA.toNat)) (sF rb')) (eZ (sF ra') (sF (D c.fB.toNat))),pX,pX,l3 (sF rb')]
 ·have e6:c.gS=6:=by omega
  rw[if_neg e5,if_neg e7]at hop
  rw[jR,if_neg e3,if_neg e4,if_neg e5,if_pos e6]
  have hp:=k8 (rg.getD c.fB.toNat []) h0
  refine fin (two _ _ hp (eJ 1000002 (c6 _ hp))) ?_
  generalize rg.getD c.fB.toNat []=rb' at *
  generalize rg.getD y []=ry' at *
  have hm:=c6 (D c.fB.toNat) ry
  refine(m7 j _ _ _ (eZ (λi=>sF (D c.fA.toNat) i+-(eZ (sF ry') (sF (D c.fB.toNat)) i)) (sF (ivL rb' sz))) (λi _=>Cg.refl _) λi hi=>by
   rw[hop]
   exact(aJU (mU da hm) (i+1) i aA aA).trans (m7 i _ _ _ _ (λk hk=>(aJS da hm aA).trans ((Cg.refl _).add (aAJ (yD _ ry aA)))) λk _=>Cg.refl _)).trans ?_
  refine Cg.trans (Cg.of_eq ?_) ((m7 j _ (eZ (fA A y) (sF (ivL rb' sz))) _ _ (λi hi=>aJU h0 (i+1) i aA aA) λi _=>Cg.refl _).symm.add (m7 j _ (λi=>-(eZ (eZ (fA A y) (sF (ivL rb' sz))) (sF ry') i)) _ _ (λi hi =>
   (aJR (c6 _ hp) aA).trans (aAJ ((yD _ hp aA).trans (m7 i _ _ _ _ (λk hk=>aJU h0 (k+1) k aA aA) λk _=>Cg.refl _)))) λi _=>Cg.refl _).symm)
  have e:eZ (λi=>sF (D c.fA.toNat) i+-(eZ (sF ry') (sF (D c.fB.toNat)) i)) (sF (ivL rb' sz))=λi=>eZ (sF (D c.fA.toNat)) (sF (ivL rb' sz)) i+-(eZ (eZ (sF ry') (sF (D c.fB.toNat))) (sF (ivL rb' sz)) i):=funext λi=>by
   rw[yB i (sF (D c.fA.toNat)) (λi=>-(eZ (sF ry') (sF (D c.fB.toNat)) i)),aA7 i (eZ (sF ry') (sF (D c.fB.toNat)))]
  rw[e,aAK j (eZ (sF (D c.fA.toNat)) (sF (ivL rb' sz))) (λi=>-(eZ (eZ (sF ry') (sF (D c.fB.toNat))) (sF (ivL rb' sz)) i)),aD5 j (eZ (eZ (sF ry') (sF (D c.fB.toNat))) (sF (ivL rb' sz))),aA7 j (eZ (eZ (fA A y) (sF (ivL rb' sz))) (sF ry')),pX j (eZ (fA A y) (sF (ivL rb' sz))),pX j (fA A y),pX j (fA A y),l3 (sF (ivL rb' sz)) (sF (D c.fA.toNat)),l3 (sF (ivL rb' sz)) (eZ (sF ry') (sF (D c.fB.toNat)))]
theorem aU2 {y k:Nat} {c:bH} {inp:Int} (hc:bZ inp y c) (hy:y<=k) (rg A:List (List Int)):fA (jR c rg y A) k=fA A k:=by
 unfold bZ at hc
 have hp:∀ (r:Int) s B,0<=r/\r<y->fA (pO r s B) k=fA B k:=λr s B hr=>by
  rw[fA,fA,pO,gG (l:=B.set _ _),rT aA,←gG]
 unfold jR
 by_cases h3:c.gS=3
 ·rw[if_pos h3,hp _ _ _ aA,hp _ _ _ aA]
 rw[if_neg h3]
 by_cases h4:c.gS=4
 ·rw[if_pos h4,hp _ _ _ aA,hp _ _ _ aA]
 rw[if_neg h4]
 by_cases h5:c.gS=5
 ·rw[if_pos h5,hp _ _ _ aA,hp _ _ _ aA]
 rw[if_neg h5]
 by_cases h6:c.gS=6
 ·rw[if_pos h6,hp _ _ _ aA,hp _ _ _ aA]
 rw[if_neg h6]
 by_cases h7:c.gS=7
 ·rw[if_pos h7,hp _ _ _ aA]
 ·rw[if_neg h7]
theorem aMU {code:List bH} {inp:Int} (hins:∀ i c,code[i]?=some c->bZ inp i c) (rg A0:List (List Int)):∀ j k,j<=code.length->j<=k+1->fA (mG code rg A0 (code.length-j) j) k=fA (mG code rg A0 code.length 0) k
 |0,k,_,_=>rfl
 |j+1,k,hj,hk=>by
  rw[←aMU hins rg A0 j k aA aA]
  have ec:code[j]?=some code[j]:=eY aA
  rw[show code.length-j=(code.length-(j+1))+1 by omega,mG,tA ec,aU2 (hins j _ ec) aA]
def a95 (code:List bH) (L:List (List Int)) (D:Nat->List Int) (j k:Nat):Int:=if (code.getD k ⟨0,0,0,0⟩).gS=1 then eZ (fA L k) (sF (D k)) j else 0
theorem aJX {sz:Nat} (hsz:1<=sz/\sz<=1048576) {j:Nat} (hj:j<sz) {code:List bH} {inp:Int} (hins:∀ i c,code[i]?=some c->bZ inp i c) {rg A0:List (List Int)} (hrg:dH sz code.length rg) (hA0:dH sz code.length A0) {D:Nat->List Int} (hD:∀ k,k<code.length->bJ sz (D k)) {dirs:List (List Int)}
  (hop:∀ y c,code[y]?=some c->D y=aLI sz dirs D (λi=>rg.getD i []) y c) :
  ∀ m,m<=code.length->Cg (dT (λi=>eZ (fA (mG code rg A0 (code.length-m) m) i) (sF (D i)) j) m) (dT (a95 code (mG code rg A0 code.length 0) D j) m)
 |0,_=>Cg.refl _
 |y+1,hy=>by
  have ih:=aJX hsz hj hins hrg hA0 hD hop y aA
  have ec:code[y]?=some code[y]:=eY aA
  have hA:=pB hsz hins hrg hA0 (code.length-(y+1)) (y+1) aA
  have hk:=aMU hins rg A0 (y+1) y hy (bX _)
  have hs:mG code rg A0 (code.length-y) y=jR code[y] rg y (mG code rg A0 (code.length-(y+1)) (y+1)):=by
   rw[show code.length-y=(code.length-(y+1))+1 by omega,mG,tA ec]
  rw[hs]at ih
  generalize mG code rg A0 (code.length-(y+1)) (y+1)=A at *
  have hst:=bG9 hj aA (hins y _ ec) hrg hA hD (hop y _ ec)
  rw[dT,dT]
  refine hst.trans (ih.add (Cg.of_eq ?_))
  rw[a95,tA ec,hk]
theorem aD8 (f:Nat->Int) (j:Nat):eZ (λ_=>0) f j=0:=by
 have:=yC 0 j (λ_=>0) f
 simp only[Int.zero_mul]at this
 exact this
theorem aY2 (n sz k:Nat):fA (List.replicate n (u3 sz)) k=λ_=>0:=funext λq=>by
 rw[fA,gG,tY]
 split
 ·rw[sF,aEO,u3,gG,tY];split <;> rfl
 ·rfl
theorem aJY {F:Nat->Int} (h:∀ i,F i=0):∀ m,dT F m=0
 |0=>rfl
 |m+1=>by rw[dT,aJY h m,h m];rfl
theorem aY3 {sz j:Nat} (hj:j<sz) {code:List bH} {inp:Nat} (hins:∀ i c,code[i]?=some c->bZ inp i c) {L:List (List Int)} (hL:dH sz code.length L) {D:Nat->List Int} {Z:List (List Int)} (hd:∀ k c,code[k]?=some c->c.gS=1->D k=Z.getD c.bB.toNat []):∀ k,k<=code.length->Cg (dT (λi=>eZ (fA (byK code L sz inp k) i) (fA Z i) j) inp) (dT (a95 code L D j) k)
 |0,_=>Cg.of_eq (by rw[aJY λi=>by rw[byK,aY2,aD8]];rfl)
 |k+1,hk=>by
  have ih:=aY3 hj hins hL hd k aA
  have ec:code[k]?=some code[k]:=eY aA
  have hB:=vR hins hL k aA
  have hc:=hins k _ ec
  have hd:=hd k _ ec
  rw[dT,a95,byK,tA ec]
  generalize code[k]=c at *
  by_cases h1:c.gS=1
  ·rw[if_pos h1,if_pos h1,hd h1]
   have hn:0<=c.bB/\c.bB<inp:=by unfold bZ at hc;omega
   have h2:=aO1 hB (hL.get (i:=k) aA).2 (d:=λi=>fA Z i) (r:=c.bB) (m:=inp) hj aA (bX _)
   exact h2.trans (ih.add (Cg.refl _))
  ·rw[if_neg h1,if_neg h1]
   exact ih.trans (Cg.of_eq aA)
theorem aSR {sz j n:Nat} (hj:j<sz) {outs ws:List Int} (ho:∀ r∈outs,0<=r/\r<n) (hwn:dW ws) {d:Nat->Nat->Int}:∀ k,k<=outs.length->Cg (dT (λi=>eZ (fA (pA outs ws (List.replicate n (u3 sz)) k) i) (d i) j) n) (dT (λk=>ws.getD k 0*d (outs.getD k 0).toNat j) k)
 |0,_=>Cg.of_eq (by rw[aJY λi=>by rw[pA,aY2,aD8]];rfl)
 |k+1,hk=>by
  have ih:=aSR hj ho hwn (d:=d) k aA
  have hr:=ho (outs.getD k 0) a7T
  have hs:=r7 (sz:=sz) aA ho hwn k aA
  rw[pA,dT]
  generalize pA outs ws (List.replicate n (u3 sz)) k=A at *
  generalize outs.getD k 0=r at *
  have hq:=hs.get (i:=r.toNat) aA
  have h1:∀ q,¬q=r.toNat->fA (A.set r.toNat ((A.getD r.toNat []).set 0 (((A.getD r.toNat []).getD 0 0+ws.getD k 0)%1000003))) q=fA A q:=λq hq=>by
   rw[fA,fA,gG (l:=List.set A _ _),rT (iK hq),←gG]
  have h2:∀ q,q<=j->Cg (fA (A.set r.toNat ((A.getD r.toNat []).set 0 (((A.getD r.toNat []).getD 0 0+ws.getD k 0)%1000003))) r.toNat q) (fA A r.toNat q+ws.getD k 0*(if q=0 then 1 else 0)):=λq hqj=>by
   rw[fA,gG (l:=List.set A _ _),qT (by rw[hs.1];omega),aEO,sF,gG (l:=List.set _ 0 _)]
   by_cases e:q=0
   ·subst e
    rw[qT (by rw[hq.2.1];omega),if_pos rfl,aP3]
    exact Cg.mod _
   ·rw[rT (iK e),if_neg e,←gG]
    exact Cg.of_eq (by rw[fA,sF];omega)
  refine(aO0 h1 h2 n aA).trans (ih.add (Cg.of_eq ?_))
  rw[yC (ws.getD k 0) j (λq=>if q=0 then 1 else 0),l3,aHH]
def aSS (sz:Nat) (row Z:List (List Int)):Nat->List Int
 |0=>u3 sz
 |k+1=>jJ (aSS sz row Z k) (mulL (row.getD k []) (Z.getD k []))
theorem aD9 {sz n:Nat} {row Z:List (List Int)} (hr:dH sz n row):∀ k,k<=n->bJ sz (aSS sz row Z k)
 |0,_=>aFH sz
 |k+1,h=>mT (aD9 hr k aA) (c6 _ (hr.get (i:=k) aA).2)
theorem aJZ {sz n j:Nat} (hj:j<sz) {row Z:List (List Int)} (hr:dH sz n row):∀ k,k<=n->Cg (sF (aSS sz row Z k) j) (dT (λi=>eZ (fA row i) (fA Z i) j) k)
 |0,_=>Cg.of_eq (by rw[aSS,sF,u3,gG,tY,if_pos hj];rfl)
 |k+1,h=>(aJQ (aD9 hr k aA) (c6 _ (hr.get (i:=k) aA).2) hj).trans ((aJZ hj hr k aA).add (yD _ (hr.get (i:=k) aA).2 hj))
theorem aST {n o:Nat} (ho:o<n) (d:Nat->Int):∀ m,m<=n->dT (λk=>(eQ n o).getD k 0*d k) m=if o<m then d o else 0
 |0,_=>rfl
 |m+1,h=>by
  rw[dT,aST ho d m aA]
  by_cases e:o=m
  ·subst e
   rw[if_neg (bU _),if_pos (wN _),eQ,gG,qT (by rw[aGI];exact ho)];simp
  ·rw[aFG e]
   by_cases h2:o<m
   ·rw[if_pos h2,if_pos aA];omega
   ·rw[if_neg h2,if_neg aA];omega
theorem aY4 {sz:Nat} {a b:List Int} (ha:bJ sz a) (hb:bJ sz b) (h:∀ j,j<sz->Cg (sF a j) (sF b j)):a=b:=by
 apply u4
 ·rw[ha.1,hb.1]
 ·intro i h1 h2
  have:=(h i (by rw[←ha.1];exact h1)).num (ha.2.get i) (hb.2.get i)
  rw[sF,sF,gG,eY h1,gG,eY h2]at this
  exact this
theorem aY5 {sz:Nat} (hsz:1<=sz/\sz<=1048576) {code:List bH} {inp:Nat} (hins:∀ i c,code[i]?=some c->bZ inp i c) {outs:List Int} (ho:∀ r∈outs,0<=r/\r<code.length) {rg:List (List Int)} (hrg:dH sz code.length rg) {Z:List (List Int)} (hZ:dH sz inp Z) {o:Nat} (hol:o<outs.length) :
  aSS sz (byK code (mG code rg (pA outs (eQ outs.length o) (List.replicate code.length (u3 sz)) outs.length) code.length 0) sz inp code.length) Z inp=dgS sz Z (λi=>rg.getD i []) code (outs.getD o 0).toNat:=by
 have hwn:=nS outs.length o
 have hA0:=r7 (sz:=sz) hsz.1 ho hwn outs.length (bX _)
 have hD:∀ k,k<code.length->bJ sz (dgS sz Z (λi=>rg.getD i []) code k):=λk hk=>aY1 hsz.1 hins hZ.2 (by rw[hZ.1]) (λk hk=>(hrg.get hk).2) (k+1) k aA hk
 have hr0:=ho (outs.getD o 0) a2S
 have hA:=pB hsz hins hrg hA0 code.length 0 rfl
 have hB:=vR hins hA code.length (bX _)
 refine aY4 (aD9 hB inp (bX _)) (hD _ aA) λj hj=>?_
 have hps:=aSR hj ho hwn (d:=λi=>sF (dgS sz Z (λi=>rg.getD i []) code i)) outs.length (bX _)
 have h1:=aJX hsz hj hins hrg hA0 hD (λy c ec=>aJW ec (hins y c ec)) code.length (bX _)
 rw[sU,mG]at h1
 generalize pA outs (eQ outs.length o) (List.replicate code.length (u3 sz)) outs.length=A0 at *
 generalize mG code rg A0 code.length 0=A at *
 have h2:=aY3 hj hins hA (D:=dgS sz Z (λi=>rg.getD i []) code) (Z:=Z) (λk c ec h1=>by rw[aJW ec (hins k c ec),aLI,if_pos h1]) code.length (bX _)
 rw[aST hol (λk=>sF (dgS sz Z (λi=>rg.getD i []) code (outs.getD k 0).toNat) j) _ (bX _),if_pos hol]at hps
 exact(aJZ hj hB inp (bX _)).trans (h2.trans (h1.symm.trans hps))
structure Ops (α:Type) where
 z:α->Bool
 dv:α->α->α
 tk:α->α->α->α
def rQ {α:Type} (z:α->Bool) (M:Nat->Nat->α) (c n:Nat):Nat->Nat
 |0=>n
 |j+1=>if z (M (n-(j+1)) c)=true then rQ z M c n j else n-(j+1)
def mV {α:Type} (M:Nat->Nat->α) (c r:Nat):Nat->Nat->α:=λi k=>M (if i=c then r else if i=r then c else i) k
def zB {α:Type} (F:Ops α) (M:Nat->Nat->α) (c:Nat):Nat->Nat->α:=λi k=>if i=c then F.dv (M c k) (M c c)else F.tk (M i k) (M i c) (F.dv (M c k) (M c c))
def sO {α:Type} (F:Ops α) (n:Nat) (M:Nat->Nat->α):Nat->Option (Nat->Nat->α)
 |0=>some M
 |c+1=>match sO F n M c with
  |none=>none
  |some A=>if rQ F.z A c n (n-c)=n then none else some (zB F (mV A c (rQ F.z A c n (n-c))) c)
theorem aO2 {α:Type} (z:α->Bool) (M:Nat->Nat->α) (c n:Nat):∀ j,j<=n->n-j<=rQ z M c n j/\rQ z M c n j<=n
 |0,_=>⟨by rw[rQ];omega,by rw[rQ];omega⟩
 |j+1,h=>by
  have:=aO2 z M c n j aA
  rw[rQ]
  split <;> omega
theorem aO3 {α:Type} (z:α->Bool) (M:Nat->Nat->α) (c n:Nat):∀ j,j<=n->¬rQ z M c n j=n->z (M (rQ z M c n j) c)=false
 |0,_,h=>by rw[rQ]at h;omega
 |j+1,h,q=>by
  rw[rQ]at q ⊢
  by_cases e:z (M (n-(j+1)) c)=true
  ·rw[if_pos e]at q ⊢;exact aO3 z M c n j aA q
  ·rw[if_neg e]at q ⊢;simpa using e
def p6 (sz:Nat) (f g:Nat->Int):Prop:=∀ j,j<sz->Cg (f j) (g j)
theorem p6.refl {sz:Nat} (f:Nat->Int):p6 sz f f:=λj _=>Cg.refl _
theorem p6.symm {sz:Nat} {f g:Nat->Int} (h:p6 sz f g):p6 sz g f:=λj hj=>(h j hj).symm
theorem p6.trans {sz:Nat} {f g h:Nat->Int} (a:p6 sz f g) (b:p6 sz g h):p6 sz f h:=λj hj=>(a j hj).trans (b j hj)
theorem p6.conv {sz:Nat} {f f' g g':Nat->Int} (a:p6 sz f f') (b:p6 sz g g'):p6 sz (eZ f g) (eZ f' g'):=λj hj=>m7 j _ _ _ _ (λi hi=>a i aA) λi hi=>b i aA
theorem p6.sub {sz:Nat} {f f' g g':Nat->Int} (a:p6 sz f f') (b:p6 sz g g'):p6 sz (λi=>f i+-(g i)) (λi=>f' i+-(g' i)):=λj hj=>(a j hj).add (aAJ (b j hj))
theorem p6.sum {sz:Nat} {F G:Nat->Nat->Int} {n:Nat} (h:∀ k,k<n->p6 sz (F k) (G k)):p6 sz (λj=>dT (λk=>F k j) n) (λj=>dT (λk=>G k j) n):=λj hj=>aD6 n λk hk=>h k hk j hj
def aLJ:Nat->Int:=λi=>if i=0 then 1 else 0
theorem aJ0 (f:Nat->Int):eZ f aLJ=f:=funext λk=>aHH k f
theorem aJ1 (G:Nat->Nat->Int) (u:Nat->Int) (j:Nat):∀ n,eZ (λi=>dT (λk=>G k i) n) u j=dT (λk=>eZ (G k) u j) n
 |0=>aD8 u j
 |n+1=>by
  show eZ (λi=>dT (λk=>G k i) n+G n i) u j=_
  rw[yB j (λi=>dT (λk=>G k i) n) (G n),aJ1 G u j n];rfl
theorem aY6 (f u y:Nat->Int):eZ (eZ f u) y=eZ (eZ f y) u:=by rw[aCH,l3 u y,←aCH]
theorem aSU (F G:Nat->Int):∀ n,dT (λk=>F k+-(G k)) n=dT F n+-(dT G n)
 |0=>rfl
 |n+1=>by rw[dT,dT,dT,aSU F G n];omega
structure aU4 {α:Type} (F:Ops α) (sz:Nat) (ok:α->Prop) (den:α->Nat->Int):Prop where
 okd:∀ x d,ok x->ok d->F.z d=false->ok (F.dv x d)
 okt:∀ x f y,ok x->ok f->ok y->ok (F.tk x f y)
 dv:∀ d,ok d->F.z d=false->∃ iv:Nat->Int,(∀ x,ok x->p6 sz (den (F.dv x d)) (eZ (den x) iv))/\p6 sz (eZ (den d) iv) aLJ
 tk:∀ x f y,ok x->ok f->ok y->p6 sz (den (F.tk x f y)) (λi=>den x i+-(eZ (den f) (den y) i))
def rvF {α:Type} (den:α->Nat->Int) (M:Nat->Nat->α) (n:Nat) (y:Nat->Nat->Int) (i:Nat):Nat->Int:=λj=>dT (λk=>eZ (den (M i k)) (y k) j) n
def aU5 {α:Type} (den:α->Nat->Int) (sz:Nat) (M:Nat->Nat->α) (n:Nat) (y:Nat->Nat->Int):Prop:=∀ i,i<n->p6 sz (rvF den M n y i) (den (M i n))
def okM {α:Type} (ok:α->Prop) (n:Nat) (M:Nat->Nat->α):Prop:=∀ i,i<n->∀ k,k<=n->ok (M i k)
theorem a96 {α:Type} {den:α->Nat->Int} {sz n c r:Nat} (hc:c<n) (hr:r<n) (M:Nat->Nat->α) (y:Nat->Nat->Int):aU5 den sz M n y↔aU5 den sz (mV M c r) n y:=by
 constructor
 ·intro h i hi
  exact h (if i=c then r else if i=r then c else i) (by split;exact hr;split;exact hc;exact hi)
 ·intro h i hi
  by_cases e1:i=c
  ·have h2:=h r hr
   by_cases e2:r=c
   ·have h3:=h c hc
    have e3:∀ k,mV M c r c k=M c k:=λk=>by rw[mV,if_pos rfl,e2]
    unfold rvF at h3 ⊢
    simp only[e3]at h3
    rw[e1];exact h3
   ·have e3:∀ k,mV M c r r k=M c k:=λk=>by rw[mV,if_neg e2,if_pos rfl]
    unfold rvF at h2 ⊢
    simp only[e3]at h2
    rw[e1];exact h2
  ·by_cases e2:i=r
   ·have h2:=h c hc
    have e3:∀ k,mV M c r c k=M r k:=λk=>by rw[mV,if_pos rfl]
    unfold rvF at h2 ⊢
    simp only[e3]at h2
    rw[e2];exact h2
   ·have h2:=h i hi
    have e3:∀ k,mV M c r i k=M i k:=λk=>by rw[mV,if_neg e1,if_neg e2]
    unfold rvF at h2 ⊢
    simp only[e3]at h2
    exact h2
theorem aU6 {α:Type} {ok:α->Prop} {n c r:Nat} (hc:c<n) (hr:r<n) {M:Nat->Nat->α} (h:okM ok n M):okM ok n (mV M c r):=λi hi k hk =>
 h (if i=c then r else if i=r then c else i) (by split;exact hr;split;exact hc;exact hi) k hk
theorem aU7 {α:Type} {F:Ops α} {sz:Nat} {ok:α->Prop} {den:α->Nat->Int} (D:aU4 F sz ok den) {n c:Nat} (hc:c<n) {M:Nat->Nat->α} (h:okM ok n M) (hz:F.z (M c c)=false):okM ok n (zB F M c):=λi hi k hk=>by
 have hd:=D.okd _ _ (h c hc k hk) (h c hc c aA) hz
 unfold zB
 split
 ·exact hd
 ·exact D.okt _ _ _ (h i hi k hk) (h i hi c aA) hd
theorem a97 {α:Type} {F:Ops α} {sz:Nat} {ok:α->Prop} {den:α->Nat->Int} (D:aU4 F sz ok den) {n c:Nat} (hc:c<n) {M:Nat->Nat->α} (h:okM ok n M) (hz:F.z (M c c)=false) (y:Nat->Nat->Int):aU5 den sz M n y↔aU5 den sz (zB F M c) n y:=by
 obtain⟨iv,h1,h2⟩:=D.dv _ (h c hc c aA) hz
 have hdk:∀ k,k<=n->ok (F.dv (M c k) (M c c)):=λk hk=>D.okd _ _ (h c hc k hk) (h c hc c aA) hz
 have ec:∀ k,zB F M c c k=F.dv (M c k) (M c c):=λk=>by rw[zB,if_pos rfl]
 have ei:∀ i,¬i=c->∀ k,zB F M c i k=F.tk (M i k) (M i c) (F.dv (M c k) (M c c)):=λi hi k=>by rw[zB,if_neg hi]

 have hrc:p6 sz (rvF den (zB F M c) n y c) (eZ (rvF den M n y c) iv):=by
  refine p6.trans (g:=λj=>dT (λk=>eZ (eZ (den (M c k)) (y k)) iv j) n) ?_ ?_
  ·refine p6.sum (F:=λk=>eZ (den (zB F M c c k)) (y k)) (G:=λk=>eZ (eZ (den (M c k)) (y k)) iv) λk hk=>?_
   rw[ec,←aY6]
   exact(h1 _ (h c hc k aA)).conv (p6.refl _)
  ·intro j hj
   exact Cg.of_eq (aJ1 (λk=>eZ (den (M c k)) (y k)) iv j n).symm
 have hrb:p6 sz (den (zB F M c c n)) (eZ (den (M c n)) iv):=by rw[ec];exact h1 _ (h c hc n (bX _))
 have hback:∀ f:Nat->Int,p6 sz (eZ (eZ f iv) (den (M c c))) f:=λf=>by
  have h3:p6 sz (eZ f (eZ (den (M c c)) iv)) f:=by
   have:=(p6.refl (sz:=sz) f).conv h2
   rwa [aJ0]at this
  rw[aCH,l3 iv]
  exact h3
 have hci:p6 sz (rvF den M n y c) (den (M c n))↔p6 sz (rvF den (zB F M c) n y c) (den (zB F M c c n)):=by
  constructor
  ·intro q
   exact hrc.trans ((q.conv (p6.refl _)).trans hrb.symm)
  ·intro q
   have q2:=(hrc.symm.trans (q.trans hrb)).conv (p6.refl (den (M c c)))
   exact(hback _).symm.trans (q2.trans (hback _))

 have hri:∀ i,i<n->¬i=c->p6 sz (rvF den (zB F M c) n y i) (λj=>rvF den M n y i j+-(eZ (den (M i c)) (rvF den (zB F M c) n y c) j)):=λi hi hic=>by
  refine p6.trans (g:=λj=>dT (λk=>eZ (λq=>den (M i k) q+-(eZ (den (M i c)) (den (zB F M c c k)) q)) (y k) j) n) ?_ ?_
  ·refine p6.sum (F:=λk=>eZ (den (zB F M c i k)) (y k)) (G:=λk=>eZ (λq=>den (M i k) q+-(eZ (den (M i c)) (den (zB F M c c k)) q)) (y k)) λk hk=>?_
   rw[ei i hic,ec]
   exact(D.tk _ _ _ (h i hi k aA) (h i hi c aA) (hdk k aA)).conv (p6.refl _)
  ·intro j hj
   refine Cg.of_eq ?_
   have e1:∀ k,eZ (λq=>den (M i k) q+-(eZ (den (M i c)) (den (zB F M c c k)) q)) (y k) j=eZ (den (M i k)) (y k) j+-(eZ (eZ (den (zB F M c c k)) (y k)) (den (M i c)) j):=λk=>by
    rw[yB j (den (M i k)) (λq=>-(eZ (den (M i c)) (den (zB F M c c k)) q)),aA7 j (eZ (den (M i c)) (den (zB F M c c k))),l3 (den (M i c)),aY6]
   simp only[e1]
   rw[aSU,←aJ1 (λk=>eZ (den (zB F M c c k)) (y k)) (den (M i c)) j n,l3 (den (M i c))]
   rfl
 have hrd:∀ i,i<n->¬i=c->p6 sz (den (zB F M c i n)) (λj=>den (M i n) j+-(eZ (den (M i c)) (den (zB F M c c n)) j)):=λi hi hic=>by
  rw[ei i hic,ec]
  exact D.tk _ _ _ (h i hi n (bX _)) (h i hi c aA) (hdk n (bX _))
 constructor
 ·intro q i hi
  by_cases e:i=c
  ·subst e;exact hci.1 (q i hi)
  ·exact(hri i hi e).trans (((q i hi).sub ((p6.refl _).conv (hci.1 (q c hc)))).trans (hrd i hi e).symm)
 ·intro q i hi
  by_cases e:i=c
  ·subst e;exact hci.2 (q i hi)
  ·have h3:=(hri i hi e).symm.trans ((q i hi).trans (hrd i hi e))
   intro j hj
   have h4:=h3 j hj
   have h5:=(p6.refl (sz:=sz) (den (M i c))).conv (q c hc) j hj
   obtain⟨a,ha⟩:=h4
   obtain⟨b,hb⟩:=h5
   dsimp only at ha hb
   exact⟨a+b,by omega⟩
def aSV {α:Type} (den:α->Nat->Int) (sz:Nat) (M:Nat->Nat->α) (n c:Nat):Prop:=∀ i,i<n->∀ k,k<c->p6 sz (den (M i k)) (λj=>if i=k then aLJ j else 0)
theorem aJ3 (f:Nat->Int):eZ (λ_=>0) f=λ_=>0:=funext λj=>aD8 f j
theorem a5U {α:Type} {den:α->Nat->Int} {sz n c r:Nat} (hc:c<n) (hr:r<n) (hcr:c<=r) {M:Nat->Nat->α} (h:aSV den sz M n c):aSV den sz (mV M c r) n c:=λi hi k hk=>by
 unfold mV
 by_cases e1:i=c
 ·rw[if_pos e1]
  have:=h r hr k hk
  simp only[if_neg (show ¬r=k by omega)]at this
  simp only[if_neg (show ¬i=k by omega)]
  exact this
 ·rw[if_neg e1]
  by_cases e2:i=r
  ·rw[if_pos e2]
   have:=h c hc k hk
   simp only[if_neg (show ¬c=k by omega)]at this
   simp only[if_neg (show ¬i=k by omega)]
   exact this
  ·rw[if_neg e2];exact h i hi k hk
theorem a5V {α:Type} {F:Ops α} {sz:Nat} {ok:α->Prop} {den:α->Nat->Int} (D:aU4 F sz ok den) {n c:Nat} (hc:c<n) {M:Nat->Nat->α} (h:okM ok n M) (hz:F.z (M c c)=false) (hu:aSV den sz M n c):aSV den sz (zB F M c) n (c+1):=λi hi k hk=>by
 obtain⟨iv,h1,h2⟩:=D.dv _ (h c hc c aA) hz
 have hdk:ok (F.dv (M c k) (M c c)):=D.okd _ _ (h c hc k aA) (h c hc c aA) hz
 have hrow:p6 sz (den (F.dv (M c k) (M c c))) (λj=>if c=k then aLJ j else 0):=by
  refine(h1 _ (h c hc k aA)).trans ?_
  by_cases e:c=k
  ·subst e
   simp only[if_true]
   exact h2
  ·simp only[if_neg e]
   have h3:=hu c hc k aA
   simp only[if_neg e]at h3
   have:=h3.conv (p6.refl (sz:=sz) iv)
   rwa [aJ3]at this
 unfold zB
 by_cases e1:i=c
 ·rw[if_pos e1,e1];exact hrow
 ·rw[if_neg e1]
  refine(D.tk _ _ _ (h i hi k aA) (h i hi c aA) hdk).trans ?_
  have h3:=(p6.refl (sz:=sz) (den (M i c))).conv hrow
  by_cases e:c=k
  ·subst e
   simp only[if_true,if_neg e1]at h3 ⊢
   have h4:p6 sz (eZ (den (M i c)) λj=>aLJ j) (den (M i c)):=by
    have:eZ (den (M i c)) (λj=>aLJ j)=den (M i c):=aJ0 _
    rw[this];exact p6.refl _
   intro j hj
   obtain⟨a,ha⟩:=h3.trans h4 j hj
   exact⟨-a,by dsimp only;omega⟩
  ·simp only[if_neg e]at h3
   have h4:p6 sz (eZ (den (M i c)) λ_=>0) (λ_=>0):=by rw[l3,aJ3];exact p6.refl _
   have h5:=hu i hi k aA
   intro j hj
   obtain⟨a,ha⟩:=h3.trans h4 j hj
   obtain⟨b,hb⟩:=h5 j hj
   simp only[if_neg e]at hb
   exact⟨b-a,by dsimp only at ha ⊢;omega⟩
theorem aEA {α:Type} {F:Ops α} {sz:Nat} {ok:α->Prop} {den:α->Nat->Int} (D:aU4 F sz ok den) {n:Nat} {M:Nat->Nat->α} (h:okM ok n M):∀ c,c<=n->∀ A,sO F n M c=some A->okM ok n A/\(∀ y,aU5 den sz M n y↔aU5 den sz A n y)/\aSV den sz A n c
 |0,_,A,e=>by
  rw[sO]at e
  cases e
  exact⟨h,λ_=>Iff.rfl,λi _ k hk=>by omega⟩
 |c+1,hc,A,e=>by
  rw[sO]at e
  cases hB:sO F n M c with
  |none=>rw[hB]at e;cases e
  |some B =>
   rw[hB]at e
   simp only at e
   obtain⟨i1,i2,i3⟩:=aEA D h c aA B hB
   split at e
   ·cases e
   ·rename_i hne
    cases e
    have hge:=aO2 F.z B c n (n-c) aA
    have hnz:=aO3 F.z B c n (n-c) aA hne
    generalize rQ F.z B c n (n-c)=r at *
    have hr:r<n:=by omega
    have hz:F.z (mV B c r c c)=false:=by rw[mV,if_pos rfl];exact hnz
    have h1:=aU6 (ok:=ok) (by omega:c<n) hr i1
    exact⟨aU7 D aA h1 hz,λy=>((i2 y).trans (a96 aA hr B y)).trans (a97 D aA h1 hz y),a5V D aA h1 hz (a5U aA hr aA i3)⟩
theorem aMV (G:Nat->Int) {i:Nat}:∀ n,dT (λk=>if i=k then G k else 0) n=if i<n then G i else 0
 |0=>rfl
 |n+1=>by
  rw[dT,aMV G n]
  by_cases e:i=n
  ·subst e
   rw[if_neg (bU _),if_pos rfl,if_pos (wN _)];omega
  ·rw[if_neg e]
   by_cases h:i<n
   ·rw[if_pos h,if_pos aA];omega
   ·rw[if_neg h,if_neg aA];rfl
theorem aY7 {α:Type} {F:Ops α} {sz:Nat} {ok:α->Prop} {den:α->Nat->Int} (D:aU4 F sz ok den) {n:Nat} {M A:Nat->Nat->α} (h:okM ok n M) (e:sO F n M n=some A) (y:Nat->Nat->Int):aU5 den sz M n y↔∀ i,i<n->p6 sz (y i) (den (A i n)):=by
 obtain⟨_,h2,h3⟩:=aEA D h n (bX _) A e
 rw[h2 y]
 have hrv:∀ i,i<n->p6 sz (rvF den A n y i) (y i):=λi hi=>by
  refine p6.trans (g:=λj=>dT (λk=>if i=k then y k j else 0) n) ?_ ?_
  ·refine p6.sum (F:=λk=>eZ (den (A i k)) (y k)) (G:=λk j=>if i=k then y k j else 0) λk hk=>?_
   refine((h3 i hi k hk).conv (p6.refl _)).trans ?_
   by_cases e:i=k
   ·simp only[if_pos e]
    have:eZ (λj=>aLJ j) (y k)=y k:=by rw[l3];exact aJ0 _
    rw[this];exact p6.refl _
   ·simp only[if_neg e]
    rw[aJ3];exact p6.refl _
  ·intro j hj
   show Cg (dT (λk=>if i=k then y k j else 0) n) (y i j)
   rw[aMV (λk=>y k j),if_pos hi];exact Cg.refl _
 constructor
 ·intro q i hi;exact(hrv i hi).symm.trans (q i hi)
 ·intro q i hi;exact(hrv i hi).trans (q i hi)
theorem aO4 {α β:Type} {F:Ops α} {G:Ops β} {R:α->β->Prop} (hz:∀ x y,R x y->F.z x=G.z y) (hd:∀ x y d e,R x y->R d e->F.z d=false->R (F.dv x d) (G.dv y e)) (ht:∀ x y f g u v,R x y->R f g->R u v->R (F.tk x f u) (G.tk y g v))
  {n w:Nat} (hw:n<=w) {M:Nat->Nat->α} {N:Nat->Nat->β} (h:∀ i,i<n->∀ k,k<w->R (M i k) (N i k)):∀ c,c<=n->(sO F n M c=none/\sO G n N c=none)∨∃ A B,sO F n M c=some A/\sO G n N c=some B/\∀ i,i<n->∀ k,k<w->R (A i k) (B i k)
 |0,_=>.inr ⟨M,N,rfl,rfl,h⟩
 |c+1,hc=>by
  rcases aO4 hz hd ht hw h c aA with⟨h1,h2⟩|⟨A,B,h1,h2,h3⟩
  ·left
   rw[sO,sO,h1,h2];exact⟨rfl,rfl⟩
  have hp:∀ j,j<=n-c->rQ F.z A c n j=rQ G.z B c n j:=λj=>by
   induction j with
   |zero=>intro _;rfl
   |succ j ih =>
    intro hj
    rw[rQ,rQ,ih aA,hz _ _ (h3 (n-(j+1)) aA c aA)]
  have hge:=aO2 F.z A c n (n-c) aA
  have hnz:=aO3 F.z A c n (n-c) aA
  have hp':=hp (n-c) (bX _)
  rw[sO,sO,h1,h2]
  simp only[←hp']
  generalize rQ F.z A c n (n-c)=r at *
  by_cases e:r=n
  ·left;rw[if_pos e,if_pos e];exact⟨rfl,rfl⟩
  ·right
   rw[if_neg e,if_neg e]
   refine⟨_,_,rfl,rfl,λi hi k hk=>?_⟩
   have hs:∀ i,i<n->∀ k,k<w->R (mV A c r i k) (mV B c r i k):=λi hi k hk=>h3 (if i=c then r else if i=r then c else i) a2W k hk
   have hdd:=hd _ _ _ _ (hs c aA k hk) (hs c aA c aA) (by rw[mV,if_pos rfl];exact hnz e)
   unfold zB
   split
   ·exact hdd
   ·exact ht _ _ _ _ _ _ (hs i hi k hk) (hs i hi c aA) hdd
def gC:Ops Int:=⟨λx=>decide (x=0),λx d=>x*gZ d%1000003,λx f y=>(x-f*y%1000003)%1000003⟩
def p0:Ops (List Int):=⟨λs=>decide (s.getD 0 0=0),fZ,λx f y=>lN x (mulL f y)⟩
def bNU (n:Int):Nat->Int:=λi=>if i=0 then n else 0
theorem aY8:aU4 gC 1 iW bNU where
 okd _ _ _ _ _:=eO _
 okt _ _ _ _ _ _:=eO _
 dv d hd hz:=⟨bNU (gZ d),λx _ j hj=>by
  obtain rfl:j=0:=by omega
  exact Cg.mod _,λj hj=>by
  obtain rfl:j=0:=by omega
  exact inv_mul hd (of_decide_eq_false hz)⟩
 tk x f y _ _ _:=λj hj=>by
  obtain rfl:j=0:=by omega
  refine(Cg.mod _).trans ?_
  obtain⟨q,hq⟩:=Cg.mod (f*y)
  exact⟨-q,by show x-f*y%1000003=x+-(f*y)+1000003*-q;omega⟩
theorem bHB {sz:Nat} {d:List Int} (hd:bJ sz d) (h0:¬d.getD 0 0=0):p6 sz (eZ (sF d) (sF (ivL d sz))) aLJ:=λk hk=>by
 have hc:bJ sz (cS 1 sz):=fS nD
 have h1:=aJT d hc hk
 rw[aAL _ _ hk]at h1
 have h2:=inv_mul (hd.2.get 0) h0
 rw[l3,aHI,dT,sU]
 have e:fZ (cS 1 sz) d=ivL d sz:=rfl
 rw[e]at h1
 generalize dT (λi=>sF (ivL d sz) i*sF d (k-i)) k=S at *
 have h3:=h1.mul (Cg.refl (sF d 0))
 have e2:sF d 0=d.getD 0 0:=rfl
 rw[e2]at h3 ⊢
 have h4:Cg (((if k=0 then 1 else 0)-S)*gZ (d.getD 0 0)*d.getD 0 0) ((if k=0 then 1 else 0)-S):=by
  have:=(Cg.refl ((if k=0 then 1 else 0)-S)).mul h2
  rw[aP3]at this
  refine Cg.trans (Cg.of_eq ?_) this
  rw[aV1,aLO (gZ _)]
 have h5:=(Cg.refl S).add (h3.trans h4)
 refine h5.trans (Cg.of_eq ?_)
 show _=aLJ k
 unfold aLJ
 omega
theorem aEB (sz:Nat):aU4 p0 sz (bJ sz) sF where
 okd x d hx _ _:=k8 d hx
 okt x f y hx hf _:=mU hx (c6 _ hf)
 dv d hd hz:=⟨sF (ivL d sz),λx hx j hj=>aJU hx (j+1) j aA hj,bHB hd (of_decide_eq_false hz)⟩
 tk x f y hx hf hy:=λj hj=>(aJS hx (c6 _ hf) hj).trans ((Cg.refl _).add (aAJ (yD _ hf hj)))
def hdR (sz:Nat) (s:List Int) (x:Int):Prop:=bJ sz s/\s.getD 0 0=x
theorem a98 {sz:Nat} (hsz:1<=sz) {a:List Int} (b:List Int) (ha:bJ sz a):(fZ a b).getD 0 0=a.getD 0 0*gZ (b.getD 0 0)%1000003:=by
 have hl:0<a.length:=by rw[ha.1];exact hsz
 rw[gG,eY (by rw[o9];exact hl)]
 have:=aDS (a:=a) (b:=b) hl
 rw[aEO,this,dvS]
theorem a99 {sz:Nat} (hsz:1<=sz) {x f y:List Int} (hx:bJ sz x) (hf:bJ sz f):(lN x (mulL f y)).getD 0 0=(x.getD 0 0-f.getD 0 0*y.getD 0 0%1000003)%1000003:=by
 have h1:=(aJS hx (c6 y hf) (k:=0) hsz).trans ((Cg.refl _).add (aAJ (yD y hf (k:=0) hsz)))
 have h2:Cg ((x.getD 0 0-f.getD 0 0*y.getD 0 0%1000003)%1000003) (sF x 0+-(eZ (sF f) (sF y) 0)):=by
  refine(Cg.mod _).trans ?_
  obtain⟨q,hq⟩:=Cg.mod (f.getD 0 0*y.getD 0 0)
  exact⟨-q,by show x.getD 0 0-f.getD 0 0*y.getD 0 0%1000003=x.getD 0 0+-(f.getD 0 0*y.getD 0 0)+1000003*-q;omega⟩
 exact(h1.trans h2.symm).num ((mU hx (c6 y hf)).2.get 0) (eO _)
theorem aAM {sz n w:Nat} (hsz:1<=sz) (hw:n<=w) {M:Nat->Nat->List Int} (h:∀ i,i<n->∀ k,k<w->bJ sz (M i k)) {N:Nat->Nat->Int} (hN:∀ i,i<n->∀ k,k<n->(M i k).getD 0 0=N i k):sO p0 n M n=none↔sO gC n N n=none:=by
 have h1:=aO4 (F:=p0) (G:=gC) (R:=hdR sz) (λx y q=>by show decide (x.getD 0 0=0)=decide (y=0);rw[q.2]) (λx y d e q1 q2 _=>⟨k8 d q1.1,by rw[show p0.dv x d=fZ x d from rfl,a98 hsz d q1.1,q1.2,q2.2];rfl⟩)
  (λx y f g u v q1 q2 q3=>⟨mU q1.1 (c6 _ q2.1),by rw[show p0.tk x f u=lN x (mulL f u)from rfl,a99 hsz q1.1 q2.1,q1.2,q2.2,q3.2];rfl⟩) (n:=n) (w:=n) (bX _) (M:=M) (N:=N) (λi hi k hk=>⟨h i hi k aA,hN i hi k hk⟩) n (bX _)
 rcases h1 with⟨a,b⟩|⟨A,B,a,b,_⟩
 ·rw[a,b];exact⟨λ_=>rfl,λ_=>rfl⟩
 ·rw[a,b];exact⟨λq=>(by cases q),λq=>(by cases q)⟩
def dtF (n:Nat) (M:Nat->Nat->Int):Nat->Option ((Nat->Nat->Int)×Int)
 |0=>some (M,1)
 |c+1=>match dtF n M c with
  |none=>none
  |some (A,d)=>if rQ gC.z A c n (n-c)=n then none else some (λi k=>if c<i then gC.tk (mV A c (rQ gC.z A c n (n-c)) i k) (mV A c (rQ gC.z A c n (n-c)) i c*gZ (mV A c (rQ gC.z A c n (n-c)) c c)%1000003) (mV A c (rQ gC.z A c n (n-c)) c k)else mV A c (rQ gC.z A c n (n-c)) i k,(if c<rQ gC.z A c n (n-c)then(0-d)%1000003 else d)*mV A c (rQ gC.z A c n (n-c)) c c%1000003)
theorem bHC {x y:Int} (hx:iW x) (hy:iW y) (h1:¬x=0) (h2:¬y=0):¬x*y%1000003=0:=λh=>by
 obtain⟨q,hq⟩:=inv_mul hx h1
 have h3:x*y=1000003*(x*y / 1000003):=by omega
 generalize x*y / 1000003=r at h3
 have h4:Cg y 0:=⟨gZ x*r-q*y,by grind⟩
 exact h2 (h4.num hy qN)
theorem aU8 (x f iv y:Int):gC.tk x (f*iv%1000003) y=gC.tk x f (y*iv%1000003):=by
 have h:f*iv%1000003*y%1000003=f*(y*iv%1000003)%1000003:=by
  refine((Cg.mod _).trans (((Cg.mod (f*iv)).mul (Cg.refl y)).trans ?_)).num (eO _) (eO _)
  refine Cg.symm ((Cg.mod _).trans (((Cg.refl f).mul (Cg.mod (y*iv))).trans (Cg.of_eq ?_)))
  grind
 show(x-f*iv%1000003*y%1000003)%1000003=(x-f*(y*iv%1000003)%1000003)%1000003
 rw[h]
theorem bD4 {n:Nat} {M N:Nat->Nat->Int} (hM:∀ i,i<n->∀ k,k<n->iW (M i k)) (h:∀ i,i<n->∀ k,k<n->M i k=N i k):∀ c,c<=n->(dtF n M c=none/\sO gC n N c=none)∨∃ A d B,dtF n M c=some (A,d)/\sO gC n N c=some B/\(iW d/\¬d=0)/\(∀ i,i<n->∀ k,k<n->iW (A i k))/\∀ i,c<=i->i<n->∀ k,k<n->A i k=B i k
 |0,_=>.inr ⟨M,1,N,rfl,rfl,⟨by unfold iW;omega,by omega⟩,hM,λi _ hi k hk=>h i hi k hk⟩
 |c+1,hc=>by
  rcases bD4 hM h c aA with⟨h1,h2⟩|⟨A,d,B,h1,h2,hd,hA,h3⟩
  ·left
   rw[dtF,sO,h1,h2];exact⟨rfl,rfl⟩
  have hp:∀ j,j<=n-c->rQ gC.z A c n j=rQ gC.z B c n j:=λj=>by
   induction j with
   |zero=>intro _;rfl
   |succ j ih =>
    intro hj
    rw[rQ,rQ,ih aA,h3 (n-(j+1)) aA aA c aA]
  have hge:=aO2 gC.z A c n (n-c) aA
  have hnz:=aO3 gC.z A c n (n-c) aA
  have hp':=hp (n-c) (bX _)
  rw[dtF,sO,h1,h2]
  simp only[←hp']
  generalize rQ gC.z A c n (n-c)=r at *
  by_cases e:r=n
  ·left;rw[if_pos e,if_pos e];exact⟨rfl,rfl⟩
  right
  rw[if_neg e,if_neg e]
  have hs:∀ i,c<=i->i<n->∀ k,k<n->mV A c r i k=mV B c r i k:=λi hci hi k hk=>h3 (if i=c then r else if i=r then c else i) (by split;omega;split;omega;exact hci) a2W k hk
  have hsn:∀ i,i<n->∀ k,k<n->iW (mV A c r i k):=λi hi k hk=>hA (if i=c then r else if i=r then c else i) a2W k hk
  have hzc:¬mV A c r c c=0:=by
   have:=hnz e
   rw[mV,if_pos rfl]
   exact of_decide_eq_false this
  refine⟨_,_,_,rfl,rfl,⟨eO _,bHC ?_ (hsn c aA c aA) ?_ hzc⟩,λi hi k hk=>?_,λi hci hi k hk=>?_⟩
  ·split
   ·exact eO _
   ·exact hd.1
  ·have:=hd
   unfold iW at this
   split <;> omega
  ·split
   ·exact eO _
   ·exact hsn i hi k hk
  ·rw[if_pos aA,aU8,hs i aA hi k hk,hs i aA hi c aA,hs c (bX _) aA k hk,hs c (bX _) aA c aA,zB,if_neg aA]
   rfl
theorem aY9 {R:List Int->List Int->Prop} {sz sz':Nat} (H:a94 R sz sz') {code:List bH} {inp:Int} (hins:∀ i c,code[i]?=some c->bZ inp i c) {dirs dirs':List (List Int)} (hd:eG R dirs dirs') {rg rg':Nat->List Int} (hrg:∀ k,k<code.length->R (rg k) (rg' k)):∀ n k,k<n->k<code.length->R (dgS sz dirs rg code k) (dgS sz' dirs' rg' code k)
 |0,k,h,_=>by omega
 |n+1,k,hn,hk=>by
  have ih:=λi hi=>aY9 H hins hd hrg n i hi
  have e:code[k]?=some code[k]:=eY hk
  have hc:=hins k _ e
  rw[aJW e hc,aJW e hc]
  generalize code[k]=c at *
  unfold bZ at hc
  have hk':=hrg k hk
  unfold aLI
  by_cases h1:c.gS=1
  ·rw[if_pos h1,if_pos h1];exact hd.get H.nil _
  rw[if_neg h1,if_neg h1]
  by_cases h2:c.gS=2
  ·rw[if_pos h2,if_pos h2];exact H.const _
  rw[if_neg h2,if_neg h2]
  have da:=ih c.fA.toNat aA aA
  have db:=ih c.fB.toNat aA aA
  have ra:=hrg c.fA.toNat aA
  have rb:=hrg c.fB.toNat aA
  split
  ·exact H.add da db
  split
  ·exact H.sub da db
  split
  ·exact H.add (H.mul da rb) (H.mul ra db)
  split
  ·exact H.scl _ da
  ·exact H.div (H.sub da (H.mul hk' db)) rb
def St (start:List Int) (sz:Nat) (X:List (List Int)):Prop:=dH sz start.length X/\∀ i,i<start.length->(X.getD i []).getD 0 0=start.getD i 0
def cJ (start:List Int) (sz:Nat):List (List Int):=start.map λn=>cS n sz
theorem a1H {n i:Nat} (hi:i<n) (f:Nat->List Int):((List.range n).map f).getD i []=f i:=by
 rw[gG,qR,al9 hi];rfl
theorem St.len {start:List Int} {sz:Nat} {X:List (List Int)} (h:St start sz X) {i:Nat} (hi:i<start.length):(X.getD i []).length=sz:=(h.1.get hi).2.1
def qQ {α:Type} (n:Nat) (N:Nat->Nat->α) (r:Nat->α):Nat->Nat->α:=λi k=>if k<n then N i k else r i
theorem bHD {n:Nat} {N:Nat->Nat->Int} {r:Nat->Int} (hN:∀ i,i<n->∀ k,k<n->iW (N i k)) (hr:∀ i,i<n->iW (r i)):okM iW n (qQ n N r):=λi hi k _=>by
 unfold qQ
 split
 ·exact hN i hi k lB
 ·exact hr i hi
set_option maxRecDepth 100000
def sT (X:Out (List (List Int))):List Int×Int×Int:=match X with
 | .ok (vs,t)=>(vs.map (·.getD 0 0),t,0)
 | .error c=>([],0,c)
theorem aSW {X:Out (List (List Int))} {l:List (List Int)} {t:Nat} {c:Int} (h:kY X l t c):sT X=if c=0 then(l.map (·.getD 0 0),(t:Int),0)else([],0,c):=by
 cases X with
 |ok p =>
  obtain⟨w,u⟩:=p
  obtain⟨rfl,rfl,rfl⟩:=h
  rfl
 |error d =>
  obtain⟨rfl,h⟩:=h
  rw[if_neg h];rfl
theorem tB (l:List Int) (hl:l.length<=1048576):fE Tryz.prog 128 [ints l] (ints l):=aF9 (aUH l hl)
theorem aSX {l:List Int} {n len:Nat} {h h':aB} (x c:Int) (hn:h n=none) (hl:(aU h n (.row 1 ((l.map λx=>[I x]).map (List.map .v)))).le h') (e:len=l.length:=by simp) :
  ∃ r1 g l1,Shift (.gU [.os n 1 0 len,I x,I c]) h' r1 g/\QS (OS (oP I) 1 l) (λy=>.gU [y,I x,I c]) r1 l1/\fH h l1 g:=by
 subst e
 refine⟨.gU [(OV.sl n 1 (l.map λx=>[.v (I x)])).val,I x,I c],aU h n (.row 1 ((l.map λx=>[I x]).map (List.map .v))),_,?_,⟨_,OS.mk (zY l),rfl,rfl⟩,?_⟩
 ·rw[OV.iZ];exact Shift.of (Sub.refl _) hl
 ·rw[OV.eD,gP,fQ];exact fH.one hn
theorem aEC {h h':aB} (x c:Int) (hl:h.le h') :
  ∃ r1 g l1,Shift (.gU [.sl 1 [] true,I x,I c]) h' r1 g/\QS (OS (oP I) 1 []) (λy=>.gU [y,I x,I c]) r1 l1/\fH h l1 g :=
 ⟨.gU [(OV.nil 1).val,I x,I c],h,_,Shift.of (Sub.refl _) hl,⟨_,OS.nil,rfl,rfl⟩,by rw[OV.qK];exact fH.nil h⟩
@[go_sem] def aO5:List Nat:=[0,1,2,6,7,8,9,10,11,12,13,14,22,46,56]
@[go_sem] def bAA:List Nat:=[18,30,31,47,52,66]
@[go_sem] def bAB:Marks:=λid=>match id with|9=>([4],(.op 0 (.op 1 (.op 2 (.op 3 (.op 4 (.op 5 (.op 6 (.op 7 .nil)))))))),[])|15=>([4],(.op 0 (.op 1 (.op 2 (.op 3 (.op 4 (.op 5 (.op 6 (.op 7 .nil)))))))),[])|_=>([],.nil,[])
theorem aSY {p:aG} (hp:p.ok) (f:Int) (hf:0<=f/\f<p.aK.length) (args:List Int) (na:dW args) (hal:args.length<=12) (hl:∀ F,p.aK[f.toNat]?=some F->(args.length:Int)=F.aW) :
  FnN Tryz.prog 87 [.ip 1 [p.c] 0 0,I f,ints args] (QS (OS (oP I) 1 (sT (evF p 1 f (args.map λn=>[n]))).1) λy=>.gU [y,I (sT (evF p 1 f (args.map λn=>[n]))).2.1,I (sT (evF p 1 f (args.map λn=>[n]))).2.2]):=by
 obtain⟨F,ef,hF1,hF2,hF3,hF4⟩:=vK hp hf
 have hlF:=hl F ef
 rw[aG.aZ]
 refine aBE 73 aO5 bAA bAB Tryz.func87 λh=>?_
 simp -dsimp -implicitDefEqProofs only[go_sem,↓reduceIte,Tryz.f87]
 intro nb zb
 refine⟨bD,?_⟩
 have hbd:bV.row 4 [[Cell.v (.ip 1 [[gF 3 aX.c p.aK]] 0 0),Cell.v (I 1),Cell.v (I 0),Cell.v (I 0)]]=dY p 1 0 0:=rfl
 rw[hbd]
 have hB0:(aU h nb (dY p 1 0 0)) nb=some (dY p 1 0 0):=aI _ _ _
 have hBl:h.le (aU h nb (dY p 1 0 0)):=aB.bM zb (aB.le_refl _)
 generalize hgB:aU h nb (dY p 1 0 0)=hB at hB0 hBl ⊢
 refine aE8 aO5 bAA bAB (λx:Nat×Option Nat=>[(0,.ip 1 [[gF 3 aX.c p.aK]] 0 0),(1,I f),(2,ints args),(9,.op nb 4 0 0),(10,fT 1 (args.take x.1).length x.2),(11,I x.1)]) (λx=>cP hB (.row 1 ((((args.take x.1).map λn=>[n]).map λs=>[ints s]).map (List.map .v))) x.2) (λx=>x.1<=args.length/\eM hB (args.take x.1) x.2) (λx=>args.length-x.1) (0,none) ⟨by simp[cR,b6,fT],by simp only[aL];exact aB.kR (aB.le_refl _),eF _,by simp[eM]⟩ ?_
 rintro⟨k,o⟩ ⟨hk,hos⟩
 simp only at hk hos ⊢
 rcases bT k args.length with hlt|hge
 ·have ea:args[k]?=some args[k]:=eY hlt
  have hy:args.take (k+1)=args.take k++[args[k]]:=jF hlt
  have hlk:(args.take k).length=k:=by rw[mX];omega
  cases o with
  |none =>
   rw[aY]at hos
   rw[hos]at hy ⊢
   simp -dsimp -implicitDefEqProofs only[go_sem,↓reduceIte,Tryz.f87,bE,aL,hlt,ea]
   intro _
   refine⟨bD,bD,bD,bD,bD,λb hb=>⟨(k+1,some b),?_⟩⟩
   simp only[hy]
   refine⟨⟨rfl,by rw[IntWalk.i64_in _ aA];rfl⟩,aA0 (A:=[]) (x:=.sl 1 [[I args[k]]] true) (y:=ints [args[k]]) (aI _ _ _) (Sub.loose _ _ _) aCX,⟨by omega,hb⟩,by omega⟩
  |some n =>
   rw[aQ]at hos
   simp -dsimp -implicitDefEqProofs only[go_sem,↓reduceIte,Tryz.f87,aR,aJ,hlt,ea]
   intro _
   refine⟨bD,bD,bD,bD,bD,bX _,by omega,by omega,λb hb=>⟨(k+1,some b),?_⟩⟩
   simp only[hy,aJ,aR,aQ]
   refine⟨⟨by rw[gD];rfl,by rw[IntWalk.i64_in _ aA];rfl⟩,aA0 (x:=.sl 1 [[I args[k]]] true) (y:=ints [args[k]]) (aI _ _ _) (Sub.loose _ _ _) ?_,⟨by omega,hb.2⟩,by omega⟩
   have hl2:(args.take k).length=((args.take k).map λn=>[n]).length:=by rw[gT]
   rw[aO,lT,show((args.take k).map λn=>[n])++[args[k]].map (λn=>[n])=((args.take k).map λn=>[n])++[[args[k]]]from rfl,←dZ ints,hl2]
   exact jC hos
 have hk':k=args.length:=by omega
 subst hk'
 rw[nL]at hos ⊢
 have hserA:∀ s∈args.map (λn=>[n]),bJ 1 s:=λs hs=>by
  obtain⟨n,hn,rfl⟩:=lA.1 hs
  refine⟨rfl,λx hx=>?_⟩
  rw[jL.1 hx]
  exact na n hn
 have hlA:((args.map λn=>[n]).length:Int)=F.aW:=by rw[gT];exact hlF
 have hnbB:∀ {m:Nat},hB m=none->¬nb=m:=λhm e=>by rw[←e,hB0]at hm;cases hm
 cases o with
 |none =>
  rw[aY]at hos
  subst hos
  simp -dsimp -implicitDefEqProofs only[go_sem,↓reduceIte,Tryz.f87,bE,aL,bU,cT,ef]
  refine⟨hf.1,by omega,?_⟩
  have ho:=aHA (run hp (by decide:1<=1/\1<=1048576) 3001) hB nb 0 0 F [] f hB0 aA aA aA (by rw[gT]at hlA;rw[show(([]:List (List Int)).length:Int)=F.aW from hlA];exact hF4) hf.1 aA dG dG
  refine aH.gV (iV.sub (.cons (.refl _) (.cons (Sub.ip a2Y aWZ) (.cons (Sub.loose _ _ _) .nil))) ho) ?_
  rintro r h' ⟨vs,t,c,rfl,rfl,hvl,hvs,a1,a2,a3⟩
  have hCl:h.le (aU hB nb (dY p 1 t c)):=aB.bM zb hBl
  have hCn:(aU hB nb (dY p 1 t c)) nb=some (.row 4 [[.v (.ip 1 [p.c] 0 0),.v (I 1),.v (I t),.v (I c)]]):=aI _ _ _
  generalize aU hB nb (dY p 1 t c)=hC at hCn hCl ⊢
  rw[eV,←hF3]at a3
  simp -dsimp -implicitDefEqProofs only[go_sem,↓reduceIte,Tryz.f87,hCn]
  have qF:=aSW (show kY (evF p 1 f _) vs t c from a3)
  refine⟨λhc=>⟨bD,?_⟩,λhc=>⟨bD,?_⟩⟩
  ·try simp only[v7]
   rw[qF,if_neg hc]
   exact aEC 0 c hCl
  subst hc
  rw[if_pos rfl]at qF
  have hcv:(vs.map λs=>s.getD 0 0).length=vs.length:=gT _
  refine cM aO5 bAA bAB (λx:Nat×Option Nat=>[(9,.op nb 4 0 0),(12,bW vs),(13,fT 1 ((vs.map λs=>s.getD 0 0).take x.1).length x.2),(14,I x.1)]) (λx=>cP hC (.row 1 ((((vs.map λs=>s.getD 0 0).take x.1).map λn=>[I n]).map (List.map .v))) x.2) (λx=>x.1<=vs.length/\eM hC ((vs.map λs=>s.getD 0 0).take x.1) x.2) (λx=>vs.length-x.1) (0,none) ⟨by simp[cR,b6,fT],by simp only[aL];exact aB.le_refl _,eF _,by simp[eM]⟩ ?_
  rintro⟨k,o⟩ ⟨hk,hos⟩
  simp only at hk hos ⊢
  rcases bT k vs.length with hlt|hge
  ·have ea:vs[k]?=some vs[k]:=eY hlt
   have h0:=hvs _ (kM hlt)
   have e0:(vs[k])[Int.toNat 0]?=some (vs[k].getD 0 0):=cQ (by rw[h0.1];decide)
   have h0l:=h0.1
   have hy:(vs.map λs=>s.getD 0 0).take (k+1)=(vs.map λs=>s.getD 0 0).take k++[(vs.map λs=>s.getD 0 0)[k]'aA]:=jF aA
   have hlk:((vs.map λs=>s.getD 0 0).take k).length=k:=by rw[mX];omega
   rw[rU]at hy
   cases o with
   |none =>
    rw[aY]at hos
    rw[hos]at hy ⊢
    simp -dsimp -implicitDefEqProofs only[go_sem,↓reduceIte,Tryz.f87,bE,aL,hlt,ea,e0]
    repeat'(with_reducible first|intro _|refine And.intro ?_ ?_)
    all_goals try(first|omega|decide)
    rename_i b hb
    refine⟨(k+1,some b),?_⟩
    simp only[hy]
    refine⟨⟨rfl,?_⟩,aB.le_refl _,⟨by omega,hb⟩,by omega⟩
    rw[IntWalk.i64_in _ aA];rfl
   |some n =>
    rw[aQ]at hos
    simp -dsimp -implicitDefEqProofs only[go_sem,↓reduceIte,Tryz.f87,aR,aJ,hlt,ea,e0]
    repeat'(with_reducible first|intro _|refine And.intro ?_ ?_)
    all_goals try(first|omega|decide|exact bX _)
    rename_i b hb
    refine⟨(k+1,some b),?_⟩
    simp only[hy,aJ,aR,aQ]
    refine⟨⟨by rw[gD];rfl,?_⟩,?_,⟨by omega,hb.2⟩,by omega⟩
    ·rw[IntWalk.i64_in _ aA];rfl
    ·rw[←dZ];exact jC hos
  ·have hk':k=vs.length:=by omega
   subst hk'
   rw[nI aA]at hos ⊢
   cases o with
   |none =>
    rw[aY]at hos
    simp -dsimp -implicitDefEqProofs only[go_sem,↓reduceIte,Tryz.f87,bE,aL,bU,cT,hCn]
    intro _
    try simp only[v7]
    rw[qF,hos]
    exact aEC _ _ hCl
   |some n =>
    rw[aQ]at hos
    obtain⟨aCD,iP,iQ,rK⟩:=cW (show ¬n=nb from λe=>by rw[e,hCn]at hos;cases hos)
    simp -dsimp -implicitDefEqProofs only[go_sem,↓reduceIte,Tryz.f87,aR,aJ,bU,cT,aC,iP,iQ,hCn]
    intro _
    try simp only[v7]
    rw[qF]
    exact aSX _ _ (aB.le_none hCl hos) (aB.oB hCl)
 |some n =>
  rw[aQ]at hos
  simp -dsimp -implicitDefEqProofs only[go_sem,↓reduceIte,Tryz.f87,aR,aJ,bU,cT,ef]
  intro _
  refine⟨hf.1,by omega,?_⟩
  have hnn:=hnbB hos
  refine aH.a4P rfl rfl hnn (by rw[gT,gT]) hos ?_
  have ho:=aHA (run hp (by decide:1<=1/\1<=1048576) 3001) (aU hB n .gone) nb 0 0 F (args.map λn=>[n]) f (by rw[aC _ _ _ _ hnn];exact hB0) aA aA aA (by rw[hlA];exact hF4) hf.1 aA hserA (by rw[gT];omega)
  refine iV.mono (iV.sub (.cons (.refl _) (.cons (Sub.ip a2Y aWZ) (.cons (.refl _) .nil))) ho) ?_
  rintro r h' ⟨vs,t,c,rfl,rfl,hvl,hvs,a1,a2,a3⟩
  have hhn:h n=none:=by rw[←hgB,aC _ _ _ _ (iK hnn)]at hos;exact hos
  have hCl:h.le (aU (aU hB n .gone) nb (dY p 1 t c)):=aB.bM zb (aB.bM hhn hBl)
  have hCn:(aU (aU hB n .gone) nb (dY p 1 t c)) nb=some (.row 4 [[.v (.ip 1 [p.c] 0 0),.v (I 1),.v (I t),.v (I c)]]):=aI _ _ _
  generalize aU (aU hB n .gone) nb (dY p 1 t c)=hC at hCn hCl ⊢
  rw[eV,←hF3]at a3
  simp -dsimp -implicitDefEqProofs only[go_sem,↓reduceIte,Tryz.f87,hCn]
  have qF:=aSW (show kY (evF p 1 f _) vs t c from a3)
  refine⟨λhc=>⟨bD,?_⟩,λhc=>⟨bD,?_⟩⟩
  ·try simp only[v7]
   rw[qF,if_neg hc]
   exact aEC 0 c hCl
  subst hc
  rw[if_pos rfl]at qF
  have hcv:(vs.map λs=>s.getD 0 0).length=vs.length:=gT _
  refine cM aO5 bAA bAB (λx:Nat×Option Nat=>[(9,.op nb 4 0 0),(12,bW vs),(13,fT 1 ((vs.map λs=>s.getD 0 0).take x.1).length x.2),(14,I x.1)]) (λx=>cP hC (.row 1 ((((vs.map λs=>s.getD 0 0).take x.1).map λn=>[I n]).map (List.map .v))) x.2) (λx=>x.1<=vs.length/\eM hC ((vs.map λs=>s.getD 0 0).take x.1) x.2) (λx=>vs.length-x.1) (0,none) ⟨by simp[cR,b6,fT],by simp only[aL];exact aB.le_refl _,eF _,by simp[eM]⟩ ?_
  rintro⟨k,o⟩ ⟨hk,hos⟩
  simp only at hk hos ⊢
  rcases bT k vs.length with hlt|hge
  ·have ea:vs[k]?=some vs[k]:=eY hlt
   have h0:=hvs _ (kM hlt)
   have e0:(vs[k])[Int.toNat 0]?=some (vs[k].getD 0 0):=cQ (by rw[h0.1];decide)
   have h0l:=h0.1
   have hy:(vs.map λs=>s.getD 0 0).take (k+1)=(vs.map λs=>s.getD 0 0).take k++[(vs.map λs=>s.getD 0 0)[k]'aA]:=jF aA
   have hlk:((vs.map λs=>s.getD 0 0).take k).length=k:=by rw[mX];omega
   rw[rU]at hy
   cases o with
   |none =>
    rw[aY]at hos
    rw[hos]at hy ⊢
    simp -dsimp -implicitDefEqProofs only[go_sem,↓reduceIte,Tryz.f87,bE,aL,hlt,ea,e0]
    repeat'(with_reducible first|intro _|refine And.intro ?_ ?_)
    all_goals try(first|omega|decide)
    rename_i b hb
    refine⟨(k+1,some b),?_⟩
    simp only[hy]
    refine⟨⟨rfl,?_⟩,aB.le_refl _,⟨by omega,hb⟩,by omega⟩
    rw[IntWalk.i64_in _ aA];rfl
   |some n =>
    rw[aQ]at hos
    simp -dsimp -implicitDefEqProofs only[go_sem,↓reduceIte,Tryz.f87,aR,aJ,hlt,ea,e0]
    repeat'(with_reducible first|intro _|refine And.intro ?_ ?_)
    all_goals try(first|omega|decide|exact bX _)
    rename_i b hb
    refine⟨(k+1,some b),?_⟩
    simp only[hy,aJ,aR,aQ]
    refine⟨⟨by rw[gD];rfl,?_⟩,?_,⟨by omega,hb.2⟩,by omega⟩
    ·rw[IntWalk.i64_in _ aA];rfl
    ·rw[←dZ];exact jC hos
  ·have hk':k=vs.length:=by omega
   subst hk'
   rw[nI aA]at hos ⊢
   cases o with
   |none =>
    rw[aY]at hos
    simp -dsimp -implicitDefEqProofs only[go_sem,↓reduceIte,Tryz.f87,bE,aL,bU,cT,hCn]
    intro _
    try simp only[v7]
    rw[qF,hos]
    exact aEC _ _ hCl
   |some n =>
    rw[aQ]at hos
    obtain⟨aCD,iP,iQ,rK⟩:=cW (show ¬n=nb from λe=>by rw[e,hCn]at hos;cases hos)
    simp -dsimp -implicitDefEqProofs only[go_sem,↓reduceIte,Tryz.f87,aR,aJ,bU,cT,aC,iP,iQ,hCn]
    intro _
    try simp only[v7]
    rw[qF]
    exact aSX _ _ (aB.le_none hCl hos) (aB.oB hCl)
theorem aZA {p:aG} (hp:p.ok) (f:Int) (hf:0<=f/\f<p.aK.length) (args:List Int) (na:dW args) (hal:args.length<=12) (hl:∀ F,p.aK[f.toNat]?=some F->(args.length:Int)=F.aW) :
  fE Tryz.prog 87 [.ip 1 [p.c] 0 0,I f,ints args] (.gU [ints (sT (evF p 1 f (args.map λn=>[n]))).1,I (sT (evF p 1 f (args.map λn=>[n]))).2.1,I (sT (evF p 1 f (args.map λn=>[n]))).2.2]) :=
 QS.bFN (aSY hp f hf args na hal hl) (λy hy=>OS.qG (c:=λn=>[I n]) (λ_ _ q=>aNU q) hy) (aDL [] [I (sT (evF p 1 f (args.map λn=>[n]))).2.1,I (sT (evF p 1 f (args.map λn=>[n]))).2.2])
@[go_sem] def a5W:List Nat:=[0,1,2,3,8,9,10,11,12,13,31,41]
@[go_sem] def bNW:List Nat:=[32,37,50]
@[go_sem] def bNX:Marks:=λid=>match id with|4=>([4],(.op 0 (.op 1 (.op 2 (.op 3 (.op 4 (.op 5 (.op 6 .nil))))))),[])|_=>([],.nil,[])
theorem aZB {p:aG} (hp:p.ok) {sz:Nat} (hsz:1<=sz/\sz<=1048576) (f:Int) (hf:0<=f/\f<p.aK.length) (args:List (List Int)) (ha:∀ s∈args,bJ sz s) (hl:∀ F,p.aK[f.toNat]?=some F->(args.length:Int)=F.aW) :
  fE Tryz.prog 69 [.ip 1 [p.c] 0 0,I f,bW args,I sz] (.gU [bW (aDX (evF p sz f args)).1,I (aDX (evF p sz f args)).2.2]):=by
 obtain⟨F,ef,hF1,hF2,hF3,hF4⟩:=vK hp hf
 have hlF:=hl F ef
 rw[aG.aZ]
 refine lS 53 a5W bNW bNX Tryz.func69 λh=>?_
 simp -dsimp -implicitDefEqProofs only[go_sem,↓reduceIte,Tryz.f69,ef]
 intro nb zb
 refine⟨hf.1,by omega,?_⟩
 refine aH.gV (iV.sub (.cons (.refl _) (.cons (Sub.ip a2Y aWZ) (.cons (.refl _) .nil))) (aHA (run hp hsz 3001) (aU h nb (dY p sz 0 0)) nb 0 0 F args f (aI _ _ _) aA aA aA (by rw[hlF];exact hF4) hf.1 aA ha aA)) ?_
 rintro r h' ⟨vs,t,c,rfl,rfl,hvl,hvs,a1,a2,a3⟩
 rw[eV,←hF3]at a3
 have qF:=a4U (show kY (evF p sz f args) vs t c from a3)
 rw[aO]
 have hBn:(aU h nb (dY p sz t c)) nb=some (.row 4 [[.v (.ip 1 [p.c] 0 0),.v (I sz),.v (I t),.v (I c)]]):=aI _ _ _
 have hBl:h.le (aU h nb (dY p sz t c)):=aB.bM zb (aB.le_refl _)
 generalize aU h nb (dY p sz t c)=hB at hBn hBl ⊢
 simp -dsimp -implicitDefEqProofs only[go_sem,↓reduceIte,Tryz.f69,hBn]
 refine⟨λhc=>⟨bD,?_⟩,λhc=>⟨bD,?_⟩⟩
 ·rw[qF,if_neg hc]
  exact Shift.of (Sub.gU (.cons (Sub.loose _ _ _) (.cons (.refl _) .nil))) hBl
 subst hc
 rw[if_pos rfl]at qF
 refine cM a5W bNW bNX (λx:Nat×Option Nat=>[(10,.op nb 4 0 0),(11,bW vs),(12,fT 1 (vs.take x.1).length x.2),(13,I x.1)]) (λx=>cP hB (.row 1 (((vs.take x.1).map λs=>[ints s]).map (List.map .v))) x.2) (λx=>x.1<=vs.length/\eM hB (vs.take x.1) x.2) (λx=>vs.length-x.1) (0,none) ⟨by simp[cR,b6,fT],by simp only[aL];exact aB.le_refl _,eF _,by simp[eM]⟩ ?_
 rintro⟨k,o⟩ ⟨hk,hos⟩
 simp only at hk hos ⊢
 rcases bT k vs.length with hlt|hge
 ·have ea:vs[k]?=some vs[k]:=eY hlt
  have hy:vs.take (k+1)=vs.take k++[vs[k]]:=jF hlt
  have hlk:(vs.take k).length=k:=by rw[mX];omega
  have hsk:=hvs _ (kM hlt)
  cases o with
  |none =>
   rw[aY]at hos
   rw[hos]at hy ⊢
   simp -dsimp -implicitDefEqProofs only[go_sem,↓reduceIte,Tryz.f69,bE,aL,hlt,ea]
   intro _
   first|refine aH.mk (tB vs[k] aFS) ?_|refine aF.mk (tB vs[k] aFS) ?_|refine aH.bI (tB vs[k] aFS) ?_|refine aF.mk (bC.dI (tB vs[k] aFS)) ?_
   simp -dsimp -implicitDefEqProofs only[go_sem,↓reduceIte,Tryz.f69]
   repeat'(with_reducible first|intro _|refine And.intro ?_ ?_)
   all_goals try(first|omega|decide)
   rename_i b hb
   refine⟨(k+1,some b),?_⟩
   simp only[hy]
   refine⟨⟨rfl,?_⟩,aB.le_refl _,⟨by omega,hb⟩,by omega⟩
   rw[IntWalk.i64_in _ aA];rfl
  |some n =>
   rw[aQ]at hos
   simp -dsimp -implicitDefEqProofs only[go_sem,↓reduceIte,Tryz.f69,aR,aJ,hlt,ea]
   intro _
   first|refine aH.mk (tB vs[k] aFS) ?_|refine aF.mk (tB vs[k] aFS) ?_|refine aH.bI (tB vs[k] aFS) ?_|refine aF.mk (bC.dI (tB vs[k] aFS)) ?_
   simp -dsimp -implicitDefEqProofs only[go_sem,↓reduceIte,Tryz.f69]
   repeat'(with_reducible first|intro _|refine And.intro ?_ ?_)
   all_goals try(first|omega|decide|exact bX _)
   rename_i b hb
   refine⟨(k+1,some b),?_⟩
   simp only[hy,aJ,aR,aQ]
   refine⟨⟨by rw[gD];rfl,?_⟩,?_,⟨by omega,hb.2⟩,by omega⟩
   ·rw[IntWalk.i64_in _ aA];rfl
   ·rw[←dZ];exact jC hos
 ·have hk':k=vs.length:=by omega
  subst hk'
  rw[nL]at hos ⊢
  cases o with
  |none =>
   rw[aY]at hos
   simp -dsimp -implicitDefEqProofs only[go_sem,↓reduceIte,Tryz.f69,bE,aL,bU,cT]
   intro _
   rw[qF,hos]
   exact Shift.of (Sub.gU (.cons (Sub.loose _ _ _) (.cons (.refl _) .nil))) hBl
  |some n =>
   rw[aQ]at hos
   simp -dsimp -implicitDefEqProofs only[go_sem,↓reduceIte,Tryz.f69,aR,aJ,bU,cT]
   intro _
   rw[qF]
   refine Shift.trans (kS (vs.map λs=>[ints s]) hos (aB.le_refl _) aH3 ?_) (eK hBl)
   simp[aE.fG,l5,nI]
theorem aMW (n:Int):FnN Tryz.prog 51 [I n,I 2] (QS (OS (oP I) 1 [n,0])):=by
 refine aBE 14 aOI cU cF Tryz.func51 λh=>?_
 simp -dsimp -implicitDefEqProofs only[go_sem,↓reduceIte,Tryz.f51,n0,n2,bTJ]
 refine⟨bD,by decide,λm hm=>⟨λ_=>⟨by decide,?_⟩,λq=>absurd bO q⟩⟩
 rw[aO]
 exact vE (c:=I) (l:=[n,0]) hm
theorem aHL (n i:Nat) (hn:n<=1048576) (hi:i<n):fE Tryz.prog 163 [I n,I i] (ints (eQ n i)):=by
 have e1:(List.replicate n [aE.int .i64 0])[i]?=some [aE.int .i64 0]:=by rw[tY,if_pos hi]
 refine lS 12 bCY cU cF Tryz.func163 λh=>?_
 simp -dsimp -implicitDefEqProofs only[go_sem,↓reduceIte,Tryz.f163,e1,tX]
 refine⟨bD,bX _,by omega,by omega,λm hm=>⟨by omega,?_⟩⟩
 rw[aO,vF,qM I]
 exact eT (eQ n i) hm (aB.le_refl _) (by simp[eQ])
theorem fH.rL {h g:aB} {n:Nat} {o:bV} (w:fH h [(n,o)] g):h n=none/\g=aU h n o:=by
 refine⟨w.fresh n aQH,?_⟩
 funext q
 rw[gB]
 split
 ·rename_i e;rw[e];exact w.oY (n,o) zD
 ·rename_i e;exact w.upto q (by simp[bF,e])
@[go_sem] def aZC:List Nat:=[0,1,2,6,7,8,9,14,25]
@[go_sem] def bD5:List Nat:=[10,34]
theorem aED (args dir:List Int) (hd:dir.length=args.length) (hal:args.length<=1048576):fE Tryz.prog 196 [ints args,ints dir,I 1] (bW (dX args dir)):=by
 have hc:=aFE hd
 refine lS 37 aZC bD5 cF Tryz.func196 λh=>?_
 simp -dsimp -implicitDefEqProofs only[go_sem,↓reduceIte,Tryz.f196]
 refine⟨bD,?_⟩
 refine aE8 aZC bD5 cF (λx:Nat×Option Nat=>[(0,ints args),(1,ints dir),(2,I 1),(7,fT 1 ((dX args dir).take x.1).length x.2),(8,I x.1)]) (λx=>cP h (.row 1 ((((dX args dir).take x.1).map λs=>[ints s]).map (List.map .v))) x.2) (λx=>x.1<=args.length/\eM h ((dX args dir).take x.1) x.2) (λx=>args.length-x.1) (0,none) ⟨by simp[cR,b6,fT],by simp only[aL];exact aB.kR (aB.le_refl _),eF _,by simp[eM]⟩ ?_
 rintro⟨k,o⟩ ⟨hk,hos⟩
 simp only at hk hos ⊢
 rcases bT k args.length with hlt|hge
 ·have ea:args[k]?=some args[k]:=eY hlt
  have ed:dir[k]?=some (dir[k]'aA):=eY aA
  have hy:(dX args dir).take (k+1)=(dX args dir).take k++[(dX args dir)[k]'aA]:=jF aA
  have hv:(dX args dir)[k]'aA=[args[k],dir[k]'aA]:=by simp[dX]
  have hlk:((dX args dir).take k).length=k:=by rw[mX];omega
  rw[hv]at hy
  cases o with
  |none =>
   rw[aY]at hos
   rw[hos]at hy ⊢
   simp -dsimp -implicitDefEqProofs only[go_sem,↓reduceIte,Tryz.f196,bE,aL,hlt,ea,ed,w2]
   intro _
   refine aH.wn0 (aMW args[k]) ?_
   rintro r l g ⟨y,oy,rfl,rfl⟩ wn
   rcases oy.y5 with⟨_,q⟩|⟨m,rfl⟩
   ·cases q
   rw[OV.iZ]
   rw[OV.eD,gP,fQ]at wn
   obtain⟨z_m,rfl⟩:=wn.rL
   simp -dsimp -implicitDefEqProofs only[go_sem,↓reduceIte,Tryz.f196,ea,ed,w2,n0,n1,n2,aO]
   refine⟨λ_=>⟨by omega,by decide,bD,bD,bD,?_⟩,λq=>absurd bO q⟩
   intro b q_b
   obtain⟨vM,nB,nC,uN⟩:=cW (show ¬b=m from pjx q_b)
   have z_b:h b=none:=pjx q_b
   refine⟨(k+1,some b),?_⟩
   simp only[hy]
   refine⟨⟨rfl,by rw[IntWalk.i64_in _ aA];rfl⟩,aOM (m:=m) (b:=b) [] [args[k],dir[k]'aA] (by rw[aC _ _ _ _ uN,aI];rfl) (by rw[aI];rfl) vM (by simp only[aJ];exact(nH (by repeat'(first|exact p7 _ _|refine sV (by simp only[gB,↓reduceIte,eq_self,if_true,nB,nC]) ?_|refine nV aCT ?_)))),⟨by omega,z_b⟩,by omega⟩
  |some n =>
   rw[aQ]at hos
   simp -dsimp -implicitDefEqProofs only[go_sem,↓reduceIte,Tryz.f196,aR,aJ,hlt,ea,ed,w2]
   intro _
   refine aH.wn1 (aMW args[k]) hos ?_
   rintro r l g ⟨y,oy,rfl,rfl⟩ wn g_n
   rcases oy.y5 with⟨_,q⟩|⟨m,rfl⟩
   ·cases q
   rw[OV.iZ]
   rw[OV.eD,gP,fQ]at wn
   obtain⟨z_m,rfl⟩:=wn.rL
   obtain⟨aGA,kX,kW,yZ⟩:=cW (show ¬n=m from λe=>by rw[e,aI]at g_n;cases g_n)
   simp -dsimp -implicitDefEqProofs only[go_sem,↓reduceIte,Tryz.f196,ea,ed,w2,n0,n1,n2,aO,aC,kX,kW]
   refine⟨λ_=>⟨by omega,by decide,bD,bD,bD,bX _,by omega,by omega,?_⟩,λq=>absurd bO q⟩
   intro b q_b
   obtain⟨aD3,lY,lZ,aD4⟩:=cW (show ¬b=n from pjx q_b)
   obtain⟨vM,nB,nC,uN⟩:=cW (show ¬b=m from pjx q_b)
   have z_b:h b=none:=pjx q_b
   refine⟨(k+1,some b),?_⟩
   simp only[hy,aJ,aR,aQ]
   refine⟨⟨by rw[gD];rfl,by rw[IntWalk.i64_in _ aA];rfl⟩,aOM (m:=m) (b:=b) ((dX args dir).take k) [args[k],dir[k]'aA] (by simp only[gB,nB,lY,nC,kW,lZ,kX,↓reduceIte];rfl) ?_ vM (nH (by repeat'(first|exact p7 _ _|refine sV (by simp only[gB,↓reduceIte,eq_self,if_true,nB,lY,nC,kW,lZ,kX]) ?_|refine nV aCT ?_))),⟨by omega,z_b⟩,by omega⟩
   rw[aI,nI dG]
   rfl
 ·have hk':k=args.length:=by omega
  subst hk'
  rw[nI aA]at hos ⊢
  cases o with
  |none =>
   rw[aY]at hos
   simp -dsimp -implicitDefEqProofs only[go_sem,↓reduceIte,Tryz.f196,bE,aL,bU,cT]
   intro _
   rw[hos]
   exact Shift.of (Sub.loose _ _ _) (aB.le_refl _)
  |some n =>
   rw[aQ]at hos
   simp -dsimp -implicitDefEqProofs only[go_sem,↓reduceIte,Tryz.f196,aR,aJ,bU,cT]
   intro _
   exact lG _ hos (aB.le_refl _) rfl
@[go_sem] def bAC:List Nat:=[0,1,2,3,4,10,11]
theorem aU9 {p:aG} (hp:p.ok) (f:Int) (hf:0<=f/\f<p.aK.length) (args dir:List Int) (hd:dir.length=args.length) (hal:args.length<=1048576) (na:dW args) (nd:dW dir) (hl:∀ F,p.aK[f.toNat]?=some F->(args.length:Int)=F.aW) :
  fE Tryz.prog 162 [.ip 1 [p.c] 0 0,I f,ints args,ints dir,I 1] (.gU [bW (aDX (evF p 2 f (dX args dir))).1,I (aDX (evF p 2 f (dX args dir))).2.2]):=by
 have qF:=aZB hp (sz:=2) bO f hf (dX args dir) (oC na nd) (λF hF=>by rw[aFE hd];exact hl F hF)
 rw[show(((2:Nat):Int))=2 from rfl,aG.aZ]at qF
 rw[aG.aZ]
 refine fU 23 bAC cU cF Tryz.func162 λh=>?_
 simp -dsimp -implicitDefEqProofs only[go_sem,↓reduceIte,Tryz.f162,w2]
 first|refine aH.mk (aED args dir hd hal) ?_|refine aF.mk (aED args dir hd hal) ?_|refine aH.bI (aED args dir hd hal) ?_|refine aF.mk (bC.dI (aED args dir hd hal)) ?_
 simp -dsimp -implicitDefEqProofs only[go_sem,↓reduceIte,Tryz.f162]
 rw[w2]
 first|refine aH.mk (qF) ?_|refine aF.mk (qF) ?_|refine aH.bI (qF) ?_|refine aF.mk (bC.dI (qF)) ?_
 simp -dsimp -implicitDefEqProofs only[go_sem,↓reduceIte,Tryz.f162]
@[go_sem] def aO6:List Nat:=[0,1,2,6,7,8,10,11,12,13,14,15,28,42,60,79]
@[go_sem] def bAD:List Nat:=[32,33,45,75,80]
@[go_sem] def bAE:Marks:=λid=>match id with|15=>([5,13,15],(.op 0 (.op 1 (.op 2 (.op 3 (.op 4 (.op 6 (.op 7 (.op 8 (.op 9 (.op 10 (.op 11 (.op 12 (.op 5 (.op 13 (.op 14 (.op 15 .nil)))))))))))))))),[])|_=>([],.nil,[])
theorem aSZ {p:aG} (hp:p.ok) (f:Int) (hf:0<=f/\f<p.aK.length) (args:List Int) (hal:args.length<=12) (na:dW args) (hl:∀ F,p.aK[f.toNat]?=some F->(args.length:Int)=F.aW) {vs:List (List Int)} {t:Nat} (hok:evF p 1 f (args.map λn=>[n])=.ok (vs,t)) :
  FnN Tryz.prog 88 [.ip 1 [p.c] 0 0,I f,ints args] (QS (OS (oL I) 1 (xC (wE p f args) (p.outs f).length args.length 0)) (λy=>.gU [y,I 0])):=by
 obtain⟨F,ef,hF1,hF2,hF3,hF4⟩:=vK hp hf
 have hm:1<=(p.outs f).length/\(p.outs f).length<=12:=by rw[hF3];exact hF1
 have hse:=aOG hp (sz:=1) bO f hf (args.map λn=>[n]) (λs hs=>by
  obtain⟨n,hn,rfl⟩:=lA.1 hs
  refine⟨rfl,λx hx=>?_⟩
  rw[jL.1 hx]
  exact na n hn) (λF hF=>by rw[gT];exact hl F hF) vs t hok
 have hvM:=hse.1
 generalize hM:(p.outs f).length=M at *
 have qF:=aZA hp f hf args na hal hl
 rw[hok,show sT (.ok (vs,t))=(vs.map (·.getD 0 0),(t:Int),0)from rfl,aG.aZ]at qF
 rw[aG.aZ]
 refine aBE 83 aO6 bAD bAE Tryz.func88 λh=>?_
 simp -dsimp -implicitDefEqProofs only[go_sem,↓reduceIte,Tryz.f88]
 refine aH.mk qF ?_
 simp -dsimp -implicitDefEqProofs only[go_sem,↓reduceIte,Tryz.f88]
 refine⟨bD,λn0_ hn0=>?_⟩
 refine cM aO6 bAD bAE (λx:Nat×Nat=>[(0,.ip 1 [[gF 3 aX.c p.aK]] 0 0),(1,I f),(2,ints args),(8,ints (vs.map λs=>s.getD 0 0)),(10,I 0),(11,.os x.2 1 0 x.1),(12,I x.1)]) (λx=>aU h x.2 (.row 1 (List.replicate x.1 [Cell.v (.sl 1 [] true)]))) (λx=>x.1<=M/\h x.2=none) (λx=>M-x.1) (0,n0_) ⟨by simp[cR,b6],aB.le_refl _,eF _,hn0⟩ ?_
 rintro⟨k,b⟩ ⟨hk,hb⟩
 simp only at hk hb ⊢
 rcases bT k M with hlt|hge
 ·simp -dsimp -implicitDefEqProofs only[go_sem,↓reduceIte,Tryz.f88,hlt,aGI,hvM]
  intro _
  refine⟨bD,bD,bD,bD,bX _,by omega,by omega,λb2 wH=>⟨(k+1,b2),⟨rfl,by rw[IntWalk.i64_in _ aA];rfl⟩,?_,⟨by omega,wH.2⟩,by simp only;omega⟩⟩
  rw[nI (by rw[aGI];exact bX _),←a2M]
  exact jC hb
 have hk':k=M:=by omega
 subst hk'
 simp -dsimp -implicitDefEqProofs only[go_sem,↓reduceIte,Tryz.f88,bU,cT,hvM]
 intro _
 have hcell:List.replicate k [Cell.v (.sl 1 [] true)]=OV.cells (List.replicate k [OV.nil 1]):=by simp[OV.cells,OV.val]
 rw[hcell]
 generalize hS:wE p f args=S at *
 refine cM aO6 bAD bAE (λx:Nat×List (List OV)×aB=>[(0,.ip 1 [[gF 3 aX.c p.aK]] 0 0),(1,I f),(2,ints args),(10,I 0),(11,.os b 1 0 k),(13,I x.1)]) (λx=>x.2.2) (λx=>x.1<=args.length/\OR (oL I) (xC S k x.1 0) x.2.1/\fH h (OV.bY [OV.sl b 1 x.2.1]) x.2.2) (λx=>args.length-x.1) (0,List.replicate k [OV.nil 1],aU h b (.row 1 (OV.cells (List.replicate k [OV.nil 1])))) ⟨by simp[cR,b6],aB.le_refl _,eF _,by simp only;rw[a00];exact OR.bMF ⟨_,rfl,OS.nil⟩ _,?_⟩ ?_
 ·simp only
  rw[OV.eC,OV.hJ,dP,OV.eD]
  rw[aBN]
  exact fH.one hb
 rintro⟨i,es,g⟩ ⟨hi,hes,hnw⟩
 simp only at hi hes hnw ⊢
 have hgb:g b=some (.row 1 (OV.cells es)):=hnw.aXS []
 have hel:es.length=k:=by rw[←hes.length,aAF]
 rcases bT i args.length with hlt|hge
 ·have hun:dW (eQ args.length i):=λx hx=>by
   rcases wJ hx with hx|rfl
   ·rw[(aH1.1 hx).2];exact qN
   ·unfold iW;omega
  obtain⟨us,hu1,hu2,hu3⟩:=a86 hp hf (dir:=eQ args.length i) (by simp[eQ]) na hun hl hok
  have hdi:=aU9 hp f hf args (eQ args.length i) (by simp[eQ]) aA na hun hl
  have hSi:S i=us.map λs=>s.getD 1 0:=by rw[←hS,wE,hu1];rfl
  rw[hu1,aG.aZ]at hdi
  have hul:us.length=k:=by rw[hu2];exact hM
  simp -dsimp -implicitDefEqProofs only[go_sem,↓reduceIte,Tryz.f88,hlt]
  intro _
  refine⟨bD,λ_=>?_⟩
  first|refine aH.mk (aHL args.length i aA hlt) ?_|refine aF.mk (aHL args.length i aA hlt) ?_|refine aH.bI (aHL args.length i aA hlt) ?_|refine aF.mk (bC.dI (aHL args.length i aA hlt)) ?_
  simp -dsimp -implicitDefEqProofs only[go_sem,↓reduceIte,Tryz.f88]
  refine aH.mk hdi ?_
  simp -dsimp -implicitDefEqProofs only[go_sem,↓reduceIte,Tryz.f88]
  refine cM aO6 bAD bAE (λx:Nat×List (List OV)×aB=>[(0,.ip 1 [[gF 3 aX.c p.aK]] 0 0),(1,I f),(2,ints args),(10,I 0),(11,.os b 1 0 k),(13,I i),(14,bW us),(15,I x.1)]) (λx=>x.2.2) (λx=>x.1<=k/\OR (oL I) (xC S k i x.1) x.2.1/\fH h (OV.bY [OV.sl b 1 x.2.1]) x.2.2) (λx=>k-x.1) (0,es,g) ⟨by simp[cR,b6],aB.le_refl _,eF _,hes,hnw⟩ ?_
  rintro⟨j,es,g⟩ ⟨hj,hes,hnw⟩
  simp only at hj hes hnw ⊢
  have hgb:g b=some (.row 1 (OV.cells es)):=hnw.aXS []
  have hel:es.length=k:=by rw[←hes.length,aAF]
  rcases bT j k with jO|aFB
  ·have eu:us[j]?=some us[j]:=eY aA
   have h0:=hu3 _ (kM (by omega:j<us.length))
   have h0l:=h0.1
   have e1:(us[j])[Int.toNat 1]?=some (us[j].getD 1 0):=cQ (by rw[h0.1];decide)
   have eS:us[j].getD 1 0=(S i).getD j 0:=by
    rw[hSi];simp[gG,qR,eu]
   rw[eS]at e1
   obtain⟨e,he,y,rfl,hy⟩:=hes.a8S j _ (a4W S jO)
   have hcg:=aE9 he
   have hyl:((List.range i).map λn=>(S n).getD j 0).length=i:=by simp
   rcases hy.y5 with⟨rfl,h0⟩|⟨n,rfl⟩
   ·simp -dsimp -implicitDefEqProofs only[go_sem,↓reduceIte,Tryz.f88,jO,eu,e1,hgb,hcg,OV.aNX,cO,hel,hul]
    intro _
    refine⟨by omega,bD,bD,bD,λm hm=>?_⟩
    obtain⟨uN,nC,nB,vM⟩:=cW (show ¬m=b from λe=>by rw[e,hgb]at hm;cases hm)
    simp -dsimp -implicitDefEqProofs only[go_sem,↓reduceIte,Tryz.f88,aC,nC,nB,hgb,cO,hel,jO,hcg]
    obtain⟨g3,w1,w2⟩:=hnw.bDK (c:=I) (x:=(S i).getD j 0) (F:=aU (aU g m (.row 1 [[.v (I ((S i).getD j 0))]])) b (.row 1 ((OV.cells es).set j [.v (.os m 1 0 1)]))) he hy hm (λq _=>by rw[h0];rfl)
    refine⟨(j+1,_,g3),by rw[IntWalk.i64_in _ aA];rfl,w1,⟨by omega,?_,w2⟩,by simp only;omega⟩
    simp only
    rw[aR6 S jO]
    exact hes.set j _ _ ⟨_,rfl,OS.mk (zY _)⟩
   ·obtain⟨hgn,aD4⟩:=hnw.bDJ he
    have lZ:(n=b)=False:=eq_false aD4
    have lY:(b=n)=False:=eq_false (iK aD4)
    simp -dsimp -implicitDefEqProofs only[go_sem,↓reduceIte,Tryz.f88,jO,eu,e1,hgb,hcg,OV.iZ,cO,hel,hgn,hul]
    rw[a2N]
    intro _
    refine⟨by omega,bD,bD,bD,bX _,by omega,by omega,λm hm=>?_⟩
    obtain⟨uN,nC,nB,vM⟩:=cW (show ¬m=b from λe=>by rw[e,hgb]at hm;cases hm)
    obtain⟨yZ,kW,kX,aGA⟩:=cW (show ¬m=n from λe=>by rw[e,hgn]at hm;cases hm)
    simp -dsimp -implicitDefEqProofs only[go_sem,↓reduceIte,Tryz.f88,aC,nC,kW,nB,lY,kX,lZ,hgb,cO,hel,jO,hcg]
    have hgr:=dZ I ((List.range i).map λn=>(S n).getD j 0) ((S i).getD j 0)
    rw[hyl]at hgr
    rw[hgr]
    obtain⟨g3,w1,w2⟩:=hnw.bDK (c:=I) (x:=(S i).getD j 0) (F:=aU (aU (aU g n .gone) m (.row 1 (((((List.range i).map λn=>(S n).getD j 0)++[(S i).getD j 0]).map λn=>[I n]).map (List.map .v)))) b (.row 1 ((OV.cells es).set j [.v (.os m 1 0 (i+1))]))) he hy hm (λq hq=>by
     rw[hyl]
     have hqn:=hq n _ _ rfl
     simp only[gB,if_neg hqn])
    refine⟨(j+1,_,g3),by rw[IntWalk.i64_in _ aA];rfl,w1,⟨by omega,?_,w2⟩,by simp only;omega⟩
    simp only
    rw[aR6 S jO]
    exact hes.set j _ _ ⟨_,rfl,OS.mk (zY _)⟩
  ·have hj':j=k:=by omega
   subst hj'
   simp -dsimp -implicitDefEqProofs only[go_sem,↓reduceIte,Tryz.f88,bU,cT,hul]
   intro _
   exact⟨(i+1,es,g),by rw[IntWalk.i64_in _ aA];rfl,aB.le_refl _,⟨by omega,by simp only;rw[←a01];exact hes,hnw⟩,by simp only;omega⟩
 ·have hi':i=args.length:=by omega
  subst hi'
  simp -dsimp -implicitDefEqProofs only[go_sem,↓reduceIte,Tryz.f88,bU,cT]
  intro _
  rw[OV.eC,OV.hJ,dP]at hnw
  exact⟨_,g,_,cD _ _,⟨OV.sl b 1 es,OS.mk hes,by rw[OV.z7,hel],rfl⟩,hnw⟩
@[go_sem] def bAF:List Nat:=[0,1,4,7,16]
structure aMX (p:aG) (f:Int) (start L:List Int) (F:dO) (u:Nat):Prop where
 ok:(⟨start.length,F.code,F.guards,L⟩:iM).ok
 ins:∀ i c,F.code[i]?=some c->bZ start.length i c
 one:1<=F.code.length
 cap:F.code.length<=3200
 outs:∀ r∈L,0<=r/\r<F.code.length
 lo:1<=L.length
 ll:L.length=(p.outs f).length
 ev:∀ sz X,1<=sz->St start sz X->evF p sz f X=.ok (L.map λr=>lR sz X F.code r.toNat,u)
 nz:∀ sz X,1<=sz->St start sz X->∀ (i:Nat) (c:bH),F.code[i]?=some c->c.gS=6->¬(lR sz X F.code c.fB.toNat).getD 0 0=0
theorem bNY {p:aG} (hp:p.ok) {f:Int} (hf:0<=f/\f<p.aK.length) {args:List Int} (na:dW args) (h12:args.length<=12) (hl:∀ G,p.aK[f.toNat]?=some G->(args.length:Int)=G.aW) {L:List Int} {F:dO} {u:Nat} (hX:oE p f args=.ok ((L,F),u)):aMX p f args L F u:=by
 obtain⟨G,eG,hO1,hO2,hO3,hO4⟩:=vK hp hf
 obtain⟨q1,q2,q3,q4⟩:=(aHE hp f hf args na hl).1 _ _ hX
 simp only at q1 q2 q3 q4
 have hcl:=q1.len
 have hcap:=q1.cap
 have hgc:=q1.y6
 have hu:=q4.2.2.2
 have hL1:1<=L.length:=by rw[q3.1,hO3];omega
 have h1:∀ x∈L,0<=x/\x<(F.code.length:Int):=λx hx=>by
  have:=q3.2 x hx
  unfold qS at this
  omega
 have hone:1<=F.code.length:=by
  have:=h1 (L.getD 0 0) (by rw[gG,eY hL1];exact kM _)
  omega
 have hsim:a47 args.length F λ_=>True:=⟨q1.ins,λ_ _ _ _=>⟨λ_=>⟨trivial,trivial⟩,λ_=>trivial⟩,λ_ _=>trivial,λ_ _ _ _=>trivial⟩
 have hb:∀ sz X,1<=sz->St args sz X->_:=λsz X hsz hX'=>aMK hp hsz hf na hl hX hsim (args:=X) hX'.1.2 hX'.1.1 (λi hi _=>hX'.2 i hi)
 refine⟨⟨by simp only;omega,⟨by simp only;omega,by simp only;omega,hL1,by simp only;rw[q3.1,hO3];omega⟩,λk hk=>?_,λg hg=>?_,λr hr=>by have:=h1 r hr;simp only;omega⟩,q1.ins,hone,by omega,h1,hL1,q3.1,λsz X hsz hX'=>(hb sz X hsz hX').1,λsz X hsz hX' i c ec h6=>?_⟩
 ·have hk':k<F.code.length:=hk
  have hc:=q1.ins k _ (eY hk')
  show aFQ F.code[k] k args.length
  unfold bZ iW at hc
  unfold aFQ iW
  omega
 ·have:=q1.gds g hg
  simp only
  omega
 ·have hc:=q1.ins i c ec
  have hi:=(iO.1 ec).1
  have hd:=(hb sz X hsz hX').2
  unfold bZ at hc
  rw[hd.1 c.fB.toNat aA trivial]
  exact hd.2 i c ec h6
def aG.par (p:aG) (f:Int):Int:=((p.aK[f.toNat]?).map (·.aW)).getD 0
noncomputable def iR (p:aG) (f:Int) (P:Int->Int->Bool):Int:=if p.ok then if 0<=f/\f<=(p.aK.length:Int)-1 then if P (p.par f) (p.outs f).length=true then 0 else 2 else 2 else 1
theorem aJ4 {p:aG} {f:Int} (h1:p.ok) (h2:0<=f/\f<=(p.aK.length:Int)-1):∃ F,p.aK[f.toNat]?=some F/\p.par f=F.aW/\p.outs f=F.aS/\∀ P:Int->Int->Bool,iR p f P=if P F.aW F.aS.length=true then 0 else 2:=by
 have ef:p.aK[f.toNat]?=some (p.aK[f.toNat]'aA):=eY aA
 have e1:p.par f=(p.aK[f.toNat]'aA).aW:=by rw[aG.par,ef];rfl
 have e2:p.outs f=(p.aK[f.toNat]'aA).aS:=by rw[aG.outs,ef];rfl
 exact⟨_,ef,e1,e2,λP=>by rw[iR,if_pos h1,if_pos h2,e1,e2]⟩
@[go_sem] def aO8:List Nat:=[0,1,2,3,6,7,30]
@[go_sem] def a5X:Marks:=λid=>match id with|2=>([16,17],(.op 0 (.op 1 (.op 2 (.op 3 (.op 4 (.op 5 (.op 6 (.op 7 (.op 8 (.op 9 (.op 10 (.op 11 (.op 12 (.op 13 (.op 14 (.op 15 (.op 16 (.op 17 (.op 18 (.op 19 .nil)))))))))))))))))))),[])|_=>([],.nil,[])
theorem a5Y (p:aG) (f:Int) (hps:p.s<=4194304) {g:Nat} {P:Int->Int->Bool} (hP:∀ a b,fE Tryz.prog g [I a,I b] (.bool (P a b))):fE Tryz.prog 164 [.agg p.c,I f,.fn (.func g) [] []] (I (iR p f P)):=by
 have hif:=a4B p f hps
 by_cases h1:p.ok
 ·by_cases h2:0<=f/\f<=(p.aK.length:Int)-1
  ·obtain⟨F,ef,e1,e2,e3⟩:=aJ4 h1 h2
   have hq:=hP F.aW F.aS.length
   rw[if_pos h1,if_pos h2]at hif
   simp only[aG.aZ]at hif ⊢
   refine fU 32 aO8 a0S a5X Tryz.func164 λh=>?_
   simp -dsimp -implicitDefEqProofs only[go_sem,↓reduceIte,Tryz.f164]
   first|refine aH.mk (hif) ?_|refine aF.mk (hif) ?_|refine aH.bI (hif) ?_|refine aF.mk (bC.dI (hif)) ?_
   simp -dsimp -implicitDefEqProofs only[go_sem,↓reduceIte,Tryz.f164,ef,aX.aZ]
   refine⟨by omega,by omega,by omega,by omega,λ_=>aH.mk hq ?_⟩
   simp -dsimp -implicitDefEqProofs only[go_sem,↓reduceIte,Tryz.f164]
   rw[e3]
   exact⟨λq=>by rw[if_neg (by rw[q];decide)],λq=>by rw[if_pos q]⟩
  ·rw[if_pos h1,if_neg h2]at hif
   have e:iR p f P=2:=by rw[iR,if_pos h1,if_neg h2]
   simp only[aG.aZ]at hif ⊢
   refine fU 32 aO8 a0S a5X Tryz.func164 λh=>?_
   simp -dsimp -implicitDefEqProofs only[go_sem,↓reduceIte,Tryz.f164]
   first|refine aH.mk (hif) ?_|refine aF.mk (hif) ?_|refine aH.bI (hif) ?_|refine aF.mk (bC.dI (hif)) ?_
   simp -dsimp -implicitDefEqProofs only[go_sem,↓reduceIte,Tryz.f164]
   rw[e]
 ·rw[if_neg h1]at hif
  have e:iR p f P=1:=by rw[iR,if_neg h1]
  simp only[aG.aZ]at hif ⊢
  refine fU 32 aO8 a0S a5X Tryz.func164 λh=>?_
  simp -dsimp -implicitDefEqProofs only[go_sem,↓reduceIte,Tryz.f164]
  first|refine aH.mk (hif) ?_|refine aF.mk (hif) ?_|refine aH.bI (hif) ?_|refine aF.mk (bC.dI (hif)) ?_
  simp -dsimp -implicitDefEqProofs only[go_sem,↓reduceIte,Tryz.f164]
  rw[e]
theorem aHM (n:Int):fE Tryz.prog 94 [I n] (.bool (decide (0<=n/\n<=12))):=by
 refine fU 5 aBD cU cF Tryz.func94 λh=>?_
 simp -dsimp -implicitDefEqProofs only[go_sem,↓reduceIte,Tryz.f94]
 first|refine aH.mk (within n 0 12) ?_|refine aF.mk (within n 0 12) ?_|refine aH.bI (within n 0 12) ?_|refine aF.mk (bC.dI (within n 0 12)) ?_
 simp -dsimp -implicitDefEqProofs only[go_sem,↓reduceIte,Tryz.f94]
theorem yF {p:aG} {f:Int} {P:Int->Int->Bool} (h:iR p f P=0):p.ok/\(0<=f/\f<p.aK.length)/\∃ F,p.aK[f.toNat]?=some F/\p.par f=F.aW/\p.outs f=F.aS/\P F.aW F.aS.length=true:=by
 by_cases h1:p.ok
 ·by_cases h2:0<=f/\f<=(p.aK.length:Int)-1
  ·obtain⟨F,ef,e1,e2,e3⟩:=aJ4 h1 h2
   rw[e3]at h
   refine⟨h1,by omega,F,ef,e1,e2,?_⟩
   by_cases e:P F.aW F.aS.length=true
   ·exact e
   ·rw[if_neg e]at h;cases h
  ·rw[iR,if_pos h1,if_neg h2]at h;cases h
 ·rw[iR,if_neg h1]at h;cases h
@[go_sem] def bUB:List Nat:=[0,1,2,3,4,8,9,11,16,18,19,20,21,32,36]
theorem aH.bNZ {P:Program} {f:FuncId} {args args':List aE} {R:OV->Prop} {d:aE} {g:aB} {K:aE->aB->Prop} {t:Tag K} (a:FnN P f args' (QS R)) (hd:∀ y,R y->y.qG=d) (hs:∀ y,R y->y.sol=true) (hv:lQ g args args') (k:K d g):aH P f args g K t :=
 aH.gV (aRN (r:=d) g (a.a33 hv (QS.gE hs λ_ h=>h)) λr' h' ⟨l,⟨y,hy,e1,e2⟩,n⟩=>by
  subst e1 e2
  exact⟨_,n,λE w v R rx=>hd y hy▸fC.aBK R y n.oY (λp hp=>dF.2 ⟨p.2,hp⟩) v rx⟩) λr h' ⟨e1,e2⟩=>by subst e1 e2;exact k
def oI (n:Nat) (s:List Int):List OV:=[OV.sl n 1 (s.map λx=>[.v (I x)])]
theorem aZD (n:Nat) (s:List Int):((oI n s).map λc=>Cell.v c.val)=[.v (.os n 1 0 s.length)]:=by rw[oI,aP8,OV.iZ]
theorem bN0 (n:Nat) (s:List Int):oL I s (oI n s):=⟨_,rfl,OS.mk (zY s)⟩
theorem bHF {g:aB} {n:Nat} (s:List Int) (h:g n=none):fH g (OV.bY (oI n s)) (aU g n (mE s)):=by
 rw[oI,OV.eC,OV.hJ,dP,OV.eD,gP,fQ];exact fH.one h
abbrev LLx:=Option Nat×List (List OV)×aB
def LLG (h:aB) (L:List (List Int)) (x:LLx):Prop:=OR (oL I) L x.2.1/\fH h (OV.bG x.2.1) x.2.2/\yV x.2.2 x.2.1 x.1
def LLH (x:LLx):aB:=cP x.2.2 (.row 1 (OV.cells x.2.1)) x.1
theorem LLG.init (h:aB):LLG h [] (none,[],h):=⟨trivial,fH.nil h,rfl⟩
theorem LLG.len {h:aB} {L:List (List Int)} {x:LLx} (H:LLG h L x):x.2.1.length=L.length:=H.1.length.symm
theorem LLG.nil {h g:aB} {L:List (List Int)} {es:List (List OV)} (H:LLG h L (none,es,g)):L=[]/\es=[]/\h=g:=by
 obtain⟨h1,h2,h3⟩:=H
 have e:es=[]:=h3
 subst e
 cases L with
 |cons s L=>exact h1.elim
 |nil=>exact⟨rfl,rfl,funext λq=>(h2.upto q (by simp[OV.bG,bF])).symm⟩
theorem LLG.snoc {h g:aB} {L:List (List Int)} {o:Option Nat} {es:List (List OV)} (H:LLG h L (o,es,g)) {m b:Nat} (s:List Int) (hm:g m=none) (hb:g b=none) (hbm:¬b=m):LLG h (L++[s]) (some b,es++[oI m s],aU g m (mE s)) :=
 ⟨OR.append H.1 ⟨bN0 m s,trivial⟩,H.2.1.snoc (bHF s hm),by show aU g m (mE s) b=none;rw[aC _ _ _ _ hbm];exact hb⟩
theorem LLH.snoc {es:List (List OV)} {g:aB} {m b:Nat} {s:List Int}:LLH (some b,es++[oI m s],aU g m (mE s))=aU (aU g m (mE s)) b (.row 1 (OV.cells es++[[.v (.os m 1 0 s.length)]])):=by
 rw[LLH,aJ,jD,aZD]
theorem LLG.done {h:aB} {L:List (List Int)} {x:LLx} (H:LLG h L x):∃ y:OV,OS (oL I) 1 L y/\y.val=fT 1 L.length x.1/\fH h y.rows (LLH x):=by
 obtain⟨o,es,g⟩:=x
 refine⟨gov 1 es o,aNY H.1 H.2.2,?_,aG1 H.2.1 H.2.2⟩
 cases o with
 |none =>
  have:=H.nil
  rw[aRQ,OV.aNX,bE]
 |some n=>rw[aI6,OV.z7,aR,H.len]
theorem bAG (x:List Int) (e:List OV) (h:oL I x e):e.map OV.qG=[ints x]:=bGD h
theorem xL {L:List (List Int)} {y:OV} (h:OS (oL I) 1 L y):y.qG=bW L:=OS.qG (c:=λs=>[ints s]) bAG h
theorem bAH (x:List Int) (e:List OV) (h:oL I x e):OV.sK e=true:=by
 obtain⟨y,rfl,hy⟩:=h
 rw[OV.sK,OS.sol (λ_ _ q=>aUC (λ_=>rfl) q) hy];rfl
theorem a1I {L:List (List Int)} {y:OV} (h:OS (oL I) 1 L y):y.sol=true:=OS.sol bAH h
theorem aH.bHG {P:Program} {f:FuncId} {args args':List aE} {L:List (List Int)} {g:aB} {K:aE->aB->Prop} {t:Tag K} (a:FnN P f args' (QS (OS (oL I) 1 L))) (hv:lQ g args args') (k:K (bW L) g):aH P f args g K t :=
 aH.bNZ a (λy hy=>xL hy) (λy hy=>a1I hy) hv k
theorem bHH {P:Program} {f:FuncId} {args:List aE} {L:List (List Int)} (a:FnN P f args (QS (OS (oL I) 1 L))):fE P f args (bW L):=QS.dI a λy hy=>xL hy
theorem bAI {P:Program} {f:FuncId} {args:List aE} {L:List (List Int)} {c:Int} (a:FnN P f args (QS (OS (oL I) 1 L) (λy=>.gU [y,I c]))):fE P f args (.gU [bW L,I c]):=QS.bFN a (λy hy=>xL hy) (aDL [] [I c])
theorem bAJ {g:aB} {n m b:Nat} {o r X:bV} (hn:g n=none) (hmn:¬m=n):(aU (aU g m r) b X).le (aU (aU (aU (aU g n o) m r) n .gone) b X):=λq=>by
 by_cases e:q=b
 ·rw[e,aI,aI];exact .inr rfl
 rw[aC _ _ _ _ e,aC _ _ _ _ e]
 by_cases e2:q=n
 ·rw[e2,aC _ _ _ _ (iK hmn)];exact .inl hn
 rw[aC _ _ _ _ e2]
 by_cases e3:q=m
 ·rw[e3,aI,aI];exact .inr rfl
 ·rw[aC _ _ _ _ e3,aC _ _ _ _ e3,aC _ _ _ _ e2];exact .inr rfl
theorem LLG.fin {h g F:aB} {L:List (List Int)} {o:Option Nat} {es:List (List OV)} (H:LLG h L (o,es,g)) {m b sz:Nat} {s:List Int} (hs:s.length=sz) (hm:g m=none) (hb:g b=none) (hbm:¬b=m) (hF:(aU (aU g m (mE s)) b (.row 1 (OV.cells es++[[.v (.os m 1 0 sz)]]))).le F) :
  ∃ x:LLx,x.1=some b/\LLG h (L++[s]) x/\(LLH x).le F:=by
 subst hs
 exact⟨_,rfl,H.snoc s hm hb hbm,by rw[LLH.snoc];exact hF⟩
theorem aO9 {g F:aB} {n m b:Nat} {r X:bV} (hn:g n=none) (hmn:¬m=n) (hbn:¬b=n) (hF:∀ q,¬q=n->F q=aU (aU g m r) b X q):(aU (aU g m r) b X).le F:=λq=>by
 by_cases e:q=n
 ·rw[e,aC _ _ _ _ (iK hbn),aC _ _ _ _ (iK hmn)];exact .inl hn
 ·exact .inr (hF q e).symm
@[go_sem] def a5Z:List Nat:=[0,1,4,5,7,8,10,11,12,13]
@[go_sem] def bN1:List Nat:=[9,24]
theorem a1J (l:List Int) {sz:Nat} (hl:l.length<=1048576) (hsz:1<=sz/\sz<=1048576):FnN Tryz.prog 59 [ints l,I ((sz:Int)-1)] (QS (OS (oL I) 1 (cJ l sz))):=by
 have hel:(cJ l sz).length=l.length:=by simp[cJ]
 have e1:IntKind.i64.wrap ((sz:Int)-1+1)=(sz:Int):=by rw[IntWalk.i64_in _ aA];omega
 have e2:=aDW (x:=[aE.int .i64 0]) hsz.1
 refine aBE 28 a5Z bN1 cF Tryz.func59 λh=>?_
 simp -dsimp -implicitDefEqProofs only[go_sem,↓reduceIte,Tryz.f59]
 refine⟨bD,λ_=>?_⟩
 refine cM a5Z bN1 cF (λx:Nat×LLx=>[(1,I ((sz:Int)-1)),(5,fT 1 x.1 x.2.1),(10,ints l),(11,I l.length),(12,I x.1)]) (λx=>LLH x.2) (λx=>x.1<=l.length/\LLG h ((cJ l sz).take x.1) x.2) (λx=>l.length-x.1) (0,none,[],h) ⟨by simp[cR,b6,fT],aB.le_refl _,eF _,LLG.init _⟩ ?_
 rintro⟨k,op,es,g⟩ ⟨hk,H⟩
 simp only at hk H ⊢
 rcases bT k l.length with hlt|hge
 ·have ea:l[k]?=some l[k]:=eY hlt
  have hy:(cJ l sz).take (k+1)=(cJ l sz).take k++[cS l[k] sz]:=by
   rw[jF aA];simp[cJ]
  have hlk:((cJ l sz).take k).length=k:=by rw[mX];omega
  have r8:=H.len
  simp only[hlk]at r8
  cases op with
  |none =>
   obtain⟨h1,rfl,rfl⟩:=H.nil
   simp -dsimp -implicitDefEqProofs only[go_sem,↓reduceIte,Tryz.f59,hlt,ea,e1,e2,bE,LLH,aL,tX]
   refine⟨bD,bX _,by omega,by omega,λm zm=>⟨by omega,?_⟩⟩
   rw[aO,show Int.toNat 0=0 from rfl,aAD]
   obtain rfl:k=0:=by rw[←hlk,h1];rfl
   refine⟨bD,bD,bD,λb ⟨b1,_,b2⟩=>?_⟩
   obtain⟨x',e',H',L'⟩:=H.fin (m:=m) (b:=b) (s:=cS l[0] sz) (pL _ _) zm b2 b1 (aB.le_refl _)
   refine⟨(1,x'),⟨by simp only[e'];rfl,IntWalk.i64_in _ aA⟩,L',⟨hlt,by simp only;rw[hy];exact H'⟩,by simp only;omega⟩
  |some n =>
   simp -dsimp -implicitDefEqProofs only[go_sem,↓reduceIte,Tryz.f59,hlt,ea,e1,e2,aR,LLH,aJ,tX,cO,r8]
   refine⟨bD,bX _,by omega,by omega,λm ⟨m1,zm⟩=>⟨by omega,bD,bD,bD,?_⟩⟩
   obtain⟨yZ,kW,kX,aGA⟩:=cW (show ¬m=n from m1)
   rw[aO,show Int.toNat 0=0 from rfl,aAD]
   simp -dsimp -implicitDefEqProofs only[go_sem,↓reduceIte,Tryz.f59,kW,kX,aC,cO,r8]
   refine⟨bX _,by omega,by omega,λb ⟨b1,_,b2⟩=>?_⟩
   rw[show List.take k (OV.cells es)=OV.cells es from r8▸eH es]
   obtain⟨x',e',H',L'⟩:=H.fin (m:=m) (b:=b) (s:=cS l[k] sz) (pL _ _) zm b2 b1 (bAJ H.2.2 yZ)
   refine⟨(k+1,x'),⟨by simp only[e'];rfl,IntWalk.i64_in _ aA⟩,L',⟨hlt,by simp only;rw[hy];exact H'⟩,by simp only;omega⟩
 ·have hk':k=l.length:=by omega
  subst hk'
  simp -dsimp -implicitDefEqProofs only[go_sem,↓reduceIte,Tryz.f59,bU,cT]
  rw[nI aA]at H
  obtain⟨y,hy,hv,hw⟩:=H.done
  rw[hel]at hv
  exact⟨_,_,_,cD _ _,⟨y,hy,hv.symm,rfl⟩,hw⟩
@[go_sem] def bZB:Marks:=λid=>match id with|5=>([12],(.op 0 (.op 1 (.op 2 (.op 3 (.op 4 (.op 5 (.op 6 (.op 7 (.op 8 (.op 9 (.op 10 (.op 11 (.op 12 .nil))))))))))))),[])|_=>([],.nil,[])
@[go_sem] def bAK:List Nat:=[0,2,5]
theorem aPA {l:List (List Int)} {sz n:Nat} (h:dH sz n l) (hn:1<=n):fE Tryz.prog 114 [bW l] (I ((sz:Int)-1)):=by
 have h0:=h.get (i:=0) aA
 have h1:=h.1
 have e0:l[Int.toNat 0]?=some (l.getD 0 []):=h0.1
 have l0:=h0.2.1
 refine fU 11 bAK cU cF Tryz.func114 λh=>?_
 simp -dsimp -implicitDefEqProofs only[go_sem,↓reduceIte,Tryz.f114,e0,l0]
 exact λ_=>⟨λq=>by omega,λ_=>⟨by omega,λ_=>IntWalk.i64_in _ aA⟩⟩
@[go_sem] def bQS:List Nat:=[0,1,2,3,6,7,8,10,11,12,13,14,26,29,30,31,32]
@[go_sem] def bXI:List Nat:=[3,28,48]
@[go_sem] def bXJ:Marks:=λid=>match id with|1=>([],(.op 0 (.op 1 (.op 2 (.op 3 (.op 4 (.op 5 (.op 6 (.op 7 (.op 8 (.op 9 (.op 10 (.op 11 (.op 12 .nil))))))))))))),[])|_=>([],.nil,[])
@[go_sem] def bUC:List Nat:=[0,1,2,3,4,8,9,10,11,12,17,18,19,28]
end Go.Hl

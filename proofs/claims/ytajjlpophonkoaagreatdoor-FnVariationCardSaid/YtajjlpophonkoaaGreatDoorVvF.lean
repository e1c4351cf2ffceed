/-
  Contracts of functions and laws of the layer over the walk.
-/
import Derived.Test.YtajjlpophonkoaaGreatDoorVvE
import Derived.Test.YtajjlpophonkoaaGreatDoorVvC
namespace Go.Hl
open Go.Proofs
set_option linter.unusedVariables false
set_option linter.unusedSimpArgs false
def aII (sz:Nat) (dirs:List (List Int)) (D rg:Nat->List Int) (k:Nat) (c:bO):List Int :=
 if c.lB=1 then dirs.getD c.aW.toNat []
 else if c.lB=2 then fQ 0 sz
 else if c.lB=3 then iK (D c.fA.toNat) (D c.fB.toNat)
 else if c.lB=4 then aJ3 (D c.fA.toNat) (D c.fB.toNat)
 else if c.lB=5 then iK (mulL (D c.fA.toNat) (rg c.fB.toNat)) (mulL (rg c.fA.toNat) (D c.fB.toNat))
 else if c.lB=7 then iE (D c.fA.toNat) 1000002
 else lV (aJ3 (D c.fA.toNat) (mulL (rg k) (D c.fB.toNat))) (rg c.fB.toNat)
def drS (sz:Nat) (dirs:List (List Int)) (rg:Nat->List Int) (code:List bO):Nat->List (List Int)
 |0=>[]
 |k+1=>drS sz dirs rg code k++[aII sz dirs (λi=>(drS sz dirs rg code k).getD i []) rg k (code.getD k ⟨0,0,0,0⟩)]
theorem aOC (sz:Nat) (dirs:List (List Int)) (rg:Nat->List Int) (code:List bO):∀ k,(drS sz dirs rg code k).length=k
 |0=>rfl
 |k+1=>by rw[drS,mV,aOC sz dirs rg code k];rfl
theorem aW6 (sz:Nat) (dirs:List (List Int)) (rg:Nat->List Int) (code:List bO) {r k:Nat} (hr:r<k):∀ n,k<=n->(drS sz dirs rg code n).getD r []=(drS sz dirs rg code k).getD r []
 |0,h=>by omega
 |n+1,h=>by
  rcases bZ n k with h1|h1
  ·have:k=n+1:=by omega
   rw[this]
  ·rw[←aW6 sz dirs rg code hr n h1,drS,dI,uU (by rw[aOC];omega),dI]
def dgS (sz:Nat) (dirs:List (List Int)) (rg:Nat->List Int) (code:List bO) (k:Nat):List Int:=(drS sz dirs rg code code.length).getD k []
theorem aIJ {sz:Nat} {dirs:List (List Int)} {rg:Nat->List Int} {code:List bO} {inp:Int} {k:Nat} {c:bO} (e:code[k]?=some c) (hi:cV inp k c):dgS sz dirs rg code k=aII sz dirs (dgS sz dirs rg code) rg k c:=by
 have h:=(mS.1 e).1
 have h1:dgS sz dirs rg code k=aII sz dirs (λi=>(drS sz dirs rg code k).getD i []) rg k c:=by
  rw[dgS,aW6 sz dirs rg code (aD9 k) code.length h,drS,dI,wZ (by rw[aOC];exact iH _),aOC,wI,getD_at e];rfl
 have h2:∀ i,i<k->(drS sz dirs rg code k).getD i []=dgS sz dirs rg code i:=λi hi=>(aW6 sz dirs rg code hi code.length aA).symm
 rw[h1]
 unfold cV at hi
 unfold aII
 split
 ·rfl
 split
 ·rfl
 dsimp only
 rw[h2 c.fA.toNat aA]
 by_cases h7:c.lB=7
 ·rw[if_neg aA,if_neg aA,if_neg aA,if_pos h7,if_neg aA,if_neg aA,if_neg aA,if_pos h7]
 ·rw[h2 c.fB.toNat aA]
theorem aW7 {sz:Nat} (c6:1<=sz) {dirs:List (List Int)} {rg:Nat->List Int} {code:List bO} {inp:Int} (hins:∀ i c,code[i]?=some c->cV inp i c) (hd:∀ s∈dirs,bV sz s) (hl:(dirs.length:Int)=inp) (hrg:∀ k,k<code.length->bV sz (rg k)):∀ n k,k<n->k<code.length->bV sz (dgS sz dirs rg code k)
 |0,k,h,_=>by omega
 |n+1,k,hn,hk=>by
  have ih:=λi hi=>aW7 c6 hins hd hl hrg n i hi
  have e:code[k]?=some code[k]:=cM hk
  have hc:=hins k _ e
  rw[aIJ e hc]
  generalize code[k]=c at *
  unfold cV at hc
  unfold aII
  by_cases h1:c.lB=1
  ·rw[if_pos h1];exact kI hd aA
  rw[if_neg h1]
  by_cases h2:c.lB=2
  ·rw[if_pos h2];exact fP pK
  rw[if_neg h2]
  have da:=ih c.fA.toNat aA aA
  by_cases h3:c.lB=3
  ·rw[if_pos h3];exact kX da (ih _ aA aA)
  rw[if_neg h3]
  by_cases h4:c.lB=4
  ·rw[if_pos h4];exact xX da (ih _ aA aA)
  rw[if_neg h4]
  by_cases h5:c.lB=5
  ·rw[if_pos h5];exact kX (fR _ da) (fR _ (hrg _ aA))
  rw[if_neg h5]
  by_cases h7:c.lB=7
  ·rw[if_pos h7];exact eO _ da
  ·rw[if_neg h7];exact tL _ (xX da (fR _ (hrg _ aA)))
def fA (A:List (List Int)) (i:Nat):Nat->Int:=sF (A.getD i [])
theorem bB5 {a a':Nat->Nat->Int} (d:Nat->Nat->Int) (j:Nat) (m:Nat) (h:∀ k,k<m->a' k=a k):jJ (λi=>kF (a' i) (d i) j) m=jJ (λi=>kF (a i) (d i) j) m:=yU m λi hi=>by rw[h i hi]
theorem aW8 {a a':Nat->Nat->Int} {d:Nat->Nat->Int} {r j:Nat} {s:Nat->Int} (h:∀ k,¬k=r->a' k=a k) (hr:∀ q,q<=j->Cg (a' r q) (a r q+s q)):∀ m,r<m->Cg (jJ (λi=>kF (a' i) (d i) j) m) (jJ (λi=>kF (a i) (d i) j) m+kF s (d r) j)
 |0,q=>by omega
 |m+1,q=>by
  rw[jJ,jJ]
  by_cases e:m=r
  ·subst e
   rw[bB5 d j m λk hk=>h k aA]
   exact((Cg.refl _).add ((p7 j _ _ _ _ hr λi _=>Cg.refl _).trans (Cg.of_eq (aKN j _ _ _)))).trans (Cg.of_eq aA)
  ·rw[h m e]
   exact((aW8 h hr m aA).add (Cg.refl _)).trans (Cg.of_eq aA)
theorem bHB {sz n:Nat} {A:List (List Int)} (hA:gF sz n A) {r:Int} (hr:r.toNat<n) {s:List Int} (hs:bV sz s):(∀ k,¬k=r.toNat->fA (aAW r s A) k=fA A k)/\∀ q,q<sz->Cg (fA (aAW r s A) r.toNat q) (fA A r.toNat q+sF s q):=by
 refine⟨λk hk=>?_,λq hq=>?_⟩
 ·rw[fA,fA,aAW,dI (l:=A.set _ _),aLI (l5 hk),←dI]
 ·rw[fA,aAW,dI (l:=A.set _ _),aLH (by rw[hA.1];exact hr)]
  exact aIG (hA.get hr).2 hs hq
theorem aW9 {sz n:Nat} {A:List (List Int)} (hA:gF sz n A) {r:Int} {s:List Int} (hs:bV sz s) {d:Nat->Nat->Int} {j m:Nat} (hj:j<sz) (hr:r.toNat<m) (hm:m<=n):Cg (jJ (λi=>kF (fA (aAW r s A) i) (d i) j) m) (jJ (λi=>kF (fA A i) (d i) j) m+kF (sF s) (d r.toNat) j) :=
 aW8 (bHB hA aA hs).1 (λq hq=>(bHB hA aA hs).2 q aA) m hr
theorem aGA (f g:Nat->Int):kF f g=kF g f:=funext λk=>sI k f g
theorem bUZ {sz n y j:Nat} (hj:j<sz) (hy:y<n) {c:bO} {inp:Int} (hc:cV inp y c) {rg:List (List Int)} (hrg:gF sz n rg) {A:List (List Int)} (hA:gF sz n A) {D:Nat->List Int} (hD:∀ k,k<n->bV sz (D k)) {dirs:List (List Int)} (hop:D y=aII sz dirs D (λi=>rg.getD i []) y c) :
  Cg (jJ (λi=>kF (fA A i) (sF (D i)) j) y+kF (fA A y) (sF (D y)) j) (jJ (λi=>kF (fA (qQ c rg y A) i) (sF (D i)) j) y+if c.lB=1 then kF (fA A y) (sF (D y)) j else 0):=by
 have h0:=(hA.get hy).2
 have hc':=hc
 unfold cV at hc
 have dy:=hD y hy
 unfold aII at hop
 dsimp only at hop
 by_cases e1:c.lB=1
 ·rw[if_pos e1,qQ,if_neg aA,if_neg aA,if_neg aA,if_neg aA,if_neg aA];exact Cg.refl _
 rw[if_neg e1]at hop ⊢
 by_cases e2:c.lB=2
 ·rw[if_pos e2]at hop
  rw[qQ,if_neg aA,if_neg aA,if_neg aA,if_neg aA,if_neg aA]
  refine(Cg.refl _).add ((p7 j _ _ _ (λ_=>0) (λi _=>Cg.refl _) λi hi=>Cg.of_eq ?_).trans (Cg.of_eq ?_))
  ·rw[hop,aFE _ _ aA];split <;> rfl
  ·have:=aRI 0 j (λ_=>0) (fA A y)
   simp only[Int.zero_mul]at this
   exact this
 rw[if_neg e2]at hop
 have ia:0<=c.fA/\c.fA<y:=by omega
 have da:=hD c.fA.toNat aA
 have fin:∀ {T e:Int},Cg T (jJ (λi=>kF (fA A i) (sF (D i)) j) y+e)->Cg (kF (fA A y) (sF (D y)) j) e->Cg (jJ (λi=>kF (fA A i) (sF (D i)) j) y+kF (fA A y) (sF (D y)) j) (T+0):=λhB h =>
  ((Cg.refl _).add h).trans (hB.symm.trans (Cg.of_eq aA))
 have one:∀ s1,bV sz s1->Cg (jJ (λi=>kF (fA (aAW c.fA s1 A) i) (sF (D i)) j) y) (jJ (λi=>kF (fA A i) (sF (D i)) j) y+kF (sF s1) (sF (D c.fA.toNat)) j):=λs1 z1=>aW9 hA z1 (d:=λi=>sF (D i)) hj aA aA
 by_cases e7:c.lB=7
 ·rw[if_neg aA,if_neg aA,if_neg aA,if_pos e7]at hop
  rw[qQ,if_neg aA,if_neg aA,if_neg aA,if_neg aA,if_pos e7]
  refine fin (one _ (eO 1000002 h0)) ?_
  refine(p7 j _ _ _ (λi=>-(sF (D c.fA.toNat) i)) (λi _=>Cg.refl _) λi hi=>by rw[hop];exact aRJ da aA).trans ?_
  refine Cg.trans (Cg.of_eq ?_) (p7 j _ (λi=>-(fA A y i)) _ _ (λi hi=>aRJ h0 aA) λi _=>Cg.refl _).symm
  rw[aKP j (sF (D c.fA.toNat)),aKO j (fA A y)]
 have ib:0<=c.fB/\c.fB<y:=by omega
 have db:=hD c.fB.toNat aA
 have two:∀ s1 s2,bV sz s1->bV sz s2->Cg (jJ (λi=>kF (fA (aAW c.fB s2 (aAW c.fA s1 A)) i) (sF (D i)) j) y) (jJ (λi=>kF (fA A i) (sF (D i)) j) y+(kF (sF s1) (sF (D c.fA.toNat)) j+kF (sF s2) (sF (D c.fB.toNat)) j)):=λs1 s2 z1 z2 =>
  (aW9 (hA.put aA z1) z2 (d:=λi=>sF (D i)) hj aA aA).trans (((one s1 z1).add (Cg.refl _)).trans (Cg.of_eq aA))
 by_cases e3:c.lB=3
 ·rw[if_pos e3]at hop
  rw[qQ,if_pos e3]
  refine fin (two _ _ h0 h0) ?_
  refine(p7 j _ _ _ (λi=>sF (D c.fA.toNat) i+sF (D c.fB.toNat) i) (λi _=>Cg.refl _) λi hi=>by rw[hop];exact aIG da db aA).trans (Cg.of_eq ?_)
  rw[aBW j (sF (D c.fA.toNat))];rfl
 rw[if_neg e3]at hop
 by_cases e4:c.lB=4
 ·rw[if_pos e4]at hop
  rw[qQ,if_neg e3,if_pos e4]
  refine fin (two _ _ h0 (eO 1000002 h0)) ?_
  refine(p7 j _ _ _ (λi=>sF (D c.fA.toNat) i+-(sF (D c.fB.toNat) i)) (λi _=>Cg.refl _) λi hi=>by rw[hop];exact bG8 da db aA).trans ?_
  refine Cg.trans (Cg.of_eq ?_) ((Cg.refl (kF (sF (A.getD y [])) (sF (D c.fA.toNat)) j)).add (p7 j _ (λi=>-(fA A y i)) _ _ (λi hi=>aRJ h0 aA) λi _=>Cg.refl _).symm)
  rw[aBW j (sF (D c.fA.toNat)) (λi=>-(sF (D c.fB.toNat) i)),aKP j (sF (D c.fB.toNat)),aKO j (fA A y)];rfl
 rw[if_neg e4]at hop
 have ra:=(hrg.get (i:=c.fA.toNat) aA).2
 have rb:=(hrg.get (i:=c.fB.toNat) aA).2
 have ry:=(hrg.get (i:=y) hy).2
 by_cases e5:c.lB=5
 ·rw[if_pos e5]at hop
  rw[qQ,if_neg e3,if_neg e4,if_pos e5]
  refine fin (two _ _ (fR _ h0) (fR _ h0)) ?_
  generalize rg.getD c.fA.toNat []=ra' at *
  generalize rg.getD c.fB.toNat []=rb' at *
  refine(p7 j _ _ _ (λi=>kF (sF (D c.fA.toNat)) (sF rb') i+kF (sF ra') (sF (D c.fB.toNat)) i) (λi _=>Cg.refl _) λi hi=>by
   rw[hop]
   exact(aIG (fR _ da) (fR _ ra) aA).trans ((aIH _ da aA).add (aIH _ ra aA))).trans ?_
  refine Cg.trans (Cg.of_eq ?_) ((p7 j _ (kF (fA A y) (sF rb')) _ _ (λi hi=>aIH _ h0 aA) λi _=>Cg.refl _).symm.add (p7 j _ (kF (fA A y) (sF ra')) _ _ (λi hi=>aIH _ h0 aA) λi _=>Cg.refl _).symm)
  rw[aBW j (kF (sF (D c.fA.toNat)) (sF rb')) (kF (sF ra') (sF (D c.fB.toNat))),vF,vF,aGA (sF rb')]
 ·have e6:c.lB=6:=by omega
  rw[if_neg e5,if_neg e7]at hop
  rw[qQ,if_neg e3,if_neg e4,if_neg e5,if_pos e6]
  have hp:=tL (rg.getD c.fB.toNat []) h0
  refine fin (two _ _ hp (eO 1000002 (fR _ hp))) ?_
  generalize rg.getD c.fB.toNat []=rb' at *
  generalize rg.getD y []=ry' at *
  have hm:=fR (D c.fB.toNat) ry
  refine(p7 j _ _ _ (kF (λi=>sF (D c.fA.toNat) i+-(kF (sF ry') (sF (D c.fB.toNat)) i)) (sF (ivL rb' sz))) (λi _=>Cg.refl _) λi hi=>by
   rw[hop]
   exact(aW5 (xX da hm) (i+1) i aA aA).trans (p7 i _ _ _ _ (λk hk=>(bG8 da hm aA).trans ((Cg.refl _).add (a4S (aIH _ ry aA)))) λk _=>Cg.refl _)).trans ?_
  refine Cg.trans (Cg.of_eq ?_) ((p7 j _ (kF (fA A y) (sF (ivL rb' sz))) _ _ (λi hi=>aW5 h0 (i+1) i aA aA) λi _=>Cg.refl _).symm.add (p7 j _ (λi=>-(kF (kF (fA A y) (sF (ivL rb' sz))) (sF ry') i)) _ _ (λi hi =>
   (aRJ (fR _ hp) aA).trans (a4S ((aIH _ hp aA).trans (p7 i _ _ _ _ (λk hk=>aW5 h0 (k+1) k aA aA) λk _=>Cg.refl _)))) λi _=>Cg.refl _).symm)
  have e:kF (λi=>sF (D c.fA.toNat) i+-(kF (sF ry') (sF (D c.fB.toNat)) i)) (sF (ivL rb' sz))=λi=>kF (sF (D c.fA.toNat)) (sF (ivL rb' sz)) i+-(kF (kF (sF ry') (sF (D c.fB.toNat))) (sF (ivL rb' sz)) i):=funext λi=>by
   rw[aKN i (sF (D c.fA.toNat)) (λi=>-(kF (sF ry') (sF (D c.fB.toNat)) i)),aKO i (kF (sF ry') (sF (D c.fB.toNat)))]
  rw[e,aBW j (kF (sF (D c.fA.toNat)) (sF (ivL rb' sz))) (λi=>-(kF (kF (sF ry') (sF (D c.fB.toNat))) (sF (ivL rb' sz)) i)),aKP j (kF (kF (sF ry') (sF (D c.fB.toNat))) (sF (ivL rb' sz))),aKO j (kF (kF (fA A y) (sF (ivL rb' sz))) (sF ry')),vF j (kF (fA A y) (sF (ivL rb' sz))),vF j (fA A y),vF j (fA A y),aGA (sF (ivL rb' sz)) (sF (D c.fA.toNat)),aGA (sF (ivL rb' sz)) (kF (sF ry') (sF (D c.fB.toNat)))]
theorem a4U {y k:Nat} {c:bO} {inp:Int} (hc:cV inp y c) (hy:y<=k) (rg A:List (List Int)):fA (qQ c rg y A) k=fA A k:=by
 unfold cV at hc
 have hp:∀ (r:Int) s B,0<=r/\r<y->fA (aAW r s B) k=fA B k:=λr s B hr=>by
  rw[fA,fA,aAW,dI (l:=B.set _ _),aLI aA,←dI]
 unfold qQ
 by_cases h3:c.lB=3
 ·rw[if_pos h3,hp _ _ _ aA,hp _ _ _ aA]
 rw[if_neg h3]
 by_cases h4:c.lB=4
 ·rw[if_pos h4,hp _ _ _ aA,hp _ _ _ aA]
 rw[if_neg h4]
 by_cases h5:c.lB=5
 ·rw[if_pos h5,hp _ _ _ aA,hp _ _ _ aA]
 rw[if_neg h5]
 by_cases h6:c.lB=6
 ·rw[if_pos h6,hp _ _ _ aA,hp _ _ _ aA]
 rw[if_neg h6]
 by_cases h7:c.lB=7
 ·rw[if_pos h7,hp _ _ _ aA]
 ·rw[if_neg h7]
theorem aUK {code:List bO} {inp:Int} (hins:∀ i c,code[i]?=some c->cV inp i c) (rg A0:List (List Int)):∀ j k,j<=code.length->j<=k+1->fA (xO code rg A0 (code.length-j) j) k=fA (xO code rg A0 code.length 0) k
 |0,k,_,_=>rfl
 |j+1,k,hj,hk=>by
  rw[←aUK hins rg A0 j k aA aA]
  have ec:code[j]?=some code[j]:=cM aA
  rw[show code.length-j=(code.length-(j+1))+1 by omega,xO,getD_at ec,a4U (hins j _ ec) aA]
def bMV (code:List bO) (L:List (List Int)) (D:Nat->List Int) (j k:Nat):Int:=if (code.getD k ⟨0,0,0,0⟩).lB=1 then kF (fA L k) (sF (D k)) j else 0
theorem aRL {sz:Nat} (c6:1<=sz/\sz<=1048576) {j:Nat} (hj:j<sz) {code:List bO} {inp:Int} (hins:∀ i c,code[i]?=some c->cV inp i c) {rg A0:List (List Int)} (hrg:gF sz code.length rg) (hA0:gF sz code.length A0) {D:Nat->List Int} (hD:∀ k,k<code.length->bV sz (D k)) {dirs:List (List Int)}
  (hop:∀ y c,code[y]?=some c->D y=aII sz dirs D (λi=>rg.getD i []) y c) :
  ∀ m,m<=code.length->Cg (jJ (λi=>kF (fA (xO code rg A0 (code.length-m) m) i) (sF (D i)) j) m) (jJ (bMV code (xO code rg A0 code.length 0) D j) m)
 |0,_=>Cg.refl _
 |y+1,hy=>by
  have ih:=aRL c6 hj hins hrg hA0 hD hop y aA
  have ec:code[y]?=some code[y]:=cM aA
  have hA:=yT c6 hins hrg hA0 (code.length-(y+1)) (y+1) aA
  have hk:=aUK hins rg A0 (y+1) y hy (iH _)
  have hs:xO code rg A0 (code.length-y) y=qQ code[y] rg y (xO code rg A0 (code.length-(y+1)) (y+1)):=by
   rw[show code.length-y=(code.length-(y+1))+1 by omega,xO,getD_at ec]
  rw[hs]at ih
  generalize xO code rg A0 (code.length-(y+1)) (y+1)=A at *
  have hst:=bUZ hj aA (hins y _ ec) hrg hA hD (hop y _ ec)
  rw[jJ,jJ]
  refine hst.trans (ih.add (Cg.of_eq ?_))
  rw[bMV,getD_at ec,hk]
theorem a09 (f:Nat->Int) (j:Nat):kF (λ_=>0) f j=0:=by
 have:=aC7 0 j (λ_=>0) f
 simp only[Int.zero_mul]at this
 exact this
theorem a89 (n sz k:Nat):fA (List.replicate n (zrL sz)) k=λ_=>0:=funext λq=>by
 rw[fA,dI,aMO]
 split
 ·rw[sF,bA1,zrL,dI,aMO];split <;> rfl
 ·rfl
theorem aRM {F:Nat->Int} (h:∀ i,F i=0):∀ m,jJ F m=0
 |0=>rfl
 |m+1=>by rw[jJ,aRM h m,h m];rfl
theorem a9A {sz j:Nat} (hj:j<sz) {code:List bO} {inp:Nat} (hins:∀ i c,code[i]?=some c->cV inp i c) {L:List (List Int)} (hL:gF sz code.length L) {D:Nat->List Int} {Z:List (List Int)} (hd:∀ k c,code[k]?=some c->c.lB=1->D k=Z.getD c.aW.toNat []):∀ k,k<=code.length->Cg (jJ (λi=>kF (fA (byK code L sz inp k) i) (fA Z i) j) inp) (jJ (bMV code L D j) k)
 |0,_=>Cg.of_eq (by rw[aRM λi=>by rw[byK,a89,a09]];rfl)
 |k+1,hk=>by
  have ih:=a9A hj hins hL hd k aA
  have ec:code[k]?=some code[k]:=cM aA
  have hB:=aKM hins hL k aA
  have hc:=hins k _ ec
  have hd:=hd k _ ec
  rw[jJ,bMV,byK,getD_at ec]
  generalize code[k]=c at *
  by_cases h1:c.lB=1
  ·rw[if_pos h1,if_pos h1,hd h1]
   have hn:0<=c.aW/\c.aW<inp:=by unfold cV at hc;omega
   have h2:=aW9 hB (hL.get (i:=k) aA).2 (d:=λi=>fA Z i) (r:=c.aW) (m:=inp) hj aA (iH _)
   exact h2.trans (ih.add (Cg.refl _))
  ·rw[if_neg h1,if_neg h1]
   exact ih.trans (Cg.of_eq aA)
theorem a1A {sz j n:Nat} (hj:j<sz) {outs ws:List Int} (ho:∀ r∈outs,0<=r/\r<n) (hwn:dW ws) {d:Nat->Nat->Int}:∀ k,k<=outs.length->Cg (jJ (λi=>kF (fA (yS outs ws (List.replicate n (zrL sz)) k) i) (d i) j) n) (jJ (λk=>ws.getD k 0*d (outs.getD k 0).toNat j) k)
 |0,_=>Cg.of_eq (by rw[aRM λi=>by rw[yS,a89,a09]];rfl)
 |k+1,hk=>by
  have ih:=a1A hj ho hwn (d:=d) k aA
  have hr:=ho (outs.getD k 0) bDN
  have hs:=aFD (sz:=sz) aA ho hwn k aA
  rw[yS,jJ]
  generalize yS outs ws (List.replicate n (zrL sz)) k=A at *
  generalize outs.getD k 0=r at *
  have hq:=hs.get (i:=r.toNat) aA
  have h1:∀ q,¬q=r.toNat->fA (A.set r.toNat ((A.getD r.toNat []).set 0 (((A.getD r.toNat []).getD 0 0+ws.getD k 0)%1000003))) q=fA A q:=λq hq=>by
   rw[fA,fA,dI (l:=List.set A _ _),aLI (l5 hq),←dI]
  have h2:∀ q,q<=j->Cg (fA (A.set r.toNat ((A.getD r.toNat []).set 0 (((A.getD r.toNat []).getD 0 0+ws.getD k 0)%1000003))) r.toNat q) (fA A r.toNat q+ws.getD k 0*(if q=0 then 1 else 0)):=λq hqj=>by
   rw[fA,dI (l:=List.set A _ _),aLH (by rw[hs.1];omega),bA1,sF,dI (l:=List.set _ 0 _)]
   by_cases e:q=0
   ·subst e
    rw[aLH (by rw[hq.2.1];omega),if_pos rfl,Int.mul_one]
    exact Cg.mod _
   ·rw[aLI (l5 e),if_neg e,←dI]
    exact Cg.of_eq (by rw[fA,sF];omega)
  refine(aW8 h1 h2 n aA).trans (ih.add (Cg.of_eq ?_))
  rw[aC7 (ws.getD k 0) j (λq=>if q=0 then 1 else 0),aGA,a86]
def aMC (sz:Nat) (row Z:List (List Int)):Nat->List Int
 |0=>zrL sz
 |k+1=>iK (aMC sz row Z k) (mulL (row.getD k []) (Z.getD k []))
theorem aFF {sz n:Nat} {row Z:List (List Int)} (hr:gF sz n row):∀ k,k<=n->bV sz (aMC sz row Z k)
 |0,_=>aIF sz
 |k+1,h=>kX (aFF hr k aA) (fR _ (hr.get (i:=k) aA).2)
theorem aFG {sz n j:Nat} (hj:j<sz) {row Z:List (List Int)} (hr:gF sz n row):∀ k,k<=n->Cg (sF (aMC sz row Z k) j) (jJ (λi=>kF (fA row i) (fA Z i) j) k)
 |0,_=>Cg.of_eq (by rw[aMC,sF,zrL,dI,aMO,if_pos hj];rfl)
 |k+1,h=>(aIG (aFF hr k aA) (fR _ (hr.get (i:=k) aA).2) hj).trans ((aFG hj hr k aA).add (aIH _ (hr.get (i:=k) aA).2 hj))
theorem a1B {n o:Nat} (ho:o<n) (d:Nat->Int):∀ m,m<=n->jJ (λk=>(aE7 n o).getD k 0*d k) m=if o<m then d o else 0
 |0,_=>rfl
 |m+1,h=>by
  rw[jJ,a1B ho d m aA]
  by_cases e:o=m
  ·subst e
   rw[if_neg (bX _),if_pos (aD9 _),aE7,dI,aLH (by rw[aYS];exact ho)];simp
  ·rw[bBZ e]
   by_cases h2:o<m
   ·rw[if_pos h2,if_pos aA];omega
   ·rw[if_neg h2,if_neg aA];omega
theorem bMW {sz:Nat} {a b:List Int} (ha:bV sz a) (hb:bV sz b) (h:∀ j,j<sz->Cg (sF a j) (sF b j)):a=b:=by
 apply vT
 ·rw[ha.1,hb.1]
 ·intro i h1 h2
  have:=(h i (by rw[←ha.1];exact h1)).num (ha.2.get i) (hb.2.get i)
  rw[sF,sF,dI,cM h1,dI,cM h2]at this
  exact this
theorem a9B {sz:Nat} (c6:1<=sz/\sz<=1048576) {code:List bO} {inp:Nat} (hins:∀ i c,code[i]?=some c->cV inp i c) {outs:List Int} (ho:∀ r∈outs,0<=r/\r<code.length) {rg:List (List Int)} (hrg:gF sz code.length rg) {Z:List (List Int)} (hZ:gF sz inp Z) {o:Nat} (hol:o<outs.length) :
  aMC sz (byK code (xO code rg (yS outs (aE7 outs.length o) (List.replicate code.length (zrL sz)) outs.length) code.length 0) sz inp code.length) Z inp=dgS sz Z (λi=>rg.getD i []) code (outs.getD o 0).toNat:=by
 have hwn:=aC5 outs.length o
 have hA0:=aFD (sz:=sz) c6.1 ho hwn outs.length (iH _)
 have hD:∀ k,k<code.length->bV sz (dgS sz Z (λi=>rg.getD i []) code k):=λk hk=>aW7 c6.1 hins hZ.2 (by rw[hZ.1]) (λk hk=>(hrg.get hk).2) (k+1) k aA hk
 have hr0:=ho (outs.getD o 0) (by rw[dI,cM hol];exact eI _)
 have hA:=yT c6 hins hrg hA0 code.length 0 rfl
 have hB:=aKM hins hA code.length (iH _)
 refine bMW (aFF hB inp (iH _)) (hD _ aA) λj hj=>?_
 have hps:=a1A hj ho hwn (d:=λi=>sF (dgS sz Z (λi=>rg.getD i []) code i)) outs.length (iH _)
 have h1:=aRL c6 hj hins hrg hA0 hD (λy c ec=>aIJ ec (hins y c ec)) code.length (iH _)
 rw[wI,xO]at h1
 generalize yS outs (aE7 outs.length o) (List.replicate code.length (zrL sz)) outs.length=A0 at *
 generalize xO code rg A0 code.length 0=A at *
 have h2:=a9A hj hins hA (D:=dgS sz Z (λi=>rg.getD i []) code) (Z:=Z) (λk c ec h1=>by rw[aIJ ec (hins k c ec),aII,if_pos h1]) code.length (iH _)
 rw[a1B hol (λk=>sF (dgS sz Z (λi=>rg.getD i []) code (outs.getD k 0).toNat) j) _ (iH _),if_pos hol]at hps
 exact(aFG hj hB inp (iH _)).trans (h2.trans (h1.symm.trans hps))
structure Ops (α:Type) where
 z:α->Bool
 dv:α->α->α
 tk:α->α->α->α
def pvN {α:Type} (z:α->Bool) (M:Nat->Nat->α) (c n:Nat):Nat->Nat
 |0=>n
 |j+1=>if z (M (n-(j+1)) c)=true then pvN z M c n j else n-(j+1)
def gwF {α:Type} (M:Nat->Nat->α) (c r:Nat):Nat->Nat->α:=λi k=>M (if i=c then r else if i=r then c else i) k
def gsF {α:Type} (F:Ops α) (M:Nat->Nat->α) (c:Nat):Nat->Nat->α:=λi k=>if i=c then F.dv (M c k) (M c c)else F.tk (M i k) (M i c) (F.dv (M c k) (M c c))
def gjF {α:Type} (F:Ops α) (n:Nat) (M:Nat->Nat->α):Nat->Option (Nat->Nat->α)
 |0=>some M
 |c+1=>match gjF F n M c with
  |none=>none
  |some A=>if pvN F.z A c n (n-c)=n then none else some (gsF F (gwF A c (pvN F.z A c n (n-c))) c)
def EqS (sz:Nat) (f g:Nat->Int):Prop:=∀ j,j<sz->Cg (f j) (g j)
theorem EqS.symm {sz:Nat} {f g:Nat->Int} (h:EqS sz f g):EqS sz g f:=λj hj=>(h j hj).symm
theorem EqS.trans {sz:Nat} {f g h:Nat->Int} (a:EqS sz f g) (b:EqS sz g h):EqS sz f h:=λj hj=>(a j hj).trans (b j hj)
def b9N:Ops (List Int):=⟨λs=>decide (s.getD 0 0=0),lV,λx f y=>aJ3 x (mulL f y)⟩
theorem aXA {R:List Int->List Int->Prop} {sz oC:Nat} (H:bG9 R sz oC) {code:List bO} {inp:Int} (hins:∀ i c,code[i]?=some c->cV inp i c) {args args':List (List Int)} (ha:eG R args args'):∀ n k,k<n->k<code.length->R (pW sz args code k) (pW oC args' code k)
 |0,k,h,_=>by omega
 |n+1,k,hn,hk=>by
  have ih:=λi hi=>aXA H hins ha n i hi
  have e:code[k]?=some code[k]:=cM hk
  have hc:=hins k _ e
  generalize code[k]=c at *
  by_cases h1:c.lB=1
  ·rw[aRF e h1,aRF e h1];exact ha.get H.nil _
  by_cases h2:c.lB=2
  ·rw[aOA e h2,aOA e h2];exact H.const _
  rw[aRG e hc h1 h2,aRG e hc h1 h2]
  unfold cV at hc
  have da:=ih c.fA.toNat aA aA
  have db:=ih c.fB.toNat aA aA
  unfold opW
  split
  ·exact H.add da db
  split
  ·exact H.sub da db
  split
  ·exact H.mul da db
  split
  ·exact H.scl _ da
  ·exact H.div da db
theorem a9C {R:List Int->List Int->Prop} {sz oC:Nat} (H:bG9 R sz oC) {code:List bO} {inp:Int} (hins:∀ i c,code[i]?=some c->cV inp i c) {dirs dirs':List (List Int)} (hd:eG R dirs dirs') {rg rg':Nat->List Int} (hrg:∀ k,k<code.length->R (rg k) (rg' k)):∀ n k,k<n->k<code.length->R (dgS sz dirs rg code k) (dgS oC dirs' rg' code k)
 |0,k,h,_=>by omega
 |n+1,k,hn,hk=>by
  have ih:=λi hi=>a9C H hins hd hrg n i hi
  have e:code[k]?=some code[k]:=cM hk
  have hc:=hins k _ e
  rw[aIJ e hc,aIJ e hc]
  generalize code[k]=c at *
  unfold cV at hc
  have hk':=hrg k hk
  unfold aII
  by_cases h1:c.lB=1
  ·rw[if_pos h1,if_pos h1];exact hd.get H.nil _
  rw[if_neg h1,if_neg h1]
  by_cases h2:c.lB=2
  ·rw[if_pos h2,if_pos h2];exact H.const _
  rw[if_neg h2,if_neg h2]
  have da:=ih c.fA.toNat aA aA
  have db:=ih c.fB.toNat aA aA
  have ra:=hrg c.fA.toNat aA
  have rb:=hrg c.fB.toNat aA
  split
  ·exact H.add da db
  split
  ·exact H.sub da db
  split
  ·exact H.add (H.mul da rb) (H.mul ra db)
  split
  ·exact H.scl _ da
  ·exact H.div (H.sub da (H.mul hk' db)) rb
def St (start:List Int) (sz:Nat) (X:List (List Int)):Prop:=gF sz start.length X/\∀ i,i<start.length->(X.getD i []).getD 0 0=start.getD i 0
structure VF (start:List Int) (V:Nat->List (List Int)->List (List Int)):Prop where
 ser:∀ sz X,1<=sz->St start sz X->gF sz start.length (V sz X)
 rel:∀ m sz X X',1<=m->m<=sz->St start m X->St start sz X'->eG (pR m) X X'->∀ i,pR m ((V m X).getD i []) ((V sz X').getD i [])
def oQ (x:Int) (v:List Int) (sz:Nat):List Int:=x::(List.range (sz-1)).map λq=>v.getD q 0*nV ((q:Int)+1)%1000003
def xP (V:Nat->List (List Int)->List (List Int)) (start:List Int) (sz:Nat) (X:List (List Int)):List (List Int):=(List.range start.length).map λi=>oQ (start.getD i 0) ((V sz X).getD i []) sz
def eS (V:Nat->List (List Int)->List (List Int)) (start:List Int):Nat->List (List Int)
 |0=>start.map λn=>[n]
 |k+1=>(List.range start.length).map λi=>(eS V start k).getD i []++[((V (k+1) (eS V start k)).getD i []).getD k 0*nV ((k:Int)+1)%1000003]
def wC (start:List Int) (sz:Nat):List (List Int):=start.map λn=>fQ n sz
def itR (V:Nat->List (List Int)->List (List Int)) (start:List Int) (sz:Nat):Nat->List (List Int)
 |0=>wC start sz
 |n+1=>xP V start sz (itR V start sz n)
theorem pX {n i:Nat} (hi:i<n) (f:Nat->List Int):((List.range n).map f).getD i []=f i:=by
 rw[dI,nE,aIY hi];rfl
theorem wD (V:Nat->List (List Int)->List (List Int)) (start:List Int) {i:Nat} (hi:i<start.length):∀ k,(eS V start k).getD i []=start.getD i 0::(List.range k).map λq=>((V (q+1) (eS V start q)).getD i []).getD q 0*nV ((q:Int)+1)%1000003
 |0=>by rw[eS,dI,nE,cI hi];rfl
 |k+1=>by rw[eS,pX hi,wD V start hi k,a6B,kS];rfl
theorem j5 (V:Nat->List (List Int)->List (List Int)) (start:List Int):∀ k,(eS V start k).length=start.length
 |0=>by simp[eS]
 |k+1=>by simp[eS]
theorem aKQ (V:Nat->List (List Int)->List (List Int)) (start:List Int) (sz:Nat):∀ n,(itR V start sz n).length=start.length
 |0=>by simp[itR,wC]
 |n+1=>by simp[itR,xP]
theorem a1C {l:List (List Int)} {s:List Int} (h:s∈l):∃ i,i<l.length/\l.getD i []=s:=by
 obtain⟨i,hi,rfl⟩:=aD8.1 h
 exact⟨i,hi,by rw[dI,cM hi];rfl⟩
theorem aUL {x:Int} {l:List Int} (hx:oU x) (hl:∀ y∈l,oU y):dW (x::l):=λy hy=>by
 rcases pY.1 hy with rfl|hy
 ·exact hx
 ·exact hl y hy
theorem gE (V:Nat->List (List Int)->List (List Int)) {start:List Int} (hs:dW start) (k:Nat):St start (k+1) (eS V start k):=by
 refine⟨⟨j5 V start k,λs h=>?_⟩,λi hi=>by rw[wD V start hi];rfl⟩
 obtain⟨i,hi,rfl⟩:=a1C h
 rw[j5]at hi
 rw[wD V start hi]
 refine⟨by simp,aUL (hs.get i) λy hy=>?_⟩
 obtain⟨q,_,rfl⟩:=qU.1 hy
 exact nY _
theorem bMX (V:Nat->List (List Int)->List (List Int)) {start:List Int} (hs:dW start) {sz:Nat} (c6:1<=sz) (X:List (List Int)):St start sz (xP V start sz X):=by
 have hl:(xP V start sz X).length=start.length:=by simp[xP]
 refine⟨⟨hl,λs h=>?_⟩,λi hi=>by rw[xP,pX hi];rfl⟩
 obtain⟨i,hi,rfl⟩:=a1C h
 rw[hl]at hi
 rw[xP,pX hi]
 refine⟨by simp[oQ];omega,aUL (hs.get i) λy hy=>?_⟩
 obtain⟨q,_,rfl⟩:=qU.1 hy
 exact nY _
theorem aOD {start:List Int} (hs:dW start) {sz:Nat} (c6:1<=sz):St start sz (wC start sz):=by
 have hg:∀ i,i<start.length->(wC start sz).getD i []=fQ (start.getD i 0) sz:=λi hi=>by
  rw[wC,dI,nE,cI hi];rfl
 refine⟨⟨by simp[wC],λs h=>?_⟩,λi hi=>by rw[hg i hi];exact aFE _ 0 c6⟩
 obtain⟨n,hn,rfl⟩:=qU.1 h
 exact fP (hs n hn)
theorem aC8 (V:Nat->List (List Int)->List (List Int)) {start:List Int} (hs:dW start) {sz:Nat} (c6:1<=sz):∀ n,St start sz (itR V start sz n)
 |0=>aOD hs c6
 |n+1=>bMX V hs c6 _
theorem St.len {start:List Int} {sz:Nat} {X:List (List Int)} (h:St start sz X) {i:Nat} (hi:i<start.length):(X.getD i []).length=sz:=(h.1.get hi).2.1
theorem aKR (x:Int) (n:Nat) (f:Nat->Int) {q:Nat} (hq:q<n):sF (x::(List.range n).map f) (q+1)=f q:=by
 rw[sF,dI,bJ5,nE,aIY hq];rfl
theorem a9D {V:Nat->List (List Int)->List (List Int)} {start:List Int} (hs:dW start) (H:VF start V) {sz:Nat} (c6:1<=sz):∀ n k,k<=n->k<sz->eG (pR (k+1)) (eS V start k) (itR V start sz n)
 |0,k,hk,hlt=>by
  obtain rfl:k=0:=by omega
  refine eG.of (by rw[j5,aKQ]) λi hi=>?_
  rw[j5]at hi
  have h1:=gE V hs 0
  have h2:=aC8 V hs c6 0
  refine .inr ⟨by rw[h1.len hi];exact iH _,by rw[h2.len hi];omega,λq hq=>?_⟩
  obtain rfl:q=0:=by omega
  exact(h1.2 i hi).trans (h2.2 i hi).symm
 |n+1,k,hk,hlt=>by
  refine eG.of (by rw[j5,aKQ]) λi hi=>?_
  rw[j5]at hi
  have h1:=gE V hs k
  have h2:=aC8 V hs c6 (n+1)
  refine .inr ⟨by rw[h1.len hi];exact iH _,by rw[h2.len hi];omega,λq hq=>?_⟩
  cases q with
  |zero=>exact(h1.2 i hi).trans (h2.2 i hi).symm
  |succ q =>
   have h3:=(H.rel (q+1) sz _ _ aA aA (gE V hs q) (aC8 V hs c6 n) (a9D hs H c6 n q aA aA) i).get (i:=q) aA
   rw[wD V start hi,aKR _ _ _ aA,itR,xP,pX hi,oQ,aKR _ _ _ aA]
   simp only[sF]at h3
   rw[h3]
theorem b2D {m:Nat} {s s':List Int} (h:pR m s s') (h1:s.length=m) (h2:s'.length=m):s=s':=by
 apply vT
 ·rw[h1,h2]
 ·intro i a b
  have:=h.get (i:=i) aA
  rw[sF,sF,dI,cM a,dI,cM b]at this
  exact this
theorem a4V {V:Nat->List (List Int)->List (List Int)} {start:List Int} (hs:dW start) (H:VF start V) {o n:Nat} (hn:o<=n):itR V start (o+1) n=eS V start o:=by
 have h:=a9D hs H (sz:=o+1) aA n o hn aA
 have h1:=gE V hs o
 have h2:=aC8 V hs (sz:=o+1) aA n
 apply vT
 ·rw[j5,aKQ]
 ·intro i a b
  rw[aKQ]at a
  have:=b2D (h.get (.inl ⟨rfl,rfl⟩) i) (h1.len a) (h2.len a)
  rw[dI,cM b,dI,cM (by rw[aKQ];exact a)]at this
  exact this.symm
theorem bHC (V:Nat->List (List Int)->List (List Int)) {start:List Int} (hs:dW start) {j k:Nat} (h:j<=k):eG (pR (j+1)) (eS V start j) (eS V start k) :=
 eG.of (by rw[j5,j5]) λi hi=>by
  rw[j5]at hi
  refine .inr ⟨by rw[(gE V hs j).len hi];exact iH _,by rw[(gE V hs k).len hi];omega,λq hq=>?_⟩
  cases q with
  |zero=>exact((gE V hs j).2 i hi).trans ((gE V hs k).2 i hi).symm
  |succ q=>rw[wD V start hi,wD V start hi,aKR _ _ _ aA,aKR _ _ _ aA]
def b9O {α:Type} (n:Nat) (N:Nat->Nat->α) (r:Nat->α):Nat->Nat->α:=λi k=>if k<n then N i k else r i
set_option maxRecDepth 100000
@[go_sem] def bHD:List Nat:=[0,1,2,3,8,9,10,11,12,13,31,41]
@[go_sem] def b2E:List Nat:=[32,37,50]
@[go_sem] def b2F:Marks:=λid=>match id with|4=>([4],(.op 0 (.op 1 (.op 2 (.op 3 (.op 4 (.op 5 (.op 6 .nil))))))),[])|_=>([],.nil,[])
theorem bMY {p:aC} (hp:p.ok) {sz:Nat} (c6:1<=sz/\sz<=1048576) (f:Int) (hf:0<=f/\f<p.aD.length) (args:List (List Int)) (ha:∀ s∈args,bV sz s) (hl:∀ F,p.aD[f.toNat]?=some F->(args.length:Int)=F.aT) :
  fM Tryz.prog 94 [.ip 1 [p.c] 0 0,I f,b6 args,I sz] (.jO [b6 (aKE (evF p sz f args)).1,I (aKE (evF p sz f args)).2.2]):=by
 obtain⟨F,ef,hF1,hF2,hF3,hF4⟩:=vQ hp hf
 have hlF:=hl F ef
 rw[aC.aS]
 refine iN 53 bHD b2E b2F Tryz.func94 λh=>?_
 simp -dsimp -implicitDefEqProofs only[go_sem,↓reduceIte,Tryz.f94,ef]
 intro nb zb
 refine⟨hf.1,by omega,?_⟩
 refine aJ.gS (jC.sub (.cons (.refl _) (.cons (Sub.ip bDZ a66) (.cons (.refl _) .nil))) (aN3 (run hp c6 3001) (aR h nb (fG p sz 0 0)) nb 0 0 F args f (aM _ _ _) aA aA aA (by rw[hlF];exact hF4) hf.1 aA ha aA)) ?_
 rintro r h' ⟨vs,t,c,rfl,rfl,hvl,hvs,a1,a2,a3⟩
 rw[dF,←hF3]at a3
 have zE:=a0T (show kW (evF p sz f args) vs t c from a3)
 rw[aO]
 have hBn:(aR h nb (fG p sz t c)) nb=some (.row 4 [[.v (.ip 1 [p.c] 0 0),.v (I sz),.v (I t),.v (I c)]]):=aM _ _ _
 have hBl:h.le (aR h nb (fG p sz t c)):=aE.bP zb (aE.le_refl _)
 generalize aR h nb (fG p sz t c)=hB at hBn hBl ⊢
 simp -dsimp -implicitDefEqProofs only[go_sem,↓reduceIte,Tryz.f94,hBn]
 refine⟨λhc=>⟨bN,?_⟩,λhc=>⟨bN,?_⟩⟩
 ·rw[zE,if_neg hc]
  exact Shift.of (Sub.jO (.cons (Sub.loose _ _ _) (.cons (.refl _) .nil))) hBl
 subst hc
 rw[if_pos rfl]at zE
 refine cZ bHD b2E b2F (λx:Nat×Option Nat=>[(10,.op nb 4 0 0),(11,b6 vs),(12,iO 1 (vs.take x.1).length x.2),(13,I x.1)]) (λx=>bY hB (.row 1 (((vs.take x.1).map λs=>[ints s]).map (List.map .v))) x.2) (λx=>x.1<=vs.length/\fT hB (vs.take x.1) x.2) (λx=>vs.length-x.1) (0,none) ⟨by simp[c4,b7,iO],by simp only[aQ];exact aE.le_refl _,fE _,by simp[fT]⟩ ?_
 rintro⟨k,o⟩ ⟨hk,hos⟩
 simp only at hk hos ⊢
 rcases bZ k vs.length with hlt|hge
 ·have ea:vs[k]?=some vs[k]:=cM hlt
  have hy:vs.take (k+1)=vs.take k++[vs[k]]:=jU hlt
  have hlk:(vs.take k).length=k:=by rw[jT];omega
  have hsk:=hvs _ (eI hlt)
  cases o with
  |none =>
   rw[aZ]at hos
   rw[hos]at hy ⊢
   simp -dsimp -implicitDefEqProofs only[go_sem,↓reduceIte,Tryz.f94,bM,aQ,hlt,ea]
   intro _
   first|refine aJ.mk (zW vs[k] wW) ?_|refine aF.mk (zW vs[k] wW) ?_|refine aJ.bA (zW vs[k] wW) ?_|refine aF.mk (aX.cU (zW vs[k] wW)) ?_
   simp -dsimp -implicitDefEqProofs only[go_sem,↓reduceIte,Tryz.f94]
   repeat'(with_reducible first|intro _|refine And.intro ?_ ?_)
   all_goals try(first|omega|decide)
   rename_i b hb
   refine⟨(k+1,some b),?_⟩
   simp only[hy]
   refine⟨⟨rfl,?_⟩,aE.le_refl _,⟨by omega,hb⟩,by omega⟩
   rw[IntWalk.i64_in _ aA];rfl
  |some n =>
   rw[aV]at hos
   simp -dsimp -implicitDefEqProofs only[go_sem,↓reduceIte,Tryz.f94,bC,aK,hlt,ea]
   intro _
   first|refine aJ.mk (zW vs[k] wW) ?_|refine aF.mk (zW vs[k] wW) ?_|refine aJ.bA (zW vs[k] wW) ?_|refine aF.mk (aX.cU (zW vs[k] wW)) ?_
   simp -dsimp -implicitDefEqProofs only[go_sem,↓reduceIte,Tryz.f94]
   repeat'(with_reducible first|intro _|refine And.intro ?_ ?_)
   all_goals try(first|omega|decide|exact iH _)
   rename_i b hb
   refine⟨(k+1,some b),?_⟩
   simp only[hy,aK,bC,aV]
   refine⟨⟨by rw[mV];rfl,?_⟩,?_,⟨by omega,hb.2⟩,by omega⟩
   ·rw[IntWalk.i64_in _ aA];rfl
   ·rw[←jD];exact qM hos
 ·have hk':k=vs.length:=by omega
  subst hk'
  rw[mR]at hos ⊢
  cases o with
  |none =>
   rw[aZ]at hos
   simp -dsimp -implicitDefEqProofs only[go_sem,↓reduceIte,Tryz.f94,bM,aQ,bX,dB]
   intro _
   rw[zE,hos]
   exact Shift.of (Sub.jO (.cons (Sub.loose _ _ _) (.cons (.refl _) .nil))) hBl
  |some n =>
   rw[aV]at hos
   simp -dsimp -implicitDefEqProofs only[go_sem,↓reduceIte,Tryz.f94,bC,aK,bX,dB]
   intro _
   rw[zE]
   refine Shift.trans (s9 (vs.map λs=>[ints s]) hos (aE.le_refl _) (by simp[gA,jG]) ?_) (bG hBl)
   simp[aH.eM,lX,pQ]
theorem gB.aC9 {h g:aE} {n:Nat} {o:bE} (w:gB h [(n,o)] g):h n=none/\g=aR h n o:=by
 refine⟨w.fresh n aHC,?_⟩
 funext q
 rw[iS]
 split
 ·rename_i e;rw[e];exact w.tO (n,o) x6
 ·rename_i e;exact w.upto q (by simp[bH,e])
@[go_sem] def bMZ:List Nat:=[0,1,4,7,16]
@[go_sem] def b9P:List Nat:=[0,1,2,6,7,30]
structure aFH (p:aC) (f:Int) (start L:List Int) (F:dS) (u:Nat):Prop where
 ok:(⟨start.length,F.code,F.guards,L⟩:u3).ok
 ins:∀ i c,F.code[i]?=some c->cV start.length i c
 one:1<=F.code.length
 cap:F.code.length<=3200
 outs:∀ r∈L,0<=r/\r<F.code.length
 lo:1<=L.length
 ll:L.length=(p.outs f).length
 ev:∀ sz X,1<=sz->St start sz X->evF p sz f X=.ok (L.map λr=>pW sz X F.code r.toNat,u)
 nz:∀ sz X,1<=sz->St start sz X->∀ (i:Nat) (c:bO),F.code[i]?=some c->c.lB=6->¬(pW sz X F.code c.fB.toNat).getD 0 0=0
theorem aUM {p:aC} (hp:p.ok) {f:Int} (hf:0<=f/\f<p.aD.length) {args:List Int} (na:dW args) (h12:args.length<=12) (hl:∀ G,p.aD[f.toNat]?=some G->(args.length:Int)=G.aT) {L:List Int} {F:dS} {u:Nat} (hX:wT p f args=.ok ((L,F),u)):aFH p f args L F u:=by
 obtain⟨G,eG,hO1,hO2,hO3,hO4⟩:=vQ hp hf
 obtain⟨q1,q2,q3,q4⟩:=(aKI hp f hf args na hl).1 _ _ hX
 simp only at q1 q2 q3 q4
 have hcl:=q1.len
 have hcap:=q1.cap
 have hgc:=q1.aCZ
 have hu:=q4.2.2.2
 have hL1:1<=L.length:=by rw[q3.1,hO3];omega
 have h1:∀ x∈L,0<=x/\x<(F.code.length:Int):=λx hx=>by
  have:=q3.2 x hx
  unfold rQ at this
  omega
 have hone:1<=F.code.length:=by
  have:=h1 (L.getD 0 0) (by rw[dI,cM hL1];exact eI _)
  omega
 have hsim:bBW args.length F λ_=>True:=⟨q1.ins,λ_ _ _ _=>⟨λ_=>⟨trivial,trivial⟩,λ_=>trivial⟩,λ_ _=>trivial,λ_ _ _ _=>trivial⟩
 have hb:∀ sz X,1<=sz->St args sz X->_:=λsz X c6 hX'=>bBY hp c6 hf na hl hX hsim (args:=X) hX'.1.2 hX'.1.1 (λi hi _=>hX'.2 i hi)
 refine⟨⟨by simp only;omega,⟨by simp only;omega,by simp only;omega,hL1,by simp only;rw[q3.1,hO3];omega⟩,λk hk=>?_,λg hg=>?_,λr hr=>by have:=h1 r hr;simp only;omega⟩,q1.ins,hone,by omega,h1,hL1,q3.1,λsz X c6 hX'=>(hb sz X c6 hX').1,λsz X c6 hX' i c ec h6=>?_⟩
 ·have hk':k<F.code.length:=hk
  have hc:=q1.ins k _ (cM hk')
  show a06 F.code[k] k args.length
  unfold cV oU at hc
  unfold a06 oU
  omega
 ·have:=q1.gds g hg
  simp only
  omega
 ·have hc:=q1.ins i c ec
  have hi:=(mS.1 ec).1
  have hd:=(hb sz X c6 hX').2
  unfold cV at hc
  rw[hd.1 c.fB.toNat aA trivial]
  exact hd.2 i c ec h6
def Vy (code:List bO) (L:List Int) (sz:Nat) (X:List (List Int)):List (List Int):=L.map λr=>pW sz X code r.toNat
def Vz (code:List bO) (L:List Int) (Y:Nat->List (List Int)) (sz:Nat) (X:List (List Int)):List (List Int):=L.map λr=>dgS sz X (λi=>pW sz (Y (sz-1)) code i) code r.toNat
theorem aBX {L:List Int} {g:Int->List Int} {i:Nat} (hi:i<L.length):(L.map g).getD i []=g (L.getD i 0):=by
 rw[dI,nE,cI hi];rfl
theorem aOE {L:List Int} {g:Int->List Int} {i:Nat} (hi:¬i<L.length):(L.map g).getD i []=[]:=by
 rw[dI,a2L a62];rfl
theorem aXB {L:List Int} {i:Nat} (hi:i<L.length):L.getD i 0∈L:=by
 rw[dI,cM hi];exact eI _
theorem a9E {p:aC} {f:Int} {start L:List Int} {F:dS} {u:Nat} (T:aFH p f start L F u) (hl:L.length=start.length):VF start (Vy F.code L) where
 ser sz X c6 hX:=⟨by rw[Vy,nG,hl],λs hs=>by
  obtain⟨r,hr,rfl⟩:=qU.1 hs
  have:=T.outs r hr
  exact aF5 T.ins hX.1.2 (by rw[hX.1.1]) _ aA⟩
 rel m sz X X' hm hms hX hX' hR i:=by
  by_cases hi:i<L.length
  ·rw[Vy,Vy,aBX hi,aBX hi]
   have:=T.outs _ (aXB hi)
   exact aXA (bUY aA (iH _) hms) T.ins hR _ _ (aD9 _) aA
  ·rw[Vy,Vy,aOE hi,aOE hi];exact .inl ⟨rfl,rfl⟩
theorem b2G {p:aC} {f:Int} {start dir L:List Int} {F:dS} {u:Nat} (T:aFH p f start L F u) (hl:L.length=start.length) (hd:dir.length=start.length) (hs:dW start):VF dir (Vz F.code L (eS (Vy F.code L) start)) where
 ser sz X c6 hX:=⟨by rw[Vz,nG,hl,hd],λs hs'=>by
  obtain⟨r,hr,rfl⟩:=qU.1 hs'
  have:=T.outs r hr
  have hy:=gE (Vy F.code L) hs (sz-1)
  rw[aTA c6]at hy
  exact aW7 c6 T.ins hX.1.2 (by rw[hX.1.1,hd]) (λk hk=>aF5 T.ins hy.1.2 (by rw[hy.1.1]) k hk) _ _ (aD9 _) aA⟩
 rel m sz X X' hm hms hX hX' hR i:=by
  by_cases hi:i<L.length
  ·rw[Vz,Vz,aBX hi,aBX hi]
   have:=T.outs _ (aXB hi)
   have hr:=bHC (Vy F.code L) hs (j:=m-1) (k:=sz-1) aA
   rw[aTA hm]at hr
   exact a9C (bUY aA (iH _) hms) T.ins hR (λk hk=>aXA (bUY aA (iH _) hms) T.ins hr _ _ (aD9 _) hk) _ _ (aD9 _) aA
  ·rw[Vz,Vz,aOE hi,aOE hi];exact .inl ⟨rfl,rfl⟩
def aC.par (p:aC) (f:Int):Int:=((p.aD[f.toNat]?).map (·.aT)).getD 0
noncomputable def j9 (p:aC) (f:Int) (P:Int->Int->Bool):Int:=if p.ok then if 0<=f/\f<=(p.aD.length:Int)-1 then if P (p.par f) (p.outs f).length=true then 0 else 2 else 2 else 1
def p8 (a b:Int):Bool:=decide (1<=a/\a<=12) && decide (b=a)
theorem bHE (a b:Int):fM Tryz.prog 141 [I a,I b] (.bool (p8 a b)):=by
 refine gX 12 aE0 dC cK Tryz.func141 λh=>?_
 simp -dsimp -implicitDefEqProofs only[go_sem,↓reduceIte,Tryz.f141]
 first|refine aJ.mk (within a 1 12) ?_|refine aF.mk (within a 1 12) ?_|refine aJ.bA (within a 1 12) ?_|refine aF.mk (aX.cU (within a 1 12)) ?_
 simp -dsimp -implicitDefEqProofs only[go_sem,↓reduceIte,Tryz.f141]
 refine⟨λh=>?_,λh=>?_⟩
 ·rw[p8,decide_eq_true h,Bool.true_and]
 ·rw[p8,decide_eq_false h,bJ3]
theorem aRN {p:aC} {f:Int} (h1:p.ok) (h2:0<=f/\f<=(p.aD.length:Int)-1):∃ F,p.aD[f.toNat]?=some F/\p.par f=F.aT/\p.outs f=F.aN/\∀ P:Int->Int->Bool,j9 p f P=if P F.aT F.aN.length=true then 0 else 2:=by
 have ef:p.aD[f.toNat]?=some (p.aD[f.toNat]'aA):=cM aA
 have e1:p.par f=(p.aD[f.toNat]'aA).aT:=by rw[aC.par,ef];rfl
 have e2:p.outs f=(p.aD[f.toNat]'aA).aN:=by rw[aC.outs,ef];rfl
 exact⟨_,ef,e1,e2,λP=>by rw[j9,if_pos h1,if_pos h2,e1,e2]⟩
@[go_sem] def aXC:List Nat:=[0,1,2,3,6,7,30]
@[go_sem] def bHF:Marks:=λid=>match id with|2=>([16,17],(.op 0 (.op 1 (.op 2 (.op 3 (.op 4 (.op 5 (.op 6 (.op 7 (.op 8 (.op 9 (.op 10 (.op 11 (.op 12 (.op 13 (.op 14 (.op 15 (.op 16 (.op 17 (.op 18 (.op 19 .nil)))))))))))))))))))),[])|_=>([],.nil,[])
theorem bHG (p:aC) (f:Int) (hps:p.s<=4194304) {g:Nat} {P:Int->Int->Bool} (hP:∀ a b,fM Tryz.prog g [I a,I b] (.bool (P a b))):fM Tryz.prog 140 [.agg p.c,I f,.fn (.func g) [] []] (I (j9 p f P)):=by
 have hif:=bFG p f hps
 by_cases h1:p.ok
 ·by_cases h2:0<=f/\f<=(p.aD.length:Int)-1
  ·obtain⟨F,ef,e1,e2,e3⟩:=aRN h1 h2
   have hq:=hP F.aT F.aN.length
   rw[if_pos h1,if_pos h2]at hif
   simp only[aC.aS]at hif ⊢
   refine gX 32 aXC a0C bHF Tryz.func140 λh=>?_
   simp -dsimp -implicitDefEqProofs only[go_sem,↓reduceIte,Tryz.f140]
   first|refine aJ.mk (hif) ?_|refine aF.mk (hif) ?_|refine aJ.bA (hif) ?_|refine aF.mk (aX.cU (hif)) ?_
   simp -dsimp -implicitDefEqProofs only[go_sem,↓reduceIte,Tryz.f140,ef,aU.aS]
   refine⟨by omega,by omega,by omega,by omega,λ_=>aJ.mk hq ?_⟩
   simp -dsimp -implicitDefEqProofs only[go_sem,↓reduceIte,Tryz.f140]
   rw[e3]
   exact⟨λq=>by rw[if_neg (by rw[q];decide)],λq=>by rw[if_pos q]⟩
  ·rw[if_pos h1,if_neg h2]at hif
   have e:j9 p f P=2:=by rw[j9,if_pos h1,if_neg h2]
   simp only[aC.aS]at hif ⊢
   refine gX 32 aXC a0C bHF Tryz.func140 λh=>?_
   simp -dsimp -implicitDefEqProofs only[go_sem,↓reduceIte,Tryz.f140]
   first|refine aJ.mk (hif) ?_|refine aF.mk (hif) ?_|refine aJ.bA (hif) ?_|refine aF.mk (aX.cU (hif)) ?_
   simp -dsimp -implicitDefEqProofs only[go_sem,↓reduceIte,Tryz.f140]
   rw[e]
 ·rw[if_neg h1]at hif
  have e:j9 p f P=1:=by rw[j9,if_neg h1]
  simp only[aC.aS]at hif ⊢
  refine gX 32 aXC a0C bHF Tryz.func140 λh=>?_
  simp -dsimp -implicitDefEqProofs only[go_sem,↓reduceIte,Tryz.f140]
  first|refine aJ.mk (hif) ?_|refine aF.mk (hif) ?_|refine aJ.bA (hif) ?_|refine aF.mk (aX.cU (hif)) ?_
  simp -dsimp -implicitDefEqProofs only[go_sem,↓reduceIte,Tryz.f140]
  rw[e]
@[go_sem] def bU3:List Nat:=[0,1,2,4]
theorem isField (p:aC) (f:Int) (hps:p.s<=4194304):fM Tryz.prog 97 [.agg p.c,I f] (I (j9 p f p8)):=by
 have hif:=bHG p f hps bHE
 simp only[aC.aS]at hif ⊢
 refine gX 8 bU3 bK6 cK Tryz.func97 λh=>?_
 simp -dsimp -implicitDefEqProofs only[go_sem,↓reduceIte,Tryz.f97]
 first|refine aJ.mk (hif) ?_|refine aF.mk (hif) ?_|refine aJ.bA (hif) ?_|refine aF.mk (aX.cU (hif)) ?_
 simp -dsimp -implicitDefEqProofs only[go_sem,↓reduceIte,Tryz.f97]
theorem aOF (n:Int):fM Tryz.prog 98 [I n] (.bool (decide (0<=n/\n<=12))):=by
 refine gX 5 aD2 dC cK Tryz.func98 λh=>?_
 simp -dsimp -implicitDefEqProofs only[go_sem,↓reduceIte,Tryz.f98]
 first|refine aJ.mk (within n 0 12) ?_|refine aF.mk (within n 0 12) ?_|refine aJ.bA (within n 0 12) ?_|refine aF.mk (aX.cU (within n 0 12)) ?_
 simp -dsimp -implicitDefEqProofs only[go_sem,↓reduceIte,Tryz.f98]
noncomputable def fW (p:aC) (f:Int) (ls:List (List Int)) (order:Int):Int:=if j9 p f p8=0 then if (∀ l∈ls,(l.length:Int)=p.par f/\dW l)/\0<=order/\order<=12 then 0 else 2 else j9 p f p8
theorem aDA {p:aC} {f:Int} {P:Int->Int->Bool} (h:j9 p f P=0):p.ok/\(0<=f/\f<p.aD.length)/\∃ F,p.aD[f.toNat]?=some F/\p.par f=F.aT/\p.outs f=F.aN/\P F.aT F.aN.length=true:=by
 by_cases h1:p.ok
 ·by_cases h2:0<=f/\f<=(p.aD.length:Int)-1
  ·obtain⟨F,ef,e1,e2,e3⟩:=aRN h1 h2
   rw[e3]at h
   refine⟨h1,by omega,F,ef,e1,e2,?_⟩
   by_cases e:P F.aT F.aN.length=true
   ·exact e
   ·rw[if_neg e]at h;cases h
  ·rw[j9,if_pos h1,if_neg h2]at h;cases h
 ·rw[j9,if_neg h1]at h;cases h
@[go_sem] def a4W:List Nat:=[0,1,2,3,4,8,9,11,16,18,19,20,21,32,36]
theorem aOG (p:aC) (f:Int) (hps:p.s<=4194304) (ls:List (List Int)) (hl:ls.length<=1048576) (order:Int):fM Tryz.prog 38 [.agg p.c,I f,I order,b6 ls] (I (fW p f ls order)):=by
 have hif:=isField p f hps
 by_cases h0:j9 p f p8=0
 ·obtain⟨h1,h2,F,ef,e1,e2,e3⟩:=aDA h0
  rw[h0]at hif
  have e:fW p f ls order=if (∀ l∈ls,(l.length:Int)=F.aT/\dW l)/\0<=order/\order<=12 then 0 else 2:=by rw[fW,if_pos h0,e1]
  simp only[aC.aS]at hif ⊢
  refine gX 37 a4W aP8 cK Tryz.func38 λh=>?_
  simp -dsimp -implicitDefEqProofs only[go_sem,↓reduceIte,Tryz.f38]
  first|refine aJ.mk (hif) ?_|refine aF.mk (hif) ?_|refine aJ.bA (hif) ?_|refine aF.mk (aX.cU (hif)) ?_
  simp -dsimp -implicitDefEqProofs only[go_sem,↓reduceIte,Tryz.f38]
  refine λ_=>?_
  refine cZ a4W aP8 cK (λk:Nat=>[(1,I f),(2,I order),(4,.ip 1 [[fN 3 aU.c p.aD]] 0 0),(18,b6 ls),(19,I ls.length),(20,I k)]) (λ_=>h) (λk=>k<=ls.length/\∀ l∈ls.take k,(l.length:Int)=F.aT/\dW l) (λk=>ls.length-k) 0 ⟨by simp[c4,b7],aE.le_refl _,fE _,by simp⟩ ?_
  rintro k ⟨hk,hkl⟩
  rcases bZ k ls.length with hlt|hge
  ·have ea:ls[k]?=some ls[k]:=cM hlt
   have hn:=aP9 ls[k] F.aT
   simp -dsimp -implicitDefEqProofs only[go_sem,↓reduceIte,Tryz.f38,hlt,ea,ef,aU.aS]
   refine⟨h2.1,h2.2,aJ.mk hn ?_⟩
   simp -dsimp -implicitDefEqProofs only[go_sem,↓reduceIte,Tryz.f38,hlt,ea,ef,aU.aS]
   have h3:ls.take (k+1)=ls.take k++[ls[k]]:=jU hlt
   refine⟨λq=>?_,λq=>⟨k+1,IntWalk.i64_in _ aA,⟨hlt,λl hm=>?_⟩,by omega⟩⟩
   ·rw[e,if_neg λz=>q (z.1 _ (eI hlt))]
   ·rw[h3,pJ,jF]at hm
    rcases hm with hm|rfl
    ·exact hkl l hm
    ·exact q
  ·obtain rfl:k=ls.length:=by omega
   simp -dsimp -implicitDefEqProofs only[go_sem,↓reduceIte,Tryz.f38,bX,dB]
   first|refine aJ.mk (aOF order) ?_|refine aF.mk (aOF order) ?_|refine aJ.bA (aOF order) ?_|refine aF.mk (aX.cU (aOF order)) ?_
   simp -dsimp -implicitDefEqProofs only[go_sem,↓reduceIte,Tryz.f38]
   rw[mR]at hkl
   exact⟨λq=>by rw[e,if_neg λz=>q z.2],λq=>by rw[e,if_pos ⟨hkl,q⟩]⟩
 ·have e:fW p f ls order=j9 p f p8:=by rw[fW,if_neg h0]
  generalize j9 p f p8=c at *
  simp only[aC.aS]at hif ⊢
  refine gX 37 a4W aP8 cK Tryz.func38 λh=>?_
  simp -dsimp -implicitDefEqProofs only[go_sem,↓reduceIte,Tryz.f38]
  first|refine aJ.mk (hif) ?_|refine aF.mk (hif) ?_|refine aJ.bA (hif) ?_|refine aF.mk (aX.cU (hif)) ?_
  simp -dsimp -implicitDefEqProofs only[go_sem,↓reduceIte,Tryz.f38,h0]
  rw[e]
theorem aJ.bQ8 {P:Program} {f:FuncId} {args args':List aH} {R:OV->Prop} {d:aH} {g:aE} {K:aH->aE->Prop} {t:Tag K} (a:uT P f args' (QS R)) (hd:∀ y,R y->y.pU=d) (hs:∀ y,R y->y.sol=true) (hv:sD g args args') (k:K d g):aJ P f args g K t :=
 aJ.gS (aZ9 (r:=d) g (a.bST hv (QS.jM hs λ_ h=>h)) λr' h' ⟨l,⟨y,hy,e1,e2⟩,n⟩=>by
  subst e1 e2
  exact⟨_,n,λE w v R rx=>hd y hy▸gC.aGY R y n.tO (λp hp=>dR.2 ⟨p.2,hp⟩) v rx⟩) λr h' ⟨e1,e2⟩=>by subst e1 e2;exact k
theorem aJ.b2H {P:Program} {f:FuncId} {args args':List aH} {l:List Int} {g:aE} {K:aH->aE->Prop} {t:Tag K} (a:uT P f args' (QS (OS (oP I) 1 l))) (hv:sD g args args') (k:K (ints l) g):aJ P f args g K t :=
 aJ.bQ8 a (λy hy=>OS.pU (c:=λn=>[I n]) (λ_ _ q=>aP2 q) hy) (λy hy=>OS.sol (λ_ _ q=>bEZ (λ_=>rfl) q) hy) hv k
def oI (n:Nat) (s:List Int):List OV:=[OV.sl n 1 (s.map λx=>[.v (I x)])]
theorem a9F (n:Nat) (s:List Int):((oI n s).map λc=>Cell.v c.val)=[.v (.os n 1 0 s.length)]:=by rw[oI,aI1,OV.oE]
theorem b2I (n:Nat) (s:List Int):oL I s (oI n s):=⟨_,rfl,OS.mk (aP3 s)⟩
theorem bU4 {g:aE} {n:Nat} (s:List Int) (h:g n=none):gB g (OV.cJ (oI n s)) (aR g n (lI s)):=by
 rw[oI,OV.fC,OV.gZ,dT,OV.hJ,l3,kG];exact gB.one h
abbrev LLx:=Option Nat×List (List OV)×aE
def LLG (h:aE) (L:List (List Int)) (x:LLx):Prop:=OR (oL I) L x.2.1/\gB h (OV.bF x.2.1) x.2.2/\yJ x.2.2 x.2.1 x.1
def LLH (x:LLx):aE:=bY x.2.2 (.row 1 (OV.cells x.2.1)) x.1
theorem LLG.init (h:aE):LLG h [] (none,[],h):=⟨trivial,gB.nil h,rfl⟩
theorem LLG.len {h:aE} {L:List (List Int)} {x:LLx} (H:LLG h L x):x.2.1.length=L.length:=H.1.length.symm
theorem LLG.nil {h g:aE} {L:List (List Int)} {es:List (List OV)} (H:LLG h L (none,es,g)):L=[]/\es=[]/\h=g:=by
 obtain⟨h1,h2,h3⟩:=H
 have e:es=[]:=h3
 subst e
 cases L with
 |cons s L=>exact h1.elim
 |nil=>exact⟨rfl,rfl,funext λq=>(h2.upto q (by simp[OV.bF,bH])).symm⟩
theorem LLG.snoc {h g:aE} {L:List (List Int)} {o:Option Nat} {es:List (List OV)} (H:LLG h L (o,es,g)) {m b:Nat} (s:List Int) (hm:g m=none) (hb:g b=none) (hbm:¬b=m):LLG h (L++[s]) (some b,es++[oI m s],aR g m (lI s)) :=
 ⟨OR.append H.1 ⟨b2I m s,trivial⟩,H.2.1.snoc (bU4 s hm),by show aR g m (lI s) b=none;rw[aI _ _ _ _ hbm];exact hb⟩
theorem LLH.snoc {es:List (List OV)} {g:aE} {m b:Nat} {s:List Int}:LLH (some b,es++[oI m s],aR g m (lI s))=aR (aR g m (lI s)) b (.row 1 (OV.cells es++[[.v (.os m 1 0 s.length)]])):=by
 rw[LLH,aK,jW,a9F]
theorem LLG.done {h:aE} {L:List (List Int)} {x:LLx} (H:LLG h L x):∃ y:OV,OS (oL I) 1 L y/\y.val=iO 1 L.length x.1/\gB h y.rows (LLH x):=by
 obtain⟨o,es,g⟩:=x
 refine⟨gov 1 es o,aCL H.1 H.2.2,?_,xK H.2.1 H.2.2⟩
 cases o with
 |none =>
  have:=H.nil
  rw[a0B,OV.bK4,bM]
 |some n=>rw[aP7,OV.aCK,bC,H.len]
theorem bM0 (x:List Int) (e:List OV) (h:oL I x e):e.map OV.pU=[ints x]:=bT7 h
theorem aGB {L:List (List Int)} {y:OV} (h:OS (oL I) 1 L y):y.pU=b6 L:=OS.pU (c:=λs=>[ints s]) bM0 h
theorem bM1 (x:List Int) (e:List OV) (h:oL I x e):OV.wP e=true:=by
 obtain⟨y,rfl,hy⟩:=h
 rw[OV.wP,OS.sol (λ_ _ q=>bEZ (λ_=>rfl) q) hy];rfl
theorem bB6 {L:List (List Int)} {y:OV} (h:OS (oL I) 1 L y):y.sol=true:=OS.sol bM1 h
theorem aJ.bU5 {P:Program} {f:FuncId} {args args':List aH} {L:List (List Int)} {g:aE} {K:aH->aE->Prop} {t:Tag K} (a:uT P f args' (QS (OS (oL I) 1 L))) (hv:sD g args args') (k:K (b6 L) g):aJ P f args g K t :=
 aJ.bQ8 a (λy hy=>aGB hy) (λy hy=>bB6 hy) hv k
theorem bHH {P:Program} {f:FuncId} {args:List aH} {L:List (List Int)} (a:uT P f args (QS (OS (oL I) 1 L))):fM P f args (b6 L):=QS.cU a λy hy=>aGB hy
theorem aXD {P:Program} {f:FuncId} {args:List aH} {L:List (List Int)} {c:Int} (a:uT P f args (QS (OS (oL I) 1 L) (λy=>.jO [y,I c]))):fM P f args (.jO [b6 L,I c]):=QS.b0N a (λy hy=>aGB hy) (aEW [] [I c])
theorem bM2 {g:aE} {n m b:Nat} {o r X:bE} (hn:g n=none) (hmn:¬m=n):(aR (aR g m r) b X).le (aR (aR (aR (aR g n o) m r) n .gone) b X):=λq=>by
 by_cases e:q=b
 ·rw[e,aM,aM];exact .inr rfl
 rw[aI _ _ _ _ e,aI _ _ _ _ e]
 by_cases e2:q=n
 ·rw[e2,aI _ _ _ _ (l5 hmn)];exact .inl hn
 rw[aI _ _ _ _ e2]
 by_cases e3:q=m
 ·rw[e3,aM,aM];exact .inr rfl
 ·rw[aI _ _ _ _ e3,aI _ _ _ _ e3,aI _ _ _ _ e2];exact .inr rfl
theorem LLG.fin {h g F:aE} {L:List (List Int)} {o:Option Nat} {es:List (List OV)} (H:LLG h L (o,es,g)) {m b sz:Nat} {s:List Int} (hs:s.length=sz) (hm:g m=none) (hb:g b=none) (hbm:¬b=m) (hF:(aR (aR g m (lI s)) b (.row 1 (OV.cells es++[[.v (.os m 1 0 sz)]]))).le F) :
  ∃ x:LLx,x.1=some b/\LLG h (L++[s]) x/\(LLH x).le F:=by
 subst hs
 exact⟨_,rfl,H.snoc s hm hb hbm,by rw[LLH.snoc];exact hF⟩
theorem aOH {g F:aE} {n m b:Nat} {r X:bE} (hn:g n=none) (hmn:¬m=n) (hbn:¬b=n) (hF:∀ q,¬q=n->F q=aR (aR g m r) b X q):(aR (aR g m r) b X).le F:=λq=>by
 by_cases e:q=n
 ·rw[e,aI _ _ _ _ (l5 hbn),aI _ _ _ _ (l5 hmn)];exact .inl hn
 ·exact .inr (hF q e).symm
@[go_sem] def bHI:List Nat:=[0,1,4,5,7,8,10,11,12,13]
@[go_sem] def b2J:List Nat:=[9,24]
theorem aMD (l:List Int) {sz:Nat} (hl:l.length<=1048576) (c6:1<=sz/\sz<=1048576):uT Tryz.prog 41 [ints l,I ((sz:Int)-1)] (QS (OS (oL I) 1 (wC l sz))):=by
 have hel:(wC l sz).length=l.length:=by simp[wC]
 have e1:IntKind.i64.wrap ((sz:Int)-1+1)=(sz:Int):=by rw[IntWalk.i64_in _ aA];omega
 have e2:=aJ8 (x:=[aH.int .i64 0]) c6.1
 refine aBC 28 bHI b2J cK Tryz.func41 λh=>?_
 simp -dsimp -implicitDefEqProofs only[go_sem,↓reduceIte,Tryz.f41]
 refine⟨bN,λ_=>?_⟩
 refine cZ bHI b2J cK (λx:Nat×LLx=>[(1,I ((sz:Int)-1)),(5,iO 1 x.1 x.2.1),(10,ints l),(11,I l.length),(12,I x.1)]) (λx=>LLH x.2) (λx=>x.1<=l.length/\LLG h ((wC l sz).take x.1) x.2) (λx=>l.length-x.1) (0,none,[],h) ⟨by simp[c4,b7,iO],aE.le_refl _,fE _,LLG.init _⟩ ?_
 rintro⟨k,op,es,g⟩ ⟨hk,H⟩
 simp only at hk H ⊢
 rcases bZ k l.length with hlt|hge
 ·have ea:l[k]?=some l[k]:=cM hlt
  have hy:(wC l sz).take (k+1)=(wC l sz).take k++[fQ l[k] sz]:=by
   rw[jU aA];simp[wC]
  have hlk:((wC l sz).take k).length=k:=by rw[jT];omega
  have xQ:=H.len
  simp only[hlk]at xQ
  cases op with
  |none =>
   obtain⟨h1,rfl,rfl⟩:=H.nil
   simp -dsimp -implicitDefEqProofs only[go_sem,↓reduceIte,Tryz.f41,hlt,ea,e1,e2,bM,LLH,aQ,nU]
   refine⟨bN,iH _,by omega,by omega,λm zm=>⟨by omega,?_⟩⟩
   rw[aO,show Int.toNat 0=0 from rfl,aBF]
   obtain rfl:k=0:=by rw[←hlk,h1];rfl
   refine⟨bN,bN,bN,λb ⟨b1,_,b2⟩=>?_⟩
   obtain⟨x',e',H',L'⟩:=H.fin (m:=m) (b:=b) (s:=fQ l[0] sz) (s8 _ _) zm b2 b1 (aE.le_refl _)
   refine⟨(1,x'),⟨by simp only[e'];rfl,IntWalk.i64_in _ aA⟩,L',⟨hlt,by simp only;rw[hy];exact H'⟩,by simp only;omega⟩
  |some n =>
   simp -dsimp -implicitDefEqProofs only[go_sem,↓reduceIte,Tryz.f41,hlt,ea,e1,e2,bC,LLH,aK,nU,cW,xQ]
   refine⟨bN,iH _,by omega,by omega,λm ⟨m1,zm⟩=>⟨by omega,bN,bN,bN,?_⟩⟩
   obtain⟨wY,gT,gU,aG1⟩:=bB (show ¬m=n from m1)
   rw[aO,show Int.toNat 0=0 from rfl,aBF]
   simp -dsimp -implicitDefEqProofs only[go_sem,↓reduceIte,Tryz.f41,gT,gU,aI,cW,xQ]
   refine⟨iH _,by omega,by omega,λb ⟨b1,_,b2⟩=>?_⟩
   rw[show List.take k (OV.cells es)=OV.cells es from xQ▸fF es]
   obtain⟨x',e',H',L'⟩:=H.fin (m:=m) (b:=b) (s:=fQ l[k] sz) (s8 _ _) zm b2 b1 (bM2 H.2.2 wY)
   refine⟨(k+1,x'),⟨by simp only[e'];rfl,IntWalk.i64_in _ aA⟩,L',⟨hlt,by simp only;rw[hy];exact H'⟩,by simp only;omega⟩
 ·have hk':k=l.length:=by omega
  subst hk'
  simp -dsimp -implicitDefEqProofs only[go_sem,↓reduceIte,Tryz.f41,bX,dB]
  rw[pQ aA]at H
  obtain⟨y,hy,hv,hw⟩:=H.done
  rw[hel]at hv
  exact⟨_,_,_,bQ _ _,⟨y,hy,hv.symm,rfl⟩,hw⟩
theorem yV (x:Int) (v:List Int) {sz:Nat} (h:1<=sz):(oQ x v sz).length=sz:=by simp[oQ];omega
theorem bM3 (x:Int) (v:List Int) {sz k:Nat} (h:k+1<sz) (hk:k+1<(oQ x v sz).length):(oQ x v sz)[k+1]=v.getD k 0*nV ((k:Int)+1)%1000003:=by simp[oQ]
theorem bM4 {c:List Int} (h:0<c.length) (h0:c[0]=0):upL c 1=List.replicate c.length 0:=by
 rw[←aFW h,h0,aEY]
 apply vT
 ·simp
 ·intro i a b
  rw[List.getElem_set]
  split <;> simp
@[go_sem] def b2K:Marks:=λid=>match id with|5=>([12],(.op 0 (.op 1 (.op 2 (.op 3 (.op 4 (.op 5 (.op 6 (.op 7 (.op 8 (.op 9 (.op 10 (.op 11 (.op 12 .nil))))))))))))),[])|_=>([],.nil,[])
theorem aUN (a:List Int) (hl:1<=a.length/\a.length<=1048576) (ha:dW a):uT Tryz.prog 44 [ints a] (QS (OS (oP I) 1 (oQ 0 a a.length))):=by
 refine aBC 27 a7Q dC b2K Tryz.func44 λh=>?_
 simp -dsimp -implicitDefEqProofs only[go_sem,↓reduceIte,Tryz.f44]
 have hc:=yV 0 a hl.1
 refine λ_=>⟨bN,iH _,by omega,by omega,λn hn=>?_⟩
 rw[zQ]
 refine aHO a7Q dC b2K (λk:Nat=>[(0,ints a),(3,.os n 1 0 a.length),(4,I k)]) n (λk=>.row 1 (((upL (oQ 0 a a.length) k).map λn=>[I n]).map (List.map .v))) (λk=>1<=k/\k<=a.length) (λk=>a.length-k) 1 ⟨by simp[c4,b7],by rw[aM,bM4 aA (by simp[oQ]),hc],iH _,hl.1⟩ ?_
 rintro k ⟨h1,hk⟩
 rcases bZ k a.length with hlt|hge
 ·obtain⟨k,rfl⟩:∃ j,k=j+1:=⟨k-1,by omega⟩
  have ea:=cI (l:=a) (i:=k) aA
  have eu:=aJW (c:=oQ 0 a a.length) (k:=k+1) aA
  have el:=aJV (oQ 0 a a.length) (k:=k+1) aA
  have ew:IntKind.i64.wrap (((k+1:Nat):Int)-1)=(k:Int):=by rw[IntWalk.i64_in _ aA];omega
  simp -dsimp -implicitDefEqProofs only[go_sem,↓reduceIte,Tryz.f44,aO,hlt,ea,eu,el,hc,ew]
  refine λ_=>⟨by omega,?_⟩
  first|refine aJ.mk (sQ ((k+1:Nat):Int)) ?_|refine aF.mk (sQ ((k+1:Nat):Int)) ?_|refine aJ.bA (sQ ((k+1:Nat):Int)) ?_|refine aF.mk (aX.cU (sQ ((k+1:Nat):Int))) ?_
  simp -dsimp -implicitDefEqProofs only[go_sem,↓reduceIte,Tryz.f44,aO,hlt,eu,el,hc]
  have h2:=num_mul (ha.get k) (num_inv ((k+1:Nat):Int))
  refine⟨k+1+1,by rw[IntWalk.i64_in _ aA];rfl,?_,⟨by omega,by omega⟩,by omega⟩
  have hv:(oQ 0 a a.length)[k+1]'aA=a.getD k 0*nV ((k:Int)+1)%1000003:=bM3 0 a hlt aA
  rw[a0N h2.1 aA,←aFW aA,hv,←yK I]
  exact aE.le_refl _
 ·have hk':k=a.length:=by omega
  subst hk'
  simp -dsimp -implicitDefEqProofs only[go_sem,↓reduceIte,Tryz.f44,aO,bX]
  have hu:upL (oQ 0 a a.length) a.length=oQ 0 a a.length:=by
   have:=aJU (oQ 0 a a.length)
   rwa [hc]at this
  intro _
  rw[hu]
  have:=zP (c:=I) (l:=oQ 0 a a.length) (sz:=1) hn
  rwa [hc]at this
@[go_sem] def bM5:List Nat:=[0,2,5]
theorem aXE {l:List (List Int)} {sz n:Nat} (h:gF sz n l) (hn:1<=n):fM Tryz.prog 101 [b6 l] (I ((sz:Int)-1)):=by
 have h0:=h.get (i:=0) aA
 have h1:=h.1
 have e0:l[Int.toNat 0]?=some (l.getD 0 []):=h0.1
 have l0:=h0.2.1
 refine gX 11 bM5 dC cK Tryz.func101 λh=>?_
 simp -dsimp -implicitDefEqProofs only[go_sem,↓reduceIte,Tryz.f101,e0,l0]
 exact λ_=>⟨λq=>by omega,λ_=>⟨by omega,λ_=>IntWalk.i64_in _ aA⟩⟩
@[go_sem] def a4X:List Nat:=[0,1,2,3,6,7,8,10,11,12,13,14,26,29,30,31,32]
@[go_sem] def bU6:List Nat:=[3,28,48]
@[go_sem] def bU7:Marks:=λid=>match id with|1=>([],(.op 0 (.op 1 (.op 2 (.op 3 (.op 4 (.op 5 (.op 6 (.op 7 (.op 8 (.op 9 (.op 10 (.op 11 (.op 12 .nil))))))))))))),[])|_=>([],.nil,[])
theorem bU8 {p:aC} (hp:p.ok) {sz:Nat} (c6:1<=sz/\sz<=1048576) (f:Int) (hf:0<=f/\f<p.aD.length) {start:List Int} (hs:1<=start.length/\start.length<=1048576) {X:List (List Int)} (hX:St start sz X) (hl:∀ F,p.aD[f.toNat]?=some F->(start.length:Int)=F.aT) {V:Nat->List (List Int)->List (List Int)} {u:Nat} (hV:gF sz start.length (V sz X)) (zE:evF p sz f X=.ok (V sz X,u)) :
  fM Tryz.prog 99 [.agg p.c,I f,b6 X] (.jO [b6 (xP V start sz X),I 0]):=by
 refine aXD (c:=0) ?_
 have ho:=aXE hX.1 hs.1
 have he:=aT3 hp c6 f hf X hX.1.2 (λF hF=>by rw[hX.1.1];exact hl F hF)
 rw[zE,show aKE (.ok (V sz X,u))=(V sz X,(u:Int),0)from rfl]at he
 have hpl:(xP V start sz X).length=start.length:=by simp[xP]
 rw[aC.aS]at he ⊢
 refine aBC 52 a4X bU6 bU7 Tryz.func99 λh=>?_
 simp -dsimp -implicitDefEqProofs only[go_sem,↓reduceIte,Tryz.f99]
 first|refine aJ.mk (ho) ?_|refine aF.mk (ho) ?_|refine aJ.bA (ho) ?_|refine aF.mk (aX.cU (ho)) ?_
 simp -dsimp -implicitDefEqProofs only[go_sem,↓reduceIte,Tryz.f99]
 first|refine aJ.mk (he) ?_|refine aF.mk (he) ?_|refine aJ.bA (he) ?_|refine aF.mk (aX.cU (he)) ?_
 simp -dsimp -implicitDefEqProofs only[go_sem,↓reduceIte,Tryz.f99]
 refine⟨bN,λ_=>?_⟩
 refine cZ a4X bU6 bU7 (λx:Nat×LLx=>[(2,b6 X),(11,iO 1 x.1 x.2.1),(29,b6 (V sz X)),(30,I (V sz X).length),(31,I x.1)]) (λx=>LLH x.2) (λx=>x.1<=start.length/\LLG h ((xP V start sz X).take x.1) x.2) (λx=>start.length-x.1) (0,none,[],h) ⟨by simp[c4,b7,iO],aE.le_refl _,fE _,LLG.init _⟩ ?_
 rintro⟨k,op,es,g⟩ ⟨hk,H⟩
 simp only at hk H ⊢
 have hvl:=hV.1
 rcases bZ k start.length with hlt|hge
 ·have ev:=hV.get (i:=k) hlt
  have ex:=hX.1.get (i:=k) hlt
  have x0:=hX.2 k hlt
  have exz:=cI (l:=X.getD k []) (i:=0) (by rw[ex.2.1];exact c6.1)
  rw[x0]at exz
  have exl:=ex.2.1
  have hy:(xP V start sz X).take (k+1)=(xP V start sz X).take k++[oQ (start.getD k 0) ((V sz X).getD k []) sz]:=by
   rw[jU aA];simp[xP]
  have hlk:((xP V start sz X).take k).length=k:=by rw[jT];omega
  have xQ:=H.len
  simp only[hlk]at xQ
  have hi:=aUN ((V sz X).getD k []) (by rw[ev.2.1];exact c6) ev.2.2
  rw[ev.2.1]at hi
  have hst:(oQ 0 ((V sz X).getD k []) sz).set 0 (start.getD k 0)=oQ (start.getD k 0) ((V sz X).getD k []) sz:=rfl
  have hc:=yV 0 ((V sz X).getD k []) c6.1
  have es0:(oQ 0 ((V sz X).getD k []) sz)[0]?=some 0:=rfl
  have hrow:=yK I (oQ 0 ((V sz X).getD k []) sz) 0 (start.getD k 0)
  rw[hst]at hrow
  cases op with
  |none =>
   obtain⟨h1,rfl,rfl⟩:=H.nil
   obtain rfl:k=0:=by rw[←hlk,h1];rfl
   simp -dsimp -implicitDefEqProofs only[go_sem,↓reduceIte,Tryz.f99,hvl,hlt,ev.1,bM,LLH,aQ]
   refine aJ.wn0 hi ?_
   rintro r l g ⟨y,oy,rfl,rfl⟩ wn
   rcases oy.aL7 with⟨_,q⟩|⟨m,rfl⟩
   ·rw[q]at hc;simp at hc;omega
   rw[OV.oE]
   rw[OV.hJ,l3,kG]at wn
   obtain⟨zm,rfl⟩:=wn.aC9
   simp -dsimp -implicitDefEqProofs only[go_sem,↓reduceIte,Tryz.f99,hvl,hlt,ev.1,ex.1,exz,hc,exl,hX.1.1,nU,show Int.toNat 0=0 from rfl,es0]
   rw[hrow,aO]
   refine⟨by omega,by omega,bN,bN,bN,λb ⟨b1,_,b2⟩=>?_⟩
   obtain⟨x',e',H',L'⟩:=H.fin (m:=m) (b:=b) (s:=oQ (start.getD 0 0) ((V sz X).getD 0 []) sz) (yV _ _ c6.1) zm b2 b1 (aE.le_refl _)
   refine⟨(1,x'),⟨by simp only[e'];rfl,IntWalk.i64_in _ aA⟩,L',⟨hlt,by simp only;rw[hy];exact H'⟩,by simp only;omega⟩
  |some n =>
   simp -dsimp -implicitDefEqProofs only[go_sem,↓reduceIte,Tryz.f99,hvl,hlt,ev.1,bC,LLH,aK,cW,xQ]
   refine aJ.wn1 hi H.2.2 ?_
   rintro r l g' ⟨y,oy,rfl,rfl⟩ wn zn
   rcases oy.aL7 with⟨_,q⟩|⟨m,rfl⟩
   ·rw[q]at hc;simp at hc;omega
   rw[OV.oE]
   rw[OV.hJ,l3,kG]at wn
   obtain⟨zm,rfl⟩:=wn.aC9
   obtain⟨wY,gT,gU,aG1⟩:=bB (show ¬m=n from λe=>by rw[e,aM]at zn;cases zn)
   simp -dsimp -implicitDefEqProofs only[go_sem,↓reduceIte,Tryz.f99,hvl,hlt,ev.1,ex.1,exz,hc,exl,hX.1.1,nU,show Int.toNat 0=0 from rfl,gT,gU,aI,cW,xQ,es0]
   rw[hrow]
   refine⟨by omega,by omega,bN,bN,bN,iH _,by omega,by omega,λb ⟨bm,bn,_,bz⟩=>?_⟩
   rw[show List.take k (OV.cells es)=OV.cells es from xQ▸fF es]
   refine⟨(k+1,some b,es++[oI m (oQ (start.getD k 0) ((V sz X).getD k []) sz)],aR g m (lI (oQ (start.getD k 0) ((V sz X).getD k []) sz))),⟨rfl,IntWalk.i64_in _ aA⟩,?_,⟨hlt,by simp only;rw[hy];exact H.snoc (oQ (start.getD k 0) ((V sz X).getD k []) sz) zm bz bm⟩,by simp only;omega⟩
   show(LLH (some b,es++[oI m (oQ (start.getD k 0) ((V sz X).getD k []) sz)],aR g m (lI (oQ (start.getD k 0) ((V sz X).getD k []) sz)))).le _
   rw[LLH.snoc,show List.length (oQ (start.getD k 0) ((V sz X).getD k []) sz)=_ from yV _ _ c6.1]
   exact aOH H.2.2 wY bn (λq hq=>by simp only[iS,if_neg hq];(repeat' split) <;> first|rfl|contradiction)
 ·have hk':k=start.length:=by omega
  subst hk'
  simp -dsimp -implicitDefEqProofs only[go_sem,↓reduceIte,Tryz.f99,hvl,bX,dB]
  rw[pQ aA]at H
  obtain⟨y,hy,hv,hw⟩:=H.done
  rw[hpl]at hv
  exact⟨_,_,_,bQ _ _,⟨y,hy,by rw[hv],rfl⟩,hw⟩
theorem bM6 {p:aC} (hp:p.ok) {sz:Nat} (c6:1<=sz/\sz<=1048576) (f:Int) (hf:0<=f/\f<p.aD.length) {n:Nat} (hn:1<=n) {X:List (List Int)} (hX:gF sz n X) (hl:∀ F,p.aD[f.toNat]?=some F->(n:Int)=F.aT) {c:Int} (zE:evF p sz f X=.error c) :
  fM Tryz.prog 99 [.agg p.c,I f,b6 X] (.jO [b6 [],I c]):=by
 have ho:=aXE hX hn
 have he:=aT3 hp c6 f hf X hX.2 (λF hF=>by rw[hX.1];exact hl F hF)
 have hc:=aF0 p sz f X c zE
 rw[zE,show aKE (.error c)=([],0,c)from rfl]at he
 rw[aC.aS]at he ⊢
 refine iN 52 a4X bU6 bU7 Tryz.func99 λh=>?_
 simp -dsimp -implicitDefEqProofs only[go_sem,↓reduceIte,Tryz.f99]
 first|refine aJ.mk (ho) ?_|refine aF.mk (ho) ?_|refine aJ.bA (ho) ?_|refine aF.mk (aX.cU (ho)) ?_
 simp -dsimp -implicitDefEqProofs only[go_sem,↓reduceIte,Tryz.f99]
 first|refine aJ.mk (he) ?_|refine aF.mk (he) ?_|refine aJ.bA (he) ?_|refine aF.mk (aX.cU (he)) ?_
 simp -dsimp -implicitDefEqProofs only[go_sem,↓reduceIte,Tryz.f99]
 exact⟨λ_=>Shift.of (Sub.jO (.cons (Sub.nil 1 false) (.cons (.refl _) .nil))) (aE.le_refl _),λq=>absurd q aA⟩
@[go_sem] def aXF:List Nat:=[0,1,2,3,4,8,9,10,11,12,17,18,19,28]
theorem b2M {p:aC} (hp:p.ok) {sz:Nat} (c6:1<=sz/\sz<=1048576) (f:Int) (hf:0<=f/\f<p.aD.length) {start:List Int} (ns:dW start) (hs:1<=start.length/\start.length<=1048576) (hl:∀ F,p.aD[f.toNat]?=some F->(start.length:Int)=F.aT) {V:Nat->List (List Int)->List (List Int)} {u:Nat} (hV:VF start V) (zE:∀ X,St start sz X->evF p sz f X=.ok (V sz X,u)) :
  fM Tryz.prog 39 [.agg p.c,I f,ints start,I ((sz:Int)-1)] (.jO [b6 (itR V start sz sz),I 0]):=by
 have hp':=λX hX=>bU8 hp c6 f hf hs (X:=X) hX hl (hV.ser sz X c6.1 hX) (zE X hX)
 have hx:=bHH (aMD start aA c6)
 have e1:IntKind.i64.wrap ((sz:Int)-1+1)=(sz:Int):=by rw[IntWalk.i64_in _ aA];omega
 rw[aC.aS]at hp' ⊢
 refine gX 33 aXF aP8 cK Tryz.func39 λh=>?_
 simp -dsimp -implicitDefEqProofs only[go_sem,↓reduceIte,Tryz.f39]
 first|refine aJ.mk (hx) ?_|refine aF.mk (hx) ?_|refine aJ.bA (hx) ?_|refine aF.mk (aX.cU (hx)) ?_
 simp -dsimp -implicitDefEqProofs only[go_sem,↓reduceIte,Tryz.f39,e1]
 refine aEZ aXF aP8 cK (λk:Nat=>[(1,I f),(4,.ip 1 [[fN 3 aU.c p.aD]] 0 0),(10,b6 (itR V start sz k)),(17,I sz),(18,I k)]) (λk=>k<=sz) (λk=>sz-k) 0 ⟨by simp[c4,b7,itR],fE _⟩ ?_
 intro k hk
 rcases bZ k sz with hlt|hge
 ·simp -dsimp -implicitDefEqProofs only[go_sem,↓reduceIte,Tryz.f39,hlt]
  first|refine aJ.mk (hp' _ (aC8 V ns c6.1 k)) ?_|refine aF.mk (hp' _ (aC8 V ns c6.1 k)) ?_|refine aJ.bA (hp' _ (aC8 V ns c6.1 k)) ?_|refine aF.mk (aX.cU (hp' _ (aC8 V ns c6.1 k))) ?_
  simp -dsimp -implicitDefEqProofs only[go_sem,↓reduceIte,Tryz.f39]
  exact⟨k+1,⟨rfl,IntWalk.i64_in _ aA⟩,hlt,by omega⟩
 ·obtain rfl:k=sz:=by omega
  simp -dsimp -implicitDefEqProofs only[go_sem,↓reduceIte,Tryz.f39,bX,dB]
theorem bQ9 {p:aC} (hp:p.ok) {sz:Nat} (c6:1<=sz/\sz<=1048576) (f:Int) (hf:0<=f/\f<p.aD.length) {start:List Int} (ns:dW start) (hs:1<=start.length/\start.length<=1048576) (hl:∀ F,p.aD[f.toNat]?=some F->(start.length:Int)=F.aT) {c:Int} (zE:evF p sz f (wC start sz)=.error c) :
  fM Tryz.prog 39 [.agg p.c,I f,ints start,I ((sz:Int)-1)] (.jO [b6 [],I c]):=by
 have hp':=bM6 hp c6 f hf hs.1 (aOD ns c6.1).1 hl zE
 have hx:=bHH (aMD start aA c6)
 have e1:IntKind.i64.wrap ((sz:Int)-1+1)=(sz:Int):=by rw[IntWalk.i64_in _ aA];omega
 have hc:=aF0 p sz f _ c zE
 rw[aC.aS]at hp' ⊢
 refine iN 33 aXF aP8 cK Tryz.func39 λh=>?_
 simp -dsimp -implicitDefEqProofs only[go_sem,↓reduceIte,Tryz.f39]
 first|refine aJ.mk (hx) ?_|refine aF.mk (hx) ?_|refine aJ.bA (hx) ?_|refine aF.mk (aX.cU (hx)) ?_
 simp -dsimp -implicitDefEqProofs only[go_sem,↓reduceIte,Tryz.f39,e1]
 refine cZ aXF aP8 cK (λk:Nat=>[(1,I f),(4,.ip 1 [[fN 3 aU.c p.aD]] 0 0),(10,b6 (wC start sz)),(17,I sz),(18,I 0)]) (λk=>h) (λk=>True) (λk=>0) 0 ⟨by simp[c4,b7],aE.le_refl _,trivial⟩ ?_
 intro k _
 simp -dsimp -implicitDefEqProofs only[go_sem,↓reduceIte,Tryz.f39,show(0:Int)<sz by omega]
 first|refine aJ.mk (hp') ?_|refine aF.mk (hp') ?_|refine aJ.bA (hp') ?_|refine aF.mk (aX.cU (hp')) ?_
 simp -dsimp -implicitDefEqProofs only[go_sem,↓reduceIte,Tryz.f39]
 exact⟨λ_=>Shift.of (Sub.jO (.cons (Sub.nil 1 false) (.cons (.refl _) .nil))) (aE.le_refl _),λq=>absurd q aA⟩
abbrev aME (l:List (List (List Int))):aH:=fN 1 (λs=>[b6 s]) l
@[go_sem] def a9G:List Nat:=[0,1,4,5,7,9,10,11,12]
@[go_sem] def bRA:List Nat:=[8,20]
theorem bHJ (rg:List (List Int)) (L:List Int) (hr:∀ r∈L,0<=r/\r<rg.length) (hl:L.length<=1048576):fM Tryz.prog 105 [b6 rg,ints L] (b6 (L.map λr=>rg.getD r.toNat [])):=by
 refine iN 24 a9G bRA cK Tryz.func105 λh=>?_
 simp -dsimp -implicitDefEqProofs only[go_sem,↓reduceIte,Tryz.f105]
 refine⟨bN,λ_=>?_⟩
 refine cZ a9G bRA cK (λx:Nat×Option Nat=>[(0,b6 rg),(5,iO 1 ((L.map λr=>rg.getD r.toNat []).take x.1).length x.2),(9,ints L),(10,I L.length),(11,I x.1)]) (λx=>bY h (.row 1 ((((L.map λr=>rg.getD r.toNat []).take x.1).map λs=>[ints s]).map (List.map .v))) x.2) (λx=>x.1<=L.length/\fT h ((L.map λr=>rg.getD r.toNat []).take x.1) x.2) (λx=>L.length-x.1) (0,none) ⟨by simp[c4,b7,iO],by simp only[aQ];exact aE.le_refl _,fE _,by simp[fT]⟩ ?_
 rintro⟨k,o⟩ ⟨hk,hos⟩
 simp only at hk hos ⊢
 rcases bZ k L.length with hlt|hge
 ·have ea:L[k]?=some L[k]:=cM hlt
  have hr0:=hr _ (eI hlt)
  have eg:rg[L[k].toNat]?=some (rg.getD L[k].toNat []):=lM aA
  have hy:(L.map λr=>rg.getD r.toNat []).take (k+1)=(L.map λr=>rg.getD r.toNat []).take k++[rg.getD L[k].toNat []]:=by
   rw[jU (by rw[nG];exact hlt),r8]
  have hlk:((L.map λr=>rg.getD r.toNat []).take k).length=k:=by rw[jT,nG];omega
  generalize rg.getD L[k].toNat []=s at *
  cases o with
  |none =>
   rw[aZ]at hos
   rw[hos]at hy ⊢
   simp -dsimp -implicitDefEqProofs only[go_sem,↓reduceIte,Tryz.f105,bM,aQ,hlt,ea,eg]
   refine⟨hr0.1,hr0.2,?_⟩
   repeat'(with_reducible first|intro _|refine And.intro ?_ ?_)
   all_goals try(first|omega|decide)
   rename_i b hb
   refine⟨(k+1,some b),?_⟩
   simp only[hy]
   refine⟨⟨rfl,?_⟩,aE.le_refl _,⟨by omega,hb⟩,by omega⟩
   rw[IntWalk.i64_in _ aA];rfl
  |some n =>
   rw[aV]at hos
   simp -dsimp -implicitDefEqProofs only[go_sem,↓reduceIte,Tryz.f105,bC,aK,hlt,ea,eg]
   refine⟨hr0.1,hr0.2,?_⟩
   repeat'(with_reducible first|intro _|refine And.intro ?_ ?_)
   all_goals try(first|omega|decide|exact iH _)
   rename_i b hb
   refine⟨(k+1,some b),?_⟩
   simp only[hy,aK,bC,aV]
   refine⟨⟨by rw[mV];rfl,?_⟩,?_,⟨by omega,hb.2⟩,by omega⟩
   ·rw[IntWalk.i64_in _ aA];rfl
   ·rw[←jD];exact qM hos
 ·have hk':k=L.length:=by omega
  subst hk'
  rw[pQ aOY]at hos ⊢
  cases o with
  |none =>
   rw[aZ]at hos
   simp -dsimp -implicitDefEqProofs only[go_sem,↓reduceIte,Tryz.f105,bM,aQ,bX,dB]
   rw[hos]
   exact Shift.of (Sub.loose _ _ _) (aE.le_refl _)
  |some n =>
   rw[aV]at hos
   simp -dsimp -implicitDefEqProofs only[go_sem,↓reduceIte,Tryz.f105,bC,aK,bX,dB]
   exact tM _ hos (aE.le_refl _) (nG _).symm
def aRO (code:List bO) (L:List Int) (rg:List (List Int)) (sz inp o:Nat):List (List Int):=byK code (xO code rg (yS L (aE7 L.length o) (List.replicate code.length (zrL sz)) L.length) code.length 0) sz inp code.length
def aAX (code:List bO) (L:List Int) (rg:List (List Int)) (sz inp:Nat):List (List (List Int)):=(List.range L.length).map λo=>aRO code L rg sz inp o
@[go_sem] def bHK:List Nat:=[0,1,2,3,6,7,8,9,10,11,12,13,23,34,39,40,41]
@[go_sem] def b2N:List Nat:=[3,36,51,55]
@[go_sem] def b2O:Marks:=λid=>match id with|1=>([8,9],(.op 0 (.op 1 (.op 2 (.op 3 (.op 4 (.op 5 (.op 6 (.op 7 (.op 8 (.op 9 (.op 10 .nil))))))))))),[])|4=>([0],(.op 1 (.op 2 (.op 3 (.op 0 (.op 4 (.op 5 (.op 6 (.op 7 (.op 8 (.op 9 .nil)))))))))),[])|11=>([1,2,5,13],(.op 0 (.op 3 (.op 4 (.op 7 (.op 8 (.op 1 (.op 2 (.op 5 (.op 6 (.op 9 (.op 10 (.op 11 (.op 12 (.op 13 (.op 14 .nil))))))))))))))),[])|_=>([],.nil,[])
theorem bU9 {p:aC} (hp:p.ok) (hps:p.s<=4194304) {sz:Nat} (c6:1<=sz/\sz<=1048576) (f:Int) (hf:0<=f/\f<p.aD.length) {start L:List Int} {F:dS} {u:Nat} (ns:dW start) (hs:1<=start.length/\start.length<=12) (hl:∀ F,p.aD[f.toNat]?=some F->(start.length:Int)=F.aT) (hr:wT p f start=.ok ((L,F),u)) (T:aFH p f start L F u) {X:List (List Int)} (hX:St start sz X) :
  fM Tryz.prog 40 [.agg p.c,I f,b6 X] (.jO [b6 (L.map λr=>pW sz X F.code r.toNat),aME (aAX F.code L (tP sz X F.code F.code.length) sz start.length),I 0]):=by
 have hfi:=bT8 X (by rw[hX.1.1];omega) (λs hs'=>by rw[(hX.1.2 s hs').1];exact c6.1)
 have hfe:X.map (·.getD 0 0)=start:=by
  apply vT
  ·rw[nG,hX.1.1]
  ·intro i a b
   have:=hX.2 i b
   rw[nG]at a
   have h1:X[i]=X.getD i []:=by rw[dI,cM a];rfl
   have h2:start[i]=start.getD i 0:=by rw[dI,cM b];rfl
   rw[r8,h1,h2];exact this
 rw[hfe]at hfi
 have hrc:=bUL hp hps f hf start ns aA hl
 rw[show wV p f start=(⟨start.length,F.code,F.guards,L⟩,0)by rw[wV,hr]]at hrc
 have ho:=aXE hX.1 hs.1
 have hrg:=bB3 ⟨start.length,F.code,F.guards,L⟩ c6 T.ins T.cap X hX.1.2 (by rw[hX.1.1]) (T.nz sz X c6.1 hX)
 have hsr:gF sz F.code.length (tP sz X F.code F.code.length):=⟨qP _ _ _ _,λs hs'=>by
  obtain⟨i,hi,rfl⟩:=aD8.1 hs'
  rw[qP]at hi
  have h:=aF5 (sz:=sz) T.ins hX.1.2 (by rw[hX.1.1]) i hi
  rwa [pW,dI,cM (by rw[qP];exact hi)]at h⟩
 have b2P:L.length<=100:=by
  have:=T.ok.lens
  simp only at this
  omega
 simp only[aC.aS,u3.aS]at hrc hrg ⊢
 refine iN 63 bHK b2N b2O Tryz.func40 λh=>?_
 simp -dsimp -implicitDefEqProofs only[go_sem,↓reduceIte,Tryz.f40]
 first|refine aJ.mk (hfi) ?_|refine aF.mk (hfi) ?_|refine aJ.bA (hfi) ?_|refine aF.mk (aX.cU (hfi)) ?_
 simp -dsimp -implicitDefEqProofs only[go_sem,↓reduceIte,Tryz.f40]
 first|refine aJ.mk (hrc) ?_|refine aF.mk (hrc) ?_|refine aJ.bA (hrc) ?_|refine aF.mk (aX.cU (hrc)) ?_
 simp -dsimp -implicitDefEqProofs only[go_sem,↓reduceIte,Tryz.f40]
 refine λn zn=>?_
 try simp -dsimp -implicitDefEqProofs only[go_sem,↓reduceIte,Tryz.f40,aO]
 first|refine aJ.mk (ho) ?_|refine aF.mk (ho) ?_|refine aJ.bA (ho) ?_|refine aF.mk (aX.cU (ho)) ?_
 simp -dsimp -implicitDefEqProofs only[go_sem,↓reduceIte,Tryz.f40]
 first|refine aJ.mk (hrg) ?_|refine aF.mk (hrg) ?_|refine aJ.bA (hrg) ?_|refine aF.mk (aX.cU (hrg)) ?_
 simp -dsimp -implicitDefEqProofs only[go_sem,↓reduceIte,Tryz.f40]
 refine⟨bN,λ_=>?_⟩
 rw[aO]
 generalize hgB:aR h n (.row 4 [[.v (I start.length),.v (fN 4 bO.c F.code),.v (fN 2 j8.c F.guards),.v (ints L)]])=hB
 have hBn:hB n=some (.row 4 [[.v (I start.length),.v (fN 4 bO.c F.code),.v (fN 2 j8.c F.guards),.v (ints L)]]):=by rw[←hgB,aM]
 have hBl:h.le hB:=by rw[←hgB];exact aE.bP zn (aE.le_refl _)
 generalize hgr:tP sz X F.code F.code.length=rg at *
 have hsl:(aAX F.code L rg sz start.length).length=L.length:=by simp[aAX]
 have hpk:=bHJ rg L (λr hr'=>by have:=T.outs r hr';rw[hsr.1];exact this) aA
 have hpe:(L.map λr=>rg.getD r.toNat [])=L.map λr=>pW sz X F.code r.toNat:=aG7 λr _=>by rw[pW,hgr]
 rw[hpe]at hpk
 refine cZ bHK b2N b2O (λx:Nat×Option Nat=>[(2,b6 X),(9,.op n 4 0 0),(11,b6 rg),(12,iO 1 ((aAX F.code L rg sz start.length).take x.1).length x.2),(39,I L.length),(40,I x.1)]) (λx=>bY hB (.row 1 ((((aAX F.code L rg sz start.length).take x.1).map λs=>[b6 s]).map (List.map .v))) x.2) (λx=>x.1<=L.length/\fT hB ((aAX F.code L rg sz start.length).take x.1) x.2) (λx=>L.length-x.1) (0,none) ⟨by simp[c4,b7,iO],by simp only[aQ];exact aE.le_refl _,fE _,by simp[fT]⟩ ?_
 rintro⟨k,o⟩ ⟨hk,hos⟩
 simp only at hk hos ⊢
 rcases bZ k L.length with hlt|hge
 ·have hy:(aAX F.code L rg sz start.length).take (k+1)=(aAX F.code L rg sz start.length).take k++[aRO F.code L rg sz start.length k]:=by
   rw[jU aA];simp[aAX]
  have hlk:((aAX F.code L rg sz start.length).take k).length=k:=by rw[jT];omega
  have hu:=b1D L.length k aA hlt
  have had:=bG1 ⟨start.length,F.code,F.guards,L⟩ c6 T.ins ⟨T.one,T.cap⟩ rg hsr (aE7 L.length k) (by simp[aE7]) (aC5 _ _) b2P T.outs
  have hA0:=aFD (sz:=sz) c6.1 T.outs (aC5 L.length k) L.length (iH _)
  have hA:=yT c6 T.ins hsr hA0 F.code.length 0 rfl
  have hby:=bG5 ⟨start.length,F.code,F.guards,L⟩ c6 rfl hs.2 T.ins ⟨T.one,T.cap⟩ _ hA
  have heB:aRO F.code L rg sz start.length k=byK F.code (xO F.code rg (yS L (aE7 L.length k) (List.replicate F.code.length (zrL sz)) L.length) F.code.length 0) sz start.length F.code.length:=rfl
  simp only[u3.aS]at had hby
  rw[←heB]at hby
  generalize aRO F.code L rg sz start.length k=s at *
  cases o with
  |none =>
   rw[aZ]at hos
   rw[hos]at hy ⊢
   simp -dsimp -implicitDefEqProofs only[go_sem,↓reduceIte,Tryz.f40,bM,aQ,hlt,hBn]
   refine⟨by decide,by decide,?_⟩
   first|refine aJ.mk (hu) ?_|refine aF.mk (hu) ?_|refine aJ.bA (hu) ?_|refine aF.mk (aX.cU (hu)) ?_
   simp -dsimp -implicitDefEqProofs only[go_sem,↓reduceIte,Tryz.f40]
   first|refine aJ.mk (had) ?_|refine aF.mk (had) ?_|refine aJ.bA (had) ?_|refine aF.mk (aX.cU (had)) ?_
   simp -dsimp -implicitDefEqProofs only[go_sem,↓reduceIte,Tryz.f40]
   first|refine aJ.mk (hby) ?_|refine aF.mk (hby) ?_|refine aJ.bA (hby) ?_|refine aF.mk (aX.cU (hby)) ?_
   simp -dsimp -implicitDefEqProofs only[go_sem,↓reduceIte,Tryz.f40]
   repeat'(with_reducible first|intro _|refine And.intro ?_ ?_)
   all_goals try(first|omega|decide)
   rename_i b hb
   refine⟨(k+1,some b),?_⟩
   simp only[hy]
   refine⟨⟨rfl,?_⟩,aE.le_refl _,⟨by omega,hb⟩,by omega⟩
   rw[IntWalk.i64_in _ aA];rfl
  |some m =>
   rw[aV]at hos
   obtain⟨wY,gT,gU,aG1⟩:=bB (show ¬m=n from λe=>by rw[e,hBn]at hos;cases hos)
   simp -dsimp -implicitDefEqProofs only[go_sem,↓reduceIte,Tryz.f40,bC,aK,hlt,gT,gU,aI,hBn]
   refine⟨by decide,by decide,?_⟩
   first|refine aJ.mk (hu) ?_|refine aF.mk (hu) ?_|refine aJ.bA (hu) ?_|refine aF.mk (aX.cU (hu)) ?_
   simp -dsimp -implicitDefEqProofs only[go_sem,↓reduceIte,Tryz.f40]
   first|refine aJ.mk (had) ?_|refine aF.mk (had) ?_|refine aJ.bA (had) ?_|refine aF.mk (aX.cU (had)) ?_
   simp -dsimp -implicitDefEqProofs only[go_sem,↓reduceIte,Tryz.f40]
   first|refine aJ.mk (hby) ?_|refine aF.mk (hby) ?_|refine aJ.bA (hby) ?_|refine aF.mk (aX.cU (hby)) ?_
   simp -dsimp -implicitDefEqProofs only[go_sem,↓reduceIte,Tryz.f40]
   repeat'(with_reducible first|intro _|refine And.intro ?_ ?_)
   all_goals try(first|omega|decide|exact iH _)
   rename_i b hb
   refine⟨(k+1,some b),?_⟩
   simp only[hy,aK,bC,aV]
   refine⟨⟨by rw[mV];rfl,?_⟩,?_,⟨by omega,hb.2⟩,by omega⟩
   ·rw[IntWalk.i64_in _ aA];rfl
   ·rw[←jD];exact qM hos
 ·have hk':k=L.length:=by omega
  subst hk'
  rw[pQ aA]at hos ⊢
  cases o with
  |none =>
   rw[aZ]at hos
   simp -dsimp -implicitDefEqProofs only[go_sem,↓reduceIte,Tryz.f40,bM,aQ,bX,dB,hBn]
   first|refine aJ.mk (hpk) ?_|refine aF.mk (hpk) ?_|refine aJ.bA (hpk) ?_|refine aF.mk (aX.cU (hpk)) ?_
   simp -dsimp -implicitDefEqProofs only[go_sem,↓reduceIte,Tryz.f40]
   rw[hos]
   exact Shift.of (Sub.jO (.cons (.refl _) (.cons (Sub.loose _ _ _) (.cons (.refl _) .nil)))) hBl
  |some m =>
   rw[aV]at hos
   obtain⟨wY,gT,gU,aG1⟩:=bB (show ¬m=n from λe=>by rw[e,hBn]at hos;cases hos)
   simp -dsimp -implicitDefEqProofs only[go_sem,↓reduceIte,Tryz.f40,bC,aK,bX,dB,gT,gU,aI,hBn]
   first|refine aJ.mk (hpk) ?_|refine aF.mk (hpk) ?_|refine aJ.bA (hpk) ?_|refine aF.mk (aX.cU (hpk)) ?_
   simp -dsimp -implicitDefEqProofs only[go_sem,↓reduceIte,Tryz.f40]
   refine Shift.trans (s9 ((aAX F.code L rg sz start.length).map λs=>[b6 s]) hos (aE.le_refl _) (by simp[gA,jG]) ?_) (bG hBl)
   simp[aH.eM,lX,pQ]
theorem bHL {h:aE} {n:Nat} {l:List Int} {k:Nat} (hk:k=l.length) (hn:h n=some (lI l)):View h (.os n 1 0 k) (ints l):=by
 have h1:=View.ovD (h:=h) (d:=ints l) (OV.sl n 1 (l.map λx=>[.v (I x)])) (OS.pU (c:=λn=>[I n]) (R:=oP I) (λ_ _ q=>aP2 q) (OS.mk (aP3 l))) (λp hp=>by
  rw[OV.hJ,l3,kG,jF]at hp
  rw[hp];exact hn)
 rw[OV.oE]at h1
 rwa [hk]
theorem LLG.keep {h:aE} {L:List (List Int)} {x:LLx} (H:LLG h L x) {q:Nat} {o:bE} (hq:h q=some o):LLH x q=some o:=by
 obtain⟨op,es,g⟩:=x
 have h1:g q=some o:=H.2.1.keep hq
 cases op with
 |none=>exact h1
 |some n =>
  have h2:g n=none:=H.2.2
  have h3:¬q=n:=λe=>by rw[e,h2]at h1;cases h1
  rw[LLH,aK,aI _ _ _ _ h3];exact h1
theorem LLG.ne {x:LLx} {m:Nat} (h:LLH x m=none):¬x.1=some m:=λe=>by
 obtain⟨op,es,g⟩:=x
 simp only at e
 subst e
 rw[LLH,aK,aM]at h;cases h
theorem bB7 {op:Option Nat} {m k j:Nat} (es:List (List aH)) (h:¬op=some m):(iO 1 k op).eM m es=iO 1 k op/\gA m 1 j (iO 1 k op)=true:=by
 cases op with
 |none=>exact⟨rfl,rfl⟩
 |some n =>
  have hn:¬n=m:=λe=>h (by rw[e])
  simp[iO,aH.eM,gA,hn]
theorem bHM {h g:aE} {Z:List (List Int)} {n sz b:Nat} {es:List (List OV)} (hes:OR (oL I) Z es) (hnw:gB h (OV.cJ [OV.sl b 1 es]) g) (hZ:gF sz n Z) (c6:1<=sz) {k:Nat} (hk:k<n) :
  ∃ m,es[k]?=some (oI m (Z.getD k []))/\(OV.cells es)[k]?=some [.v (.os m 1 0 sz)]/\g m=some (lI (Z.getD k []))/\¬m=b:=by
 have hz:=hZ.get hk
 obtain⟨e,he,y,rfl,hy⟩:=hes.bSU k _ hz.1
 rcases hy.aL7 with⟨rfl,h0⟩|⟨m,rfl⟩
 ·have:=hz.2.1
  rw[h0]at this;simp at this;omega
 ·have hr:=hnw.b09 he
  refine⟨m,he,?_,hr.1,hr.2⟩
  have:=aTU he
  rw[this,aI1,OV.oE,hz.2.1]
theorem bHN {code:List bO} {L:List Int} {rg:List (List Int)} {sz inp i:Nat} (hi:i<L.length):(aAX code L rg sz inp)[i]?=some (aRO code L rg sz inp i):=by
 rw[aAX,nE,aIY hi];rfl
theorem a1D {code:List bO} {L:List Int} {rg:List (List Int)} {sz inp i:Nat} (c6:1<=sz/\sz<=1048576) (hins:∀ i c,code[i]?=some c->cV inp i c) (hsr:gF sz code.length rg) (ho:∀ r∈L,0<=r/\r<code.length):gF sz inp (aRO code L rg sz inp i) :=
 aKM hins (yT c6 hins hsr (aFD c6.1 ho (aC5 L.length i) L.length (iH _)) code.length 0 rfl) code.length (iH _)
theorem a1E {sz:Nat} {X:List (List Int)} {code:List bO} {inp:Nat} (hins:∀ i c,code[i]?=some c->cV inp i c) (hX:gF sz inp X):gF sz code.length (tP sz X code code.length):=⟨qP _ _ _ _,λs hs'=>by
 obtain⟨i,hi,rfl⟩:=aD8.1 hs'
 rw[qP]at hi
 have h:=aF5 (sz:=sz) hins hX.2 (by rw[hX.1]) i hi
 rwa [pW,dI,cM (by rw[qP];exact hi)]at h⟩
@[go_sem] def aUO:List Nat:=[0,1,2,3,4,5,10,11,12,13,14,16,17,18,19,20,21,22,23,24,33,44,55,60,61,62,64,65,66,67,74,75,76,77]
@[go_sem] def ib9:List Nat:=[5,30,63,100]
theorem a4Y {p:aC} (hp:p.ok) (hps:p.s<=4194304) {sz:Nat} (c6:1<=sz/\sz<=13) (f:Int) (hf:0<=f/\f<p.aD.length) {start dir L:List Int} {F:dS} {u:Nat} (ns:dW start) (nd:dW dir) (hs:1<=start.length/\start.length<=12) (hd:dir.length=start.length) (hl:∀ F,p.aD[f.toNat]?=some F->(start.length:Int)=F.aT) (hll:L.length=start.length)
  (hst:fW p f [start,dir] ((sz:Int)-1)=0) (hr:wT p f start=.ok ((L,F),u)) (T:aFH p f start L F u) :
  uT Tryz.prog 9 [.agg p.c,I f,ints start,ints dir,I ((sz:Int)-1)] (QS (OS (oL I) 1 (eS (Vz F.code L (eS (Vy F.code L) start)) dir (sz-1))) (λy=>.jO [y,I 0])):=by
 have hsz':1<=sz/\sz<=1048576:=by omega
 have hvy:=a9E T hll
 have hvz:=b2G T hll hd ns
 have h1:=aOG p f hps [start,dir] cT ((sz:Int)-1)
 rw[hst]at h1
 have h2:=b2M hp hsz' f hf ns aA hl hvy (λX hX=>T.ev sz X c6.1 hX)
 have hy:=a4V ns hvy (o:=sz-1) (n:=sz) aA
 rw[aTA c6.1]at hy
 rw[hy]at h2
 have hYst:=gE (Vy F.code L) ns (sz-1)
 rw[aTA c6.1]at hYst
 have h3:=bU9 hp hps hsz' f hf ns hs hl hr T hYst
 generalize hY:eS (Vy F.code L) start (sz-1)=Y at *
 have hsr:=a1E T.ins hYst.1
 generalize hrg:tP sz Y F.code F.code.length=rg at *
 have hss:=λi=>a1D (i:=i) hsz' T.ins hsr T.outs
 have hzl:=a4V nd hvz (o:=sz-1) (n:=sz-1) aA
 rw[aTA c6.1]at hzl
 generalize hV:Vz F.code L (eS (Vy F.code L) start)=V at *
 have hsum:∀ i,i<L.length->∀ Z,gF sz start.length Z->aMC sz (aRO F.code L rg sz start.length i) Z start.length=(V sz Z).getD i []:=λi hi Z hZ=>by
  have:=a9B hsz' T.ins T.outs hsr hZ hi
  rw[←hV,Vz,aBX hi,hY]
  rw[aRO,this]
  congr 1
  funext k
  rw[←hrg];rfl
 rw[←hzl]
 have hsl:(aAX F.code L rg sz start.length).length=L.length:=by simp[aAX]
 have e1:IntKind.i64.wrap ((sz:Int)-1+1)=(sz:Int):=by rw[IntWalk.i64_in _ aA];omega
 rw[aC.aS]at h1 h2 h3 ⊢
 refine aBC 106 aUO ib9 cK Tryz.func9 λh=>?_
 simp -dsimp -implicitDefEqProofs only[go_sem,↓reduceIte,Tryz.f9]
 refine⟨by decide,by decide,aJ.mk (fM.sub (.cons (.refl _) (.cons (.refl _) (.cons (.refl _) (.cons (Sub.loose 1 [[ints start],[ints dir]] true) .nil)))) h1) ?_⟩
 simp -dsimp -implicitDefEqProofs only[go_sem,↓reduceIte,Tryz.f9]
 first|refine aJ.mk (h2) ?_|refine aF.mk (h2) ?_|refine aJ.bA (h2) ?_|refine aF.mk (aX.cU (h2)) ?_
 simp -dsimp -implicitDefEqProofs only[go_sem,↓reduceIte,Tryz.f9]
 first|refine aJ.mk (h3) ?_|refine aF.mk (h3) ?_|refine aJ.bA (h3) ?_|refine aF.mk (aX.cU (h3)) ?_
 simp -dsimp -implicitDefEqProofs only[go_sem,↓reduceIte,Tryz.f9]
 refine aJ.wn0 (aMD dir aA hsz') ?_
 rintro r l g ⟨y,oy,rfl,rfl⟩ wn
 simp -dsimp -implicitDefEqProofs only[go_sem,↓reduceIte,Tryz.f9]
 refine cZ aUO ib9 cK (λx:Nat×OV×aE=>[(3,ints dir),(4,I ((sz:Int)-1)),(16,aME (aAX F.code L rg sz start.length)),(17,x.2.1.val),(60,I ((sz:Int)-1)),(61,I x.1)]) (λx=>x.2.2) (λx=>x.1<=sz-1/\OS (oL I) 1 (itR V dir sz x.1) x.2.1/\gB h x.2.1.rows x.2.2) (λx=>sz-1-x.1) (0,y,g) ⟨by simp[c4,b7],aE.le_refl _,fE _,oy,wn⟩ ?_
 rintro⟨n,z,g⟩ ⟨hn,hz,hnw⟩
 simp only at hn hz hnw ⊢
 have hZ:=(aC8 V nd c6.1 n).1
 rw[hd]at hZ
 rcases bZ n (sz-1)with hlt|hge
 ·have hni:(n:Int)<(sz:Int)-1:=by omega
  have hpl:(xP V dir sz (itR V dir sz n)).length=L.length:=by rw[hll,←hd];simp[xP]
  have hnx:itR V dir sz (n+1)=xP V dir sz (itR V dir sz n):=rfl
  generalize itR V dir sz n=Z at *
  rcases hz with⟨rfl,h0⟩|⟨bz,es,rfl,hes⟩
  ·rw[h0]at hZ;have:=hZ.1;simp at this;omega
  have hnw':gB h (OV.cJ [OV.sl bz 1 es]) g:=by rw[OV.fC,OV.gZ,dT];exact hnw
  have hgb:g bz=some (.row 1 (OV.cells es)):=hnw'.bE1 []
  have hel:es.length=start.length:=by rw[←hes.length,hZ.1]
  simp -dsimp -implicitDefEqProofs only[go_sem,↓reduceIte,Tryz.f9,hni,OV.aCK]
  refine⟨bN,λ_=>?_⟩
  refine cZ aUO ib9 cK (λx:Nat×LLx=>[(3,ints dir),(4,I ((sz:Int)-1)),(16,aME (aAX F.code L rg sz start.length)),(17,.os bz 1 0 es.length),(18,iO 1 x.1 x.2.1),(60,I ((sz:Int)-1)),(61,I n),(64,aME (aAX F.code L rg sz start.length)),(65,I L.length),(66,I x.1)]) (λx=>LLH x.2) (λx=>x.1<=L.length/\LLG g ((xP V dir sz Z).take x.1) x.2) (λx=>L.length-x.1) (0,none,[],g) ⟨by simp[c4,b7,iO,hsl],aE.le_refl _,fE _,LLG.init _⟩ ?_
  rintro⟨k,op,es2,g2⟩ ⟨hk,H⟩
  simp only at hk H ⊢
  rcases bZ k L.length with mA|aQI
  ·have ea:=bHN (code:=F.code) (rg:=rg) (sz:=sz) (inp:=start.length) mA
   have hrow:=hss k
   have hsm:=hsum k mA Z hZ
   generalize aRO F.code L rg sz start.length k=row at *
   have hrl:=hrow.1
   generalize hG:LLH (op,es2,g2)=G
   have hkG:=λ{q o}=>H.keep (q:=q) (o:=o)
   rw[hG]at hkG
   simp -dsimp -implicitDefEqProofs only[go_sem,↓reduceIte,Tryz.f9,mA,ea,e1,nU,hrl]
   refine⟨by omega,bN,iH _,by omega,by omega,λm zm _=>?_⟩
   have hz0:(List.replicate sz [aH.int .i64 0]).map (List.map Cell.v)=((zrL sz).map λn=>[I n]).map (List.map .v):=zQ sz
   rw[hz0]
   obtain⟨bVA,a4Z,a41,bVB⟩:=bB (show ¬bz=m from λe=>by have:=hkG hgb;rw[e,zm]at this;cases this)
   have hov:=bB7 (k:=k) (j:=sz) ((zrL sz).map λn=>[I n]) (LLG.ne (x:=(op,es2,g2)) (m:=m) (by rw[hG];exact zm))
   have hzz:(zrL sz).length=sz:=(aIF sz).1
   have hzs:(aH.os m 1 0 sz).eM m ((zrL sz).map λn=>[I n])=ints (zrL sz):=by simp[aH.eM,zrL]
   have hzt:List.take sz ((zrL sz).map λn=>[I n])=(zrL sz).map λn=>[I n]:=pQ (by simp[hzz])
   refine aJP.a3C m zm (by simp[gA,a4Z,a41,hov.2,hzz]) ?_
   refine cZ aUO ib9 cK (λx:Nat=>[(3,ints dir),(4,I ((sz:Int)-1)),(16,aME (aAX F.code L rg sz start.length)),(17,.os bz 1 0 es.length),(18,iO 1 k op),(19,I k),(20,b6 row),(21,ints (aMC sz row Z x)),(60,I ((sz:Int)-1)),(61,I n),(64,aME (aAX F.code L rg sz start.length)),(65,I L.length),(66,I k),(74,b6 row),(75,I start.length),(76,I x)]) (λ_=>G) (λx=>x<=start.length) (λx=>start.length-x) 0 ⟨by simp[c4,b7,aMC,hzs,hov.1,aH.eM,a4Z,a41,hzz,hzt],aE.bP zm (aE.le_refl _),fE _⟩ ?_
   ·intro x hx
    rcases bZ x start.length with bHO|cEJ
    ·obtain⟨nk,q1,q2,q3,q4⟩:=bHM hes hnw' hZ c6.1 bHO
     have ez:=hrow.get bHO
     have hzk:=(hZ.get bHO).2
     have hS:=aFF (Z:=Z) hrow x hx
     simp -dsimp -implicitDefEqProofs only[go_sem,↓reduceIte,Tryz.f9,bHO,ez.1,hkG hgb,cW,hel,q2]
     refine⟨by omega,aJ.b2H (a0P (row.getD x []) (Z.getD x []) (by rw[hzk.1,ez.2.1]) (by rw[ez.2.1];omega) ez.2.2 hzk.2) (sD.cons (View.same _ _) (sD.cons (bHL hzk.1.symm (hkG q3)) sD.nil)) ?_⟩
     simp -dsimp -implicitDefEqProofs only[go_sem,↓reduceIte,Tryz.f9]
     have hm:=fR (Z.getD x []) ez.2
     first|refine aJ.mk (aQZ (aMC sz row Z x) (mulL (row.getD x []) (Z.getD x [])) (by rw[hm.1,hS.1]) (by rw[hS.1];omega) hS.2 hm.2) ?_|refine aF.mk (aQZ (aMC sz row Z x) (mulL (row.getD x []) (Z.getD x [])) (by rw[hm.1,hS.1]) (by rw[hS.1];omega) hS.2 hm.2) ?_|refine aJ.bA (aQZ (aMC sz row Z x) (mulL (row.getD x []) (Z.getD x [])) (by rw[hm.1,hS.1]) (by rw[hS.1];omega) hS.2 hm.2) ?_|refine aF.mk (aX.cU (aQZ (aMC sz row Z x) (mulL (row.getD x []) (Z.getD x [])) (by rw[hm.1,hS.1]) (by rw[hS.1];omega) hS.2 hm.2)) ?_
     simp -dsimp -implicitDefEqProofs only[go_sem,↓reduceIte,Tryz.f9]
     exact⟨x+1,⟨by rw[hel],rfl,IntWalk.i64_in _ aA⟩,bHO,by omega⟩
    ·obtain rfl:x=start.length:=by omega
     simp -dsimp -implicitDefEqProofs only[go_sem,↓reduceIte,Tryz.f9,bX,dB]
     have ev:bV sz ((V sz Z).getD k []):=by rw[←hsm];exact aFF (Z:=Z) hrow _ (iH _)
     rw[hsm]
     have hi:=aUN ((V sz Z).getD k []) (by rw[ev.1];exact hsz') ev.2
     rw[ev.1]at hi
     have hy:(xP V dir sz Z).take (k+1)=(xP V dir sz Z).take k++[oQ (dir.getD k 0) ((V sz Z).getD k []) sz]:=by
      rw[jU aA];simp[xP]
     have hlk:((xP V dir sz Z).take k).length=k:=by rw[jT];omega
     have xQ:=H.len
     simp only[hlk]at xQ
     have b9Q:(oQ 0 ((V sz Z).getD k []) sz).set 0 (dir.getD k 0)=oQ (dir.getD k 0) ((V sz Z).getD k []) sz:=rfl
     have hc:=yV 0 ((V sz Z).getD k []) c6.1
     have es0:(oQ 0 ((V sz Z).getD k []) sz)[0]?=some 0:=rfl
     have hrw:=yK I (oQ 0 ((V sz Z).getD k []) sz) 0 (dir.getD k 0)
     rw[b9Q]at hrw
     have edk:dir[k]?=some (dir.getD k 0):=cI aA
     have hdl:k<dir.length:=by omega
     clear hzs hov zm hzt hkG a4Z a41 bVA bVB
     subst hG
     cases op with
     |none =>
      obtain⟨h1,rfl,rfl⟩:=H.nil
      obtain rfl:k=0:=by rw[←hlk,h1];rfl
      simp -dsimp -implicitDefEqProofs only[go_sem,↓reduceIte,Tryz.f9,bM,LLH,aQ]
      refine aJ.wn0 hi ?_
      rintro r l g2 ⟨y,oy,rfl,rfl⟩ wn
      rcases oy.aL7 with⟨_,q⟩|⟨m,rfl⟩
      ·rw[q]at hc;simp at hc;omega
      rw[OV.oE]
      rw[OV.hJ,l3,kG]at wn
      obtain⟨zm,rfl⟩:=wn.aC9
      simp -dsimp -implicitDefEqProofs only[go_sem,↓reduceIte,Tryz.f9,hc,edk,hdl,nU,show Int.toNat 0=0 from rfl,es0,bM]
      rw[hrw,aO]
      refine⟨by omega,bN,bN,bN,λb ⟨b1,_,b2⟩=>?_⟩
      have hlt:=mA
      obtain⟨x',e',H',L'⟩:=H.fin (m:=m) (b:=b) (s:=oQ (dir.getD 0 0) ((V sz Z).getD 0 []) sz) (yV _ _ c6.1) zm b2 b1 (aE.le_refl _)
      refine⟨(1,x'),⟨by simp only[e'];rfl,IntWalk.i64_in _ aA⟩,L',⟨hlt,by simp only;rw[hy];exact H'⟩,by simp only;omega⟩
     |some n2 =>
      simp -dsimp -implicitDefEqProofs only[go_sem,↓reduceIte,Tryz.f9,bC,LLH,aK,cW,xQ]
      refine aJ.wn1 hi H.2.2 ?_
      rintro r l g' ⟨y,oy,rfl,rfl⟩ wn zn
      rcases oy.aL7 with⟨_,q⟩|⟨m,rfl⟩
      ·rw[q]at hc;simp at hc;omega
      rw[OV.oE]
      rw[OV.hJ,l3,kG]at wn
      obtain⟨zm,rfl⟩:=wn.aC9
      obtain⟨bVC,bVD,bVE,b9R⟩:=bB (show ¬m=n2 from λe=>by rw[e,aM]at zn;cases zn)
      simp -dsimp -implicitDefEqProofs only[go_sem,↓reduceIte,Tryz.f9,hc,edk,hdl,nU,show Int.toNat 0=0 from rfl,bVD,bVE,aI,cW,xQ,es0,bC]
      rw[hrw]
      refine⟨by omega,bN,bN,bN,iH _,by omega,by omega,λb ⟨bm,bn,_,bz⟩=>?_⟩
      rw[show List.take k (OV.cells es2)=OV.cells es2 from xQ▸fF es2]
      have hlt:=mA
      have wY:=bVC
      refine⟨(k+1,some b,es2++[oI m (oQ (dir.getD k 0) ((V sz Z).getD k []) sz)],aR g2 m (lI (oQ (dir.getD k 0) ((V sz Z).getD k []) sz))),⟨rfl,IntWalk.i64_in _ aA⟩,?_,⟨hlt,by simp only;rw[hy];exact H.snoc _ zm bz bm⟩,by simp only;omega⟩
      show(LLH (some b,es2++[oI m (oQ (dir.getD k 0) ((V sz Z).getD k []) sz)],aR g2 m (lI (oQ (dir.getD k 0) ((V sz Z).getD k []) sz)))).le _
      rw[LLH.snoc,show List.length (oQ (dir.getD k 0) ((V sz Z).getD k []) sz)=_ from yV _ _ c6.1]
      exact aOH H.2.2 wY bn (λq hq=>by simp only[iS,if_neg hq];(repeat' split) <;> first|rfl|contradiction)
  ·have hk':k=L.length:=by omega
   subst hk'
   simp -dsimp -implicitDefEqProofs only[go_sem,↓reduceIte,Tryz.f9,bX,dB]
   rw[pQ aA]at H
   obtain⟨z',hz',hv,hw⟩:=H.done
   rw[hpl]at hv
   exact⟨(n+1,z',uX (LLH (op,es2,g2)) (bH (OV.sl bz 1 es).rows)),⟨hv.symm,IntWalk.i64_in _ aA⟩,bEX _ _,⟨hlt,by simp only;rw[hnx];exact hz',(hnw.append hw).drop⟩,by simp only;omega⟩
 ·have hn':n=sz-1:=by omega
  subst hn'
  simp -dsimp -implicitDefEqProofs only[go_sem,↓reduceIte,Tryz.f9,show ¬(((sz-1:Nat):Int)<(sz:Int)-1)by omega]
  exact⟨_,_,_,bQ _ _,⟨z,hz,rfl,rfl⟩,hnw⟩
noncomputable def oS (p:aC) (f:Int) (start dir:List Int) (order:Int):List (List Int)×Int :=
 if fW p f [start,dir] order=0 then(match wT p f start with
  | .ok ((L,F),_)=>(eS (Vz F.code L (eS (Vy F.code L) start)) dir order.toNat,0)
  | .error c=>([],c))
 else([],fW p f [start,dir] order)
structure a9H (p:aC) (f:Int) (start:List Int) (order:Int):Prop where
 ok:p.ok
 fn:0<=f/\f<p.aD.length
 ns:dW start
 hs:1<=start.length/\start.length<=12
 par:∀ F,p.aD[f.toNat]?=some F->(start.length:Int)=F.aT
 outs:(p.outs f).length=start.length
 ord:0<=order/\order<=12
theorem yW {p:aC} {f:Int} {start:List Int} {ls:List (List Int)} {order:Int} (h:fW p f (start::ls) order=0):a9H p f start order/\∀ l∈ls,l.length=start.length/\dW l:=by
 by_cases h0:j9 p f p8=0
 ·obtain⟨h1,h2,F,ef,e1,e2,e3⟩:=aDA h0
  have e:fW p f (start::ls) order=if (∀ l∈start::ls,(l.length:Int)=F.aT/\dW l)/\0<=order/\order<=12 then 0 else 2:=by rw[fW,if_pos h0,e1]
  rw[e]at h
  have e4:(1<=F.aT/\F.aT<=12)/\(F.aN.length:Int)=F.aT:=by
   unfold p8 at e3
   rw[oW]at e3
   exact⟨of_decide_eq_true e3.1,of_decide_eq_true e3.2⟩
  by_cases hh:(∀ l∈start::ls,(l.length:Int)=F.aT/\dW l)/\0<=order/\order<=12
  ·have hst:=hh.1 start x6
   refine⟨⟨h1,h2,hst.2,by omega,λG hG=>by rw[ef]at hG;cases hG;exact hst.1,by rw[e2];omega,hh.2⟩,λl hl=>?_⟩
   have:=hh.1 l (w6 _ hl)
   exact⟨by omega,this.2⟩
  ·rw[if_neg hh]at h;cases h
 ·rw[fW,if_neg h0]at h;exact absurd h h0
theorem bRB:∀ {l:List Int} {X:List (List Int)},X.length=l.length->(∀ s∈X,1<=s.length)->(∀ i,i<l.length->(X.getD i []).getD 0 0=l.getD i 0)->eR (l.map λn=>[n]) X
 | [],[],_,_,_=>trivial
 |a::l,[]::X,_,h,_=>by have:=h [] x6;simp at this
 |a::l,(b::s)::X,hl,h,h0=>by
  have h1:=h0 0 cT
  simp at h1
  subst h1
  exact⟨.inr ⟨b,[],s,rfl,rfl⟩,bRB aLO (λs hs=>h s (w6 _ hs)) λi hi=>by simpa using h0 (i+1) s4⟩
 | [],_::_,h,_,_=>by simp at h
 | _::_,[],h,_,_=>by simp at h
theorem aKS {p:aC} (hp:p.ok) {f:Int} (hf:0<=f/\f<p.aD.length) {start:List Int} (ns:dW start) (hl:∀ F,p.aD[f.toNat]?=some F->(start.length:Int)=F.aT) {c:Int} (h:wT p f start=.error c) :
  evF p 1 f (start.map λn=>[n])=.error c/\∀ sz X,1<=sz->St start sz X->evF p sz f X=.error c:=by
 have h1:=(aKI hp f hf start ns hl).2
 rw[h]at h1
 cases hX:evF p 1 f (start.map λn=>[n])with
 |ok q=>rw[hX]at h1;exact h1.elim
 |error d =>
  rw[hX]at h1
  have h2:c=d:=h1
  subst h2
  refine⟨rfl,λsz X c6 hX'=>?_⟩
  have h3:=bFZ p 0 (sz-1) f _ _ (bRB hX'.1.1 (λs hs=>by rw[(hX'.1.2 s hs).1];exact c6) hX'.2)
  rw[aTA c6,hX]at h3
  cases hY:evF p sz f X with
  |ok q=>rw[hY]at h3;exact h3.elim
  |error d =>
   rw[hY]at h3
   have h4:c=d:=h3
   rw[h4]
theorem a1F {h:aE} (c:Int):∃ r1 g l,Shift (.jO [.bD,I c]) h r1 g/\QS (OS (oL I) 1 []) (λy=>.jO [y,I c]) r1 l/\gB h l g :=
 ⟨.jO [(OV.nil 1).val,I c],h,[],Shift.of (Sub.jO (.cons (Sub.nil 1 true) (.cons (.refl _) .nil))) (aE.le_refl _),⟨_,OS.nil,rfl,by rw[OV.uE]⟩,gB.nil h⟩
theorem a1G (p:aC) (hps:p.s<=4194304) (f:Int) (start dir:List Int) (order:Int):uT Tryz.prog 9 [.agg p.c,I f,ints start,ints dir,I order] (QS (OS (oL I) 1 (oS p f start dir order).1) (λy=>.jO [y,I (oS p f start dir order).2])):=by
 by_cases h0:fW p f [start,dir] order=0
 ·obtain⟨S,hd⟩:=yW h0
  have hd:=hd dir x6
  obtain⟨o,rfl⟩:∃ o:Nat,order=((o+1:Nat):Int)-1:=⟨order.toNat,by have:=S.ord;omega⟩
  have ho:=S.ord
  cases hX:wT p f start with
  |ok q =>
   obtain⟨⟨L,F⟩,u⟩:=q
   have T:=aUM S.ok S.fn S.ns S.hs.2 S.par hX
   have e:oS p f start dir (((o+1:Nat):Int)-1)=(eS (Vz F.code L (eS (Vy F.code L) start)) dir (o+1-1),0):=by
    rw[oS,if_pos h0,hX,show(((o+1:Nat):Int)-1).toNat=o+1-1 by omega]
   rw[e]
   exact a4Y S.ok hps aA f S.fn S.ns hd.2 S.hs hd.1 S.par (by rw[T.ll,S.outs]) h0 hX T
  |error c =>
   have e:oS p f start dir (((o+1:Nat):Int)-1)=([],c):=by rw[oS,if_pos h0,hX]
   have he:=(aKS S.ok S.fn S.ns S.par hX).2 (o+1) _ aA (aOD S.ns aA)
   have h2:=bQ9 S.ok (sz:=o+1) aA f S.fn S.ns (by have:=S.hs;omega) S.par he
   have hc:=aF0 p (o+1) f _ c he
   have h1:=aOG p f hps [start,dir] cT (((o+1:Nat):Int)-1)
   rw[h0]at h1
   rw[e]
   generalize (((o+1:Nat):Int)-1)=order at *
   rw[aC.aS]at h1 h2 ⊢
   refine aBC 106 aUO ib9 cK Tryz.func9 λh=>?_
   simp -dsimp -implicitDefEqProofs only[go_sem,↓reduceIte,Tryz.f9]
   refine⟨by decide,by decide,aJ.mk (fM.sub (.cons (.refl _) (.cons (.refl _) (.cons (.refl _) (.cons (Sub.loose 1 [[ints start],[ints dir]] true) .nil)))) h1) ?_⟩
   simp -dsimp -implicitDefEqProofs only[go_sem,↓reduceIte,Tryz.f9]
   first|refine aJ.mk (h2) ?_|refine aF.mk (h2) ?_|refine aJ.bA (h2) ?_|refine aF.mk (aX.cU (h2)) ?_
   simp -dsimp -implicitDefEqProofs only[go_sem,↓reduceIte,Tryz.f9]
   exact⟨λ_=>a1F _,λq=>absurd q aA⟩
 ·have e:oS p f start dir order=([],fW p f [start,dir] order):=by rw[oS,if_neg h0]
  have h1:=aOG p f hps [start,dir] cT order
  rw[e]
  generalize fW p f [start,dir] order=c at *
  rw[aC.aS]at h1 ⊢
  refine aBC 106 aUO ib9 cK Tryz.func9 λh=>?_
  simp -dsimp -implicitDefEqProofs only[go_sem,↓reduceIte,Tryz.f9]
  refine⟨by decide,by decide,aJ.mk (fM.sub (.cons (.refl _) (.cons (.refl _) (.cons (.refl _) (.cons (Sub.loose 1 [[ints start],[ints dir]] true) .nil)))) h1) ?_⟩
  simp -dsimp -implicitDefEqProofs only[go_sem,↓reduceIte,Tryz.f9,h0]
  exact a1F _
def a1H (m a b:Int):Bool:=decide (1<=a/\a<=m) && decide (b=a)
theorem bHP (p:aC) (hps:p.s<=4194304) (f:Int):fM Tryz.prog 120 [.ip 1 [p.c] 0 0,I f] (I (if p.ok then if 0<=f/\f<=(p.aD.length:Int)-1 then 0 else 2 else 1)):=by
 have hok:=bFF p hps
 have hl:=p.aTY
 rw[aC.aS]at hok ⊢
 refine gX 17 bMZ dC cK Tryz.func120 λh=>?_
 simp -dsimp -implicitDefEqProofs only[go_sem,↓reduceIte,Tryz.f120]
 refine aJ.mk hok ?_
 simp -dsimp -implicitDefEqProofs only[go_sem,↓reduceIte,Tryz.f120]
 rw[IntWalk.i64_in ((p.aD.length:Int)-1) aA]
 refine⟨λq=>by rw[if_neg q],λq _=>?_⟩
 first|refine aJ.mk (gH f 0 ((p.aD.length:Int)-1)) ?_|refine aF.mk (gH f 0 ((p.aD.length:Int)-1)) ?_|refine aJ.bA (gH f 0 ((p.aD.length:Int)-1)) ?_|refine aF.mk (aX.cU (gH f 0 ((p.aD.length:Int)-1))) ?_
 simp -dsimp -implicitDefEqProofs only[go_sem,↓reduceIte,Tryz.f120]
 refine⟨λh=>by rw[if_pos q,if_neg h],λh=>by rw[if_pos q,if_pos h]⟩
@[go_sem] def a42:List Nat:=[0,1,2,6,7,45]
@[go_sem] def bVF:Marks:=λid=>match id with|2=>([12,23],(.op 0 (.op 1 (.op 2 (.op 3 (.op 4 (.op 5 (.op 6 (.op 7 (.op 8 (.op 9 (.op 10 (.op 11 (.op 12 (.op 13 (.op 14 (.op 15 (.op 16 (.op 17 (.op 18 (.op 19 (.op 20 (.op 21 (.op 22 (.op 24 (.op 25 (.op 26 (.op 27 (.op 28 (.op 29 (.op 30 (.op 31 (.op 23 (.op 32 (.op 33 (.op 34 .nil))))))))))))))))))))))))))))))))))),[])|_=>([],.nil,[])
theorem bVG (p:aC) (hps:p.s<=4194304) (f m:Int):fM Tryz.prog 90 [.ip 1 [p.c] 0 0,I f,I m] (I (j9 p f (a1H m))):=by
 have hif:=bHP p hps f
 by_cases h1:p.ok
 ·by_cases h2:0<=f/\f<=(p.aD.length:Int)-1
  ·obtain⟨F,ef,e1,e2,e3⟩:=aRN h1 h2
   rw[if_pos h1,if_pos h2]at hif
   simp only[aC.aS]at hif ⊢
   rw[e3]
   refine gX 47 a42 dC bVF Tryz.func90 λh=>?_
   simp -dsimp -implicitDefEqProofs only[go_sem,↓reduceIte,Tryz.f90]
   first|refine aJ.mk (hif) ?_|refine aF.mk (hif) ?_|refine aJ.bA (hif) ?_|refine aF.mk (aX.cU (hif)) ?_
   simp -dsimp -implicitDefEqProofs only[go_sem,↓reduceIte,Tryz.f90,ef,aU.aS]
   refine⟨h2.1,by omega,?_⟩
   first|refine aJ.mk (gH F.aT 1 m) ?_|refine aF.mk (gH F.aT 1 m) ?_|refine aJ.bA (gH F.aT 1 m) ?_|refine aF.mk (aX.cU (gH F.aT 1 m)) ?_
   simp -dsimp -implicitDefEqProofs only[go_sem,↓reduceIte,Tryz.f90,ef,aU.aS]
   refine⟨λq=>⟨h2.1,by omega,h2.1,by omega,λ_=>⟨λq2=>?_,λq2=>?_⟩⟩,λq=>?_⟩
   ·rw[a1H,decide_eq_false q2,Bool.and_false];rfl
   ·rw[a1H,decide_eq_true q2,decide_eq_true q];rfl
   ·rw[a1H,decide_eq_false q,bJ3];rfl
  ·rw[if_pos h1,if_neg h2]at hif
   have e:j9 p f (a1H m)=2:=by rw[j9,if_pos h1,if_neg h2]
   simp only[aC.aS]at hif ⊢
   refine gX 47 a42 dC bVF Tryz.func90 λh=>?_
   simp -dsimp -implicitDefEqProofs only[go_sem,↓reduceIte,Tryz.f90]
   first|refine aJ.mk (hif) ?_|refine aF.mk (hif) ?_|refine aJ.bA (hif) ?_|refine aF.mk (aX.cU (hif)) ?_
   simp -dsimp -implicitDefEqProofs only[go_sem,↓reduceIte,Tryz.f90]
   rw[e]
 ·rw[if_neg h1]at hif
  have e:j9 p f (a1H m)=1:=by rw[j9,if_neg h1]
  simp only[aC.aS]at hif ⊢
  refine gX 47 a42 dC bVF Tryz.func90 λh=>?_
  simp -dsimp -implicitDefEqProofs only[go_sem,↓reduceIte,Tryz.f90]
  first|refine aJ.mk (hif) ?_|refine aF.mk (hif) ?_|refine aJ.bA (hif) ?_|refine aF.mk (aX.cU (hif)) ?_
  simp -dsimp -implicitDefEqProofs only[go_sem,↓reduceIte,Tryz.f90]
  rw[e]
theorem aDB (l:List Int) (n:Int):fM Tryz.prog 91 [ints l,I n] (.bool (decide ((l.length:Int)=n/\dW l))):=by
 refine gX 13 aE0 dC cK Tryz.func91 λh=>?_
 simp -dsimp -implicitDefEqProofs only[go_sem,↓reduceIte,Tryz.f91]
 refine λ_=>⟨λh=>?_,λh=>(decide_eq_false λz=>h z.1).symm⟩
 first|refine aJ.mk (aCO l) ?_|refine aF.mk (aCO l) ?_|refine aJ.bA (aCO l) ?_|refine aF.mk (aX.cU (aCO l)) ?_
 simp -dsimp -implicitDefEqProofs only[go_sem,↓reduceIte,Tryz.f91]
 by_cases hn:dW l
 ·rw[decide_eq_true hn,decide_eq_true ⟨h,hn⟩]
 ·rw[decide_eq_false hn,decide_eq_false λz=>hn z.2]
@[go_sem] def bHQ:List Nat:=[0,1,2,3,8,9,32]
theorem bHR (p:aC) (hps:p.s<=4194304) (f:Int) (start:List Int) (order:Int):fM Tryz.prog 36 [.ip 1 [p.c] 0 0,I f,ints start,I order] (I (fW p f [start] order)):=by
 have hif:=bVG p hps f 12
 by_cases h0:j9 p f p8=0
 ·obtain⟨h1,h2,F,ef,e1,e2,e3⟩:=aDA h0
  rw[show j9 p f (a1H 12)=0 from h0]at hif
  have e:fW p f [start] order=if ((start.length:Int)=F.aT/\dW start)/\0<=order/\order<=12 then 0 else 2:=by rw[fW,if_pos h0,e1];simp
  simp only[aC.aS]at hif ⊢
  refine gX 34 bHQ dC cK Tryz.func36 λh=>?_
  simp -dsimp -implicitDefEqProofs only[go_sem,↓reduceIte,Tryz.f36]
  first|refine aJ.mk (hif) ?_|refine aF.mk (hif) ?_|refine aJ.bA (hif) ?_|refine aF.mk (aX.cU (hif)) ?_
  simp -dsimp -implicitDefEqProofs only[go_sem,↓reduceIte,Tryz.f36,ef,aU.aS]
  refine⟨h2.1,h2.2,?_⟩
  first|refine aJ.mk (aDB start F.aT) ?_|refine aF.mk (aDB start F.aT) ?_|refine aJ.bA (aDB start F.aT) ?_|refine aF.mk (aX.cU (aDB start F.aT)) ?_
  simp -dsimp -implicitDefEqProofs only[go_sem,↓reduceIte,Tryz.f36,ef,aU.aS]
  rw[e]
  refine⟨λq=>?_,λq=>by rw[if_neg λz=>q z.1]⟩
  first|refine aJ.mk (gH order 0 12) ?_|refine aF.mk (gH order 0 12) ?_|refine aJ.bA (gH order 0 12) ?_|refine aF.mk (aX.cU (gH order 0 12)) ?_
  simp -dsimp -implicitDefEqProofs only[go_sem,↓reduceIte,Tryz.f36,ef,aU.aS]
  refine⟨λq2=>by rw[if_neg λz=>q2 z.2],λq2=>by rw[if_pos ⟨q,q2⟩]⟩
 ·have e:fW p f [start] order=j9 p f p8:=by rw[fW,if_neg h0]
  rw[show j9 p f (a1H 12)=j9 p f p8 from rfl]at hif
  generalize j9 p f p8=c at *
  simp only[aC.aS]at hif ⊢
  refine gX 34 bHQ dC cK Tryz.func36 λh=>?_
  simp -dsimp -implicitDefEqProofs only[go_sem,↓reduceIte,Tryz.f36]
  first|refine aJ.mk (hif) ?_|refine aF.mk (hif) ?_|refine aJ.bA (hif) ?_|refine aF.mk (aX.cU (hif)) ?_
  simp -dsimp -implicitDefEqProofs only[go_sem,↓reduceIte,Tryz.f36,h0]
  rw[e]
@[go_sem] def b2Q:List Nat:=[7,22]
theorem bM7 (Y:List (List Int)) {sz k:Nat} (hY:∀ s∈Y,bV sz s) (hk:1<=k/\k<=sz) (c6:sz<=1048576) (hl:Y.length<=1048576):uT Tryz.prog 95 [b6 Y,I k] (QS (OS (oL I) 1 (Y.map λs=>s.take k))):=by
 have hel:(Y.map λs=>s.take k).length=Y.length:=nG _
 refine aBC 25 aSV b2Q cK Tryz.func95 λh=>?_
 simp -dsimp -implicitDefEqProofs only[go_sem,↓reduceIte,Tryz.f95]
 refine⟨bN,?_⟩
 refine cZ aSV b2Q cK (λx:Nat×LLx=>[(0,b6 Y),(1,I k),(5,iO 1 x.1 x.2.1),(6,I x.1)]) (λx=>LLH x.2) (λx=>x.1<=Y.length/\LLG h ((Y.map λs=>s.take k).take x.1) x.2) (λx=>Y.length-x.1) (0,none,[],h) ⟨by simp[c4,b7,iO],aE.le_refl _,fE _,LLG.init _⟩ ?_
 rintro⟨j,op,es,g⟩ ⟨hj,H⟩
 simp only at hj H ⊢
 rcases bZ j Y.length with hlt|hge
 ·have ea:Y[j]?=some Y[j]:=cM hlt
  have hs:=hY _ (eI hlt)
  have hsl:=hs.1
  have hy:(Y.map λs=>s.take k).take (j+1)=(Y.map λs=>s.take k).take j++[Y[j].take k]:=by
   rw[jU aA,r8]
  have hlk:((Y.map λs=>s.take k).take j).length=j:=by rw[jT];omega
  have xQ:=H.len
  simp only[hlk]at xQ
  have hown:=a3F (Y[j].take k) (by rw[jT];omega)
  have hc:(Y[j].take k).length=k:=by rw[jT];omega
  cases op with
  |none =>
   obtain⟨h1,rfl,rfl⟩:=H.nil
   obtain rfl:j=0:=by rw[←hlk,h1];rfl
   simp -dsimp -implicitDefEqProofs only[go_sem,↓reduceIte,Tryz.f95,hlt,ea,bM,LLH,aQ,hsl]
   rw[←aYU]
   refine λ_=>⟨by omega,hk.2,?_⟩
   refine aJ.wn0 (hown) ?_
   rintro r_ l_ g ⟨y_,oy_,rfl,rfl⟩ wn_
   rcases oy_.aL7 with⟨_,q_⟩|⟨m,rfl⟩
   ·rw[q_]at hc;simp at hc;omega
   rw[OV.oE]
   rw[OV.hJ,l3,kG]at wn_
   obtain⟨zm,rfl⟩:=wn_.aC9
   simp -dsimp -implicitDefEqProofs only[go_sem,↓reduceIte,Tryz.f95,hc,bM]
   refine⟨bN,bN,bN,λb ⟨b1,b2⟩=>?_⟩
   obtain⟨x',e',H',L'⟩:=H.fin (m:=m) (b:=b) (s:=Y[0].take k) (hc) zm b2 b1 (aE.le_refl _)
   refine⟨(1,x'),⟨by simp only[e'];rfl,IntWalk.i64_in _ aA⟩,L',⟨hlt,by simp only;rw[hy];exact H'⟩,by simp only;omega⟩
  |some n =>
   simp -dsimp -implicitDefEqProofs only[go_sem,↓reduceIte,Tryz.f95,hlt,ea,bC,LLH,aK,cW,xQ,hsl]
   rw[←aYU]
   refine λ_=>⟨by omega,hk.2,?_⟩
   refine aJ.wn1 (hown) H.2.2 ?_
   rintro r_ l_ g' ⟨y_,oy_,rfl,rfl⟩ wn_ zn
   rcases oy_.aL7 with⟨_,q_⟩|⟨m,rfl⟩
   ·rw[q_]at hc;simp at hc;omega
   rw[OV.oE]
   rw[OV.hJ,l3,kG]at wn_
   obtain⟨zm,rfl⟩:=wn_.aC9
   obtain⟨wY,gT,gU,aG1⟩:=bB (show ¬m=n from λe=>by rw[e,aM]at zn;cases zn)
   simp -dsimp -implicitDefEqProofs only[go_sem,↓reduceIte,Tryz.f95,hc,gT,gU,aI,cW,xQ,bC]
   refine⟨bN,bN,bN,iH _,by omega,by omega,λb ⟨bn,bm,bz⟩=>?_⟩
   rw[show List.take j (OV.cells es)=OV.cells es from xQ▸fF es]
   refine⟨(j+1,some b,es++[oI m (Y[j].take k)],aR g m (lI (Y[j].take k))),⟨rfl,IntWalk.i64_in _ aA⟩,?_,⟨hlt,by simp only;rw[hy];exact H.snoc (Y[j].take k) zm bz bm⟩,by simp only;omega⟩
   show(LLH (some b,es++[oI m (Y[j].take k)],aR g m (lI (Y[j].take k)))).le _
   rw[LLH.snoc,show List.length (Y[j].take k)=_ from hc]
   exact aOH H.2.2 wY bn (λq hq=>by simp only[iS,if_neg hq];(repeat' split) <;> first|rfl|contradiction)
 ·have hk':j=Y.length:=by omega
  subst hk'
  simp -dsimp -implicitDefEqProofs only[go_sem,↓reduceIte,Tryz.f95,bX,dB]
  intro _
  rw[pQ aA]at H
  obtain⟨y,hy,hv,hw⟩:=H.done
  rw[hel]at hv
  exact⟨_,_,_,bQ _ _,⟨y,hy,hv.symm,rfl⟩,hw⟩
theorem gB.b2R {h g:aE} {b k m:Nat} {es:List (List OV)} {l:List Int} (l':List Int) (X:gB h (OV.cJ [OV.sl b 1 es]) g) (hk:es[k]?=some (oI m l)) (hl:l'.length=l.length):gB h (OV.cJ [OV.sl b 1 (es.set k (oI m l'))]) (aR g m (lI l'))/\OV.cells (es.set k (oI m l'))=OV.cells es:=by
 obtain⟨hlt,he⟩:=mS.1 hk
 obtain⟨A,B,rfl,rfl⟩:∃ A B,es=A++oI m l::B/\k=A.length:=⟨es.take k,es.drop (k+1),by rw[←he,List.getElem_cons_drop,bDE],by rw[jT];omega⟩
 have hset:(A++oI m l::B).set A.length (oI m l')=A++oI m l'::B:=by rw[bDG _ _ (iH _),wI];rfl
 have hrw:∀ s,OV.cJ [OV.sl b 1 (A++oI m s::B)]=((b,bE.row 1 (OV.cells (A++oI m s::B)))::OV.bF A)++(m,lI s)::OV.bF B:=λs=>by
  rw[OV.fC,OV.gZ,dT,OV.hJ,OV.pL,aSU,oI,OV.fC,OV.gZ,dT,OV.hJ,l3,kG];rfl
 have hce:OV.cells (A++oI m l'::B)=OV.cells (A++oI m l::B):=by
  have h1:∀ s,OV.cells (A++oI m s::B)=OV.cells A++[.v (.os m 1 0 s.length)]::OV.cells B:=λs=>by
   rw[xJ,show oI m s::B=[oI m s]++B from rfl,xJ,lK,a9F];rfl
  rw[h1,h1,hl]
 rw[hset]
 refine⟨?_,hce⟩
 rw[hrw]at X ⊢
 rw[hce]
 exact((X.perm List.perm_middle).set).perm List.perm_middle.symm
theorem bB8 (n:Int) {sz:Nat} (hs:1<=sz/\sz<=1048576):uT Tryz.prog 93 [I n,I sz] (QS (OS (oP I) 1 (fQ n sz))):=by
 have e2:=aJ8 (x:=[aH.int .i64 0]) hs.1
 refine aBC 14 a4C dC cK Tryz.func93 λh=>?_
 simp -dsimp -implicitDefEqProofs only[go_sem,↓reduceIte,Tryz.f93,nU,e2]
 refine⟨bN,iH _,by omega,by omega,λm hm=>⟨λ_=>⟨by omega,?_⟩,λq=>absurd q aA⟩⟩
 rw[aO,show Int.toNat 0=0 from rfl,aBF]
 have:=zP (c:=I) (l:=fQ n sz) (sz:=1) hm
 rwa [s8]at this
def aFI (V:Nat->List (List Int)->List (List Int)) (start:List Int) (sz q r:Nat):List Int:=(eS V start q).getD r []++List.replicate (sz-(q+1)) 0
def aAY (V:Nat->List (List Int)->List (List Int)) (start:List Int) (sz k i:Nat):List (List Int):=(List.range start.length).map λr=>aFI V start sz (if r<i then k+1 else k) r
theorem aKT (V:Nat->List (List Int)->List (List Int)) {start:List Int} (ns:dW start) {sz q r:Nat} (hq:q<sz) (hr:r<start.length):(aFI V start sz q r).length=sz:=by
 have:=(gE V ns q).len hr
 rw[aFI,mV,this,aYS];omega
theorem bHT (V:Nat->List (List Int)->List (List Int)) {start:List Int} (ns:dW start) {sz q r:Nat} (hq:q<sz) (hr:r<start.length):bV sz (aFI V start sz q r):=⟨aKT V ns hq hr,λx hx=>by
 rcases pJ.1 hx with hx|hx
 ·exact((gE V ns q).1.get hr).2.2 x hx
 ·rw[(aS6.1 hx).2];exact mZ⟩
theorem bB9 (V:Nat->List (List Int)->List (List Int)) {start:List Int} (ns:dW start) {sz q r:Nat} (hr:r<start.length):(aFI V start sz q r).take (q+1)=(eS V start q).getD r []:=by
 have:=(gE V ns q).len hr
 rw[aFI,bDF aA,pQ aA]
theorem bHU (V:Nat->List (List Int)->List (List Int)) {start:List Int} (ns:dW start) {sz q r:Nat} (hq:q+1<sz) (hr:r<start.length):(aFI V start sz q r).set (q+1) (((V (q+1) (eS V start q)).getD r []).getD q 0*nV ((q:Int)+1)%1000003)=aFI V start sz (q+1) r:=by
 have h1:=(gE V ns q).len hr
 rw[aFI,aFI,bDG _ _ aA,h1,wI,eS,pX hr,show sz-(q+1)=(sz-(q+1+1))+1 by omega,aYR,bDH,aD6];rfl
theorem sJ (V:Nat->List (List Int)->List (List Int)) (start:List Int) (sz k i:Nat):(aAY V start sz k i).length=start.length:=by simp[aAY]
theorem bHV (V:Nat->List (List Int)->List (List Int)) (start:List Int) (sz k i:Nat) {r:Nat} (hr:r<start.length):(aAY V start sz k i).getD r []=aFI V start sz (if r<i then k+1 else k) r:=pX hr _
theorem a1I (V:Nat->List (List Int)->List (List Int)) {start:List Int} (ns:dW start) {sz k i:Nat} (hk:k<sz) (hi:i=0∨k+1<sz):gF sz start.length (aAY V start sz k i):=⟨sJ _ _ _ _ _,λs hs=>by
 obtain⟨r,hr,rfl⟩:=qU.1 hs
 refine bHT V ns ?_ (aLK.1 hr)
 split <;> omega⟩
theorem bCA (V:Nat->List (List Int)->List (List Int)) (start:List Int) (sz k:Nat):aAY V start sz k start.length=aAY V start sz (k+1) 0:=aG7 λr hr=>by rw[if_pos (aLK.1 hr),if_neg (aMP _)]
theorem a1J (V:Nat->List (List Int)->List (List Int)) {start:List Int} (ns:dW start) {sz k:Nat}:(aAY V start sz k 0).map (λs=>s.take (k+1))=eS V start k:=by
 apply vT
 ·rw[nG,sJ,j5]
 ·intro i a b
  rw[nG,sJ]at a
  simp only[r8,aAY,aYX,if_neg (aMP _)]
  rw[bB9 V ns a,dI,cM b];rfl
theorem bHW (V:Nat->List (List Int)->List (List Int)) {start:List Int} (ns:dW start) (o:Nat):aAY V start (o+1) o 0=eS V start o:=by
 rw[←a1J V ns (sz:=o+1)]
 apply vT
 ·simp
 ·intro i a b
  rw[sJ]at a
  rw[r8,pQ]
  simp only[aAY,r8,aYX,if_neg (aMP _)]
  rw[aKT V ns aA a];exact iH _
theorem bHX (V:Nat->List (List Int)->List (List Int)) {start:List Int} {sz k i:Nat} (hi:i<start.length):aAY V start sz k (i+1)=(aAY V start sz k i).set i (aFI V start sz (k+1) i):=by
 apply vT
 ·simp[aAY]
 ·intro r a b
  rw[List.getElem_set]
  split
  ·rename_i e;subst e
   simp[aAY]
  ·rename_i e
   simp only[aAY,r8,aYX]
   congr 1
   by_cases h1:r<i
   ·rw[if_pos h1,if_pos aA]
   ·rw[if_neg h1,if_neg aA]
theorem a43 (V:Nat->List (List Int)->List (List Int)) {start:List Int} {sz:Nat} (c6:1<=sz):aAY V start sz 0 0=wC start sz:=by
 apply vT
 ·simp[aAY,wC]
 ·intro r a b
  have a1:r<start.length:=by rw[sJ]at a;exact a
  obtain⟨q,rfl⟩:∃ q,sz=q+1:=⟨sz-1,by omega⟩
  simp only[aAY,r8,aYX,if_neg (aMP _)]
  rw[aFI,wD V start a1]
  simp only[wC,r8,fQ,aYR,bDH]
  simp[dI,cM a1]
end Go.Hl

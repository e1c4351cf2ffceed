/-
  Contracts of functions and laws of the layer over the walk.
-/
import Derived.Test.YtoomflalicffnaaGreatVvG
import Derived.Test.YtoomflalicffnaaGreatVvH
import Derived.Test.YtoomflalicffnaaGreatVvE
import Derived.Test.YtoomflalicffnaaGreatVvA
namespace Go.Hl
open Go.Proofs
set_option linter.unusedVariables false
set_option linter.unusedSimpArgs false
def rW (f:Nat->Int):Nat->Int:=λi=>f (i+1)
def lT (w:Nat->Int):Nat->(Nat->Int)->Nat->Int
 |0,_,_=>0
 |n+1,f,j=>(if j=0 then f 0 else 0)+dG w (lT w n (rW f)) j
theorem aFK (w:Nat->Int):∀ (n:Nat) (f g:Nat->Int) (j:Nat),lT w n (λi=>f i+g i) j=lT w n f j+lT w n g j
 |0,_,_,_=>rfl
 |n+1,f,g,j=>by
  have h:lT w n (rW λi=>f i+g i)=λi=>lT w n (rW f) i+lT w n (rW g) i:=funext λi=>aFK w n (rW f) (rW g) i
  rw[lT,lT,lT,h,mD j (lT w n (rW f)) (lT w n (rW g))]
  split <;> omega
theorem aQ9 (w:Nat->Int) (c:Int):∀ (n:Nat) (f:Nat->Int) (j:Nat),lT w n (λi=>c*f i) j=c*lT w n f j
 |0,_,_=>(aJL c).symm
 |n+1,f,j=>by
  have h:lT w n (rW λi=>c*f i)=λi=>c*lT w n (rW f) i:=funext λi=>aQ9 w c n (rW f) i
  rw[lT,lT,h,aBL c j (lT w n (rW f)),Int.mul_add]
  split <;> simp
theorem a1T (w:Nat->Int) (n:Nat) (f:Nat->Int) (j:Nat):lT w n (λi=>-(f i)) j=-(lT w n f j):=by
 have:=aQ9 w (-1) n f j
 simp only[Int.neg_mul,aCG]at this
 exact this
theorem aL3 (w:Nat->Int):∀ (n j:Nat),lT w n (λ_=>0) j=0
 |0,_=>rfl
 |n+1,j=>by
  have h:lT w n (rW λ_=>0)=λ_=>0:=funext λi=>aL3 w n i
  rw[lT,h,kJ,rQ]
  split <;> rfl
theorem a1U {w A B:Nat->Int} (h0:Cg (w 0) 0) {j:Nat} (h:∀ i,i<j->Cg (A i) (B i)):Cg (dG w A j) (dG w B j):=by
 rw[rN,rN]
 refine zG _ λi hi=>?_
 cases i with
 |zero=>exact((h0.mul (Cg.refl _)).trans (Cg.of_eq (tK _))).trans ((h0.mul (Cg.refl _)).trans (Cg.of_eq (tK _))).symm
 |succ i=>exact(Cg.refl _).mul (h _ aA)
theorem tH {w:Nat->Int} (h0:Cg (w 0) 0):∀ (j:Nat) {n n':Nat} {f g:Nat->Int},j<n->j<n'->(∀ i,i<=j->Cg (f i) (g i))->Cg (lT w n f j) (lT w n' g j):=λj=>by
 induction j using Nat.strongRecOn with
 |ind j ih =>
  intro n n' f g hn hn' h
  match n,n',hn,hn' with
  |n+1,n'+1,hn,hn' =>
   rw[lT,lT]
   refine Cg.add ?_ (a1U h0 λi hi=>ih i hi aA aA λq hq=>h (q+1) aA)
   split
   ·exact h 0 (eM _)
   ·exact Cg.refl _
theorem a1V {w:Nat->Int} (h0:Cg (w 0) 0):∀ (j:Nat) {n n1 n2:Nat} {f g:Nat->Int},j<n->j<n1->j<n2->Cg (lT w n (dG f g) j) (dG (lT w n1 f) (lT w n2 g) j):=λj=>by
 induction j using Nat.strongRecOn with
 |ind j ih =>
  intro n n1 n2 f g hn hn1 hn2
  match n,n1,hn,hn1 with
  |n+1,n1+1,hn,hn1 =>
   have e:rW (dG f g)=λi=>f 0*rW g i+dG (rW f) g i:=funext λi=>rfl
   have e2:lT w n (rW (dG f g))=λi=>f 0*lT w n (rW g) i+lT w n (dG (rW f) g) i:=funext λi=>by
    rw[e,aFK w n (λi=>f 0*rW g i) (dG (rW f) g),aQ9]
   have e3:lT w (n1+1) f=λi=>(if i=0 then f 0 else 0)+dG w (lT w n1 (rW f)) i:=funext λi=>rfl
   have h1:Cg (dG w (lT w n (dG (rW f) g)) j) (dG (dG w (lT w n1 (rW f))) (lT w n2 g) j):=by
    rw[mE]
    exact a1U h0 λi hi=>ih i hi aA aA aA
   have h2:dG (λi=>if i=0 then f 0 else 0) (lT w n2 g) j=f 0*lT w n2 g j:=by
    have:=wA (f 0) j (λi=>if i=0 then 1 else 0) (lT w n2 g)
    rw[kJ j (λi=>if i=0 then 1 else 0),tZ]at this
    rw[←this]
    congr 1
    funext i
    split <;> simp
   have h3:Cg (lT w (n+1) g j) (lT w n2 g j):=tH h0 j aA hn2 λ_ _=>Cg.refl _
   rw[lT,e2,e3,mD j (λi=>f 0*lT w n (rW g) i),aBL,rM j (λi=>if i=0 then f 0 else 0),h2]
   refine Cg.trans (Cg.of_eq ?_) (((Cg.refl (f 0)).mul h3).add h1)
   rw[lT,Int.mul_add,show dG f g 0=f 0*g 0 from rfl]
   split <;> grind
theorem a88 {w:Nat->Int} (h0:Cg (w 0) 0) {f:Nat->Int} {a:Int} (h1:f 0=a) (h2:f 1=1) (h3:∀ i,2<=i->f i=0) {n j:Nat} (hj:j<n):Cg (lT w n f j) ((if j=0 then a else 0)+w j):=by
 refine(tH h0 j hj (show j<j+2 by omega) λ_ _=>Cg.refl _).trans (Cg.of_eq ?_)
 have e:lT w (j+1) (rW f)=λi=>if i=0 then 1 else 0:=funext λi=>by
  have hz:lT w j (rW (rW f))=λ_=>0:=funext λq=>by
   rw[show rW (rW f)=λ_=>0 from funext λq=>h3 (q+2) aA];exact aL3 w j q
  rw[lT,hz,kJ,rQ,show rW f 0=1 from h2,aGX]
 rw[lT,e,tZ,h1]
theorem aOD (w:Nat->Int) {f:Nat->Int} {a:Int} (h1:f 0=a) (h3:∀ i,1<=i->f i=0) {n j:Nat} (hj:j<n):lT w n f j=if j=0 then a else 0:=by
 obtain⟨m,rfl⟩:∃ m,n=m+1:=⟨n-1,by omega⟩
 have hz:lT w m (rW f)=λ_=>0:=funext λq=>by
  rw[show rW f=λ_=>0 from funext λq=>h3 (q+1) aA];exact aL3 w m q
 rw[lT,hz,kJ,rQ,h1,aGX]
theorem aOE (c:Int) (F:Nat->Int):∀ n,eW (λk=>c*F k) n=c*eW F n
 |0=>(aJL c).symm
 |n+1=>by rw[eW,eW,aOE c F n,Int.mul_add]
theorem aOF (w:Nat->Int) (d:Int):∀ (n:Nat) (f:Nat->Int) (j:Nat),lT (λi=>w i*d ^ i) n f j=lT w n f j*d ^ j
 |0,_,_=>(tK _).symm
 |n+1,f,j=>by
  have h:lT (λi=>w i*d ^ i) n (rW f)=λi=>lT w n (rW f) i*d ^ i:=funext λi=>aOF w d n (rW f) i
  have h2:dG (λi=>w i*d ^ i) (λi=>lT w n (rW f) i*d ^ i) j=dG w (lT w n (rW f)) j*d ^ j:=by
   rw[rN,rN,aJJ,←aOE]
   refine oK _ λi hi=>?_
   have e:d ^ j=d ^ i*d ^ (j-i):=by rw[←Int.pow_add];congr 1;omega
   rw[e];grind
  rw[lT,lT,h,h2,Int.add_mul]
  by_cases e:j=0
  ·subst e;simp
  ·rw[if_neg e,tK]
theorem aFL {w:Nat->Int} (h0:Cg (w 0) 0) {f:Nat->Int} (hf:f 0=0) (j:Nat):Cg (lT w (j+2) f j) (f 1*w j+dG w (dG w (lT w j (rW (rW f)))) j):=by
 have e:lT w (j+1) (rW f)=λi=>(if i=0 then f 1 else 0)+dG w (lT w j (rW (rW f))) i:=funext λi=>rfl
 rw[lT,e,mD j (λi=>if i=0 then f 1 else 0),hf]
 refine Cg.of_eq ?_
 have h:dG w (λi=>if i=0 then f 1 else 0) j=f 1*w j:=by
  have:=aBL (f 1) j (λi=>if i=0 then 1 else 0) w
  rw[tZ]at this
  rw[←this]
  congr 1
  funext i
  split <;> simp
 rw[h]
 split <;> omega
theorem a1W {w v A B:Nat->Int} {j:Nat} (w0:Cg (w 0) 0) (v0:Cg (v 0) 0) (a0:Cg (A 0) 0) (b0:Cg (B 0) 0) (hw:∀ i,i<j->Cg (w i) (v i)) (hA:∀ i,i<j->Cg (A i) (B i)):Cg (dG w A j) (dG v B j):=by
 rw[rN,rN]
 refine zG _ λi hi=>?_
 cases i with
 |zero=>exact((w0.mul (Cg.refl _)).trans (Cg.of_eq (tK _))).trans ((v0.mul (Cg.refl _)).trans (Cg.of_eq (tK _))).symm
 |succ i =>
  by_cases e:i+1=j
  ·rw[e,sP]
   exact(((Cg.refl _).mul a0).trans (Cg.of_eq (aJL _))).trans (((Cg.refl _).mul b0).trans (Cg.of_eq (aJL _))).symm
  ·exact(hw _ aA).mul (hA _ aA)
theorem aRA {w v:Nat->Int}:∀ (n:Nat) (f:Nat->Int) (j:Nat),(∀ i,i<=j->Cg (w i) (v i))->Cg (lT w n f j) (lT v n f j)
 |0,_,_,_=>Cg.refl _
 |n+1,f,j,h=>(Cg.refl _).add (jP j _ _ _ _ h λi hi=>aRA n (rW f) i λq hq=>h q aA)
theorem aUV {w v:Nat->Int} (w0:Cg (w 0) 0) (v0:Cg (v 0) 0) {j:Nat} (h:∀ i,i<j->Cg (w i) (v i)) (f:Nat->Int):Cg (dG w (dG w (lT w j f)) j) (dG v (dG v (lT v j f)) j):=by
 have z:∀ {w A:Nat->Int},Cg (w 0) 0->Cg (dG w A 0) 0:=λ{w A} h=>(h.mul (Cg.refl (A 0))).trans (Cg.of_eq (tK _))
 exact a1W w0 v0 (z w0) (z v0) h λi hi=>jP i _ _ _ _ (λq hq=>h q aA) λq hq=>aRA j f q λx hx=>h x aA
theorem bD8 {w v:Nat->Int} (w0:Cg (w 0) 0) (v0:Cg (v 0) 0) {f:Nat->Int} (hf:f 0=0) {iv:Int} (h1:Cg (f 1*iv) 1) {N:Nat} (h:∀ j,j<N->Cg (lT w N f j) (lT v N f j)):∀ j,j<N->Cg (w j) (v j):=λj=>by
 induction j using Nat.strongRecOn with
 |ind j ih =>
  intro hj
  have a:=(aFL w0 hf j).symm.trans ((tH w0 j aA hj λ_ _=>Cg.refl _).trans ((h j hj).trans ((tH v0 j hj aA λ_ _=>Cg.refl _).trans (aFL v0 hf j))))
  have b:=aUV w0 v0 (j:=j) (λi hi=>ih i hi aA) (rW (rW f))
  have c:Cg (f 1*w j) (f 1*v j):=by
   obtain⟨x,hx⟩:=a
   obtain⟨y,hy⟩:=b
   exact⟨x-y,by omega⟩
  have e:=c.mul (Cg.refl iv)
  have k:=λz:Int=>(h1.mul (Cg.refl z)).trans (Cg.of_eq (aCG z))
  refine(k (w j)).symm.trans (Cg.trans (Cg.of_eq ?_) (e.trans (Cg.trans (Cg.of_eq ?_) (k (v j)))))
  ·grind
  ·grind
def wS (x:List Int):Nat->Int:=λi=>if i=0 then 0 else sF x i
theorem wS0 (x:List Int):Cg (wS x 0) 0:=Cg.refl _
theorem aW9 {a:Int} {sz:Nat} (hsz:2<=sz):sF (jX a sz) 0=a/\sF (jX a sz) 1=1/\∀ i,2<=i->sF (jX a sz) i=0:=by
 refine⟨?_,?_,λi hi=>?_⟩
 ·have:=iI (sz:=sz) a 0 aA
  rw[if_pos rfl]at this
  have h:sF (jX a sz) 0=sF (bX a sz) 0:=by rw[sF,sF,jX,e8,mG b6,←e8]
  exact h.trans this
 ·rw[sF,jX,e8,nH aX7];rfl
 ·rw[sF,jX,e8,mG aA,←e8]
  by_cases h:i<sz
  ·have:=iI (sz:=sz) a i h
   rw[if_neg aA]at this
   exact this
  ·rw[e8,aJE aX7];rfl
theorem a89 {sz:Nat} (hsz:2<=sz) {code:List bG} (hins:∀ i c,code[i]?=some c->bN (1:Nat) i c) {a:Int} (ha:iE a) {x:List Int} (hx:aW sz x) (hx0:x.getD 0 0=a)
  (nz:∀ (k:Nat) (c:bG),code[k]?=some c->c.gB=6->¬(fM sz [jX a sz] code c.fB.toNat).getD 0 0=0) (nz':∀ (k:Nat) (c:bG),code[k]?=some c->c.gB=6->¬(fM sz [x] code c.fB.toNat).getD 0 0=0) :
  ∀ n k,k<n->k<code.length->∀ j,j<sz->Cg (lT (wS x) sz (sF (fM sz [jX a sz] code k)) j) (sF (fM sz [x] code k) j)
 |0,k,h,_=>by omega
 |n+1,k,hn,hk=>by
  have ih:=λi hi=>a89 hsz hins ha hx hx0 nz nz' n i hi
  have e:code[k]?=some code[k]:=fC hk
  have hc:=hins k _ e
  have z1:=nz k _ e
  have z2:=nz' k _ e
  have hX:∀ s∈[jX a sz],aW sz s:=λs hs=>by rw[iO.1 hs];exact aUU ha sz
  have hX':∀ s∈[x],aW sz s:=λs hs=>by rw[iO.1 hs];exact hx
  have sr:=λi (hi:i<code.length)=>l5 hins hX rfl i hi
  have sr':=λi (hi:i<code.length)=>l5 hins hX' rfl i hi
  have w0:=wS0 x
  by_cases h1:code[k].gB=1
  ·have hi:code[k].bA.toNat=0:=by unfold bN at hc;omega
   rw[zC e h1,zC e h1,hi]
   intro j hj
   obtain⟨q1,q2,q3⟩:=aW9 (a:=a) hsz
   refine(a88 w0 q1 q2 q3 hj).trans (Cg.of_eq ?_)
   show(if j=0 then a else 0)+(if j=0 then 0 else sF x j)=sF x j
   by_cases e0:j=0
   ·subst e0;rw[if_pos rfl,if_pos rfl,aGX];exact hx0.symm
   ·rw[if_neg e0,if_neg e0,aMW]
  by_cases h2:code[k].gB=2
  ·rw[tX e h2,tX e h2]
   intro j hj
   rw[aOD (wS x) (f:=sF (bX code[k].bA sz)) (a:=code[k].bA) (by rw[iI _ _ aA,if_pos rfl]) (λi hi=>by
    by_cases h:i<sz
    ·rw[iI _ _ h,if_neg aA]
    ·rw[sF,e8,aJE aX7];rfl) hj,iI _ _ hj]
   exact Cg.refl _
  have hr:=zD (sz:=sz) (args:=[jX a sz]) e hc h1 h2
  have hr':=zD (sz:=sz) (args:=[x]) e hc h1 h2
  generalize code[k]=c at *
  have ia:0<=c.fA/\c.fA<k:=by unfold bN at hc;omega
  have ra:=sr c.fA.toNat aA
  have ra':=sr' c.fA.toNat aA
  have pa:=ih c.fA.toNat aA aA
  by_cases h7:c.gB=7
  ·rw[opW,if_neg aA,if_neg aA,if_neg aA,if_pos h7]at hr hr'
   rw[hr,hr']
   intro j hj
   refine(tH w0 j hj hj λi hi=>rO ra aA).trans ?_
   rw[a1T (wS x) sz (sF (fM sz [jX a sz] code c.fA.toNat))]
   exact(sH (pa j hj)).trans (rO ra' hj).symm
  have ib:0<=c.fB/\c.fB<k:=by unfold bN at hc;omega
  have rb:=sr c.fB.toNat aA
  have rb':=sr' c.fB.toNat aA
  have pb:=ih c.fB.toNat aA aA
  have rk:=sr k hk
  have rk':=sr' k hk
  by_cases h3:c.gB=3
  ·rw[opW,if_pos h3]at hr hr'
   rw[hr,hr']
   intro j hj
   refine(tH w0 j hj hj λi hi=>pN ra rb aA).trans ?_
   rw[aFK (wS x) sz (sF (fM sz [jX a sz] code c.fA.toNat)) (sF (fM sz [jX a sz] code c.fB.toNat))]
   exact((pa j hj).add (pb j hj)).trans (pN ra' rb' hj).symm
  by_cases h4:c.gB=4
  ·rw[opW,if_neg h3,if_pos h4]at hr hr'
   rw[hr,hr']
   intro j hj
   refine(tH w0 j hj hj λi hi=>rP ra rb aA).trans ?_
   rw[aFK (wS x) sz (sF (fM sz [jX a sz] code c.fA.toNat)) (λi=>-(sF (fM sz [jX a sz] code c.fB.toNat) i)),a1T (wS x) sz (sF (fM sz [jX a sz] code c.fB.toNat))]
   exact((pa j hj).add (sH (pb j hj))).trans (rP ra' rb' hj).symm
  by_cases h5:c.gB=5
  ·rw[opW,if_neg h3,if_neg h4,if_pos h5]at hr hr'
   rw[hr,hr']
   intro j hj
   refine(tH w0 j hj hj λi hi=>mV _ ra aA).trans ((a1V w0 j hj hj hj).trans ?_)
   exact(jP j _ _ _ _ (λi hi=>pa i aA) λi hi=>pb i aA).trans (mV _ ra' hj).symm
  ·have h6:c.gB=6:=by unfold bN at hc;omega
   rw[opW,if_neg h3,if_neg h4,if_neg h5,if_neg h7]at hr hr'
   have w1:=div_eq ra' rb' (z2 h6)
   have w2:=div_eq ra rb (z1 h6)
   rw[←hr']at w1
   rw[←hr]at w2
   have hz:Zm sz (dG (λj=>lT (wS x) sz (sF (fM sz [jX a sz] code k)) j-sF (fM sz [x] code k) j) (sF (fM sz [x] code c.fB.toNat))):=λj hj=>by
    rw[aI2]
    have g1:Cg (dG (lT (wS x) sz (sF (fM sz [jX a sz] code k))) (sF (fM sz [x] code c.fB.toNat)) j) (sF (fM sz [x] code c.fA.toNat) j) :=
     (jP j _ _ _ _ (λ_ _=>Cg.refl _) λi hi=>(pb i aA).symm).trans ((a1V w0 j hj hj hj).symm.trans ((tH w0 j hj hj λi hi=>w2 i aA).trans (pa j hj)))
    obtain⟨y,hy⟩:=g1
    obtain⟨q,hq⟩:=w1 j hj
    exact⟨y-q,by omega⟩
   intro j hj
   obtain⟨y,hy⟩:=Zm.iv (aQC rb' (z2 h6)) hz j hj
   exact⟨y,by simp only at hy;omega⟩
def oT (a b:List Int):Nat->List Int
 |0=>List.replicate a.length 0
 |m+1=>(mulL (oT a b m) b).set 0 (((mulL (oT a b m) b).getD 0 0+a.getD (a.length-(m+1)) 0)%1000003)
theorem aFM {a b:List Int} {sz:Nat} (ha:a.length=sz):∀ m,aW sz (oT a b m)
 |0=>by rw[oT,ha];exact aDH sz
 |m+1=>by
  have h:=cF b (aFM (b:=b) ha m)
  refine⟨by rw[oT,p7];exact h.1,λx hx=>?_⟩
  rw[oT]at hx
  rcases s6 hx with hx|rfl
  ·exact h.2 x hx
  ·exact dY _
theorem aUW {a b:List Int} {sz:Nat} (hsz:1<=sz) (ha:a.length=sz):∀ m,m<=sz->∀ j,j<sz->Cg (sF (oT a b m) j) (lT (sF b) m (λi=>sF a (sz-m+i)) j)
 |0,_,j,hj=>Cg.of_eq (by rw[oT,sF,e8,sQ,if_pos aA];rfl)
 |m+1,hm,j,hj=>by
  have ih:=aUW (b:=b) hsz ha m aA
  have h:=aFM (b:=b) ha m
  have hmu:=cF b h
  have e:rW (λi=>sF a (sz-(m+1)+i))=λi=>sF a (sz-m+i):=funext λi=>by
   show sF a (sz-(m+1)+(i+1))=_
   congr 1;omega
  have h1:Cg (sF (mulL (oT a b m) b) j) (dG (sF b) (lT (sF b) m (λi=>sF a (sz-m+i))) j):=by
   refine(mV b h hj).trans ?_
   rw[kJ]
   exact jP j _ _ _ _ (λ_ _=>Cg.refl _) λi hi=>ih i aA
  rw[lT,e]
  by_cases e0:j=0
  ·subst e0
   rw[if_pos rfl,oT,sF,e8,nH (by rw[hmu.1];exact hj)]
   refine(Cg.mod _).trans (Cg.trans (Cg.of_eq (Int.add_comm _ _)) (Cg.add (Cg.of_eq ?_) h1))
   rw[ha];rfl
  ·rw[if_neg e0,aMW,oT,sF,e8,mG (iK e0),←e8]
   exact h1
theorem bD9 {a b:List Int} {sz:Nat} (hsz:1<=sz) (ha:a.length=sz) {j:Nat} (hj:j<sz):Cg (sF (oT a b sz) j) (lT (sF b) sz (sF a) j):=by
 have:=aUW (b:=b) hsz ha sz (bY _) j hj
 rw[show(λi=>sF a (sz-sz+i))=sF a from funext λi=>by rw[sP,aHQ]]at this
 exact this
def rT (a:List Int):Nat->List Int
 |0=>(List.replicate a.length 0).set 1 (gJ (a.getD 1 0))
 |m+1=>(rT a m).set (m+2) ((0-(oT a (rT a m) a.length).getD (m+2) 0*gJ (a.getD 1 0))%1000003)
theorem aFN {a:List Int} {sz:Nat} (ha:a.length=sz):∀ m,aW sz (rT a m)
 |0=>⟨by rw[rT,p7,aFR,ha],λx hx=>by
  rw[rT]at hx
  rcases s6 hx with hx|rfl
  ·rw[(aGW.1 hx).2];exact gZ
  ·exact num_inv _⟩
 |m+1=>by
  have h:=aFN ha m
  refine⟨by rw[rT,p7];exact h.1,λx hx=>?_⟩
  rw[rT]at hx
  rcases s6 hx with hx|rfl
  ·exact h.2 x hx
  ·exact dY _
theorem aGU {a:List Int}:∀ (m i:Nat),(i=0∨m+2<=i)->sF (rT a m) i=0
 |0,i,h=>by
  rw[sF,rT,e8,mG aA,sQ]
  split <;> rfl
 |m+1,i,h=>by
  rw[sF,rT,e8,mG aA,←e8]
  exact aGU m i aA
theorem a1X {a:List Int} {sz:Nat} (ha:aW sz a) (h0:a.getD 0 0=0) (h1:¬a.getD 1 0=0):∀ m,m+2<=sz->∀ j,j<m+2->Cg (lT (sF (rT a m)) sz (sF a) j) (if j=1 then 1 else 0)
 |0,hm,j,hj=>by
  have w0:Cg (sF (rT a 0) 0) 0:=Cg.of_eq (aGU 0 0 (.inl rfl))
  have hi:=inv_mul (ha.2.get 1) h1
  refine(tH w0 j aA (show j<j+2 by omega) λ_ _=>Cg.refl _).trans ((aFL w0 h0 j).trans ?_)
  have hr:Cg (dG (sF (rT a 0)) (dG (sF (rT a 0)) (lT (sF (rT a 0)) j (rW (rW (sF a))))) j) 0:=by
   have z:Cg (dG (sF (rT a 0)) (lT (sF (rT a 0)) j (rW (rW (sF a)))) 0) 0:=(w0.mul (Cg.refl _)).trans (Cg.of_eq (tK _))
   have:=a1W (w:=sF (rT a 0)) (v:=λ_=>0) (A:=dG (sF (rT a 0)) (lT (sF (rT a 0)) j (rW (rW (sF a))))) (B:=λ_=>0) (j:=j) w0 (Cg.refl _) z (Cg.refl _) (λi hi'=>by
    obtain rfl:i=0:=by omega
    exact w0) (λi hi'=>by
    obtain rfl:i=0:=by omega
    exact z)
   rw[rQ]at this
   exact this
  have h2:j=0∨j=1:=by omega
  rcases h2 with rfl|rfl
  ·refine(((Cg.refl _).mul w0).add hr).trans (Cg.of_eq ?_)
   simp
  ·have e:sF (rT a 0) 1=gJ (a.getD 1 0):=by rw[sF,rT,e8,nH (by rw[aFR,ha.1];omega)];rfl
   rw[e]
   exact(hi.add hr).trans (Cg.of_eq rfl)
 |m+1,hm,j,hj=>by
  have ih:=a1X ha h0 h1 m aA
  have w0:Cg (sF (rT a m) 0) 0:=Cg.of_eq (aGU m 0 (.inl rfl))
  have v0:Cg (sF (rT a (m+1)) 0) 0:=Cg.of_eq (aGU (m+1) 0 (.inl rfl))
  have hser:=aFN ha.1 m
  have hlow:∀ i,i<m+2->sF (rT a (m+1)) i=sF (rT a m) i:=λi hi=>by
   rw[sF,rT,e8,mG aA,←e8];rfl
  by_cases e:j<m+2
  ·exact(aRA sz (sF a) j λi hi=>Cg.of_eq (hlow i aA)).trans (ih j e)
  ·obtain rfl:j=m+2:=by omega
   rw[if_neg aA]
   have hi:=inv_mul (ha.2.get 1) h1
   have htop:sF (rT a (m+1)) (m+2)=(0-(oT a (rT a m) a.length).getD (m+2) 0*gJ (a.getD 1 0))%1000003:=by
    rw[sF,rT,e8,nH (by rw[hser.1];omega)];rfl
   have hc:Cg ((oT a (rT a m) a.length).getD (m+2) 0) (dG (sF (rT a m)) (dG (sF (rT a m)) (lT (sF (rT a m)) (m+2) (rW (rW (sF a))))) (m+2)):=by
    have q:=(bD9 (b:=rT a m) aA ha.1 (j:=m+2) aA).trans ((tH w0 (m+2) aA (show m+2<m+2+2 by omega) λ_ _=>Cg.refl _).trans (aFL w0 h0 (m+2)))
    rw[aGU m (m+2) (.inr (bY _)),aJL,aMW]at q
    rw[ha.1]
    exact q
   have hres:=aUV w0 v0 (j:=m+2) (λi hi'=>Cg.of_eq (hlow i hi').symm) (rW (rW (sF a)))
   refine(tH v0 (m+2) aA (show m+2<m+2+2 by omega) λ_ _=>Cg.refl _).trans ((aFL v0 h0 (m+2)).trans ?_)
   rw[htop]
   have g1:Cg (sF a 1*((0-(oT a (rT a m) a.length).getD (m+2) 0*gJ (a.getD 1 0))%1000003)) (-((oT a (rT a m) a.length).getD (m+2) 0)):=by
    refine((Cg.refl _).mul (Cg.mod _)).trans ?_
    have:=(hi.mul (Cg.refl (-((oT a (rT a m) a.length).getD (m+2) 0))))
    rw[aCG]at this
    refine Cg.trans (Cg.of_eq ?_) this
    show a.getD 1 0*_=_
    grind
   obtain⟨x,hx⟩:=g1
   obtain⟨y,hy⟩:=hc
   obtain⟨z,hz⟩:=hres
   exact⟨x-y-z,by omega⟩
theorem bKS {M:Nat->Nat->List Int} (h:¬uO o8 1 M 1=none):¬(M 0 0).getD 0 0=0:=λq=>h (by
 have hz:o8.z (M 0 0)=true:=decide_eq_true q
 have hp:rS o8.z M 0 1 1=1:=by
  show(if o8.z (M (1-(0+1)) 0)=true then rS o8.z M 0 1 0 else _)=1
  rw[if_pos hz];rfl
 show(match uO o8 1 M 0 with
  |none=>none
  |some A=>if rS o8.z A 0 1 (1-0)=1 then none else _)=none
 show(if rS o8.z M 0 1 1=1 then none else _)=none
 rw[if_pos hp])
section
variable {p:aF} {f:Int} {a d:Int} {L:List Int} {F:dQ} {u sz:Nat} (G:zL p f [a] [d] L F u sz)
include G
theorem zL.aXA (h2:2<=sz):St [a] sz [jX a sz]:=aQ8 (G.na a (.head _)) aA
theorem zL.a1Y (h2:2<=sz):¬(fM sz [jX a sz] F.code (L.getD 0 0).toNat).getD 1 0=0:=by
 have hL:=G.hL
 have h0:=bKS G.det
 have hr:=G.out (o:=0) aX
 have hs:=a07 G.ok G.fn G.na G.par G.hre G.T G.hL 0 aX 0 aX
 rw[aQ1 p f [a] aX,e8,sO,al8 (show 0<[a].length from aX),aDX,aDY,aUQ G.na G.T (by rw[hL];exact aX)]at hs
 have e:jH [a] (eV [a].length 0)=[jX a 2]:=rfl
 rw[e]at hs
 have hp:=a0J (R:=pR 2) (sz:=2) (sz':=sz) (bP2 b6 b6 h2) G.T.ins (args:=[jX a 2]) (args':=[jX a sz]) (by
  refine⟨.inr ⟨bY _,by rw[jX,p7,gE];exact h2,λi hi=>?_⟩,trivial⟩
  obtain⟨q1,q2,_⟩:=aW9 (a:=a) (sz:=2) (bY _)
  obtain⟨q3,q4,_⟩:=aW9 (a:=a) h2
  have hi':i=0∨i=1:=by omega
  rcases hi' with rfl|rfl
  ·rw[q1,q3]
  ·rw[q2,q4]) _ (L.getD 0 0).toNat (sR _) aA
 rcases hp with⟨q,_⟩|⟨_,_,q⟩
 ·have hx:=(l5 G.T.ins (aQ8 (G.na a (.head _)) (sz:=2) b6).1.2 rfl (L.getD 0 0).toNat aA).1
  rw[q]at hx;cases hx
 ·have:=q 1 b6
  intro z
  rw[show(fM sz [jX a sz] F.code (L.getD 0 0).toNat).getD 1 0=sF (fM sz [jX a sz] F.code (L.getD 0 0).toNat) 1 from rfl,←this]at z
  exact h0 (hs.symm.trans z)
theorem zL.a9A (h2:2<=sz) {x:List Int} (hst:St [a] sz [x]) (hx:∀ j,j<sz->Cg (sF (fM sz [x] F.code (L.getD 0 0).toNat) j) (sF ((qN (gC F L) [d] sz 1).getD 0 []) j)) (k:Nat) (hk:1<=k/\k<sz) :
  x.getD k 0=(rT ((fM sz [jX a sz] F.code (L.getD 0 0).toNat).set 0 0) (sz-2)).getD k 0*d ^ k%1000003:=by
 have hr:=G.out (o:=0) aX
 have ht:=G.aXA h2
 have hts:=G.reg ht (k:=(L.getD 0 0).toNat) aA
 have h1:=G.a1Y h2
 have hv:=G.head ht (k:=(L.getD 0 0).toNat) aA
 have hxs:aW sz x:=hst.1.2 x (.head _)
 have hx0:x.getD 0 0=a:=hst.2 0 aX
 have hph:=a89 h2 G.T.ins (G.na a (.head _)) hxs hx0 (G.T.nz sz _ aA ht) (G.T.nz sz _ aA hst) _ (L.getD 0 0).toNat (sR _) aA
 generalize fM sz [jX a sz] F.code (L.getD 0 0).toNat=T at *
 have hA:aW sz (T.set 0 0):=⟨by rw[p7];exact hts.1,λy hy=>by
  rcases s6 hy with hy|rfl
  ·exact hts.2 y hy
  ·exact gZ⟩
 have hA0:(T.set 0 0).getD 0 0=0:=by rw[e8,nH (by rw[hts.1];omega)];rfl
 have hA1:(T.set 0 0).getD 1 0=T.getD 1 0:=by rw[e8,mG b6,←e8]
 have hAT:sF T=λi=>sF (T.set 0 0) i+(if i=0 then T.getD 0 0 else 0):=funext λi=>by
  by_cases e:i=0
  ·subst e;rw[if_pos rfl,show sF (T.set 0 0) 0=0 from hA0,aMW];rfl
  ·rw[if_neg e,aGX,sF,sF,e8,e8,mG (iK e)]
 have hR:=a1X hA hA0 (by rw[hA1];exact h1) (sz-2) aA
 have hser:=aFN hA.1 (sz-2)
 generalize hrv:rT (T.set 0 0) (sz-2)=r at *
 have r0:sF r 0=0:=by rw[←hrv];exact aGU _ 0 (.inl rfl)
 have hd:iE d:=G.nd d (.head _)
 have e1:∀ j,j<sz->Cg (lT (wS x) sz (sF (T.set 0 0)) j) (if j=1 then d else 0):=λj hj=>by
  have q1:=(hph j hj).trans (hx j hj)
  rw[hAT,aFK (wS x) sz (sF (T.set 0 0)) (λi=>if i=0 then T.getD 0 0 else 0),aOD (wS x) (f:=λi=>if i=0 then T.getD 0 0 else 0) (a:=T.getD 0 0) (if_pos rfl) (λi hi=>if_neg aA) hj]at q1
  have q2:Cg (sF ((qN (gC F L) [d] sz 1).getD 0 []) j) ((if j=0 then T.getD 0 0 else 0)+if j=1 then d else 0):=by
   rw[qN,e8,fE _ aX,aDY,G.aQQ (o:=0) aX,←hv]
   refine(pN (cS (hts.2.get 0)) (dM _ (zK sz)) hj).trans (Cg.add (Cg.of_eq (iI _ _ hj)) ((aP1 (zK sz) _ hj).trans (Cg.of_eq ?_)))
   have ht1:sF (tS sz) j=if j=1 then 1 else 0:=by
    by_cases e:j=1
    ·subst e
     rw[if_pos rfl,sF,tS,e8,nH (by rw[gE];exact hj)];rfl
    ·rw[if_neg e,sF,tS,e8,mG (iK e),←e8]
     have:=iI (sz:=sz) 0 j hj
     exact this.trans (by split <;> rfl)
   rw[ht1]
   show(if j=1 then 1 else 0)*d=_
   split <;> simp
  obtain⟨y,hy⟩:=q1.trans q2
  exact⟨y,by omega⟩
 have e2:∀ j,j<sz->Cg (lT (λi=>sF r i*d ^ i) sz (sF (T.set 0 0)) j) (if j=1 then d else 0):=λj hj=>by
  rw[aOF]
  refine((hR j aA).mul (Cg.refl (d ^ j))).trans (Cg.of_eq ?_)
  by_cases e:j=1
  ·subst e
   show(1:Int)*d ^ 1=d
   rw[aCG,aJI,aJH,aCG]
  ·rw[if_neg e,if_neg e,tK]
 have hu:=inv_mul (hA.2.get 1) (by rw[hA1];exact h1)
 have hin:=bD8 (wS0 x) (v:=λi=>sF r i*d ^ i) (Cg.of_eq (by rw[r0,tK])) (f:=sF (T.set 0 0)) hA0 hu (N:=sz) (λj hj=>(e1 j hj).trans (e2 j hj).symm) k hk.2
 rw[wS,if_neg aA]at hin
 exact(hin.trans (Cg.mod _).symm).num (hxs.2.get k) (dY _)
end
set_option maxRecDepth 100000
theorem aL4 {h:aB} {n:Nat} {l:List Int} {k:Nat} (hk:k=l.length) (hn:h n=some (mH l)):View h (.os n 1 0 k) (ints l):=by
 have h1:=View.ovD (h:=h) (d:=ints l) (OV.sl n 1 (l.map λx=>[.v (I x)])) (OS.pX (c:=λn=>[I n]) (R:=oP I) (λ_ _ q=>aC6 q) (OS.mk (wU l))) (λp hp=>by
  rw[OV.eK,gL,fP,iO]at hp
  rw[hp];exact hn)
 rw[OV.wV,gX]at h1
 rw[hk];exact h1
theorem a9B {α:Type} {c:α->aE} {l:List α} {sz n len:Nat} {h h':aB} (w:aE->aE) (hn:h n=none) (hl:(aT h n (.row sz ((l.map λx=>[c x]).map (List.map .v)))).le h') (e:len=l.length) :
  ∃ r1 g l1,Shift (w (.os n sz 0 len)) h' r1 g/\QS (OS (oP c) sz l) w r1 l1/\fI h l1 g:=by
 subst e
 refine⟨w (OV.sl n sz (l.map λx=>[.v (c x)])).val,aT h n (.row sz ((l.map λx=>[c x]).map (List.map .v))),_,?_,⟨_,OS.mk (wU l),rfl,rfl⟩,?_⟩
 ·rw[OV.jG];exact Shift.of (Sub.refl _) hl
 ·rw[OV.eK,gL,fP];exact fI.one hn
@[go_sem] def a1Z:List Nat:=[0,1,4,5,6,14]
@[go_sem] def bGN:Marks:=λid=>match id with|6=>([3,11],(.op 0 (.op 1 (.op 2 (.op 4 (.op 5 (.op 6 (.op 7 (.op 3 (.op 8 (.op 9 (.op 10 (.op 11 .nil)))))))))))),[])|_=>([],.nil,[])
theorem a30 (a b:List Int) (hl:1<=a.length/\a.length<=1048576) (hb:b.length=a.length) (na:eI a) (nb:eI b):yR Tryz.prog 121 [ints a,ints b] (QS (OS (oP I) 1 (oT a b a.length))):=by
 have hr0:bU.row 1 ((List.replicate a.length [aE.int .i64 0]).map (List.map Cell.v))=mH (oT a b 0):=by rw[mH,oT];simp[aXJ]
 refine yT 32 a1Z cU bGN Tryz.func121 λh=>?_
 simp -dsimp -implicitDefEqProofs only[go_sem,↓reduceIte,Tryz.f121]
 refine λhbig=>⟨by decide,bY _,by omega,by omega,λn hn _=>?_⟩
 rw[hr0]
 refine cM a1Z cU bGN (λx:Nat×Nat=>[(0,ints a),(1,ints b),(5,.os x.2 1 0 a.length),(6,I ((a.length:Int)-1-x.1))]) (λx=>aT h x.2 (mH (oT a b x.1))) (λx=>x.1<=a.length/\h x.2=none) (λx=>a.length-x.1) (0,n) ⟨by simp only[cR,bZ];exact⟨rfl,rfl,rfl,by rw[IntWalk.i64_in _ aA];congr 1;simp,trivial⟩,aB.le_refl _,eM _,hn⟩ ?_
 rintro⟨m,n⟩ ⟨hm,hn⟩
 simp only at hm hn ⊢
 have hs:=aFM (b:=b) (a:=a) rfl m
 rcases bT m a.length with hlt|hge
 ·have hg:(0:Int)<=(a.length:Int)-1-m:=by omega
  have hp:=aTI (oT a b m) b (by rw[hs.1];exact hb) (by rw[hs.1];exact hl.2) hs.2 nb
  have hpl:=(cF b hs).1
  have e0:(mulL (oT a b m) b)[Int.toNat 0]?=some ((mulL (oT a b m) b).getD 0 0):=bW (by rw[hpl];exact hl.1)
  simp -dsimp -implicitDefEqProofs only[go_sem,↓reduceIte,Tryz.f121,hg]
  refine aH.ln1 hp (mA.cons (aL4 hs.1.symm (aI ..)) (mA.cons (View.same _ _) mA.nil)) (QS.gY (λy hy=>OS.sol (λ_ _ q=>aO0 (λ_=>rfl) q) hy) λx hx=>hx) hn ?_
  rintro r l g' ⟨y,hy,rfl,rfl⟩ hw hgn
  rcases hy.aA9 with⟨_,q⟩|⟨q,rfl⟩
  ·rw[q]at hpl;simp only[rU]at hpl;omega
  rw[OV.jG]
  rw[OV.eK,gL,fP]at hw
  obtain⟨zq,rfl⟩:=hw.tG
  obtain⟨b0H,bQ5,bQ6,b0I⟩:=cW (show ¬n=q from λe=>by rw[e,aI]at hgn;cases hgn)
  have ea:a[((a.length:Int)-1-m).toNat]?=some (a.getD (a.length-(m+1)) 0):=by
   rw[show((a.length:Int)-1-m).toNat=a.length-(m+1)by omega]
   exact bW aA
  have n1:iE ((mulL (oT a b m) b).getD 0 0):=(cF b hs).2.get 0
  have n2:iE (a.getD (a.length-(m+1)) 0):=na.get _
  unfold iE at n1 n2
  have hw1:(IntKind.i64.wrap ((mulL (oT a b m) b).getD 0 0+a.getD (a.length-(m+1)) 0)).tmod 1000003=((mulL (oT a b m) b).getD 0 0+a.getD (a.length-(m+1)) 0)%1000003:=by rw[IntWalk.i64_in _ aA,uR aA]
  simp -dsimp -implicitDefEqProofs only[go_sem,↓reduceIte,Tryz.f121,bQ5,bQ6,aD,hpl,e0,ea,hw1]
  have hpq:0<a.length:=hl.1
  refine⟨by omega,by omega,by omega,by omega,(m+1,q),⟨rfl,by rw[IntWalk.i64_in _ aA];omega⟩,?_,⟨hlt,?_⟩,by simp only;omega⟩
  ·intro z
   simp only
   by_cases e1:z=q
   ·right
    rw[e1,aI,aI,show Int.toNat 0=0 from rfl,nL I];rfl
   ·rw[aD _ _ _ _ e1]
    by_cases e2:z=n
    ·left;rw[e2];exact hn
    ·right;rw[aD _ _ _ _ e1,aD _ _ _ _ e2,aD _ _ _ _ e1]
  ·exact zq
 ·obtain rfl:m=a.length:=aCH hm hge
  have hg:¬((0:Int)<=(a.length:Int)-1-a.length):=by omega
  simp -dsimp -implicitDefEqProofs only[go_sem,↓reduceIte,Tryz.f121,hg]
  have:=sK (c:=I) (l:=oT a b a.length) (sz:=1) hn
  rw[hs.1]at this
  exact this
@[go_sem] def a9C:List Nat:=[0,2,3,4,5,6,7,11,15,20,38]
@[go_sem] def bQ7:Marks:=λid=>match id with|9=>([2],(.op 0 (.op 1 (.op 3 (.op 4 (.op 5 (.op 6 (.op 2 (.op 7 (.op 8 .nil))))))))),[])|_=>([],.nil,[])
theorem a9D (a:List Int) (ha:2<=a.length/\a.length<=13) (na:eI a) (h0:a.getD 0 0=0) (h1:¬a.getD 1 0=0):yR Tryz.prog 44 [ints a] (QS (OS (oP I) 1 (rT a (a.length-2))) (λy=>.gK [y,I 0])):=by
 have hv:bC1 a:=⟨⟨by omega,ha.2⟩,na⟩
 have hvs:=s4 a
 rw[decide_eq_true hv]at hvs
 have hn1:¬((a.length:Int)=1):=by omega
 have e0:a[Int.toNat 0]?=some 0:=(bW (l:=a) (i:=0) aA).trans (congrArg some h0)
 have e1:a[Int.toNat 1]?=some (a.getD 1 0):=bW (l:=a) (i:=1) aA
 have hr0:(bU.row 1 (((List.replicate a.length [aE.int .i64 0]).map (List.map Cell.v)).set 1 [Cell.v (I (gJ (a.getD 1 0)))]))=mH (rT a 0):=by
  rw[rT,mH,←nL I];simp[aXJ]
 have e2:(List.replicate a.length [aE.int .i64 0])[Int.toNat 1]?=some [aE.int .i64 0]:=by rw[show Int.toNat 1=1 from rfl,sQ,if_pos aA]
 refine yT 54 a9C cU bQ7 Tryz.func44 λh=>?_
 simp -dsimp -implicitDefEqProofs only[go_sem,↓reduceIte,Tryz.f44]
 first|refine aH.mk (hvs) ?_|refine aG.mk (hvs) ?_|refine aH.bH (hvs) ?_|refine aG.mk (bB.dI (hvs)) ?_
 simp -dsimp -implicitDefEqProofs only[go_sem,↓reduceIte,Tryz.f44]
 simp -dsimp -implicitDefEqProofs only[go_sem,↓reduceIte,Tryz.f44,hn1,e0,e1,h1]
 intro _
 refine⟨by omega,by omega,by omega,?_⟩
 first|refine aH.mk (p0 (a.getD 1 0)) ?_|refine aG.mk (p0 (a.getD 1 0)) ?_|refine aH.bH (p0 (a.getD 1 0)) ?_|refine aG.mk (bB.dI (p0 (a.getD 1 0))) ?_
 simp -dsimp -implicitDefEqProofs only[go_sem,↓reduceIte,Tryz.f44]
 refine⟨by decide,bY _,by omega,by omega,λn hn=>⟨by omega,?_⟩⟩
 simp -dsimp -implicitDefEqProofs only[go_sem,↓reduceIte,Tryz.f44,e2]
 rw[aL,show Int.toNat 1=1 from rfl,hr0]
 refine aDA a9C cU bQ7 (λm:Nat=>[(0,ints a),(4,.os n 1 0 a.length),(5,I (gJ (a.getD 1 0))),(6,I ((m:Int)+2))]) n (λm=>mH (rT a m)) (λm=>m<=a.length-2) (λm=>a.length-m) 0 ⟨by simp[cR,bZ],by rw[aI],eM _⟩ ?_
 intro m hm
 have hs:=aFN (a:=a) rfl m
 rcases bT m (a.length-2)with hlt|hge
 ·have hg:(m:Int)+2<a.length:=by omega
  have hp:=a30 a (rT a m) ⟨by omega,by omega⟩ hs.1 na hs.2
  have hc:=aFM (b:=rT a m) (a:=a) rfl a.length
  have ek:(oT a (rT a m) a.length)[((m:Int)+2).toNat]?=some ((oT a (rT a m) a.length).getD (m+2) 0):=by
   rw[show((m:Int)+2).toNat=m+2 by omega]
   exact bW (by rw[hc.1];omega)
  simp -dsimp -implicitDefEqProofs only[go_sem,↓reduceIte,Tryz.f44,hg,aL]
  intro _
  refine aH.bP8 hp (mA.cons (View.same _ _) (mA.cons (aL4 hs.1.symm (aI ..)) mA.nil)) ?_
  simp -dsimp -implicitDefEqProofs only[go_sem,↓reduceIte,Tryz.f44,ek,hc.1,aL]
  have hw:=num_mul (hc.2.get (m+2)) (num_inv (a.getD 1 0))
  refine⟨by omega,hg,?_⟩
  rw[IntWalk.i64_in _ aA]
  first|refine aH.mk (minus 0 ((oT a (rT a m) a.length).getD (m+2) 0*gJ (a.getD 1 0))) ?_|refine aG.mk (minus 0 ((oT a (rT a m) a.length).getD (m+2) 0*gJ (a.getD 1 0))) ?_|refine aH.bH (minus 0 ((oT a (rT a m) a.length).getD (m+2) 0*gJ (a.getD 1 0))) ?_|refine aG.mk (bB.dI (minus 0 ((oT a (rT a m) a.length).getD (m+2) 0*gJ (a.getD 1 0)))) ?_
  simp -dsimp -implicitDefEqProofs only[go_sem,↓reduceIte,Tryz.f44]
  refine⟨by omega,hg,?_⟩
  have em:((rT a m).map λx=>[I x])[((m:Int)+2).toNat]?=some [I ((rT a m).getD (m+2) 0)]:=by
   rw[show((m:Int)+2).toNat=m+2 by omega,sO,bW (by rw[hs.1];omega)];rfl
  rw[mH]
  simp -dsimp -implicitDefEqProofs only[go_sem,↓reduceIte,Tryz.f44,aL,em]
  refine⟨m+1,by rw[IntWalk.i64_in _ aA];omega,?_,hlt,by omega⟩
  rw[show((m:Int)+2).toNat=m+2 by omega,nL I]
  exact aB.le_refl _
 ·obtain rfl:m=a.length-2:=aCH hm hge
  have hg:¬((((a.length-2:Nat):Int)+2<a.length)):=by omega
  simp -dsimp -implicitDefEqProofs only[go_sem,↓reduceIte,Tryz.f44,hg,aL]
  exact λ_=>a9B (c:=I) (l:=rT a (a.length-2)) (sz:=1) (λy=>.gK [y,I 0]) hn (aB.le_refl _) hs.1.symm
theorem a9E {o:Nat} (ho:o<=12):o+1<=2 ^ yC o:=by
 unfold yC;split <;> (try split) <;> (try split) <;> (try split) <;> simp <;> omega
theorem bEA (sz:Nat):eV sz 1=tS sz:=by
 rw[eV,tS,bX];congr 1
 cases sz with
 |zero=>rfl
 |succ n=>rw[aJC,aXB]
theorem bQ8 {sz j:Nat} (hj:j<sz):sF (tS sz) j=if j=1 then 1 else 0:=by
 by_cases e:j=1
 ·subst e
  rw[if_pos rfl,sF,tS,e8,nH (by rw[gE];exact hj)];rfl
 ·rw[if_neg e,sF,tS,e8,mG (iK e),←e8]
  have:=iI (sz:=sz) 0 j hj
  exact this.trans (by split <;> rfl)
theorem aUX {sz:Nat} {T:List Int} (h:aW sz T) {v:Int} (hv:iE v):aW sz (T.set 0 v):=⟨by rw[p7];exact h.1,λy hy=>by
 rcases s6 hy with hy|rfl
 ·exact h.2 y hy
 ·exact hv⟩
theorem a9F {sz:Nat} {a b:List Int} (ha:aW sz a) (hb:aW sz b) (h:∀ j,j<sz->Cg (sF a j) (sF b j)):a=b:=by
 refine tI (by rw[ha.1,hb.1]) λj h1 h2=>?_
 have:=(h j (by rw[←ha.1];exact h1)).num (ha.2.get j) (hb.2.get j)
 rw[sF,sF,e8,e8,fC h1,fC h2]at this
 exact this
theorem aUY {eT dir:List Int} {sz n i:Nat} (hs:1<=sz) (hi:i<n) (nv:eI eT) (nd:eI dir):(qN eT dir sz n).getD i []=(eJ (eV sz 1) (dir.getD i 0)).set 0 (eT.getD i 0):=by
 have e:(qN eT dir sz n).getD i []=iA (bX (eT.getD i 0) sz) (eJ (tS sz) (dir.getD i 0)):=by
  rw[qN,e8,fE _ hi];rfl
 rw[e,bEA]
 have h1:=dM (dir.getD i 0) (zK sz)
 have hc:=cS (sz:=sz) (nv.get i)
 refine a9F (lL hc h1) (aUX h1 (nv.get i)) λj hj=>?_
 refine(pN hc h1 hj).trans ?_
 rw[iI _ _ hj]
 by_cases e:j=0
 ·subst e
  rw[if_pos rfl,show sF ((eJ (tS sz) (dir.getD i 0)).set 0 (eT.getD i 0)) 0=eT.getD i 0 from by
   rw[sF,e8,nH (by rw[h1.1];exact hj)];rfl]
  have h2:=aP1 (zK sz) (dir.getD i 0) hj
  rw[bQ8 hj,if_neg b6,tK]at h2
  exact((Cg.refl _).add h2).trans (Cg.of_eq (aGX _))
 ·rw[if_neg e,aMW,show sF ((eJ (tS sz) (dir.getD i 0)).set 0 (eT.getD i 0)) j=sF (eJ (tS sz) (dir.getD i 0)) j from by
   rw[sF,e8,mG (iK e),←e8];rfl]
  exact Cg.refl _
theorem a31 {p:aF} {f:Int} {args dir:List Int} {o:Nat} (h:(gN p f args dir o).2=0):∃ L F u,zL p f args dir L F u (o+1)/\(gN p f args dir o).1=r6 F.code L (o+1) args.length (qN (gC F L) dir (o+1) args.length) args (yC o):=by
 by_cases h0:jT p f (vJ 6)=0
 ·obtain⟨h1,h2,F0,ef,e1,e2,e3⟩:=aDL h0
  have e4:=aQZ e3
  by_cases hA:aW0 p f args dir o
  ·obtain⟨h3,h4,h5⟩:=id hA
   rw[e1]at h3 h4
   have hpar:∀ H,p.aK[f.toNat]?=some H->(args.length:Int)=H.aR:=λH hH=>by rw[ef]at hH;cases hH;exact h3.1
   cases hr:zB p f args with
   |error c =>
    have hc:=aE0 p 1 f _ c (aI0 h1 h2 h3.2 hpar hr).1
    rw[show gN p f args dir o=([],c)by rw[gN,if_pos h0,if_pos hA,hr]]at h
    exact absurd h (by simp only;omega)
   |ok z =>
    obtain⟨⟨L,F⟩,u⟩:=z
    have T:=a7U h1 h2 h3.2 aA hpar hr
    have hL:L.length=args.length:=by
     have:=T.ll
     rw[e2]at this
     omega
    by_cases hD:aW1 F L args
    ·rw[show gN p f args dir o=([],6)by rw[gN,if_pos h0,if_pos hA,hr];exact if_pos hD]at h
     cases h
    ·refine⟨L,F,u,⟨h1,h2,by omega,by omega,h3.2,h4.2,by omega,hpar,hr,T,hL,hD⟩,?_⟩
     rw[gN,if_pos h0,if_pos hA,hr]
     simp only[if_neg hD,r8]
  ·rw[show gN p f args dir o=([],2)by rw[gN,if_pos h0,if_neg hA]]at h
   cases h
 ·rw[show gN p f args dir o=([],jT p f (vJ 6))by rw[gN,if_neg h0]]at h
  exact absurd h h0
section
variable {p:aF} {f:Int} {args dir L:List Int} {F:dQ} {u sz:Nat} (G:zL p f args dir L F u sz)
include G
theorem zL.bQ9 {i:Nat} (hi:sz<=2 ^ i) {o:Nat} (ho:o<args.length):fM sz (r6 F.code L sz args.length (qN (gC F L) dir sz args.length) args i) F.code (L.getD o 0).toNat=(eJ (eV sz 1) (dir.getD o 0)).set 0 ((gC F L).getD o 0):=by
 obtain⟨hst,hz⟩:=G.it i
 have hr:=G.out ho
 rw[←aUY G.hs.1 ho G.eT G.nd]
 refine a9F (G.reg hst aA) ((aGS G.eT G.nd).get ho).2 λj hj=>?_
 obtain⟨q,hq⟩:=hz o ho j aA
 simp only at hq
 exact⟨q,by omega⟩
end
theorem bKT {d:List Int} (hd:∀ x∈d,InB x):0<=atV d 8/\atV d 8<8:=by
 unfold atV;split <;> omega
@[go_sem] def bXO:List Nat:=[0,1,2,3,4,8,9,10,11,12,14,15,17,18,19,20,21,23,24,25,26,47,49,63,69,76,88,94,109,128,148]
@[go_sem] def b2Y:List Nat:=[4,50,52,54,64,77,89,90,105,124,140]
@[go_sem] def b2Z:Marks:=λid=>match id with|37=>([3,10],(.op 0 (.op 1 (.op 2 (.op 4 (.op 5 (.op 6 (.op 7 (.op 8 (.op 3 (.op 9 (.op 10 .nil))))))))))),[])|_=>([],.nil,[])
@[go_sem] def b0J:List Nat:=[0,1,4,5,6,7,9,10,11,12,13,14,15,16,17,18,19,22,45,47,52,64,73,99]
@[go_sem] def ib5:List Nat:=[53,65]
@[go_sem] def mk5:Marks:=λid=>match id with|21=>([0,4,5],(.op 1 (.op 2 (.op 3 (.op 0 (.op 4 (.op 5 (.op 6 (.op 7 (.op 8 (.op 9 (.op 10 .nil))))))))))),[(0,4)])|_=>([],.nil,[])
@[go_sem] def a9G:List Nat:=[0,1,4,5,6,7,8,9,11,12,13,14,16,17,18,19,20,21,22,23,24,25,26,29,60,62,113,117,139,142,158,177,181,201]
@[go_sem] def ib6:List Nat:=[147]
@[go_sem] def mk6:Marks:=λid=>match id with|18=>([2,6,7,11,12],(.op 0 (.op 1 (.op 3 (.op 4 (.op 5 (.op 8 (.op 9 (.op 10 (.op 6 (.op 11 (.op 2 (.op 7 (.op 12 (.op 13 .nil)))))))))))))),[(6,2),(11,2),(11,7)])|34=>([2,5,9,11],(.op 0 (.op 1 (.op 3 (.op 6 (.op 7 (.op 8 (.op 10 (.op 2 (.op 4 (.op 5 (.op 9 (.op 11 (.op 12 .nil))))))))))))),[(2,11),(5,11)])|_=>([],.nil,[])
set_option maxHeartbeats 4000000 in
theorem bKU {c:List Int} (hc:∀ x∈c,InB x) {d:List Int} (hd:∀ x∈d,InB x):fR Tryz.prog 6 [.sl 1 (c.map λn=>[.int .u8 n]) false,.sl 1 (d.map λn=>[.int .u8 n]) false] (.bool true):=by
 have hb:=bKC c d
 have hat:=bQ3 d hd
 obtain⟨o,ho1,ho2⟩:∃ o:Nat,1+atV d 8=o/\(1<=o/\o<=8):=by have:=bKT hd;exact⟨(1+atV d 8).toNat,by omega,by omega⟩
 refine gA 202 a9G ib6 mk6 Tryz.func6 λh=>?_
 simp -dsimp -implicitDefEqProofs only[go_sem,↓reduceIte,Tryz.f6]
 first|refine aH.mk (hb) ?_|refine aG.mk (hb) ?_|refine aH.bH (hb) ?_|refine aG.mk (bB.dI (hb)) ?_
 simp -dsimp -implicitDefEqProofs only[go_sem,↓reduceIte,Tryz.f6]
 intro hlong
 have hlc:c.length<=4096:=by omega
 refine aH.fX (bKK hc hlc) ?_
 rintro r_ h' ⟨p,f,args,dir,⟨hps,hal,hdl⟩,rfl,rfl⟩
 have hsp:=aH5 p hps f args dir o aA aA
 have him:=aUP p hps f args dir o aA aA
 rw[aF.aY]at hsp him ⊢
 simp -dsimp -implicitDefEqProofs only[go_sem,↓reduceIte,Tryz.f6]
 intro n5 q5
 rw[aL]
 first|refine aH.mk (hat) ?_|refine aG.mk (hat) ?_|refine aH.bH (hat) ?_|refine aG.mk (bB.dI (hat)) ?_
 simp -dsimp -implicitDefEqProofs only[go_sem,↓reduceIte,Tryz.f6,aO]
 rw[ho1,IntWalk.i64_in _ aA]
 first|refine aH.mk (hsp) ?_|refine aG.mk (hsp) ?_|refine aH.bH (hsp) ?_|refine aG.mk (bB.dI (hsp)) ?_
 simp -dsimp -implicitDefEqProofs only[go_sem,↓reduceIte,Tryz.f6,aO]
 first|refine aH.mk (him) ?_|refine aG.mk (him) ?_|refine aH.bH (him) ?_|refine aG.mk (bB.dI (him)) ?_
 simp -dsimp -implicitDefEqProofs only[go_sem,↓reduceIte,Tryz.f6,aO]
 have bKV:∀ Y,h'.le (aT h' n5 Y):=λY=>aB.bM q5 (aB.le_refl _)
 refine⟨λ_=>bKV _,λhz=>?_⟩
 obtain⟨L,F,u,G,hX⟩:=a31 hz
 have hst:=(G.it (yC o)).1
 have hln:=λi (hi:i<args.length)=>G.bQ9 (a9E aA) hi
 rw[hX]
 clear hX hz him hsp hat hb
 generalize r6 F.code L (o+1) args.length (qN (gC F L) dir (o+1) args.length) args (yC o)=X at *
 have hn:=G.hn
 have hvl:(gC F L).length=args.length:=by rw[gC,gX,G.hL]
 have hvn:=G.eT
 have h1s:=aGR G.na
 have nX:fR Tryz.prog 38 [.agg p.c,I f,ints args] (.gK [ints (gC F L),I u,I 0]):=by
  have qP:c7 1 L.length (L.map λr=>fM 1 (args.map λn=>[n]) F.code r.toNat):=⟨by rw[gX],λs hs=>by
   obtain⟨r,hm,rfl⟩:=lZ.1 hs
   have:=G.T.outs r hm
   exact l5 G.T.ins h1s.1.2 (by rw[h1s.1.1]) _ aA⟩
  have:=a3Z G.ok hps f G.fn args G.na aA G.par (G.T.ev 1 _ b6 h1s) (by rw[gX];exact qP) (by rw[gX,G.hL];omega)
  rw[show((L.map λr=>fM 1 (args.map λn=>[n]) F.code r.toNat).map λs=>s.getD 0 0)=gC F L from by
   rw[zZ]
   exact aCA λr hm=>aHM G.ok G.fn G.na G.par G.hre b6 h1s (by have:=G.T.outs r hm;omega)]at this
  exact this
 have hes:=aH7 G.ok hps f G.fn (sz:=o+1) (n:=args.length) aA aA hst.1 G.par (G.T.ev (o+1) X aA hst)
 have hwide:=bKD (n:=args.length) (w:=o+1) hst.1.1 λs hs=>(hst.1.2 s hs).1
 have hcol:=a8V (c:=0) hst.1 aA aA
 rw[show(X.map λs=>s.getD 0 0)=args from by
  refine tI (by rw[gX,hst.1.1]) λj h1 h2=>?_
  have:=hst.2 j h2
  rw[e8 (l:=X),fC (by rw[hst.1.1];exact h2),e8 (l:=args),fC h2]at this
  rw[tJ];exact this]at hcol
 have hsame:=a87 args aA
 have hun:fR Tryz.prog 32 [I (o+1:Nat),I 1] (ints (eV (o+1) 1)):=bKE (o+1) 1 aA aA
 rw[aF.aY]at nX hes
 generalize hR:(L.map λr=>fM (o+1) X F.code r.toNat)=R at hes
 have hRl:R.length=args.length:=by rw[←hR,gX,G.hL]
 have hRi:∀ i,i<args.length->R[i]?=some ((eJ (eV (o+1) 1) (dir.getD i 0)).set 0 ((gC F L).getD i 0)):=λi hi=>by
  have hi':i<L.length:=by rw[G.hL];exact hi
  rw[←hln i hi,←hR,sO,fC hi',e8 (l:=L),fC hi'];rfl
 have hnd:=G.nd
 have hld:=G.ld
 have bXR:=oJ (o+1) 1
 have hul:=uN (o+1) 1
 first|refine aH.mk (nX) ?_|refine aG.mk (nX) ?_|refine aH.bH (nX) ?_|refine aG.mk (bB.dI (nX)) ?_
 simp -dsimp -implicitDefEqProofs only[go_sem,↓reduceIte,Tryz.f6,aO]
 first|refine aH.mk (hes) ?_|refine aG.mk (hes) ?_|refine aH.bH (hes) ?_|refine aG.mk (bB.dI (hes)) ?_
 simp -dsimp -implicitDefEqProofs only[go_sem,↓reduceIte,Tryz.f6,aO]
 have hw1:IntKind.i64.wrap ((o:Int)+1)=((o+1:Nat):Int):=by rw[IntWalk.i64_in _ aA];omega
 intro hbig
 clear hbig
 rw[hw1]
 first|refine aH.mk (hwide) ?_|refine aG.mk (hwide) ?_|refine aH.bH (hwide) ?_|refine aG.mk (bB.dI (hwide)) ?_
 simp -dsimp -implicitDefEqProofs only[go_sem,↓reduceIte,Tryz.f6,aO]
 refine λ_ _=>⟨λ_ _ _=>⟨λ_=>?_,λq=>absurd hvl q⟩,λq=>absurd hRl q⟩
 first|refine aH.mk (hcol) ?_|refine aG.mk (hcol) ?_|refine aH.bH (hcol) ?_|refine aG.mk (bB.dI (hcol)) ?_
 simp -dsimp -implicitDefEqProofs only[go_sem,↓reduceIte,Tryz.f6,aO]
 first|refine aH.mk (hsame) ?_|refine aG.mk (hsame) ?_|refine aH.bH (hsame) ?_|refine aG.mk (bB.dI (hsame)) ?_
 simp -dsimp -implicitDefEqProofs only[go_sem,↓reduceIte,Tryz.f6,aO]
 refine cM a9G ib6 mk6 (λi:Nat=>[(5,.op n5 1 0 0),(6,I f),(7,ints args),(8,ints dir),(9,I o),(12,bL X),(14,ints (gC F L)),(17,bL R),(19,I i)]) (λ_=>aT h' n5 (.row 1 [[.v (gT 3 aV.c p.aK)]])) (λi=>i<=args.length) (λi=>args.length-i) 0 ⟨by simp[cR,bZ],aB.le_refl _,eM _⟩ ?_
 intro i hi
 rcases bT i args.length with hlt|hge
 ·have hsc:=bD4 (eV (o+1) 1) (dir.getD i 0) bXR (hnd.get i) (by rw[hul];omega)
  have hscl:=qV (eV (o+1) 1) (dir.getD i 0)
  have hbe:=a1S (eJ (eV (o+1) 1) (dir.getD i 0)) ((gC F L).getD i 0) (by rw[hscl,hul];omega)
  have hsm:=a87 ((eJ (eV (o+1) 1) (dir.getD i 0)).set 0 ((gC F L).getD i 0)) (by rw[p7,hscl,hul];omega)
  have ed:dir[i]?=some (dir.getD i 0):=bW aA
  have ev:(gC F L)[i]?=some ((gC F L).getD i 0):=bW aA
  have eR:=hRi i hlt
  simp -dsimp -implicitDefEqProofs only[go_sem,↓reduceIte,Tryz.f6,aO,hlt,hRl]
  refine λ_=>⟨by omega,by omega,?_⟩
  simp -dsimp -implicitDefEqProofs only[go_sem,↓reduceIte,Tryz.f6,aO,ed,ev]
  rw[hw1]
  first|refine aH.mk (hun) ?_|refine aG.mk (hun) ?_|refine aH.bH (hun) ?_|refine aG.mk (bB.dI (hun)) ?_
  simp -dsimp -implicitDefEqProofs only[go_sem,↓reduceIte,Tryz.f6,aO]
  first|refine aH.mk (hsc) ?_|refine aG.mk (hsc) ?_|refine aH.bH (hsc) ?_|refine aG.mk (bB.dI (hsc)) ?_
  simp -dsimp -implicitDefEqProofs only[go_sem,↓reduceIte,Tryz.f6,aO]
  first|refine aH.mk (hbe) ?_|refine aG.mk (hbe) ?_|refine aH.bH (hbe) ?_|refine aG.mk (bB.dI (hbe)) ?_
  simp -dsimp -implicitDefEqProofs only[go_sem,↓reduceIte,Tryz.f6,aO]
  refine⟨by omega,?_⟩
  simp -dsimp -implicitDefEqProofs only[go_sem,↓reduceIte,Tryz.f6,aO,eR]
  first|refine aH.mk (hsm) ?_|refine aG.mk (hsm) ?_|refine aH.bH (hsm) ?_|refine aG.mk (bB.dI (hsm)) ?_
  simp -dsimp -implicitDefEqProofs only[go_sem,↓reduceIte,Tryz.f6,aO]
  exact⟨i+1,IntWalk.i64_in _ aA,hlt,by omega⟩
 ·obtain rfl:i=args.length:=aCH hi hge
  simp -dsimp -implicitDefEqProofs only[go_sem,↓reduceIte,Tryz.f6,aO,bV,cY,hRl]
  refine λ_ _=>⟨λ_=>bKV _,λhone=>⟨by decide,by decide,?_⟩⟩
  obtain⟨a,rfl⟩:∃ a,args=[a]:=by
   match args,hn.1,hone with
   | [a],_,_=>exact⟨a,rfl⟩
   | _::_::_,_,q=>exact absurd (show(1:Int)<((_::_::_:List Int).length:Nat)by simp only[aB9];omega) q
  obtain⟨e,rfl⟩:∃ e,dir=[e]:=by
   match dir,hld with
   | [e],_=>exact⟨e,rfl⟩
  obtain⟨x,rfl⟩:∃ x,X=[x]:=by
   match X,hst.1.1 with
   | [x],_=>exact⟨x,rfl⟩
  obtain⟨r,rfl⟩:∃ r,L=[r]:=by
   match L,G.hL with
   | [r],_=>exact⟨r,rfl⟩
  have htay:fR Tryz.prog 43 [.agg p.c,I f,ints [a],ints [1],I o] (.gK [bL [fM (o+1) [jX a (o+1)] F.code r.toNat],I 0]):=by
   have:=bD7 G.ok hps f G.fn a (G.na a (.head _)) (sz:=o+1) aA (λH hH=>G.par H hH) (G.T.ev (o+1) [jX a (o+1)] aA (G.aXA aA))
   rw[show((o+1:Nat):Int)-1=o by omega]at this
   exact this
  have hr:=G.out (o:=0) aX
  have hts:aW (o+1) (fM (o+1) [jX a (o+1)] F.code r.toNat):=G.reg (G.aXA aA) (k:=r.toNat) (by
   have h1:0<=r:=hr.1
   have h2:r<(F.code.length:Nat):=hr.2
   omega)
  have ht1:¬(fM (o+1) [jX a (o+1)] F.code r.toNat).getD 1 0=0:=G.a1Y aA
  have hpo:=λk hk=>G.a9A aA hst (x:=x) (λj hj=>by
   rw[aUY aA aX G.eT G.nd]
   have:=hln 0 aX
   exact Cg.of_eq (congrArg (λl=>sF l j) this)) k hk
  have hpo:∀ k:Nat,1<=k/\k<o+1->x.getD k 0=(rT ((fM (o+1) [jX a (o+1)] F.code r.toNat).set 0 0) (o+1-2)).getD k 0*e ^ k%1000003:=hpo
  have hxl:x.length=o+1:=(hst.1.2 x (.head _)).1
  have hen:iE e:=G.nd e (.head _)
  rw[aF.aY]at htay
  generalize fM (o+1) [jX a (o+1)] F.code r.toNat=T at *
  have hbt:=a1S T 0 (by rw[hts.1];omega)
  have hA:=aUX hts gZ
  have hA0:(T.set 0 0).getD 0 0=0:=by rw[e8,nH (by rw[hts.1];omega)];rfl
  have hA1:¬(T.set 0 0).getD 1 0=0:=by rw[e8,mG b6,←e8];exact ht1
  have hrev:fR Tryz.prog 44 [ints (T.set 0 0)] (.gK [ints (rT (T.set 0 0) (o+1-2)),I 0]):=by
   have:=a9D (T.set 0 0) (by rw[hA.1];omega) hA.2 hA0 hA1
   rw[hA.1]at this
   exact QS.bAY this (λy hy=>OS.pX (c:=λn=>[I n]) (λ_ _ q=>aC6 q) hy) (aA7 [] [I 0])
  have hvs:=aFN (a:=T.set 0 0) hA.1 (o+1-2)
  generalize rT (T.set 0 0) (o+1-2)=v at *
  refine aH.mk (fR.sub (.cons (.refl _) (.cons (.refl _) (.cons (.refl _) (.cons (Sub.loose 1 [[I 1]] true) (.cons (.refl _) .nil))))) htay) ?_
  simp -dsimp -implicitDefEqProofs only[go_sem,↓reduceIte,Tryz.f6,aO]
  refine⟨λq=>absurd rfl q,λ_=>⟨by decide,?_⟩⟩
  simp -dsimp -implicitDefEqProofs only[go_sem,↓reduceIte,Tryz.f6,aO,aMA,aI9]
  first|refine aH.mk (hbt) ?_|refine aG.mk (hbt) ?_|refine aH.bH (hbt) ?_|refine aG.mk (bB.dI (hbt)) ?_
  simp -dsimp -implicitDefEqProofs only[go_sem,↓reduceIte,Tryz.f6,aO]
  first|refine aH.mk (hrev) ?_|refine aG.mk (hrev) ?_|refine aH.bH (hrev) ?_|refine aG.mk (bB.dI (hrev)) ?_
  simp -dsimp -implicitDefEqProofs only[go_sem,↓reduceIte,Tryz.f6,aO]
  refine λ_=>⟨by decide,?_⟩
  simp -dsimp -implicitDefEqProofs only[go_sem,↓reduceIte,Tryz.f6,aO,aMA,aI9]
  refine λ_=>⟨λq=>absurd (hvs.1.trans hxl.symm) q,λ_=>?_⟩
  refine cM a9G ib6 mk6 (λi:Nat=>[(8,ints [e]),(12,bL [x]),(23,ints v),(25,I (e ^ i%1000003)),(26,I (i+1:Nat))]) (λ_=>aT h' n5 (.row 1 [[.v (gT 3 aV.c p.aK)]])) (λi=>i<=o) (λi=>o-i) 0 ⟨by simp[cR,bZ],aB.le_refl _,eM _⟩ ?_
  intro i hi
  rcases bT i o with hlt|hge
  ·have hlv:((i+1:Nat):Int)<v.length:=by rw[hvs.1];omega
   have ex:x[i+1]?=some (x.getD (i+1) 0):=bW (l:=x) (i:=i+1) aA
   have ev:v[i+1]?=some (v.getD (i+1) 0):=bW (l:=v) (i:=i+1) (by rw[hvs.1];omega)
   have ht1:=bE (e ^ i%1000003) e (dY _) hen
   have ht2:=bE (v.getD (i+1) 0) (e ^ (i+1)%1000003) (hvs.2.get _) (dY _)
   have hp1:(e ^ i%1000003)*e%1000003=e ^ (i+1)%1000003:=by rw[aJI,aCF,aXC _ (Int.dvd_refl _),←aCF]
   have hp2:x.getD (i+1) 0=v.getD (i+1) 0*(e ^ (i+1)%1000003)%1000003:=by
    rw[hpo (i+1) aA,aCF (v.getD (i+1) 0) (e ^ (i+1)%1000003),aXC _ (Int.dvd_refl _),←aCF]
   simp -dsimp -implicitDefEqProofs only[go_sem,↓reduceIte,Tryz.f6,aO,hlv,aMA,aI9]
   refine λ_=>⟨by decide,?_⟩
   first|refine aH.mk (ht1) ?_|refine aG.mk (ht1) ?_|refine aH.bH (ht1) ?_|refine aG.mk (bB.dI (ht1)) ?_
   simp -dsimp -implicitDefEqProofs only[go_sem,↓reduceIte,Tryz.f6,aO,aMA,aI9]
   rw[hp1]
   refine⟨by decide,by rw[hvs.1];omega,by omega,?_⟩
   simp -dsimp -implicitDefEqProofs only[go_sem,↓reduceIte,Tryz.f6,aO,ex,ev]
   first|refine aH.mk (ht2) ?_|refine aG.mk (ht2) ?_|refine aH.bH (ht2) ?_|refine aG.mk (bB.dI (ht2)) ?_
   simp -dsimp -implicitDefEqProofs only[go_sem,↓reduceIte,Tryz.f6,aO]
   exact⟨λq=>absurd hp2 q,λ_=>⟨i+1,⟨rfl,by rw[IntWalk.i64_in _ aA];omega⟩,hlt,by omega⟩⟩
  ·have hlv:¬((i+1:Nat):Int)<v.length:=by rw[hvs.1];omega
   simp -dsimp -implicitDefEqProofs only[go_sem,↓reduceIte,Tryz.f6,aO,hlv]
   exact λ_=>bKV _
theorem a9H {P:Program} {n:Nat} {t:TypeId} {xs:List aE} (hu:P.underlying t=some (.int .u8)) (h:Dat P n t xs):∃ i:Int,xs=[.int .u8 i]/\InB i:=by
 match n,h with
 |0,h=>exact h.elim
 |n+1,h =>
  simp only[Dat,hu]at h
  obtain⟨i,rfl,hw⟩:=h
  refine⟨i,rfl,?_⟩
  have h1:IntKind.min .u8=0:=by decide
  have h2:IntKind.max .u8=255:=by decide
  simp[Lit.wf,IntKind.has,h1,h2]at hw
  unfold InB
  omega
theorem a12 {α:Type} {c:α->List aE} {w:α->Prop}:∀ {es:List (List aE)},(∀ y∈es,∃ x,y=c x/\w x)->∃ l:List α,es=l.map c/\∀ x∈l,w x
 | [],_=>⟨[],rfl,by simp⟩
 |e::es,h=>by
  obtain⟨x,rfl,hx⟩:=h _ aAL
  obtain⟨l,rfl,hl⟩:=a12 λy hy=>h y (wN _ hy)
  refine⟨x::l,rfl,λy hy=>?_⟩
  rcases pP.1 hy with rfl|hy
  ·exact hx
  ·exact hl y hy
theorem aOG {P:Program} {n sz:Nat} {t e:TypeId} {α:Type} {c:α->List aE} {w:α->Prop} {xs:List aE} (hu:P.underlying t=some (.slice e)) (hc:P.cellsOf e=sz) (h:Dat P n t xs)
  (hx:∀ m y,m<n->Dat P m e y->∃ x,y=c x/\w x):∃ l:List α,xs=[gT sz c l]/\∀ x∈l,w x:=by
 match n,h with
 |0,h=>exact h.elim
 |n+1,h =>
  simp only[Dat,hu]at h
  obtain⟨es,rfl,hes⟩:=h
  obtain⟨l,rfl,hl⟩:=a12 λy hy=>hx n y aA (hes y hy)
  exact⟨l,by rw[hc],hl⟩
theorem a9I:Tryz.prog.cellsOf 5=1:=by kernel_rfl
def bRA:List TypeId:=[2,5,9,22,24,25,27,45,138,140,219]
theorem bEB:a2K Tryz.prog bRA=true:=by kernel_rfl
end Go.Hl

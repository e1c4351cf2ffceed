/-
  Contracts of functions and laws of the layer over the walk.
-/
import Derived.Test.YtoomflalicffnaaGreatVvF
import Derived.Test.YtoomflalicffnaaGreatVvE
import Derived.Test.YtoomflalicffnaaGreatVvD
namespace Go.Hl
open Go.Proofs
set_option linter.unusedVariables false
set_option linter.unusedSimpArgs false
@[go_sem] def bUQ:List Nat:=[0,1,2,6,7,8,9,23]
@[go_sem] def bZT:List Nat:=[19,35]
@[go_sem] def bXU:List Nat:=[0,1,2,3,4,5,10,11,12,13,14,15,16,17,18,19,36,38,49,59,74,91]
@[go_sem] def ib8:List Nat:=[5,39,50,55,70]
@[go_sem] def mk8:Marks:=λid=>match id with|22=>([3,18],(.op 0 (.op 1 (.op 2 (.op 4 (.op 5 (.op 6 (.op 7 (.op 8 (.op 9 (.op 10 (.op 11 (.op 12 (.op 13 (.op 14 (.op 15 (.op 16 (.op 3 (.op 17 (.op 18 .nil))))))))))))))))))),[])|_=>([],.nil,[])
theorem a6G {n:Nat} {N:Nat->Nat->Int} (hN:∀ i,i<n->∀ k,k<n->iW (N i k)) (r:Nat->Int):(aS7 n N=0↔sO gC n (qQ n N r) n=none):=by
 have h1:=aO4 (F:=gC) (G:=gC) (R:=λa b=>a=b) (λx y q=>by rw[q]) (λx y d e q1 q2 _=>by rw[q1,q2]) (λx y f g u v q1 q2 q3=>by rw[q1,q2,q3]) (n:=n) (w:=n) (bX _) (M:=qQ n N r) (N:=N) (λi hi k hk=>by rw[qQ,if_pos hk]) n (bX _)
 rcases bD4 hN (N:=N) (λ_ _ _ _=>rfl) n (bX _)with⟨a,b⟩|⟨A,d,B,a,b,c,_⟩
 ·rw[aS7,a]
  rcases h1 with⟨q,_⟩|⟨_,_,_,q,_⟩
  ·exact⟨λ_=>q,λ_=>rfl⟩
  ·rw[b]at q;cases q
 ·rw[aS7,a]
  rcases h1 with⟨_,q⟩|⟨_,_,q,_,_⟩
  ·rw[b]at q;cases q
  ·rw[q];exact⟨λz=>absurd z c.2,λz=>by cases z⟩
@[go_sem] def bUR:List Nat:=[0,1,2,3,6,7,8,9,10,11,12,13,14,15,16,21,38,51,60]
@[go_sem] def bZU:List Nat:=[3,22,39,52,56,73]
@[go_sem] def bZV:Marks:=λid=>match id with|18=>([11],(.op 0 (.op 1 (.op 2 (.op 3 (.op 4 (.op 5 (.op 6 (.op 7 (.op 8 (.op 9 (.op 10 (.op 11 (.op 12 .nil))))))))))))),[])|_=>([],.nil,[])
theorem aFK {code:List bH} {inp:Nat} (hins:∀ i c,code[i]?=some c->bZ inp i c) {outs:List Int} (ho:∀ r∈outs,0<=r/\r<code.length) {o:Nat} (hol:o<outs.length) {rg:List (List Int)} (hrg:dH 2 code.length rg) {args:List Int} (na:dW args) (hal:args.length=inp) (hv:∀ i k,k<code.length->(lR 2 (dX args (eQ inp i)) code k).getD 0 0=nK rg k) {i:Nat} (hi:i<inp) :
  nK (byK code (mG code rg (pA outs (eQ outs.length o) (List.replicate code.length (u3 2)) outs.length) code.length 0) 2 inp code.length) i=(lR 2 (dX args (eQ inp i)) code (outs.getD o 0).toNat).getD 1 0:=by
 have hser:=oC na (nS inp i)
 have hll:=lI (args:=args) (dir:=eQ inp i) (by rw[tR,hal])
 have hwn:=nS outs.length o
 have hA0:=r7 (sz:=2) bO ho hwn outs.length (bX _)
 have hD:∀ k,k<code.length->bJ 2 (lR 2 (dX args (eQ inp i)) code k):=λk hk=>s9 hins hser (by rw[hll,hal]) k hk
 have hps:=aYZ ho hwn (d:=λk=>(lR 2 (dX args (eQ inp i)) code k).getD 1 0) outs.length (bX _)
 have h1:=aMP hins hrg hA0 hD (hv i) (λy c ec h2=>by rw[aOR ec h2];rfl) (λy c ec h3=>aUS ec (hins y c ec) aA aA) code.length (bX _)
 rw[sU,mG]at h1
 generalize pA outs (eQ outs.length o) (List.replicate code.length (u3 2)) outs.length=A0 at *
 have hA:=pB (sz:=2) ⟨by decide,by decide⟩ hins hrg hA0 code.length 0 rfl
 generalize mG code rg A0 code.length 0=A at *
 have h2:=a5O hins hA hi (d:=λk=>(lR 2 (dX args (eQ inp i)) code k).getD 1 0) (λk c ec h1=>by
  have hc:=hins k c ec
  have hn:0<=c.bB/\c.bB<inp:=by unfold bZ at hc;omega
  rw[aUR ec h1,aA1 aA (by rw[tR];omega)]
  show(eQ inp i).getD c.bB.toNat 0=_
  split
  ·rename_i e
   rw[eQ,gG,e,qT (by rw[aGI];exact hi)];rfl
  ·rename_i e
   exact aFG (iK e)) code.length (bX _)
 have hB:=vR hins hA code.length (bX _)
 have hone:∀ m,m<=outs.length->pZ (λk=>(eQ outs.length o).getD k 0) (λk=>(lR 2 (dX args (eQ inp i)) code (outs.getD k 0).toNat).getD 1 0) m=if o<m then(lR 2 (dX args (eQ inp i)) code (outs.getD o 0).toNat).getD 1 0 else 0:=λm=>by
  induction m with
  |zero=>intro _;rfl
  |succ m ih =>
   intro hm
   rw[pZ,ih aA]
   by_cases e:m=o
   ·subst e
    rw[if_neg aA,if_pos aA,eQ,gG (l:=List.set _ _ _),qT (by rw[aGI];exact hm)]
    simp
   ·rw[aFG (iK e)]
    by_cases e2:o<m
    ·rw[if_pos e2,if_pos aA];omega
    ·rw[if_neg e2,if_neg aA];omega
 rw[hone _ (bX _),if_pos hol]at hps
 have hr0:=ho (outs.getD o 0) a2S
 exact(h2.trans (h1.symm.trans hps)).num ((hB.get hi).2.2.get 0) ((hD _ aA).2.get 1)
theorem bH2 (f g:Nat->Int):eZ f g 0=f 0*g 0:=rfl
theorem bUS (f g:Nat->Int):eZ f g 1=f 0*g 1+f 1*g 0:=rfl
theorem a6H:∀ n,dT (λ_=>0) n=0
 |0=>rfl
 |n+1=>by rw[dT,a6H n];rfl
theorem bH3 {n:Nat} {M A:Nat->Nat->List Int} (hok:okM (bJ 2) n M) (e:sO p0 n M n=some A) (h0:∀ i,i<n->(M i n).getD 0 0=0) {i:Nat} (hi:i<n) :
  Cg (dT (λk=>(M i k).getD 0 0*(A k n).getD 1 0) n) ((M i n).getD 1 0):=by
 let M2:Nat->Nat->List Int:=λi k=>if k=n then cS ((M i n).getD 1 0) 2 else M i k
 have bN9:okM (bJ 2) n M2:=λi hi k hk=>by
  show bJ 2 (if k=n then _ else _)
  split
  ·exact fS ((hok i hi n (bX _)).2.get 1)
  ·exact hok i hi k hk
 have hN:∀ i,i<n->∀ k,k<n->(M i k).getD 0 0=(λi k=>(M i k).getD 0 0) i k:=λ_ _ _ _=>rfl
 have hN2:∀ i,i<n->∀ k,k<n->(M2 i k).getD 0 0=(λi k=>(M i k).getD 0 0) i k:=λi _ k hk=>by
  show(if k=n then _ else M i k).getD 0 0=_
  rw[if_neg aA]
 have g1:=aAM (sz:=2) (w:=n) bO (bX _) (M:=M) (λi hi k hk=>hok i hi k aA) hN
 have g2:=aAM (sz:=2) (w:=n) bO (bX _) (M:=M2) (λi hi k hk=>bN9 i hi k aA) hN2
 cases e2:sO p0 n M2 n with
 |none=>rw[g2.1 e2,e]at g1;exact absurd (g1.2 rfl) dG
 |some A2 =>
  have s2:=(aY7 (aEB 2) bN9 e2 λk=>sF (A2 k n)).2 λ_ _=>p6.refl _
  have s1:=(aY7 (aEB 2) hok e λk j=>if j=1 then sF (A2 k n) 0 else 0).1 λr hr j hj=>?_
  ·have h3:=s2 i hi 0 bO
   have h4:sF (M2 i n) 0=(M i n).getD 1 0:=by show(if n=n then cS _ 2 else _).getD 0 0=_;rw[if_pos rfl];rfl
   rw[h4]at h3
   refine(aD6 n λk hk=>?_).trans h3
   have h5:=s1 k hk 1 bO
   rw[bH2]
   show Cg _ ((if k=n then _ else M i k).getD 0 0*_)
   rw[if_neg aA]
   exact(Cg.refl _).mul h5.symm
  ·have hj':j=0∨j=1:=by omega
   rcases hj' with rfl|rfl
   ·show Cg (dT (λk=>eZ _ _ 0) n) ((M r n).getD 0 0)
    rw[h0 r hr]
    refine Cg.of_eq ?_
    rw[lO (G:=λ_=>0) n λk _=>by rw[bH2];simp]
    exact a6H n
   ·show Cg (dT (λk=>eZ _ _ 1) n) ((M r n).getD 1 0)
    have h3:=s2 r hr 0 bO
    have h4:sF (M2 r n) 0=(M r n).getD 1 0:=by show(if n=n then cS _ 2 else _).getD 0 0=_;rw[if_pos rfl];rfl
    rw[h4]at h3
    refine(Cg.of_eq (lO n λk hk=>?_)).trans h3
    rw[bUS,bH2]
    show _=(if k=n then _ else M r k).getD 0 0*_
    have hk':¬k=n:=by omega
    rw[if_neg hk']
    simp[sF]
theorem aTC (F:Nat->Int):∀ n,dT (λk=>-(F k)) n=-(dT F n)
 |0=>rfl
 |n+1=>by rw[dT,dT,aTC F n];omega
theorem aVI {code:List bH} {n:Nat} (hins:∀ i c,code[i]?=some c->bZ ((n+1:Nat):Int) i c) {L:List Int} (ho:∀ r∈L,0<=r/\r<code.length) (hL:L.length=n) {args:List Int} (na:dW args) (hal:args.length=n+1) {X rg:List (List Int)} (hX:X=dX args (eQ (n+1) 0)) (hrgX:dH 2 code.length (iD 2 X code code.length)) (hrg:dH 2 code.length rg)
  (hv1:∀ i k,k<code.length->(lR 2 (dX args (eQ (n+1) i)) code k).getD 0 0=nK rg k) (hv2:∀ i k,k<code.length->(lR 2 (dX args (eQ (n+1) i)) code k).getD 0 0=nK (iD 2 X code code.length) k)
  (h0:∀ o,o<n->(lR 2 X code (L.getD o 0).toNat).getD 0 0=0) {M A:Nat->Nat->List Int} (hM:∀ i,i<n->∀ k,k<n->M i k=(uQ code L (iD 2 X code code.length) 2 (n+1) i).getD (k+1) []) (hn:∀ i,i<n->M i n=lR 2 X code (L.getD i 0).toNat) (hok:okM (bJ 2) n M) (e:sO p0 n M n=some A) {o:Nat} (hoo:o<n) :
  Cg (nK (uQ code L rg 2 (n+1) o) 0+dT (λk=>nK (uQ code L rg 2 (n+1) o) (k+1)*-((A k n).getD 1 0)) n) 0:=by
 have r1:∀ j,j<n+1->nK (uQ code L rg 2 (n+1) o) j=(lR 2 (dX args (eQ (n+1) j)) code (L.getD o 0).toNat).getD 1 0:=λj hj=>aFK hins ho aA hrg na hal hv1 hj
 have r2:∀ j,j<n+1->nK (uQ code L (iD 2 X code code.length) 2 (n+1) o) j=(lR 2 (dX args (eQ (n+1) j)) code (L.getD o 0).toNat).getD 1 0:=λj hj=>aFK hins ho aA hrgX na hal hv2 hj
 have g:=bH3 hok e (λi hi=>by rw[hn i hi];exact h0 i hi) hoo
 rw[hn o hoo,hX,←r2 0 aA,r2 0 aA,←r1 0 aA]at g
 have h2:dT (λk=>nK (uQ code L rg 2 (n+1) o) (k+1)*-((A k n).getD 1 0)) n=-(dT (λk=>(M o k).getD 0 0*(A k n).getD 1 0) n):=by
  rw[←aTC]
  refine lO n λk hk=>?_
  have h3:(M o k).getD 0 0=nK (uQ code L (iD 2 X code code.length) 2 (n+1) o) (k+1):=by rw[hM o hoo k hk];rfl
  rw[h3,r2 _ aA,r1 _ aA,Int.mul_neg]
 rw[h2]
 exact((Cg.refl _).add (aAJ g)).trans (Cg.of_eq aA)
theorem aZH:∀ l:List Int,List.zipWith (λa d=>[a,d]) l (List.replicate l.length 0)=cJ l 2
 | []=>rfl
 |x::l=>by rw[tT,aGH,List.zipWith_cons_cons,aZH l];rfl
theorem a6I (start:List Int):tS 2::cJ start 2=dX (0::start) (eQ (start.length+1) 0):=by
 show _=List.zipWith _ (0::start) ((List.replicate (start.length+1) 0).set 0 1)
 rw[aGH,aV0,List.zipWith_cons_cons,aZH];rfl
theorem iI (start:List Int) (sz:Nat) (h:1<=sz):hdY (cJ start sz)=0::start:=by
 rw[hdY,cJ,yS]
 congr 1
 conv=>rhs;rw[←List.map_id start]
 refine zE λx _=>?_
 show(cS x sz).getD 0 0=x
 rw[cS,gG,qT (by rw[aGI];exact h)];rfl
theorem aKG {p:aG} (hp:p.ok) {f:Int} (hf:0<=f/\f<p.aK.length) {args:List Int} (na:dW args) (hl:∀ G,p.aK[f.toNat]?=some G->(args.length:Int)=G.aW) {L:List Int} {F:dO} {u:Nat} (hX:oE p f args=.ok ((L,F),u)) {sz:Nat} (hsz:1<=sz) {X:List (List Int)} (h:St args sz X) {k:Nat} (hk:k<F.code.length):(lR sz X F.code k).getD 0 0=F.fR.getD k 0:=by
 obtain⟨q1,q2,q3,q4⟩:=(aHE hp f hf args na hl).1 _ _ hX
 have hsim:a47 args.length F λ_=>True:=⟨q1.ins,λ_ _ _ _=>⟨λ_=>⟨trivial,trivial⟩,λ_=>trivial⟩,λ_ _=>trivial,λ_ _ _ _=>trivial⟩
 have hcl:=q1.len
 exact(aMK hp hsz hf na hl hX hsim h.1.2 h.1.1 λi hi _=>h.2 i hi).2.1 k (by simp only at hcl;omega) trivial
theorem aPF {args:List Int} (na:dW args) (i:Nat):St args 2 (dX args (eQ args.length i)):=by
 have hll:=lI (args:=args) (dir:=eQ args.length i) (tR _ _)
 exact⟨⟨hll,oC na (nS _ _)⟩,λk hk=>by rw[aA1 hk (by rw[tR];exact hk)];rfl⟩
theorem a1S {p:aG} {f:Int} {start:List Int} (G:rR p f (cJ start 2) (cJ start 2).length 2) {L:List Int} {F:dO} {u:Nat} (hr:oE p f (0::start)=.ok ((L,F),u)) (h0:∀ o,o<start.length->F.fR.getD (L.getD o 0).toNat 0=0) {A:Nat->Nat->List Int} (e:sO p0 start.length (mN L F 2 (cJ start 2)) start.length=some A) {X':List (List Int)} (hX':St (0::start) 2 X') {o:Nat} (hoo:o<start.length) :
  Cg (nK (uQ F.code L (iD 2 X' F.code F.code.length) 2 (start.length+1) o) 0+dT (λk=>nK (uQ F.code L (iD 2 X' F.code F.code.length) 2 (start.length+1) o) (k+1)*-((A k start.length).getD 1 0)) start.length) 0:=by
 have hy:=iI start 2 bO
 have hel:(cJ start 2).length=start.length:=by simp[cJ]
 have hr':oE p f (hdY (cJ start 2))=.ok ((L,F),u):=by rw[hy];exact hr
 obtain⟨T,hL⟩:=G.tape hr'
 obtain⟨s1,s2,s3⟩:=G.sys hr'
 have na:dW (0::start):=hy▸G.ns
 have hpar:∀ H,p.aK[f.toNat]?=some H->((0::start).length:Int)=H.aW:=hy▸G.par
 have hst:St (0::start) 2 (tS 2::cJ start 2):=hy▸G.st
 rw[hel]at s1 s2 s3 hL
 have hins:=T.ins
 rw[hy]at hins
 have hhd:∀ Y,St (0::start) 2 Y->∀ k,k<F.code.length->(lR 2 Y F.code k).getD 0 0=F.fR.getD k 0:=λY hY k hk=>aKG G.ok G.fn na hpar hr bO hY hk
 have hln:∀ i,St (0::start) 2 (dX (0::start) (eQ (start.length+1) i)):=λi=>aPF na i
 have hab:∀ i,i<start.length->(bN L F 2 (cJ start 2)).getD i []=lR 2 (tS 2::cJ start 2) F.code (L.getD i 0).toNat:=λi hi=>by
  rw[bN,gG,qR,gG (l:=L),eY (show i<L.length by omega)];rfl
 have hrg:∀ Y,St (0::start) 2 Y->dH 2 F.code.length (iD 2 Y F.code F.code.length):=λY hY=>uR hins hY.1
 refine aVI (X:=tS 2::cJ start 2) hins T.outs hL na dG (a6I start) (hrg _ hst) (hrg _ hX') (λi k hk=>by rw[hhd _ (hln i) k hk,←hhd _ hX' k hk];rfl) (λi k hk=>by rw[hhd _ (hln i) k hk,←hhd _ hst k hk];rfl) (λo ho=>?_) (M:=mN L F 2 (cJ start 2)) (λi hi k hk=>?_) (λi hi=>?_) (λi hi k hk=>?_) e hoo
 ·have hm:L.getD o 0∈L:=by rw[gG,eY aA];exact kM _
  have:=T.outs _ hm
  rw[hhd _ hst _ aA];exact h0 o ho
 ·rw[mN,qQ,if_pos aA,aN,gG (l:=List.map _ _),qR,tC,qR,al9 aA]
  simp only[aBT,aEO,hel]
  rw[gG,aHW,←gG,Nat.add_comm 1 k]
 ·rw[mN,qQ,if_neg aA];exact hab i hi
 ·rw[mN,qQ]
  split
  ·exact((s2 i hi).get aA).2
  ·exact(s3.get hi).2
theorem a6J {R:List Int->List Int->Prop} {f g:Nat->List Int} (h:∀ i,R (f i) (g i)):∀ l:List Nat,eG R (l.map f) (l.map g)
 | []=>trivial
 |i::l=>⟨h i,a6J h l⟩
theorem a6K {code:List bH} {inp:Nat} (hins:∀ i c,code[i]?=some c->bZ inp i c) {L:List Int} (ho:∀ r∈L,0<=r/\r<code.length) {X1 X2:List (List Int)} (h1:dH 1 code.length (iD 1 X1 code code.length)) (h2:dH 2 code.length (iD 2 X2 code code.length))
  (hv:∀ k,k<code.length->(lR 1 X1 code k).getD 0 0=(lR 2 X2 code k).getD 0 0) {o j:Nat} (hol:o<L.length) (hj:j<inp) :
  ((uQ code L (iD 1 X1 code code.length) 1 inp o).getD j []).getD 0 0=((uQ code L (iD 2 X2 code code.length) 2 inp o).getD j []).getD 0 0:=by
 have a1:aSS 1 (uQ code L (iD 1 X1 code code.length) 1 inp o) (uD 1 inp j) inp=_:=aY5 (sz:=1) bO hins ho h1 (a6E inp j) hol
 have a2:aSS 2 (uQ code L (iD 2 X2 code code.length) 2 inp o) (uD 2 inp j) inp=_:=aY5 (sz:=2) bO hins ho h2 (a6E inp j) hol
 rw[a6F (aAN (i:=o) bO hins h1 ho) hj]at a1
 rw[a6F (aAN (i:=o) bO hins h2 ho) hj]at a2
 rw[a1,a2]
 have hr0:=ho (L.getD o 0) a2S
 have hp:=aY9 (R:=pR 1) (sz:=1) (sz':=2) (bT8 bO bO bO) hins (dirs:=uD 1 inp j) (dirs':=uD 2 inp j) (a6J (λi=>by split <;> exact .inr ⟨by decide,by decide,λi hi=>by obtain rfl:i=0:=aA;rfl⟩) _) (rg:=λi=>(iD 1 X1 code code.length).getD i []) (rg':=λi=>(iD 2 X2 code code.length).getD i []) (λk hk=>.inr ⟨by rw[(h1.get hk).2.1];decide,by rw[(h2.get hk).2.1];decide,λi hi=>by obtain rfl:i=0:=aA;exact hv k hk⟩) _ (L.getD o 0).toNat (wN _) aA
 exact hp.get bO
def aTD (p:aG) (f:Int) (start:List Int):Prop:=(start.length:Int)=p.par f-1/\dW start
noncomputable instance (p:aG) (f:Int) (start:List Int):Decidable (aTD p f start):=Classical.propDecidable _
theorem rN {p:aG} {f:Int} {start:List Int} {sz:Nat} (hsz:1<=sz/\sz<=13) (h0:iR p f eqP=0) (h:aTD p f start):rR p f (cJ start sz) (cJ start sz).length sz/\(cJ start sz).length=start.length:=by
 have hel:(cJ start sz).length=start.length:=by simp[cJ]
 obtain⟨h1,h2,F,ef,e1,e2,e3⟩:=yF h0
 have e4:=aVE e3
 have hy:=iI start sz hsz.1
 obtain⟨i1,i2⟩:=h
 rw[e1]at i1
 have hser:dH sz start.length (cJ start sz):=⟨hel,λs hs=>by obtain⟨x,hx,rfl⟩:=lA.1 hs;exact fS (i2 x hx)⟩
 have hhl:(hdY (cJ start sz)).length=start.length+1:=by rw[hy];rfl
 refine⟨⟨h1,h2,by omega,hsz,hel▸hser,by rw[hhl,hel],λx hx=>?_,λG hG=>by rw[ef]at hG;cases hG;omega,by rw[e2];omega,⟨⟨by rw[hhl];simp[hel],λs hs=>?_⟩,λi hi=>?_⟩,?_⟩,hel⟩
 ·rw[hy]at hx
  rcases mW.1 hx with rfl|hx
  ·exact qN
  ·exact i2 x hx
 ·rcases mW.1 hs with rfl|hs
  ·exact bH0 _
  ·exact hser.2 s hs
 ·rw[hy]
  cases i with
  |zero=>exact bAU hsz.1
  |succ i =>
   have e:=iI start sz hsz.1
   have:(hdY (cJ start sz)).getD (i+1) 0=(0::start).getD (i+1) 0:=by rw[e]
   refine Eq.trans ?_ this
   rw[hhl]at hi
   show((cJ start sz).getD i []).getD 0 0=((cJ start sz).map λs=>s.getD 0 0).getD i 0
   simp[gG,qR,eY (show i<(cJ start sz).length by omega)]
 ·rw[gG,eY aA]
  simp[cJ,cS]
theorem aZI {p:aG} {f:Int} {start L:List Int} {F:dO} {u:Nat} (G1:rR p f (cJ start 1) (cJ start 1).length 1) (G2:rR p f (cJ start 2) (cJ start 2).length 2) (hr:oE p f (0::start)=.ok ((L,F),u)) :
  sO p0 start.length (mN L F 1 (cJ start 1)) start.length=none↔sO p0 start.length (mN L F 2 (cJ start 2)) start.length=none:=by
 have l1:(cJ start 1).length=start.length:=by simp[cJ]
 have l2:(cJ start 2).length=start.length:=by simp[cJ]
 have hr1:oE p f (hdY (cJ start 1))=.ok ((L,F),u):=by rw[iI _ _ bO];exact hr
 have hr2:oE p f (hdY (cJ start 2))=.ok ((L,F),u):=by rw[iI _ _ bO];exact hr
 obtain⟨T,hL⟩:=G1.tape hr1
 obtain⟨a1,a2,a3⟩:=G1.sys hr1
 obtain⟨b1,b2,b3⟩:=G2.sys hr2
 rw[l1]at a1 a2 a3 hL
 rw[l2]at b1 b2 b3
 have s1:St (0::start) 1 (tS 1::cJ start 1):=iI start 1 bO▸G1.st
 have s2:St (0::start) 2 (tS 2::cJ start 2):=iI start 2 bO▸G2.st
 have na:dW (0::start):=iI start 1 bO▸G1.ns
 have hpar:∀ H,p.aK[f.toNat]?=some H->((0::start).length:Int)=H.aW:=iI start 1 bO▸G1.par
 have hins:=T.ins
 rw[iI _ _ bO]at hins
 have e:∀ (sz:Nat),aN L F sz (cJ start sz)=(tC F.code L (iD sz (tS sz::cJ start sz) F.code F.code.length) sz (start.length+1)).map λr=>r.drop 1:=λsz=>by rw[aN,show(cJ start sz).length=start.length by simp[cJ]]
 have ea:∀ (sz i k:Nat),i<start.length->k<start.length->mN L F sz (cJ start sz) i k=(uQ F.code L (iD sz (tS sz::cJ start sz) F.code F.code.length) sz (start.length+1) i).getD (k+1) []:=λsz i k hi hk=>by
  rw[mN,qQ,if_pos (by simp[cJ];exact hk),e,gG (l:=List.map _ _),qR,tC,qR,al9 aA]
  simp only[aBT,aEO]
  rw[gG,aHW,←gG,Nat.add_comm 1 k]
 have h:=λi (hi:i<start.length) k (hk:k<start.length)=>a6K (X1:=tS 1::cJ start 1) (X2:=tS 2::cJ start 2) hins T.outs (uR hins s1.1) (uR hins s2.1) (λq hq=>by rw[aKG G1.ok G1.fn na hpar hr bO s1 hq,aKG G1.ok G1.fn na hpar hr bO s2 hq]) (o:=i) (j:=k+1) aA (show k+1<(0::start).length by simp;omega)
 have g1:=aAM (sz:=1) (n:=start.length) (w:=start.length) bO (bX _) (M:=mN L F 1 (cJ start 1)) (λi hi k hk=>by rw[mN,qQ,if_pos aA];exact((a2 i hi).get hk).2) (N:=λi k=>(mN L F 2 (cJ start 2) i k).getD 0 0) (λi hi k hk=>by rw[ea 1 i k hi hk,ea 2 i k hi hk];exact h i hi k hk)
 have g2:=aAM (sz:=2) (n:=start.length) (w:=start.length) bO (bX _) (M:=mN L F 2 (cJ start 2)) (λi hi k hk=>by rw[mN,qQ,if_pos aA];exact((b2 i hi).get hk).2) (N:=λi k=>(mN L F 2 (cJ start 2) i k).getD 0 0) (λi hi k hk=>rfl)
 exact g1.trans g2.symm
noncomputable def fN (p:aG) (f:Int) (start:List Int):List (List Int)×Int :=
 if iR p f eqP=0 then(if aTD p f start then(match oE p f (0::start)with
  | .error c=>([],c)
  | .ok ((L,F),_)=>if (∀ o,o<start.length->F.fR.getD (L.getD o 0).toNat 0=0)then(if (fK start.length (mN L F 2 (cJ start 2)) (cJ start 2)).2=true then((fK start.length (mN L F 2 (cJ start 2)) (cJ start 2)).1,0)else([],6))else([],4))else([],2))else([],iR p f eqP)
set_option maxRecDepth 100000
theorem a1U (s:List Int) (h:s.length=1):fE Tryz.prog 97 [ints s] (.bool (!decide (s.getD 0 0=0))):=by
 match s,h with
 | [x],_ =>
  refine fU 7 aBD cU cF Tryz.func97 λh=>?_
  simp -dsimp -implicitDefEqProofs only[go_sem,↓reduceIte,Tryz.f97]
  refine⟨by decide,?_⟩
  simp -dsimp -implicitDefEqProofs only[go_sem,↓reduceIte,Tryz.f97,a2E,aZ4]
  rfl
@[go_sem] def aVJ:List Nat:=[0,1,2,3,4,8,9,10,11,12,14,15,16,38,40,52,55,63,69,81]
@[go_sem] def bH4:Marks:=λid=>match id with|6=>([],(.op 0 (.op 1 (.op 2 (.op 3 (.op 4 (.op 5 (.op 6 (.op 7 (.op 8 (.op 9 (.op 10 (.op 11 .nil)))))))))))),[])|_=>([],.nil,[])
set_option maxHeartbeats 1000000 in
theorem aTE (p:aG) (hps:p.s<=4194304) (f:Int) (start:List Int) (hl:start.length<=1048576):fE Tryz.prog 26 [.agg p.c,I f,ints start,I 1] (.gU [bW (fN p f start).1,I (fN p f start).2]):=by
 have hif:=aVF p f hps
 by_cases h0:iR p f eqP=0
 ·obtain⟨h1,h2,F,ef,e1,e2,e3⟩:=yF h0
  rw[h0]at hif
  have e4:=aVE e3
  have eP:IntKind.i64.wrap (F.aW-1)=F.aW-1:=IntWalk.i64_in _ aA
  simp only[aG.aZ]at hif ⊢
  refine lS 91 aVJ aXJ bH4 Tryz.func26 λh=>?_
  simp -dsimp -implicitDefEqProofs only[go_sem,↓reduceIte,Tryz.f26]
  first|refine aH.mk (hif) ?_|refine aF.mk (hif) ?_|refine aH.bI (hif) ?_|refine aF.mk (bC.dI (hif)) ?_
  simp -dsimp -implicitDefEqProofs only[go_sem,↓reduceIte,Tryz.f26,ef,aX.aZ,eP]
  refine⟨h2.1,h2.2,?_⟩
  first|refine aH.mk (pJ start (F.aW-1)) ?_|refine aF.mk (pJ start (F.aW-1)) ?_|refine aH.bI (pJ start (F.aW-1)) ?_|refine aF.mk (bC.dI (pJ start (F.aW-1))) ?_
  simp -dsimp -implicitDefEqProofs only[go_sem,↓reduceIte,Tryz.f26]
  refine⟨λh3=>?_,λh3=>?_⟩
  ·have hS:aTD p f start:=⟨by rw[e1];exact h3.1,h3.2⟩
   obtain⟨G1,aKH⟩:=rN (sz:=1) bO h0 hS
   obtain⟨G2,r8⟩:=rN (sz:=2) bO h0 hS
   have ex1:cJ start 1=start.map λn=>[n]:=rfl
   first|refine aH.mk (aHM 1) ?_|refine aF.mk (aHM 1) ?_|refine aH.bI (aHM 1) ?_|refine aF.mk (bC.dI (aHM 1)) ?_
   simp -dsimp -implicitDefEqProofs only[go_sem,↓reduceIte,Tryz.f26]
   first|refine aH.mk (aHB start hl) ?_|refine aF.mk (aHB start hl) ?_|refine aH.bI (aHB start hl) ?_|refine aF.mk (bC.dI (aHB start hl)) ?_
   simp -dsimp -implicitDefEqProofs only[go_sem,↓reduceIte,Tryz.f26]
   cases hr:oE p f (0::start)with
   |error c =>
    have hre:=a1P hps G1 (c:=c) (by rw[iI _ _ bO];exact hr)
    have hc:=aDV p 1 f _ c (aEE G1.ok G1.fn G1.ns G1.par (by rw[iI _ _ bO];exact hr)).1
    have e:fN p f start=([],c):=by rw[fN,if_pos h0,if_pos hS,hr]
    rw[ex1]at hre
    simp only[aG.aZ]at hre
    first|refine aH.mk (hre) ?_|refine aF.mk (hre) ?_|refine aH.bI (hre) ?_|refine aF.mk (bC.dI (hre)) ?_
    simp -dsimp -implicitDefEqProofs only[go_sem,↓reduceIte,Tryz.f26]
    rw[e]
    exact⟨λ_=>Shift.of (Sub.gU (.cons (Sub.nil 1 false) (.cons (.refl _) .nil))) (aB.le_refl _),λq=>absurd hc aA⟩
   |ok z =>
    obtain⟨⟨L,F2⟩,u⟩:=z
    have hr1:oE p f (hdY (cJ start 1))=.ok ((L,F2),u):=by rw[iI _ _ bO];exact hr
    have hr2:oE p f (hdY (cJ start 2))=.ok ((L,F2),u):=by rw[iI _ _ bO];exact hr
    have sA:=aTB hps G1 hr1 (G1.tape hr1).1
    have uZ:=aTB hps G2 hr2 (G2.tape hr2).1
    obtain⟨a1,a2,a3⟩:=G1.sys hr1
    obtain⟨b1,b2,b3⟩:=G2.sys hr2
    rw[aKH]at a1 a2 a3
    rw[r8]at b1 b2 b3
    rw[show(L.map λr=>lR 1 (tS 1::cJ start 1) F2.code r.toNat)=bN L F2 1 (cJ start 1)from rfl,show((tC F2.code L (iD 1 (tS 1::cJ start 1) F2.code F2.code.length) 1 ((cJ start 1).length+1)).map λr=>r.drop 1)=aN L F2 1 (cJ start 1)from rfl]at sA
    rw[show(L.map λr=>lR 2 (tS 2::cJ start 2) F2.code r.toNat)=bN L F2 2 (cJ start 2)from rfl,show((tC F2.code L (iD 2 (tS 2::cJ start 2) F2.code F2.code.length) 2 ((cJ start 2).length+1)).map λr=>r.drop 1)=aN L F2 2 (cJ start 2)from rfl]at uZ
    rw[ex1]at sA
    simp only[aG.aZ]at sA uZ
    first|refine aH.mk (sA) ?_|refine aF.mk (sA) ?_|refine aH.bI (sA) ?_|refine aF.mk (bC.dI (sA)) ?_
    simp -dsimp -implicitDefEqProofs only[go_sem,↓reduceIte,Tryz.f26]
    refine aH.bI (aOB (bN L F2 1 (start.map λn=>[n])) (λs=>!decide (s.getD 0 0=0)) 97 [] λs hs=>(a1U s (by have:=(a3.2 s (ex1▸hs)).1;omega)).a3W) ?_
    have hn:=G1.hn
    rw[aKH]at hn
    have hso:=solved (n:=start.length) (sz:=1) aA bO a1 a2 a3 (M:=mN L F2 1 (cJ start 1)) (by rw[mN,aKH])
    have hmh:=aZI G1 G2 hr
    rw[ex1]at hso hmh
    rw[show((bN L F2 1 (start.map λn=>[n])).any λs=>!decide (s.getD 0 0=0))=!decide (∀ s∈bN L F2 1 (start.map λn=>[n]),s.getD 0 0=0)by rw[←aNT,Bool.not_not]]
    simp -dsimp -implicitDefEqProofs only[go_sem,↓reduceIte,Tryz.f26]
    have hst:St (0::start) 1 (tS 1::cJ start 1):=iI start 1 bO▸G1.st
    have na:dW (0::start):=iI start 1 bO▸G1.ns
    have hpar:∀ H,p.aK[f.toNat]?=some H->((0::start).length:Int)=H.aW:=iI start 1 bO▸G1.par
    have hLl:=(G1.tape hr1).2
    have hTo:=(G1.tape hr1).1.outs
    rw[aKH]at hLl
    have hh:∀ r∈L,(lR 1 (tS 1::cJ start 1) F2.code r.toNat).getD 0 0=F2.fR.getD r.toNat 0:=λr hm=>aKG G1.ok G1.fn na hpar hr bO hst (by have:=hTo r hm;omega)
    have hzi:(∀ o,o<start.length->F2.fR.getD (L.getD o 0).toNat 0=0)↔∀ s∈bN L F2 1 (start.map λn=>[n]),s.getD 0 0=0:=by
     refine⟨λq s hm=>?_,λq o ho=>?_⟩
     ·obtain⟨r,hm2,rfl⟩:=lA.1 hm
      obtain⟨o,ho,e⟩:=wM.1 hm2
      have:=q o aA
      rw[gG (l:=L),eY ho,aEO,e]at this
      exact(hh _ hm2).trans this
     ·have hm:L.getD o 0∈L:=by rw[gG,eY aA];exact kM _
      rw[←hh _ hm];exact q _ (lA.2 ⟨_,hm,rfl⟩)
    refine⟨λhz=>?_,λhz=>?_⟩
    ·have e:fN p f start=([],4):=by rw[fN,if_pos h0,if_pos hS,hr];exact if_neg λq=>hz (hzi.1 q)
     rw[e]
     exact Shift.of (Sub.gU (.cons (Sub.nil 1 false) (.cons (.refl _) .nil))) (aB.le_refl _)
    ·first|refine aH.mk (hso) ?_|refine aF.mk (hso) ?_|refine aH.bI (hso) ?_|refine aF.mk (bC.dI (hso)) ?_
     simp -dsimp -implicitDefEqProofs only[go_sem,↓reduceIte,Tryz.f26]
     have hz':=hzi.2 (by simpa using hz)
     rw[aS2]
     have hex:fE Tryz.prog 59 [ints start,I 1] (bW (cJ start 2)):=bHH (a1J start (sz:=2) hl bO)
     refine⟨λhsf=>?_,λhst'=>?_⟩
     ·have e:fN p f start=([],6):=by
       rw[fN,if_pos h0,if_pos hS,hr]
       have hno:sO p0 start.length (mN L F2 2 (cJ start 2)) start.length=none:=hmh.1 (by
        cases hg:sO p0 start.length (mN L F2 1 (start.map λn=>[n])) start.length with
        |none=>rfl
        |some A=>rw[hg]at hsf;cases hsf)
       have hnf:(fK start.length (mN L F2 2 (cJ start 2)) (cJ start 2)).2=false:=by rw[fK,hno]
       simp only[if_pos hz',hnf]
       rfl
      rw[e]
      exact Shift.of (Sub.gU (.cons (Sub.nil 1 false) (.cons (.refl _) .nil))) (aB.le_refl _)
     ·first|refine aH.mk (hex) ?_|refine aF.mk (hex) ?_|refine aH.bI (hex) ?_|refine aF.mk (bC.dI (hex)) ?_
      simp -dsimp -implicitDefEqProofs only[go_sem,↓reduceIte,Tryz.f26]
      have hnw:fE Tryz.prog 78 [bW (cJ start 2),rM (aN L F2 2 (cJ start 2)),bW (bN L F2 2 (cJ start 2))] (.gU [bW (fK start.length (mN L F2 2 (cJ start 2)) (cJ start 2)).1,.bool (fK start.length (mN L F2 2 (cJ start 2)) (cJ start 2)).2]):=QS.bFN (bAY (d:=start.length) (sz:=2) aA bO (r8▸G2.ser) b1 b2 b3 (by rw[mN,r8])) (λy hy=>xL hy) (aDL [] [.bool _])
      refine sM aVJ aXJ bH4 (λk:Nat=>[(1,I f),(3,I 1),(4,.ip 1 [p.c] 0 0),(15,bW (if k=0 then cJ start 2 else(fK start.length (mN L F2 2 (cJ start 2)) (cJ start 2)).1)),(16,I ((k:Int)+1))]) (λk=>k<=1) (λk=>1-k) 0 ⟨by simp[cR,b6,aG.aZ],by decide⟩ ?_
      intro k hk
      have hk2:k=0∨k=1:=by omega
      rcases hk2 with rfl|rfl
      ·simp -dsimp -implicitDefEqProofs only[go_sem,↓reduceIte,Tryz.f26,aG.aZ]
       refine⟨λ_=>?_,λq=>absurd bO q⟩
       first|refine aH.mk (uZ) ?_|refine aF.mk (uZ) ?_|refine aH.bI (uZ) ?_|refine aF.mk (bC.dI (uZ)) ?_
       simp -dsimp -implicitDefEqProofs only[go_sem,↓reduceIte,Tryz.f26,aG.aZ]
       first|refine aH.mk (hnw) ?_|refine aF.mk (hnw) ?_|refine aH.bI (hnw) ?_|refine aF.mk (bC.dI (hnw)) ?_
       simp -dsimp -implicitDefEqProofs only[go_sem,↓reduceIte,Tryz.f26,aG.aZ]
       exact⟨1,⟨rfl,by decide⟩,by decide,by decide⟩
      ·simp -dsimp -implicitDefEqProofs only[go_sem,↓reduceIte,Tryz.f26,aG.aZ]
       refine⟨λq=>absurd q bO,λ_=>?_⟩
       have hyes:(fK start.length (mN L F2 2 (cJ start 2)) (cJ start 2)).2=true:=by
        cases hg:sO p0 start.length (mN L F2 2 (cJ start 2)) start.length with
        |none=>rw[hmh.2 hg]at hst';cases hst'
        |some A=>rw[fK,hg]
       have e:fN p f start=((fK start.length (mN L F2 2 (cJ start 2)) (cJ start 2)).1,0):=by
        rw[fN,if_pos h0,if_pos hS,hr]
        simp only[if_pos hz',if_pos hyes]
       rw[e]
       exact Shift.of (Sub.refl _) (aB.le_refl _)
  ·have e:fN p f start=([],2):=by rw[fN,if_pos h0,if_neg λq=>h3 ⟨by rw[←e1];exact q.1,q.2⟩]
   rw[e]
   exact Shift.of (Sub.gU (.cons (Sub.nil 1 false) (.cons (.refl _) .nil))) (aB.le_refl _)
 ·have e:fN p f start=([],iR p f eqP):=by rw[fN,if_neg h0]
  generalize iR p f eqP=c at *
  simp only[aG.aZ]at hif ⊢
  refine lS 91 aVJ aXJ bH4 Tryz.func26 λh=>?_
  simp -dsimp -implicitDefEqProofs only[go_sem,↓reduceIte,Tryz.f26]
  first|refine aH.mk (hif) ?_|refine aF.mk (hif) ?_|refine aH.bI (hif) ?_|refine aF.mk (bC.dI (hif)) ?_
  simp -dsimp -implicitDefEqProofs only[go_sem,↓reduceIte,Tryz.f26,h0]
  rw[e]
  exact Shift.of (Sub.gU (.cons (Sub.nil 1 false) (.cons (.refl _) .nil))) (aB.le_refl _)
theorem aKI (F:Nat->Int):∀ n,dT F (n+1)=F 0+dT (λk=>F (k+1)) n
 |0=>by rw[dT,dT,dT];omega
 |n+1=>by rw[dT,aKI F n,dT];omega
noncomputable def aVK (p:aG) (f:Int) (start L:List Int) (F:dO) (o:Nat):Int:=dT (λk=>nK (uQ F.code L (iD 2 (dX (0::start) (0::start)) F.code F.code.length) 2 (start.length+1) o) k*(1::(fN p f start).1.map λs=>s.getD 1 0).getD k 0) (start.length+1)
theorem bA0 {p:aG} {f:Int} {start:List Int} (hz:(fN p f start).2=0) :
  iR p f eqP=0/\aTD p f start/\∃ L F u,oE p f (0::start)=.ok ((L,F),u)/\aMX p f (0::start) L F u/\L.length=start.length/\dH 2 start.length (fN p f start).1/\∀ o,o<start.length->Cg (aVK p f start L F o) 0:=by
 have h0:iR p f eqP=0:=by
  refine a0C λq=>?_
  rw[fN,if_neg q]at hz;exact q hz
 have hS:aTD p f start:=by
  refine a0C λq=>?_
  rw[fN,if_pos h0,if_neg q]at hz;cases hz
 refine⟨h0,hS,?_⟩
 obtain⟨G2,hel⟩:=rN (sz:=2) bO h0 hS
 have hy:=iI start 2 bO
 cases hr:oE p f (0::start)with
 |error c =>
  have hc:=aDV p 1 f _ c (aEE G2.ok G2.fn G2.ns G2.par (by rw[hy];exact hr)).1
  rw[fN,if_pos h0,if_pos hS,hr]at hz
  simp only at hz
  omega
 |ok z =>
  obtain⟨⟨L,F⟩,u⟩:=z
  have hr2:oE p f (hdY (cJ start 2))=.ok ((L,F),u):=by rw[hy];exact hr
  obtain⟨T,hL⟩:=G2.tape hr2
  obtain⟨s1,s2,s3⟩:=G2.sys hr2
  have na:dW (0::start):=hy▸G2.ns
  rw[hy]at T
  rw[hel]at hL s2 s3
  by_cases hv:∀ o,o<start.length->F.fR.getD (L.getD o 0).toNat 0=0
  ·cases hg:sO p0 start.length (mN L F 2 (cJ start 2)) start.length with
   |none =>
    have hno:(fK start.length (mN L F 2 (cJ start 2)) (cJ start 2)).2=false:=by rw[fK,hg]
    rw[fN,if_pos h0,if_pos hS,hr]at hz
    simp only[if_pos hv,hno]at hz
    cases hz
   |some A =>
    have hno:fK start.length (mN L F 2 (cJ start 2)) (cJ start 2)=(iN start.length λi=>lN ((cJ start 2).getD i []) (A i start.length),true):=by rw[fK,hg]
    have hy1:(fN p f start).1=iN start.length λi=>lN ((cJ start 2).getD i []) (A i start.length):=by
     rw[fN,if_pos h0,if_pos hS,hr]
     simp only[if_pos hv,hno,if_true]
    have hok:okM (bJ 2) start.length (mN L F 2 (cJ start 2)):=λi hi k hk=>by
     rw[mN,qQ]
     split
     ·exact((s2 i hi).get aA).2
     ·exact(s3.get hi).2
    have hA:=(aEA (aEB 2) hok start.length (bX _) A hg).1
    have hext:∀ i,i<start.length->bJ 2 ((cJ start 2).getD i [])/\((cJ start 2).getD i []).getD 1 0=0:=λi hi=>by
     rw[cJ,gG,qR,eY hi]
     exact⟨fS (na _ (.tail _ (kM hi))),rfl⟩
    have hst:St (0::start) 2 (dX (0::start) (0::start)):=⟨⟨lI rfl,oC na na⟩,λk hk=>by rw[aA1 hk hk];rfl⟩
    refine⟨L,F,u,rfl,T,hL,hy1▸⟨cX _ _,λs hs=>?_⟩,λo ho=>?_⟩
    ·obtain⟨i,hi,rfl⟩:=lA.1 hs
     have hi:=aGK.1 hi
     have hq:=hA i hi start.length (bX _)
     rw[lN]
     exact mT (hext i hi).1 (eJ _ hq)
    ·have h1:=a1S G2 hr hv hg hst ho
     refine Cg.trans ?_ h1
     rw[aVK,aKI]
     refine Cg.add (Cg.of_eq (aP3 _)) (aD6 _ λk hk=>(Cg.refl _).mul ?_)
     show Cg (((fN p f start).1.map λs=>s.getD 1 0).getD k 0) _
     rw[hy1,gG,qR,gO _ hk]
     have h2:=aJS (hext k hk).1 (hA k hk start.length (bX _)) (k:=1) bO
     refine h2.trans (Cg.of_eq ?_)
     show((cJ start 2).getD k []).getD 1 0+-((A k start.length).getD 1 0)=_
     rw[(hext k hk).2,Int.zero_add]
  ·rw[fN,if_pos h0,if_pos hS,hr]at hz
   simp only[if_neg hv]at hz
   cases hz
theorem bH5 (c d:List Int):fE Tryz.prog 23 [.sl 1 (c.map λn=>[.int .u8 n]) false,.sl 1 (d.map λn=>[.int .u8 n]) false] (.bool (decide (3000<c.length∨3000<d.length))):=by
 refine fU 13 zX cU cF Tryz.func23 λh=>?_
 simp -dsimp -implicitDefEqProofs only[go_sem,↓reduceIte,Tryz.f23]
 exact λ_=>⟨λh1 _=>decide_eq_decide.2 aA,λh1=>(decide_eq_true aA).symm⟩
@[go_sem] def a6M:List Nat:=[0,1,2,6,7,11,15,24]
theorem bH6 {L:List (List Int)} {n w:Nat} (hl:L.length=n) (hs:∀ s∈L,s.length=w):fE Tryz.prog 27 [bW L,I n,I w] (.bool true):=by
 subst hl
 refine fU 25 a6M cU cF Tryz.func27 λh=>?_
 simp -dsimp -implicitDefEqProofs only[go_sem,↓reduceIte,Tryz.f27]
 refine λ_=>?_
 refine cM a6M cU cF (λk:Nat=>[(0,bW L),(2,I w),(7,I k)]) (λ_=>h) (λk=>k<=L.length) (λk=>L.length-k) 0 ⟨by simp[cR,b6],aB.le_refl _,eF _⟩ ?_
 intro k hk
 rcases bT k L.length with hlt|hge
 ·have ea:L[k]?=some L[k]:=eY hlt
  have h0:=hs _ (kM hlt)
  simp -dsimp -implicitDefEqProofs only[go_sem,↓reduceIte,Tryz.f27,hlt,ea,h0]
  exact λ_ _=>⟨k+1,IntWalk.i64_in _ aA,hlt,by omega⟩
 ·obtain rfl:k=L.length:=by omega
  simp -dsimp -implicitDefEqProofs only[go_sem,↓reduceIte,Tryz.f27,bU,cT]
@[go_sem] def bUT:List Nat:=[6]
theorem a6N (a b:List Int) (ha:1<=a.length/\a.length<=1000) (hb:b.length<=1000):fE Tryz.prog 28 [ints a,ints b] (ints (a++b)):=by
 refine lS 12 bCY bUT cF Tryz.func28 λh=>?_
 simp -dsimp -implicitDefEqProofs only[go_sem,↓reduceIte,Tryz.f28]
 refine⟨by decide,by decide,λh0=>absurd (congrArg List.length h0) (by simp only[gT,sB];omega),λ_=>⟨by omega,by omega,λn hn=>⟨by decide,bX _,by omega,by omega,λm hm=>?_⟩⟩⟩
 rw[nI dG,←lT,←lT]
 exact eT (a++b) hm.2 (aB.oB (by rw[aO];exact aB.bM hn (aB.le_refl _))) (by rw[gD])
@[go_sem] def a6O:List Nat:=[0,1,4,5,6,11,20]
@[go_sem] def bOA:List Nat:=[7,29]
theorem a6P {n c sz:Nat} {L:List (List Int)} (hL:dH sz n L) (hn:n<=1048576) (hsz:c<sz):fE Tryz.prog 30 [bW L,I c] (ints (L.map λs=>s.getD c 0)):=by
 have hll:=hL.1
 refine lS 32 a6O bOA cF Tryz.func30 λh=>?_
 simp -dsimp -implicitDefEqProofs only[go_sem,↓reduceIte,Tryz.f30]
 refine⟨bD,?_⟩
 have hcl:(L.map λs=>s.getD c 0).length=L.length:=gT _
 refine cM a6O bOA cF (λx:Nat×Option Nat=>[(0,bW L),(1,I c),(5,fT 1 ((L.map λs=>s.getD c 0).take x.1).length x.2),(6,I x.1)]) (λx=>cP h (.row 1 ((((L.map λs=>s.getD c 0).take x.1).map λn=>[I n]).map (List.map .v))) x.2) (λx=>x.1<=L.length/\eM h ((L.map λs=>s.getD c 0).take x.1) x.2) (λx=>L.length-x.1) (0,none) ⟨by simp[cR,b6,fT],by simp only[aL];exact aB.le_refl _,eF _,by simp[eM]⟩ ?_
 rintro⟨k,o⟩ ⟨hk,hos⟩
 simp only at hk hos ⊢
 rcases bT k L.length with hlt|hge
 ·have ea:L[k]?=some L[k]:=eY hlt
  have h0:=hL.2 _ (kM hlt)
  have e0:(L[k])[c]?=some (L[k].getD c 0):=cQ (by rw[h0.1];exact hsz)
  have h0l:=h0.1
  have hy:(L.map λs=>s.getD c 0).take (k+1)=(L.map λs=>s.getD c 0).take k++[(L.map λs=>s.getD c 0)[k]'aA]:=jF aA
  have hlk:((L.map λs=>s.getD c 0).take k).length=k:=by rw[mX];omega
  rw[rU]at hy
  cases o with
  |none =>
   rw[aY]at hos
   rw[hos]at hy ⊢
   simp -dsimp -implicitDefEqProofs only[go_sem,↓reduceIte,Tryz.f30,bE,aL,hlt,ea,e0,h0l,hsz]
   repeat'(with_reducible first|intro _|refine And.intro ?_ ?_)
   all_goals try(first|omega|decide)
   rename_i b hb
   refine⟨(k+1,some b),?_⟩
   simp only[hy]
   refine⟨⟨rfl,?_⟩,aB.le_refl _,⟨by omega,hb⟩,by omega⟩
   rw[IntWalk.i64_in _ aA];rfl
  |some n =>
   rw[aQ]at hos
   simp -dsimp -implicitDefEqProofs only[go_sem,↓reduceIte,Tryz.f30,aR,aJ,hlt,ea,e0,h0l,hsz]
   repeat'(with_reducible first|intro _|refine And.intro ?_ ?_)
   all_goals try(first|omega|decide|exact bX _)
   rename_i b hb
   refine⟨(k+1,some b),?_⟩
   simp only[hy,aJ,aR,aQ]
   refine⟨⟨by rw[gD];rfl,?_⟩,?_,⟨by omega,hb.2⟩,by omega⟩
   ·rw[IntWalk.i64_in _ aA];rfl
   ·rw[←dZ];exact jC hos
 ·have hk':k=L.length:=by omega
  subst hk'
  rw[nI aA]at hos ⊢
  cases o with
  |none =>
   rw[aY]at hos
   simp -dsimp -implicitDefEqProofs only[go_sem,↓reduceIte,Tryz.f30,bE,aL,bU,cT]
   rw[hos]
   exact λ_=>Shift.of (Sub.loose _ _ _) (aB.le_refl _)
  |some n =>
   rw[aQ]at hos
   simp -dsimp -implicitDefEqProofs only[go_sem,↓reduceIte,Tryz.f30,aR,aJ,bU,cT]
   exact λ_=>eT _ hos (aB.le_refl _) hcl.symm
@[go_sem] def a6Q:List Nat:=[0,1,4,5,6,10,15]
@[go_sem] def bOB:List Nat:=[7,17,20]
theorem bH7 (n i:Nat) (hn:n<=1048576) (hi:i<n):fE Tryz.prog 32 [I n,I i] (ints (eQ n i)):=by
 refine lS 23 a6Q bOB cF Tryz.func32 λh=>?_
 simp -dsimp -implicitDefEqProofs only[go_sem,↓reduceIte,Tryz.f32]
 refine⟨bD,?_⟩
 have hcl:=tR n i
 refine cM a6Q bOB cF (λx:Nat×Option Nat=>[(0,I n),(1,I i),(5,fT 1 ((eQ n i).take x.1).length x.2),(6,I x.1)]) (λx=>cP h (.row 1 ((((eQ n i).take x.1).map λn=>[I n]).map (List.map .v))) x.2) (λx=>x.1<=n/\eM h ((eQ n i).take x.1) x.2) (λx=>n-x.1) (0,none) ⟨by simp[cR,b6,fT],by simp only[aL];exact aB.le_refl _,eF _,by simp[eM]⟩ ?_
 rintro⟨k,o⟩ ⟨hk,hos⟩
 simp only at hk hos ⊢
 rcases bT k n with hlt|hge
 ·have hy:(eQ n i).take (k+1)=(eQ n i).take k++[(eQ n i)[k]'aA]:=jF aA
  have hlk:((eQ n i).take k).length=k:=by rw[mX];omega
  have hek:(eQ n i)[k]'aA=if k=i then 1 else 0:=by
   simp only[eQ,aCS,List.getElem_replicate]
   by_cases e:k=i
   ·rw[if_pos e,if_pos e.symm]
   ·rw[if_neg e,if_neg (iK e)]
  rw[hek]at hy
  by_cases e:k=i
  ·rw[if_pos e]at hy
   subst e
   cases o with
   |none =>
    rw[aY]at hos
    rw[hos]at hy ⊢
    simp -dsimp -implicitDefEqProofs only[go_sem,↓reduceIte,Tryz.f32,bE,aL,hlt]
    repeat'(with_reducible first|intro _|refine And.intro ?_ ?_)
    all_goals try(first|omega|decide)
    rename_i b hb
    refine⟨(k+1,some b),?_⟩
    simp only[hy]
    refine⟨⟨rfl,?_⟩,aB.le_refl _,⟨by omega,hb⟩,by omega⟩
    rw[IntWalk.i64_in _ aA];rfl
   |some n =>
    rw[aQ]at hos
    simp -dsimp -implicitDefEqProofs only[go_sem,↓reduceIte,Tryz.f32,aR,aJ,hlt]
    repeat'(with_reducible first|intro _|refine And.intro ?_ ?_)
    all_goals try(first|omega|decide|exact bX _)
    rename_i b hb
    refine⟨(k+1,some b),?_⟩
    simp only[hy,aJ,aR,aQ]
    refine⟨⟨by rw[gD];rfl,?_⟩,?_,⟨by omega,hb.2⟩,by omega⟩
    ·rw[IntWalk.i64_in _ aA];rfl
    ·rw[←dZ];exact jC hos
  ·rw[if_neg e]at hy
   have e':¬(k:Int)=i:=by omega
   cases o with
   |none =>
    rw[aY]at hos
    rw[hos]at hy ⊢
    simp -dsimp -implicitDefEqProofs only[go_sem,↓reduceIte,Tryz.f32,bE,aL,hlt,e']
    repeat'(with_reducible first|intro _|refine And.intro ?_ ?_)
    all_goals try(first|omega|decide)
    rename_i b hb
    refine⟨(k+1,some b),?_⟩
    simp only[hy]
    refine⟨⟨rfl,?_⟩,aB.le_refl _,⟨by omega,hb⟩,by omega⟩
    rw[IntWalk.i64_in _ aA];rfl
   |some n =>
    rw[aQ]at hos
    simp -dsimp -implicitDefEqProofs only[go_sem,↓reduceIte,Tryz.f32,aR,aJ,hlt,e']
    repeat'(with_reducible first|intro _|refine And.intro ?_ ?_)
    all_goals try(first|omega|decide|exact bX _)
    rename_i b hb
    refine⟨(k+1,some b),?_⟩
    simp only[hy,aJ,aR,aQ]
    refine⟨⟨by rw[gD];rfl,?_⟩,?_,⟨by omega,hb.2⟩,by omega⟩
    ·rw[IntWalk.i64_in _ aA];rfl
    ·rw[←dZ];exact jC hos
 ·have hk':k=n:=by omega
  subst hk'
  rw[nI aA]at hos ⊢
  cases o with
  |none =>
   rw[aY]at hos
   simp -dsimp -implicitDefEqProofs only[go_sem,↓reduceIte,Tryz.f32,bE,aL,bU,cT]
   rw[hos]
   exact Shift.of (Sub.loose _ _ _) (aB.le_refl _)
  |some n =>
   rw[aQ]at hos
   simp -dsimp -implicitDefEqProofs only[go_sem,↓reduceIte,Tryz.f32,aR,aJ,bU,cT]
   exact eT _ hos (aB.le_refl _) rfl
@[go_sem] def a6R:List Nat:=[0,1,4,5,6,16]
@[go_sem] def bOC:Marks:=λid=>match id with|5=>([9,10],(.op 0 (.op 1 (.op 2 (.op 3 (.op 4 (.op 5 (.op 6 (.op 7 (.op 8 (.op 9 (.op 10 (.op 11 .nil)))))))))))),[])|_=>([],.nil,[])
theorem bOD {a b:List Int} (na:dW a) (nb:dW b) (hl:b.length=a.length) (hal:a.length<=1048576) (hz:Cg (dT (λk=>a.getD k 0*b.getD k 0) a.length) 0):fE Tryz.prog 33 [ints a,ints b] (I 0):=by
 refine fU 31 a6R cU bOC Tryz.func33 λh=>?_
 simp -dsimp -implicitDefEqProofs only[go_sem,↓reduceIte,Tryz.f33]
 refine sM a6R cU bOC (λx:Nat×Int=>[(0,ints a),(1,ints b),(5,I x.2),(6,I x.1)]) (λx=>x.1<=a.length/\(0<=x.2/\x.2<1000003)/\Cg x.2 (dT (λk=>a.getD k 0*b.getD k 0) x.1)) (λx=>a.length-x.1) (0,0) ⟨by simp[cR,b6],eF _,by simp,Cg.refl _⟩ ?_
 rintro⟨k,s⟩ ⟨hk,hs,hc⟩
 simp only at hk hs hc ⊢
 rcases bT k a.length with hlt|hge
 ·have ea:=cQ hlt
  have eb:=cQ (l:=b) (i:=k) aA
  simp -dsimp -implicitDefEqProofs only[go_sem,↓reduceIte,Tryz.f33,hlt,ea,eb,hl]
  refine λ_ _=>?_
  first|refine aH.mk (bA (a.getD k 0) (b.getD k 0) (na.get k) (nb.get k)) ?_|refine aF.mk (bA (a.getD k 0) (b.getD k 0) (na.get k) (nb.get k)) ?_|refine aH.bI (bA (a.getD k 0) (b.getD k 0) (na.get k) (nb.get k)) ?_|refine aF.mk (bC.dI (bA (a.getD k 0) (b.getD k 0) (na.get k) (nb.get k))) ?_
  simp -dsimp -implicitDefEqProofs only[go_sem,↓reduceIte,Tryz.f33]
  first|refine aH.mk (gY s (a.getD k 0*b.getD k 0%1000003)) ?_|refine aF.mk (gY s (a.getD k 0*b.getD k 0%1000003)) ?_|refine aH.bI (gY s (a.getD k 0*b.getD k 0%1000003)) ?_|refine aF.mk (bC.dI (gY s (a.getD k 0*b.getD k 0%1000003))) ?_
  simp -dsimp -implicitDefEqProofs only[go_sem,↓reduceIte,Tryz.f33]
  refine⟨(k+1,(s+a.getD k 0*b.getD k 0%1000003)%1000003),⟨rfl,IntWalk.i64_in _ aA⟩,⟨hlt,by simp only;omega,?_⟩,by simp only;omega⟩
  exact(Cg.mod _).trans (hc.add (Cg.mod _))
 ·obtain rfl:k=a.length:=by omega
  simp -dsimp -implicitDefEqProofs only[go_sem,↓reduceIte,Tryz.f33,bU,cT]
  have:s=0:=(hc.trans hz).num nD (by unfold iW;decide)
  rw[this]
  exact λ_=>rfl
theorem a6S {p:aG} {f:Int} {args L:List Int} {F:dO} {u:Nat} (na:dW args) (T:aMX p f args L F u) {i o:Nat} (ho:o<L.length):(wE p f args i).getD o 0=(lR 2 (dX args (eQ args.length i)) F.code (L.getD o 0).toNat).getD 1 0:=by
 rw[wE,T.ev 2 _ bO (aPF na i),aDX,a4V]
 simp only[if_true]
 rw[gG,qR,qR,eY ho,gG (l:=L),eY ho];rfl
theorem bA1 {A:List (List Int)} (hA:∀ s∈A,1<=s.length/\s.length<=1048576) (hal:A.length<=1048576):fE Tryz.prog 89 [bW A] (bW (A.map λs=>s.drop 1)):=by
 refine lS 22 aXK bC5 cF Tryz.func89 λh=>?_
 simp -dsimp -implicitDefEqProofs only[go_sem,↓reduceIte,Tryz.f89]
 refine⟨bD,?_⟩
 have hcl:(A.map λs=>s.drop 1).length=A.length:=gT _
 refine cM aXK bC5 cF (λx:Nat×Option Nat=>[(0,bW A),(3,fT 1 ((A.map λs=>s.drop 1).take x.1).length x.2),(4,I x.1)]) (λx=>cP h (.row 1 ((((A.map λs=>s.drop 1).take x.1).map λn=>[ints n]).map (List.map .v))) x.2) (λx=>x.1<=A.length/\eM h ((A.map λs=>s.drop 1).take x.1) x.2) (λx=>A.length-x.1) (0,none) ⟨by simp[cR,b6,fT],by simp only[aL];exact aB.le_refl _,eF _,by simp[eM]⟩ ?_
 rintro⟨k,o⟩ ⟨hk,hos⟩
 simp only at hk hos ⊢
 rcases bT k A.length with hlt|hge
 ·have ea:A[k]?=some A[k]:=eY hlt
  have hsl:=hA _ (kM hlt)
  have hy:(A.map λs=>s.drop 1).take (k+1)=(A.map λs=>s.drop 1).take k++[(A.map λs=>s.drop 1)[k]'aA]:=jF aA
  have hlk:((A.map λs=>s.drop 1).take k).length=k:=by rw[mX];omega
  rw[rU]at hy
  have hown:=tB (A[k].drop 1) (by rw[List.length_drop];omega)
  cases o with
  |none =>
   rw[aY]at hos
   rw[hos]at hy ⊢
   simp -dsimp -implicitDefEqProofs only[go_sem,↓reduceIte,Tryz.f89,bE,aL,hlt,ea]
   refine λ_=>⟨by omega,bX _,?_⟩
   rw[nI dG,show Int.toNat 1=1 from rfl,←List.map_drop]
   first|refine aH.mk (hown) ?_|refine aF.mk (hown) ?_|refine aH.bI (hown) ?_|refine aF.mk (bC.dI (hown)) ?_
   simp -dsimp -implicitDefEqProofs only[go_sem,↓reduceIte,Tryz.f89]
   repeat'(with_reducible first|intro _|refine And.intro ?_ ?_)
   all_goals try(first|omega|decide)
   rename_i b hb
   refine⟨(k+1,some b),?_⟩
   simp only[hy]
   refine⟨⟨rfl,?_⟩,aB.le_refl _,⟨by omega,hb⟩,by omega⟩
   rw[IntWalk.i64_in _ aA];rfl
  |some n =>
   rw[aQ]at hos
   simp -dsimp -implicitDefEqProofs only[go_sem,↓reduceIte,Tryz.f89,aR,aJ,hlt,ea]
   refine λ_=>⟨by omega,bX _,?_⟩
   rw[nI dG,show Int.toNat 1=1 from rfl,←List.map_drop]
   first|refine aH.mk (hown) ?_|refine aF.mk (hown) ?_|refine aH.bI (hown) ?_|refine aF.mk (bC.dI (hown)) ?_
   simp -dsimp -implicitDefEqProofs only[go_sem,↓reduceIte,Tryz.f89]
   repeat'(with_reducible first|intro _|refine And.intro ?_ ?_)
   all_goals try(first|omega|decide|exact bX _)
   rename_i b hb
   refine⟨(k+1,some b),?_⟩
   simp only[hy,aJ,aR,aQ]
   refine⟨⟨by rw[gD];rfl,?_⟩,?_,⟨by omega,hb.2⟩,by omega⟩
   ·rw[IntWalk.i64_in _ aA];rfl
   ·rw[←dZ];exact jC hos
 ·have hk':k=A.length:=by omega
  subst hk'
  rw[nI aA]at hos ⊢
  cases o with
  |none =>
   rw[aY]at hos
   simp -dsimp -implicitDefEqProofs only[go_sem,↓reduceIte,Tryz.f89,bE,aL,bU,cT]
   rw[hos]
   exact λ_=>Shift.of (Sub.loose _ _ _) (aB.le_refl _)
  |some m =>
   rw[aQ]at hos
   simp -dsimp -implicitDefEqProofs only[go_sem,↓reduceIte,Tryz.f89,aR,aJ,bU,cT]
   refine λ_=>kS ((A.map λs=>s.drop 1).map λn=>[ints n]) hos (aB.le_refl _) aH3 ?_
   simp[aE.fG,l5,nI]
theorem bA2 {p:aG} {f:Int} {start:List Int} (h0:iR p f eqP=0) (hS:aTD p f start) {L:List Int} {F:dO} {u:Nat} (hr:oE p f (0::start)=.ok ((L,F),u)):∀ o,o<start.length->∀ k,k<start.length->(wE p f (0::start) (k+1)).getD o 0=(mN L F 2 (cJ start 2) o k).getD 0 0:=λo ho k hk=>by
 obtain⟨G2,hel⟩:=rN (sz:=2) bO h0 hS
 have hy:=iI start 2 bO
 have hr2:oE p f (hdY (cJ start 2))=.ok ((L,F),u):=by rw[hy];exact hr
 obtain⟨T,hL⟩:=G2.tape hr2
 have na:dW (0::start):=hy▸G2.ns
 have hpar:∀ H,p.aK[f.toNat]?=some H->((0::start).length:Int)=H.aW:=hy▸G2.par
 have hst:St (0::start) 2 (tS 2::cJ start 2):=hy▸G2.st
 rw[hy]at T
 rw[hel]at hL
 rw[a6S na T aA]
 have h2:=aFK T.ins T.outs (o:=o) aA (uR T.ins hst.1) na rfl (λi k hk=>by rw[aKG G2.ok G2.fn na hpar hr bO (aPF na i) hk,←aKG G2.ok G2.fn na hpar hr bO hst hk];rfl) (i:=k+1) sP
 rw[←h2,mN,qQ,if_pos aA,aN,gG (l:=List.map _ _),qR,tC,qR,al9 aA]
 simp only[aBT,aEO,hel]
 rw[gG (l:=List.drop _ _),aHW,←gG,Nat.add_comm 1 k]
 rfl
theorem a1V (l:List Int) {k:Nat} (hk:k<l.length):((l.map λn=>[n]).getD k []).getD 0 0=l.getD k 0:=by
 simp[gG,qR,eY hk]
def aLL (p:aG) (f:Int) (start:List Int):List (List Int):=(xC (wE p f (0::start)) start.length (start.length+1) 0).map λs=>s.drop 1
theorem aZJ (p:aG) (f:Int) (start:List Int) {o:Nat} (ho:o<start.length):(aLL p f start).getD o []=(List.range start.length).map λk=>(wE p f (0::start) (k+1)).getD o 0:=by
 rw[aLL,gG,qR,xC,qR,al9 ho]
 simp only[aBT,aEO,if_neg (aP5 o)]
 apply u4
 ·simp
 ·intro i a b
  simp[List.getElem_drop,Nat.add_comm 1 i]
theorem a6T (p:aG) (f:Int) (start:List Int):(aLL p f start).length=start.length:=by rw[aLL,gT,aAF]
@[go_sem] def aCI:List Nat:=[0,1,2,3,4,8,9,10,11,12,14,15,17,18,19,20,21,23,24,25,26,47,49,63,69,76,88,94,109,128,148]
@[go_sem] def aVL:List Nat:=[4,50,52,54,64,77,89,90,105,124,140]
@[go_sem] def aVM:Marks:=λid=>match id with|37=>([3,10],(.op 0 (.op 1 (.op 2 (.op 4 (.op 5 (.op 6 (.op 7 (.op 8 (.op 3 (.op 9 (.op 10 .nil))))))))))),[])|_=>([],.nil,[])
set_option maxHeartbeats 4000000 in
theorem aGT (p:aG) (hps:p.s<=4194304) (f:Int) (start:List Int) (hl:start.length<=1048576):fE Tryz.prog 25 [.agg p.c,I f,ints start,I 1] (.gU [.any,I (fN p f start).2]):=by
 have heq:=aTA p hps f
 by_cases h0:iR p f eqP=0
 ·obtain⟨h1,h2,F0,ef,e1,e2,e3⟩:=yF h0
  rw[h0]at heq
  have e4:=aVE e3
  have eP:IntKind.i64.wrap (F0.aW-1)=F0.aW-1:=IntWalk.i64_in _ aA
  simp only[aG.aZ]at heq ⊢
  refine lS 162 aCI aVL aVM Tryz.func25 λh=>?_
  simp -dsimp -implicitDefEqProofs only[go_sem,↓reduceIte,Tryz.f25]
  first|refine aH.mk (heq) ?_|refine aF.mk (heq) ?_|refine aH.bI (heq) ?_|refine aF.mk (bC.dI (heq)) ?_
  simp -dsimp -implicitDefEqProofs only[go_sem,↓reduceIte,Tryz.f25,ef,aX.aZ,eP]
  refine⟨h2.1,h2.2,?_⟩
  first|refine aH.mk (yG start (F0.aW-1)) ?_|refine aF.mk (yG start (F0.aW-1)) ?_|refine aH.bI (yG start (F0.aW-1)) ?_|refine aF.mk (bC.dI (yG start (F0.aW-1))) ?_
  simp -dsimp -implicitDefEqProofs only[go_sem,↓reduceIte,Tryz.f25,ef,aX.aZ,eP]
  refine⟨λh3=>?_,λh3=>⟨by decide,?_⟩⟩
  ·have hS:aTD p f start:=⟨by rw[e1];exact h3.1,h3.2⟩
   obtain⟨G1,aKH⟩:=rN (sz:=1) bO h0 hS
   obtain⟨G2,r8⟩:=rN (sz:=2) bO h0 hS
   have hy1:=iI start 1 bO
   have na:dW (0::start):=hy1▸G1.ns
   have hpar:∀ H,p.aK[f.toNat]?=some H->((0::start).length:Int)=H.aW:=hy1▸G1.par
   have hn:=G1.hn
   rw[aKH]at hn
   have hal:(0::start).length<=12:=by simp;omega
   have qF:=aZA h1 f h2 (0::start) na hal hpar
   have hne:¬start=[]:=λq=>by rw[q]at hn;simp at hn
   first|refine aH.mk (fF 1 0 12) ?_|refine aF.mk (fF 1 0 12) ?_|refine aH.bI (fF 1 0 12) ?_|refine aF.mk (bC.dI (fF 1 0 12)) ?_
   simp -dsimp -implicitDefEqProofs only[go_sem,↓reduceIte,Tryz.f25]
   refine⟨by decide,by decide,by decide,λq=>absurd (aV7.1 q) hne,λ_=>⟨by omega,by omega,λn hn0=>⟨ints (0::start),h,eT (0::start) hn0 (aB.le_refl _) aQC,?_⟩⟩⟩
   cases hr:oE p f (0::start)with
   |error c =>
    have he:=(aEE h1 h2 na hpar hr).1
    have hc:=aDV p 1 f _ c he
    have e:fN p f start=([],c):=by rw[fN,if_pos h0,if_pos hS,hr]
    rw[he,show sT (.error c)=([],0,c)from rfl,aG.aZ]at qF
    first|refine aH.mk (qF) ?_|refine aF.mk (qF) ?_|refine aH.bI (qF) ?_|refine aF.mk (bC.dI (qF)) ?_
    simp -dsimp -implicitDefEqProofs only[go_sem,↓reduceIte,Tryz.f25]
    rw[e]
    exact⟨λ_=>⟨by decide,Shift.of (Sub.gU (.cons (Sub.any _) (.cons (.refl _) .nil))) (aB.le_refl _)⟩,λq=>absurd hc aA⟩
   |ok z =>
    obtain⟨⟨L,F⟩,u⟩:=z
    have hr1:oE p f (hdY (cJ start 1))=.ok ((L,F),u):=by rw[hy1];exact hr
    have hr2:oE p f (hdY (cJ start 2))=.ok ((L,F),u):=by rw[iI start 2 bO];exact hr
    obtain⟨T,hL⟩:=G1.tape hr1
    rw[hy1]at T
    rw[aKH]at hL
    have bH8:St (0::start) 1 ((0::start).map λn=>[n]):=⟨⟨gT _,λs hs=>by
     obtain⟨x,hx,rfl⟩:=lA.1 hs
     exact⟨rfl,λy hy=>by rw[jL.1 hy];exact na x hx⟩⟩,λk hk=>a1V _ hk⟩
    have bH9:=T.ev 1 _ bO bH8
    have hjac:=bAI (aSZ h1 f h2 (0::start) hal na hpar bH9)
    have hol:(p.outs f).length=start.length:=by rw[←T.ll];exact hL
    have hvals:((L.map λr=>lR 1 ((0::start).map λn=>[n]) F.code r.toNat).map λs=>s.getD 0 0)=L.map λr=>F.fR.getD r.toNat 0:=by
     rw[yS]
     exact zE λr hm=>aKG h1 h2 na hpar hr bO bH8 (by have:=T.outs r hm;omega)
    rw[bH9,a53,hvals,aG.aZ]at qF
    rw[hol,aG.aZ,tT]at hjac
    have hmh:=aZI G1 G2 hr
    first|refine aH.mk (qF) ?_|refine aF.mk (qF) ?_|refine aH.bI (qF) ?_|refine aF.mk (bC.dI (qF)) ?_
    simp -dsimp -implicitDefEqProofs only[go_sem,↓reduceIte,Tryz.f25]
    have hvl:(L.map λr=>F.fR.getD r.toNat 0).length=start.length:=by rw[gT,hL]
    have hvo:∀ o,o<start.length->(L.map λr=>F.fR.getD r.toNat 0)[o]?=some (F.fR.getD (L.getD o 0).toNat 0):=λo ho=>by
     rw[qR,eY aA,gG (l:=L),eY aA];rfl
    generalize hV:(L.map λr=>F.fR.getD r.toNat 0)=V at *
    refine cM aCI aVL aVM (λk:Nat=>[(1,I f),(2,ints start),(3,I 1),(4,.ip 1 [[gF 3 aX.c p.aK]] 0 0),(11,ints (0::start)),(12,ints V),(14,I k)]) (λ_=>h) (λk=>k<=start.length/\∀ o,o<k->F.fR.getD (L.getD o 0).toNat 0=0) (λk=>start.length-k) 0 ⟨by simp[cR,b6],aB.le_refl _,eF _,λo ho=>absurd ho (aP5 _)⟩ ?_
    rintro k ⟨hk,hz⟩
    rcases bT k start.length with hlt|hge
    ·simp -dsimp -implicitDefEqProofs only[go_sem,↓reduceIte,Tryz.f25,hlt,hvl,hvo k hlt]
     refine λ_=>⟨λq=>⟨by decide,?_⟩,λq=>⟨k+1,IntWalk.i64_in _ aA,⟨hlt,λo ho=>?_⟩,by omega⟩⟩
     ·have e:fN p f start=([],4):=by rw[fN,if_pos h0,if_pos hS,hr];exact if_neg λz=>q (z k hlt)
      rw[e]
      exact Shift.of (Sub.gU (.cons (Sub.any _) (.cons (.refl _) .nil))) (aB.le_refl _)
     ·rcases bT o k with h5|h5
      ·exact hz o h5
      ·obtain rfl:o=k:=by omega
       exact q
    ·obtain rfl:k=start.length:=by omega
     have hsys:=bA2 h0 hS hr
     obtain⟨b1,b2,b3⟩:=G2.sys hr2
     rw[r8]at b1 b2 b3
     have hok:okM (bJ 2) start.length (mN L F 2 (cJ start 2)):=λi hi k hk=>by
      rw[mN,qQ]
      split
      ·exact((b2 i hi).get aA).2
      ·exact(b3.get hi).2
     have hRl:=a6T p f start
     have hRg:∀ i,i<start.length->∀ k,k<start.length->((aLL p f start).getD i []).getD k 0=(mN L F 2 (cJ start 2) i k).getD 0 0:=λi hi k hk=>by
      rw[aZJ p f start hi,←hsys i hi k hk,gG,qR,al9 hk];rfl
     have hRw:∀ i,i<start.length->((aLL p f start).getD i []).length=start.length:=λi hi=>by rw[aZJ p f start hi];simp
     have hRn:∀ i,i<start.length->dW ((aLL p f start).getD i []):=λi hi x hx=>by
      obtain⟨k,hk,e⟩:=wM.1 hx
      rw[hRw i hi]at hk
      have h5:=hRg i hi k hk
      rw[gG,eY (by rw[hRw i hi];exact hk),aEO,e]at h5
      rw[h5]
      exact(hok i hi k aA).2.get 0
     have hdet:=bHU (n:=start.length) aA hRl hRw hRn
     have hdz:aS7 start.length (λi k=>((aLL p f start).getD i []).getD k 0)=0↔sO p0 start.length (mN L F 2 (cJ start 2)) start.length=none :=
      (a6G (λi hi k hk=>(hRn i hi).get k) λ_=>0).trans (aAM (sz:=2) (w:=start.length) bO (bX _) (λi hi k hk=>hok i hi k aA) λi hi k hk=>by rw[qQ,if_pos hk,hRg i hi k hk]).symm
     have hrows:=bA1 (A:=xC (wE p f (0::start)) start.length (start.length+1) 0) (λs hs=>by
      obtain⟨r,hr',rfl⟩:=lA.1 hs
      simp;omega) (by rw[aAF];omega)
     rw[show((xC (wE p f (0::start)) start.length (start.length+1) 0).map λs=>s.drop 1)=aLL p f start from rfl]at hrows
     simp -dsimp -implicitDefEqProofs only[go_sem,↓reduceIte,Tryz.f25,bU,cT,hvl]
     intro hbig
     clear hbig
     first|refine aH.mk (hjac) ?_|refine aF.mk (hjac) ?_|refine aH.bI (hjac) ?_|refine aF.mk (bC.dI (hjac)) ?_
     simp -dsimp -implicitDefEqProofs only[go_sem,↓reduceIte,Tryz.f25]
     first|refine aH.mk (hrows) ?_|refine aF.mk (hrows) ?_|refine aH.bI (hrows) ?_|refine aF.mk (bC.dI (hrows)) ?_
     simp -dsimp -implicitDefEqProofs only[go_sem,↓reduceIte,Tryz.f25]
     first|refine aH.mk (hdet) ?_|refine aF.mk (hdet) ?_|refine aH.bI (hdet) ?_|refine aF.mk (bC.dI (hdet)) ?_
     simp -dsimp -implicitDefEqProofs only[go_sem,↓reduceIte,Tryz.f25]
     refine⟨λhd0=>⟨by decide,?_⟩,λhd0=>⟨by decide,?_⟩⟩
     ·have e:fN p f start=([],6):=by
       have hnf:(fK start.length (mN L F 2 (cJ start 2)) (cJ start 2)).2=false:=by rw[fK,hdz.1 hd0]
       rw[fN,if_pos h0,if_pos hS,hr]
       simp only[if_pos hz,hnf]
       rfl
      rw[e]
      exact Shift.of (Sub.gU (.cons (Sub.any _) (.cons (.refl _) .nil))) (aB.le_refl _)
     have e:(fN p f start).2=0:=by
      cases hg:sO p0 start.length (mN L F 2 (cJ start 2)) start.length with
      |none=>exact absurd (hdz.2 hg) hd0
      |some A =>
       have hnf:(fK start.length (mN L F 2 (cJ start 2)) (cJ start 2)).2=true:=by rw[fK,hg]
       rw[fN,if_pos h0,if_pos hS,hr]
       simp only[if_pos hz,hnf]
       rfl
     rw[e]
     obtain⟨R,hR⟩:∃ R,R=aLL p f start:=⟨_,rfl⟩
     rw[←hR]at hRl hRw hRn hd0 ⊢
     clear heq e1 e2 e3 e4 eP h3 hy1 hne hr1 bH8 bH9 hol hmh hV hvals hvl hvo hz hsys b1 b2 b3 hok hRg hdet hdz hrows hjac qF hk hge e hl hps aKH G1 hS hal
     have hel:(cJ start 2).length=start.length:=by simp[cJ]
     refine cM aCI aVL aVM (λx:Nat×LLx=>[(1,I f),(2,ints start),(3,I 1),(4,.ip 1 [[gF 3 aX.c p.aK]] 0 0),(17,bW R),(18,fT 1 x.1 x.2.1),(19,I x.1)]) (λx=>LLH x.2) (λx=>x.1<=start.length/\LLG h ((cJ start 2).take x.1) x.2) (λx=>start.length-x.1) (0,none,[],h) ⟨by simp[cR,b6,fT],aB.le_refl _,eF _,LLG.init _⟩ ?_
     rintro⟨k,op,es,g⟩ ⟨hk,H⟩
     simp only at hk H ⊢
     rcases bT k start.length with hlt|hge
     ·have ea:start[k]?=some start[k]:=eY hlt
      have hy:(cJ start 2).take (k+1)=(cJ start 2).take k++[cS start[k] 2]:=by
       rw[jF aA];simp[cJ]
      have hlk:((cJ start 2).take k).length=k:=by rw[mX];omega
      have r8:=H.len
      simp only[hlk]at r8
      have hown:=aMY start[k] (sz:=2) bO
      have hc2:=pL start[k] 2
      obtain⟨z2,hz2⟩:∃ z,z=2:=⟨_,rfl⟩
      have hc:(cS start[k] 2).length=z2:=by rw[hz2,hc2]
      have w2':IntKind.i64.wrap (1+1)=((2:Nat):Int):=rfl
      cases op with
      |none =>
       obtain⟨h1',rfl,rfl⟩:=H.nil
       obtain rfl:k=0:=by rw[←hlk,h1'];rfl
       simp -dsimp -implicitDefEqProofs only[go_sem,↓reduceIte,Tryz.f25,hlt,ea,bE,LLH,aL,w2']
       intro _
       refine aH.wn0 (hown) ?_
       rintro r_ l_ g ⟨y_,oy_,rfl,rfl⟩ wn_
       rcases oy_.y5 with⟨_,q_⟩|⟨m,rfl⟩
       ·rw[q_]at hc;simp at hc;omega
       rw[OV.iZ]
       rw[OV.eD,gP,fQ]at wn_
       obtain⟨zm,rfl⟩:=wn_.rL
       simp -dsimp -implicitDefEqProofs only[go_sem,↓reduceIte,Tryz.f25,hc2,bE]
       refine⟨bD,bD,bD,λb ⟨b1,b2⟩=>?_⟩
       obtain⟨x',e',H',L'⟩:=H.fin (m:=m) (b:=b) (s:=cS start[0] 2) (hc2) zm b2 b1 (aB.le_refl _)
       refine⟨(1,x'),⟨by simp only[e'];rfl,IntWalk.i64_in _ aA⟩,L',⟨hlt,by simp only;rw[hy];exact H'⟩,by simp only;omega⟩
      |some n =>
       simp -dsimp -implicitDefEqProofs only[go_sem,↓reduceIte,Tryz.f25,hlt,ea,aR,LLH,aJ,cO,r8,w2']
       intro _
       refine aH.wn1 (hown) H.2.2 ?_
       rintro r_ l_ g' ⟨y_,oy_,rfl,rfl⟩ wn_ zn
       rcases oy_.y5 with⟨_,q_⟩|⟨m,rfl⟩
       ·rw[q_]at hc;simp at hc;omega
       rw[OV.iZ]
       rw[OV.eD,gP,fQ]at wn_
       obtain⟨zm,rfl⟩:=wn_.rL
       obtain⟨yZ,kW,kX,aGA⟩:=cW (show ¬m=n from λe=>by rw[e,aI]at zn;cases zn)
       simp -dsimp -implicitDefEqProofs only[go_sem,↓reduceIte,Tryz.f25,hc2,kW,kX,aC,cO,r8,aR]
       refine⟨bD,bD,bD,bX _,by omega,by omega,λb ⟨bn,bm,bz⟩=>?_⟩
       rw[show List.take k (OV.cells es)=OV.cells es from r8▸eH es]
       refine⟨(k+1,some b,es++[oI m (cS start[k] 2)],aU g m (mE (cS start[k] 2))),⟨rfl,IntWalk.i64_in _ aA⟩,?_,⟨hlt,by simp only;rw[hy];exact H.snoc (cS start[k] 2) zm bz bm⟩,by simp only;omega⟩
       show(LLH (some b,es++[oI m (cS start[k] 2)],aU g m (mE (cS start[k] 2)))).le _
       rw[LLH.snoc,show List.length (cS start[k] 2)=_ from hc2]
       exact aO9 H.2.2 yZ bn (λq hq=>by simp only[gB,if_neg hq];(repeat' split) <;> first|rfl|contradiction)
     ·obtain rfl:k=start.length:=by omega
      simp -dsimp -implicitDefEqProofs only[go_sem,↓reduceIte,Tryz.f25,bU,cT]
      intro hbig
      clear hbig hk hge
      rw[nI aA]at H
      obtain⟨y,hy,hv,hw⟩:=H.done
      rw[hel]at hv
      generalize LLH (op,es,g)=G0 at *
      rw[←hv]
      rcases hy with⟨rfl,h0'⟩|⟨b,es,rfl,hes⟩
      ·rw[h0']at hel;simp at hel;omega
      have bOF:es.length=start.length:=by rw[←hes.length,hel]
      rw[OV.z7,bOF]
      have hnw:fH h (OV.bY [OV.sl b 1 es]) G0:=by rw[OV.eC,OV.hJ,dP];exact hw
      have hX:=G2.st
      rw[iI start 2 bO]at hX
      have hW:=T.ev 2 _ bO hX
      have a6U:dH 2 start.length (cJ start 2):=⟨hel,λs hs=>by obtain⟨x,hx,rfl⟩:=lA.1 hs;exact fS (na x (.tail _ hx))⟩
      have hcut:=bAL (cJ start 2) (sz:=2) (k:=2) a6U.2 bO bO aA
      have hcute:(cJ start 2).map (λs=>s.take 2)=cJ start 2:=by
       conv=>rhs;rw[←List.map_id (cJ start 2)]
       exact zE λs hs=>nI (by rw[(a6U.2 s hs).1];exact bX _)
      rw[hcute]at hcut
      have hwith:=bAX (y:=cJ start 2) (sz:=2) (by rw[hel];exact a6U) aA bO
      have a1W:=aZB h1 (sz:=2) bO f h2 (tS 2::cJ start 2) hX.1.2 (λH hH=>by rw[hX.1.1];exact hpar H hH)
      rw[hW,show aDX (.ok ((L.map λr=>lR 2 (tS 2::cJ start 2) F.code r.toNat),u))=((L.map λr=>lR 2 (tS 2::cJ start 2) F.code r.toNat),(u:Int),0)from rfl,aG.aZ]at a1W
      have hWs:dH 2 start.length (L.map λr=>lR 2 (tS 2::cJ start 2) F.code r.toNat):=⟨by rw[gT,hL],λs hs=>by
       obtain⟨r,hm,rfl⟩:=lA.1 hs
       exact s9 T.ins hX.1.2 (by rw[hX.1.1]) _ (by have:=T.outs r hm;omega)⟩
      generalize (L.map λr=>lR 2 (tS 2::cJ start 2) F.code r.toNat)=W at a1W hWs
      refine cM aCI aVL aVM (λx:Nat×List (List Int)×List (List OV)×aB=>[(1,I f),(3,I 1),(4,.ip 1 [[gF 3 aX.c p.aK]] 0 0),(17,bW R),(18,.os b 1 0 start.length),(20,I ((x.1:Int)+1))]) (λx=>x.2.2.2) (λx=>x.1<=1/\(x.1=0->x.2.1=cJ start 2)/\dH 2 start.length x.2.1/\OR (oL I) x.2.1 x.2.2.1/\fH h (OV.bY [OV.sl b 1 x.2.2.1]) x.2.2.2) (λx=>1-x.1) (0,cJ start 2,es,G0) ⟨by simp[cR,b6],aB.le_refl _,eF _,λ_=>rfl,a6U,hes,hnw⟩ ?_
      clear hes hnw hw hv hX hW hcute hpar T G2 r8 na H bOF hL h0 h1 h2 hr hr2 ef
      rintro⟨k,Y,es,g⟩ ⟨hk,hY0,hYs,hes,hnw⟩
      simp only at hk hY0 hYs hes hnw ⊢
      have hgb:g b=some (.row 1 (OV.cells es)):=hnw.aXS []
      have hesl:es.length=start.length:=by rw[←hes.length,hYs.1]
      have hk2:k=0∨k=1:=by omega
      rcases hk2 with rfl|rfl
      ·obtain rfl:=hY0 rfl
       as_aux_lemma =>
        have w2k:IntKind.i64.wrap (((0:Nat):Int)+1+1)=((2:Nat):Int):=rfl
        simp -dsimp -implicitDefEqProofs only[go_sem,↓reduceIte,Tryz.f25,w2k]
        refine⟨λ_=>?_,λq=>absurd bO q⟩
        refine aH.bHG hcut (lQ.cons (a1K hes hnw hel.symm) (lQ.cons (View.same _ _) lQ.nil)) ?_
        simp -dsimp -implicitDefEqProofs only[go_sem,↓reduceIte,Tryz.f25]
        first|refine aH.mk (hwith) ?_|refine aF.mk (hwith) ?_|refine aH.bI (hwith) ?_|refine aF.mk (bC.dI (hwith)) ?_
        simp -dsimp -implicitDefEqProofs only[go_sem,↓reduceIte,Tryz.f25,w2k]
        first|refine aH.mk (a1W) ?_|refine aF.mk (a1W) ?_|refine aH.bI (a1W) ?_|refine aF.mk (bC.dI (a1W)) ?_
        simp -dsimp -implicitDefEqProofs only[go_sem,↓reduceIte,Tryz.f25,w2k]
        refine⟨bD,?_⟩
        obtain⟨Q,hQ⟩:∃ Q:List Int,Q=iN start.length λi=>(0-(W.getD i []).getD 1 0)%1000003:=⟨_,rfl⟩
        have hQl:Q.length=start.length:=by rw[hQ,cX]
        have hQn:dW Q:=λx hx=>by
         rw[hQ]at hx
         obtain⟨i,_,rfl⟩:=lA.1 hx
         exact eO _
        obtain⟨A0,hA0⟩:∃ A0,sO gC start.length (qQ start.length (λi k=>(R.getD i []).getD k 0) λi=>Q.getD i 0) start.length=some A0:=by
         cases hq:sO gC start.length (qQ start.length (λi k=>(R.getD i []).getD k 0) λi=>Q.getD i 0) start.length with
         |none=>exact absurd ((a6G (λi hi k hk=>(hRn i hi).get k) λi=>Q.getD i 0).2 hq) hd0
         |some A0=>exact⟨A0,rfl⟩
        have hsolve:=a59 (n:=start.length) aA hRl hRw hRn hQl hQn hA0
        have hNl:(iN start.length λi=>A0 i start.length).length=start.length:=cX _ _
        have hNn:dW (iN start.length λi=>A0 i start.length):=λx hx=>by
         obtain⟨i,hi,rfl⟩:=lA.1 hx
         have hi:=aGK.1 hi
         have hokN:okM iW start.length (qQ start.length (λi k=>(R.getD i []).getD k 0) λi=>Q.getD i 0):=bHD (λi hi k hk=>(hRn i hi).get k) λi hi=>hQn.get i
         exact(aEA aY8 hokN start.length (bX _) A0 hA0).1 i hi start.length (bX _)
        generalize (iN start.length λi=>A0 i start.length)=Nw at hsolve hNl hNn
        refine cM aCI aVL aVM (λx:Nat×Option Nat=>[(1,I f),(3,I 1),(4,.ip 1 [[gF 3 aX.c p.aK]] 0 0),(17,bW R),(18,.os b 1 0 start.length),(20,I 1),(21,bW W),(23,fT 1 (Q.take x.1).length x.2),(24,I x.1)]) (λx=>cP g (.row 1 (((Q.take x.1).map λn=>[I n]).map (List.map .v))) x.2) (λx=>x.1<=start.length/\eM g (Q.take x.1) x.2) (λx=>start.length-x.1) (0,none) ⟨by simp[cR,b6,fT],by simp only[aL];exact aB.le_refl _,eF _,by simp[eM]⟩ ?_
        rintro⟨k,o⟩ ⟨hi,hos⟩
        simp only at hi hos ⊢
        have hWl:=hWs.1
        rcases bT k start.length with jO|aFB
        ·have hWk:=hWs.get jO
         have e1:(W.getD k [])[Int.toNat 1]?=some ((W.getD k []).getD 1 0):=cQ (by rw[hWk.2.1];decide)
         have ewl:=hWk.2.1
         have hneg:=aJ8 ((W.getD k []).getD 1 0) (hWk.2.2.get 1)
         have hy:Q.take (k+1)=Q.take k++[(0-(W.getD k []).getD 1 0)%1000003]:=by
          rw[jF aA]
          congr 2
          simp[hQ,iN]
         have hlk:(Q.take k).length=k:=by rw[mX];omega
         cases o with
         |none =>
          rw[aY]at hos
          rw[hos]at hy ⊢
          simp -dsimp -implicitDefEqProofs only[go_sem,↓reduceIte,Tryz.f25,bE,aL,jO,hWl,hWk.1,e1,ewl]
          refine λ_=>⟨by decide,?_⟩
          first|refine aH.mk (hneg) ?_|refine aF.mk (hneg) ?_|refine aH.bI (hneg) ?_|refine aF.mk (bC.dI (hneg)) ?_
          simp -dsimp -implicitDefEqProofs only[go_sem,↓reduceIte,Tryz.f25]
          repeat'(with_reducible first|intro _|refine And.intro ?_ ?_)
          all_goals try(first|omega|decide)
          rename_i b hb
          refine⟨(k+1,some b),?_⟩
          simp only[hy]
          refine⟨⟨rfl,?_⟩,aB.le_refl _,⟨by omega,hb⟩,by omega⟩
          rw[IntWalk.i64_in _ aA];rfl
         |some m =>
          rw[aQ]at hos
          simp -dsimp -implicitDefEqProofs only[go_sem,↓reduceIte,Tryz.f25,aR,aJ,jO,hWl,hWk.1,e1,ewl]
          refine λ_=>⟨by decide,?_⟩
          first|refine aH.mk (hneg) ?_|refine aF.mk (hneg) ?_|refine aH.bI (hneg) ?_|refine aF.mk (bC.dI (hneg)) ?_
          simp -dsimp -implicitDefEqProofs only[go_sem,↓reduceIte,Tryz.f25]
          repeat'(with_reducible first|intro _|refine And.intro ?_ ?_)
          all_goals try(first|omega|decide|exact bX _)
          rename_i b hb
          refine⟨(k+1,some b),?_⟩
          simp only[hy,aJ,aR,aQ]
          refine⟨⟨by rw[gD];rfl,?_⟩,?_,⟨by omega,hb.2⟩,by omega⟩
          ·rw[IntWalk.i64_in _ aA];rfl
          ·rw[←dZ];exact jC hos
        ·obtain rfl:k=start.length:=by omega
         have htk:Q.take start.length=Q:=nI aA
         rw[htk]at hos
         cases o with
         |none =>
          rw[aY]at hos
          rw[hos]at hQl;simp at hQl;omega
         |some m =>
          rw[aQ]at hos
          as_aux_lemma =>
           simp -dsimp -implicitDefEqProofs only[go_sem,↓reduceIte,Tryz.f25,aR,aJ,bU,cT,hWl,htk]
           intro _
           refine aH.a4T (es:=Q.map λn=>[I n]) hsolve (by simp[j6,jB]) (by simp[l5,aE.fG,nI]) ?_
           simp -dsimp -implicitDefEqProofs only[go_sem,↓reduceIte,Tryz.f25]
           refine cM aCI aVL aVM (λx:Nat×List (List Int)×List (List OV)×aB=>[(1,I f),(3,I 1),(4,.ip 1 [[gF 3 aX.c p.aK]] 0 0),(17,bW R),(18,.os b 1 0 start.length),(20,I 1),(25,ints Nw),(26,I x.1)]) (λx=>x.2.2.2) (λx=>x.1<=start.length/\dH 2 start.length x.2.1/\OR (oL I) x.2.1 x.2.2.1/\fH h (OV.bY [OV.sl b 1 x.2.2.1]) x.2.2.2) (λx=>start.length-x.1) (0,cJ start 2,es,g) ⟨by simp[cR,b6],aB.bM hos (aB.le_refl _),eF _,a6U,hes,hnw⟩ ?_
           clear hes hnw hgb hesl hos
           rintro⟨i,Y,es,g⟩ ⟨hi,hYs,hes,hnw⟩
           simp only at hi hYs hes hnw ⊢
           have hgb:g b=some (.row 1 (OV.cells es)):=hnw.aXS []
           have hesl:es.length=start.length:=by rw[←hes.length,hYs.1]
           rcases bT i start.length with aGS|bUI
           ·obtain⟨m,q1,q2,q3,q4⟩:=bHL hes hnw hYs bO aGS
            have hYi:=(hYs.get aGS).2
            have hpl:=hYi.1
            have eN:=cQ (l:=Nw) (i:=i) aA
            have epk:(Y.getD i [])[Int.toNat 1]?=some ((Y.getD i []).getD 1 0):=cQ (by rw[hpl];decide)
            obtain⟨uN,nC,nB,vM⟩:=cW (show ¬m=b from q4)
            simp -dsimp -implicitDefEqProofs only[go_sem,↓reduceIte,Tryz.f25,aGS,hgb,cO,hesl,q2,q3,eN,hNl,mE,hpl,epk]
            rw[show Int.toNat 1=1 from rfl,qM I]
            have hpe:=hnw.bN4 ((Y.getD i []).set 1 (Nw.getD i 0)) q1 (by rw[tW])
            have hsr:bJ 2 ((Y.getD i []).set 1 (Nw.getD i 0)):=⟨by rw[tW];exact hpl,λx hx=>by
             rcases wJ hx with hx|rfl
             ·exact hYi.2 x hx
             ·exact hNn.get i⟩
            exact λ_=>⟨by decide,(i+1,Y.set i ((Y.getD i []).set 1 (Nw.getD i 0)),es.set i (oI m ((Y.getD i []).set 1 (Nw.getD i 0))),aU g m (mE ((Y.getD i []).set 1 (Nw.getD i 0)))),IntWalk.i64_in _ aA,aB.le_refl _,⟨aGS,hYs.set hsr i,hes.set i _ _ (bN0 m _),hpe.1⟩,by simp only;omega⟩
           ·obtain rfl:i=start.length:=by omega
            simp -dsimp -implicitDefEqProofs only[go_sem,↓reduceIte,Tryz.f25,bU,cT,hesl]
            exact λ_=>⟨(1,Y,es,g),rfl,aB.le_refl _,⟨bX _,(λq=>absurd (show(1:Nat)=0 from q) bO),hYs,hes,hnw⟩,(show 1-1<1 by decide)⟩
      ·simp -dsimp -implicitDefEqProofs only[go_sem,↓reduceIte,Tryz.f25]
       refine⟨λq=>absurd q bO,λ_=>Shift.of (Sub.gU (.cons (Sub.any _) (.cons (.refl _) .nil))) hnw.le⟩
  ·have e:fN p f start=([],2):=by rw[fN,if_pos h0,if_neg λq=>h3 ⟨by rw[←e1];exact q.1,q.2⟩]
   rw[e]
   exact Shift.of (Sub.gU (.cons (Sub.any _) (.cons (.refl _) .nil))) (aB.le_refl _)
 ·have e:fN p f start=([],iR p f eqP):=by rw[fN,if_neg h0]
  generalize iR p f eqP=c at *
  simp only[aG.aZ]at heq ⊢
  refine lS 162 aCI aVL aVM Tryz.func25 λh=>?_
  simp -dsimp -implicitDefEqProofs only[go_sem,↓reduceIte,Tryz.f25]
  first|refine aH.mk (heq) ?_|refine aF.mk (heq) ?_|refine aH.bI (heq) ?_|refine aF.mk (bC.dI (heq)) ?_
  simp -dsimp -implicitDefEqProofs only[go_sem,↓reduceIte,Tryz.f25,h0]
  rw[e]
  exact⟨by decide,Shift.of (Sub.gU (.cons (Sub.any _) (.cons (.refl _) .nil))) (aB.le_refl _)⟩
def bOG (p:aG) (ns ng np:Nat) (c:List Int) (pl:Bool) (vars:Int) (dp:Nat) (B:aB) (R:Nat->Nat->Int->Prop):aE->aB->Prop:=λr h' =>
 ∃ (x:aD) (e:List OV) (g':aB) (a':Nat) (sd' L':Int),x.o e/\r=.agg (e.map OV.val)/\fH B (OV.bY e) g'/\(g' ns=none/\g' ng=none)/\h'=aU (aU g' ns (jK c a' sd')) ng (kT ns np L' pl) /\
  x.ok p p.aK.length vars/\x.d<=dp+1/\R x.s a' L'
def bA3 (p:aG) (ns ng np:Nat) (c:List Int) (pl:Bool) (vars:Int) (dp a:Nat) (L:Int) (B:aB):aE->aB->Prop :=
 bOG p ns ng np c pl vars dp B λs a' L'=>(L'<=L-1/\L-(s+1)<=L'/\s+3*mL L'<=3*mL L)/\(a<=a'/\a'<=a+14*(s+1))
def a6V (p:aG) (ns ng np:Nat) (c:List Int) (pl:Bool) (vars:Int) (dp a:Nat) (L:Int) (B:aB):aE->aB->Prop :=
 bOG p ns ng np c pl vars dp B λs a' L'=>(L'<=L/\L-s<=L'/\s+3*mL L'<=3*mL L+3)/\(a<=a'/\a'<=a+10+14*s)
def a6W (dp a:Nat) (vars L:Int):Prop:=(0<=vars/\vars+dp<=1000)/\a+42*mL L+100*dp<=800000000/\(-2000000+10000*(dp:Int)<=L/\L<=1000)
def a6X (P:Program) (f:FuncId) (p:aG) (ns ng np:Nat) (c:List Int) (pl:Bool) (dp:Nat):Prop:=∀ (vars:Int) (B:aB) (a:Nat) (sd L:Int),B ns=none->B ng=none->aAI p np B->a6W dp a vars L ->
 iV P f [.op ng 4 0 0,I vars,I p.aK.length,I dp] (aU (aU B ns (jK c a sd)) ng (kT ns np L pl)) (bA3 p ns ng np c pl vars dp a L B)
def bEC (P:Program) (f:FuncId) (p:aG) (ns ng np:Nat) (c:List Int) (pl:Bool) (dp:Nat):Prop:=∀ (vars:Int) (B:aB) (a:Nat) (sd L:Int),B ns=none->B ng=none->aAI p np B->(0<=vars/\vars+dp<=1000)->a+42*mL L+42+100*dp<=800000050->(-2000000+10000*(dp:Int)<=L/\L<=1000/\1<=L) ->
 iV P f [.op ng 4 0 0,I vars,I p.aK.length,I dp] (aU (aU B ns (jK c a sd)) ng (kT ns np L pl)) (a6V p ns ng np c pl vars dp a L B)
def yH (p:aG):Prop:=∀ f∈p.aK,(1<=f.aW/\f.aW<=3)/\(1<=f.aS.length/\f.aS.length<=3)
theorem aZK {p:aG} {k n vars:Int} (h:(k=1/\iW n)∨(k=2/\0<=n/\n<vars)):(aD.mk k n 0 0 []).ok p p.aK.length vars:=by
 refine(aD.eI _ _ _ _).2 ⟨?_,λj hj=>by simp[aD.aM]at hj⟩
 rw[eE a2Z]
 simp only[aD.aT,aD.bB,aD.c4,aD.cN,aD.aM,sB]
 rcases h with⟨rfl,h⟩|⟨rfl,h⟩
 ·exact⟨rfl,trivial,trivial,λ_=>h,λq=>by omega,λq=>absurd rfl q⟩
 ·exact⟨rfl,trivial,trivial,λq=>by omega,λ_=>by omega,λ_ q=>absurd rfl q⟩
theorem a6Y (k n:Int):(aD.mk k n 0 0 []).d=1:=by rw[aD.a37];rfl
theorem aPG (k n:Int):(aD.mk k n 0 0 []).s=0:=by rw[aUU];rfl
theorem aKJ {p:aG} {ns ng np:Nat} {c:List Int} {pl:Bool} {vars:Int} {dp a:Nat} {L:Int} {B H:aB} {k n:Int} {a':Nat} {sd':Int} (h:(k=1/\iW n)∨(k=2/\0<=n/\n<vars)) (hB1:B ns=none) (hB2:B ng=none) (ha:a<=a'/\a'<=a+14) (hle:(aU (aU B ns (jK c a' sd')) ng (kT ns np (L-1) pl)).le H) :
  ∃ r1 g2,Shift (.agg [I k,I n,I 0,I 0,.bS]) H r1 g2/\bA3 p ns ng np c pl vars dp a L B r1 g2:=by
 refine⟨_,_,Shift.of (aSE k n) hle,_,_,B,a',sd',L-1,a5D k n,rfl,by rw[aML];exact fH.nil B,⟨hB1,hB2⟩,rfl,aZK h,by rw[a6Y];omega,?_,by rw[aPG];omega⟩
 rw[aPG]
 unfold mL
 omega
theorem a6Z {p:aG} {ns ng np:Nat} {c:List Int} {pl:Bool} {vars:Int} {dp a:Nat} {L:Int} {B g' H:aB} {x:aD} {e:List OV} {a':Nat} {sd' L':Int} (hx:x.o e) (w:fH B (OV.bY e) g') (z:g' ns=none/\g' ng=none) (hok:x.ok p p.aK.length vars) (hd:x.d<=dp+1)
  (hL:L'<=L-1/\(L-1)-x.s<=L'/\x.s+3*mL L'<=3*mL (L-1)+3) (ha:a<=a'/\a'<=a+14*(x.s+1)) (h1:¬L-1<1) (hle:(aU (aU g' ns (jK c a' sd')) ng (kT ns np L' pl)).le H) :
  ∃ r1 g2,Shift (.agg (e.map OV.val)) H r1 g2/\bA3 p ns ng np c pl vars dp a L B r1 g2 :=
 ⟨_,_,Shift.of (Sub.refl _) hle,x,e,g',a',sd',L',hx,rfl,w,z,rfl,hok,hd,⟨by omega,by omega,by unfold mL at hL ⊢;omega⟩,ha⟩
abbrev GSt:=Int×Nat×List aD×List (List OV)×aB×Option Nat×Nat×Int×Int
def aAQ (p:aG) (vars:Int) (dp a2:Nat) (L:Int) (B:aB) (ns ng n8 n9:Nat):GSt->Prop:=λ(K,i,kids,es,g1,o,a3,_,L3) =>
 (3<=K/\K<=9)/\i<=(e8 K).toNat/\kids.length=i/\OR aD.o kids es/\fH B (OV.bG es) g1/\(g1 ns=none/\g1 ng=none/\g1 n8=none/\g1 n9=none)/\yV g1 es o/\(∀ m,o=some m->¬m=ns/\¬m=ng/\¬m=n8/\¬m=n9) /\
  (∀ (j:Nat) (h:j<kids.length),kids[j].ok p p.aK.length (jG K j vars))/\aD.dL kids<=dp/\(L3<=L-1/\(L-1)-qU aD.s kids<=L3/\qU aD.s kids+3*mL L3<=3*mL (L-1)+i)/\(a2<=a3/\a3<=a2+14*qU aD.s kids)
theorem aPH (x:aD):∀ l:List aD,aD.dL (l++[x])=max (aD.dL l) x.d
 | []=>by simp[aD.dL]
 |y::l=>by rw[aTV,aD.dL,aD.dL,aPH x l];omega
theorem aAQ.next {p:aG} {vars:Int} {dp a2:Nat} {L:Int} {B:aB} {ns ng n8 n9:Nat} {K:Int} {i:Nat} {kids:List aD} {es:List (List OV)} {g1 g5:aB} {o:Option Nat} {a3 a5:Nat} {sd3 sd5 L3 L5:Int} {x:aD} {e:List OV} {m:Nat}
  (h:aAQ p vars dp a2 L B ns ng n8 n9 (K,i,kids,es,g1,o,a3,sd3,L3)) (hlt:(i:Int)<e8 K) (hx:x.o e) (w:fH g1 (OV.bY e) g5) (z:g5 ns=none/\g5 ng=none/\g5 n8=none/\g5 n9=none) (hm:g5 m=none) (hm2:¬m=ns/\¬m=ng/\¬m=n8/\¬m=n9)
  (hok:x.ok p p.aK.length (jG K i vars)) (hd:x.d<=dp) (hL:L5<=L3-1/\L3-(x.s+1)<=L5/\x.s+3*mL L5<=3*mL L3) (ha:a3<=a5/\a5<=a3+14*(x.s+1)):aAQ p vars dp a2 L B ns ng n8 n9 (K,i+1,kids++[x],es++[e],g5,some m,a5,sd5,L5):=by
 obtain⟨hK,hi,hlen,hor,hnew,-,-,-,bIA,hdl,hL3,ha3⟩:=h
 refine⟨hK,by omega,by rw[gD,hlen];rfl,OR.append hor ⟨hx,trivial⟩,fH.snoc hnew w,z,hm,λb q=>by cases q;exact hm2,λj hj=>?_,by rw[aPH];omega,?_,?_⟩
 ·rcases bT j kids.length with h2|h2
  ·rw[a2Q h2];exact bIA j h2
  ·obtain rfl:j=kids.length:=by rw[gD]at hj;simp at hj;omega
   rw[a2R (bX _)]
   simp only[sU,List.getElem_cons_zero]
   rw[hlen];exact hok
 ·rw[aD0];refine⟨by omega,by omega,by omega⟩
 ·rw[aD0];omega
theorem a60 {p:aG} {ns ng np:Nat} {c:List Int} {pl:Bool} {vars:Int} {dp a a2:Nat} {L:Int} {B H:aB} {n8 n9:Nat} {K:Int} {i:Nat} {kids:List aD} {es:List (List OV)} {g1:aB} {o:Option Nat} {a3:Nat} {sd3 L3:Int}
  (h:aAQ p vars dp a2 L B ns ng n8 n9 (K,i,kids,es,g1,o,a3,sd3,L3)) (hi:(i:Int)=e8 K) (ha:a<=a2/\a2<=a+4) (h1:¬L-1<1) (hle:(aU (aU (cP g1 (.row 5 (OV.cells es)) o) ns (jK c a3 sd3)) ng (kT ns np L3 pl)).le H) :
  ∃ r1 g2,Shift (.agg [I K,I 0,I 0,I 0,jN 5 i o]) H r1 g2/\bA3 p ns ng np c pl vars dp a L B r1 g2:=by
 obtain⟨hK,-,hlen,hor,hnew,⟨zs,zg,-,-⟩,hgs,hon,hok,hdl,hL,ha3⟩:=h
 have hes:es.length=i:=by rw[←hor.length];exact hlen
 have hk3:i<=3:=by
  have:e8 K<=3:=by unfold e8;split <;> (try split) <;> (try split) <;> (try split) <;> omega
  omega
 rw[←hes]
 have hat:∀ q,B q=B q:=λ_=>rfl
 have z (q:Nat) (hq:g1 q=none) (hqo:∀ m,o=some m->¬m=q):cP g1 (.row 5 (OV.cells es)) o q=none:=j5 hq hqo
 refine⟨_,_,Shift.of (Sub.agg (.cons (.refl _) (.cons (.refl _) (.cons (.refl _) (.cons (.refl _) (.cons aXR .nil)))))) hle,.mk K 0 0 0 kids,[.v (I K),.v (I 0),.v (I 0),.v (I 0),gov 5 es o],_,a3,sd3,L3,(aD.uK _ _).2 ⟨_,rfl,aNY hor hgs⟩,rfl,
  by simpa only[OV.eC,OV.hJ,OV.z5,dS,dP]using aG1 hnew hgs,⟨z ns zs λm e=>(hon m e).1,z ng zg λm e=>(hon m e).2.1⟩,rfl,(aD.eI _ _ _ _).2 ⟨?_,hok⟩,by rw[aD.a37];simp only[aD.aM];omega,?_,?_⟩
 ·rw[eE a2Z]
  simp only[aD.aT,aD.bB,aD.c4,aD.cN,aD.aM]
  refine⟨by omega,trivial,trivial,λq=>by omega,λq=>by omega,λ_ _=>trivial⟩
 ·rw[aUU];unfold mL at hL ⊢;refine⟨by omega,by omega,by omega⟩
 ·rw[aUU];omega
theorem share {T G:Prop} (m:T->G) (t:T):G:=m t
@[go_sem] def vS:List Nat:=[0,1,2,3,8,9,10,11,34,43,49,52,55,58,61,65,68,86,92,102]
@[go_sem] def aGC:List Nat:=[113]
@[go_sem] def aGD:Marks:=λid=>match id with|32=>([1,7,9,11],(.op 0 (.op 2 (.op 3 (.op 4 (.op 5 (.op 6 (.op 1 (.op 7 (.op 8 (.op 9 (.op 10 (.op 11 .nil)))))))))))),[(1,7)])|_=>([],.nil,[])
set_option maxHeartbeats 8000000 in
theorem aKK {p:aG} {ns ng np:Nat} {c:List Int} {pl:Bool} (hc:∀ x∈c,InB x) (hl:c.length<=4096) (hne:¬ns=ng) (hP:yH p) {dp:Nat} (ih:∀ d,d+1=dp->a6X Tryz.prog 154 p ns ng np c pl d) (hcall:1<=dp->bEC Tryz.prog 193 p ns ng np c pl dp):a6X Tryz.prog 154 p ns ng np c pl dp:=by
 intro vars B a sd L hB1 hB2 hprog ⟨hv,ha,hL⟩
 obtain⟨sW,bK,bL,kV⟩:=cW (show ¬ns=ng from hne)
 have w1:IntKind.i64.wrap (L-1)=L-1:=IntWalk.i64_in _ aA
 refine mC 117 vS aGC aGD Tryz.func154 ?_
 simp -dsimp -implicitDefEqProofs only[go_sem,↓reduceIte,Tryz.f154,kT]
 intro n8 q8
 have a8:¬n8=ng:=by grind
 have b8:¬n8=ns:=by grind
 have z8:B n8=none:=by grind
 obtain⟨bA4,cH,cI,p9⟩:=cW (show ¬n8=ng from a8)
 obtain⟨aZL,bQ,bR,l9⟩:=cW (show ¬n8=ns from b8)
 simp -dsimp -implicitDefEqProofs only[go_sem,↓reduceIte,Tryz.f154,cH,bQ,cI,bL,bR,bK,aC,aP,kT,c8,dA,dB,dC,dD,dS,dP,fL,w1,b5 p9,b5 l9,aO]
 rw[show(bV.row 4 [[.v (.op ns 3 0 0),.v (.op np 1 0 0),.v (.int .i64 (L-1)),.v (.bool pl)]])=kT ns np (L-1) pl from rfl]
 refine⟨λh1=>⟨λh2=>?_,λh2=>?_⟩,λh1=>?_⟩
 ·refine aH.gV (a5B (a:=a) (sd:=sd) hc hl aA 5 aA aLS) ?_
  rintro r_ h' ⟨b,a1,sd1,rfl,ha1,rfl⟩
  simp only[b5 kV,aO]
  cases b
  ·simp -dsimp -implicitDefEqProofs only[go_sem,↓reduceIte,Tryz.f154,cH,bQ,cI,bL,bR,bK,aC,aP,c8,dA,dB,dC,dD,dS,dP,fL]
   intro n9 q9
   have a9:¬n9=ng:=by grind
   have b9:¬n9=ns:=by grind
   have c9:¬n9=n8:=by grind
   have z9:B n9=none:=by grind
   obtain⟨bA5,cY,cZ,p8⟩:=cW (show ¬n9=ng from a9)
   obtain⟨aZM,b7,cA,l8⟩:=cW (show ¬n9=ns from b9)
   obtain⟨aAU,cB,cC,aZN⟩:=cW (show ¬n9=n8 from c9)
   simp -dsimp -implicitDefEqProofs only[go_sem,↓reduceIte,Tryz.f154,cH,bQ,cC,cI,bL,cZ,bR,bK,cA,cB,cY,b7,aC,aP,kT,c8,dA,dB,dC,dD,dS,dP,fL,b5 p8,b5 l8,aO]
   refine aH.gV (qY (a:=a1) (sd:=sd1) hc hl aA 12 aA aLS) ?_
   rintro r_ h' ⟨x,a2,sd2,rfl,x0,x1,-,ha2,rfl⟩
   simp only[b5 kV,aO]
   simp -dsimp -implicitDefEqProofs only[go_sem,↓reduceIte,Tryz.f154,cH,bQ,cC,cI,bL,cZ,bR,bK,cA,cB,cY,b7,aC,aP,c8,dA,dB,dC,dD,dS,dP,fL,b5 p8,b5 l8,aO]
   apply share
   case m =>
    intro key
    repeat'(with_reducible first|intro _|refine And.intro ?_ ?_)
    all_goals try
     first
     |skip
      refine cM vS aGC aGD (λx:GSt=>[(0,.op ng 4 0 0),(1,I vars),(2,I p.aK.length),(3,I dp),(8,.op n8 5 0 0),(9,.op n9 5 0 0),(10,I x.2.1)]) (λx=>aU (aU (aU (aU (cP x.2.2.2.2.1 (.row 5 (OV.cells x.2.2.2.1)) x.2.2.2.2.2.1) n8 (u2 0 0 0 0 .bS)) n9 (u2 x.1 0 0 0 (jN 5 x.2.1 x.2.2.2.2.2.1))) ns (jK c x.2.2.2.2.2.2.1 x.2.2.2.2.2.2.2.1)) ng (kT ns np x.2.2.2.2.2.2.2.2 pl)) (λx=>aAQ p vars dp a2 L B ns ng n8 n9 x) (λx=>(e8 x.1).toNat-x.2.1) (7,0,[],[],B,none,a2,sd2,L-1) ⟨by simp[cR,b6],aB.le_refl _,by decide,by decide,rfl,trivial,fH.nil B,⟨hB1,hB2,z8,z9⟩,rfl,(λm e=>by cases e),(λj h=>by cases h),eF _,⟨aEP _,by simp[qU],by simp[qU]⟩,by simp[qU]⟩ ?_
      exact key
     |skip
      refine cM vS aGC aGD (λx:GSt=>[(0,.op ng 4 0 0),(1,I vars),(2,I p.aK.length),(3,I dp),(8,.op n8 5 0 0),(9,.op n9 5 0 0),(10,I x.2.1)]) (λx=>aU (aU (aU (aU (cP x.2.2.2.2.1 (.row 5 (OV.cells x.2.2.2.1)) x.2.2.2.2.2.1) n8 (u2 0 0 0 0 .bS)) n9 (u2 x.1 0 0 0 (jN 5 x.2.1 x.2.2.2.2.2.1))) ns (jK c x.2.2.2.2.2.2.1 x.2.2.2.2.2.2.2.1)) ng (kT ns np x.2.2.2.2.2.2.2.2 pl)) (λx=>aAQ p vars dp a2 L B ns ng n8 n9 x) (λx=>(e8 x.1).toNat-x.2.1) (9,0,[],[],B,none,a2,sd2,L-1) ⟨by simp[cR,b6],aB.le_refl _,by decide,by decide,rfl,trivial,fH.nil B,⟨hB1,hB2,z8,z9⟩,rfl,(λm e=>by cases e),(λj h=>by cases h),eF _,⟨aEP _,by simp[qU],by simp[qU]⟩,by simp[qU]⟩ ?_
      exact key
     |skip
      refine cM vS aGC aGD (λx:GSt=>[(0,.op ng 4 0 0),(1,I vars),(2,I p.aK.length),(3,I dp),(8,.op n8 5 0 0),(9,.op n9 5 0 0),(10,I x.2.1)]) (λx=>aU (aU (aU (aU (cP x.2.2.2.2.1 (.row 5 (OV.cells x.2.2.2.1)) x.2.2.2.2.2.1) n8 (u2 0 0 0 0 .bS)) n9 (u2 x.1 0 0 0 (jN 5 x.2.1 x.2.2.2.2.2.1))) ns (jK c x.2.2.2.2.2.2.1 x.2.2.2.2.2.2.2.1)) ng (kT ns np x.2.2.2.2.2.2.2.2 pl)) (λx=>aAQ p vars dp a2 L B ns ng n8 n9 x) (λx=>(e8 x.1).toNat-x.2.1) (8,0,[],[],B,none,a2,sd2,L-1) ⟨by simp[cR,b6],aB.le_refl _,by decide,by decide,rfl,trivial,fH.nil B,⟨hB1,hB2,z8,z9⟩,rfl,(λm e=>by cases e),(λj h=>by cases h),eF _,⟨aEP _,by simp[qU],by simp[qU]⟩,by simp[qU]⟩ ?_
      exact key
     |skip
      refine cM vS aGC aGD (λx:GSt=>[(0,.op ng 4 0 0),(1,I vars),(2,I p.aK.length),(3,I dp),(8,.op n8 5 0 0),(9,.op n9 5 0 0),(10,I x.2.1)]) (λx=>aU (aU (aU (aU (cP x.2.2.2.2.1 (.row 5 (OV.cells x.2.2.2.1)) x.2.2.2.2.2.1) n8 (u2 0 0 0 0 .bS)) n9 (u2 x.1 0 0 0 (jN 5 x.2.1 x.2.2.2.2.2.1))) ns (jK c x.2.2.2.2.2.2.1 x.2.2.2.2.2.2.2.1)) ng (kT ns np x.2.2.2.2.2.2.2.2 pl)) (λx=>aAQ p vars dp a2 L B ns ng n8 n9 x) (λx=>(e8 x.1).toNat-x.2.1) (6,0,[],[],B,none,a2,sd2,L-1) ⟨by simp[cR,b6],aB.le_refl _,by decide,by decide,rfl,trivial,fH.nil B,⟨hB1,hB2,z8,z9⟩,rfl,(λm e=>by cases e),(λj h=>by cases h),eF _,⟨aEP _,by simp[qU],by simp[qU]⟩,by simp[qU]⟩ ?_
      exact key
     |skip
      refine cM vS aGC aGD (λx:GSt=>[(0,.op ng 4 0 0),(1,I vars),(2,I p.aK.length),(3,I dp),(8,.op n8 5 0 0),(9,.op n9 5 0 0),(10,I x.2.1)]) (λx=>aU (aU (aU (aU (cP x.2.2.2.2.1 (.row 5 (OV.cells x.2.2.2.1)) x.2.2.2.2.2.1) n8 (u2 0 0 0 0 .bS)) n9 (u2 x.1 0 0 0 (jN 5 x.2.1 x.2.2.2.2.2.1))) ns (jK c x.2.2.2.2.2.2.1 x.2.2.2.2.2.2.2.1)) ng (kT ns np x.2.2.2.2.2.2.2.2 pl)) (λx=>aAQ p vars dp a2 L B ns ng n8 n9 x) (λx=>(e8 x.1).toNat-x.2.1) (3,0,[],[],B,none,a2,sd2,L-1) ⟨by simp[cR,b6],aB.le_refl _,by decide,by decide,rfl,trivial,fH.nil B,⟨hB1,hB2,z8,z9⟩,rfl,(λm e=>by cases e),(λj h=>by cases h),eF _,⟨aEP _,by simp[qU],by simp[qU]⟩,by simp[qU]⟩ ?_
      exact key
     |skip
      refine cM vS aGC aGD (λx:GSt=>[(0,.op ng 4 0 0),(1,I vars),(2,I p.aK.length),(3,I dp),(8,.op n8 5 0 0),(9,.op n9 5 0 0),(10,I x.2.1)]) (λx=>aU (aU (aU (aU (cP x.2.2.2.2.1 (.row 5 (OV.cells x.2.2.2.1)) x.2.2.2.2.2.1) n8 (u2 0 0 0 0 .bS)) n9 (u2 x.1 0 0 0 (jN 5 x.2.1 x.2.2.2.2.2.1))) ns (jK c x.2.2.2.2.2.2.1 x.2.2.2.2.2.2.2.1)) ng (kT ns np x.2.2.2.2.2.2.2.2 pl)) (λx=>aAQ p vars dp a2 L B ns ng n8 n9 x) (λx=>(e8 x.1).toNat-x.2.1) (4,0,[],[],B,none,a2,sd2,L-1) ⟨by simp[cR,b6],aB.le_refl _,by decide,by decide,rfl,trivial,fH.nil B,⟨hB1,hB2,z8,z9⟩,rfl,(λm e=>by cases e),(λj h=>by cases h),eF _,⟨aEP _,by simp[qU],by simp[qU]⟩,by simp[qU]⟩ ?_
      exact key
     |skip
      refine cM vS aGC aGD (λx:GSt=>[(0,.op ng 4 0 0),(1,I vars),(2,I p.aK.length),(3,I dp),(8,.op n8 5 0 0),(9,.op n9 5 0 0),(10,I x.2.1)]) (λx=>aU (aU (aU (aU (cP x.2.2.2.2.1 (.row 5 (OV.cells x.2.2.2.1)) x.2.2.2.2.2.1) n8 (u2 0 0 0 0 .bS)) n9 (u2 x.1 0 0 0 (jN 5 x.2.1 x.2.2.2.2.2.1))) ns (jK c x.2.2.2.2.2.2.1 x.2.2.2.2.2.2.2.1)) ng (kT ns np x.2.2.2.2.2.2.2.2 pl)) (λx=>aAQ p vars dp a2 L B ns ng n8 n9 x) (λx=>(e8 x.1).toNat-x.2.1) (5,0,[],[],B,none,a2,sd2,L-1) ⟨by simp[cR,b6],aB.le_refl _,by decide,by decide,rfl,trivial,fH.nil B,⟨hB1,hB2,z8,z9⟩,rfl,(λm e=>by cases e),(λj h=>by cases h),eF _,⟨aEP _,by simp[qU],by simp[qU]⟩,by simp[qU]⟩ ?_
      exact key
    all_goals
     rw[show ∀ H:aB,aU H ng (bV.row 4 [[Cell.v (aE.op ns 3 0 0),Cell.v (aE.op np 1 0 0),Cell.v (I (L-1)),Cell.v (aE.bool pl)]])=aU H ng (kT ns np (L-1) pl)from λ_=>rfl]
     refine aH.gV (hcall aA vars _ a2 sd2 (L-1) (by rw[aC _ _ _ _ l8,aC _ _ _ _ l9];exact hB1) (by rw[aC _ _ _ _ p8,aC _ _ _ _ p9];exact hB2) (hprog.le (aB.bM z9 (aB.bM z8 (aB.le_refl _)))) ⟨by omega,by omega⟩ (by unfold mL at ha ⊢;omega) ⟨by omega,by omega,by omega⟩) ?_
     rintro r_ h' ⟨x,e,g',a',sd',L',hx,rfl,hnew,⟨y1,y2⟩,rfl,hok,hd,hL',ha'⟩
     obtain⟨g5,rfl,w5,z58,z59⟩:=fH.aB7 z8 (by rw[aC _ _ _ _ aAU];exact z9) hnew
     simp only[aP,cH,bQ,cC,cI,bL,cZ,bR,bK,cA,cB,cY,b7,if_false]at y1 y2 z59
     rw[aD.uK]at hx
     obtain⟨y4,rfl,os4⟩:=hx
     simp -dsimp -implicitDefEqProofs only[go_sem,↓reduceIte,Tryz.f154,cH,bQ,cC,cI,bL,cZ,bR,bK,cA,cB,cY,b7,aC,aP,OV.iF,OV.dN,OV.nG,os4.flat,os4.one]
     exact a6Z (x:=x) (a':=a') (sd':=sd') (L':=L') ((aD.uK _ _).2 ⟨y4,rfl,os4⟩) w5 ⟨y1,y2⟩ hok hd hL' aA h1 (by
      intro q_
      simp only[aP]
      grind)
   case t =>
    rintro⟨K,i,kids,es,g1,o,a3,sd3,L3⟩ hgg
    obtain⟨hK,hi,hlen,hor,hnew,⟨zs,zg,z18,z19⟩,hgs,hon,hok,hdl,hL3,ha3⟩:=id hgg
    simp only at hi hlen hor hnew zs zg z18 z19 hgs hon hok hdl hL3 ha3 hK ⊢
    have hkn:0<=e8 K/\e8 K<=3:=by unfold e8;split <;> (try split) <;> (try split) <;> (try split) <;> omega
    have wd:IntKind.i64.wrap ((dp:Int)-1)=((dp-1:Nat):Int):=by rw[IntWalk.i64_in _ aA];omega
    have hml:3*mL (L-1)+3=3*mL L:=by unfold mL;omega
    have a73:mL L<=1000:=by unfold mL;omega
    have wv:IntKind.i64.wrap (vars+1)=vars+1:=IntWalk.i64_in _ aA
    unfold u2
    simp -dsimp -implicitDefEqProofs only[go_sem,↓reduceIte,Tryz.f154,cH,bQ,cC,cI,bL,cZ,bR,bK,cA,cB,cY,b7,aC,aP,c8,dA,dB,dC,dD,dS,dP,fL]
    first|refine aH.mk ((vH K)) ?_|refine aF.mk ((vH K)) ?_|refine aH.bI ((vH K)) ?_|refine aF.mk (bC.dI ((vH K))) ?_
    simp -dsimp -implicitDefEqProofs only[go_sem,↓reduceIte,Tryz.f154,cH,bQ,cC,cI,bL,cZ,bR,bK,cA,cB,cY,b7,aC,aP,c8,dA,dB,dC,dD,dS,dP,fL,wd,wv]
    refine⟨λhlt=>⟨λk9=>⟨λi1=>?_,λi1=>?_⟩,λk9=>?_⟩,λhge=>⟨oA ..,?_⟩⟩
    ·have hV:vars+1=jG K i vars:=by unfold jG;rw[if_pos ⟨k9,by omega⟩]
     cases o with
     |none =>
      rw[mB]at hgs
      subst hgs
      obtain rfl:kids=[]:=aGJ.1 hor.length
      obtain rfl:i=0:=hlen.symm
      simp only[aL,mR]
      refine aH.gV (ih (dp-1) aA (vars+1) _ a3 sd3 L3 aWC aWE (hprog.le (aB.bM z9 (aB.bM z8 hnew.le))) ⟨by omega,by omega,by omega⟩) ?_
      rintro r_ h' ⟨x5,e5,g',a5,sd5,L5,hx,rfl,hnw,⟨y1,y2⟩,rfl,aH4,hd5,hL5,ha5⟩
      obtain⟨g5,rfl,w5,z58,z59⟩:=fH.aB7 z18 aWK hnw
      simp only[aP,cH,bQ,cC,cI,bL,cZ,bR,bK,cA,cB,cY,b7,if_false]at y1 y2 z59
      have hx5:=hx
      rw[aD.uK]at hx
      obtain⟨y4,rfl,os4⟩:=hx
      simp -dsimp -implicitDefEqProofs only[go_sem,↓reduceIte,Tryz.f154,cH,bQ,cC,cI,bL,cZ,bR,bK,cA,cB,cY,b7,aC,aP,c8,dA,dB,dC,dD,dS,dP,fL,OV.iF,OV.dN,OV.nG,os4.flat,os4.one]
      have ht:=eH []
      refine⟨by decide,by decide,by decide,λm qm=>?_⟩
      have am:¬m=ns:=by grind
      have bm:¬m=ng:=by grind
      have cm:¬m=n8:=by grind
      have em:¬m=n9:=by grind
      have dm:g5 m=none:=by grind
      skip
      obtain⟨m8,fO,fP,o5⟩:=cW (show ¬m=ns from am)
      obtain⟨uT,iT,iU,uU⟩:=cW (show ¬m=ng from bm)
      obtain⟨yI,j7,j8,yJ⟩:=cW (show ¬m=n8 from cm)
      obtain⟨yK,j9,kA,yL⟩:=cW (show ¬m=n9 from em)
      simp -dsimp -implicitDefEqProofs only[go_sem,↓reduceIte,Tryz.f154,cH,bQ,cC,j8,cI,bL,cZ,iU,bR,bK,cA,fP,cB,cY,b7,kA,j7,iT,fO,j9,aC,aP,c8,dA,dB,dC,dD,dS,dP,fL]
      refine⟨(K,0+1,[]++[x5],[]++[[.v (.int .i64 x5.aT),.v (.int .i64 x5.bB),.v (.int .i64 x5.c4),.v (.int .i64 x5.cN),y4]],g5,some m,a5,sd5,L5),IntWalk.i64_in _ aA,?_,hgg.next hlt hx5 w5 ⟨y1,y2,z58,z59⟩ dm ⟨am,bm,cm,em⟩ aFR aA hL5 ha5,by simp only;omega⟩
      intro q_
      simp only[aP,aJ,cK,jD,eH,cO,kK,kL,OV.iF,OV.dN,OV.nG,dS,p5,v7,ht]
      grind
     |some m0 =>
      rw[jY]at hgs
      obtain⟨hm1,hm2,hm3,hm4⟩:=hon m0 rfl
      obtain⟨aA6,iG,iH,xM⟩:=cW (show ¬m0=ns from hm1)
      obtain⟨aPI,mH,mI,aGW⟩:=cW (show ¬m0=ng from hm2)
      obtain⟨aHP,kB,kC,aCW⟩:=cW (show ¬m0=n8 from hm3)
      obtain⟨aHQ,kD,kE,aCU⟩:=cW (show ¬m0=n9 from hm4)
      have hBm:B m0=none:=by
       cases hb:B m0 with
       |none=>rfl
       |some v=>have:=hnew.keep hb;rw[hgs]at this;cases this
      simp only[aJ,cK]
      refine aH.gV (ih (dp-1) aA (vars+1) _ a3 sd3 L3 aV9 aWA (hprog.le (aB.bM z9 (aB.bM z8 (aB.bM hBm hnew.le)))) ⟨by omega,by omega,by omega⟩) ?_
      rintro r_ h' ⟨x5,e5,g',a5,sd5,L5,hx,rfl,hnw,⟨y1,y2⟩,rfl,aH4,hd5,hL5,ha5⟩
      obtain⟨g5,rfl,w5,z50,z58,z59⟩:=fH.aNV hgs aWL aWB hnw
      simp only[aP,cH,bQ,cC,kC,cI,bL,cZ,mI,bR,bK,cA,iH,cB,cY,b7,kE,kB,mH,iG,kD,if_false]at y1 y2 z58 z59
      have hx5:=hx
      rw[aD.uK]at hx
      obtain⟨y4,rfl,os4⟩:=hx
      simp -dsimp -implicitDefEqProofs only[go_sem,↓reduceIte,Tryz.f154,cH,bQ,cC,kC,cI,bL,cZ,mI,bR,bK,cA,iH,cB,cY,b7,kE,kB,mH,iG,kD,aC,aP,c8,dA,dB,dC,dD,dS,dP,fL,OV.iF,OV.dN,OV.nG,os4.flat,os4.one,cO]
      have ht:List.take i (OV.cells es)=OV.cells es:=nI aQB
      refine⟨by decide,by decide,by decide,by have:=hor.length;omega,by omega,by omega,λm qm=>?_⟩
      have am:¬m=ns:=by grind
      have bm:¬m=ng:=by grind
      have cm:¬m=n8:=by grind
      have em:¬m=n9:=by grind
      have dm:g5 m=none:=by grind
      have fm:¬m=m0:=wR;have yM:=eq_false fm;have yN:=eq_false (iK fm);have aPJ:=fm;have aPK:=iK fm
      obtain⟨m8,fO,fP,o5⟩:=cW (show ¬m=ns from am)
      obtain⟨uT,iT,iU,uU⟩:=cW (show ¬m=ng from bm)
      obtain⟨yI,j7,j8,yJ⟩:=cW (show ¬m=n8 from cm)
      obtain⟨yK,j9,kA,yL⟩:=cW (show ¬m=n9 from em)
      simp -dsimp -implicitDefEqProofs only[go_sem,↓reduceIte,Tryz.f154,cH,bQ,cC,j8,cI,bL,cZ,iU,bR,bK,cA,fP,cB,cY,b7,kA,j7,iT,fO,j9,yM,j7,j9,iT,fO,yN,kB,kD,mH,iG,j8,kC,cC,cH,bQ,kA,kE,cB,cY,b7,iU,mI,cI,cZ,bL,fP,iH,bR,cA,bK,aC,aP,c8,dA,dB,dC,dD,dS,dP,fL]
      refine⟨(K,i+1,kids++[x5],es++[[.v (.int .i64 x5.aT),.v (.int .i64 x5.bB),.v (.int .i64 x5.c4),.v (.int .i64 x5.cN),y4]],g5,some m,a5,sd5,L5),IntWalk.i64_in _ aA,?_,hgg.next hlt hx5 w5 ⟨y1,y2,z58,z59⟩ dm ⟨am,bm,cm,em⟩ aFR aA hL5 ha5,by simp only;omega⟩
      intro q_
      simp only[aP,aJ,cK,jD,eH,cO,kK,kL,OV.iF,OV.dN,OV.nG,dS,p5,v7,ht]
      grind
    ·have hV:vars=jG K i vars:=by unfold jG;rw[if_neg (λq=>i1 aA)]
     cases o with
     |none =>
      rw[mB]at hgs
      subst hgs
      obtain rfl:kids=[]:=aGJ.1 hor.length
      obtain rfl:i=0:=hlen.symm
      simp only[aL,mR]
      refine aH.gV (ih (dp-1) aA vars _ a3 sd3 L3 aWC aWE (hprog.le (aB.bM z9 (aB.bM z8 hnew.le))) ⟨by omega,by omega,by omega⟩) ?_
      rintro r_ h' ⟨x5,e5,g',a5,sd5,L5,hx,rfl,hnw,⟨y1,y2⟩,rfl,aH4,hd5,hL5,ha5⟩
      obtain⟨g5,rfl,w5,z58,z59⟩:=fH.aB7 z18 aWK hnw
      simp only[aP,cH,bQ,cC,cI,bL,cZ,bR,bK,cA,cB,cY,b7,if_false]at y1 y2 z59
      have hx5:=hx
      rw[aD.uK]at hx
      obtain⟨y4,rfl,os4⟩:=hx
      simp -dsimp -implicitDefEqProofs only[go_sem,↓reduceIte,Tryz.f154,cH,bQ,cC,cI,bL,cZ,bR,bK,cA,cB,cY,b7,aC,aP,c8,dA,dB,dC,dD,dS,dP,fL,OV.iF,OV.dN,OV.nG,os4.flat,os4.one]
      have ht:=eH []
      refine⟨by decide,by decide,by decide,λm qm=>?_⟩
      have am:¬m=ns:=by grind
      have bm:¬m=ng:=by grind
      have cm:¬m=n8:=by grind
      have em:¬m=n9:=by grind
      have dm:g5 m=none:=by grind
      skip
      obtain⟨m8,fO,fP,o5⟩:=cW (show ¬m=ns from am)
      obtain⟨uT,iT,iU,uU⟩:=cW (show ¬m=ng from bm)
      obtain⟨yI,j7,j8,yJ⟩:=cW (show ¬m=n8 from cm)
      obtain⟨yK,j9,kA,yL⟩:=cW (show ¬m=n9 from em)
      simp -dsimp -implicitDefEqProofs only[go_sem,↓reduceIte,Tryz.f154,cH,bQ,cC,j8,cI,bL,cZ,iU,bR,bK,cA,fP,cB,cY,b7,kA,j7,iT,fO,j9,aC,aP,c8,dA,dB,dC,dD,dS,dP,fL]
      refine⟨(K,0+1,[]++[x5],[]++[[.v (.int .i64 x5.aT),.v (.int .i64 x5.bB),.v (.int .i64 x5.c4),.v (.int .i64 x5.cN),y4]],g5,some m,a5,sd5,L5),IntWalk.i64_in _ aA,?_,hgg.next hlt hx5 w5 ⟨y1,y2,z58,z59⟩ dm ⟨am,bm,cm,em⟩ aFR aA hL5 ha5,by simp only;omega⟩
      intro q_
      simp only[aP,aJ,cK,jD,eH,cO,kK,kL,OV.iF,OV.dN,OV.nG,dS,p5,v7,ht]
      grind
     |some m0 =>
      rw[jY]at hgs
      obtain⟨hm1,hm2,hm3,hm4⟩:=hon m0 rfl
      obtain⟨aA6,iG,iH,xM⟩:=cW (show ¬m0=ns from hm1)
      obtain⟨aPI,mH,mI,aGW⟩:=cW (show ¬m0=ng from hm2)
      obtain⟨aHP,kB,kC,aCW⟩:=cW (show ¬m0=n8 from hm3)
      obtain⟨aHQ,kD,kE,aCU⟩:=cW (show ¬m0=n9 from hm4)
      have hBm:B m0=none:=by
       cases hb:B m0 with
       |none=>rfl
       |some v=>have:=hnew.keep hb;rw[hgs]at this;cases this
      simp only[aJ,cK]
      refine aH.gV (ih (dp-1) aA vars _ a3 sd3 L3 aV9 aWA (hprog.le (aB.bM z9 (aB.bM z8 (aB.bM hBm hnew.le)))) ⟨by omega,by omega,by omega⟩) ?_
      rintro r_ h' ⟨x5,e5,g',a5,sd5,L5,hx,rfl,hnw,⟨y1,y2⟩,rfl,aH4,hd5,hL5,ha5⟩
      obtain⟨g5,rfl,w5,z50,z58,z59⟩:=fH.aNV hgs aWL aWB hnw
      simp only[aP,cH,bQ,cC,kC,cI,bL,cZ,mI,bR,bK,cA,iH,cB,cY,b7,kE,kB,mH,iG,kD,if_false]at y1 y2 z58 z59
      have hx5:=hx
      rw[aD.uK]at hx
      obtain⟨y4,rfl,os4⟩:=hx
      simp -dsimp -implicitDefEqProofs only[go_sem,↓reduceIte,Tryz.f154,cH,bQ,cC,kC,cI,bL,cZ,mI,bR,bK,cA,iH,cB,cY,b7,kE,kB,mH,iG,kD,aC,aP,c8,dA,dB,dC,dD,dS,dP,fL,OV.iF,OV.dN,OV.nG,os4.flat,os4.one,cO]
      have ht:List.take i (OV.cells es)=OV.cells es:=nI aQB
      refine⟨by decide,by decide,by decide,by have:=hor.length;omega,by omega,by omega,λm qm=>?_⟩
      have am:¬m=ns:=by grind
      have bm:¬m=ng:=by grind
      have cm:¬m=n8:=by grind
      have em:¬m=n9:=by grind
      have dm:g5 m=none:=by grind
      have fm:¬m=m0:=wR;have yM:=eq_false fm;have yN:=eq_false (iK fm);have aPJ:=fm;have aPK:=iK fm
      obtain⟨m8,fO,fP,o5⟩:=cW (show ¬m=ns from am)
      obtain⟨uT,iT,iU,uU⟩:=cW (show ¬m=ng from bm)
      obtain⟨yI,j7,j8,yJ⟩:=cW (show ¬m=n8 from cm)
      obtain⟨yK,j9,kA,yL⟩:=cW (show ¬m=n9 from em)
      simp -dsimp -implicitDefEqProofs only[go_sem,↓reduceIte,Tryz.f154,cH,bQ,cC,j8,cI,bL,cZ,iU,bR,bK,cA,fP,cB,cY,b7,kA,j7,iT,fO,j9,yM,j7,j9,iT,fO,yN,kB,kD,mH,iG,j8,kC,cC,cH,bQ,kA,kE,cB,cY,b7,iU,mI,cI,cZ,bL,fP,iH,bR,cA,bK,aC,aP,c8,dA,dB,dC,dD,dS,dP,fL]
      refine⟨(K,i+1,kids++[x5],es++[[.v (.int .i64 x5.aT),.v (.int .i64 x5.bB),.v (.int .i64 x5.c4),.v (.int .i64 x5.cN),y4]],g5,some m,a5,sd5,L5),IntWalk.i64_in _ aA,?_,hgg.next hlt hx5 w5 ⟨y1,y2,z58,z59⟩ dm ⟨am,bm,cm,em⟩ aFR aA hL5 ha5,by simp only;omega⟩
      intro q_
      simp only[aP,aJ,cK,jD,eH,cO,kK,kL,OV.iF,OV.dN,OV.nG,dS,p5,v7,ht]
      grind
    ·have hV:vars=jG K i vars:=by unfold jG;rw[if_neg (λq=>k9 q.1)]
     cases o with
     |none =>
      rw[mB]at hgs
      subst hgs
      obtain rfl:kids=[]:=aGJ.1 hor.length
      obtain rfl:i=0:=hlen.symm
      simp only[aL,mR]
      refine aH.gV (ih (dp-1) aA vars _ a3 sd3 L3 aWC aWE (hprog.le (aB.bM z9 (aB.bM z8 hnew.le))) ⟨by omega,by omega,by omega⟩) ?_
      rintro r_ h' ⟨x5,e5,g',a5,sd5,L5,hx,rfl,hnw,⟨y1,y2⟩,rfl,aH4,hd5,hL5,ha5⟩
      obtain⟨g5,rfl,w5,z58,z59⟩:=fH.aB7 z18 aWK hnw
      simp only[aP,cH,bQ,cC,cI,bL,cZ,bR,bK,cA,cB,cY,b7,if_false]at y1 y2 z59
      have hx5:=hx
      rw[aD.uK]at hx
      obtain⟨y4,rfl,os4⟩:=hx
      simp -dsimp -implicitDefEqProofs only[go_sem,↓reduceIte,Tryz.f154,cH,bQ,cC,cI,bL,cZ,bR,bK,cA,cB,cY,b7,aC,aP,c8,dA,dB,dC,dD,dS,dP,fL,OV.iF,OV.dN,OV.nG,os4.flat,os4.one]
      have ht:=eH []
      refine⟨by decide,by decide,by decide,λm qm=>?_⟩
      have am:¬m=ns:=by grind
      have bm:¬m=ng:=by grind
      have cm:¬m=n8:=by grind
      have em:¬m=n9:=by grind
      have dm:g5 m=none:=by grind
      skip
      obtain⟨m8,fO,fP,o5⟩:=cW (show ¬m=ns from am)
      obtain⟨uT,iT,iU,uU⟩:=cW (show ¬m=ng from bm)
      obtain⟨yI,j7,j8,yJ⟩:=cW (show ¬m=n8 from cm)
      obtain⟨yK,j9,kA,yL⟩:=cW (show ¬m=n9 from em)
      simp -dsimp -implicitDefEqProofs only[go_sem,↓reduceIte,Tryz.f154,cH,bQ,cC,j8,cI,bL,cZ,iU,bR,bK,cA,fP,cB,cY,b7,kA,j7,iT,fO,j9,aC,aP,c8,dA,dB,dC,dD,dS,dP,fL]
      refine⟨(K,0+1,[]++[x5],[]++[[.v (.int .i64 x5.aT),.v (.int .i64 x5.bB),.v (.int .i64 x5.c4),.v (.int .i64 x5.cN),y4]],g5,some m,a5,sd5,L5),IntWalk.i64_in _ aA,?_,hgg.next hlt hx5 w5 ⟨y1,y2,z58,z59⟩ dm ⟨am,bm,cm,em⟩ aFR aA hL5 ha5,by simp only;omega⟩
      intro q_
      simp only[aP,aJ,cK,jD,eH,cO,kK,kL,OV.iF,OV.dN,OV.nG,dS,p5,v7,ht]
      grind
     |some m0 =>
      rw[jY]at hgs
      obtain⟨hm1,hm2,hm3,hm4⟩:=hon m0 rfl
      obtain⟨aA6,iG,iH,xM⟩:=cW (show ¬m0=ns from hm1)
      obtain⟨aPI,mH,mI,aGW⟩:=cW (show ¬m0=ng from hm2)
      obtain⟨aHP,kB,kC,aCW⟩:=cW (show ¬m0=n8 from hm3)
      obtain⟨aHQ,kD,kE,aCU⟩:=cW (show ¬m0=n9 from hm4)
      have hBm:B m0=none:=by
       cases hb:B m0 with
       |none=>rfl
       |some v=>have:=hnew.keep hb;rw[hgs]at this;cases this
      simp only[aJ,cK]
      refine aH.gV (ih (dp-1) aA vars _ a3 sd3 L3 aV9 aWA (hprog.le (aB.bM z9 (aB.bM z8 (aB.bM hBm hnew.le)))) ⟨by omega,by omega,by omega⟩) ?_
      rintro r_ h' ⟨x5,e5,g',a5,sd5,L5,hx,rfl,hnw,⟨y1,y2⟩,rfl,aH4,hd5,hL5,ha5⟩
      obtain⟨g5,rfl,w5,z50,z58,z59⟩:=fH.aNV hgs aWL aWB hnw
      simp only[aP,cH,bQ,cC,kC,cI,bL,cZ,mI,bR,bK,cA,iH,cB,cY,b7,kE,kB,mH,iG,kD,if_false]at y1 y2 z58 z59
      have hx5:=hx
      rw[aD.uK]at hx
      obtain⟨y4,rfl,os4⟩:=hx
      simp -dsimp -implicitDefEqProofs only[go_sem,↓reduceIte,Tryz.f154,cH,bQ,cC,kC,cI,bL,cZ,mI,bR,bK,cA,iH,cB,cY,b7,kE,kB,mH,iG,kD,aC,aP,c8,dA,dB,dC,dD,dS,dP,fL,OV.iF,OV.dN,OV.nG,os4.flat,os4.one,cO]
      have ht:List.take i (OV.cells es)=OV.cells es:=nI aQB
      refine⟨by decide,by decide,by decide,by have:=hor.length;omega,by omega,by omega,λm qm=>?_⟩
      have am:¬m=ns:=by grind
      have bm:¬m=ng:=by grind
      have cm:¬m=n8:=by grind
      have em:¬m=n9:=by grind
      have dm:g5 m=none:=by grind
      have fm:¬m=m0:=wR;have yM:=eq_false fm;have yN:=eq_false (iK fm);have aPJ:=fm;have aPK:=iK fm
      obtain⟨m8,fO,fP,o5⟩:=cW (show ¬m=ns from am)
      obtain⟨uT,iT,iU,uU⟩:=cW (show ¬m=ng from bm)
      obtain⟨yI,j7,j8,yJ⟩:=cW (show ¬m=n8 from cm)
      obtain⟨yK,j9,kA,yL⟩:=cW (show ¬m=n9 from em)
      simp -dsimp -implicitDefEqProofs only[go_sem,↓reduceIte,Tryz.f154,cH,bQ,cC,j8,cI,bL,cZ,iU,bR,bK,cA,fP,cB,cY,b7,kA,j7,iT,fO,j9,yM,j7,j9,iT,fO,yN,kB,kD,mH,iG,j8,kC,cC,cH,bQ,kA,kE,cB,cY,b7,iU,mI,cI,cZ,bL,fP,iH,bR,cA,bK,aC,aP,c8,dA,dB,dC,dD,dS,dP,fL]
      refine⟨(K,i+1,kids++[x5],es++[[.v (.int .i64 x5.aT),.v (.int .i64 x5.bB),.v (.int .i64 x5.c4),.v (.int .i64 x5.cN),y4]],g5,some m,a5,sd5,L5),IntWalk.i64_in _ aA,?_,hgg.next hlt hx5 w5 ⟨y1,y2,z58,z59⟩ dm ⟨am,bm,cm,em⟩ aFR aA hL5 ha5,by simp only;omega⟩
      intro q_
      simp only[aP,aJ,cK,jD,eH,cO,kK,kL,OV.iF,OV.dN,OV.nG,dS,p5,v7,ht]
      grind
    ·have hi2:(i:Int)=e8 K:=by omega
     have y8:cP g1 (.row 5 (OV.cells es)) o n8=none:=j5 z18 λm e=>(hon m e).2.2.1
     have y9:cP g1 (.row 5 (OV.cells es)) o n9=none:=j5 z19 λm e=>(hon m e).2.2.2
     exact a60 (vars:=vars) (a:=a) (L:=L) hgg hi2 aA h1 (by
      intro q_
      simp only[aP]
      grind)
  ·simp -dsimp -implicitDefEqProofs only[go_sem,↓reduceIte,Tryz.f154,cH,bQ,cI,bL,bR,bK,aC,aP,c8,dA,dB,dC,dD,dS,dP,fL]
   refine aH.gV (aYR (np:=np) (a:=a1) (sd:=sd1) (L:=L-1) (pl:=pl) (B:=aU B n8 (.row 5 [[.v (I 0),.v (I 0),.v (I 0),.v (I 0),.v .bS]])) hc hl hne vars aA aWI aWJ aA) ?_
   rintro r_ h' ⟨k,n,a',sd',rfl,hkn,ha',rfl⟩
   simp -dsimp -implicitDefEqProofs only[go_sem,↓reduceIte,Tryz.f154,cH,bQ,cI,bL,bR,bK,aC,aP,b5 p9,b5 l9,aO]
   exact aKJ (a:=a) (a':=a') (sd':=sd') hkn hB1 hB2 aA (by
    intro q_
    simp only[aP]
    grind)
 ·refine aH.gV (aYR (np:=np) (a:=a) (sd:=sd) (L:=L-1) (pl:=pl) (B:=aU B n8 (.row 5 [[.v (I 0),.v (I 0),.v (I 0),.v (I 0),.v .bS]])) hc hl hne vars aA aWI aWJ aA) ?_
  rintro r_ h' ⟨k,n,a',sd',rfl,hkn,ha',rfl⟩
  simp -dsimp -implicitDefEqProofs only[go_sem,↓reduceIte,Tryz.f154,cH,bQ,cI,bL,bR,bK,aC,aP,b5 p9,b5 l9,aO]
  exact aKJ (a:=a) (a':=a') (sd':=sd') hkn hB1 hB2 aA (by
   intro q_
   simp only[aP]
   grind)
 ·refine aH.gV (aYR (np:=np) (a:=a) (sd:=sd) (L:=L-1) (pl:=pl) (B:=aU B n8 (.row 5 [[.v (I 0),.v (I 0),.v (I 0),.v (I 0),.v .bS]])) hc hl hne vars aA aWI aWJ aA) ?_
  rintro r_ h' ⟨k,n,a',sd',rfl,hkn,ha',rfl⟩
  simp -dsimp -implicitDefEqProofs only[go_sem,↓reduceIte,Tryz.f154,cH,bQ,cI,bL,bR,bK,aC,aP,b5 p9,b5 l9,aO]
  exact aKJ (a:=a) (a':=a') (sd':=sd') hkn hB1 hB2 aA (by
   intro q_
   simp only[aP]
   grind)
theorem a1X {p:aG} {ns ng np:Nat} {c:List Int} {pl:Bool} {vars:Int} {dp a:Nat} {L:Int} {B H:aB} {k n:Int} {a':Nat} {sd':Int} (h:(k=1/\iW n)∨(k=2/\0<=n/\n<vars)) (hB1:B ns=none) (hB2:B ng=none) (ha:a<=a'/\a'<=a+10) (hle:(aU (aU B ns (jK c a' sd')) ng (kT ns np L pl)).le H) :
  ∃ r1 g2,Shift (.agg [I k,I n,I 0,I 0,.bS]) H r1 g2/\a6V p ns ng np c pl vars dp a L B r1 g2:=by
 refine⟨_,_,Shift.of (aSE k n) hle,_,_,B,a',sd',L,a5D k n,rfl,by rw[aML];exact fH.nil B,⟨hB1,hB2⟩,rfl,aZK h,by rw[a6Y];omega,?_,by rw[aPG];omega⟩
 rw[aPG]
 omega
structure bUW (T:Prop):Prop where
 get:T
theorem a61 {T G:Prop} (m:bUW T->G) (t:T):G:=m ⟨t⟩
abbrev CSt:=Int×Nat×List aD×List (List OV)×aB×Option Nat×Nat×Int×Int×Int
def aKL (p:aG) (f:aX) (vars:Int) (dp a:Nat) (L:Int) (B:aB) (ns ng n8 n9:Nat):CSt->Prop:=λ(K,i,kids,es,g1,o,a3,_,L3,cnt) =>
 ((K=10/\cnt=0)∨(K=11/\0<=cnt/\cnt<=8/\(f.aS.length:Int)=f.aW))/\i<=f.aW.toNat/\kids.length=i/\OR aD.o kids es/\fH B (OV.bG es) g1/\(g1 ns=none/\g1 ng=none/\g1 n8=none/\g1 n9=none)/\yV g1 es o/\(∀ m,o=some m->¬m=ns/\¬m=ng/\¬m=n8/\¬m=n9) /\
  (∀ (j:Nat) (h:j<kids.length),kids[j].ok p p.aK.length vars)/\aD.dL kids<=dp/\(L3<=L/\L-qU aD.s kids<=L3/\qU aD.s kids+3*mL L3<=3*mL L+i)/\(a<=a3/\a3<=a+10+14*qU aD.s kids)
theorem aKL.next {p:aG} {f:aX} {vars:Int} {dp a:Nat} {L:Int} {B:aB} {ns ng n8 n9:Nat} {K cnt:Int} {i:Nat} {kids:List aD} {es:List (List OV)} {g1 g5:aB} {o:Option Nat} {a3 a5:Nat} {sd3 sd5 L3 L5:Int} {x:aD} {e:List OV} {m:Nat}
  (h:aKL p f vars dp a L B ns ng n8 n9 (K,i,kids,es,g1,o,a3,sd3,L3,cnt)) (hlt:(i:Int)<f.aW) (hx:x.o e) (w:fH g1 (OV.bY e) g5) (z:g5 ns=none/\g5 ng=none/\g5 n8=none/\g5 n9=none) (hm:g5 m=none) (hm2:¬m=ns/\¬m=ng/\¬m=n8/\¬m=n9)
  (hok:x.ok p p.aK.length vars) (hd:x.d<=dp) (hL:L5<=L3-1/\L3-(x.s+1)<=L5/\x.s+3*mL L5<=3*mL L3) (ha:a3<=a5/\a5<=a3+14*(x.s+1)):aKL p f vars dp a L B ns ng n8 n9 (K,i+1,kids++[x],es++[e],g5,some m,a5,sd5,L5,cnt):=by
 obtain⟨hK,hi,hlen,hor,hnew,-,-,-,bIA,hdl,hL3,ha3⟩:=h
 refine⟨hK,by omega,by rw[gD,hlen];rfl,OR.append hor ⟨hx,trivial⟩,fH.snoc hnew w,z,hm,λb q=>by cases q;exact hm2,λj hj=>?_,by rw[aPH];omega,?_,?_⟩
 ·rcases bT j kids.length with h2|h2
  ·rw[a2Q h2];exact bIA j h2
  ·obtain rfl:j=kids.length:=by rw[gD]at hj;simp at hj;omega
   rw[a2R (bX _)]
   simp only[sU,List.getElem_cons_zero]
   exact hok
 ·rw[aD0];refine⟨by omega,by omega,by omega⟩
 ·rw[aD0];omega
theorem a1Y {p:aG} {f:aX} {ns ng np:Nat} {c:List Int} {pl:Bool} {vars:Int} {dp a k:Nat} {L y cnt:Int} {B H:aB} {n8 n9:Nat} {K:Int} {i:Nat} {kids:List aD} {es:List (List OV)} {g1:aB} {o:Option Nat} {a3:Nat} {sd3 L3:Int} (hf:p.aK[k]?=some f) (hf1:1<=f.aW/\f.aW<=3) (hy:0<=y/\y<f.aS.length)
  (h:aKL p f vars dp a L B ns ng n8 n9 (K,i,kids,es,g1,o,a3,sd3,L3,cnt)) (hi:(i:Int)=f.aW) (hle:(aU (aU (cP g1 (.row 5 (OV.cells es)) o) ns (jK c a3 sd3)) ng (kT ns np L3 pl)).le H) :
  ∃ r1 g2,Shift (.agg [I K,I k,I y,I cnt,jN 5 i o]) H r1 g2/\a6V p ns ng np c pl vars dp a L B r1 g2:=by
 obtain⟨hK,-,hlen,hor,hnew,⟨zs,zg,-,-⟩,hgs,hon,hok,hdl,hL,ha3⟩:=h
 have hes:es.length=i:=by rw[←hor.length];exact hlen
 have hkl:k<p.aK.length:=by rcases bT k p.aK.length with h|h;exact h;rw[aNC h]at hf;cases hf
 rw[←hes]
 have z (q:Nat) (hq:g1 q=none) (hqo:∀ m,o=some m->¬m=q):cP g1 (.row 5 (OV.cells es)) o q=none:=j5 hq hqo
 refine⟨_,_,Shift.of (Sub.agg (.cons (.refl _) (.cons (.refl _) (.cons (.refl _) (.cons (.refl _) (.cons aXR .nil)))))) hle,.mk K k y cnt kids,[.v (I K),.v (I k),.v (I y),.v (I cnt),gov 5 es o],_,a3,sd3,L3,(aD.uK _ _).2 ⟨_,rfl,aNY hor hgs⟩,rfl,
  by simpa only[OV.eC,OV.hJ,OV.z5,dS,dP]using aG1 hnew hgs,⟨z ns zs λm e=>(hon m e).1,z ng zg λm e=>(hon m e).2.1⟩,rfl,(aD.eI _ _ _ _).2 ⟨?_,λj hj=>?_⟩,by rw[aD.a37];simp only[aD.aM];omega,?_,?_⟩
 ·unfold mD
  rw[if_pos (show(aD.mk K k y cnt kids).aT=10∨(aD.mk K k y cnt kids).aT=11 from by simp only[aD.aT];omega)]
  simp only[aD.aT,aD.bB,aD.c4,aD.cN,aD.aM]
  refine⟨by omega,by omega,λf' hf'=>?_⟩
  rw[tX,hf]at hf'
  cases hf'
  refine⟨hy.1,by omega,by omega,λq=>by omega,λq=>by omega⟩
 ·have hm:jG (aD.mk K k y cnt kids).aT j vars=vars:=by unfold jG;rw[if_neg a2Z]
  rw[hm]
  exact hok j hj
 ·rw[aUU];refine⟨by omega,by omega,by omega⟩
 ·rw[aUU];omega
@[go_sem] def aHR:List Nat:=[0,1,2,3,8,9,10,11,13,61,74]
@[go_sem] def aZO:List Nat:=[85]
@[go_sem] def aZP:Marks:=λid=>match id with|4=>([3,6,8],(.op 0 (.op 1 (.op 2 (.op 7 (.op 3 (.op 4 (.op 5 (.op 6 (.op 8 (.op 9 (.op 10 .nil))))))))))),[])|5=>([3,7,8,9,11],(.op 0 (.op 1 (.op 2 (.op 4 (.op 5 (.op 6 (.op 3 (.op 7 (.op 8 (.op 9 (.op 10 (.op 11 .nil)))))))))))),[(3,8)])|6=>([3,4,8,14,15],(.op 0 (.op 1 (.op 2 (.op 5 (.op 6 (.op 7 (.op 3 (.op 8 (.op 4 (.op 9 (.op 10 (.op 11 (.op 12 (.op 13 (.op 14 (.op 15 (.op 16 .nil))))))))))))))))),[(8,4)])|12=>([1,7,9,11],(.op 0 (.op 2 (.op 3 (.op 4 (.op 5 (.op 6 (.op 1 (.op 7 (.op 8 (.op 9 (.op 10 (.op 11 .nil)))))))))))),[(1,7)])|_=>([],.nil,[])
set_option maxHeartbeats 8000000 in
theorem aVO {p:aG} {ns ng np:Nat} {c:List Int} {pl:Bool} (hc:∀ x∈c,InB x) (hl:c.length<=4096) (hne:¬ns=ng) (hP:yH p) (hpl:p.aK.length<=100) {dp:Nat} (hdp:1<=dp) (ih:∀ d,d+1=dp->a6X Tryz.prog 154 p ns ng np c pl d):bEC Tryz.prog 193 p ns ng np c pl dp:=by
 intro vars B a sd L hB1 hB2 hprog hv ha hL
 obtain⟨sW,bK,bL,kV⟩:=cW (show ¬ns=ng from hne)
 refine mC 89 aHR aZO aZP Tryz.func193 ?_
 simp -dsimp -implicitDefEqProofs only[go_sem,↓reduceIte,Tryz.f193,kT]
 intro n8 q8
 have a8:¬n8=ng:=by grind
 have b8:¬n8=ns:=by grind
 have z8:B n8=none:=by grind
 obtain⟨bA4,cH,cI,p9⟩:=cW (show ¬n8=ng from a8)
 obtain⟨aZL,bQ,bR,l9⟩:=cW (show ¬n8=ns from b8)
 simp -dsimp -implicitDefEqProofs only[go_sem,↓reduceIte,Tryz.f193,cH,bQ,cI,bL,bR,bK,aC,aP,kT,c8,dA,dB,dC,dD,dS,dP,fL,b5 p9,b5 l9,aO]
 rw[show ∀ H:aB,aU H ng (bV.row 4 [[Cell.v (aE.op ns 3 0 0),Cell.v (aE.op np 1 0 0),Cell.v (I L),Cell.v (aE.bool pl)]])=aU H ng (kT ns np L pl)from λ_=>rfl]
 refine⟨λh0=>?_,λh0=>?_⟩
 ·refine aH.gV (aYR (np:=np) (a:=a) (sd:=sd) (L:=L) (pl:=pl) (B:=aU B n8 (.row 5 [[.v (I 0),.v (I 0),.v (I 0),.v (I 0),.v .bS]])) hc hl hne vars aA aWI aWJ aA) ?_
  rintro r_ h' ⟨k,n,a',sd',rfl,hkn,ha',rfl⟩
  simp -dsimp -implicitDefEqProofs only[go_sem,↓reduceIte,Tryz.f193,cH,bQ,cI,bL,bR,bK,aC,aP,b5 p9,b5 l9,aO]
  exact a1X (a:=a) (a':=a') (sd':=sd') hkn hB1 hB2 aA (by
   intro q_
   simp only[aP]
   grind)
 ·obtain⟨esF,oF,horF,hBp,honF,hBm⟩:=id hprog
  cases oF with
  |none=>exact absurd (by rw[honF rfl];rfl) h0
  |some mF =>
  have hBm:=hBm mF rfl
  have p1:¬np=ns:=λq=>by rw[q,hB1]at hBp;cases hBp
  have p2:¬np=ng:=λq=>by rw[q,hB2]at hBp;cases hBp
  have p3:¬np=n8:=λq=>by rw[q,z8]at hBp;cases hBp
  have m1:¬mF=ns:=λq=>by rw[q,hB1]at hBm;cases hBm
  have m2:¬mF=ng:=λq=>by rw[q,hB2]at hBm;cases hBm
  have m3:¬mF=n8:=λq=>by rw[q,z8]at hBm;cases hBm
  obtain⟨aHS,fW,fX,aEF⟩:=cW (show ¬np=ns from p1)
  obtain⟨bA6,kF,kG,aZQ⟩:=cW (show ¬np=ng from p2)
  obtain⟨bQ6,yO,yP,bQ7⟩:=cW (show ¬np=n8 from p3)
  obtain⟨bQ8,vT,vU,bQ9⟩:=cW (show ¬mF=ns from m1)
  obtain⟨bRA,vV,vW,bRB⟩:=cW (show ¬mF=ng from m2)
  obtain⟨bRC,vX,vY,bRD⟩:=cW (show ¬mF=n8 from m3)
  refine aH.gV (qY (a:=a) (sd:=sd) hc hl aA p.aK.length aA aLS) ?_
  rintro r_ h' ⟨x,a2,sd2,rfl,x0,x1,-,ha2,rfl⟩
  simp only[b5 kV,aO]
  have x1:=x1 aA
  obtain⟨k,rfl⟩:∃ k:Nat,x=k:=⟨x.toNat,by omega⟩
  have hk:k<p.aK.length:=by omega
  have hf:p.aK[k]?=some p.aK[k]:=eY hk
  obtain⟨hf1,hf2⟩:=hP _ (kM hk)
  generalize p.aK[k]=f at hf hf1 hf2
  obtain⟨ef,hef,hfo⟩:=horF.a8S k f hf
  obtain⟨y,rfl,hy⟩:=hfo
  obtain⟨n5,eo,rfl,hyR⟩:=hy.some aA
  have hcell:=aE9 hef
  have hes:esF.length=p.aK.length:=horF.length.symm
  have hyl:eo.length=f.aS.length:=hyR.length.symm
  simp only[p5,v7,OV.nG,OV.z7]at hcell
  simp -dsimp -implicitDefEqProofs only[go_sem,↓reduceIte,Tryz.f193,cH,bQ,yP,cI,bL,kG,bR,bK,fX,yO,kF,fW,cH,bQ,vY,cI,bL,vW,bR,bK,vU,vX,vV,vT,aC,aP,c8,dA,dB,dC,dD,dS,dP,fL,kT,hBp,hBm,hcell,cK,cO]
  intro n9 q9
  have a9:¬n9=ng:=by grind
  have b9:¬n9=ns:=by grind
  have c9:¬n9=n8:=by grind
  have z9:B n9=none:=by grind
  have p4:¬np=n9:=λq=>by rw[q,z9]at hBp;cases hBp
  have m4:¬mF=n9:=λq=>by rw[q,z9]at hBm;cases hBm
  obtain⟨bA5,cY,cZ,p8⟩:=cW (show ¬n9=ng from a9)
  obtain⟨aZM,b7,cA,l8⟩:=cW (show ¬n9=ns from b9)
  obtain⟨aAU,cB,cC,aZN⟩:=cW (show ¬n9=n8 from c9)
  obtain⟨bRE,aA9,aBA,bRF⟩:=cW (show ¬np=n9 from p4)
  obtain⟨bRG,yQ,yR,bRH⟩:=cW (show ¬mF=n9 from m4)
  simp -dsimp -implicitDefEqProofs only[go_sem,↓reduceIte,Tryz.f193,cH,bQ,yP,cC,cI,bL,kG,cZ,bR,bK,fX,cA,yO,kF,fW,aA9,cB,cY,b7,aBA,cH,bQ,vY,cC,cI,bL,vW,cZ,bR,bK,vU,cA,vX,vV,vT,yQ,cB,cY,b7,yR,aC,aP,c8,dA,dB,dC,dD,dS,dP,fL,kT,hBp,hBm,hcell,cK,cO,b5 p8,b5 l8,aO]
  rw[show ∀ H:aB,aU H ng (bV.row 4 [[Cell.v (aE.op ns 3 0 0),Cell.v (aE.op np 1 0 0),Cell.v (I L),Cell.v (aE.bool pl)]])=aU H ng (kT ns np L pl)from λ_=>rfl]
  refine⟨hk,λ_=>?_⟩
  refine aH.gV (qY (a:=a2) (sd:=sd2) hc hl aA eo.length aA aLS) ?_
  rintro r_ h' ⟨y,a3,sd3,rfl,y0,y1,-,ha3,rfl⟩
  have y1:=y1 aA
  simp only[b5 kV,aO]
  simp -dsimp -implicitDefEqProofs only[go_sem,↓reduceIte,Tryz.f193,cH,bQ,yP,cC,cI,bL,kG,cZ,bR,bK,fX,cA,yO,kF,fW,aA9,cB,cY,b7,aBA,cH,bQ,vY,cC,cI,bL,vW,cZ,bR,bK,vU,cA,vX,vV,vT,yQ,cB,cY,b7,yR,aC,aP,c8,dA,dB,dC,dD,dS,dP,fL,hBp,hBm,hcell,cK,cO,b5 p8,b5 l8,b5 kV,aO]
  refine λ_=>?_
  apply a61
  case m =>
   intro key
   refine⟨λh1=>?_,λh1=>?_⟩
   ·simp -dsimp -implicitDefEqProofs only[go_sem,↓reduceIte,Tryz.f193,cH,bQ,yP,cC,cI,bL,kG,cZ,bR,bK,fX,cA,yO,kF,fW,aA9,cB,cY,b7,aBA,cH,bQ,vY,cC,cI,bL,vW,cZ,bR,bK,vU,cA,vX,vV,vT,yQ,cB,cY,b7,yR,aC,aP,c8,dA,dB,dC,dD,dS,dP,fL,kT,hBp,hBm,hcell,cK,cO]
    rw[show ∀ H:aB,aU H ng (bV.row 4 [[Cell.v (aE.op ns 3 0 0),Cell.v (aE.op np 1 0 0),Cell.v (I L),Cell.v (aE.bool pl)]])=aU H ng (kT ns np L pl)from λ_=>rfl]
    refine aH.gV (a5B (a:=a3) (sd:=sd3) hc hl aA 2 aA aLS) ?_
    rintro r_ h' ⟨b,a4,sd4,rfl,ha4,rfl⟩
    simp only[b5 kV,aO]
    cases b
    ·simp -dsimp -implicitDefEqProofs only[go_sem,↓reduceIte,Tryz.f193,cH,bQ,yP,cC,cI,bL,kG,cZ,bR,bK,fX,cA,yO,kF,fW,aA9,cB,cY,b7,aBA,cH,bQ,vY,cC,cI,bL,vW,cZ,bR,bK,vU,cA,vX,vV,vT,yQ,cB,cY,b7,yR,aC,aP,c8,dA,dB,dC,dD,dS,dP,fL,b5 p8,b5 l8,b5 kV,aO]
     refine cM aHR aZO aZP (λx:CSt=>[(0,.op ng 4 0 0),(1,I vars),(2,I p.aK.length),(3,I dp),(8,.op n8 5 0 0),(9,.op n9 5 0 0),(10,.op mF 3 k 0),(11,I x.2.1)]) (λx=>aU (aU (aU (aU (cP x.2.2.2.2.1 (.row 5 (OV.cells x.2.2.2.1)) x.2.2.2.2.2.1) n8 (u2 0 0 0 0 .bS)) n9 (u2 x.1 k y x.2.2.2.2.2.2.2.2.2 (jN 5 x.2.1 x.2.2.2.2.2.1))) ns (jK c x.2.2.2.2.2.2.1 x.2.2.2.2.2.2.2.1)) ng (kT ns np x.2.2.2.2.2.2.2.2.1 pl)) (λx=>aKL p f vars dp a L B ns ng n8 n9 x) (λx=>f.aW.toNat-x.2.1) (10,0,[],[],B,none,a4,sd4,L,0) ⟨by simp[cR,b6],aB.le_refl _,by omega,eF _,rfl,trivial,fH.nil B,⟨hB1,hB2,z8,z9⟩,rfl,(λm e=>by cases e),(λj h=>by cases h),eF _,⟨aEP _,by simp[qU],by simp[qU]⟩,by simp[qU];omega⟩ ?_
     exact key.get
    ·simp -dsimp -implicitDefEqProofs only[go_sem,↓reduceIte,Tryz.f193,cH,bQ,yP,cC,cI,bL,kG,cZ,bR,bK,fX,cA,yO,kF,fW,aA9,cB,cY,b7,aBA,cH,bQ,vY,cC,cI,bL,vW,cZ,bR,bK,vU,cA,vX,vV,vT,yQ,cB,cY,b7,yR,aC,aP,c8,dA,dB,dC,dD,dS,dP,fL,kT,b5 p8,b5 l8,b5 kV,aO]
     rw[show ∀ H:aB,aU H ng (bV.row 4 [[Cell.v (aE.op ns 3 0 0),Cell.v (aE.op np 1 0 0),Cell.v (I L),Cell.v (aE.bool pl)]])=aU H ng (kT ns np L pl)from λ_=>rfl]
     refine aH.gV (qY (a:=a4) (sd:=sd4) hc hl aA 4 aA aLS) ?_
     rintro r_ h' ⟨cnt,a5,sd5,rfl,c0,c1,-,ha5,rfl⟩
     have c1:=c1 aA
     simp only[b5 kV,aO]
     simp -dsimp -implicitDefEqProofs only[go_sem,↓reduceIte,Tryz.f193,cH,bQ,yP,cC,cI,bL,kG,cZ,bR,bK,fX,cA,yO,kF,fW,aA9,cB,cY,b7,aBA,cH,bQ,vY,cC,cI,bL,vW,cZ,bR,bK,vU,cA,vX,vV,vT,yQ,cB,cY,b7,yR,aC,aP,c8,dA,dB,dC,dD,dS,dP,fL,b5 p8,b5 l8,b5 kV,aO]
     refine cM aHR aZO aZP (λx:CSt=>[(0,.op ng 4 0 0),(1,I vars),(2,I p.aK.length),(3,I dp),(8,.op n8 5 0 0),(9,.op n9 5 0 0),(10,.op mF 3 k 0),(11,I x.2.1)]) (λx=>aU (aU (aU (aU (cP x.2.2.2.2.1 (.row 5 (OV.cells x.2.2.2.1)) x.2.2.2.2.2.1) n8 (u2 0 0 0 0 .bS)) n9 (u2 x.1 k y x.2.2.2.2.2.2.2.2.2 (jN 5 x.2.1 x.2.2.2.2.2.1))) ns (jK c x.2.2.2.2.2.2.1 x.2.2.2.2.2.2.2.1)) ng (kT ns np x.2.2.2.2.2.2.2.2.1 pl)) (λx=>aKL p f vars dp a L B ns ng n8 n9 x) (λx=>f.aW.toNat-x.2.1) (11,0,[],[],B,none,a5,sd5,L,cnt) ⟨by simp[cR,b6],aB.le_refl _,by omega,eF _,rfl,trivial,fH.nil B,⟨hB1,hB2,z8,z9⟩,rfl,(λm e=>by cases e),(λj h=>by cases h),eF _,⟨aEP _,by simp[qU],by simp[qU]⟩,by simp[qU];omega⟩ ?_
     exact key.get
   ·refine cM aHR aZO aZP (λx:CSt=>[(0,.op ng 4 0 0),(1,I vars),(2,I p.aK.length),(3,I dp),(8,.op n8 5 0 0),(9,.op n9 5 0 0),(10,.op mF 3 k 0),(11,I x.2.1)]) (λx=>aU (aU (aU (aU (cP x.2.2.2.2.1 (.row 5 (OV.cells x.2.2.2.1)) x.2.2.2.2.2.1) n8 (u2 0 0 0 0 .bS)) n9 (u2 x.1 k y x.2.2.2.2.2.2.2.2.2 (jN 5 x.2.1 x.2.2.2.2.2.1))) ns (jK c x.2.2.2.2.2.2.1 x.2.2.2.2.2.2.2.1)) ng (kT ns np x.2.2.2.2.2.2.2.2.1 pl)) (λx=>aKL p f vars dp a L B ns ng n8 n9 x) (λx=>f.aW.toNat-x.2.1) (10,0,[],[],B,none,a3,sd3,L,0) ⟨by simp[cR,b6],aB.le_refl _,by omega,eF _,rfl,trivial,fH.nil B,⟨hB1,hB2,z8,z9⟩,rfl,(λm e=>by cases e),(λj h=>by cases h),eF _,⟨aEP _,by simp[qU],by simp[qU]⟩,by simp[qU];omega⟩ ?_
    exact key.get
  case t =>
   rintro⟨K,i,kids,es,g1,o,a3,sd3,L3,cnt⟩ hgg
   obtain⟨hK,hi,hlen,hor,hnew,⟨zs,zg,z18,z19⟩,hgs,hon,hok,hdl,hL3,ha3⟩:=id hgg
   simp only at hi hlen hor hnew zs zg z18 z19 hgs hon hok hdl hL3 ha3 hK ⊢
   have wd:IntKind.i64.wrap ((dp:Int)-1)=((dp-1:Nat):Int):=by rw[IntWalk.i64_in _ aA];omega
   have a73:mL L<=1000:=by unfold mL;omega
   have hGm:=hnew.keep hBm
   have hom:∀ R,cP g1 R o mF=some (.row 3 (OV.cells esF)):=by
    intro R
    cases o with
    |none=>exact hGm
    |some m5 =>
     rw[jY]at hgs
     rw[aJ,aC _ _ _ _ (λq=>by rw[←q,hGm]at hgs;cases hgs)]
     exact hGm
   unfold u2
   simp -dsimp -implicitDefEqProofs only[go_sem,↓reduceIte,Tryz.f193,cH,bQ,cC,cI,bL,cZ,bR,bK,cA,cB,cY,b7,cH,bQ,vY,cC,cI,bL,vW,cZ,bR,bK,vU,cA,vX,vV,vT,yQ,cB,cY,b7,yR,aC,aP,c8,dA,dB,dC,dD,dS,dP,fL,wd,hom,hcell]
   refine⟨λhlt=>?_,λhge=>⟨oA ..,?_⟩⟩
   ·have hV:vars=vars:=rfl
    cases o with
    |none =>
     rw[mB]at hgs
     subst hgs
     obtain rfl:kids=[]:=aGJ.1 hor.length
     obtain rfl:i=0:=hlen.symm
     simp only[aL,mR]
     refine aH.gV (ih (dp-1) aA vars _ a3 sd3 L3 aWC aWE (hprog.le (aB.bM z9 (aB.bM z8 hnew.le))) ⟨by omega,by omega,by omega⟩) ?_
     rintro r_ h' ⟨x5,e5,g',a5,sd5,L5,hx,rfl,hnw,⟨y1,y2⟩,rfl,aH4,hd5,hL5,ha5⟩
     obtain⟨g5,rfl,w5,z58,z59⟩:=fH.aB7 z18 aWK hnw
     simp only[aP,cH,bQ,cC,cI,bL,cZ,bR,bK,cA,cB,cY,b7,if_false]at y1 y2 z59
     have hx5:=hx
     rw[aD.uK]at hx
     obtain⟨y4,rfl,os4⟩:=hx
     simp -dsimp -implicitDefEqProofs only[go_sem,↓reduceIte,Tryz.f193,cH,bQ,cC,cI,bL,cZ,bR,bK,cA,cB,cY,b7,aC,aP,c8,dA,dB,dC,dD,dS,dP,fL,OV.iF,OV.dN,OV.nG,os4.flat,os4.one]
     have ht:=eH []
     refine⟨by decide,by decide,by decide,λm qm=>?_⟩
     have am:¬m=ns:=by grind
     have bm:¬m=ng:=by grind
     have cm:¬m=n8:=by grind
     have em:¬m=n9:=by grind
     have dm:g5 m=none:=by grind
     skip
     obtain⟨m8,fO,fP,o5⟩:=cW (show ¬m=ns from am)
     obtain⟨uT,iT,iU,uU⟩:=cW (show ¬m=ng from bm)
     obtain⟨yI,j7,j8,yJ⟩:=cW (show ¬m=n8 from cm)
     obtain⟨yK,j9,kA,yL⟩:=cW (show ¬m=n9 from em)
     simp -dsimp -implicitDefEqProofs only[go_sem,↓reduceIte,Tryz.f193,cH,bQ,cC,j8,cI,bL,cZ,iU,bR,bK,cA,fP,cB,cY,b7,kA,j7,iT,fO,j9,aC,aP,c8,dA,dB,dC,dD,dS,dP,fL]
     refine⟨(K,0+1,[]++[x5],[]++[[.v (.int .i64 x5.aT),.v (.int .i64 x5.bB),.v (.int .i64 x5.c4),.v (.int .i64 x5.cN),y4]],g5,some m,a5,sd5,L5,cnt),IntWalk.i64_in _ aA,?_,hgg.next hlt hx5 w5 ⟨y1,y2,z58,z59⟩ dm ⟨am,bm,cm,em⟩ aFR aA hL5 ha5,by simp only;omega⟩
     intro q_
     simp only[aP,aJ,cK,jD,eH,cO,kK,kL,OV.iF,OV.dN,OV.nG,dS,p5,v7,ht]
     grind
    |some m0 =>
     rw[jY]at hgs
     obtain⟨hm1,hm2,hm3,hm4⟩:=hon m0 rfl
     obtain⟨aA6,iG,iH,xM⟩:=cW (show ¬m0=ns from hm1)
     obtain⟨aPI,mH,mI,aGW⟩:=cW (show ¬m0=ng from hm2)
     obtain⟨aHP,kB,kC,aCW⟩:=cW (show ¬m0=n8 from hm3)
     obtain⟨aHQ,kD,kE,aCU⟩:=cW (show ¬m0=n9 from hm4)
     have hBm:B m0=none:=by
      cases hb:B m0 with
      |none=>rfl
      |some v=>have:=hnew.keep hb;rw[hgs]at this;cases this
     simp only[aJ,cK]
     refine aH.gV (ih (dp-1) aA vars _ a3 sd3 L3 aV9 aWA (hprog.le (aB.bM z9 (aB.bM z8 (aB.bM hBm hnew.le)))) ⟨by omega,by omega,by omega⟩) ?_
     rintro r_ h' ⟨x5,e5,g',a5,sd5,L5,hx,rfl,hnw,⟨y1,y2⟩,rfl,aH4,hd5,hL5,ha5⟩
     obtain⟨g5,rfl,w5,z50,z58,z59⟩:=fH.aNV hgs aWL aWB hnw
     simp only[aP,cH,bQ,cC,kC,cI,bL,cZ,mI,bR,bK,cA,iH,cB,cY,b7,kE,kB,mH,iG,kD,if_false]at y1 y2 z58 z59
     have hx5:=hx
     rw[aD.uK]at hx
     obtain⟨y4,rfl,os4⟩:=hx
     simp -dsimp -implicitDefEqProofs only[go_sem,↓reduceIte,Tryz.f193,cH,bQ,cC,kC,cI,bL,cZ,mI,bR,bK,cA,iH,cB,cY,b7,kE,kB,mH,iG,kD,aC,aP,c8,dA,dB,dC,dD,dS,dP,fL,OV.iF,OV.dN,OV.nG,os4.flat,os4.one,cO]
     have ht:List.take i (OV.cells es)=OV.cells es:=nI aQB
     refine⟨by decide,by decide,by decide,by have:=hor.length;omega,by omega,by omega,λm qm=>?_⟩
     have am:¬m=ns:=by grind
     have bm:¬m=ng:=by grind
     have cm:¬m=n8:=by grind
     have em:¬m=n9:=by grind
     have dm:g5 m=none:=by grind
     have fm:¬m=m0:=wR;have yM:=eq_false fm;have yN:=eq_false (iK fm);have aPJ:=fm;have aPK:=iK fm
     obtain⟨m8,fO,fP,o5⟩:=cW (show ¬m=ns from am)
     obtain⟨uT,iT,iU,uU⟩:=cW (show ¬m=ng from bm)
     obtain⟨yI,j7,j8,yJ⟩:=cW (show ¬m=n8 from cm)
     obtain⟨yK,j9,kA,yL⟩:=cW (show ¬m=n9 from em)
     simp -dsimp -implicitDefEqProofs only[go_sem,↓reduceIte,Tryz.f193,cH,bQ,cC,j8,cI,bL,cZ,iU,bR,bK,cA,fP,cB,cY,b7,kA,j7,iT,fO,j9,yM,j7,j9,iT,fO,yN,kB,kD,mH,iG,j8,kC,cC,cH,bQ,kA,kE,cB,cY,b7,iU,mI,cI,cZ,bL,fP,iH,bR,cA,bK,aC,aP,c8,dA,dB,dC,dD,dS,dP,fL]
     refine⟨(K,i+1,kids++[x5],es++[[.v (.int .i64 x5.aT),.v (.int .i64 x5.bB),.v (.int .i64 x5.c4),.v (.int .i64 x5.cN),y4]],g5,some m,a5,sd5,L5,cnt),IntWalk.i64_in _ aA,?_,hgg.next hlt hx5 w5 ⟨y1,y2,z58,z59⟩ dm ⟨am,bm,cm,em⟩ aFR aA hL5 ha5,by simp only;omega⟩
     intro q_
     simp only[aP,aJ,cK,jD,eH,cO,kK,kL,OV.iF,OV.dN,OV.nG,dS,p5,v7,ht]
     grind
   ·have hi2:(i:Int)=f.aW:=by omega
    have y8:cP g1 (.row 5 (OV.cells es)) o n8=none:=j5 z18 λm e=>(hon m e).2.2.1
    have y9:cP g1 (.row 5 (OV.cells es)) o n9=none:=j5 z19 λm e=>(hon m e).2.2.2
    exact a1Y hf hf1 ⟨y0,by omega⟩ hgg hi2 (by
     intro q_
     simp only[aP]
     grind)
end Go.Hl

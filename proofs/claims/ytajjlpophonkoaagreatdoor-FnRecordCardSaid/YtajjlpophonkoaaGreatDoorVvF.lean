/-
  Contracts of functions and laws of the layer over the walk.
-/
import Derived.Test.YtajjlpophonkoaaGreatDoorVvE
import Derived.Test.YtajjlpophonkoaaGreatDoorVvC
import Derived.Test.YtajjlpophonkoaaGreatDoorVvD
import Derived.Test.YtajjlpophonkoaaGreatDoorVvA
namespace Go.Hl
open Go.Proofs
set_option linter.unusedVariables false
set_option linter.unusedSimpArgs false
theorem a7A (c:List Int) {g:Heap}:fH Tryz.prog 30 [.sl 1 (c.map λn=>[.int .u8 n]) false] g λr h'=>∃ ns,r=.op ns 3 0 0/\g ns=none/\h'=aR g ns (iX c 0 0):=by
 refine aGC 6 aBF cR cC Tryz.func30 ?_
 simp -dsimp -implicitDefEqProofs only[go_sem,↓reduceIte,Tryz.f30]
 intro n q
 exact⟨_,Heap.le_refl _,n,rfl,q,rfl⟩
set_option maxRecDepth 100000
theorem aUC {α:Type} (s:α->Nat) (b:Nat):∀ l:List α,(∀ x∈l,s x<=b)->(l.map s).sum<=l.length*b
 | [],_=>by simp
 |x::l,h=>by
  have h1:=h x (.head _)
  have h2:=aUC s b l λy hy=>h y (.tail _ hy)
  rw[qH,aPQ,al3,sI]
  omega
theorem aWB {p:aF} (hp:p.ok):p.s<=8000:=by
 have hl:=hp.1
 have h1:(p.aI.map aV.s).sum<=p.aI.length*453:=aUC _ _ _ λf hf=>by
  obtain⟨k,hk,rfl⟩:=aAK.1 hf
  obtain⟨h1,h2,h3,h4,h5,h6⟩:=hp.2 k _ (cP hk)
  unfold yX at h1
  rw[aV.xN];omega
 have h3:p.aI.length*453<=16*453:=aUP _ aA
 rw[p.xN,oQ];omega
theorem bGC {ns:Nat} {c:List Int} (hc:∀ x∈c,InB x) (hl:c.length<=4096) {B:Heap} (hB:B ns=none) {a:Nat} (ha:a<=600000000) {sd:Int}:fH Tryz.prog 56 [.op ns 3 0 0] (aR B ns (iX c a sd)) λr h'=>∃ fs a' sd',(1<=fs.length/\fs.length<=3)/\wQ fs/\r=.agg [eQ 3 aV.c fs]/\(a<=a'/\a'<=a+15004)/\h'=aR B ns (iX c a' sd'):=by
 refine gG 10 aBF cR cC Tryz.func56 ?_
 simp -dsimp -implicitDefEqProofs only[go_sem,↓reduceIte,Tryz.f56]
 intro n8 q8
 have b8:¬n8=ns:=by grind
 have z8:B n8=none:=by grind
 obtain⟨aB4,bF,bG,gQ⟩:=c7 (show ¬n8=ns from b8)
 refine aG.eH (qG (a:=a) (sd:=sd) hc hl aA 3 aA (by rw[aE _ _ _ _ gQ,aH])) ?_
 rintro r_ h' ⟨x,a1,sd1,rfl,x0,x1,-,ha1,rfl⟩
 have x1:=x1 aA
 have wx:IntKind.i64.wrap (1+x)=((x.toNat+1:Nat):Int):=by rw[IntWalk.i64_in _ aA];omega
 simp only[bT aB4,aJ]
 simp -dsimp -implicitDefEqProofs only[go_sem,↓reduceIte,Tryz.f56,bF,bG,aE,aM,wx]
 refine aG.eH (aZ6 (a:=a1) (sd:=sd1) hc hl aA 4 aA (by rw[aE _ _ _ _ gQ,aH])) ?_
 rintro r_ h' ⟨b,a2,yN,rfl,ha2,rfl⟩
 simp only[bT aB4,aJ]
 simp -dsimp -implicitDefEqProofs only[go_sem,↓reduceIte,Tryz.f56,bF,bG,aE,aM,wx]
 rw[bT gQ]
 refine aG.eH (bF4 (L0:=14) ⟨by decide,by decide⟩ (a:=a2) (sd:=yN) (n:=x.toNat+1) (pl:=b) (B:=aR B n8 (.row 1 [[.v .aW]])) hc hl aA (by rw[aE _ _ _ _ gQ];exact hB) aA) ?_
 rintro r_ h' ⟨fs,es,o,g1,a3,wT,hfl,hdr,hor,hnw,z1,hgs,hon,hfo,rfl,ha3,rfl⟩
 obtain⟨m,rfl⟩:∃ m,o=some m:=by
  cases o with
  |none=>rw[hfo rfl]at hfl;simp at hfl
  |some m=>exact⟨m,rfl⟩
 obtain⟨g2,rfl,w2,z2⟩:=fY.under z8 hnw
 have hm:aR g2 n8 (.row 1 [[.v .aW]]) m=none:=hgs
 have m8:¬m=n8:=λe=>by rw[e,aH]at hm;cases hm
 have mns:¬m=ns:=hon m rfl
 obtain⟨tU,iE,iF,tV⟩:=c7 (show ¬m=n8 from m8)
 obtain⟨qS,fO,fP,qT⟩:=c7 (show ¬m=ns from mns)
 simp only[aL,bD]at *
 simp -dsimp -implicitDefEqProofs only[go_sem,↓reduceIte,Tryz.f56,bF,iF,bG,fP,iE,fO,aE,aM]
 have hel:es.length=fs.length:=hor.length.symm
 have zm:g2 m=none:=by rwa [aE _ _ _ _ m8]at hm
 have zs:g2 ns=none:=by rwa [aE _ _ _ _ gQ]at z1
 obtain⟨H,hH⟩:∃ H:Heap,H=aR (aR (aR (aR g2 n8 (.row 1 [[.v .aW]])) m (.row 3 (OV.cells es))) ns (iX c a3 wT)) n8 (.row 1 [[.v (.os m 3 0 fs.length)]]):=⟨_,rfl⟩
 rw[←hH]
 have Hm:H m=some (.row 3 (OV.cells es)):=by rw[hH,aE _ _ _ _ m8,aE _ _ _ _ mns,aH]
 have Hs:H ns=some (iX c a3 wT):=by rw[hH,aE _ _ _ _ gQ,aH]
 have Hq:∀ q,¬q=n8->¬q=m->¬q=ns->H q=g2 q:=λq e1 e2 e3=>by rw[hH,aE _ _ _ _ e1,aE _ _ _ _ e3,aE _ _ _ _ e2,aE _ _ _ _ e1]
 have hrw:OV.dD [.sl m 3 es]=(m,.row 3 (OV.cells es))::OV.cT es:=by rw[OV.p7,OV.sV,OV.rF,eV]
 have hin:∀ p∈OV.cT es,¬p.1=n8/\¬p.1=m/\¬p.1=ns:=λp hp=>by
  have:=w2.r8 p hp
  exact⟨λe=>(by rw[e,z2]at this;cases this),λe=>(by rw[e,zm]at this;cases this),λe=>(by rw[e,zs]at this;cases this)⟩
 have ho:sM H (OV.dD [.sl m 3 es]):=λp hp=>by
  rw[hrw]at hp
  rcases oH.1 hp with rfl|hp
  ·exact Hm
  ·obtain⟨k1,k2,k3⟩:=hin p hp
   rw[Hq _ k1 k2 k3];exact w2.r8 p hp
 have hB2:∀ q,g2 q=none->B q=none:=λq hq=>by
  by_cases e:q∈bR (OV.cT es)
  ·exact w2.fresh q e
  ·rw[←w2.upto q e];exact hq
 have hlee:(aR B ns (iX c a3 wT)).le (jV H (bR (OV.dD [.sl m 3 es]))):=λq=>by
  rw[hrw]
  by_cases e3:q=ns
  ·subst e3
   right
   rw[aH,lF,Hs]
   intro e
   obtain⟨v,hv⟩:=dC.1 e
   rcases oH.1 hv with hv|hv
   ·cases hv;exact mns rfl
   ·exact(hin _ hv).2.2 rfl
  ·rw[aE _ _ _ _ e3]
   by_cases e:q∈bR ((m,bW.row 3 (OV.cells es))::OV.cT es)
   ·left
    obtain⟨v,hv⟩:=dC.1 e
    rcases oH.1 hv with hv|hv
    ·cases hv;exact hB2 _ zm
    ·exact w2.fresh q (dC.2 ⟨v,hv⟩)
   ·rw[lF e]
    by_cases e1:q=n8
    ·rw[e1];exact .inl (hB2 _ z2)
    ·have e2:¬q=m:=λk=>e (by rw[k];exact dC.2 ⟨_,.head _⟩)
     rw[Hq _ e1 e2 e3,w2.upto q λk=>e (by obtain⟨v,hv⟩:=dC.1 k;exact dC.2 ⟨v,.tail _ hv⟩)]
     exact .inr rfl
 have key:=Shift.own [.sl m 3 es] ho hlee
 have hd:[OV.sl m 3 es].map OV.oG=[eQ 3 aV.c fs]:=aF.wN (x:=⟨fs⟩) ⟨_,rfl,OS.mk hor⟩
 rw[hd,show[OV.sl m 3 es].map OV.val=[.os m 3 0 fs.length]by simp[OV.val,hel]]at key
 exact⟨_,_,key,fs,a3,wT,by omega,hdr,rfl,by omega,rfl⟩
@[go_sem] def bAR:List Nat:=[0,1,4,5,6,7,8,9,10,11]
theorem aWC {ns:Nat} {c:List Int} (hc:∀ x∈c,InB x) (hl:c.length<=4096) {p:aF} {G:aV} (hG:p.aI[p.aI.length-1]?=some G) (hp:p.aI.length<=100) (hg:(1<=G.aO.length/\G.aO.length<=100)/\G.bB<=100) {B:Heap} (hB:B ns=none) {np:Nat} (hnp:B np=some (.row 1 [[.v (eQ 3 aV.c p.aI)]])) {a:Nat} (ha:a<=600000000) {sd:Int} :
  fH Tryz.prog 57 [.op ns 3 0 0,.op np 1 0 0] (aR B ns (iX c a sd)) λr h'=>∃ (k:Int) (args dir:List Int) (a':Nat) (sd':Int),(args.length=G.bB.toNat/\gE args)/\r=.eW [I ((p.aI.length:Int)-1),I k,ints args,ints dir]/\h'=aR B ns (iX c a' sd'):=by
 have k1:¬np=ns:=λe=>by rw[e,hB]at hnp;cases hnp
 obtain⟨aT5,mH,mI,aE0⟩:=c7 (show ¬np=ns from k1)
 have hpl:1<=p.aI.length:=by have:=(jQ.1 hG).1;omega
 have w1:IntKind.i64.wrap ((p.aI.length:Int)-1)=(p.aI.length:Int)-1:=IntWalk.i64_in _ aA
 have hG':p.aI[((p.aI.length:Int)-1).toNat]?=some G:=by rw[show((p.aI.length:Int)-1).toNat=p.aI.length-1 by omega];exact hG
 refine gG 53 bAR cR cC Tryz.func57 ?_
 simp -dsimp -implicitDefEqProofs only[go_sem,↓reduceIte,Tryz.f57,hnp,mH,mI,aE,w1,hG',aV.aU]
 refine λ_=>⟨by omega,by omega,λ_=>?_⟩
 refine aG.eH (qG (a:=a) (sd:=sd) hc hl aA G.aO.length aA (aH ..)) ?_
 rintro r_ h' ⟨x,a1,sd1,rfl,x0,x1,-,ha1,rfl⟩
 rw[aJ]
 simp -dsimp -implicitDefEqProofs only[go_sem,↓reduceIte,Tryz.f57,hnp,mH,mI,aE,w1,hG',aV.aU]
 refine⟨by omega,by omega,aG.eH (aHP (a:=a1) (sd:=sd1) hc hl G.bB aA hB aA) ?_⟩
 rintro r_ h' ⟨l1,a2,yN,hl1,hn1,rfl,ha2,rfl⟩
 simp -dsimp -implicitDefEqProofs only[go_sem,↓reduceIte,Tryz.f57,hnp,mH,mI,aE,w1,hG',aV.aU]
 refine⟨by omega,by omega,aG.eH (aHP (a:=a2) (sd:=yN) hc hl G.bB aA hB aA) ?_⟩
 rintro r_ h' ⟨l2,a3,wT,hl2,hn2,rfl,ha3,rfl⟩
 simp -dsimp -implicitDefEqProofs only[go_sem,↓reduceIte,Tryz.f57]
 exact⟨_,_,Shift.of (Sub.refl _) (Heap.le_refl _),x,l1,l2,a3,wT,⟨hl1,hn1⟩,rfl,rfl⟩
theorem a4V {c:List Int} (hc:∀ x∈c,InB x) (hl:c.length<=4096) (n:Nat) (hn:n<=1000) {g:Heap}:fH Tryz.prog 20 [.sl 1 (c.map λn=>[.int .u8 n]) false,I n] g λr h'=>∃ l,l.length=n/\gE l/\r=ints l/\h'=g:=by
 refine aGC 9 yW cR cC Tryz.func20 ?_
 simp -dsimp -implicitDefEqProofs only[go_sem,↓reduceIte,Tryz.f20]
 refine aG.eH (a7A c) ?_
 rintro r_ h' ⟨ns,rfl,hns,rfl⟩
 simp -dsimp -implicitDefEqProofs only[go_sem,↓reduceIte,Tryz.f20]
 refine aG.eH (aHP (a:=0) (sd:=0) hc hl n aA hns aA) ?_
 rintro r_ h' ⟨q,a',sd',hq,nq,rfl,-,rfl⟩
 simp -dsimp -implicitDefEqProofs only[go_sem,↓reduceIte,Tryz.f20]
 exact⟨g,Heap.bA hns (Heap.le_refl _),q,by omega,nq,rfl,rfl⟩
@[go_sem] def bAS:List Nat:=[0,2,3,4,5,6,7,8,9,10,11,12]
theorem a4W {c:List Int} (hc:∀ x∈c,InB x) (hl:c.length<=4096) {g:Heap}:fH Tryz.prog 19 [.sl 1 (c.map λn=>[.int .u8 n]) false] g λr h'=>∃ (p:aF) (k:Int) (args dir:List Int),p.ok/\p.s<=4194304/\1<=p.aI.length/\(∀ F,p.aI[p.aI.length-1]?=some F->(args.length:Int)=F.bB)/\gE args/\args.length<=12/\r=.eW [.agg p.c,I ((p.aI.length:Int)-1),I k,ints args,ints dir]/\h'=g:=by
 refine gG 29 bAS cR cC Tryz.func19 ?_
 simp -dsimp -implicitDefEqProofs only[go_sem,↓reduceIte,Tryz.f19]
 intro n2 q2
 refine aG.eH (a7A c) ?_
 rintro r_ h' ⟨ns,rfl,hns,rfl⟩
 have k1:¬n2=ns:=λe=>by rw[e,aH]at hns;cases hns
 obtain⟨bJK,a4X,a4Y,a4Z⟩:=c7 (show ¬n2=ns from k1)
 simp -dsimp -implicitDefEqProofs only[go_sem,↓reduceIte,Tryz.f19]
 refine aG.eH (bGC (a:=0) (sd:=0) hc hl hns aA) ?_
 rintro r_ h' ⟨fs,a1,sd1,hfl,hdr,rfl,ha1,rfl⟩
 simp -dsimp -implicitDefEqProofs only[go_sem,↓reduceIte,Tryz.f19]
 rintro np ⟨p1,hpn,zg⟩
 obtain⟨aT5,mH,mI,aE0⟩:=c7 (show ¬np=ns from p1)
 obtain⟨bJL,a41,a42,bJM⟩:=c7 (show ¬np=n2 from hpn)
 rw[aJ]
 rw[bT aE0]
 obtain⟨G,hG⟩:∃ G,fs[fs.length-1]?=some G:=⟨_,cP aA⟩
 have hgood:=hdr _ _ hG
 unfold xW at hgood
 have hp:=hdr.bLT hfl.2
 refine aG.eH (aWC (p:=⟨fs⟩) (G:=G) (a:=a1) (sd:=sd1) hc hl hG aMQ aA (by rw[aE _ _ _ _ aE0];exact hns) (aH ..) aA) ?_
 rintro r_ h' ⟨k,args,dir,a2,yN,⟨ha,na⟩,rfl,rfl⟩
 have zn:g ns=none:=by rwa [aE _ _ _ _ a4Z]at hns
 simp -dsimp -implicitDefEqProofs only[go_sem,↓reduceIte,Tryz.f19,mH,a41,mI,a4Y,a42,a4X,aE,aM]
 refine⟨_,_,Shift.of (Sub.refl _) (Heap.bA q2 (Heap.bA zn (Heap.bA zg (Heap.bA q2 (Heap.le_refl _))))),⟨fs⟩,k,args,dir,hp,?_,by simp only;omega,λF hF=>?_,na,by omega,by rw[aF.aU],rfl⟩
 ·have:=aWB hp;omega
 ·rw[show(⟨fs⟩:aF).aI=fs from rfl,hG]at hF
  cases hF;omega
def rA (X:Out (List (List Int))):List Int×Int×Int:=match X with
 | .ok (vs,t)=>(vs.map (·.getD 0 0),t,0)
 | .error c=>([],0,c)
theorem aO4 {X:Out (List (List Int))} {l:List (List Int)} {t:Nat} {c:Int} (h:gZ X l t c):rA X=if c=0 then(l.map (·.getD 0 0),(t:Int),0)else([],0,c):=by
 cases X with
 |ok p =>
  obtain⟨w,u⟩:=p
  obtain⟨rfl,rfl,rfl⟩:=h
  rfl
 |error d =>
  obtain⟨rfl,h⟩:=h
  rw[if_neg h];rfl
theorem aO5 {l:List Int} {n len:Nat} {h h':Heap} (x c:Int) (hn:h n=none) (hl:(aR h n (.row 1 ((l.map λx=>[I x]).map (List.map .v)))).le h') (e:len=l.length:=by simp) :
  ∃ r1 g l1,Shift (.eW [.os n 1 0 len,I x,I c]) h' r1 g/\QS (OS (oP I) 1 l) (λy=>.eW [y,I x,I c]) r1 l1/\fY h l1 g:=by
 subst e
 refine⟨.eW [(OV.sl n 1 (l.map λx=>[.v (I x)])).val,I x,I c],aR h n (.row 1 ((l.map λx=>[I x]).map (List.map .v))),_,?_,⟨_,OS.mk (aGF l),rfl,rfl⟩,?_⟩
 ·rw[OV.aNW];exact Shift.of (Sub.refl _) hl
 ·rw[OV.rF,uJ,x9];exact fY.one hn
theorem aB7 {h h':Heap} (x c:Int) (hl:h.le h') :
  ∃ r1 g l1,Shift (.eW [.sl 1 [] true,I x,I c]) h' r1 g/\QS (OS (oP I) 1 []) (λy=>.eW [y,I x,I c]) r1 l1/\fY h l1 g :=
 ⟨.eW [(OV.nil 1).val,I x,I c],h,_,Shift.of (Sub.refl _) hl,⟨_,OS.nil,rfl,rfl⟩,by rw[OV.l5];exact fY.nil h⟩
@[go_sem] def aL1:List Nat:=[0,1,2,6,7,8,9,10,11,12,13,14,22,46,56]
@[go_sem] def a43:List Nat:=[18,30,31,47,52,66]
@[go_sem] def a44:Marks:=λid=>match id with|9=>([4],(.op 0 (.op 1 (.op 2 (.op 3 (.op 4 (.op 5 (.op 6 (.op 7 .nil)))))))),[])|15=>([4],(.op 0 (.op 1 (.op 2 (.op 3 (.op 4 (.op 5 (.op 6 (.op 7 .nil)))))))),[])|_=>([],.nil,[])
theorem a0K {p:aF} (hp:p.ok) (f:Int) (hf:0<=f/\f<p.aI.length) (args:List Int) (na:gE args) (hal:args.length<=12) (hl:∀ F,p.aI[f.toNat]?=some F->(args.length:Int)=F.bB) :
  FnN Tryz.prog 59 [.ip 1 [p.c] 0 0,I f,ints args] (QS (OS (oP I) 1 (rA (evF p 1 f (args.map λn=>[n]))).1) λy=>.eW [y,I (rA (evF p 1 f (args.map λn=>[n]))).2.1,I (rA (evF p 1 f (args.map λn=>[n]))).2.2]):=by
 obtain⟨F,ef,hF1,hF2,hF3,hF4⟩:=rG hp hf
 have hlF:=hl F ef
 rw[aF.aU]
 refine aIH 73 aL1 a43 a44 Tryz.func59 λh=>?_
 simp -dsimp -implicitDefEqProofs only[go_sem,↓reduceIte,Tryz.f59]
 intro nb zb
 refine⟨b6,?_⟩
 have hbd:bW.row 4 [[Cell.v (.ip 1 [[eQ 3 aV.c p.aI]] 0 0),Cell.v (I 1),Cell.v (I 0),Cell.v (I 0)]]=dO p 1 0 0:=rfl
 rw[hbd]
 have hB0:(aR h nb (dO p 1 0 0)) nb=some (dO p 1 0 0):=aH _ _ _
 have hBl:h.le (aR h nb (dO p 1 0 0)):=Heap.bA zb (Heap.le_refl _)
 generalize hgB:aR h nb (dO p 1 0 0)=hB at hB0 hBl ⊢
 refine aYB aL1 a43 a44 (λx:Nat×Option Nat=>[(0,.ip 1 [[eQ 3 aV.c p.aI]] 0 0),(1,I f),(2,ints args),(9,.op nb 4 0 0),(10,iH 1 (args.take x.1).length x.2),(11,I x.1)]) (λx=>c8 hB (.row 1 ((((args.take x.1).map λn=>[n]).map λs=>[ints s]).map (List.map .v))) x.2) (λx=>x.1<=args.length/\fM hB (args.take x.1) x.2) (λx=>args.length-x.1) (0,none) ⟨by simp[dM,cE,iH],by simp only[aQ];exact Heap.r9 (Heap.le_refl _),gM _,by simp[fM]⟩ ?_
 rintro⟨k,o⟩ ⟨hk,hos⟩
 simp only at hk hos ⊢
 rcases cQ k args.length with hlt|hge
 ·have ea:args[k]?=some args[k]:=cP hlt
  have hy:args.take (k+1)=args.take k++[args[k]]:=pD hlt
  have hlk:(args.take k).length=k:=by rw[qI];omega
  cases o with
  |none =>
   rw[bK]at hos
   rw[hos]at hy ⊢
   simp -dsimp -implicitDefEqProofs only[go_sem,↓reduceIte,Tryz.f59,b5,aQ,hlt,ea]
   intro _
   refine⟨b6,b6,b6,b6,b6,λb hb=>⟨(k+1,some b),?_⟩⟩
   simp only[hy]
   refine⟨⟨rfl,by rw[IntWalk.i64_in _ aA];rfl⟩,aE5 (A:=[]) (x:=.sl 1 [[I args[k]]] true) (y:=ints [args[k]]) (aH _ _ _) (Sub.loose _ _ _) qU,⟨by omega,hb⟩,by omega⟩
  |some n =>
   rw[aT]at hos
   simp -dsimp -implicitDefEqProofs only[go_sem,↓reduceIte,Tryz.f59,aY,aL,hlt,ea]
   intro _
   refine⟨b6,b6,b6,b6,b6,j4 _,by omega,by omega,λb hb=>⟨(k+1,some b),?_⟩⟩
   simp only[hy,aL,aY,aT]
   refine⟨⟨by rw[k8];rfl,by rw[IntWalk.i64_in _ aA];rfl⟩,aE5 (x:=.sl 1 [[I args[k]]] true) (y:=ints [args[k]]) (aH _ _ _) (Sub.loose _ _ _) ?_,⟨by omega,hb.2⟩,by omega⟩
   have hl2:(args.take k).length=((args.take k).map λn=>[n]).length:=by rw[iG]
   rw[aJ,zG,show((args.take k).map λn=>[n])++[args[k]].map (λn=>[n])=((args.take k).map λn=>[n])++[[args[k]]]from rfl,←fJ ints,hl2]
   exact mU hos
 have hk':k=args.length:=by omega
 subst hk'
 rw[jG]at hos ⊢
 have hserA:∀ s∈args.map (λn=>[n]),cG 1 s:=λs hs=>by
  obtain⟨n,hn,rfl⟩:=rC.1 hs
  refine⟨rfl,λx hx=>?_⟩
  rw[nQ.1 hx]
  exact na n hn
 have hlA:((args.map λn=>[n]).length:Int)=F.bB:=by rw[iG];exact hlF
 have hnbB:∀ {m:Nat},hB m=none->¬nb=m:=λhm e=>by rw[←e,hB0]at hm;cases hm
 cases o with
 |none =>
  rw[bK]at hos
  subst hos
  simp -dsimp -implicitDefEqProofs only[go_sem,↓reduceIte,Tryz.f59,b5,aQ,cV,fW,ef]
  refine⟨hf.1,by omega,?_⟩
  have ho:=aLI (run hp (by decide:1<=1/\1<=1048576) 3001) hB nb 0 0 F [] f hB0 aA aA aA (by rw[iG]at hlA;rw[show(([]:List (List Int)).length:Int)=F.bB from hlA];exact hF4) hf.1 aA cK cK
  refine aG.eH (fH.sub (.cons (.refl _) (.cons (Sub.ip (by rw[nI,ef];rfl) (by simp[aV.aU])) (.cons (Sub.loose _ _ _) .nil))) ho) ?_
  rintro r h' ⟨vs,t,c,rfl,rfl,hvl,hvs,a1,a2,a3⟩
  have hCl:h.le (aR hB nb (dO p 1 t c)):=Heap.bA zb hBl
  have hCn:(aR hB nb (dO p 1 t c)) nb=some (.row 4 [[.v (.ip 1 [p.c] 0 0),.v (I 1),.v (I t),.v (I c)]]):=aH _ _ _
  generalize aR hB nb (dO p 1 t c)=hC at hCn hCl ⊢
  rw[cJ,←hF3]at a3
  simp -dsimp -implicitDefEqProofs only[go_sem,↓reduceIte,Tryz.f59,hCn]
  have rV:=aO4 (show gZ (evF p 1 f _) vs t c from a3)
  refine⟨λhc=>⟨b6,?_⟩,λhc=>⟨b6,?_⟩⟩
  ·try simp only[x4]
   rw[rV,if_neg hc]
   exact aB7 0 c hCl
  subst hc
  rw[if_pos rfl]at rV
  have hcv:(vs.map λs=>s.getD 0 0).length=vs.length:=iG _
  refine dJ aL1 a43 a44 (λx:Nat×Option Nat=>[(9,.op nb 4 0 0),(12,dX vs),(13,iH 1 ((vs.map λs=>s.getD 0 0).take x.1).length x.2),(14,I x.1)]) (λx=>c8 hC (.row 1 ((((vs.map λs=>s.getD 0 0).take x.1).map λn=>[I n]).map (List.map .v))) x.2) (λx=>x.1<=vs.length/\fM hC ((vs.map λs=>s.getD 0 0).take x.1) x.2) (λx=>vs.length-x.1) (0,none) ⟨by simp[dM,cE,iH],by simp only[aQ];exact Heap.le_refl _,gM _,by simp[fM]⟩ ?_
  rintro⟨k,o⟩ ⟨hk,hos⟩
  simp only at hk hos ⊢
  rcases cQ k vs.length with hlt|hge
  ·have ea:vs[k]?=some vs[k]:=cP hlt
   have h0:=hvs _ (eF hlt)
   have e0:(vs[k])[Int.toNat 0]?=some (vs[k].getD 0 0):=dV (by rw[h0.1];decide)
   have h0l:=h0.1
   have hy:(vs.map λs=>s.getD 0 0).take (k+1)=(vs.map λs=>s.getD 0 0).take k++[(vs.map λs=>s.getD 0 0)[k]'aA]:=pD aA
   have hlk:((vs.map λs=>s.getD 0 0).take k).length=k:=by rw[qI];omega
   rw[aIW]at hy
   cases o with
   |none =>
    rw[bK]at hos
    rw[hos]at hy ⊢
    simp -dsimp -implicitDefEqProofs only[go_sem,↓reduceIte,Tryz.f59,b5,aQ,hlt,ea,e0]
    repeat'(with_reducible first|intro _|refine And.intro ?_ ?_)
    all_goals try(first|omega|decide)
    rename_i b hb
    refine⟨(k+1,some b),?_⟩
    simp only[hy]
    refine⟨⟨rfl,?_⟩,Heap.le_refl _,⟨by omega,hb⟩,by omega⟩
    rw[IntWalk.i64_in _ aA];rfl
   |some n =>
    rw[aT]at hos
    simp -dsimp -implicitDefEqProofs only[go_sem,↓reduceIte,Tryz.f59,aY,aL,hlt,ea,e0]
    repeat'(with_reducible first|intro _|refine And.intro ?_ ?_)
    all_goals try(first|omega|decide|exact j4 _)
    rename_i b hb
    refine⟨(k+1,some b),?_⟩
    simp only[hy,aL,aY,aT]
    refine⟨⟨by rw[k8];rfl,?_⟩,?_,⟨by omega,hb.2⟩,by omega⟩
    ·rw[IntWalk.i64_in _ aA];rfl
    ·rw[←fJ];exact mU hos
  ·have hk':k=vs.length:=by omega
   subst hk'
   rw[kC aA]at hos ⊢
   cases o with
   |none =>
    rw[bK]at hos
    simp -dsimp -implicitDefEqProofs only[go_sem,↓reduceIte,Tryz.f59,b5,aQ,cV,fW,hCn]
    intro _
    try simp only[x4]
    rw[rV,hos]
    exact aB7 _ _ hCl
   |some n =>
    rw[aT]at hos
    obtain⟨aLZ,qL,qM,aL0⟩:=c7 (show ¬n=nb from λe=>by rw[e,hCn]at hos;cases hos)
    simp -dsimp -implicitDefEqProofs only[go_sem,↓reduceIte,Tryz.f59,aY,aL,cV,fW,aE,qL,qM,hCn]
    intro _
    try simp only[x4]
    rw[rV]
    exact aO5 _ _ (Heap.le_none hCl hos) (Heap.nG hCl)
 |some n =>
  rw[aT]at hos
  simp -dsimp -implicitDefEqProofs only[go_sem,↓reduceIte,Tryz.f59,aY,aL,cV,fW,ef]
  intro _
  refine⟨hf.1,by omega,?_⟩
  have hnn:=hnbB hos
  refine aG.aZB rfl rfl hnn (by rw[iG,iG]) hos ?_
  have ho:=aLI (run hp (by decide:1<=1/\1<=1048576) 3001) (aR hB n .gone) nb 0 0 F (args.map λn=>[n]) f (by rw[aE _ _ _ _ hnn];exact hB0) aA aA aA (by rw[hlA];exact hF4) hf.1 aA hserA (by rw[iG];omega)
  refine fH.mono (fH.sub (.cons (.refl _) (.cons (Sub.ip (by rw[nI,ef];rfl) (by simp[aV.aU])) (.cons (.refl _) .nil))) ho) ?_
  rintro r h' ⟨vs,t,c,rfl,rfl,hvl,hvs,a1,a2,a3⟩
  have hhn:h n=none:=by rw[←hgB,aE _ _ _ _ (sJ hnn)]at hos;exact hos
  have hCl:h.le (aR (aR hB n .gone) nb (dO p 1 t c)):=Heap.bA zb (Heap.bA hhn hBl)
  have hCn:(aR (aR hB n .gone) nb (dO p 1 t c)) nb=some (.row 4 [[.v (.ip 1 [p.c] 0 0),.v (I 1),.v (I t),.v (I c)]]):=aH _ _ _
  generalize aR (aR hB n .gone) nb (dO p 1 t c)=hC at hCn hCl ⊢
  rw[cJ,←hF3]at a3
  simp -dsimp -implicitDefEqProofs only[go_sem,↓reduceIte,Tryz.f59,hCn]
  have rV:=aO4 (show gZ (evF p 1 f _) vs t c from a3)
  refine⟨λhc=>⟨b6,?_⟩,λhc=>⟨b6,?_⟩⟩
  ·try simp only[x4]
   rw[rV,if_neg hc]
   exact aB7 0 c hCl
  subst hc
  rw[if_pos rfl]at rV
  have hcv:(vs.map λs=>s.getD 0 0).length=vs.length:=iG _
  refine dJ aL1 a43 a44 (λx:Nat×Option Nat=>[(9,.op nb 4 0 0),(12,dX vs),(13,iH 1 ((vs.map λs=>s.getD 0 0).take x.1).length x.2),(14,I x.1)]) (λx=>c8 hC (.row 1 ((((vs.map λs=>s.getD 0 0).take x.1).map λn=>[I n]).map (List.map .v))) x.2) (λx=>x.1<=vs.length/\fM hC ((vs.map λs=>s.getD 0 0).take x.1) x.2) (λx=>vs.length-x.1) (0,none) ⟨by simp[dM,cE,iH],by simp only[aQ];exact Heap.le_refl _,gM _,by simp[fM]⟩ ?_
  rintro⟨k,o⟩ ⟨hk,hos⟩
  simp only at hk hos ⊢
  rcases cQ k vs.length with hlt|hge
  ·have ea:vs[k]?=some vs[k]:=cP hlt
   have h0:=hvs _ (eF hlt)
   have e0:(vs[k])[Int.toNat 0]?=some (vs[k].getD 0 0):=dV (by rw[h0.1];decide)
   have h0l:=h0.1
   have hy:(vs.map λs=>s.getD 0 0).take (k+1)=(vs.map λs=>s.getD 0 0).take k++[(vs.map λs=>s.getD 0 0)[k]'aA]:=pD aA
   have hlk:((vs.map λs=>s.getD 0 0).take k).length=k:=by rw[qI];omega
   rw[aIW]at hy
   cases o with
   |none =>
    rw[bK]at hos
    rw[hos]at hy ⊢
    simp -dsimp -implicitDefEqProofs only[go_sem,↓reduceIte,Tryz.f59,b5,aQ,hlt,ea,e0]
    repeat'(with_reducible first|intro _|refine And.intro ?_ ?_)
    all_goals try(first|omega|decide)
    rename_i b hb
    refine⟨(k+1,some b),?_⟩
    simp only[hy]
    refine⟨⟨rfl,?_⟩,Heap.le_refl _,⟨by omega,hb⟩,by omega⟩
    rw[IntWalk.i64_in _ aA];rfl
   |some n =>
    rw[aT]at hos
    simp -dsimp -implicitDefEqProofs only[go_sem,↓reduceIte,Tryz.f59,aY,aL,hlt,ea,e0]
    repeat'(with_reducible first|intro _|refine And.intro ?_ ?_)
    all_goals try(first|omega|decide|exact j4 _)
    rename_i b hb
    refine⟨(k+1,some b),?_⟩
    simp only[hy,aL,aY,aT]
    refine⟨⟨by rw[k8];rfl,?_⟩,?_,⟨by omega,hb.2⟩,by omega⟩
    ·rw[IntWalk.i64_in _ aA];rfl
    ·rw[←fJ];exact mU hos
  ·have hk':k=vs.length:=by omega
   subst hk'
   rw[kC aA]at hos ⊢
   cases o with
   |none =>
    rw[bK]at hos
    simp -dsimp -implicitDefEqProofs only[go_sem,↓reduceIte,Tryz.f59,b5,aQ,cV,fW,hCn]
    intro _
    try simp only[x4]
    rw[rV,hos]
    exact aB7 _ _ hCl
   |some n =>
    rw[aT]at hos
    obtain⟨aLZ,qL,qM,aL0⟩:=c7 (show ¬n=nb from λe=>by rw[e,hCn]at hos;cases hos)
    simp -dsimp -implicitDefEqProofs only[go_sem,↓reduceIte,Tryz.f59,aY,aL,cV,fW,aE,qL,qM,hCn]
    intro _
    try simp only[x4]
    rw[rV]
    exact aO5 _ _ (Heap.le_none hCl hos) (Heap.nG hCl)
theorem a45 {p:aF} (hp:p.ok) (f:Int) (hf:0<=f/\f<p.aI.length) (args:List Int) (na:gE args) (hal:args.length<=12) (hl:∀ F,p.aI[f.toNat]?=some F->(args.length:Int)=F.bB) :
  eX Tryz.prog 59 [.ip 1 [p.c] 0 0,I f,ints args] (.eW [ints (rA (evF p 1 f (args.map λn=>[n]))).1,I (rA (evF p 1 f (args.map λn=>[n]))).2.1,I (rA (evF p 1 f (args.map λn=>[n]))).2.2]) :=
 QS.a2P (a0K hp f hf args na hal hl) (λy hy=>OS.oG (c:=λn=>[I n]) (λ_ _ q=>aGE q) hy) (aGG [] [I (rA (evF p 1 f (args.map λn=>[n]))).2.1,I (rA (evF p 1 f (args.map λn=>[n]))).2.2])
@[go_sem] def bL0:List Nat:=[0,1,2,3,8,9,10,11,12,13,31,41]
@[go_sem] def bPX:List Nat:=[32,37,50]
@[go_sem] def bPY:Marks:=λid=>match id with|4=>([4],(.op 0 (.op 1 (.op 2 (.op 3 (.op 4 (.op 5 (.op 6 .nil))))))),[])|_=>([],.nil,[])
@[go_sem] def a47:List Nat:=[0,1,4,7,16]
theorem aWD {p:aF} (hp:p.ok) (hps:p.s<=4194304) (f:Int) (hf:0<=f/\f<p.aI.length):eX Tryz.prog 120 [.ip 1 [p.c] 0 0,I f] (I 0):=by
 have hok:=bFF p hps
 have hl:=p.aJJ
 rw[aF.aU]at hok ⊢
 refine eJ 17 a47 cR cC Tryz.func120 λh=>?_
 simp -dsimp -implicitDefEqProofs only[go_sem,↓reduceIte,Tryz.f120]
 refine aG.mk hok ?_
 simp -dsimp -implicitDefEqProofs only[go_sem,↓reduceIte,Tryz.f120,hp,decide_true]
 try(refine⟨λq=>absurd q cK,λ_=>?_⟩)
 intro _
 rw[IntWalk.i64_in _ aA]
 first|refine aG.mk (eY f 0 ((p.aI.length:Int)-1)) ?_|refine aD.mk (eY f 0 ((p.aI.length:Int)-1)) ?_|refine aG.bC (eY f 0 ((p.aI.length:Int)-1)) ?_|refine aD.mk (aZ.dB (eY f 0 ((p.aI.length:Int)-1))) ?_
 simp -dsimp -implicitDefEqProofs only[go_sem,↓reduceIte,Tryz.f120]
 intro q;exact q ⟨hf.1,by omega⟩
@[go_sem] def bAT:List Nat:=[0,1,2,6,7,30]
theorem a0L {p:aF} (hp:p.ok) (hps:p.s<=4194304) (f:Int) (hf:0<=f/\f<p.aI.length) (args:List Int) (na:gE args) (hal:args.length<=12) (hl:∀ F,p.aI[f.toNat]?=some F->(args.length:Int)=F.bB):eX Tryz.prog 58 [.ip 1 [p.c] 0 0,I f,ints args] (I 0):=by
 obtain⟨F,ef,hF1,hF2,hF3,hF4⟩:=rG hp hf
 have hlF:=hl F ef
 have hok:=aWD hp hps f hf
 rw[aF.aU]at hok ⊢
 refine eJ 32 bAT cR cC Tryz.func58 λh=>?_
 simp -dsimp -implicitDefEqProofs only[go_sem,↓reduceIte,Tryz.f58]
 refine aG.mk hok ?_
 simp -dsimp -implicitDefEqProofs only[go_sem,↓reduceIte,Tryz.f58,ef,aV.aU]
 intro _
 refine⟨hf.1,hf.2,λ_=>?_,λq=>q hlF⟩
 first|refine aG.mk (vK args) ?_|refine aD.mk (vK args) ?_|refine aG.bC (vK args) ?_|refine aD.mk (aZ.dB (vK args)) ?_
 simp -dsimp -implicitDefEqProofs only[go_sem,↓reduceIte,Tryz.f58]
 intro q;exact q na
def opW (k:Int) (a b:List Int):List Int:=if k=3 then pF a b else if k=4 then aVO a b else if k=5 then mulL a b else if k=7 then mV a 1000002 else nN a b
def opS (sz:Nat) (args rs:List (List Int)) (c:aP):List Int:=if c.lT=1 then args.getD c.aX.toNat []else if c.lT=2 then l6 c.aX sz else opW c.lT (rs.getD c.fA.toNat []) (rs.getD c.fB.toNat [])
def o9 (sz:Nat) (args:List (List Int)) (code:List aP):Nat->List (List Int)
 |0=>[]
 |k+1=>o9 sz args code k++[opS sz args (o9 sz args code k) (code.getD k ⟨0,0,0,0⟩)]
theorem nC (sz:Nat) (args:List (List Int)) (code:List aP):∀ k,(o9 sz args code k).length=k
 |0=>rfl
 |k+1=>by rw[o9,k8,nC sz args code k];rfl
theorem sH (sz:Nat) (args:List (List Int)) (code:List aP) {r k:Nat} (hr:r<k):∀ n,k<=n->(o9 sz args code n).getD r []=(o9 sz args code k).getD r []
 |0,h=>by omega
 |n+1,h=>by
  rcases cQ n k with h1|h1
  ·have:k=n+1:=by omega
   rw[this]
  ·rw[←sH sz args code hr n h1,o9,gA,tW (by rw[nC];omega),gA]
def kL (sz:Nat) (args:List (List Int)) (code:List aP) (r:Nat):List Int:=(o9 sz args code code.length).getD r []
theorem aRE {sz:Nat} {args:List (List Int)} {code:List aP} {k:Nat} {c:aP} (e:code[k]?=some c):kL sz args code k=opS sz args (o9 sz args code k) c:=by
 have h:=(jQ.1 e).1
 rw[kL,sH sz args code (Nat.lt_succ_self k) code.length h,o9,gA,zE (by rw[nC];exact j4 _),nC,zF,gA,e];rfl
theorem aRF {sz:Nat} {args:List (List Int)} {code:List aP} {k:Nat} {c:aP} (e:code[k]?=some c) (h1:c.lT=1):kL sz args code k=args.getD c.aX.toNat []:=by rw[aRE e,opS,if_pos h1]
theorem aL2 {sz:Nat} {args:List (List Int)} {code:List aP} {k:Nat} {c:aP} (e:code[k]?=some c) (h1:c.lT=2):kL sz args code k=l6 c.aX sz:=by rw[aRE e,opS,if_neg aA,if_pos h1]
theorem aRG {sz:Nat} {args:List (List Int)} {code:List aP} {inp:Int} {k:Nat} {c:aP} (e:code[k]?=some c) (hi:fD inp k c) (h1:¬c.lT=1) (h2:¬c.lT=2):kL sz args code k=opW c.lT (kL sz args code c.fA.toNat) (kL sz args code c.fB.toNat):=by
 have h:=(jQ.1 e).1
 unfold fD at hi
 rw[aRE e,opS,if_neg h1,if_neg h2,kL,kL,sH sz args code (k:=k) aA code.length aA,sH sz args code (k:=k) aA code.length aA]
theorem a48 {sz:Nat} (k:Int) {a b:List Int} (ha:cG sz a) (hb:cG sz b):cG sz (opW k a b):=by
 unfold opW
 repeat' split
 ·exact yE ha hb
 ·exact aCX ha hb
 ·exact aCY _ ha
 ·exact mD _ ha
 ·exact aCZ _ ha
theorem aE6 {sz:Nat} {args:List (List Int)} {code:List aP} {inp:Int} (hi:∀ i c,code[i]?=some c->fD inp i c) (ha:∀ s∈args,cG sz s) (hl:(args.length:Int)=inp) (k:Nat) (hk:k<code.length):cG sz (kL sz args code k):=by
 induction k using Nat.strongRecOn with
 |ind k ih =>
  have e:=cP hk
  have hc:=hi k _ e
  generalize code[k]=c at e hc
  by_cases h1:c.lT=1
  ·rw[aRF e h1]
   unfold fD at hc
   exact gW ha aA
  by_cases h2:c.lT=2
  ·rw[aL2 e h2]
   have hn:fZ c.aX:=by rcases hc with q|q|q|q <;> first|exact q.2.2.2|(have:=q.1;omega)
   exact eD hn
  ·rw[aRG e hc h1 h2]
   unfold fD at hc
   exact a48 _ (ih _ aA aA) (ih _ aA aA)
theorem bAU {sz:Nat} (hsz:1<=sz) {k:Int} {a b:List Int} (ha:a.length=sz) (hb:b.length=sz) {v:Int} (h:opV k (a.getD 0 0) (b.getD 0 0)=some v):(opW k a b).getD 0 0=v:=by
 obtain⟨x,a',rfl⟩:∃ x a',a=x::a':=by
  cases a with
  |nil=>simp at ha;omega
  |cons x a'=>exact⟨x,a',rfl⟩
 obtain⟨y,b',rfl⟩:∃ x a',b=x::a':=by
  cases b with
  |nil=>simp at hb;omega
  |cons x a'=>exact⟨x,a',rfl⟩
 have g:∀ (z:Int) (l:List Int),(z::l).getD 0 0=z:=λ_ _=>rfl
 rw[g,g]at h
 unfold opV at h
 unfold opW
 by_cases h3:k=3
 ·rw[if_pos h3]at h ⊢
  rw[←eO h];rfl
 rw[if_neg h3]at h ⊢
 by_cases h4:k=4
 ·rw[if_pos h4]at h ⊢
  rw[←eO h]
  show(x+y*1000002%1000003)%1000003=_
  omega
 rw[if_neg h4]at h ⊢
 by_cases h5:k=5
 ·rw[if_pos h5]at h ⊢
  obtain⟨t,e⟩:=aVP x a' (y::b')
  rw[e,←eO h];rfl
 rw[if_neg h5]at h ⊢
 by_cases h7:k=7
 ·rw[if_pos h7]at h ⊢
  rw[←eO h]
  show x*1000002%1000003=_
  omega
 rw[if_neg h7]at h ⊢
 by_cases hy:y=0
 ·rw[if_pos hy]at h;cases h
 ·rw[if_neg hy]at h
  obtain⟨t,e⟩:=aJM x a' (y::b') a'.length
  rw[nN,al3,e,←eO h];rfl
theorem then_ok {α β:Type} {x:Out α} {f:α->Nat->Out β} {w:β} {u:Nat} (h:x.andThen f=.ok (w,u)):∃ v t,x=.ok (v,t)/\f v t=.ok (w,u):=by
 cases x with
 |ok p=>obtain⟨v,t⟩:=p;exact⟨v,t,rfl,h⟩
 |error c=>cases h
structure bAV (inp:Int) (F:cD) (N:Nat->Prop):Prop where
 ins:∀ i c,F.code[i]?=some c->fD inp i c
 ops:∀ (i:Nat) (c:aP),F.code[i]?=some c->N i->(3<=c.lT/\c.lT<=6->N c.fA.toNat/\N c.fB.toNat)/\(c.lT=7->N c.fA.toNat)
 yG:∀ g∈F.guards,N g.oT.toNat
 div:∀ (i:Nat) (c:aP),F.code[i]?=some c->c.lT=6->N c.fB.toNat
def HD (rg:Nat->List Int) (N:Nat->Prop) (S:cD):Prop:=(∀ i,i<S.dZ.length->N i->(rg i).getD 0 0=S.dZ.getD i 0)/\∀ (i:Nat) (c:aP),S.code[i]?=some c->c.lT=6->¬S.val c.fB=0
def aWF (rg:Nat->List Int) (F:cD) (N:Nat->Prop) (X:Out (Int×cD)) (Y:Out (List Int)):Prop:=∀ r S' u,X=.ok ((r,S'),u)->S'.ext F->Y=.ok (rg r.toNat,u)/\HD rg N S'
def a5A (rg:Nat->List Int) (F:cD) (N:Nat->Prop) (X:Out (List Int×cD)) (Y:Out (List (List Int))):Prop:=∀ r S' u,X=.ok ((r,S'),u)->S'.ext F->Y=.ok (r.map λk=>rg k.toNat,u)/\HD rg N S'
theorem uV {rg:Nat->List Int} {F:cD} {N:Nat->Prop} {ev:Nat->aB->cD->Out (Int×cD)} {ev':Nat->aB->Out (List Int)} {inp:Int}:∀ (l:List aB) (t:Nat) (S:cD),Good inp S t->t<=3000->HD rg N S->(∀ e∈l,∀ u S',Good inp S' u->S.ext S'->lU S t S' u->qZ (zZ inp S' u) (ev u e S')/\(HD rg N S'->aWF rg F N (ev u e S') (ev' u e)))->a5A rg F N (nO ev l t S) (kJ ev' l t)
 | [],t,S,hg,ht,hd,_=>λr S' u h _=>by
  cases h
  exact⟨rfl,hd⟩
 |e::l,t,S,hg,ht,hd,h=>λr S' u hx he=>by
  obtain⟨h1,h2⟩:=h e u4 t S hg S.oX (.refl ht)
  rw[nO]at hx
  obtain⟨⟨r1,S1⟩,t1,e1,hx⟩:=then_ok hx
  obtain⟨q1,q2,q3,q4⟩:=h1 _ _ e1
  simp only at hx q1 q2 q3 q4
  obtain⟨⟨rs,S2⟩,t2,e2,hx⟩:=then_ok hx
  cases hx
  have hl:=λx hx u' S' a b c=>h x (rM _ hx) u' S' a (q2.trans b) (q4.trans c)
  have hk:=gS l t1 S1 q1 q4.2.2.2 (λx hx u' S' a b c=>(hl x hx u' S' a b c).1) _ _ e2
  obtain⟨a1,a2⟩:=h2 hd r1 S1 t1 e1 (hk.2.1.trans he)
  obtain⟨b1,b2⟩:=uV l t1 S1 q1 q4.2.2.2 a2 hl rs _ _ e2 he
  rw[kJ,a1,Out.andThen_ok,b1]
  exact⟨rfl,b2⟩
theorem aJV {rg:Nat->List Int} {F:cD} {N:Nat->Prop} {f:List Int->Nat->cD->Out (List Int×cD)} {g:List (List Int)->Nat->Out (List (List Int))} {inp:Int} {m:Nat} (h:∀ vs t S,Good inp S t->(vs.length=m/\∀ x∈vs,l8 S x)->t<=3000->qZ (wO inp S t m) (f vs t S)/\(HD rg N S->a5A rg F N (f vs t S) (g (vs.map λk=>rg k.toNat) t))) :
  ∀ (n:Nat) (vs:List Int) (t:Nat) (S:cD),Good inp S t->(vs.length=m/\∀ x∈vs,l8 S x)->t<=3000->HD rg N S->a5A rg F N (pI f n vs t S) (oV g n (vs.map λk=>rg k.toNat) t)
 |0,vs,t,S,hg,hv,ht,hd=>λr S' u hx _=>by
  cases hx
  exact⟨rfl,hd⟩
 |n+1,vs,t,S,hg,hv,ht,hd=>λr S' u hx he=>by
  obtain⟨h1,h2⟩:=h vs t S hg hv ht
  rw[pI]at hx
  obtain⟨⟨r1,S1⟩,t1,e1,hx⟩:=then_ok hx
  obtain⟨q1,q2,q3,q4⟩:=h1 _ _ e1
  simp only at hx q1 q2 q3 q4
  have hk:=qD (λvs t S a b c=>(h vs t S a b c).1) n r1 t1 S1 q1 q3 q4.2.2.2 _ _ hx
  obtain⟨a1,a2⟩:=h2 hd r1 S1 t1 e1 (hk.2.1.trans he)
  obtain⟨b1,b2⟩:=aJV h n r1 t1 S1 q1 q3 q4.2.2.2 a2 r S' u hx he
  rw[oV,a1,Out.andThen_ok,b1]
  exact⟨rfl,b2⟩
theorem aL3 {S F:cD} {inp:Int} {t:Nat} {c:aP} {v:Int} (hg:Good inp S t) (he:(S.put c v).ext F):F.code[S.dZ.length]?=some c:=by
 obtain⟨x,hx⟩:=he.1
 rw[←hx,cD.put,aH1,zE (by rw[hg.len];exact j4 _),hg.len,zF];rfl
theorem HD.put {rg:Nat->List Int} {N:Nat->Prop} {S:cD} (h:HD rg N S) {inp:Int} {t:Nat} (hg:Good inp S t) {c:aP} {v:Int} (hv:N S.dZ.length->(rg S.dZ.length).getD 0 0=v) (hz:c.lT=6->¬S.val c.fB=0/\l8 S c.fB):HD rg N (S.put c v):=by
 refine⟨λi hi hn=>?_,λi d hd h6=>?_⟩
 ·rw[cD.put,k8,lV]at hi
  show _=(S.dZ++[v]).getD i 0
  rw[gA (l:=S.dZ++[v])]
  rcases cQ i S.dZ.length with h1|h1
  ·rw[tW h1,←gA];exact h.1 i h1 hn
  ·obtain rfl:i=S.dZ.length:=by omega
   rw[zE (j4 _),zF];exact hv hn
 ·have hx:=S.vS c v
  rcases cQ i S.code.length with h1|h1
  ·rw[cD.put,tW h1]at hd
   have hin:=hg.ins i d hd
   have hl:=hg.len
   unfold fD at hin
   rw[hx.val aA aA]
   exact h.2 i d hd h6
  ·rw[cD.put,zE h1]at hd
   obtain⟨h2,h3⟩:=jQ.1 hd
   simp at h2 h3
   subst h3
   rw[hx.val (hz h6).2.1 (hz h6).2.2]
   exact(hz h6).1
theorem j3 {rg:Nat->List Int} {l:List Int} {i:Nat} (hi:i<l.length):(l.map λk=>rg k.toNat).getD i []=rg (l.getD i 0).toNat:=by
 simp[gA,cP hi]
theorem a5B {sz:Nat} (hsz:1<=sz) {args:List (List Int)} {inp:Int} {F:cD} {N:Nat->Prop} (C:bAV inp F N) (ha:∀ s∈args,cG sz s) (hl:(args.length:Int)=inp) {k:Int} {vs:List Int} {S:cD} {t m:Nat} (hk:k=3∨k=4∨k=5∨k=6∨k=7) (hm:vs.length=m/\∀ x∈vs,l8 S x) (hm1:1<=m) (hm2:¬k=7->2<=m) (hg:Good inp S t) (hd:HD (kL sz args F.code) N S):aWF (kL sz args F.code) F N (opR k vs S t) (opE k (vs.map λk=>kL sz args F.code k.toNat) t):=λr S' u hx he=>by
 have at_:∀ i,i<m->l8 S (vs.getD i 0):=λi hi=>by
  rw[gA,cP aA]
  exact hm.2 _ (eF _)
 unfold opR at hx
 split at hx
 ·cases hx
 rename_i v hv
 cases hx
 have ec:=aL3 hg he
 have hin:=C.ins _ _ ec
 have hrs:=λi (hi:i<F.code.length)=>aE6 (sz:=sz) C.ins ha hl i hi
 have hF:S.dZ.length<F.code.length:=(jQ.1 ec).1
 have e0:=aRG (sz:=sz) (args:=args) ec hin aMQ aMQ
 simp only at e0
 have i0:=at_ 0 aA
 have iB:0<=opB k vs/\opB k vs<S.dZ.length:=by
  unfold opB
  split
  ·unfold l8 at i0;omega
  ·rename_i h7
   exact at_ 1 (hm2 h7)
 have s0:=hrs (vs.getD 0 0).toNat (by unfold l8 at i0;omega)
 have s1:=hrs (opB k vs).toNat aA
 have hN:N S.dZ.length->N (vs.getD 0 0).toNat/\(¬k=7->N (opB k vs).toNat):=λhn=>by
  have ho:=C.ops _ _ ec hn
  simp only at ho
  by_cases h7:k=7
  ·exact⟨ho.2 h7,λq=>absurd h7 q⟩
  ·have h36:=ho.1 aA
   exact⟨h36.1,λ_=>h36.2⟩
 have hd0:∀ x:Int,0<=x/\x<S.dZ.length->N x.toNat->(kL sz args F.code x.toNat).getD 0 0=S.val x:=λx hx hn=>hd.1 x.toNat aA hn
 have hzz:k=6->¬S.val (opB k vs)=0:=λq q2=>by
  rw[q2,q,opV,if_neg bU,if_neg bU,if_neg bU,if_neg bU,if_pos rfl]at hv
  cases hv
 refine⟨?_,hd.put hg (λhn=>?_) (λq=>⟨hzz q,iB⟩)⟩
 ·rw[tX,e0]
  have g0:=j3 (rg:=kL sz args F.code) (l:=vs) (i:=0) aA
  unfold opE opW
  rcases hk with rfl|rfl|rfl|rfl|rfl
  all_goals simp only[reduceCtorEq,if_true,if_false,Int.reduceEq]
  ·rw[g0,j3 (rg:=kL sz args F.code) (i:=1) aDD];rfl
  ·rw[g0,j3 (rg:=kL sz args F.code) (i:=1) aDD];rfl
  ·rw[g0,j3 (rg:=kL sz args F.code) (i:=1) aDD];rfl
  ·have hdv:=C.div _ _ ec rfl
   have e6:=hd0 _ iB hdv
   rw[show opB 6 vs=vs.getD 1 0 from rfl]at e6
   rw[g0,j3 (rg:=kL sz args F.code) (i:=1) aDD,e6]
   rw[show opB 6 vs=vs.getD 1 0 from rfl]at hv
   have hz:¬S.val (vs.getD 1 0)=0:=λq=>by
    rw[opV,if_neg bU,if_neg bU,if_neg bU,if_neg bU,if_pos q]at hv
    cases hv
   rw[if_neg hz];rfl
  ·rw[g0]
 ·obtain⟨n0,n1⟩:=hN hn
  rw[e0]
  refine bAU hsz s0.1 s1.1 ?_
  rw[hd0 _ i0 n0]
  by_cases h7:k=7
  ·subst h7
   rw[←hv];rfl
  ·rw[hd0 _ iB (n1 h7)];exact hv
theorem aO6 {p:aF} (hp:p.ok) {sz:Nat} (hsz:1<=sz) {args:List (List Int)} {inp:Int} {F:cD} {N:Nat->Prop} (C:bAV inp F N) (ha:∀ s∈args,cG sz s) (hl:(args.length:Int)=inp):∀ (n t:Nat) (e:aB) (env:List Int) (S:cD) (funcs:Int),e.ok p funcs env.length->funcs<=p.aI.length->Good inp S t->t<=3000->(∀ x∈env,l8 S x)->HD (kL sz args F.code) N S->aWF (kL sz args F.code) F N (dN p n t e env S) (gR p sz n t e (env.map λk=>kL sz args F.code k.toNat))
 |0,t,e,env,S,funcs,_,_,_,_,_,_=>λr S' u hx _=>by rw[dN]at hx;cases hx
 |n+1,t,e,env,S,funcs,hok,hf,hg,ht,henv,hd=>by
  have ih:=aO6 hp hsz C ha hl n
  have io:=pV hp (inp:=inp) n
  have hnode:=((aB.cS _ _ _ _).1 hok).1
  by_cases h3:t=3000
  ·intro r S' u hx _
   rw[dN,if_pos h3]at hx;cases hx
  have j9:=hg.later (mZ t)
  have hcap:=hg.cap
  have hgcap:=hg.vR
  have henvE:∀ {S'},S.ext S'->∀ x∈env,l8 S' x:=λe x hx=>(henv x hx).ext e
  have kidsS:¬e.aN=9->∀ x∈e.aK,∀ u S',Good inp S' u->S.ext S'->lU S (t+1) S' u->qZ (zZ inp S' u) (dN p n u x env S')/\(HD (kL sz args F.code) N S'->aWF (kL sz args F.code) F N (dN p n u x env S') (gR p sz n u x (env.map λk=>kL sz args F.code k.toNat))):=λh9 x hx u S' a b c =>
   ⟨io u x env S' funcs (eA hok h9 x hx) hf a c.2.2.2 (henvE b),λhd'=>ih u x env S' funcs (eA hok h9 x hx) hf a c.2.2.2 (henvE b) hd'⟩
  intro r S' u hx he
  rcases pR hnode with hk|hk|hk|hk|hk|hk|hk|hk|hk|hk|hk
  ·rw[aG4 h3 hk]at hx
   rw[aOD h3 hk]
   cases hx
   have ec:=aL3 hg he
   have er:=aL2 (sz:=sz) (args:=args) ec rfl
   rw[tX,er]
   refine⟨rfl,hd.put hg (λ_=>?_) (λq=>absurd (show(2:Int)=6 from q) bU)⟩
   rw[er]
   obtain⟨w,rfl⟩:∃ w,sz=w+1:=⟨sz-1,by omega⟩
   simp[l6,a1I]
  ·rw[aG5 h3 hk]at hx
   rw[aOE h3 hk]
   cases hx
   have hn:=((dI aA).1 hnode).2.2.2.2.1 hk
   exact⟨by rw[j3 aA],hd⟩
  iterate 5
   ·have hlen:=dH hok aA
    rw[hk]at hlen
    rw[lQ h3 aA]at hx
    rw[mX h3 aA]
    have hs:=kidsS aA
    obtain⟨⟨rs,S1⟩,t1,e1,hx⟩:=then_ok hx
    simp only at hx
    have hrk:=gS _ _ S j9 aA (λx hx u S' a b c=>(hs x hx u S' a b c).1) _ _ e1
    obtain⟨r1,r2,r3,r4⟩:=hrk
    have hex:S1.ext S':=by
     have hx2:=hx
     unfold opR at hx2
     split at hx2
     ·cases hx2
     ·cases hx2;exact S1.vS _ _
    obtain⟨a1,a2⟩:=uV _ _ S j9 aA hd hs _ _ _ e1 (hex.trans he)
    rw[a1,Out.andThen_ok]
    exact a5B hsz C ha hl aA r3 aRY (λq=>by unfold dK at hlen;simp at hlen;omega) r1 a2 _ _ _ hx he
  ·have hlen:=dH hok aA
   rw[hk,show dK 8=3 from rfl]at hlen
   have o0:=aB.dW hok (i:=0) aA
   have o1:=aB.dW hok (i:=1) aA
   have o2:=aB.dW hok (i:=2) aA
   rw[fR aA]at o0 o1 o2
   rw[vT h3 hk]at hx
   rw[aG2 h3 hk]
   obtain⟨⟨rr,S1⟩,t1,e1,hx⟩:=then_ok hx
   simp only at hx
   obtain⟨r1,r2,r3,r4⟩:=io _ _ _ _ _ o0 hf j9 aA henv _ _ e1
   simp only at r1 r2 r3 r4
   have r4':=r4
   unfold lU at r4'
   have go:∀ (b:Bool) (k:aB),k.ok p funcs env.length->dN p n t1 k env (S1.guard ⟨rr,b⟩)=.ok ((r,S'),u)->(S1.ext F/\N rr.toNat)/\(HD (kL sz args F.code) N S1->gR p sz n t1 k (env.map λk=>kL sz args F.code k.toNat)=.ok (kL sz args F.code r.toNat,u)/\HD (kL sz args F.code) N S'):=λb k hk hq=>by
    have hx1:S1.ext (S1.guard ⟨rr,b⟩):=S1.oB _
    have hgd:=r1.guard (b:=b) r3 aA
    obtain⟨q1,q2,q3,q4⟩:=io t1 k env _ _ hk hf hgd aA (henvE (r2.trans hx1)) _ _ hq
    simp only at q2
    refine⟨⟨hx1.trans (q2.trans he),?_⟩,λhdd=>ih t1 k env _ _ hk hf hgd aA (henvE (r2.trans hx1)) hdd _ _ _ hq he⟩
    have hm:(⟨rr,b⟩:bL)∈F.guards:=by
     have h1:(⟨rr,b⟩:bL)∈(S1.guard ⟨rr,b⟩).guards:=by simp[cD.guard]
     exact(q2.trans he).2.2.subset h1
    exact C.yG _ hm
   by_cases hz:S1.val rr=0
   ·rw[if_pos hz]at hx
    obtain⟨⟨g1,g2⟩,g3⟩:=go _ _ o1 hx
    obtain⟨a1,a2⟩:=ih _ _ _ _ _ o0 hf j9 aA henv hd _ _ _ e1 g1
    rw[a1,Out.andThen_ok,if_pos a5S]
    exact g3 a2
   ·rw[if_neg hz]at hx
    obtain⟨⟨g1,g2⟩,g3⟩:=go _ _ o2 hx
    obtain⟨a1,a2⟩:=ih _ _ _ _ _ o0 hf j9 aA henv hd _ _ _ e1 g1
    rw[a1,Out.andThen_ok,if_neg a5S]
    exact g3 a2
  ·have hlen:=dH hok aA
   rw[hk,show dK 9=2 from rfl]at hlen
   have o0:=aB.dW hok (i:=0) aA
   have o1:=aB.dW hok (i:=1) aA
   rw[fR aA]at o0
   rw[hk,show gL 9 1 (env.length:Int)=env.length+1 from rfl]at o1
   rw[aG6 h3 hk]at hx
   rw[aOF h3 hk]
   obtain⟨⟨rr,S1⟩,t1,e1,hx⟩:=then_ok hx
   simp only at hx
   obtain⟨r1,r2,r3,r4⟩:=io _ _ _ _ _ o0 hf j9 aA henv _ _ e1
   simp only at r1 r2 r3 r4
   have a0M:∀ x∈env++[rr],l8 S1 x:=λx hx=>by
    rcases mS.1 hx with hx|hx
    ·exact henvE r2 x hx
    ·rw[nQ.1 hx];exact r3
   obtain⟨q1,q2,q3,q4⟩:=io t1 (e.lO 1) (env++[rr]) S1 funcs aAO hf r1 r4.2.2.2 a0M _ _ hx
   obtain⟨a1,a2⟩:=ih _ _ _ _ _ o0 hf j9 aA henv hd _ _ _ e1 (q2.trans he)
   rw[a1,Out.andThen_ok]
   have:=ih t1 (e.lO 1) (env++[rr]) S1 funcs aAO hf r1 r4.2.2.2 a0M a2 _ _ _ hx he
   rwa [zG]at this
  ·obtain⟨f,Fc⟩:=lP hp hok hf (.inl hk)
   have f2:=Fc.hi
   have f4:=Fc.pk2
   rw[yH h3 hk]at hx
   rw[aC1 h3 hk]
   have hs:=kidsS aA
   obtain⟨⟨rs,S1⟩,t1,e1,hx⟩:=then_ok hx
   simp only at hx
   obtain⟨r1,r2,r3,r4⟩:=gS _ _ S j9 aA (λx hx u S' a b c=>(hs x hx u S' a b c).1) _ _ e1
   simp only at r1 r2 r3 r4
   have hco:(p.out e.aX e.cF).ok p e.aX rs.length:=by rw[r3.1,Fc.kids];exact Fc.oks _ (al6 Fc.out)
   obtain⟨q1,q2,q3,q4⟩:=io t1 _ rs S1 e.aX hco aA r1 r4.2.2.2 r3.2 _ _ hx
   obtain⟨a1,a2⟩:=uV _ _ S j9 aA hd hs _ _ _ e1 (q2.trans he)
   rw[a1,Out.andThen_ok]
   exact ih t1 _ rs S1 e.aX hco aA r1 r4.2.2.2 r3.2 a2 _ _ _ hx he
  ·obtain⟨f,Fc⟩:=lP hp hok hf (.inr hk)
   have f2:=Fc.hi
   have f4:=Fc.pk2
   have f9:=Fc.loop hk
   rw[yI h3 hk]at hx
   rw[aC2 h3 hk]
   have hs:=kidsS aA
   obtain⟨⟨rs,S1⟩,t1,e1,hx⟩:=then_ok hx
   simp only at hx
   obtain⟨r1,r2,r3,r4⟩:=gS _ _ S j9 aA (λx hx u S' a b c=>(hs x hx u S' a b c).1) _ _ e1
   simp only at r1 r2 r3 r4
   obtain⟨⟨rs2,S2⟩,t2,e2,hx⟩:=then_ok hx
   cases hx
   have hfl:∀ vs t S,Good inp S t->(vs.length=f.aO.length/\∀ x∈vs,l8 S x)->t<=3000->qZ (wO inp S t f.aO.length) (nO (λt e S=>dN p n t e vs S) (p.outs e.aX) t S)/\(HD (kL sz args F.code) N S->a5A (kL sz args F.code) F N (nO (λt e S=>dN p n t e vs S) (p.outs e.aX) t S) (kJ (λt e=>gR p sz n t e (vs.map λk=>kL sz args F.code k.toNat)) (p.outs e.aX) t)):=λvs w S' hg' hv hw=>by
    rw[Fc.eq]
    have hx2:∀ x∈f.aO,∀ u S'',Good inp S'' u->S'.ext S''->lU S' w S'' u->qZ (zZ inp S'' u) (dN p n u x vs S'')/\(HD (kL sz args F.code) N S''->aWF (kL sz args F.code) F N (dN p n u x vs S'') (gR p sz n u x (vs.map λk=>kL sz args F.code k.toNat))):=λx hx u S'' a b c =>
     ⟨io u x vs S'' e.aX aR4 aA a c.2.2.2 λy hy=>(hv.2 y hy).ext b,λhdd=>ih u x vs S'' e.aX aR4 aA a c.2.2.2 (λy hy=>(hv.2 y hy).ext b) hdd⟩
    exact⟨gS _ _ S' hg' hw λx hx u S'' a b c=>(hx2 x hx u S'' a b c).1,λhdd=>uV _ _ S' hg' hw hdd hx2⟩
   have wR:rs.length=f.aO.length/\∀ x∈rs,l8 S1 x:=⟨by have:=r3.1;have:=Fc.kids;omega,r3.2⟩
   have hk2:=qD (inp:=inp) (m:=f.aO.length) (λvs t S a b c=>(hfl vs t S a b c).1) _ _ _ _ r1 wR r4.2.2.2 _ _ e2
   obtain⟨a1,a2⟩:=uV _ _ S j9 aA hd hs _ _ _ e1 (hk2.2.1.trans he)
   rw[a1,Out.andThen_ok]
   obtain⟨b1,b2⟩:=aJV (inp:=inp) (m:=f.aO.length) (g:=λvs t=>kJ (λt e=>gR p sz n t e vs) (p.outs e.aX) t) hfl _ _ _ _ r1 wR r4.2.2.2 a2 _ _ _ e2 he
   rw[b1,Out.andThen_ok]
   exact⟨by rw[j3 (by have:=hk2.2.2.1.1;simp only at this;omega)],b2⟩
theorem aWG {p:aF} (hp:p.ok) {sz:Nat} (hsz:1<=sz) {f:Int} (hf:0<=f/\f<p.aI.length) {eK:List Int} (ha0:gE eK) (qN:∀ G,p.aI[f.toNat]?=some G->(eK.length:Int)=G.bB) {L:List Int} {F:cD} {u:Nat} (hX:aIM p f eK=.ok ((L,F),u)) {N:Nat->Prop} (C:bAV eK.length F N) {args:List (List Int)} (ha:∀ s∈args,cG sz s) (hl:args.length=eK.length) (hd:∀ i,i<eK.length->N i->(args.getD i []).getD 0 0=eK.getD i 0) :
  evF p sz f args=.ok (L.map λk=>kL sz args F.code k.toNat,u)/\HD (kL sz args F.code) N F:=by
 obtain⟨G,ef,hF1,hF2,hF3,hF4⟩:=rG hp hf
 have hla:=qN G ef
 have hg:=aBY eK ha0 aA
 have hin:=aLJ eK
 have hel:(yY eK).length=eK.length:=by simp[yY]
 obtain⟨q1,q2,q3,q4⟩:=(aLK hp f hf eK ha0 qN).1 _ _ hX
 simp only at q1 q2 q3 q4
 have hcode:∀ i,i<eK.length->F.code[i]?=some ⟨1,0,0,(i:Int)⟩:=λi hi=>by
  obtain⟨x,hx⟩:=q2.1
  rw[←hx,tW (by simp[inS];exact hi)]
  simp[inS,hi]
 have hrg:∀ i,i<eK.length->kL sz args F.code i=args.getD i []:=λi hi=>by
  rw[aRF (hcode i hi) rfl,tX]
 have hd0:HD (kL sz args F.code) N (inS eK):=⟨λi hi hn=>by
  have hi':i<eK.length:=hi
  rw[hrg i hi'];exact hd i hi' hn,λi c hc h6=>by
  obtain⟨h1,h2⟩:=jQ.1 hc
  simp[inS]at h1 h2
  subst h2
  simp at h6⟩
 have hmap:(yY eK).map (λk=>kL sz args F.code k.toNat)=args:=by
  apply aMH
  ·rw[iG,hel,hl]
  ·intro i h1 h2
   rw[aIW]
   have e1:(yY eK)[i]'(by rw[hel];omega)=(i:Int):=by simp[yY]
   rw[e1,tX,hrg i aA,gA,cP h2];rfl
 have hx2:∀ x∈p.outs f,∀ u S'',Good eK.length S'' u->(inS eK).ext S''->lU (inS eK) 0 S'' u->qZ (zZ eK.length S'' u) (dN p 3001 u x (yY eK) S'')/\(HD (kL sz args F.code) N S''->aWF (kL sz args F.code) F N (dN p 3001 u x (yY eK) S'') (gR p sz 3001 u x args)):=λx hx u S'' a b c=>by
  have hxo:x.ok p f (yY eK).length:=by rw[hel,hla];exact hF4 x (by rw[←hF3];exact hx)
  refine⟨pV hp _ u x _ S'' f hxo aA a c.2.2.2 λy hy=>(hin y hy).ext b,λhdd=>?_⟩
  have:=aO6 hp hsz C ha aA 3001 u x (yY eK) S'' f hxo aA a c.2.2.2 (λy hy=>(hin y hy).ext b) hdd
  rwa [hmap]at this
 exact uV _ _ _ hg aA hd0 hx2 _ _ _ hX F.oX
structure aL4 (sz:Nat) (args:List (List Int)) (inp:Int) (F:cD):Prop where
 ins:∀ i c,F.code[i]?=some c->fD inp i c
 div:∀ (i:Nat) (c:aP),F.code[i]?=some c->c.lT=6->¬(kL sz args F.code c.fB.toNat).getD 0 0=0
 yG:∀ g∈F.guards,((kL sz args F.code g.oT.toNat).getD 0 0=0↔g.wL=true)
def TG (S:cD):Prop:=∀ g∈S.guards,l8 S g.oT/\(S.val g.oT=0↔g.wL=true)
theorem TG.put {S:cD} (h:TG S) (c:aP) (v:Int):TG (S.put c v):=λg hg=>by
 obtain⟨h1,h2⟩:=h g hg
 exact⟨h1.ext (S.vS c v),by rw[(S.vS c v).val h1.1 h1.2];exact h2⟩
theorem TG.guard {S:cD} (h:TG S) {k:Int} {b:Bool} (hk:l8 S k) (hb:S.val k=0↔b=true):TG (S.guard ⟨k,b⟩):=λg hg=>by
 rcases mS.1 hg with hg|hg
 ·exact h g hg
 ·rw[nQ.1 hg];exact⟨hk,hb⟩
def smQ (rg:Nat->List Int) (F:cD) (C:Prop) (S:cD) (X:Out (Int×cD)) (Y:Out (List Int)):Prop:=∀ r S' u,X=.ok ((r,S'),u)->(TG S->TG S')/\(C->S'.ext F->Y=.ok (rg r.toNat,u))
def smL (rg:Nat->List Int) (F:cD) (C:Prop) (S:cD) (X:Out (List Int×cD)) (Y:Out (List (List Int))):Prop:=∀ r S' u,X=.ok ((r,S'),u)->(TG S->TG S')/\(C->S'.ext F->Y=.ok (r.map λk=>rg k.toNat,u))
theorem yU {rg:Nat->List Int} {F:cD} {C:Prop} {ev:Nat->aB->cD->Out (Int×cD)} {ev':Nat->aB->Out (List Int)} {inp:Int}:∀ (l:List aB) (t:Nat) (S:cD),Good inp S t->t<=3000->(∀ e∈l,∀ u S',Good inp S' u->S.ext S'->lU S t S' u->qZ (zZ inp S' u) (ev u e S')/\smQ rg F C S' (ev u e S') (ev' u e))->smL rg F C S (nO ev l t S) (kJ ev' l t)
 | [],t,S,hg,ht,_=>λr S' u h=>by cases h;exact⟨id,λ_ _=>rfl⟩
 |e::l,t,S,hg,ht,h=>λr S' u hx=>by
  obtain⟨h1,h2⟩:=h e u4 t S hg S.oX (.refl ht)
  rw[nO]at hx
  obtain⟨⟨r1,S1⟩,t1,e1,hx⟩:=then_ok hx
  obtain⟨q1,q2,q3,q4⟩:=h1 _ _ e1
  simp only at hx q1 q2 q3 q4
  obtain⟨⟨rs,S2⟩,t2,e2,hx⟩:=then_ok hx
  cases hx
  have hl:=λx hx u' S' a b c=>h x (rM _ hx) u' S' a (q2.trans b) (q4.trans c)
  have hk:=gS l t1 S1 q1 q4.2.2.2 (λx hx u' S' a b c=>(hl x hx u' S' a b c).1) _ _ e2
  have k1:=h2 r1 S1 t1 e1
  have k2:=yU l t1 S1 q1 q4.2.2.2 hl rs _ _ e2
  refine⟨λq=>k2.1 (k1.1 q),λc he=>?_⟩
  rw[kJ,k1.2 c (hk.2.1.trans he),Out.andThen_ok,k2.2 c he]
  rfl
theorem aO7 {rg:Nat->List Int} {F:cD} {C:Prop} {f:List Int->Nat->cD->Out (List Int×cD)} {g:List (List Int)->Nat->Out (List (List Int))} {inp:Int} {m:Nat} (h:∀ vs t S,Good inp S t->(vs.length=m/\∀ x∈vs,l8 S x)->t<=3000->qZ (wO inp S t m) (f vs t S)/\smL rg F C S (f vs t S) (g (vs.map λk=>rg k.toNat) t)) :
  ∀ (n:Nat) (vs:List Int) (t:Nat) (S:cD),Good inp S t->(vs.length=m/\∀ x∈vs,l8 S x)->t<=3000->smL rg F C S (pI f n vs t S) (oV g n (vs.map λk=>rg k.toNat) t)
 |0,vs,t,S,hg,hv,ht=>λr S' u hx=>by cases hx;exact⟨id,λ_ _=>rfl⟩
 |n+1,vs,t,S,hg,hv,ht=>λr S' u hx=>by
  obtain⟨h1,h2⟩:=h vs t S hg hv ht
  rw[pI]at hx
  obtain⟨⟨r1,S1⟩,t1,e1,hx⟩:=then_ok hx
  obtain⟨q1,q2,q3,q4⟩:=h1 _ _ e1
  simp only at hx q1 q2 q3 q4
  have hk:=qD (λvs t S a b c=>(h vs t S a b c).1) n r1 t1 S1 q1 q3 q4.2.2.2 _ _ hx
  have k1:=h2 r1 S1 t1 e1
  have k2:=aO7 h n r1 t1 S1 q1 q3 q4.2.2.2 r S' u hx
  refine⟨λq=>k2.1 (k1.1 q),λc he=>?_⟩
  rw[oV,k1.2 c (hk.2.1.trans he),Out.andThen_ok]
  exact k2.2 c he
theorem bAX {sz:Nat} {args:List (List Int)} {inp:Int} {F:cD} {k:Int} {vs:List Int} {S:cD} {t m:Nat} (hk:k=3∨k=4∨k=5∨k=6∨k=7) (hm:vs.length=m/\∀ x∈vs,l8 S x) (hm1:1<=m) (hm2:¬k=7->2<=m) (hg:Good inp S t):smQ (kL sz args F.code) F (aL4 sz args inp F) S (opR k vs S t) (opE k (vs.map λk=>kL sz args F.code k.toNat) t):=λr S' u hx=>by
 unfold opR at hx
 split at hx
 ·cases hx
 rename_i v hv
 cases hx
 refine⟨λq=>q.put _ _,λC he=>?_⟩
 have ec:=aL3 hg he
 have hin:=C.ins _ _ ec
 have e0:=aRG (sz:=sz) (args:=args) ec hin aMQ aMQ
 simp only at e0
 rw[tX,e0]
 have g0:=j3 (rg:=kL sz args F.code) (l:=vs) (i:=0) aA
 unfold opE opW
 rcases hk with rfl|rfl|rfl|rfl|rfl
 all_goals simp only[reduceCtorEq,if_true,if_false,Int.reduceEq]
 ·rw[g0,j3 (rg:=kL sz args F.code) (i:=1) aDD];rfl
 ·rw[g0,j3 (rg:=kL sz args F.code) (i:=1) aDD];rfl
 ·rw[g0,j3 (rg:=kL sz args F.code) (i:=1) aDD];rfl
 ·have hdv:=C.div _ _ ec rfl
  rw[show opB 6 vs=vs.getD 1 0 from rfl]at hdv
  rw[g0,j3 (rg:=kL sz args F.code) (i:=1) aDD,if_neg hdv];rfl
 ·rw[g0]
theorem aUD {p:aF} (hp:p.ok) {sz:Nat} {args:List (List Int)} {inp:Int} {F:cD}:∀ (n t:Nat) (e:aB) (env:List Int) (S:cD) (funcs:Int),e.ok p funcs env.length->funcs<=p.aI.length->Good inp S t->t<=3000->(∀ x∈env,l8 S x)->smQ (kL sz args F.code) F (aL4 sz args inp F) S (dN p n t e env S) (gR p sz n t e (env.map λk=>kL sz args F.code k.toNat))
 |0,t,e,env,S,funcs,_,_,_,_,_=>λr S' u hx=>by rw[dN]at hx;cases hx
 |n+1,t,e,env,S,funcs,hok,hf,hg,ht,henv=>by
  have ih:=aUD hp (sz:=sz) (args:=args) (inp:=inp) (F:=F) n
  have io:=pV hp (inp:=inp) n
  have hnode:=((aB.cS _ _ _ _).1 hok).1
  by_cases h3:t=3000
  ·intro r S' u hx
   rw[dN,if_pos h3]at hx;cases hx
  have j9:=hg.later (mZ t)
  have hcap:=hg.cap
  have hgcap:=hg.vR
  have henvE:∀ {S'},S.ext S'->∀ x∈env,l8 S' x:=λe x hx=>(henv x hx).ext e
  have kidsS:¬e.aN=9->∀ x∈e.aK,∀ u S',Good inp S' u->S.ext S'->lU S (t+1) S' u->qZ (zZ inp S' u) (dN p n u x env S')/\smQ (kL sz args F.code) F (aL4 sz args inp F) S' (dN p n u x env S') (gR p sz n u x (env.map λk=>kL sz args F.code k.toNat)):=λh9 x hx u S' a b c =>
   ⟨io u x env S' funcs (eA hok h9 x hx) hf a c.2.2.2 (henvE b),ih u x env S' funcs (eA hok h9 x hx) hf a c.2.2.2 (henvE b)⟩
  intro r S' u hx
  rcases pR hnode with hk|hk|hk|hk|hk|hk|hk|hk|hk|hk|hk
  ·rw[aG4 h3 hk]at hx
   rw[aOD h3 hk]
   cases hx
   refine⟨λq=>q.put _ _,λC he=>?_⟩
   rw[tX,aL2 (sz:=sz) (args:=args) (aL3 hg he) rfl]
  ·rw[aG5 h3 hk]at hx
   rw[aOE h3 hk]
   cases hx
   have hn:=((dI aA).1 hnode).2.2.2.2.1 hk
   exact⟨id,λ_ _=>by rw[j3 aA]⟩
  iterate 5
   ·have hlen:=dH hok aA
    rw[hk]at hlen
    rw[lQ h3 aA]at hx
    rw[mX h3 aA]
    have hs:=kidsS aA
    obtain⟨⟨rs,S1⟩,t1,e1,hx⟩:=then_ok hx
    simp only at hx
    obtain⟨r1,r2,r3,r4⟩:=gS _ _ S j9 aA (λx hx u S' a b c=>(hs x hx u S' a b c).1) _ _ e1
    have hex:S1.ext S':=by
     have hx2:=hx
     unfold opR at hx2
     split at hx2
     ·cases hx2
     ·cases hx2;exact S1.vS _ _
    have k1:=yU _ _ S j9 aA hs _ _ _ e1
    have k2:=bAX (sz:=sz) (args:=args) (inp:=inp) (F:=F) aA r3 aRY (λq=>by unfold dK at hlen;simp at hlen;omega) r1 _ _ _ hx
    refine⟨λq=>k2.1 (k1.1 q),λC he=>?_⟩
    rw[k1.2 C (hex.trans he),Out.andThen_ok]
    exact k2.2 C he
  ·have hlen:=dH hok aA
   rw[hk,show dK 8=3 from rfl]at hlen
   have o0:=aB.dW hok (i:=0) aA
   have o1:=aB.dW hok (i:=1) aA
   have o2:=aB.dW hok (i:=2) aA
   rw[fR aA]at o0 o1 o2
   rw[vT h3 hk]at hx
   rw[aG2 h3 hk]
   obtain⟨⟨rr,S1⟩,t1,e1,hx⟩:=then_ok hx
   simp only at hx
   obtain⟨r1,r2,r3,r4⟩:=io _ _ _ _ _ o0 hf j9 aA henv _ _ e1
   simp only at r1 r2 r3 r4
   have r4':=r4
   unfold lU at r4'
   have k1:=ih _ _ _ _ _ o0 hf j9 aA henv _ _ _ e1
   have go:∀ (b:Bool) (k:aB),k.ok p funcs env.length->(S1.val rr=0↔b=true)->dN p n t1 k env (S1.guard ⟨rr,b⟩)=.ok ((r,S'),u)->(TG S->TG S')/\(aL4 sz args inp F->S'.ext F->S1.ext F/\((kL sz args F.code rr.toNat).getD 0 0=0↔b=true)/\gR p sz n t1 k (env.map λk=>kL sz args F.code k.toNat)=.ok (kL sz args F.code r.toNat,u)):=λb k hk hb hq=>by
    have hx1:S1.ext (S1.guard ⟨rr,b⟩):=S1.oB _
    have hgd:=r1.guard (b:=b) r3 aA
    obtain⟨q1,q2,q3,q4⟩:=io t1 k env _ _ hk hf hgd aA (henvE (r2.trans hx1)) _ _ hq
    simp only at q2
    have k2:=ih t1 k env _ _ hk hf hgd aA (henvE (r2.trans hx1)) _ _ _ hq
    exact⟨λq=>k2.1 ((k1.1 q).guard r3 hb),λC he=>⟨hx1.trans (q2.trans he),C.yG ⟨rr,b⟩ ((q2.trans he).2.2.subset (by simp[cD.guard])),k2.2 C he⟩⟩
   by_cases hz:S1.val rr=0
   ·rw[if_pos hz]at hx
    obtain⟨g0,g⟩:=go _ _ o1 ⟨λ_=>rfl,λ_=>hz⟩ hx
    refine⟨g0,λC he=>?_⟩
    obtain⟨g1,g2,g3⟩:=g C he
    rw[k1.2 C g1,Out.andThen_ok,if_pos (g2.2 rfl)]
    exact g3
   ·rw[if_neg hz]at hx
    obtain⟨g0,g⟩:=go _ _ o2 ⟨λq=>absurd q hz,λq=>by cases q⟩ hx
    refine⟨g0,λC he=>?_⟩
    obtain⟨g1,g2,g3⟩:=g C he
    rw[k1.2 C g1,Out.andThen_ok,if_neg (λq=>absurd (g2.1 q) bU)]
    exact g3
  ·have hlen:=dH hok aA
   rw[hk,show dK 9=2 from rfl]at hlen
   have o0:=aB.dW hok (i:=0) aA
   have o1:=aB.dW hok (i:=1) aA
   rw[fR aA]at o0
   rw[hk,show gL 9 1 (env.length:Int)=env.length+1 from rfl]at o1
   rw[aG6 h3 hk]at hx
   rw[aOF h3 hk]
   obtain⟨⟨rr,S1⟩,t1,e1,hx⟩:=then_ok hx
   simp only at hx
   obtain⟨r1,r2,r3,r4⟩:=io _ _ _ _ _ o0 hf j9 aA henv _ _ e1
   simp only at r1 r2 r3 r4
   have a0M:∀ x∈env++[rr],l8 S1 x:=λx hx=>by
    rcases mS.1 hx with hx|hx
    ·exact henvE r2 x hx
    ·rw[nQ.1 hx];exact r3
   obtain⟨q1,q2,q3,q4⟩:=io t1 (e.lO 1) (env++[rr]) S1 funcs aAO hf r1 r4.2.2.2 a0M _ _ hx
   have k1:=ih _ _ _ _ _ o0 hf j9 aA henv _ _ _ e1
   have k2:=ih t1 (e.lO 1) (env++[rr]) S1 funcs aAO hf r1 r4.2.2.2 a0M _ _ _ hx
   refine⟨λq=>k2.1 (k1.1 q),λC he=>?_⟩
   rw[k1.2 C (q2.trans he),Out.andThen_ok]
   have:=k2.2 C he
   rwa [zG]at this
  ·obtain⟨f,Fc⟩:=lP hp hok hf (.inl hk)
   have f2:=Fc.hi
   have f4:=Fc.pk2
   rw[yH h3 hk]at hx
   rw[aC1 h3 hk]
   have hs:=kidsS aA
   obtain⟨⟨rs,S1⟩,t1,e1,hx⟩:=then_ok hx
   simp only at hx
   obtain⟨r1,r2,r3,r4⟩:=gS _ _ S j9 aA (λx hx u S' a b c=>(hs x hx u S' a b c).1) _ _ e1
   simp only at r1 r2 r3 r4
   have hco:(p.out e.aX e.cF).ok p e.aX rs.length:=by rw[r3.1,Fc.kids];exact Fc.oks _ (al6 Fc.out)
   obtain⟨q1,q2,q3,q4⟩:=io t1 _ rs S1 e.aX hco aA r1 r4.2.2.2 r3.2 _ _ hx
   have k1:=yU _ _ S j9 aA hs _ _ _ e1
   have k2:=ih t1 _ rs S1 e.aX hco aA r1 r4.2.2.2 r3.2 _ _ _ hx
   refine⟨λq=>k2.1 (k1.1 q),λC he=>?_⟩
   rw[k1.2 C (q2.trans he),Out.andThen_ok]
   exact k2.2 C he
  ·obtain⟨f,Fc⟩:=lP hp hok hf (.inr hk)
   have f2:=Fc.hi
   have f4:=Fc.pk2
   have f9:=Fc.loop hk
   rw[yI h3 hk]at hx
   rw[aC2 h3 hk]
   have hs:=kidsS aA
   obtain⟨⟨rs,S1⟩,t1,e1,hx⟩:=then_ok hx
   simp only at hx
   obtain⟨r1,r2,r3,r4⟩:=gS _ _ S j9 aA (λx hx u S' a b c=>(hs x hx u S' a b c).1) _ _ e1
   simp only at r1 r2 r3 r4
   obtain⟨⟨rs2,S2⟩,t2,e2,hx⟩:=then_ok hx
   cases hx
   have hfl:∀ vs t S,Good inp S t->(vs.length=f.aO.length/\∀ x∈vs,l8 S x)->t<=3000->qZ (wO inp S t f.aO.length) (nO (λt e S=>dN p n t e vs S) (p.outs e.aX) t S)/\smL (kL sz args F.code) F (aL4 sz args inp F) S (nO (λt e S=>dN p n t e vs S) (p.outs e.aX) t S) (kJ (λt e=>gR p sz n t e (vs.map λk=>kL sz args F.code k.toNat)) (p.outs e.aX) t):=λvs w S' hg' hv hw=>by
    rw[Fc.eq]
    have hx2:∀ x∈f.aO,∀ u S'',Good inp S'' u->S'.ext S''->lU S' w S'' u->qZ (zZ inp S'' u) (dN p n u x vs S'')/\smQ (kL sz args F.code) F (aL4 sz args inp F) S'' (dN p n u x vs S'') (gR p sz n u x (vs.map λk=>kL sz args F.code k.toNat)):=λx hx u S'' a b c =>
     ⟨io u x vs S'' e.aX aR4 aA a c.2.2.2 λy hy=>(hv.2 y hy).ext b,ih u x vs S'' e.aX aR4 aA a c.2.2.2 λy hy=>(hv.2 y hy).ext b⟩
    exact⟨gS _ _ S' hg' hw λx hx u S'' a b c=>(hx2 x hx u S'' a b c).1,yU _ _ S' hg' hw hx2⟩
   have wR:rs.length=f.aO.length/\∀ x∈rs,l8 S1 x:=⟨by have:=r3.1;have:=Fc.kids;omega,r3.2⟩
   have hk2:=qD (inp:=inp) (m:=f.aO.length) (λvs t S a b c=>(hfl vs t S a b c).1) _ _ _ _ r1 wR r4.2.2.2 _ _ e2
   have k1:=yU _ _ S j9 aA hs _ _ _ e1
   have k2:=aO7 (inp:=inp) (m:=f.aO.length) (g:=λvs t=>kJ (λt e=>gR p sz n t e vs) (p.outs e.aX) t) hfl _ _ _ _ r1 wR r4.2.2.2 _ _ _ e2
   refine⟨λq=>k2.1 (k1.1 q),λC he=>?_⟩
   rw[k1.2 C (hk2.2.1.trans he),Out.andThen_ok,k2.2 C he,Out.andThen_ok]
   rw[j3 (by have:=hk2.2.2.1.1;simp only at this;omega)]
theorem a5C {p:aF} (hp:p.ok) {sz:Nat} {f:Int} (hf:0<=f/\f<p.aI.length) {eK:List Int} (ha0:gE eK) (qN:∀ G,p.aI[f.toNat]?=some G->(eK.length:Int)=G.bB) {L:List Int} {F:cD} {u:Nat} (hX:aIM p f eK=.ok ((L,F),u)) {args:List (List Int)} (hl:args.length=eK.length) :
  TG F/\(aL4 sz args eK.length F->evF p sz f args=.ok (L.map λk=>kL sz args F.code k.toNat,u)):=by
 obtain⟨G,ef,hF1,hF2,hF3,hF4⟩:=rG hp hf
 have hla:=qN G ef
 have hg:=aBY eK ha0 aA
 have hin:=aLJ eK
 have hel:(yY eK).length=eK.length:=by simp[yY]
 obtain⟨q1,q2,q3,q4⟩:=(aLK hp f hf eK ha0 qN).1 _ _ hX
 simp only at q1 q2 q3 q4
 have hcode:∀ i,i<eK.length->F.code[i]?=some ⟨1,0,0,(i:Int)⟩:=λi hi=>by
  obtain⟨x,hx⟩:=q2.1
  rw[←hx,tW (by simp[inS];exact hi)]
  simp[inS,hi]
 have hrg:∀ i,i<eK.length->kL sz args F.code i=args.getD i []:=λi hi=>by
  rw[aRF (hcode i hi) rfl,tX]
 have hmap:(yY eK).map (λk=>kL sz args F.code k.toNat)=args:=by
  apply aMH
  ·rw[iG,hel,hl]
  ·intro i h1 h2
   rw[aIW]
   have e1:(yY eK)[i]'(by rw[hel];omega)=(i:Int):=by simp[yY]
   rw[e1,tX,hrg i aA,gA,cP h2];rfl
 have hx2:∀ x∈p.outs f,∀ u S'',Good eK.length S'' u->(inS eK).ext S''->lU (inS eK) 0 S'' u->qZ (zZ eK.length S'' u) (dN p 3001 u x (yY eK) S'')/\smQ (kL sz args F.code) F (aL4 sz args eK.length F) S'' (dN p 3001 u x (yY eK) S'') (gR p sz 3001 u x args):=λx hx u S'' a b c=>by
  have hxo:x.ok p f (yY eK).length:=by rw[hel,hla];exact hF4 x (by rw[←hF3];exact hx)
  refine⟨pV hp _ u x _ S'' f hxo aA a c.2.2.2 λy hy=>(hin y hy).ext b,?_⟩
  have:=aUD hp (sz:=sz) (args:=args) (F:=F) 3001 u x (yY eK) S'' f hxo aA a c.2.2.2 λy hy=>(hin y hy).ext b
  rwa [hmap]at this
 have k:=yU _ _ _ hg aA hx2 _ _ _ hX
 exact⟨k.1 (λg hg=>by cases hg),λC=>k.2 C F.oX⟩
theorem xY (a b:Int) (ha:fZ a) (hb:fZ b):eX Tryz.prog 209 [I a,I b] (I (a*b%1000003)):=by
 have h1:=num_mul ha hb
 unfold fZ at ha hb
 refine eJ 11 yW cR cC Tryz.func209 λh=>?_
 simp -dsimp -implicitDefEqProofs only[go_sem,↓reduceIte,Tryz.f209]
 first|refine aG.mk (fT a) ?_|refine aD.mk (fT a) ?_|refine aG.bC (fT a) ?_|refine aD.mk (aZ.dB (fT a)) ?_
 simp -dsimp -implicitDefEqProofs only[go_sem,↓reduceIte,Tryz.f209]
 first|refine aG.mk (fT b) ?_|refine aD.mk (fT b) ?_|refine aG.bC (fT b) ?_|refine aD.mk (aZ.dB (fT b)) ?_
 simp -dsimp -implicitDefEqProofs only[go_sem,↓reduceIte,Tryz.f209]
 rw[aRM ha.1 aA,aRM hb.1 aA,aQL h1.1 aA]
@[go_sem] def a5D:List Nat:=[0,1,2,3,6,7,9,10,15,20,25,30]
theorem a0N (x:aP) (a b:Int) (ha:fZ a) (hb:fZ b) (hk:x.lT=3∨x.lT=4∨x.lT=5∨x.lT=6∨x.lT=7):eX Tryz.prog 193 [.agg x.c,I a,I b] (.eW [I ((opV x.lT a b).getD 0),.bool (opV x.lT a b).isSome]):=by
 rw[aP.aU]
 have hni:fZ (qC b):=num_inv b
 refine eJ 35 a5D bE6 cC Tryz.func193 λh=>?_
 simp -dsimp -implicitDefEqProofs only[go_sem,↓reduceIte,Tryz.f193]
 refine⟨λq=>?_,λq=>⟨λq4=>?_,λq4=>⟨λq5=>?_,λq5=>⟨λq7=>?_,λq7=>⟨λqb=>?_,λqb=>?_⟩⟩⟩⟩⟩
 ·first|refine aG.mk (aN8 a b) ?_|refine aD.mk (aN8 a b) ?_|refine aG.bC (aN8 a b) ?_|refine aD.mk (aZ.dB (aN8 a b)) ?_
  simp -dsimp -implicitDefEqProofs only[go_sem,↓reduceIte,Tryz.f193]
  unfold opV;rw[if_pos q];rfl
 ·first|refine aG.mk (minus a b) ?_|refine aD.mk (minus a b) ?_|refine aG.bC (minus a b) ?_|refine aD.mk (aZ.dB (minus a b)) ?_
  simp -dsimp -implicitDefEqProofs only[go_sem,↓reduceIte,Tryz.f193]
  unfold opV;rw[if_neg q,if_pos q4];rfl
 ·first|refine aG.mk (xY a b ha hb) ?_|refine aD.mk (xY a b ha hb) ?_|refine aG.bC (xY a b ha hb) ?_|refine aD.mk (aZ.dB (xY a b ha hb)) ?_
  simp -dsimp -implicitDefEqProofs only[go_sem,↓reduceIte,Tryz.f193]
  unfold opV;rw[if_neg q,if_neg q4,if_pos q5];rfl
 ·first|refine aG.mk (minus 0 a) ?_|refine aD.mk (minus 0 a) ?_|refine aG.bC (minus 0 a) ?_|refine aD.mk (aZ.dB (minus 0 a)) ?_
  simp -dsimp -implicitDefEqProofs only[go_sem,↓reduceIte,Tryz.f193]
  unfold opV;rw[if_neg q,if_neg q4,if_neg q5,if_pos q7];rfl
 ·unfold opV;rw[if_neg q,if_neg q4,if_neg q5,if_neg q7,if_pos qb];rfl
 ·first|refine aG.mk (s8 b) ?_|refine aD.mk (s8 b) ?_|refine aG.bC (s8 b) ?_|refine aD.mk (aZ.dB (s8 b)) ?_
  simp -dsimp -implicitDefEqProofs only[go_sem,↓reduceIte,Tryz.f193]
  first|refine aG.mk (xY a (qC b) ha hni) ?_|refine aD.mk (xY a (qC b) ha hni) ?_|refine aG.bC (xY a (qC b) ha hni) ?_|refine aD.mk (aZ.dB (xY a (qC b) ha hni)) ?_
  simp -dsimp -implicitDefEqProofs only[go_sem,↓reduceIte,Tryz.f193]
  unfold opV;rw[if_neg q,if_neg q4,if_neg q5,if_neg q7,if_neg qb];rfl
theorem Good.val {inp:Int} {S:cD} {t:Nat} (h:Good inp S t) (k:Int):fZ (S.val k):=h.a3G.get _
theorem iW.row {h0 h:Heap} {nb:Nat} {bx:cD->Option Nat->Option Nat->Option Nat->bW} {S:cD} {om og ov:Option Nat} (H:iW bx h0 nb S om og ov h) {k:Int} (hk:l8 S k):∃ w,ov=some w/\h w=some (.row 1 (rowsOf (λn=>[I n]) S.dZ))/\¬w=nb:=by
 have hv:=H.dZ
 cases ov with
 |none=>have:=eN.1 hv;have h2:=hk.1;have h3:=hk.2;rw[this]at h3;simp at h3;omega
 |some w=>exact⟨w,rfl,hv.2,λe=>((H.apart w).1 e).2.2 rfl⟩
theorem aAG {S:cD} {k:Int} (hk:l8 S k):(rowsOf (λn=>[I n]) S.dZ)[k.toNat]?=some [.v (I (S.val k))]:=by
 have h1:=hk.1
 have h2:=hk.2
 rw[rowsOf,nI,nI,cP aA,cD.val,gA,cP aA];rfl
@[go_sem] def a5E:List Nat:=[0,1,2,6,7,8,9,16,43]
@[go_sem] def bGE:Marks:=λid=>match id with|4=>([0,4,6,8,12,14,16],(.op 1 (.op 2 (.op 3 (.op 5 (.op 9 (.op 10 (.op 11 (.op 13 (.op 0 (.op 4 (.op 6 (.op 7 (.op 8 (.op 12 (.op 14 (.op 15 (.op 16 (.op 17 (.op 18 (.op 19 (.op 20 (.op 21 (.op 22 .nil))))))))))))))))))))))),[])|_=>([],.nil,[])
theorem pA {h0 h:Heap} {nb:Nat} {p:aF} {inp:Int} {S:cD} {st:Nat} (H:gY h0 nb p inp S st 0 h) (hg:Good inp S st) (hst:st<=3000) (k:Int) (vs:List Int) (hk:k=3∨k=4∨k=5∨k=6∨k=7) (h1:1<=vs.length) (h2:¬k=7->2<=vs.length) (hv:∀ x∈vs,l8 S x) (hl:vs.length<=1048576) :
  fH Tryz.prog 170 [.op nb 8 0 0,I k,ints vs] h λr h'=>∃ j S' c',r=I j/\gY h0 nb p inp S' st c' h'/\gZ (opR k vs S st) (j,S') st c':=by
 obtain⟨om,og,ov,H⟩:=H
 have at_:∀ i,i<vs.length->l8 S (vs.getD i 0):=λi hi=>by
  rw[gA,cP hi]
  exact hv _ (eF _)
 have i0:=at_ 0 aA
 have iB:l8 S (opB k vs):=by
  unfold opB
  split
  ·have a:=i0.1;have b:=i0.2;exact⟨aCB _,by omega⟩
  ·exact at_ 1 (h2 jH)
 obtain⟨w,rfl,hw,dw⟩:=H.row i0
 have hb:=H.box
 unfold cO at hb
 rw[bD]at hb
 have g0:vs[Int.toNat 0]?=some (vs.getD 0 0):=dV aA
 have r0:=aAG i0
 have rB:=aAG iB
 obtain⟨aQR,tR,tS,aZK⟩:=c7 (show ¬w=nb from dw)
 have hva:=hg.val (vs.getD 0 0)
 have hvb:=hg.val (opB k vs)
 have hop:=a0N ⟨k,vs.getD 0 0,opB k vs,0⟩ _ _ hva hvb hk
 simp only[aP.aU]at hop
 have b0:=iB.1
 have b1:=i0.1
 have lw:=iJ (λn=>[I n]) S.dZ
 have i0b:=i0.2
 have iBb:=iB.2
 refine gG 51 a5E cR bGE Tryz.func170 ?_
 simp -dsimp -implicitDefEqProofs only[go_sem,↓reduceIte,Tryz.f170,hb,g0]
 refine⟨by omega,λn hn=>⟨λh7=>⟨by have:=h2 h7;omega,?_⟩,λh7=>?_⟩⟩
 ·obtain⟨aLZ,qL,qM,aL0⟩:=c7 (show ¬n=nb from λe=>by rw[e,hb]at hn;cases hn)
  obtain⟨bGF,aO8,aO9,bGG⟩:=c7 (show ¬n=w from λe=>by rw[e,hw]at hn;cases hn)
  have eB:opB k vs=vs.getD 1 0:=if_neg h7
  have g1:vs[Int.toNat 1]?=some (vs.getD 1 0):=dV (h2 h7)
  rw[eB]at rB hop b0 iBb
  simp -dsimp -implicitDefEqProofs only[go_sem,↓reduceIte,Tryz.f170,g1,hb,hw,r0,rB,qL,aO8,qM,tS,aO9,tR,aE]
  refine⟨b1,i0b,b0,iBb,?_⟩
  cases hv:opV k (S.val (vs.getD 0 0)) (S.val ((vs.getD 1 0)))with
  |none =>
   rw[hv]at hop
   first|refine aG.mk (hop) ?_|refine aD.mk (hop) ?_|refine aG.bC (hop) ?_|refine aD.mk (aZ.dB (hop)) ?_
   simp -dsimp -implicitDefEqProofs only[go_sem,↓reduceIte,Tryz.f170]
   refine⟨λ_=>?_,λq=>absurd q cK⟩
   simp -dsimp -implicitDefEqProofs only[go_sem,↓reduceIte,Tryz.f170,hb,qL,aO8,qM,tS,aO9,tR,aE]
   refine⟨_,_,bJ (?_:(aR h nb (cO p inp S om og (some w) st 6)).le _),0,S,6,rfl,⟨_,_,_,H.set st 6⟩,by unfold opR;rw[eB,hv];exact jJ _ _ bU⟩
   unfold cO
   rw[bD]
   exact(gF bDE)
  |some v =>
   rw[hv]at hop
   first|refine aG.mk (hop) ?_|refine aD.mk (hop) ?_|refine aG.bC (hop) ?_|refine aD.mk (aZ.dB (hop)) ?_
   simp -dsimp -implicitDefEqProofs only[go_sem,↓reduceIte,Tryz.f170]
   refine⟨λq=>absurd q cK,λ_=>?_⟩
   simp only[aJ]
   refine aG.eH (aHF (lK.over ⟨om,og,some w,H⟩ hn) ⟨k,vs.getD 0 0,(vs.getD 1 0),0⟩ v hg.len (by have:=hg.cap;omega)) ?_
   rintro r h' ⟨rfl,hR⟩
   obtain⟨g,rfl,hgn,hR⟩:=hR.base (lK.none ⟨om,og,some w,H⟩ hn)
   simp -dsimp -implicitDefEqProofs only[go_sem,↓reduceIte,Tryz.f170]
   exact⟨_,g,bJ (Heap.bA hgn (Heap.le_refl _)),_,_,0,rfl,hR,by unfold opR;rw[eB,hv];exact j0 _ _⟩
 ·obtain⟨aLZ,qL,qM,aL0⟩:=c7 (show ¬n=nb from λe=>by rw[e,hb]at hn;cases hn)
  obtain⟨bGF,aO8,aO9,bGG⟩:=c7 (show ¬n=w from λe=>by rw[e,hw]at hn;cases hn)
  have eB:opB k vs=0:=if_pos h7
  rw[eB]at rB hop b0 iBb
  simp -dsimp -implicitDefEqProofs only[go_sem,↓reduceIte,Tryz.f170,hb,hw,r0,rB,qL,aO8,qM,tS,aO9,tR,aE]
  refine⟨b1,i0b,iBb,?_⟩
  cases hv:opV k (S.val (vs.getD 0 0)) (S.val (0))with
  |none =>
   rw[hv]at hop
   first|refine aG.mk (hop) ?_|refine aD.mk (hop) ?_|refine aG.bC (hop) ?_|refine aD.mk (aZ.dB (hop)) ?_
   simp -dsimp -implicitDefEqProofs only[go_sem,↓reduceIte,Tryz.f170]
   refine⟨λ_=>?_,λq=>absurd q cK⟩
   simp -dsimp -implicitDefEqProofs only[go_sem,↓reduceIte,Tryz.f170,hb,qL,aO8,qM,tS,aO9,tR,aE]
   refine⟨_,_,bJ (?_:(aR h nb (cO p inp S om og (some w) st 6)).le _),0,S,6,rfl,⟨_,_,_,H.set st 6⟩,by unfold opR;rw[eB,hv];exact jJ _ _ bU⟩
   unfold cO
   rw[bD]
   exact(gF bDE)
  |some v =>
   rw[hv]at hop
   first|refine aG.mk (hop) ?_|refine aD.mk (hop) ?_|refine aG.bC (hop) ?_|refine aD.mk (aZ.dB (hop)) ?_
   simp -dsimp -implicitDefEqProofs only[go_sem,↓reduceIte,Tryz.f170]
   refine⟨λq=>absurd q cK,λ_=>?_⟩
   simp only[aJ]
   refine aG.eH (aHF (lK.over ⟨om,og,some w,H⟩ hn) ⟨k,vs.getD 0 0,0,0⟩ v hg.len (by have:=hg.cap;omega)) ?_
   rintro r h' ⟨rfl,hR⟩
   obtain⟨g,rfl,hgn,hR⟩:=hR.base (lK.none ⟨om,og,some w,H⟩ hn)
   simp -dsimp -implicitDefEqProofs only[go_sem,↓reduceIte,Tryz.f170]
   exact⟨_,g,bJ (Heap.bA hgn (Heap.le_refl _)),_,_,0,rfl,hR,by unfold opR;rw[eB,hv];exact j0 _ _⟩
theorem gZ.ok {α:Type} {c:Int} {X:Out α} {v:α} {t:Nat} {c':Int} (h:gZ (mW c X) v t c') (hc:c'=0):c=0/\X=.ok (v,t):=by
 have h0:=h.bFJ hc
 subst h0
 rw[cJ]at h
 cases X with
 |ok q=>obtain⟨w,u⟩:=q;obtain⟨_,rfl,rfl⟩:=h;exact⟨rfl,rfl⟩
 |error d=>exact absurd (h.1.symm.trans hc) h.2
def aC7 (h0:Heap) (nb:Nat) (p:aF) (inp:Int) (st:Nat) (c:Int) (X:Out (Int×cD)):aC->Heap->Prop:=λr h'=>∃ k S' t c',r=I k/\gY h0 nb p inp S' t c' h'/\st<=t/\t<=3000/\gZ (mW c X) (k,S') t c'
def a7B (h0:Heap) (nb:Nat) (p:aF) (inp:Int) (st:Nat) (c:Int) (n:Nat) (X:Out (List Int×cD)):aC->Heap->Prop:=λr h'=>∃ l S' t c',r=ints l/\gY h0 nb p inp S' t c' h'/\l.length=n/\st<=t/\t<=3000/\gZ (mW c X) (l,S') t c'
@[go_sem] def mO:List Nat:=[0,1,2,4,6,7,8,9,10,15,20,32,33,42,49,62,85,100,128,130,131,150,162]
@[go_sem] def uW:List Nat:=[4,80,116]
@[go_sem] def uX:Marks:=λid=>match id with|22=>([6,13,15,16],(.op 0 (.op 1 (.op 2 (.op 3 (.op 4 (.op 5 (.op 7 (.op 8 (.op 9 (.op 10 (.op 11 (.op 12 (.op 6 (.op 13 (.op 14 (.op 15 (.op 16 (.op 17 .nil)))))))))))))))))),[])|28=>([5,16],(.op 0 (.op 1 (.op 2 (.op 3 (.op 4 (.op 6 (.op 7 (.op 11 (.op 12 (.op 15 (.op 5 (.op 8 (.op 9 (.op 10 (.op 13 (.op 14 (.op 16 (.op 17 .nil)))))))))))))))))),[])|33=>([5,12],(.op 0 (.op 1 (.op 2 (.op 3 (.op 4 (.op 6 (.op 7 (.op 11 (.op 5 (.op 8 (.op 9 (.op 10 (.op 12 (.op 13 .nil)))))))))))))),[])|_=>([],.nil,[])
def uY (p:aF) (inp:Int) (n:Nat):Prop:=∀ (h0 h:Heap) (nb st:Nat) (c:Int) (e:aB) (env:List Int) (S:cD) (funcs:Int),gY h0 nb p inp S st c h->st<=3000->3001<=n+st->e.ok p funcs env.length->0<=funcs->funcs<=p.aI.length->(c=0->Good inp S st/\∀ x∈env,l8 S x)->env.length<=412+st ->
 fH Tryz.prog 125 [.op nb 8 0 0,.agg e.c,ints env] h (aC7 h0 nb p inp st c (dN p n st e env S))
theorem mP {p:aF} (hp:p.ok) {inp:Int} {n st:Nat} {S:cD} {l:List aB} {env:List Int} {funcs:Int} (hg:Good inp S st) (hst:st<=3000) (henv:∀ x∈env,l8 S x) (hok:∀ e∈l,e.ok p funcs env.length) (hf:funcs<=p.aI.length):qZ (wO inp S st l.length) (nO (λt e S=>dN p n t e env S) l st S) :=
 gS l st S hg hst λx hx u S' a b c=>pV hp n u x env S' funcs (hok x hx) hf a c.2.2.2 λy hy=>(henv y hy).ext b
theorem rI {p:aF} (hp:p.ok) {inp:Int} {n:Nat} (hv:uY p inp n) (h0 h:Heap) (nb st:Nat) (c:Int) (l:List aB) (env:List Int) (S:cD) (funcs:Int) (hb:gY h0 nb p inp S st c h) (hst:st<=3000) (hn:3001<=n+st)
  (hl:l.length<=1048576) (hok:∀ e∈l,e.ok p funcs env.length) (eP:0<=funcs) (hf:funcs<=p.aI.length) (hgo:c=0->Good inp S st/\∀ x∈env,l8 S x) (hel:env.length<=412+st) :
  fH Tryz.prog 63 [.op nb 8 0 0,eQ 5 aB.c l,ints env] h (a7B h0 nb p inp st c l.length (nO (λt e S=>dN p n t e env S) l st S)):=by
 refine gG 26 aSW aSX cC Tryz.func63 ?_
 simp -dsimp -implicitDefEqProofs only[go_sem,↓reduceIte,Tryz.f63]
 refine⟨b6,λ_=>?_⟩
 refine dJ aSW aSX cC (λx:Nat×List Int×Nat×Int×cD×Heap×Option Nat=>[(0,.op nb 8 0 0),(2,ints env),(7,iH 1 x.2.1.length x.2.2.2.2.2.2),(11,eQ 5 aB.c l),(12,I l.length),(13,I x.1)]) (λx=>c8 x.2.2.2.2.2.1 (.row 1 ((x.2.1.map λn=>[I n]).map (List.map .v))) x.2.2.2.2.2.2) (λx=>x.1<=l.length/\x.2.1.length=x.1/\st<=x.2.2.1/\x.2.2.1<=3000/\gZ (mW c (nO (λt e S=>dN p n t e env S) (l.take x.1) st S)) (x.2.1,x.2.2.2.2.1) x.2.2.1 x.2.2.2.1/\gY h0 nb p inp x.2.2.2.2.1 x.2.2.1 x.2.2.2.1 x.2.2.2.2.2.1/\fM x.2.2.2.2.2.1 x.2.1 x.2.2.2.2.2.2) (λx=>l.length-x.1) (0,[],st,c,S,h,none) ⟨by simp[dM,cE,iH],by simp only[aQ];exact Heap.le_refl _,gM _,rfl,j4 _,hst,fI _ _ _,hb,rfl⟩ ?_
 rintro⟨k,vs,t,c',S1,g,o⟩ ⟨hk,hvl,ht0,ht,ho,hR,hos⟩
 simp only at hk hvl ht0 ht ho hR hos ⊢
 rcases cQ k l.length with hlt|hge
 ·have ek:l[k]?=some l[k]:=cP hlt
  have hnext:∀ (j:Int) (S2:cD) (t2:Nat) (c2:Int),gZ (mW c' (dN p n t l[k] env S1)) (j,S2) t2 c2->gZ (mW c (nO (λt e S=>dN p n t e env S) (l.take (k+1)) st S)) (vs++[j],S2) t2 c2:=λj S2 t2 c2 h3=>by
   rw[pD hlt,aJN]
   exact ho.dA (h3.dA (fI _ _ _))
  have bGH:c'=0->Good inp S1 t/\∀ x∈env,l8 S1 x:=λhc=>by
   obtain⟨e1,e2⟩:=ho.ok hc
   obtain⟨a1,a2⟩:=hgo e1
   obtain⟨b1,b2,b3,b4⟩:=mP hp (l:=l.take k) a1 hst a2 (λx hx=>hok x (aJ4 hx)) hf _ _ e2
   exact⟨b1,λx hx=>(a2 x hx).ext b2⟩
  cases o with
  |none =>
   rw[bK]at hos
   subst hos
   simp -dsimp -implicitDefEqProofs only[go_sem,↓reduceIte,Tryz.f63,b5,aQ,hlt,ek,aB.aU]
   intro m9 z9
   rw[aJ]
   have hvk:=hv (aR h0 m9 (.row 5 [l[k].c.map .v])) (aR g m9 (.row 5 [l[k].c.map .v])) nb t c' l[k] env S1 funcs (hR.over z9) ht aA (hok _ (eF _)) eP hf bGH aA
   rw[aB.aU]at hvk
   refine aG.eH hvk ?_
   rintro r h' ⟨j,S2,t2,c2,rfl,hR2,h1,h2,h3⟩
   obtain⟨g2,rfl,hg2,hR2⟩:=hR2.base (hR.none z9)
   simp -dsimp -implicitDefEqProofs only[go_sem,↓reduceIte,Tryz.f63]
   refine⟨b6,b6,b6,λb ⟨hb9,lR⟩=>?_⟩
   refine⟨(k+1,[j],t2,c2,S2,g2,some b),⟨rfl,by rw[IntWalk.i64_in _ aA];rfl⟩,?_,⟨by omega,by simp only[yZ]at hvl;subst hvl;rfl,aD2 ht0 h1,h2,hnext j S2 t2 c2 h3,hR2,lR⟩,by simp only;omega⟩
   simp only[aL]
   exact(gF (by repeat'(first|exact lW _ _|refine oI (by simp only[gI,↓reduceIte,eq_self,if_true,hb9,hg2,qH,x4]) ?_|refine kD wU ?_)))
  |some m =>
   rw[aT]at hos
   simp -dsimp -implicitDefEqProofs only[go_sem,↓reduceIte,Tryz.f63,aY,aL,hlt,ek,aB.aU]
   intro m9 ⟨h9m,z9⟩
   rw[aJ]
   obtain⟨aQO,aHB,aHC,a84⟩:=c7 (show ¬m9=m from h9m)
   have z9':(aR g m (.row 1 ((vs.map λn=>[I n]).map (List.map .v)))) m9=none:=by rw[aE _ _ _ _ aQO];exact z9
   have hRo:=hR.over (o:=.row 1 ((vs.map λn=>[I n]).map (List.map .v))) hos
   have hvk:=hv _ _ nb t c' l[k] env S1 funcs (hRo.over (o:=.row 5 [l[k].c.map .v]) z9') ht aA (hok _ (eF _)) eP hf bGH aA
   rw[aB.aU]at hvk
   refine aG.eH hvk ?_
   rintro r h' ⟨j,S2,t2,c2,rfl,hR2,h1,h2,h3⟩
   obtain⟨g1,rfl,j9,hR2⟩:=hR2.base (hRo.none z9')
   obtain⟨g2,rfl,hg2,hR2⟩:=hR2.base (hR.none hos)
   rw[aE _ _ _ _ aQO]at j9
   simp -dsimp -implicitDefEqProofs only[go_sem,↓reduceIte,Tryz.f63,aE,aHC,aHB]
   refine⟨b6,b6,b6,j4 _,by omega,by omega,λb ⟨hb9,hbm,lR⟩=>?_⟩
   obtain⟨xQ,l0,lY,xR⟩:=c7 (show ¬b=m from hbm)
   obtain⟨aY8,aG9,aHA,aY9⟩:=c7 (show ¬b=m9 from hb9)
   refine⟨(k+1,vs++[j],t2,c2,S2,g2,some b),⟨by rw[aY,k8];rfl,by rw[IntWalk.i64_in _ aA];rfl⟩,?_,⟨by omega,by rw[k8,hvl];rfl,aD2 ht0 h1,h2,hnext j S2 t2 c2 h3,hR2,lR⟩,by simp only;omega⟩
   simp only[aL]
   rw[←fJ]
   exact(gF (by repeat'(first|exact lW _ _|refine oI (by simp only[gI,↓reduceIte,eq_self,if_true,l0,aG9,lY,aHC,aHA,aHB]) ?_|refine kD wU ?_)))
 ·have hk':k=l.length:=by omega
  subst hk'
  rw[jG]at ho
  cases o with
  |none =>
   rw[bK]at hos
   subst hos
   simp -dsimp -implicitDefEqProofs only[go_sem,↓reduceIte,Tryz.f63,b5,aQ,cV]
   exact⟨ints [],_,Shift.of (Sub.loose _ _ _) (Heap.le_refl _),[],S1,t,c',rfl,hR,hvl,ht0,ht,ho⟩
  |some m =>
   rw[aT]at hos
   simp -dsimp -implicitDefEqProofs only[go_sem,↓reduceIte,Tryz.f63,aY,aL,cV]
   exact⟨ints vs,g,iO vs hos (Heap.le_refl _) rfl,vs,S1,t,c',rfl,hR,hvl,ht0,ht,ho⟩
theorem a0O {p:aF} {inp:Int} {n:Nat} {h0 h:Heap} {nb st:Nat} {c:Int} {e:aB} {env:List Int} {S:cD} (hR:gY h0 nb p inp S st c h) (hst:st<=3000) (hs:¬c=0∨st=3000) :
  fH Tryz.prog 125 [.op nb 8 0 0,.agg e.c,ints env] h (aC7 h0 nb p inp st c (dN p (n+1) st e env S)):=by
 obtain⟨om,og,ov,H⟩:=hR
 have hb:=H.box
 unfold cO at hb
 rw[aB.aU]
 refine gG 190 mO uW uX Tryz.func125 ?_
 simp -dsimp -implicitDefEqProofs only[go_sem,↓reduceIte,Tryz.f125,hb]
 refine⟨λhc=>?_,λhc=>?_⟩
 ·exact⟨_,_,bM _ _,0,S,st,c,rfl,⟨_,_,_,H⟩,j4 _,hst,by rw[pT _ hc];exact jJ _ _ hc⟩
 ·subst hc
  have h3:st=3000:=by rcases hs with hs|hs;exact absurd rfl hs;exact hs
  subst h3
  try simp -dsimp -implicitDefEqProofs only[go_sem,↓reduceIte,Tryz.f125,hb]
  refine⟨λ_=>?_,λq=>absurd q cK⟩
  refine⟨_,_,bM _ _,0,S,3000,7,rfl,⟨_,_,_,H.set 3000 7⟩,j4 _,hst,?_⟩
  rw[cJ,dN,if_pos rfl]
  exact jJ _ _ bU
theorem aUE (l:List Int) (hl:l.length<=1048576):eX Tryz.prog 158 [ints l] (.sl 1 (l.map λn=>[I n]) true):=by
 refine eJ 9 aBF cR cC Tryz.func158 λh=>?_
 simp -dsimp -implicitDefEqProofs only[go_sem,↓reduceIte,Tryz.f158]
 repeat'(with_reducible first|intro _|refine And.intro ?_ ?_)
 all_goals try omega
 rw[kC (by rw[iG];exact j4 _)]
theorem bGI {p:aF} (hp:p.ok) {inp:Int} {n:Nat} (hv:uY p inp n) {h0 h:Heap} {nb st:Nat} {e:aB} {env:List Int} {S:cD} {funcs:Int} (hR:gY h0 nb p inp S st 0 h) (hst:st<3000) (hn:3001<=n+1+st)
  (hok:e.ok p funcs env.length) (eP:0<=funcs) (hf:funcs<=p.aI.length) (hg:Good inp S st) (henv:∀ x∈env,l8 S x) (hel:env.length<=412+st) (hk:e.aN=1) :
  fH Tryz.prog 125 [.op nb 8 0 0,.agg e.c,ints env] h (aC7 h0 nb p inp st 0 (dN p (n+1) st e env S)):=by
 obtain⟨om,og,ov,H⟩:=hR
 rw[aB.aU]
 have hb:=H.box
 unfold cO at hb
 have e3:((st:Int)=3000)=False:=eq_false aA
 have ew:IntKind.i64.wrap ((st:Int)+1)=((st+1:Nat):Int):=by rw[IntWalk.i64_in _ aA];rfl
 have hnode:=(aB.cS _ _ _ _).1 hok
 have h3:¬st=3000:=by omega
 have hcap:=hg.cap
 have hgcap:=hg.vR
 have j9:=hg.later (mZ st)
 have hR1:gY h0 nb p inp S (st+1) 0 (aR h nb (cO p inp S om og ov (st+1) 0)):=⟨_,_,_,H.set (st+1) 0⟩
 refine gG 190 mO uW uX Tryz.func125 ?_
 simp -dsimp -implicitDefEqProofs only[go_sem,↓reduceIte,Tryz.f125,hb,e3,ew,hk]
 refine aG.eH (aHF hR1 ⟨2,0,0,e.aX⟩ e.aX hg.len aA) ?_
 rintro r h' ⟨rfl,hR2⟩
 simp -dsimp -implicitDefEqProofs only[go_sem,↓reduceIte,Tryz.f125]
 refine⟨_,_,bM _ _,_,_,st+1,0,rfl,hR2,mZ _,hst,?_⟩
 rw[cJ,aG4 h3 hk]
 exact j0 _ _
theorem bGJ {p:aF} (hp:p.ok) {inp:Int} {n:Nat} (hv:uY p inp n) {h0 h:Heap} {nb st:Nat} {e:aB} {env:List Int} {S:cD} {funcs:Int} (hR:gY h0 nb p inp S st 0 h) (hst:st<3000) (hn:3001<=n+1+st)
  (hok:e.ok p funcs env.length) (eP:0<=funcs) (hf:funcs<=p.aI.length) (hg:Good inp S st) (henv:∀ x∈env,l8 S x) (hel:env.length<=412+st) (hk:e.aN=2) :
  fH Tryz.prog 125 [.op nb 8 0 0,.agg e.c,ints env] h (aC7 h0 nb p inp st 0 (dN p (n+1) st e env S)):=by
 obtain⟨om,og,ov,H⟩:=hR
 rw[aB.aU]
 have hb:=H.box
 unfold cO at hb
 have e3:((st:Int)=3000)=False:=eq_false aA
 have ew:IntKind.i64.wrap ((st:Int)+1)=((st+1:Nat):Int):=by rw[IntWalk.i64_in _ aA];rfl
 have hnode:=(aB.cS _ _ _ _).1 hok
 have h3:¬st=3000:=by omega
 have hcap:=hg.cap
 have hgcap:=hg.vR
 have j9:=hg.later (mZ st)
 have hR1:gY h0 nb p inp S (st+1) 0 (aR h nb (cO p inp S om og ov (st+1) 0)):=⟨_,_,_,H.set (st+1) 0⟩
 have hnum:=((dI aA).1 hnode.1).2.2.2.2.1 hk
 have hlt:e.aX.toNat<env.length:=by omega
 refine gG 190 mO uW uX Tryz.func125 ?_
 simp -dsimp -implicitDefEqProofs only[go_sem,↓reduceIte,Tryz.f125,hb,e3,ew,hk,dV hlt]
 refine⟨hnum.1,by omega,_,_,bM _ _,_,S,st+1,0,rfl,hR1,mZ _,hst,?_⟩
 rw[cJ,aG5 h3 hk]
 exact j0 _ _
theorem bGK {p:aF} (hp:p.ok) {inp:Int} {n:Nat} (hv:uY p inp n) {h0 h:Heap} {nb st:Nat} {e:aB} {env:List Int} {S:cD} {funcs:Int} (hR:gY h0 nb p inp S st 0 h) (hst:st<3000) (hn:3001<=n+1+st)
  (hok:e.ok p funcs env.length) (eP:0<=funcs) (hf:funcs<=p.aI.length) (hg:Good inp S st) (henv:∀ x∈env,l8 S x) (hel:env.length<=412+st) (hk:e.aN=9) :
  fH Tryz.prog 125 [.op nb 8 0 0,.agg e.c,ints env] h (aC7 h0 nb p inp st 0 (dN p (n+1) st e env S)):=by
 obtain⟨om,og,ov,H⟩:=hR
 rw[aB.aU]
 have hb:=H.box
 unfold cO at hb
 have e3:((st:Int)=3000)=False:=eq_false aA
 have ew:IntKind.i64.wrap ((st:Int)+1)=((st+1:Nat):Int):=by rw[IntWalk.i64_in _ aA];rfl
 have hnode:=(aB.cS _ _ _ _).1 hok
 have h3:¬st=3000:=by omega
 have hcap:=hg.cap
 have hgcap:=hg.vR
 have j9:=hg.later (mZ st)
 have hR1:gY h0 nb p inp S (st+1) 0 (aR h nb (cO p inp S om og ov (st+1) 0)):=⟨_,_,_,H.set (st+1) 0⟩
 have hlen:=dH hok aA
 rw[hk,show dK 9=2 from rfl]at hlen
 have g0:e.aK[Int.toNat 0]?=some (e.lO 0):=aB.fL aA
 have g1:e.aK[Int.toNat 1]?=some (e.lO 1):=aB.fL aA
 have o0:=aB.dW hok (i:=0) aA
 have o1:=aB.dW hok (i:=1) aA
 rw[fR aA]at o0
 rw[hk,show gL 9 1 (env.length:Int)=env.length+1 from rfl]at o1
 refine gG 190 mO uW uX Tryz.func125 ?_
 simp -dsimp -implicitDefEqProofs only[go_sem,↓reduceIte,Tryz.f125,hb,e3,ew,hk,g0,g1,aB.ld5]
 refine⟨by omega,by omega,?_⟩
 first|refine aG.mk (aUE env aA) ?_|refine aD.mk (aUE env aA) ?_|refine aG.bC (aUE env aA) ?_|refine aD.mk (aZ.dB (aUE env aA)) ?_
 simp -dsimp -implicitDefEqProofs only[go_sem,↓reduceIte,Tryz.f125]
 refine aG.eH (hv _ _ nb (st+1) 0 (e.lO 0) env S funcs hR1 aA aA o0 eP hf (λ_=>⟨j9,henv⟩) aA) ?_
 rintro r h' ⟨k1,S1,t1,c1,rfl,hR2,a1,a2,a3⟩
 simp -dsimp -implicitDefEqProofs only[go_sem,↓reduceIte,Tryz.f125]
 refine⟨b6,b6,b6,by omega,by omega,λm hm=>?_⟩
 obtain⟨iA,dF,dG,jI⟩:=c7 (show ¬nb=m from λe=>by obtain⟨_,_,_,H2⟩:=hR2;have:=H2.box;rw[e,hm]at this;cases this)
 have hrow:env.map (λn=>[I n])++[[aC.int .i64 k1]]=(env++[k1]).map λn=>[I n]:=by rw[zG];rfl
 rw[hrow]
 refine aG.aTN iA (by rw[iG,k8];rfl) hm ?_
 refine fH.mono (hv _ _ nb t1 c1 (e.lO 1) (env++[k1]) S1 funcs (hR2.over (o:=.gone) hm) aA aA aAO eP hf (λhc=>?_) aW5) ?_
 ·obtain⟨_,e2⟩:=a3.ok hc
  obtain⟨b1,b2,b3,b4⟩:=pV hp n (st+1) (e.lO 0) env S funcs o0 hf j9 aA henv _ _ e2
  refine⟨b1,λx hx=>?_⟩
  rcases mS.1 hx with hx|hx
  ·exact(henv x hx).ext b2
  ·rw[nQ.1 hx];exact b3
 rintro r h2 ⟨k2,S2,t2,c2,rfl,hR3,b1,b2,b3⟩
 obtain⟨g,rfl,hgm,hR3⟩:=hR3.base (hR2.none hm)
 simp -dsimp -implicitDefEqProofs only[go_sem,↓reduceIte,Tryz.f125]
 refine⟨_,g,bJ (Heap.bA hgm (Heap.le_refl _)),k2,S2,t2,c2,rfl,hR3,by omega,b2,?_⟩
 rw[aG6 h3 hk]
 exact a3.dA b3
theorem bGL {p:aF} (hp:p.ok) {inp:Int} {n:Nat} (hv:uY p inp n) {h0 h:Heap} {nb st:Nat} {e:aB} {env:List Int} {S:cD} {funcs:Int} (hR:gY h0 nb p inp S st 0 h) (hst:st<3000) (hn:3001<=n+1+st)
  (hok:e.ok p funcs env.length) (eP:0<=funcs) (hf:funcs<=p.aI.length) (hg:Good inp S st) (henv:∀ x∈env,l8 S x) (hel:env.length<=412+st) (hk:e.aN=8) :
  fH Tryz.prog 125 [.op nb 8 0 0,.agg e.c,ints env] h (aC7 h0 nb p inp st 0 (dN p (n+1) st e env S)):=by
 obtain⟨om,og,ov,H⟩:=hR
 rw[aB.aU]
 have hb:=H.box
 unfold cO at hb
 have e3:((st:Int)=3000)=False:=eq_false aA
 have ew:IntKind.i64.wrap ((st:Int)+1)=((st+1:Nat):Int):=by rw[IntWalk.i64_in _ aA];rfl
 have hnode:=(aB.cS _ _ _ _).1 hok
 have h3:¬st=3000:=by omega
 have hcap:=hg.cap
 have hgcap:=hg.vR
 have j9:=hg.later (mZ st)
 have hR1:gY h0 nb p inp S (st+1) 0 (aR h nb (cO p inp S om og ov (st+1) 0)):=⟨_,_,_,H.set (st+1) 0⟩
 have hlen:=dH hok aA
 rw[hk,show dK 8=3 from rfl]at hlen
 have g0:e.aK[Int.toNat 0]?=some (e.lO 0):=aB.fL aA
 have g1:e.aK[Int.toNat 1]?=some (e.lO 1):=aB.fL aA
 have g2:e.aK[Int.toNat 2]?=some (e.lO 2):=aB.fL aA
 have o0:=aB.dW hok (i:=0) aA
 have o1:=aB.dW hok (i:=1) aA
 have o2:=aB.dW hok (i:=2) aA
 rw[fR aA]at o0 o1 o2
 refine gG 190 mO uW uX Tryz.func125 ?_
 simp -dsimp -implicitDefEqProofs only[go_sem,↓reduceIte,Tryz.f125,hb,e3,ew,hk,g0,aB.ld5]
 refine⟨by omega,?_⟩
 refine aG.eH (hv _ _ nb (st+1) 0 (e.lO 0) env S funcs hR1 aA aA o0 eP hf (λ_=>⟨j9,henv⟩) aA) ?_
 rintro r h' ⟨k1,S1,t1,c1,rfl,⟨om1,og1,ov1,H1⟩,a1,a2,a3⟩
 have iS:=H1.box
 unfold cO at iS
 simp -dsimp -implicitDefEqProofs only[go_sem,↓reduceIte,Tryz.f125,iS]
 refine⟨λhc=>?_,λhc=>?_⟩
 ·refine⟨_,_,bM _ _,0,S1,t1,c1,rfl,⟨_,_,_,H1⟩,by omega,a2,?_⟩
  rw[vT h3 hk]
  exact a3.dA aAM
 subst hc
 obtain⟨_,e2⟩:=a3.ok rfl
 obtain⟨q1,q2,q3,q4⟩:=pV hp n (st+1) (e.lO 0) env S funcs o0 hf j9 aA henv _ _ e2
 unfold lU at q4
 simp only at q1 q2 q3 q4
 obtain⟨w,rfl,hw,dw⟩:=H1.row q3
 have rk:=aAG q3
 have k0:=q3.1
 have k2:=q3.2
 have lw:=iJ (λn=>[I n]) S1.dZ
 have hgc:=q1.vR
 rw[bD]at iS
 try simp -dsimp -implicitDefEqProofs only[go_sem,↓reduceIte,Tryz.f125,iS,hw,rk,bD]
 refine⟨k0,by omega,?_⟩
 have hgd:=H1.yG
 cases og1 with
 |none =>
  have hg0:S1.guards=[]:=eN.1 hgd
  rw[gJ]
  simp -dsimp -implicitDefEqProofs only[go_sem,↓reduceIte,Tryz.f125,iS]
  refine⟨by decide,by decide,by decide,λb lR=>?_⟩
  obtain⟨gU,cN,cM,iV⟩:=c7 (show ¬b=nb from λe=>by rw[e,iS]at lR;cases lR)
  simp -dsimp -implicitDefEqProofs only[go_sem,↓reduceIte,Tryz.f125,iS,cN,cM,aE,g1,g2,aB.ld5]
  refine⟨λhz=>⟨by omega,?_⟩,λhz=>⟨by omega,?_⟩⟩
  ·rw[decide_eq_true hz]
   obtain⟨g,hgl,hG⟩:=H1.guard ⟨k1,true⟩ lR (F:=aR (aR h' b (.row 2 [[.v (I k1),.v (.bool true)]])) nb (cO p inp (S1.guard ⟨k1,true⟩) om1 (some b) (some w) t1 0)) (aH _ _ _) (by rw[aE _ _ _ _ gU,aH,hg0];rfl) (λn h1 h2 _=>by rw[aE _ _ _ _ h1,aE _ _ _ _ h2])
   unfold cO at hgl
   simp only[cD.guard,hg0,bD,eC,lV]at hgl
   refine aG.wk (Heap.r9 hgl) ?_
   have hgG:=q1.guard (b:=true) q3 aA
   have heG:=q2.trans (S1.oB ⟨k1,true⟩)
   refine aG.eH (hv h0 g nb t1 0 (e.lO 1) env (S1.guard ⟨k1,true⟩) funcs ⟨_,_,_,hG⟩ aA aA o1 eP hf (λ_=>⟨hgG,λx hx=>(henv x hx).ext heG⟩) aA) ?_
   rintro r h2 ⟨k2,S2,t2,c2,rfl,hR3,b1,b2,b3⟩
   simp -dsimp -implicitDefEqProofs only[go_sem,↓reduceIte,Tryz.f125]
   refine⟨_,_,bM _ _,k2,S2,t2,c2,rfl,hR3,by omega,b2,?_⟩
   rw[vT h3 hk]
   refine a3.dA ?_
   rw[if_pos hz]
   exact b3
  ·rw[decide_eq_false hz]
   obtain⟨g,hgl,hG⟩:=H1.guard ⟨k1,false⟩ lR (F:=aR (aR h' b (.row 2 [[.v (I k1),.v (.bool false)]])) nb (cO p inp (S1.guard ⟨k1,false⟩) om1 (some b) (some w) t1 0)) (aH _ _ _) (by rw[aE _ _ _ _ gU,aH,hg0];rfl) (λn h1 h2 _=>by rw[aE _ _ _ _ h1,aE _ _ _ _ h2])
   unfold cO at hgl
   simp only[cD.guard,hg0,bD,eC,lV]at hgl
   refine aG.wk (Heap.r9 hgl) ?_
   have hgG:=q1.guard (b:=false) q3 aA
   have heG:=q2.trans (S1.oB ⟨k1,false⟩)
   refine aG.eH (hv h0 g nb t1 0 (e.lO 2) env (S1.guard ⟨k1,false⟩) funcs ⟨_,_,_,hG⟩ aA aA o2 eP hf (λ_=>⟨hgG,λx hx=>(henv x hx).ext heG⟩) aA) ?_
   rintro r h2 ⟨k2,S2,t2,c2,rfl,hR3,b1,b2,b3⟩
   simp -dsimp -implicitDefEqProofs only[go_sem,↓reduceIte,Tryz.f125]
   refine⟨_,_,bM _ _,k2,S2,t2,c2,rfl,hR3,by omega,b2,?_⟩
   rw[vT h3 hk]
   refine a3.dA ?_
   rw[if_neg hz]
   exact b3
 |some gm =>
  have hgm:=hgd.2
  obtain⟨bJP,a5F,a5G,bJQ⟩:=c7 (show ¬gm=nb from λe=>by rw[e,iS]at hgm;cases hgm)
  rw[bD]
  simp -dsimp -implicitDefEqProofs only[go_sem,↓reduceIte,Tryz.f125,iS,hgm,iJ]
  refine⟨by decide,by decide,by decide,j4 _,by omega,by omega,λb lR=>?_⟩
  obtain⟨gU,cN,cM,iV⟩:=c7 (show ¬b=nb from λe=>by rw[e,iS]at lR;cases lR)
  obtain⟨bL2,bAZ,bA0,bL3⟩:=c7 (show ¬b=gm from λe=>by rw[e,hgm]at lR;cases lR)
  simp -dsimp -implicitDefEqProofs only[go_sem,↓reduceIte,Tryz.f125,iS,cN,bAZ,cM,a5G,bA0,a5F,aE,g1,g2,aB.ld5]
  refine⟨λhz=>⟨by omega,?_⟩,λhz=>⟨by omega,?_⟩⟩
  ·rw[decide_eq_true hz,kC y5]
   obtain⟨g,hgl,hG⟩:=H1.guard ⟨k1,true⟩ lR (F:=aR (aR (aR h' gm .gone) b (.row 2 (rowsOf bL.c S1.guards++[[.v (I k1),.v (.bool true)]]))) nb (cO p inp (S1.guard ⟨k1,true⟩) om1 (some b) (some w) t1 0)) (aH _ _ _) aDC (λn h1 h2 h3=>by rw[aE _ _ _ _ h1,aE _ _ _ _ h2,aE _ _ _ _ (λq=>h3 rO)])
   unfold cO at hgl
   simp only[cD.guard,bD,k8,lV]at hgl
   refine aG.wk (Heap.r9 hgl) ?_
   have hgG:=q1.guard (b:=true) q3 aA
   have heG:=q2.trans (S1.oB ⟨k1,true⟩)
   refine aG.eH (hv h0 g nb t1 0 (e.lO 1) env (S1.guard ⟨k1,true⟩) funcs ⟨_,_,_,hG⟩ aA aA o1 eP hf (λ_=>⟨hgG,λx hx=>(henv x hx).ext heG⟩) aA) ?_
   rintro r h2 ⟨k2,S2,t2,c2,rfl,hR3,b1,b2,b3⟩
   simp -dsimp -implicitDefEqProofs only[go_sem,↓reduceIte,Tryz.f125]
   refine⟨_,_,bM _ _,k2,S2,t2,c2,rfl,hR3,by omega,b2,?_⟩
   rw[vT h3 hk]
   refine a3.dA ?_
   rw[if_pos hz]
   exact b3
  ·rw[decide_eq_false hz,kC y5]
   obtain⟨g,hgl,hG⟩:=H1.guard ⟨k1,false⟩ lR (F:=aR (aR (aR h' gm .gone) b (.row 2 (rowsOf bL.c S1.guards++[[.v (I k1),.v (.bool false)]]))) nb (cO p inp (S1.guard ⟨k1,false⟩) om1 (some b) (some w) t1 0)) (aH _ _ _) aDC (λn h1 h2 h3=>by rw[aE _ _ _ _ h1,aE _ _ _ _ h2,aE _ _ _ _ (λq=>h3 rO)])
   unfold cO at hgl
   simp only[cD.guard,bD,k8,lV]at hgl
   refine aG.wk (Heap.r9 hgl) ?_
   have hgG:=q1.guard (b:=false) q3 aA
   have heG:=q2.trans (S1.oB ⟨k1,false⟩)
   refine aG.eH (hv h0 g nb t1 0 (e.lO 2) env (S1.guard ⟨k1,false⟩) funcs ⟨_,_,_,hG⟩ aA aA o2 eP hf (λ_=>⟨hgG,λx hx=>(henv x hx).ext heG⟩) aA) ?_
   rintro r h2 ⟨k2,S2,t2,c2,rfl,hR3,b1,b2,b3⟩
   simp -dsimp -implicitDefEqProofs only[go_sem,↓reduceIte,Tryz.f125]
   refine⟨_,_,bM _ _,k2,S2,t2,c2,rfl,hR3,by omega,b2,?_⟩
   rw[vT h3 hk]
   refine a3.dA ?_
   rw[if_neg hz]
   exact b3
theorem bGM {p:aF} (hp:p.ok) {inp:Int} {n:Nat} (hv:uY p inp n) {h0 h:Heap} {nb st:Nat} {e:aB} {env:List Int} {S:cD} {funcs:Int} (hR:gY h0 nb p inp S st 0 h) (hst:st<3000) (hn:3001<=n+1+st)
  (hok:e.ok p funcs env.length) (eP:0<=funcs) (hf:funcs<=p.aI.length) (hg:Good inp S st) (henv:∀ x∈env,l8 S x) (hel:env.length<=412+st) (hk:e.aN=3) :
  fH Tryz.prog 125 [.op nb 8 0 0,.agg e.c,ints env] h (aC7 h0 nb p inp st 0 (dN p (n+1) st e env S)):=by
 obtain⟨om,og,ov,H⟩:=hR
 rw[aB.aU]
 have hb:=H.box
 unfold cO at hb
 have e3:((st:Int)=3000)=False:=eq_false aA
 have ew:IntKind.i64.wrap ((st:Int)+1)=((st+1:Nat):Int):=by rw[IntWalk.i64_in _ aA];rfl
 have hnode:=(aB.cS _ _ _ _).1 hok
 have h3:¬st=3000:=by omega
 have hcap:=hg.cap
 have hgcap:=hg.vR
 have j9:=hg.later (mZ st)
 have hR1:gY h0 nb p inp S (st+1) 0 (aR h nb (cO p inp S om og ov (st+1) 0)):=⟨_,_,_,H.set (st+1) 0⟩
 have hlen:=dH hok aA
 rw[hk,show dK 3=2 from rfl]at hlen
 have hkl:e.aK.length<=1048576:=by omega
 refine gG 190 mO uW uX Tryz.func125 ?_
 simp -dsimp -implicitDefEqProofs only[go_sem,↓reduceIte,Tryz.f125,hb,e3,ew,hk]
 refine aG.eH (rI hp hv h0 _ nb (st+1) 0 e.aK env S funcs hR1 aA aA hkl (eA hok aA) eP hf (λ_=>⟨j9,henv⟩) aA) ?_
 rintro r h' ⟨vs,S1,t1,c1,rfl,⟨om1,og1,ov1,H1⟩,hvl,a1,a2,a3⟩
 have iS:=H1.box
 unfold cO at iS
 simp -dsimp -implicitDefEqProofs only[go_sem,↓reduceIte,Tryz.f125,iS]
 refine⟨λhc=>?_,λhc=>?_⟩
 ·refine⟨_,_,bM _ _,0,S1,t1,c1,rfl,⟨_,_,_,H1⟩,by omega,a2,?_⟩
  rw[lQ h3 aA]
  exact a3.dA aAM
 subst hc
 obtain⟨_,e2⟩:=a3.ok rfl
 obtain⟨q1,q2,q3,q4⟩:=mP hp j9 aA henv (eA hok aA) hf _ _ e2
 simp only at q1 q2 q3
 try simp -dsimp -implicitDefEqProofs only[go_sem,↓reduceIte,Tryz.f125,hk]
 refine aG.eH (pA ⟨_,_,_,H1⟩ q1 a2 3 vs bU aA aA q3.2 aA) ?_
 rintro r h2 ⟨k2,S2,c2,rfl,hR3,b3⟩
 simp -dsimp -implicitDefEqProofs only[go_sem,↓reduceIte,Tryz.f125]
 refine⟨_,_,bM _ _,k2,S2,t1,c2,rfl,hR3,by omega,a2,?_⟩
 rw[lQ h3 aA]
 refine a3.dA ?_
 rw[cJ,hk]
 exact b3
theorem bGN {p:aF} (hp:p.ok) {inp:Int} {n:Nat} (hv:uY p inp n) {h0 h:Heap} {nb st:Nat} {e:aB} {env:List Int} {S:cD} {funcs:Int} (hR:gY h0 nb p inp S st 0 h) (hst:st<3000) (hn:3001<=n+1+st)
  (hok:e.ok p funcs env.length) (eP:0<=funcs) (hf:funcs<=p.aI.length) (hg:Good inp S st) (henv:∀ x∈env,l8 S x) (hel:env.length<=412+st) (hk:e.aN=4) :
  fH Tryz.prog 125 [.op nb 8 0 0,.agg e.c,ints env] h (aC7 h0 nb p inp st 0 (dN p (n+1) st e env S)):=by
 obtain⟨om,og,ov,H⟩:=hR
 rw[aB.aU]
 have hb:=H.box
 unfold cO at hb
 have e3:((st:Int)=3000)=False:=eq_false aA
 have ew:IntKind.i64.wrap ((st:Int)+1)=((st+1:Nat):Int):=by rw[IntWalk.i64_in _ aA];rfl
 have hnode:=(aB.cS _ _ _ _).1 hok
 have h3:¬st=3000:=by omega
 have hcap:=hg.cap
 have hgcap:=hg.vR
 have j9:=hg.later (mZ st)
 have hR1:gY h0 nb p inp S (st+1) 0 (aR h nb (cO p inp S om og ov (st+1) 0)):=⟨_,_,_,H.set (st+1) 0⟩
 have hlen:=dH hok aA
 rw[hk,show dK 4=2 from rfl]at hlen
 have hkl:e.aK.length<=1048576:=by omega
 refine gG 190 mO uW uX Tryz.func125 ?_
 simp -dsimp -implicitDefEqProofs only[go_sem,↓reduceIte,Tryz.f125,hb,e3,ew,hk]
 refine aG.eH (rI hp hv h0 _ nb (st+1) 0 e.aK env S funcs hR1 aA aA hkl (eA hok aA) eP hf (λ_=>⟨j9,henv⟩) aA) ?_
 rintro r h' ⟨vs,S1,t1,c1,rfl,⟨om1,og1,ov1,H1⟩,hvl,a1,a2,a3⟩
 have iS:=H1.box
 unfold cO at iS
 simp -dsimp -implicitDefEqProofs only[go_sem,↓reduceIte,Tryz.f125,iS]
 refine⟨λhc=>?_,λhc=>?_⟩
 ·refine⟨_,_,bM _ _,0,S1,t1,c1,rfl,⟨_,_,_,H1⟩,by omega,a2,?_⟩
  rw[lQ h3 aA]
  exact a3.dA aAM
 subst hc
 obtain⟨_,e2⟩:=a3.ok rfl
 obtain⟨q1,q2,q3,q4⟩:=mP hp j9 aA henv (eA hok aA) hf _ _ e2
 simp only at q1 q2 q3
 try simp -dsimp -implicitDefEqProofs only[go_sem,↓reduceIte,Tryz.f125,hk]
 refine aG.eH (pA ⟨_,_,_,H1⟩ q1 a2 4 vs bU aA aA q3.2 aA) ?_
 rintro r h2 ⟨k2,S2,c2,rfl,hR3,b3⟩
 simp -dsimp -implicitDefEqProofs only[go_sem,↓reduceIte,Tryz.f125]
 refine⟨_,_,bM _ _,k2,S2,t1,c2,rfl,hR3,by omega,a2,?_⟩
 rw[lQ h3 aA]
 refine a3.dA ?_
 rw[cJ,hk]
 exact b3
theorem bGO {p:aF} (hp:p.ok) {inp:Int} {n:Nat} (hv:uY p inp n) {h0 h:Heap} {nb st:Nat} {e:aB} {env:List Int} {S:cD} {funcs:Int} (hR:gY h0 nb p inp S st 0 h) (hst:st<3000) (hn:3001<=n+1+st)
  (hok:e.ok p funcs env.length) (eP:0<=funcs) (hf:funcs<=p.aI.length) (hg:Good inp S st) (henv:∀ x∈env,l8 S x) (hel:env.length<=412+st) (hk:e.aN=5) :
  fH Tryz.prog 125 [.op nb 8 0 0,.agg e.c,ints env] h (aC7 h0 nb p inp st 0 (dN p (n+1) st e env S)):=by
 obtain⟨om,og,ov,H⟩:=hR
 rw[aB.aU]
 have hb:=H.box
 unfold cO at hb
 have e3:((st:Int)=3000)=False:=eq_false aA
 have ew:IntKind.i64.wrap ((st:Int)+1)=((st+1:Nat):Int):=by rw[IntWalk.i64_in _ aA];rfl
 have hnode:=(aB.cS _ _ _ _).1 hok
 have h3:¬st=3000:=by omega
 have hcap:=hg.cap
 have hgcap:=hg.vR
 have j9:=hg.later (mZ st)
 have hR1:gY h0 nb p inp S (st+1) 0 (aR h nb (cO p inp S om og ov (st+1) 0)):=⟨_,_,_,H.set (st+1) 0⟩
 have hlen:=dH hok aA
 rw[hk,show dK 5=2 from rfl]at hlen
 have hkl:e.aK.length<=1048576:=by omega
 refine gG 190 mO uW uX Tryz.func125 ?_
 simp -dsimp -implicitDefEqProofs only[go_sem,↓reduceIte,Tryz.f125,hb,e3,ew,hk]
 refine aG.eH (rI hp hv h0 _ nb (st+1) 0 e.aK env S funcs hR1 aA aA hkl (eA hok aA) eP hf (λ_=>⟨j9,henv⟩) aA) ?_
 rintro r h' ⟨vs,S1,t1,c1,rfl,⟨om1,og1,ov1,H1⟩,hvl,a1,a2,a3⟩
 have iS:=H1.box
 unfold cO at iS
 simp -dsimp -implicitDefEqProofs only[go_sem,↓reduceIte,Tryz.f125,iS]
 refine⟨λhc=>?_,λhc=>?_⟩
 ·refine⟨_,_,bM _ _,0,S1,t1,c1,rfl,⟨_,_,_,H1⟩,by omega,a2,?_⟩
  rw[lQ h3 aA]
  exact a3.dA aAM
 subst hc
 obtain⟨_,e2⟩:=a3.ok rfl
 obtain⟨q1,q2,q3,q4⟩:=mP hp j9 aA henv (eA hok aA) hf _ _ e2
 simp only at q1 q2 q3
 try simp -dsimp -implicitDefEqProofs only[go_sem,↓reduceIte,Tryz.f125,hk]
 refine aG.eH (pA ⟨_,_,_,H1⟩ q1 a2 5 vs bU aA aA q3.2 aA) ?_
 rintro r h2 ⟨k2,S2,c2,rfl,hR3,b3⟩
 simp -dsimp -implicitDefEqProofs only[go_sem,↓reduceIte,Tryz.f125]
 refine⟨_,_,bM _ _,k2,S2,t1,c2,rfl,hR3,by omega,a2,?_⟩
 rw[lQ h3 aA]
 refine a3.dA ?_
 rw[cJ,hk]
 exact b3
theorem bGP {p:aF} (hp:p.ok) {inp:Int} {n:Nat} (hv:uY p inp n) {h0 h:Heap} {nb st:Nat} {e:aB} {env:List Int} {S:cD} {funcs:Int} (hR:gY h0 nb p inp S st 0 h) (hst:st<3000) (hn:3001<=n+1+st)
  (hok:e.ok p funcs env.length) (eP:0<=funcs) (hf:funcs<=p.aI.length) (hg:Good inp S st) (henv:∀ x∈env,l8 S x) (hel:env.length<=412+st) (hk:e.aN=6) :
  fH Tryz.prog 125 [.op nb 8 0 0,.agg e.c,ints env] h (aC7 h0 nb p inp st 0 (dN p (n+1) st e env S)):=by
 obtain⟨om,og,ov,H⟩:=hR
 rw[aB.aU]
 have hb:=H.box
 unfold cO at hb
 have e3:((st:Int)=3000)=False:=eq_false aA
 have ew:IntKind.i64.wrap ((st:Int)+1)=((st+1:Nat):Int):=by rw[IntWalk.i64_in _ aA];rfl
 have hnode:=(aB.cS _ _ _ _).1 hok
 have h3:¬st=3000:=by omega
 have hcap:=hg.cap
 have hgcap:=hg.vR
 have j9:=hg.later (mZ st)
 have hR1:gY h0 nb p inp S (st+1) 0 (aR h nb (cO p inp S om og ov (st+1) 0)):=⟨_,_,_,H.set (st+1) 0⟩
 have hlen:=dH hok aA
 rw[hk,show dK 6=2 from rfl]at hlen
 have hkl:e.aK.length<=1048576:=by omega
 refine gG 190 mO uW uX Tryz.func125 ?_
 simp -dsimp -implicitDefEqProofs only[go_sem,↓reduceIte,Tryz.f125,hb,e3,ew,hk]
 refine aG.eH (rI hp hv h0 _ nb (st+1) 0 e.aK env S funcs hR1 aA aA hkl (eA hok aA) eP hf (λ_=>⟨j9,henv⟩) aA) ?_
 rintro r h' ⟨vs,S1,t1,c1,rfl,⟨om1,og1,ov1,H1⟩,hvl,a1,a2,a3⟩
 have iS:=H1.box
 unfold cO at iS
 simp -dsimp -implicitDefEqProofs only[go_sem,↓reduceIte,Tryz.f125,iS]
 refine⟨λhc=>?_,λhc=>?_⟩
 ·refine⟨_,_,bM _ _,0,S1,t1,c1,rfl,⟨_,_,_,H1⟩,by omega,a2,?_⟩
  rw[lQ h3 aA]
  exact a3.dA aAM
 subst hc
 obtain⟨_,e2⟩:=a3.ok rfl
 obtain⟨q1,q2,q3,q4⟩:=mP hp j9 aA henv (eA hok aA) hf _ _ e2
 simp only at q1 q2 q3
 try simp -dsimp -implicitDefEqProofs only[go_sem,↓reduceIte,Tryz.f125,hk]
 refine aG.eH (pA ⟨_,_,_,H1⟩ q1 a2 6 vs bU aA aA q3.2 aA) ?_
 rintro r h2 ⟨k2,S2,c2,rfl,hR3,b3⟩
 simp -dsimp -implicitDefEqProofs only[go_sem,↓reduceIte,Tryz.f125]
 refine⟨_,_,bM _ _,k2,S2,t1,c2,rfl,hR3,by omega,a2,?_⟩
 rw[lQ h3 aA]
 refine a3.dA ?_
 rw[cJ,hk]
 exact b3
theorem bGQ {p:aF} (hp:p.ok) {inp:Int} {n:Nat} (hv:uY p inp n) {h0 h:Heap} {nb st:Nat} {e:aB} {env:List Int} {S:cD} {funcs:Int} (hR:gY h0 nb p inp S st 0 h) (hst:st<3000) (hn:3001<=n+1+st)
  (hok:e.ok p funcs env.length) (eP:0<=funcs) (hf:funcs<=p.aI.length) (hg:Good inp S st) (henv:∀ x∈env,l8 S x) (hel:env.length<=412+st) (hk:e.aN=7) :
  fH Tryz.prog 125 [.op nb 8 0 0,.agg e.c,ints env] h (aC7 h0 nb p inp st 0 (dN p (n+1) st e env S)):=by
 obtain⟨om,og,ov,H⟩:=hR
 rw[aB.aU]
 have hb:=H.box
 unfold cO at hb
 have e3:((st:Int)=3000)=False:=eq_false aA
 have ew:IntKind.i64.wrap ((st:Int)+1)=((st+1:Nat):Int):=by rw[IntWalk.i64_in _ aA];rfl
 have hnode:=(aB.cS _ _ _ _).1 hok
 have h3:¬st=3000:=by omega
 have hcap:=hg.cap
 have hgcap:=hg.vR
 have j9:=hg.later (mZ st)
 have hR1:gY h0 nb p inp S (st+1) 0 (aR h nb (cO p inp S om og ov (st+1) 0)):=⟨_,_,_,H.set (st+1) 0⟩
 have hlen:=dH hok aA
 rw[hk,show dK 7=1 from rfl]at hlen
 have hkl:e.aK.length<=1048576:=by omega
 refine gG 190 mO uW uX Tryz.func125 ?_
 simp -dsimp -implicitDefEqProofs only[go_sem,↓reduceIte,Tryz.f125,hb,e3,ew,hk]
 refine aG.eH (rI hp hv h0 _ nb (st+1) 0 e.aK env S funcs hR1 aA aA hkl (eA hok aA) eP hf (λ_=>⟨j9,henv⟩) aA) ?_
 rintro r h' ⟨vs,S1,t1,c1,rfl,⟨om1,og1,ov1,H1⟩,hvl,a1,a2,a3⟩
 have iS:=H1.box
 unfold cO at iS
 simp -dsimp -implicitDefEqProofs only[go_sem,↓reduceIte,Tryz.f125,iS]
 refine⟨λhc=>?_,λhc=>?_⟩
 ·refine⟨_,_,bM _ _,0,S1,t1,c1,rfl,⟨_,_,_,H1⟩,by omega,a2,?_⟩
  rw[lQ h3 aA]
  exact a3.dA aAM
 subst hc
 obtain⟨_,e2⟩:=a3.ok rfl
 obtain⟨q1,q2,q3,q4⟩:=mP hp j9 aA henv (eA hok aA) hf _ _ e2
 simp only at q1 q2 q3
 try simp -dsimp -implicitDefEqProofs only[go_sem,↓reduceIte,Tryz.f125,hk]
 refine aG.eH (pA ⟨_,_,_,H1⟩ q1 a2 7 vs bU aA aA q3.2 aA) ?_
 rintro r h2 ⟨k2,S2,c2,rfl,hR3,b3⟩
 simp -dsimp -implicitDefEqProofs only[go_sem,↓reduceIte,Tryz.f125]
 refine⟨_,_,bM _ _,k2,S2,t1,c2,rfl,hR3,by omega,a2,?_⟩
 rw[lQ h3 aA]
 refine a3.dA ?_
 rw[cJ,hk]
 exact b3
theorem bA1 {p:aF} (hp:p.ok) {inp:Int} {n:Nat} (hv:uY p inp n) {h0 h:Heap} {nb st:Nat} {e:aB} {env:List Int} {S:cD} {funcs:Int} (hR:gY h0 nb p inp S st 0 h) (hst:st<3000) (hn:3001<=n+1+st)
  (hok:e.ok p funcs env.length) (eP:0<=funcs) (hf:funcs<=p.aI.length) (hg:Good inp S st) (henv:∀ x∈env,l8 S x) (hel:env.length<=412+st) (hk:e.aN=10) :
  fH Tryz.prog 125 [.op nb 8 0 0,.agg e.c,ints env] h (aC7 h0 nb p inp st 0 (dN p (n+1) st e env S)):=by
 obtain⟨om,og,ov,H⟩:=hR
 rw[aB.aU]
 have hb:=H.box
 unfold cO at hb
 have e3:((st:Int)=3000)=False:=eq_false aA
 have ew:IntKind.i64.wrap ((st:Int)+1)=((st+1:Nat):Int):=by rw[IntWalk.i64_in _ aA];rfl
 have hnode:=(aB.cS _ _ _ _).1 hok
 have h3:¬st=3000:=by omega
 have hcap:=hg.cap
 have hgcap:=hg.vR
 have j9:=hg.later (mZ st)
 have hR1:gY h0 nb p inp S (st+1) 0 (aR h nb (cO p inp S om og ov (st+1) 0)):=⟨_,_,_,H.set (st+1) 0⟩
 obtain⟨f,F⟩:=lP hp hok hf (.inl hk)
 have hkl:e.aK.length<=1048576:=by have:=F.kids;have:=F.params;omega
 refine gG 190 mO uW uX Tryz.func125 ?_
 simp -dsimp -implicitDefEqProofs only[go_sem,↓reduceIte,Tryz.f125,hb,e3,ew,hk]
 refine aG.eH (rI hp hv h0 _ nb (st+1) 0 e.aK env S funcs hR1 aA aA hkl (eA hok aA) eP hf (λ_=>⟨j9,henv⟩) aA) ?_
 rintro r h' ⟨vs,S1,t1,c1,rfl,⟨om1,og1,ov1,H1⟩,hvl,a1,a2,a3⟩
 have iS:=H1.box
 unfold cO at iS
 simp -dsimp -implicitDefEqProofs only[go_sem,↓reduceIte,Tryz.f125,iS]
 refine⟨λhc=>?_,λhc=>?_⟩
 ·refine⟨_,_,bM _ _,0,S1,t1,c1,rfl,⟨_,_,_,H1⟩,by omega,a2,?_⟩
  rw[yH h3 hk]
  exact a3.dA aAM
 subst hc
 obtain⟨_,e2⟩:=a3.ok rfl
 obtain⟨q1,q2,q3,q4⟩:=mP hp j9 aA henv (eA hok aA) hf _ _ e2
 simp only at q1 q2 q3
 try simp -dsimp -implicitDefEqProofs only[go_sem,↓reduceIte,Tryz.f125,hk,iS,F.get,F.out,aV.aU,aB.ld5]
 have f1:=F.lo
 have f2:=F.hi
 have f3:=F.pk
 have f4:=F.pk2
 have f5:=F.kids
 have f6:=F.params
 refine⟨f1,f2,f3,by omega,?_⟩
 refine aG.eH (hv h0 _ nb t1 0 (p.out e.aX e.cF) vs S1 e.aX ⟨_,_,_,H1⟩ aA aA aRV f1 aA (λ_=>⟨q1,q3.2⟩) aA) ?_
 rintro r h2 ⟨k2,S2,t2,c2,rfl,hR3,b1,b2,b3⟩
 simp -dsimp -implicitDefEqProofs only[go_sem,↓reduceIte,Tryz.f125]
 refine⟨_,_,bM _ _,k2,S2,t2,c2,rfl,hR3,by omega,b2,?_⟩
 rw[yH h3 hk]
 exact a3.dA b3
theorem bA2 {p:aF} (hp:p.ok) {inp:Int} {n:Nat} (hv:uY p inp n) {h0 h:Heap} {nb st:Nat} {e:aB} {env:List Int} {S:cD} {funcs:Int} (hR:gY h0 nb p inp S st 0 h) (hst:st<3000) (hn:3001<=n+1+st)
  (hok:e.ok p funcs env.length) (eP:0<=funcs) (hf:funcs<=p.aI.length) (hg:Good inp S st) (henv:∀ x∈env,l8 S x) (hel:env.length<=412+st) (hk:e.aN=11) :
  fH Tryz.prog 125 [.op nb 8 0 0,.agg e.c,ints env] h (aC7 h0 nb p inp st 0 (dN p (n+1) st e env S)):=by
 obtain⟨om,og,ov,H⟩:=hR
 rw[aB.aU]
 have hb:=H.box
 unfold cO at hb
 have e3:((st:Int)=3000)=False:=eq_false aA
 have ew:IntKind.i64.wrap ((st:Int)+1)=((st+1:Nat):Int):=by rw[IntWalk.i64_in _ aA];rfl
 have hnode:=(aB.cS _ _ _ _).1 hok
 have h3:¬st=3000:=by omega
 have hcap:=hg.cap
 have hgcap:=hg.vR
 have j9:=hg.later (mZ st)
 have hR1:gY h0 nb p inp S (st+1) 0 (aR h nb (cO p inp S om og ov (st+1) 0)):=⟨_,_,_,H.set (st+1) 0⟩
 obtain⟨f,F⟩:=lP hp hok hf (.inr hk)
 have hkl:e.aK.length<=1048576:=by have:=F.kids;have:=F.params;omega
 have f1:=F.lo
 have f2:=F.hi
 have f3:=F.pk
 have f4:=F.pk2
 have f5:=F.kids
 have f6:=F.params
 have f7:=F.loop hk
 have f8:=F.outs
 refine gG 190 mO uW uX Tryz.func125 ?_
 simp -dsimp -implicitDefEqProofs only[go_sem,↓reduceIte,Tryz.f125,hb,e3,ew,hk]
 refine aG.eH (rI hp hv h0 _ nb (st+1) 0 e.aK env S funcs hR1 aA aA hkl (eA hok aA) eP hf (λ_=>⟨j9,henv⟩) aA) ?_
 rintro r h' ⟨vs,S1,t1,c1,rfl,⟨om1,og1,ov1,H1⟩,hvl,a1,a2,a3⟩
 have iS:=H1.box
 unfold cO at iS
 simp -dsimp -implicitDefEqProofs only[go_sem,↓reduceIte,Tryz.f125,iS]
 refine⟨λhc=>?_,λhc=>?_⟩
 ·refine⟨_,_,bM _ _,0,S1,t1,c1,rfl,⟨_,_,_,H1⟩,by omega,a2,?_⟩
  rw[yI h3 hk]
  exact a3.dA aAM
 subst hc
 obtain⟨_,e2⟩:=a3.ok rfl
 obtain⟨q1,q2,q3,q4⟩:=mP hp j9 aA henv (eA hok aA) hf _ _ e2
 simp only at q1 q2 q3
 try simp -dsimp -implicitDefEqProofs only[go_sem,↓reduceIte,Tryz.f125,hk]
 have hiter:∀ (k:Nat) (us:List Int) (S2:cD) (t:Nat) (c:Int),gZ (pI (λvs t S=>nO (λt e S=>dN p n t e vs S) (p.outs e.aX) t S) k vs t1 S1) (us,S2) t c->k<=e.b7.toNat->(¬c=0∨k=e.b7.toNat)->gZ (mW 0 (dN p (n+1) st e env S)) (us.getD e.cF.toNat 0,S2) t c:=λk us S2 t c ho hk1 hor=>by
  rw[yI h3 hk]
  refine a3.dA ?_
  rw[cJ]
  refine gZ.then (v:=(us,S2)) (t:=t) (c:=c) ?_ (fI _ _ _)
  rcases hor with hc|rfl
  ·have:=ho.err hc
   rw[aVQ _ k hk1 this]
   exact jJ _ _ hc
  ·exact ho
 have hfl:∀ us t S2,Good inp S2 t->(us.length=f.aO.length/\∀ x∈us,l8 S2 x)->t<=3000->qZ (wO inp S2 t f.aO.length) (nO (λt e S=>dN p n t e us S) (p.outs e.aX) t S2):=λus w S2 hg' hv' hw=>by
  rw[F.eq]
  exact mP hp hg' hw hv'.2 (funcs:=e.aX) (λx hx=>by rw[hv'.1,f7.2.2];exact F.oks x hx) aA
 refine dJ mO uW uX (λx:Nat×List Int×Nat×Int×cD×Heap=>[(0,.op nb 8 0 0),(4,.ip 5 [[I 11,I e.aX,I e.cF,I e.b7,eQ 5 aB.c e.aK]] 0 0),(9,ints x.2.1),(10,I x.1)]) (λx=>x.2.2.2.2.2) (λx=>x.1<=e.b7.toNat/\x.2.1.length=f.aO.length/\t1<=x.2.2.1/\x.2.2.1<=3000/\gZ (pI (λvs t S=>nO (λt e S=>dN p n t e vs S) (p.outs e.aX) t S) x.1 vs t1 S1) (x.2.1,x.2.2.2.2.1) x.2.2.1 x.2.2.2.1/\gY h0 nb p inp x.2.2.2.2.1 x.2.2.1 x.2.2.2.1 x.2.2.2.2.2) (λx=>e.b7.toNat-x.1) (0,vs,t1,0,S1,h') ⟨by simp[dM,cE],Heap.le_refl _,gM _,by simp only;omega,j4 _,a2,j0 _ _,⟨_,_,_,H1⟩⟩ ?_
 rintro⟨k,us,t,c,S2,g⟩ ⟨hk1,hul,ht0,ht,ho,⟨om2,og2,ov2,H2⟩⟩
 simp only at hk1 hul ht0 ht ho H2 ⊢
 have lR:=H2.box
 unfold cO at lR
 have gp:us[e.cF.toNat]?=some (us.getD e.cF.toNat 0):=dV aA
 simp -dsimp -implicitDefEqProofs only[go_sem,↓reduceIte,Tryz.f125,lR,F.get,aV.aU,gp]
 refine⟨λhlt=>⟨λhc=>⟨f1,f2,?_⟩,λhc=>?_⟩,λhge=>?_⟩
 ·subst hc
  obtain⟨_,e3⟩:=gZ.ok (c:=0) (by rw[cJ];exact ho) rfl
  obtain⟨w1,w2,w3,w4⟩:=qD hfl k vs t1 S1 q1 ⟨by omega,q3.2⟩ a2 _ _ e3
  simp only at w1 w2 w3
  refine aG.eH (rI hp hv h0 _ nb t 0 f.aO us S2 e.aX ⟨_,_,_,H2⟩ ht aA aA (by rw[hul,f7.2.2];exact F.oks) f1 aA (λ_=>⟨w1,w3.2⟩) aA) ?_
  rintro r h2 ⟨l2,S3,t2,c2,rfl,hR3,hl2,b1,b2,b3⟩
  simp -dsimp -implicitDefEqProofs only[go_sem,↓reduceIte,Tryz.f125]
  refine⟨(k+1,l2,t2,c2,S3,h2),⟨rfl,by rw[IntWalk.i64_in _ aA];rfl⟩,Heap.le_refl _,⟨by omega,hl2,by simp only;omega,b2,?_,hR3⟩,by simp only;omega⟩
  simp only
  rw[zY]
  refine ho.then ?_
  rw[F.eq]
  exact b3
 ·exact⟨f3,by omega,_,_,bM _ _,_,S2,t,c,rfl,⟨_,_,_,H2⟩,by omega,ht,hiter k us S2 t c ho hk1 (.inl hc)⟩
 ·exact⟨f3,by omega,_,_,bM _ _,_,S2,t,c,rfl,⟨_,_,_,H2⟩,by omega,ht,hiter k us S2 t c ho hk1 (.inr aA)⟩
theorem reg {p:aF} (hp:p.ok) {inp:Int}:∀ n,uY p inp n
 |0=>λh0 h nb st c e env S funcs hb hst hn=>by omega
 |n+1=>λh0 h nb st c e env S funcs hb hst hn hok eP hf hgo hel=>by
  have hv:=reg hp (inp:=inp) n
  by_cases hs:¬c=0∨st=3000
  ·exact a0O hb hst hs
  have hc:c=0:=aMF λq=>hs (.inl q)
  have h3:st<3000:=by
   rcases cQ st 3000 with h|h
   ·exact h
   ·exact absurd (.inr aA) hs
  subst hc
  obtain⟨hg,henv⟩:=hgo rfl
  rcases pR ((aB.cS _ _ _ _).1 hok).1 with hk|hk|hk|hk|hk|hk|hk|hk|hk|hk|hk
  ·exact bGI hp hv hb h3 hn hok eP hf hg henv hel hk
  ·exact bGJ hp hv hb h3 hn hok eP hf hg henv hel hk
  ·exact bGM hp hv hb h3 hn hok eP hf hg henv hel hk
  ·exact bGN hp hv hb h3 hn hok eP hf hg henv hel hk
  ·exact bGO hp hv hb h3 hn hok eP hf hg henv hel hk
  ·exact bGP hp hv hb h3 hn hok eP hf hg henv hel hk
  ·exact bGQ hp hv hb h3 hn hok eP hf hg henv hel hk
  ·exact bGL hp hv hb h3 hn hok eP hf hg henv hel hk
  ·exact bGK hp hv hb h3 hn hok eP hf hg henv hel hk
  ·exact bA1 hp hv hb h3 hn hok eP hf hg henv hel hk
  ·exact bA2 hp hv hb h3 hn hok eP hf hg henv hel hk
def mY (p:aF) (f:Int) (args:List Int):cW×Int:=match aIM p f args with
 | .ok ((l,S),_)=>(⟨args.length,S.code,S.guards,l⟩,0)
 | .error c=>(⟨0,[],[],[]⟩,c)
theorem iW.seal {bx:cD->Option Nat->Option Nat->Option Nat->bW} {h0 h F hh:Heap} {nb:Nat} {inp:Int} {S:cD} {om og ov:Option Nat} (H:iW bx h0 nb S om og ov h) (l:List Int) (d:Int)
  (hF:∀ n,some n=om∨some n=og->F n=h n) (hl:hh.le F) (hn:∀ n,some n=om∨some n=og->hh n=none) :
  Shift (.eW [.agg [I inp,gK 4 S.code.length om,gK 2 S.guards.length og,ints l],I d]) F (.eW [.agg [I inp,eQ 4 aP.c S.code,eQ 2 bL.c S.guards,ints l],I d]) hh:=by
 have hc:=H.code
 have hg:=H.yG
 have ap:=H.apart
 cases om with
 |none =>
  have hc0:S.code=[]:=eN.1 hc
  cases og with
  |none =>
   have hg0:S.guards=[]:=eN.1 hg
   rw[hc0,hg0]
   exact Shift.of (Sub.eW (.cons (Sub.agg (.cons (.refl _) (.cons (Sub.nil _ _) (.cons (Sub.nil _ _) (.cons (.refl _) .nil))))) (.cons (.refl _) .nil))) hl
  |some g =>
   have hgF:=(hF g (.inr rfl)).trans hg.2
   rw[hc0]
   refine Shift.trans (Shift.of (Sub.eW (.cons (Sub.agg (.cons (.refl _) (.cons (Sub.nil 4 false) (.cons (.refl _) (.cons (.refl _) .nil))))) (.cons (.refl _) .nil))) (Heap.le_refl F)) ?_
   refine sG (n:=g) (sz:=2) (S.guards.map bL.c) (hn g (.inr rfl)) ?_ aW9 ?_
   ·intro q
    by_cases e:q=g
    ·subst e;right;rw[aH];exact hgF.symm
    ·rw[aE _ _ _ _ e];exact hl q
   ·simp[aC.gP,p5,gK,kC]
 |some m =>
  have hmF:=(hF m (.inl rfl)).trans hc.2
  cases og with
  |none =>
   have hg0:S.guards=[]:=eN.1 hg
   rw[hg0]
   refine Shift.trans (Shift.of (Sub.eW (.cons (Sub.agg (.cons (.refl _) (.cons (.refl _) (.cons (Sub.nil 2 false) (.cons (.refl _) .nil))))) (.cons (.refl _) .nil))) (Heap.le_refl F)) ?_
   refine sG (n:=m) (sz:=4) (S.code.map aP.c) (hn m (.inl rfl)) ?_ aW9 ?_
   ·intro q
    by_cases e:q=m
    ·subst e;right;rw[aH];exact hmF.symm
    ·rw[aE _ _ _ _ e];exact hl q
   ·simp[aC.gP,p5,gK,kC]
  |some g =>
   have hgF:=(hF g (.inr rfl)).trans hg.2
   have hne:¬g=m:=λe=>((ap g).2.1 (by rw[e])).1 rfl
   refine Shift.trans (b:=.eW [.agg [I inp,gK 4 S.code.length (some m),eQ 2 bL.c S.guards,ints l],I d]) (h2:=aR hh m (.row 4 (rowsOf aP.c S.code))) ?_ ?_
   ·refine sG (n:=g) (sz:=2) (S.guards.map bL.c) (by rw[aE _ _ _ _ hne];exact hn g (.inr rfl)) ?_ (by simp[j5,kQ,gK];exact λe=>hne e.symm) ?_
    ·intro q
     by_cases e:q=g
     ·subst e;right;rw[aH];exact hgF.symm
     ·rw[aE _ _ _ _ e]
      by_cases e2:q=m
      ·subst e2;right;rw[aH];exact hmF.symm
      ·rw[aE _ _ _ _ e2];exact hl q
    ·have hne':¬m=g:=λe=>hne e.symm
     simp[aC.gP,p5,gK,kC,hne']
   ·refine sG (n:=m) (sz:=4) (S.code.map aP.c) (hn m (.inl rfl)) (Heap.le_refl _) aW9 ?_
    simp[aC.gP,p5,gK,kC]
theorem iW.keep {h0 h:Heap} {nb:Nat} {bx:cD->Option Nat->Option Nat->Option Nat->bW} {S:cD} {om og ov:Option Nat} (H:iW bx h0 nb S om og ov h) {n:Nat} {o:bW} (hn:h0 n=some o):h n=some o/\¬n=nb/\¬some n=om/\¬some n=og/\¬some n=ov:=by
 have hne:∀ q,¬(q=nb∨some q=om∨some q=og∨some q=ov)∨h0 q=.none:=λq=>by
  by_cases e:q=nb∨some q=om∨some q=og∨some q=ov
  ·exact .inr (H.fresh q e)
  ·exact .inl e
 have h1:¬(n=nb∨some n=om∨some n=og∨some n=ov):=by
  rcases hne n with e|e
  ·exact e
  ·rw[hn]at e;cases e
 have e1:¬n=nb:=λe=>h1 (.inl e)
 have e2:¬some n=om:=λe=>h1 (.inr (.inl e))
 have e3:¬some n=og:=λe=>h1 (.inr (.inr (.inl e)))
 have e4:¬some n=ov:=λe=>h1 (.inr (.inr (.inr e)))
 exact⟨(H.upto n e1 e2 e3 e4).trans hn,e1,e2,e3,e4⟩
theorem iW.le {h0 h:Heap} {nb:Nat} {bx:cD->Option Nat->Option Nat->Option Nat->bW} {S:cD} {om og ov:Option Nat} (H:iW bx h0 nb S om og ov h):h0.le h:=λq=>by
 cases e:h0 q with
 |none=>exact .inl rfl
 |some o=>right;exact(H.keep e).1.symm
theorem aRH {h0:Heap} {nb:Nat} (p:aF) (inp:Int) (hn:h0 nb=none):gY h0 nb p inp ⟨[],[],[]⟩ 0 0 (aR h0 nb (cO p inp ⟨[],[],[]⟩ none none none 0 0)) :=
 ⟨none,none,none,aH _ _ _,aHE _ _ _ _,rfl,rfl,rfl,λn h=>(by rcases h with rfl|h|h|h;exact hn;cases h;cases h;cases h),λn h1 _ _ _=>aE _ _ _ _ h1⟩
def aEC (args:List Int) (k:Nat):cD:=⟨(List.range k).map λi:Nat=>⟨1,0,0,(i:Int)⟩,args.take k,[]⟩
def aL5 (k:Nat):List Int:=(List.range k).map λi:Nat=>(i:Int)
theorem a0Q (args:List Int):aEC args args.length=inS args:=by rw[aEC,jG];rfl
theorem aJW {args:List Int} {k:Nat} (hk:k<args.length):aEC args (k+1)=(aEC args k).put ⟨1,0,0,(k:Int)⟩ args[k]:=by
 rw[aEC,aEC,cD.put,List.range_succ,zG,pD hk];rfl
theorem aWH (k:Nat):aL5 (k+1)=aL5 k++[(k:Int)]:=by rw[aL5,aL5,List.range_succ,zG];rfl
@[go_sem] def a0R:List Nat:=[0,1,2,3,6,7,8,9,10,11,12,28,30,44,45,46,47,77]
@[go_sem] def bGR:List Nat:=[3,43,57]
@[go_sem] def bGS:Marks:=λid=>match id with|6=>([9],(.op 0 (.op 1 (.op 2 (.op 3 (.op 4 (.op 5 (.op 6 (.op 7 (.op 8 (.op 9 (.op 10 .nil))))))))))),[])|15=>([4,5],(.op 0 (.op 1 (.op 2 (.op 3 (.op 4 (.op 5 (.op 6 .nil))))))),[(4,5)])|_=>([],.nil,[])
theorem bA3 {p:aF} (hp:p.ok) (hps:p.s<=4194304) (f:Int) (hf:0<=f/\f<p.aI.length) (args:List Int) (ha:gE args) (bL4:args.length<=12) (hl:∀ F,p.aI[f.toNat]?=some F->(args.length:Int)=F.bB) :
  eX Tryz.prog 22 [.agg p.c,I f,ints args] (.eW [.agg (mY p f args).1.c,I (mY p f args).2]):=by
 have hif:=aY0 p f hps
 obtain⟨F,ef,hF1,hF2,hF3,hF4⟩:=rG hp hf
 have hla:=hl F ef
 rw[if_pos hp,if_pos aA]at hif
 simp only[aF.aU]at hif ⊢
 have han:=pP args F.bB
 rw[decide_eq_true (show(args.length:Int)=F.bB/\gE args from⟨hla,ha⟩)]at han
 refine aBA 87 a0R bGR bGS Tryz.func22 λh=>?_
 simp -dsimp -implicitDefEqProofs only[go_sem,↓reduceIte,Tryz.f22,ef,aV.aU]
 intro n6 z6
 try simp -dsimp -implicitDefEqProofs only[go_sem,↓reduceIte,Tryz.f22,ef,aV.aU]
 first|refine aG.mk (hif) ?_|refine aD.mk (hif) ?_|refine aG.bC (hif) ?_|refine aD.mk (aZ.dB (hif)) ?_
 simp -dsimp -implicitDefEqProofs only[go_sem,↓reduceIte,Tryz.f22,ef,aV.aU]
 refine⟨hf.1,hf.2,?_⟩
 first|refine aG.mk (han) ?_|refine aD.mk (han) ?_|refine aG.bC (han) ?_|refine aD.mk (aZ.dB (han)) ?_
 simp -dsimp -implicitDefEqProofs only[go_sem,↓reduceIte,Tryz.f22,ef,aV.aU]
 refine⟨hf.1,hf.2,λnb ⟨hb6,zb⟩=>⟨b6,λ_=>?_⟩⟩
 obtain⟨a5H,aUF,aUG,bJR⟩:=c7 (show ¬nb=n6 from hb6)
 generalize hh6:aR h n6 (.row 4 [[.v (.int .i64 0),.v .aW,.v .aW,.v .aW]])=h6
 have zb6:h6 nb=none:=by rw[←hh6,aE _ _ _ _ a5H];exact zb
 have hin:=aRH (h0:=h6) p F.bB zb6
 refine dJ a0R bGR bGS (λx:Nat×Heap×Option Nat=>[(1,I f),(3,.ip 1 [[eQ 3 aV.c p.aI]] 0 0),(6,.op n6 4 0 0),(9,.op nb 8 0 0),(10,iH 1 x.1 x.2.2),(44,ints args),(45,I args.length),(46,I x.1)]) (λx=>c8 x.2.1 (.row 1 (((aL5 x.1).map λn=>[I n]).map (List.map .v))) x.2.2) (λx=>x.1<=args.length/\gY h6 nb p F.bB (aEC args x.1) 0 0 x.2.1/\fM x.2.1 (aL5 x.1) x.2.2) (λx=>args.length-x.1) (0,aR h6 nb (cO p F.bB ⟨[],[],[]⟩ none none none 0 0),none) ⟨by simp[dM,cE,iH],Heap.le_refl _,gM _,hin,rfl⟩ ?_
 rintro⟨k,g,o⟩ ⟨hk,hR,hos⟩
 simp only at hk hR hos ⊢
 have hel:(aL5 k).length=k:=by simp[aL5]
 rcases cQ k args.length with hlt|hge
 ·have ek:args[k]?=some args[k]:=cP hlt
  have hsl:(aEC args k).code.length=(aEC args k).dZ.length:=by simp[aEC];omega
  have hvl:(aEC args k).dZ.length=k:=by simp[aEC];omega
  have hy:=aWH k
  cases o with
  |none =>
   rw[bK]at hos
   have k0:k=0:=by rw[←hel,hos];rfl
   subst k0
   simp -dsimp -implicitDefEqProofs only[go_sem,↓reduceIte,Tryz.f22,b5,aQ,hlt,ek]
   refine aG.eH (aHF hR ⟨1,0,0,((0:Nat):Int)⟩ args[0] hsl aA) ?_
   rintro r h' ⟨rfl,hR2⟩
   simp -dsimp -implicitDefEqProofs only[go_sem,↓reduceIte,Tryz.f22]
   refine⟨b6,b6,b6,λb lR=>⟨(1,h',some b),⟨rfl,by rw[IntWalk.i64_in _ aA];rfl⟩,?_,⟨hlt,by rw[aJW hlt];exact hR2,lR⟩,by simp only;omega⟩⟩
   rw[hvl]
   exact Heap.le_refl _
  |some m =>
   rw[aT]at hos
   simp -dsimp -implicitDefEqProofs only[go_sem,↓reduceIte,Tryz.f22,aY,aL,hlt,ek]
   refine aG.eH (aHF (hR.over hos) ⟨1,0,0,(k:Int)⟩ args[k] hsl aA) ?_
   rintro r h' ⟨rfl,hR2⟩
   obtain⟨g2,rfl,hg2,hR2⟩:=hR2.base (hR.none hos)
   simp -dsimp -implicitDefEqProofs only[go_sem,↓reduceIte,Tryz.f22]
   refine⟨b6,b6,b6,Nat.le_of_eq hel.symm,by omega,by omega,λb ⟨hbm,lR⟩=>⟨(k+1,g2,some b),⟨rfl,by rw[IntWalk.i64_in _ aA];rfl⟩,?_,⟨hlt,by rw[aJW hlt];exact hR2,lR⟩,by simp only;omega⟩⟩
   simp only[aL]
   rw[hvl,hy,←fJ (λn=>I n),hel]
   exact mU hg2
 ·have hk':k=args.length:=by omega
  subst hk'
  rw[a0Q]at hR
  have hg0:=aBY args ha bL4
  rw[hla]at hg0
  have hie:aL5 args.length=yY args:=rfl
  have hall:∀ {h0 g:Heap},gY h0 nb p F.bB (inS args) 0 0 g->fH Tryz.prog 63 [.op nb 8 0 0,eQ 5 aB.c F.aO,ints (yY args)] g (a7B h0 nb p F.bB 0 0 F.aO.length (nO (λt e S=>dN p 3001 t e (yY args) S) F.aO 0 (inS args))):=λhR =>
   rI hp (reg hp 3001) _ _ nb 0 0 F.aO (yY args) (inS args) f hR aA aA aA (λx hx=>by rw[←hie,hel,hla];exact hF4 x hx) hf.1 aA (λ_=>⟨hg0,aLJ args⟩) (by rw[←hie,hel];omega)
  cases o with
  |none =>
   rw[bK,hie]at hos
   simp -dsimp -implicitDefEqProofs only[go_sem,↓reduceIte,Tryz.f22,b5,aQ,cV,fW,ef,aV.aU]
   refine⟨hf.1,hf.2,aG.eH (fH.sub (.cons (.refl _) (.cons (.refl _) (.cons (by rw[hos];exact Sub.loose _ _ _) .nil))) (hall hR)) ?_⟩
   rintro r h2 ⟨l,S2,t2,c2,rfl,⟨om,og,ov,H2⟩,hll,a1,a2,a3⟩
   have lR:=H2.box
   unfold cO at lR
   have hz:=H2.keep (n:=n6) (by rw[←hh6,aH])
   have hz1:=hz.1
   simp -dsimp -implicitDefEqProofs only[go_sem,↓reduceIte,Tryz.f22,lR,hz1,aUF,aUG,aE]
   generalize hE:h2=h2H at *
   have hle:h.le h2H:=by
    have h1:=H2.le
    rw[←hh6]at h1
    intro q
    by_cases e:q=n6
    ·subst e;exact .inl z6
    ·have:=h1 q
     rwa [aE _ _ _ _ e]at this
   have hfr:∀ n,some n=om∨some n=og->h n=none/\¬n=n6/\¬n=nb:=λn hn=>by
    have h1:=H2.fresh n a5O
    have h3:¬n=n6:=λe=>by rw[←hh6,e,aH]at h1;cases h1
    refine⟨by rwa [←hh6,aE _ _ _ _ h3]at h1,h3,λe=>?_⟩
    rcases hn with hn|hn
    ·exact((H2.apart n).1 e).1 hn
    ·exact((H2.apart n).1 e).2.1 hn
   refine⟨λhc=>?_,λhc=>⟨by rw[mB,mB];rfl,?_⟩⟩
   ·have e2:mY p f args=(⟨0,[],[],[]⟩,c2):=by
     rw[cJ]at a3
     rw[mY,aIM,hF3,a3.err hc]
    rw[e2]
    exact Shift.of (Sub.eW (.cons (Sub.agg (.cons (.refl _) (.cons (Sub.nil 4 false) (.cons (Sub.nil 2 false) (.cons (Sub.nil 1 false) .nil))))) (.cons (.refl _) .nil))) (Heap.bA z6 (Heap.bA zb (hle)))
   ·obtain⟨_,e1⟩:=a3.ok hc
    have e2:mY p f args=(⟨args.length,S2.code,S2.guards,l⟩,0):=by
     rw[mY,aIM,hF3,e1]
    rw[e2,cW.aU,hla]
    refine H2.seal l 0 (λn hn=>?_) (Heap.bA z6 (Heap.bA zb (hle))) (λn hn=>(hfr n hn).1)
    obtain⟨v1,v2,v3⟩:=hfr n hn
    rw[aE _ _ _ _ v2,aE _ _ _ _ v3]
  |some m =>
   rw[aT]at hos
   simp -dsimp -implicitDefEqProofs only[go_sem,↓reduceIte,Tryz.f22,aY,aL,cV,fW,ef,aV.aU]
   obtain⟨iA,dF,dG,jI⟩:=c7 (show ¬nb=m from λe=>by obtain⟨_,_,_,H1⟩:=hR;have:=H1.box;rw[e,hos]at this;cases this)
   refine⟨hf.1,hf.2,aG.aZB rfl rfl iA (by rw[iG];exact hel.symm) hos ?_⟩
   refine fH.mono (hall (hR.over (o:=.gone) hos)) ?_
   rintro r h2 ⟨l,S2,t2,c2,rfl,hR2,hll,a1,a2,a3⟩
   obtain⟨g3,rfl,hg3,⟨om,og,ov,H2⟩⟩:=hR2.base (hR.none hos)
   have lR:=H2.box
   unfold cO at lR
   have hz:=H2.keep (n:=n6) (by rw[←hh6,aH])
   have hz1:=hz.1
   obtain⟨bA4,bA5,bA6,bL6⟩:=c7 (show ¬n6=m from λe=>by rw[e,hg3]at hz1;cases hz1)
   simp -dsimp -implicitDefEqProofs only[go_sem,↓reduceIte,Tryz.f22,lR,hz1,aUF,dF,aUG,bA5,dG,bA6,aE]
   have hgo:∀ n,some n=om∨some n=og->¬n=m:=λn hn e=>by
    have:=(H2.apart n).2.2.2 (by rw[e];exact hg3)
    rcases hn with hn|hn
    ·exact this.2.1 hn
    ·exact this.2.2.1 hn
   have hhm:h m=none:=by
    have h1:=hR.none hos
    rw[←hh6,aE _ _ _ _ (λe=>bA4 e.symm)]at h1
    exact h1
   generalize hE:g3=h2H at *
   have hle:h.le h2H:=by
    have h1:=H2.le
    rw[←hh6]at h1
    intro q
    by_cases e:q=n6
    ·subst e;exact .inl z6
    ·have:=h1 q
     rwa [aE _ _ _ _ e]at this
   have hfr:∀ n,some n=om∨some n=og->h n=none/\¬n=n6/\¬n=nb:=λn hn=>by
    have h1:=H2.fresh n a5O
    have h3:¬n=n6:=λe=>by rw[←hh6,e,aH]at h1;cases h1
    refine⟨by rwa [←hh6,aE _ _ _ _ h3]at h1,h3,λe=>?_⟩
    rcases hn with hn|hn
    ·exact((H2.apart n).1 e).1 hn
    ·exact((H2.apart n).1 e).2.1 hn
   refine⟨λhc=>?_,λhc=>⟨by rw[mB,mB];rfl,?_⟩⟩
   ·have e2:mY p f args=(⟨0,[],[],[]⟩,c2):=by
     rw[cJ]at a3
     rw[mY,aIM,hF3,a3.err hc]
    rw[e2]
    exact Shift.of (Sub.eW (.cons (Sub.agg (.cons (.refl _) (.cons (Sub.nil 4 false) (.cons (Sub.nil 2 false) (.cons (Sub.nil 1 false) .nil))))) (.cons (.refl _) .nil))) (Heap.bA z6 (Heap.bA zb (Heap.bA hhm hle)))
   ·obtain⟨_,e1⟩:=a3.ok hc
    have e2:mY p f args=(⟨args.length,S2.code,S2.guards,l⟩,0):=by
     rw[mY,aIM,hF3,e1]
    rw[e2,cW.aU,hla]
    refine H2.seal l 0 (λn hn=>?_) (Heap.bA z6 (Heap.bA zb (Heap.bA hhm hle))) (λn hn=>(hfr n hn).1)
    obtain⟨v1,v2,v3⟩:=hfr n hn
    rw[aE _ _ _ _ v2,aE _ _ _ _ v3,aE _ _ _ _ (hgo n hn)]
end Go.Hl

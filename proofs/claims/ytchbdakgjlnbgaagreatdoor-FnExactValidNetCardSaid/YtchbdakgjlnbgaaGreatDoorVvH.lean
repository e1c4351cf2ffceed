/-
  Contracts of functions and laws of the layer over the walk.
-/
import Derived.Test.YtchbdakgjlnbgaaGreatDoorVvG
import Derived.Test.YtchbdakgjlnbgaaGreatDoorVvD
import Derived.Test.YtchbdakgjlnbgaaGreatDoorVvA
import Derived.Test.YtchbdakgjlnbgaaGreatDoorVvC
import Derived.Test.YtchbdakgjlnbgaaGreatDoorVvB
namespace Go.Hl
set_option maxRecDepth 100000
open Go.Proofs
set_option linter.unusedVariables false
set_option linter.unusedSimpArgs false
@[go_sem] def bBY:List Nat:=[0,1,4,5,11,18,35,43]
set_option maxHeartbeats 2000000 in
theorem bN0 (s:aI) (pt:List Int) (h0 g:Heap) (nb:Nat) (e:List OV) (oe:s.o e) (hnb:g nb=none) (wn:eW h0 (OV.cQ e) g) (hs:s.s<=1048576) (hp0:pt.length<=1048576) (hy:s.ok) :
  gK Tryz.prog 162 [.op nb 9 0 0,cI 1 (λn=>[I n]) pt] (bT g nb (.row 9 (OV.cells [e]))) (aL1 h0 nb 9 (bRK s pt)):=by
 have hs':=s.fQ
 have rO:=s.bA.fQ
 simp only[fF]at hs' rO
 have bN1:=aI.yN hy
 have l1:=hy.2.1
 have hvw:=View.box (sz:=9) (aI.u7 oe) hnb wn.oJ
 have hpo:=aRL s.bA pt
 refine aTZ 53 bBY cG b9 Tryz.func162 ?_
 simp -dsimp -implicitDefEqProofs only[go_sem,↓reduceIte,Tryz.f162]
 refine aH.aJ3 hpo (dU.cons (hvw.sub (Sub.cK rfl rfl rfl)) (dU.cons (View.same _ _) dU.nil)) rfl ?_
 simp -dsimp -implicitDefEqProofs only[go_sem,↓reduceIte,Tryz.f162]
 refine⟨λhp=>⟨_,Heap.le_refl _,_,g,.inl ⟨by simpa[aDU]using hp,rfl⟩,rfl,hnb,wn⟩,λhp=>?_⟩
 have hp':aDU s pt:=by simpa[aDU]using hp
 refine cY bBY cG b9 (λx:Nat×List OV×Heap=>[(0,.op nb 9 0 0),(1,cI 1 (λn=>[I n]) pt),(5,I x.1)]) (λx=>bT x.2.2 nb (.row 9 (OV.cells [x.2.1]))) (λx=>x.1<=s.aP.length/\(∀ i,i<x.1->¬aDS (jU s pt) s i)/\(lI (jU s pt) s x.1).o x.2.1/\x.2.2 nb=none/\eW h0 (OV.cQ x.2.1) x.2.2) (λx=>s.aP.length-x.1) (0,e,g) ⟨by simp[dT,dB],Heap.le_refl _,iZ _,λi q=>absurd q (aZV i),oe,hnb,wn⟩ ?_
 clear oe hnb wn hvw
 rintro⟨k,e,g⟩ ⟨hk,hns,oe,hnb,wn⟩
 simp only at hk hns oe hnb wn ⊢
 have hJ:=yQ (jU s pt) s k
 have hL:=aMR (jU s pt) s k
 have hT:=zQ (jU s pt) s k k (fL _)
 have hS:=aDT (jU s pt) s bN1 k hns
 have hN:=aSP (st:=jU s pt) s k
 have hY:=aSQ (st:=jU s pt) s k
 generalize hm:lI (jU s pt) s k=m at *
 have vV:=oe
 obtain⟨fH,fV,gC,rA,s6,rC,tS,rfl,eM,eU,eJ,eH,eS,eN,eO⟩:=vV
 rcases cP k s.aP.length with hlt|hge
 ·have ks:k<m.aP.length:=by omega
  have kn:k<m.bM.length:=by omega
  rcases eH.zX with⟨rfl,h5⟩|⟨n5,rfl⟩
  ·rw[h5]at ks;simp at ks
  rcases eS.zX with⟨rfl,h6⟩|⟨n6,rfl⟩
  ·rw[h6]at kn;simp at kn
  have g5:=wn.aHM [fH,.v (.int .i64 m.bA.b5),.v (.int .i64 m.bA.aU),fV,gC] (c:=I)
  have g6:=wn.aHM ([fH,.v (.int .i64 m.bA.b5),.v (.int .i64 m.bA.aU),fV,gC]++[OV.sl n5 1 (m.aP.map λx=>[.v (I x)])]) (c:=.bool)
  obtain⟨aO5,pU,pT,aJF⟩:=cE (show ¬n5=nb from eK g5 hnb)
  obtain⟨aGB,kS,kR,uU⟩:=cE (show ¬n6=nb from eK g6 hnb)
  have hv5:=OV.jX I n5 1 m.aP
  have hv6:=OV.jX aC.bool n6 1 m.bM
  have gs:m.aP[k]?=some m.aP[k]:=b6 ks
  have gk:m.bM[k]?=some m.bM[k]:=b6 kn
  have hvw:=View.box (sz:=9) (aI.u7 oe) hnb wn.oJ
  have hkt:k<s.bA.aQ.length:=by omega
  have hstl:dQ Tryz.prog 197 [.ip 5 [m.bA.c] 0 0,I k,cI 1 (λn=>[I n]) pt] (.bool (decide (aYT s.bA k pt))):=by rw[hJ];exact bIS hy.1 hkt pt hp'.1
  have hR:([[.v fH.val,.v (I m.bA.b5),.v (I m.bA.aU),.v fV.val,.v gC.val,.v (.os n5 1 0 m.aP.length),.v (.os n6 1 0 m.bM.length),.v rC.val,.v tS.val]]:List (List Cell))=OV.cells [[fH,.v (I m.bA.b5),.v (I m.bA.aU),fV,gC,OV.sl n5 1 (m.aP.map λx=>[.v (I x)]),OV.sl n6 1 (m.bM.map λx=>[.v (.bool x)]),rC,tS]]:=by simp only[cV,bO,bY,OV.bE,hv5,hv6]
  have hsk:m.aP[k]?=some s.aP[k]:=hT.1.trans (b6 hlt)
  have hs5:m.aP[k]=s.aP[k]:=dY (gs.symm.trans hsk)
  have hb5:=hS _ (dG ks)
  have hkk:s.bM[k]?=some m.bM[k]:=hT.2.symm.trans gk
  have nst:50<=m.aP[k]->¬jU s pt k->xO s pt:=λh1 h2=>⟨k,hlt,h2,by rw[←hT.1,gs];congr 1;omega⟩
  have nns:¬50<=m.aP[k]->¬aDS (jU s pt) s k:=λh1 q=>by
   have:=q.2
   rw[←hT.1,gs]at this
   have:=dY this
   omega
  have bBZ:50<=m.aP[k]->¬jU s pt k->∃ g_1:Heap,g_1.le (bT g nb (.row 9 (OV.cells [[fH,.v (I m.bA.b5),.v (I m.bA.aU),fV,gC,OV.sl n5 1 (m.aP.map λx=>[.v (I x)]),OV.sl n6 1 (m.bM.map λx=>[.v (.bool x)]),rC,tS]])))/\aL1 h0 nb 9 (bRK s pt) (I 3) g_1:=λh1 h2=>⟨_,Heap.le_refl _,_,g,.inr (.inl ⟨hp',nst h1 h2,rfl⟩),rfl,hnb,wn⟩
  have hfg:=λ(h1:¬jU s pt k)=>aVI m k h0 g nb _ oe hnb wn (by rw[hJ];omega) (by rw[hJ];exact⟨by omega,by omega⟩) hS
  simp -dsimp -implicitDefEqProofs only[go_sem,↓reduceIte,Tryz.f162,OV.aR,OV.aG,OV.bE,aF,aD,eM.flat,eM.one,eU.flat,eU.one,eJ.flat,eJ.one,eH.flat,eH.one,eS.flat,eS.one,eN.flat,eN.one,eO.flat,eO.one,pT,pU,kR,kS,cV,bO,bY,gs,gk,hv5,hv6,g5,g6,Int.ofNat_lt,hlt]
  rw[hR]
  refine λ_=>⟨λ_=>⟨kn,λhk1=>?_,λhk0=>?_⟩,λq=>?_⟩
  ·refine aH.aJ3 hstl (dU.cons (hvw.sub (Sub.cK rfl rfl rfl)) (dU.cons (View.same _ _) (dU.cons (View.same _ _) dU.nil))) rfl ?_
   simp -dsimp -implicitDefEqProofs only[go_sem,↓reduceIte,Tryz.f162,OV.aR,OV.aG,OV.bE,aF,aD,eM.flat,eM.one,eU.flat,eU.one,eJ.flat,eJ.one,eH.flat,eH.one,eS.flat,eS.one,eN.flat,eN.one,eO.flat,eO.one,pT,pU,kR,kS,cV,bO,bY,gs,gk,hv5,hv6,g5,g6,Int.ofNat_lt,hlt]
   rw[hR]
   refine⟨λhu=>?_,λhu=>?_⟩
   ·have hst:jU s pt k:=⟨hkk.trans (by rw[hk1]),hu⟩
    exact⟨(k+1,_,g),IntWalk.i64_in _ aA,Heap.le_refl _,⟨hlt,pG hns λq=>q.1 hst,hY hst▸oe,hnb,wn⟩,by simp only;omega⟩
   ·have aMT:¬jU s pt k:=λq=>hu q.2
    refine⟨ks,λh50=>bBZ h50 aMT,λh50=>?_⟩
    refine aH.kF (hfg aMT) ?_
    clear hfg bBZ oe wn hvw hR eM eU eJ eN eO hv5 hv6 g5 g6
    rintro r h' ⟨e2,g2,oe2,rfl,aKP,oX⟩
    simp -dsimp -implicitDefEqProofs only[go_sem,↓reduceIte,Tryz.f162,OV.aR,OV.aG,OV.bE,aF,aD]
    exact⟨(k+1,e2,g2),IntWalk.i64_in _ aA,Heap.le_refl _,⟨hlt,pG hns (nns h50),hN aMT▸oe2,aKP,oX⟩,by simp only;omega⟩
  ·have aMT:¬jU s pt k:=λq=>by have:=q.1;rw[hkk]at this;have:=dY this;simp_all
   refine⟨ks,λh50=>bBZ h50 aMT,λh50=>?_⟩
   refine aH.kF (hfg aMT) ?_
   clear hfg bBZ oe wn hvw hR eM eU eJ eN eO hv5 hv6 g5 g6
   rintro r h' ⟨e2,g2,oe2,rfl,aKP,oX⟩
   simp -dsimp -implicitDefEqProofs only[go_sem,↓reduceIte,Tryz.f162,OV.aR,OV.aG,OV.bE,aF,aD]
   exact⟨(k+1,e2,g2),IntWalk.i64_in _ aA,Heap.le_refl _,⟨hlt,pG hns (nns h50),hN aMT▸oe2,aKP,oX⟩,by simp only;omega⟩
  ·omega
 ·have hk':k=s.aP.length:=by omega
  have hstuck:¬xO s pt:=λ⟨i,h1,h2⟩=>hns i aA h2
  have hmv:aBF s pt=vK m pt:=by rw[aBF,←hk',hm]
  have hml:m.aP.length=k:=by omega
  rcases eH.zX with⟨rfl,h5⟩|⟨n5,rfl⟩
  ·simp -dsimp -implicitDefEqProofs only[go_sem,↓reduceIte,Tryz.f162,OV.aR,OV.aG,OV.bE,aF,aD,eM.flat,eM.one,eU.flat,eU.one,eJ.flat,eJ.one,eH.flat,eH.one,eS.flat,eS.one,eN.flat,eN.one,eO.flat,eO.one,cV,bO,bY,OV.r7,aZV,false_imp_iff,true_and]
   refine aH.wn1 (lN pt hp0) hnb ?_
   rintro r_ l_ g3 ⟨yn,oyn,rfl,rfl⟩ wp bH1
   simp -dsimp -implicitDefEqProofs only[go_sem,↓reduceIte,Tryz.f162,OV.aR,OV.aG,OV.bE,aF,aD,eM.flat,eM.one,eU.flat,eU.one,eJ.flat,eJ.one,eH.flat,eH.one,eS.flat,eS.one,eN.flat,eN.one,eO.flat,eO.one,cV,bO,bY,oyn.flat,oyn.one]
   obtain⟨g4,a2A,wn4⟩:=wn.bIU [fH,.v (I m.bA.b5),.v (I m.bA.aU)] (y':=yn) wp
   refine⟨_,Heap.cD a2A,[fH,.v (I m.bA.b5),.v (I m.bA.aU),yn,gC,.nil 1,s6,rC,tS],g4,.inr (.inr ⟨hp',hstuck,rfl,?_⟩),?_,Heap.le_none a2A bH1,wn4⟩
   ·rw[hmv]
    exact⟨fH,yn,gC,_,s6,rC,tS,rfl,eM,oyn,eJ,eH,eS,eN,eO⟩
   ·simp only[cV,bO,bY,OV.bE,OV.r7]
  ·have hv5:=OV.jX I n5 1 m.aP
   simp -dsimp -implicitDefEqProofs only[go_sem,↓reduceIte,Tryz.f162,OV.aR,OV.aG,OV.bE,aF,aD,eM.flat,eM.one,eU.flat,eU.one,eJ.flat,eJ.one,eH.flat,eH.one,eS.flat,eS.one,eN.flat,eN.one,eO.flat,eO.one,cV,bO,bY,hv5,hml,cN,false_imp_iff,true_and]
   intro _
   refine aH.wn1 (lN pt hp0) hnb ?_
   rintro r_ l_ g3 ⟨yn,oyn,rfl,rfl⟩ wp bH1
   simp -dsimp -implicitDefEqProofs only[go_sem,↓reduceIte,Tryz.f162,OV.aR,OV.aG,OV.bE,aF,aD,eM.flat,eM.one,eU.flat,eU.one,eJ.flat,eJ.one,eH.flat,eH.one,eS.flat,eS.one,eN.flat,eN.one,eO.flat,eO.one,cV,bO,bY,oyn.flat,oyn.one]
   obtain⟨g4,a2A,wn4⟩:=wn.bIU [fH,.v (I m.bA.b5),.v (I m.bA.aU)] (y':=yn) wp
   refine⟨_,Heap.cD a2A,[fH,.v (I m.bA.b5),.v (I m.bA.aU),yn,gC,OV.sl n5 1 (m.aP.map λx=>[.v (I x)]),s6,rC,tS],g4,.inr (.inr ⟨hp',hstuck,rfl,?_⟩),?_,Heap.le_none a2A bH1,wn4⟩
   ·rw[hmv]
    exact⟨fH,yn,gC,_,s6,rC,tS,rfl,eM,oyn,eJ,eH,eS,eN,eO⟩
   ·simp only[cV,bO,bY,OV.bE,OV.r7,hv5,hml]
def xP (b:Int) (w:List UInt8):Int:=w.foldl (λb c=>(257*b+c.toNat)%1000003) b
theorem zR:∀ (w:List UInt8) {b:Int},nJ b->nJ (xP b w)
 | [],_,h=>h
 |c::w,b,h=>zR w (b:=(257*b+c.toNat)%1000003) aAB
theorem bD4 (b:Int) (w:List UInt8) (c:UInt8):xP b (w++[c])=(257*xP b w+c.toNat)%1000003:=by simp[xP]
theorem aV3 (b:Int) {w:List UInt8} {k:Nat} (h:k<w.length):xP b (w.take (k+1))=(257*xP b (w.take k)+(w[k]).toNat)%1000003:=by rw[kP h,bD4]
def vL (n:List Int):aT:=⟨n.getD 0 0,n.getD 1 0,⟨0,n.getD 2 0,n.drop 3⟩⟩
def zZ (n:List Int):aT:=⟨n.getD 0 0,n.getD 1 0,⟨n.getD 2 0,0,[]⟩⟩
noncomputable def uV (s:aI) (r:aT):Option aI:=if gX s r/\rQ s r then some (aKN s r)else none
def aG3:List UInt8:=[112,97,114,116]
def aG4:List UInt8:=[102,97,105,108]
def a7U:List UInt8:=[112,111,105,110,116]
def bIV:List UInt8:=[116,101,114,109]
noncomputable def aG5 (s:aI) (n:List Int):Option aI:=if aDU s n/\¬xO s n then some (aBF s n)else none
noncomputable def aG6 (s:aI) (k:Int) (n:List Int):Option aI:=if qO s k n/\¬s.aP[k.toNat]?=some 50 then some (aN1 s k n)else none
noncomputable def mR (s:aI) (w:List UInt8) (n:List Int):Option aI :=
 if w=aG3 then(if 3<=n.length then uV s (vL n)else none)
 else if w=aG4 then(if n.length=3/\¬n.getD 2 0=0 then uV s (zZ n)else none)
 else if w=a7U then aG5 s n
 else if w=bIV then(if 1<=n.length then aG6 s (n.getD 0 0) (n.drop 1)else none)
 else none
theorem bIW {s:aI} {r:aT} (h:s.ok) (h1:gX s r) (h2:rQ s r):(aKN s r).ok:=by
 have hst:=aI.yN h
 obtain⟨hj,⟨l1,l2,l3,l4⟩,ha⟩:=h
 refine⟨hj,⟨l1,by simp only[aKN,yU];exact l2,by simp only[aKN,yU];exact l3,by simp only[aKN,yU];exact l4⟩,λk st ow kn p e1 e2 e3 e4=>?_⟩
 simp only[aKN]at e1 e2 e3 e4 ⊢
 by_cases e:r.fI.toNat=k
 ·have kb:=(mU.1 h2.1).1
  rw[e]at kb e2 e3 e4
  rw[a35 aA]at e2 e3 e4
  cases e2;cases e3;cases e4
  exact⟨hst _ (rS e1),⟨by omega,by omega⟩,λ_=>⟨rfl,h1.2.2⟩,λq=>by cases q⟩
 ·rw[aZL e]at e2 e3 e4
  exact ha k st ow kn p e1 e2 e3 e4
theorem aSR {s:aI} {k:Nat} (h:s.ok) (h1:k<s.bA.aQ.length) (h2:¬s.aP[k]?=some 50):(j3 s k).ok:=by
 have hst:=aI.yN h
 obtain⟨hj,⟨l1,l2,l3,l4⟩,ha⟩:=h
 refine⟨hj,⟨by simp only[j3,yU];exact l1,by simp only[j3,yU];exact l2,by simp only[j3,yU];exact l3,by simp only[j3,yU];exact l4⟩,λi st ow kn p e1 e2 e3 e4=>?_⟩
 simp only[j3,wQ]at e1 e2 e3 e4 ⊢
 by_cases e:k=i
 ·rw[e]at e1 e2 e3 e4 h2
  rw[a35 aA]at e1 e2 e3 e4
  cases e1;cases e2;cases e3;cases e4
  have gs:s.aP[i]?=some (s.aP[i]'aA):=b6 _
  have hb:=hst _ (dG (l:=s.aP) (n:=i) aA)
  have hne:¬s.aP[i]'aA=50:=λq=>h2 (by rw[gs,q])
  have hd:s.aP.getD i 0=s.aP[i]'aA:=by rw[jC,gs];rfl
  exact⟨⟨by rw[hd];omega,by rw[hd];omega⟩,⟨by omega,by omega⟩,(λq=>by cases q),λ_=>⟨rfl,rfl,rfl⟩⟩
 ·rw[aZL e]at e1 e2 e3 e4
  exact ha i st ow kn p e1 e2 e3 e4
theorem bD5 {s:aI} {k:Int} {ns:List Int} (h:s.ok) (h1:qO s k ns):(xM s k ns).ok:=by
 obtain⟨hj,⟨l1,l2,l3,l4⟩,ha⟩:=h
 have ht:=h1.1
 unfold vE at ht
 refine⟨⟨hj.1,hj.2.1,λf hf=>?_⟩,⟨by simp only[xM,yU];exact l1,by simp only[xM,yU];exact l2,by simp only[xM,yU];exact l3,by simp only[xM,yU];exact l4⟩,λi st ow kn p e1 e2 e3 e4=>ha i st ow kn p e1 e2 e3 e4⟩
 obtain⟨q1,q2,q3,q4⟩:=hj.2.2 f hf
 refine⟨q1,q2,by simp only[xM,yU];exact q3,λt ht'=>?_⟩
 simp only[xM]at ht'
 rcases a36 ht' with hm|rfl
 ·exact q4 t hm
 ·have hk:k.toNat<s.bA.aQ.length:=by omega
  have h3:=q4 _ (dG hk)
  have h4:=h1.2.1
  rw[jC,b6 hk]at h4
  exact⟨by show(t.length:Int)=f.bV-s.bA.aU;rw[h4];exact h3.1,h1.2.2⟩
theorem bIX {s:aI} {k:Int} {ns:List Int} (h:s.ok) (h1:qO s k ns) (h2:¬s.aP[k.toNat]?=some 50):(aN1 s k ns).ok:=by
 have ht:=h1.1
 unfold vE at ht
 have h3:=aSR h (k:=k.toNat) aA h2
 rw[show((k.toNat:Nat):Int)=k by omega]at h3
 exact bD5 h3 h1
theorem bD6 {s:aI} {pt:List Int} (h:s.ok) (h1:aDU s pt):(vK s pt).ok:=by
 obtain⟨hj,hl,ha⟩:=h
 exact⟨⟨hj.1,hj.2.1,λf hf=>by obtain⟨q1,_,q3,q4⟩:=hj.2.2 f hf;exact⟨q1,h1,q3,q4⟩⟩,hl,λi st ow kn p e1 e2 e3 e4=>ha i st ow kn p e1 e2 e3 e4⟩
theorem a2U (st:Nat->Prop) [DecidablePred st] {s:aI} (h:s.ok):∀ k,k<=s.bA.aQ.length->(∀ i,i<k->¬aDS st s i)->(lI st s k).ok
 |0,_,_=>h
 |k+1,hk,hn=>by
  have ih:=a2U st h k aA λi hi=>hn i aA
  rw[lI]
  split
  ·exact ih
  ·rename_i hs
   refine aSR ih (by rw[yQ];omega) λq=>hn k aA ⟨hs,?_⟩
   rw[←(zQ st s k k (fL _)).1];exact q
theorem bD7 {s:aI} {pt:List Int} (h:s.ok) (h1:aDU s pt) (h2:¬xO s pt):(aBF s pt).ok:=by
 have l1:=h.2.1.1
 refine bD6 (a2U _ h _ aA λi hi q=>h2 ⟨i,hi,q⟩) ?_
 unfold aDU at h1 ⊢
 rw[yQ];exact h1
theorem a2V {s s':aI} {r:aT} (h:s.ok) (e:uV s r=some s'):s'.ok:=by
 unfold uV at e
 split at e
 ·rename_i hh;cases e;exact bIW h hh.1 hh.2
 ·cases e
theorem bIY {s s':aI} {n:List Int} (h:s.ok) (e:aG5 s n=some s'):s'.ok:=by
 unfold aG5 at e
 split at e
 ·rename_i hh;cases e;exact bD7 h hh.1 hh.2
 ·cases e
theorem bIZ {s s':aI} {k:Int} {n:List Int} (h:s.ok) (e:aG6 s k n=some s'):s'.ok:=by
 unfold aG6 at e
 split at e
 ·rename_i hh;cases e;exact bIX h hh.1 hh.2
 ·cases e
theorem bD8 {s s':aI} {w:List UInt8} {n:List Int} (h:s.ok) (e:mR s w n=some s'):s'.ok:=by
 unfold mR at e
 split at e
 ·split at e
  ·exact a2V h e
  ·cases e
 ·split at e
  ·split at e
   ·exact a2V h e
   ·cases e
  ·split at e
   ·exact bIY h e
   ·split at e
    ·split at e
     ·exact bIZ h e
     ·cases e
    ·cases e
def vM (c:UInt8):List UInt8->Int
 | []=>-1
 |x::l=>if 0<=vM c l then vM c l+1 else if x=c then 0 else -1
theorem tO (c:UInt8):∀ l,(vM c l=-1/\c∉l)∨∃ a b,l=a++c::b/\c∉b/\vM c l=a.length
 | []=>.inl ⟨rfl,by simp⟩
 |x::l=>by
  rcases tO c l with⟨h,hn⟩|⟨a,b,rfl,hb,h⟩
  ·by_cases e:x=c
   ·subst e;exact .inr ⟨[],l,rfl,hn,by rw[vM,h,if_neg aA,if_pos rfl];rfl⟩
   ·exact .inl ⟨by rw[vM,h,if_neg aA,if_neg e],λq=>by rcases p7.1 q with rfl|q;exact e rfl;exact hn q⟩
  ·exact .inr ⟨x::a,b,rfl,hb,by rw[vM,h,if_pos aA,al2];omega⟩
theorem bB0 {c:UInt8} {a b a' b':List UInt8} (hb:c∉b) (e:a++c::b=a'++c::b'):¬a.length<a'.length:=λq=>by
 have h1:(a++c::b)[a'.length]?=(a'++c::b')[a'.length]?:=by rw[e]
 rw[aEC aA,aEC (fL _),aLH,a32,show a'.length-a.length=(a'.length-a.length-1)+1 by omega,aUB]at h1
 exact hb (rS h1)
theorem a7V {c:UInt8} {a b a' b':List UInt8} (hb:c∉b) (hb':c∉b') (e:a++c::b=a'++c::b'):a=a'/\b=b':=by
 have h1:=bB0 hb e
 have h2:=bB0 hb' e.symm
 obtain⟨h3,h4⟩:=List.append_inj e aA
 exact⟨h3,(bKO h4).2⟩
theorem a2W {c:UInt8} {a b:List UInt8} (hb:c∉b):vM c (a++c::b)=a.length:=by
 rcases tO c (a++c::b)with⟨_,h⟩|⟨a',b',e,hb',h⟩
 ·exact absurd (xV _ (.head _)) h
 ·rw[h,(a7V hb hb' e).1]
theorem a2X {c:UInt8} {l:List UInt8} (h:c∉l):vM c l=-1:=by
 rcases tO c l with⟨h1,_⟩|⟨a,b,rfl,_,_⟩
 ·exact h1
 ·exact absurd (xV _ (.head _)) h
def aSS (words w:List UInt8) (n:List Int):Prop:=(32:UInt8)∉w/\aIZ 999999999 n/\words=w++gL n
theorem bI0 {n:List Int} (h:aIZ 999999999 n):aIZ 9223372036854775807 n:=λx hx=>by have:=h x hx;omega
theorem bI1 {words w w':List UInt8} {n n':List Int} (h:aSS words w n) (h':aSS words w' n'):w=w'/\n=n' :=
 bCR h.1 h'.1 (bI0 h.2.1) (bI0 h'.2.1) (h.2.2.symm.trans h'.2.2)
noncomputable def aK3 (s:aI) (words:List UInt8):Option aI:=open Classical in
 if h:∃ x:List UInt8×List Int,aSS words x.1 x.2 then mR s h.choose.1 h.choose.2 else none
theorem aF1 {s:aI} {words w:List UInt8} {n:List Int} (h:aSS words w n):aK3 s words=mR s w n:=by
 have hex:∃ x:List UInt8×List Int,aSS words x.1 x.2:=⟨(w,n),h⟩
 obtain⟨e1,e2⟩:=bI1 hex.choose_spec h
 rw[aK3,dif_pos hex,e1,e2]
theorem aPH {s:aI} {words:List UInt8} (h:∀ w n,¬aSS words w n):aK3 s words=none:=by
 rw[aK3,dif_neg λ⟨x,q⟩=>h _ _ q]
theorem bB1 {s s':aI} {words:List UInt8} (h:s.ok) (e:aK3 s words=some s'):s'.ok:=by
 by_cases hex:∃ x:List UInt8×List Int,aSS words x.1 x.2
 ·obtain⟨x,hx⟩:=hex
  rw[aF1 hx]at e;exact bD8 h e
 ·rw[aPH λw n q=>hex ⟨(w,n),q⟩]at e;cases e
noncomputable def vY (s:aI) (b:Int) (line:List UInt8):Option (aI×Int) :=
 if 0<=vM 32 line then(if line.drop ((vM 32 line).toNat+1)=Go.Lib.itoa (xP b (line.take (vM 32 line).toNat))then(aK3 s (line.take (vM 32 line).toNat)).map λs'=>(s',xP b (line.take (vM 32 line).toNat))else none)else none
theorem aST {s:aI} {b:Int} {words r:List UInt8} (h:(32:UInt8)∉r):vY s b (words++32::r)=if r=Go.Lib.itoa (xP b words)then(aK3 s words).map λs'=>(s',xP b words)else none:=by
 rw[vY,a2W h,if_pos aA,wQ,aZW,yS]
 rfl
theorem aSU {s:aI} {b:Int} {line:List UInt8} (h:(32:UInt8)∉line):vY s b line=none:=by rw[vY,a2X h,if_neg aA]
theorem aSV {s s':aI} {b b':Int} (hb:nJ b) {line:List UInt8} (h:vY s b line=some (s',b')):(s.ok->s'.ok)/\nJ b':=by
 unfold vY at h
 split at h
 ·split at h
  ·cases ha:aK3 s (line.take (vM 32 line).toNat)with
   |none=>rw[ha]at h;cases h
   |some y=>rw[ha]at h;cases h;exact⟨λq=>bB1 q ha,zR _ hb⟩
  ·cases h
 ·cases h
noncomputable def xC:aI->Int->List (List UInt8)->aI×Nat
 |s,_,[]=>(s,0)
 |s,_,[_]=>(s,0)
 |s,b,l::m::r=>match vY s b l with
  |none=>(s,0)
  |some x=>((xC x.1 x.2 (m::r)).1,l.length+1+(xC x.1 x.2 (m::r)).2)
theorem bB2:∀ (L:List (List UInt8)) {s:aI} {b:Int},s.ok->nJ b->(xC s b L).1.ok
 | [],_,_,h,_=>h
 | [_],_,_,h,_=>h
 |l::m::r,s,b,h,hb=>by
  rw[xC]
  cases e:vY s b l with
  |none=>exact h
  |some x =>
   obtain⟨h1,h2⟩:=aSV hb (s':=x.1) (b':=x.2) fD
   exact bB2 (m::r) (h1 h) h2
theorem aK4 {s:aI} {b:Int} {l m:List UInt8} {r:List (List UInt8)} (h:vY s b l=none):xC s b (l::m::r)=(s,0):=by rw[xC,h]
theorem bB3 {s s':aI} {b b':Int} {l m:List UInt8} {r:List (List UInt8)} (h:vY s b l=some (s',b')):xC s b (l::m::r)=((xC s' b' (m::r)).1,l.length+1+(xC s' b' (m::r)).2):=by rw[xC,h]
theorem yR {j:dN} (h:j.ok):(0<=j.aU/\j.aU<=12)/\j.aQ.length<=10/\j.cT.length<=12/\∀ t∈j.aQ,t.length<=12:=by
 obtain⟨F,eF,hf,hF,o1,o2,o3,o4⟩:=aGH h
 exact⟨by omega,by omega,by have:=o2.1;omega,λt ht=>by have:=(o4 t ht).1;omega⟩
theorem aK5 {α:Type} (f:α->Nat) (c:Nat):∀ l:List α,(∀ x∈l,f x<=c)->(l.map f).sum<=c*l.length
 | [],_=>iZ _
 |x::l,h=>by
  have h1:=h x (.head _)
  have h2:=aK5 f c l λy hy=>h y (.tail _ hy)
  simp only[lU,aZQ,al2]
  rw[Nat.mul_succ];omega
theorem aSW {p:aK} (h:p.ok):p.s<=8000:=by
 have h1:=p.fQ
 have h2:=aK5 aX.s 450 p.aJ λf hf=>by
  obtain⟨k,hk,e⟩:=aM4.1 hf
  have hq:=h.2 k f (by rw[b6 hk,e])
  have h3:=f.fQ
  have h4:=hq.2.2.2.2.1
  have h5:=hq.1
  unfold aHO at h5
  omega
 have h3:=h.1
 rw[fF]at h1
 have h4:450*p.aJ.length<=450*16:=a8P _ aA
 omega
theorem aMU {s:aI} (h:s.ok):s.s<=10000:=by
 obtain⟨hj,⟨l1,l2,l3,l4⟩,ha⟩:=h
 obtain⟨hsh,htl,hpl,htt⟩:=yR hj
 have h1:=s.fQ
 have h2:=s.bA.fQ
 have h3:=aSW hj.1
 have h4:=aK5 (λx:List Int=>x.length) 12 s.bA.aQ htt
 have h5:=aK5 bR.s 12 s.bW λp hp=>by
  obtain⟨k,hk,e⟩:=aM4.1 hp
  have hq:=ha k _ _ _ p (b6 aA) (b6 aA) (b6 aA) (by rw[b6 hk,e])
  have h6:=p.fQ
  cases hkn:s.bM[k]'aA with
  |true =>
   have h7:=(hq.2.2.1 hkn).2
   unfold pR aOZ at h7
   split at h7
   ·have:=h7.2.1;omega
   ·rw[h6,h7.2.2];exact iZ _
  |false=>rw[h6,(hq.2.2.2 hkn).2.2];exact iZ _
 rw[fF]at h1 h2
 have h8:12*s.bA.aQ.length<=12*10:=a8P _ htl
 have h9:12*s.bW.length<=12*10:=a8P _ aA
 omega
theorem bRL {n:List Int} (h:3<=n.length):n=n.getD 0 0::n.getD 1 0::n.getD 2 0::n.drop 3:=by
 match n,h with
 |a::b::c::r,_=>rfl
theorem bD9 {s s':aI} {w:List UInt8} {n:List Int} (h:s.ok) (e:mR s w n=some s'):aIZ 1000002 n/\n.length<=15:=by
 obtain⟨hsh,htl,hpl,htt⟩:=yR h.1
 unfold mR at e
 split at e
 ·split at e
  ·rename_i h3
   unfold uV at e
   split at e
   ·rename_i hh
    obtain⟨⟨t1,t2,t3⟩,-⟩:=hh
    unfold vE vL at t1
    unfold vL pR at t3
    simp only[if_true]at t3
    simp only[vL]at t2
    obtain⟨q1,q2,q3⟩:=t3
    have hd:(n.drop 3).length=n.length-3:=aLG
    refine⟨λx hx=>?_,by omega⟩
    rw[bRL h3]at hx
    simp only[p7]at hx
    unfold nJ at q1
    rcases hx with rfl|rfl|rfl|hx
    ·simp only at t1;omega
    ·omega
    ·omega
    ·exact q3 x hx
   ·cases e
  ·cases e
 ·split at e
  ·split at e
   ·rename_i h3
    unfold uV at e
    split at e
    ·rename_i hh
     obtain⟨⟨t1,t2,t3⟩,-⟩:=hh
     unfold vE zZ at t1
     unfold zZ pR at t3
     simp only[zZ]at t2
     rw[if_neg h3.2]at t3
     refine⟨λx hx=>?_,by omega⟩
     rw[bRL (n:=n) aA]at hx
     have hd:n.drop 3=[]:=aI0 aA
     rw[hd]at hx
     simp only[p7,List.not_mem_nil,or_false]at hx
     have t4:=t3.1
     simp only at t4
     rcases hx with rfl|rfl|rfl
     ·simp only at t1;omega
     ·omega
     ·omega
    ·cases e
   ·cases e
  ·split at e
   ·unfold aG5 at e
    split at e
    ·rename_i hh
     exact⟨hh.1.2,by have:=hh.1.1;omega⟩
    ·cases e
   ·split at e
    ·split at e
     ·rename_i h1
      unfold aG6 at e
      split at e
      ·rename_i hh
       obtain⟨⟨t1,t2,t3⟩,-⟩:=hh
       unfold vE at t1
       have hk:(n.getD 0 0).toNat<s.bA.aQ.length:=by omega
       rw[jC (l:=s.bA.aQ),b6 hk]at t2
       have:=htt _ (dG hk)
       have hd:(n.drop 1).length=n.length-1:=aLG
       refine⟨λx hx=>?_,by simp only[a39]at t2;omega⟩
       match n,h1 with
       |a::r,_ =>
        rcases p7.1 hx with rfl|hx
        ·simp only[List.getD_cons_zero]at t1;omega
        ·exact t3 x hx
      ·cases e
     ·cases e
    ·cases e
theorem bEA {words w:List UInt8} {n:List Int} (h:aSS words w n) (h1:aIZ 1000002 n) (h2:n.length<=15):(Go.Lib.cut words [32]).1=w/\rF 15 1000002 (Go.Lib.cut words [32]).2.1=some n:=by
 obtain⟨hw,-,rfl⟩:=h
 cases n with
 |nil =>
  rw[gL,wP,aPK 32 _ hw]
  exact⟨rfl,bCS.2 rfl⟩
 |cons a l =>
  have h3:w++gL (a::l)=w++32::(Go.Lib.itoa a++gL l):=by simp[gL]
  rw[h3,aWD 32 _ _ hw]
  refine⟨rfl,(aM1 dH (w:=w) aS).2 ⟨?_,h2,h1⟩⟩
  simp[gL]
theorem bU6 (words:List UInt8):(32:UInt8)∉(Go.Lib.cut words [32]).1:=by
 rcases pD 32 words with h|⟨a,r,ha,rfl⟩
 ·rw[aPK 32 _ h];exact h
 ·rw[aWD 32 _ _ ha];exact ha
theorem a2Y {most:Nat} {hi:Int} (h:hi<=9223372036854775807) {text:List UInt8} {l:List Int} (e:rF most hi text=some l):aIZ hi l:=by
 by_cases hl:l=[]
 ·subst hl;intro x hx;cases hx
 ·exact((aM1 h (w:=[]) hl).1 e).2.2
theorem bEB {s:aI} {words:List UInt8} (h:s.ok) (hn:∀ L,rF 15 1000002 (Go.Lib.cut words [32]).2.1=some L->¬(Go.Lib.cut words [32]).1++gL L=words):aK3 s words=none:=by
 cases e:aK3 s words with
 |none=>rfl
 |some s' =>
  by_cases hex:∃ x:List UInt8×List Int,aSS words x.1 x.2
  ·obtain⟨⟨w,n⟩,hx⟩:=hex
   have e1:=e
   rw[aF1 hx]at e1
   obtain⟨r1,r2⟩:=bD9 h e1
   obtain⟨c1,c2⟩:=bEA hx r1 r2
   exact absurd (by rw[c1];exact hx.2.2.symm) (hn n c2)
  ·rw[aPH λw n q=>hex ⟨(w,n),q⟩]at e;cases e
theorem bEC {s:aI} {words:List UInt8} {L:List Int} (hL:rF 15 1000002 (Go.Lib.cut words [32]).2.1=some L) (he:(Go.Lib.cut words [32]).1++gL L=words):aK3 s words=mR s (Go.Lib.cut words [32]).1 L :=
 aF1 ⟨bU6 words,λx hx=>by have:=a2Y dH hL x hx;omega,he.symm⟩
theorem eW.next {h g g':Heap} {e e':List OV} (x:eW h (OV.cQ e) g) (y:eW g (OV.cQ e') g'):∃ g2,g2.le g'/\eW h (OV.cQ e') g2:=⟨_,aQ3 _ _,(x.append y).drop⟩
@[go_sem] def bI2:List Nat:=[0,1,4,5,7,8,9]
theorem checked (b:Int) (w:List UInt8) (hb:nJ b) (hl:w.length<=1048600):dQ Tryz.prog 79 [I b,.str w] (I (xP b w)):=by
 refine dI 21 bI2 cG b9 Tryz.func79 λh=>?_
 simp -dsimp -implicitDefEqProofs only[go_sem,↓reduceIte,Tryz.f79]
 intro _
 refine cY bI2 cG b9 (λk:Nat=>[(0,I (xP b (w.take k))),(1,.str w),(7,I w.length),(8,I k)]) (λ_=>h) (λk=>k<=w.length) (λk=>w.length-k) 0 ⟨by simp[dT,dB,xP],Heap.le_refl _,iZ _⟩ ?_
 intro k hk
 have hc:=zR (w.take k) hb
 unfold nJ at hc
 rcases cP k w.length with hlt|hge
 ·have ea:w[k]?=some w[k]:=b6 hlt
  have hs:=aV3 b hlt
  have hu:=UInt8.toNat_lt w[k]
  simp -dsimp -implicitDefEqProofs only[go_sem,↓reduceIte,Tryz.f79,ea]
  refine⟨λ_=>⟨k+1,⟨?_,IntWalk.i64_in _ aA⟩,hlt,by omega⟩,λq=>absurd hlt q⟩
  rw[IntWalk.i64_in (w[k].toNat:Int) aA,IntWalk.i64_in (257*xP b (w.take k)) aA,IntWalk.i64_in _ aA,aGP aA,hs]
 ·obtain rfl:k=w.length:=by omega
  simp -dsimp -implicitDefEqProofs only[go_sem,↓reduceIte,Tryz.f79,cN,fP]
  rw[eL]
theorem bI3 (b:Int) (w:List UInt8) (hb:nJ b) (hl:w.length<=1048600):dQ Tryz.prog 161 [I b,.str w] (I (xP b w)):=by
 refine dI 21 aU5 cG b9 Tryz.func161 λh=>?_
 simp -dsimp -implicitDefEqProofs only[go_sem,↓reduceIte,Tryz.f161]
 refine cY aU5 cG b9 (λk:Nat=>[(0,I (xP b (w.take k))),(1,.str w),(5,I k)]) (λ_=>h) (λk=>k<=w.length) (λk=>w.length-k) 0 ⟨by simp[dT,dB,xP],Heap.le_refl _,iZ _⟩ ?_
 intro k hk
 have hc:=zR (w.take k) hb
 unfold nJ at hc
 rcases cP k w.length with hlt|hge
 ·have ea:w[k]?=some w[k]:=b6 hlt
  have hs:=aV3 b hlt
  have hu:=UInt8.toNat_lt w[k]
  simp -dsimp -implicitDefEqProofs only[go_sem,↓reduceIte,Tryz.f161,ea]
  refine λ_=>⟨λ_=>?_,λq=>absurd hlt q⟩
  rw[IntWalk.i64_in (w[k].toNat:Int) aA,IntWalk.i64_in (xP b (w.take k)*257) aA,IntWalk.i64_in _ aA]
  first|refine aH.mk (dM _) ?_|refine aE.mk (dM _) ?_|refine aH.b7 (dM _) ?_|refine aE.mk (bX.eA (dM _)) ?_
  simp -dsimp -implicitDefEqProofs only[go_sem,↓reduceIte,Tryz.f161]
  refine⟨k+1,⟨?_,IntWalk.i64_in _ aA⟩,hlt,by omega⟩
  rw[hs,Int.mul_comm]
 ·obtain rfl:k=w.length:=by omega
  simp -dsimp -implicitDefEqProofs only[go_sem,↓reduceIte,Tryz.f161,cN,fP]
  exact λ_=>by rw[eL]
@[go_sem] def bB4:List Nat:=[0,1,4,5,10,17]
theorem aYW (s:List UInt8) (c:UInt8) (hs:s.length<=1048600):dQ Tryz.prog 129 [.str s,.int .u8 c.toNat] (I (vM c s)):=by
 refine dI 19 bB4 cG b9 Tryz.func129 λh=>?_
 simp -dsimp -implicitDefEqProofs only[go_sem,↓reduceIte,Tryz.f129]
 intro _
 refine cY bB4 cG b9 (λk:Nat=>[(0,.str s),(1,.int .u8 c.toNat),(5,I ((s.length:Int)-1-k))]) (λ_=>h) (λk=>k<=s.length/\c∉s.drop (s.length-k)) (λk=>s.length-k) 0 ⟨by simp[dT,dB];exact IntWalk.i64_in _ aA,Heap.le_refl _,iZ _,by simp⟩ ?_
 rintro k ⟨hk,hn⟩
 rcases cP k s.length with hlt|hge
 ·have hi:s.length-1-k<s.length:=by omega
  have ea:s[s.length-1-k]?=some s[s.length-1-k]:=b6 hi
  have e1:((s.length:Int)-1-k)=((s.length-1-k:Nat):Int):=by omega
  rw[e1]
  simp -dsimp -implicitDefEqProofs only[go_sem,↓reduceIte,Tryz.f129,ea]
  have hd:s.drop (s.length-k)=s.drop (s.length-1-k+1):=by congr 1;omega
  have hsp:s=s.take (s.length-1-k)++s[s.length-1-k]::s.drop (s.length-k):=by
   rw[hd,←aZR hi,aPV]
  refine⟨λq=>?_,λq=>⟨k+1,?_,⟨hlt,λz=>?_⟩,by omega⟩⟩
  ·have ec:s[s.length-1-k]=c:=aZS q
   rw[ec]at hsp
   have h1:=a2W (a:=s.take (s.length-1-k)) hn
   rw[←hsp,nX]at h1
   rw[h1];omega
  ·rw[IntWalk.i64_in _ aA];omega
  ·rw[show s.length-(k+1)=s.length-1-k by omega,aZR hi,←hd]at z
   rcases p7.1 z with z|z
   ·exact q (by rw[z])
   ·exact hn z
 ·obtain rfl:k=s.length:=by omega
  simp -dsimp -implicitDefEqProofs only[go_sem,↓reduceIte,Tryz.f129]
  refine⟨λq=>absurd q aA,λ_=>?_⟩
  rw[aLH,aPU]at hn
  rw[a2X hn]
theorem bI4 (s:List UInt8) (c:UInt8) (hs:s.length<=1048600):dQ Tryz.prog 78 [.str s,.int .u8 c.toNat] (I (vM c s)):=by
 refine dI 8 zG cG b9 Tryz.func78 λh=>?_
 simp -dsimp -implicitDefEqProofs only[go_sem,↓reduceIte,Tryz.f78]
 first|refine aH.mk (aYW s c hs) ?_|refine aE.mk (aYW s c hs) ?_|refine aH.b7 (aYW s c hs) ?_|refine aE.mk (bX.eA (aYW s c hs)) ?_
 simp -dsimp -implicitDefEqProofs only[go_sem,↓reduceIte,Tryz.f78]
theorem bED (word:List UInt8) (l:List Int) (hw:word.length<=10000) (hl:l.length<=1000000) (hn:aIZ 999999999 l):dQ Tryz.prog 119 [.str word,cI 1 (λn=>[I n]) l] (.str (word++gL l)):=by
 refine dI 21 aU5 cG b9 Tryz.func119 λh=>?_
 simp -dsimp -implicitDefEqProofs only[go_sem,↓reduceIte,Tryz.f119]
 refine cY aU5 cG b9 (λk:Nat=>[(0,.str (word++gL (l.take k))),(1,cI 1 (λn=>[I n]) l),(5,I k)]) (λ_=>h) (λk=>k<=l.length) (λk=>l.length-k) 0 (by simp[dT,dB,Heap.le_refl,gL]) ?_
 intro k hk
 rcases cP k l.length with hlt|hge
 ·have ea:l[k]?=some l[k]:=b6 hlt
  have hnk:=hn _ (dG hlt)
  have hlen:=wF (n:=l[k]) aA aA
  have hlw:=aNV (l.take k) λn q=>hn n (aWJ q)
  rw[nX]at hlw
  simp -dsimp -implicitDefEqProofs only[go_sem,↓reduceIte,Tryz.f119,ea]
  repeat'(with_reducible first|intro _|refine And.intro ?_ ?_)
  all_goals try omega
  first|refine aH.mk (aJ9 1000000000 l[k] hnk.1 a9M hnk.2) ?_|refine aE.mk (aJ9 1000000000 l[k] hnk.1 a9M hnk.2) ?_|refine aH.b7 (aJ9 1000000000 l[k] hnk.1 a9M hnk.2) ?_|refine aE.mk (bX.eA (aJ9 1000000000 l[k] hnk.1 a9M hnk.2)) ?_
  simp -dsimp -implicitDefEqProofs only[go_sem,↓reduceIte,Tryz.f119]
  repeat'(with_reducible first|intro _|refine And.intro ?_ ?_)
  all_goals try omega
  ·simp only[rL,al2];omega
  ·refine⟨k+1,⟨?_,by rw[IntWalk.i64_in _ aA];rfl⟩,by omega,by omega⟩
   rw[kP hlt,a30]
   simp[gL]
 ·have hk':k=l.length:=by omega
  subst hk'
  rw[eL]
  simp -dsimp -implicitDefEqProofs only[go_sem,↓reduceIte,Tryz.f119,cN]
@[go_sem] def bB5:List Nat:=[0,1,4,5,7,9,10,11,12]
@[go_sem] def bRM:List Nat:=[8,18]
theorem aYX (l:List Int) (hl:l.length<=1000000) (hn:∀ n∈l,nJ n):dQ Tryz.prog 176 [cI 1 (λn=>[I n]) l,.str [32]] (.str (Go.Lib.join (l.map Go.Lib.itoa) [32])):=by
 refine dI 24 bB5 bRM b9 Tryz.func176 λh=>?_
 simp -dsimp -implicitDefEqProofs only[go_sem,↓reduceIte,Tryz.f176]
 repeat'(with_reducible first|intro _|refine And.intro ?_ ?_)
 all_goals try(first|omega|decide)
 refine cY bB5 bRM b9 (λx:Nat×Option Nat=>[(1,.str [32]),(5,mX 1 (l.take x.1).length x.2),(9,cI 1 (λn=>[I n]) l),(10,I l.length),(11,I x.1)]) (λx=>c7 h (.row 1 (((l.take x.1).map λn=>[.str (Go.Lib.itoa n)]).map (List.map .v))) x.2) (λx=>x.1<=l.length/\k7 h (l.take x.1) x.2) (λx=>l.length-x.1) (0,none) a86 ?_
 rintro⟨k,o⟩ ⟨hk,ho⟩
 simp only at hk ho ⊢
 rcases cP k l.length with hlt|hge
 ·have ea:l[k]?=some l[k]:=b6 hlt
  have hnk:=hn _ (dG hlt)
  have hy:l.take (k+1)=l.take k++[l[k]]:=kP hlt
  have hlk:(l.take k).length<=l.length:=by rw[nX];omega
  cases o with
  |none =>
   rw[cZ]at ho
   rw[ho]at hy ⊢
   simp -dsimp -implicitDefEqProofs only[go_sem,↓reduceIte,Tryz.f176,dD,aN,ea]
   repeat'(with_reducible first|intro _|refine And.intro ?_ ?_)
   all_goals try omega
   first|refine aH.mk (decimal l[k] hnk) ?_|refine aE.mk (decimal l[k] hnk) ?_|refine aH.b7 (decimal l[k] hnk) ?_|refine aE.mk (bX.eA (decimal l[k] hnk)) ?_
   simp -dsimp -implicitDefEqProofs only[go_sem,↓reduceIte,Tryz.f176]
   repeat'(with_reducible first|intro _|refine And.intro ?_ ?_)
   all_goals try(first|omega|decide)
   rename_i n hn
   refine⟨(k+1,some n),?_⟩
   simp only[hy]
   refine⟨⟨rfl,?_⟩,Heap.le_refl _,⟨by omega,hn⟩,by omega⟩
   rw[IntWalk.i64_in _ aA];rfl
  |some n =>
   rw[b8]at ho
   simp -dsimp -implicitDefEqProofs only[go_sem,↓reduceIte,Tryz.f176,bZ,aL,ea]
   repeat'(with_reducible first|intro _|refine And.intro ?_ ?_)
   all_goals try omega
   first|refine aH.mk (decimal l[k] hnk) ?_|refine aE.mk (decimal l[k] hnk) ?_|refine aH.b7 (decimal l[k] hnk) ?_|refine aE.mk (bX.eA (decimal l[k] hnk)) ?_
   simp -dsimp -implicitDefEqProofs only[go_sem,↓reduceIte,Tryz.f176]
   repeat'(with_reducible first|intro _|refine And.intro ?_ ?_)
   all_goals try(first|omega|decide|exact fL _)
   rename_i b hb
   refine⟨(k+1,some b),?_⟩
   simp only[hy,aL,bZ,b8]
   refine⟨⟨by rw[rL];rfl,?_⟩,?_,⟨by omega,hb.2⟩,by omega⟩
   ·rw[IntWalk.i64_in _ aA];rfl
   ·rw[←iX];exact nP ho
 ·have hk':k=l.length:=by omega
  subst hk'
  rw[eL]at ho ⊢
  simp -dsimp -implicitDefEqProofs only[go_sem,↓reduceIte,Tryz.f176,cN]
  have hj:=bZD (l.map Go.Lib.itoa) [32] pW (by have:=aU7 l hn;omega)
  rw[show cI 1 (λs:List UInt8=>[aC.str s]) (l.map Go.Lib.itoa)=cI 1 (λn=>[aC.str (Go.Lib.itoa n)]) l from by simp[cI,Function.comp_def]]at hj
  obtain⟨y,h1,h2,h3⟩:=grown (c:=λn=>aC.str (Go.Lib.itoa n)) (sz:=1) ho
  rw[←h2]
  refine aH.aJ3 hj (dU.cons (View.ovD y (OS.u3 (c:=λn=>[aC.str (Go.Lib.itoa n)]) (λ_ _ q=>zF q) h1) h3.oJ) (dU.cons (View.same _ _) dU.nil)) rfl ?_
  simp -dsimp -implicitDefEqProofs only[go_sem,↓reduceIte,Tryz.f176]
  exact h3.le
theorem bN2 (word:List UInt8) (l:List Int) (hw:word.length<=10000) (hl:l.length<=1000000) (hn:∀ n∈l,nJ n):dQ Tryz.prog 132 [.str word,cI 1 (λn=>[I n]) l] (.str (word++gL l)):=by
 refine dI 14 bP1 cG b9 Tryz.func132 λh=>?_
 simp -dsimp -implicitDefEqProofs only[go_sem,↓reduceIte,Tryz.f132]
 have hj:=aU7 l hn
 repeat'(with_reducible first|intro _|refine And.intro ?_ ?_)
 all_goals try(first|omega|decide)
 ·rename_i e
  have e:l=[]:=aZM.1 aA
  subst e
  simp[gL]
 ·rename_i e
  first|refine aH.mk (aYX l hl hn) ?_|refine aE.mk (aYX l hl hn) ?_|refine aH.b7 (aYX l hl hn) ?_|refine aE.mk (bX.eA (aYX l hl hn)) ?_
  simp -dsimp -implicitDefEqProofs only[go_sem,↓reduceIte,Tryz.f132]
  repeat'(with_reducible first|intro _|refine And.intro ?_ ?_)
  all_goals try(first|omega|decide)
  ·simp only[rL,al2,al3];omega
  ·rw[←aFE l (by intro q;subst q;exact e rfl)]
   simp
@[go_sem] def bB6:List Nat:=[0,1,2,4,5,6,7,8,9,14,29,30,31,32,43,46]
set_option maxHeartbeats 2000000 in
theorem a2Z (s:aI) (pt:List Int) (hs:s.s<=1048576) (hp0:pt.length<=1048576):tU Tryz.prog 134 [.agg s.c,cI 1 (λn=>[I n]) pt] (QA (yI s pt).1.o (λy=>.iF [y,I (yI s pt).2])):=by
 have hs':=s.fQ
 have rO:=s.bA.fQ
 simp only[fF]at hs' rO
 have hok:=yB s aA
 have hcl:=yD s hs
 simp only[aI.aM,dN.aM]at hok hcl ⊢
 refine x9 50 bB6 aBW b9 Tryz.func134 λh=>?_
 simp -dsimp -implicitDefEqProofs only[go_sem,↓reduceIte,Tryz.f134]
 intro n4 z4
 have z4h:=z4
 try simp -dsimp -implicitDefEqProofs only[go_sem,↓reduceIte,Tryz.f134]
 first|refine aH.mk (hok) ?_|refine aE.mk (hok) ?_|refine aH.b7 (hok) ?_|refine aE.mk (bX.eA (hok)) ?_
 simp -dsimp -implicitDefEqProofs only[go_sem,↓reduceIte,Tryz.f134]
 refine⟨λhn=>?_,λhy=>?_⟩
 ·have hn':¬s.ok:=by simpa using hn
  rw[bD3 hn']
  try simp -dsimp -implicitDefEqProofs only[go_sem,↓reduceIte,Tryz.f134,aF]
  exact rV nR (kJ [] [_]) (by repeat'(first|exact Heap.le_refl _|refine Heap.cD ?_|refine Heap.aW kT ?_))
 have hy':s.ok:=by simpa using hy
 try simp -dsimp -implicitDefEqProofs only[go_sem,↓reduceIte,Tryz.f134]
 first|refine aH.mk (fX pt s.bA.aU) ?_|refine aE.mk (fX pt s.bA.aU) ?_|refine aH.b7 (fX pt s.bA.aU) ?_|refine aE.mk (bX.eA (fX pt s.bA.aU)) ?_
 simp -dsimp -implicitDefEqProofs only[go_sem,↓reduceIte,Tryz.f134]
 refine⟨λhn=>?_,λhn=>?_⟩
 ·rw[aV2 hy' (by rw[aDU];simpa using hn)]
  try simp -dsimp -implicitDefEqProofs only[go_sem,↓reduceIte,Tryz.f134,aF]
  exact rV nR (kJ [] [_]) (by repeat'(first|exact Heap.le_refl _|refine Heap.cD ?_|refine Heap.aW kT ?_))
 have hp':aDU s pt:=by rw[aDU];simpa using hn
 have bN1:=aI.yN hy'
 have l1:=hy'.2.1
 try simp -dsimp -implicitDefEqProofs only[go_sem,↓reduceIte,Tryz.f134]
 refine aH.wn1 hcl z4 ?_
 rintro r l_ g ⟨e,oe,rfl,rfl⟩ wn z4
 have vV:=oe
 obtain⟨fH,fV,gC,rA,s6,rC,tS,rfl,eM,eU,eJ,eH,eS,eN,eO⟩:=vV
 simp -dsimp -implicitDefEqProofs only[go_sem,↓reduceIte,Tryz.f134,OV.aR,OV.aG,OV.bE,aF,aD,eM.flat,eM.one,eU.flat,eU.one,eJ.flat,eJ.one,eH.flat,eH.one,eS.flat,eS.one,eN.flat,eN.one,eO.flat,eO.one]
 intro n6 aKR
 obtain⟨mD,fZ,gA,aDJ⟩:=cE (show ¬n6=n4 from iS aKR)
 have p5:g n6=none:=iS aKR
 refine aH.oX (sI pt hp0) z4 ⟨mD,p5⟩ ?_
 rintro r_ l_ g2 ⟨yn,oyn,rfl,rfl⟩ wp z42 z62
 simp -dsimp -implicitDefEqProofs only[go_sem,↓reduceIte,Tryz.f134,OV.aR,OV.aG,OV.bE,aF,aD,eM.flat,eM.one,eU.flat,eU.one,eJ.flat,eJ.one,eH.flat,eH.one,eS.flat,eS.one,eN.flat,eN.one,eO.flat,eO.one,gA,fZ,oyn.flat,oyn.one]
 obtain⟨g3,wG,wn3⟩:=wn.bIU [fH,.v (I s.bA.b5),.v (I s.bA.aU)] (y':=yn) wp
 have z43:=Heap.le_none wG z42
 have z63:=Heap.le_none wG z62
 intro hkl
 have wn4:=wn3.over (o:=.row 9 [[.v .aV,.v (I 0),.v (I 0),.v .aV,.v .aV,.v .aV,.v .aV,.v .aV,.v .aV]]) z43
 have z64:bT g3 n4 (.row 9 [[.v .aV,.v (I 0),.v (I 0),.v .aV,.v .aV,.v .aV,.v .aV,.v .aV,.v .aV]]) n6=none:=by rw[aD _ _ _ _ mD];exact z63
 refine cY bB6 aBW b9 (λx:Nat×List OV×Heap=>[(1,cI 1 (λn=>[I n]) pt),(2,.ip 9 [[cI 3 aX.c s.bA.bN.aJ,I s.bA.b5,I s.bA.aU,cI 1 (λn=>[I n]) s.bA.cT,cI 1 (λx=>[cI 1 (λn=>[I n]) x]) s.bA.aQ,cI 1 (λn=>[I n]) s.aP,cI 1 (λb=>[.bool b]) s.bM,cI 3 bR.c s.bW,cI 1 (λn=>[I n]) s.bI]] 0 0),(4,.op n4 9 0 0),(6,.op n6 9 0 0),(29,cI 1 (λb=>[.bool b]) s.bM),(30,I s.bM.length),(31,I x.1)]) (λx=>bT x.2.2 n6 (.row 9 (OV.cells [x.2.1]))) (λx=>x.1<=s.aP.length/\(∀ i,i<x.1->¬aDS (jU s pt) s i)/\(lI (jU s pt) (vK s pt) x.1).o x.2.1/\x.2.2 n6=none/\eW (bT h n4 (.row 9 [[.v .aV,.v (I 0),.v (I 0),.v .aV,.v .aV,.v .aV,.v .aV,.v .aV,.v .aV]])) (OV.cQ x.2.1) x.2.2) (λx=>s.aP.length-x.1) (0,[fH,.v (I s.bA.b5),.v (I s.bA.aU),yn,gC,rA,s6,rC,tS],bT g3 n4 (.row 9 [[.v .aV,.v (I 0),.v (I 0),.v .aV,.v .aV,.v .aV,.v .aV,.v .aV,.v .aV]])) ⟨by simp[dT,dB],Heap.cD (Heap.cD wG),iZ _,λi q=>absurd q (aZV i),⟨fH,yn,gC,rA,s6,rC,tS,rfl,eM,oyn,eJ,eH,eS,eN,eO⟩,z64,wn4⟩ ?_
 clear oe wn wp wn3 wn4 z64 z63 z62 z43 z42 wG eM eU eJ eH eS eN eO
 rintro⟨k,e,g⟩ ⟨hk,hns,oe,hnb,wn⟩
 simp only at hk hns oe hnb wn ⊢
 have hJ:=yQ (jU s pt) (vK s pt) k
 have hL:=aMR (jU s pt) (vK s pt) k
 have hT:=zQ (jU s pt) (vK s pt) k k (fL _)
 have hS:=aDT (jU s pt) (vK s pt) bN1 k hns
 have hN:=aSP (st:=jU s pt) (vK s pt) k
 have hY:=aSQ (st:=jU s pt) (vK s pt) k
 generalize hm:lI (jU s pt) (vK s pt) k=m at *
 rcases cP k s.aP.length with hlt|hge
 ·have kn:k<s.bM.length:=by omega
  have gk:s.bM[k]?=some s.bM[k]:=b6 kn
  have hkt:k<s.bA.aQ.length:=by omega
  have hut:=a7R hy'.1 aA hkt pt hp'.1
  simp only[dN.aM]at hut
  have e5:m.aP[k]?=some s.aP[k]:=hT.1.trans (b6 hlt)
  have hsb:=bN1 _ (dG hlt)
  have hfg:=forget m k _ g n6 _ oe hnb wn (by rw[hJ];show _/\_/\_/\_;simp only[vK]at hL ⊢;omega) (by rw[hJ];show 0<=(k:Int)/\(k:Int)<=((s.bA.aQ.length:Nat):Int)-1;omega) hS
  simp -dsimp -implicitDefEqProofs only[go_sem,↓reduceIte,Tryz.f134,gk,hlt]
  refine⟨λ_=>⟨kn,λh1=>?_,λh0=>?_⟩,λq=>by omega⟩
  ·first|refine aH.mk (hut) ?_|refine aE.mk (hut) ?_|refine aH.b7 (hut) ?_|refine aE.mk (bX.eA (hut)) ?_
   simp -dsimp -implicitDefEqProofs only[go_sem,↓reduceIte,Tryz.f134]
   refine⟨λhu=>?_,λhu=>?_⟩
   ·have hst:jU s pt k:=⟨gk.trans (by rw[h1]),hu⟩
    exact⟨(k+1,e,g),IntWalk.i64_in _ aA,Heap.le_refl _,⟨hlt,pG hns λq=>q.1 hst,hY hst▸oe,hnb,wn⟩,by simp only;omega⟩
   ·have aMT:¬jU s pt k:=λq=>hu q.2
    refine aH.kF hfg ?_
    clear hfg oe wn
    rintro r h' ⟨e2,g2,⟨q50,qno⟩,rfl,aKP,oX⟩
    simp only[wQ,e5]at q50 qno
    by_cases h3:s.aP[k]=50
    ·obtain⟨rfl,oe2⟩:=q50 (by rw[h3])
     rw[aMS hy' hp' ⟨k,hlt,aMT,by rw[b6 hlt,h3]⟩]
     obtain⟨g4,a2A,wn4,z44,rfl⟩:=oX.base z4h
     have z64:g4 n6=none:=by rwa [aD _ _ _ _ mD]at aKP
     simp -dsimp -implicitDefEqProofs only[go_sem,↓reduceIte,Tryz.f134,OV.aR,OV.aG,OV.bE,aF,aD,gA,fZ]
     exact rV nR (kJ [] [_]) (Heap.le_trans wn4.le (by repeat'(first|exact Heap.le_refl _|refine Heap.cD ?_|refine Heap.aW kT ?_)))
    ·obtain⟨rfl,oe2⟩:=qno λq=>h3 (dY q)
     simp -dsimp -implicitDefEqProofs only[go_sem,↓reduceIte,Tryz.f134,OV.aR,OV.aG,OV.bE,aF,aD]
     exact⟨(k+1,e2,g2),IntWalk.i64_in _ aA,Heap.le_refl _,⟨hlt,pG hns λq=>by
      have:=q.2
      rw[b6 hlt]at this
      exact h3 (dY this),hN aMT▸oe2,aKP,oX⟩,by simp only;omega⟩
  ·have aMT:¬jU s pt k:=λq=>by have:=q.1;rw[gk]at this;have:=dY this;simp_all
   refine aH.kF hfg ?_
   clear hfg oe wn
   rintro r h' ⟨e2,g2,⟨q50,qno⟩,rfl,aKP,oX⟩
   simp only[wQ,e5]at q50 qno
   by_cases h3:s.aP[k]=50
   ·obtain⟨rfl,oe2⟩:=q50 (by rw[h3])
    rw[aMS hy' hp' ⟨k,hlt,aMT,by rw[b6 hlt,h3]⟩]
    obtain⟨g4,a2A,wn4,z44,rfl⟩:=oX.base z4h
    have z64:g4 n6=none:=by rwa [aD _ _ _ _ mD]at aKP
    simp -dsimp -implicitDefEqProofs only[go_sem,↓reduceIte,Tryz.f134,OV.aR,OV.aG,OV.bE,aF,aD,gA,fZ]
    exact rV nR (kJ [] [_]) (Heap.le_trans wn4.le (by repeat'(first|exact Heap.le_refl _|refine Heap.cD ?_|refine Heap.aW kT ?_)))
   ·obtain⟨rfl,oe2⟩:=qno λq=>h3 (dY q)
    simp -dsimp -implicitDefEqProofs only[go_sem,↓reduceIte,Tryz.f134,OV.aR,OV.aG,OV.bE,aF,aD]
    exact⟨(k+1,e2,g2),IntWalk.i64_in _ aA,Heap.le_refl _,⟨hlt,pG hns λq=>by
     have:=q.2
     rw[b6 hlt]at this
     exact h3 (dY this),hN aMT▸oe2,aKP,oX⟩,by simp only;omega⟩
 ·have hk':k=s.aP.length:=by omega
  have hkn:k=s.bM.length:=by omega
  have hstuck:¬xO s pt:=λ⟨i,h1,h2⟩=>hns i aA h2
  have hmv:aBF s pt=m:=by rw[aBF,←hk',←aN7,hm]
  rw[aSO hy' hp' hstuck,hmv]
  clear hN hY hS hT
  obtain⟨g3,wG,wn3,z43,rfl⟩:=wn.base z4h
  have z63:g3 n6=none:=by rwa [aD _ _ _ _ mD]at hnb
  have vV:=oe
  obtain⟨aBC,aBD,aD7,aDK,aDL,aDM,aDN,rfl,hP,hU,hZ,iA,iC,iD,iE⟩:=vV
  rw[hkn]
  simp -dsimp -implicitDefEqProofs only[go_sem,↓reduceIte,Tryz.f134,OV.aR,OV.aG,OV.bE,aF,aD,hP.flat,hP.one,hU.flat,hU.one,hZ.flat,hZ.one,iA.flat,iA.one,iC.flat,iC.one,iD.flat,iD.one,iE.flat,iE.one,gA,fZ,cV,bO,bY,fP,cN,false_imp_iff,true_and]
  exact aF6 (w:=λy=>.iF [y,I 0]) oe wn3 (by repeat'(first|exact Heap.le_refl _|refine Heap.cD ?_|refine Heap.aW kT ?_))
theorem nine {α:Type} {x:List α} (h:x.length=9):∃ a0 a1 a2 a3 a4 a5 a6 a7 a8,x=[a0,a1,a2,a3,a4,a5,a6,a7,a8]:=by
 match x,h with
 | [a0,a1,a2,a3,a4,a5,a6,a7,a8],_=>exact⟨a0,a1,a2,a3,a4,a5,a6,a7,a8,rfl⟩
def bU7 (G:Heap) (o:Option aI):aC->Heap->Prop:=λr g=>(∃ s' e,o=some s'/\s'.o e/\r=.iF [.agg (e.map OV.val),.bool true]/\eW G (OV.cQ e) g)∨(o=none/\∃ x,r=.iF [.agg x,.bool false]/\x.all aC.flat=true/\x.length=9/\g=G)
theorem s7 {o:Option aI} {G h':Heap} {x:List aC} (ho:o=none) (hl:G.le h') (hx:x.all aC.flat=true) (h9:x.length=9):∃ r1 g,Shift (.iF [.agg x,.bool false]) h' r1 g/\bU7 G o r1 g :=
 ⟨_,G,Shift.of (Sub.refl _) hl,.inr ⟨ho,x,rfl,hx,h9,rfl⟩⟩
theorem aPI {o:Option aI} {s':aI} {e:List OV} {G h' g:Heap} {r:aC} (ho:o=some s') (he:s'.o e) (hn:eW G (OV.cQ e) g) (hl:g.le h') (hr:r=.iF [.agg (e.map OV.val),.bool true]):∃ r1 g,Shift r h' r1 g/\bU7 G o r1 g:=by
 subst hr
 exact⟨_,g,Shift.of (Sub.refl _) hl,.inl ⟨s',e,ho,he,rfl,hn⟩⟩
@[go_sem] def bU8:List Nat:=[0,1,2,4,5,6,7,9,10,11,12,32,35,62,93,102]
@[go_sem] def b6O:Marks:=λid=>match id with|8=>([0,14,19],(.op 1 (.op 2 (.op 3 (.op 4 (.op 5 (.op 6 (.op 7 (.op 8 (.op 9 (.op 10 (.op 11 (.op 12 (.op 13 (.op 0 (.op 14 (.op 15 (.op 16 (.op 17 (.op 18 (.op 19 (.op 20 (.op 21 .nil)))))))))))))))))))))),[])|10=>([0,12,17],(.op 1 (.op 2 (.op 3 (.op 4 (.op 5 (.op 6 (.op 7 (.op 8 (.op 9 (.op 10 (.op 11 (.op 0 (.op 12 (.op 13 (.op 14 (.op 15 (.op 16 (.op 17 (.op 18 (.op 19 .nil)))))))))))))))))))),[])|14=>([0,6,10],(.op 1 (.op 2 (.op 3 (.op 4 (.op 5 (.op 0 (.op 6 (.op 7 (.op 8 (.op 9 (.op 10 (.op 11 .nil)))))))))))),[])|_=>([],.nil,[])
set_option maxHeartbeats 2000000 in
theorem bN3 (s:aI) (words:List UInt8) (hok:s.ok) (hw:words.length<=6000) {h:Heap} {e:List OV} (oe:s.o e) (ho:u4 h (OV.cQ e)):gK Tryz.prog 81 [.agg (e.map OV.val),.str words] h (bU7 h (aK3 s words)):=by
 have hcut:=bZE words [32] aA
 have hcl:=bAF words [32]
 have hrl:=bG5 (Go.Lib.cut words [32]).2.1 15 1000002 aA aA aA
 have hno:=bEB (s:=s) (words:=words) hok
 have hyes:=λL=>bEC (s:=s) (words:=words) (L:=L)
 have hrg:=λL=>a2Y (most:=15) (hi:=1000002) dH (text:=(Go.Lib.cut words [32]).2.1) (l:=L)
 have hln:=λL=>bDK (most:=15) (hi:=1000002) (text:=(Go.Lib.cut words [32]).2.1) (l:=L)
 have hdat:=aI.u7 oe
 obtain⟨fH,fV,gC,rA,s6,rC,tS,rfl,eM,eU,eJ,eH,eS,eN,eO⟩:=oe
 have hv:∀ H:Heap,h.le H->View H (.agg ([fH,.v (.int .i64 s.bA.b5),.v (.int .i64 s.bA.aU),fV,gC,rA,s6,rC,tS].map OV.val)) _:=λH hH=>View.b51 [fH,.v (.int .i64 s.bA.b5),.v (.int .i64 s.bA.aU),fV,gC,rA,s6,rC,tS] hdat (λp hp=>Heap.aE8 hH (ho p hp))
 simp only[aI.aM,dN.aM,OV.aR,OV.aG,OV.bE]at hv ⊢
 refine lW 126 bU8 cG b6O Tryz.func81 ?_
 simp -dsimp -implicitDefEqProofs only[go_sem,↓reduceIte,Tryz.f81,eM.flat,eM.one,eU.flat,eU.one,eJ.flat,eJ.one,eH.flat,eH.one,eS.flat,eS.one,eN.flat,eN.one,eO.flat,eO.one]
 intro n2 z2
 intro n4 b1X
 obtain⟨sC,j6,j7,b4P⟩:=cE (show ¬n4=n2 from iS b1X)
 have aOL:h n4=none:=iS b1X
 first|refine aH.mk (hcut) ?_|refine aE.mk (hcut) ?_|refine aH.b7 (hcut) ?_|refine aE.mk (bX.eA (hcut)) ?_
 simp -dsimp -implicitDefEqProofs only[go_sem,↓reduceIte,Tryz.f81]
 generalize (Go.Lib.cut words [32]).1=word at *
 generalize (Go.Lib.cut words [32]).2.1=rest at *
 cases hR:rF 15 1000002 rest with
 |none =>
  have hno:=hno λL q=>by rw[hR]at q;cases q
  rw[hR]at hrl
  simp only[Option.getD_none,bE8]at hrl
  refine aH.mk hrl ?_
  simp -dsimp -implicitDefEqProofs only[go_sem,↓reduceIte,Tryz.f81,OV.aR,OV.aG,OV.bE,aF,aD,eM.flat,eM.one,eU.flat,eU.one,eJ.flat,eJ.one,eH.flat,eH.one,eS.flat,eS.one,eN.flat,eN.one,eO.flat,eO.one,j7,j6]
  exact s7 hno (by repeat'(first|exact Heap.le_refl _|refine Heap.cD ?_|refine Heap.aW kT ?_)) aP6 rfl
 |some L =>
  have hLr:=hrg L hR
  have hLn:=hln L hR
  have hwo:=bN2 word L aA aA (λn hn=>by have:=hLr n hn;unfold nJ;omega)
  rw[hR]at hrl
  simp only[a39,Option.isSome_some]at hrl
  refine aH.mk hrl ?_
  simp -dsimp -implicitDefEqProofs only[go_sem,↓reduceIte,Tryz.f81,OV.aR,OV.aG,OV.bE,aF,aD,eM.flat,eM.one,eU.flat,eU.one,eJ.flat,eJ.one,eH.flat,eH.one,eS.flat,eS.one,eN.flat,eN.one,eO.flat,eO.one,j7,j6]
  refine aH.mk hwo ?_
  simp -dsimp -implicitDefEqProofs only[go_sem,↓reduceIte,Tryz.f81,OV.aR,OV.aG,OV.bE,aF,aD,eM.flat,eM.one,eU.flat,eU.one,eJ.flat,eJ.one,eH.flat,eH.one,eS.flat,eS.one,eN.flat,eN.one,eO.flat,eO.one,j7,j6]
  refine⟨λhne=>s7 (hno λL' q=>by rw[hR]at q;cases q;exact hne) (by repeat'(first|exact Heap.le_refl _|refine Heap.cD ?_|refine Heap.aW kT ?_)) aP6 rfl,λheq=>?_⟩
  have ha:=hyes L hR heq
  rw[ha,mR]
  have e0:0<L.length->L[Int.toNat 0]?=some (L.getD 0 0):=λq=>by
   show L[0]?=_
   rw[jC,b6 q];rfl
  have e1:1<L.length->L[Int.toNat 1]?=some (L.getD 1 0):=λq=>by
   show L[1]?=_
   rw[jC,b6 q];rfl
  have e2:2<L.length->L[Int.toNat 2]?=some (L.getD 2 0):=λq=>by
   show L[2]?=_
   rw[jC,b6 q];rfl
  have hsl:∀ k,List.drop k (List.take L.length (L.map λn=>[I n]))=(L.drop k).map λn=>[I n]:=λk=>by
   rw[gF aS,List.map_drop]
  have s3:=aMU hok
  have p3:(vL L).s<=1048576:=by
   have:=(vL L).fQ
   have:=(vL L).jY.fQ
   simp only[vL,aLG]at *
   omega
  have q3:(zZ L).s<=1048576:=by
   have:=(zZ L).fQ
   have:=(zZ L).jY.fQ
   simp only[zZ,al3]at *
   omega
  by_cases h1:word=aG3
  ·rw[if_pos h1]
   have c1:(word=[112,97,114,116])=True:=eq_true h1
   by_cases h3:3<=L.length
   ·have h3':((L.length:Int) ≥ 3)=True:=eq_true aA
    rw[if_pos h3]
    simp -dsimp -implicitDefEqProofs only[go_sem,↓reduceIte,Tryz.f81,OV.aR,OV.aG,OV.bE,aF,aD,eM.flat,eM.one,eU.flat,eU.one,eJ.flat,eJ.one,eH.flat,eH.one,eS.flat,eS.one,eN.flat,eN.one,eO.flat,eO.one,j7,j6,c1,h3',e0 aA,e1 aA,e2 aA]
    refine λ_=>⟨by omega,by omega,by omega,fL _,?_⟩
    rw[show Int.toNat 3=3 from rfl,hsl]
    have hT:=aR8 s (vL L) aA p3
    unfold uV
    by_cases hr:gX s (vL L)
    ·rw[aIT hok hr]at hT
     by_cases hk:rQ s (vL L)
     ·rw[zM hk]at hT
      rw[if_pos ⟨hr,hk⟩]
      simp only[aI.aM,dN.aM,aT.aM,bR.aM]at hT
      refine aH.wl2 hT (dU.cons (hv _ (by repeat'(first|exact Heap.le_refl _|refine Heap.cD ?_|refine Heap.aW kT ?_))) (dU.cons (View.same _ _) dU.nil)) (QA.eQ (w:=λy=>.iF [y,_,_]) (λe he=>aI.tL _ e he) (λx hx=>by simp[aC.eQ,aC.nO,hx])) z2 ⟨sC,aOL⟩ ?_
      rintro r l_ g ⟨e,oe,rfl,rfl⟩ wn z2g z4g
      have vV:=oe
      obtain⟨aBC,aBD,aD7,aDK,aDL,aDM,aDN,rfl,hP,hU,hZ,iA,iC,iD,iE⟩:=vV
      simp -dsimp -implicitDefEqProofs only[go_sem,↓reduceIte,Tryz.f81,OV.aR,OV.aG,OV.bE,aF,aD,hP.flat,hP.one,hU.flat,hU.one,hZ.flat,hZ.one,iA.flat,iA.one,iC.flat,iC.one,iD.flat,iD.one,iE.flat,iE.one,j7,j6,cV,bO,bY]
      exact aPI rfl oe wn (by repeat'(first|exact Heap.le_refl _|refine Heap.cD ?_|refine Heap.aW kT ?_)) aGQ
     ·rw[w6 hk]at hT
      rw[if_neg λq=>hk q.2]
      simp only[aI.aM,dN.aM,aT.aM,bR.aM]at hT
      refine aH.wl2 hT (dU.cons (hv _ (by repeat'(first|exact Heap.le_refl _|refine Heap.cD ?_|refine Heap.aW kT ?_))) (dU.cons (View.same _ _) dU.nil)) (QA.eQ (w:=λy=>.iF [y,_,_]) (λe he=>aI.tL _ e he) (λx hx=>by simp[aC.eQ,aC.nO,hx])) z2 ⟨sC,aOL⟩ ?_
      rintro r l_ g ⟨e,oe,rfl,rfl⟩ wn z2g z4g
      have vV:=oe
      obtain⟨aBC,aBD,aD7,aDK,aDL,aDM,aDN,rfl,hP,hU,hZ,iA,iC,iD,iE⟩:=vV
      simp -dsimp -implicitDefEqProofs only[go_sem,↓reduceIte,Tryz.f81,OV.aR,OV.aG,OV.bE,aF,aD,hP.flat,hP.one,hU.flat,hU.one,hZ.flat,hZ.one,iA.flat,iA.one,iC.flat,iC.one,iD.flat,iD.one,iE.flat,iE.one,j7,j6,cV,bO,bY]
      exact s7 rfl (Heap.le_trans wn.le (by repeat'(first|exact Heap.le_refl _|refine Heap.cD ?_|refine Heap.aW kT ?_))) aM5 rfl
    ·rw[aMB hok hr]at hT
     rw[if_neg λq=>hr q.1]
     simp only[aI.aM,dN.aM,aT.aM,bR.aM]at hT
     refine aH.wl2 hT (dU.cons (hv _ (by repeat'(first|exact Heap.le_refl _|refine Heap.cD ?_|refine Heap.aW kT ?_))) (dU.cons (View.same _ _) dU.nil)) (QA.eQ (w:=λy=>.iF [y,_,_]) (λe he=>aI.tL _ e he) (λx hx=>by simp[aC.eQ,aC.nO,hx])) z2 ⟨sC,aOL⟩ ?_
     rintro r l_ g ⟨e,oe,rfl,rfl⟩ wn z2g z4g
     have vV:=oe
     obtain⟨aBC,aBD,aD7,aDK,aDL,aDM,aDN,rfl,hP,hU,hZ,iA,iC,iD,iE⟩:=vV
     simp -dsimp -implicitDefEqProofs only[go_sem,↓reduceIte,Tryz.f81,OV.aR,OV.aG,OV.bE,aF,aD,hP.flat,hP.one,hU.flat,hU.one,hZ.flat,hZ.one,iA.flat,iA.one,iC.flat,iC.one,iD.flat,iD.one,iE.flat,iE.one,j7,j6,cV,bO,bY]
     exact s7 rfl (Heap.le_trans wn.le (by repeat'(first|exact Heap.le_refl _|refine Heap.cD ?_|refine Heap.aW kT ?_))) aM5 rfl
   ·have h3':((L.length:Int) ≥ 3)=False:=eq_false aA
    rw[if_neg h3]
    have c2:(word=[102,97,105,108])=False:=eq_false a0G
    have c3:(word=[112,111,105,110,116])=False:=eq_false a0G
    have c4:(word=[116,101,114,109])=False:=eq_false a0G
    simp -dsimp -implicitDefEqProofs only[go_sem,↓reduceIte,Tryz.f81,OV.aR,OV.aG,OV.bE,aF,aD,eM.flat,eM.one,eU.flat,eU.one,eJ.flat,eJ.one,eH.flat,eH.one,eS.flat,eS.one,eN.flat,eN.one,eO.flat,eO.one,j7,j6,c1,c2,c3,c4,h3']
    exact λ_=>s7 rfl (by repeat'(first|exact Heap.le_refl _|refine Heap.cD ?_|refine Heap.aW kT ?_)) aP6 rfl
  have c1:(word=[112,97,114,116])=False:=eq_false h1
  rw[if_neg h1]
  by_cases h2:word=aG4
  ·rw[if_pos h2]
   have c2:(word=[102,97,105,108])=True:=eq_true h2
   have c3:(word=[112,111,105,110,116])=False:=eq_false (by rw[h2];decide)
   have c4:(word=[116,101,114,109])=False:=eq_false (by rw[h2];decide)
   by_cases h3:L.length=3
   ·have h3':((L.length:Int)=3)=True:=eq_true aA
    by_cases h4:L.getD 2 0=0
    ·have h4':(L.getD 2 0=0)=True:=eq_true h4
     rw[if_neg λq=>q.2 h4]
     simp -dsimp -implicitDefEqProofs only[go_sem,↓reduceIte,Tryz.f81,OV.aR,OV.aG,OV.bE,aF,aD,eM.flat,eM.one,eU.flat,eU.one,eJ.flat,eJ.one,eH.flat,eH.one,eS.flat,eS.one,eN.flat,eN.one,eO.flat,eO.one,j7,j6,c1,c2,c3,c4,h3',e2 aA,h4']
     exact λ_=>⟨by omega,s7 rfl (by repeat'(first|exact Heap.le_refl _|refine Heap.cD ?_|refine Heap.aW kT ?_)) aP6 rfl⟩
    ·have h4':(L.getD 2 0=0)=False:=eq_false h4
     rw[if_pos ⟨h3,h4⟩]
     simp -dsimp -implicitDefEqProofs only[go_sem,↓reduceIte,Tryz.f81,OV.aR,OV.aG,OV.bE,aF,aD,eM.flat,eM.one,eU.flat,eU.one,eJ.flat,eJ.one,eH.flat,eH.one,eS.flat,eS.one,eN.flat,eN.one,eO.flat,eO.one,j7,j6,c1,c2,c3,c4,h3',e0 aA,e1 aA,e2 aA,h4']
     refine λ_=>⟨by omega,by omega,by omega,by omega,?_⟩
     have hT:=aR8 s (zZ L) aA q3
     unfold uV
     by_cases hr:gX s (zZ L)
     ·rw[aIT hok hr]at hT
      by_cases hk:rQ s (zZ L)
      ·rw[zM hk]at hT
       rw[if_pos ⟨hr,hk⟩]
       simp only[aI.aM,dN.aM,aT.aM,bR.aM]at hT
       refine aH.wl2 hT (dU.cons (hv _ (by repeat'(first|exact Heap.le_refl _|refine Heap.cD ?_|refine Heap.aW kT ?_))) (dU.cons ((View.same _ _).sub (Sub.agg (.cons (.refl _) (.cons (.refl _) (.cons (.refl _) (.cons (.refl _) (.cons (Sub.nil 1 false) .nil))))))) dU.nil)) (QA.eQ (w:=λy=>.iF [y,_,_]) (λe he=>aI.tL _ e he) (λx hx=>by simp[aC.eQ,aC.nO,hx])) z2 ⟨sC,aOL⟩ ?_
       rintro r l_ g ⟨e,oe,rfl,rfl⟩ wn z2g z4g
       have vV:=oe
       obtain⟨aBC,aBD,aD7,aDK,aDL,aDM,aDN,rfl,hP,hU,hZ,iA,iC,iD,iE⟩:=vV
       simp -dsimp -implicitDefEqProofs only[go_sem,↓reduceIte,Tryz.f81,OV.aR,OV.aG,OV.bE,aF,aD,hP.flat,hP.one,hU.flat,hU.one,hZ.flat,hZ.one,iA.flat,iA.one,iC.flat,iC.one,iD.flat,iD.one,iE.flat,iE.one,j7,j6,cV,bO,bY]
       exact aPI rfl oe wn (by repeat'(first|exact Heap.le_refl _|refine Heap.cD ?_|refine Heap.aW kT ?_)) aGQ
      ·rw[w6 hk]at hT
       rw[if_neg λq=>hk q.2]
       simp only[aI.aM,dN.aM,aT.aM,bR.aM]at hT
       refine aH.wl2 hT (dU.cons (hv _ (by repeat'(first|exact Heap.le_refl _|refine Heap.cD ?_|refine Heap.aW kT ?_))) (dU.cons ((View.same _ _).sub (Sub.agg (.cons (.refl _) (.cons (.refl _) (.cons (.refl _) (.cons (.refl _) (.cons (Sub.nil 1 false) .nil))))))) dU.nil)) (QA.eQ (w:=λy=>.iF [y,_,_]) (λe he=>aI.tL _ e he) (λx hx=>by simp[aC.eQ,aC.nO,hx])) z2 ⟨sC,aOL⟩ ?_
       rintro r l_ g ⟨e,oe,rfl,rfl⟩ wn z2g z4g
       have vV:=oe
       obtain⟨aBC,aBD,aD7,aDK,aDL,aDM,aDN,rfl,hP,hU,hZ,iA,iC,iD,iE⟩:=vV
       simp -dsimp -implicitDefEqProofs only[go_sem,↓reduceIte,Tryz.f81,OV.aR,OV.aG,OV.bE,aF,aD,hP.flat,hP.one,hU.flat,hU.one,hZ.flat,hZ.one,iA.flat,iA.one,iC.flat,iC.one,iD.flat,iD.one,iE.flat,iE.one,j7,j6,cV,bO,bY]
       exact s7 rfl (Heap.le_trans wn.le (by repeat'(first|exact Heap.le_refl _|refine Heap.cD ?_|refine Heap.aW kT ?_))) aM5 rfl
     ·rw[aMB hok hr]at hT
      rw[if_neg λq=>hr q.1]
      simp only[aI.aM,dN.aM,aT.aM,bR.aM]at hT
      refine aH.wl2 hT (dU.cons (hv _ (by repeat'(first|exact Heap.le_refl _|refine Heap.cD ?_|refine Heap.aW kT ?_))) (dU.cons ((View.same _ _).sub (Sub.agg (.cons (.refl _) (.cons (.refl _) (.cons (.refl _) (.cons (.refl _) (.cons (Sub.nil 1 false) .nil))))))) dU.nil)) (QA.eQ (w:=λy=>.iF [y,_,_]) (λe he=>aI.tL _ e he) (λx hx=>by simp[aC.eQ,aC.nO,hx])) z2 ⟨sC,aOL⟩ ?_
      rintro r l_ g ⟨e,oe,rfl,rfl⟩ wn z2g z4g
      have vV:=oe
      obtain⟨aBC,aBD,aD7,aDK,aDL,aDM,aDN,rfl,hP,hU,hZ,iA,iC,iD,iE⟩:=vV
      simp -dsimp -implicitDefEqProofs only[go_sem,↓reduceIte,Tryz.f81,OV.aR,OV.aG,OV.bE,aF,aD,hP.flat,hP.one,hU.flat,hU.one,hZ.flat,hZ.one,iA.flat,iA.one,iC.flat,iC.one,iD.flat,iD.one,iE.flat,iE.one,j7,j6,cV,bO,bY]
      exact s7 rfl (Heap.le_trans wn.le (by repeat'(first|exact Heap.le_refl _|refine Heap.cD ?_|refine Heap.aW kT ?_))) aM5 rfl
   ·have h3':((L.length:Int)=3)=False:=eq_false aA
    rw[if_neg λq=>h3 q.1]
    simp -dsimp -implicitDefEqProofs only[go_sem,↓reduceIte,Tryz.f81,OV.aR,OV.aG,OV.bE,aF,aD,eM.flat,eM.one,eU.flat,eU.one,eJ.flat,eJ.one,eH.flat,eH.one,eS.flat,eS.one,eN.flat,eN.one,eO.flat,eO.one,j7,j6,c1,c2,c3,c4,h3']
    exact λ_=>s7 rfl (by repeat'(first|exact Heap.le_refl _|refine Heap.cD ?_|refine Heap.aW kT ?_)) aP6 rfl
  have c2:(word=[102,97,105,108])=False:=eq_false h2
  rw[if_neg h2]
  by_cases h3:word=a7U
  ·rw[if_pos h3]
   have c3:(word=[112,111,105,110,116])=True:=eq_true h3
   simp -dsimp -implicitDefEqProofs only[go_sem,↓reduceIte,Tryz.f81,OV.aR,OV.aG,OV.bE,aF,aD,eM.flat,eM.one,eU.flat,eU.one,eJ.flat,eJ.one,eH.flat,eH.one,eS.flat,eS.one,eN.flat,eN.one,eO.flat,eO.one,j7,j6,c1,c2,c3]
   have hT:=a2Z s L aA aA
   unfold aG5
   by_cases hp:aDU s L
   ·by_cases hk:xO s L
    ·rw[aMS hok hp hk]at hT
     rw[if_neg λq=>q.2 hk]
     simp only[aI.aM,dN.aM]at hT
     refine aH.wl2 hT (dU.cons (hv _ (by repeat'(first|exact Heap.le_refl _|refine Heap.cD ?_|refine Heap.aW kT ?_))) (dU.cons (View.same _ _) dU.nil)) (QA.eQ (w:=λy=>.iF [y,_]) (λe he=>aI.tL _ e he) (λx hx=>by simp[aC.eQ,aC.nO,hx])) z2 ⟨sC,aOL⟩ ?_
     rintro r l_ g ⟨e,oe,rfl,rfl⟩ wn z2g z4g
     have vV:=oe
     obtain⟨aBC,aBD,aD7,aDK,aDL,aDM,aDN,rfl,hP,hU,hZ,iA,iC,iD,iE⟩:=vV
     simp -dsimp -implicitDefEqProofs only[go_sem,↓reduceIte,Tryz.f81,OV.aR,OV.aG,OV.bE,aF,aD,hP.flat,hP.one,hU.flat,hU.one,hZ.flat,hZ.one,iA.flat,iA.one,iC.flat,iC.one,iD.flat,iD.one,iE.flat,iE.one,j7,j6,cV,bO,bY]
     exact s7 rfl (Heap.le_trans wn.le (by repeat'(first|exact Heap.le_refl _|refine Heap.cD ?_|refine Heap.aW kT ?_))) aM5 rfl
    ·rw[aSO hok hp hk]at hT
     rw[if_pos ⟨hp,hk⟩]
     simp only[aI.aM,dN.aM]at hT
     refine aH.wl2 hT (dU.cons (hv _ (by repeat'(first|exact Heap.le_refl _|refine Heap.cD ?_|refine Heap.aW kT ?_))) (dU.cons (View.same _ _) dU.nil)) (QA.eQ (w:=λy=>.iF [y,_]) (λe he=>aI.tL _ e he) (λx hx=>by simp[aC.eQ,aC.nO,hx])) z2 ⟨sC,aOL⟩ ?_
     rintro r l_ g ⟨e,oe,rfl,rfl⟩ wn z2g z4g
     have vV:=oe
     obtain⟨aBC,aBD,aD7,aDK,aDL,aDM,aDN,rfl,hP,hU,hZ,iA,iC,iD,iE⟩:=vV
     simp -dsimp -implicitDefEqProofs only[go_sem,↓reduceIte,Tryz.f81,OV.aR,OV.aG,OV.bE,aF,aD,hP.flat,hP.one,hU.flat,hU.one,hZ.flat,hZ.one,iA.flat,iA.one,iC.flat,iC.one,iD.flat,iD.one,iE.flat,iE.one,j7,j6,cV,bO,bY]
     exact aPI rfl oe wn (by repeat'(first|exact Heap.le_refl _|refine Heap.cD ?_|refine Heap.aW kT ?_)) aGQ
   ·rw[aV2 hok hp]at hT
    rw[if_neg λq=>hp q.1]
    simp only[aI.aM,dN.aM]at hT
    refine aH.wl2 hT (dU.cons (hv _ (by repeat'(first|exact Heap.le_refl _|refine Heap.cD ?_|refine Heap.aW kT ?_))) (dU.cons (View.same _ _) dU.nil)) (QA.eQ (w:=λy=>.iF [y,_]) (λe he=>aI.tL _ e he) (λx hx=>by simp[aC.eQ,aC.nO,hx])) z2 ⟨sC,aOL⟩ ?_
    rintro r l_ g ⟨e,oe,rfl,rfl⟩ wn z2g z4g
    have vV:=oe
    obtain⟨aBC,aBD,aD7,aDK,aDL,aDM,aDN,rfl,hP,hU,hZ,iA,iC,iD,iE⟩:=vV
    simp -dsimp -implicitDefEqProofs only[go_sem,↓reduceIte,Tryz.f81,OV.aR,OV.aG,OV.bE,aF,aD,hP.flat,hP.one,hU.flat,hU.one,hZ.flat,hZ.one,iA.flat,iA.one,iC.flat,iC.one,iD.flat,iD.one,iE.flat,iE.one,j7,j6,cV,bO,bY]
    exact s7 rfl (Heap.le_trans wn.le (by repeat'(first|exact Heap.le_refl _|refine Heap.cD ?_|refine Heap.aW kT ?_))) aM5 rfl
  have c3:(word=[112,111,105,110,116])=False:=eq_false h3
  rw[if_neg h3]
  by_cases h4:word=bIV
  ·rw[if_pos h4]
   have c4:(word=[116,101,114,109])=True:=eq_true h4
   by_cases h5:1<=L.length
   ·have h5':((L.length:Int) ≥ 1)=True:=eq_true aA
    rw[if_pos h5]
    simp -dsimp -implicitDefEqProofs only[go_sem,↓reduceIte,Tryz.f81,OV.aR,OV.aG,OV.bE,aF,aD,eM.flat,eM.one,eU.flat,eU.one,eJ.flat,eJ.one,eH.flat,eH.one,eS.flat,eS.one,eN.flat,eN.one,eO.flat,eO.one,j7,j6,c1,c2,c3,c4,h5',e0 aA]
    refine λ_=>⟨by omega,fL _,?_⟩
    rw[show Int.toNat 1=1 from rfl,hsl]
    have hT:=a7A s (L.getD 0 0) (L.drop 1) aA a9E
    unfold aG6
    by_cases hp:qO s (L.getD 0 0) (L.drop 1)
    ·by_cases hk:s.aP[(L.getD 0 0).toNat]?=some 50
     ·rw[aVJ hok hp hk]at hT
      rw[if_neg λq=>q.2 hk]
      simp only[aI.aM,dN.aM]at hT
      refine aH.wl2 hT (dU.cons (hv _ (by repeat'(first|exact Heap.le_refl _|refine Heap.cD ?_|refine Heap.aW kT ?_))) (dU.cons (View.same _ _) (dU.cons (View.same _ _) dU.nil))) (QA.eQ (w:=λy=>.iF [y,_]) (λe he=>aI.tL _ e he) (λx hx=>by simp[aC.eQ,aC.nO,hx])) z2 ⟨sC,aOL⟩ ?_
      rintro r l_ g ⟨e,oe,rfl,rfl⟩ wn z2g z4g
      have vV:=oe
      obtain⟨aBC,aBD,aD7,aDK,aDL,aDM,aDN,rfl,hP,hU,hZ,iA,iC,iD,iE⟩:=vV
      simp -dsimp -implicitDefEqProofs only[go_sem,↓reduceIte,Tryz.f81,OV.aR,OV.aG,OV.bE,aF,aD,hP.flat,hP.one,hU.flat,hU.one,hZ.flat,hZ.one,iA.flat,iA.one,iC.flat,iC.one,iD.flat,iD.one,iE.flat,iE.one,j7,j6,cV,bO,bY]
      exact s7 rfl (Heap.le_trans wn.le (by repeat'(first|exact Heap.le_refl _|refine Heap.cD ?_|refine Heap.aW kT ?_))) aM5 rfl
     ·rw[aR9 hok hp hk]at hT
      rw[if_pos ⟨hp,hk⟩]
      simp only[aI.aM,dN.aM]at hT
      refine aH.wl2 hT (dU.cons (hv _ (by repeat'(first|exact Heap.le_refl _|refine Heap.cD ?_|refine Heap.aW kT ?_))) (dU.cons (View.same _ _) (dU.cons (View.same _ _) dU.nil))) (QA.eQ (w:=λy=>.iF [y,_]) (λe he=>aI.tL _ e he) (λx hx=>by simp[aC.eQ,aC.nO,hx])) z2 ⟨sC,aOL⟩ ?_
      rintro r l_ g ⟨e,oe,rfl,rfl⟩ wn z2g z4g
      have vV:=oe
      obtain⟨aBC,aBD,aD7,aDK,aDL,aDM,aDN,rfl,hP,hU,hZ,iA,iC,iD,iE⟩:=vV
      simp -dsimp -implicitDefEqProofs only[go_sem,↓reduceIte,Tryz.f81,OV.aR,OV.aG,OV.bE,aF,aD,hP.flat,hP.one,hU.flat,hU.one,hZ.flat,hZ.one,iA.flat,iA.one,iC.flat,iC.one,iD.flat,iD.one,iE.flat,iE.one,j7,j6,cV,bO,bY]
      exact aPI rfl oe wn (by repeat'(first|exact Heap.le_refl _|refine Heap.cD ?_|refine Heap.aW kT ?_)) aGQ
    ·rw[aMC hok hp]at hT
     rw[if_neg λq=>hp q.1]
     simp only[aI.aM,dN.aM]at hT
     refine aH.wl2 hT (dU.cons (hv _ (by repeat'(first|exact Heap.le_refl _|refine Heap.cD ?_|refine Heap.aW kT ?_))) (dU.cons (View.same _ _) (dU.cons (View.same _ _) dU.nil))) (QA.eQ (w:=λy=>.iF [y,_]) (λe he=>aI.tL _ e he) (λx hx=>by simp[aC.eQ,aC.nO,hx])) z2 ⟨sC,aOL⟩ ?_
     rintro r l_ g ⟨e,oe,rfl,rfl⟩ wn z2g z4g
     have vV:=oe
     obtain⟨aBC,aBD,aD7,aDK,aDL,aDM,aDN,rfl,hP,hU,hZ,iA,iC,iD,iE⟩:=vV
     simp -dsimp -implicitDefEqProofs only[go_sem,↓reduceIte,Tryz.f81,OV.aR,OV.aG,OV.bE,aF,aD,hP.flat,hP.one,hU.flat,hU.one,hZ.flat,hZ.one,iA.flat,iA.one,iC.flat,iC.one,iD.flat,iD.one,iE.flat,iE.one,j7,j6,cV,bO,bY]
     exact s7 rfl (Heap.le_trans wn.le (by repeat'(first|exact Heap.le_refl _|refine Heap.cD ?_|refine Heap.aW kT ?_))) aM5 rfl
   ·have h5':((L.length:Int) ≥ 1)=False:=eq_false aA
    rw[if_neg h5]
    simp -dsimp -implicitDefEqProofs only[go_sem,↓reduceIte,Tryz.f81,OV.aR,OV.aG,OV.bE,aF,aD,eM.flat,eM.one,eU.flat,eU.one,eJ.flat,eJ.one,eH.flat,eH.one,eS.flat,eS.one,eN.flat,eN.one,eO.flat,eO.one,j7,j6,c1,c2,c3,c4,h5']
    exact λ_=>s7 rfl (by repeat'(first|exact Heap.le_refl _|refine Heap.cD ?_|refine Heap.aW kT ?_)) aP6 rfl
  ·have c4:(word=[116,101,114,109])=False:=eq_false h4
   rw[if_neg h4]
   simp -dsimp -implicitDefEqProofs only[go_sem,↓reduceIte,Tryz.f81,OV.aR,OV.aG,OV.bE,aF,aD,eM.flat,eM.one,eU.flat,eU.one,eJ.flat,eJ.one,eH.flat,eH.one,eS.flat,eS.one,eN.flat,eN.one,eO.flat,eO.one,j7,j6,c1,c2,c3,c4]
   exact s7 rfl (by repeat'(first|exact Heap.le_refl _|refine Heap.cD ?_|refine Heap.aW kT ?_)) aP6 rfl
theorem a22 {j:dN} (hj:j.ok):j.s<=10000:=by
 have:=aSW hj.1
 have h2:=j.fQ
 obtain⟨-,htl,hpl,htt⟩:=yR hj
 have h4:=aK5 (λx:List Int=>x.length) 12 j.aQ htt
 have h8:12*j.aQ.length<=12*10:=a8P _ htl
 rw[fF]at h2
 omega
theorem aYY {j:dN} (h:j.ok):(tR j).ok:=by
 refine⟨h,⟨al9,al9,al9,al9⟩,λk st ow kn p e1 e2 e3 e4=>?_⟩
 simp only[tR]at e1 e2 e3 e4
 obtain⟨-,rfl⟩:=aUC.1 (rS e1)
 obtain⟨-,rfl⟩:=aUC.1 (rS e2)
 obtain⟨-,rfl⟩:=aUC.1 (rS e3)
 obtain⟨-,rfl⟩:=aUC.1 (rS e4)
 exact⟨⟨by omega,by omega⟩,⟨by omega,by omega⟩,(λq=>by cases q),λ_=>⟨rfl,rfl,rfl⟩⟩
@[go_sem] def bI6:List Nat:=[0,1,2,4,5,6,7,8,9,11,12,13,14,15,16,34,49,59]
@[go_sem] def b1Y:Marks:=λid=>match id with|8=>([5],(.op 0 (.op 1 (.op 2 (.op 3 (.op 4 (.op 5 (.op 6 .nil))))))),[])|_=>([],.nil,[])
set_option maxHeartbeats 2000000 in
theorem bI7 {j:dN} (hj:j.ok) (text:List UInt8) (ht:text.length<=6000):tU Tryz.prog 28 [.agg j.c,.str text] (QA (xC (tR j) 1 (mH 10 text)).1.o (λy=>.iF [y,I (xC (tR j) 1 (mH 10 text)).2])):=by
 have hjs:j.s<=10000:=a22 hj
 have hnw:=a6C j aA (by have:=(yR hj).2.1;omega)
 simp only[dN.aM]at hnw ⊢
 refine x9 69 bI6 aBW b1Y Tryz.func28 λh=>?_
 simp -dsimp -implicitDefEqProofs only[go_sem,↓reduceIte,Tryz.f28]
 intro n4 z4
 refine aH.wn1 hnw z4 ?_
 rintro r l_ g ⟨e,oe,rfl,rfl⟩ wn z4g
 have vV:=oe
 obtain⟨fH,fV,gC,rA,s6,rC,tS,rfl,eM,eU,eJ,eH,eS,eN,eO⟩:=vV
 simp -dsimp -implicitDefEqProofs only[go_sem,↓reduceIte,Tryz.f28,OV.aR,OV.aG,OV.bE,aF,aD,eM.flat,eM.one,eU.flat,eU.one,eJ.flat,eJ.one,eH.flat,eH.one,eS.flat,eS.one,eN.flat,eN.one,eO.flat,eO.one]
 intro n6 aKR
 obtain⟨mD,fZ,gA,aDJ⟩:=cE (show ¬n6=n4 from iS aKR)
 have p5:g n6=none:=iS aKR
 refine cY bI6 aBW b1Y (λx:aI×List OV×Heap×Int×Nat=>[(1,.str text),(4,.op n4 9 0 0),(6,.op n6 9 0 0),(7,I x.2.2.2.1),(8,I x.2.2.2.2)]) (λx=>bT (bT x.2.2.1 n4 (.row 9 [[.v .aV,.v (I 0),.v (I 0),.v .aV,.v .aV,.v .aV,.v .aV,.v .aV,.v .aV]])) n6 (.row 9 (OV.cells [x.2.1]))) (λx=>x.1.ok/\nJ x.2.2.2.1/\x.1.o x.2.1/\eW h (OV.cQ x.2.1) x.2.2.1/\x.2.2.1 n4=none/\x.2.2.1 n6=none/\x.2.2.2.2<=text.length/\xC (tR j) 1 (mH 10 text)=((xC x.1 x.2.2.2.1 (mH 10 (text.drop x.2.2.2.2))).1,x.2.2.2.2+(xC x.1 x.2.2.2.1 (mH 10 (text.drop x.2.2.2.2))).2)) (λx=>text.length-x.2.2.2.2) (tR j,[fH,.v (.int .i64 (tR j).bA.b5),.v (.int .i64 (tR j).bA.aU),fV,gC,rA,s6,rC,tS],g,1,0) ⟨by simp[dT,dB],by simp only[cV,bO,bY];exact Heap.le_refl _,aYY hj,(show nJ 1 by unfold nJ;omega),oe,wn,z4g,p5,iZ _,by simp⟩ ?_
 clear oe wn z4g p5
 rintro⟨s,e,g,b,k⟩ ⟨hs,hb,oe,wn,z4g,z6g,hk,hrun⟩
 simp only at hs hb oe wn z4g z6g hk hrun ⊢
 have hcut:=bZE (text.drop k) [10] a9E
 have htk:text.take text.length=text:=gF (fL _)
 have vV:=oe
 obtain⟨aBC,aBD,aD7,aDK,aDL,aDM,aDN,rfl,hP,hU,hZ,iA,iC,iD,iE⟩:=vV
 simp -dsimp -implicitDefEqProofs only[go_sem,↓reduceIte,Tryz.f28,htk]
 refine⟨hk,fL _,?_⟩
 have hend:xC (tR j) 1 (mH 10 text)=(s,k)->∀ (H:Heap) (x:aC),g.le H->x=.agg ([aBC,.v (.int .i64 s.bA.b5),.v (.int .i64 s.bA.aU),aBD,aD7,aDK,aDL,aDM,aDN].map OV.val)->∃ r1 g l,Shift (.iF [x,I k]) H r1 g/\QA (xC (tR j) 1 (mH 10 text)).1.o (λy=>.iF [y,I (xC (tR j) 1 (mH 10 text)).2]) r1 l/\eW h l g:=λq H x hl hx=>by
  rw[q,hx]
  exact aF6 (w:=λy=>.iF [y,I k]) oe wn hl
 have hlen:(text.drop k).length=text.length-k:=aLG
 rcases pD 10 (text.drop k)with hno|⟨a,r,hna,hrest⟩
 ·rw[aPK 10 _ hno]at hcut
  have hlx:=bI4 (text.drop k) 32 aA
  rw[show((32:UInt8).toNat:Int)=32 from rfl]at hlx
  first|refine aH.mk (hcut) ?_|refine aE.mk (hcut) ?_|refine aH.b7 (hcut) ?_|refine aE.mk (bX.eA (hcut)) ?_
  simp -dsimp -implicitDefEqProofs only[go_sem,↓reduceIte,Tryz.f28]
  first|refine aH.mk (hlx) ?_|refine aE.mk (hlx) ?_|refine aH.b7 (hlx) ?_|refine aE.mk (bX.eA (hlx)) ?_
  simp -dsimp -implicitDefEqProofs only[go_sem,↓reduceIte,Tryz.f28]
  simp -dsimp -implicitDefEqProofs only[go_sem,↓reduceIte,Tryz.f28,OV.aR,OV.aG,OV.bE,aF,aD,hP.flat,hP.one,hU.flat,hU.one,hZ.flat,hZ.one,iA.flat,iA.one,iC.flat,iC.one,iD.flat,iD.one,iE.flat,iE.one,gA,fZ,cV,bO,bY]
  exact hend (by rw[hrun,tV _ hno];rfl) _ _ (by repeat'(first|exact Heap.le_refl _|refine Heap.cD ?_|refine Heap.aW kT ?_)) aGQ
 ·rw[hrest,aWD 10 _ _ hna]at hcut
  rw[hrest]
  have hal:a.length+1+r.length=text.length-k:=by rw[←hlen,hrest,rL,al2];omega
  obtain⟨m,q,hm⟩:∃ m q,mH 10 r=m::q:=by
   cases e:mH 10 r with
   |nil=>exact absurd e (aG7 10 r)
   |cons m q=>exact⟨m,q,rfl⟩
  rw[hrest,aCE a r hna,hm]at hrun
  have hlx:=bI4 a 32 aA
  rw[show((32:UInt8).toNat:Int)=32 from rfl]at hlx
  rcases tO 32 a with⟨hl,hn⟩|⟨w,u,rfl,hn,hl⟩
  ·rw[hl]at hlx
   first|refine aH.mk (hcut) ?_|refine aE.mk (hcut) ?_|refine aH.b7 (hcut) ?_|refine aE.mk (bX.eA (hcut)) ?_
   simp -dsimp -implicitDefEqProofs only[go_sem,↓reduceIte,Tryz.f28]
   first|refine aH.mk (hlx) ?_|refine aE.mk (hlx) ?_|refine aH.b7 (hlx) ?_|refine aE.mk (bX.eA (hlx)) ?_
   simp -dsimp -implicitDefEqProofs only[go_sem,↓reduceIte,Tryz.f28]
   simp -dsimp -implicitDefEqProofs only[go_sem,↓reduceIte,Tryz.f28,OV.aR,OV.aG,OV.bE,aF,aD,hP.flat,hP.one,hU.flat,hU.one,hZ.flat,hZ.one,iA.flat,iA.one,iC.flat,iC.one,iD.flat,iD.one,iE.flat,iE.one,gA,fZ,cV,bO,bY]
   exact hend (by rw[hrun,aK4 (aSU hn)];rfl) _ _ (by repeat'(first|exact Heap.le_refl _|refine Heap.cD ?_|refine Heap.aW kT ?_)) aGQ
  ·rw[hl]at hlx
   have hwl:w.length+1+u.length=(w++32::u).length:=by rw[rL,al2];omega
   have htw:(w++32::u).take w.length=w:=aZW rfl
   have hdw:List.drop (w.length+1) (List.take (w++32::u).length (w++32::u))=u:=by rw[eL];exact yS w u 32
   have hck:=checked b w hb aA
   have hdc:=decimal (xP b w) (zR w hb)
   have hlo:=aST (s:=s) (b:=b) (words:=w) hn
   first|refine aH.mk (hcut) ?_|refine aE.mk (hcut) ?_|refine aH.b7 (hcut) ?_|refine aE.mk (bX.eA (hcut)) ?_
   simp -dsimp -implicitDefEqProofs only[go_sem,↓reduceIte,Tryz.f28]
   first|refine aH.mk (hlx) ?_|refine aE.mk (hlx) ?_|refine aH.b7 (hlx) ?_|refine aE.mk (bX.eA (hlx)) ?_
   simp -dsimp -implicitDefEqProofs only[go_sem,↓reduceIte,Tryz.f28]
   refine⟨λq=>absurd q aA,λ_=>⟨iZ _,by omega,?_⟩⟩
   rw[htw]
   have e1:IntKind.i64.wrap ((w.length:Int)+1)=((w.length+1:Nat):Int):=IntWalk.i64_in _ aA
   first|refine aH.mk (hck) ?_|refine aE.mk (hck) ?_|refine aH.b7 (hck) ?_|refine aE.mk (bX.eA (hck)) ?_
   simp -dsimp -implicitDefEqProofs only[go_sem,↓reduceIte,Tryz.f28,Option.toArray_none,Option.toArray_some,List.filterMap_cons,List.filterMap_nil,List.elem_cons_self,al0,wP,bR2,e1]
   refine⟨by omega,by omega,?_⟩
   rw[hdw]
   first|refine aH.mk (hdc) ?_|refine aE.mk (hdc) ?_|refine aH.b7 (hdc) ?_|refine aE.mk (bX.eA (hdc)) ?_
   simp -dsimp -implicitDefEqProofs only[go_sem,↓reduceIte,Tryz.f28,Option.toArray_none,Option.toArray_some,List.filterMap_cons,List.filterMap_nil,List.elem_cons_self,al0,wP,bR2,e1]
   refine⟨λhne=>?_,λheq=>?_⟩
   ·simp -dsimp -implicitDefEqProofs only[go_sem,↓reduceIte,Tryz.f28,OV.aR,OV.aG,OV.bE,aF,aD,hP.flat,hP.one,hU.flat,hU.one,hZ.flat,hZ.one,iA.flat,iA.one,iC.flat,iC.one,iD.flat,iD.one,iE.flat,iE.one,gA,fZ,cV,bO,bY]
    exact hend (by rw[hrun,aK4 (by rw[hlo,if_neg hne])];rfl) _ _ (by repeat'(first|exact Heap.le_refl _|refine Heap.cD ?_|refine Heap.aW kT ?_)) aGQ
   rw[if_pos heq]at hlo
   simp -dsimp -implicitDefEqProofs only[go_sem,↓reduceIte,Tryz.f28,OV.aR,OV.aG,OV.bE,aF,aD,hP.flat,hP.one,hU.flat,hU.one,hZ.flat,hZ.one,iA.flat,iA.one,iC.flat,iC.one,iD.flat,iD.one,iE.flat,iE.one,gA,fZ,cV,bO,bY]
   have hap:=λ(H:Heap) (hH:g.le H)=>bN3 s w hs aA oe (h:=H) (λp hp=>Heap.aE8 hH (wn.oJ p hp))
   simp only[OV.aR,OV.aG,OV.bE]at hap
   refine aH.kF (hap _ (by repeat'(first|exact Heap.le_refl _|refine Heap.cD ?_|refine Heap.aW kT ?_))) ?_
   rintro r_ h' (⟨s2,e2,ho,oe2,rfl,oX⟩|⟨ho,x,rfl,hx,hx9,rfl⟩)
   ·obtain⟨g2,rfl,oX,z42,z62⟩:=oX.un2 z4g ⟨mD,z6g⟩
    have oe3:=oe2
    obtain⟨b1Z,b10,b11,b12,b13,b14,b15,rfl,aSX,aSY,aSZ,aS0,aS1,aS2,aS3⟩:=oe3
    simp -dsimp -implicitDefEqProofs only[go_sem,↓reduceIte,Tryz.f28,OV.aR,OV.aG,OV.bE,aF,aD,hP.flat,hP.one,hU.flat,hU.one,hZ.flat,hZ.one,iA.flat,iA.one,iC.flat,iC.one,iD.flat,iD.one,iE.flat,iE.one,aSX.flat,aSX.one,aSY.flat,aSY.one,aSZ.flat,aSZ.one,aS0.flat,aS0.one,aS1.flat,aS1.one,aS2.flat,aS2.one,aS3.flat,aS3.one,gA,fZ,cV,bO,bY]
    intro n15 aS4
    obtain⟨bI8,aS5,aS6,bI9⟩:=cE (show ¬n15=n6 from iS aS4)
    obtain⟨a23,aS7,aS8,bJA⟩:=cE (show ¬n15=n4 from iS aS4)
    have bRP:g2 n15=none:=iS aS4
    simp -dsimp -implicitDefEqProofs only[go_sem,↓reduceIte,Tryz.f28,OV.aR,OV.aG,OV.bE,aF,aD,hP.flat,hP.one,hU.flat,hU.one,hZ.flat,hZ.one,iA.flat,iA.one,iC.flat,iC.one,iD.flat,iD.one,iE.flat,iE.one,aSX.flat,aSX.one,aSY.flat,aSY.one,aSZ.flat,aSZ.one,aS0.flat,aS0.one,aS1.flat,aS1.one,aS2.flat,aS2.one,aS3.flat,aS3.one,gA,aS8,fZ,aS6,aS7,aS5,cV,bO,bY]
    obtain⟨g3,wG,wn3⟩:=wn.next oX
    have b6P:vY s b (w++32::u)=some (s2,xP b w):=by rw[hlo,ho];rfl
    have hdr:text.drop (k+(w++32::u).length+1)=r:=by rw[bE3,←aM3,hrest,yS]
    have z43:=Heap.le_none wG z42
    have z63:=Heap.le_none wG z62
    have b6Q:=Heap.le_none wG bRP
    refine λ_=>⟨(s2,[b1Z,.v (.int .i64 s2.bA.b5),.v (.int .i64 s2.bA.aU),b10,b11,b12,b13,b14,b15],g3,xP b w,k+(w++32::u).length+1),⟨rfl,?_⟩,?_,⟨bB1 hs ho,zR w hb,oe2,wn3,z43,z63,by simp only;omega,?_⟩,by simp only;omega⟩
    ·rw[IntWalk.i64_in ((k:Int)+_) aA,IntWalk.i64_in _ aA];rfl
    ·simp only[lU,tP,OV.bE]
     exact Heap.cD (Heap.aW (by rw[aD _ _ _ _ a23];exact b6Q) (Heap.aW (by rw[aD _ _ _ _ mD];exact z63) (Heap.cD wG)))
    ·simp only
     rw[hdr,hrun,bB3 b6P,hm]
     exact Prod.ext rfl (by simp only;omega)
   ·obtain⟨x0,x1,x2,x3,x4,x5,x6,x7,x8,rfl⟩:=nine hx9
    simp only[al7,List.all_nil,oN,Bool.and_true]at hx
    obtain⟨f0,f1,f2,f3,f4,f5,f6,f7,f8⟩:=hx
    simp -dsimp -implicitDefEqProofs only[go_sem,↓reduceIte,Tryz.f28,OV.aR,OV.aG,OV.bE,aF,aD,hP.flat,hP.one,hU.flat,hU.one,hZ.flat,hZ.one,iA.flat,iA.one,iC.flat,iC.one,iD.flat,iD.one,iE.flat,iE.one,gA,fZ,cV,bO,bY,f0,f1,f2,f3,f4,f5,f6,f7,f8]
    intro n15 aS4
    obtain⟨bI8,aS5,aS6,bI9⟩:=cE (show ¬n15=n6 from iS aS4)
    obtain⟨a23,aS7,aS8,bJA⟩:=cE (show ¬n15=n4 from iS aS4)
    have bRP:g n15=none:=iS aS4
    simp -dsimp -implicitDefEqProofs only[go_sem,↓reduceIte,Tryz.f28,OV.aR,OV.aG,OV.bE,aF,aD,hP.flat,hP.one,hU.flat,hU.one,hZ.flat,hZ.one,iA.flat,iA.one,iC.flat,iC.one,iD.flat,iD.one,iE.flat,iE.one,gA,aS8,fZ,aS6,aS7,aS5,cV,bO,bY]
    exact hend (by rw[hrun,aK4 (by rw[hlo,ho];rfl)];rfl) _ _ (by repeat'(first|exact Heap.le_refl _|refine Heap.cD ?_|refine Heap.aW kT ?_)) aGQ
@[go_sem] def b9Q:List Nat:=[0,1,2,4,5,6,7,8,9,14]
theorem bN4 (b:Int) (w:List UInt8) (hb:nJ b) (hl:w.length<=1000000):dQ Tryz.prog 118 [I b,.str w] (.str (w++32::(Go.Lib.itoa (xP b w)++[10]))):=by
 have hc:=zR w hb
 have hlen:=a1N hc
 have hck:=bI3 b w hb aA
 unfold nJ at hc
 have hdc:=aJ9 1000003 (xP b w) hc.1 aA aA
 refine dI 13 zG cG b9 Tryz.func118 λh=>?_
 simp -dsimp -implicitDefEqProofs only[go_sem,↓reduceIte,Tryz.f118]
 repeat'(with_reducible first|intro _|refine And.intro ?_ ?_)
 all_goals try(first|omega|decide)
 first|refine aH.mk (hck) ?_|refine aE.mk (hck) ?_|refine aH.b7 (hck) ?_|refine aE.mk (bX.eA (hck)) ?_
 simp -dsimp -implicitDefEqProofs only[go_sem,↓reduceIte,Tryz.f118]
 first|refine aH.mk (hdc) ?_|refine aE.mk (hdc) ?_|refine aH.b7 (hdc) ?_|refine aE.mk (bX.eA (hdc)) ?_
 simp -dsimp -implicitDefEqProofs only[go_sem,↓reduceIte,Tryz.f118]
 refine⟨by simp only[rL,al2,al3];omega,by simp only[rL,al2,al3];omega,by simp⟩
@[go_sem] def bJB:List Nat:=[0,2,3,4,5,11,17]
theorem bN5 (pre u:List UInt8) (hu:(32:UInt8)∉u) (hr:rK 999999999 u) (hl:pre.length+u.length<=1000000):dQ Tryz.prog 70 [.str (pre++32::(u++[10]))] (I (rdN u)):=by
 have hlen:(pre++32::(u++[10])).length=pre.length+1+u.length+1:=by simp;omega
 have hat:∀ k,k<u.length->(pre++32::(u++[10]))[pre.length+1+k]?=u[k]?:=λk hk=>by
  rw[aEC aA,show pre.length+1+k-pre.length=k+1 by omega,aUB,aGO hk]
 have h32:(pre++32::(u++[10]))[pre.length]?=some 32:=by
  rw[aEC (fL _),aLH,a32]
 have hsl:List.drop (pre.length+1) (List.take (pre.length+1+u.length) (pre++32::(u++[10])))=u:=by
  rw[bE4,show pre++32::(u++[10])=(pre++[32])++(u++[10])by simp,List.drop_left' aS,show pre.length+1+u.length-(pre.length+1)=u.length by omega,aZW rfl]
 have hrd:=aD2 u aA
 rw[if_pos hr]at hrd
 generalize hJ:pre++32::(u++[10])=J at *
 have e1:IntKind.i64.wrap ((J.length:Int)-1)=((pre.length+1+u.length:Nat):Int):=by rw[IntWalk.i64_in _ aA];omega
 refine dI 29 bJB cG b9 Tryz.func70 λh=>?_
 simp -dsimp -implicitDefEqProofs only[go_sem,↓reduceIte,Tryz.f70,e1]
 refine λ_=>⟨λq=>by omega,λ_=>?_⟩
 refine cY bJB cG b9 (λk:Nat=>[(0,.str J),(3,I (pre.length+1+u.length:Nat)),(4,I (pre.length+1+u.length-k:Nat))]) (λ_=>h) (λk=>k<=u.length) (λk=>u.length-k) 0 ⟨by simp[dT,dB],Heap.le_refl _,iZ _⟩ ?_
 intro k hk
 have e2:IntKind.i64.wrap (((pre.length+1+u.length-k:Nat):Int)-1)=((pre.length+u.length-k:Nat):Int):=by rw[IntWalk.i64_in _ aA];omega
 rcases cP k u.length with hlt|hge
 ·have ea:J[pre.length+u.length-k]?=some (u[u.length-1-k]'aA):=by
   rw[show pre.length+u.length-k=pre.length+1+(u.length-1-k)by omega,hat _ aA,b6]
  have hne:¬(u[u.length-1-k]'aA).toNat=32:=λq=>hu (by
   have:u[u.length-1-k]'aA=32:=aZS q
   rw[←this];exact dG _)
  simp -dsimp -implicitDefEqProofs only[go_sem,↓reduceIte,Tryz.f70,e2,ea]
  exact⟨λ_=>⟨k+1,by omega,by omega,by omega⟩,λq=>absurd aA hne⟩
 ·obtain rfl:k=u.length:=by omega
  have ea:J[pre.length+u.length-u.length]?=some 32:=by rw[bFG];exact h32
  simp -dsimp -implicitDefEqProofs only[go_sem,↓reduceIte,Tryz.f70,e2,ea]
  refine⟨λq=>absurd rfl q,λ_=>⟨by omega,by omega,?_⟩⟩
  rw[show pre.length+1+u.length-u.length=pre.length+1 by omega,hsl]
  first|refine aH.mk (hrd) ?_|refine aE.mk (hrd) ?_|refine aH.b7 (hrd) ?_|refine aE.mk (bX.eA (hrd)) ?_
  simp -dsimp -implicitDefEqProofs only[go_sem,↓reduceIte,Tryz.f70]
theorem Sub.ipC {sz i off:Nat} {e e':List aC} (s:bQ e e'):Sub (.ip sz [e] i off) (.ip sz [e'] i off):=λE h w v r=>by
 cases r with
 |ip _ _ _ _ b o cv hi hs hc h1 hr =>
  have hat:∀ i' j y,kE [e'] i' j=some y->∃ x,kE [e] i' j=some x/\Sub x y:=by
   intro i' j y hy
   obtain⟨e1,q1,q2⟩:=mY hy
   cases i' with
   |succ n=>simp at q1
   |zero =>
    simp at q1;subst q1
    have hj:=(mU.1 q2).1
    have hx:e[j]?=some (e[j]'(by rw[s.1];exact hj)):=b6 _
    exact⟨_,by simp[kE,hx],s.2 j _ _ hx q2⟩
  exact fY.ip (E:=E) (h:=h) (w:=w) sz [e'] i off b o cv hi (λe1 he'=>by simp at he';subst he';rw[←s.1];exact hs e aS)
   (λi' j y hy=>by obtain⟨x,hx,_⟩:=hat i' j y hy;exact hc i' j x hx)
   (λi' j y hy=>by obtain⟨x,hx,_⟩:=hat i' j y hy;exact h1 i' j x hx)
   (λi' j y hy=>by obtain⟨x,hx,q⟩:=hat i' j y hy;exact q E h w _ (hr i' j x hx))
def b16 (s:aI) (w:List UInt8) (n:List Int) (r:aC) (e':List OV):Prop:=(∃ s',mR s w n=some s'/\r=.bool true/\s'.o e')∨(mR s w n=none/\r=.bool false)
@[go_sem] def bN6:List Nat:=[0,1,2,6,7,8,9,10,16,31,35,56,66]
@[go_sem] def b17:List Nat:=[7,8,76]
@[go_sem] def b18:Marks:=λid=>match id with|5=>([1,10],(.op 0 (.op 1 (.op 2 (.op 3 (.op 4 (.op 5 (.op 6 (.op 7 (.op 8 (.op 9 (.op 10 (.op 11 (.op 12 (.op 13 .nil)))))))))))))),[])|9=>([11,14,15],(.op 0 (.op 1 (.op 2 (.op 3 (.op 4 (.op 5 (.op 6 (.op 7 (.op 8 (.op 9 (.op 10 (.alt 11 (.op 12 (.op 13 (.op 14 (.op 15 .nil)))) 14 (.op 11 (.op 12 (.op 13 (.op 15 .nil)))))))))))))))),[])|14=>([12,13],(.op 0 (.op 1 (.op 2 (.op 3 (.op 4 (.op 5 (.op 6 (.op 7 (.op 8 (.op 9 (.op 10 (.op 11 (.op 12 (.op 13 .nil)))))))))))))),[])|_=>([],.nil,[])
set_option maxHeartbeats 2000000 in
theorem bJC (s:aI) (w:List UInt8) (n:List Int) (hok:s.ok) (hn:n.length<=1000000) (h0 g:Heap) (nb:Nat) (e:List OV) (oe:s.o e) (hnb:g nb=none) (wn:eW h0 (OV.cQ e) g) :
  gK Tryz.prog 120 [.op nb 9 0 0,.str w,ints n] (bT g nb (.row 9 (OV.cells [e]))) (aL1 h0 nb 9 (b16 s w n)):=by
 have s3:=aMU hok
 have l1:=hok.2.1
 have htl:=(yR hok.1).2.1
 have hst:=aI.yN hok
 have hvw:=View.box (sz:=9) (aI.u7 oe) hnb wn.oJ
 have e0:0<n.length->n[Int.toNat 0]?=some (n.getD 0 0):=λq=>by
  show n[0]?=_
  rw[jC,b6 q];rfl
 have e1:1<n.length->n[Int.toNat 1]?=some (n.getD 1 0):=λq=>by
  show n[1]?=_
  rw[jC,b6 q];rfl
 have e2:2<n.length->n[Int.toNat 2]?=some (n.getD 2 0):=λq=>by
  show n[2]?=_
  rw[jC,b6 q];rfl
 have hsl:∀ k,List.drop k (List.take n.length (n.map λn=>[I n]))=(n.drop k).map λn=>[I n]:=λk=>by
  rw[gF aS,List.map_drop]
 have hbadH:∀ H:Heap,(bT g nb (.row 9 (OV.cells [e]))).le H->mR s w n=none->∃ g1:Heap,g1.le H/\aL1 h0 nb 9 (b16 s w n) (.bool false) g1:=λH hl q=>⟨_,hl,e,g,.inr ⟨q,rfl⟩,rfl,hnb,wn⟩
 have hbad:=hbadH _ (Heap.le_refl _)
 refine aTZ 85 bN6 b17 b18 Tryz.func120 ?_
 simp -dsimp -implicitDefEqProofs only[go_sem,↓reduceIte,Tryz.f120]
 by_cases h1:w=a7U
 ·have c1:(w=[112,111,105,110,116])=True:=eq_true h1
  have ha:mR s w n=aG5 s n:=by rw[mR,if_neg a0G,if_neg a0G,if_pos h1]
  simp -dsimp -implicitDefEqProofs only[go_sem,↓reduceIte,Tryz.f120,c1]
  refine aH.kF (bN0 s n h0 g nb e oe hnb wn aA aA hok) ?_
  rintro r h' ⟨e2,g2,hq,rfl,hg2,oX⟩
  rcases hq with⟨h2,rfl⟩|⟨h2,h3,rfl⟩|⟨h2,h3,rfl,oe2⟩
  ·simp -dsimp -implicitDefEqProofs only[go_sem,↓reduceIte,Tryz.f120]
   exact⟨_,Heap.le_refl _,e2,g2,.inr ⟨by rw[ha,aG5,if_neg λq=>h2 q.1],rfl⟩,rfl,hg2,oX⟩
  ·simp -dsimp -implicitDefEqProofs only[go_sem,↓reduceIte,Tryz.f120]
   exact⟨_,Heap.le_refl _,e2,g2,.inr ⟨by rw[ha,aG5,if_neg λq=>q.2 h3],rfl⟩,rfl,hg2,oX⟩
  ·simp -dsimp -implicitDefEqProofs only[go_sem,↓reduceIte,Tryz.f120]
   exact⟨_,Heap.le_refl _,e2,g2,.inl ⟨aBF s n,by rw[ha,aG5,if_pos ⟨h2,h3⟩],rfl,oe2⟩,rfl,hg2,oX⟩
 have c1:(w=[112,111,105,110,116])=False:=eq_false h1
 by_cases h2:w=bIV
 ·have c2:(w=[116,101,114,109])=True:=eq_true h2
  have ha:mR s w n=if 1<=n.length then aG6 s (n.getD 0 0) (n.drop 1)else none:=by rw[mR,if_neg (by rw[h2];decide),if_neg (by rw[h2];decide),if_neg h1,if_pos h2]
  by_cases h3:0<n.length
  ·have h3':((n.length:Int) > 0)=True:=eq_true aA
   rw[if_pos (show 1<=n.length from h3)]at ha
   simp -dsimp -implicitDefEqProofs only[go_sem,↓reduceIte,Tryz.f120,c1,c2,h3',e0 h3]
   refine λ_=>⟨by omega,fL _,?_⟩
   rw[show Int.toNat 1=1 from rfl,hsl]
   refine aH.kF (bMN s (n.getD 0 0) (n.drop 1) h0 g nb e oe hnb wn aA a9E l1 hst) ?_
   rintro r h' ⟨e2,g2,⟨rfl,oe2⟩,rfl,hg2,oX⟩
   by_cases h4:qO s (n.getD 0 0) (n.drop 1)
   ·by_cases h5:s.aP[(n.getD 0 0).toNat]?=some 50
    ·rw[bA7 h4 h5]
     simp -dsimp -implicitDefEqProofs only[go_sem,↓reduceIte,Tryz.f120]
     exact⟨_,Heap.le_refl _,e2,g2,.inr ⟨by rw[ha,aG6,if_neg λq=>q.2 h5],rfl⟩,rfl,hg2,oX⟩
    ·rw[a18 h4 h5]at oe2 ⊢
     simp -dsimp -implicitDefEqProofs only[go_sem,↓reduceIte,Tryz.f120]
     exact⟨_,Heap.le_refl _,e2,g2,.inl ⟨_,by rw[ha,aG6,if_pos ⟨h4,h5⟩],rfl,oe2⟩,rfl,hg2,oX⟩
   ·rw[aKQ h4]
    simp -dsimp -implicitDefEqProofs only[go_sem,↓reduceIte,Tryz.f120]
    exact⟨_,Heap.le_refl _,e2,g2,.inr ⟨by rw[ha,aG6,if_neg λq=>h4 q.1],rfl⟩,rfl,hg2,oX⟩
  ·have h3':((n.length:Int) > 0)=False:=eq_false aA
   simp -dsimp -implicitDefEqProofs only[go_sem,↓reduceIte,Tryz.f120,c1,c2,h3']
   exact λ_=>hbad (by rw[ha,if_neg aA])
 have c2:(w=[116,101,114,109])=False:=eq_false h2
 by_cases h3:w=aG3
 ·have c3:(w=[112,97,114,116])=True:=eq_true h3
  have ha:mR s w n=if 3<=n.length then uV s (vL n)else none:=by rw[mR,if_pos h3]
  by_cases h4:3<=n.length
  ·have h4':((n.length:Int)<3)=False:=eq_false aA
   rw[if_pos h4]at ha
   simp -dsimp -implicitDefEqProofs only[go_sem,↓reduceIte,Tryz.f120,c1,c2,c3,h4',e0 aA,e1 aA,e2 aA]
   have how:dQ Tryz.prog 114 [ints (n.drop 3)] (ints (n.drop 3)):=QS.eA (lN (n.drop 3) a9E) λy hy=>OS.u3 (c:=λn=>[I n]) (λ_ _ q=>zF q) hy
   rw[show Int.toNat 3=3 from rfl,hsl]
   refine λ_=>⟨by omega,by omega,by omega,by omega,fL _,aH.mk how ?_,λn7 hn7=>aH.mk how ?_⟩
   ·simp -dsimp -implicitDefEqProofs only[go_sem,↓reduceIte,Tryz.f120]
    intro n7 hn7
    obtain⟨wM,z7⟩:=hn7
    have kG:=iR wM
    rw[aF]
    have hX:∀ X,cF.row 5 (OV.cells [[.v (I (n.getD 0 0)),.v (I (n.getD 1 0)),.v (I 0),.v (I (n.getD 2 0)),.v (ints (n.drop 3))]])=X->View (bT (bT g nb (.row 9 (OV.cells [e]))) n7 X) (.op n7 5 0 0) (.ip 5 [(vL n).c] 0 0):=λX q=>by
     rw[←q]
     exact(View.box (sz:=5) (e:=[.v (I (n.getD 0 0)),.v (I (n.getD 1 0)),.v (I 0),.v (I (n.getD 2 0)),.v (ints (n.drop 3))]) rfl aUM bFN).sub (Sub.refl _)
    have v1:∀ X,View (bT (bT g nb (.row 9 (OV.cells [e]))) n7 X) (.op nb 9 0 0) (.ip 9 [s.c] 0 0):=λX=>by
     rw[nB kG]
     exact View.box (sz:=9) (aI.u7 oe) aUL (λp hp=>Heap.aE8 (Heap.aW z7 (Heap.le_refl _)) (wn.oJ p hp))
    refine aH.aJ3 (aF8 s (vL n) aA) (dU.cons (v1 _) (dU.cons (hX _ rfl) dU.nil)) rfl ?_
    simp -dsimp -implicitDefEqProofs only[go_sem,↓reduceIte,Tryz.f120]
    refine⟨λhyes=>?_,λhno=>hbadH _ (Heap.aW aUM (Heap.le_refl _)) bFO⟩
    refine aH.a2B n7 (bG _ _ _) bFQ ?_
    rw[aF,nB kG]
    have hrs:(vL n).s<=1048576:=by
     have:=(vL n).fQ
     have:=(vL n).jY.fQ
     simp only[vL,zZ,aLG,al3]at *
     omega
    refine gK.mono (gK.sub ?_ (aXZ s (vL n) (bT h0 n7 .gone) (bT g n7 .gone) nb e oe aUL (wn.over z7) aA hrs l1 hyes.1)) ?_
    ·simp only[nZ,aC.gU,kG,if_false]
     rw[if_pos trivial]
     exact .cons (Sub.refl _) (.cons (Sub.refl _) .nil)
    rintro r h' ⟨e2,g2,⟨rfl,oe2⟩,rfl,hg2,oX⟩
    obtain⟨g3,wG,wn3,z73,rfl⟩:=oX.base (Heap.le_none wn.le z7)
    rw[aD _ _ _ _ kG]at hg2
    by_cases hk:rQ s (vL n)
    ·rw[zM hk]at oe2 ⊢
     simp -dsimp -implicitDefEqProofs only[go_sem,↓reduceIte,Tryz.f120]
     exact⟨_,Heap.cD (Heap.aW z73 (Heap.le_refl _)),e2,g3,.inl ⟨_,by rw[ha,uV,if_pos ⟨hyes,hk⟩],rfl,oe2⟩,rfl,hg2,wn3⟩
    ·rw[w6 hk]at oe2 ⊢
     simp -dsimp -implicitDefEqProofs only[go_sem,↓reduceIte,Tryz.f120]
     exact⟨_,Heap.cD (Heap.aW z73 (Heap.le_refl _)),e2,g3,.inr ⟨by rw[ha,uV,if_neg λq=>hk q.2],rfl⟩,rfl,hg2,wn3⟩
   ·simp -dsimp -implicitDefEqProofs only[go_sem,↓reduceIte,Tryz.f120]
    obtain⟨wM,z7⟩:=hn7
    have kG:=iR wM
    rw[aF]
    have hX:∀ X,cF.row 5 (OV.cells [[.v (I (n.getD 0 0)),.v (I (n.getD 1 0)),.v (I 0),.v (I (n.getD 2 0)),.v (ints (n.drop 3))]])=X->View (bT (bT g nb (.row 9 (OV.cells [e]))) n7 X) (.op n7 5 0 0) (.ip 5 [(vL n).c] 0 0):=λX q=>by
     rw[←q]
     exact(View.box (sz:=5) (e:=[.v (I (n.getD 0 0)),.v (I (n.getD 1 0)),.v (I 0),.v (I (n.getD 2 0)),.v (ints (n.drop 3))]) rfl aUM bFN).sub (Sub.refl _)
    have v1:∀ X,View (bT (bT g nb (.row 9 (OV.cells [e]))) n7 X) (.op nb 9 0 0) (.ip 9 [s.c] 0 0):=λX=>by
     rw[nB kG]
     exact View.box (sz:=9) (aI.u7 oe) aUL (λp hp=>Heap.aE8 (Heap.aW z7 (Heap.le_refl _)) (wn.oJ p hp))
    refine aH.aJ3 (aF8 s (vL n) aA) (dU.cons (v1 _) (dU.cons (hX _ rfl) dU.nil)) rfl ?_
    simp -dsimp -implicitDefEqProofs only[go_sem,↓reduceIte,Tryz.f120]
    refine⟨λhyes=>?_,λhno=>hbadH _ (Heap.aW aUM (Heap.le_refl _)) bFO⟩
    refine aH.a2B n7 (bG _ _ _) bFQ ?_
    rw[aF,nB kG]
    have hrs:(vL n).s<=1048576:=by
     have:=(vL n).fQ
     have:=(vL n).jY.fQ
     simp only[vL,zZ,aLG,al3]at *
     omega
    refine gK.mono (gK.sub ?_ (aXZ s (vL n) (bT h0 n7 .gone) (bT g n7 .gone) nb e oe aUL (wn.over z7) aA hrs l1 hyes.1)) ?_
    ·simp only[nZ,aC.gU,kG,if_false]
     rw[if_pos trivial]
     exact .cons (Sub.refl _) (.cons (Sub.refl _) .nil)
    rintro r h' ⟨e2,g2,⟨rfl,oe2⟩,rfl,hg2,oX⟩
    obtain⟨g3,wG,wn3,z73,rfl⟩:=oX.base (Heap.le_none wn.le z7)
    rw[aD _ _ _ _ kG]at hg2
    by_cases hk:rQ s (vL n)
    ·rw[zM hk]at oe2 ⊢
     simp -dsimp -implicitDefEqProofs only[go_sem,↓reduceIte,Tryz.f120]
     exact⟨_,Heap.cD (Heap.aW z73 (Heap.le_refl _)),e2,g3,.inl ⟨_,by rw[ha,uV,if_pos ⟨hyes,hk⟩],rfl,oe2⟩,rfl,hg2,wn3⟩
    ·rw[w6 hk]at oe2 ⊢
     simp -dsimp -implicitDefEqProofs only[go_sem,↓reduceIte,Tryz.f120]
     exact⟨_,Heap.cD (Heap.aW z73 (Heap.le_refl _)),e2,g3,.inr ⟨by rw[ha,uV,if_neg λq=>hk q.2],rfl⟩,rfl,hg2,wn3⟩
  ·have h4':((n.length:Int)<3)=True:=eq_true aA
   simp -dsimp -implicitDefEqProofs only[go_sem,↓reduceIte,Tryz.f120,c1,c2,c3,h4']
   exact λ_=>hbad (by rw[ha,if_neg h4])
 have c3:(w=[112,97,114,116])=False:=eq_false h3
 by_cases h4:w=aG4
 ·have c4:(w=[102,97,105,108])=True:=eq_true h4
  have ha:mR s w n=if n.length=3/\¬n.getD 2 0=0 then uV s (zZ n)else none:=by rw[mR,if_neg h3,if_pos h4]
  by_cases h5:n.length=3
  ·have h5':((n.length:Int)=3)=True:=eq_true aA
   by_cases h6:n.getD 2 0=0
   ·have h6':(n.getD 2 0=0)=True:=eq_true h6
    simp -dsimp -implicitDefEqProofs only[go_sem,↓reduceIte,Tryz.f120,c1,c2,c3,c4,h5',e2 aA,h6']
    exact λ_=>⟨by omega,hbad (by rw[ha,if_neg λq=>q.2 h6])⟩
   ·have h6':(n.getD 2 0=0)=False:=eq_false h6
    rw[if_pos ⟨h5,h6⟩]at ha
    simp -dsimp -implicitDefEqProofs only[go_sem,↓reduceIte,Tryz.f120,c1,c2,c3,c4,h5',e0 aA,e1 aA,e2 aA,h6']
    refine λ_=>⟨by omega,by omega,by omega,by omega,by omega,λn7 hn7=>?_⟩
    obtain⟨wM,z7⟩:=hn7
    have kG:=iR wM
    rw[aF]
    have hX:∀ X,cF.row 5 (OV.cells [[.v (I (n.getD 0 0)),.v (I (n.getD 1 0)),.v (I (n.getD 2 0)),.v (I 0),.v (.sl 1 [] true)]])=X->View (bT (bT g nb (.row 9 (OV.cells [e]))) n7 X) (.op n7 5 0 0) (.ip 5 [(zZ n).c] 0 0):=λX q=>by
     rw[←q]
     exact(View.box (sz:=5) (e:=[.v (I (n.getD 0 0)),.v (I (n.getD 1 0)),.v (I (n.getD 2 0)),.v (I 0),.v (.sl 1 [] true)]) rfl aUM bFN).sub (Sub.ipC (.cons (.refl _) (.cons (.refl _) (.cons (.refl _) (.cons (.refl _) (.cons (Sub.loose _ _ _) .nil))))))
    have v1:∀ X,View (bT (bT g nb (.row 9 (OV.cells [e]))) n7 X) (.op nb 9 0 0) (.ip 9 [s.c] 0 0):=λX=>by
     rw[nB kG]
     exact View.box (sz:=9) (aI.u7 oe) aUL (λp hp=>Heap.aE8 (Heap.aW z7 (Heap.le_refl _)) (wn.oJ p hp))
    refine aH.aJ3 (aF8 s (zZ n) aA) (dU.cons (v1 _) (dU.cons (hX _ rfl) dU.nil)) rfl ?_
    simp -dsimp -implicitDefEqProofs only[go_sem,↓reduceIte,Tryz.f120]
    refine⟨λhyes=>?_,λhno=>hbadH _ (Heap.aW aUM (Heap.le_refl _)) bFO⟩
    refine aH.a2B n7 (bG _ _ _) bFQ ?_
    rw[aF,nB kG]
    have hrs:(zZ n).s<=1048576:=by
     have:=(zZ n).fQ
     have:=(zZ n).jY.fQ
     simp only[vL,zZ,aLG,al3]at *
     omega
    refine gK.mono (gK.sub ?_ (aXZ s (zZ n) (bT h0 n7 .gone) (bT g n7 .gone) nb e oe aUL (wn.over z7) aA hrs l1 hyes.1)) ?_
    ·simp only[nZ,aC.gU,kG,if_false]
     rw[if_pos trivial]
     exact .cons (Sub.refl _) (.cons (Sub.ipC (.cons (.refl _) (.cons (.refl _) (.cons (.refl _) (.cons (.refl _) (.cons (Sub.loose _ _ _) .nil)))))) .nil)
    rintro r h' ⟨e2,g2,⟨rfl,oe2⟩,rfl,hg2,oX⟩
    obtain⟨g3,wG,wn3,z73,rfl⟩:=oX.base (Heap.le_none wn.le z7)
    rw[aD _ _ _ _ kG]at hg2
    by_cases hk:rQ s (zZ n)
    ·rw[zM hk]at oe2 ⊢
     simp -dsimp -implicitDefEqProofs only[go_sem,↓reduceIte,Tryz.f120]
     exact⟨_,Heap.cD (Heap.aW z73 (Heap.le_refl _)),e2,g3,.inl ⟨_,by rw[ha,uV,if_pos ⟨hyes,hk⟩],rfl,oe2⟩,rfl,hg2,wn3⟩
    ·rw[w6 hk]at oe2 ⊢
     simp -dsimp -implicitDefEqProofs only[go_sem,↓reduceIte,Tryz.f120]
     exact⟨_,Heap.cD (Heap.aW z73 (Heap.le_refl _)),e2,g3,.inr ⟨by rw[ha,uV,if_neg λq=>hk q.2],rfl⟩,rfl,hg2,wn3⟩
  ·have h5':((n.length:Int)=3)=False:=eq_false aA
   simp -dsimp -implicitDefEqProofs only[go_sem,↓reduceIte,Tryz.f120,c1,c2,c3,c4,h5']
   exact λ_=>hbad (by rw[ha,if_neg λq=>h5 q.1])
 ·have c4:(w=[102,97,105,108])=False:=eq_false h4
  simp -dsimp -implicitDefEqProofs only[go_sem,↓reduceIte,Tryz.f120,c1,c2,c3,c4]
  exact hbad (by rw[mR,if_neg h3,if_neg h4,if_neg h1,if_neg h2])
def bRR (s:aI) (b:Int) (line:List UInt8) (r:aC) (e':List OV):Prop:=(∃ s' b',vY s b line=some (s',b')/\r=.bool true/\s'.o e')∨(vY s b line=none/\r=.bool false)
theorem a25 {c:UInt8} {u:List UInt8} (h:c∉u):∀ a:List UInt8,mH c (a++c::u)=mH c a++[u]
 | []=>by rw[al0,aON,tV _ h,a8I];rfl
 |x::a=>by
  have ih:=a25 h a
  by_cases e:x=c
  ·subst e;rw[aED,aON,aON,ih];rfl
  ·obtain⟨y,r,h1,h2⟩:=aEA e a
   obtain⟨y2,r2,h3,h4⟩:=aEA e (a++c::u)
   rw[ih,h1]at h3
   rw[aED,h4,h2]
   cases h3;rfl
@[go_sem] def bJD:List Nat:=[0,1,2,6,7,8,9,14,37]
set_option maxHeartbeats 2000000 in
theorem bN7 (s:aI) (b:Int) (line:List UInt8) (hok:s.ok) (hb:nJ b) (hl:line.length<=6000) (h0 g:Heap) (nb:Nat) (e:List OV) (oe:s.o e) (hnb:g nb=none) (wn:eW h0 (OV.cQ e) g) :
  gK Tryz.prog 69 [.op nb 9 0 0,I b,.str line] (bT g nb (.row 9 (OV.cells [e]))) (aL1 h0 nb 9 (bRR s b line)):=by
 have hsp:=bG4 line 32 aA
 rw[show((32:UInt8).toNat:Int)=32 from rfl]at hsp
 have hbad:vY s b line=none->∃ g1:Heap,g1.le (bT g nb (.row 9 (OV.cells [e])))/\aL1 h0 nb 9 (bRR s b line) (.bool false) g1:=λq=>⟨_,Heap.le_refl _,e,g,.inr ⟨q,rfl⟩,rfl,hnb,wn⟩
 rcases tO 32 line with⟨-,hn⟩|⟨words,u,rfl,hn,-⟩
 ·rw[tV _ hn]at hsp
  have hl1:[line].length=1:=rfl
  generalize [line]=L at *
  refine aTZ 44 bJD cG b9 Tryz.func69 ?_
  simp -dsimp -implicitDefEqProofs only[go_sem,↓reduceIte,Tryz.f69]
  first|refine aH.mk (hsp) ?_|refine aE.mk (hsp) ?_|refine aH.b7 (hsp) ?_|refine aE.mk (bX.eA (hsp)) ?_
  simp -dsimp -implicitDefEqProofs only[go_sem,↓reduceIte,Tryz.f69]
  exact λ_=>⟨λ_=>hbad (aSU hn),λq=>absurd q aA⟩
 ·rw[a25 hn]at hsp
  have hlo:=aST (s:=s) (b:=b) (words:=words) hn
  have hll:words.length+1+u.length=(words++32::u).length:=by rw[rL,al2];omega
  have hsl:=aOU 32 words
  have hmm:=aIY (c:=32) words
  have hcan:∀ p ps,mH 32 words=p::ps->∀ w n,aSS words w n->w=p/\ps=n.map Go.Lib.itoa:=λp ps q w n hc=>by
   have h1:=aLD hc.1 (l:=n) λx hx=>(hc.2.1 x hx).1
   rw[←hc.2.2,q]at h1
   exact⟨(bKO h1).1.symm,(bKO h1).2⟩
  have hwd:∀ p n,mH 32 words=p::n.map Go.Lib.itoa->words=p++gL n/\(32:UInt8)∉p:=λp n q=>bCP q
  generalize hps:mH 32 words=S at *
  cases S with
  |nil=>exact absurd hps (aG7 32 words)
  |cons p ps =>
  have hln:(p::ps++[u]).length=ps.length+2:=by simp
  have hpsl:ps.length<=6001:=by have:=hsl.1;simp only[al2]at this;omega
  have hrd:=aRB ps false aA (λx hx=>by have:=hsl.2 x (.tail _ hx);omega)
  have e1:IntKind.i64.wrap (((p::ps++[u]).length:Int)-1)=((ps.length+1:Nat):Int):=by rw[hln,IntWalk.i64_in _ aA];omega
  have e2:List.drop (Int.toNat 1) (List.take (ps.length+1) ((p::ps++[u]).map λs=>[aC.str s]))=ps.map λs=>[aC.str s]:=by
   rw[show Int.toNat 1=1 from rfl]
   simp[aZW]
  have e3:(p::ps++[u])[Int.toNat 0]?=some p:=rfl
  generalize p::ps++[u]=L at *
  refine aTZ 44 bJD cG b9 Tryz.func69 ?_
  simp -dsimp -implicitDefEqProofs only[go_sem,↓reduceIte,Tryz.f69]
  first|refine aH.mk (hsp) ?_|refine aE.mk (hsp) ?_|refine aH.b7 (hsp) ?_|refine aE.mk (bX.eA (hsp)) ?_
  simp -dsimp -implicitDefEqProofs only[go_sem,↓reduceIte,Tryz.f69,e1]
  refine λ_=>⟨λq=>absurd q aA,λ_ _=>⟨by omega,by omega,?_⟩⟩
  rw[e2]
  cases hN:p6 999999999 ps with
  |none =>
   rw[hN]at hrd
   simp only[bE8]at hrd
   first|refine aH.mk (hrd) ?_|refine aE.mk (hrd) ?_|refine aH.b7 (hrd) ?_|refine aE.mk (bX.eA (hrd)) ?_
   simp -dsimp -implicitDefEqProofs only[go_sem,↓reduceIte,Tryz.f69]
   refine hbad ?_
   rw[hlo,aPH λw n q=>?_]
   ·split <;> rfl
   ·obtain⟨-,h2⟩:=hcan p ps rfl w n q
    rw[(s9 dH).2 ⟨h2,q.2.1⟩]at hN
    cases hN
  |some n =>
   rw[hN,aU9 hN]at hrd
   simp only[Option.isSome_some]at hrd
   obtain⟨rfl,hrg⟩:=(s9 dH).1 hN
   obtain⟨hw1,hw2⟩:=hwd p n rfl
   have hap:=aF1 (s:=s) ⟨hw2,hrg,hw1⟩
   have hpl:p.length<=6000:=by have:=hsl.2 p (.head _);omega
   have hnl:n.length<=6001:=by rw[k5]at hpsl;exact hpsl
   have hlw:=bED p n aA aA hrg
   rw[←hw1]at hlw
   have hli:=bN4 b words hb aA
   first|refine aH.mk (hrd) ?_|refine aE.mk (hrd) ?_|refine aH.b7 (hrd) ?_|refine aE.mk (bX.eA (hrd)) ?_
   simp -dsimp -implicitDefEqProofs only[go_sem,↓reduceIte,Tryz.f69,e3]
   refine⟨by omega,?_⟩
   first|refine aH.mk (hlw) ?_|refine aE.mk (hlw) ?_|refine aH.b7 (hlw) ?_|refine aE.mk (bX.eA (hlw)) ?_
   simp -dsimp -implicitDefEqProofs only[go_sem,↓reduceIte,Tryz.f69,e3]
   first|refine aH.mk (hli) ?_|refine aE.mk (hli) ?_|refine aH.b7 (hli) ?_|refine aE.mk (bX.eA (hli)) ?_
   simp -dsimp -implicitDefEqProofs only[go_sem,↓reduceIte,Tryz.f69,e3]
   have heq:(words++32::(Go.Lib.itoa (xP b words)++[10])=words++32::u++[10])↔u=Go.Lib.itoa (xP b words):=by
    rw[qT,List.append_cancel_left_eq]
    simp only[aED,List.cons.injEq,true_and,List.append_cancel_right_eq]
    exact eq_comm
   refine⟨by omega,λhne=>hbad (by rw[hlo,if_neg λq=>hne (heq.2 q)]),λhyes=>⟨by omega,?_⟩⟩
   rw[if_pos (heq.1 hyes),hap]at hlo
   refine aH.kF (bJC s p n hok aA h0 g nb e oe hnb wn) ?_
   rintro r h' ⟨e2,g2,hq,rfl,hg2,oX⟩
   rcases hq with⟨s',ha,rfl,oe2⟩|⟨ha,rfl⟩
   ·simp -dsimp -implicitDefEqProofs only[go_sem,↓reduceIte,Tryz.f69]
    exact⟨_,Heap.le_refl _,e2,g2,.inl ⟨s',_,by rw[hlo,ha];rfl,rfl,oe2⟩,rfl,hg2,oX⟩
   ·simp -dsimp -implicitDefEqProofs only[go_sem,↓reduceIte,Tryz.f69]
    exact⟨_,Heap.le_refl _,e2,g2,.inr ⟨by rw[hlo,ha];rfl,rfl⟩,rfl,hg2,oX⟩
theorem a26 {s s':aI} {b b':Int} {line:List UInt8} (h:vY s b line=some (s',b')):∃ words u,line=words++32::u/\(32:UInt8)∉u/\u=Go.Lib.itoa b':=by
 rcases tO 32 line with⟨-,hn⟩|⟨words,u,rfl,hn,-⟩
 ·rw[aSU hn]at h;cases h
 ·rw[aST hn]at h
  split at h
  ·rename_i hu
   cases ha:aK3 s words with
   |none=>rw[ha]at h;cases h
   |some y=>rw[ha]at h;cases h;exact⟨words,u,rfl,hn,hu⟩
  ·cases h
@[go_sem] def bJE:List Nat:=[0,1,4,5,6,7,8,9,10,16,22,30]
set_option maxHeartbeats 2000000 in
theorem aYZ {j:dN} (hj:j.ok) (text:List UInt8) (ht:text.length<=6000):tU Tryz.prog 23 [.ip 5 [j.c] 0 0,.str text] (QA (xC (tR j) 1 (mH 10 text)).1.o (λy=>.iF [y,I (xC (tR j) 1 (mH 10 text)).2])):=by
 have hjs:j.s<=10000:=a22 hj
 have hnw:=bTV j aA (by have:=(yR hj).2.1;omega)
 simp only[dN.aM]at hnw ⊢
 refine x9 40 bJE cG b9 Tryz.func23 λh=>?_
 simp -dsimp -implicitDefEqProofs only[go_sem,↓reduceIte,Tryz.f23]
 intro n4 z4
 refine aH.wn1 hnw z4 ?_
 rintro r l_ g ⟨e,oe,rfl,rfl⟩ wn z4g
 have vV:=oe
 obtain⟨fH,fV,gC,rA,s6,rC,tS,rfl,eM,eU,eJ,eH,eS,eN,eO⟩:=vV
 simp -dsimp -implicitDefEqProofs only[go_sem,↓reduceIte,Tryz.f23,OV.aR,OV.aG,OV.bE,aF,aD,eM.flat,eM.one,eU.flat,eU.one,eJ.flat,eJ.one,eH.flat,eH.one,eS.flat,eS.one,eN.flat,eN.one,eO.flat,eO.one]
 intro n6 aKR
 obtain⟨mD,fZ,gA,aDJ⟩:=cE (show ¬n6=n4 from iS aKR)
 have p5:g n6=none:=iS aKR
 refine cY bJE cG b9 (λx:aI×List OV×Heap×Int×Nat×Nat=>[(1,.str text),(4,.op n4 9 0 0),(6,.op n6 9 0 0),(7,I x.2.2.2.2.1),(8,I x.2.2.2.1),(9,I x.2.2.2.2.2)]) (λx=>bT (bT x.2.2.1 n4 (.row 9 [[.v .aV,.v (I 0),.v (I 0),.v .aV,.v .aV,.v .aV,.v .aV,.v .aV,.v .aV]])) n6 (.row 9 (OV.cells [x.2.1]))) (λx=>x.1.ok/\nJ x.2.2.2.1/\x.1.o x.2.1/\eW h (OV.cQ x.2.1) x.2.2.1/\x.2.2.1 n4=none/\x.2.2.1 n6=none/\(x.2.2.2.2.1<=x.2.2.2.2.2/\x.2.2.2.2.2<=text.length)/\(10:UInt8)∉(text.drop x.2.2.2.2.1).take (x.2.2.2.2.2-x.2.2.2.2.1)/\xC (tR j) 1 (mH 10 text)=((xC x.1 x.2.2.2.1 (mH 10 (text.drop x.2.2.2.2.1))).1,x.2.2.2.2.1+(xC x.1 x.2.2.2.1 (mH 10 (text.drop x.2.2.2.2.1))).2)) (λx=>text.length-x.2.2.2.2.2) (tR j,[fH,.v (.int .i64 (tR j).bA.b5),.v (.int .i64 (tR j).bA.aU),fV,gC,rA,s6,rC,tS],g,1,0,0) ⟨by simp[dT,dB],by simp only[cV,bO,bY];exact Heap.le_refl _,aYY hj,(show nJ 1 by unfold nJ;omega),oe,wn,z4g,p5,⟨fL _,iZ _⟩,by simp,by simp⟩ ?_
 clear oe wn z4g p5
 rintro⟨s,e,g,b,k,i⟩ ⟨hs,hb,oe,wn,z4g,z6g,⟨hk,hi⟩,hno,hrun⟩
 simp only at hs hb oe wn z4g z6g hk hi hno hrun ⊢
 rcases cP i text.length with hlt|hge
 ·have ea:text[i]?=some text[i]:=b6 hlt
  simp -dsimp -implicitDefEqProofs only[go_sem,↓reduceIte,Tryz.f23,ea]
  refine λ_=>⟨λ_=>⟨λhne=>⟨(s,e,g,b,k,i+1),⟨rfl,rfl,IntWalk.i64_in _ aA⟩,Heap.le_refl _,⟨hs,hb,oe,wn,z4g,z6g,⟨by simp only;omega,hlt⟩,aHN hk ea (λq=>hne (by rw[q];rfl)) hno,hrun⟩,by simp only;omega⟩,λh10=>?_⟩,λq=>absurd hlt q⟩
  have b2A:text[i]=10:=aZS (by have:(10:UInt8).toNat=10:=rfl;omega)
  have e10:text[i]?=some 10:=by rw[ea,b2A]
  have hst:=a1T hk e10 hno
  have hs3:=aMU hs
  obtain⟨m,q,hm⟩:∃ m q,mH 10 (text.drop (i+1))=m::q:=by
   cases e:mH 10 (text.drop (i+1))with
   |nil=>exact absurd e (aG7 10 _)
   |cons m q=>exact⟨m,q,rfl⟩
  have hli:List.drop k (List.take i text)=(text.drop k).take (i-k):=bE4 ..
  have hll:((text.drop k).take (i-k)).length=i-k:=by rw[nX,aLG];omega
  have htk:text.take (i+1)=text.take k++((text.drop k).take (i-k)++[10]):=by
   have h1:text.take (i+1)=text.take i++[10]:=by rw[kP hlt,b2A]
   rw[h1,←hli,←qT]
   congr 1
   have:=aPV k (text.take i)
   rw[List.take_take,aZT hk]at this
   exact this.symm
  generalize (text.drop k).take (i-k)=line at *
  refine aH.wl0 (aT6 s aA) (dU.cons (View.box (sz:=9) (aI.u7 oe) (by rw[aD _ _ _ _ mD];exact z6g) (λp hp=>Heap.aE8 (Heap.aW z4g (Heap.le_refl _)) (wn.oJ p hp))) dU.nil) (QA.eQ (w:=λy=>y) (λe he=>aI.tL _ e he) (λx hx=>hx)) ?_
  rintro r l_ g1 ⟨e2,oe2,rfl,rfl⟩ oX
  have g16:=oX.keep (bG ..)
  have g14:=oX.keep (show bT (bT g n4 (.row 9 [[.v .aV,.v (I 0),.v (I 0),.v .aV,.v .aV,.v .aV,.v .aV,.v .aV,.v .aV]])) n6 (.row 9 (OV.cells [e])) n4=_ by rw[aD _ _ _ _ aDJ,bG])
  have oe3:=oe2
  obtain⟨b1Z,b10,b11,b12,b13,b14,b15,rfl,aSX,aSY,aSZ,aS0,aS1,aS2,aS3⟩:=oe3
  simp -dsimp -implicitDefEqProofs only[go_sem,↓reduceIte,Tryz.f23,OV.aR,OV.aG,OV.bE,aF,aD,aSX.flat,aSX.one,aSY.flat,aSY.one,aSZ.flat,aSZ.one,aS0.flat,aS0.one,aS1.flat,aS1.one,aS2.flat,aS2.one,aS3.flat,aS3.one,g16,g14]
  intro n10 z10
  obtain⟨bJF,a27,a29,b2D⟩:=cE (show ¬n10=n6 from λq=>by rw[q,g16]at z10;cases z10)
  obtain⟨a3A,a3B,a3C,b2E⟩:=cE (show ¬n10=n4 from λq=>by rw[q,g14]at z10;cases z10)
  refine⟨hk,hi,?_⟩
  rw[hli]
  refine aH.kF (bN7 s b line hs hb aA _ _ n10 _ oe2 z10 oX) ?_
  rintro r h' ⟨e3,g3,hq,rfl,hg3,wn3⟩
  have g36:=wn3.keep (bG ..)
  have vV:=oe
  obtain⟨aBC,aBD,aD7,aDK,aDL,aDM,aDN,rfl,hP,hU,hZ,iA,iC,iD,iE⟩:=vV
  rw[hst,hm]at hrun
  rcases hq with⟨s2,b2,hlo,rfl,oe3⟩|⟨hlo,rfl⟩
  ·obtain⟨words,u,rfl,hu,rfl⟩:=a26 hlo
   obtain⟨aW6,mE⟩:=aSV hb hlo
   have hr2:rK 999999999 (Go.Lib.itoa b2):=(aLC mE.1 (by have:=mE.2;omega)).2 (by have:=mE.2;omega)
   have hwl:(words++32::Go.Lib.itoa b2).length=words.length+1+(Go.Lib.itoa b2).length:=by rw[rL,al2];omega
   have hla:=bN5 (text.take k++words) (Go.Lib.itoa b2) hu hr2 (by rw[rL,nX];omega)
   rw[show text.take k++words++32::(Go.Lib.itoa b2++[10])=text.take (i+1)by rw[htk];simp,aPO mE.1 (by have:=mE.2;omega)]at hla
   have ew:IntKind.i64.wrap ((i:Int)+1)=((i+1:Nat):Int):=IntWalk.i64_in _ aA
   have oe4:=oe3
   obtain⟨b6T,b6U,b6V,b6W,b6X,b6Y,b6Z,rfl,b2F,b2G,b2H,b2I,b2J,b2K,b2L⟩:=oe4
   simp -dsimp -implicitDefEqProofs only[go_sem,↓reduceIte,Tryz.f23,OV.aR,OV.aG,OV.bE,aF,aD,hP.flat,hP.one,hU.flat,hU.one,hZ.flat,hZ.one,iA.flat,iA.one,iC.flat,iC.one,iD.flat,iD.one,iE.flat,iE.one,aSX.flat,aSX.one,aSY.flat,aSY.one,aSZ.flat,aSZ.one,aS0.flat,aS0.one,aS1.flat,aS1.one,aS2.flat,aS2.one,aS3.flat,aS3.one,b2F.flat,b2F.one,b2G.flat,b2G.one,b2H.flat,b2H.one,b2I.flat,b2I.one,b2J.flat,b2J.one,b2K.flat,b2K.one,b2L.flat,b2L.one,g36,gA,a3C,fZ,a29,a3B,a27,cV,bO,bY,ew]
   refine⟨hlt,?_⟩
   first|refine aH.mk (hla) ?_|refine aE.mk (hla) ?_|refine aH.b7 (hla) ?_|refine aE.mk (bX.eA (hla)) ?_
   simp -dsimp -implicitDefEqProofs only[go_sem,↓reduceIte,Tryz.f23,ew]
   obtain⟨g4,rfl,wn4,z44,z64⟩:=wn3.un2 z4g ⟨mD,z6g⟩
   obtain⟨g5,aMD,wn5⟩:=wn.next wn4
   rw[aD _ _ _ _ bJF,aD _ _ _ _ a3A]at hg3
   refine⟨(s2,[b6T,.v (.int .i64 s2.bA.b5),.v (.int .i64 s2.bA.aU),b6U,b6V,b6W,b6X,b6Y,b6Z],g5,b2,i+1,i+1),⟨rfl,rfl,rfl⟩,?_,⟨aW6 hs,mE,oe3,wn5,Heap.le_none aMD z44,Heap.le_none aMD z64,⟨fL _,hlt⟩,by simp,?_⟩,by simp only;omega⟩
   ·simp only[cV,bO,bY,OV.bE]
    exact Heap.cD (Heap.aW (by rw[aD _ _ _ _ a3A];exact Heap.le_none aMD hg3) (Heap.aW (by rw[aD _ _ _ _ mD];exact Heap.le_none aMD z64) (Heap.cD aMD)))
   ·simp only
    rw[hrun,bB3 hlo,hm]
    exact Prod.ext rfl (by simp only;omega)
  ·have g34:=wn3.keep (show bT (bT g n4 (.row 9 [[.v .aV,.v (I 0),.v (I 0),.v .aV,.v .aV,.v .aV,.v .aV,.v .aV,.v .aV]])) n6 _ n4=_ by rw[aD _ _ _ _ aDJ,bG])
   simp -dsimp -implicitDefEqProofs only[go_sem,↓reduceIte,Tryz.f23,OV.aR,OV.aG,OV.bE,aF,aD,hP.flat,hP.one,hU.flat,hU.one,hZ.flat,hZ.one,iA.flat,iA.one,iC.flat,iC.one,iD.flat,iD.one,iE.flat,iE.one,aSX.flat,aSX.one,aSY.flat,aSY.one,aSZ.flat,aSZ.one,aS0.flat,aS0.one,aS1.flat,aS1.one,aS2.flat,aS2.one,aS3.flat,aS3.one,g36,g34,gA,a3C,fZ,a29,a3B,a27,cV,bO,bY]
   rw[hrun,aK4 hlo]
   have wG:g.le g3:=Heap.le_trans (Heap.aW z6g (Heap.aW z4g (Heap.le_refl _))) wn3.le
   exact aFC (w:=λy=>.iF [y,I k]) aGQ oe wn (Heap.aW z4g (Heap.aW (Heap.le_none wG hg3) wG))
 ·obtain rfl:i=text.length:=by omega
  have vV:=oe
  obtain⟨aBC,aBD,aD7,aDK,aDL,aDM,aDN,rfl,hP,hU,hZ,iA,iC,iD,iE⟩:=vV
  simp -dsimp -implicitDefEqProofs only[go_sem,↓reduceIte,Tryz.f23,OV.aR,OV.aG,OV.bE,aF,aD,hP.flat,hP.one,hU.flat,hU.one,hZ.flat,hZ.one,iA.flat,iA.one,iC.flat,iC.one,iD.flat,iD.one,iE.flat,iE.one,cN,fP,cV,bO,bY,gA,fZ]
  intro _
  have hno':(10:UInt8)∉text.drop k:=by
   have h1:text.length-k=(text.drop k).length:=List.length_drop.symm
   rwa [h1,eL]at hno
  rw[hrun,tV _ hno']
  exact aFC (w:=λy=>.iF [y,I k]) aGQ oe wn (by repeat'(first|exact Heap.le_refl _|refine Heap.cD ?_|refine Heap.aW kT ?_))
@[go_sem] def b9U:List Nat:=[0,1,2,4,5,6,7,8,10,14]
@[go_sem] def b2M:Marks:=λid=>match id with|1=>([],(.op 0 (.op 1 (.op 2 (.op 3 (.op 4 (.op 5 (.op 6 (.op 7 (.op 8 (.op 9 (.op 10 (.op 11 (.op 12 (.op 13 (.op 14 (.op 15 (.op 16 (.op 17 (.op 18 (.op 19 (.op 20 (.op 21 (.op 22 (.op 23 (.op 24 (.op 25 (.op 26 (.op 27 (.op 28 (.op 29 (.op 30 (.op 31 .nil)))))))))))))))))))))))))))))))),[])|_=>([],.nil,[])
theorem aN8 (a b:bR):dQ Tryz.prog 144 [.ip 3 [a.c] 0 0,.ip 3 [b.c] 0 0] (.bool (decide (a=b))):=by
 simp only[bR.aM]
 refine dI 36 zG cG b2M Tryz.func144 λh=>?_
 simp -dsimp -implicitDefEqProofs only[go_sem,↓reduceIte,Tryz.f144]
 repeat'(with_reducible first|intro _|refine And.intro ?_ ?_)
 all_goals try(first|(simp[bR.eq_iff, *];done)|omega|(grind[bR.eq_iff])|(simp[bR.eq_iff];omega))
 first|refine aH.mk (fE a.iQ b.iQ) ?_|refine aE.mk (fE a.iQ b.iQ) ?_|refine aH.b7 (fE a.iQ b.iQ) ?_|refine aE.mk (bX.eA (fE a.iQ b.iQ)) ?_
 simp -dsimp -implicitDefEqProofs only[go_sem,↓reduceIte,Tryz.f144]
 all_goals try(first|(simp[bR.eq_iff, *];done)|omega|(grind[bR.eq_iff])|(simp[bR.eq_iff];omega))
@[go_sem] def bB7:List Nat:=[0,1,4,5,60,67,83]
@[go_sem] def bRS:Marks:=λid=>match id with|1=>([],(.op 0 (.op 1 (.op 2 (.op 3 (.op 4 (.op 5 (.op 6 (.op 7 (.op 8 (.op 9 (.op 10 (.op 11 (.op 12 (.op 13 (.op 14 (.op 15 (.op 16 (.op 17 (.op 18 (.op 19 (.op 20 (.op 21 (.op 22 (.op 23 (.op 24 (.op 25 (.op 26 (.op 27 (.op 28 (.op 29 (.op 30 (.op 31 (.op 32 (.op 33 (.op 34 (.op 35 (.op 36 (.op 37 (.op 38 (.op 39 (.op 40 (.op 41 (.op 42 (.op 43 (.op 44 (.op 45 (.op 46 (.op 47 (.op 48 (.op 49 (.op 50 (.op 51 (.op 52 (.op 53 (.op 54 .nil))))))))))))))))))))))))))))))))))))))))))))))))))))))),[])|6=>([],(.op 0 (.op 1 (.op 2 (.op 3 (.op 4 (.op 5 (.op 6 (.op 7 (.op 8 (.op 9 (.op 10 (.op 11 (.op 12 (.op 13 .nil)))))))))))))),[])|_=>([],.nil,[])
theorem aY0 (a b:aB) (hc:∀ x∈a.aO,∀ y,dQ Tryz.prog 245 [.ip 5 [x.c] 0 0,.ip 5 [y.c] 0 0] (.bool (decide (x=y)))):dQ Tryz.prog 245 [.ip 5 [a.c] 0 0,.ip 5 [b.c] 0 0] (.bool (decide (a=b))):=by
 rw[aB.aM a,aB.aM b]
 refine dI 84 bB7 cG bRS Tryz.func245 λh=>?_
 simp -dsimp -implicitDefEqProofs only[go_sem,↓reduceIte,Tryz.f245]
 repeat'(with_reducible first|intro _|refine And.intro ?_ ?_)
 all_goals try(first|(simp[aB.eq_iff, *];done)|omega|(grind[aB.eq_iff])|(simp[aB.eq_iff];omega))
 rename_i e1 e2 e3 e4 e5
 refine cY bB7 cG bRS (λk:Nat=>[(0,.ip 5 [a.c] 0 0),(1,.ip 5 [b.c] 0 0),(5,I k)]) (λ_=>h) (λk=>k<=a.aO.length/\a.aO.take k=b.aO.take k) (λk=>a.aO.length-k) 0 (by simp[dT,dB,Heap.le_refl,aB.aM]) ?_
 intro k ⟨hk,hp⟩
 rw[aB.aM a,aB.aM b]
 simp -dsimp -implicitDefEqProofs only[go_sem,↓reduceIte,Tryz.f245]
 repeat'(with_reducible first|intro _|refine And.intro ?_ ?_)
 all_goals try omega
 ·rename_i hlt
  have hlb:k<b.aO.length:=by omega
  first|refine aE.mk ((hc a.aO[k] (dG hlt) b.aO[k]).sub (by repeat'(first|exact bQ.nil|refine bQ.cons ?_ ?_|exact Sub.refl _|(rw[aB.aM];exact Sub.refl _)|exact Sub.cK rfl rfl rfl|exact Sub.ip (bF aA) aS|exact Sub.cK (bF aA) rfl rfl|exact Sub.ip bU aS|exact Sub.cK bU bS bS))) ?_|refine aH.mk ((hc a.aO[k] (dG hlt) b.aO[k]).sub (by repeat'(first|exact bQ.nil|refine bQ.cons ?_ ?_|exact Sub.refl _|(rw[aB.aM];exact Sub.refl _)|exact Sub.cK rfl rfl rfl|exact Sub.ip (bF aA) aS|exact Sub.cK (bF aA) rfl rfl|exact Sub.ip bU aS|exact Sub.cK bU bS bS))) ?_
  simp -dsimp -implicitDefEqProofs only[go_sem,↓reduceIte,Tryz.f245]
  repeat'(with_reducible first|intro _|refine And.intro ?_ ?_)
  ·rename_i he
   exact(decide_eq_false λe=>he (by simp only[e])).symm
  ·rename_i he
   refine⟨k+1,?_⟩
   repeat'(with_reducible refine And.intro ?_ ?_)
   all_goals try(rw[IntWalk.i64_in _ aA];first|rfl|omega)
   all_goals try omega
   all_goals try(repeat'(with_reducible first|exact Heap.le_refl _|refine(aW gH).2 ?_))
   exact gT hlt hlb hp he
 ·have hk':k=a.aO.length:=by omega
  subst hk'
  exact(decide_eq_true (aB.eq_iff.2 ⟨e1,e2,e3,e4,fW e5 hp⟩)).symm
theorem aY1 (a b:aB):dQ Tryz.prog 245 [.ip 5 [a.c] 0 0,.ip 5 [b.c] 0 0] (.bool (decide (a=b))) :=
 aY0 a b λx hx y=>aY1 x y
termination_by SizeOf.sizeOf a
decreasing_by exact aB.u6 hx
@[go_sem] def bB8:List Nat:=[0,1,4,5,38,45,61]
@[go_sem] def bRT:Marks:=λid=>match id with|1=>([],(.op 0 (.op 1 (.op 2 (.op 3 (.op 4 (.op 5 (.op 6 (.op 7 (.op 8 (.op 9 (.op 10 (.op 11 (.op 12 (.op 13 (.op 14 (.op 15 (.op 16 (.op 17 (.op 18 (.op 19 (.op 20 (.op 21 (.op 22 (.op 23 (.op 24 (.op 25 (.op 26 (.op 27 (.op 28 (.op 29 (.op 30 (.op 31 (.op 32 .nil))))))))))))))))))))))))))))))))),[])|6=>([],(.op 0 (.op 1 (.op 2 (.op 3 (.op 4 (.op 5 (.op 6 (.op 7 (.op 8 (.op 9 (.op 10 (.op 11 (.op 12 (.op 13 .nil)))))))))))))),[])|_=>([],.nil,[])
theorem aN9 (a b:aX):dQ Tryz.prog 219 [.ip 3 [a.c] 0 0,.ip 3 [b.c] 0 0] (.bool (decide (a=b))):=by
 simp only[aX.aM]
 refine dI 62 bB8 cG bRT Tryz.func219 λh=>?_
 simp -dsimp -implicitDefEqProofs only[go_sem,↓reduceIte,Tryz.f219]
 repeat'(with_reducible first|intro _|refine And.intro ?_ ?_)
 all_goals try(first|(simp[aX.eq_iff, *];done)|omega|(grind[aX.eq_iff])|(simp[aX.eq_iff];omega))
 rename_i e1 e2 e3
 refine cY bB8 cG bRT (λk:Nat=>[(0,.ip 3 [a.c] 0 0),(1,.ip 3 [b.c] 0 0),(5,I k)]) (λ_=>h) (λk=>k<=(a.bB).length/\(a.bB).take k=(b.bB).take k) (λk=>(a.bB).length-k) 0 (by simp[dT,dB,Heap.le_refl,aX.aM]) ?_
 intro k ⟨hk,hp⟩
 simp only[aX.aM]
 simp -dsimp -implicitDefEqProofs only[go_sem,↓reduceIte,Tryz.f219]
 repeat'(with_reducible first|intro _|refine And.intro ?_ ?_)
 all_goals try omega
 ·rename_i hlt
  have hlb:k<(b.bB).length:=by omega
  first|refine aE.mk (((λx _ y=>aY1 x y) (a.bB)[k] (dG hlt) (b.bB)[k]).sub (by repeat'(first|exact bQ.nil|refine bQ.cons ?_ ?_|exact Sub.refl _|(rw[aB.aM];exact Sub.refl _)|exact Sub.cK rfl rfl rfl|exact Sub.ip (bF aA) aS|exact Sub.cK (bF aA) rfl rfl|exact Sub.ip bU aS|exact Sub.cK bU bS bS))) ?_|refine aH.mk (((λx _ y=>aY1 x y) (a.bB)[k] (dG hlt) (b.bB)[k]).sub (by repeat'(first|exact bQ.nil|refine bQ.cons ?_ ?_|exact Sub.refl _|(rw[aB.aM];exact Sub.refl _)|exact Sub.cK rfl rfl rfl|exact Sub.ip (bF aA) aS|exact Sub.cK (bF aA) rfl rfl|exact Sub.ip bU aS|exact Sub.cK bU bS bS))) ?_
  simp -dsimp -implicitDefEqProofs only[go_sem,↓reduceIte,Tryz.f219]
  repeat'(with_reducible first|intro _|refine And.intro ?_ ?_)
  ·rename_i he
   exact(decide_eq_false λe=>he (getElem_of_eq (congrArg aX.bB e) hlt)).symm
  ·rename_i he
   refine⟨k+1,?_⟩
   repeat'(with_reducible refine And.intro ?_ ?_)
   all_goals try(rw[IntWalk.i64_in _ aA];first|rfl|omega)
   all_goals try omega
   all_goals try(repeat'(with_reducible first|exact Heap.le_refl _|refine(aW gH).2 ?_))
   exact gT hlt hlb hp he
 ·have hk':k=(a.bB).length:=by omega
  subst hk'
  have hq:=fW e3 hp
  exact(decide_eq_true (aX.eq_iff.2 ⟨e1,e2,hq⟩)).symm
end Go.Hl

/-
  Contracts of functions and laws of the layer over the walk.
-/
import Derived.Test.YtchbdakgjlnbgaaGreatDoorVvC
import Derived.Test.YtchbdakgjlnbgaaGreatDoorHlD
import Derived.Test.YtchbdakgjlnbgaaGreatDoorVvB
namespace Go.Hl
set_option maxRecDepth 100000
open Go.Proofs
set_option linter.unusedVariables false
set_option linter.unusedSimpArgs false
def sO (j:dF):aI:=⟨j,List.replicate j.aV.length 0,List.replicate j.aV.length false,List.replicate j.aV.length ⟨0,0,[]⟩,List.replicate j.aV.length (-1)⟩
@[go_sem] def bKB:List Nat:=[0,1,2,3,9,10,11]
@[go_sem] def b2G:List Nat:=[1,14,18,25,29]
@[go_sem] def b2H:Marks:=λid=>match id with|4=>([1,3,5,7,9,11],(.op 0 (.op 2 (.op 4 (.op 6 (.op 1 (.op 5 (.op 3 (.op 8 (.op 7 (.op 9 (.op 10 (.op 11 .nil)))))))))))),[(5,3)])|5=>([1,4,6,8,10,12],(.op 0 (.op 2 (.op 3 (.op 5 (.op 7 (.op 1 (.op 6 (.op 4 (.op 9 (.op 8 (.op 10 (.op 11 (.op 12 .nil))))))))))))),[(6,4)])|_=>([],.nil,[])
set_option maxHeartbeats 2000000 in
theorem a8U (x:dF) (hs:x.s<=1048576) (hl:x.aV.length<=1048576):qK Tryz.prog 76 [.agg x.c] (QA (sO x).o):=by
 simp only[dF.aO]
 refine tA 35 bKB b2G b2H Tryz.func76 λh=>?_
 try simp -dsimp -implicitDefEqProofs only[go_sem,↓reduceIte,Tryz.f76,aF,aE]
 intro n2 qn2
 have b6:=qn2
 try simp -dsimp -implicitDefEqProofs only[go_sem,↓reduceIte,Tryz.f76,aF,aE]
 refine aH.wn1 (aUK x aA) b6 ?_
 rintro r l_ gc0 ⟨aZ0,aFJ,rfl,rfl⟩ wc0 b6
 have aFK:=aFJ
 obtain⟨lL,rD,rE,rfl,bA,bJ,bK⟩:=aFK
 try simp -dsimp -implicitDefEqProofs only[go_sem,↓reduceIte,Tryz.f76,aF,aE,bA.flat,bA.one,bJ.flat,bJ.one,bK.flat,bK.one,OV.aM,OV.aD,OV.aR]
 intro n3 uH
 obtain⟨dW,bD,bE,oN⟩:=cB (show ¬n3=n2 from uH.1)
 have cT:=uH.2
 try simp -dsimp -implicitDefEqProofs only[go_sem,↓reduceIte,Tryz.f76,aF,aE,bD,bE,bA.flat,bA.one,bJ.flat,bJ.one,bK.flat,bK.one,OV.aM,OV.aD,OV.aR]
 try(with_reducible intro _)
 refine cY bKB b2G b2H (λs:Nat×Q4=>[(2,.op n2 9 0 0),(3,.op n3 9 0 0),(9,I x.aV.length),(10,(I s.1))]) (λs=>(dG (dG (dG (dG (bL (bL gc0 n2 (.row 9 [[.v (.aU),.v (.int .i64 0),.v (.int .i64 0),.v (.aU),.v (.aU),.v (.aU),.v (.aU),.v (.aU),.v (.aU)]])) n3 (.row 9 [[.v (lL.val),.v (.int .i64 x.bO),.v (.int .i64 x.aQ),.v (rD.val),.v (rE.val),.v (j3 1 s.1 (q1 s.2)),.v (j3 1 s.1 (q2 s.2)),.v (j3 3 s.1 (q3 s.2)),.v (j3 1 s.1 (q4 s.2))]])) (.row 1 (lI s.1 [.v (.int .i64 0)])) (q1 s.2)) (.row 1 (lI s.1 [.v (.bool false)])) (q2 s.2)) (.row 3 (lI s.1 [.v (.int .i64 0),.v (.int .i64 0),.v .aU])) (q3 s.2)) (.row 1 (lI s.1 [.v (.int .i64 (-1))])) (q4 s.2))) (λs=>s.1<=x.aV.length/\bCJ gc0 n2 n3 s.1 s.2) (λs=>x.aV.length-s.1) (0,none) ⟨by simp[eE,dJ],bRE,iF _,rfl⟩ ?_
 rintro⟨k,o⟩ ⟨hk,ho⟩
 simp only at hk ho ⊢
 rcases cX k x.aV.length with hlt|hge
 ·cases o with
  |none =>
   rw[aFC]at ho
   subst ho
   try simp -dsimp -implicitDefEqProofs only[go_sem,↓reduceIte,Tryz.f76,aF,aE,bD,bE,bA.flat,bA.one,bJ.flat,bJ.one,bK.flat,bK.one,hlt,jQ,jR,jS,jT,iN,iO,iP,iQ,aN,aK,bI,aZ]
   repeat'(with_reducible first|refine And.intro eU ?_)
   intro a' qa'
   obtain⟨a8V,nF,nG,a8W⟩:=cB (show ¬a'=n2 from iV qa')
   obtain⟨a8X,nH,nI,a8Y⟩:=cB (show ¬a'=n3 from iV qa')
   have a8Z:gc0 a'=none:=iV qa'
   try simp -dsimp -implicitDefEqProofs only[go_sem,↓reduceIte,Tryz.f76,aF,aE,bD,bE,nF,nG,nH,nI,bA.flat,bA.one,bJ.flat,bJ.one,bK.flat,bK.one,hlt,jQ,jR,jS,jT,iN,iO,iP,iQ,aN,aK,bI,aZ]
   repeat'(with_reducible first|refine And.intro eU ?_)
   intro b' qb'
   obtain⟨a81,qP,qQ,a82⟩:=cB (show ¬b'=n2 from iV qb')
   obtain⟨a83,qR,qS,a84⟩:=cB (show ¬b'=n3 from iV qb')
   obtain⟨a86,qT,qU,a88⟩:=cB (show ¬b'=a' from iV qb')
   have a89:gc0 b'=none:=iV qb'
   try simp -dsimp -implicitDefEqProofs only[go_sem,↓reduceIte,Tryz.f76,aF,aE,bD,bE,nF,nG,nH,nI,qP,qQ,qR,qS,qT,qU,bA.flat,bA.one,bJ.flat,bJ.one,bK.flat,bK.one,hlt,jQ,jR,jS,jT,iN,iO,iP,iQ,aN,aK,bI,aZ]
   repeat'(with_reducible first|refine And.intro eU ?_)
   intro c' qc'
   obtain⟨a9A,wE,wF,a9B⟩:=cB (show ¬c'=n2 from iV qc')
   obtain⟨a9C,wG,wH,a9D⟩:=cB (show ¬c'=n3 from iV qc')
   obtain⟨a9E,wI,wJ,a9F⟩:=cB (show ¬c'=a' from iV qc')
   obtain⟨a9G,wK,wL,a9H⟩:=cB (show ¬c'=b' from iV qc')
   have a9I:gc0 c'=none:=iV qc'
   try simp -dsimp -implicitDefEqProofs only[go_sem,↓reduceIte,Tryz.f76,aF,aE,bD,bE,nF,nG,nH,nI,qP,qQ,qR,qS,qT,qU,wE,wF,wG,wH,wI,wJ,wK,wL,bA.flat,bA.one,bJ.flat,bJ.one,bK.flat,bK.one,hlt,jQ,jR,jS,jT,iN,iO,iP,iQ,aN,aK,bI,aZ]
   repeat'(with_reducible first|refine And.intro eU ?_)
   intro d' qd'
   obtain⟨a9J,aCQ,aCR,a9K⟩:=cB (show ¬d'=n2 from iV qd')
   obtain⟨a9L,aCS,aCT,a9M⟩:=cB (show ¬d'=n3 from iV qd')
   obtain⟨a9N,aCU,aCV,a9O⟩:=cB (show ¬d'=a' from iV qd')
   obtain⟨a9P,aCW,aCX,a9Q⟩:=cB (show ¬d'=b' from iV qd')
   obtain⟨a9R,aCY,aCZ,a9S⟩:=cB (show ¬d'=c' from iV qd')
   have a9T:gc0 d'=none:=iV qd'
   try simp -dsimp -implicitDefEqProofs only[go_sem,↓reduceIte,Tryz.f76,aF,aE,bD,bE,nF,nG,nH,nI,qP,qQ,qR,qS,qT,qU,wE,wF,wG,wH,wI,wJ,wK,wL,aCQ,aCR,aCS,aCT,aCU,aCV,aCW,aCX,aCY,aCZ,bA.flat,bA.one,bJ.flat,bJ.one,bK.flat,bK.one,hlt,jQ,jR,jS,jT,iN,iO,iP,iQ,aN,aK,bI,aZ]
   refine⟨(1,some (a',b',c',d')),?_⟩
   simp only[iN,iO,iP,iQ,aK,aZ,rM,aIE,aL7,al1]
   refine⟨by first|rfl|(rw[IntWalk.i64_in _ aA];rfl),(by
     intro q_
     by_cases h0_:q_=n2
     ·rw[h0_];exact .inr aQK
     by_cases h1_:q_=n3
     ·rw[h1_];exact .inr aQK
     by_cases h2_:q_=a'
     ·rw[h2_];exact .inr aQK
     by_cases h3_:q_=b'
     ·rw[h3_];exact .inr aQK
     by_cases h4_:q_=c'
     ·rw[h4_];exact .inr aQK
     by_cases h5_:q_=d'
     ·rw[h5_];exact .inr aQK
     exact .inr bRI),⟨by omega,⟨a8Z,a89,a9I,a9T⟩,?_,?_,?_⟩,by omega⟩
   all_goals(repeat'(with_reducible refine And.intro ?_ ?_))
   all_goals assumption
  |some o =>
   obtain⟨a,b,c,d⟩:=o
   rw[rM]at ho
   obtain⟨⟨ga,gb,gc,gd⟩,⟨ab,ac,ad,bc,bd,cd⟩,⟨an,bn,cn,dn⟩,⟨am,bm,cm,dm⟩⟩:=ho
   have aEJ:(a=b)=False:=eq_false ab
   have aEK:(b=a)=False:=eq_false (iW ab)
   have aEL:(a=c)=False:=eq_false ac
   have aEM:(c=a)=False:=eq_false (iW ac)
   have aEN:(a=d)=False:=eq_false ad
   have aEO:(d=a)=False:=eq_false (iW ad)
   have aEP:(b=c)=False:=eq_false bc
   have aEQ:(c=b)=False:=eq_false (iW bc)
   have aER:(b=d)=False:=eq_false bd
   have aES:(d=b)=False:=eq_false (iW bd)
   have aET:(c=d)=False:=eq_false cd
   have aEU:(d=c)=False:=eq_false (iW cd)
   have vQ:(a=n2)=False:=eq_false an
   have vR:(n2=a)=False:=eq_false (iW an)
   have vS:(b=n2)=False:=eq_false bn
   have vT:(n2=b)=False:=eq_false (iW bn)
   have vU:(c=n2)=False:=eq_false cn
   have vV:(n2=c)=False:=eq_false (iW cn)
   have vW:(d=n2)=False:=eq_false dn
   have vX:(n2=d)=False:=eq_false (iW dn)
   have vY:(a=n3)=False:=eq_false am
   have vZ:(n3=a)=False:=eq_false (iW am)
   have v7:(b=n3)=False:=eq_false bm
   have v8:(n3=b)=False:=eq_false (iW bm)
   have wA:(c=n3)=False:=eq_false cm
   have wB:(n3=c)=False:=eq_false (iW cm)
   have wC:(d=n3)=False:=eq_false dm
   have wD:(n3=d)=False:=eq_false (iW dm)
   try simp -dsimp -implicitDefEqProofs only[go_sem,↓reduceIte,Tryz.f76,aF,aE,bD,bE,aEJ,aEK,aEL,aEM,aEN,aEO,aEP,aEQ,aER,aES,aET,aEU,vQ,vR,vS,vT,vU,vV,vW,vX,vY,vZ,v7,v8,wA,wB,wC,wD,bA.flat,bA.one,bJ.flat,bJ.one,bK.flat,bK.one,hlt,jQ,jR,jS,jT,iN,iO,iP,iQ,aN,aK,bI,aZ]
   repeat'(with_reducible first|refine And.intro eU ?_)
   intro a' qa'
   obtain⟨a8V,nF,nG,a8W⟩:=cB (show ¬a'=n2 from iV qa')
   obtain⟨a8X,nH,nI,a8Y⟩:=cB (show ¬a'=n3 from iV qa')
   obtain⟨b2I,aGL,aGM,b2J⟩:=cB (show ¬a'=a from iV qa')
   obtain⟨b2K,aGN,aGO,b2L⟩:=cB (show ¬a'=b from iV qa')
   obtain⟨b2M,aGP,aGQ,b2N⟩:=cB (show ¬a'=c from iV qa')
   obtain⟨b2O,aGR,aGS,b2P⟩:=cB (show ¬a'=d from iV qa')
   have a8Z:gc0 a'=none:=iV qa'
   try simp -dsimp -implicitDefEqProofs only[go_sem,↓reduceIte,Tryz.f76,aF,aE,bD,bE,aEJ,aEK,aEL,aEM,aEN,aEO,aEP,aEQ,aER,aES,aET,aEU,vQ,vR,vS,vT,vU,vV,vW,vX,vY,vZ,v7,v8,wA,wB,wC,wD,nF,nG,nH,nI,aGL,aGM,aGN,aGO,aGP,aGQ,aGR,aGS,bA.flat,bA.one,bJ.flat,bJ.one,bK.flat,bK.one,hlt,jQ,jR,jS,jT,iN,iO,iP,iQ,aN,aK,bI,aZ]
   repeat'(with_reducible first|refine And.intro eU ?_)
   intro b' qb'
   obtain⟨a81,qP,qQ,a82⟩:=cB (show ¬b'=n2 from iV qb')
   obtain⟨a83,qR,qS,a84⟩:=cB (show ¬b'=n3 from iV qb')
   obtain⟨b2Q,aK5,aK6,b2R⟩:=cB (show ¬b'=a from iV qb')
   obtain⟨b2S,aK7,aK8,b2T⟩:=cB (show ¬b'=b from iV qb')
   obtain⟨b2U,aK9,aLA,b2V⟩:=cB (show ¬b'=c from iV qb')
   obtain⟨b2W,aLB,aLC,b2X⟩:=cB (show ¬b'=d from iV qb')
   obtain⟨a86,qT,qU,a88⟩:=cB (show ¬b'=a' from iV qb')
   have a89:gc0 b'=none:=iV qb'
   try simp -dsimp -implicitDefEqProofs only[go_sem,↓reduceIte,Tryz.f76,aF,aE,bD,bE,aEJ,aEK,aEL,aEM,aEN,aEO,aEP,aEQ,aER,aES,aET,aEU,vQ,vR,vS,vT,vU,vV,vW,vX,vY,vZ,v7,v8,wA,wB,wC,wD,nF,nG,nH,nI,aGL,aGM,aGN,aGO,aGP,aGQ,aGR,aGS,qP,qQ,qR,qS,aK5,aK6,aK7,aK8,aK9,aLA,aLB,aLC,qT,qU,bA.flat,bA.one,bJ.flat,bJ.one,bK.flat,bK.one,hlt,jQ,jR,jS,jT,iN,iO,iP,iQ,aN,aK,bI,aZ]
   repeat'(with_reducible first|refine And.intro eU ?_)
   intro c' qc'
   obtain⟨a9A,wE,wF,a9B⟩:=cB (show ¬c'=n2 from iV qc')
   obtain⟨a9C,wG,wH,a9D⟩:=cB (show ¬c'=n3 from iV qc')
   obtain⟨b2Y,aR5,aR6,b2Z⟩:=cB (show ¬c'=a from iV qc')
   obtain⟨b20,aR7,aR8,b21⟩:=cB (show ¬c'=b from iV qc')
   obtain⟨b22,aR9,aSA,b23⟩:=cB (show ¬c'=c from iV qc')
   obtain⟨b24,aSB,aSC,b25⟩:=cB (show ¬c'=d from iV qc')
   obtain⟨a9E,wI,wJ,a9F⟩:=cB (show ¬c'=a' from iV qc')
   obtain⟨a9G,wK,wL,a9H⟩:=cB (show ¬c'=b' from iV qc')
   have a9I:gc0 c'=none:=iV qc'
   try simp -dsimp -implicitDefEqProofs only[go_sem,↓reduceIte,Tryz.f76,aF,aE,bD,bE,aEJ,aEK,aEL,aEM,aEN,aEO,aEP,aEQ,aER,aES,aET,aEU,vQ,vR,vS,vT,vU,vV,vW,vX,vY,vZ,v7,v8,wA,wB,wC,wD,nF,nG,nH,nI,aGL,aGM,aGN,aGO,aGP,aGQ,aGR,aGS,qP,qQ,qR,qS,aK5,aK6,aK7,aK8,aK9,aLA,aLB,aLC,qT,qU,wE,wF,wG,wH,aR5,aR6,aR7,aR8,aR9,aSA,aSB,aSC,wI,wJ,wK,wL,bA.flat,bA.one,bJ.flat,bJ.one,bK.flat,bK.one,hlt,jQ,jR,jS,jT,iN,iO,iP,iQ,aN,aK,bI,aZ]
   repeat'(with_reducible first|refine And.intro eU ?_)
   intro d' qd'
   obtain⟨a9J,aCQ,aCR,a9K⟩:=cB (show ¬d'=n2 from iV qd')
   obtain⟨a9L,aCS,aCT,a9M⟩:=cB (show ¬d'=n3 from iV qd')
   obtain⟨b26,a2L,a2M,b27⟩:=cB (show ¬d'=a from iV qd')
   obtain⟨b28,a2N,a2O,b29⟩:=cB (show ¬d'=b from iV qd')
   obtain⟨b3A,a2P,a2Q,b3B⟩:=cB (show ¬d'=c from iV qd')
   obtain⟨b3C,a2R,a2S,b3D⟩:=cB (show ¬d'=d from iV qd')
   obtain⟨a9N,aCU,aCV,a9O⟩:=cB (show ¬d'=a' from iV qd')
   obtain⟨a9P,aCW,aCX,a9Q⟩:=cB (show ¬d'=b' from iV qd')
   obtain⟨a9R,aCY,aCZ,a9S⟩:=cB (show ¬d'=c' from iV qd')
   have a9T:gc0 d'=none:=iV qd'
   try simp -dsimp -implicitDefEqProofs only[go_sem,↓reduceIte,Tryz.f76,aF,aE,bD,bE,aEJ,aEK,aEL,aEM,aEN,aEO,aEP,aEQ,aER,aES,aET,aEU,vQ,vR,vS,vT,vU,vV,vW,vX,vY,vZ,v7,v8,wA,wB,wC,wD,nF,nG,nH,nI,aGL,aGM,aGN,aGO,aGP,aGQ,aGR,aGS,qP,qQ,qR,qS,aK5,aK6,aK7,aK8,aK9,aLA,aLB,aLC,qT,qU,wE,wF,wG,wH,aR5,aR6,aR7,aR8,aR9,aSA,aSB,aSC,wI,wJ,wK,wL,aCQ,aCR,aCS,aCT,a2L,a2M,a2N,a2O,a2P,a2Q,a2R,a2S,aCU,aCV,aCW,aCX,aCY,aCZ,bA.flat,bA.one,bJ.flat,bJ.one,bK.flat,bK.one,hlt,jQ,jR,jS,jT,iN,iO,iP,iQ,aN,aK,bI,aZ]
   refine⟨(k+1,some (a',b',c',d')),?_⟩
   simp only[iN,iO,iP,iQ,aK,aZ,rM,aIE,aL7,al1]
   refine⟨by first|rfl|(rw[IntWalk.i64_in _ aA];rfl),(by
     intro q_
     by_cases h0_:q_=n2
     ·rw[h0_];exact .inr aQJ
     by_cases h1_:q_=n3
     ·rw[h1_];exact .inr aQJ
     by_cases h2_:q_=a'
     ·rw[h2_];exact .inr aQJ
     by_cases h3_:q_=b'
     ·rw[h3_];exact .inr aQJ
     by_cases h4_:q_=c'
     ·rw[h4_];exact .inr aQJ
     by_cases h5_:q_=d'
     ·rw[h5_];exact .inr aQJ
     by_cases k0_:q_=a
     ·rw[k0_];exact .inl a2K
     by_cases k1_:q_=b
     ·rw[k1_];exact .inl a2K
     by_cases k2_:q_=c
     ·rw[k2_];exact .inl a2K
     by_cases k3_:q_=d
     ·rw[k3_];exact .inl a2K
     exact .inr bRA),⟨by omega,⟨a8Z,a89,a9I,a9T⟩,?_,?_,?_⟩,by omega⟩
   all_goals(repeat'(with_reducible refine And.intro ?_ ?_))
   all_goals assumption
 ·have hk2:k=x.aV.length:=by omega
  subst hk2
  cases o with
  |none =>
   rw[aFC]at ho
   have h0:x.aV=[]:=aR2 ho
   try simp -dsimp -implicitDefEqProofs only[go_sem,↓reduceIte,Tryz.f76,aF,aE,bD,bE,bA.flat,bA.one,bJ.flat,bJ.one,bK.flat,bK.one,cO,eK,jQ,jR,jS,jT,iN,iO,iP,iQ,aN,aK,bI,aZ]
   repeat'(with_reducible first|refine And.intro eU ?_)
   try(with_reducible intro _)
   refine⟨_,gc0,_,Shift.wk (Sub.agg (b8.cons (Sub.refl _) (b8.cons (Sub.refl _) (b8.cons (Sub.refl _) (b8.cons (Sub.refl _) (b8.cons (Sub.refl _) (b8.cons (Sub.nil _ _) (b8.cons (Sub.nil _ _) (b8.cons (Sub.nil _ _) (b8.cons (Sub.nil _ _) b8.nil)))))))))) (Heap.iU (by
     intro q_
     by_cases k0_:q_=n2
     ·rw[k0_];exact .inl bBC
     by_cases k1_:q_=n3
     ·rw[k1_];exact .inl bBC
     exact .inr (by simp only[dD,if_neg k0_,if_neg k1_]))),⟨[lL,.v (.int .i64 x.bO),.v (.int .i64 x.aQ),rD,rE,(.nil 1),(.nil 1),(.nil 3),(.nil 1)],?_,bBB,rfl⟩,?_⟩
   ·exact⟨lL,rD,rE,(.nil 1),(.nil 1),(.nil 3),(.nil 1),rfl,bA,bJ,bK,.inl ⟨rfl,by simp[sO,h0]⟩,.inl ⟨rfl,by simp[sO,h0]⟩,.inl ⟨rfl,by simp[sO,h0]⟩,.inl ⟨rfl,by simp[sO,h0]⟩⟩
   ·have hq:=wc0
    simpa only[OV.b7,OV.cV,OV.dV,OV.kG,OV.fF,iD OV.cV,iD (e:=[OV.v (.int .i64 0)]) rfl,iD (e:=[OV.v (.bool false)]) rfl,iD (e:=[OV.v (.int .i64 0),.v (.int .i64 0),.nil 1]) rfl,iD (e:=[OV.v (.int .i64 (-1))]) rfl,aFD,aS,aY,OV.aR,OV.nV,pR,gU,oW,tE]using hq
  |some o =>
   obtain⟨a,b,c,d⟩:=o
   rw[rM]at ho
   obtain⟨⟨ga,gb,gc,gd⟩,⟨ab,ac,ad,bc,bd,cd⟩,⟨an,bn,cn,dn⟩,⟨am,bm,cm,dm⟩⟩:=ho
   have aEJ:(a=b)=False:=eq_false ab
   have aEK:(b=a)=False:=eq_false (iW ab)
   have aEL:(a=c)=False:=eq_false ac
   have aEM:(c=a)=False:=eq_false (iW ac)
   have aEN:(a=d)=False:=eq_false ad
   have aEO:(d=a)=False:=eq_false (iW ad)
   have aEP:(b=c)=False:=eq_false bc
   have aEQ:(c=b)=False:=eq_false (iW bc)
   have aER:(b=d)=False:=eq_false bd
   have aES:(d=b)=False:=eq_false (iW bd)
   have aET:(c=d)=False:=eq_false cd
   have aEU:(d=c)=False:=eq_false (iW cd)
   have vQ:(a=n2)=False:=eq_false an
   have vR:(n2=a)=False:=eq_false (iW an)
   have vS:(b=n2)=False:=eq_false bn
   have vT:(n2=b)=False:=eq_false (iW bn)
   have vU:(c=n2)=False:=eq_false cn
   have vV:(n2=c)=False:=eq_false (iW cn)
   have vW:(d=n2)=False:=eq_false dn
   have vX:(n2=d)=False:=eq_false (iW dn)
   have vY:(a=n3)=False:=eq_false am
   have vZ:(n3=a)=False:=eq_false (iW am)
   have v7:(b=n3)=False:=eq_false bm
   have v8:(n3=b)=False:=eq_false (iW bm)
   have wA:(c=n3)=False:=eq_false cm
   have wB:(n3=c)=False:=eq_false (iW cm)
   have wC:(d=n3)=False:=eq_false dm
   have wD:(n3=d)=False:=eq_false (iW dm)
   try simp -dsimp -implicitDefEqProofs only[go_sem,↓reduceIte,Tryz.f76,aF,aE,bD,bE,aEJ,aEK,aEL,aEM,aEN,aEO,aEP,aEQ,aER,aES,aET,aEU,vQ,vR,vS,vT,vU,vV,vW,vX,vY,vZ,v7,v8,wA,wB,wC,wD,bA.flat,bA.one,bJ.flat,bJ.one,bK.flat,bK.one,cO,eK,jQ,jR,jS,jT,iN,iO,iP,iQ,aN,aK,bI,aZ]
   repeat'(with_reducible first|refine And.intro eU ?_)
   try(with_reducible intro _)
   refine⟨_,(bL (bL (bL (bL gc0 a (.row 1 (lI x.aV.length [.v (.int .i64 0)]))) b (.row 1 (lI x.aV.length [.v (.bool false)]))) c (.row 3 (lI x.aV.length [.v (.int .i64 0),.v (.int .i64 0),.v (.sl 1 [] true)]))) d (.row 1 (lI x.aV.length [.v (.int .i64 (-1))]))),_,Shift.wk (Sub.agg (b8.cons (Sub.refl _) (b8.cons (Sub.refl _) (b8.cons (Sub.refl _) (b8.cons (Sub.refl _) (b8.cons (Sub.refl _) (b8.cons (Sub.refl _) (b8.cons (Sub.refl _) (b8.cons (Sub.refl _) (b8.cons (Sub.refl _) b8.nil)))))))))) (Heap.wk.trans (b:=(bL (bL (bL (bL gc0 a (.row 1 (lI x.aV.length [.v (.int .i64 0)]))) b (.row 1 (lI x.aV.length [.v (.bool false)]))) c (.row 3 (lI x.aV.length [.v (.int .i64 0),.v (.int .i64 0),.v .aU]))) d (.row 1 (lI x.aV.length [.v (.int .i64 (-1))])))) (Heap.aJR (m:=c) (sz:=3) (es:=lI x.aV.length [.v (.int .i64 0),.v (.int .i64 0),.v .aU]) (es':=lI x.aV.length [.v (.int .i64 0),.v (.int .i64 0),.v (.sl 1 [] true)]) (λq_ hq_=>by simp only[dD,if_neg hq_]) (by simp[dD,cd]) (by simp[dD,cd]) (iS.lI (a:=[.int .i64 0,.int .i64 0,.aU]) (b:=[.int .i64 0,.int .i64 0,.sl 1 [] true]) (.cons (.refl _) (.cons (.refl _) (.cons (Sub.nil 1 true) .nil))) _)) (Heap.iU (by
     intro q_
     by_cases h0_:q_=a
     ·rw[h0_];exact .inr a2T
     by_cases h1_:q_=b
     ·rw[h1_];exact .inr a2T
     by_cases h2_:q_=c
     ·rw[h2_];exact .inr a2T
     by_cases h3_:q_=d
     ·rw[h3_];exact .inr a2T
     by_cases k0_:q_=n2
     ·rw[k0_];exact .inl bM9
     by_cases k1_:q_=n3
     ·rw[k1_];exact .inl bM9
     exact .inr bRH))),⟨[lL,.v (.int .i64 x.bO),.v (.int .i64 x.aQ),rD,rE,(.sl a 1 (List.replicate x.aV.length [.v (.int .i64 0)])),(.sl b 1 (List.replicate x.aV.length [.v (.bool false)])),(.sl c 3 (List.replicate x.aV.length [.v (.int .i64 0),.v (.int .i64 0),.nil 1])),(.sl d 1 (List.replicate x.aV.length [.v (.int .i64 (-1))]))],?_,bBB,rfl⟩,?_⟩
   ·exact⟨lL,rD,rE,(.sl a 1 (List.replicate x.aV.length [.v (.int .i64 0)])),(.sl b 1 (List.replicate x.aV.length [.v (.bool false)])),(.sl c 3 (List.replicate x.aV.length [.v (.int .i64 0),.v (.int .i64 0),.nil 1])),(.sl d 1 (List.replicate x.aV.length [.v (.int .i64 (-1))])),rfl,bA,bJ,bK,OS.mk (OR.lI (R:=oP I) rfl _),OS.mk (OR.lI (R:=oP aC.bool) rfl _),OS.mk (OR.lI (R:=cR.o) ⟨.nil 1,rfl,OS.nil⟩ _),OS.mk (OR.lI (R:=oP I) rfl _)⟩
   ·have hq:=eO.four wc0 (ra:=.row 1 (lI x.aV.length [.v (.int .i64 0)])) (rb:=.row 1 (lI x.aV.length [.v (.bool false)])) (rc:=.row 3 (lI x.aV.length [.v (.int .i64 0),.v (.int .i64 0),.v (.sl 1 [] true)])) (rd:=.row 1 (lI x.aV.length [.v (.int .i64 (-1))])) ga gb gc gd ab ac ad bc bd cd
    simpa only[OV.b7,OV.cV,OV.dV,OV.kG,OV.fF,iD OV.cV,iD (e:=[OV.v (.int .i64 0)]) rfl,iD (e:=[OV.v (.bool false)]) rfl,iD (e:=[OV.v (.int .i64 0),.v (.int .i64 0),.nil 1]) rfl,iD (e:=[OV.v (.int .i64 (-1))]) rfl,aFD,aS,aY,OV.aR,OV.nV,pR,gU,oW,tE]using hq
@[go_sem] def bKC:List Nat:=[0,2,3,4,14]
@[go_sem] def b3E:List Nat:=[19,24,29,31,36]
set_option maxHeartbeats 2000000 in
theorem bWJ (x:dF) (hs:x.s<=1048576) (hl:x.aV.length<=1048576):qK Tryz.prog 67 [.ip 5 [x.c] 0 0] (QA (sO x).o):=by
 simp only[dF.aO]
 refine tA 40 bKC b3E bS Tryz.func67 λh=>?_
 try simp -dsimp -implicitDefEqProofs only[go_sem,↓reduceIte,Tryz.f67,aF,aE]
 intro n2 qn2
 have b6:=qn2
 try simp -dsimp -implicitDefEqProofs only[go_sem,↓reduceIte,Tryz.f67,aF,aE]
 refine aH.wn1 (aOB x aA) b6 ?_
 rintro r l_ gc0 ⟨aZ0,aFJ,rfl,rfl⟩ wc0 b6
 have aFK:=aFJ
 obtain⟨lL,rD,rE,rfl,bA,bJ,bK⟩:=aFK
 try simp -dsimp -implicitDefEqProofs only[go_sem,↓reduceIte,Tryz.f67,aF,aE,bA.flat,bA.one,bJ.flat,bJ.one,bK.flat,bK.one,OV.aM,OV.aD,OV.aR]
 intro n3 uH
 obtain⟨dW,bD,bE,oN⟩:=cB (show ¬n3=n2 from uH.1)
 have cT:=uH.2
 try simp -dsimp -implicitDefEqProofs only[go_sem,↓reduceIte,Tryz.f67,aF,aE,bD,bE,bA.flat,bA.one,bJ.flat,bJ.one,bK.flat,bK.one,OV.aM,OV.aD,OV.aR]
 try(with_reducible intro _)
 refine cY bKC b3E bS (λs:Nat×Q4=>[(0,.ip 5 [[dA 3 aX.c x.bR.aJ,I x.bO,I x.aQ,dA 1 (λn=>[I n]) x.c7,dA 1 (λl=>[dA 1 (λn=>[I n]) l]) x.aV]] 0 0),(2,.op n2 9 0 0),(3,.op n3 9 0 0),(4,(I s.1))]) (λs=>(dG (dG (dG (dG (bL (bL gc0 n2 (.row 9 [[.v (.aU),.v (.int .i64 0),.v (.int .i64 0),.v (.aU),.v (.aU),.v (.aU),.v (.aU),.v (.aU),.v (.aU)]])) n3 (.row 9 [[.v (lL.val),.v (.int .i64 x.bO),.v (.int .i64 x.aQ),.v (rD.val),.v (rE.val),.v (j3 1 s.1 (q1 s.2)),.v (j3 1 s.1 (q2 s.2)),.v (j3 3 s.1 (q3 s.2)),.v (j3 1 s.1 (q4 s.2))]])) (.row 1 (lI s.1 [.v (.int .i64 0)])) (q1 s.2)) (.row 1 (lI s.1 [.v (.bool false)])) (q2 s.2)) (.row 3 (lI s.1 [.v (.int .i64 0),.v (.int .i64 0),.v (.sl 1 [] true)])) (q3 s.2)) (.row 1 (lI s.1 [.v (.int .i64 (-1))])) (q4 s.2))) (λs=>s.1<=x.aV.length/\bCJ gc0 n2 n3 s.1 s.2) (λs=>x.aV.length-s.1) (0,none) ⟨by simp[eE,dJ],bRE,iF _,rfl⟩ ?_
 rintro⟨k,o⟩ ⟨hk,ho⟩
 simp only at hk ho ⊢
 rcases cX k x.aV.length with hlt|hge
 ·cases o with
  |none =>
   rw[aFC]at ho
   subst ho
   try simp -dsimp -implicitDefEqProofs only[go_sem,↓reduceIte,Tryz.f67,aF,aE,bD,bE,bA.flat,bA.one,bJ.flat,bJ.one,bK.flat,bK.one,hlt,jQ,jR,jS,jT,iN,iO,iP,iQ,aN,aK,bI,aZ]
   intro _
   repeat'(with_reducible first|refine And.intro eU ?_)
   intro a' qa'
   obtain⟨a8V,nF,nG,a8W⟩:=cB (show ¬a'=n2 from iV qa')
   obtain⟨a8X,nH,nI,a8Y⟩:=cB (show ¬a'=n3 from iV qa')
   have a8Z:gc0 a'=none:=iV qa'
   try simp -dsimp -implicitDefEqProofs only[go_sem,↓reduceIte,Tryz.f67,aF,aE,bD,bE,nF,nG,nH,nI,bA.flat,bA.one,bJ.flat,bJ.one,bK.flat,bK.one,hlt,jQ,jR,jS,jT,iN,iO,iP,iQ,aN,aK,bI,aZ]
   repeat'(with_reducible first|refine And.intro eU ?_)
   intro b' qb'
   obtain⟨a81,qP,qQ,a82⟩:=cB (show ¬b'=n2 from iV qb')
   obtain⟨a83,qR,qS,a84⟩:=cB (show ¬b'=n3 from iV qb')
   obtain⟨a86,qT,qU,a88⟩:=cB (show ¬b'=a' from iV qb')
   have a89:gc0 b'=none:=iV qb'
   try simp -dsimp -implicitDefEqProofs only[go_sem,↓reduceIte,Tryz.f67,aF,aE,bD,bE,nF,nG,nH,nI,qP,qQ,qR,qS,qT,qU,bA.flat,bA.one,bJ.flat,bJ.one,bK.flat,bK.one,hlt,jQ,jR,jS,jT,iN,iO,iP,iQ,aN,aK,bI,aZ]
   repeat'(with_reducible first|refine And.intro eU ?_)
   intro c' qc'
   obtain⟨a9A,wE,wF,a9B⟩:=cB (show ¬c'=n2 from iV qc')
   obtain⟨a9C,wG,wH,a9D⟩:=cB (show ¬c'=n3 from iV qc')
   obtain⟨a9E,wI,wJ,a9F⟩:=cB (show ¬c'=a' from iV qc')
   obtain⟨a9G,wK,wL,a9H⟩:=cB (show ¬c'=b' from iV qc')
   have a9I:gc0 c'=none:=iV qc'
   try simp -dsimp -implicitDefEqProofs only[go_sem,↓reduceIte,Tryz.f67,aF,aE,bD,bE,nF,nG,nH,nI,qP,qQ,qR,qS,qT,qU,wE,wF,wG,wH,wI,wJ,wK,wL,bA.flat,bA.one,bJ.flat,bJ.one,bK.flat,bK.one,hlt,jQ,jR,jS,jT,iN,iO,iP,iQ,aN,aK,bI,aZ]
   repeat'(with_reducible first|refine And.intro eU ?_)
   intro d' qd'
   obtain⟨a9J,aCQ,aCR,a9K⟩:=cB (show ¬d'=n2 from iV qd')
   obtain⟨a9L,aCS,aCT,a9M⟩:=cB (show ¬d'=n3 from iV qd')
   obtain⟨a9N,aCU,aCV,a9O⟩:=cB (show ¬d'=a' from iV qd')
   obtain⟨a9P,aCW,aCX,a9Q⟩:=cB (show ¬d'=b' from iV qd')
   obtain⟨a9R,aCY,aCZ,a9S⟩:=cB (show ¬d'=c' from iV qd')
   have a9T:gc0 d'=none:=iV qd'
   try simp -dsimp -implicitDefEqProofs only[go_sem,↓reduceIte,Tryz.f67,aF,aE,bD,bE,nF,nG,nH,nI,qP,qQ,qR,qS,qT,qU,wE,wF,wG,wH,wI,wJ,wK,wL,aCQ,aCR,aCS,aCT,aCU,aCV,aCW,aCX,aCY,aCZ,bA.flat,bA.one,bJ.flat,bJ.one,bK.flat,bK.one,hlt,jQ,jR,jS,jT,iN,iO,iP,iQ,aN,aK,bI,aZ]
   refine⟨(1,some (a',b',c',d')),?_⟩
   simp only[iN,iO,iP,iQ,aK,aZ,rM,aIE,aL7,al1]
   refine⟨by first|rfl|(rw[IntWalk.i64_in _ aA];rfl),(by
     intro q_
     by_cases h0_:q_=n2
     ·rw[h0_];exact .inr aQK
     by_cases h1_:q_=n3
     ·rw[h1_];exact .inr aQK
     by_cases h2_:q_=a'
     ·rw[h2_];exact .inr aQK
     by_cases h3_:q_=b'
     ·rw[h3_];exact .inr aQK
     by_cases h4_:q_=c'
     ·rw[h4_];exact .inr aQK
     by_cases h5_:q_=d'
     ·rw[h5_];exact .inr aQK
     exact .inr bRI),⟨by omega,⟨a8Z,a89,a9I,a9T⟩,?_,?_,?_⟩,by omega⟩
   all_goals(repeat'(with_reducible refine And.intro ?_ ?_))
   all_goals assumption
  |some o =>
   obtain⟨a,b,c,d⟩:=o
   rw[rM]at ho
   obtain⟨⟨ga,gb,gc,gd⟩,⟨ab,ac,ad,bc,bd,cd⟩,⟨an,bn,cn,dn⟩,⟨am,bm,cm,dm⟩⟩:=ho
   have aEJ:(a=b)=False:=eq_false ab
   have aEK:(b=a)=False:=eq_false (iW ab)
   have aEL:(a=c)=False:=eq_false ac
   have aEM:(c=a)=False:=eq_false (iW ac)
   have aEN:(a=d)=False:=eq_false ad
   have aEO:(d=a)=False:=eq_false (iW ad)
   have aEP:(b=c)=False:=eq_false bc
   have aEQ:(c=b)=False:=eq_false (iW bc)
   have aER:(b=d)=False:=eq_false bd
   have aES:(d=b)=False:=eq_false (iW bd)
   have aET:(c=d)=False:=eq_false cd
   have aEU:(d=c)=False:=eq_false (iW cd)
   have vQ:(a=n2)=False:=eq_false an
   have vR:(n2=a)=False:=eq_false (iW an)
   have vS:(b=n2)=False:=eq_false bn
   have vT:(n2=b)=False:=eq_false (iW bn)
   have vU:(c=n2)=False:=eq_false cn
   have vV:(n2=c)=False:=eq_false (iW cn)
   have vW:(d=n2)=False:=eq_false dn
   have vX:(n2=d)=False:=eq_false (iW dn)
   have vY:(a=n3)=False:=eq_false am
   have vZ:(n3=a)=False:=eq_false (iW am)
   have v7:(b=n3)=False:=eq_false bm
   have v8:(n3=b)=False:=eq_false (iW bm)
   have wA:(c=n3)=False:=eq_false cm
   have wB:(n3=c)=False:=eq_false (iW cm)
   have wC:(d=n3)=False:=eq_false dm
   have wD:(n3=d)=False:=eq_false (iW dm)
   try simp -dsimp -implicitDefEqProofs only[go_sem,↓reduceIte,Tryz.f67,aF,aE,bD,bE,aEJ,aEK,aEL,aEM,aEN,aEO,aEP,aEQ,aER,aES,aET,aEU,vQ,vR,vS,vT,vU,vV,vW,vX,vY,vZ,v7,v8,wA,wB,wC,wD,bA.flat,bA.one,bJ.flat,bJ.one,bK.flat,bK.one,hlt,jQ,jR,jS,jT,iN,iO,iP,iQ,aN,aK,bI,aZ]
   intro _
   repeat'(with_reducible first|refine And.intro eU ?_)
   intro a' qa'
   obtain⟨a8V,nF,nG,a8W⟩:=cB (show ¬a'=n2 from iV qa')
   obtain⟨a8X,nH,nI,a8Y⟩:=cB (show ¬a'=n3 from iV qa')
   obtain⟨b2I,aGL,aGM,b2J⟩:=cB (show ¬a'=a from iV qa')
   obtain⟨b2K,aGN,aGO,b2L⟩:=cB (show ¬a'=b from iV qa')
   obtain⟨b2M,aGP,aGQ,b2N⟩:=cB (show ¬a'=c from iV qa')
   obtain⟨b2O,aGR,aGS,b2P⟩:=cB (show ¬a'=d from iV qa')
   have a8Z:gc0 a'=none:=iV qa'
   try simp -dsimp -implicitDefEqProofs only[go_sem,↓reduceIte,Tryz.f67,aF,aE,bD,bE,aEJ,aEK,aEL,aEM,aEN,aEO,aEP,aEQ,aER,aES,aET,aEU,vQ,vR,vS,vT,vU,vV,vW,vX,vY,vZ,v7,v8,wA,wB,wC,wD,nF,nG,nH,nI,aGL,aGM,aGN,aGO,aGP,aGQ,aGR,aGS,bA.flat,bA.one,bJ.flat,bJ.one,bK.flat,bK.one,hlt,jQ,jR,jS,jT,iN,iO,iP,iQ,aN,aK,bI,aZ]
   repeat'(with_reducible first|refine And.intro eU ?_)
   intro b' qb'
   obtain⟨a81,qP,qQ,a82⟩:=cB (show ¬b'=n2 from iV qb')
   obtain⟨a83,qR,qS,a84⟩:=cB (show ¬b'=n3 from iV qb')
   obtain⟨b2Q,aK5,aK6,b2R⟩:=cB (show ¬b'=a from iV qb')
   obtain⟨b2S,aK7,aK8,b2T⟩:=cB (show ¬b'=b from iV qb')
   obtain⟨b2U,aK9,aLA,b2V⟩:=cB (show ¬b'=c from iV qb')
   obtain⟨b2W,aLB,aLC,b2X⟩:=cB (show ¬b'=d from iV qb')
   obtain⟨a86,qT,qU,a88⟩:=cB (show ¬b'=a' from iV qb')
   have a89:gc0 b'=none:=iV qb'
   try simp -dsimp -implicitDefEqProofs only[go_sem,↓reduceIte,Tryz.f67,aF,aE,bD,bE,aEJ,aEK,aEL,aEM,aEN,aEO,aEP,aEQ,aER,aES,aET,aEU,vQ,vR,vS,vT,vU,vV,vW,vX,vY,vZ,v7,v8,wA,wB,wC,wD,nF,nG,nH,nI,aGL,aGM,aGN,aGO,aGP,aGQ,aGR,aGS,qP,qQ,qR,qS,aK5,aK6,aK7,aK8,aK9,aLA,aLB,aLC,qT,qU,bA.flat,bA.one,bJ.flat,bJ.one,bK.flat,bK.one,hlt,jQ,jR,jS,jT,iN,iO,iP,iQ,aN,aK,bI,aZ]
   repeat'(with_reducible first|refine And.intro eU ?_)
   intro c' qc'
   obtain⟨a9A,wE,wF,a9B⟩:=cB (show ¬c'=n2 from iV qc')
   obtain⟨a9C,wG,wH,a9D⟩:=cB (show ¬c'=n3 from iV qc')
   obtain⟨b2Y,aR5,aR6,b2Z⟩:=cB (show ¬c'=a from iV qc')
   obtain⟨b20,aR7,aR8,b21⟩:=cB (show ¬c'=b from iV qc')
   obtain⟨b22,aR9,aSA,b23⟩:=cB (show ¬c'=c from iV qc')
   obtain⟨b24,aSB,aSC,b25⟩:=cB (show ¬c'=d from iV qc')
   obtain⟨a9E,wI,wJ,a9F⟩:=cB (show ¬c'=a' from iV qc')
   obtain⟨a9G,wK,wL,a9H⟩:=cB (show ¬c'=b' from iV qc')
   have a9I:gc0 c'=none:=iV qc'
   try simp -dsimp -implicitDefEqProofs only[go_sem,↓reduceIte,Tryz.f67,aF,aE,bD,bE,aEJ,aEK,aEL,aEM,aEN,aEO,aEP,aEQ,aER,aES,aET,aEU,vQ,vR,vS,vT,vU,vV,vW,vX,vY,vZ,v7,v8,wA,wB,wC,wD,nF,nG,nH,nI,aGL,aGM,aGN,aGO,aGP,aGQ,aGR,aGS,qP,qQ,qR,qS,aK5,aK6,aK7,aK8,aK9,aLA,aLB,aLC,qT,qU,wE,wF,wG,wH,aR5,aR6,aR7,aR8,aR9,aSA,aSB,aSC,wI,wJ,wK,wL,bA.flat,bA.one,bJ.flat,bJ.one,bK.flat,bK.one,hlt,jQ,jR,jS,jT,iN,iO,iP,iQ,aN,aK,bI,aZ]
   repeat'(with_reducible first|refine And.intro eU ?_)
   intro d' qd'
   obtain⟨a9J,aCQ,aCR,a9K⟩:=cB (show ¬d'=n2 from iV qd')
   obtain⟨a9L,aCS,aCT,a9M⟩:=cB (show ¬d'=n3 from iV qd')
   obtain⟨b26,a2L,a2M,b27⟩:=cB (show ¬d'=a from iV qd')
   obtain⟨b28,a2N,a2O,b29⟩:=cB (show ¬d'=b from iV qd')
   obtain⟨b3A,a2P,a2Q,b3B⟩:=cB (show ¬d'=c from iV qd')
   obtain⟨b3C,a2R,a2S,b3D⟩:=cB (show ¬d'=d from iV qd')
   obtain⟨a9N,aCU,aCV,a9O⟩:=cB (show ¬d'=a' from iV qd')
   obtain⟨a9P,aCW,aCX,a9Q⟩:=cB (show ¬d'=b' from iV qd')
   obtain⟨a9R,aCY,aCZ,a9S⟩:=cB (show ¬d'=c' from iV qd')
   have a9T:gc0 d'=none:=iV qd'
   try simp -dsimp -implicitDefEqProofs only[go_sem,↓reduceIte,Tryz.f67,aF,aE,bD,bE,aEJ,aEK,aEL,aEM,aEN,aEO,aEP,aEQ,aER,aES,aET,aEU,vQ,vR,vS,vT,vU,vV,vW,vX,vY,vZ,v7,v8,wA,wB,wC,wD,nF,nG,nH,nI,aGL,aGM,aGN,aGO,aGP,aGQ,aGR,aGS,qP,qQ,qR,qS,aK5,aK6,aK7,aK8,aK9,aLA,aLB,aLC,qT,qU,wE,wF,wG,wH,aR5,aR6,aR7,aR8,aR9,aSA,aSB,aSC,wI,wJ,wK,wL,aCQ,aCR,aCS,aCT,a2L,a2M,a2N,a2O,a2P,a2Q,a2R,a2S,aCU,aCV,aCW,aCX,aCY,aCZ,bA.flat,bA.one,bJ.flat,bJ.one,bK.flat,bK.one,hlt,jQ,jR,jS,jT,iN,iO,iP,iQ,aN,aK,bI,aZ]
   refine⟨(k+1,some (a',b',c',d')),?_⟩
   simp only[iN,iO,iP,iQ,aK,aZ,rM,aIE,aL7,al1]
   refine⟨by first|rfl|(rw[IntWalk.i64_in _ aA];rfl),(by
     intro q_
     by_cases h0_:q_=n2
     ·rw[h0_];exact .inr aQJ
     by_cases h1_:q_=n3
     ·rw[h1_];exact .inr aQJ
     by_cases h2_:q_=a'
     ·rw[h2_];exact .inr aQJ
     by_cases h3_:q_=b'
     ·rw[h3_];exact .inr aQJ
     by_cases h4_:q_=c'
     ·rw[h4_];exact .inr aQJ
     by_cases h5_:q_=d'
     ·rw[h5_];exact .inr aQJ
     by_cases k0_:q_=a
     ·rw[k0_];exact .inl a2K
     by_cases k1_:q_=b
     ·rw[k1_];exact .inl a2K
     by_cases k2_:q_=c
     ·rw[k2_];exact .inl a2K
     by_cases k3_:q_=d
     ·rw[k3_];exact .inl a2K
     exact .inr bRA),⟨by omega,⟨a8Z,a89,a9I,a9T⟩,?_,?_,?_⟩,by omega⟩
   all_goals(repeat'(with_reducible refine And.intro ?_ ?_))
   all_goals assumption
 ·have hk2:k=x.aV.length:=by omega
  subst hk2
  cases o with
  |none =>
   rw[aFC]at ho
   have h0:x.aV=[]:=aR2 ho
   try simp -dsimp -implicitDefEqProofs only[go_sem,↓reduceIte,Tryz.f67,aF,aE,bD,bE,bA.flat,bA.one,bJ.flat,bJ.one,bK.flat,bK.one,cO,eK,jQ,jR,jS,jT,iN,iO,iP,iQ,aN,aK,bI,aZ]
   repeat'(with_reducible first|refine And.intro eU ?_)
   try(with_reducible intro _)
   refine⟨_,gc0,_,Shift.wk (Sub.agg (b8.cons (Sub.refl _) (b8.cons (Sub.refl _) (b8.cons (Sub.refl _) (b8.cons (Sub.refl _) (b8.cons (Sub.refl _) (b8.cons (Sub.nil _ _) (b8.cons (Sub.nil _ _) (b8.cons (Sub.nil _ _) (b8.cons (Sub.nil _ _) b8.nil)))))))))) (Heap.iU (by
     intro q_
     by_cases k0_:q_=n2
     ·rw[k0_];exact .inl bBC
     by_cases k1_:q_=n3
     ·rw[k1_];exact .inl bBC
     exact .inr (by simp only[dD,if_neg k0_,if_neg k1_]))),⟨[lL,.v (.int .i64 x.bO),.v (.int .i64 x.aQ),rD,rE,(.nil 1),(.nil 1),(.nil 3),(.nil 1)],?_,bBB,rfl⟩,?_⟩
   ·exact⟨lL,rD,rE,(.nil 1),(.nil 1),(.nil 3),(.nil 1),rfl,bA,bJ,bK,.inl ⟨rfl,by simp[sO,h0]⟩,.inl ⟨rfl,by simp[sO,h0]⟩,.inl ⟨rfl,by simp[sO,h0]⟩,.inl ⟨rfl,by simp[sO,h0]⟩⟩
   ·have hq:=wc0
    simpa only[OV.b7,OV.cV,OV.dV,OV.kG,OV.fF,iD OV.cV,iD (e:=[OV.v (.int .i64 0)]) rfl,iD (e:=[OV.v (.bool false)]) rfl,iD (e:=[OV.v (.int .i64 0),.v (.int .i64 0),.nil 1]) rfl,iD (e:=[OV.v (.int .i64 (-1))]) rfl,aFD,aS,aY,OV.aR,OV.nV,pR,gU,oW,tE]using hq
  |some o =>
   obtain⟨a,b,c,d⟩:=o
   rw[rM]at ho
   obtain⟨⟨ga,gb,gc,gd⟩,⟨ab,ac,ad,bc,bd,cd⟩,⟨an,bn,cn,dn⟩,⟨am,bm,cm,dm⟩⟩:=ho
   have aEJ:(a=b)=False:=eq_false ab
   have aEK:(b=a)=False:=eq_false (iW ab)
   have aEL:(a=c)=False:=eq_false ac
   have aEM:(c=a)=False:=eq_false (iW ac)
   have aEN:(a=d)=False:=eq_false ad
   have aEO:(d=a)=False:=eq_false (iW ad)
   have aEP:(b=c)=False:=eq_false bc
   have aEQ:(c=b)=False:=eq_false (iW bc)
   have aER:(b=d)=False:=eq_false bd
   have aES:(d=b)=False:=eq_false (iW bd)
   have aET:(c=d)=False:=eq_false cd
   have aEU:(d=c)=False:=eq_false (iW cd)
   have vQ:(a=n2)=False:=eq_false an
   have vR:(n2=a)=False:=eq_false (iW an)
   have vS:(b=n2)=False:=eq_false bn
   have vT:(n2=b)=False:=eq_false (iW bn)
   have vU:(c=n2)=False:=eq_false cn
   have vV:(n2=c)=False:=eq_false (iW cn)
   have vW:(d=n2)=False:=eq_false dn
   have vX:(n2=d)=False:=eq_false (iW dn)
   have vY:(a=n3)=False:=eq_false am
   have vZ:(n3=a)=False:=eq_false (iW am)
   have v7:(b=n3)=False:=eq_false bm
   have v8:(n3=b)=False:=eq_false (iW bm)
   have wA:(c=n3)=False:=eq_false cm
   have wB:(n3=c)=False:=eq_false (iW cm)
   have wC:(d=n3)=False:=eq_false dm
   have wD:(n3=d)=False:=eq_false (iW dm)
   try simp -dsimp -implicitDefEqProofs only[go_sem,↓reduceIte,Tryz.f67,aF,aE,bD,bE,aEJ,aEK,aEL,aEM,aEN,aEO,aEP,aEQ,aER,aES,aET,aEU,vQ,vR,vS,vT,vU,vV,vW,vX,vY,vZ,v7,v8,wA,wB,wC,wD,bA.flat,bA.one,bJ.flat,bJ.one,bK.flat,bK.one,cO,eK,jQ,jR,jS,jT,iN,iO,iP,iQ,aN,aK,bI,aZ]
   repeat'(with_reducible first|refine And.intro eU ?_)
   try(with_reducible intro _)
   refine⟨_,(bL (bL (bL (bL gc0 a (.row 1 (lI x.aV.length [.v (.int .i64 0)]))) b (.row 1 (lI x.aV.length [.v (.bool false)]))) c (.row 3 (lI x.aV.length [.v (.int .i64 0),.v (.int .i64 0),.v (.sl 1 [] true)]))) d (.row 1 (lI x.aV.length [.v (.int .i64 (-1))]))),_,Shift.wk (Sub.agg (b8.cons (Sub.refl _) (b8.cons (Sub.refl _) (b8.cons (Sub.refl _) (b8.cons (Sub.refl _) (b8.cons (Sub.refl _) (b8.cons (Sub.refl _) (b8.cons (Sub.refl _) (b8.cons (Sub.refl _) (b8.cons (Sub.refl _) b8.nil)))))))))) (Heap.iU (by
     intro q_
     by_cases h0_:q_=a
     ·rw[h0_];exact .inr a2T
     by_cases h1_:q_=b
     ·rw[h1_];exact .inr a2T
     by_cases h2_:q_=c
     ·rw[h2_];exact .inr a2T
     by_cases h3_:q_=d
     ·rw[h3_];exact .inr a2T
     by_cases k0_:q_=n2
     ·rw[k0_];exact .inl bM9
     by_cases k1_:q_=n3
     ·rw[k1_];exact .inl bM9
     exact .inr bRH)),⟨[lL,.v (.int .i64 x.bO),.v (.int .i64 x.aQ),rD,rE,(.sl a 1 (List.replicate x.aV.length [.v (.int .i64 0)])),(.sl b 1 (List.replicate x.aV.length [.v (.bool false)])),(.sl c 3 (List.replicate x.aV.length [.v (.int .i64 0),.v (.int .i64 0),.nil 1])),(.sl d 1 (List.replicate x.aV.length [.v (.int .i64 (-1))]))],?_,bBB,rfl⟩,?_⟩
   ·exact⟨lL,rD,rE,(.sl a 1 (List.replicate x.aV.length [.v (.int .i64 0)])),(.sl b 1 (List.replicate x.aV.length [.v (.bool false)])),(.sl c 3 (List.replicate x.aV.length [.v (.int .i64 0),.v (.int .i64 0),.nil 1])),(.sl d 1 (List.replicate x.aV.length [.v (.int .i64 (-1))])),rfl,bA,bJ,bK,OS.mk (OR.lI (R:=oP I) rfl _),OS.mk (OR.lI (R:=oP aC.bool) rfl _),OS.mk (OR.lI (R:=cR.o) ⟨.nil 1,rfl,OS.nil⟩ _),OS.mk (OR.lI (R:=oP I) rfl _)⟩
   ·have hq:=eO.four wc0 (ra:=.row 1 (lI x.aV.length [.v (.int .i64 0)])) (rb:=.row 1 (lI x.aV.length [.v (.bool false)])) (rc:=.row 3 (lI x.aV.length [.v (.int .i64 0),.v (.int .i64 0),.v (.sl 1 [] true)])) (rd:=.row 1 (lI x.aV.length [.v (.int .i64 (-1))])) ga gb gc gd ab ac ad bc bd cd
    simpa only[OV.b7,OV.cV,OV.dV,OV.kG,OV.fF,iD OV.cV,iD (e:=[OV.v (.int .i64 0)]) rfl,iD (e:=[OV.v (.bool false)]) rfl,iD (e:=[OV.v (.int .i64 0),.v (.int .i64 0),.nil 1]) rfl,iD (e:=[OV.v (.int .i64 (-1))]) rfl,aFD,aS,aY,OV.aR,OV.nV,pR,gU,oW,tE]using hq
def iH:aI:=⟨⟨⟨[]⟩,0,0,[],[]⟩,[],[],[],[]⟩
theorem kK:bSL iH.o [(.aU),(.int .i64 0),(.int .i64 0),(.aU),(.aU),(.aU),(.aU),(.aU),(.aU)]:=⟨[(.nil 3),.v (.int .i64 0),.v (.int .i64 0),(.nil 1),(.nil 1),(.nil 1),(.nil 1),(.nil 3),(.nil 1)],⟨(.nil 3),(.nil 1),(.nil 1),(.nil 1),(.nil 1),(.nil 3),(.nil 1),rfl,OS.nil,OS.nil,OS.nil,OS.nil,OS.nil,OS.nil,OS.nil⟩,rfl,Sub.agg (b8.cons (Sub.nil _ _) (b8.cons (Sub.refl _) (b8.cons (Sub.refl _) (b8.cons (Sub.nil _ _) (b8.cons (Sub.nil _ _) (b8.cons (Sub.nil _ _) (b8.cons (Sub.nil _ _) (b8.cons (Sub.nil _ _) (b8.cons (Sub.nil _ _) b8.nil)))))))))⟩
def w6 (j:dF) (k:Int):Prop:=0<=k/\k<=(j.aV.length:Int)-1
noncomputable instance (j:dF) (k:Int):Decidable (w6 j k):=Classical.propDecidable _
theorem has (j:dF) (k:Int) (hl:j.aV.length<=1048576):fQ Tryz.prog 103 [.agg j.c,I k] (.bool (decide (w6 j k))):=by
 simp only[dF.aO]
 refine eG 11 a39 aAO bS Tryz.func103 λh=>?_
 simp -dsimp -implicitDefEqProofs only[go_sem,↓reduceIte,Tryz.f103]
 intro _
 rw[IntWalk.i64_in _ aA]
 first|refine aH.mk (within k 0 ((j.aV.length:Int)-1)) ?_|refine aG.mk (within k 0 ((j.aV.length:Int)-1)) ?_|refine aH.cN (within k 0 ((j.aV.length:Int)-1)) ?_|refine aG.mk (cG.fO (within k 0 ((j.aV.length:Int)-1))) ?_
 simp -dsimp -implicitDefEqProofs only[go_sem,↓reduceIte,Tryz.f103]
 exact decide_eq_decide.2 Iff.rfl
theorem aZ4 (j:dF) (k:Int) (hl:j.aV.length<=1048576):fQ Tryz.prog 183 [.ip 5 [j.c] 0 0,I k] (.bool (decide (w6 j k))):=by
 simp only[dF.aO]
 refine eG 13 aHN cD bS Tryz.func183 λh=>?_
 simp -dsimp -implicitDefEqProofs only[go_sem,↓reduceIte,Tryz.f183]
 repeat'(with_reducible first|intro _|refine And.intro ?_ ?_)
 all_goals try omega
 rw[IntWalk.i64_in _ aA]
 first|refine aH.mk (gC k 0 ((j.aV.length:Int)-1)) ?_|refine aG.mk (gC k 0 ((j.aV.length:Int)-1)) ?_|refine aH.cN (gC k 0 ((j.aV.length:Int)-1)) ?_|refine aG.mk (cG.fO (gC k 0 ((j.aV.length:Int)-1))) ?_
 simp -dsimp -implicitDefEqProofs only[go_sem,↓reduceIte,Tryz.f183]
 exact decide_eq_decide.2 Iff.rfl
def qH (s:aI) (r:dU):Prop:=w6 s.bC r.fW/\(0<=r.tC/\r.tC<=50)/\qY s.bC r.mO
noncomputable instance (s:aI) (r:dU):Decidable (qH s r):=Classical.propDecidable _
def tD (s:aI) (r:dU):Prop:=s.bW[r.fW.toNat]?=some false/\s.aT[r.fW.toNat]?=some r.tC
noncomputable instance (s:aI) (r:dU):Decidable (tD s r):=Classical.propDecidable _
def aMR (s:aI) (r:dU):aI:={ s with bW:=s.bW.set r.fW.toNat true,cQ:=s.cQ.set r.fW.toNat r.mO,cC:=s.cC.set r.fW.toNat (-1) }
noncomputable def aJA (s:aI) (r:dU):aI×Bool:=if tD s r then(aMR s r,true)else(s,false)
theorem zH {s:aI} {r:dU} (h:¬tD s r):aJA s r=(s,false):=if_neg h
theorem aBS {s:aI} {r:dU} (h:tD s r):aJA s r=(aMR s r,true):=if_pos h
noncomputable def aCM (s:aI) (r:dU):aI×Bool×Int:=if s.ok then(if qH s r then((aJA s r).1,(aJA s r).2,0)else(iH,false,2))else(iH,false,1)
theorem bF3 {s:aI} {r:dU} (h:¬s.ok):aCM s r=(iH,false,1):=if_neg h
theorem aOC {s:aI} {r:dU} (h:s.ok) (h2:¬qH s r):aCM s r=(iH,false,2):=by rw[aCM,if_pos h,if_neg h2]
theorem aKY {s:aI} {r:dU} (h:s.ok) (h2:qH s r):aCM s r=((aJA s r).1,(aJA s r).2,0):=by rw[aCM,if_pos h,if_pos h2]
theorem bKD (s:aI) (r:dU) (hl:s.bC.aV.length<=1048576):fQ Tryz.prog 58 [.agg s.bC.c,.agg r.c] (.bool (decide (qH s r))):=by
 have h1:=has s.bC r.fW hl
 have h3:=bJ0 s.bC r.mO
 simp only[dF.aO,dU.aO,cR.aO]at h1 h3 ⊢
 refine eG 20 bSM aWG bS Tryz.func58 λh=>?_
 simp -dsimp -implicitDefEqProofs only[go_sem,↓reduceIte,Tryz.f58]
 first|refine aH.mk (h1) ?_|refine aG.mk (h1) ?_|refine aH.cN (h1) ?_|refine aG.mk (cG.fO (h1)) ?_
 simp -dsimp -implicitDefEqProofs only[go_sem,↓reduceIte,Tryz.f58]
 repeat'(with_reducible first|intro _|refine And.intro ?_ ?_)
 ·first|refine aH.mk (within r.tC 0 50) ?_|refine aG.mk (within r.tC 0 50) ?_|refine aH.cN (within r.tC 0 50) ?_|refine aG.mk (cG.fO (within r.tC 0 50)) ?_
  simp -dsimp -implicitDefEqProofs only[go_sem,↓reduceIte,Tryz.f58]
  repeat'(with_reducible first|intro _|refine And.intro ?_ ?_)
  ·first|refine aH.mk (h3) ?_|refine aG.mk (h3) ?_|refine aH.cN (h3) ?_|refine aG.mk (cG.fO (h3)) ?_
   simp -dsimp -implicitDefEqProofs only[go_sem,↓reduceIte,Tryz.f58]
   exact decide_eq_decide.2 ⟨λq=>⟨by assumption,by assumption,q⟩,λq=>q.2.2⟩
  ·exact(decide_eq_false λq=>by have:=q.2.1;omega).symm
 ·exact(decide_eq_false λq=>by have:=q.1;contradiction).symm
@[go_sem] def b3F:Marks:=λid=>match id with|1=>([],(.op 0 (.op 1 (.op 2 (.op 3 (.op 4 (.op 5 (.op 6 (.op 7 (.op 8 (.op 9 (.op 10 (.op 11 (.op 12 (.op 13 (.op 14 (.op 15 (.op 16 (.op 17 (.op 18 (.op 19 (.op 20 (.op 21 (.op 22 (.op 23 (.op 24 .nil))))))))))))))))))))))))),[])|_=>([],.nil,[])
theorem aZ5 (s:aI) (r:dU) (hl:s.bC.aV.length<=1048576):fQ Tryz.prog 145 [.ip 9 [s.c] 0 0,.ip 5 [r.c] 0 0] (.bool (decide (qH s r))):=by
 simp only[aI.aO,dU.aO]
 refine eG 29 aHN cD b3F Tryz.func145 λh=>?_
 simp -dsimp -implicitDefEqProofs only[go_sem,↓reduceIte,Tryz.f145]
 repeat'(with_reducible first|intro _|refine And.intro ?_ ?_)
 all_goals try omega
 first|refine aG.mk ((aZ4 s.bC r.fW hl).sub (by repeat'(first|exact b8.nil|refine b8.cons ?_ ?_|exact Sub.refl _|(rw[aB.aO];exact Sub.refl _)|exact Sub.eA rfl rfl rfl|exact Sub.ip (b9 aA) bF|exact Sub.eA (b9 aA) rfl rfl|exact Sub.ip dI bF|exact Sub.eA dI dC dC))) ?_|refine aH.mk ((aZ4 s.bC r.fW hl).sub (by repeat'(first|exact b8.nil|refine b8.cons ?_ ?_|exact Sub.refl _|(rw[aB.aO];exact Sub.refl _)|exact Sub.eA rfl rfl rfl|exact Sub.ip (b9 aA) bF|exact Sub.eA (b9 aA) rfl rfl|exact Sub.ip dI bF|exact Sub.eA dI dC dC))) ?_
 simp -dsimp -implicitDefEqProofs only[go_sem,↓reduceIte,Tryz.f145]
 repeat'(with_reducible first|intro _|refine And.intro ?_ ?_)
 ·first|refine aH.mk (gC r.tC 0 50) ?_|refine aG.mk (gC r.tC 0 50) ?_|refine aH.cN (gC r.tC 0 50) ?_|refine aG.mk (cG.fO (gC r.tC 0 50)) ?_
  simp -dsimp -implicitDefEqProofs only[go_sem,↓reduceIte,Tryz.f145]
  repeat'(with_reducible first|intro _|refine And.intro ?_ ?_)
  ·first|refine aG.mk ((bC3 s.bC r.mO).sub (by repeat'(first|exact b8.nil|refine b8.cons ?_ ?_|exact Sub.refl _|(rw[aB.aO];exact Sub.refl _)|exact Sub.eA rfl rfl rfl|exact Sub.ip (b9 aA) bF|exact Sub.eA (b9 aA) rfl rfl|exact Sub.ip dI bF|exact Sub.eA dI dC dC))) ?_|refine aH.mk ((bC3 s.bC r.mO).sub (by repeat'(first|exact b8.nil|refine b8.cons ?_ ?_|exact Sub.refl _|(rw[aB.aO];exact Sub.refl _)|exact Sub.eA rfl rfl rfl|exact Sub.ip (b9 aA) bF|exact Sub.eA (b9 aA) rfl rfl|exact Sub.ip dI bF|exact Sub.eA dI dC dC))) ?_
   simp -dsimp -implicitDefEqProofs only[go_sem,↓reduceIte,Tryz.f145]
   exact decide_eq_decide.2 ⟨λq=>⟨by assumption,by assumption,q⟩,λq=>q.2.2⟩
  ·exact(decide_eq_false λq=>by have:=q.2.1;omega).symm
 ·exact(decide_eq_false λq=>by have:=q.1;contradiction).symm
@[go_sem] def bOS:List Nat:=[0,1,2,3,4,5,6,7,8,13,38]
@[go_sem] def b3G:Marks:=λid=>match id with|6=>([],(.op 0 (.op 1 (.op 2 (.op 3 (.op 4 (.op 5 (.op 6 (.op 7 (.op 8 (.op 9 (.op 10 (.op 11 (.op 12 (.op 13 (.op 14 (.op 15 (.op 16 .nil))))))))))))))))),[])|8=>([1,5,9,14,16,18,20],(.op 0 (.op 2 (.op 3 (.op 4 (.op 6 (.op 7 (.op 8 (.op 10 (.op 11 (.op 12 (.op 13 (.op 1 (.op 5 (.op 9 (.op 14 (.op 15 (.op 16 (.op 17 (.op 18 (.op 19 (.op 20 .nil))))))))))))))))))))),[(1,14),(5,14),(5,16),(9,14),(9,16),(9,18)])|_=>([],.nil,[])
set_option maxHeartbeats 2000000 in
theorem aUP (s:aI) (r:dU) (hs:s.s<=1048576) (hr:r.s<=1048576):qK Tryz.prog 133 [.agg s.c,.agg r.c] (QA (aCM s r).1.o (λy=>.iJ [y,.bool (aCM s r).2.1,I (aCM s r).2.2])):=by
 have hs':=s.gB
 have nA:=s.bC.gB
 have hr':=r.gB
 simp only[gI]at hs' nA
 have hok:=aFG s aA
 have hcl:=aFL s hs
 have hrp:=bKD s r aA
 have hcp:=aXZ r.mO aA
 simp only[aI.aO,dF.aO,dU.aO,cR.aO]at hok hcl hrp hcp ⊢
 refine tA 59 bOS aWG b3G Tryz.func133 λh=>?_
 simp -dsimp -implicitDefEqProofs only[go_sem,↓reduceIte,Tryz.f133]
 intro n4 z4
 try simp -dsimp -implicitDefEqProofs only[go_sem,↓reduceIte,Tryz.f133]
 first|refine aH.mk (hok) ?_|refine aG.mk (hok) ?_|refine aH.cN (hok) ?_|refine aG.mk (cG.fO (hok)) ?_
 simp -dsimp -implicitDefEqProofs only[go_sem,↓reduceIte,Tryz.f133]
 refine⟨λhn=>?_,λhy=>?_⟩
 ·have hn':¬s.ok:=by simpa using hn
  rw[bF3 hn']
  try simp -dsimp -implicitDefEqProofs only[go_sem,↓reduceIte,Tryz.f133,aF]
  exact n9 kK (jF [] [_,_]) (by repeat'(first|exact Heap.le_refl _|refine Heap.b5 ?_|refine Heap.aW kR ?_))
 have hy':s.ok:=by simpa using hy
 try simp -dsimp -implicitDefEqProofs only[go_sem,↓reduceIte,Tryz.f133]
 first|refine aH.mk (hrp) ?_|refine aG.mk (hrp) ?_|refine aH.cN (hrp) ?_|refine aG.mk (cG.fO (hrp)) ?_
 simp -dsimp -implicitDefEqProofs only[go_sem,↓reduceIte,Tryz.f133]
 refine⟨λhn=>?_,λht=>?_⟩
 ·have hn':¬qH s r:=by simpa using hn
  rw[aOC hy' hn']
  try simp -dsimp -implicitDefEqProofs only[go_sem,↓reduceIte,Tryz.f133,aF]
  exact n9 kK (jF [] [_,_]) (by repeat'(first|exact Heap.le_refl _|refine Heap.b5 ?_|refine Heap.aW kR ?_))
 have ht':qH s r:=by simpa using ht
 rw[aKY hy' ht']
 try simp -dsimp -implicitDefEqProofs only[go_sem,↓reduceIte,Tryz.f133]
 refine aH.wn1 hcl z4 ?_
 rintro r_ l_ g ⟨e,oe,rfl,rfl⟩ wn z4
 have xJ:=oe
 obtain⟨fX,gR,hP,w7,zI,w8,w9,rfl,fL,fV,fJ,fH,fP,fM,fN⟩:=xJ
 simp -dsimp -implicitDefEqProofs only[go_sem,↓reduceIte,Tryz.f133,OV.aM,OV.aD,OV.aR,aF,aE,fL.flat,fL.one,fV.flat,fV.one,fJ.flat,fJ.one,fH.flat,fH.one,fP.flat,fP.one,fM.flat,fM.one,fN.flat,fN.one]
 intro nb b3H
 obtain⟨bDI,aIG,aIH,bOT⟩:=cB (show ¬nb=n4 from iV b3H)
 have bKE:g nb=none:=iV b3H
 have hk1:=ht'.1.1
 have hk2:=ht'.1.2
 have l1:=hy'.2.1
 have kn:r.fW.toNat<s.bW.length:=by omega
 have ks:r.fW.toNat<s.aT.length:=by omega
 have ko:r.fW.toNat<s.cC.length:=by omega
 have kp:r.fW.toNat<s.cQ.length:=by omega
 have gk:s.bW[r.fW.toNat]?=some s.bW[r.fW.toNat]:=cJ kn
 have gs:s.aT[r.fW.toNat]?=some s.aT[r.fW.toNat]:=cJ ks
 have go:s.cC[r.fW.toNat]?=some s.cC[r.fW.toNat]:=cJ ko
 have htake:tD s r↔s.bW[r.fW.toNat]=false/\s.aT[r.fW.toNat]=r.tC:=by rw[tD,gk,gs];simp
 obtain⟨n7,es,rfl,hor⟩:=fM.some aA
 rcases fP.aC8 with⟨rfl,h6⟩|⟨n6,rfl⟩
 ·rw[h6]at kn;simp at kn
 rcases fN.aC8 with⟨rfl,h8⟩|⟨n8,rfl⟩
 ·rw[h8]at ko;simp at ko
 have g6:=wn.aL8 [fX,.v (.int .i64 s.bC.bO),.v (.int .i64 s.bC.aQ),gR,hP,w7] (c:=.bool)
 have g7:=wn.aPV ([fX,.v (.int .i64 s.bC.bO),.v (.int .i64 s.bC.aQ),gR,hP,w7]++[OV.sl n6 1 (s.bW.map λx=>[.v (.bool x)])])
 have g8:=wn.aL8 ([fX,.v (.int .i64 s.bC.bO),.v (.int .i64 s.bC.aQ),gR,hP,w7]++[OV.sl n6 1 (s.bW.map λx=>[.v (.bool x)]),OV.sl n7 3 es]) (c:=I)
 obtain⟨oC,jC,jD,aII⟩:=cB (show ¬n6=n4 from fE g6 z4)
 obtain⟨aIJ,lB,lA,wM⟩:=cB (show ¬n6=nb from fE g6 bKE)
 obtain⟨bDJ,aFM,aFN,bDK⟩:=cB (show ¬n7=n4 from fE g7 z4)
 obtain⟨yY,sB,r9,kT⟩:=cB (show ¬n7=nb from fE g7 bKE)
 obtain⟨b69,aZ6,aZ7,b7A⟩:=cB (show ¬n8=n4 from fE g8 z4)
 obtain⟨aZ8,sD,sA,aIK⟩:=cB (show ¬n8=nb from fE g8 bKE)
 obtain⟨aZ9,tO,tQ,aQ8⟩:=cB (show ¬n6=n7 from wn.qX [fX,.v (.int .i64 s.bC.bO),.v (.int .i64 s.bC.aQ),gR,hP,w7] (m:=n7) xY)
 obtain⟨a0A,tP,tR,aQ9⟩:=cB (show ¬n6=n8 from wn.qX [fX,.v (.int .i64 s.bC.bO),.v (.int .i64 s.bC.aQ),gR,hP,w7] (m:=n8) xY)
 obtain⟨a0B,sC,sE,a0C⟩:=cB (show ¬n7=n8 from wn.qX ([fX,.v (.int .i64 s.bC.bO),.v (.int .i64 s.bC.aQ),gR,hP,w7]++[OV.sl n6 1 (s.bW.map λx=>[.v (.bool x)])]) (m:=n8) xY)
 have hv6:=OV.kY aC.bool n6 1 s.bW
 have hv7:=OV.lC n7 3 es
 have hv8:=OV.kY I n8 1 s.cC
 have hel:es.length=s.cQ.length:=hor.length.symm
 obtain⟨ek,hek,oek⟩:=hor.a38 r.fW.toNat s.cQ[r.fW.toNat] (cJ kp)
 have a9U:=oek
 obtain⟨bWK,rfl,bWL⟩:=a9U
 have hck:=yL hek
 simp only[aS,aY,OV.aR]at hck
 simp -dsimp -implicitDefEqProofs only[go_sem,↓reduceIte,Tryz.f133,OV.aM,OV.aD,OV.aR,aF,aE,fL.flat,fL.one,fV.flat,fV.one,fJ.flat,fJ.one,fH.flat,fH.one,fP.flat,fP.one,fM.flat,fM.one,fN.flat,fN.one,aIH,jD,aFN,aZ7,aIG,lA,r9,sA,jC,lB,tO,tP,aFM,sB,tQ,sC,aZ6,sD,tR,sE,gk,gs,hv6,hv7,hv8]
 refine⟨hk1,by omega,λhq=>⟨hk1,by omega,λhq2=>?_,λhq2=>?_⟩,λhq=>?_⟩
 ·rw[zH λz=>by rw[htake]at z;exact hq2 z.2]
  exact aBL (w:=λy=>.iJ [y,.bool false,I 0]) bQ9 oe wn (by repeat'(first|exact Heap.le_refl _|refine Heap.b5 ?_|refine Heap.aW kR ?_))
 ·refine aH.p5 hcp z4 ⟨bDI,bKE⟩ ?_
  rintro r_ l_ g2 ⟨ep,oep,rfl,rfl⟩ wp z4 bKE
  have bWN:=oep
  obtain⟨bKF,rfl,bKG⟩:=bWN
  replace g6:=wp.keep g6
  replace g7:=wp.keep g7
  replace g8:=wp.keep g8
  simp -dsimp -implicitDefEqProofs only[go_sem,↓reduceIte,Tryz.f133,OV.aM,OV.aD,OV.aR,aF,aE,fL.flat,fL.one,fV.flat,fV.one,fJ.flat,fJ.one,fH.flat,fH.one,fP.flat,fP.one,fM.flat,fM.one,fN.flat,fN.one,bKG.flat,bKG.one,aIH,jD,aFN,aZ7,aIG,lA,r9,sA,jC,lB,tO,tP,aFM,sB,tQ,sC,aZ6,sD,tR,sE,gk,gs,go,g6,g7,g8,hck]
  refine⟨hk1,by omega,hk1,by omega,hk1,by omega,?_⟩
  rw[aBS (htake.2 ⟨hq,hq2⟩)]
  obtain⟨g3,yS,wn3⟩:=wn.aXJ ([fX,.v (.int .i64 s.bC.bO),.v (.int .i64 s.bC.aQ),gR,hP,w7]++[OV.sl n6 1 (s.bW.map λx=>[.v (.bool x)])]) (k:=r.fW.toNat) wp aA
  have wn4:=wn3.aWF [fX,.v (.int .i64 s.bC.bO),.v (.int .i64 s.bC.aQ),gR,hP,w7] (c:=.bool) (l':=s.bW.set r.fW.toNat true)
  have wn5:=wn4.aWF ([fX,.v (.int .i64 s.bC.bO),.v (.int .i64 s.bC.aQ),gR,hP,w7]++[OV.sl n6 1 ((s.bW.set r.fW.toNat true).map λx=>[.v (.bool x)]),OV.sl n7 3 (es.set r.fW.toNat [.v (.int .i64 r.mO.cU),.v (.int .i64 r.mO.iL),bKF])]) (c:=I) (l':=s.cC.set r.fW.toNat (-1))
  have hcs:=vD es r.fW.toNat [.v (.int .i64 r.mO.cU),.v (.int .i64 r.mO.iL),bKF] _ rfl
  simp only[aS,aY,OV.aR]at hcs
  rw[aBK aC.bool,aBK I,hcs]
  exact aBL (w:=λy=>.iJ [y,.bool true,I 0]) (by first|rfl|(simp only[OV.aM,OV.aD,OV.aR,OV.lC,lM,aA6];done)|(simp only[OV.aM,OV.aD,OV.aR,OV.lC,lM,aA6];rfl)) ⟨fX,gR,hP,w7,_,_,_,rfl,fL,fV,fJ,fH,OS.mk (uA (s.bW.set r.fW.toNat true)),OS.mk (hor.set r.fW.toNat r.mO _ oep),OS.mk (uA (s.cC.set r.fW.toNat (-1)))⟩ wn5 (Heap.le_trans (Heap.b5 (Heap.b5 yS)) (jU (by repeat'(first|exact hZ _ _|refine jV (by simp only[fU,↓reduceIte,eq_self,if_true,aIH,jD,aFN,aZ7,aIG,lA,r9,sA,jC,lB,tO,tP,aFM,sB,tQ,sC,aZ6,sD,tR,sE]) ?_|refine fZ p9 ?_))))
 ·rw[zH λz=>by rw[htake,hq]at z;simp at z]
  exact aBL (w:=λy=>.iJ [y,.bool false,I 0]) bQ9 oe wn (by repeat'(first|exact Heap.le_refl _|refine Heap.b5 ?_|refine Heap.aW kR ?_))
@[go_sem] def bOU:List Nat:=[0,1,4,31]
@[go_sem] def b3I:Marks:=λid=>match id with|1=>([3,7,9,14,18,20,24],(.op 0 (.op 1 (.op 2 (.op 4 (.op 5 (.op 6 (.op 3 (.op 7 (.op 8 (.op 9 (.op 10 (.op 11 (.op 12 (.op 13 (.op 15 (.op 16 (.op 17 (.op 21 (.op 22 (.op 23 (.op 14 (.op 18 (.op 19 (.op 20 (.op 24 (.op 25 (.op 26 .nil))))))))))))))))))))))))))),[])|3=>([3,7,9],(.op 0 (.op 1 (.op 2 (.op 4 (.op 5 (.op 6 (.op 3 (.op 7 (.op 8 (.op 9 .nil)))))))))),[])|4=>([3,7,11,12,14],(.op 0 (.op 1 (.op 2 (.op 4 (.op 5 (.op 6 (.op 8 (.op 9 (.op 10 (.op 3 (.op 7 (.op 11 (.op 12 (.op 13 (.op 14 .nil))))))))))))))),[(3,12),(7,12)])|5=>([3,7,9],(.op 0 (.op 1 (.op 2 (.op 4 (.op 5 (.op 6 (.op 3 (.op 7 (.op 8 (.op 9 .nil)))))))))),[])|_=>([],.nil,[])
set_option maxHeartbeats 2000000 in
theorem a0D (s:aI) (r:dU) (h0 g:Heap) (nb:Nat) (e:List OV) (oe:s.o e) (hnb:g nb=none) (wn:eO h0 (OV.cA e) g) (hs:s.s<=1048576) (hr:r.s<=1048576) (l1:s.aT.length=s.bC.aV.length/\s.bW.length=s.bC.aV.length/\s.cQ.length=s.bC.aV.length/\s.cC.length=s.bC.aV.length) (ht:w6 s.bC r.fW) :
  gV Tryz.prog 164 [.op nb 9 0 0,.ip 5 [r.c] 0 0] (bL g nb (.row 9 (OV.cells [e]))) (aN2 h0 nb 9 λv e'=>v=.bool (aJA s r).2/\(aJA s r).1.o e'):=by
 have hs':=s.gB
 have nA:=s.bC.gB
 have hr':=r.gB
 simp only[gI]at hs' nA
 have hcp:=aJY r.mO aA
 simp only[dU.aO,cR.aO]at hcp ⊢
 have xJ:=oe
 obtain⟨fX,gR,hP,w7,zI,w8,w9,rfl,fL,fV,fJ,fH,fP,fM,fN⟩:=xJ
 have hk1:=ht.1
 have hk2:=ht.2
 have kn:r.fW.toNat<s.bW.length:=by omega
 have ks:r.fW.toNat<s.aT.length:=by omega
 have ko:r.fW.toNat<s.cC.length:=by omega
 have kp:r.fW.toNat<s.cQ.length:=by omega
 have gk:s.bW[r.fW.toNat]?=some s.bW[r.fW.toNat]:=cJ kn
 have gs:s.aT[r.fW.toNat]?=some s.aT[r.fW.toNat]:=cJ ks
 have go:s.cC[r.fW.toNat]?=some s.cC[r.fW.toNat]:=cJ ko
 have htake:tD s r↔s.bW[r.fW.toNat]=false/\s.aT[r.fW.toNat]=r.tC:=by rw[tD,gk,gs];simp
 obtain⟨n7,es,rfl,hor⟩:=fM.some aA
 rcases fH.aC8 with⟨rfl,h5⟩|⟨n5,rfl⟩
 ·rw[h5]at ks;simp at ks
 rcases fP.aC8 with⟨rfl,h6⟩|⟨n6,rfl⟩
 ·rw[h6]at kn;simp at kn
 rcases fN.aC8 with⟨rfl,h8⟩|⟨n8,rfl⟩
 ·rw[h8]at ko;simp at ko
 have g5:=wn.aL8 [fX,.v (.int .i64 s.bC.bO),.v (.int .i64 s.bC.aQ),gR,hP] (c:=I)
 have g6:=wn.aL8 ([fX,.v (.int .i64 s.bC.bO),.v (.int .i64 s.bC.aQ),gR,hP]++[OV.sl n5 1 (s.aT.map λx=>[.v (I x)])]) (c:=.bool)
 have g7:=wn.aPV ([fX,.v (.int .i64 s.bC.bO),.v (.int .i64 s.bC.aQ),gR,hP]++[OV.sl n5 1 (s.aT.map λx=>[.v (I x)]),OV.sl n6 1 (s.bW.map λx=>[.v (.bool x)])])
 have g8:=wn.aL8 ([fX,.v (.int .i64 s.bC.bO),.v (.int .i64 s.bC.aQ),gR,hP]++[OV.sl n5 1 (s.aT.map λx=>[.v (I x)]),OV.sl n6 1 (s.bW.map λx=>[.v (.bool x)]),OV.sl n7 3 es]) (c:=I)
 obtain⟨aRA,rA,q9,aLJ⟩:=cB (show ¬n5=nb from fE g5 hnb)
 obtain⟨aIJ,lB,lA,wM⟩:=cB (show ¬n6=nb from fE g6 hnb)
 obtain⟨yY,sB,r9,kT⟩:=cB (show ¬n7=nb from fE g7 hnb)
 obtain⟨aZ8,sD,sA,aIK⟩:=cB (show ¬n8=nb from fE g8 hnb)
 obtain⟨aZ9,tO,tQ,aQ8⟩:=cB (show ¬n6=n7 from wn.qX ([fX,.v (.int .i64 s.bC.bO),.v (.int .i64 s.bC.aQ),gR,hP]++[OV.sl n5 1 (s.aT.map λx=>[.v (I x)])]) (m:=n7) xY)
 obtain⟨a0A,tP,tR,aQ9⟩:=cB (show ¬n6=n8 from wn.qX ([fX,.v (.int .i64 s.bC.bO),.v (.int .i64 s.bC.aQ),gR,hP]++[OV.sl n5 1 (s.aT.map λx=>[.v (I x)])]) (m:=n8) xY)
 obtain⟨a0B,sC,sE,a0C⟩:=cB (show ¬n7=n8 from wn.qX ([fX,.v (.int .i64 s.bC.bO),.v (.int .i64 s.bC.aQ),gR,hP]++[OV.sl n5 1 (s.aT.map λx=>[.v (I x)]),OV.sl n6 1 (s.bW.map λx=>[.v (.bool x)])]) (m:=n8) xY)
 have hv5:=OV.kY I n5 1 s.aT
 have hv6:=OV.kY aC.bool n6 1 s.bW
 have hv7:=OV.lC n7 3 es
 have hv8:=OV.kY I n8 1 s.cC
 have hel:es.length=s.cQ.length:=hor.length.symm
 obtain⟨ek,hek,oek⟩:=hor.a38 r.fW.toNat s.cQ[r.fW.toNat] (cJ kp)
 have a9U:=oek
 obtain⟨bWK,rfl,bWL⟩:=a9U
 have hck:=yL hek
 simp only[aS,aY,OV.aR]at hck
 refine zY 64 bOU cD b3I Tryz.func164 ?_
 simp -dsimp -implicitDefEqProofs only[go_sem,↓reduceIte,Tryz.f164]
 simp -dsimp -implicitDefEqProofs only[go_sem,↓reduceIte,Tryz.f164,OV.aM,OV.aD,OV.aR,aF,aE,fL.flat,fL.one,fV.flat,fV.one,fJ.flat,fJ.one,fH.flat,fH.one,fP.flat,fP.one,fM.flat,fM.one,fN.flat,fN.one,lA,r9,sA,lB,tO,tP,sB,tQ,sC,sD,tR,sE,rA,q9,cP,aS,aY,gk,gs,go,hv5,hv6,hv7,hv8,g5,g6,g7,g8]
 have cb:∀ v:aC,v=.bool false->¬tD s r->∃ g_1:Heap,g_1.le (bL g nb (.row 9 [[.v fX.val,.v (I s.bC.bO),.v (I s.bC.aQ),.v gR.val,.v hP.val,.v (.os n5 1 0 s.aT.length),.v (.os n6 1 0 s.bW.length),.v (.os n7 3 0 es.length),.v (.os n8 1 0 s.cC.length)]]))/\aN2 h0 nb 9 (λv e'=>v=.bool (aJA s r).2/\(aJA s r).1.o e') v g_1:=by
  rintro v rfl hq
  rw[zH hq]
  exact⟨_,Heap.le_refl _,_,g,⟨rfl,oe⟩,by simp only[cP,aS,aY,OV.aR,hv5,hv6,hv7,hv8],hnb,wn⟩
 refine⟨hk1,by omega,λhq=>⟨hk1,by omega,λhq2=>?_,λhq2=>⟨hk1,by omega,?_⟩⟩,λhq=>?_⟩
 ·exact cb _ rfl λz=>by rw[htake]at z;exact hq2 z.2
 ·rw[aBK aC.bool,nZ wM]
  have wn1:=wn.aWF ([fX,.v (.int .i64 s.bC.bO),.v (.int .i64 s.bC.aQ),gR,hP]++[OV.sl n5 1 (s.aT.map λx=>[.v (I x)])]) (c:=.bool) (l':=s.bW.set r.fW.toNat true)
  refine aH.wn1 hcp (by rw[aE _ _ _ _ wM];exact hnb) ?_
  rintro r_ l_ g2 ⟨ep,oep,rfl,rfl⟩ wp aMS
  have bWN:=oep
  obtain⟨bKF,rfl,bKG⟩:=bWN
  replace g7:=wp.keep (n:=n7) (by rw[aE _ _ _ _ aQ8];exact g7)
  replace g8:=wp.keep (n:=n8) (by rw[aE _ _ _ _ aQ9];exact g8)
  simp -dsimp -implicitDefEqProofs only[go_sem,↓reduceIte,Tryz.f164,OV.aM,OV.aD,OV.aR,aF,aE,fL.flat,fL.one,fV.flat,fV.one,fJ.flat,fJ.one,fH.flat,fH.one,fP.flat,fP.one,fM.flat,fM.one,fN.flat,fN.one,bKG.flat,bKG.one,lA,r9,sA,lB,tO,tP,sB,tQ,sC,sD,tR,sE,rA,q9,gk,gs,go,g7,g8,hck]
  refine⟨hk1,by omega,hk1,by omega,?_⟩
  rw[aBS (htake.2 ⟨hq,hq2⟩)]
  obtain⟨g3,yS,wn3⟩:=wn1.aXJ ([fX,.v (.int .i64 s.bC.bO),.v (.int .i64 s.bC.aQ),gR,hP]++[OV.sl n5 1 (s.aT.map λx=>[.v (I x)]),OV.sl n6 1 ((s.bW.set r.fW.toNat true).map λx=>[.v (.bool x)])]) (k:=r.fW.toNat) wp aA
  have wn5:=wn3.aWF ([fX,.v (.int .i64 s.bC.bO),.v (.int .i64 s.bC.aQ),gR,hP]++[OV.sl n5 1 (s.aT.map λx=>[.v (I x)]),OV.sl n6 1 ((s.bW.set r.fW.toNat true).map λx=>[.v (.bool x)]),OV.sl n7 3 (es.set r.fW.toNat [.v (.int .i64 r.mO.cU),.v (.int .i64 r.mO.iL),bKF])]) (c:=I) (l':=s.cC.set r.fW.toNat (-1))
  have hcs:=vD es r.fW.toNat [.v (.int .i64 r.mO.cU),.v (.int .i64 r.mO.iL),bKF] _ rfl
  simp only[aS,aY,OV.aR]at hcs
  rw[aBK I,hcs]
  refine⟨_,?hl,_,_,⟨rfl,fX,gR,hP,_,_,_,_,rfl,fL,fV,fJ,fH,OS.mk (uA (s.bW.set r.fW.toNat true)),OS.mk (hor.set r.fW.toNat r.mO _ oep),OS.mk (uA (s.cC.set r.fW.toNat (-1)))⟩,rfl,?hn,wn5⟩
  case hl =>
   simp only[cP,aS,aY,OV.aR,OV.lC,lM,aA6,show(aMR s r).bC=s.bC from rfl]
   exact Heap.le_trans (Heap.b5 (Heap.b5 yS)) (jU (by repeat'(first|exact hZ _ _|refine jV (by simp only[fU,↓reduceIte,eq_self,if_true,r9,sA,sB,sC,sD,sE]) ?_|refine fZ p9 ?_)))
  case hn =>
   rw[aE _ _ _ _ aIK]
   exact Heap.le_none yS (by rw[aE _ _ _ _ kT];exact aMS)
 ·exact cb _ rfl λz=>by rw[htake,hq]at z;simp at z
def j8 (s:aI) (k:Int):aI:={ s with aT:=s.aT.set k.toNat (s.aT.getD k.toNat 0+1),bW:=s.bW.set k.toNat false,cQ:=s.cQ.set k.toNat ⟨0,0,[]⟩,cC:=s.cC.set k.toNat (-1) }
@[go_sem] def bOV:List Nat:=[0,1]
@[go_sem] def b3J:List Nat:=[24]
set_option maxHeartbeats 2000000 in
theorem aX1 (s:aI) (k:Int) (h0 g:Heap) (nb:Nat) (e:List OV) (oe:s.o e) (hnb:g nb=none) (wn:eO h0 (OV.cA e) g) (l1:s.aT.length=s.bC.aV.length/\s.bW.length=s.bC.aV.length/\s.cQ.length=s.bC.aV.length/\s.cC.length=s.bC.aV.length) (ht:w6 s.bC k) (hst:∀ x∈s.aT,0<=x/\x<=50) :
  gV Tryz.prog 198 [.op nb 9 0 0,I k] (bL g nb (.row 9 (OV.cells [e]))) (aN2 h0 nb 9 λv e'=>(j8 s k).o e'):=by
 have hk1:=ht.1
 have hk2:=ht.2
 have xJ:=oe
 obtain⟨fX,gR,hP,w7,zI,w8,w9,rfl,fL,fV,fJ,fH,fP,fM,fN⟩:=xJ
 have kn:k.toNat<s.bW.length:=by omega
 have ks:k.toNat<s.aT.length:=by omega
 have ko:k.toNat<s.cC.length:=by omega
 have kp:k.toNat<s.cQ.length:=by omega
 have gk:s.bW[k.toNat]?=some s.bW[k.toNat]:=cJ kn
 have gs:s.aT[k.toNat]?=some s.aT[k.toNat]:=cJ ks
 have gd:s.aT.getD k.toNat 0=s.aT[k.toNat]:=by rw[jH,gs];rfl
 have go:s.cC[k.toNat]?=some s.cC[k.toNat]:=cJ ko
 have hb:=hst s.aT[k.toNat] (dX ks)
 obtain⟨n7,es,rfl,hor⟩:=fM.some aA
 rcases fH.aC8 with⟨rfl,h5⟩|⟨n5,rfl⟩
 ·rw[h5]at ks;simp at ks
 rcases fP.aC8 with⟨rfl,h6⟩|⟨n6,rfl⟩
 ·rw[h6]at kn;simp at kn
 rcases fN.aC8 with⟨rfl,h8⟩|⟨n8,rfl⟩
 ·rw[h8]at ko;simp at ko
 have g5:=wn.aL8 [fX,.v (.int .i64 s.bC.bO),.v (.int .i64 s.bC.aQ),gR,hP] (c:=I)
 have g6:=wn.aL8 ([fX,.v (.int .i64 s.bC.bO),.v (.int .i64 s.bC.aQ),gR,hP]++[OV.sl n5 1 (s.aT.map λx=>[.v (I x)])]) (c:=.bool)
 have g7:=wn.aPV ([fX,.v (.int .i64 s.bC.bO),.v (.int .i64 s.bC.aQ),gR,hP]++[OV.sl n5 1 (s.aT.map λx=>[.v (I x)]),OV.sl n6 1 (s.bW.map λx=>[.v (.bool x)])])
 have g8:=wn.aL8 ([fX,.v (.int .i64 s.bC.bO),.v (.int .i64 s.bC.aQ),gR,hP]++[OV.sl n5 1 (s.aT.map λx=>[.v (I x)]),OV.sl n6 1 (s.bW.map λx=>[.v (.bool x)]),OV.sl n7 3 es]) (c:=I)
 obtain⟨aRA,rA,q9,aLJ⟩:=cB (show ¬n5=nb from fE g5 hnb)
 obtain⟨aIJ,lB,lA,wM⟩:=cB (show ¬n6=nb from fE g6 hnb)
 obtain⟨yY,sB,r9,kT⟩:=cB (show ¬n7=nb from fE g7 hnb)
 obtain⟨aZ8,sD,sA,aIK⟩:=cB (show ¬n8=nb from fE g8 hnb)
 obtain⟨bOW,aLD,aLG,bOX⟩:=cB (show ¬n5=n6 from wn.qX [fX,.v (.int .i64 s.bC.bO),.v (.int .i64 s.bC.aQ),gR,hP] (m:=n6) xY)
 obtain⟨bOY,aLE,aLH,bOZ⟩:=cB (show ¬n5=n7 from wn.qX [fX,.v (.int .i64 s.bC.bO),.v (.int .i64 s.bC.aQ),gR,hP] (m:=n7) xY)
 obtain⟨bO0,aLF,aLI,bO1⟩:=cB (show ¬n5=n8 from wn.qX [fX,.v (.int .i64 s.bC.bO),.v (.int .i64 s.bC.aQ),gR,hP] (m:=n8) xY)
 obtain⟨aZ9,tO,tQ,aQ8⟩:=cB (show ¬n6=n7 from wn.qX ([fX,.v (.int .i64 s.bC.bO),.v (.int .i64 s.bC.aQ),gR,hP]++[OV.sl n5 1 (s.aT.map λx=>[.v (I x)])]) (m:=n7) xY)
 obtain⟨a0A,tP,tR,aQ9⟩:=cB (show ¬n6=n8 from wn.qX ([fX,.v (.int .i64 s.bC.bO),.v (.int .i64 s.bC.aQ),gR,hP]++[OV.sl n5 1 (s.aT.map λx=>[.v (I x)])]) (m:=n8) xY)
 obtain⟨a0B,sC,sE,a0C⟩:=cB (show ¬n7=n8 from wn.qX ([fX,.v (.int .i64 s.bC.bO),.v (.int .i64 s.bC.aQ),gR,hP]++[OV.sl n5 1 (s.aT.map λx=>[.v (I x)]),OV.sl n6 1 (s.bW.map λx=>[.v (.bool x)])]) (m:=n8) xY)
 have hv5:=OV.kY I n5 1 s.aT
 have hv6:=OV.kY aC.bool n6 1 s.bW
 have hv7:=OV.lC n7 3 es
 have hv8:=OV.kY I n8 1 s.cC
 have hel:es.length=s.cQ.length:=hor.length.symm
 obtain⟨ek,hek,oek⟩:=hor.a38 k.toNat s.cQ[k.toNat] (cJ kp)
 have a9U:=oek
 obtain⟨bWK,rfl,bWL⟩:=a9U
 have hck:=yL hek
 simp only[aS,aY,OV.aR]at hck
 have wn1:=wn.aWF [fX,.v (.int .i64 s.bC.bO),.v (.int .i64 s.bC.aQ),gR,hP] (c:=I) (l':=s.aT.set k.toNat (s.aT[k.toNat]+1))
 have p5:=wn1.aWF ([fX,.v (.int .i64 s.bC.bO),.v (.int .i64 s.bC.aQ),gR,hP]++[OV.sl n5 1 ((s.aT.set k.toNat (s.aT[k.toNat]+1)).map λx=>[.v (I x)])]) (c:=.bool) (l':=s.bW.set k.toNat false)
 obtain⟨g3,yS,wn3⟩:=p5.aXJ ([fX,.v (.int .i64 s.bC.bO),.v (.int .i64 s.bC.aQ),gR,hP]++[OV.sl n5 1 ((s.aT.set k.toNat (s.aT[k.toNat]+1)).map λx=>[.v (I x)]),OV.sl n6 1 ((s.bW.set k.toNat false).map λx=>[.v (.bool x)])]) (k:=k.toNat) (enew:=[.v (I 0),.v (I 0),.nil 1]) (eO.nil _) aA
 have wn4:=wn3.aWF ([fX,.v (.int .i64 s.bC.bO),.v (.int .i64 s.bC.aQ),gR,hP]++[OV.sl n5 1 ((s.aT.set k.toNat (s.aT[k.toNat]+1)).map λx=>[.v (I x)]),OV.sl n6 1 ((s.bW.set k.toNat false).map λx=>[.v (.bool x)]),OV.sl n7 3 (es.set k.toNat [.v (I 0),.v (I 0),.nil 1])]) (c:=I) (l':=s.cC.set k.toNat (-1))
 have hcs:=vD es k.toNat [.v (I 0),.v (I 0),.nil 1] _ rfl
 simp only[aS,aY,OV.aR,OV.nV]at hcs
 refine zY 33 bOV b3J bS Tryz.func198 ?_
 simp -dsimp -implicitDefEqProofs only[go_sem,↓reduceIte,Tryz.f198]
 simp -dsimp -implicitDefEqProofs only[go_sem,↓reduceIte,Tryz.f198,OV.aM,OV.aD,OV.aR,aF,aE,fL.flat,fL.one,fV.flat,fV.one,fJ.flat,fJ.one,fH.flat,fH.one,fP.flat,fP.one,fM.flat,fM.one,fN.flat,fN.one,q9,lA,r9,sA,rA,aLD,aLE,aLF,lB,aLG,tO,tP,sB,aLH,tQ,sC,sD,aLI,tR,sE,cP,aS,aY,gk,gs,go,hv5,hv6,hv7,hv8,g5,g6,g7,g8,hck]
 rw[IntWalk.i64_in _ aA]
 refine⟨hk1,by omega,hk1,by omega,hk1,by omega,cI,hk1,by omega,hk1,by omega,?_⟩
 rw[aBK aC.bool,aBK I,aBK I,hcs]
 have ef:(j8 s k).bC=s.bC:=rfl
 refine⟨_,?hl,_,_,⟨fX,gR,hP,_,_,_,_,rfl,fL,fV,fJ,OS.mk bRN,OS.mk (uA (s.bW.set k.toNat false)),OS.mk (hor.set k.toNat ⟨0,0,[]⟩ _ ⟨.nil 1,rfl,OS.nil⟩),OS.mk (uA (s.cC.set k.toNat (-1)))⟩,rfl,?hn,wn4⟩
 case hl =>
  simp only[cP,aS,aY,OV.aR,OV.lC,lM,aA6,ef]
  exact Heap.le_trans (Heap.b5 (Heap.b5 yS)) (jU (by repeat'(first|exact hZ _ _|refine jV bQ4 ?_|refine fZ p9 ?_)))
 case hn =>
  rw[aE _ _ _ _ aIK]
  exact Heap.le_none yS bRJ
@[go_sem] def bO2:List Nat:=[0,1,4,12]
@[go_sem] def b3K:Marks:=λid=>match id with|4=>([3,8,13,17,19,21],(.op 0 (.op 1 (.op 2 (.op 4 (.op 5 (.op 6 (.op 7 (.op 9 (.op 10 (.op 11 (.op 12 (.op 14 (.op 15 (.op 3 (.op 8 (.op 13 (.op 16 (.op 17 (.op 18 (.op 19 (.op 20 (.op 21 .nil)))))))))))))))))))))),[])|_=>([],.nil,[])
set_option maxHeartbeats 2000000 in
theorem forget (s:aI) (k:Int) (h0 g:Heap) (nb:Nat) (e:List OV) (oe:s.o e) (hnb:g nb=none) (wn:eO h0 (OV.cA e) g) (l1:s.aT.length=s.bC.aV.length/\s.bW.length=s.bC.aV.length/\s.cQ.length=s.bC.aV.length/\s.cC.length=s.bC.aV.length) (ht:w6 s.bC k) (hst:∀ x∈s.aT,0<=x/\x<=50) :
  gV Tryz.prog 178 [.op nb 9 0 0,I k] (bL g nb (.row 9 (OV.cells [e]))) (aN2 h0 nb 9 λv e'=>(s.aT[k.toNat]?=some 50->v=.bool false/\s.o e')/\(¬s.aT[k.toNat]?=some 50->v=.bool true/\(j8 s k).o e')):=by
 have hk1:=ht.1
 have hk2:=ht.2
 have xJ:=oe
 obtain⟨fX,gR,hP,w7,zI,w8,w9,rfl,fL,fV,fJ,fH,fP,fM,fN⟩:=xJ
 have kn:k.toNat<s.bW.length:=by omega
 have ks:k.toNat<s.aT.length:=by omega
 have ko:k.toNat<s.cC.length:=by omega
 have kp:k.toNat<s.cQ.length:=by omega
 have gk:s.bW[k.toNat]?=some s.bW[k.toNat]:=cJ kn
 have gs:s.aT[k.toNat]?=some s.aT[k.toNat]:=cJ ks
 have gd:s.aT.getD k.toNat 0=s.aT[k.toNat]:=by rw[jH,gs];rfl
 have go:s.cC[k.toNat]?=some s.cC[k.toNat]:=cJ ko
 have hb:=hst s.aT[k.toNat] (dX ks)
 obtain⟨n7,es,rfl,hor⟩:=fM.some aA
 rcases fH.aC8 with⟨rfl,h5⟩|⟨n5,rfl⟩
 ·rw[h5]at ks;simp at ks
 rcases fP.aC8 with⟨rfl,h6⟩|⟨n6,rfl⟩
 ·rw[h6]at kn;simp at kn
 rcases fN.aC8 with⟨rfl,h8⟩|⟨n8,rfl⟩
 ·rw[h8]at ko;simp at ko
 have g5:=wn.aL8 [fX,.v (.int .i64 s.bC.bO),.v (.int .i64 s.bC.aQ),gR,hP] (c:=I)
 have g6:=wn.aL8 ([fX,.v (.int .i64 s.bC.bO),.v (.int .i64 s.bC.aQ),gR,hP]++[OV.sl n5 1 (s.aT.map λx=>[.v (I x)])]) (c:=.bool)
 have g7:=wn.aPV ([fX,.v (.int .i64 s.bC.bO),.v (.int .i64 s.bC.aQ),gR,hP]++[OV.sl n5 1 (s.aT.map λx=>[.v (I x)]),OV.sl n6 1 (s.bW.map λx=>[.v (.bool x)])])
 have g8:=wn.aL8 ([fX,.v (.int .i64 s.bC.bO),.v (.int .i64 s.bC.aQ),gR,hP]++[OV.sl n5 1 (s.aT.map λx=>[.v (I x)]),OV.sl n6 1 (s.bW.map λx=>[.v (.bool x)]),OV.sl n7 3 es]) (c:=I)
 obtain⟨aRA,rA,q9,aLJ⟩:=cB (show ¬n5=nb from fE g5 hnb)
 obtain⟨aIJ,lB,lA,wM⟩:=cB (show ¬n6=nb from fE g6 hnb)
 obtain⟨yY,sB,r9,kT⟩:=cB (show ¬n7=nb from fE g7 hnb)
 obtain⟨aZ8,sD,sA,aIK⟩:=cB (show ¬n8=nb from fE g8 hnb)
 obtain⟨bOW,aLD,aLG,bOX⟩:=cB (show ¬n5=n6 from wn.qX [fX,.v (.int .i64 s.bC.bO),.v (.int .i64 s.bC.aQ),gR,hP] (m:=n6) xY)
 obtain⟨bOY,aLE,aLH,bOZ⟩:=cB (show ¬n5=n7 from wn.qX [fX,.v (.int .i64 s.bC.bO),.v (.int .i64 s.bC.aQ),gR,hP] (m:=n7) xY)
 obtain⟨bO0,aLF,aLI,bO1⟩:=cB (show ¬n5=n8 from wn.qX [fX,.v (.int .i64 s.bC.bO),.v (.int .i64 s.bC.aQ),gR,hP] (m:=n8) xY)
 obtain⟨aZ9,tO,tQ,aQ8⟩:=cB (show ¬n6=n7 from wn.qX ([fX,.v (.int .i64 s.bC.bO),.v (.int .i64 s.bC.aQ),gR,hP]++[OV.sl n5 1 (s.aT.map λx=>[.v (I x)])]) (m:=n7) xY)
 obtain⟨a0A,tP,tR,aQ9⟩:=cB (show ¬n6=n8 from wn.qX ([fX,.v (.int .i64 s.bC.bO),.v (.int .i64 s.bC.aQ),gR,hP]++[OV.sl n5 1 (s.aT.map λx=>[.v (I x)])]) (m:=n8) xY)
 obtain⟨a0B,sC,sE,a0C⟩:=cB (show ¬n7=n8 from wn.qX ([fX,.v (.int .i64 s.bC.bO),.v (.int .i64 s.bC.aQ),gR,hP]++[OV.sl n5 1 (s.aT.map λx=>[.v (I x)]),OV.sl n6 1 (s.bW.map λx=>[.v (.bool x)])]) (m:=n8) xY)
 have hv5:=OV.kY I n5 1 s.aT
 have hv6:=OV.kY aC.bool n6 1 s.bW
 have hv7:=OV.lC n7 3 es
 have hv8:=OV.kY I n8 1 s.cC
 have hel:es.length=s.cQ.length:=hor.length.symm
 obtain⟨ek,hek,oek⟩:=hor.a38 k.toNat s.cQ[k.toNat] (cJ kp)
 have a9U:=oek
 obtain⟨bWK,rfl,bWL⟩:=a9U
 have hck:=yL hek
 simp only[aS,aY,OV.aR]at hck
 have wn1:=wn.aWF [fX,.v (.int .i64 s.bC.bO),.v (.int .i64 s.bC.aQ),gR,hP] (c:=I) (l':=s.aT.set k.toNat (s.aT[k.toNat]+1))
 have p5:=wn1.aWF ([fX,.v (.int .i64 s.bC.bO),.v (.int .i64 s.bC.aQ),gR,hP]++[OV.sl n5 1 ((s.aT.set k.toNat (s.aT[k.toNat]+1)).map λx=>[.v (I x)])]) (c:=.bool) (l':=s.bW.set k.toNat false)
 obtain⟨g3,yS,wn3⟩:=p5.aXJ ([fX,.v (.int .i64 s.bC.bO),.v (.int .i64 s.bC.aQ),gR,hP]++[OV.sl n5 1 ((s.aT.set k.toNat (s.aT[k.toNat]+1)).map λx=>[.v (I x)]),OV.sl n6 1 ((s.bW.set k.toNat false).map λx=>[.v (.bool x)])]) (k:=k.toNat) (enew:=[.v (I 0),.v (I 0),.nil 1]) (eO.nil _) aA
 have wn4:=wn3.aWF ([fX,.v (.int .i64 s.bC.bO),.v (.int .i64 s.bC.aQ),gR,hP]++[OV.sl n5 1 ((s.aT.set k.toNat (s.aT[k.toNat]+1)).map λx=>[.v (I x)]),OV.sl n6 1 ((s.bW.set k.toNat false).map λx=>[.v (.bool x)]),OV.sl n7 3 (es.set k.toNat [.v (I 0),.v (I 0),.nil 1])]) (c:=I) (l':=s.cC.set k.toNat (-1))
 have hcs:=vD es k.toNat [.v (I 0),.v (I 0),.nil 1] _ rfl
 simp only[aS,aY,OV.aR,OV.nV]at hcs
 have b8V:(OV.cells es).set k.toNat [.v (I 0),.v (I 0),.v (.sl 1 [] true)]=OV.cells (es.set k.toNat [.v (I 0),.v (I 0),.nil 1]):=hcs
 have wk7:=iS.setAt (xs:=[I 0,I 0,.aU]) (ys:=[I 0,I 0,.sl 1 [] true]) (.cons (.refl _) (.cons (.refl _) (.cons (Sub.nil 1 true) .nil))) (OV.cells es) k.toNat
 simp only[nE,xL]at wk7
 refine gV.shift (K':=λr h'=>∃ g1:Heap,g1.wk h'/\aN2 h0 nb 9 (λv e'=>(s.aT[k.toNat]?=some 50->v=.bool false/\s.o e')/\(¬s.aT[k.toNat]?=some 50->v=.bool true/\(j8 s k).o e')) r g1) ?_ λr h' q=>q
 refine zY 41 bO2 cD b3K Tryz.func178 ?_
 simp -dsimp -implicitDefEqProofs only[go_sem,↓reduceIte,Tryz.f178]
 simp -dsimp -implicitDefEqProofs only[go_sem,↓reduceIte,Tryz.f178,OV.aM,OV.aD,OV.aR,aF,aE,fL.flat,fL.one,fV.flat,fV.one,fJ.flat,fJ.one,fH.flat,fH.one,fP.flat,fP.one,fM.flat,fM.one,fN.flat,fN.one,q9,lA,r9,sA,rA,aLD,aLE,aLF,lB,aLG,tO,tP,sB,aLH,tQ,sC,sD,aLI,tR,sE,cP,aS,aY,gk,gs,go,hv5,hv6,hv7,hv8,g5,g6,g7,g8,hck]
 refine⟨hk1,by omega,λhq=>?_,λhq=>?_⟩
 ·exact⟨_,Heap.le_refl _,_,Heap.iU (Heap.le_refl _),_,g,⟨λ_=>⟨rfl,oe⟩,λz=>absurd (by rw[hq]) z⟩,by simp only[cP,aS,aY,OV.aR,hv5,hv6,hv7,hv8],hnb,wn⟩
 rw[IntWalk.i64_in _ aA]
 refine⟨hk1,by omega,hk1,by omega,hk1,by omega,hk1,by omega,hk1,by omega,?_⟩
 rw[aBK aC.bool,aBK I,aBK I]
 have ef:(j8 s k).bC=s.bC:=rfl
 refine⟨_,Heap.le_refl _,_,?hl,[fX,.v (I s.bC.bO),.v (I s.bC.aQ),gR,hP,OV.sl n5 1 ((s.aT.set k.toNat (s.aT[k.toNat]+1)).map λx=>[.v (I x)]),OV.sl n6 1 ((s.bW.set k.toNat false).map λx=>[.v (.bool x)]),OV.sl n7 3 (es.set k.toNat [.v (I 0),.v (I 0),.nil 1]),OV.sl n8 1 ((s.cC.set k.toNat (-1)).map λx=>[.v (I x)])],_,⟨λz=>absurd (eN z) hq,λ_=>⟨rfl,fX,gR,hP,_,_,_,_,rfl,fL,fV,fJ,OS.mk bRN,OS.mk (uA (s.bW.set k.toNat false)),OS.mk (hor.set k.toNat ⟨0,0,[]⟩ _ ⟨.nil 1,rfl,OS.nil⟩),OS.mk (uA (s.cC.set k.toNat (-1)))⟩⟩,rfl,?hn,wn4⟩
 case hl =>
  simp only[cP,aS,aY,OV.aR,OV.lC,lM,aA6,ef]
  refine Heap.wk.trans (Heap.iU ?_) (Heap.aJR (g:=bL (bL (bL (bL (bL g nb (.row 9 [[.v fX.val,.v (I s.bC.bO),.v (I s.bC.aQ),.v gR.val,.v hP.val,.v (.os n5 1 0 s.aT.length),.v (.os n6 1 0 s.bW.length),.v (.os n7 3 0 es.length),.v (.os n8 1 0 s.cC.length)]])) n5 (.row 1 (((s.aT.set k.toNat (s.aT[k.toNat]+1)).map λx=>[I x]).map (List.map .v)))) n6 (.row 1 (((s.bW.set k.toNat false).map λx=>[aC.bool x]).map (List.map .v)))) n7 (.row 3 (OV.cells (es.set k.toNat [.v (I 0),.v (I 0),.nil 1])))) n8 (.row 1 (((s.cC.set k.toNat (-1)).map λx=>[I x]).map (List.map .v)))) (m:=n7) (sz:=3) (es:=(OV.cells es).set k.toNat [.v (I 0),.v (I 0),.v .aU]) (es':=OV.cells (es.set k.toNat [.v (I 0),.v (I 0),.nil 1])) (λq hq=>by simp only[fU,if_neg hq]) bQ8 bQ8 (by rw[←b8V];exact wk7))
  exact Heap.le_trans (Heap.b5 (Heap.b5 yS)) (jU (by repeat'(first|exact hZ _ _|refine jV bQ4 ?_|refine fZ p9 ?_)))
 case hn =>
  rw[aE _ _ _ _ aIK]
  exact Heap.le_none yS bRJ
def rX (s:aI) (k:Int) (ns:List Int):Prop:=w6 s.bC k/\(ns.length=(s.bC.aV.getD k.toNat []).length)/\rH ns
noncomputable instance (s:aI) (k:Int) (ns:List Int):Decidable (rX s k ns):=Classical.propDecidable _
def aAB (s:aI) (k:Int) (ns:List Int):aI:={ s with bC:={ s.bC with aV:=s.bC.aV.set k.toNat ns } }
def aP8 (s:aI) (k:Int) (ns:List Int):aI:=aAB (j8 s k) k ns
noncomputable def aJB (s:aI) (k:Int) (ns:List Int):aI×Int:=if rX s k ns then(if s.aT[k.toNat]?=some 50 then(s,3)else(aP8 s k ns,0))else(s,2)
theorem aMT {s:aI} {k:Int} {ns:List Int} (h:¬rX s k ns):aJB s k ns=(s,2):=if_neg h
theorem bDL {s:aI} {k:Int} {ns:List Int} (h:rX s k ns) (h2:s.aT[k.toNat]?=some 50):aJB s k ns=(s,3):=by rw[aJB,if_pos h,if_pos h2]
theorem a4V {s:aI} {k:Int} {ns:List Int} (h:rX s k ns) (h2:¬s.aT[k.toNat]?=some 50):aJB s k ns=(aP8 s k ns,0):=by rw[aJB,if_pos h,if_neg h2]
noncomputable def aAQ (s:aI) (k:Int) (ns:List Int):aI×Int:=if s.ok then(if rX s k ns then(if s.aT[k.toNat]?=some 50 then(iH,3)else(aP8 s k ns,0))else(iH,2))else(iH,1)
theorem bF4 {s:aI} {k:Int} {ns:List Int} (h:¬s.ok):aAQ s k ns=(iH,1):=if_neg h
theorem aOD {s:aI} {k:Int} {ns:List Int} (h0:s.ok) (h:¬rX s k ns):aAQ s k ns=(iH,2):=by rw[aAQ,if_pos h0,if_neg h]
theorem aX2 {s:aI} {k:Int} {ns:List Int} (h0:s.ok) (h:rX s k ns) (h2:s.aT[k.toNat]?=some 50):aAQ s k ns=(iH,3):=by rw[aAQ,if_pos h0,if_pos h,if_pos h2]
theorem aUQ {s:aI} {k:Int} {ns:List Int} (h0:s.ok) (h:rX s k ns) (h2:¬s.aT[k.toNat]?=some 50):aAQ s k ns=(aP8 s k ns,0):=by rw[aAQ,if_pos h0,if_pos h,if_neg h2]
theorem aI.aAZ {s:aI} (h:s.ok):∀ x∈s.aT,0<=x/\x<=50:=by
 intro x hx
 obtain⟨k,hk,rfl⟩:=aR3.1 hx
 have l:=h.2.1
 exact(h.2.2 k s.aT[k] (s.cC[k]'aA) (s.bW[k]'aA) (s.cQ[k]'aA) (cJ hk) (cJ _) (cJ _) (cJ _)).1
@[go_sem] def bO3:List Nat:=[0,1,2,6,31,39]
@[go_sem] def b3L:Marks:=λid=>match id with|6=>([4,7,9],(.op 0 (.op 1 (.op 2 (.op 3 (.op 5 (.op 6 (.op 4 (.op 7 (.op 8 (.op 9 .nil)))))))))),[(4,7)])|_=>([],.nil,[])
set_option maxHeartbeats 2000000 in
theorem bO4 (s:aI) (k:Int) (ns:List Int) (h0 g:Heap) (nb:Nat) (e:List OV) (oe:s.o e) (hnb:g nb=none) (wn:eO h0 (OV.cA e) g) (hs:s.s<=1048576) (hns:ns.length<=1048576) (l1:s.aT.length=s.bC.aV.length/\s.bW.length=s.bC.aV.length/\s.cQ.length=s.bC.aV.length/\s.cC.length=s.bC.aV.length) (hst:∀ x∈s.aT,0<=x/\x<=50) :
  gV Tryz.prog 163 [.op nb 9 0 0,I k,dA 1 (λn=>[I n]) ns] (bL g nb (.row 9 (OV.cells [e]))) (aN2 h0 nb 9 λr e'=>r=I (aJB s k ns).2/\(aJB s k ns).1.o e'):=by
 have hs':=s.gB
 have nA:=s.bC.gB
 simp only[gI]at hs' nA
 have hvw:=View.box (sz:=9) (aI.qG oe) hnb wn.gH
 have htm:=aZ4 s.bC k aA
 have xJ:=oe
 obtain⟨fX,gR,hP,w7,zI,w8,w9,rfl,fL,fV,fJ,fH,fP,fM,fN⟩:=xJ
 refine zY 52 bO3 cD b3L Tryz.func163 ?_
 simp -dsimp -implicitDefEqProofs only[go_sem,↓reduceIte,Tryz.f163]
 refine aH.aF3 htm (dS.cons (hvw.sub (Sub.eA rfl rfl rfl)) (dS.cons (View.same _ _) dS.nil)) rfl ?_
 simp -dsimp -implicitDefEqProofs only[go_sem,↓reduceIte,Tryz.f163,OV.aM,OV.aD,OV.aR,aF,aE,fL.flat,fL.one,fV.flat,fV.one,fJ.flat,fJ.one,fH.flat,fH.one,fP.flat,fP.one,fM.flat,fM.one,fN.flat,fN.one]
 refine⟨λht=>?_,λht=>?_⟩
 case refine_2 =>
  rw[aMT λq=>ht q.1]
  exact⟨_,Heap.le_refl _,_,g,⟨rfl,oe⟩,rfl,hnb,wn⟩
 have hk1:=ht.1
 have hk2:=ht.2
 have kt:k.toNat<s.bC.aV.length:=by omega
 have gt:s.bC.aV[k.toNat]?=some s.bC.aV[k.toNat]:=cJ kt
 have gtd:s.bC.aV.getD k.toNat []=s.bC.aV[k.toNat]:=by rw[jH,gt];rfl
 have htl:=pT (λx:List Int=>x.length) (dX kt)
 try simp only at htl
 have ks:k.toNat<s.aT.length:=by omega
 have gs:s.aT[k.toNat]?=some s.aT[k.toNat]:=cJ ks
 have hb:=hst s.aT[k.toNat] (dX ks)
 obtain⟨n4,es4,rfl,bF5⟩:=fJ.some aA
 rcases fH.aC8 with⟨rfl,h5⟩|⟨n5,rfl⟩
 ·rw[h5]at ks;simp at ks
 have g4:=wn.aPV [fX,.v (.int .i64 s.bC.bO),.v (.int .i64 s.bC.aQ),gR]
 have g5:=wn.aL8 ([fX,.v (.int .i64 s.bC.bO),.v (.int .i64 s.bC.aQ),gR]++[OV.sl n4 1 es4]) (c:=I)
 obtain⟨bOT,aIH,aIG,bDI⟩:=cB (show ¬n4=nb from fE g4 hnb)
 obtain⟨aRA,rA,q9,aLJ⟩:=cB (show ¬n5=nb from fE g5 hnb)
 have hv4:=OV.lC n4 1 es4
 have hv5:=OV.kY I n5 1 s.aT
 have b8W:es4.length=s.bC.aV.length:=bF5.length.symm
 obtain⟨ek4,b8X,yk,rfl,oyk⟩:=bF5.a38 k.toNat _ gt
 have bWO:=yL b8X
 simp only[aS,aY,OV.aR]at bWO
 have hyk:(yk.val=.sl 1 [] true/\s.bC.aV[k.toNat].length=0)∨∃ n,yk.val=.os n 1 0 s.bC.aV[k.toNat].length:=by
  rcases oyk.aC8 with⟨rfl,h⟩|⟨n,rfl⟩
  ·exact .inl ⟨rfl,by rw[h];rfl⟩
  ·exact .inr ⟨n,OV.kY I n 1 _⟩
 have cb:∀ (v:aC) (c:Int),v=I c->aJB s k ns=(s,c)->∃ g_1:Heap,g_1.le (bL g nb (.row 9 [[.v fX.val,.v (I s.bC.bO),.v (I s.bC.aQ),.v gR.val,.v (.os n4 1 0 es4.length),.v (.os n5 1 0 s.aT.length),.v zI.val,.v w8.val,.v w9.val]]))/\aN2 h0 nb 9 (λr e'=>r=I (aJB s k ns).2/\(aJB s k ns).1.o e') v g_1:=by
  rintro v c rfl hq
  rw[hq]
  exact⟨_,Heap.le_refl _,_,g,⟨rfl,oe⟩,by simp only[cP,aS,aY,OV.aR,hv4,hv5],hnb,wn⟩
 rcases hyk with⟨hvk,hlk⟩|⟨nk,hvk⟩
 all_goals
  simp -dsimp -implicitDefEqProofs only[go_sem,↓reduceIte,Tryz.f163,OV.aM,OV.aD,OV.aR,aF,aE,fL.flat,fL.one,fV.flat,fV.one,fJ.flat,fJ.one,fH.flat,fH.one,fP.flat,fP.one,fM.flat,fM.one,fN.flat,fN.one,aIG,aIH,q9,rA,cP,aS,aY,gs,hv4,hv5,g4,g5,bWO,hvk]
  refine λ_=>⟨hk1,by omega,?_⟩
  first|refine λ_=>⟨λhq=>?_,λhq=>cb _ 2 rfl (aMT λz=>?_)⟩|refine⟨λhq=>?_,λhq=>cb _ 2 rfl (aMT λz=>?_)⟩
  case' refine_2=>have:=z.2.1;rw[gtd]at this;omega
 all_goals
  have hq':ns.length=s.bC.aV[k.toNat].length:=by omega
  first|refine aH.mk (jG ns) ?_|refine aG.mk (jG ns) ?_|refine aH.cN (jG ns) ?_|refine aG.mk (cG.fO (jG ns)) ?_
  simp -dsimp -implicitDefEqProofs only[go_sem,↓reduceIte,Tryz.f163]
  refine⟨λhn=>cb _ 2 rfl (aMT λz=>by have:=z.2.2;first|exact hn this|simp_all),λhn=>?_⟩
  simp -dsimp -implicitDefEqProofs only[go_sem,↓reduceIte,Tryz.f163,OV.aM,OV.aD,OV.aR,aF,aE,fL.flat,fL.one,fV.flat,fV.one,fJ.flat,fJ.one,fH.flat,fH.one,fP.flat,fP.one,fM.flat,fM.one,fN.flat,fN.one,aIG,aIH,q9,rA,gs,hv4,hv5,g4,g5,bWO,hvk]
 all_goals
  refine⟨hk1,by omega,λh50=>cb _ 3 rfl (bDL ⟨ht,by rw[gtd];exact hq',by first|assumption|(simp_all;done)⟩ (by rw[gs];congr 1;omega)),λh50=>?_⟩
  rw[a4V ⟨ht,by rw[gtd];exact hq',by first|assumption|(simp_all;done)⟩ (by rw[gs];intro z;have:=eN z;omega)]
  have hR:([[.v fX.val,.v (I s.bC.bO),.v (I s.bC.aQ),.v gR.val,.v (.os n4 1 0 es4.length),.v (.os n5 1 0 s.aT.length),.v zI.val,.v w8.val,.v w9.val]]:List (List Cell))=OV.cells [[fX,.v (I s.bC.bO),.v (I s.bC.aQ),gR,OV.sl n4 1 es4,OV.sl n5 1 (s.aT.map λx=>[.v (I x)]),zI,w8,w9]]:=by simp only[cP,aS,aY,OV.aR,hv4,hv5]
  rw[hR]
  refine aH.jP (aX1 s k h0 g nb _ oe hnb wn l1 ht hst) ?_
  clear hR cb hvw wn oe hv4 hv5 g4 g5 fL fV fJ fH fP fM fN oyk
  rintro r h' ⟨e2,g2,oe2,rfl,aMS,p5⟩
  have oe3:=oe2
  obtain⟨aBT,aBU,aD2,aC9,aDA,aDB,aDC,rfl,gJ,gK,gL,gN,gO,gP,gQ⟩:=oe3
  obtain⟨m4,fs4,rfl,bWP⟩:=gL.some (show 0<s.bC.aV.length by omega)
  have f4:=p5.aPV [aBT,.v (.int .i64 (j8 s k).bC.bO),.v (.int .i64 (j8 s k).bC.aQ),aBU]
  obtain⟨b7B,a0E,a0F,bO6⟩:=cB (show ¬m4=nb from fE f4 aMS)
  have hw4:=OV.lC m4 1 fs4
  have cDO:fs4.length=s.bC.aV.length:=bWP.length.symm
  obtain⟨fk4,bO7,yk2,rfl,b8Z⟩:=bWP.a38 k.toNat _ gt
  have a4W:=yL bO7
  simp only[aS,aY,OV.aR]at a4W
  simp -dsimp -implicitDefEqProofs only[go_sem,↓reduceIte,Tryz.f163,OV.aM,OV.aD,OV.aR,aF,aE,gJ.flat,gJ.one,gK.flat,gK.one,gL.flat,gL.one,gN.flat,gN.one,gO.flat,gO.one,gP.flat,gP.one,gQ.flat,gQ.one,a0F,a0E,cP,aS,aY,hw4,f4,a4W]
 all_goals
  refine aH.wn1 (l6 ns hns) aMS ?_
  rintro r_ l_ g3 ⟨yn,oyn,rfl,rfl⟩ wp bKH
  replace f4:=wp.keep f4
  simp -dsimp -implicitDefEqProofs only[go_sem,↓reduceIte,Tryz.f163,OV.aM,OV.aD,OV.aR,aF,aE,gJ.flat,gJ.one,gK.flat,gK.one,gL.flat,gL.one,gN.flat,gN.one,gO.flat,gO.one,gP.flat,gP.one,gQ.flat,gQ.one,a0F,a0E,cP,aS,aY,hw4,f4,a4W,oyn.flat,oyn.one]
  refine⟨hk1,by omega,?_⟩
  obtain⟨g5,aOE,wn5⟩:=p5.aXJ [aBT,.v (.int .i64 (j8 s k).bC.bO),.v (.int .i64 (j8 s k).bC.aQ),aBU] (k:=k.toNat) (enew:=[yn]) bRZ aA
  have hcs:=vD fs4 k.toNat [yn] _ rfl
  simp only[aS,aY,OV.aR]at hcs
  rw[hcs]
  refine⟨_,?hl,_,_,⟨rfl,aBT,aBU,_,aC9,aDA,aDB,aDC,rfl,gJ,gK,OS.mk (bWP.set k.toNat ns [yn] ⟨yn,rfl,oyn⟩),gN,gO,gP,gQ⟩,rfl,?hn,wn5⟩
  case hl =>
   simp only[cP,aS,aY,OV.aR,OV.lC,aA6,show(aP8 s k ns).bC.bO=(j8 s k).bC.bO from rfl,show(aP8 s k ns).bC.aQ=(j8 s k).bC.aQ from rfl]
   exact Heap.le_trans (Heap.b5 aOE) (jU (by repeat'(first|exact hZ _ _|refine jV (by simp only[fU,↓reduceIte,eq_self,if_true,a0F,a0E]) ?_|refine fZ p9 ?_)))
  case hn=>exact Heap.le_none aOE (by rw[aE _ _ _ _ bO6];exact bKH)
@[go_sem] def bO8:List Nat:=[0,1,2,3,6,7,8,9,14,44]
@[go_sem] def b3O:Marks:=λid=>match id with|6=>([2,5,7],(.op 0 (.op 1 (.op 3 (.op 4 (.op 2 (.op 5 (.op 6 (.op 7 .nil)))))))),[(2,5)])|_=>([],.nil,[])
set_option maxHeartbeats 2000000 in
theorem a9V (s:aI) (k:Int) (ns:List Int) (hs:s.s<=1048576) (hns:ns.length<=1048576):qK Tryz.prog 135 [.agg s.c,I k,dA 1 (λn=>[I n]) ns] (QA (aAQ s k ns).1.o (λy=>.iJ [y,I (aAQ s k ns).2])):=by
 have hs':=s.gB
 have nA:=s.bC.gB
 simp only[gI]at hs' nA
 have hok:=aFG s aA
 have hcl:=aFL s hs
 have hhas:=has s.bC k aA
 simp only[aI.aO,dF.aO]at hok hcl hhas ⊢
 refine tA 47 bO8 bJB b3O Tryz.func135 λh=>?_
 simp -dsimp -implicitDefEqProofs only[go_sem,↓reduceIte,Tryz.f135]
 intro n4 z4
 have z4h:=z4
 try simp -dsimp -implicitDefEqProofs only[go_sem,↓reduceIte,Tryz.f135]
 first|refine aH.mk (hok) ?_|refine aG.mk (hok) ?_|refine aH.cN (hok) ?_|refine aG.mk (cG.fO (hok)) ?_
 simp -dsimp -implicitDefEqProofs only[go_sem,↓reduceIte,Tryz.f135]
 refine⟨λhn=>?_,λhy=>?_⟩
 ·have hn':¬s.ok:=by simpa using hn
  rw[bF4 hn']
  try simp -dsimp -implicitDefEqProofs only[go_sem,↓reduceIte,Tryz.f135,aF]
  exact n9 kK (jF [] [_]) (by repeat'(first|exact Heap.le_refl _|refine Heap.b5 ?_|refine Heap.aW kR ?_))
 have hy':s.ok:=by simpa using hy
 try simp -dsimp -implicitDefEqProofs only[go_sem,↓reduceIte,Tryz.f135]
 first|refine aH.mk (hhas) ?_|refine aG.mk (hhas) ?_|refine aH.cN (hhas) ?_|refine aG.mk (cG.fO (hhas)) ?_
 simp -dsimp -implicitDefEqProofs only[go_sem,↓reduceIte,Tryz.f135]
 refine⟨λht=>?_,λht=>?_⟩
 case refine_2 =>
  rw[aOD hy' λq=>ht q.1]
  try simp -dsimp -implicitDefEqProofs only[go_sem,↓reduceIte,Tryz.f135,aF]
  exact n9 kK (jF [] [_]) (by repeat'(first|exact Heap.le_refl _|refine Heap.b5 ?_|refine Heap.aW kR ?_))
 have hk1:=ht.1
 have hk2:=ht.2
 have kt:k.toNat<s.bC.aV.length:=by omega
 have gt:s.bC.aV[k.toNat]?=some s.bC.aV[k.toNat]:=cJ kt
 have gtd:s.bC.aV.getD k.toNat []=s.bC.aV[k.toNat]:=by rw[jH,gt];rfl
 have htl:=pT (λx:List Int=>x.length) (dX kt)
 try simp only at htl
 simp -dsimp -implicitDefEqProofs only[go_sem,↓reduceIte,Tryz.f135,gt]
 refine⟨hk1,by omega,λ_=>?_⟩
 have htn:rX s k ns↔ns.length=(s.bC.aV[k.toNat]).length/\rH ns:=by rw[rX,gtd];exact⟨λq=>q.2,λq=>⟨ht,q⟩⟩
 first|refine aH.mk (gE ns s.bC.aV[k.toNat].length) ?_|refine aG.mk (gE ns s.bC.aV[k.toNat].length) ?_|refine aH.cN (gE ns s.bC.aV[k.toNat].length) ?_|refine aG.mk (cG.fO (gE ns s.bC.aV[k.toNat].length)) ?_
 simp -dsimp -implicitDefEqProofs only[go_sem,↓reduceIte,Tryz.f135]
 refine⟨λhn=>?_,λhn=>?_⟩
 ·rw[aOD hy' (by rw[htn];simpa using hn)]
  try simp -dsimp -implicitDefEqProofs only[go_sem,↓reduceIte,Tryz.f135,aF]
  exact n9 kK (jF [] [_]) (by repeat'(first|exact Heap.le_refl _|refine Heap.b5 ?_|refine Heap.aW kR ?_))
 have h2:rX s k ns:=by rw[htn];simpa using hn
 try simp -dsimp -implicitDefEqProofs only[go_sem,↓reduceIte,Tryz.f135]
 refine aH.wn1 hcl z4 ?_
 rintro r l_ g ⟨e,oe,rfl,rfl⟩ wn z4
 have xJ:=oe
 obtain⟨fX,gR,hP,w7,zI,w8,w9,rfl,fL,fV,fJ,fH,fP,fM,fN⟩:=xJ
 simp -dsimp -implicitDefEqProofs only[go_sem,↓reduceIte,Tryz.f135,OV.aM,OV.aD,OV.aR,aF,aE,fL.flat,fL.one,fV.flat,fV.one,fJ.flat,fJ.one,fH.flat,fH.one,fP.flat,fP.one,fM.flat,fM.one,fN.flat,fN.one]
 intro n6 aUR
 obtain⟨oC,jC,jD,aII⟩:=cB (show ¬n6=n4 from iV aUR)
 have sN:g n6=none:=iV aUR
 obtain⟨m4,es4,rfl,bF5⟩:=fJ.some aA
 have f4:=wn.aPV [fX,.v (.int .i64 s.bC.bO),.v (.int .i64 s.bC.aQ),gR]
 obtain⟨b7C,a0G,a0H,bO9⟩:=cB (show ¬m4=n6 from fE f4 sN)
 obtain⟨b7D,a0I,a0J,bPA⟩:=cB (show ¬m4=n4 from fE f4 z4)
 have hw4:=OV.lC m4 1 es4
 have b8W:es4.length=s.bC.aV.length:=bF5.length.symm
 obtain⟨fk4,bO7,yk2,rfl,b8Z⟩:=bF5.a38 k.toNat _ gt
 have a4W:=yL bO7
 simp only[aS,aY,OV.aR]at a4W
 simp -dsimp -implicitDefEqProofs only[go_sem,↓reduceIte,Tryz.f135,OV.aM,OV.aD,OV.aR,aF,aE,fL.flat,fL.one,fV.flat,fV.one,fJ.flat,fJ.one,fH.flat,fH.one,fP.flat,fP.one,fM.flat,fM.one,fN.flat,fN.one,jD,a0J,jC,a0H,a0I,a0G,hw4,f4,a4W]
 refine aH.p5 (uG ns hns) z4 ⟨oC,sN⟩ ?_
 rintro r_ l_ g2 ⟨yn,oyn,rfl,rfl⟩ wp z42 z62
 replace f4:=wp.keep f4
 simp -dsimp -implicitDefEqProofs only[go_sem,↓reduceIte,Tryz.f135,OV.aM,OV.aD,OV.aR,aF,aE,fL.flat,fL.one,fV.flat,fV.one,fJ.flat,fJ.one,fH.flat,fH.one,fP.flat,fP.one,fM.flat,fM.one,fN.flat,fN.one,jD,a0J,jC,a0H,a0I,a0G,hw4,f4,a4W,oyn.flat,oyn.one]
 refine⟨hk1,by omega,?_⟩
 obtain⟨g5,aOE,wn5⟩:=wn.aXJ [fX,.v (.int .i64 s.bC.bO),.v (.int .i64 s.bC.aQ),gR] (k:=k.toNat) (enew:=[yn]) bRZ aA
 have hcs:=vD es4 k.toNat [yn] _ rfl
 simp only[aS,aY,OV.aR]at hcs
 rw[hcs]
 have z45:g5 n4=none:=Heap.le_none aOE (by rw[aE _ _ _ _ bPA];exact z42)
 have z65:g5 n6=none:=Heap.le_none aOE (by rw[aE _ _ _ _ bO9];exact z62)
 have xJ:(aAB s k ns).o [fX,.v (I s.bC.bO),.v (I s.bC.aQ),gR,OV.sl m4 1 (es4.set k.toNat [yn]),w7,zI,w8,w9]:=⟨fX,gR,_,w7,zI,w8,w9,rfl,fL,fV,OS.mk (bF5.set k.toNat ns [yn] ⟨yn,rfl,oyn⟩),fH,fP,fM,fN⟩
 have hst:∀ x∈s.aT,0<=x/\x<=50:=aI.aAZ hy'
 have l1:=hy'.2.1
 have hfg:=forget (aAB s k ns) k _ _ n6 _ xJ (by rw[aE _ _ _ _ oC];exact z65) (wn5.over (o:=.row 9 [[.v .aU,.v (I 0),.v (I 0),.v .aU,.v .aU,.v .aU,.v .aU,.v .aU,.v .aU]]) z45) (by simpa[aAB]using l1) (by simpa[aAB,w6]using ht) hst
 refine aH.wk (g:=bL (bL g5 n4 (.row 9 [[.v .aU,.v (I 0),.v (I 0),.v .aU,.v .aU,.v .aU,.v .aU,.v .aU,.v .aU]])) n6 (.row 9 (OV.cells [[fX,.v (I s.bC.bO),.v (I s.bC.aQ),gR,OV.sl m4 1 (es4.set k.toNat [yn]),w7,zI,w8,w9]]))) (Heap.iU ?_) (aH.jP hfg ?_)
 ·simp only[cP,aS,aY,OV.aR,OV.lC,aA6]
  exact Heap.le_trans (Heap.b5 (Heap.b5 aOE)) (jU (by repeat'(first|exact hZ _ _|refine jV (by simp only[fU,↓reduceIte,eq_self,if_true,jD,a0J,jC,a0H,a0I,a0G]) ?_|refine fZ p9 ?_)))
 clear wn oe fL fV fJ fH fP fM fN xJ hfg wn5 aOE bO7 a4W hcs f4
 rintro r h' ⟨e2,g3,⟨q50,qno⟩,rfl,hg3,wn3⟩
 obtain⟨g4,a4X,wn4,z44,rfl⟩:=wn3.base z4h
 have z64:g4 n6=none:=by rwa [aE _ _ _ _ oC]at hg3
 by_cases h3:s.aT[k.toNat]?=some 50
 ·obtain⟨rfl,oe2⟩:=q50 h3
  rw[aX2 hy' h2 h3]
  simp -dsimp -implicitDefEqProofs only[go_sem,↓reduceIte,Tryz.f135,OV.aM,OV.aD,OV.aR,aF,aE,jD,jC]
  exact n9 kK (jF [] [_]) (Heap.le_trans wn4.le (by repeat'(first|exact Heap.le_refl _|refine Heap.b5 ?_|refine Heap.aW kR ?_)))
 ·obtain⟨rfl,oe2⟩:=qno h3
  rw[aUQ hy' h2 h3]
  have oe3:=oe2
  obtain⟨aBT,aBU,aD2,aC9,aDA,aDB,aDC,rfl,gJ,gK,gL,gN,gO,gP,gQ⟩:=oe3
  simp -dsimp -implicitDefEqProofs only[go_sem,↓reduceIte,Tryz.f135,OV.aM,OV.aD,OV.aR,aF,aE,gJ.flat,gJ.one,gK.flat,gK.one,gL.flat,gL.one,gN.flat,gN.one,gO.flat,gO.one,gP.flat,gP.one,gQ.flat,gQ.one,jD,jC,cP,aS,aY]
  exact aQ0 (w:=λy=>.iJ [y,I 0]) oe2 wn4 (by repeat'(first|exact Heap.le_refl _|refine Heap.b5 ?_|refine Heap.aW kR ?_))
theorem bTF (n:Int):n.tmod 1000003=n%1000003∨n.tmod 1000003=n%1000003-1000003:=by
 by_cases h:0<=n
 ·exact .inl (aGK h)
 ·have h1:n.tmod 1000003=-((-n)%1000003):=by
   have h2:n=-(-n):=by omega
   rw[h2,Int.neg_tmod,aGK aA,Int.neg_neg]
  rw[h1];omega
theorem j9 (n:Int):fQ Tryz.prog 297 [I n] (I (n%1000003)):=by
 refine eG 7 aN4 cD bS Tryz.func297 λh=>?_
 simp -dsimp -implicitDefEqProofs only[go_sem,↓reduceIte,Tryz.f297]
 rcases bTF n with h|h
 all_goals
  rw[h,IntWalk.i64_in _ aA,aGK aA]
  omega
@[go_sem] def bPB:List Nat:=[0,2,3,7]
theorem dP (n:Int):fQ Tryz.prog 196 [I n] (I (n%1000003)):=by
 refine eG 11 bPB cD bS Tryz.func196 λh=>?_
 simp -dsimp -implicitDefEqProofs only[go_sem,↓reduceIte,Tryz.f196]
 rcases bTF n with h|h
 all_goals
  rw[h]
  refine⟨λq=>?_,λq=>?_⟩
  all_goals first|omega|(rw[IntWalk.i64_in _ aA];omega)
theorem a4Z (a b:Int):fQ Tryz.prog 292 [I a,I b] (I ((a+b)%1000003)):=by
 refine eG 11 aHN cD bS Tryz.func292 λh=>?_
 simp -dsimp -implicitDefEqProofs only[go_sem,↓reduceIte,Tryz.f292]
 first|refine aH.mk (j9 a) ?_|refine aG.mk (j9 a) ?_|refine aH.cN (j9 a) ?_|refine aG.mk (cG.fO (j9 a)) ?_
 simp -dsimp -implicitDefEqProofs only[go_sem,↓reduceIte,Tryz.f292]
 first|refine aH.mk (j9 b) ?_|refine aG.mk (j9 b) ?_|refine aH.cN (j9 b) ?_|refine aG.mk (cG.fO (j9 b)) ?_
 simp -dsimp -implicitDefEqProofs only[go_sem,↓reduceIte,Tryz.f292]
 rw[IntWalk.i64_in _ aA,aGK aA]
 omega
theorem j6 (a b:Int):fQ Tryz.prog 289 [I a,I b] (I ((a+b)%1000003)):=by
 refine eG 11 aHN cD bS Tryz.func289 λh=>?_
 simp -dsimp -implicitDefEqProofs only[go_sem,↓reduceIte,Tryz.f289]
 first|refine aH.mk (dP a) ?_|refine aG.mk (dP a) ?_|refine aH.cN (dP a) ?_|refine aG.mk (cG.fO (dP a)) ?_
 simp -dsimp -implicitDefEqProofs only[go_sem,↓reduceIte,Tryz.f289]
 first|refine aH.mk (dP b) ?_|refine aG.mk (dP b) ?_|refine aH.cN (dP b) ?_|refine aG.mk (cG.fO (dP b)) ?_
 simp -dsimp -implicitDefEqProofs only[go_sem,↓reduceIte,Tryz.f289]
 rw[IntWalk.i64_in _ aA,aGK aA]
 omega
def aHW (a b:List Int):List Int:=List.zipWith (λx y=>(x+y)%1000003) a b
theorem bKI {a b:List Int} (h:b.length=a.length):(aHW a b).length=a.length:=by simp[aHW,h]
def iA (n:Nat) (s:List Int):Prop:=s.length=n/\rH s
def aDD (a:List Int) (n:Int):List Int:=a.map λx=>x*n%1000003
def bWR (a b:List Int):List Int:=aHW a (aDD b 1000002)
def cvS (a b:List Int) (k:Nat):Nat->Int
 |0=>0
 |i+1=>(cvS a b k i+a.getD i 0*b.getD (k-i) 0)%1000003
def mulL (a b:List Int):List Int:=(List.range a.length).map λk=>cvS a b k (k+1)
def pwN (b:Int) (n:Nat):Int:=b ^ n%1000003
def xN (x:Int):Int:=pwN (x%1000003) 1000001
def dvS (o b:List Int) (k:Nat) (r:Int):Nat->Int
 |0=>r
 |i+1=>(dvS o b k r i-o.getD i 0*b.getD (k-i) 0)%1000003
def rY (a b:List Int):Nat->List Int
 |0=>[]
 |k+1=>rY a b k++[dvS (rY a b k) b k (a.getD k 0) k*xN (b.getD 0 0)%1000003]
def aD3 (a b:List Int):List Int:=rY a b a.length
def aAC (n:Int) (sz:Nat):List Int:=(List.replicate sz 0).set 0 n
def dE:aB:=.mk 0 0 0 0 []
def aB.tL (e:aB) (i:Nat):aB:=e.aP.getD i dE
def aL.outs (p:aL) (f:Int):List aB:=((p.aJ[f.toNat]?).map (·.bG)).getD []
def aL.out (p:aL) (f i:Int):aB:=(p.outs f).getD i.toNat dE
abbrev Out (α:Type):=Except Int (α×Nat)
def Out.andThen {α β:Type} (x:Out α) (f:α->Nat->Out β):Out β:=match x with
 | .ok (a,t)=>f a t
 | .error c=>.error c
def xO (ev:Nat->aB->Out (List Int)):List aB->Nat->Out (List (List Int))
 | [],t=>.ok ([],t)
 |e::l,t=>(ev t e).andThen λv t=>(xO ev l t).andThen λvs t=>.ok (v::vs,t)
def aHX (f:List (List Int)->Nat->Out (List (List Int))):Nat->List (List Int)->Nat->Out (List (List Int))
 |0,vs,t=>.ok (vs,t)
 |n+1,vs,t=>(f vs t).andThen λvs t=>aHX f n vs t
def opE (k:Int) (vs:List (List Int)) (t:Nat):Out (List Int) :=
 if k=3 then .ok (aHW (vs.getD 0 []) (vs.getD 1 []),t)
 else if k=4 then .ok (bWR (vs.getD 0 []) (vs.getD 1 []),t)
 else if k=5 then .ok (mulL (vs.getD 0 []) (vs.getD 1 []),t)
 else if k=7 then .ok (aDD (vs.getD 0 []) 1000002,t)
 else if (vs.getD 1 []).getD 0 0=0 then .error 6
 else .ok (aD3 (vs.getD 0 []) (vs.getD 1 []),t)
def pZ (p:aL) (sz:Nat):Nat->Nat->aB->List (List Int)->Out (List Int)
 |0,_,_,_=>.error 7
 |n+1,t,e,env =>
  if t=3000 then .error 7
  else if e.bH=1 then .ok (aAC e.bZ sz,t+1)
  else if e.bH=2 then .ok (env.getD e.bZ.toNat [],t+1)
  else if e.bH=8 then(pZ p sz n (t+1) (e.tL 0) env).andThen λc t=>if c.getD 0 0=0 then pZ p sz n t (e.tL 1) env else pZ p sz n t (e.tL 2) env
  else if e.bH=9 then(pZ p sz n (t+1) (e.tL 0) env).andThen λv t=>pZ p sz n t (e.tL 1) (env++[v])
  else(xO (λt e=>pZ p sz n t e env) e.aP (t+1)).andThen λvs t =>
   if e.bH=10 then pZ p sz n t (p.out e.bZ e.dR) vs
   else if e.bH=11 then(aHX (λvs t=>xO (λt e=>pZ p sz n t e vs) (p.outs e.bZ) t) e.dB.toNat vs t).andThen λvs t=>.ok (vs.getD e.dR.toNat [],t)
   else opE e.bH vs t
def oO {α:Type} (X:Out α) (v:α) (t:Nat) (c:Int):Prop:=match X with
 | .ok (w,u)=>c=0/\v=w/\t=u
 | .error d=>c=d/\d≠0
def yT {α:Type} (c:Int) (X:Out α):Out α:=if c=0 then X else .error c
theorem gS {α:Type} (X:Out α):yT 0 X=X:=if_pos rfl
theorem aCA {α:Type} {c:Int} (X:Out α) (h:¬c=0):yT c X=.error c:=if_neg h
theorem tH {α:Type} {c:Int} (v:α) (t:Nat) (h:¬c=0):oO (.error c:Out α) v t c:=⟨rfl,h⟩
theorem aAR {α:Type} (v:α) (t:Nat):oO (.ok (v,t):Out α) v t 0:=⟨rfl,rfl,rfl⟩
theorem k7 {α:Type} (v:α) (t:Nat) (c:Int):oO (yT c (.ok (v,t))) v t c:=by
 by_cases e:c=0
 ·subst e;rw[gS];exact aAR v t
 ·rw[aCA _ e];exact tH v t e
theorem oO.then {α β:Type} {X:Out α} {F:α->Nat->Out β} {v:α} {t:Nat} {c:Int} {v2:β} {t2:Nat} {c2:Int} (h:oO X v t c) (h2:oO (yT c (F v t)) v2 t2 c2):oO (X.andThen F) v2 t2 c2:=by
 cases X with
 |ok p =>
  obtain⟨w,u⟩:=p
  obtain⟨rfl,rfl,rfl⟩:=h
  rw[gS]at h2
  exact h2
 |error d =>
  obtain⟨rfl,h⟩:=h
  rw[aCA _ h]at h2
  exact h2
theorem oO.err {α:Type} {X:Out α} {v:α} {t:Nat} {c:Int} (h:oO X v t c) (hc:¬c=0):X=.error c:=by
 cases X with
 |ok p=>exact absurd h.1 hc
 |error d=>rw[h.1]
theorem oO.iI {α β:Type} {c0:Int} {X:Out α} {F:α->Nat->Out β} {v:α} {t:Nat} {c:Int} {v2:β} {t2:Nat} {c2:Int} (h:oO (yT c0 X) v t c) (h2:oO (yT c (F v t)) v2 t2 c2):oO (yT c0 (X.andThen F)) v2 t2 c2:=by
 by_cases e:c0=0
 ·subst e
  rw[gS]at h ⊢
  exact h.then h2
 ·rw[aCA _ e]at h ⊢
  obtain⟨rfl,h⟩:=h
  rw[aCA _ h]at h2
  exact h2
theorem oO.b3R {α:Type} {c0:Int} {X:Out α} {v:α} {t:Nat} {c:Int} (h:oO (yT c0 X) v t c) (hc:c=0):c0=0:=by
 by_cases e:c0=0
 ·exact e
 ·rw[aCA _ e]at h
  exact h.1.symm.trans hc
theorem Out.oQ {α β γ:Type} (x:Out α) (f:α->Nat->Out β) (g:β->Nat->Out γ):(x.andThen f).andThen g=x.andThen λa t=>(f a t).andThen g:=by
 cases x <;> rfl
theorem Out.andThen_ok {α β:Type} (a:α) (t:Nat) (f:α->Nat->Out β):Out.andThen (.ok (a,t)) f=f a t:=rfl
theorem aIL (ev:Nat->aB->Out (List Int)) (e:aB):∀ (l:List aB) (t:Nat),xO ev (l++[e]) t=(xO ev l t).andThen λvs t=>(ev t e).andThen λv t=>.ok (vs++[v],t)
 | [],t=>rfl
 |x::l,t=>by
  simp only[tE,xO,aIL ev e l,Out.oQ,Out.andThen_ok]
theorem aUS (f:List (List Int)->Nat->Out (List (List Int))):∀ (n:Nat) (vs:List (List Int)) (t:Nat),aHX f (n+1) vs t=(aHX f n vs t).andThen f
 |0,vs,t=>by
  show(f vs t).andThen (λvs t=>.ok (vs,t))=f vs t
  cases f vs t with
  |ok p=>rfl
  |error c=>rfl
 |n+1,vs,t=>by
  show(f vs t).andThen (λvs t=>aHX f (n+1) vs t)=((f vs t).andThen λvs t=>aHX f n vs t).andThen f
  rw[Out.oQ]
  congr 1
  funext a t
  exact aUS f n a t
theorem xA (n:Int):oI (n%1000003):=by unfold oI;omega
theorem iA.len {n:Nat} {s:List Int} (h:iA n s):s.length=n:=h.1
theorem aX4 {n:Nat} {a b:List Int} (ha:iA n a) (hb:iA n b):iA n (aHW a b):=by
 refine⟨by simp[aHW,ha.1,hb.1],λx hx=>?_⟩
 obtain⟨i,hi,rfl⟩:=aR3.1 hx
 simp only[aHW,List.getElem_zipWith]
 exact xA _
theorem aA0 {n:Nat} {a:List Int} (k:Int) (ha:iA n a):iA n (aDD a k):=by
 refine⟨by simp[aDD,ha.1],λx hx=>?_⟩
 obtain⟨y,_,rfl⟩:=yC.1 hx
 exact xA _
theorem bF6 {n:Nat} {a b:List Int} (ha:iA n a) (hb:iA n b):iA n (bWR a b):=aX4 ha (aA0 _ hb)
theorem bWS (a b:List Int) (k:Nat):∀ i,oI (cvS a b k i)
 |0=>by unfold cvS oI;omega
 |i+1=>xA _
theorem bF7 {n:Nat} {a:List Int} (b:List Int) (ha:iA n a):iA n (mulL a b):=by
 refine⟨by simp[mulL,ha.1],λx hx=>?_⟩
 obtain⟨k,_,rfl⟩:=yC.1 hx
 exact bWS _ _ _ _
theorem tM (a b:List Int):∀ k,(rY a b k).length=k
 |0=>rfl
 |k+1=>by rw[rY,tN,tM a b k];rfl
theorem aD4 (a b:List Int):∀ k,rH (rY a b k)
 |0=>λx hx=>by cases hx
 |k+1=>λx hx=>by
  rw[rY,rF,vP]at hx
  rcases hx with hx|rfl
  ·exact aD4 a b k x hx
  ·exact xA _
theorem bF8 {n:Nat} {a:List Int} (b:List Int) (ha:iA n a):iA n (aD3 a b):=⟨by rw[aD3,tM,ha.1],aD4 _ _ _⟩
theorem zJ {n:Int} {sz:Nat} (h:oI n):iA sz (aAC n sz):=by
 refine⟨by simp[aAC],λx hx=>?_⟩
 rw[aAC]at hx
 rcases bE3 hx with hx|rfl
 ·have:=(a2H.1 hx).2
  subst this;unfold oI;omega
 ·exact h
theorem rH.get {l:List Int} (h:rH l) (i:Nat):oI (l.getD i 0):=by
 rw[jH]
 rcases cX i l.length with hi|hi
 ·rw[cJ hi];exact h _ (dX hi)
 ·rw[List.getElem?_eq_none hi];unfold oI;simp
def hR (s s':List Int):Prop:=(s=[]/\s'=[])∨∃ x a b,s=x::a/\s'=x::b
theorem bWT:hR [] []:=.inl ⟨rfl,rfl⟩
def eR:List (List Int)->List (List Int)->Prop
 | [],[]=>True
 |s::l,s'::l'=>hR s s'/\eR l l'
 | _,_=>False
theorem eR.get:∀ {l l':List (List Int)},eR l l'->∀ i,hR (l.getD i []) (l'.getD i [])
 | [],[],_,i=>by simp[bWT]
 |s::l,s'::l',h,0=>h.1
 |s::l,s'::l',h,i+1=>by simpa using eR.get h.2 i
 | [],_::_,h,_=>h.elim
 | _::_,[],h,_=>h.elim
theorem eR.len:∀ {l l':List (List Int)},eR l l'->l.length=l'.length
 | [],[],_=>rfl
 |s::l,s'::l',h=>by simp[eR.len h.2]
 | [],_::_,h=>h.elim
 | _::_,[],h=>h.elim
def evF (p:aL) (sz:Nat) (f:Int) (args:List (List Int)):Out (List (List Int)):=xO (λt e=>pZ p sz 3001 t e args) (p.outs f) 0
theorem bKJ (b:Int):∀ n:Nat,(b%1000003) ^ n%1000003=b ^ n%1000003
 |0=>by rw[aWS,aWS]
 |n+1=>by
  rw[a2I,a2I,aWT,bKJ b n,Int.emod_emod_of_dvd _ (Int.dvd_refl _),←aWT]
theorem bDM (x b:Int) (n:Nat):x*b ^ n%1000003=(if n%2=1 then x*b%1000003 else x)*(b*b%1000003) ^ (n / 2)%1000003:=by
 have h2:b ^ n=(b*b) ^ (n / 2)*b ^ (n%2):=by
  rw[show b*b=b ^ 2 by rw[a2I,a2I,aWS,Int.one_mul],←Int.pow_mul,←Int.pow_add]
  congr 1;omega
 have h3:∀ y:Int,y*(b*b%1000003) ^ (n / 2)%1000003=y*(b*b) ^ (n / 2)%1000003:=λy=>by
  rw[aWT,bKJ,←aWT]
 rw[h3,h2]
 split
 ·rename_i h
  rw[h,a2I,aWS,Int.one_mul,aWT (x*b%1000003),Int.emod_emod_of_dvd _ (Int.dvd_refl _),←aWT]
  congr 1
  rw[Int.mul_comm ((b*b) ^ (n / 2)) b,Int.mul_assoc]
 ·rename_i h
  have:n%2=0:=by omega
  rw[this,aWS,Int.mul_one]
theorem bDN (x b:Int) (hx:0<=x/\x<1000003):x*b ^ 0%1000003=x:=by
 rw[aWS,Int.mul_one];omega
theorem bKK {x b m T:Int} (hm:0<=m) (h:m%2=1) (hp:x*b ^ m.toNat%1000003=T):(x*b%1000003)*(b*b%1000003) ^ (m / 2).toNat%1000003=T:=by
 rw[←hp,bDM x b m.toNat,if_pos aA,show(m / 2).toNat=m.toNat / 2 by omega]
theorem bDO {x b m T:Int} (hm:0<=m) (h:¬m%2=1) (hp:x*b ^ m.toNat%1000003=T):x*(b*b%1000003) ^ (m / 2).toNat%1000003=T:=by
 rw[←hp,bDM x b m.toNat,if_neg aA,show(m / 2).toNat=m.toNat / 2 by omega]
theorem a41 (y:Int):0<=y%1000003/\y%1000003<1000003:=by omega
theorem gA {l:List Int} {i:Nat} (h:i<l.length):l[i]?=some (l.getD i 0):=by
 rw[jH,cJ h];rfl
theorem num_inv (x:Int):oI (xN x):=xA _
theorem aHY (o b:List Int) (k:Nat) {r:Int} (hr:oI r):∀ i,oI (dvS o b k r i)
 |0=>hr
 |i+1=>xA _
theorem aOF (a b:List Int) {k:Nat}:∀ n,k<=n->(rY a b n).take k=rY a b k
 |0,h=>by
  have:k=0:=by omega
  subst this;rfl
 |n+1,h=>by
  rcases cX k (n+1)with h1|h1
  ·rw[rY,List.take_append_of_le_length (by rw[tM];omega),aOF a b n aA]
  ·have:k=n+1:=by omega
   subst this
   rw[gX (by rw[tM];omega)]
theorem aHZ (a b:List Int):(aD3 a b).length=a.length:=tM _ _ _
theorem bPC (a b:List Int) {k:Nat} (hk:k<=a.length):upL (aD3 a b) k=rY a b k++List.replicate (a.length-k) 0:=by
 rw[upL,aHZ,aD3,aOF a b _ hk]
theorem a42 {a b:List Int} {k i:Nat} (hk:k<=a.length) (hi:i<k):(upL (aD3 a b) k)[i]?=some ((rY a b k).getD i 0):=by
 rw[bPC a b hk,aJG (by rw[tM];exact hi)]
 exact gA (by rw[tM];exact hi)
theorem bKL {a b:List Int} {k:Nat} (hk:k<a.length):(aD3 a b)[k]'(by rw[aHZ];exact hk)=dvS (rY a b k) b k (a.getD k 0) k*xN (b.getD 0 0)%1000003:=by
 have h:=a42 (a:=a) (b:=b) (k:=k+1) (i:=k) aA aA
 have h2:(rY a b (k+1)).getD k 0=dvS (rY a b k) b k (a.getD k 0) k*xN (b.getD 0 0)%1000003:=by
  rw[rY,jH,aGJ (by rw[tM];omega),tM,aIY];rfl
 rw[h2,upL,aJG (by rw[pN,aHZ];omega),aYS aA,cJ (by rw[aHZ];exact hk)]at h
 exact eN h
theorem num_mul {x y:Int} (hx:oI x) (hy:oI y):0<=x*y/\x*y<=1000004000004:=by
 refine⟨Int.mul_nonneg hx.1 hy.1,?_⟩
 have:=Int.mul_le_mul hx.2 hy.2 hy.1 aA
 omega
theorem a22 (a:List Int) (n:Int):(aDD a n).length=a.length:=by simp[aDD]
theorem bKM (a b:List Int):(mulL a b).length=a.length:=by simp[mulL]
theorem bPD {n:Int} (h0:0<=n) (h1:n<=9223372036854775807):(IntKind.i64.wrap n).tmod 1000003=n%1000003:=by
 rw[IntWalk.i64_in _ aA,aGK h0]
theorem bTG {p:aL} {sz n st:Nat} {e:aB} {env:List (List Int)} (h3:¬st=3000) (hk:e.bH=1):pZ p sz (n+1) st e env=.ok (aAC e.bZ sz,st+1):=by rw[pZ,if_neg h3,if_pos hk]
theorem bTH {p:aL} {sz n st:Nat} {e:aB} {env:List (List Int)} (h3:¬st=3000) (hk:e.bH=2):pZ p sz (n+1) st e env=.ok (env.getD e.bZ.toNat [],st+1):=by rw[pZ,if_neg h3,if_neg aA,if_pos hk]
theorem bKN {p:aL} {sz n st:Nat} {e:aB} {env:List (List Int)} (h3:¬st=3000) (hk:e.bH=8):pZ p sz (n+1) st e env=(pZ p sz n (st+1) (e.tL 0) env).andThen λc t=>if c.getD 0 0=0 then pZ p sz n t (e.tL 1) env else pZ p sz n t (e.tL 2) env:=by rw[pZ,if_neg h3,if_neg aA,if_neg aA,if_pos hk]
theorem bTI {p:aL} {sz n st:Nat} {e:aB} {env:List (List Int)} (h3:¬st=3000) (hk:e.bH=9):pZ p sz (n+1) st e env=(pZ p sz n (st+1) (e.tL 0) env).andThen λv t=>pZ p sz n t (e.tL 1) (env++[v]):=by rw[pZ,if_neg h3,if_neg aA,if_neg aA,if_neg aA,if_pos hk]
theorem bKO {p:aL} {sz n st:Nat} {e:aB} {env:List (List Int)} (h3:¬st=3000) (hk:e.bH=10):pZ p sz (n+1) st e env=(xO (λt e=>pZ p sz n t e env) e.aP (st+1)).andThen λvs t=>pZ p sz n t (p.out e.bZ e.dR) vs:=by
 rw[pZ,if_neg h3,if_neg aA,if_neg aA,if_neg aA,if_neg aA];simp only[if_pos hk]
theorem bKP {p:aL} {sz n st:Nat} {e:aB} {env:List (List Int)} (h3:¬st=3000) (hk:e.bH=11):pZ p sz (n+1) st e env=(xO (λt e=>pZ p sz n t e env) e.aP (st+1)).andThen λvs t=>(aHX (λvs t=>xO (λt e=>pZ p sz n t e vs) (p.outs e.bZ) t) e.dB.toNat vs t).andThen λvs t=>.ok (vs.getD e.dR.toNat [],t):=by
 have h:¬e.bH=10:=by omega
 rw[pZ,if_neg h3,if_neg aA,if_neg aA,if_neg aA,if_neg aA];simp only[if_neg h,if_pos hk]
theorem a9W {p:aL} {sz n st:Nat} {e:aB} {env:List (List Int)} (h3:¬st=3000) (hk:e.bH=3∨e.bH=4∨e.bH=5∨e.bH=6∨e.bH=7):pZ p sz (n+1) st e env=(xO (λt e=>pZ p sz n t e env) e.aP (st+1)).andThen λvs t=>opE e.bH vs t:=by
 have h:¬e.bH=10:=by omega
 have h2:¬e.bH=11:=by omega
 rw[pZ,if_neg h3,if_neg aA,if_neg aA,if_neg aA,if_neg aA];simp only[if_neg h,if_neg h2]
theorem aB.kW {e:aB} {i:Nat} (h:i<e.aP.length):e.aP[i]?=some (e.tL i):=by
 rw[aB.tL,jH,cJ h];rfl
theorem aB.aBV {e:aB} {i:Nat} (h:i<e.aP.length):e.tL i=e.aP[i]:=by
 have:=aB.kW h
 rw[cJ h]at this
 exact(eN this).symm
theorem aB.jY {p:aL} {funcs vars:Int} {e:aB} {i:Nat} (hok:e.ok p funcs vars) (h:i<e.aP.length):(e.tL i).ok p funcs (p8 e.bH i vars):=by
 rw[aB.aBV h];exact((aB.fK _ _ _ _).1 hok).2 i h
theorem aB.ld5 (x:aB):(if 5<=x.c.length then some (aC.agg (List.take 5 x.c))else none)=some (.agg x.c):=by
 rw[if_pos (by rw[aB.aMA];exact eV _),gX (by rw[aB.aMA];exact eV _)]
theorem mV {k:Int} {i:Nat} {v:Int} (h:¬(k=9/\i=1)):p8 k i v=v:=if_neg h
theorem aX5 {sz:Nat} {env:List (List Int)} (h:∀ s∈env,iA sz s) {i:Nat} (hi:i<env.length):iA sz (env.getD i []):=by
 rw[jH,cJ hi];exact h _ (dX hi)
theorem aRB {env:List (List Int)} {i:Nat} (hi:i<env.length):env[i]?=some (env.getD i []):=by
 rw[jH,cJ hi];rfl
theorem gT {p:aL} {funcs vars:Int} {e:aB} (hok:e.ok p funcs vars) (hk:¬(e.bH=10∨e.bH=11)):jO e.bH=e.aP.length:=((iG hk).1 ((aB.fK _ _ _ _).1 hok).1).1
theorem iR {p:aL} {funcs vars:Int} {e:aB} (hok:e.ok p funcs vars) (hk:¬e.bH=9):∀ x∈e.aP,x.ok p funcs vars:=λx hx=>by
 obtain⟨i,hi,rfl⟩:=aR3.1 hx
 have:=((aB.fK _ _ _ _).1 hok).2 i hi
 rwa [mV (λq=>hk q.1)]at this
structure b3T (p:aL) (e:aB) (f:aX):Prop where
 get:p.aJ[e.bZ.toNat]?=some f
 lo:0<=e.bZ
 hi:e.bZ<p.aJ.length
 pk:0<=e.dR
 pk2:e.dR.toNat<f.bG.length
 kids:(e.aP.length:Int)=f.bN
 params:0<=f.bN/\f.bN<=12
 outs:1<=f.bG.length/\f.bG.length<=12
 oks:∀ x∈f.bG,x.ok p e.bZ f.bN
 eq:p.outs e.bZ=f.bG
 out:f.bG[e.dR.toNat]?=some (p.out e.bZ e.dR)
 loop:e.bH=11->0<=e.dB/\e.dB<=8/\(f.bG.length:Int)=f.bN
theorem aAS {p:aL} (hp:p.ok) {e:aB} {funcs vars:Int} (hok:e.ok p funcs vars) (hf:funcs<=p.aJ.length) (hk:e.bH=10∨e.bH=11):∃ f,b3T p e f:=by
 have h1:=((aB.fK _ _ _ _).1 hok).1
 have h2:=h1
 unfold uF at h1
 rw[if_pos hk]at h1
 have hlt:e.bZ.toNat<p.aJ.length:=by omega
 have ef:p.aJ[e.bZ.toNat]?=some p.aJ[e.bZ.toNat]:=cJ hlt
 rw[zG hk ef]at h2
 obtain⟨n1,n2,n3,n4,n5,n6,n7⟩:=h2
 have hF:=hp.2 _ _ ef
 have heq:p.outs e.bZ=p.aJ[e.bZ.toNat].bG:=by rw[aL.outs,ef];rfl
 refine⟨_,⟨ef,n1,by omega,n3,by omega,n5,hF.2.1,by have:=hF.2.2.1;omega,λx hx=>?_,heq,?_,n7⟩⟩
 ·have:=(hF.2.2.2.2.2 x hx).2.2.2.2
  rwa [show((e.bZ.toNat:Nat):Int)=e.bZ by omega]at this
 ·rw[aL.out,heq,jH,cJ aA];rfl
def aOG {α:Type} (X:Out α):Prop:=∀ c,X=.error c->c=6∨c=7
theorem aOG.ok {α:Type} {v:α} {t:Nat}:aOG (.ok (v,t):Out α):=λc h=>by cases h
theorem aOG.then {α β:Type} {X:Out α} {F:α->Nat->Out β} (h:aOG X) (hf:∀ v t,aOG (F v t)):aOG (X.andThen F):=λc hc=>by
 cases X with
 |ok p=>exact hf p.1 p.2 c hc
 |error d=>exact h c (by cases hc;rfl)
theorem aMU {ev:Nat->aB->Out (List Int)} (h:∀ t e,aOG (ev t e)):∀ (l:List aB) (t:Nat),aOG (xO ev l t)
 | [],t=>.ok
 |e::l,t=>(h t e).then λv t=>(aMU h l t).then λvs t=>.ok
theorem aUT {f:List (List Int)->Nat->Out (List (List Int))} (h:∀ vs t,aOG (f vs t)):∀ (n:Nat) (vs:List (List Int)) (t:Nat),aOG (aHX f n vs t)
 |0,vs,t=>.ok
 |n+1,vs,t=>(h vs t).then λa t=>aUT h n a t
theorem bPF (k:Int) (vs:List (List Int)) (t:Nat):aOG (opE k vs t):=by
 unfold opE
 repeat' split
 all_goals first|exact .ok|(intro c h;cases h;exact .inl rfl)
theorem bDP (p:aL) (sz:Nat):∀ (n t:Nat) (e:aB) (env:List (List Int)),aOG (pZ p sz n t e env)
 |0,t,e,env=>λc h=>by rw[pZ]at h;cases h;exact .inr rfl
 |n+1,t,e,env=>by
  have ih:=bDP p sz n
  rw[pZ]
  split
  ·intro c h;cases h;exact .inr rfl
  split
  ·exact .ok
  split
  ·exact .ok
  split
  ·refine(ih _ _ _).then λv t=>?_
   split
   ·exact ih _ _ _
   ·exact ih _ _ _
  split
  ·exact(ih _ _ _).then λv t=>ih _ _ _
  refine(aMU (λt e=>ih t e env) _ _).then λvs t=>?_
  split
  ·exact ih _ _ _
  split
  ·exact(aUT (λvs t=>aMU (λt e=>ih t e vs) _ t) _ _ _).then λvs t=>.ok
  ·exact bPF _ _ _
theorem bDQ (p:aL) (sz:Nat) (f:Int) (args:List (List Int)):aOG (evF p sz f args):=aMU (λt e=>bDP p sz 3001 t e args) _ _
def okP {α:Type} (P:α->Prop) (X:Out α):Prop:=∀ v u,X=.ok (v,u)->P v
theorem okP.then {α β:Type} {P:α->Prop} {Q:β->Prop} {X:Out α} {F:α->Nat->Out β} (h:okP P X) (hf:∀ v t,P v->okP Q (F v t)):okP Q (X.andThen F):=λw u hw=>by
 cases X with
 |ok p=>obtain⟨v,t⟩:=p;exact hf v t (h v t rfl) w u hw
 |error c=>cases hw
theorem okP.err {α:Type} {P:α->Prop} {c:Int}:okP P (.error c:Out α):=λw u e=>by cases e
def b3U (sz n:Nat) (l:List (List Int)):Prop:=l.length=n/\∀ s∈l,iA sz s
theorem b3U.get {sz n i:Nat} {l:List (List Int)} (h:b3U sz n l) (hi:i<n):iA sz (l.getD i []):=by
 rw[jH,cJ (by rw[h.1];exact hi)];exact h.2 _ (dX _)
theorem aD5 {p:aL} {e:aB} {vars funcs:Int} (h:uF p e vars funcs):e.bH=1∨e.bH=2∨e.bH=3∨e.bH=4∨e.bH=5∨e.bH=6∨e.bH=7∨e.bH=8∨e.bH=9∨e.bH=10∨e.bH=11:=by
 by_cases hk:e.bH=10∨e.bH=11
 ·omega
 ·have h1:=((iG hk).1 h).1
  unfold jO at h1
  repeat'(split at h1)
  all_goals omega
theorem aIM {p:aL} (hp:p.ok) {f:Int} (hf:0<=f/\f<p.aJ.length):∃ F,p.aJ[f.toNat]?=some F/\(1<=F.bG.length/\F.bG.length<=12)/\(0<=F.bN/\F.bN<=12)/\p.outs f=F.bG/\∀ x∈F.bG,x.ok p f F.bN:=by
 have hlt:f.toNat<p.aJ.length:=by omega
 have ef:p.aJ[f.toNat]?=some p.aJ[f.toNat]:=cJ hlt
 have hF:=hp.2 _ _ ef
 refine⟨_,ef,by have:=hF.2.2.1;omega,hF.2.1,by rw[aL.outs,ef];rfl,λx hx=>?_⟩
 have:=(hF.2.2.2.2.2 x hx).2.2.2.2
 rwa [show((f.toNat:Nat):Int)=f by omega]at this
theorem minus (a b:Int):fQ Tryz.prog 293 [I a,I b] (I ((a-b)%1000003)):=by
 refine eG 10 aHN cD bS Tryz.func293 λh=>?_
 simp -dsimp -implicitDefEqProofs only[go_sem,↓reduceIte,Tryz.f293]
 first|refine aH.mk (j9 b) ?_|refine aG.mk (j9 b) ?_|refine aH.cN (j9 b) ?_|refine aG.mk (cG.fO (j9 b)) ?_
 simp -dsimp -implicitDefEqProofs only[go_sem,↓reduceIte,Tryz.f293]
 rw[IntWalk.i64_in _ aA]
 first|refine aH.mk (a4Z a (1000003-b%1000003)) ?_|refine aG.mk (a4Z a (1000003-b%1000003)) ?_|refine aH.cN (a4Z a (1000003-b%1000003)) ?_|refine aG.mk (cG.fO (a4Z a (1000003-b%1000003))) ?_
 simp -dsimp -implicitDefEqProofs only[go_sem,↓reduceIte,Tryz.f293]
 omega
@[go_sem] def bDR:List Nat:=[0,1,4,5,6,8,12,17]
theorem Power (a n:Int) (hn:0<=n) (hn2:n<=4294967296):fQ Tryz.prog 298 [I a,I n] (I (pwN (a%1000003) n.toNat)):=by
 refine eG 27 bDR cD bS Tryz.func298 λh=>?_
 simp -dsimp -implicitDefEqProofs only[go_sem,↓reduceIte,Tryz.f298]
 refine⟨λq=>absurd q aA,λ_=>?_⟩
 first|refine aH.mk (j9 a) ?_|refine aG.mk (j9 a) ?_|refine aH.cN (j9 a) ?_|refine aG.mk (cG.fO (j9 a)) ?_
 simp -dsimp -implicitDefEqProofs only[go_sem,↓reduceIte,Tryz.f298]
 generalize hT:pwN (a%1000003) n.toNat=T
 refine aHM bDR cD bS (λx:Int×Int×Int=>[(1,I x.2.2),(5,I x.1),(6,I x.2.1)]) (λx=>(0<=x.1/\x.1<1000003)/\(0<=x.2.1/\x.2.1<1000003)/\(0<=x.2.2/\x.2.2<=4294967296)/\x.1*x.2.1 ^ x.2.2.toNat%1000003=T) (λx=>x.2.2.toNat) (1,a%1000003,n) ⟨by simp[eE,dJ],⟨by simp,by simp⟩,a41 _,⟨hn,hn2⟩,by rw[Int.one_mul];exact hT⟩ ?_
 rintro⟨x,b,m⟩ ⟨hx,hb,hm,hp⟩
 simp only at hx hb hm hp ⊢
 simp -dsimp -implicitDefEqProofs only[go_sem,↓reduceIte,Tryz.f298]
 have h1:=num_mul (x:=x) (y:=b) wN wN
 have h2:=num_mul (x:=b) (y:=b) wN wN
 rw[aGK hm.1,a2E hm.1,IntWalk.i64_in (m / 2) aA,bPD h1.1 aA,bPD h2.1 aA]
 refine⟨λhg=>⟨λho=>⟨(x*b%1000003,b*b%1000003,m / 2),⟨rfl,rfl,rfl⟩,⟨a41 _,a41 _,(show 0<=m / 2/\m / 2<=4294967296 by omega),bKK hm.1 ho hp⟩,by simp only;omega⟩,λho=>⟨(x,b*b%1000003,m / 2),⟨rfl,rfl,rfl⟩,⟨hx,a41 _,(show 0<=m / 2/\m / 2<=4294967296 by omega),bDO hm.1 ho hp⟩,by simp only;omega⟩⟩,λhg=>?_⟩
 have:m.toNat=0:=by omega
 rw[this,bDN x b hx]at hp
 exact hp
theorem aRC (a:Int):fQ Tryz.prog 295 [I a] (I (xN a)):=by
 refine eG 5 aN4 cD bS Tryz.func295 λh=>?_
 simp -dsimp -implicitDefEqProofs only[go_sem,↓reduceIte,Tryz.f295]
 first|refine aH.mk (Power a 1000001 dQ dQ) ?_|refine aG.mk (Power a 1000001 dQ dQ) ?_|refine aH.cN (Power a 1000001 dQ dQ) ?_|refine aG.mk (cG.fO (Power a 1000001 dQ dQ)) ?_
 simp -dsimp -implicitDefEqProofs only[go_sem,↓reduceIte,Tryz.f295]
 rfl
theorem mW {h h':Heap} {n:Nat} (l:List Int) (h0:h n=none) (hl:(bL h n (.row 1 ((l.map λn=>[I n]).map (List.map .v)))).le h') {len:Nat} (e:len=l.length):Shift (.os n 1 0 len) h' (dA 1 (λn=>[I n]) l) h :=
 sK (l.map λn=>[I n]) h0 hl len (by rw[lM];exact e)
theorem a9X (n:Int) (sz:Nat):(aAC n sz).length=sz:=by simp[aAC]
theorem bPG {sz:Nat} {x:List aC} (h:0<sz):(List.replicate sz x)[Int.toNat 0]?=some x:=by
 show(List.replicate sz x)[0]?=some x
 rw[List.getElem?_replicate,if_pos h]
theorem bKQ (n:Int) (sz:Nat):((List.replicate sz [aC.int .i64 0]).map (List.map Cell.v)).set 0 [Cell.v (I n)]=((aAC n sz).map λn=>[I n]).map (List.map .v):=by
 rw[bOC,aAC,aBK I]
abbrev pQ (l:List (List Int)):aC:=dA 1 (λs=>[ints s]) l
theorem bWU (m:Nat) (es:List (List aC)) (x:aB):oZ m es x.c=x.c:=by rw[aB.aO];rfl
theorem bKR (m sz k:Nat) (x:aB):lZ m sz k x.c=true:=by rw[aB.aO];rfl
theorem aNW.a4Y {P:Program} {N:Nat} {c:Code} {Q:Exit->cH->Heap->Prop} {τ:cH} {h:Heap} {t:Tag (c,Q)} (n:Nat) {es:List (List aC)} (hh:h n=none) (hb:τ.all (λp=>lY n 1 es.length p.2)=true)
  (x:aNW P N c Q (τ.map λp=>(p.1,p.2.iE n es)) (bL h n .gone) ()):aNW P N c Q τ (bL h n (.row 1 (es.map (List.map .v)))) t:=by
 have y:=u7.aBA (c:=c) (Q:=Q) (τ:=τ) (N:=N) (P:=P) (h:=bL h n (.row 1 (es.map (List.map .v)))) n (sz:=1) (es:=es.map (List.map .v)) (bB _ _ _) (by simpa using hb)
 rw[aF,vE]at y
 exact y x
theorem aH.aP9 {P:Program} {f:FuncId} {h:Heap} {K:aC->Heap->Prop} {t:Tag K} {nb m k len:Nat} {x:aC} {es:List (List aC)} (hx:x.iE m es=x) (hx2:lY m 1 es.length x=true) (hne:¬nb=m) (hl:len=es.length) (hm:h m=none) (a:gV P f [.op nb k 0 0,x,.sl 1 es false] (bL h m .gone) K) :
  aH P f [.op nb k 0 0,x,.os m 1 0 len] (bL h m (.row 1 (es.map (List.map .v)))) K t:=by
 subst hl
 refine aH.a4Y m (bB _ _ _) (by simp[lZ,lY,hx2,hne]) ?_
 rw[aF,vE]
 have h1:oZ m es [.op nb k 0 0,x,.os m 1 0 es.length]=[.op nb k 0 0,x,.sl 1 es false]:=by
  simp only[oZ,aC.iE,hx,if_neg hne,if_true,aR0,eJ]
 rw[h1]
 exact a
theorem aH.bPH {P:Program} {f:FuncId} {h:Heap} {K:aC->Heap->Prop} {t:Tag K} {nb m k len:Nat} {e:aB} {es:List (List aC)} (hne:¬nb=m) (hl:len=es.length) (hm:h m=none) (a:gV P f [.op nb k 0 0,.agg e.c,.sl 1 es false] (bL h m .gone) K) :
  aH P f [.op nb k 0 0,.agg e.c,.os m 1 0 len] (bL h m (.row 1 (es.map (List.map .v)))) K t:=by
 subst hl
 refine aH.a4Y m (bB _ _ _) (by simp[lZ,lY,bKR,hne]) ?_
 rw[aF,vE]
 have h1:oZ m es [.op nb k 0 0,.agg e.c,.os m 1 0 es.length]=[.op nb k 0 0,.agg e.c,.sl 1 es false]:=by
  simp only[oZ,aC.iE,bWU,if_neg hne,if_true,aR0,eJ]
 rw[h1]
 exact a
theorem aFO {sz:Nat} {env:List (List Int)} {s:List Int} (he:∀ x∈env,iA sz x) (hs:iA sz s):∀ x∈env++[s],iA sz x:=λx hx=>by
 rcases rF.1 hx with hx|hx
 ·exact he x hx
 ·rw[vP.1 hx];exact hs
theorem aMV:oI 0:=by unfold oI;simp
end Go.Hl

/-
  Contracts of functions and laws of the layer over the walk.
-/
import Derived.Test.YtchbdakgjlnbgaaGreatDoorVvB
import Derived.Test.YtchbdakgjlnbgaaGreatDoorHlD
namespace Go.Hl
set_option maxRecDepth 100000
open Go.Proofs
set_option linter.unusedVariables false
set_option linter.unusedSimpArgs false
theorem uG (l:List Int) (hl:l.length<=1048576):qK Tryz.prog 152 [dA 1 (λn=>[I n]) l] (QS (OS (oP I) 1 l)):=by
 refine tA 8 bJA bSR bS Tryz.func152 λh=>?_
 simp -dsimp -implicitDefEqProofs only[go_sem,↓reduceIte,Tryz.f152]
 repeat'(with_reducible first|intro _|refine And.intro ?_ ?_)
 all_goals try(first|exact aZC fI|exact aZD fI|exact aQY fI|omega)
theorem aZZ (l:List Bool) (hl:l.length<=1048576):qK Tryz.prog 153 [dA 1 (λn=>[.bool n]) l] (QS (OS (oP .bool) 1 l)):=by
 refine tA 8 bJA bSR bS Tryz.func153 λh=>?_
 simp -dsimp -implicitDefEqProofs only[go_sem,↓reduceIte,Tryz.f153]
 repeat'(with_reducible first|intro _|refine And.intro ?_ ?_)
 all_goals try(first|exact aZC fI|exact aZD fI|exact aQY fI|omega)
theorem l6 (l:List Int) (hl:l.length<=1048576):qK Tryz.prog 114 [dA 1 (λn=>[I n]) l] (QS (OS (oP I) 1 l)):=by
 refine tA 6 aN4 bJB bS Tryz.func114 λh=>?_
 simp -dsimp -implicitDefEqProofs only[go_sem,↓reduceIte,Tryz.f114]
 repeat'(with_reducible first|intro _|refine And.intro ?_ ?_)
 all_goals try(first|exact aZC fI|exact aZD fI|exact aQY fI|omega)
@[go_sem] def bC4:List Nat:=[0,1,2,3,5,9,10,11,12]
@[go_sem] def bS3:List Nat:=[19]
@[go_sem] def bS4:Marks:=λid=>match id with|6=>([1,2,3,5,7],(.op 0 (.op 1 (.op 2 (.op 3 (.op 4 (.op 5 (.op 6 (.op 7 .nil)))))))),[(1,3)])|_=>([],.nil,[])
theorem aT3 (x:aB) (hs:x.s<=1048576) (hk:∀ y∈x.aP,qK Tryz.prog 204 [.agg y.c] (QA y.o)):qK Tryz.prog 204 [.agg x.c] (QA x.o):=by
 have hs':=x.gB
 rw[gI]at hs'
 simp only[aB.aO]
 refine tA 24 bC4 bS3 bS4 Tryz.func204 λh=>?_
 try simp -dsimp -implicitDefEqProofs only[go_sem,↓reduceIte,Tryz.f204,aF,aE]
 intro n1 qn1
 have aAP:=qn1
 intro n2 qn2
 obtain⟨aJU,nL,nM,bJ2⟩:=cB (show ¬n2=n1 from qn2.1)
 have b6:=qn2.2
 try simp -dsimp -implicitDefEqProofs only[go_sem,↓reduceIte,Tryz.f204,aF,aE,nL,nM]
 try(with_reducible intro _)
 refine cY bC4 bS3 bS4 (λs:Nat×List (List OV)×Heap×Option Nat=>[(1,.op n1 5 0 0),(2,.op n2 5 0 0),(9,dA 5 aB.c x.aP),(10,I x.aP.length),(11,(I s.1))]) (λs=>(bL (bL (dG s.2.2.1 (.row 5 (OV.cells s.2.1)) s.2.2.2) n1 (.row 5 [[.v (I x.bH),.v (I x.bZ),.v (I x.dR),.v (I x.dB),.v (j3 5 s.2.1.length s.2.2.2)]])) n2 (.row 5 [[.v (.int .i64 0),.v (.int .i64 0),.v (.int .i64 0),.v (.int .i64 0),.v (.aU)]]))) (λs=>s.1<=x.aP.length/\OR aB.o (x.aP.take s.1) s.2.1/\eO h (OV.bV s.2.1) s.2.2.1/\s.2.2.1 n1=none/\s.2.2.1 n2=none/\zE s.2.2.1 s.2.1 s.2.2.2/\∀ n:Nat,s.2.2.2=some n->n≠n1/\n≠n2) (λs=>x.aP.length-s.1) (0,[],h,none) ?_ ?_
 ·exact⟨by simp[eE,dJ],lU,iF _,trivial,eO.nil _,aAP,b6,rfl,by simp⟩
 rintro⟨k,es,g_,o_⟩ ⟨hkk,hor,hnew,aAP,b6,hos,hon⟩
 simp only at hkk hor hnew aAP b6 hos hon ⊢
 have hlen:es.length=k:=by have:=hor.length;simp at this;omega
 rcases cX k x.aP.length with hlt|hge
 ·have ea:x.aP[k]?=some x.aP[k]:=cJ hlt
  have hx:=hk x.aP[k] (dX hlt)
  simp only[aB.aO]at hx
  cases o_ with
  |none =>
   rw[jX]at hos
   subst hos
   try simp -dsimp -implicitDefEqProofs only[go_sem,↓reduceIte,Tryz.f204,aF,aE,nL,nM,ea,hlt,aN,bI,aB.aO]
   intro n5 qn5
   obtain⟨pY,eH,eI,aJV⟩:=cB (show ¬n5=n2 from qn5.1)
   obtain⟨a7Q,aJW,aJX,bVX⟩:=cB (show ¬n5=n1 from qn5.2.1)
   have kI:=qn5.2.2
   try simp -dsimp -implicitDefEqProofs only[go_sem,↓reduceIte,Tryz.f204,aF,aE,nL,nM,eH,eI,aJW,aJX,ea,hlt,aN,bI,aB.aO]
   refine aH.wn3 (hx) aAP ⟨aJU,b6⟩ ⟨pY,a7Q,kI⟩ ?_
   rintro r l_ gb ⟨e_b,oeb,rfl,rfl⟩ wb aAP b6 kI
   have oob:=oeb
   rw[aB.tJ]at oob
   obtain⟨aBN,rfl,kJ⟩:=oob
   try simp -dsimp -implicitDefEqProofs only[go_sem,↓reduceIte,Tryz.f204,aF,aE,nL,nM,eH,eI,aJW,aJX,ea,hlt,aN,bI,kJ.flat,kJ.one,OV.aM,OV.aD,OV.aR]
   repeat'(with_reducible first|refine And.intro eU ?_)
   intro m qm
   obtain⟨bJ3,aT4,aT5,bJ4⟩:=cB (show ¬m=n5 from qm.1)
   obtain⟨pF,pG,pH,aDY⟩:=cB (show ¬m=n2 from qm.2.1)
   obtain⟨aT6,aT7,aT8,bJ5⟩:=cB (show ¬m=n1 from qm.2.2.1)
   have z_m:=qm.2.2.2
   try simp -dsimp -implicitDefEqProofs only[go_sem,↓reduceIte,Tryz.f204,aF,aE,nL,nM,eH,eI,aJW,aJX,aT4,aT5,pG,pH,aT7,aT8,ea,hlt,aN,bI,kJ.flat,kJ.one,OV.aM,OV.aD,OV.aR]
   refine⟨(k+1,([]:List (List OV))++[[.v (.int .i64 x.aP[k].bH),.v (.int .i64 x.aP[k].bZ),.v (.int .i64 x.aP[k].dR),.v (.int .i64 x.aP[k].dB),aBN]],gb,some m),?_⟩
   simp only
   refine⟨?_,lU,⟨by omega,OR.snoc hor hlt oeb,hnew.snoc wb,aAP,b6,z_m,(λn_ e_=>by obtain rfl:=eN e_;exact⟨aT6,pF⟩)⟩,by omega⟩
   all_goals(repeat'(with_reducible refine And.intro ?_ ?_))
   all_goals first|rfl|trivial|(rw[IntWalk.i64_in _ aA];omega)
  |some n =>
   rw[k6]at hos
   have z_n:=hos
   have hn:=hon n rfl
   obtain⟨b2C,aP6,aP7,bJ6⟩:=cB (show ¬n=n1 from hn.1)
   obtain⟨aXX,oA,oB,aDZ⟩:=cB (show ¬n=n2 from hn.2)
   try simp -dsimp -implicitDefEqProofs only[go_sem,↓reduceIte,Tryz.f204,aF,aE,nL,nM,aP6,aP7,oA,oB,ea,hlt,aK,aZ,aB.aO]
   intro n5 qn5
   obtain⟨pY,eH,eI,aJV⟩:=cB (show ¬n5=n2 from qn5.1)
   obtain⟨a7Q,aJW,aJX,bVX⟩:=cB (show ¬n5=n1 from qn5.2.1)
   obtain⟨bJ7,aT9,aUA,b2D⟩:=cB (show ¬n5=n from qn5.2.2.1)
   have kI:=qn5.2.2.2
   try simp -dsimp -implicitDefEqProofs only[go_sem,↓reduceIte,Tryz.f204,aF,aE,nL,nM,aP6,aP7,oA,oB,eH,eI,aJW,aJX,aT9,aUA,ea,hlt,aK,aZ,aB.aO]
   refine aH.wn4 (hx) z_n ⟨bJ6,aAP⟩ ⟨aJU,aDZ,b6⟩ ⟨pY,a7Q,bJ7,kI⟩ ?_
   rintro r l_ gb ⟨e_b,oeb,rfl,rfl⟩ wb z_n aAP b6 kI
   have oob:=oeb
   rw[aB.tJ]at oob
   obtain⟨aBN,rfl,kJ⟩:=oob
   try simp -dsimp -implicitDefEqProofs only[go_sem,↓reduceIte,Tryz.f204,aF,aE,nL,nM,aP6,aP7,oA,oB,eH,eI,aJW,aJX,aT9,aUA,ea,hlt,aK,aZ,kJ.flat,kJ.one,OV.aM,OV.aD,OV.aR]
   repeat'(with_reducible first|refine And.intro eU ?_)
   intro m qm
   obtain⟨bJ3,aT4,aT5,bJ4⟩:=cB (show ¬m=n5 from qm.1)
   obtain⟨pF,pG,pH,aDY⟩:=cB (show ¬m=n2 from qm.2.1)
   obtain⟨aT6,aT7,aT8,bJ5⟩:=cB (show ¬m=n1 from qm.2.2.1)
   obtain⟨bF0,aN6,aN7,bF1⟩:=cB (show ¬m=n from qm.2.2.2.1)
   have z_m:=qm.2.2.2.2
   try simp -dsimp -implicitDefEqProofs only[go_sem,↓reduceIte,Tryz.f204,aF,aE,nL,nM,aP6,aP7,oA,oB,eH,eI,aJW,aJX,aT9,aUA,aT4,aT5,pG,pH,aT7,aT8,aN6,aN7,ea,hlt,aK,aZ,kJ.flat,kJ.one,OV.aM,OV.aD,OV.aR]
   refine⟨(k+1,es++[[.v (.int .i64 x.aP[k].bH),.v (.int .i64 x.aP[k].bZ),.v (.int .i64 x.aP[k].dR),.v (.int .i64 x.aP[k].dB),aBN]],gb,some m),?_⟩
   simp only
   refine⟨?_,lU,⟨by omega,OR.snoc hor hlt oeb,hnew.snoc wb,aAP,b6,z_m,(λn_ e_=>by obtain rfl:=eN e_;exact⟨aT6,pF⟩)⟩,by omega⟩
   all_goals(repeat'(with_reducible refine And.intro ?_ ?_))
   all_goals first|rfl|trivial|(rw[IntWalk.i64_in _ aA];omega)
 ·have hk2:k=x.aP.length:=by omega
  subst hk2
  rw[eJ]at hor
  have b2E:dG g_ (.row 5 (OV.cells es)) o_ n1=none:=e8 aAP λn_ e_=>(hon n_ e_).1
  have aXY:dG g_ (.row 5 (OV.cells es)) o_ n2=none:=e8 b6 λn_ e_=>(hon n_ e_).2
  try simp -dsimp -implicitDefEqProofs only[go_sem,↓reduceIte,Tryz.f204,aF,aE,nL,nM,fY,iT,cO]
  try(with_reducible intro _)
  refine⟨_,(dG g_ (.row 5 (OV.cells es)) o_),_,Shift.of (Sub.agg (b8.cons (Sub.refl _) (b8.cons (Sub.refl _) (b8.cons (Sub.refl _) (b8.cons (Sub.refl _) (b8.cons yX b8.nil)))))) lU,⟨[.v (I x.bH),.v (I x.bZ),.v (I x.dR),.v (I x.dB),(gov 5 es o_)],?_,rfl,rfl⟩,?_⟩
  ·rw[aB.tJ];exact⟨(gov 5 es o_),rfl,yK hor hos⟩
  ·have hq:=(sI (sz:=5) hnew hos)
   simpa only[OV.b7,OV.cV,OV.dV,pR,gU,oW]using hq
theorem aN8 (x:aB) (hs:x.s<=1048576):qK Tryz.prog 204 [.agg x.c] (QA x.o) :=
 aT3 x hs λy hy=>aN8 y bRV
termination_by SizeOf.sizeOf x
decreasing_by exact aB.wV hy
@[go_sem] def bC5:List Nat:=[0,2,3,4,28]
@[go_sem] def bS5:List Nat:=[40]
@[go_sem] def bS6:Marks:=λid=>match id with|1=>([17,18],(.op 0 (.op 1 (.op 2 (.op 3 (.op 4 (.op 5 (.op 6 (.op 7 (.op 8 (.op 9 (.op 10 (.op 11 (.op 12 (.op 13 (.op 14 (.op 15 (.op 16 (.op 17 (.op 18 .nil))))))))))))))))))),[])|5=>([1,8,10,12],(.op 0 (.op 2 (.op 3 (.op 4 (.op 5 (.op 6 (.op 7 (.op 1 (.op 8 (.op 9 (.op 10 (.op 11 (.op 12 .nil))))))))))))),[(1,8)])|_=>([],.nil,[])
theorem a4U (x:aB) (hs:x.s<=1048576) (hk:∀ y∈x.aP,qK Tryz.prog 195 [.ip 5 [y.c] 0 0] (QA y.o)):qK Tryz.prog 195 [.ip 5 [x.c] 0 0] (QA x.o):=by
 have hs':=x.gB
 rw[gI]at hs'
 simp only[aB.aO]
 refine tA 44 bC5 bS5 bS6 Tryz.func195 λh=>?_
 try simp -dsimp -implicitDefEqProofs only[go_sem,↓reduceIte,Tryz.f195,aF,aE]
 intro n1 qn1
 have aAP:=qn1
 intro n2 qn2
 obtain⟨aJU,nL,nM,bJ2⟩:=cB (show ¬n2=n1 from qn2.1)
 have b6:=qn2.2
 try simp -dsimp -implicitDefEqProofs only[go_sem,↓reduceIte,Tryz.f195,aF,aE,nL,nM]
 try(with_reducible intro _)
 refine cY bC5 bS5 bS6 (λs:Nat×List (List OV)×Heap×Option Nat=>[(0,.ip 5 [[I x.bH,I x.bZ,I x.dR,I x.dB,dA 5 aB.c x.aP]] 0 0),(2,.op n1 5 0 0),(3,.op n2 5 0 0),(4,(I s.1))]) (λs=>(bL (bL (dG s.2.2.1 (.row 5 (OV.cells s.2.1)) s.2.2.2) n1 (.row 5 [[.v (.int .i64 0),.v (.int .i64 0),.v (.int .i64 0),.v (.int .i64 0),.v (.aU)]])) n2 (.row 5 [[.v (I x.bH),.v (I x.bZ),.v (I x.dR),.v (I x.dB),.v (j3 5 s.2.1.length s.2.2.2)]]))) (λs=>s.1<=x.aP.length/\OR aB.o (x.aP.take s.1) s.2.1/\eO h (OV.bV s.2.1) s.2.2.1/\s.2.2.1 n1=none/\s.2.2.1 n2=none/\zE s.2.2.1 s.2.1 s.2.2.2/\∀ n:Nat,s.2.2.2=some n->n≠n1/\n≠n2) (λs=>x.aP.length-s.1) (0,[],h,none) ?_ ?_
 ·exact⟨by simp[eE,dJ],lU,iF _,trivial,eO.nil _,aAP,b6,rfl,by simp⟩
 rintro⟨k,es,g_,o_⟩ ⟨hkk,hor,hnew,aAP,b6,hos,hon⟩
 simp only at hkk hor hnew aAP b6 hos hon ⊢
 have hlen:es.length=k:=by have:=hor.length;simp at this;omega
 rcases cX k x.aP.length with hlt|hge
 ·have ea:x.aP[k]?=some x.aP[k]:=cJ hlt
  have hx:=hk x.aP[k] (dX hlt)
  cases o_ with
  |none =>
   rw[jX]at hos
   subst hos
   try simp -dsimp -implicitDefEqProofs only[go_sem,↓reduceIte,Tryz.f195,aF,aE,nL,nM,ea,hlt,aN,bI,aB.aO]
   try(with_reducible intro _)
   refine aH.p5 (qK.sub (by repeat'(first|exact b8.nil|refine b8.cons ?_ ?_|exact Sub.refl _|(rw[aB.aO];exact Sub.refl _)|exact Sub.eA rfl rfl rfl|exact Sub.ip (b9 aA) bF|exact Sub.eA (b9 aA) rfl rfl|exact Sub.ip dI bF|exact Sub.eA dI dC dC)) hx) aAP ⟨aJU,b6⟩ ?_
   rintro r l_ gb ⟨e_b,oeb,rfl,rfl⟩ wb aAP b6
   have oob:=oeb
   rw[aB.tJ]at oob
   obtain⟨aBN,rfl,kJ⟩:=oob
   try simp -dsimp -implicitDefEqProofs only[go_sem,↓reduceIte,Tryz.f195,aF,aE,nL,nM,ea,hlt,aN,bI,kJ.flat,kJ.one,OV.aM,OV.aD,OV.aR]
   repeat'(with_reducible first|refine And.intro eU ?_)
   intro m qm
   obtain⟨pF,pG,pH,aDY⟩:=cB (show ¬m=n2 from qm.1)
   obtain⟨aT6,aT7,aT8,bJ5⟩:=cB (show ¬m=n1 from qm.2.1)
   have z_m:=qm.2.2
   try simp -dsimp -implicitDefEqProofs only[go_sem,↓reduceIte,Tryz.f195,aF,aE,nL,nM,pG,pH,aT7,aT8,ea,hlt,aN,bI,kJ.flat,kJ.one,OV.aM,OV.aD,OV.aR]
   refine⟨(k+1,([]:List (List OV))++[[.v (.int .i64 x.aP[k].bH),.v (.int .i64 x.aP[k].bZ),.v (.int .i64 x.aP[k].dR),.v (.int .i64 x.aP[k].dB),aBN]],gb,some m),?_⟩
   simp only
   refine⟨?_,lU,⟨by omega,OR.snoc hor hlt oeb,hnew.snoc wb,aAP,b6,z_m,(λn_ e_=>by obtain rfl:=eN e_;exact⟨aT6,pF⟩)⟩,by omega⟩
   all_goals(repeat'(with_reducible refine And.intro ?_ ?_))
   all_goals first|rfl|trivial|(rw[IntWalk.i64_in _ aA];omega)
  |some n =>
   rw[k6]at hos
   have z_n:=hos
   have hn:=hon n rfl
   obtain⟨b2C,aP6,aP7,bJ6⟩:=cB (show ¬n=n1 from hn.1)
   obtain⟨aXX,oA,oB,aDZ⟩:=cB (show ¬n=n2 from hn.2)
   try simp -dsimp -implicitDefEqProofs only[go_sem,↓reduceIte,Tryz.f195,aF,aE,nL,nM,aP6,aP7,oA,oB,ea,hlt,aK,aZ,aB.aO]
   try(with_reducible intro _)
   refine aH.wn3 (qK.sub (by repeat'(first|exact b8.nil|refine b8.cons ?_ ?_|exact Sub.refl _|(rw[aB.aO];exact Sub.refl _)|exact Sub.eA rfl rfl rfl|exact Sub.ip (b9 aA) bF|exact Sub.eA (b9 aA) rfl rfl|exact Sub.ip dI bF|exact Sub.eA dI dC dC)) hx) z_n ⟨bJ6,aAP⟩ ⟨aJU,aDZ,b6⟩ ?_
   rintro r l_ gb ⟨e_b,oeb,rfl,rfl⟩ wb z_n aAP b6
   have oob:=oeb
   rw[aB.tJ]at oob
   obtain⟨aBN,rfl,kJ⟩:=oob
   try simp -dsimp -implicitDefEqProofs only[go_sem,↓reduceIte,Tryz.f195,aF,aE,nL,nM,aP6,aP7,oA,oB,ea,hlt,aK,aZ,kJ.flat,kJ.one,OV.aM,OV.aD,OV.aR]
   repeat'(with_reducible first|refine And.intro eU ?_)
   intro m qm
   obtain⟨pF,pG,pH,aDY⟩:=cB (show ¬m=n2 from qm.1)
   obtain⟨aT6,aT7,aT8,bJ5⟩:=cB (show ¬m=n1 from qm.2.1)
   obtain⟨bF0,aN6,aN7,bF1⟩:=cB (show ¬m=n from qm.2.2.1)
   have z_m:=qm.2.2.2
   try simp -dsimp -implicitDefEqProofs only[go_sem,↓reduceIte,Tryz.f195,aF,aE,nL,nM,aP6,aP7,oA,oB,pG,pH,aT7,aT8,aN6,aN7,ea,hlt,aK,aZ,kJ.flat,kJ.one,OV.aM,OV.aD,OV.aR]
   refine⟨(k+1,es++[[.v (.int .i64 x.aP[k].bH),.v (.int .i64 x.aP[k].bZ),.v (.int .i64 x.aP[k].dR),.v (.int .i64 x.aP[k].dB),aBN]],gb,some m),?_⟩
   simp only
   refine⟨?_,lU,⟨by omega,OR.snoc hor hlt oeb,hnew.snoc wb,aAP,b6,z_m,(λn_ e_=>by obtain rfl:=eN e_;exact⟨aT6,pF⟩)⟩,by omega⟩
   all_goals(repeat'(with_reducible refine And.intro ?_ ?_))
   all_goals first|rfl|trivial|(rw[IntWalk.i64_in _ aA];omega)
 ·have hk2:k=x.aP.length:=by omega
  subst hk2
  rw[eJ]at hor
  have b2E:dG g_ (.row 5 (OV.cells es)) o_ n1=none:=e8 aAP λn_ e_=>(hon n_ e_).1
  have aXY:dG g_ (.row 5 (OV.cells es)) o_ n2=none:=e8 b6 λn_ e_=>(hon n_ e_).2
  try simp -dsimp -implicitDefEqProofs only[go_sem,↓reduceIte,Tryz.f195,aF,aE,nL,nM,fY,iT,cO]
  try(with_reducible intro _)
  refine⟨_,(dG g_ (.row 5 (OV.cells es)) o_),_,Shift.of (Sub.agg (b8.cons (Sub.refl _) (b8.cons (Sub.refl _) (b8.cons (Sub.refl _) (b8.cons (Sub.refl _) (b8.cons yX b8.nil)))))) lU,⟨[.v (I x.bH),.v (I x.bZ),.v (I x.dR),.v (I x.dB),(gov 5 es o_)],?_,rfl,rfl⟩,?_⟩
  ·rw[aB.tJ];exact⟨(gov 5 es o_),rfl,yK hor hos⟩
  ·have hq:=(sI (sz:=5) hnew hos)
   simpa only[OV.b7,OV.cV,OV.dV,pR,gU,oW]using hq
theorem a7R (x:aB) (hs:x.s<=1048576):qK Tryz.prog 195 [.ip 5 [x.c] 0 0] (QA x.o) :=
 a4U x hs λy hy=>a7R y bRV
termination_by SizeOf.sizeOf x
decreasing_by exact aB.wV hy
set_option maxHeartbeats 1000000 in
theorem aXZ (x:cR) (hs:x.s<=1048576):qK Tryz.prog 154 [.agg x.c] (QA x.o):=by
 have hs':=x.gB
 try simp only[gI]at hs'
 simp only[cR.aO]
 refine tA 8 bSS cD bS Tryz.func154 λh=>?_
 try simp -dsimp -implicitDefEqProofs only[go_sem,↓reduceIte,Tryz.f154,aF,aE]
 intro n1 qn1
 have aAP:=qn1
 intro n2 qn2
 obtain⟨aJU,nL,nM,bJ2⟩:=cB (show ¬n2=n1 from qn2.1)
 have b6:=qn2.2
 try simp -dsimp -implicitDefEqProofs only[go_sem,↓reduceIte,Tryz.f154,aF,aE,nL,nM]
 refine aH.p5 (uG x.kQ aA) aAP ⟨aJU,b6⟩ ?_
 rintro r l_ gb ⟨bJ8,a7S,rfl,rfl⟩ wb aAP b6
 try simp -dsimp -implicitDefEqProofs only[go_sem,↓reduceIte,Tryz.f154,aF,aE,nL,nM,a7S.flat,a7S.one,OV.aM,OV.aD,OV.aR]
 try(with_reducible intro _)
 repeat'(with_reducible first|refine And.intro eU ?_)
 refine⟨_,gb,_,Shift.of (Sub.agg (b8.refl _)) lU,⟨[.v (I x.cU),.v (I x.iL),bJ8],?_,rfl,rfl⟩,?_⟩
 ·exact⟨bJ8,rfl,a7S⟩
 ·have hq:=wb
  simpa only[OV.b7,OV.cV,OV.dV,pR,gU,oW]using hq
@[go_sem] def b2F:Marks:=λid=>match id with|1=>([6,8],(.op 0 (.op 1 (.op 2 (.op 3 (.op 4 (.op 5 (.op 6 (.op 7 (.op 8 .nil))))))))),[])|_=>([],.nil,[])
set_option maxHeartbeats 1000000 in
theorem aJY (x:cR) (hs:x.s<=1048576):qK Tryz.prog 115 [.agg x.c] (QA x.o):=by
 have hs':=x.gB
 try simp only[gI]at hs'
 simp only[cR.aO]
 refine tA 11 bSS aDX b2F Tryz.func115 λh=>?_
 try simp -dsimp -implicitDefEqProofs only[go_sem,↓reduceIte,Tryz.f115,aF,aE]
 intro n2 qn2
 have b6:=qn2
 try simp -dsimp -implicitDefEqProofs only[go_sem,↓reduceIte,Tryz.f115,aF,aE]
 refine aH.wn1 (l6 x.kQ aA) b6 ?_
 rintro r l_ gb ⟨bJ8,a7S,rfl,rfl⟩ wb b6
 try simp -dsimp -implicitDefEqProofs only[go_sem,↓reduceIte,Tryz.f115,aF,aE,a7S.flat,a7S.one,OV.aM,OV.aD,OV.aR]
 try(with_reducible intro _)
 repeat'(with_reducible first|refine And.intro eU ?_)
 refine⟨_,gb,_,Shift.of (Sub.agg (b8.refl _)) lU,⟨[.v (I x.cU),.v (I x.iL),bJ8],?_,rfl,rfl⟩,?_⟩
 ·exact⟨bJ8,rfl,a7S⟩
 ·have hq:=wb
  simpa only[OV.b7,OV.cV,OV.dV,pR,gU,oW]using hq
@[go_sem] def aQ6:List Nat:=[0,1,2,3,5,6,8,11,12,13,14,23,24,25,26]
@[go_sem] def bC6:List Nat:=[1,33,40]
@[go_sem] def bC7:Marks:=λid=>match id with|9=>([1,2,3,5,7],(.op 0 (.op 1 (.op 2 (.op 3 (.op 4 (.op 5 (.op 6 (.op 7 .nil)))))))),[(1,3)])|_=>([],.nil,[])
set_option maxHeartbeats 1000000 in
theorem aMN (x:aL) (hs:x.s<=1048576):qK Tryz.prog 171 [.agg x.c] (QA x.o):=by
 have hs':=x.gB
 try simp only[gI]at hs'
 simp only[aL.aO]
 refine tA 45 aQ6 bC6 bC7 Tryz.func171 λh=>?_
 try simp -dsimp -implicitDefEqProofs only[go_sem,↓reduceIte,Tryz.f171,aF,aE]
 intro n2 qn2
 have b6:=qn2
 try simp -dsimp -implicitDefEqProofs only[go_sem,↓reduceIte,Tryz.f171,aF,aE]
 intro n3 uH
 obtain⟨dW,bD,bE,oN⟩:=cB (show ¬n3=n2 from uH.1)
 have cT:=uH.2
 try simp -dsimp -implicitDefEqProofs only[go_sem,↓reduceIte,Tryz.f171,aF,aE,bD,bE]
 try(with_reducible intro _)
 refine a7F aQ6 bC6 bC7 (λs:Nat×List (List OV)×Heap×Option Nat=>[(2,.op n2 1 0 0),(3,.op n3 1 0 0),(11,dA 3 aX.c x.aJ),(12,I x.aJ.length),(13,(I s.1))]) (λs=>(bL (bL (dG s.2.2.1 (.row 3 (OV.cells s.2.1)) s.2.2.2) n2 (.row 1 [[.v .aU]])) n3 (.row 1 [[.v (j3 3 s.2.1.length s.2.2.2)]]))) (λs=>s.1<=x.aJ.length/\OR aX.o (x.aJ.take s.1) s.2.1/\eO h (OV.bV s.2.1) s.2.2.1/\s.2.2.1 n2=none/\s.2.2.1 n3=none/\zE s.2.2.1 s.2.1 s.2.2.2/\∀ n:Nat,s.2.2.2=some n->n≠n2/\n≠n3) (λs=>x.aJ.length-s.1) (0,[],h,none) ?_ ?_
 ·exact⟨by simp[eE,dJ],Heap.iU lU,iF _,trivial,eO.nil _,b6,cT,rfl,by simp⟩
 rintro⟨ka,esa,ga_,oa_⟩ ⟨hkka,hora,hnewa,b6,cT,hosa,hona⟩
 simp only at hkka hora hnewa b6 cT hosa hona ⊢
 have hlena:esa.length=ka:=by have:=hora.length;simp at this;omega
 rcases cX ka x.aJ.length with hlta|hgea
 ·have eaa:x.aJ[ka]?=some x.aJ[ka]:=cJ hlta
  have hf:=pT aX.s (dX hlta)
  have hf2:=(x.aJ[ka]).gB
  simp only[gI]at hf2
  cases oa_ with
  |none =>
   rw[jX]at hosa
   subst hosa
   try simp -dsimp -implicitDefEqProofs only[go_sem,↓reduceIte,Tryz.f171,aF,aE,bD,bE,eaa,hlta,aN,bI,aX.aO]
   intro n5 qn5
   obtain⟨uI,eX,eY,aUB⟩:=cB (show ¬n5=n3 from qn5.1)
   obtain⟨pY,eH,eI,aJV⟩:=cB (show ¬n5=n2 from qn5.2.1)
   have kI:=qn5.2.2
   try simp -dsimp -implicitDefEqProofs only[go_sem,↓reduceIte,Tryz.f171,aF,aE,bD,bE,eX,eY,eH,eI,eaa,hlta,aN,bI,aX.aO]
   intro n6 qn6
   obtain⟨aUC,mP,mQ,bVY⟩:=cB (show ¬n6=n5 from qn6.1)
   obtain⟨aUD,mR,mS,bVZ⟩:=cB (show ¬n6=n3 from qn6.2.1)
   obtain⟨aUE,mT,mU,bV0⟩:=cB (show ¬n6=n2 from qn6.2.2.1)
   have sN:=qn6.2.2.2
   try simp -dsimp -implicitDefEqProofs only[go_sem,↓reduceIte,Tryz.f171,aF,aE,bD,bE,eX,eY,eH,eI,mP,mQ,mR,mS,mT,mU,eaa,hlta,aN,bI,aX.aO]
   try(with_reducible intro _)
   refine cY aQ6 bC6 bC7 (λs:Nat×List (List OV)×Heap×Option Nat=>[(2,.op n2 1 0 0),(3,.op n3 1 0 0),(11,dA 3 aX.c x.aJ),(12,I x.aJ.length),(13,(I ka)),(5,.op n5 3 0 0),(6,.op n6 3 0 0),(23,dA 5 aB.c x.aJ[ka].bG),(24,I x.aJ[ka].bG.length),(25,(I s.1))]) (λs=>(bL (bL (bL (bL (dG s.2.2.1 (.row 5 (OV.cells s.2.1)) s.2.2.2) n2 (.row 1 [[.v .aU]])) n3 (.row 1 [[.v (.aU)]])) n5 (.row 3 [[.v (.str x.aJ[ka].fG),.v (I x.aJ[ka].bN),.v (dA 5 aB.c x.aJ[ka].bG)]])) n6 (.row 3 [[.v (.str x.aJ[ka].fG),.v (I x.aJ[ka].bN),.v (j3 5 s.2.1.length s.2.2.2)]]))) (λs=>s.1<=x.aJ[ka].bG.length/\OR aB.o (x.aJ[ka].bG.take s.1) s.2.1/\eO ga_ (OV.bV s.2.1) s.2.2.1/\s.2.2.1 n2=none/\s.2.2.1 n3=none/\s.2.2.1 n5=none/\s.2.2.1 n6=none/\zE s.2.2.1 s.2.1 s.2.2.2/\∀ n:Nat,s.2.2.2=some n->n≠n2/\n≠n3/\n≠n5/\n≠n6) (λs=>x.aJ[ka].bG.length-s.1) (0,[],ga_,none) ?_ ?_
   ·exact⟨by simp[eE,dJ],lU,iF _,trivial,eO.nil _,b6,cT,kI,sN,rfl,by simp⟩
   rintro⟨ki,esi,gi_,zB⟩ ⟨hkki,hori,hnewi,b6,cT,kI,sN,hosi,honi⟩
   simp only at hkki hori hnewi b6 cT kI sN hosi honi ⊢
   have hleni:esi.length=ki:=by have:=hori.length;simp at this;omega
   rcases cX ki x.aJ[ka].bG.length with hlti|hgei
   ·have eai:x.aJ[ka].bG[ki]?=some x.aJ[ka].bG[ki]:=cJ hlti
    have hxi:=aN8 (x.aJ[ka].bG[ki]) bBL
    simp only[aB.aO]at hxi
    cases zB with
    |none =>
     rw[jX]at hosi
     subst hosi
     try simp -dsimp -implicitDefEqProofs only[go_sem,↓reduceIte,Tryz.f171,aF,aE,bD,bE,eX,eY,eH,eI,mP,mQ,mR,mS,mT,mU,eaa,hlta,aN,bI,eai,hlti,aN,bI,aB.aO,aX.aO]
     intro n8 qn8
     obtain⟨aJZ,uJ,uK,a7U⟩:=cB (show ¬n8=n6 from qn8.1)
     obtain⟨aJ0,uL,uM,a7V⟩:=cB (show ¬n8=n5 from qn8.2.1)
     obtain⟨aJ1,uN,uO,a7W⟩:=cB (show ¬n8=n3 from qn8.2.2.1)
     obtain⟨aJ2,uP,uQ,a7X⟩:=cB (show ¬n8=n2 from qn8.2.2.2.1)
     have aUF:=qn8.2.2.2.2
     try simp -dsimp -implicitDefEqProofs only[go_sem,↓reduceIte,Tryz.f171,aF,aE,bD,bE,eX,eY,eH,eI,mP,mQ,mR,mS,mT,mU,uJ,uK,uL,uM,uN,uO,uP,uQ,eaa,hlta,aN,bI,eai,hlti,aN,bI,aB.aO,aX.aO]
     refine aH.wn5 (hxi) b6 ⟨dW,cT⟩ ⟨uI,pY,kI⟩ ⟨aUC,aUD,aUE,sN⟩ ⟨aJZ,aJ0,aJ1,aJ2,aUF⟩ ?_
     rintro r l_ gb ⟨e_b,oeb,rfl,rfl⟩ wb b6 cT kI sN aUF
     have oob:=oeb
     rw[aB.tJ]at oob
     obtain⟨aBN,rfl,kJ⟩:=oob
     try simp -dsimp -implicitDefEqProofs only[go_sem,↓reduceIte,Tryz.f171,aF,aE,bD,bE,eX,eY,eH,eI,mP,mQ,mR,mS,mT,mU,uJ,uK,uL,uM,uN,uO,uP,uQ,eaa,hlta,aN,bI,eai,hlti,aN,bI,kJ.flat,kJ.one,OV.aM,OV.aD,OV.aR,aB.aO,aX.aO]
     repeat'(with_reducible first|refine And.intro eU ?_)
     intro mi qmi
     obtain⟨a7Y,aJ3,aJ4,a7Z⟩:=cB (show ¬mi=n8 from qmi.1)
     obtain⟨aJ5,aJ6,aJ7,a71⟩:=cB (show ¬mi=n6 from qmi.2.1)
     obtain⟨uR,uS,uT,aJ8⟩:=cB (show ¬mi=n5 from qmi.2.2.1)
     obtain⟨uU,uV,uW,aJ9⟩:=cB (show ¬mi=n3 from qmi.2.2.2.1)
     obtain⟨uX,uY,uZ,aKA⟩:=cB (show ¬mi=n2 from qmi.2.2.2.2.1)
     have aKB:=qmi.2.2.2.2.2
     try simp -dsimp -implicitDefEqProofs only[go_sem,↓reduceIte,Tryz.f171,aF,aE,bD,bE,eX,eY,eH,eI,mP,mQ,mR,mS,mT,mU,uJ,uK,uL,uM,uN,uO,uP,uQ,aJ3,aJ4,aJ6,aJ7,uS,uT,uV,uW,uY,uZ,eaa,hlta,aN,bI,eai,hlti,aN,bI,kJ.flat,kJ.one,OV.aM,OV.aD,OV.aR]
     refine⟨(ki+1,([]:List (List OV))++[[.v (.int .i64 x.aJ[ka].bG[ki].bH),.v (.int .i64 x.aJ[ka].bG[ki].bZ),.v (.int .i64 x.aJ[ka].bG[ki].dR),.v (.int .i64 x.aJ[ka].bG[ki].dB),aBN]],gb,some mi),?_⟩
     simp only
     refine⟨?_,lU,⟨by omega,OR.snoc hori hlti oeb,hnewi.snoc wb,b6,cT,kI,sN,aKB,(λn_ e_=>by obtain rfl:=eN e_;exact⟨uX,uU,uR,aJ5⟩)⟩,by omega⟩
     all_goals(repeat'(with_reducible refine And.intro ?_ ?_))
     all_goals first|rfl|trivial|(rw[IntWalk.i64_in _ aA];omega)
    |some ni =>
     rw[k6]at hosi
     have aUG:=hosi
     have hni:=honi ni rfl
     obtain⟨a73,rQ,rR,aKC⟩:=cB (show ¬ni=n2 from hni.1)
     obtain⟨a74,rS,rT,aKD⟩:=cB (show ¬ni=n3 from hni.2.1)
     obtain⟨a77,rU,rV,aKE⟩:=cB (show ¬ni=n5 from hni.2.2.1)
     obtain⟨bV1,aFH,aFI,a78⟩:=cB (show ¬ni=n6 from hni.2.2.2)
     try simp -dsimp -implicitDefEqProofs only[go_sem,↓reduceIte,Tryz.f171,aF,aE,bD,bE,eX,eY,eH,eI,mP,mQ,mR,mS,mT,mU,rQ,rR,rS,rT,rU,rV,aFH,aFI,eaa,hlta,aN,bI,eai,hlti,aK,aZ,aB.aO,aX.aO]
     intro n8 qn8
     obtain⟨aJZ,uJ,uK,a7U⟩:=cB (show ¬n8=n6 from qn8.1)
     obtain⟨aJ0,uL,uM,a7V⟩:=cB (show ¬n8=n5 from qn8.2.1)
     obtain⟨aJ1,uN,uO,a7W⟩:=cB (show ¬n8=n3 from qn8.2.2.1)
     obtain⟨aJ2,uP,uQ,a7X⟩:=cB (show ¬n8=n2 from qn8.2.2.2.1)
     obtain⟨a79,aKF,aKG,bV2⟩:=cB (show ¬n8=ni from qn8.2.2.2.2.1)
     have aUF:=qn8.2.2.2.2.2
     try simp -dsimp -implicitDefEqProofs only[go_sem,↓reduceIte,Tryz.f171,aF,aE,bD,bE,eX,eY,eH,eI,mP,mQ,mR,mS,mT,mU,rQ,rR,rS,rT,rU,rV,aFH,aFI,uJ,uK,uL,uM,uN,uO,uP,uQ,aKF,aKG,eaa,hlta,aN,bI,eai,hlti,aK,aZ,aB.aO,aX.aO]
     refine aH.wn6 (hxi) aUG ⟨aKC,b6⟩ ⟨dW,aKD,cT⟩ ⟨uI,pY,aKE,kI⟩ ⟨aUC,aUD,aUE,a78,sN⟩ ⟨aJZ,aJ0,aJ1,aJ2,a79,aUF⟩ ?_
     rintro r l_ gb ⟨e_b,oeb,rfl,rfl⟩ wb aUG b6 cT kI sN aUF
     have oob:=oeb
     rw[aB.tJ]at oob
     obtain⟨aBN,rfl,kJ⟩:=oob
     try simp -dsimp -implicitDefEqProofs only[go_sem,↓reduceIte,Tryz.f171,aF,aE,bD,bE,eX,eY,eH,eI,mP,mQ,mR,mS,mT,mU,rQ,rR,rS,rT,rU,rV,aFH,aFI,uJ,uK,uL,uM,uN,uO,uP,uQ,aKF,aKG,eaa,hlta,aN,bI,eai,hlti,aK,aZ,kJ.flat,kJ.one,OV.aM,OV.aD,OV.aR,aB.aO,aX.aO]
     repeat'(with_reducible first|refine And.intro eU ?_)
     intro mi qmi
     obtain⟨a7Y,aJ3,aJ4,a7Z⟩:=cB (show ¬mi=n8 from qmi.1)
     obtain⟨aJ5,aJ6,aJ7,a71⟩:=cB (show ¬mi=n6 from qmi.2.1)
     obtain⟨uR,uS,uT,aJ8⟩:=cB (show ¬mi=n5 from qmi.2.2.1)
     obtain⟨uU,uV,uW,aJ9⟩:=cB (show ¬mi=n3 from qmi.2.2.2.1)
     obtain⟨uX,uY,uZ,aKA⟩:=cB (show ¬mi=n2 from qmi.2.2.2.2.1)
     obtain⟨a8A,aKH,aKI,a8B⟩:=cB (show ¬mi=ni from qmi.2.2.2.2.2.1)
     have aKB:=qmi.2.2.2.2.2.2
     try simp -dsimp -implicitDefEqProofs only[go_sem,↓reduceIte,Tryz.f171,aF,aE,bD,bE,eX,eY,eH,eI,mP,mQ,mR,mS,mT,mU,rQ,rR,rS,rT,rU,rV,aFH,aFI,uJ,uK,uL,uM,uN,uO,uP,uQ,aKF,aKG,aJ3,aJ4,aJ6,aJ7,uS,uT,uV,uW,uY,uZ,aKH,aKI,eaa,hlta,aN,bI,eai,hlti,aK,aZ,kJ.flat,kJ.one,OV.aM,OV.aD,OV.aR]
     refine⟨(ki+1,esi++[[.v (.int .i64 x.aJ[ka].bG[ki].bH),.v (.int .i64 x.aJ[ka].bG[ki].bZ),.v (.int .i64 x.aJ[ka].bG[ki].dR),.v (.int .i64 x.aJ[ka].bG[ki].dB),aBN]],gb,some mi),?_⟩
     simp only
     refine⟨?_,lU,⟨by omega,OR.snoc hori hlti oeb,hnewi.snoc wb,b6,cT,kI,sN,aKB,(λn_ e_=>by obtain rfl:=eN e_;exact⟨uX,uU,uR,aJ5⟩)⟩,by omega⟩
     all_goals(repeat'(with_reducible refine And.intro ?_ ?_))
     all_goals first|rfl|trivial|(rw[IntWalk.i64_in _ aA];omega)
   ·have a8C:ki=x.aJ[ka].bG.length:=by omega
    subst a8C
    rw[eJ]at hori
    have aKJ:dG gi_ (.row 5 (OV.cells esi)) zB n2=none:=e8 b6 λn_ e_=>(honi n_ e_).1
    have aKK:dG gi_ (.row 5 (OV.cells esi)) zB n3=none:=e8 cT λn_ e_=>(honi n_ e_).2.1
    have aKL:dG gi_ (.row 5 (OV.cells esi)) zB n5=none:=e8 kI λn_ e_=>(honi n_ e_).2.2.1
    have a8D:dG gi_ (.row 5 (OV.cells esi)) zB n6=none:=e8 sN λn_ e_=>(honi n_ e_).2.2.2
    try simp -dsimp -implicitDefEqProofs only[go_sem,↓reduceIte,Tryz.f171,aF,aE,bD,bE,eX,eY,eH,eI,mP,mQ,mR,mS,mT,mU,eaa,hlta,aN,bI,fY,iT,OV.aM,OV.aD,OV.aR,cO,aX.aO]
    try(with_reducible intro _)
    repeat'(with_reducible first|refine And.intro eU ?_)
    have b6:=aKJ
    have cT:=aKK
    have kI:=aKL
    have sN:=a8D
    have wf:=sI (sz:=5) hnewi hosi
    intro ma qma
    obtain⟨bV3,a8E,a8F,bV4⟩:=cB (show ¬ma=n6 from qma.1)
    obtain⟨a8G,aKM,aKN,a8H⟩:=cB (show ¬ma=n5 from qma.2.1)
    obtain⟨aGX,aKO,aKP,a8I⟩:=cB (show ¬ma=n3 from qma.2.2.1)
    obtain⟨aGW,aKQ,aKR,a8J⟩:=cB (show ¬ma=n2 from qma.2.2.2.1)
    have a8K:=qma.2.2.2.2
    try simp -dsimp -implicitDefEqProofs only[go_sem,↓reduceIte,Tryz.f171,aF,aE,bD,bE,eX,eY,eH,eI,mP,mQ,mR,mS,mT,mU,a8E,a8F,aKM,aKN,aKO,aKP,aKQ,aKR,eaa,hlta,aN,bI,fY,iT,OV.aM,OV.aD,OV.aR]
    refine⟨(ka+1,([]:List (List OV))++[[.v (.str x.aJ[ka].fG),.v (I x.aJ[ka].bN),(gov 5 esi zB)]],(dG gi_ (.row 5 (OV.cells esi)) zB),some ma),?_⟩
    simp only
    refine⟨?_,(Heap.wk.trans (b:=(bL (bL (dG (dG gi_ (.row 5 (OV.cells esi)) zB) (.row 3 (OV.cells ([]:List (List OV))++[[Cell.v (.str x.aJ[ka].fG),Cell.v (I x.aJ[ka].bN),Cell.v (j3 5 esi.length zB)]])) (some ma)) n2 (.row 1 [[.v .aU]])) n3 (.row 1 [[.v (j3 3 (([]:List (List OV))++[[.v (.str x.aJ[ka].fG),.v (I x.aJ[ka].bN),(gov 5 esi zB)]]).length (some ma))]]))) (Heap.aJR (m:=ma) (sz:=3) (es:=(OV.cells ([]:List (List OV))++[[Cell.v (.str x.aJ[ka].fG),Cell.v (I x.aJ[ka].bN),Cell.v (j3 5 esi.length zB)]])) (es':=OV.cells (([]:List (List OV))++[[.v (.str x.aJ[ka].fG),.v (I x.aJ[ka].bN),(gov 5 esi zB)]])) (λq_ hq_=>by simp only[dD,aK,if_neg hq_]) aPB aPB bM8) (Heap.iU lU)),⟨by omega,OR.snoc hora hlta ⟨_,rfl,yK hori hosi⟩,hnewa.snoc bBD,b6,cT,a8K,(λn_ e_=>by obtain rfl:=eN e_;exact⟨aGW,aGX⟩)⟩,by omega⟩
    all_goals(repeat'(with_reducible refine And.intro ?_ ?_))
    all_goals first|rfl|trivial|(rw[IntWalk.i64_in _ aA];omega)
  |some na =>
   rw[k6]at hosa
   have aBO:=hosa
   have hna:=hona na rfl
   obtain⟨bV5,l7,l8,aUH⟩:=cB (show ¬na=n2 from hna.1)
   obtain⟨bV6,l9,mA,aUI⟩:=cB (show ¬na=n3 from hna.2)
   try simp -dsimp -implicitDefEqProofs only[go_sem,↓reduceIte,Tryz.f171,aF,aE,bD,bE,l7,l8,l9,mA,eaa,hlta,aK,aZ,aX.aO]
   intro n5 qn5
   obtain⟨uI,eX,eY,aUB⟩:=cB (show ¬n5=n3 from qn5.1)
   obtain⟨pY,eH,eI,aJV⟩:=cB (show ¬n5=n2 from qn5.2.1)
   obtain⟨aUJ,nN,nO,bV7⟩:=cB (show ¬n5=na from qn5.2.2.1)
   have kI:=qn5.2.2.2
   try simp -dsimp -implicitDefEqProofs only[go_sem,↓reduceIte,Tryz.f171,aF,aE,bD,bE,l7,l8,l9,mA,eX,eY,eH,eI,nN,nO,eaa,hlta,aK,aZ,aX.aO]
   intro n6 qn6
   obtain⟨aUC,mP,mQ,bVY⟩:=cB (show ¬n6=n5 from qn6.1)
   obtain⟨aUD,mR,mS,bVZ⟩:=cB (show ¬n6=n3 from qn6.2.1)
   obtain⟨aUE,mT,mU,bV0⟩:=cB (show ¬n6=n2 from qn6.2.2.1)
   obtain⟨bJ9,aBP,aBQ,b8U⟩:=cB (show ¬n6=na from qn6.2.2.2.1)
   have sN:=qn6.2.2.2.2
   try simp -dsimp -implicitDefEqProofs only[go_sem,↓reduceIte,Tryz.f171,aF,aE,bD,bE,l7,l8,l9,mA,eX,eY,eH,eI,nN,nO,mP,mQ,mR,mS,mT,mU,aBP,aBQ,eaa,hlta,aK,aZ,aX.aO]
   try(with_reducible intro _)
   refine cY aQ6 bC6 bC7 (λs:Nat×List (List OV)×Heap×Option Nat=>[(2,.op n2 1 0 0),(3,.op n3 1 0 0),(11,dA 3 aX.c x.aJ),(12,I x.aJ.length),(13,(I ka)),(5,.op n5 3 0 0),(6,.op n6 3 0 0),(23,dA 5 aB.c x.aJ[ka].bG),(24,I x.aJ[ka].bG.length),(25,(I s.1))]) (λs=>(bL (bL (bL (bL (bL (dG s.2.2.1 (.row 5 (OV.cells s.2.1)) s.2.2.2) na (.row 3 (OV.cells esa))) n2 (.row 1 [[.v .aU]])) n3 (.row 1 [[.v (.os na 3 0 esa.length)]])) n5 (.row 3 [[.v (.str x.aJ[ka].fG),.v (I x.aJ[ka].bN),.v (dA 5 aB.c x.aJ[ka].bG)]])) n6 (.row 3 [[.v (.str x.aJ[ka].fG),.v (I x.aJ[ka].bN),.v (j3 5 s.2.1.length s.2.2.2)]]))) (λs=>s.1<=x.aJ[ka].bG.length/\OR aB.o (x.aJ[ka].bG.take s.1) s.2.1/\eO ga_ (OV.bV s.2.1) s.2.2.1/\s.2.2.1 na=none/\s.2.2.1 n2=none/\s.2.2.1 n3=none/\s.2.2.1 n5=none/\s.2.2.1 n6=none/\zE s.2.2.1 s.2.1 s.2.2.2/\∀ n:Nat,s.2.2.2=some n->n≠na/\n≠n2/\n≠n3/\n≠n5/\n≠n6) (λs=>x.aJ[ka].bG.length-s.1) (0,[],ga_,none) ?_ ?_
   ·exact⟨by simp[eE,dJ],lU,iF _,trivial,eO.nil _,aBO,b6,cT,kI,sN,rfl,by simp⟩
   rintro⟨ki,esi,gi_,zB⟩ ⟨hkki,hori,hnewi,aBO,b6,cT,kI,sN,hosi,honi⟩
   simp only at hkki hori hnewi aBO b6 cT kI sN hosi honi ⊢
   have hleni:esi.length=ki:=by have:=hori.length;simp at this;omega
   rcases cX ki x.aJ[ka].bG.length with hlti|hgei
   ·have eai:x.aJ[ka].bG[ki]?=some x.aJ[ka].bG[ki]:=cJ hlti
    have hxi:=aN8 (x.aJ[ka].bG[ki]) bBL
    simp only[aB.aO]at hxi
    cases zB with
    |none =>
     rw[jX]at hosi
     subst hosi
     try simp -dsimp -implicitDefEqProofs only[go_sem,↓reduceIte,Tryz.f171,aF,aE,bD,bE,l7,l8,l9,mA,eX,eY,eH,eI,nN,nO,mP,mQ,mR,mS,mT,mU,aBP,aBQ,eaa,hlta,aK,aZ,eai,hlti,aN,bI,aB.aO,aX.aO]
     intro n8 qn8
     obtain⟨aJZ,uJ,uK,a7U⟩:=cB (show ¬n8=n6 from qn8.1)
     obtain⟨aJ0,uL,uM,a7V⟩:=cB (show ¬n8=n5 from qn8.2.1)
     obtain⟨aJ1,uN,uO,a7W⟩:=cB (show ¬n8=n3 from qn8.2.2.1)
     obtain⟨aJ2,uP,uQ,a7X⟩:=cB (show ¬n8=n2 from qn8.2.2.2.1)
     obtain⟨a8L,aKS,aKT,bV8⟩:=cB (show ¬n8=na from qn8.2.2.2.2.1)
     have aUF:=qn8.2.2.2.2.2
     try simp -dsimp -implicitDefEqProofs only[go_sem,↓reduceIte,Tryz.f171,aF,aE,bD,bE,l7,l8,l9,mA,eX,eY,eH,eI,nN,nO,mP,mQ,mR,mS,mT,mU,aBP,aBQ,uJ,uK,uL,uM,uN,uO,uP,uQ,aKS,aKT,eaa,hlta,aK,aZ,eai,hlti,aN,bI,aB.aO,aX.aO]
     refine aH.wn6 (hxi) aBO ⟨aUH,b6⟩ ⟨dW,aUI,cT⟩ ⟨uI,pY,aUJ,kI⟩ ⟨aUC,aUD,aUE,bJ9,sN⟩ ⟨aJZ,aJ0,aJ1,aJ2,a8L,aUF⟩ ?_
     rintro r l_ gb ⟨e_b,oeb,rfl,rfl⟩ wb aBO b6 cT kI sN aUF
     have oob:=oeb
     rw[aB.tJ]at oob
     obtain⟨aBN,rfl,kJ⟩:=oob
     try simp -dsimp -implicitDefEqProofs only[go_sem,↓reduceIte,Tryz.f171,aF,aE,bD,bE,l7,l8,l9,mA,eX,eY,eH,eI,nN,nO,mP,mQ,mR,mS,mT,mU,aBP,aBQ,uJ,uK,uL,uM,uN,uO,uP,uQ,aKS,aKT,eaa,hlta,aK,aZ,eai,hlti,aN,bI,kJ.flat,kJ.one,OV.aM,OV.aD,OV.aR,aB.aO,aX.aO]
     repeat'(with_reducible first|refine And.intro eU ?_)
     intro mi qmi
     obtain⟨a7Y,aJ3,aJ4,a7Z⟩:=cB (show ¬mi=n8 from qmi.1)
     obtain⟨aJ5,aJ6,aJ7,a71⟩:=cB (show ¬mi=n6 from qmi.2.1)
     obtain⟨uR,uS,uT,aJ8⟩:=cB (show ¬mi=n5 from qmi.2.2.1)
     obtain⟨uU,uV,uW,aJ9⟩:=cB (show ¬mi=n3 from qmi.2.2.2.1)
     obtain⟨uX,uY,uZ,aKA⟩:=cB (show ¬mi=n2 from qmi.2.2.2.2.1)
     obtain⟨aKU,aKV,aKW,a8M⟩:=cB (show ¬mi=na from qmi.2.2.2.2.2.1)
     have aKB:=qmi.2.2.2.2.2.2
     try simp -dsimp -implicitDefEqProofs only[go_sem,↓reduceIte,Tryz.f171,aF,aE,bD,bE,l7,l8,l9,mA,eX,eY,eH,eI,nN,nO,mP,mQ,mR,mS,mT,mU,aBP,aBQ,uJ,uK,uL,uM,uN,uO,uP,uQ,aKS,aKT,aJ3,aJ4,aJ6,aJ7,uS,uT,uV,uW,uY,uZ,aKV,aKW,eaa,hlta,aK,aZ,eai,hlti,aN,bI,kJ.flat,kJ.one,OV.aM,OV.aD,OV.aR]
     refine⟨(ki+1,([]:List (List OV))++[[.v (.int .i64 x.aJ[ka].bG[ki].bH),.v (.int .i64 x.aJ[ka].bG[ki].bZ),.v (.int .i64 x.aJ[ka].bG[ki].dR),.v (.int .i64 x.aJ[ka].bG[ki].dB),aBN]],gb,some mi),?_⟩
     simp only
     refine⟨?_,lU,⟨by omega,OR.snoc hori hlti oeb,hnewi.snoc wb,aBO,b6,cT,kI,sN,aKB,(λn_ e_=>by obtain rfl:=eN e_;exact⟨aKU,uX,uU,uR,aJ5⟩)⟩,by omega⟩
     all_goals(repeat'(with_reducible refine And.intro ?_ ?_))
     all_goals first|rfl|trivial|(rw[IntWalk.i64_in _ aA];omega)
    |some ni =>
     rw[k6]at hosi
     have aUG:=hosi
     have hni:=honi ni rfl
     obtain⟨bV9,aHU,aHV,a8N⟩:=cB (show ¬ni=na from hni.1)
     obtain⟨a73,rQ,rR,aKC⟩:=cB (show ¬ni=n2 from hni.2.1)
     obtain⟨a74,rS,rT,aKD⟩:=cB (show ¬ni=n3 from hni.2.2.1)
     obtain⟨a77,rU,rV,aKE⟩:=cB (show ¬ni=n5 from hni.2.2.2.1)
     obtain⟨bV1,aFH,aFI,a78⟩:=cB (show ¬ni=n6 from hni.2.2.2.2)
     try simp -dsimp -implicitDefEqProofs only[go_sem,↓reduceIte,Tryz.f171,aF,aE,bD,bE,l7,l8,l9,mA,eX,eY,eH,eI,nN,nO,mP,mQ,mR,mS,mT,mU,aBP,aBQ,aHU,aHV,rQ,rR,rS,rT,rU,rV,aFH,aFI,eaa,hlta,aK,aZ,eai,hlti,aK,aZ,aB.aO,aX.aO]
     intro n8 qn8
     obtain⟨aJZ,uJ,uK,a7U⟩:=cB (show ¬n8=n6 from qn8.1)
     obtain⟨aJ0,uL,uM,a7V⟩:=cB (show ¬n8=n5 from qn8.2.1)
     obtain⟨aJ1,uN,uO,a7W⟩:=cB (show ¬n8=n3 from qn8.2.2.1)
     obtain⟨aJ2,uP,uQ,a7X⟩:=cB (show ¬n8=n2 from qn8.2.2.2.1)
     obtain⟨a8L,aKS,aKT,bV8⟩:=cB (show ¬n8=na from qn8.2.2.2.2.1)
     obtain⟨a79,aKF,aKG,bV2⟩:=cB (show ¬n8=ni from qn8.2.2.2.2.2.1)
     have aUF:=qn8.2.2.2.2.2.2
     try simp -dsimp -implicitDefEqProofs only[go_sem,↓reduceIte,Tryz.f171,aF,aE,bD,bE,l7,l8,l9,mA,eX,eY,eH,eI,nN,nO,mP,mQ,mR,mS,mT,mU,aBP,aBQ,aHU,aHV,rQ,rR,rS,rT,rU,rV,aFH,aFI,uJ,uK,uL,uM,uN,uO,uP,uQ,aKS,aKT,aKF,aKG,eaa,hlta,aK,aZ,eai,hlti,aK,aZ,aB.aO,aX.aO]
     refine aH.wn7 (hxi) aUG ⟨a8N,aBO⟩ ⟨aUH,aKC,b6⟩ ⟨dW,aUI,aKD,cT⟩ ⟨uI,pY,aUJ,aKE,kI⟩ ⟨aUC,aUD,aUE,bJ9,a78,sN⟩ ⟨aJZ,aJ0,aJ1,aJ2,a8L,a79,aUF⟩ ?_
     rintro r l_ gb ⟨e_b,oeb,rfl,rfl⟩ wb aUG aBO b6 cT kI sN aUF
     have oob:=oeb
     rw[aB.tJ]at oob
     obtain⟨aBN,rfl,kJ⟩:=oob
     try simp -dsimp -implicitDefEqProofs only[go_sem,↓reduceIte,Tryz.f171,aF,aE,bD,bE,l7,l8,l9,mA,eX,eY,eH,eI,nN,nO,mP,mQ,mR,mS,mT,mU,aBP,aBQ,aHU,aHV,rQ,rR,rS,rT,rU,rV,aFH,aFI,uJ,uK,uL,uM,uN,uO,uP,uQ,aKS,aKT,aKF,aKG,eaa,hlta,aK,aZ,eai,hlti,aK,aZ,kJ.flat,kJ.one,OV.aM,OV.aD,OV.aR,aB.aO,aX.aO]
     repeat'(with_reducible first|refine And.intro eU ?_)
     intro mi qmi
     obtain⟨a7Y,aJ3,aJ4,a7Z⟩:=cB (show ¬mi=n8 from qmi.1)
     obtain⟨aJ5,aJ6,aJ7,a71⟩:=cB (show ¬mi=n6 from qmi.2.1)
     obtain⟨uR,uS,uT,aJ8⟩:=cB (show ¬mi=n5 from qmi.2.2.1)
     obtain⟨uU,uV,uW,aJ9⟩:=cB (show ¬mi=n3 from qmi.2.2.2.1)
     obtain⟨uX,uY,uZ,aKA⟩:=cB (show ¬mi=n2 from qmi.2.2.2.2.1)
     obtain⟨aKU,aKV,aKW,a8M⟩:=cB (show ¬mi=na from qmi.2.2.2.2.2.1)
     obtain⟨a8A,aKH,aKI,a8B⟩:=cB (show ¬mi=ni from qmi.2.2.2.2.2.2.1)
     have aKB:=qmi.2.2.2.2.2.2.2
     try simp -dsimp -implicitDefEqProofs only[go_sem,↓reduceIte,Tryz.f171,aF,aE,bD,bE,l7,l8,l9,mA,eX,eY,eH,eI,nN,nO,mP,mQ,mR,mS,mT,mU,aBP,aBQ,aHU,aHV,rQ,rR,rS,rT,rU,rV,aFH,aFI,uJ,uK,uL,uM,uN,uO,uP,uQ,aKS,aKT,aKF,aKG,aJ3,aJ4,aJ6,aJ7,uS,uT,uV,uW,uY,uZ,aKV,aKW,aKH,aKI,eaa,hlta,aK,aZ,eai,hlti,aK,aZ,kJ.flat,kJ.one,OV.aM,OV.aD,OV.aR]
     refine⟨(ki+1,esi++[[.v (.int .i64 x.aJ[ka].bG[ki].bH),.v (.int .i64 x.aJ[ka].bG[ki].bZ),.v (.int .i64 x.aJ[ka].bG[ki].dR),.v (.int .i64 x.aJ[ka].bG[ki].dB),aBN]],gb,some mi),?_⟩
     simp only
     refine⟨?_,lU,⟨by omega,OR.snoc hori hlti oeb,hnewi.snoc wb,aBO,b6,cT,kI,sN,aKB,(λn_ e_=>by obtain rfl:=eN e_;exact⟨aKU,uX,uU,uR,aJ5⟩)⟩,by omega⟩
     all_goals(repeat'(with_reducible refine And.intro ?_ ?_))
     all_goals first|rfl|trivial|(rw[IntWalk.i64_in _ aA];omega)
   ·have a8C:ki=x.aJ[ka].bG.length:=by omega
    subst a8C
    rw[eJ]at hori
    have a8O:dG gi_ (.row 5 (OV.cells esi)) zB na=none:=e8 aBO λn_ e_=>(honi n_ e_).1
    have aKJ:dG gi_ (.row 5 (OV.cells esi)) zB n2=none:=e8 b6 λn_ e_=>(honi n_ e_).2.1
    have aKK:dG gi_ (.row 5 (OV.cells esi)) zB n3=none:=e8 cT λn_ e_=>(honi n_ e_).2.2.1
    have aKL:dG gi_ (.row 5 (OV.cells esi)) zB n5=none:=e8 kI λn_ e_=>(honi n_ e_).2.2.2.1
    have a8D:dG gi_ (.row 5 (OV.cells esi)) zB n6=none:=e8 sN λn_ e_=>(honi n_ e_).2.2.2.2
    try simp -dsimp -implicitDefEqProofs only[go_sem,↓reduceIte,Tryz.f171,aF,aE,bD,bE,l7,l8,l9,mA,eX,eY,eH,eI,nN,nO,mP,mQ,mR,mS,mT,mU,aBP,aBQ,eaa,hlta,aK,aZ,fY,iT,OV.aM,OV.aD,OV.aR,cO,aX.aO]
    try(with_reducible intro _)
    repeat'(with_reducible first|refine And.intro eU ?_)
    have aBO:=a8O
    have b6:=aKJ
    have cT:=aKK
    have kI:=aKL
    have sN:=a8D
    have wf:=sI (sz:=5) hnewi hosi
    intro ma qma
    obtain⟨bV3,a8E,a8F,bV4⟩:=cB (show ¬ma=n6 from qma.1)
    obtain⟨a8G,aKM,aKN,a8H⟩:=cB (show ¬ma=n5 from qma.2.1)
    obtain⟨aGX,aKO,aKP,a8I⟩:=cB (show ¬ma=n3 from qma.2.2.1)
    obtain⟨aGW,aKQ,aKR,a8J⟩:=cB (show ¬ma=n2 from qma.2.2.2.1)
    obtain⟨bWA,a8P,a8Q,bWB⟩:=cB (show ¬ma=na from qma.2.2.2.2.1)
    have a8K:=qma.2.2.2.2.2
    try simp -dsimp -implicitDefEqProofs only[go_sem,↓reduceIte,Tryz.f171,aF,aE,bD,bE,l7,l8,l9,mA,eX,eY,eH,eI,nN,nO,mP,mQ,mR,mS,mT,mU,aBP,aBQ,a8E,a8F,aKM,aKN,aKO,aKP,aKQ,aKR,a8P,a8Q,eaa,hlta,aK,aZ,fY,iT,OV.aM,OV.aD,OV.aR]
    refine⟨(ka+1,esa++[[.v (.str x.aJ[ka].fG),.v (I x.aJ[ka].bN),(gov 5 esi zB)]],(dG gi_ (.row 5 (OV.cells esi)) zB),some ma),?_⟩
    simp only
    refine⟨?_,(Heap.wk.trans (b:=(bL (bL (dG (dG gi_ (.row 5 (OV.cells esi)) zB) (.row 3 (OV.cells esa++[[Cell.v (.str x.aJ[ka].fG),Cell.v (I x.aJ[ka].bN),Cell.v (j3 5 esi.length zB)]])) (some ma)) n2 (.row 1 [[.v .aU]])) n3 (.row 1 [[.v (j3 3 (esa++[[.v (.str x.aJ[ka].fG),.v (I x.aJ[ka].bN),(gov 5 esi zB)]]).length (some ma))]]))) (Heap.aJR (m:=ma) (sz:=3) (es:=(OV.cells esa++[[Cell.v (.str x.aJ[ka].fG),Cell.v (I x.aJ[ka].bN),Cell.v (j3 5 esi.length zB)]])) (es':=OV.cells (esa++[[.v (.str x.aJ[ka].fG),.v (I x.aJ[ka].bN),(gov 5 esi zB)]])) (λq_ hq_=>by simp only[dD,aK,if_neg hq_]) aPB aPB bM8) (Heap.iU lU)),⟨by omega,OR.snoc hora hlta ⟨_,rfl,yK hori hosi⟩,hnewa.snoc bBD,b6,cT,a8K,(λn_ e_=>by obtain rfl:=eN e_;exact⟨aGW,aGX⟩)⟩,by omega⟩
    all_goals(repeat'(with_reducible refine And.intro ?_ ?_))
    all_goals first|rfl|trivial|(rw[IntWalk.i64_in _ aA];omega)
 ·have bWC:ka=x.aJ.length:=by omega
  subst bWC
  rw[eJ]at hora
  have bWD:dG ga_ (.row 3 (OV.cells esa)) oa_ n2=none:=e8 b6 λn_ e_=>(hona n_ e_).1
  have bWE:dG ga_ (.row 3 (OV.cells esa)) oa_ n3=none:=e8 cT λn_ e_=>(hona n_ e_).2
  try simp -dsimp -implicitDefEqProofs only[go_sem,↓reduceIte,Tryz.f171,aF,aE,bD,bE,fY,iT,cO]
  try(with_reducible intro _)
  refine⟨_,(dG ga_ (.row 3 (OV.cells esa)) oa_),_,Shift.of (Sub.agg (b8.cons yX b8.nil)) lU,⟨[(gov 3 esa oa_)],?_,rfl,rfl⟩,?_⟩
  ·exact⟨(gov 3 esa oa_),rfl,yK hora hosa⟩
  ·have hq:=(sI (sz:=3) hnewa hosa)
   simpa only[OV.b7,OV.cV,OV.dV,pR,gU,oW]using hq
@[go_sem] def aQ7:List Nat:=[0,2,3,4,5,6,14,44]
@[go_sem] def bC8:List Nat:=[60,66]
@[go_sem] def bC9:Marks:=λid=>match id with|5=>([17,18],(.op 0 (.op 1 (.op 2 (.op 3 (.op 4 (.op 5 (.op 6 (.op 7 (.op 8 (.op 9 (.op 10 (.op 11 (.op 12 (.op 13 (.op 14 (.op 15 (.op 16 (.op 17 (.op 18 .nil))))))))))))))))))),[])|9=>([1,12,14,16],(.op 0 (.op 2 (.op 3 (.op 4 (.op 5 (.op 6 (.op 7 (.op 8 (.op 9 (.op 10 (.op 11 (.op 1 (.op 12 (.op 13 (.op 14 (.op 15 (.op 16 .nil))))))))))))))))),[(1,12)])|_=>([],.nil,[])
set_option maxHeartbeats 1000000 in
theorem aI9 (x:aL) (hs:x.s<=1048576):qK Tryz.prog 159 [.ip 1 [x.c] 0 0] (QA x.o):=by
 have hs':=x.gB
 try simp only[gI]at hs'
 simp only[aL.aO]
 refine tA 70 aQ7 bC8 bC9 Tryz.func159 λh=>?_
 try simp -dsimp -implicitDefEqProofs only[go_sem,↓reduceIte,Tryz.f159,aF,aE]
 intro n2 qn2
 have b6:=qn2
 try simp -dsimp -implicitDefEqProofs only[go_sem,↓reduceIte,Tryz.f159,aF,aE]
 intro n3 uH
 obtain⟨dW,bD,bE,oN⟩:=cB (show ¬n3=n2 from uH.1)
 have cT:=uH.2
 try simp -dsimp -implicitDefEqProofs only[go_sem,↓reduceIte,Tryz.f159,aF,aE,bD,bE]
 try(with_reducible intro _)
 refine a7F aQ7 bC8 bC9 (λs:Nat×List (List OV)×Heap×Option Nat=>[(0,.ip 1 [[dA 3 aX.c x.aJ]] 0 0),(2,.op n2 1 0 0),(3,.op n3 1 0 0),(4,(I s.1))]) (λs=>(bL (bL (dG s.2.2.1 (.row 3 (OV.cells s.2.1)) s.2.2.2) n2 (.row 1 [[.v .aU]])) n3 (.row 1 [[.v (j3 3 s.2.1.length s.2.2.2)]]))) (λs=>s.1<=x.aJ.length/\OR aX.o (x.aJ.take s.1) s.2.1/\eO h (OV.bV s.2.1) s.2.2.1/\s.2.2.1 n2=none/\s.2.2.1 n3=none/\zE s.2.2.1 s.2.1 s.2.2.2/\∀ n:Nat,s.2.2.2=some n->n≠n2/\n≠n3) (λs=>x.aJ.length-s.1) (0,[],h,none) ?_ ?_
 ·exact⟨by simp[eE,dJ],Heap.iU lU,iF _,trivial,eO.nil _,b6,cT,rfl,by simp⟩
 rintro⟨ka,esa,ga_,oa_⟩ ⟨hkka,hora,hnewa,b6,cT,hosa,hona⟩
 simp only at hkka hora hnewa b6 cT hosa hona ⊢
 have hlena:esa.length=ka:=by have:=hora.length;simp at this;omega
 rcases cX ka x.aJ.length with hlta|hgea
 ·have eaa:x.aJ[ka]?=some x.aJ[ka]:=cJ hlta
  have hf:=pT aX.s (dX hlta)
  have hf2:=(x.aJ[ka]).gB
  simp only[gI]at hf2
  cases oa_ with
  |none =>
   rw[jX]at hosa
   subst hosa
   try simp -dsimp -implicitDefEqProofs only[go_sem,↓reduceIte,Tryz.f159,aF,aE,bD,bE,eaa,hlta,aN,bI,aX.aO]
   try(with_reducible intro _)
   intro n5 qn5
   obtain⟨uI,eX,eY,aUB⟩:=cB (show ¬n5=n3 from qn5.1)
   obtain⟨pY,eH,eI,aJV⟩:=cB (show ¬n5=n2 from qn5.2.1)
   have kI:=qn5.2.2
   try simp -dsimp -implicitDefEqProofs only[go_sem,↓reduceIte,Tryz.f159,aF,aE,bD,bE,eX,eY,eH,eI,eaa,hlta,aN,bI,aX.aO]
   try(with_reducible intro _)
   refine cY aQ7 bC8 bC9 (λs:Nat×List (List OV)×Heap×Option Nat=>[(0,.ip 1 [[dA 3 aX.c x.aJ]] 0 0),(2,.op n2 1 0 0),(3,.op n3 1 0 0),(4,(I ka)),(5,.op n5 3 0 0),(6,(I s.1))]) (λs=>(bL (bL (bL (dG s.2.2.1 (.row 5 (OV.cells s.2.1)) s.2.2.2) n2 (.row 1 [[.v .aU]])) n3 (.row 1 [[.v (.aU)]])) n5 (.row 3 [[.v (.str x.aJ[ka].fG),.v (I x.aJ[ka].bN),.v (j3 5 s.2.1.length s.2.2.2)]]))) (λs=>s.1<=x.aJ[ka].bG.length/\OR aB.o (x.aJ[ka].bG.take s.1) s.2.1/\eO ga_ (OV.bV s.2.1) s.2.2.1/\s.2.2.1 n2=none/\s.2.2.1 n3=none/\s.2.2.1 n5=none/\zE s.2.2.1 s.2.1 s.2.2.2/\∀ n:Nat,s.2.2.2=some n->n≠n2/\n≠n3/\n≠n5) (λs=>x.aJ[ka].bG.length-s.1) (0,[],ga_,none) ?_ ?_
   ·exact⟨by simp[eE,dJ],lU,iF _,trivial,eO.nil _,b6,cT,kI,rfl,by simp⟩
   rintro⟨ki,esi,gi_,zB⟩ ⟨hkki,hori,hnewi,b6,cT,kI,hosi,honi⟩
   simp only at hkki hori hnewi b6 cT kI hosi honi ⊢
   have hleni:esi.length=ki:=by have:=hori.length;simp at this;omega
   rcases cX ki x.aJ[ka].bG.length with hlti|hgei
   ·have eai:x.aJ[ka].bG[ki]?=some x.aJ[ka].bG[ki]:=cJ hlti
    have hxi:=a7R (x.aJ[ka].bG[ki]) bBL
    cases zB with
    |none =>
     rw[jX]at hosi
     subst hosi
     try simp -dsimp -implicitDefEqProofs only[go_sem,↓reduceIte,Tryz.f159,aF,aE,bD,bE,eX,eY,eH,eI,eaa,hlta,aN,bI,eai,hlti,aN,bI,aB.aO,aX.aO]
     try(with_reducible intro _)
     refine aH.wn3 (qK.sub (by repeat'(first|exact b8.nil|refine b8.cons ?_ ?_|exact Sub.refl _|(rw[aB.aO];exact Sub.refl _)|exact Sub.eA rfl rfl rfl|exact Sub.ip (b9 aA) bF|exact Sub.eA (b9 aA) rfl rfl|exact Sub.ip dI bF|exact Sub.eA dI dC dC)) hxi) b6 ⟨dW,cT⟩ ⟨uI,pY,kI⟩ ?_
     rintro r l_ gb ⟨e_b,oeb,rfl,rfl⟩ wb b6 cT kI
     have oob:=oeb
     rw[aB.tJ]at oob
     obtain⟨aBN,rfl,kJ⟩:=oob
     try simp -dsimp -implicitDefEqProofs only[go_sem,↓reduceIte,Tryz.f159,aF,aE,bD,bE,eX,eY,eH,eI,eaa,hlta,aN,bI,eai,hlti,aN,bI,kJ.flat,kJ.one,OV.aM,OV.aD,OV.aR,aB.aO,aX.aO]
     repeat'(with_reducible first|refine And.intro eU ?_)
     intro mi qmi
     obtain⟨uR,uS,uT,aJ8⟩:=cB (show ¬mi=n5 from qmi.1)
     obtain⟨uU,uV,uW,aJ9⟩:=cB (show ¬mi=n3 from qmi.2.1)
     obtain⟨uX,uY,uZ,aKA⟩:=cB (show ¬mi=n2 from qmi.2.2.1)
     have aKB:=qmi.2.2.2
     try simp -dsimp -implicitDefEqProofs only[go_sem,↓reduceIte,Tryz.f159,aF,aE,bD,bE,eX,eY,eH,eI,uS,uT,uV,uW,uY,uZ,eaa,hlta,aN,bI,eai,hlti,aN,bI,kJ.flat,kJ.one,OV.aM,OV.aD,OV.aR]
     refine⟨(ki+1,([]:List (List OV))++[[.v (.int .i64 x.aJ[ka].bG[ki].bH),.v (.int .i64 x.aJ[ka].bG[ki].bZ),.v (.int .i64 x.aJ[ka].bG[ki].dR),.v (.int .i64 x.aJ[ka].bG[ki].dB),aBN]],gb,some mi),?_⟩
     simp only
     refine⟨?_,lU,⟨by omega,OR.snoc hori hlti oeb,hnewi.snoc wb,b6,cT,kI,aKB,(λn_ e_=>by obtain rfl:=eN e_;exact⟨uX,uU,uR⟩)⟩,by omega⟩
     all_goals(repeat'(with_reducible refine And.intro ?_ ?_))
     all_goals first|rfl|trivial|(rw[IntWalk.i64_in _ aA];omega)
    |some ni =>
     rw[k6]at hosi
     have aUG:=hosi
     have hni:=honi ni rfl
     obtain⟨a73,rQ,rR,aKC⟩:=cB (show ¬ni=n2 from hni.1)
     obtain⟨a74,rS,rT,aKD⟩:=cB (show ¬ni=n3 from hni.2.1)
     obtain⟨a77,rU,rV,aKE⟩:=cB (show ¬ni=n5 from hni.2.2)
     try simp -dsimp -implicitDefEqProofs only[go_sem,↓reduceIte,Tryz.f159,aF,aE,bD,bE,eX,eY,eH,eI,rQ,rR,rS,rT,rU,rV,eaa,hlta,aN,bI,eai,hlti,aK,aZ,aB.aO,aX.aO]
     try(with_reducible intro _)
     refine aH.wn4 (qK.sub (by repeat'(first|exact b8.nil|refine b8.cons ?_ ?_|exact Sub.refl _|(rw[aB.aO];exact Sub.refl _)|exact Sub.eA rfl rfl rfl|exact Sub.ip (b9 aA) bF|exact Sub.eA (b9 aA) rfl rfl|exact Sub.ip dI bF|exact Sub.eA dI dC dC)) hxi) aUG ⟨aKC,b6⟩ ⟨dW,aKD,cT⟩ ⟨uI,pY,aKE,kI⟩ ?_
     rintro r l_ gb ⟨e_b,oeb,rfl,rfl⟩ wb aUG b6 cT kI
     have oob:=oeb
     rw[aB.tJ]at oob
     obtain⟨aBN,rfl,kJ⟩:=oob
     try simp -dsimp -implicitDefEqProofs only[go_sem,↓reduceIte,Tryz.f159,aF,aE,bD,bE,eX,eY,eH,eI,rQ,rR,rS,rT,rU,rV,eaa,hlta,aN,bI,eai,hlti,aK,aZ,kJ.flat,kJ.one,OV.aM,OV.aD,OV.aR,aB.aO,aX.aO]
     repeat'(with_reducible first|refine And.intro eU ?_)
     intro mi qmi
     obtain⟨uR,uS,uT,aJ8⟩:=cB (show ¬mi=n5 from qmi.1)
     obtain⟨uU,uV,uW,aJ9⟩:=cB (show ¬mi=n3 from qmi.2.1)
     obtain⟨uX,uY,uZ,aKA⟩:=cB (show ¬mi=n2 from qmi.2.2.1)
     obtain⟨a8A,aKH,aKI,a8B⟩:=cB (show ¬mi=ni from qmi.2.2.2.1)
     have aKB:=qmi.2.2.2.2
     try simp -dsimp -implicitDefEqProofs only[go_sem,↓reduceIte,Tryz.f159,aF,aE,bD,bE,eX,eY,eH,eI,rQ,rR,rS,rT,rU,rV,uS,uT,uV,uW,uY,uZ,aKH,aKI,eaa,hlta,aN,bI,eai,hlti,aK,aZ,kJ.flat,kJ.one,OV.aM,OV.aD,OV.aR]
     refine⟨(ki+1,esi++[[.v (.int .i64 x.aJ[ka].bG[ki].bH),.v (.int .i64 x.aJ[ka].bG[ki].bZ),.v (.int .i64 x.aJ[ka].bG[ki].dR),.v (.int .i64 x.aJ[ka].bG[ki].dB),aBN]],gb,some mi),?_⟩
     simp only
     refine⟨?_,lU,⟨by omega,OR.snoc hori hlti oeb,hnewi.snoc wb,b6,cT,kI,aKB,(λn_ e_=>by obtain rfl:=eN e_;exact⟨uX,uU,uR⟩)⟩,by omega⟩
     all_goals(repeat'(with_reducible refine And.intro ?_ ?_))
     all_goals first|rfl|trivial|(rw[IntWalk.i64_in _ aA];omega)
   ·have a8C:ki=x.aJ[ka].bG.length:=by omega
    subst a8C
    rw[eJ]at hori
    have aKJ:dG gi_ (.row 5 (OV.cells esi)) zB n2=none:=e8 b6 λn_ e_=>(honi n_ e_).1
    have aKK:dG gi_ (.row 5 (OV.cells esi)) zB n3=none:=e8 cT λn_ e_=>(honi n_ e_).2.1
    have aKL:dG gi_ (.row 5 (OV.cells esi)) zB n5=none:=e8 kI λn_ e_=>(honi n_ e_).2.2
    try simp -dsimp -implicitDefEqProofs only[go_sem,↓reduceIte,Tryz.f159,aF,aE,bD,bE,eX,eY,eH,eI,eaa,hlta,aN,bI,fY,iT,OV.aM,OV.aD,OV.aR,cO,aX.aO]
    try(with_reducible intro _)
    repeat'(with_reducible first|refine And.intro eU ?_)
    have b6:=aKJ
    have cT:=aKK
    have kI:=aKL
    have wf:=sI (sz:=5) hnewi hosi
    intro ma qma
    obtain⟨a8G,aKM,aKN,a8H⟩:=cB (show ¬ma=n5 from qma.1)
    obtain⟨aGX,aKO,aKP,a8I⟩:=cB (show ¬ma=n3 from qma.2.1)
    obtain⟨aGW,aKQ,aKR,a8J⟩:=cB (show ¬ma=n2 from qma.2.2.1)
    have a8K:=qma.2.2.2
    try simp -dsimp -implicitDefEqProofs only[go_sem,↓reduceIte,Tryz.f159,aF,aE,bD,bE,eX,eY,eH,eI,aKM,aKN,aKO,aKP,aKQ,aKR,eaa,hlta,aN,bI,fY,iT,OV.aM,OV.aD,OV.aR]
    refine⟨(ka+1,([]:List (List OV))++[[.v (.str x.aJ[ka].fG),.v (I x.aJ[ka].bN),(gov 5 esi zB)]],(dG gi_ (.row 5 (OV.cells esi)) zB),some ma),?_⟩
    simp only
    refine⟨?_,(Heap.wk.trans (b:=(bL (bL (dG (dG gi_ (.row 5 (OV.cells esi)) zB) (.row 3 (OV.cells ([]:List (List OV))++[[Cell.v (.str x.aJ[ka].fG),Cell.v (I x.aJ[ka].bN),Cell.v (j3 5 esi.length zB)]])) (some ma)) n2 (.row 1 [[.v .aU]])) n3 (.row 1 [[.v (j3 3 (([]:List (List OV))++[[.v (.str x.aJ[ka].fG),.v (I x.aJ[ka].bN),(gov 5 esi zB)]]).length (some ma))]]))) (Heap.aJR (m:=ma) (sz:=3) (es:=(OV.cells ([]:List (List OV))++[[Cell.v (.str x.aJ[ka].fG),Cell.v (I x.aJ[ka].bN),Cell.v (j3 5 esi.length zB)]])) (es':=OV.cells (([]:List (List OV))++[[.v (.str x.aJ[ka].fG),.v (I x.aJ[ka].bN),(gov 5 esi zB)]])) (λq_ hq_=>by simp only[dD,aK,if_neg hq_]) aPB aPB bM8) (Heap.iU lU)),⟨by omega,OR.snoc hora hlta ⟨_,rfl,yK hori hosi⟩,hnewa.snoc bBD,b6,cT,a8K,(λn_ e_=>by obtain rfl:=eN e_;exact⟨aGW,aGX⟩)⟩,by omega⟩
    all_goals(repeat'(with_reducible refine And.intro ?_ ?_))
    all_goals first|rfl|trivial|(rw[IntWalk.i64_in _ aA];omega)
  |some na =>
   rw[k6]at hosa
   have aBO:=hosa
   have hna:=hona na rfl
   obtain⟨bV5,l7,l8,aUH⟩:=cB (show ¬na=n2 from hna.1)
   obtain⟨bV6,l9,mA,aUI⟩:=cB (show ¬na=n3 from hna.2)
   try simp -dsimp -implicitDefEqProofs only[go_sem,↓reduceIte,Tryz.f159,aF,aE,bD,bE,l7,l8,l9,mA,eaa,hlta,aK,aZ,aX.aO]
   try(with_reducible intro _)
   intro n5 qn5
   obtain⟨uI,eX,eY,aUB⟩:=cB (show ¬n5=n3 from qn5.1)
   obtain⟨pY,eH,eI,aJV⟩:=cB (show ¬n5=n2 from qn5.2.1)
   obtain⟨aUJ,nN,nO,bV7⟩:=cB (show ¬n5=na from qn5.2.2.1)
   have kI:=qn5.2.2.2
   try simp -dsimp -implicitDefEqProofs only[go_sem,↓reduceIte,Tryz.f159,aF,aE,bD,bE,l7,l8,l9,mA,eX,eY,eH,eI,nN,nO,eaa,hlta,aK,aZ,aX.aO]
   try(with_reducible intro _)
   refine cY aQ7 bC8 bC9 (λs:Nat×List (List OV)×Heap×Option Nat=>[(0,.ip 1 [[dA 3 aX.c x.aJ]] 0 0),(2,.op n2 1 0 0),(3,.op n3 1 0 0),(4,(I ka)),(5,.op n5 3 0 0),(6,(I s.1))]) (λs=>(bL (bL (bL (bL (dG s.2.2.1 (.row 5 (OV.cells s.2.1)) s.2.2.2) na (.row 3 (OV.cells esa))) n2 (.row 1 [[.v .aU]])) n3 (.row 1 [[.v (.os na 3 0 esa.length)]])) n5 (.row 3 [[.v (.str x.aJ[ka].fG),.v (I x.aJ[ka].bN),.v (j3 5 s.2.1.length s.2.2.2)]]))) (λs=>s.1<=x.aJ[ka].bG.length/\OR aB.o (x.aJ[ka].bG.take s.1) s.2.1/\eO ga_ (OV.bV s.2.1) s.2.2.1/\s.2.2.1 na=none/\s.2.2.1 n2=none/\s.2.2.1 n3=none/\s.2.2.1 n5=none/\zE s.2.2.1 s.2.1 s.2.2.2/\∀ n:Nat,s.2.2.2=some n->n≠na/\n≠n2/\n≠n3/\n≠n5) (λs=>x.aJ[ka].bG.length-s.1) (0,[],ga_,none) ?_ ?_
   ·exact⟨by simp[eE,dJ],lU,iF _,trivial,eO.nil _,aBO,b6,cT,kI,rfl,by simp⟩
   rintro⟨ki,esi,gi_,zB⟩ ⟨hkki,hori,hnewi,aBO,b6,cT,kI,hosi,honi⟩
   simp only at hkki hori hnewi aBO b6 cT kI hosi honi ⊢
   have hleni:esi.length=ki:=by have:=hori.length;simp at this;omega
   rcases cX ki x.aJ[ka].bG.length with hlti|hgei
   ·have eai:x.aJ[ka].bG[ki]?=some x.aJ[ka].bG[ki]:=cJ hlti
    have hxi:=a7R (x.aJ[ka].bG[ki]) bBL
    cases zB with
    |none =>
     rw[jX]at hosi
     subst hosi
     try simp -dsimp -implicitDefEqProofs only[go_sem,↓reduceIte,Tryz.f159,aF,aE,bD,bE,l7,l8,l9,mA,eX,eY,eH,eI,nN,nO,eaa,hlta,aK,aZ,eai,hlti,aN,bI,aB.aO,aX.aO]
     try(with_reducible intro _)
     refine aH.wn4 (qK.sub (by repeat'(first|exact b8.nil|refine b8.cons ?_ ?_|exact Sub.refl _|(rw[aB.aO];exact Sub.refl _)|exact Sub.eA rfl rfl rfl|exact Sub.ip (b9 aA) bF|exact Sub.eA (b9 aA) rfl rfl|exact Sub.ip dI bF|exact Sub.eA dI dC dC)) hxi) aBO ⟨aUH,b6⟩ ⟨dW,aUI,cT⟩ ⟨uI,pY,aUJ,kI⟩ ?_
     rintro r l_ gb ⟨e_b,oeb,rfl,rfl⟩ wb aBO b6 cT kI
     have oob:=oeb
     rw[aB.tJ]at oob
     obtain⟨aBN,rfl,kJ⟩:=oob
     try simp -dsimp -implicitDefEqProofs only[go_sem,↓reduceIte,Tryz.f159,aF,aE,bD,bE,l7,l8,l9,mA,eX,eY,eH,eI,nN,nO,eaa,hlta,aK,aZ,eai,hlti,aN,bI,kJ.flat,kJ.one,OV.aM,OV.aD,OV.aR,aB.aO,aX.aO]
     repeat'(with_reducible first|refine And.intro eU ?_)
     intro mi qmi
     obtain⟨uR,uS,uT,aJ8⟩:=cB (show ¬mi=n5 from qmi.1)
     obtain⟨uU,uV,uW,aJ9⟩:=cB (show ¬mi=n3 from qmi.2.1)
     obtain⟨uX,uY,uZ,aKA⟩:=cB (show ¬mi=n2 from qmi.2.2.1)
     obtain⟨aKU,aKV,aKW,a8M⟩:=cB (show ¬mi=na from qmi.2.2.2.1)
     have aKB:=qmi.2.2.2.2
     try simp -dsimp -implicitDefEqProofs only[go_sem,↓reduceIte,Tryz.f159,aF,aE,bD,bE,l7,l8,l9,mA,eX,eY,eH,eI,nN,nO,uS,uT,uV,uW,uY,uZ,aKV,aKW,eaa,hlta,aK,aZ,eai,hlti,aN,bI,kJ.flat,kJ.one,OV.aM,OV.aD,OV.aR]
     refine⟨(ki+1,([]:List (List OV))++[[.v (.int .i64 x.aJ[ka].bG[ki].bH),.v (.int .i64 x.aJ[ka].bG[ki].bZ),.v (.int .i64 x.aJ[ka].bG[ki].dR),.v (.int .i64 x.aJ[ka].bG[ki].dB),aBN]],gb,some mi),?_⟩
     simp only
     refine⟨?_,lU,⟨by omega,OR.snoc hori hlti oeb,hnewi.snoc wb,aBO,b6,cT,kI,aKB,(λn_ e_=>by obtain rfl:=eN e_;exact⟨aKU,uX,uU,uR⟩)⟩,by omega⟩
     all_goals(repeat'(with_reducible refine And.intro ?_ ?_))
     all_goals first|rfl|trivial|(rw[IntWalk.i64_in _ aA];omega)
    |some ni =>
     rw[k6]at hosi
     have aUG:=hosi
     have hni:=honi ni rfl
     obtain⟨bV9,aHU,aHV,a8N⟩:=cB (show ¬ni=na from hni.1)
     obtain⟨a73,rQ,rR,aKC⟩:=cB (show ¬ni=n2 from hni.2.1)
     obtain⟨a74,rS,rT,aKD⟩:=cB (show ¬ni=n3 from hni.2.2.1)
     obtain⟨a77,rU,rV,aKE⟩:=cB (show ¬ni=n5 from hni.2.2.2)
     try simp -dsimp -implicitDefEqProofs only[go_sem,↓reduceIte,Tryz.f159,aF,aE,bD,bE,l7,l8,l9,mA,eX,eY,eH,eI,nN,nO,aHU,aHV,rQ,rR,rS,rT,rU,rV,eaa,hlta,aK,aZ,eai,hlti,aK,aZ,aB.aO,aX.aO]
     try(with_reducible intro _)
     refine aH.wn5 (qK.sub (by repeat'(first|exact b8.nil|refine b8.cons ?_ ?_|exact Sub.refl _|(rw[aB.aO];exact Sub.refl _)|exact Sub.eA rfl rfl rfl|exact Sub.ip (b9 aA) bF|exact Sub.eA (b9 aA) rfl rfl|exact Sub.ip dI bF|exact Sub.eA dI dC dC)) hxi) aUG ⟨a8N,aBO⟩ ⟨aUH,aKC,b6⟩ ⟨dW,aUI,aKD,cT⟩ ⟨uI,pY,aUJ,aKE,kI⟩ ?_
     rintro r l_ gb ⟨e_b,oeb,rfl,rfl⟩ wb aUG aBO b6 cT kI
     have oob:=oeb
     rw[aB.tJ]at oob
     obtain⟨aBN,rfl,kJ⟩:=oob
     try simp -dsimp -implicitDefEqProofs only[go_sem,↓reduceIte,Tryz.f159,aF,aE,bD,bE,l7,l8,l9,mA,eX,eY,eH,eI,nN,nO,aHU,aHV,rQ,rR,rS,rT,rU,rV,eaa,hlta,aK,aZ,eai,hlti,aK,aZ,kJ.flat,kJ.one,OV.aM,OV.aD,OV.aR,aB.aO,aX.aO]
     repeat'(with_reducible first|refine And.intro eU ?_)
     intro mi qmi
     obtain⟨uR,uS,uT,aJ8⟩:=cB (show ¬mi=n5 from qmi.1)
     obtain⟨uU,uV,uW,aJ9⟩:=cB (show ¬mi=n3 from qmi.2.1)
     obtain⟨uX,uY,uZ,aKA⟩:=cB (show ¬mi=n2 from qmi.2.2.1)
     obtain⟨aKU,aKV,aKW,a8M⟩:=cB (show ¬mi=na from qmi.2.2.2.1)
     obtain⟨a8A,aKH,aKI,a8B⟩:=cB (show ¬mi=ni from qmi.2.2.2.2.1)
     have aKB:=qmi.2.2.2.2.2
     try simp -dsimp -implicitDefEqProofs only[go_sem,↓reduceIte,Tryz.f159,aF,aE,bD,bE,l7,l8,l9,mA,eX,eY,eH,eI,nN,nO,aHU,aHV,rQ,rR,rS,rT,rU,rV,uS,uT,uV,uW,uY,uZ,aKV,aKW,aKH,aKI,eaa,hlta,aK,aZ,eai,hlti,aK,aZ,kJ.flat,kJ.one,OV.aM,OV.aD,OV.aR]
     refine⟨(ki+1,esi++[[.v (.int .i64 x.aJ[ka].bG[ki].bH),.v (.int .i64 x.aJ[ka].bG[ki].bZ),.v (.int .i64 x.aJ[ka].bG[ki].dR),.v (.int .i64 x.aJ[ka].bG[ki].dB),aBN]],gb,some mi),?_⟩
     simp only
     refine⟨?_,lU,⟨by omega,OR.snoc hori hlti oeb,hnewi.snoc wb,aBO,b6,cT,kI,aKB,(λn_ e_=>by obtain rfl:=eN e_;exact⟨aKU,uX,uU,uR⟩)⟩,by omega⟩
     all_goals(repeat'(with_reducible refine And.intro ?_ ?_))
     all_goals first|rfl|trivial|(rw[IntWalk.i64_in _ aA];omega)
   ·have a8C:ki=x.aJ[ka].bG.length:=by omega
    subst a8C
    rw[eJ]at hori
    have a8O:dG gi_ (.row 5 (OV.cells esi)) zB na=none:=e8 aBO λn_ e_=>(honi n_ e_).1
    have aKJ:dG gi_ (.row 5 (OV.cells esi)) zB n2=none:=e8 b6 λn_ e_=>(honi n_ e_).2.1
    have aKK:dG gi_ (.row 5 (OV.cells esi)) zB n3=none:=e8 cT λn_ e_=>(honi n_ e_).2.2.1
    have aKL:dG gi_ (.row 5 (OV.cells esi)) zB n5=none:=e8 kI λn_ e_=>(honi n_ e_).2.2.2
    try simp -dsimp -implicitDefEqProofs only[go_sem,↓reduceIte,Tryz.f159,aF,aE,bD,bE,l7,l8,l9,mA,eX,eY,eH,eI,nN,nO,eaa,hlta,aK,aZ,fY,iT,OV.aM,OV.aD,OV.aR,cO,aX.aO]
    try(with_reducible intro _)
    repeat'(with_reducible first|refine And.intro eU ?_)
    have aBO:=a8O
    have b6:=aKJ
    have cT:=aKK
    have kI:=aKL
    have wf:=sI (sz:=5) hnewi hosi
    intro ma qma
    obtain⟨a8G,aKM,aKN,a8H⟩:=cB (show ¬ma=n5 from qma.1)
    obtain⟨aGX,aKO,aKP,a8I⟩:=cB (show ¬ma=n3 from qma.2.1)
    obtain⟨aGW,aKQ,aKR,a8J⟩:=cB (show ¬ma=n2 from qma.2.2.1)
    obtain⟨bWA,a8P,a8Q,bWB⟩:=cB (show ¬ma=na from qma.2.2.2.1)
    have a8K:=qma.2.2.2.2
    try simp -dsimp -implicitDefEqProofs only[go_sem,↓reduceIte,Tryz.f159,aF,aE,bD,bE,l7,l8,l9,mA,eX,eY,eH,eI,nN,nO,aKM,aKN,aKO,aKP,aKQ,aKR,a8P,a8Q,eaa,hlta,aK,aZ,fY,iT,OV.aM,OV.aD,OV.aR]
    refine⟨(ka+1,esa++[[.v (.str x.aJ[ka].fG),.v (I x.aJ[ka].bN),(gov 5 esi zB)]],(dG gi_ (.row 5 (OV.cells esi)) zB),some ma),?_⟩
    simp only
    refine⟨?_,(Heap.wk.trans (b:=(bL (bL (dG (dG gi_ (.row 5 (OV.cells esi)) zB) (.row 3 (OV.cells esa++[[Cell.v (.str x.aJ[ka].fG),Cell.v (I x.aJ[ka].bN),Cell.v (j3 5 esi.length zB)]])) (some ma)) n2 (.row 1 [[.v .aU]])) n3 (.row 1 [[.v (j3 3 (esa++[[.v (.str x.aJ[ka].fG),.v (I x.aJ[ka].bN),(gov 5 esi zB)]]).length (some ma))]]))) (Heap.aJR (m:=ma) (sz:=3) (es:=(OV.cells esa++[[Cell.v (.str x.aJ[ka].fG),Cell.v (I x.aJ[ka].bN),Cell.v (j3 5 esi.length zB)]])) (es':=OV.cells (esa++[[.v (.str x.aJ[ka].fG),.v (I x.aJ[ka].bN),(gov 5 esi zB)]])) (λq_ hq_=>by simp only[dD,aK,if_neg hq_]) aPB aPB bM8) (Heap.iU lU)),⟨by omega,OR.snoc hora hlta ⟨_,rfl,yK hori hosi⟩,hnewa.snoc bBD,b6,cT,a8K,(λn_ e_=>by obtain rfl:=eN e_;exact⟨aGW,aGX⟩)⟩,by omega⟩
    all_goals(repeat'(with_reducible refine And.intro ?_ ?_))
    all_goals first|rfl|trivial|(rw[IntWalk.i64_in _ aA];omega)
 ·have bWC:ka=x.aJ.length:=by omega
  subst bWC
  rw[eJ]at hora
  have bWD:dG ga_ (.row 3 (OV.cells esa)) oa_ n2=none:=e8 b6 λn_ e_=>(hona n_ e_).1
  have bWE:dG ga_ (.row 3 (OV.cells esa)) oa_ n3=none:=e8 cT λn_ e_=>(hona n_ e_).2
  try simp -dsimp -implicitDefEqProofs only[go_sem,↓reduceIte,Tryz.f159,aF,aE,bD,bE,fY,iT,cO]
  try(with_reducible intro _)
  refine⟨_,(dG ga_ (.row 3 (OV.cells esa)) oa_),_,Shift.of (Sub.agg (b8.cons yX b8.nil)) lU,⟨[(gov 3 esa oa_)],?_,rfl,rfl⟩,?_⟩
  ·exact⟨(gov 3 esa oa_),rfl,yK hora hosa⟩
  ·have hq:=(sI (sz:=3) hnewa hosa)
   simpa only[OV.b7,OV.cV,OV.dV,pR,gU,oW]using hq
@[go_sem] def bDA:List Nat:=[0,1,2,3,5,18,19,20,21]
@[go_sem] def bS7:List Nat:=[1,28]
@[go_sem] def bS8:Marks:=λid=>match id with|1=>([2,9,11,12],(.op 0 (.op 1 (.op 3 (.op 4 (.op 5 (.op 6 (.op 7 (.op 8 (.alt 2 (.alt 9 (.op 10 (.op 11 (.op 12 .nil))) 11 (.op 9 (.op 10 (.op 12 .nil)))) 11 (.op 2 (.op 9 (.op 10 (.op 12 .nil))))))))))))),[])|5=>([1,3,5,7],(.op 0 (.op 2 (.op 1 (.op 3 (.op 4 (.op 5 (.op 6 (.op 7 .nil)))))))),[(1,3)])|_=>([],.nil,[])
set_option maxHeartbeats 1000000 in
theorem aUK (x:dF) (hs:x.s<=1048576):qK Tryz.prog 127 [.agg x.c] (QA x.o):=by
 have hs':=x.gB
 have nA:=x.bR.gB
 try simp only[gI]at hs'
 simp only[dF.aO]
 refine tA 33 bDA bS7 bS8 Tryz.func127 λh=>?_
 try simp -dsimp -implicitDefEqProofs only[go_sem,↓reduceIte,Tryz.f127,aF,aE]
 intro n2 qn2
 have b6:=qn2
 try simp -dsimp -implicitDefEqProofs only[go_sem,↓reduceIte,Tryz.f127,aF,aE]
 try(with_reducible refine And.intro cI ?_)
 refine⟨?_,?_⟩
 rotate_left
 focus
  intro n3 uH
  obtain⟨dW,bD,bE,oN⟩:=cB (show ¬n3=n2 from uH.1)
  have cT:=uH.2
  try simp -dsimp -implicitDefEqProofs only[go_sem,↓reduceIte,Tryz.f127,aF,aE,bD,bE,OV.aM,OV.aD,OV.aR]
  refine aH.p5 ((aMN x.bR aA)) b6 ⟨dW,cT⟩ ?_
  rintro r l_ gc0 ⟨aZ0,aFJ,rfl,rfl⟩ wc0 b6 cT
  have aFK:=aFJ
  obtain⟨lL,rfl,bA⟩:=aFK
  try simp -dsimp -implicitDefEqProofs only[go_sem,↓reduceIte,Tryz.f127,aF,aE,bD,bE,bA.flat,bA.one,OV.aM,OV.aD,OV.aR]
  refine aH.p5 (uG x.c7 aA) b6 ⟨dW,cT⟩ ?_
  rintro r l_ gc1 ⟨pP,bM,rfl,rfl⟩ wc1 b6 cT
  try simp -dsimp -implicitDefEqProofs only[go_sem,↓reduceIte,Tryz.f127,aF,aE,bD,bE,bA.flat,bA.one,bM.flat,bM.one,OV.aM,OV.aD,OV.aR]
  repeat'(with_reducible first|refine And.intro eU ?_)
  try(with_reducible intro _)
 rotate_right
 refine aH.wn1 ((aMN x.bR aA)) b6 ?_
 rintro r l_ gc0 ⟨aZ0,aFJ,rfl,rfl⟩ wc0 b6
 have aFK:=aFJ
 obtain⟨lL,rfl,bA⟩:=aFK
 try simp -dsimp -implicitDefEqProofs only[go_sem,↓reduceIte,Tryz.f127,aF,aE,bA.flat,bA.one,OV.aM,OV.aD,OV.aR]
 try(with_reducible refine And.intro cI ?_)
 refine⟨?_,?_⟩
 rotate_left
 focus
  intro n3 uH
  obtain⟨dW,bD,bE,oN⟩:=cB (show ¬n3=n2 from uH.1)
  have cT:=uH.2
  try simp -dsimp -implicitDefEqProofs only[go_sem,↓reduceIte,Tryz.f127,aF,aE,bD,bE,bA.flat,bA.one,OV.aM,OV.aD,OV.aR]
  refine aH.p5 (uG x.c7 aA) b6 ⟨dW,cT⟩ ?_
  rintro r l_ gc1 ⟨pP,bM,rfl,rfl⟩ wc1 b6 cT
  try simp -dsimp -implicitDefEqProofs only[go_sem,↓reduceIte,Tryz.f127,aF,aE,bD,bE,bA.flat,bA.one,bM.flat,bM.one,OV.aM,OV.aD,OV.aR]
  repeat'(with_reducible first|refine And.intro eU ?_)
  try(with_reducible intro _)
 rotate_right
 refine aH.wn1 (uG x.c7 aA) b6 ?_
 rintro r l_ gc1 ⟨pP,bM,rfl,rfl⟩ wc1 b6
 try simp -dsimp -implicitDefEqProofs only[go_sem,↓reduceIte,Tryz.f127,aF,aE,bA.flat,bA.one,bM.flat,bM.one,OV.aM,OV.aD,OV.aR]
 repeat'(with_reducible first|refine And.intro eU ?_)
 intro n3 uH
 obtain⟨dW,bD,bE,oN⟩:=cB (show ¬n3=n2 from uH.1)
 have cT:=uH.2
 try simp -dsimp -implicitDefEqProofs only[go_sem,↓reduceIte,Tryz.f127,aF,aE,bD,bE,bA.flat,bA.one,bM.flat,bM.one,OV.aM,OV.aD,OV.aR]
 try(with_reducible intro _)
 all_goals
  refine cY bDA bS7 bS8 (λs:Nat×List (List OV)×Heap×Option Nat=>[(2,.op n2 5 0 0),(3,.op n3 5 0 0),(18,dA 1 (λl=>[dA 1 (λn=>[I n]) l]) x.aV),(19,I x.aV.length),(20,(I s.1))]) (λs=>(bL (bL (dG s.2.2.1 (.row 1 (OV.cells s.2.1)) s.2.2.2) n2 (.row 5 [[.v (.aU),.v (.int .i64 0),.v (.int .i64 0),.v (.aU),.v (.aU)]])) n3 (.row 5 [[.v (lL.val),.v (I x.bO),.v (I x.aQ),.v (pP.val),.v (j3 1 s.2.1.length s.2.2.2)]]))) (λs=>s.1<=x.aV.length/\OR (oS (oP I) 1) (x.aV.take s.1) s.2.1/\eO gc1 (OV.bV s.2.1) s.2.2.1/\s.2.2.1 n2=none/\s.2.2.1 n3=none/\zE s.2.2.1 s.2.1 s.2.2.2/\∀ n:Nat,s.2.2.2=some n->n≠n2/\n≠n3) (λs=>x.aV.length-s.1) (0,[],gc1,none) ?_ ?_
  ·exact⟨by simp[eE,dJ],lU,iF _,trivial,eO.nil _,b6,cT,rfl,by simp⟩
  rintro⟨k,es,g_,o_⟩ ⟨hkk,hor,hnew,b6,cT,hos,hon⟩
  simp only at hkk hor hnew b6 cT hos hon ⊢
  have hlen:es.length=k:=by have:=hor.length;simp at this;omega
  rcases cX k x.aV.length with hlt|hge
  ·have ea:x.aV[k]?=some x.aV[k]:=cJ hlt
   have hx:=uG x.aV[k] bRC
   cases o_ with
   |none =>
    rw[jX]at hos
    subst hos
    try simp -dsimp -implicitDefEqProofs only[go_sem,↓reduceIte,Tryz.f127,aF,aE,bD,bE,ea,hlt,aN,bI,bA.flat,bA.one,bM.flat,bM.one]
    try(with_reducible intro _)
    refine aH.p5 (hx) b6 ⟨dW,cT⟩ ?_
    rintro r l_ gc ⟨aUL,aBR,rfl,rfl⟩ wc b6 cT
    try simp -dsimp -implicitDefEqProofs only[go_sem,↓reduceIte,Tryz.f127,aF,aE,bD,bE,ea,hlt,aN,bI,bA.flat,bA.one,bM.flat,bM.one,aBR.flat,aBR.one,OV.aM,OV.aD,OV.aR]
    repeat'(with_reducible first|refine And.intro eU ?_)
    intro m qm
    obtain⟨wW,wX,wY,aMO⟩:=cB (show ¬m=n3 from qm.1)
    obtain⟨pF,pG,pH,aDY⟩:=cB (show ¬m=n2 from qm.2.1)
    have z_m:=qm.2.2
    try simp -dsimp -implicitDefEqProofs only[go_sem,↓reduceIte,Tryz.f127,aF,aE,bD,bE,wX,wY,pG,pH,ea,hlt,aN,bI,bA.flat,bA.one,bM.flat,bM.one,aBR.flat,aBR.one,OV.aM,OV.aD,OV.aR]
    refine⟨(k+1,([]:List (List OV))++[[aUL]],gc,some m),?_⟩
    simp only
    refine⟨?_,lU,⟨by omega,OR.snoc hor hlt ⟨aUL,rfl,aBR⟩,hnew.snoc bBH,b6,cT,z_m,(λn_ e_=>by obtain rfl:=eN e_;exact⟨pF,wW⟩)⟩,by omega⟩
    all_goals(repeat'(with_reducible refine And.intro ?_ ?_))
    all_goals first|rfl|trivial|(rw[IntWalk.i64_in _ aA];omega)
   |some n =>
    rw[k6]at hos
    have z_n:=hos
    have hn:=hon n rfl
    obtain⟨aXX,oA,oB,aDZ⟩:=cB (show ¬n=n2 from hn.1)
    obtain⟨bDB,vG,vH,aMP⟩:=cB (show ¬n=n3 from hn.2)
    try simp -dsimp -implicitDefEqProofs only[go_sem,↓reduceIte,Tryz.f127,aF,aE,bD,bE,oA,oB,vG,vH,ea,hlt,aK,aZ,bA.flat,bA.one,bM.flat,bM.one]
    try(with_reducible intro _)
    refine aH.wn3 (hx) z_n ⟨aDZ,b6⟩ ⟨dW,aMP,cT⟩ ?_
    rintro r l_ gc ⟨aUL,aBR,rfl,rfl⟩ wc z_n b6 cT
    try simp -dsimp -implicitDefEqProofs only[go_sem,↓reduceIte,Tryz.f127,aF,aE,bD,bE,oA,oB,vG,vH,ea,hlt,aK,aZ,bA.flat,bA.one,bM.flat,bM.one,aBR.flat,aBR.one,OV.aM,OV.aD,OV.aR]
    repeat'(with_reducible first|refine And.intro eU ?_)
    intro m qm
    obtain⟨wW,wX,wY,aMO⟩:=cB (show ¬m=n3 from qm.1)
    obtain⟨pF,pG,pH,aDY⟩:=cB (show ¬m=n2 from qm.2.1)
    obtain⟨bF0,aN6,aN7,bF1⟩:=cB (show ¬m=n from qm.2.2.1)
    have z_m:=qm.2.2.2
    try simp -dsimp -implicitDefEqProofs only[go_sem,↓reduceIte,Tryz.f127,aF,aE,bD,bE,oA,oB,vG,vH,wX,wY,pG,pH,aN6,aN7,ea,hlt,aK,aZ,bA.flat,bA.one,bM.flat,bM.one,aBR.flat,aBR.one,OV.aM,OV.aD,OV.aR]
    refine⟨(k+1,es++[[aUL]],gc,some m),?_⟩
    simp only
    refine⟨?_,lU,⟨by omega,OR.snoc hor hlt ⟨aUL,rfl,aBR⟩,hnew.snoc bBH,b6,cT,z_m,(λn_ e_=>by obtain rfl:=eN e_;exact⟨pF,wW⟩)⟩,by omega⟩
    all_goals(repeat'(with_reducible refine And.intro ?_ ?_))
    all_goals first|rfl|trivial|(rw[IntWalk.i64_in _ aA];omega)
  ·have hk2:k=x.aV.length:=by omega
   subst hk2
   rw[eJ]at hor
   have aXY:dG g_ (.row 1 (OV.cells es)) o_ n2=none:=e8 b6 λn_ e_=>(hon n_ e_).1
   have bDC:dG g_ (.row 1 (OV.cells es)) o_ n3=none:=e8 cT λn_ e_=>(hon n_ e_).2
   try simp -dsimp -implicitDefEqProofs only[go_sem,↓reduceIte,Tryz.f127,aF,aE,bD,bE,fY,iT,bA.flat,bA.one,bM.flat,bM.one,cO]
   try(with_reducible intro _)
   refine⟨_,(dG g_ (.row 1 (OV.cells es)) o_),_,Shift.of (Sub.agg (b8.cons (Sub.refl _) (b8.cons (Sub.refl _) (b8.cons (Sub.refl _) (b8.cons (Sub.refl _) (b8.cons yX b8.nil)))))) lU,⟨[lL,.v (I x.bO),.v (I x.aQ),pP,(gov 1 es o_)],?_,rfl,rfl⟩,?_⟩
   ·exact⟨lL,pP,(gov 1 es o_),rfl,bA,bM,yK hor hos⟩
   ·have hq:=(eO.append (eO.append wc0 wc1) (sI (sz:=1) hnew hos))
    simpa only[OV.b7,OV.cV,OV.dV,pR,gU,oW]using hq
@[go_sem] def bDD:List Nat:=[0,2,3,4,29]
@[go_sem] def bS9:List Nat:=[42]
@[go_sem] def bTA:Marks:=λid=>match id with|1=>([3,16,18,19],(.op 0 (.op 1 (.op 2 (.op 4 (.op 5 (.op 6 (.op 7 (.op 8 (.op 9 (.op 10 (.op 11 (.op 12 (.op 13 (.op 14 (.op 15 (.alt 3 (.alt 16 (.op 17 (.op 18 (.op 19 .nil))) 18 (.op 16 (.op 17 (.op 19 .nil)))) 18 (.op 3 (.op 16 (.op 17 (.op 19 .nil)))))))))))))))))))),[])|5=>([1,9,11,13],(.op 0 (.op 2 (.op 3 (.op 4 (.op 5 (.op 6 (.op 7 (.op 8 (.op 1 (.op 9 (.op 10 (.op 11 (.op 12 (.op 13 .nil)))))))))))))),[(1,9)])|_=>([],.nil,[])
set_option maxHeartbeats 1000000 in
theorem aOB (x:dF) (hs:x.s<=1048576):qK Tryz.prog 113 [.ip 5 [x.c] 0 0] (QA x.o):=by
 have hs':=x.gB
 have nA:=x.bR.gB
 try simp only[gI]at hs'
 simp only[dF.aO]
 refine tA 46 bDD bS9 bTA Tryz.func113 λh=>?_
 try simp -dsimp -implicitDefEqProofs only[go_sem,↓reduceIte,Tryz.f113,aF,aE]
 intro n2 qn2
 have b6:=qn2
 try simp -dsimp -implicitDefEqProofs only[go_sem,↓reduceIte,Tryz.f113,aF,aE]
 try(with_reducible refine And.intro cI ?_)
 refine⟨?_,?_⟩
 rotate_left
 focus
  intro n3 uH
  obtain⟨dW,bD,bE,oN⟩:=cB (show ¬n3=n2 from uH.1)
  have cT:=uH.2
  try simp -dsimp -implicitDefEqProofs only[go_sem,↓reduceIte,Tryz.f113,aF,aE,bD,bE,OV.aM,OV.aD,OV.aR]
  refine aH.p5 (qK.sub (by repeat'(first|exact b8.nil|refine b8.cons ?_ ?_|exact Sub.refl _|(rw[aB.aO];exact Sub.refl _)|exact Sub.eA rfl rfl rfl|exact Sub.ip (b9 aA) bF|exact Sub.eA (b9 aA) rfl rfl|exact Sub.ip dI bF|exact Sub.eA dI dC dC)) (aI9 x.bR aA)) b6 ⟨dW,cT⟩ ?_
  rintro r l_ gc0 ⟨aZ0,aFJ,rfl,rfl⟩ wc0 b6 cT
  have aFK:=aFJ
  obtain⟨lL,rfl,bA⟩:=aFK
  try simp -dsimp -implicitDefEqProofs only[go_sem,↓reduceIte,Tryz.f113,aF,aE,bD,bE,bA.flat,bA.one,OV.aM,OV.aD,OV.aR]
  refine aH.p5 (l6 x.c7 aA) b6 ⟨dW,cT⟩ ?_
  rintro r l_ gc1 ⟨pP,bM,rfl,rfl⟩ wc1 b6 cT
  try simp -dsimp -implicitDefEqProofs only[go_sem,↓reduceIte,Tryz.f113,aF,aE,bD,bE,bA.flat,bA.one,bM.flat,bM.one,OV.aM,OV.aD,OV.aR]
  repeat'(with_reducible first|refine And.intro eU ?_)
  try(with_reducible intro _)
 rotate_right
 refine aH.wn1 (qK.sub (by repeat'(first|exact b8.nil|refine b8.cons ?_ ?_|exact Sub.refl _|(rw[aB.aO];exact Sub.refl _)|exact Sub.eA rfl rfl rfl|exact Sub.ip (b9 aA) bF|exact Sub.eA (b9 aA) rfl rfl|exact Sub.ip dI bF|exact Sub.eA dI dC dC)) (aI9 x.bR aA)) b6 ?_
 rintro r l_ gc0 ⟨aZ0,aFJ,rfl,rfl⟩ wc0 b6
 have aFK:=aFJ
 obtain⟨lL,rfl,bA⟩:=aFK
 try simp -dsimp -implicitDefEqProofs only[go_sem,↓reduceIte,Tryz.f113,aF,aE,bA.flat,bA.one,OV.aM,OV.aD,OV.aR]
 try(with_reducible refine And.intro cI ?_)
 refine⟨?_,?_⟩
 rotate_left
 focus
  intro n3 uH
  obtain⟨dW,bD,bE,oN⟩:=cB (show ¬n3=n2 from uH.1)
  have cT:=uH.2
  try simp -dsimp -implicitDefEqProofs only[go_sem,↓reduceIte,Tryz.f113,aF,aE,bD,bE,bA.flat,bA.one,OV.aM,OV.aD,OV.aR]
  refine aH.p5 (l6 x.c7 aA) b6 ⟨dW,cT⟩ ?_
  rintro r l_ gc1 ⟨pP,bM,rfl,rfl⟩ wc1 b6 cT
  try simp -dsimp -implicitDefEqProofs only[go_sem,↓reduceIte,Tryz.f113,aF,aE,bD,bE,bA.flat,bA.one,bM.flat,bM.one,OV.aM,OV.aD,OV.aR]
  repeat'(with_reducible first|refine And.intro eU ?_)
  try(with_reducible intro _)
 rotate_right
 refine aH.wn1 (l6 x.c7 aA) b6 ?_
 rintro r l_ gc1 ⟨pP,bM,rfl,rfl⟩ wc1 b6
 try simp -dsimp -implicitDefEqProofs only[go_sem,↓reduceIte,Tryz.f113,aF,aE,bA.flat,bA.one,bM.flat,bM.one,OV.aM,OV.aD,OV.aR]
 repeat'(with_reducible first|refine And.intro eU ?_)
 intro n3 uH
 obtain⟨dW,bD,bE,oN⟩:=cB (show ¬n3=n2 from uH.1)
 have cT:=uH.2
 try simp -dsimp -implicitDefEqProofs only[go_sem,↓reduceIte,Tryz.f113,aF,aE,bD,bE,bA.flat,bA.one,bM.flat,bM.one,OV.aM,OV.aD,OV.aR]
 try(with_reducible intro _)
 all_goals
  refine cY bDD bS9 bTA (λs:Nat×List (List OV)×Heap×Option Nat=>[(0,.ip 5 [[dA 3 aX.c x.bR.aJ,I x.bO,I x.aQ,dA 1 (λn=>[I n]) x.c7,dA 1 (λl=>[dA 1 (λn=>[I n]) l]) x.aV]] 0 0),(2,.op n2 5 0 0),(3,.op n3 5 0 0),(4,(I s.1))]) (λs=>(bL (bL (dG s.2.2.1 (.row 1 (OV.cells s.2.1)) s.2.2.2) n2 (.row 5 [[.v (.aU),.v (.int .i64 0),.v (.int .i64 0),.v (.aU),.v (.aU)]])) n3 (.row 5 [[.v (lL.val),.v (I x.bO),.v (I x.aQ),.v (pP.val),.v (j3 1 s.2.1.length s.2.2.2)]]))) (λs=>s.1<=x.aV.length/\OR (oS (oP I) 1) (x.aV.take s.1) s.2.1/\eO gc1 (OV.bV s.2.1) s.2.2.1/\s.2.2.1 n2=none/\s.2.2.1 n3=none/\zE s.2.2.1 s.2.1 s.2.2.2/\∀ n:Nat,s.2.2.2=some n->n≠n2/\n≠n3) (λs=>x.aV.length-s.1) (0,[],gc1,none) ?_ ?_
  ·exact⟨by simp[eE,dJ],lU,iF _,trivial,eO.nil _,b6,cT,rfl,by simp⟩
  rintro⟨k,es,g_,o_⟩ ⟨hkk,hor,hnew,b6,cT,hos,hon⟩
  simp only at hkk hor hnew b6 cT hos hon ⊢
  have hlen:es.length=k:=by have:=hor.length;simp at this;omega
  rcases cX k x.aV.length with hlt|hge
  ·have ea:x.aV[k]?=some x.aV[k]:=cJ hlt
   have hx:=l6 x.aV[k] bRC
   cases o_ with
   |none =>
    rw[jX]at hos
    subst hos
    try simp -dsimp -implicitDefEqProofs only[go_sem,↓reduceIte,Tryz.f113,aF,aE,bD,bE,ea,hlt,aN,bI,bA.flat,bA.one,bM.flat,bM.one]
    try(with_reducible intro _)
    refine aH.p5 (hx) b6 ⟨dW,cT⟩ ?_
    rintro r l_ gc ⟨aUL,aBR,rfl,rfl⟩ wc b6 cT
    try simp -dsimp -implicitDefEqProofs only[go_sem,↓reduceIte,Tryz.f113,aF,aE,bD,bE,ea,hlt,aN,bI,bA.flat,bA.one,bM.flat,bM.one,aBR.flat,aBR.one,OV.aM,OV.aD,OV.aR]
    repeat'(with_reducible first|refine And.intro eU ?_)
    intro m qm
    obtain⟨wW,wX,wY,aMO⟩:=cB (show ¬m=n3 from qm.1)
    obtain⟨pF,pG,pH,aDY⟩:=cB (show ¬m=n2 from qm.2.1)
    have z_m:=qm.2.2
    try simp -dsimp -implicitDefEqProofs only[go_sem,↓reduceIte,Tryz.f113,aF,aE,bD,bE,wX,wY,pG,pH,ea,hlt,aN,bI,bA.flat,bA.one,bM.flat,bM.one,aBR.flat,aBR.one,OV.aM,OV.aD,OV.aR]
    refine⟨(k+1,([]:List (List OV))++[[aUL]],gc,some m),?_⟩
    simp only
    refine⟨?_,lU,⟨by omega,OR.snoc hor hlt ⟨aUL,rfl,aBR⟩,hnew.snoc bBH,b6,cT,z_m,(λn_ e_=>by obtain rfl:=eN e_;exact⟨pF,wW⟩)⟩,by omega⟩
    all_goals(repeat'(with_reducible refine And.intro ?_ ?_))
    all_goals first|rfl|trivial|(rw[IntWalk.i64_in _ aA];omega)
   |some n =>
    rw[k6]at hos
    have z_n:=hos
    have hn:=hon n rfl
    obtain⟨aXX,oA,oB,aDZ⟩:=cB (show ¬n=n2 from hn.1)
    obtain⟨bDB,vG,vH,aMP⟩:=cB (show ¬n=n3 from hn.2)
    try simp -dsimp -implicitDefEqProofs only[go_sem,↓reduceIte,Tryz.f113,aF,aE,bD,bE,oA,oB,vG,vH,ea,hlt,aK,aZ,bA.flat,bA.one,bM.flat,bM.one]
    try(with_reducible intro _)
    refine aH.wn3 (hx) z_n ⟨aDZ,b6⟩ ⟨dW,aMP,cT⟩ ?_
    rintro r l_ gc ⟨aUL,aBR,rfl,rfl⟩ wc z_n b6 cT
    try simp -dsimp -implicitDefEqProofs only[go_sem,↓reduceIte,Tryz.f113,aF,aE,bD,bE,oA,oB,vG,vH,ea,hlt,aK,aZ,bA.flat,bA.one,bM.flat,bM.one,aBR.flat,aBR.one,OV.aM,OV.aD,OV.aR]
    repeat'(with_reducible first|refine And.intro eU ?_)
    intro m qm
    obtain⟨wW,wX,wY,aMO⟩:=cB (show ¬m=n3 from qm.1)
    obtain⟨pF,pG,pH,aDY⟩:=cB (show ¬m=n2 from qm.2.1)
    obtain⟨bF0,aN6,aN7,bF1⟩:=cB (show ¬m=n from qm.2.2.1)
    have z_m:=qm.2.2.2
    try simp -dsimp -implicitDefEqProofs only[go_sem,↓reduceIte,Tryz.f113,aF,aE,bD,bE,oA,oB,vG,vH,wX,wY,pG,pH,aN6,aN7,ea,hlt,aK,aZ,bA.flat,bA.one,bM.flat,bM.one,aBR.flat,aBR.one,OV.aM,OV.aD,OV.aR]
    refine⟨(k+1,es++[[aUL]],gc,some m),?_⟩
    simp only
    refine⟨?_,lU,⟨by omega,OR.snoc hor hlt ⟨aUL,rfl,aBR⟩,hnew.snoc bBH,b6,cT,z_m,(λn_ e_=>by obtain rfl:=eN e_;exact⟨pF,wW⟩)⟩,by omega⟩
    all_goals(repeat'(with_reducible refine And.intro ?_ ?_))
    all_goals first|rfl|trivial|(rw[IntWalk.i64_in _ aA];omega)
  ·have hk2:k=x.aV.length:=by omega
   subst hk2
   rw[eJ]at hor
   have aXY:dG g_ (.row 1 (OV.cells es)) o_ n2=none:=e8 b6 λn_ e_=>(hon n_ e_).1
   have bDC:dG g_ (.row 1 (OV.cells es)) o_ n3=none:=e8 cT λn_ e_=>(hon n_ e_).2
   try simp -dsimp -implicitDefEqProofs only[go_sem,↓reduceIte,Tryz.f113,aF,aE,bD,bE,fY,iT,bA.flat,bA.one,bM.flat,bM.one,cO]
   try(with_reducible intro _)
   refine⟨_,(dG g_ (.row 1 (OV.cells es)) o_),_,Shift.of (Sub.agg (b8.cons (Sub.refl _) (b8.cons (Sub.refl _) (b8.cons (Sub.refl _) (b8.cons (Sub.refl _) (b8.cons yX b8.nil)))))) lU,⟨[lL,.v (I x.bO),.v (I x.aQ),pP,(gov 1 es o_)],?_,rfl,rfl⟩,?_⟩
   ·exact⟨lL,pP,(gov 1 es o_),rfl,bA,bM,yK hor hos⟩
   ·have hq:=(eO.append (eO.append wc0 wc1) (sI (sz:=1) hnew hos))
    simpa only[OV.b7,OV.cV,OV.dV,pR,gU,oW]using hq
@[go_sem] def bDE:List Nat:=[0,1,2,3,5,20,21,22,23]
@[go_sem] def bTB:List Nat:=[1,30]
@[go_sem] def bTC:Marks:=λid=>match id with|1=>([2,5,8,11,13,14],(.op 0 (.op 1 (.op 3 (.op 4 (.op 6 (.op 7 (.op 9 (.op 10 (.alt 2 (.alt 5 (.alt 8 (.alt 11 (.op 12 (.op 13 (.op 14 .nil))) 13 (.op 11 (.op 12 (.op 14 .nil)))) 13 (.op 8 (.op 11 (.op 12 (.op 14 .nil))))) 13 (.op 5 (.op 8 (.op 11 (.op 12 (.op 14 .nil)))))) 13 (.op 2 (.op 5 (.op 8 (.op 11 (.op 12 (.op 14 .nil))))))))))))))),[])|5=>([1,2,3,5,7],(.op 0 (.op 1 (.op 2 (.op 3 (.op 4 (.op 5 (.op 6 (.op 7 .nil)))))))),[(1,3)])|_=>([],.nil,[])
set_option maxHeartbeats 1000000 in
theorem aFL (x:aI) (hs:x.s<=1048576):qK Tryz.prog 108 [.agg x.c] (QA x.o):=by
 have hs':=x.gB
 have nA:=x.bC.gB
 try simp only[gI]at hs'
 simp only[aI.aO]
 refine tA 35 bDE bTB bTC Tryz.func108 λh=>?_
 try simp -dsimp -implicitDefEqProofs only[go_sem,↓reduceIte,Tryz.f108,aF,aE]
 intro n2 qn2
 have b6:=qn2
 try simp -dsimp -implicitDefEqProofs only[go_sem,↓reduceIte,Tryz.f108,aF,aE]
 try(with_reducible refine And.intro cI ?_)
 refine⟨?_,?_⟩
 rotate_left
 focus
  intro n3 uH
  obtain⟨dW,bD,bE,oN⟩:=cB (show ¬n3=n2 from uH.1)
  have cT:=uH.2
  try simp -dsimp -implicitDefEqProofs only[go_sem,↓reduceIte,Tryz.f108,aF,aE,bD,bE,OV.aM,OV.aD,OV.aR]
  refine aH.p5 ((aUK x.bC aA)) b6 ⟨dW,cT⟩ ?_
  rintro r l_ gc0 ⟨aZ0,aFJ,rfl,rfl⟩ wc0 b6 cT
  have aFK:=aFJ
  obtain⟨lL,rD,rE,rfl,bA,bJ,bK⟩:=aFK
  try simp -dsimp -implicitDefEqProofs only[go_sem,↓reduceIte,Tryz.f108,aF,aE,bD,bE,bA.flat,bA.one,bJ.flat,bJ.one,bK.flat,bK.one,OV.aM,OV.aD,OV.aR]
  refine aH.p5 (uG x.aT aA) b6 ⟨dW,cT⟩ ?_
  rintro r l_ gc1 ⟨pP,bM,rfl,rfl⟩ wc1 b6 cT
  try simp -dsimp -implicitDefEqProofs only[go_sem,↓reduceIte,Tryz.f108,aF,aE,bD,bE,bA.flat,bA.one,bJ.flat,bJ.one,bK.flat,bK.one,bM.flat,bM.one,OV.aM,OV.aD,OV.aR]
  refine aH.p5 (aZZ x.bW aA) b6 ⟨dW,cT⟩ ?_
  rintro r l_ gc2 ⟨aD0,dY,rfl,rfl⟩ wc2 b6 cT
  try simp -dsimp -implicitDefEqProofs only[go_sem,↓reduceIte,Tryz.f108,aF,aE,bD,bE,bA.flat,bA.one,bJ.flat,bJ.one,bK.flat,bK.one,bM.flat,bM.one,dY.flat,dY.one,OV.aM,OV.aD,OV.aR]
  refine aH.p5 (uG x.cC aA) b6 ⟨dW,cT⟩ ?_
  rintro r l_ gc3 ⟨rW,dO,rfl,rfl⟩ wc3 b6 cT
  try simp -dsimp -implicitDefEqProofs only[go_sem,↓reduceIte,Tryz.f108,aF,aE,bD,bE,bA.flat,bA.one,bJ.flat,bJ.one,bK.flat,bK.one,bM.flat,bM.one,dY.flat,dY.one,dO.flat,dO.one,OV.aM,OV.aD,OV.aR]
  repeat'(with_reducible first|refine And.intro eU ?_)
  try(with_reducible intro _)
 rotate_right
 refine aH.wn1 ((aUK x.bC aA)) b6 ?_
 rintro r l_ gc0 ⟨aZ0,aFJ,rfl,rfl⟩ wc0 b6
 have aFK:=aFJ
 obtain⟨lL,rD,rE,rfl,bA,bJ,bK⟩:=aFK
 try simp -dsimp -implicitDefEqProofs only[go_sem,↓reduceIte,Tryz.f108,aF,aE,bA.flat,bA.one,bJ.flat,bJ.one,bK.flat,bK.one,OV.aM,OV.aD,OV.aR]
 try(with_reducible refine And.intro cI ?_)
 refine⟨?_,?_⟩
 rotate_left
 focus
  intro n3 uH
  obtain⟨dW,bD,bE,oN⟩:=cB (show ¬n3=n2 from uH.1)
  have cT:=uH.2
  try simp -dsimp -implicitDefEqProofs only[go_sem,↓reduceIte,Tryz.f108,aF,aE,bD,bE,bA.flat,bA.one,bJ.flat,bJ.one,bK.flat,bK.one,OV.aM,OV.aD,OV.aR]
  refine aH.p5 (uG x.aT aA) b6 ⟨dW,cT⟩ ?_
  rintro r l_ gc1 ⟨pP,bM,rfl,rfl⟩ wc1 b6 cT
  try simp -dsimp -implicitDefEqProofs only[go_sem,↓reduceIte,Tryz.f108,aF,aE,bD,bE,bA.flat,bA.one,bJ.flat,bJ.one,bK.flat,bK.one,bM.flat,bM.one,OV.aM,OV.aD,OV.aR]
  refine aH.p5 (aZZ x.bW aA) b6 ⟨dW,cT⟩ ?_
  rintro r l_ gc2 ⟨aD0,dY,rfl,rfl⟩ wc2 b6 cT
  try simp -dsimp -implicitDefEqProofs only[go_sem,↓reduceIte,Tryz.f108,aF,aE,bD,bE,bA.flat,bA.one,bJ.flat,bJ.one,bK.flat,bK.one,bM.flat,bM.one,dY.flat,dY.one,OV.aM,OV.aD,OV.aR]
  refine aH.p5 (uG x.cC aA) b6 ⟨dW,cT⟩ ?_
  rintro r l_ gc3 ⟨rW,dO,rfl,rfl⟩ wc3 b6 cT
  try simp -dsimp -implicitDefEqProofs only[go_sem,↓reduceIte,Tryz.f108,aF,aE,bD,bE,bA.flat,bA.one,bJ.flat,bJ.one,bK.flat,bK.one,bM.flat,bM.one,dY.flat,dY.one,dO.flat,dO.one,OV.aM,OV.aD,OV.aR]
  repeat'(with_reducible first|refine And.intro eU ?_)
  try(with_reducible intro _)
 rotate_right
 refine aH.wn1 (uG x.aT aA) b6 ?_
 rintro r l_ gc1 ⟨pP,bM,rfl,rfl⟩ wc1 b6
 try simp -dsimp -implicitDefEqProofs only[go_sem,↓reduceIte,Tryz.f108,aF,aE,bA.flat,bA.one,bJ.flat,bJ.one,bK.flat,bK.one,bM.flat,bM.one,OV.aM,OV.aD,OV.aR]
 try(with_reducible refine And.intro cI ?_)
 refine⟨?_,?_⟩
 rotate_left
 focus
  intro n3 uH
  obtain⟨dW,bD,bE,oN⟩:=cB (show ¬n3=n2 from uH.1)
  have cT:=uH.2
  try simp -dsimp -implicitDefEqProofs only[go_sem,↓reduceIte,Tryz.f108,aF,aE,bD,bE,bA.flat,bA.one,bJ.flat,bJ.one,bK.flat,bK.one,bM.flat,bM.one,OV.aM,OV.aD,OV.aR]
  refine aH.p5 (aZZ x.bW aA) b6 ⟨dW,cT⟩ ?_
  rintro r l_ gc2 ⟨aD0,dY,rfl,rfl⟩ wc2 b6 cT
  try simp -dsimp -implicitDefEqProofs only[go_sem,↓reduceIte,Tryz.f108,aF,aE,bD,bE,bA.flat,bA.one,bJ.flat,bJ.one,bK.flat,bK.one,bM.flat,bM.one,dY.flat,dY.one,OV.aM,OV.aD,OV.aR]
  refine aH.p5 (uG x.cC aA) b6 ⟨dW,cT⟩ ?_
  rintro r l_ gc3 ⟨rW,dO,rfl,rfl⟩ wc3 b6 cT
  try simp -dsimp -implicitDefEqProofs only[go_sem,↓reduceIte,Tryz.f108,aF,aE,bD,bE,bA.flat,bA.one,bJ.flat,bJ.one,bK.flat,bK.one,bM.flat,bM.one,dY.flat,dY.one,dO.flat,dO.one,OV.aM,OV.aD,OV.aR]
  repeat'(with_reducible first|refine And.intro eU ?_)
  try(with_reducible intro _)
 rotate_right
 refine aH.wn1 (aZZ x.bW aA) b6 ?_
 rintro r l_ gc2 ⟨aD0,dY,rfl,rfl⟩ wc2 b6
 try simp -dsimp -implicitDefEqProofs only[go_sem,↓reduceIte,Tryz.f108,aF,aE,bA.flat,bA.one,bJ.flat,bJ.one,bK.flat,bK.one,bM.flat,bM.one,dY.flat,dY.one,OV.aM,OV.aD,OV.aR]
 try(with_reducible refine And.intro cI ?_)
 refine⟨?_,?_⟩
 rotate_left
 focus
  intro n3 uH
  obtain⟨dW,bD,bE,oN⟩:=cB (show ¬n3=n2 from uH.1)
  have cT:=uH.2
  try simp -dsimp -implicitDefEqProofs only[go_sem,↓reduceIte,Tryz.f108,aF,aE,bD,bE,bA.flat,bA.one,bJ.flat,bJ.one,bK.flat,bK.one,bM.flat,bM.one,dY.flat,dY.one,OV.aM,OV.aD,OV.aR]
  refine aH.p5 (uG x.cC aA) b6 ⟨dW,cT⟩ ?_
  rintro r l_ gc3 ⟨rW,dO,rfl,rfl⟩ wc3 b6 cT
  try simp -dsimp -implicitDefEqProofs only[go_sem,↓reduceIte,Tryz.f108,aF,aE,bD,bE,bA.flat,bA.one,bJ.flat,bJ.one,bK.flat,bK.one,bM.flat,bM.one,dY.flat,dY.one,dO.flat,dO.one,OV.aM,OV.aD,OV.aR]
  repeat'(with_reducible first|refine And.intro eU ?_)
  try(with_reducible intro _)
 rotate_right
 refine aH.wn1 (uG x.cC aA) b6 ?_
 rintro r l_ gc3 ⟨rW,dO,rfl,rfl⟩ wc3 b6
 try simp -dsimp -implicitDefEqProofs only[go_sem,↓reduceIte,Tryz.f108,aF,aE,bA.flat,bA.one,bJ.flat,bJ.one,bK.flat,bK.one,bM.flat,bM.one,dY.flat,dY.one,dO.flat,dO.one,OV.aM,OV.aD,OV.aR]
 repeat'(with_reducible first|refine And.intro eU ?_)
 intro n3 uH
 obtain⟨dW,bD,bE,oN⟩:=cB (show ¬n3=n2 from uH.1)
 have cT:=uH.2
 try simp -dsimp -implicitDefEqProofs only[go_sem,↓reduceIte,Tryz.f108,aF,aE,bD,bE,bA.flat,bA.one,bJ.flat,bJ.one,bK.flat,bK.one,bM.flat,bM.one,dY.flat,dY.one,dO.flat,dO.one,OV.aM,OV.aD,OV.aR]
 try(with_reducible intro _)
 all_goals
  refine cY bDE bTB bTC (λs:Nat×List (List OV)×Heap×Option Nat=>[(2,.op n2 9 0 0),(3,.op n3 9 0 0),(20,dA 3 cR.c x.cQ),(21,I x.cQ.length),(22,(I s.1))]) (λs=>(bL (bL (dG s.2.2.1 (.row 3 (OV.cells s.2.1)) s.2.2.2) n2 (.row 9 [[.v (.aU),.v (.int .i64 0),.v (.int .i64 0),.v (.aU),.v (.aU),.v (.aU),.v (.aU),.v (.aU),.v (.aU)]])) n3 (.row 9 [[.v (lL.val),.v (.int .i64 x.bC.bO),.v (.int .i64 x.bC.aQ),.v (rD.val),.v (rE.val),.v (pP.val),.v (aD0.val),.v (j3 3 s.2.1.length s.2.2.2),.v (rW.val)]]))) (λs=>s.1<=x.cQ.length/\OR cR.o (x.cQ.take s.1) s.2.1/\eO gc3 (OV.bV s.2.1) s.2.2.1/\s.2.2.1 n2=none/\s.2.2.1 n3=none/\zE s.2.2.1 s.2.1 s.2.2.2/\∀ n:Nat,s.2.2.2=some n->n≠n2/\n≠n3) (λs=>x.cQ.length-s.1) (0,[],gc3,none) ?_ ?_
  ·exact⟨by simp[eE,dJ],lU,iF _,trivial,eO.nil _,b6,cT,rfl,by simp⟩
  rintro⟨k,es,g_,o_⟩ ⟨hkk,hor,hnew,b6,cT,hos,hon⟩
  simp only at hkk hor hnew b6 cT hos hon ⊢
  have hlen:es.length=k:=by have:=hor.length;simp at this;omega
  rcases cX k x.cQ.length with hlt|hge
  ·have ea:x.cQ[k]?=some x.cQ[k]:=cJ hlt
   have hx:=aXZ x.cQ[k] bHW
   simp only[cR.aO]at hx
   cases o_ with
   |none =>
    rw[jX]at hos
    subst hos
    try simp -dsimp -implicitDefEqProofs only[go_sem,↓reduceIte,Tryz.f108,aF,aE,bD,bE,ea,hlt,aN,bI,bA.flat,bA.one,bJ.flat,bJ.one,bK.flat,bK.one,bM.flat,bM.one,dY.flat,dY.one,dO.flat,dO.one,cR.aO]
    intro n5 qn5
    obtain⟨uI,eX,eY,aUB⟩:=cB (show ¬n5=n3 from qn5.1)
    obtain⟨pY,eH,eI,aJV⟩:=cB (show ¬n5=n2 from qn5.2.1)
    have kI:=qn5.2.2
    try simp -dsimp -implicitDefEqProofs only[go_sem,↓reduceIte,Tryz.f108,aF,aE,bD,bE,eX,eY,eH,eI,ea,hlt,aN,bI,bA.flat,bA.one,bJ.flat,bJ.one,bK.flat,bK.one,bM.flat,bM.one,dY.flat,dY.one,dO.flat,dO.one,cR.aO]
    refine aH.wn3 (hx) b6 ⟨dW,cT⟩ ⟨uI,pY,kI⟩ ?_
    rintro r l_ gb ⟨e_b,oeb,rfl,rfl⟩ wb b6 cT kI
    have oob:=oeb
    obtain⟨aUM,rfl,wZ⟩:=oob
    try simp -dsimp -implicitDefEqProofs only[go_sem,↓reduceIte,Tryz.f108,aF,aE,bD,bE,eX,eY,eH,eI,ea,hlt,aN,bI,bA.flat,bA.one,bJ.flat,bJ.one,bK.flat,bK.one,bM.flat,bM.one,dY.flat,dY.one,dO.flat,dO.one,wZ.flat,wZ.one,OV.aM,OV.aD,OV.aR,cR.aO]
    repeat'(with_reducible first|refine And.intro eU ?_)
    intro m qm
    obtain⟨bJ3,aT4,aT5,bJ4⟩:=cB (show ¬m=n5 from qm.1)
    obtain⟨wW,wX,wY,aMO⟩:=cB (show ¬m=n3 from qm.2.1)
    obtain⟨pF,pG,pH,aDY⟩:=cB (show ¬m=n2 from qm.2.2.1)
    have z_m:=qm.2.2.2
    try simp -dsimp -implicitDefEqProofs only[go_sem,↓reduceIte,Tryz.f108,aF,aE,bD,bE,eX,eY,eH,eI,aT4,aT5,wX,wY,pG,pH,ea,hlt,aN,bI,bA.flat,bA.one,bJ.flat,bJ.one,bK.flat,bK.one,bM.flat,bM.one,dY.flat,dY.one,dO.flat,dO.one,wZ.flat,wZ.one,OV.aM,OV.aD,OV.aR]
    refine⟨(k+1,([]:List (List OV))++[[.v (.int .i64 x.cQ[k].cU),.v (.int .i64 x.cQ[k].iL),aUM]],gb,some m),?_⟩
    simp only
    refine⟨?_,lU,⟨by omega,OR.snoc hor hlt oeb,hnew.snoc wb,b6,cT,z_m,(λn_ e_=>by obtain rfl:=eN e_;exact⟨pF,wW⟩)⟩,by omega⟩
    all_goals(repeat'(with_reducible refine And.intro ?_ ?_))
    all_goals first|rfl|trivial|(rw[IntWalk.i64_in _ aA];omega)
   |some n =>
    rw[k6]at hos
    have z_n:=hos
    have hn:=hon n rfl
    obtain⟨aXX,oA,oB,aDZ⟩:=cB (show ¬n=n2 from hn.1)
    obtain⟨bDB,vG,vH,aMP⟩:=cB (show ¬n=n3 from hn.2)
    try simp -dsimp -implicitDefEqProofs only[go_sem,↓reduceIte,Tryz.f108,aF,aE,bD,bE,oA,oB,vG,vH,ea,hlt,aK,aZ,bA.flat,bA.one,bJ.flat,bJ.one,bK.flat,bK.one,bM.flat,bM.one,dY.flat,dY.one,dO.flat,dO.one,cR.aO]
    intro n5 qn5
    obtain⟨uI,eX,eY,aUB⟩:=cB (show ¬n5=n3 from qn5.1)
    obtain⟨pY,eH,eI,aJV⟩:=cB (show ¬n5=n2 from qn5.2.1)
    obtain⟨bJ7,aT9,aUA,b2D⟩:=cB (show ¬n5=n from qn5.2.2.1)
    have kI:=qn5.2.2.2
    try simp -dsimp -implicitDefEqProofs only[go_sem,↓reduceIte,Tryz.f108,aF,aE,bD,bE,oA,oB,vG,vH,eX,eY,eH,eI,aT9,aUA,ea,hlt,aK,aZ,bA.flat,bA.one,bJ.flat,bJ.one,bK.flat,bK.one,bM.flat,bM.one,dY.flat,dY.one,dO.flat,dO.one,cR.aO]
    refine aH.wn4 (hx) z_n ⟨aDZ,b6⟩ ⟨dW,aMP,cT⟩ ⟨uI,pY,bJ7,kI⟩ ?_
    rintro r l_ gb ⟨e_b,oeb,rfl,rfl⟩ wb z_n b6 cT kI
    have oob:=oeb
    obtain⟨aUM,rfl,wZ⟩:=oob
    try simp -dsimp -implicitDefEqProofs only[go_sem,↓reduceIte,Tryz.f108,aF,aE,bD,bE,oA,oB,vG,vH,eX,eY,eH,eI,aT9,aUA,ea,hlt,aK,aZ,bA.flat,bA.one,bJ.flat,bJ.one,bK.flat,bK.one,bM.flat,bM.one,dY.flat,dY.one,dO.flat,dO.one,wZ.flat,wZ.one,OV.aM,OV.aD,OV.aR,cR.aO]
    repeat'(with_reducible first|refine And.intro eU ?_)
    intro m qm
    obtain⟨bJ3,aT4,aT5,bJ4⟩:=cB (show ¬m=n5 from qm.1)
    obtain⟨wW,wX,wY,aMO⟩:=cB (show ¬m=n3 from qm.2.1)
    obtain⟨pF,pG,pH,aDY⟩:=cB (show ¬m=n2 from qm.2.2.1)
    obtain⟨bF0,aN6,aN7,bF1⟩:=cB (show ¬m=n from qm.2.2.2.1)
    have z_m:=qm.2.2.2.2
    try simp -dsimp -implicitDefEqProofs only[go_sem,↓reduceIte,Tryz.f108,aF,aE,bD,bE,oA,oB,vG,vH,eX,eY,eH,eI,aT9,aUA,aT4,aT5,wX,wY,pG,pH,aN6,aN7,ea,hlt,aK,aZ,bA.flat,bA.one,bJ.flat,bJ.one,bK.flat,bK.one,bM.flat,bM.one,dY.flat,dY.one,dO.flat,dO.one,wZ.flat,wZ.one,OV.aM,OV.aD,OV.aR]
    refine⟨(k+1,es++[[.v (.int .i64 x.cQ[k].cU),.v (.int .i64 x.cQ[k].iL),aUM]],gb,some m),?_⟩
    simp only
    refine⟨?_,lU,⟨by omega,OR.snoc hor hlt oeb,hnew.snoc wb,b6,cT,z_m,(λn_ e_=>by obtain rfl:=eN e_;exact⟨pF,wW⟩)⟩,by omega⟩
    all_goals(repeat'(with_reducible refine And.intro ?_ ?_))
    all_goals first|rfl|trivial|(rw[IntWalk.i64_in _ aA];omega)
  ·have hk2:k=x.cQ.length:=by omega
   subst hk2
   rw[eJ]at hor
   have aXY:dG g_ (.row 3 (OV.cells es)) o_ n2=none:=e8 b6 λn_ e_=>(hon n_ e_).1
   have bDC:dG g_ (.row 3 (OV.cells es)) o_ n3=none:=e8 cT λn_ e_=>(hon n_ e_).2
   try simp -dsimp -implicitDefEqProofs only[go_sem,↓reduceIte,Tryz.f108,aF,aE,bD,bE,fY,iT,bA.flat,bA.one,bJ.flat,bJ.one,bK.flat,bK.one,bM.flat,bM.one,dY.flat,dY.one,dO.flat,dO.one,cO]
   try(with_reducible intro _)
   refine⟨_,(dG g_ (.row 3 (OV.cells es)) o_),_,Shift.of (Sub.agg (b8.cons (Sub.refl _) (b8.cons (Sub.refl _) (b8.cons (Sub.refl _) (b8.cons (Sub.refl _) (b8.cons (Sub.refl _) (b8.cons (Sub.refl _) (b8.cons (Sub.refl _) (b8.cons yX (b8.cons (Sub.refl _) b8.nil)))))))))) lU,⟨[lL,.v (.int .i64 x.bC.bO),.v (.int .i64 x.bC.aQ),rD,rE,pP,aD0,(gov 3 es o_),rW],?_,rfl,rfl⟩,?_⟩
   ·exact⟨lL,rD,rE,pP,aD0,(gov 3 es o_),rW,rfl,bA,bJ,bK,bM,dY,yK hor hos,dO⟩
   ·have hq:=(eO.append (eO.append (eO.append (eO.append wc0 wc1) wc2) wc3) (sI (sz:=3) hnew hos))
    refine eO.perm (a:=_) hq ?_
    simp only[OV.b7,OV.cV,OV.dV,OV.kG,pR,gU,oW]
    first|exact List.Perm.refl _|(simp only[←oW];exact aN1 _ _ _)|(simp only[←oW];exact aUN _ _)
@[go_sem] def a8T:List Nat:=[0,2,3,4,32]
@[go_sem] def bWF:List Nat:=[14,45]
@[go_sem] def bWG:Marks:=λid=>match id with|1=>([3,8,14,19,21,22],(.op 0 (.op 1 (.op 2 (.op 4 (.op 5 (.op 6 (.op 7 (.op 9 (.op 10 (.op 11 (.op 12 (.op 13 (.op 15 (.op 16 (.op 17 (.op 18 (.alt 3 (.alt 8 (.alt 14 (.alt 19 (.op 20 (.op 21 (.op 22 .nil))) 21 (.op 19 (.op 20 (.op 22 .nil)))) 21 (.op 14 (.op 19 (.op 20 (.op 22 .nil))))) 21 (.op 8 (.op 14 (.op 19 (.op 20 (.op 22 .nil)))))) 21 (.op 3 (.op 8 (.op 14 (.op 19 (.op 20 (.op 22 .nil))))))))))))))))))))))),[])|5=>([1,9,11,13],(.op 0 (.op 2 (.op 3 (.op 4 (.op 5 (.op 6 (.op 7 (.op 8 (.op 1 (.op 9 (.op 10 (.op 11 (.op 12 (.op 13 .nil)))))))))))))),[(1,9)])|_=>([],.nil,[])
set_option maxHeartbeats 1000000 in
theorem aWM (x:aI) (hs:x.s<=1048576):qK Tryz.prog 68 [.ip 9 [x.c] 0 0] (QA x.o):=by
 have hs':=x.gB
 have nA:=x.bC.gB
 try simp only[gI]at hs'
 simp only[aI.aO]
 refine tA 49 a8T bWF bWG Tryz.func68 λh=>?_
 try simp -dsimp -implicitDefEqProofs only[go_sem,↓reduceIte,Tryz.f68,aF,aE]
 intro n2 qn2
 have b6:=qn2
 try simp -dsimp -implicitDefEqProofs only[go_sem,↓reduceIte,Tryz.f68,aF,aE]
 try(with_reducible refine And.intro cI ?_)
 refine⟨?_,?_⟩
 rotate_left
 focus
  intro n3 uH
  obtain⟨dW,bD,bE,oN⟩:=cB (show ¬n3=n2 from uH.1)
  have cT:=uH.2
  try simp -dsimp -implicitDefEqProofs only[go_sem,↓reduceIte,Tryz.f68,aF,aE,bD,bE,OV.aM,OV.aD,OV.aR]
  refine aH.p5 (qK.sub (by repeat'(first|exact b8.nil|refine b8.cons ?_ ?_|exact Sub.refl _|(rw[aB.aO];exact Sub.refl _)|exact Sub.eA rfl rfl rfl|exact Sub.ip (b9 aA) bF|exact Sub.eA (b9 aA) rfl rfl|exact Sub.ip dI bF|exact Sub.eA dI dC dC)) (aOB x.bC aA)) b6 ⟨dW,cT⟩ ?_
  rintro r l_ gc0 ⟨aZ0,aFJ,rfl,rfl⟩ wc0 b6 cT
  have aFK:=aFJ
  obtain⟨lL,rD,rE,rfl,bA,bJ,bK⟩:=aFK
  try simp -dsimp -implicitDefEqProofs only[go_sem,↓reduceIte,Tryz.f68,aF,aE,bD,bE,bA.flat,bA.one,bJ.flat,bJ.one,bK.flat,bK.one,OV.aM,OV.aD,OV.aR]
  refine aH.p5 (l6 x.aT aA) b6 ⟨dW,cT⟩ ?_
  rintro r l_ gc1 ⟨pP,bM,rfl,rfl⟩ wc1 b6 cT
  try simp -dsimp -implicitDefEqProofs only[go_sem,↓reduceIte,Tryz.f68,aF,aE,bD,bE,bA.flat,bA.one,bJ.flat,bJ.one,bK.flat,bK.one,bM.flat,bM.one,OV.aM,OV.aD,OV.aR]
  try(with_reducible refine And.intro cI ?_)
  refine⟨λbKA=>?_,λbWH=>?_⟩
  rotate_left
  focus
   repeat'(with_reducible first|refine And.intro eU ?_)
   intro mc2 aMQ
   obtain⟨bDF,bDG,bDH,aCL⟩:=cB (show ¬mc2=n3 from aMQ.1)
   obtain⟨aZ1,aZ2,aZ3,w5⟩:=cB (show ¬mc2=n2 from aMQ.2.1)
   have aUO:=aMQ.2.2
   simp only[nZ w5,nZ aCL]
   obtain⟨aD0,gc2,dY,vc2,wc2,aKX⟩:=aQZ aC.bool (l:=x.bW) (sz:=1) aUO
   simp only[←aKX,←vc2]
   have b6:gc2 n2=none:=by rw[aKX,aE _ _ _ _ w5];exact b6
   have cT:gc2 n3=none:=by rw[aKX,aE _ _ _ _ aCL];exact cT
   try simp -dsimp -implicitDefEqProofs only[go_sem,↓reduceIte,Tryz.f68,aF,aE,bD,bE,bA.flat,bA.one,bJ.flat,bJ.one,bK.flat,bK.one,bM.flat,bM.one,dY.flat,dY.one,OV.aM,OV.aD,OV.aR]
   refine aH.p5 (l6 x.cC aA) b6 ⟨dW,cT⟩ ?_
   rintro r l_ gc3 ⟨rW,dO,rfl,rfl⟩ wc3 b6 cT
   try simp -dsimp -implicitDefEqProofs only[go_sem,↓reduceIte,Tryz.f68,aF,aE,bD,bE,bA.flat,bA.one,bJ.flat,bJ.one,bK.flat,bK.one,bM.flat,bM.one,dY.flat,dY.one,dO.flat,dO.one,OV.aM,OV.aD,OV.aR]
   repeat'(with_reducible first|refine And.intro eU ?_)
   try(with_reducible intro _)
  rotate_right
  try simp -dsimp -implicitDefEqProofs only[go_sem,↓reduceIte,Tryz.f68,aF,aE,bD,bE,bA.flat,bA.one,bJ.flat,bJ.one,bK.flat,bK.one,bM.flat,bM.one,OV.aM,OV.aD,OV.aR]
  refine aH.p5 (l6 x.cC aA) b6 ⟨dW,cT⟩ ?_
  rintro r l_ gc3 ⟨rW,dO,rfl,rfl⟩ wc3 b6 cT
  try simp -dsimp -implicitDefEqProofs only[go_sem,↓reduceIte,Tryz.f68,aF,aE,bD,bE,bA.flat,bA.one,bJ.flat,bJ.one,bK.flat,bK.one,bM.flat,bM.one,dO.flat,dO.one,OV.aM,OV.aD,OV.aR]
  repeat'(with_reducible first|refine And.intro eU ?_)
  try(with_reducible intro _)
 rotate_right
 refine aH.wn1 (qK.sub (by repeat'(first|exact b8.nil|refine b8.cons ?_ ?_|exact Sub.refl _|(rw[aB.aO];exact Sub.refl _)|exact Sub.eA rfl rfl rfl|exact Sub.ip (b9 aA) bF|exact Sub.eA (b9 aA) rfl rfl|exact Sub.ip dI bF|exact Sub.eA dI dC dC)) (aOB x.bC aA)) b6 ?_
 rintro r l_ gc0 ⟨aZ0,aFJ,rfl,rfl⟩ wc0 b6
 have aFK:=aFJ
 obtain⟨lL,rD,rE,rfl,bA,bJ,bK⟩:=aFK
 try simp -dsimp -implicitDefEqProofs only[go_sem,↓reduceIte,Tryz.f68,aF,aE,bA.flat,bA.one,bJ.flat,bJ.one,bK.flat,bK.one,OV.aM,OV.aD,OV.aR]
 try(with_reducible refine And.intro cI ?_)
 refine⟨?_,?_⟩
 rotate_left
 focus
  intro n3 uH
  obtain⟨dW,bD,bE,oN⟩:=cB (show ¬n3=n2 from uH.1)
  have cT:=uH.2
  try simp -dsimp -implicitDefEqProofs only[go_sem,↓reduceIte,Tryz.f68,aF,aE,bD,bE,bA.flat,bA.one,bJ.flat,bJ.one,bK.flat,bK.one,OV.aM,OV.aD,OV.aR]
  refine aH.p5 (l6 x.aT aA) b6 ⟨dW,cT⟩ ?_
  rintro r l_ gc1 ⟨pP,bM,rfl,rfl⟩ wc1 b6 cT
  try simp -dsimp -implicitDefEqProofs only[go_sem,↓reduceIte,Tryz.f68,aF,aE,bD,bE,bA.flat,bA.one,bJ.flat,bJ.one,bK.flat,bK.one,bM.flat,bM.one,OV.aM,OV.aD,OV.aR]
  try(with_reducible refine And.intro cI ?_)
  refine⟨λbKA=>?_,λbWH=>?_⟩
  rotate_left
  focus
   repeat'(with_reducible first|refine And.intro eU ?_)
   intro mc2 aMQ
   obtain⟨bDF,bDG,bDH,aCL⟩:=cB (show ¬mc2=n3 from aMQ.1)
   obtain⟨aZ1,aZ2,aZ3,w5⟩:=cB (show ¬mc2=n2 from aMQ.2.1)
   have aUO:=aMQ.2.2
   simp only[nZ w5,nZ aCL]
   obtain⟨aD0,gc2,dY,vc2,wc2,aKX⟩:=aQZ aC.bool (l:=x.bW) (sz:=1) aUO
   simp only[←aKX,←vc2]
   have b6:gc2 n2=none:=by rw[aKX,aE _ _ _ _ w5];exact b6
   have cT:gc2 n3=none:=by rw[aKX,aE _ _ _ _ aCL];exact cT
   try simp -dsimp -implicitDefEqProofs only[go_sem,↓reduceIte,Tryz.f68,aF,aE,bD,bE,bA.flat,bA.one,bJ.flat,bJ.one,bK.flat,bK.one,bM.flat,bM.one,dY.flat,dY.one,OV.aM,OV.aD,OV.aR]
   refine aH.p5 (l6 x.cC aA) b6 ⟨dW,cT⟩ ?_
   rintro r l_ gc3 ⟨rW,dO,rfl,rfl⟩ wc3 b6 cT
   try simp -dsimp -implicitDefEqProofs only[go_sem,↓reduceIte,Tryz.f68,aF,aE,bD,bE,bA.flat,bA.one,bJ.flat,bJ.one,bK.flat,bK.one,bM.flat,bM.one,dY.flat,dY.one,dO.flat,dO.one,OV.aM,OV.aD,OV.aR]
   repeat'(with_reducible first|refine And.intro eU ?_)
   try(with_reducible intro _)
  rotate_right
  try simp -dsimp -implicitDefEqProofs only[go_sem,↓reduceIte,Tryz.f68,aF,aE,bD,bE,bA.flat,bA.one,bJ.flat,bJ.one,bK.flat,bK.one,bM.flat,bM.one,OV.aM,OV.aD,OV.aR]
  refine aH.p5 (l6 x.cC aA) b6 ⟨dW,cT⟩ ?_
  rintro r l_ gc3 ⟨rW,dO,rfl,rfl⟩ wc3 b6 cT
  try simp -dsimp -implicitDefEqProofs only[go_sem,↓reduceIte,Tryz.f68,aF,aE,bD,bE,bA.flat,bA.one,bJ.flat,bJ.one,bK.flat,bK.one,bM.flat,bM.one,dO.flat,dO.one,OV.aM,OV.aD,OV.aR]
  repeat'(with_reducible first|refine And.intro eU ?_)
  try(with_reducible intro _)
 rotate_right
 refine aH.wn1 (l6 x.aT aA) b6 ?_
 rintro r l_ gc1 ⟨pP,bM,rfl,rfl⟩ wc1 b6
 try simp -dsimp -implicitDefEqProofs only[go_sem,↓reduceIte,Tryz.f68,aF,aE,bA.flat,bA.one,bJ.flat,bJ.one,bK.flat,bK.one,bM.flat,bM.one,OV.aM,OV.aD,OV.aR]
 try(with_reducible refine And.intro cI ?_)
 refine⟨?_,?_⟩
 rotate_left
 focus
  intro n3 uH
  obtain⟨dW,bD,bE,oN⟩:=cB (show ¬n3=n2 from uH.1)
  have cT:=uH.2
  try simp -dsimp -implicitDefEqProofs only[go_sem,↓reduceIte,Tryz.f68,aF,aE,bD,bE,bA.flat,bA.one,bJ.flat,bJ.one,bK.flat,bK.one,bM.flat,bM.one,OV.aM,OV.aD,OV.aR]
  try(with_reducible refine And.intro cI ?_)
  refine⟨λbKA=>?_,λbWH=>?_⟩
  rotate_left
  focus
   repeat'(with_reducible first|refine And.intro eU ?_)
   intro mc2 aMQ
   obtain⟨bDF,bDG,bDH,aCL⟩:=cB (show ¬mc2=n3 from aMQ.1)
   obtain⟨aZ1,aZ2,aZ3,w5⟩:=cB (show ¬mc2=n2 from aMQ.2.1)
   have aUO:=aMQ.2.2
   simp only[nZ w5,nZ aCL]
   obtain⟨aD0,gc2,dY,vc2,wc2,aKX⟩:=aQZ aC.bool (l:=x.bW) (sz:=1) aUO
   simp only[←aKX,←vc2]
   have b6:gc2 n2=none:=by rw[aKX,aE _ _ _ _ w5];exact b6
   have cT:gc2 n3=none:=by rw[aKX,aE _ _ _ _ aCL];exact cT
   try simp -dsimp -implicitDefEqProofs only[go_sem,↓reduceIte,Tryz.f68,aF,aE,bD,bE,bA.flat,bA.one,bJ.flat,bJ.one,bK.flat,bK.one,bM.flat,bM.one,dY.flat,dY.one,OV.aM,OV.aD,OV.aR]
   refine aH.p5 (l6 x.cC aA) b6 ⟨dW,cT⟩ ?_
   rintro r l_ gc3 ⟨rW,dO,rfl,rfl⟩ wc3 b6 cT
   try simp -dsimp -implicitDefEqProofs only[go_sem,↓reduceIte,Tryz.f68,aF,aE,bD,bE,bA.flat,bA.one,bJ.flat,bJ.one,bK.flat,bK.one,bM.flat,bM.one,dY.flat,dY.one,dO.flat,dO.one,OV.aM,OV.aD,OV.aR]
   repeat'(with_reducible first|refine And.intro eU ?_)
   try(with_reducible intro _)
  rotate_right
  try simp -dsimp -implicitDefEqProofs only[go_sem,↓reduceIte,Tryz.f68,aF,aE,bD,bE,bA.flat,bA.one,bJ.flat,bJ.one,bK.flat,bK.one,bM.flat,bM.one,OV.aM,OV.aD,OV.aR]
  refine aH.p5 (l6 x.cC aA) b6 ⟨dW,cT⟩ ?_
  rintro r l_ gc3 ⟨rW,dO,rfl,rfl⟩ wc3 b6 cT
  try simp -dsimp -implicitDefEqProofs only[go_sem,↓reduceIte,Tryz.f68,aF,aE,bD,bE,bA.flat,bA.one,bJ.flat,bJ.one,bK.flat,bK.one,bM.flat,bM.one,dO.flat,dO.one,OV.aM,OV.aD,OV.aR]
  repeat'(with_reducible first|refine And.intro eU ?_)
  try(with_reducible intro _)
 rotate_right
 try(with_reducible refine And.intro cI ?_)
 refine⟨λbKA=>?_,λbWH=>?_⟩
 rotate_left
 focus
  repeat'(with_reducible first|refine And.intro eU ?_)
  intro mc2 aMQ
  obtain⟨aZ1,aZ2,aZ3,w5⟩:=cB (show ¬mc2=n2 from aMQ.1)
  have aUO:=aMQ.2
  simp only[nZ w5]
  obtain⟨aD0,gc2,dY,vc2,wc2,aKX⟩:=aQZ aC.bool (l:=x.bW) (sz:=1) aUO
  simp only[←aKX,←vc2]
  have b6:gc2 n2=none:=by rw[aKX,aE _ _ _ _ w5];exact b6
  try simp -dsimp -implicitDefEqProofs only[go_sem,↓reduceIte,Tryz.f68,aF,aE,bA.flat,bA.one,bJ.flat,bJ.one,bK.flat,bK.one,bM.flat,bM.one,dY.flat,dY.one,OV.aM,OV.aD,OV.aR]
  try(with_reducible refine And.intro cI ?_)
  refine⟨?_,?_⟩
  rotate_left
  focus
   intro n3 uH
   obtain⟨dW,bD,bE,oN⟩:=cB (show ¬n3=n2 from by grind)
   have cT:gc2 n3=none:=by rw[aKX,j4];grind
   try simp -dsimp -implicitDefEqProofs only[go_sem,↓reduceIte,Tryz.f68,aF,aE,bD,bE,bA.flat,bA.one,bJ.flat,bJ.one,bK.flat,bK.one,bM.flat,bM.one,dY.flat,dY.one,OV.aM,OV.aD,OV.aR]
   refine aH.p5 (l6 x.cC aA) b6 ⟨dW,cT⟩ ?_
   rintro r l_ gc3 ⟨rW,dO,rfl,rfl⟩ wc3 b6 cT
   try simp -dsimp -implicitDefEqProofs only[go_sem,↓reduceIte,Tryz.f68,aF,aE,bD,bE,bA.flat,bA.one,bJ.flat,bJ.one,bK.flat,bK.one,bM.flat,bM.one,dY.flat,dY.one,dO.flat,dO.one,OV.aM,OV.aD,OV.aR]
   repeat'(with_reducible first|refine And.intro eU ?_)
   try(with_reducible intro _)
  rotate_right
  refine aH.wn1 (l6 x.cC aA) b6 ?_
  rintro r l_ gc3 ⟨rW,dO,rfl,rfl⟩ wc3 b6
  try simp -dsimp -implicitDefEqProofs only[go_sem,↓reduceIte,Tryz.f68,aF,aE,bA.flat,bA.one,bJ.flat,bJ.one,bK.flat,bK.one,bM.flat,bM.one,dY.flat,dY.one,dO.flat,dO.one,OV.aM,OV.aD,OV.aR]
  repeat'(with_reducible first|refine And.intro eU ?_)
  intro n3 uH
  obtain⟨dW,bD,bE,oN⟩:=cB (show ¬n3=n2 from uH.1)
  have cT:=uH.2
  try simp -dsimp -implicitDefEqProofs only[go_sem,↓reduceIte,Tryz.f68,aF,aE,bD,bE,bA.flat,bA.one,bJ.flat,bJ.one,bK.flat,bK.one,bM.flat,bM.one,dY.flat,dY.one,dO.flat,dO.one,OV.aM,OV.aD,OV.aR]
  try(with_reducible intro _)
 rotate_right
 try simp -dsimp -implicitDefEqProofs only[go_sem,↓reduceIte,Tryz.f68,aF,aE,bA.flat,bA.one,bJ.flat,bJ.one,bK.flat,bK.one,bM.flat,bM.one,OV.aM,OV.aD,OV.aR]
 try(with_reducible refine And.intro cI ?_)
 refine⟨?_,?_⟩
 rotate_left
 focus
  intro n3 uH
  obtain⟨dW,bD,bE,oN⟩:=cB (show ¬n3=n2 from uH.1)
  have cT:=uH.2
  try simp -dsimp -implicitDefEqProofs only[go_sem,↓reduceIte,Tryz.f68,aF,aE,bD,bE,bA.flat,bA.one,bJ.flat,bJ.one,bK.flat,bK.one,bM.flat,bM.one,OV.aM,OV.aD,OV.aR]
  refine aH.p5 (l6 x.cC aA) b6 ⟨dW,cT⟩ ?_
  rintro r l_ gc3 ⟨rW,dO,rfl,rfl⟩ wc3 b6 cT
  try simp -dsimp -implicitDefEqProofs only[go_sem,↓reduceIte,Tryz.f68,aF,aE,bD,bE,bA.flat,bA.one,bJ.flat,bJ.one,bK.flat,bK.one,bM.flat,bM.one,dO.flat,dO.one,OV.aM,OV.aD,OV.aR]
  repeat'(with_reducible first|refine And.intro eU ?_)
  try(with_reducible intro _)
 rotate_right
 refine aH.wn1 (l6 x.cC aA) b6 ?_
 rintro r l_ gc3 ⟨rW,dO,rfl,rfl⟩ wc3 b6
 try simp -dsimp -implicitDefEqProofs only[go_sem,↓reduceIte,Tryz.f68,aF,aE,bA.flat,bA.one,bJ.flat,bJ.one,bK.flat,bK.one,bM.flat,bM.one,dO.flat,dO.one,OV.aM,OV.aD,OV.aR]
 repeat'(with_reducible first|refine And.intro eU ?_)
 intro n3 uH
 obtain⟨dW,bD,bE,oN⟩:=cB (show ¬n3=n2 from uH.1)
 have cT:=uH.2
 try simp -dsimp -implicitDefEqProofs only[go_sem,↓reduceIte,Tryz.f68,aF,aE,bD,bE,bA.flat,bA.one,bJ.flat,bJ.one,bK.flat,bK.one,bM.flat,bM.one,dO.flat,dO.one,OV.aM,OV.aD,OV.aR]
 try(with_reducible intro _)
 all_goals first
  |have q_c:=bKA
   refine cY a8T bWF bWG (λs:Nat×List (List OV)×Heap×Option Nat=>[(0,.ip 9 [[(dA 3 aX.c x.bC.bR.aJ),(.int .i64 x.bC.bO),(.int .i64 x.bC.aQ),(dA 1 (λn=>[I n]) x.bC.c7),(dA 1 (λx=>[dA 1 (λn=>[I n]) x]) x.bC.aV),(dA 1 (λn=>[I n]) x.aT),(dA 1 (λb=>[.bool b]) x.bW),(dA 3 cR.c x.cQ),(dA 1 (λn=>[I n]) x.cC)]] 0 0),(2,.op n2 9 0 0),(3,.op n3 9 0 0),(4,(I s.1))]) (λs=>(bL (bL (dG s.2.2.1 (.row 3 (OV.cells s.2.1)) s.2.2.2) n2 (.row 9 [[.v (.aU),.v (.int .i64 0),.v (.int .i64 0),.v (.aU),.v (.aU),.v (.aU),.v (.aU),.v (.aU),.v (.aU)]])) n3 (.row 9 [[.v (lL.val),.v (.int .i64 x.bC.bO),.v (.int .i64 x.bC.aQ),.v (rD.val),.v (rE.val),.v (pP.val),.v (.sl 1 [] true),.v (j3 3 s.2.1.length s.2.2.2),.v (rW.val)]]))) (λs=>s.1<=x.cQ.length/\OR cR.o (x.cQ.take s.1) s.2.1/\eO gc3 (OV.bV s.2.1) s.2.2.1/\s.2.2.1 n2=none/\s.2.2.1 n3=none/\zE s.2.2.1 s.2.1 s.2.2.2/\∀ n:Nat,s.2.2.2=some n->n≠n2/\n≠n3) (λs=>x.cQ.length-s.1) (0,[],gc3,none) ?_ ?_
   ·exact⟨by simp[eE,dJ],lU,iF _,trivial,eO.nil _,b6,cT,rfl,by simp⟩
   rintro⟨k,es,g_,o_⟩ ⟨hkk,hor,hnew,b6,cT,hos,hon⟩
   simp only at hkk hor hnew b6 cT hos hon ⊢
   have hlen:es.length=k:=by have:=hor.length;simp at this;omega
   rcases cX k x.cQ.length with hlt|hge
   ·have ea:x.cQ[k]?=some x.cQ[k]:=cJ hlt
    have hx:=aJY x.cQ[k] bHW
    simp only[cR.aO]at hx
    cases o_ with
    |none =>
     rw[jX]at hos
     subst hos
     try simp -dsimp -implicitDefEqProofs only[go_sem,↓reduceIte,Tryz.f68,aF,aE,bD,bE,ea,hlt,aN,bI,bA.flat,bA.one,bJ.flat,bJ.one,bK.flat,bK.one,bM.flat,bM.one,dO.flat,dO.one,cR.aO]
     try(with_reducible intro _)
     refine aH.p5 (hx) b6 ⟨dW,cT⟩ ?_
     rintro r l_ gb ⟨e_b,oeb,rfl,rfl⟩ wb b6 cT
     have oob:=oeb
     obtain⟨aUM,rfl,wZ⟩:=oob
     try simp -dsimp -implicitDefEqProofs only[go_sem,↓reduceIte,Tryz.f68,aF,aE,bD,bE,ea,hlt,aN,bI,bA.flat,bA.one,bJ.flat,bJ.one,bK.flat,bK.one,bM.flat,bM.one,dO.flat,dO.one,wZ.flat,wZ.one,OV.aM,OV.aD,OV.aR,cR.aO]
     repeat'(with_reducible first|refine And.intro eU ?_)
     intro m qm
     obtain⟨wW,wX,wY,aMO⟩:=cB (show ¬m=n3 from qm.1)
     obtain⟨pF,pG,pH,aDY⟩:=cB (show ¬m=n2 from qm.2.1)
     have z_m:=qm.2.2
     try simp -dsimp -implicitDefEqProofs only[go_sem,↓reduceIte,Tryz.f68,aF,aE,bD,bE,wX,wY,pG,pH,ea,hlt,aN,bI,bA.flat,bA.one,bJ.flat,bJ.one,bK.flat,bK.one,bM.flat,bM.one,dO.flat,dO.one,wZ.flat,wZ.one,OV.aM,OV.aD,OV.aR]
     refine⟨(k+1,([]:List (List OV))++[[.v (.int .i64 x.cQ[k].cU),.v (.int .i64 x.cQ[k].iL),aUM]],gb,some m),?_⟩
     simp only
     refine⟨?_,lU,⟨by omega,OR.snoc hor hlt oeb,hnew.snoc wb,b6,cT,z_m,(λn_ e_=>by obtain rfl:=eN e_;exact⟨pF,wW⟩)⟩,by omega⟩
     all_goals(repeat'(with_reducible refine And.intro ?_ ?_))
     all_goals first|rfl|trivial|(rw[IntWalk.i64_in _ aA];omega)
    |some n =>
     rw[k6]at hos
     have z_n:=hos
     have hn:=hon n rfl
     obtain⟨aXX,oA,oB,aDZ⟩:=cB (show ¬n=n2 from hn.1)
     obtain⟨bDB,vG,vH,aMP⟩:=cB (show ¬n=n3 from hn.2)
     try simp -dsimp -implicitDefEqProofs only[go_sem,↓reduceIte,Tryz.f68,aF,aE,bD,bE,oA,oB,vG,vH,ea,hlt,aK,aZ,bA.flat,bA.one,bJ.flat,bJ.one,bK.flat,bK.one,bM.flat,bM.one,dO.flat,dO.one,cR.aO]
     try(with_reducible intro _)
     refine aH.wn3 (hx) z_n ⟨aDZ,b6⟩ ⟨dW,aMP,cT⟩ ?_
     rintro r l_ gb ⟨e_b,oeb,rfl,rfl⟩ wb z_n b6 cT
     have oob:=oeb
     obtain⟨aUM,rfl,wZ⟩:=oob
     try simp -dsimp -implicitDefEqProofs only[go_sem,↓reduceIte,Tryz.f68,aF,aE,bD,bE,oA,oB,vG,vH,ea,hlt,aK,aZ,bA.flat,bA.one,bJ.flat,bJ.one,bK.flat,bK.one,bM.flat,bM.one,dO.flat,dO.one,wZ.flat,wZ.one,OV.aM,OV.aD,OV.aR,cR.aO]
     repeat'(with_reducible first|refine And.intro eU ?_)
     intro m qm
     obtain⟨wW,wX,wY,aMO⟩:=cB (show ¬m=n3 from qm.1)
     obtain⟨pF,pG,pH,aDY⟩:=cB (show ¬m=n2 from qm.2.1)
     obtain⟨bF0,aN6,aN7,bF1⟩:=cB (show ¬m=n from qm.2.2.1)
     have z_m:=qm.2.2.2
     try simp -dsimp -implicitDefEqProofs only[go_sem,↓reduceIte,Tryz.f68,aF,aE,bD,bE,oA,oB,vG,vH,wX,wY,pG,pH,aN6,aN7,ea,hlt,aK,aZ,bA.flat,bA.one,bJ.flat,bJ.one,bK.flat,bK.one,bM.flat,bM.one,dO.flat,dO.one,wZ.flat,wZ.one,OV.aM,OV.aD,OV.aR]
     refine⟨(k+1,es++[[.v (.int .i64 x.cQ[k].cU),.v (.int .i64 x.cQ[k].iL),aUM]],gb,some m),?_⟩
     simp only
     refine⟨?_,lU,⟨by omega,OR.snoc hor hlt oeb,hnew.snoc wb,b6,cT,z_m,(λn_ e_=>by obtain rfl:=eN e_;exact⟨pF,wW⟩)⟩,by omega⟩
     all_goals(repeat'(with_reducible refine And.intro ?_ ?_))
     all_goals first|rfl|trivial|(rw[IntWalk.i64_in _ aA];omega)
   ·have hk2:k=x.cQ.length:=by omega
    subst hk2
    rw[eJ]at hor
    have aXY:dG g_ (.row 3 (OV.cells es)) o_ n2=none:=e8 b6 λn_ e_=>(hon n_ e_).1
    have bDC:dG g_ (.row 3 (OV.cells es)) o_ n3=none:=e8 cT λn_ e_=>(hon n_ e_).2
    try simp -dsimp -implicitDefEqProofs only[go_sem,↓reduceIte,Tryz.f68,aF,aE,bD,bE,fY,iT,bA.flat,bA.one,bJ.flat,bJ.one,bK.flat,bK.one,bM.flat,bM.one,dO.flat,dO.one,cO]
    try(with_reducible intro _)
    refine⟨_,(dG g_ (.row 3 (OV.cells es)) o_),_,Shift.of (Sub.agg (b8.cons (Sub.refl _) (b8.cons (Sub.refl _) (b8.cons (Sub.refl _) (b8.cons (Sub.refl _) (b8.cons (Sub.refl _) (b8.cons (Sub.refl _) (b8.cons (Sub.refl _) (b8.cons yX (b8.cons (Sub.refl _) b8.nil)))))))))) lU,⟨[lL,.v (.int .i64 x.bC.bO),.v (.int .i64 x.bC.aQ),rD,rE,pP,(.nil 1),(gov 3 es o_),rW],?_,rfl,rfl⟩,?_⟩
    ·exact⟨lL,rD,rE,pP,(.nil 1),(gov 3 es o_),rW,rfl,bA,bJ,bK,bM,(.inl ⟨rfl,by simpa using bKA⟩),yK hor hos,dO⟩
    ·have hq:=(eO.append (eO.append (eO.append wc0 wc1) wc3) (sI (sz:=3) hnew hos))
     refine eO.perm (a:=_) hq ?_
     simp only[OV.b7,OV.cV,OV.dV,OV.kG,pR,gU,oW]
     first|exact List.Perm.refl _|(simp only[←oW];exact aN1 _ _ _)|(simp only[←oW];exact aUN _ _)
  |skip
   refine cY a8T bWF bWG (λs:Nat×List (List OV)×Heap×Option Nat=>[(0,.ip 9 [[(dA 3 aX.c x.bC.bR.aJ),(.int .i64 x.bC.bO),(.int .i64 x.bC.aQ),(dA 1 (λn=>[I n]) x.bC.c7),(dA 1 (λx=>[dA 1 (λn=>[I n]) x]) x.bC.aV),(dA 1 (λn=>[I n]) x.aT),(dA 1 (λb=>[.bool b]) x.bW),(dA 3 cR.c x.cQ),(dA 1 (λn=>[I n]) x.cC)]] 0 0),(2,.op n2 9 0 0),(3,.op n3 9 0 0),(4,(I s.1))]) (λs=>(bL (bL (dG s.2.2.1 (.row 3 (OV.cells s.2.1)) s.2.2.2) n2 (.row 9 [[.v (.aU),.v (.int .i64 0),.v (.int .i64 0),.v (.aU),.v (.aU),.v (.aU),.v (.aU),.v (.aU),.v (.aU)]])) n3 (.row 9 [[.v (lL.val),.v (.int .i64 x.bC.bO),.v (.int .i64 x.bC.aQ),.v (rD.val),.v (rE.val),.v (pP.val),.v (aD0.val),.v (j3 3 s.2.1.length s.2.2.2),.v (rW.val)]]))) (λs=>s.1<=x.cQ.length/\OR cR.o (x.cQ.take s.1) s.2.1/\eO gc3 (OV.bV s.2.1) s.2.2.1/\s.2.2.1 n2=none/\s.2.2.1 n3=none/\zE s.2.2.1 s.2.1 s.2.2.2/\∀ n:Nat,s.2.2.2=some n->n≠n2/\n≠n3) (λs=>x.cQ.length-s.1) (0,[],gc3,none) ?_ ?_
   ·exact⟨by simp[eE,dJ],lU,iF _,trivial,eO.nil _,b6,cT,rfl,by simp⟩
   rintro⟨k,es,g_,o_⟩ ⟨hkk,hor,hnew,b6,cT,hos,hon⟩
   simp only at hkk hor hnew b6 cT hos hon ⊢
   have hlen:es.length=k:=by have:=hor.length;simp at this;omega
   rcases cX k x.cQ.length with hlt|hge
   ·have ea:x.cQ[k]?=some x.cQ[k]:=cJ hlt
    have hx:=aJY x.cQ[k] bHW
    simp only[cR.aO]at hx
    cases o_ with
    |none =>
     rw[jX]at hos
     subst hos
     try simp -dsimp -implicitDefEqProofs only[go_sem,↓reduceIte,Tryz.f68,aF,aE,bD,bE,ea,hlt,aN,bI,bA.flat,bA.one,bJ.flat,bJ.one,bK.flat,bK.one,bM.flat,bM.one,dY.flat,dY.one,dO.flat,dO.one,cR.aO]
     try(with_reducible intro _)
     refine aH.p5 (hx) b6 ⟨dW,cT⟩ ?_
     rintro r l_ gb ⟨e_b,oeb,rfl,rfl⟩ wb b6 cT
     have oob:=oeb
     obtain⟨aUM,rfl,wZ⟩:=oob
     try simp -dsimp -implicitDefEqProofs only[go_sem,↓reduceIte,Tryz.f68,aF,aE,bD,bE,ea,hlt,aN,bI,bA.flat,bA.one,bJ.flat,bJ.one,bK.flat,bK.one,bM.flat,bM.one,dY.flat,dY.one,dO.flat,dO.one,wZ.flat,wZ.one,OV.aM,OV.aD,OV.aR,cR.aO]
     repeat'(with_reducible first|refine And.intro eU ?_)
     intro m qm
     obtain⟨wW,wX,wY,aMO⟩:=cB (show ¬m=n3 from qm.1)
     obtain⟨pF,pG,pH,aDY⟩:=cB (show ¬m=n2 from qm.2.1)
     have z_m:=qm.2.2
     try simp -dsimp -implicitDefEqProofs only[go_sem,↓reduceIte,Tryz.f68,aF,aE,bD,bE,wX,wY,pG,pH,ea,hlt,aN,bI,bA.flat,bA.one,bJ.flat,bJ.one,bK.flat,bK.one,bM.flat,bM.one,dY.flat,dY.one,dO.flat,dO.one,wZ.flat,wZ.one,OV.aM,OV.aD,OV.aR]
     refine⟨(k+1,([]:List (List OV))++[[.v (.int .i64 x.cQ[k].cU),.v (.int .i64 x.cQ[k].iL),aUM]],gb,some m),?_⟩
     simp only
     refine⟨?_,lU,⟨by omega,OR.snoc hor hlt oeb,hnew.snoc wb,b6,cT,z_m,(λn_ e_=>by obtain rfl:=eN e_;exact⟨pF,wW⟩)⟩,by omega⟩
     all_goals(repeat'(with_reducible refine And.intro ?_ ?_))
     all_goals first|rfl|trivial|(rw[IntWalk.i64_in _ aA];omega)
    |some n =>
     rw[k6]at hos
     have z_n:=hos
     have hn:=hon n rfl
     obtain⟨aXX,oA,oB,aDZ⟩:=cB (show ¬n=n2 from hn.1)
     obtain⟨bDB,vG,vH,aMP⟩:=cB (show ¬n=n3 from hn.2)
     try simp -dsimp -implicitDefEqProofs only[go_sem,↓reduceIte,Tryz.f68,aF,aE,bD,bE,oA,oB,vG,vH,ea,hlt,aK,aZ,bA.flat,bA.one,bJ.flat,bJ.one,bK.flat,bK.one,bM.flat,bM.one,dY.flat,dY.one,dO.flat,dO.one,cR.aO]
     try(with_reducible intro _)
     refine aH.wn3 (hx) z_n ⟨aDZ,b6⟩ ⟨dW,aMP,cT⟩ ?_
     rintro r l_ gb ⟨e_b,oeb,rfl,rfl⟩ wb z_n b6 cT
     have oob:=oeb
     obtain⟨aUM,rfl,wZ⟩:=oob
     try simp -dsimp -implicitDefEqProofs only[go_sem,↓reduceIte,Tryz.f68,aF,aE,bD,bE,oA,oB,vG,vH,ea,hlt,aK,aZ,bA.flat,bA.one,bJ.flat,bJ.one,bK.flat,bK.one,bM.flat,bM.one,dY.flat,dY.one,dO.flat,dO.one,wZ.flat,wZ.one,OV.aM,OV.aD,OV.aR,cR.aO]
     repeat'(with_reducible first|refine And.intro eU ?_)
     intro m qm
     obtain⟨wW,wX,wY,aMO⟩:=cB (show ¬m=n3 from qm.1)
     obtain⟨pF,pG,pH,aDY⟩:=cB (show ¬m=n2 from qm.2.1)
     obtain⟨bF0,aN6,aN7,bF1⟩:=cB (show ¬m=n from qm.2.2.1)
     have z_m:=qm.2.2.2
     try simp -dsimp -implicitDefEqProofs only[go_sem,↓reduceIte,Tryz.f68,aF,aE,bD,bE,oA,oB,vG,vH,wX,wY,pG,pH,aN6,aN7,ea,hlt,aK,aZ,bA.flat,bA.one,bJ.flat,bJ.one,bK.flat,bK.one,bM.flat,bM.one,dY.flat,dY.one,dO.flat,dO.one,wZ.flat,wZ.one,OV.aM,OV.aD,OV.aR]
     refine⟨(k+1,es++[[.v (.int .i64 x.cQ[k].cU),.v (.int .i64 x.cQ[k].iL),aUM]],gb,some m),?_⟩
     simp only
     refine⟨?_,lU,⟨by omega,OR.snoc hor hlt oeb,hnew.snoc wb,b6,cT,z_m,(λn_ e_=>by obtain rfl:=eN e_;exact⟨pF,wW⟩)⟩,by omega⟩
     all_goals(repeat'(with_reducible refine And.intro ?_ ?_))
     all_goals first|rfl|trivial|(rw[IntWalk.i64_in _ aA];omega)
   ·have hk2:k=x.cQ.length:=by omega
    subst hk2
    rw[eJ]at hor
    have aXY:dG g_ (.row 3 (OV.cells es)) o_ n2=none:=e8 b6 λn_ e_=>(hon n_ e_).1
    have bDC:dG g_ (.row 3 (OV.cells es)) o_ n3=none:=e8 cT λn_ e_=>(hon n_ e_).2
    try simp -dsimp -implicitDefEqProofs only[go_sem,↓reduceIte,Tryz.f68,aF,aE,bD,bE,fY,iT,bA.flat,bA.one,bJ.flat,bJ.one,bK.flat,bK.one,bM.flat,bM.one,dY.flat,dY.one,dO.flat,dO.one,cO]
    try(with_reducible intro _)
    refine⟨_,(dG g_ (.row 3 (OV.cells es)) o_),_,Shift.of (Sub.agg (b8.cons (Sub.refl _) (b8.cons (Sub.refl _) (b8.cons (Sub.refl _) (b8.cons (Sub.refl _) (b8.cons (Sub.refl _) (b8.cons (Sub.refl _) (b8.cons (Sub.refl _) (b8.cons yX (b8.cons (Sub.refl _) b8.nil)))))))))) lU,⟨[lL,.v (.int .i64 x.bC.bO),.v (.int .i64 x.bC.aQ),rD,rE,pP,aD0,(gov 3 es o_),rW],?_,rfl,rfl⟩,?_⟩
    ·exact⟨lL,rD,rE,pP,aD0,(gov 3 es o_),rW,rfl,bA,bJ,bK,bM,dY,yK hor hos,dO⟩
    ·have hq:=(eO.append (eO.append (eO.append (eO.append wc0 wc1) wc2) wc3) (sI (sz:=3) hnew hos))
     refine eO.perm (a:=_) hq ?_
     simp only[OV.b7,OV.cV,OV.dV,OV.kG,pR,gU,oW]
     first|exact List.Perm.refl _|(simp only[←oW];exact aN1 _ _ _)|(simp only[←oW];exact aUN _ _)
end Go.Hl

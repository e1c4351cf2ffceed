/-
  Contracts of functions and laws of the layer over the walk.
-/
import Derived.Test.YtchbdakgjlnbgaaGreatDoorVvC
import Derived.Test.YtchbdakgjlnbgaaGreatDoorHlD
namespace Go.Hl
set_option maxRecDepth 100000
open Go.Proofs
set_option linter.unusedVariables false
set_option linter.unusedSimpArgs false
@[go_sem] def a6B:List Nat:=[0,2,3,4,32]
@[go_sem] def bTR:List Nat:=[14,45]
@[go_sem] def bTS:Marks:=λid=>match id with|1=>([3,8,14,19,21,22],(.op 0 (.op 1 (.op 2 (.op 4 (.op 5 (.op 6 (.op 7 (.op 9 (.op 10 (.op 11 (.op 12 (.op 13 (.op 15 (.op 16 (.op 17 (.op 18 (.alt 3 (.alt 8 (.alt 14 (.alt 19 (.op 20 (.op 21 (.op 22 .nil))) 21 (.op 19 (.op 20 (.op 22 .nil)))) 21 (.op 14 (.op 19 (.op 20 (.op 22 .nil))))) 21 (.op 8 (.op 14 (.op 19 (.op 20 (.op 22 .nil)))))) 21 (.op 3 (.op 8 (.op 14 (.op 19 (.op 20 (.op 22 .nil))))))))))))))))))))))),[])|5=>([1,9,11,13],(.op 0 (.op 2 (.op 3 (.op 4 (.op 5 (.op 6 (.op 7 (.op 8 (.op 1 (.op 9 (.op 10 (.op 11 (.op 12 (.op 13 .nil)))))))))))))),[(1,9)])|_=>([],.nil,[])
set_option maxHeartbeats 1000000 in
theorem aT6 (x:aI) (hs:x.s<=1048576):tU Tryz.prog 68 [.ip 9 [x.c] 0 0] (QA x.o):=by
 have hs':=x.fQ
 have rO:=x.bA.fQ
 try simp only[fF]at hs'
 simp only[aI.aM]
 refine x9 49 a6B bTR bTS Tryz.func68 λh=>?_
 try simp -dsimp -implicitDefEqProofs only[go_sem,↓reduceIte,Tryz.f68,aF,aD]
 intro n2 qn2
 have cB:=qn2
 try simp -dsimp -implicitDefEqProofs only[go_sem,↓reduceIte,Tryz.f68,aF,aD]
 try(with_reducible refine And.intro cM ?_)
 refine⟨?_,?_⟩
 rotate_left
 focus
  intro n3 sJ
  obtain⟨dP,bC,bD,nQ⟩:=cE (show ¬n3=n2 from sJ.1)
  have cU:=sJ.2
  try simp -dsimp -implicitDefEqProofs only[go_sem,↓reduceIte,Tryz.f68,aF,aD,bC,bD,OV.aR,OV.aG,OV.bE]
  refine aH.oX (tU.sub (by repeat'(first|exact bQ.nil|refine bQ.cons ?_ ?_|exact Sub.refl _|(rw[aB.aM];exact Sub.refl _)|exact Sub.cK rfl rfl rfl|exact Sub.ip (bF aA) aS|exact Sub.cK (bF aA) rfl rfl|exact Sub.ip bU aS|exact Sub.cK bU bS bS)) (aMA x.bA aA)) cB ⟨dP,cU⟩ ?_
  rintro r l_ gc0 ⟨aXO,aDH,rfl,rfl⟩ wc0 cB cU
  have aDI:=aDH
  obtain⟨k9,pZ,p1,rfl,aZ,bK,bL⟩:=aDI
  try simp -dsimp -implicitDefEqProofs only[go_sem,↓reduceIte,Tryz.f68,aF,aD,bC,bD,aZ.flat,aZ.one,bK.flat,bK.one,bL.flat,bL.one,OV.aR,OV.aG,OV.bE]
  refine aH.oX (lN x.aP aA) cB ⟨dP,cU⟩ ?_
  rintro r l_ gc1 ⟨oK,bP,rfl,rfl⟩ wc1 cB cU
  try simp -dsimp -implicitDefEqProofs only[go_sem,↓reduceIte,Tryz.f68,aF,aD,bC,bD,aZ.flat,aZ.one,bK.flat,bK.one,bL.flat,bL.one,bP.flat,bP.one,OV.aR,OV.aG,OV.bE]
  try(with_reducible refine And.intro cM ?_)
  refine⟨λbHU=>?_,λbTT=>?_⟩
  rotate_left
  focus
   repeat'(with_reducible first|refine And.intro eP ?_)
   intro mc2 aKM
   obtain⟨bA3,bA4,bA5,aAN⟩:=cE (show ¬mc2=n3 from aKM.1)
   obtain⟨aXP,aXQ,aXR,vD⟩:=cE (show ¬mc2=n2 from aKM.2.1)
   have aR7:=aKM.2.2
   simp only[nB vD,nB aAN]
   obtain⟨aB0,gc2,dR,vc2,wc2,aIS⟩:=aOS aC.bool (l:=x.bM) (sz:=1) aR7
   simp only[←aIS,←vc2]
   have cB:gc2 n2=none:=by rw[aIS,aD _ _ _ _ vD];exact cB
   have cU:gc2 n3=none:=by rw[aIS,aD _ _ _ _ aAN];exact cU
   try simp -dsimp -implicitDefEqProofs only[go_sem,↓reduceIte,Tryz.f68,aF,aD,bC,bD,aZ.flat,aZ.one,bK.flat,bK.one,bL.flat,bL.one,bP.flat,bP.one,dR.flat,dR.one,OV.aR,OV.aG,OV.bE]
   refine aH.oX (lN x.bI aA) cB ⟨dP,cU⟩ ?_
   rintro r l_ gc3 ⟨qN,dK,rfl,rfl⟩ wc3 cB cU
   try simp -dsimp -implicitDefEqProofs only[go_sem,↓reduceIte,Tryz.f68,aF,aD,bC,bD,aZ.flat,aZ.one,bK.flat,bK.one,bL.flat,bL.one,bP.flat,bP.one,dR.flat,dR.one,dK.flat,dK.one,OV.aR,OV.aG,OV.bE]
   repeat'(with_reducible first|refine And.intro eP ?_)
   try(with_reducible intro _)
  rotate_right
  try simp -dsimp -implicitDefEqProofs only[go_sem,↓reduceIte,Tryz.f68,aF,aD,bC,bD,aZ.flat,aZ.one,bK.flat,bK.one,bL.flat,bL.one,bP.flat,bP.one,OV.aR,OV.aG,OV.bE]
  refine aH.oX (lN x.bI aA) cB ⟨dP,cU⟩ ?_
  rintro r l_ gc3 ⟨qN,dK,rfl,rfl⟩ wc3 cB cU
  try simp -dsimp -implicitDefEqProofs only[go_sem,↓reduceIte,Tryz.f68,aF,aD,bC,bD,aZ.flat,aZ.one,bK.flat,bK.one,bL.flat,bL.one,bP.flat,bP.one,dK.flat,dK.one,OV.aR,OV.aG,OV.bE]
  repeat'(with_reducible first|refine And.intro eP ?_)
  try(with_reducible intro _)
 rotate_right
 refine aH.wn1 (tU.sub (by repeat'(first|exact bQ.nil|refine bQ.cons ?_ ?_|exact Sub.refl _|(rw[aB.aM];exact Sub.refl _)|exact Sub.cK rfl rfl rfl|exact Sub.ip (bF aA) aS|exact Sub.cK (bF aA) rfl rfl|exact Sub.ip bU aS|exact Sub.cK bU bS bS)) (aMA x.bA aA)) cB ?_
 rintro r l_ gc0 ⟨aXO,aDH,rfl,rfl⟩ wc0 cB
 have aDI:=aDH
 obtain⟨k9,pZ,p1,rfl,aZ,bK,bL⟩:=aDI
 try simp -dsimp -implicitDefEqProofs only[go_sem,↓reduceIte,Tryz.f68,aF,aD,aZ.flat,aZ.one,bK.flat,bK.one,bL.flat,bL.one,OV.aR,OV.aG,OV.bE]
 try(with_reducible refine And.intro cM ?_)
 refine⟨?_,?_⟩
 rotate_left
 focus
  intro n3 sJ
  obtain⟨dP,bC,bD,nQ⟩:=cE (show ¬n3=n2 from sJ.1)
  have cU:=sJ.2
  try simp -dsimp -implicitDefEqProofs only[go_sem,↓reduceIte,Tryz.f68,aF,aD,bC,bD,aZ.flat,aZ.one,bK.flat,bK.one,bL.flat,bL.one,OV.aR,OV.aG,OV.bE]
  refine aH.oX (lN x.aP aA) cB ⟨dP,cU⟩ ?_
  rintro r l_ gc1 ⟨oK,bP,rfl,rfl⟩ wc1 cB cU
  try simp -dsimp -implicitDefEqProofs only[go_sem,↓reduceIte,Tryz.f68,aF,aD,bC,bD,aZ.flat,aZ.one,bK.flat,bK.one,bL.flat,bL.one,bP.flat,bP.one,OV.aR,OV.aG,OV.bE]
  try(with_reducible refine And.intro cM ?_)
  refine⟨λbHU=>?_,λbTT=>?_⟩
  rotate_left
  focus
   repeat'(with_reducible first|refine And.intro eP ?_)
   intro mc2 aKM
   obtain⟨bA3,bA4,bA5,aAN⟩:=cE (show ¬mc2=n3 from aKM.1)
   obtain⟨aXP,aXQ,aXR,vD⟩:=cE (show ¬mc2=n2 from aKM.2.1)
   have aR7:=aKM.2.2
   simp only[nB vD,nB aAN]
   obtain⟨aB0,gc2,dR,vc2,wc2,aIS⟩:=aOS aC.bool (l:=x.bM) (sz:=1) aR7
   simp only[←aIS,←vc2]
   have cB:gc2 n2=none:=by rw[aIS,aD _ _ _ _ vD];exact cB
   have cU:gc2 n3=none:=by rw[aIS,aD _ _ _ _ aAN];exact cU
   try simp -dsimp -implicitDefEqProofs only[go_sem,↓reduceIte,Tryz.f68,aF,aD,bC,bD,aZ.flat,aZ.one,bK.flat,bK.one,bL.flat,bL.one,bP.flat,bP.one,dR.flat,dR.one,OV.aR,OV.aG,OV.bE]
   refine aH.oX (lN x.bI aA) cB ⟨dP,cU⟩ ?_
   rintro r l_ gc3 ⟨qN,dK,rfl,rfl⟩ wc3 cB cU
   try simp -dsimp -implicitDefEqProofs only[go_sem,↓reduceIte,Tryz.f68,aF,aD,bC,bD,aZ.flat,aZ.one,bK.flat,bK.one,bL.flat,bL.one,bP.flat,bP.one,dR.flat,dR.one,dK.flat,dK.one,OV.aR,OV.aG,OV.bE]
   repeat'(with_reducible first|refine And.intro eP ?_)
   try(with_reducible intro _)
  rotate_right
  try simp -dsimp -implicitDefEqProofs only[go_sem,↓reduceIte,Tryz.f68,aF,aD,bC,bD,aZ.flat,aZ.one,bK.flat,bK.one,bL.flat,bL.one,bP.flat,bP.one,OV.aR,OV.aG,OV.bE]
  refine aH.oX (lN x.bI aA) cB ⟨dP,cU⟩ ?_
  rintro r l_ gc3 ⟨qN,dK,rfl,rfl⟩ wc3 cB cU
  try simp -dsimp -implicitDefEqProofs only[go_sem,↓reduceIte,Tryz.f68,aF,aD,bC,bD,aZ.flat,aZ.one,bK.flat,bK.one,bL.flat,bL.one,bP.flat,bP.one,dK.flat,dK.one,OV.aR,OV.aG,OV.bE]
  repeat'(with_reducible first|refine And.intro eP ?_)
  try(with_reducible intro _)
 rotate_right
 refine aH.wn1 (lN x.aP aA) cB ?_
 rintro r l_ gc1 ⟨oK,bP,rfl,rfl⟩ wc1 cB
 try simp -dsimp -implicitDefEqProofs only[go_sem,↓reduceIte,Tryz.f68,aF,aD,aZ.flat,aZ.one,bK.flat,bK.one,bL.flat,bL.one,bP.flat,bP.one,OV.aR,OV.aG,OV.bE]
 try(with_reducible refine And.intro cM ?_)
 refine⟨?_,?_⟩
 rotate_left
 focus
  intro n3 sJ
  obtain⟨dP,bC,bD,nQ⟩:=cE (show ¬n3=n2 from sJ.1)
  have cU:=sJ.2
  try simp -dsimp -implicitDefEqProofs only[go_sem,↓reduceIte,Tryz.f68,aF,aD,bC,bD,aZ.flat,aZ.one,bK.flat,bK.one,bL.flat,bL.one,bP.flat,bP.one,OV.aR,OV.aG,OV.bE]
  try(with_reducible refine And.intro cM ?_)
  refine⟨λbHU=>?_,λbTT=>?_⟩
  rotate_left
  focus
   repeat'(with_reducible first|refine And.intro eP ?_)
   intro mc2 aKM
   obtain⟨bA3,bA4,bA5,aAN⟩:=cE (show ¬mc2=n3 from aKM.1)
   obtain⟨aXP,aXQ,aXR,vD⟩:=cE (show ¬mc2=n2 from aKM.2.1)
   have aR7:=aKM.2.2
   simp only[nB vD,nB aAN]
   obtain⟨aB0,gc2,dR,vc2,wc2,aIS⟩:=aOS aC.bool (l:=x.bM) (sz:=1) aR7
   simp only[←aIS,←vc2]
   have cB:gc2 n2=none:=by rw[aIS,aD _ _ _ _ vD];exact cB
   have cU:gc2 n3=none:=by rw[aIS,aD _ _ _ _ aAN];exact cU
   try simp -dsimp -implicitDefEqProofs only[go_sem,↓reduceIte,Tryz.f68,aF,aD,bC,bD,aZ.flat,aZ.one,bK.flat,bK.one,bL.flat,bL.one,bP.flat,bP.one,dR.flat,dR.one,OV.aR,OV.aG,OV.bE]
   refine aH.oX (lN x.bI aA) cB ⟨dP,cU⟩ ?_
   rintro r l_ gc3 ⟨qN,dK,rfl,rfl⟩ wc3 cB cU
   try simp -dsimp -implicitDefEqProofs only[go_sem,↓reduceIte,Tryz.f68,aF,aD,bC,bD,aZ.flat,aZ.one,bK.flat,bK.one,bL.flat,bL.one,bP.flat,bP.one,dR.flat,dR.one,dK.flat,dK.one,OV.aR,OV.aG,OV.bE]
   repeat'(with_reducible first|refine And.intro eP ?_)
   try(with_reducible intro _)
  rotate_right
  try simp -dsimp -implicitDefEqProofs only[go_sem,↓reduceIte,Tryz.f68,aF,aD,bC,bD,aZ.flat,aZ.one,bK.flat,bK.one,bL.flat,bL.one,bP.flat,bP.one,OV.aR,OV.aG,OV.bE]
  refine aH.oX (lN x.bI aA) cB ⟨dP,cU⟩ ?_
  rintro r l_ gc3 ⟨qN,dK,rfl,rfl⟩ wc3 cB cU
  try simp -dsimp -implicitDefEqProofs only[go_sem,↓reduceIte,Tryz.f68,aF,aD,bC,bD,aZ.flat,aZ.one,bK.flat,bK.one,bL.flat,bL.one,bP.flat,bP.one,dK.flat,dK.one,OV.aR,OV.aG,OV.bE]
  repeat'(with_reducible first|refine And.intro eP ?_)
  try(with_reducible intro _)
 rotate_right
 try(with_reducible refine And.intro cM ?_)
 refine⟨λbHU=>?_,λbTT=>?_⟩
 rotate_left
 focus
  repeat'(with_reducible first|refine And.intro eP ?_)
  intro mc2 aKM
  obtain⟨aXP,aXQ,aXR,vD⟩:=cE (show ¬mc2=n2 from aKM.1)
  have aR7:=aKM.2
  simp only[nB vD]
  obtain⟨aB0,gc2,dR,vc2,wc2,aIS⟩:=aOS aC.bool (l:=x.bM) (sz:=1) aR7
  simp only[←aIS,←vc2]
  have cB:gc2 n2=none:=by rw[aIS,aD _ _ _ _ vD];exact cB
  try simp -dsimp -implicitDefEqProofs only[go_sem,↓reduceIte,Tryz.f68,aF,aD,aZ.flat,aZ.one,bK.flat,bK.one,bL.flat,bL.one,bP.flat,bP.one,dR.flat,dR.one,OV.aR,OV.aG,OV.bE]
  try(with_reducible refine And.intro cM ?_)
  refine⟨?_,?_⟩
  rotate_left
  focus
   intro n3 sJ
   obtain⟨dP,bC,bD,nQ⟩:=cE (show ¬n3=n2 from by grind)
   have cU:gc2 n3=none:=by rw[aIS,lX];grind
   try simp -dsimp -implicitDefEqProofs only[go_sem,↓reduceIte,Tryz.f68,aF,aD,bC,bD,aZ.flat,aZ.one,bK.flat,bK.one,bL.flat,bL.one,bP.flat,bP.one,dR.flat,dR.one,OV.aR,OV.aG,OV.bE]
   refine aH.oX (lN x.bI aA) cB ⟨dP,cU⟩ ?_
   rintro r l_ gc3 ⟨qN,dK,rfl,rfl⟩ wc3 cB cU
   try simp -dsimp -implicitDefEqProofs only[go_sem,↓reduceIte,Tryz.f68,aF,aD,bC,bD,aZ.flat,aZ.one,bK.flat,bK.one,bL.flat,bL.one,bP.flat,bP.one,dR.flat,dR.one,dK.flat,dK.one,OV.aR,OV.aG,OV.bE]
   repeat'(with_reducible first|refine And.intro eP ?_)
   try(with_reducible intro _)
  rotate_right
  refine aH.wn1 (lN x.bI aA) cB ?_
  rintro r l_ gc3 ⟨qN,dK,rfl,rfl⟩ wc3 cB
  try simp -dsimp -implicitDefEqProofs only[go_sem,↓reduceIte,Tryz.f68,aF,aD,aZ.flat,aZ.one,bK.flat,bK.one,bL.flat,bL.one,bP.flat,bP.one,dR.flat,dR.one,dK.flat,dK.one,OV.aR,OV.aG,OV.bE]
  repeat'(with_reducible first|refine And.intro eP ?_)
  intro n3 sJ
  obtain⟨dP,bC,bD,nQ⟩:=cE (show ¬n3=n2 from sJ.1)
  have cU:=sJ.2
  try simp -dsimp -implicitDefEqProofs only[go_sem,↓reduceIte,Tryz.f68,aF,aD,bC,bD,aZ.flat,aZ.one,bK.flat,bK.one,bL.flat,bL.one,bP.flat,bP.one,dR.flat,dR.one,dK.flat,dK.one,OV.aR,OV.aG,OV.bE]
  try(with_reducible intro _)
 rotate_right
 try simp -dsimp -implicitDefEqProofs only[go_sem,↓reduceIte,Tryz.f68,aF,aD,aZ.flat,aZ.one,bK.flat,bK.one,bL.flat,bL.one,bP.flat,bP.one,OV.aR,OV.aG,OV.bE]
 try(with_reducible refine And.intro cM ?_)
 refine⟨?_,?_⟩
 rotate_left
 focus
  intro n3 sJ
  obtain⟨dP,bC,bD,nQ⟩:=cE (show ¬n3=n2 from sJ.1)
  have cU:=sJ.2
  try simp -dsimp -implicitDefEqProofs only[go_sem,↓reduceIte,Tryz.f68,aF,aD,bC,bD,aZ.flat,aZ.one,bK.flat,bK.one,bL.flat,bL.one,bP.flat,bP.one,OV.aR,OV.aG,OV.bE]
  refine aH.oX (lN x.bI aA) cB ⟨dP,cU⟩ ?_
  rintro r l_ gc3 ⟨qN,dK,rfl,rfl⟩ wc3 cB cU
  try simp -dsimp -implicitDefEqProofs only[go_sem,↓reduceIte,Tryz.f68,aF,aD,bC,bD,aZ.flat,aZ.one,bK.flat,bK.one,bL.flat,bL.one,bP.flat,bP.one,dK.flat,dK.one,OV.aR,OV.aG,OV.bE]
  repeat'(with_reducible first|refine And.intro eP ?_)
  try(with_reducible intro _)
 rotate_right
 refine aH.wn1 (lN x.bI aA) cB ?_
 rintro r l_ gc3 ⟨qN,dK,rfl,rfl⟩ wc3 cB
 try simp -dsimp -implicitDefEqProofs only[go_sem,↓reduceIte,Tryz.f68,aF,aD,aZ.flat,aZ.one,bK.flat,bK.one,bL.flat,bL.one,bP.flat,bP.one,dK.flat,dK.one,OV.aR,OV.aG,OV.bE]
 repeat'(with_reducible first|refine And.intro eP ?_)
 intro n3 sJ
 obtain⟨dP,bC,bD,nQ⟩:=cE (show ¬n3=n2 from sJ.1)
 have cU:=sJ.2
 try simp -dsimp -implicitDefEqProofs only[go_sem,↓reduceIte,Tryz.f68,aF,aD,bC,bD,aZ.flat,aZ.one,bK.flat,bK.one,bL.flat,bL.one,bP.flat,bP.one,dK.flat,dK.one,OV.aR,OV.aG,OV.bE]
 try(with_reducible intro _)
 all_goals first
  |have q_c:=bHU
   refine cY a6B bTR bTS (λs:Nat×List (List OV)×Heap×Option Nat=>[(0,.ip 9 [[(cI 3 aX.c x.bA.bN.aJ),(.int .i64 x.bA.b5),(.int .i64 x.bA.aU),(cI 1 (λn=>[I n]) x.bA.cT),(cI 1 (λx=>[cI 1 (λn=>[I n]) x]) x.bA.aQ),(cI 1 (λn=>[I n]) x.aP),(cI 1 (λb=>[.bool b]) x.bM),(cI 3 bR.c x.bW),(cI 1 (λn=>[I n]) x.bI)]] 0 0),(2,.op n2 9 0 0),(3,.op n3 9 0 0),(4,(I s.1))]) (λs=>(bT (bT (c7 s.2.2.1 (.row 3 (OV.cells s.2.1)) s.2.2.2) n2 (.row 9 [[.v (.aV),.v (.int .i64 0),.v (.int .i64 0),.v (.aV),.v (.aV),.v (.aV),.v (.aV),.v (.aV),.v (.aV)]])) n3 (.row 9 [[.v (k9.val),.v (.int .i64 x.bA.b5),.v (.int .i64 x.bA.aU),.v (pZ.val),.v (p1.val),.v (oK.val),.v (.sl 1 [] true),.v (jV 3 s.2.1.length s.2.2.2),.v (qN.val)]]))) (λs=>s.1<=x.bW.length/\OR bR.o (x.bW.take s.1) s.2.1/\eW gc3 (OV.cW s.2.1) s.2.2.1/\s.2.2.1 n2=none/\s.2.2.1 n3=none/\wU s.2.2.1 s.2.1 s.2.2.2/\∀ n:Nat,s.2.2.2=some n->n≠n2/\n≠n3) (λs=>x.bW.length-s.1) (0,[],gc3,none) ?_ ?_
   ·exact⟨by simp[dT,dB],lE,iZ _,trivial,eW.nil _,cB,cU,rfl,by simp⟩
   rintro⟨k,es,g_,o_⟩ ⟨hkk,hor,hnew,cB,cU,hos,hon⟩
   simp only at hkk hor hnew cB cU hos hon ⊢
   have hlen:es.length=k:=by have:=hor.length;simp at this;omega
   rcases cP k x.bW.length with hlt|hge
   ·have ea:x.bW[k]?=some x.bW[k]:=b6 hlt
    have hx:=aHT x.bW[k] bFM
    simp only[bR.aM]at hx
    cases o_ with
    |none =>
     rw[jP]at hos
     subst hos
     try simp -dsimp -implicitDefEqProofs only[go_sem,↓reduceIte,Tryz.f68,aF,aD,bC,bD,ea,hlt,aN,bJ,aZ.flat,aZ.one,bK.flat,bK.one,bL.flat,bL.one,bP.flat,bP.one,dK.flat,dK.one,bR.aM]
     try(with_reducible intro _)
     refine aH.oX (hx) cB ⟨dP,cU⟩ ?_
     rintro r l_ gb ⟨e_b,oeb,rfl,rfl⟩ wb cB cU
     have oob:=oeb
     obtain⟨aR5,rfl,vC⟩:=oob
     try simp -dsimp -implicitDefEqProofs only[go_sem,↓reduceIte,Tryz.f68,aF,aD,bC,bD,ea,hlt,aN,bJ,aZ.flat,aZ.one,bK.flat,bK.one,bL.flat,bL.one,bP.flat,bP.one,dK.flat,dK.one,vC.flat,vC.one,OV.aR,OV.aG,OV.bE,bR.aM]
     repeat'(with_reducible first|refine And.intro eP ?_)
     intro m qm
     obtain⟨u9,vA,vB,aKK⟩:=cE (show ¬m=n3 from qm.1)
     obtain⟨oD,oE,oF,aBY⟩:=cE (show ¬m=n2 from qm.2.1)
     have z_m:=qm.2.2
     try simp -dsimp -implicitDefEqProofs only[go_sem,↓reduceIte,Tryz.f68,aF,aD,bC,bD,vA,vB,oE,oF,ea,hlt,aN,bJ,aZ.flat,aZ.one,bK.flat,bK.one,bL.flat,bL.one,bP.flat,bP.one,dK.flat,dK.one,vC.flat,vC.one,OV.aR,OV.aG,OV.bE]
     refine⟨(k+1,([]:List (List OV))++[[.v (.int .i64 x.bW[k].cX),.v (.int .i64 x.bW[k].jA),aR5]],gb,some m),?_⟩
     simp only
     refine⟨?_,lE,⟨by omega,OR.snoc hor hlt oeb,hnew.snoc wb,cB,cU,z_m,(λn_ e_=>by obtain rfl:=dY e_;exact⟨oD,u9⟩)⟩,by omega⟩
     all_goals(repeat'(with_reducible refine And.intro ?_ ?_))
     all_goals first|rfl|trivial|(rw[IntWalk.i64_in _ aA];omega)
    |some n =>
     rw[kM]at hos
     have z_n:=hos
     have hn:=hon n rfl
     obtain⟨aVE,nE,nF,aBZ⟩:=cE (show ¬n=n2 from hn.1)
     obtain⟨bAZ,tM,tN,aKL⟩:=cE (show ¬n=n3 from hn.2)
     try simp -dsimp -implicitDefEqProofs only[go_sem,↓reduceIte,Tryz.f68,aF,aD,bC,bD,nE,nF,tM,tN,ea,hlt,aL,aY,aZ.flat,aZ.one,bK.flat,bK.one,bL.flat,bL.one,bP.flat,bP.one,dK.flat,dK.one,bR.aM]
     try(with_reducible intro _)
     refine aH.wn3 (hx) z_n ⟨aBZ,cB⟩ ⟨dP,aKL,cU⟩ ?_
     rintro r l_ gb ⟨e_b,oeb,rfl,rfl⟩ wb z_n cB cU
     have oob:=oeb
     obtain⟨aR5,rfl,vC⟩:=oob
     try simp -dsimp -implicitDefEqProofs only[go_sem,↓reduceIte,Tryz.f68,aF,aD,bC,bD,nE,nF,tM,tN,ea,hlt,aL,aY,aZ.flat,aZ.one,bK.flat,bK.one,bL.flat,bL.one,bP.flat,bP.one,dK.flat,dK.one,vC.flat,vC.one,OV.aR,OV.aG,OV.bE,bR.aM]
     repeat'(with_reducible first|refine And.intro eP ?_)
     intro m qm
     obtain⟨u9,vA,vB,aKK⟩:=cE (show ¬m=n3 from qm.1)
     obtain⟨oD,oE,oF,aBY⟩:=cE (show ¬m=n2 from qm.2.1)
     obtain⟨bDP,aL5,aL6,bDQ⟩:=cE (show ¬m=n from qm.2.2.1)
     have z_m:=qm.2.2.2
     try simp -dsimp -implicitDefEqProofs only[go_sem,↓reduceIte,Tryz.f68,aF,aD,bC,bD,nE,nF,tM,tN,vA,vB,oE,oF,aL5,aL6,ea,hlt,aL,aY,aZ.flat,aZ.one,bK.flat,bK.one,bL.flat,bL.one,bP.flat,bP.one,dK.flat,dK.one,vC.flat,vC.one,OV.aR,OV.aG,OV.bE]
     refine⟨(k+1,es++[[.v (.int .i64 x.bW[k].cX),.v (.int .i64 x.bW[k].jA),aR5]],gb,some m),?_⟩
     simp only
     refine⟨?_,lE,⟨by omega,OR.snoc hor hlt oeb,hnew.snoc wb,cB,cU,z_m,(λn_ e_=>by obtain rfl:=dY e_;exact⟨oD,u9⟩)⟩,by omega⟩
     all_goals(repeat'(with_reducible refine And.intro ?_ ?_))
     all_goals first|rfl|trivial|(rw[IntWalk.i64_in _ aA];omega)
   ·have hk2:k=x.bW.length:=by omega
    subst hk2
    rw[eL]at hor
    have aVF:c7 g_ (.row 3 (OV.cells es)) o_ n2=none:=eZ cB λn_ e_=>(hon n_ e_).1
    have bA0:c7 g_ (.row 3 (OV.cells es)) o_ n3=none:=eZ cU λn_ e_=>(hon n_ e_).2
    try simp -dsimp -implicitDefEqProofs only[go_sem,↓reduceIte,Tryz.f68,aF,aD,bC,bD,fR,iN,aZ.flat,aZ.one,bK.flat,bK.one,bL.flat,bL.one,bP.flat,bP.one,dK.flat,dK.one,cN]
    try(with_reducible intro _)
    refine⟨_,(c7 g_ (.row 3 (OV.cells es)) o_),_,Shift.of (Sub.agg (bQ.cons (Sub.refl _) (bQ.cons (Sub.refl _) (bQ.cons (Sub.refl _) (bQ.cons (Sub.refl _) (bQ.cons (Sub.refl _) (bQ.cons (Sub.refl _) (bQ.cons (Sub.refl _) (bQ.cons wL (bQ.cons (Sub.refl _) bQ.nil)))))))))) lE,⟨[k9,.v (.int .i64 x.bA.b5),.v (.int .i64 x.bA.aU),pZ,p1,oK,(.nil 1),(gov 3 es o_),qN],?_,rfl,rfl⟩,?_⟩
    ·exact⟨k9,pZ,p1,oK,(.nil 1),(gov 3 es o_),qN,rfl,aZ,bK,bL,bP,(.inl ⟨rfl,by simpa using bHU⟩),wC hor hos,dK⟩
    ·have hq:=(eW.append (eW.append (eW.append wc0 wc1) wc3) (q9 (sz:=3) hnew hos))
     refine eW.perm (a:=_) hq ?_
     simp only[OV.gG,OV.j9,OV.rN,OV.lY,al0,wP,qT]
     first|exact List.Perm.refl _|(simp only[←qT];exact aL0 _ _ _)|(simp only[←qT];exact aR6 _ _)
  |skip
   refine cY a6B bTR bTS (λs:Nat×List (List OV)×Heap×Option Nat=>[(0,.ip 9 [[(cI 3 aX.c x.bA.bN.aJ),(.int .i64 x.bA.b5),(.int .i64 x.bA.aU),(cI 1 (λn=>[I n]) x.bA.cT),(cI 1 (λx=>[cI 1 (λn=>[I n]) x]) x.bA.aQ),(cI 1 (λn=>[I n]) x.aP),(cI 1 (λb=>[.bool b]) x.bM),(cI 3 bR.c x.bW),(cI 1 (λn=>[I n]) x.bI)]] 0 0),(2,.op n2 9 0 0),(3,.op n3 9 0 0),(4,(I s.1))]) (λs=>(bT (bT (c7 s.2.2.1 (.row 3 (OV.cells s.2.1)) s.2.2.2) n2 (.row 9 [[.v (.aV),.v (.int .i64 0),.v (.int .i64 0),.v (.aV),.v (.aV),.v (.aV),.v (.aV),.v (.aV),.v (.aV)]])) n3 (.row 9 [[.v (k9.val),.v (.int .i64 x.bA.b5),.v (.int .i64 x.bA.aU),.v (pZ.val),.v (p1.val),.v (oK.val),.v (aB0.val),.v (jV 3 s.2.1.length s.2.2.2),.v (qN.val)]]))) (λs=>s.1<=x.bW.length/\OR bR.o (x.bW.take s.1) s.2.1/\eW gc3 (OV.cW s.2.1) s.2.2.1/\s.2.2.1 n2=none/\s.2.2.1 n3=none/\wU s.2.2.1 s.2.1 s.2.2.2/\∀ n:Nat,s.2.2.2=some n->n≠n2/\n≠n3) (λs=>x.bW.length-s.1) (0,[],gc3,none) ?_ ?_
   ·exact⟨by simp[dT,dB],lE,iZ _,trivial,eW.nil _,cB,cU,rfl,by simp⟩
   rintro⟨k,es,g_,o_⟩ ⟨hkk,hor,hnew,cB,cU,hos,hon⟩
   simp only at hkk hor hnew cB cU hos hon ⊢
   have hlen:es.length=k:=by have:=hor.length;simp at this;omega
   rcases cP k x.bW.length with hlt|hge
   ·have ea:x.bW[k]?=some x.bW[k]:=b6 hlt
    have hx:=aHT x.bW[k] bFM
    simp only[bR.aM]at hx
    cases o_ with
    |none =>
     rw[jP]at hos
     subst hos
     try simp -dsimp -implicitDefEqProofs only[go_sem,↓reduceIte,Tryz.f68,aF,aD,bC,bD,ea,hlt,aN,bJ,aZ.flat,aZ.one,bK.flat,bK.one,bL.flat,bL.one,bP.flat,bP.one,dR.flat,dR.one,dK.flat,dK.one,bR.aM]
     try(with_reducible intro _)
     refine aH.oX (hx) cB ⟨dP,cU⟩ ?_
     rintro r l_ gb ⟨e_b,oeb,rfl,rfl⟩ wb cB cU
     have oob:=oeb
     obtain⟨aR5,rfl,vC⟩:=oob
     try simp -dsimp -implicitDefEqProofs only[go_sem,↓reduceIte,Tryz.f68,aF,aD,bC,bD,ea,hlt,aN,bJ,aZ.flat,aZ.one,bK.flat,bK.one,bL.flat,bL.one,bP.flat,bP.one,dR.flat,dR.one,dK.flat,dK.one,vC.flat,vC.one,OV.aR,OV.aG,OV.bE,bR.aM]
     repeat'(with_reducible first|refine And.intro eP ?_)
     intro m qm
     obtain⟨u9,vA,vB,aKK⟩:=cE (show ¬m=n3 from qm.1)
     obtain⟨oD,oE,oF,aBY⟩:=cE (show ¬m=n2 from qm.2.1)
     have z_m:=qm.2.2
     try simp -dsimp -implicitDefEqProofs only[go_sem,↓reduceIte,Tryz.f68,aF,aD,bC,bD,vA,vB,oE,oF,ea,hlt,aN,bJ,aZ.flat,aZ.one,bK.flat,bK.one,bL.flat,bL.one,bP.flat,bP.one,dR.flat,dR.one,dK.flat,dK.one,vC.flat,vC.one,OV.aR,OV.aG,OV.bE]
     refine⟨(k+1,([]:List (List OV))++[[.v (.int .i64 x.bW[k].cX),.v (.int .i64 x.bW[k].jA),aR5]],gb,some m),?_⟩
     simp only
     refine⟨?_,lE,⟨by omega,OR.snoc hor hlt oeb,hnew.snoc wb,cB,cU,z_m,(λn_ e_=>by obtain rfl:=dY e_;exact⟨oD,u9⟩)⟩,by omega⟩
     all_goals(repeat'(with_reducible refine And.intro ?_ ?_))
     all_goals first|rfl|trivial|(rw[IntWalk.i64_in _ aA];omega)
    |some n =>
     rw[kM]at hos
     have z_n:=hos
     have hn:=hon n rfl
     obtain⟨aVE,nE,nF,aBZ⟩:=cE (show ¬n=n2 from hn.1)
     obtain⟨bAZ,tM,tN,aKL⟩:=cE (show ¬n=n3 from hn.2)
     try simp -dsimp -implicitDefEqProofs only[go_sem,↓reduceIte,Tryz.f68,aF,aD,bC,bD,nE,nF,tM,tN,ea,hlt,aL,aY,aZ.flat,aZ.one,bK.flat,bK.one,bL.flat,bL.one,bP.flat,bP.one,dR.flat,dR.one,dK.flat,dK.one,bR.aM]
     try(with_reducible intro _)
     refine aH.wn3 (hx) z_n ⟨aBZ,cB⟩ ⟨dP,aKL,cU⟩ ?_
     rintro r l_ gb ⟨e_b,oeb,rfl,rfl⟩ wb z_n cB cU
     have oob:=oeb
     obtain⟨aR5,rfl,vC⟩:=oob
     try simp -dsimp -implicitDefEqProofs only[go_sem,↓reduceIte,Tryz.f68,aF,aD,bC,bD,nE,nF,tM,tN,ea,hlt,aL,aY,aZ.flat,aZ.one,bK.flat,bK.one,bL.flat,bL.one,bP.flat,bP.one,dR.flat,dR.one,dK.flat,dK.one,vC.flat,vC.one,OV.aR,OV.aG,OV.bE,bR.aM]
     repeat'(with_reducible first|refine And.intro eP ?_)
     intro m qm
     obtain⟨u9,vA,vB,aKK⟩:=cE (show ¬m=n3 from qm.1)
     obtain⟨oD,oE,oF,aBY⟩:=cE (show ¬m=n2 from qm.2.1)
     obtain⟨bDP,aL5,aL6,bDQ⟩:=cE (show ¬m=n from qm.2.2.1)
     have z_m:=qm.2.2.2
     try simp -dsimp -implicitDefEqProofs only[go_sem,↓reduceIte,Tryz.f68,aF,aD,bC,bD,nE,nF,tM,tN,vA,vB,oE,oF,aL5,aL6,ea,hlt,aL,aY,aZ.flat,aZ.one,bK.flat,bK.one,bL.flat,bL.one,bP.flat,bP.one,dR.flat,dR.one,dK.flat,dK.one,vC.flat,vC.one,OV.aR,OV.aG,OV.bE]
     refine⟨(k+1,es++[[.v (.int .i64 x.bW[k].cX),.v (.int .i64 x.bW[k].jA),aR5]],gb,some m),?_⟩
     simp only
     refine⟨?_,lE,⟨by omega,OR.snoc hor hlt oeb,hnew.snoc wb,cB,cU,z_m,(λn_ e_=>by obtain rfl:=dY e_;exact⟨oD,u9⟩)⟩,by omega⟩
     all_goals(repeat'(with_reducible refine And.intro ?_ ?_))
     all_goals first|rfl|trivial|(rw[IntWalk.i64_in _ aA];omega)
   ·have hk2:k=x.bW.length:=by omega
    subst hk2
    rw[eL]at hor
    have aVF:c7 g_ (.row 3 (OV.cells es)) o_ n2=none:=eZ cB λn_ e_=>(hon n_ e_).1
    have bA0:c7 g_ (.row 3 (OV.cells es)) o_ n3=none:=eZ cU λn_ e_=>(hon n_ e_).2
    try simp -dsimp -implicitDefEqProofs only[go_sem,↓reduceIte,Tryz.f68,aF,aD,bC,bD,fR,iN,aZ.flat,aZ.one,bK.flat,bK.one,bL.flat,bL.one,bP.flat,bP.one,dR.flat,dR.one,dK.flat,dK.one,cN]
    try(with_reducible intro _)
    refine⟨_,(c7 g_ (.row 3 (OV.cells es)) o_),_,Shift.of (Sub.agg (bQ.cons (Sub.refl _) (bQ.cons (Sub.refl _) (bQ.cons (Sub.refl _) (bQ.cons (Sub.refl _) (bQ.cons (Sub.refl _) (bQ.cons (Sub.refl _) (bQ.cons (Sub.refl _) (bQ.cons wL (bQ.cons (Sub.refl _) bQ.nil)))))))))) lE,⟨[k9,.v (.int .i64 x.bA.b5),.v (.int .i64 x.bA.aU),pZ,p1,oK,aB0,(gov 3 es o_),qN],?_,rfl,rfl⟩,?_⟩
    ·exact⟨k9,pZ,p1,oK,aB0,(gov 3 es o_),qN,rfl,aZ,bK,bL,bP,dR,wC hor hos,dK⟩
    ·have hq:=(eW.append (eW.append (eW.append (eW.append wc0 wc1) wc2) wc3) (q9 (sz:=3) hnew hos))
     refine eW.perm (a:=_) hq ?_
     simp only[OV.gG,OV.j9,OV.rN,OV.lY,al0,wP,qT]
     first|exact List.Perm.refl _|(simp only[←qT];exact aL0 _ _ _)|(simp only[←qT];exact aR6 _ _)
def tR (j:dN):aI:=⟨j,List.replicate j.aQ.length 0,List.replicate j.aQ.length false,List.replicate j.aQ.length ⟨0,0,[]⟩,List.replicate j.aQ.length (-1)⟩
@[go_sem] def bHV:List Nat:=[0,1,2,3,9,10,11]
@[go_sem] def bZT:List Nat:=[1,14,18,25,29]
@[go_sem] def bZU:Marks:=λid=>match id with|4=>([1,3,5,7,9,11],(.op 0 (.op 2 (.op 4 (.op 6 (.op 1 (.op 5 (.op 3 (.op 8 (.op 7 (.op 9 (.op 10 (.op 11 .nil)))))))))))),[(5,3)])|5=>([1,4,6,8,10,12],(.op 0 (.op 2 (.op 3 (.op 5 (.op 7 (.op 1 (.op 6 (.op 4 (.op 9 (.op 8 (.op 10 (.op 11 (.op 12 .nil))))))))))))),[(6,4)])|_=>([],.nil,[])
set_option maxHeartbeats 2000000 in
theorem a6C (x:dN) (hs:x.s<=1048576) (hl:x.aQ.length<=1048576):tU Tryz.prog 76 [.agg x.c] (QA (tR x).o):=by
 simp only[dN.aM]
 refine x9 35 bHV bZT bZU Tryz.func76 λh=>?_
 try simp -dsimp -implicitDefEqProofs only[go_sem,↓reduceIte,Tryz.f76,aF,aD]
 intro n2 qn2
 have cB:=qn2
 try simp -dsimp -implicitDefEqProofs only[go_sem,↓reduceIte,Tryz.f76,aF,aD]
 refine aH.wn1 (aR3 x aA) cB ?_
 rintro r l_ gc0 ⟨aXO,aDH,rfl,rfl⟩ wc0 cB
 have aDI:=aDH
 obtain⟨k9,pZ,p1,rfl,aZ,bK,bL⟩:=aDI
 try simp -dsimp -implicitDefEqProofs only[go_sem,↓reduceIte,Tryz.f76,aF,aD,aZ.flat,aZ.one,bK.flat,bK.one,bL.flat,bL.one,OV.aR,OV.aG,OV.bE]
 intro n3 sJ
 obtain⟨dP,bC,bD,nQ⟩:=cE (show ¬n3=n2 from sJ.1)
 have cU:=sJ.2
 try simp -dsimp -implicitDefEqProofs only[go_sem,↓reduceIte,Tryz.f76,aF,aD,bC,bD,aZ.flat,aZ.one,bK.flat,bK.one,bL.flat,bL.one,OV.aR,OV.aG,OV.bE]
 try(with_reducible intro _)
 refine cY bHV bZT bZU (λs:Nat×Q4=>[(2,.op n2 9 0 0),(3,.op n3 9 0 0),(9,I x.aQ.length),(10,(I s.1))]) (λs=>(c7 (c7 (c7 (c7 (bT (bT gc0 n2 (.row 9 [[.v (.aV),.v (.int .i64 0),.v (.int .i64 0),.v (.aV),.v (.aV),.v (.aV),.v (.aV),.v (.aV),.v (.aV)]])) n3 (.row 9 [[.v (k9.val),.v (.int .i64 x.b5),.v (.int .i64 x.aU),.v (pZ.val),.v (p1.val),.v (jV 1 s.1 (q1 s.2)),.v (jV 1 s.1 (q2 s.2)),.v (jV 3 s.1 (q3 s.2)),.v (jV 1 s.1 (q4 s.2))]])) (.row 1 (kY s.1 [.v (.int .i64 0)])) (q1 s.2)) (.row 1 (kY s.1 [.v (.bool false)])) (q2 s.2)) (.row 3 (kY s.1 [.v (.int .i64 0),.v (.int .i64 0),.v .aV])) (q3 s.2)) (.row 1 (kY s.1 [.v (.int .i64 (-1))])) (q4 s.2))) (λs=>s.1<=x.aQ.length/\a96 gc0 n2 n3 s.1 s.2) (λs=>x.aQ.length-s.1) (0,none) ⟨by simp[dT,dB],bOV,iZ _,rfl⟩ ?_
 rintro⟨k,o⟩ ⟨hk,ho⟩
 simp only at hk ho ⊢
 rcases cP k x.aQ.length with hlt|hge
 ·cases o with
  |none =>
   rw[aC9]at ho
   subst ho
   try simp -dsimp -implicitDefEqProofs only[go_sem,↓reduceIte,Tryz.f76,aF,aD,bC,bD,aZ.flat,aZ.one,bK.flat,bK.one,bL.flat,bL.one,hlt,jI,jJ,jK,jL,iH,iI,iJ,iK,aN,aL,bJ,aY]
   repeat'(with_reducible first|refine And.intro eP ?_)
   intro a' qa'
   obtain⟨a6D,mI,mJ,a6E⟩:=cE (show ¬a'=n2 from iS qa')
   obtain⟨a6F,mK,mL,a6G⟩:=cE (show ¬a'=n3 from iS qa')
   have a6H:gc0 a'=none:=iS qa'
   try simp -dsimp -implicitDefEqProofs only[go_sem,↓reduceIte,Tryz.f76,aF,aD,bC,bD,mI,mJ,mK,mL,aZ.flat,aZ.one,bK.flat,bK.one,bL.flat,bL.one,hlt,jI,jJ,jK,jL,iH,iI,iJ,iK,aN,aL,bJ,aY]
   repeat'(with_reducible first|refine And.intro eP ?_)
   intro b' qb'
   obtain⟨a6I,pI,pJ,a6J⟩:=cE (show ¬b'=n2 from iS qb')
   obtain⟨a6K,pK,pL,a6L⟩:=cE (show ¬b'=n3 from iS qb')
   obtain⟨a6M,pM,pN,a6N⟩:=cE (show ¬b'=a' from iS qb')
   have a6O:gc0 b'=none:=iS qb'
   try simp -dsimp -implicitDefEqProofs only[go_sem,↓reduceIte,Tryz.f76,aF,aD,bC,bD,mI,mJ,mK,mL,pI,pJ,pK,pL,pM,pN,aZ.flat,aZ.one,bK.flat,bK.one,bL.flat,bL.one,hlt,jI,jJ,jK,jL,iH,iI,iJ,iK,aN,aL,bJ,aY]
   repeat'(with_reducible first|refine And.intro eP ?_)
   intro c' qc'
   obtain⟨a6P,uM,uN,a6Q⟩:=cE (show ¬c'=n2 from iS qc')
   obtain⟨a6R,uO,uP,a6S⟩:=cE (show ¬c'=n3 from iS qc')
   obtain⟨a6T,uQ,uR,a6U⟩:=cE (show ¬c'=a' from iS qc')
   obtain⟨a6V,uS,uT,a6W⟩:=cE (show ¬c'=b' from iS qc')
   have a6X:gc0 c'=none:=iS qc'
   try simp -dsimp -implicitDefEqProofs only[go_sem,↓reduceIte,Tryz.f76,aF,aD,bC,bD,mI,mJ,mK,mL,pI,pJ,pK,pL,pM,pN,uM,uN,uO,uP,uQ,uR,uS,uT,aZ.flat,aZ.one,bK.flat,bK.one,bL.flat,bL.one,hlt,jI,jJ,jK,jL,iH,iI,iJ,iK,aN,aL,bJ,aY]
   repeat'(with_reducible first|refine And.intro eP ?_)
   intro d' qd'
   obtain⟨a6Y,aAU,aAV,a6Z⟩:=cE (show ¬d'=n2 from iS qd')
   obtain⟨a60,aAW,aAX,a61⟩:=cE (show ¬d'=n3 from iS qd')
   obtain⟨a62,aAY,aAZ,a63⟩:=cE (show ¬d'=a' from iS qd')
   obtain⟨a64,aA0,aA1,a65⟩:=cE (show ¬d'=b' from iS qd')
   obtain⟨a66,aA2,aA3,a67⟩:=cE (show ¬d'=c' from iS qd')
   have a68:gc0 d'=none:=iS qd'
   try simp -dsimp -implicitDefEqProofs only[go_sem,↓reduceIte,Tryz.f76,aF,aD,bC,bD,mI,mJ,mK,mL,pI,pJ,pK,pL,pM,pN,uM,uN,uO,uP,uQ,uR,uS,uT,aAU,aAV,aAW,aAX,aAY,aAZ,aA0,aA1,aA2,aA3,aZ.flat,aZ.one,bK.flat,bK.one,bL.flat,bL.one,hlt,jI,jJ,jK,jL,iH,iI,iJ,iK,aN,aL,bJ,aY]
   refine⟨(1,some (a',b',c',d')),?_⟩
   simp only[iH,iI,iJ,iK,aL,aY,qD,aF5,aJ7,al4]
   refine⟨by first|rfl|(rw[IntWalk.i64_in _ aA];rfl),(by
     intro q_
     by_cases h0_:q_=n2
     ·rw[h0_];exact .inr aOD
     by_cases h1_:q_=n3
     ·rw[h1_];exact .inr aOD
     by_cases h2_:q_=a'
     ·rw[h2_];exact .inr aOD
     by_cases h3_:q_=b'
     ·rw[h3_];exact .inr aOD
     by_cases h4_:q_=c'
     ·rw[h4_];exact .inr aOD
     by_cases h5_:q_=d'
     ·rw[h5_];exact .inr aOD
     exact .inr bOZ),⟨by omega,⟨a6H,a6O,a6X,a68⟩,?_,?_,?_⟩,by omega⟩
   all_goals(repeat'(with_reducible refine And.intro ?_ ?_))
   all_goals assumption
  |some o =>
   obtain⟨a,b,c,d⟩:=o
   rw[qD]at ho
   obtain⟨⟨ga,gb,gc,gd⟩,⟨ab,ac,ad,bc,bd,cd⟩,⟨an,bn,cn,dn⟩,⟨am,bm,cm,dm⟩⟩:=ho
   have aCI:(a=b)=False:=eq_false ab
   have aCJ:(b=a)=False:=eq_false (iR ab)
   have aCK:(a=c)=False:=eq_false ac
   have aCL:(c=a)=False:=eq_false (iR ac)
   have aCM:(a=d)=False:=eq_false ad
   have aCN:(d=a)=False:=eq_false (iR ad)
   have aCO:(b=c)=False:=eq_false bc
   have aCP:(c=b)=False:=eq_false (iR bc)
   have aCQ:(b=d)=False:=eq_false bd
   have aCR:(d=b)=False:=eq_false (iR bd)
   have aCS:(c=d)=False:=eq_false cd
   have aCT:(d=c)=False:=eq_false (iR cd)
   have tW:(a=n2)=False:=eq_false an
   have tX:(n2=a)=False:=eq_false (iR an)
   have tY:(b=n2)=False:=eq_false bn
   have tZ:(n2=b)=False:=eq_false (iR bn)
   have uA:(c=n2)=False:=eq_false cn
   have uB:(n2=c)=False:=eq_false (iR cn)
   have uC:(d=n2)=False:=eq_false dn
   have uD:(n2=d)=False:=eq_false (iR dn)
   have uE:(a=n3)=False:=eq_false am
   have uF:(n3=a)=False:=eq_false (iR am)
   have uG:(b=n3)=False:=eq_false bm
   have uH:(n3=b)=False:=eq_false (iR bm)
   have uI:(c=n3)=False:=eq_false cm
   have uJ:(n3=c)=False:=eq_false (iR cm)
   have uK:(d=n3)=False:=eq_false dm
   have uL:(n3=d)=False:=eq_false (iR dm)
   try simp -dsimp -implicitDefEqProofs only[go_sem,↓reduceIte,Tryz.f76,aF,aD,bC,bD,aCI,aCJ,aCK,aCL,aCM,aCN,aCO,aCP,aCQ,aCR,aCS,aCT,tW,tX,tY,tZ,uA,uB,uC,uD,uE,uF,uG,uH,uI,uJ,uK,uL,aZ.flat,aZ.one,bK.flat,bK.one,bL.flat,bL.one,hlt,jI,jJ,jK,jL,iH,iI,iJ,iK,aN,aL,bJ,aY]
   repeat'(with_reducible first|refine And.intro eP ?_)
   intro a' qa'
   obtain⟨a6D,mI,mJ,a6E⟩:=cE (show ¬a'=n2 from iS qa')
   obtain⟨a6F,mK,mL,a6G⟩:=cE (show ¬a'=n3 from iS qa')
   obtain⟨bZV,aEF,aEG,bZW⟩:=cE (show ¬a'=a from iS qa')
   obtain⟨bZX,aEH,aEI,bZY⟩:=cE (show ¬a'=b from iS qa')
   obtain⟨bZZ,aEJ,aEK,bZ0⟩:=cE (show ¬a'=c from iS qa')
   obtain⟨bZ1,aEL,aEM,bZ2⟩:=cE (show ¬a'=d from iS qa')
   have a6H:gc0 a'=none:=iS qa'
   try simp -dsimp -implicitDefEqProofs only[go_sem,↓reduceIte,Tryz.f76,aF,aD,bC,bD,aCI,aCJ,aCK,aCL,aCM,aCN,aCO,aCP,aCQ,aCR,aCS,aCT,tW,tX,tY,tZ,uA,uB,uC,uD,uE,uF,uG,uH,uI,uJ,uK,uL,mI,mJ,mK,mL,aEF,aEG,aEH,aEI,aEJ,aEK,aEL,aEM,aZ.flat,aZ.one,bK.flat,bK.one,bL.flat,bL.one,hlt,jI,jJ,jK,jL,iH,iI,iJ,iK,aN,aL,bJ,aY]
   repeat'(with_reducible first|refine And.intro eP ?_)
   intro b' qb'
   obtain⟨a6I,pI,pJ,a6J⟩:=cE (show ¬b'=n2 from iS qb')
   obtain⟨a6K,pK,pL,a6L⟩:=cE (show ¬b'=n3 from iS qb')
   obtain⟨bZ3,aI1,aI2,bZ4⟩:=cE (show ¬b'=a from iS qb')
   obtain⟨bZ5,aI3,aI4,bZ6⟩:=cE (show ¬b'=b from iS qb')
   obtain⟨bZ7,aI5,aI6,bZ8⟩:=cE (show ¬b'=c from iS qb')
   obtain⟨bZ9,aI7,aI8,b0A⟩:=cE (show ¬b'=d from iS qb')
   obtain⟨a6M,pM,pN,a6N⟩:=cE (show ¬b'=a' from iS qb')
   have a6O:gc0 b'=none:=iS qb'
   try simp -dsimp -implicitDefEqProofs only[go_sem,↓reduceIte,Tryz.f76,aF,aD,bC,bD,aCI,aCJ,aCK,aCL,aCM,aCN,aCO,aCP,aCQ,aCR,aCS,aCT,tW,tX,tY,tZ,uA,uB,uC,uD,uE,uF,uG,uH,uI,uJ,uK,uL,mI,mJ,mK,mL,aEF,aEG,aEH,aEI,aEJ,aEK,aEL,aEM,pI,pJ,pK,pL,aI1,aI2,aI3,aI4,aI5,aI6,aI7,aI8,pM,pN,aZ.flat,aZ.one,bK.flat,bK.one,bL.flat,bL.one,hlt,jI,jJ,jK,jL,iH,iI,iJ,iK,aN,aL,bJ,aY]
   repeat'(with_reducible first|refine And.intro eP ?_)
   intro c' qc'
   obtain⟨a6P,uM,uN,a6Q⟩:=cE (show ¬c'=n2 from iS qc')
   obtain⟨a6R,uO,uP,a6S⟩:=cE (show ¬c'=n3 from iS qc')
   obtain⟨b0B,aPX,aPY,b0C⟩:=cE (show ¬c'=a from iS qc')
   obtain⟨b0D,aPZ,aP0,b0E⟩:=cE (show ¬c'=b from iS qc')
   obtain⟨b0F,aP1,aP2,b0G⟩:=cE (show ¬c'=c from iS qc')
   obtain⟨b0H,aP3,aP4,b0I⟩:=cE (show ¬c'=d from iS qc')
   obtain⟨a6T,uQ,uR,a6U⟩:=cE (show ¬c'=a' from iS qc')
   obtain⟨a6V,uS,uT,a6W⟩:=cE (show ¬c'=b' from iS qc')
   have a6X:gc0 c'=none:=iS qc'
   try simp -dsimp -implicitDefEqProofs only[go_sem,↓reduceIte,Tryz.f76,aF,aD,bC,bD,aCI,aCJ,aCK,aCL,aCM,aCN,aCO,aCP,aCQ,aCR,aCS,aCT,tW,tX,tY,tZ,uA,uB,uC,uD,uE,uF,uG,uH,uI,uJ,uK,uL,mI,mJ,mK,mL,aEF,aEG,aEH,aEI,aEJ,aEK,aEL,aEM,pI,pJ,pK,pL,aI1,aI2,aI3,aI4,aI5,aI6,aI7,aI8,pM,pN,uM,uN,uO,uP,aPX,aPY,aPZ,aP0,aP1,aP2,aP3,aP4,uQ,uR,uS,uT,aZ.flat,aZ.one,bK.flat,bK.one,bL.flat,bL.one,hlt,jI,jJ,jK,jL,iH,iI,iJ,iK,aN,aL,bJ,aY]
   repeat'(with_reducible first|refine And.intro eP ?_)
   intro d' qd'
   obtain⟨a6Y,aAU,aAV,a6Z⟩:=cE (show ¬d'=n2 from iS qd')
   obtain⟨a60,aAW,aAX,a61⟩:=cE (show ¬d'=n3 from iS qd')
   obtain⟨b0J,aZY,aZZ,b0K⟩:=cE (show ¬d'=a from iS qd')
   obtain⟨b0L,aZ0,aZ1,b0M⟩:=cE (show ¬d'=b from iS qd')
   obtain⟨b0N,aZ2,aZ3,b0O⟩:=cE (show ¬d'=c from iS qd')
   obtain⟨b0P,aZ4,aZ5,b0Q⟩:=cE (show ¬d'=d from iS qd')
   obtain⟨a62,aAY,aAZ,a63⟩:=cE (show ¬d'=a' from iS qd')
   obtain⟨a64,aA0,aA1,a65⟩:=cE (show ¬d'=b' from iS qd')
   obtain⟨a66,aA2,aA3,a67⟩:=cE (show ¬d'=c' from iS qd')
   have a68:gc0 d'=none:=iS qd'
   try simp -dsimp -implicitDefEqProofs only[go_sem,↓reduceIte,Tryz.f76,aF,aD,bC,bD,aCI,aCJ,aCK,aCL,aCM,aCN,aCO,aCP,aCQ,aCR,aCS,aCT,tW,tX,tY,tZ,uA,uB,uC,uD,uE,uF,uG,uH,uI,uJ,uK,uL,mI,mJ,mK,mL,aEF,aEG,aEH,aEI,aEJ,aEK,aEL,aEM,pI,pJ,pK,pL,aI1,aI2,aI3,aI4,aI5,aI6,aI7,aI8,pM,pN,uM,uN,uO,uP,aPX,aPY,aPZ,aP0,aP1,aP2,aP3,aP4,uQ,uR,uS,uT,aAU,aAV,aAW,aAX,aZY,aZZ,aZ0,aZ1,aZ2,aZ3,aZ4,aZ5,aAY,aAZ,aA0,aA1,aA2,aA3,aZ.flat,aZ.one,bK.flat,bK.one,bL.flat,bL.one,hlt,jI,jJ,jK,jL,iH,iI,iJ,iK,aN,aL,bJ,aY]
   refine⟨(k+1,some (a',b',c',d')),?_⟩
   simp only[iH,iI,iJ,iK,aL,aY,qD,aF5,aJ7,al4]
   refine⟨by first|rfl|(rw[IntWalk.i64_in _ aA];rfl),(by
     intro q_
     by_cases h0_:q_=n2
     ·rw[h0_];exact .inr aOC
     by_cases h1_:q_=n3
     ·rw[h1_];exact .inr aOC
     by_cases h2_:q_=a'
     ·rw[h2_];exact .inr aOC
     by_cases h3_:q_=b'
     ·rw[h3_];exact .inr aOC
     by_cases h4_:q_=c'
     ·rw[h4_];exact .inr aOC
     by_cases h5_:q_=d'
     ·rw[h5_];exact .inr aOC
     by_cases k0_:q_=a
     ·rw[k0_];exact .inl aZX
     by_cases k1_:q_=b
     ·rw[k1_];exact .inl aZX
     by_cases k2_:q_=c
     ·rw[k2_];exact .inl aZX
     by_cases k3_:q_=d
     ·rw[k3_];exact .inl aZX
     exact .inr bOS),⟨by omega,⟨a6H,a6O,a6X,a68⟩,?_,?_,?_⟩,by omega⟩
   all_goals(repeat'(with_reducible refine And.intro ?_ ?_))
   all_goals assumption
 ·have hk2:k=x.aQ.length:=by omega
  subst hk2
  cases o with
  |none =>
   rw[aC9]at ho
   have h0:x.aQ=[]:=aPW ho
   try simp -dsimp -implicitDefEqProofs only[go_sem,↓reduceIte,Tryz.f76,aF,aD,bC,bD,aZ.flat,aZ.one,bK.flat,bK.one,bL.flat,bL.one,cN,fP,jI,jJ,jK,jL,iH,iI,iJ,iK,aN,aL,bJ,aY]
   repeat'(with_reducible first|refine And.intro eP ?_)
   try(with_reducible intro _)
   refine⟨_,gc0,_,Shift.wk (Sub.agg (bQ.cons (Sub.refl _) (bQ.cons (Sub.refl _) (bQ.cons (Sub.refl _) (bQ.cons (Sub.refl _) (bQ.cons (Sub.refl _) (bQ.cons (Sub.nil _ _) (bQ.cons (Sub.nil _ _) (bQ.cons (Sub.nil _ _) (bQ.cons (Sub.nil _ _) bQ.nil)))))))))) (Heap.iO (by
     intro q_
     by_cases k0_:q_=n2
     ·rw[k0_];exact .inl a8V
     by_cases k1_:q_=n3
     ·rw[k1_];exact .inl a8V
     exact .inr (by simp only[dC,if_neg k0_,if_neg k1_]))),⟨[k9,.v (.int .i64 x.b5),.v (.int .i64 x.aU),pZ,p1,(.nil 1),(.nil 1),(.nil 3),(.nil 1)],?_,a8U,rfl⟩,?_⟩
   ·exact⟨k9,pZ,p1,(.nil 1),(.nil 1),(.nil 3),(.nil 1),rfl,aZ,bK,bL,.inl ⟨rfl,by simp[tR,h0]⟩,.inl ⟨rfl,by simp[tR,h0]⟩,.inl ⟨rfl,by simp[tR,h0]⟩,.inl ⟨rfl,by simp[tR,h0]⟩⟩
   ·have hq:=wc0
    simpa only[OV.gG,OV.j9,OV.rN,OV.lY,OV.lM,gR OV.j9,gR (e:=[OV.v (.int .i64 0)]) rfl,gR (e:=[OV.v (.bool false)]) rfl,gR (e:=[OV.v (.int .i64 0),.v (.int .i64 0),.nil 1]) rfl,gR (e:=[OV.v (.int .i64 (-1))]) rfl,aDA,bO,bY,OV.bE,OV.r7,al0,wP,qT,aED]using hq
  |some o =>
   obtain⟨a,b,c,d⟩:=o
   rw[qD]at ho
   obtain⟨⟨ga,gb,gc,gd⟩,⟨ab,ac,ad,bc,bd,cd⟩,⟨an,bn,cn,dn⟩,⟨am,bm,cm,dm⟩⟩:=ho
   have aCI:(a=b)=False:=eq_false ab
   have aCJ:(b=a)=False:=eq_false (iR ab)
   have aCK:(a=c)=False:=eq_false ac
   have aCL:(c=a)=False:=eq_false (iR ac)
   have aCM:(a=d)=False:=eq_false ad
   have aCN:(d=a)=False:=eq_false (iR ad)
   have aCO:(b=c)=False:=eq_false bc
   have aCP:(c=b)=False:=eq_false (iR bc)
   have aCQ:(b=d)=False:=eq_false bd
   have aCR:(d=b)=False:=eq_false (iR bd)
   have aCS:(c=d)=False:=eq_false cd
   have aCT:(d=c)=False:=eq_false (iR cd)
   have tW:(a=n2)=False:=eq_false an
   have tX:(n2=a)=False:=eq_false (iR an)
   have tY:(b=n2)=False:=eq_false bn
   have tZ:(n2=b)=False:=eq_false (iR bn)
   have uA:(c=n2)=False:=eq_false cn
   have uB:(n2=c)=False:=eq_false (iR cn)
   have uC:(d=n2)=False:=eq_false dn
   have uD:(n2=d)=False:=eq_false (iR dn)
   have uE:(a=n3)=False:=eq_false am
   have uF:(n3=a)=False:=eq_false (iR am)
   have uG:(b=n3)=False:=eq_false bm
   have uH:(n3=b)=False:=eq_false (iR bm)
   have uI:(c=n3)=False:=eq_false cm
   have uJ:(n3=c)=False:=eq_false (iR cm)
   have uK:(d=n3)=False:=eq_false dm
   have uL:(n3=d)=False:=eq_false (iR dm)
   try simp -dsimp -implicitDefEqProofs only[go_sem,↓reduceIte,Tryz.f76,aF,aD,bC,bD,aCI,aCJ,aCK,aCL,aCM,aCN,aCO,aCP,aCQ,aCR,aCS,aCT,tW,tX,tY,tZ,uA,uB,uC,uD,uE,uF,uG,uH,uI,uJ,uK,uL,aZ.flat,aZ.one,bK.flat,bK.one,bL.flat,bL.one,cN,fP,jI,jJ,jK,jL,iH,iI,iJ,iK,aN,aL,bJ,aY]
   repeat'(with_reducible first|refine And.intro eP ?_)
   try(with_reducible intro _)
   refine⟨_,(bT (bT (bT (bT gc0 a (.row 1 (kY x.aQ.length [.v (.int .i64 0)]))) b (.row 1 (kY x.aQ.length [.v (.bool false)]))) c (.row 3 (kY x.aQ.length [.v (.int .i64 0),.v (.int .i64 0),.v (.sl 1 [] true)]))) d (.row 1 (kY x.aQ.length [.v (.int .i64 (-1))]))),_,Shift.wk (Sub.agg (bQ.cons (Sub.refl _) (bQ.cons (Sub.refl _) (bQ.cons (Sub.refl _) (bQ.cons (Sub.refl _) (bQ.cons (Sub.refl _) (bQ.cons (Sub.refl _) (bQ.cons (Sub.refl _) (bQ.cons (Sub.refl _) (bQ.cons (Sub.refl _) bQ.nil)))))))))) (Heap.wk.trans (b:=(bT (bT (bT (bT gc0 a (.row 1 (kY x.aQ.length [.v (.int .i64 0)]))) b (.row 1 (kY x.aQ.length [.v (.bool false)]))) c (.row 3 (kY x.aQ.length [.v (.int .i64 0),.v (.int .i64 0),.v .aV]))) d (.row 1 (kY x.aQ.length [.v (.int .i64 (-1))])))) (Heap.aHL (m:=c) (sz:=3) (es:=kY x.aQ.length [.v (.int .i64 0),.v (.int .i64 0),.v .aV]) (es':=kY x.aQ.length [.v (.int .i64 0),.v (.int .i64 0),.v (.sl 1 [] true)]) (λq_ hq_=>by simp only[dC,if_neg hq_]) (by simp[dC,cd]) (by simp[dC,cd]) (iM.kY (a:=[.int .i64 0,.int .i64 0,.aV]) (b:=[.int .i64 0,.int .i64 0,.sl 1 [] true]) (.cons (.refl _) (.cons (.refl _) (.cons (Sub.nil 1 true) .nil))) _)) (Heap.iO (by
     intro q_
     by_cases h0_:q_=a
     ·rw[h0_];exact .inr aZ6
     by_cases h1_:q_=b
     ·rw[h1_];exact .inr aZ6
     by_cases h2_:q_=c
     ·rw[h2_];exact .inr aZ6
     by_cases h3_:q_=d
     ·rw[h3_];exact .inr aZ6
     by_cases k0_:q_=n2
     ·rw[k0_];exact .inl bKT
     by_cases k1_:q_=n3
     ·rw[k1_];exact .inl bKT
     exact .inr bOY))),⟨[k9,.v (.int .i64 x.b5),.v (.int .i64 x.aU),pZ,p1,(.sl a 1 (List.replicate x.aQ.length [.v (.int .i64 0)])),(.sl b 1 (List.replicate x.aQ.length [.v (.bool false)])),(.sl c 3 (List.replicate x.aQ.length [.v (.int .i64 0),.v (.int .i64 0),.nil 1])),(.sl d 1 (List.replicate x.aQ.length [.v (.int .i64 (-1))]))],?_,a8U,rfl⟩,?_⟩
   ·exact⟨k9,pZ,p1,(.sl a 1 (List.replicate x.aQ.length [.v (.int .i64 0)])),(.sl b 1 (List.replicate x.aQ.length [.v (.bool false)])),(.sl c 3 (List.replicate x.aQ.length [.v (.int .i64 0),.v (.int .i64 0),.nil 1])),(.sl d 1 (List.replicate x.aQ.length [.v (.int .i64 (-1))])),rfl,aZ,bK,bL,OS.mk (OR.kY (R:=oP I) rfl _),OS.mk (OR.kY (R:=oP aC.bool) rfl _),OS.mk (OR.kY (R:=bR.o) ⟨.nil 1,rfl,OS.nil⟩ _),OS.mk (OR.kY (R:=oP I) rfl _)⟩
   ·have hq:=eW.four wc0 (ra:=.row 1 (kY x.aQ.length [.v (.int .i64 0)])) (rb:=.row 1 (kY x.aQ.length [.v (.bool false)])) (rc:=.row 3 (kY x.aQ.length [.v (.int .i64 0),.v (.int .i64 0),.v (.sl 1 [] true)])) (rd:=.row 1 (kY x.aQ.length [.v (.int .i64 (-1))])) ga gb gc gd ab ac ad bc bd cd
    simpa only[OV.gG,OV.j9,OV.rN,OV.lY,OV.lM,gR OV.j9,gR (e:=[OV.v (.int .i64 0)]) rfl,gR (e:=[OV.v (.bool false)]) rfl,gR (e:=[OV.v (.int .i64 0),.v (.int .i64 0),.nil 1]) rfl,gR (e:=[OV.v (.int .i64 (-1))]) rfl,aDA,bO,bY,OV.bE,OV.r7,al0,wP,qT,aED]using hq
@[go_sem] def bHW:List Nat:=[0,2,3,4,14]
@[go_sem] def b0R:List Nat:=[19,24,29,31,36]
set_option maxHeartbeats 2000000 in
theorem bTV (x:dN) (hs:x.s<=1048576) (hl:x.aQ.length<=1048576):tU Tryz.prog 67 [.ip 5 [x.c] 0 0] (QA (tR x).o):=by
 simp only[dN.aM]
 refine x9 40 bHW b0R b9 Tryz.func67 λh=>?_
 try simp -dsimp -implicitDefEqProofs only[go_sem,↓reduceIte,Tryz.f67,aF,aD]
 intro n2 qn2
 have cB:=qn2
 try simp -dsimp -implicitDefEqProofs only[go_sem,↓reduceIte,Tryz.f67,aF,aD]
 refine aH.wn1 (aMA x aA) cB ?_
 rintro r l_ gc0 ⟨aXO,aDH,rfl,rfl⟩ wc0 cB
 have aDI:=aDH
 obtain⟨k9,pZ,p1,rfl,aZ,bK,bL⟩:=aDI
 try simp -dsimp -implicitDefEqProofs only[go_sem,↓reduceIte,Tryz.f67,aF,aD,aZ.flat,aZ.one,bK.flat,bK.one,bL.flat,bL.one,OV.aR,OV.aG,OV.bE]
 intro n3 sJ
 obtain⟨dP,bC,bD,nQ⟩:=cE (show ¬n3=n2 from sJ.1)
 have cU:=sJ.2
 try simp -dsimp -implicitDefEqProofs only[go_sem,↓reduceIte,Tryz.f67,aF,aD,bC,bD,aZ.flat,aZ.one,bK.flat,bK.one,bL.flat,bL.one,OV.aR,OV.aG,OV.bE]
 try(with_reducible intro _)
 refine cY bHW b0R b9 (λs:Nat×Q4=>[(0,.ip 5 [[cI 3 aX.c x.bN.aJ,I x.b5,I x.aU,cI 1 (λn=>[I n]) x.cT,cI 1 (λl=>[cI 1 (λn=>[I n]) l]) x.aQ]] 0 0),(2,.op n2 9 0 0),(3,.op n3 9 0 0),(4,(I s.1))]) (λs=>(c7 (c7 (c7 (c7 (bT (bT gc0 n2 (.row 9 [[.v (.aV),.v (.int .i64 0),.v (.int .i64 0),.v (.aV),.v (.aV),.v (.aV),.v (.aV),.v (.aV),.v (.aV)]])) n3 (.row 9 [[.v (k9.val),.v (.int .i64 x.b5),.v (.int .i64 x.aU),.v (pZ.val),.v (p1.val),.v (jV 1 s.1 (q1 s.2)),.v (jV 1 s.1 (q2 s.2)),.v (jV 3 s.1 (q3 s.2)),.v (jV 1 s.1 (q4 s.2))]])) (.row 1 (kY s.1 [.v (.int .i64 0)])) (q1 s.2)) (.row 1 (kY s.1 [.v (.bool false)])) (q2 s.2)) (.row 3 (kY s.1 [.v (.int .i64 0),.v (.int .i64 0),.v (.sl 1 [] true)])) (q3 s.2)) (.row 1 (kY s.1 [.v (.int .i64 (-1))])) (q4 s.2))) (λs=>s.1<=x.aQ.length/\a96 gc0 n2 n3 s.1 s.2) (λs=>x.aQ.length-s.1) (0,none) ⟨by simp[dT,dB],bOV,iZ _,rfl⟩ ?_
 rintro⟨k,o⟩ ⟨hk,ho⟩
 simp only at hk ho ⊢
 rcases cP k x.aQ.length with hlt|hge
 ·cases o with
  |none =>
   rw[aC9]at ho
   subst ho
   try simp -dsimp -implicitDefEqProofs only[go_sem,↓reduceIte,Tryz.f67,aF,aD,bC,bD,aZ.flat,aZ.one,bK.flat,bK.one,bL.flat,bL.one,hlt,jI,jJ,jK,jL,iH,iI,iJ,iK,aN,aL,bJ,aY]
   intro _
   repeat'(with_reducible first|refine And.intro eP ?_)
   intro a' qa'
   obtain⟨a6D,mI,mJ,a6E⟩:=cE (show ¬a'=n2 from iS qa')
   obtain⟨a6F,mK,mL,a6G⟩:=cE (show ¬a'=n3 from iS qa')
   have a6H:gc0 a'=none:=iS qa'
   try simp -dsimp -implicitDefEqProofs only[go_sem,↓reduceIte,Tryz.f67,aF,aD,bC,bD,mI,mJ,mK,mL,aZ.flat,aZ.one,bK.flat,bK.one,bL.flat,bL.one,hlt,jI,jJ,jK,jL,iH,iI,iJ,iK,aN,aL,bJ,aY]
   repeat'(with_reducible first|refine And.intro eP ?_)
   intro b' qb'
   obtain⟨a6I,pI,pJ,a6J⟩:=cE (show ¬b'=n2 from iS qb')
   obtain⟨a6K,pK,pL,a6L⟩:=cE (show ¬b'=n3 from iS qb')
   obtain⟨a6M,pM,pN,a6N⟩:=cE (show ¬b'=a' from iS qb')
   have a6O:gc0 b'=none:=iS qb'
   try simp -dsimp -implicitDefEqProofs only[go_sem,↓reduceIte,Tryz.f67,aF,aD,bC,bD,mI,mJ,mK,mL,pI,pJ,pK,pL,pM,pN,aZ.flat,aZ.one,bK.flat,bK.one,bL.flat,bL.one,hlt,jI,jJ,jK,jL,iH,iI,iJ,iK,aN,aL,bJ,aY]
   repeat'(with_reducible first|refine And.intro eP ?_)
   intro c' qc'
   obtain⟨a6P,uM,uN,a6Q⟩:=cE (show ¬c'=n2 from iS qc')
   obtain⟨a6R,uO,uP,a6S⟩:=cE (show ¬c'=n3 from iS qc')
   obtain⟨a6T,uQ,uR,a6U⟩:=cE (show ¬c'=a' from iS qc')
   obtain⟨a6V,uS,uT,a6W⟩:=cE (show ¬c'=b' from iS qc')
   have a6X:gc0 c'=none:=iS qc'
   try simp -dsimp -implicitDefEqProofs only[go_sem,↓reduceIte,Tryz.f67,aF,aD,bC,bD,mI,mJ,mK,mL,pI,pJ,pK,pL,pM,pN,uM,uN,uO,uP,uQ,uR,uS,uT,aZ.flat,aZ.one,bK.flat,bK.one,bL.flat,bL.one,hlt,jI,jJ,jK,jL,iH,iI,iJ,iK,aN,aL,bJ,aY]
   repeat'(with_reducible first|refine And.intro eP ?_)
   intro d' qd'
   obtain⟨a6Y,aAU,aAV,a6Z⟩:=cE (show ¬d'=n2 from iS qd')
   obtain⟨a60,aAW,aAX,a61⟩:=cE (show ¬d'=n3 from iS qd')
   obtain⟨a62,aAY,aAZ,a63⟩:=cE (show ¬d'=a' from iS qd')
   obtain⟨a64,aA0,aA1,a65⟩:=cE (show ¬d'=b' from iS qd')
   obtain⟨a66,aA2,aA3,a67⟩:=cE (show ¬d'=c' from iS qd')
   have a68:gc0 d'=none:=iS qd'
   try simp -dsimp -implicitDefEqProofs only[go_sem,↓reduceIte,Tryz.f67,aF,aD,bC,bD,mI,mJ,mK,mL,pI,pJ,pK,pL,pM,pN,uM,uN,uO,uP,uQ,uR,uS,uT,aAU,aAV,aAW,aAX,aAY,aAZ,aA0,aA1,aA2,aA3,aZ.flat,aZ.one,bK.flat,bK.one,bL.flat,bL.one,hlt,jI,jJ,jK,jL,iH,iI,iJ,iK,aN,aL,bJ,aY]
   refine⟨(1,some (a',b',c',d')),?_⟩
   simp only[iH,iI,iJ,iK,aL,aY,qD,aF5,aJ7,al4]
   refine⟨by first|rfl|(rw[IntWalk.i64_in _ aA];rfl),(by
     intro q_
     by_cases h0_:q_=n2
     ·rw[h0_];exact .inr aOD
     by_cases h1_:q_=n3
     ·rw[h1_];exact .inr aOD
     by_cases h2_:q_=a'
     ·rw[h2_];exact .inr aOD
     by_cases h3_:q_=b'
     ·rw[h3_];exact .inr aOD
     by_cases h4_:q_=c'
     ·rw[h4_];exact .inr aOD
     by_cases h5_:q_=d'
     ·rw[h5_];exact .inr aOD
     exact .inr bOZ),⟨by omega,⟨a6H,a6O,a6X,a68⟩,?_,?_,?_⟩,by omega⟩
   all_goals(repeat'(with_reducible refine And.intro ?_ ?_))
   all_goals assumption
  |some o =>
   obtain⟨a,b,c,d⟩:=o
   rw[qD]at ho
   obtain⟨⟨ga,gb,gc,gd⟩,⟨ab,ac,ad,bc,bd,cd⟩,⟨an,bn,cn,dn⟩,⟨am,bm,cm,dm⟩⟩:=ho
   have aCI:(a=b)=False:=eq_false ab
   have aCJ:(b=a)=False:=eq_false (iR ab)
   have aCK:(a=c)=False:=eq_false ac
   have aCL:(c=a)=False:=eq_false (iR ac)
   have aCM:(a=d)=False:=eq_false ad
   have aCN:(d=a)=False:=eq_false (iR ad)
   have aCO:(b=c)=False:=eq_false bc
   have aCP:(c=b)=False:=eq_false (iR bc)
   have aCQ:(b=d)=False:=eq_false bd
   have aCR:(d=b)=False:=eq_false (iR bd)
   have aCS:(c=d)=False:=eq_false cd
   have aCT:(d=c)=False:=eq_false (iR cd)
   have tW:(a=n2)=False:=eq_false an
   have tX:(n2=a)=False:=eq_false (iR an)
   have tY:(b=n2)=False:=eq_false bn
   have tZ:(n2=b)=False:=eq_false (iR bn)
   have uA:(c=n2)=False:=eq_false cn
   have uB:(n2=c)=False:=eq_false (iR cn)
   have uC:(d=n2)=False:=eq_false dn
   have uD:(n2=d)=False:=eq_false (iR dn)
   have uE:(a=n3)=False:=eq_false am
   have uF:(n3=a)=False:=eq_false (iR am)
   have uG:(b=n3)=False:=eq_false bm
   have uH:(n3=b)=False:=eq_false (iR bm)
   have uI:(c=n3)=False:=eq_false cm
   have uJ:(n3=c)=False:=eq_false (iR cm)
   have uK:(d=n3)=False:=eq_false dm
   have uL:(n3=d)=False:=eq_false (iR dm)
   try simp -dsimp -implicitDefEqProofs only[go_sem,↓reduceIte,Tryz.f67,aF,aD,bC,bD,aCI,aCJ,aCK,aCL,aCM,aCN,aCO,aCP,aCQ,aCR,aCS,aCT,tW,tX,tY,tZ,uA,uB,uC,uD,uE,uF,uG,uH,uI,uJ,uK,uL,aZ.flat,aZ.one,bK.flat,bK.one,bL.flat,bL.one,hlt,jI,jJ,jK,jL,iH,iI,iJ,iK,aN,aL,bJ,aY]
   intro _
   repeat'(with_reducible first|refine And.intro eP ?_)
   intro a' qa'
   obtain⟨a6D,mI,mJ,a6E⟩:=cE (show ¬a'=n2 from iS qa')
   obtain⟨a6F,mK,mL,a6G⟩:=cE (show ¬a'=n3 from iS qa')
   obtain⟨bZV,aEF,aEG,bZW⟩:=cE (show ¬a'=a from iS qa')
   obtain⟨bZX,aEH,aEI,bZY⟩:=cE (show ¬a'=b from iS qa')
   obtain⟨bZZ,aEJ,aEK,bZ0⟩:=cE (show ¬a'=c from iS qa')
   obtain⟨bZ1,aEL,aEM,bZ2⟩:=cE (show ¬a'=d from iS qa')
   have a6H:gc0 a'=none:=iS qa'
   try simp -dsimp -implicitDefEqProofs only[go_sem,↓reduceIte,Tryz.f67,aF,aD,bC,bD,aCI,aCJ,aCK,aCL,aCM,aCN,aCO,aCP,aCQ,aCR,aCS,aCT,tW,tX,tY,tZ,uA,uB,uC,uD,uE,uF,uG,uH,uI,uJ,uK,uL,mI,mJ,mK,mL,aEF,aEG,aEH,aEI,aEJ,aEK,aEL,aEM,aZ.flat,aZ.one,bK.flat,bK.one,bL.flat,bL.one,hlt,jI,jJ,jK,jL,iH,iI,iJ,iK,aN,aL,bJ,aY]
   repeat'(with_reducible first|refine And.intro eP ?_)
   intro b' qb'
   obtain⟨a6I,pI,pJ,a6J⟩:=cE (show ¬b'=n2 from iS qb')
   obtain⟨a6K,pK,pL,a6L⟩:=cE (show ¬b'=n3 from iS qb')
   obtain⟨bZ3,aI1,aI2,bZ4⟩:=cE (show ¬b'=a from iS qb')
   obtain⟨bZ5,aI3,aI4,bZ6⟩:=cE (show ¬b'=b from iS qb')
   obtain⟨bZ7,aI5,aI6,bZ8⟩:=cE (show ¬b'=c from iS qb')
   obtain⟨bZ9,aI7,aI8,b0A⟩:=cE (show ¬b'=d from iS qb')
   obtain⟨a6M,pM,pN,a6N⟩:=cE (show ¬b'=a' from iS qb')
   have a6O:gc0 b'=none:=iS qb'
   try simp -dsimp -implicitDefEqProofs only[go_sem,↓reduceIte,Tryz.f67,aF,aD,bC,bD,aCI,aCJ,aCK,aCL,aCM,aCN,aCO,aCP,aCQ,aCR,aCS,aCT,tW,tX,tY,tZ,uA,uB,uC,uD,uE,uF,uG,uH,uI,uJ,uK,uL,mI,mJ,mK,mL,aEF,aEG,aEH,aEI,aEJ,aEK,aEL,aEM,pI,pJ,pK,pL,aI1,aI2,aI3,aI4,aI5,aI6,aI7,aI8,pM,pN,aZ.flat,aZ.one,bK.flat,bK.one,bL.flat,bL.one,hlt,jI,jJ,jK,jL,iH,iI,iJ,iK,aN,aL,bJ,aY]
   repeat'(with_reducible first|refine And.intro eP ?_)
   intro c' qc'
   obtain⟨a6P,uM,uN,a6Q⟩:=cE (show ¬c'=n2 from iS qc')
   obtain⟨a6R,uO,uP,a6S⟩:=cE (show ¬c'=n3 from iS qc')
   obtain⟨b0B,aPX,aPY,b0C⟩:=cE (show ¬c'=a from iS qc')
   obtain⟨b0D,aPZ,aP0,b0E⟩:=cE (show ¬c'=b from iS qc')
   obtain⟨b0F,aP1,aP2,b0G⟩:=cE (show ¬c'=c from iS qc')
   obtain⟨b0H,aP3,aP4,b0I⟩:=cE (show ¬c'=d from iS qc')
   obtain⟨a6T,uQ,uR,a6U⟩:=cE (show ¬c'=a' from iS qc')
   obtain⟨a6V,uS,uT,a6W⟩:=cE (show ¬c'=b' from iS qc')
   have a6X:gc0 c'=none:=iS qc'
   try simp -dsimp -implicitDefEqProofs only[go_sem,↓reduceIte,Tryz.f67,aF,aD,bC,bD,aCI,aCJ,aCK,aCL,aCM,aCN,aCO,aCP,aCQ,aCR,aCS,aCT,tW,tX,tY,tZ,uA,uB,uC,uD,uE,uF,uG,uH,uI,uJ,uK,uL,mI,mJ,mK,mL,aEF,aEG,aEH,aEI,aEJ,aEK,aEL,aEM,pI,pJ,pK,pL,aI1,aI2,aI3,aI4,aI5,aI6,aI7,aI8,pM,pN,uM,uN,uO,uP,aPX,aPY,aPZ,aP0,aP1,aP2,aP3,aP4,uQ,uR,uS,uT,aZ.flat,aZ.one,bK.flat,bK.one,bL.flat,bL.one,hlt,jI,jJ,jK,jL,iH,iI,iJ,iK,aN,aL,bJ,aY]
   repeat'(with_reducible first|refine And.intro eP ?_)
   intro d' qd'
   obtain⟨a6Y,aAU,aAV,a6Z⟩:=cE (show ¬d'=n2 from iS qd')
   obtain⟨a60,aAW,aAX,a61⟩:=cE (show ¬d'=n3 from iS qd')
   obtain⟨b0J,aZY,aZZ,b0K⟩:=cE (show ¬d'=a from iS qd')
   obtain⟨b0L,aZ0,aZ1,b0M⟩:=cE (show ¬d'=b from iS qd')
   obtain⟨b0N,aZ2,aZ3,b0O⟩:=cE (show ¬d'=c from iS qd')
   obtain⟨b0P,aZ4,aZ5,b0Q⟩:=cE (show ¬d'=d from iS qd')
   obtain⟨a62,aAY,aAZ,a63⟩:=cE (show ¬d'=a' from iS qd')
   obtain⟨a64,aA0,aA1,a65⟩:=cE (show ¬d'=b' from iS qd')
   obtain⟨a66,aA2,aA3,a67⟩:=cE (show ¬d'=c' from iS qd')
   have a68:gc0 d'=none:=iS qd'
   try simp -dsimp -implicitDefEqProofs only[go_sem,↓reduceIte,Tryz.f67,aF,aD,bC,bD,aCI,aCJ,aCK,aCL,aCM,aCN,aCO,aCP,aCQ,aCR,aCS,aCT,tW,tX,tY,tZ,uA,uB,uC,uD,uE,uF,uG,uH,uI,uJ,uK,uL,mI,mJ,mK,mL,aEF,aEG,aEH,aEI,aEJ,aEK,aEL,aEM,pI,pJ,pK,pL,aI1,aI2,aI3,aI4,aI5,aI6,aI7,aI8,pM,pN,uM,uN,uO,uP,aPX,aPY,aPZ,aP0,aP1,aP2,aP3,aP4,uQ,uR,uS,uT,aAU,aAV,aAW,aAX,aZY,aZZ,aZ0,aZ1,aZ2,aZ3,aZ4,aZ5,aAY,aAZ,aA0,aA1,aA2,aA3,aZ.flat,aZ.one,bK.flat,bK.one,bL.flat,bL.one,hlt,jI,jJ,jK,jL,iH,iI,iJ,iK,aN,aL,bJ,aY]
   refine⟨(k+1,some (a',b',c',d')),?_⟩
   simp only[iH,iI,iJ,iK,aL,aY,qD,aF5,aJ7,al4]
   refine⟨by first|rfl|(rw[IntWalk.i64_in _ aA];rfl),(by
     intro q_
     by_cases h0_:q_=n2
     ·rw[h0_];exact .inr aOC
     by_cases h1_:q_=n3
     ·rw[h1_];exact .inr aOC
     by_cases h2_:q_=a'
     ·rw[h2_];exact .inr aOC
     by_cases h3_:q_=b'
     ·rw[h3_];exact .inr aOC
     by_cases h4_:q_=c'
     ·rw[h4_];exact .inr aOC
     by_cases h5_:q_=d'
     ·rw[h5_];exact .inr aOC
     by_cases k0_:q_=a
     ·rw[k0_];exact .inl aZX
     by_cases k1_:q_=b
     ·rw[k1_];exact .inl aZX
     by_cases k2_:q_=c
     ·rw[k2_];exact .inl aZX
     by_cases k3_:q_=d
     ·rw[k3_];exact .inl aZX
     exact .inr bOS),⟨by omega,⟨a6H,a6O,a6X,a68⟩,?_,?_,?_⟩,by omega⟩
   all_goals(repeat'(with_reducible refine And.intro ?_ ?_))
   all_goals assumption
 ·have hk2:k=x.aQ.length:=by omega
  subst hk2
  cases o with
  |none =>
   rw[aC9]at ho
   have h0:x.aQ=[]:=aPW ho
   try simp -dsimp -implicitDefEqProofs only[go_sem,↓reduceIte,Tryz.f67,aF,aD,bC,bD,aZ.flat,aZ.one,bK.flat,bK.one,bL.flat,bL.one,cN,fP,jI,jJ,jK,jL,iH,iI,iJ,iK,aN,aL,bJ,aY]
   repeat'(with_reducible first|refine And.intro eP ?_)
   try(with_reducible intro _)
   refine⟨_,gc0,_,Shift.wk (Sub.agg (bQ.cons (Sub.refl _) (bQ.cons (Sub.refl _) (bQ.cons (Sub.refl _) (bQ.cons (Sub.refl _) (bQ.cons (Sub.refl _) (bQ.cons (Sub.nil _ _) (bQ.cons (Sub.nil _ _) (bQ.cons (Sub.nil _ _) (bQ.cons (Sub.nil _ _) bQ.nil)))))))))) (Heap.iO (by
     intro q_
     by_cases k0_:q_=n2
     ·rw[k0_];exact .inl a8V
     by_cases k1_:q_=n3
     ·rw[k1_];exact .inl a8V
     exact .inr (by simp only[dC,if_neg k0_,if_neg k1_]))),⟨[k9,.v (.int .i64 x.b5),.v (.int .i64 x.aU),pZ,p1,(.nil 1),(.nil 1),(.nil 3),(.nil 1)],?_,a8U,rfl⟩,?_⟩
   ·exact⟨k9,pZ,p1,(.nil 1),(.nil 1),(.nil 3),(.nil 1),rfl,aZ,bK,bL,.inl ⟨rfl,by simp[tR,h0]⟩,.inl ⟨rfl,by simp[tR,h0]⟩,.inl ⟨rfl,by simp[tR,h0]⟩,.inl ⟨rfl,by simp[tR,h0]⟩⟩
   ·have hq:=wc0
    simpa only[OV.gG,OV.j9,OV.rN,OV.lY,OV.lM,gR OV.j9,gR (e:=[OV.v (.int .i64 0)]) rfl,gR (e:=[OV.v (.bool false)]) rfl,gR (e:=[OV.v (.int .i64 0),.v (.int .i64 0),.nil 1]) rfl,gR (e:=[OV.v (.int .i64 (-1))]) rfl,aDA,bO,bY,OV.bE,OV.r7,al0,wP,qT,aED]using hq
  |some o =>
   obtain⟨a,b,c,d⟩:=o
   rw[qD]at ho
   obtain⟨⟨ga,gb,gc,gd⟩,⟨ab,ac,ad,bc,bd,cd⟩,⟨an,bn,cn,dn⟩,⟨am,bm,cm,dm⟩⟩:=ho
   have aCI:(a=b)=False:=eq_false ab
   have aCJ:(b=a)=False:=eq_false (iR ab)
   have aCK:(a=c)=False:=eq_false ac
   have aCL:(c=a)=False:=eq_false (iR ac)
   have aCM:(a=d)=False:=eq_false ad
   have aCN:(d=a)=False:=eq_false (iR ad)
   have aCO:(b=c)=False:=eq_false bc
   have aCP:(c=b)=False:=eq_false (iR bc)
   have aCQ:(b=d)=False:=eq_false bd
   have aCR:(d=b)=False:=eq_false (iR bd)
   have aCS:(c=d)=False:=eq_false cd
   have aCT:(d=c)=False:=eq_false (iR cd)
   have tW:(a=n2)=False:=eq_false an
   have tX:(n2=a)=False:=eq_false (iR an)
   have tY:(b=n2)=False:=eq_false bn
   have tZ:(n2=b)=False:=eq_false (iR bn)
   have uA:(c=n2)=False:=eq_false cn
   have uB:(n2=c)=False:=eq_false (iR cn)
   have uC:(d=n2)=False:=eq_false dn
   have uD:(n2=d)=False:=eq_false (iR dn)
   have uE:(a=n3)=False:=eq_false am
   have uF:(n3=a)=False:=eq_false (iR am)
   have uG:(b=n3)=False:=eq_false bm
   have uH:(n3=b)=False:=eq_false (iR bm)
   have uI:(c=n3)=False:=eq_false cm
   have uJ:(n3=c)=False:=eq_false (iR cm)
   have uK:(d=n3)=False:=eq_false dm
   have uL:(n3=d)=False:=eq_false (iR dm)
   try simp -dsimp -implicitDefEqProofs only[go_sem,↓reduceIte,Tryz.f67,aF,aD,bC,bD,aCI,aCJ,aCK,aCL,aCM,aCN,aCO,aCP,aCQ,aCR,aCS,aCT,tW,tX,tY,tZ,uA,uB,uC,uD,uE,uF,uG,uH,uI,uJ,uK,uL,aZ.flat,aZ.one,bK.flat,bK.one,bL.flat,bL.one,cN,fP,jI,jJ,jK,jL,iH,iI,iJ,iK,aN,aL,bJ,aY]
   repeat'(with_reducible first|refine And.intro eP ?_)
   try(with_reducible intro _)
   refine⟨_,(bT (bT (bT (bT gc0 a (.row 1 (kY x.aQ.length [.v (.int .i64 0)]))) b (.row 1 (kY x.aQ.length [.v (.bool false)]))) c (.row 3 (kY x.aQ.length [.v (.int .i64 0),.v (.int .i64 0),.v (.sl 1 [] true)]))) d (.row 1 (kY x.aQ.length [.v (.int .i64 (-1))]))),_,Shift.wk (Sub.agg (bQ.cons (Sub.refl _) (bQ.cons (Sub.refl _) (bQ.cons (Sub.refl _) (bQ.cons (Sub.refl _) (bQ.cons (Sub.refl _) (bQ.cons (Sub.refl _) (bQ.cons (Sub.refl _) (bQ.cons (Sub.refl _) (bQ.cons (Sub.refl _) bQ.nil)))))))))) (Heap.iO (by
     intro q_
     by_cases h0_:q_=a
     ·rw[h0_];exact .inr aZ6
     by_cases h1_:q_=b
     ·rw[h1_];exact .inr aZ6
     by_cases h2_:q_=c
     ·rw[h2_];exact .inr aZ6
     by_cases h3_:q_=d
     ·rw[h3_];exact .inr aZ6
     by_cases k0_:q_=n2
     ·rw[k0_];exact .inl bKT
     by_cases k1_:q_=n3
     ·rw[k1_];exact .inl bKT
     exact .inr bOY)),⟨[k9,.v (.int .i64 x.b5),.v (.int .i64 x.aU),pZ,p1,(.sl a 1 (List.replicate x.aQ.length [.v (.int .i64 0)])),(.sl b 1 (List.replicate x.aQ.length [.v (.bool false)])),(.sl c 3 (List.replicate x.aQ.length [.v (.int .i64 0),.v (.int .i64 0),.nil 1])),(.sl d 1 (List.replicate x.aQ.length [.v (.int .i64 (-1))]))],?_,a8U,rfl⟩,?_⟩
   ·exact⟨k9,pZ,p1,(.sl a 1 (List.replicate x.aQ.length [.v (.int .i64 0)])),(.sl b 1 (List.replicate x.aQ.length [.v (.bool false)])),(.sl c 3 (List.replicate x.aQ.length [.v (.int .i64 0),.v (.int .i64 0),.nil 1])),(.sl d 1 (List.replicate x.aQ.length [.v (.int .i64 (-1))])),rfl,aZ,bK,bL,OS.mk (OR.kY (R:=oP I) rfl _),OS.mk (OR.kY (R:=oP aC.bool) rfl _),OS.mk (OR.kY (R:=bR.o) ⟨.nil 1,rfl,OS.nil⟩ _),OS.mk (OR.kY (R:=oP I) rfl _)⟩
   ·have hq:=eW.four wc0 (ra:=.row 1 (kY x.aQ.length [.v (.int .i64 0)])) (rb:=.row 1 (kY x.aQ.length [.v (.bool false)])) (rc:=.row 3 (kY x.aQ.length [.v (.int .i64 0),.v (.int .i64 0),.v (.sl 1 [] true)])) (rd:=.row 1 (kY x.aQ.length [.v (.int .i64 (-1))])) ga gb gc gd ab ac ad bc bd cd
    simpa only[OV.gG,OV.j9,OV.rN,OV.lY,OV.lM,gR OV.j9,gR (e:=[OV.v (.int .i64 0)]) rfl,gR (e:=[OV.v (.bool false)]) rfl,gR (e:=[OV.v (.int .i64 0),.v (.int .i64 0),.nil 1]) rfl,gR (e:=[OV.v (.int .i64 (-1))]) rfl,aDA,bO,bY,OV.bE,OV.r7,al0,wP,qT,aED]using hq
def kZ:aI:=⟨⟨⟨[]⟩,0,0,[],[]⟩,[],[],[],[]⟩
theorem nR:bPZ kZ.o [(.aV),(.int .i64 0),(.int .i64 0),(.aV),(.aV),(.aV),(.aV),(.aV),(.aV)]:=⟨[(.nil 3),.v (.int .i64 0),.v (.int .i64 0),(.nil 1),(.nil 1),(.nil 1),(.nil 1),(.nil 3),(.nil 1)],⟨(.nil 3),(.nil 1),(.nil 1),(.nil 1),(.nil 1),(.nil 3),(.nil 1),rfl,OS.nil,OS.nil,OS.nil,OS.nil,OS.nil,OS.nil,OS.nil⟩,rfl,Sub.agg (bQ.cons (Sub.nil _ _) (bQ.cons (Sub.refl _) (bQ.cons (Sub.refl _) (bQ.cons (Sub.nil _ _) (bQ.cons (Sub.nil _ _) (bQ.cons (Sub.nil _ _) (bQ.cons (Sub.nil _ _) (bQ.cons (Sub.nil _ _) (bQ.cons (Sub.nil _ _) bQ.nil)))))))))⟩
def vE (j:dN) (k:Int):Prop:=0<=k/\k<=(j.aQ.length:Int)-1
noncomputable instance (j:dN) (k:Int):Decidable (vE j k):=Classical.propDecidable _
theorem has (j:dN) (k:Int) (hl:j.aQ.length<=1048576):dQ Tryz.prog 103 [.agg j.c,I k] (.bool (decide (vE j k))):=by
 simp only[dN.aM]
 refine dI 11 bP3 aBW b9 Tryz.func103 λh=>?_
 simp -dsimp -implicitDefEqProofs only[go_sem,↓reduceIte,Tryz.f103]
 intro _
 rw[IntWalk.i64_in _ aA]
 first|refine aH.mk (within k 0 ((j.aQ.length:Int)-1)) ?_|refine aE.mk (within k 0 ((j.aQ.length:Int)-1)) ?_|refine aH.b7 (within k 0 ((j.aQ.length:Int)-1)) ?_|refine aE.mk (bX.eA (within k 0 ((j.aQ.length:Int)-1))) ?_
 simp -dsimp -implicitDefEqProofs only[go_sem,↓reduceIte,Tryz.f103]
 exact decide_eq_decide.2 Iff.rfl
theorem aXS (j:dN) (k:Int) (hl:j.aQ.length<=1048576):dQ Tryz.prog 183 [.ip 5 [j.c] 0 0,I k] (.bool (decide (vE j k))):=by
 simp only[dN.aM]
 refine dI 13 zG cG b9 Tryz.func183 λh=>?_
 simp -dsimp -implicitDefEqProofs only[go_sem,↓reduceIte,Tryz.f183]
 repeat'(with_reducible first|intro _|refine And.intro ?_ ?_)
 all_goals try omega
 rw[IntWalk.i64_in _ aA]
 first|refine aH.mk (eI k 0 ((j.aQ.length:Int)-1)) ?_|refine aE.mk (eI k 0 ((j.aQ.length:Int)-1)) ?_|refine aH.b7 (eI k 0 ((j.aQ.length:Int)-1)) ?_|refine aE.mk (bX.eA (eI k 0 ((j.aQ.length:Int)-1))) ?_
 simp -dsimp -implicitDefEqProofs only[go_sem,↓reduceIte,Tryz.f183]
 exact decide_eq_decide.2 Iff.rfl
def gX (s:aI) (r:aT):Prop:=vE s.bA r.fI/\(0<=r.pQ/\r.pQ<=50)/\pR s.bA r.jY
noncomputable instance (s:aI) (r:aT):Decidable (gX s r):=Classical.propDecidable _
def rQ (s:aI) (r:aT):Prop:=s.bM[r.fI.toNat]?=some false/\s.aP[r.fI.toNat]?=some r.pQ
noncomputable instance (s:aI) (r:aT):Decidable (rQ s r):=Classical.propDecidable _
def aKN (s:aI) (r:aT):aI:={ s with bM:=s.bM.set r.fI.toNat true,bW:=s.bW.set r.fI.toNat r.jY,bI:=s.bI.set r.fI.toNat (-1) }
noncomputable def aG1 (s:aI) (r:aT):aI×Bool:=if rQ s r then(aKN s r,true)else(s,false)
theorem w6 {s:aI} {r:aT} (h:¬rQ s r):aG1 s r=(s,false):=if_neg h
theorem zM {s:aI} {r:aT} (h:rQ s r):aG1 s r=(aKN s r,true):=if_pos h
noncomputable def aAO (s:aI) (r:aT):aI×Bool×Int:=if s.ok then(if gX s r then((aG1 s r).1,(aG1 s r).2,0)else(kZ,false,2))else(kZ,false,1)
theorem bDS {s:aI} {r:aT} (h:¬s.ok):aAO s r=(kZ,false,1):=if_neg h
theorem aMB {s:aI} {r:aT} (h:s.ok) (h2:¬gX s r):aAO s r=(kZ,false,2):=by rw[aAO,if_pos h,if_neg h2]
theorem aIT {s:aI} {r:aT} (h:s.ok) (h2:gX s r):aAO s r=((aG1 s r).1,(aG1 s r).2,0):=by rw[aAO,if_pos h,if_pos h2]
theorem a17 (s:aI) (r:aT) (hl:s.bA.aQ.length<=1048576):dQ Tryz.prog 58 [.agg s.bA.c,.agg r.c] (.bool (decide (gX s r))):=by
 have h1:=has s.bA r.fI hl
 have h3:=bHJ s.bA r.jY
 simp only[dN.aM,aT.aM,bR.aM]at h1 h3 ⊢
 refine dI 20 a4W aDC b9 Tryz.func58 λh=>?_
 simp -dsimp -implicitDefEqProofs only[go_sem,↓reduceIte,Tryz.f58]
 first|refine aH.mk (h1) ?_|refine aE.mk (h1) ?_|refine aH.b7 (h1) ?_|refine aE.mk (bX.eA (h1)) ?_
 simp -dsimp -implicitDefEqProofs only[go_sem,↓reduceIte,Tryz.f58]
 repeat'(with_reducible first|intro _|refine And.intro ?_ ?_)
 ·first|refine aH.mk (within r.pQ 0 50) ?_|refine aE.mk (within r.pQ 0 50) ?_|refine aH.b7 (within r.pQ 0 50) ?_|refine aE.mk (bX.eA (within r.pQ 0 50)) ?_
  simp -dsimp -implicitDefEqProofs only[go_sem,↓reduceIte,Tryz.f58]
  repeat'(with_reducible first|intro _|refine And.intro ?_ ?_)
  ·first|refine aH.mk (h3) ?_|refine aE.mk (h3) ?_|refine aH.b7 (h3) ?_|refine aE.mk (bX.eA (h3)) ?_
   simp -dsimp -implicitDefEqProofs only[go_sem,↓reduceIte,Tryz.f58]
   exact decide_eq_decide.2 ⟨λq=>⟨by assumption,by assumption,q⟩,λq=>q.2.2⟩
  ·exact(decide_eq_false λq=>by have:=q.2.1;omega).symm
 ·exact(decide_eq_false λq=>by have:=q.1;contradiction).symm
@[go_sem] def b0S:Marks:=λid=>match id with|1=>([],(.op 0 (.op 1 (.op 2 (.op 3 (.op 4 (.op 5 (.op 6 (.op 7 (.op 8 (.op 9 (.op 10 (.op 11 (.op 12 (.op 13 (.op 14 (.op 15 (.op 16 (.op 17 (.op 18 (.op 19 (.op 20 (.op 21 (.op 22 (.op 23 (.op 24 .nil))))))))))))))))))))))))),[])|_=>([],.nil,[])
theorem aF8 (s:aI) (r:aT) (hl:s.bA.aQ.length<=1048576):dQ Tryz.prog 145 [.ip 9 [s.c] 0 0,.ip 5 [r.c] 0 0] (.bool (decide (gX s r))):=by
 simp only[aI.aM,aT.aM]
 refine dI 29 zG cG b0S Tryz.func145 λh=>?_
 simp -dsimp -implicitDefEqProofs only[go_sem,↓reduceIte,Tryz.f145]
 repeat'(with_reducible first|intro _|refine And.intro ?_ ?_)
 all_goals try omega
 first|refine aE.mk ((aXS s.bA r.fI hl).sub (by repeat'(first|exact bQ.nil|refine bQ.cons ?_ ?_|exact Sub.refl _|(rw[aB.aM];exact Sub.refl _)|exact Sub.cK rfl rfl rfl|exact Sub.ip (bF aA) aS|exact Sub.cK (bF aA) rfl rfl|exact Sub.ip bU aS|exact Sub.cK bU bS bS))) ?_|refine aH.mk ((aXS s.bA r.fI hl).sub (by repeat'(first|exact bQ.nil|refine bQ.cons ?_ ?_|exact Sub.refl _|(rw[aB.aM];exact Sub.refl _)|exact Sub.cK rfl rfl rfl|exact Sub.ip (bF aA) aS|exact Sub.cK (bF aA) rfl rfl|exact Sub.ip bU aS|exact Sub.cK bU bS bS))) ?_
 simp -dsimp -implicitDefEqProofs only[go_sem,↓reduceIte,Tryz.f145]
 repeat'(with_reducible first|intro _|refine And.intro ?_ ?_)
 ·first|refine aH.mk (eI r.pQ 0 50) ?_|refine aE.mk (eI r.pQ 0 50) ?_|refine aH.b7 (eI r.pQ 0 50) ?_|refine aE.mk (bX.eA (eI r.pQ 0 50)) ?_
  simp -dsimp -implicitDefEqProofs only[go_sem,↓reduceIte,Tryz.f145]
  repeat'(with_reducible first|intro _|refine And.intro ?_ ?_)
  ·first|refine aE.mk ((aO0 s.bA r.jY).sub (by repeat'(first|exact bQ.nil|refine bQ.cons ?_ ?_|exact Sub.refl _|(rw[aB.aM];exact Sub.refl _)|exact Sub.cK rfl rfl rfl|exact Sub.ip (bF aA) aS|exact Sub.cK (bF aA) rfl rfl|exact Sub.ip bU aS|exact Sub.cK bU bS bS))) ?_|refine aH.mk ((aO0 s.bA r.jY).sub (by repeat'(first|exact bQ.nil|refine bQ.cons ?_ ?_|exact Sub.refl _|(rw[aB.aM];exact Sub.refl _)|exact Sub.cK rfl rfl rfl|exact Sub.ip (bF aA) aS|exact Sub.cK (bF aA) rfl rfl|exact Sub.ip bU aS|exact Sub.cK bU bS bS))) ?_
   simp -dsimp -implicitDefEqProofs only[go_sem,↓reduceIte,Tryz.f145]
   exact decide_eq_decide.2 ⟨λq=>⟨by assumption,by assumption,q⟩,λq=>q.2.2⟩
  ·exact(decide_eq_false λq=>by have:=q.2.1;omega).symm
 ·exact(decide_eq_false λq=>by have:=q.1;contradiction).symm
@[go_sem] def bL9:List Nat:=[0,1,2,3,4,5,6,7,8,13,38]
@[go_sem] def b0T:Marks:=λid=>match id with|6=>([],(.op 0 (.op 1 (.op 2 (.op 3 (.op 4 (.op 5 (.op 6 (.op 7 (.op 8 (.op 9 (.op 10 (.op 11 (.op 12 (.op 13 (.op 14 (.op 15 (.op 16 .nil))))))))))))))))),[])|8=>([1,5,9,14,16,18,20],(.op 0 (.op 2 (.op 3 (.op 4 (.op 6 (.op 7 (.op 8 (.op 10 (.op 11 (.op 12 (.op 13 (.op 1 (.op 5 (.op 9 (.op 14 (.op 15 (.op 16 (.op 17 (.op 18 (.op 19 (.op 20 .nil))))))))))))))))))))),[(1,14),(5,14),(5,16),(9,14),(9,16),(9,18)])|_=>([],.nil,[])
set_option maxHeartbeats 2000000 in
theorem aR8 (s:aI) (r:aT) (hs:s.s<=1048576) (hr:r.s<=1048576):tU Tryz.prog 133 [.agg s.c,.agg r.c] (QA (aAO s r).1.o (λy=>.iF [y,.bool (aAO s r).2.1,I (aAO s r).2.2])):=by
 have hs':=s.fQ
 have rO:=s.bA.fQ
 have hr':=r.fQ
 simp only[fF]at hs' rO
 have hok:=yB s aA
 have hcl:=yD s hs
 have hrp:=a17 s r aA
 have hcp:=aVG r.jY aA
 simp only[aI.aM,dN.aM,aT.aM,bR.aM]at hok hcl hrp hcp ⊢
 refine x9 59 bL9 aDC b0T Tryz.func133 λh=>?_
 simp -dsimp -implicitDefEqProofs only[go_sem,↓reduceIte,Tryz.f133]
 intro n4 z4
 try simp -dsimp -implicitDefEqProofs only[go_sem,↓reduceIte,Tryz.f133]
 first|refine aH.mk (hok) ?_|refine aE.mk (hok) ?_|refine aH.b7 (hok) ?_|refine aE.mk (bX.eA (hok)) ?_
 simp -dsimp -implicitDefEqProofs only[go_sem,↓reduceIte,Tryz.f133]
 refine⟨λhn=>?_,λhy=>?_⟩
 ·have hn':¬s.ok:=by simpa using hn
  rw[bDS hn']
  try simp -dsimp -implicitDefEqProofs only[go_sem,↓reduceIte,Tryz.f133,aF]
  exact rV nR (kJ [] [_,_]) (by repeat'(first|exact Heap.le_refl _|refine Heap.cD ?_|refine Heap.aW kT ?_))
 have hy':s.ok:=by simpa using hy
 try simp -dsimp -implicitDefEqProofs only[go_sem,↓reduceIte,Tryz.f133]
 first|refine aH.mk (hrp) ?_|refine aE.mk (hrp) ?_|refine aH.b7 (hrp) ?_|refine aE.mk (bX.eA (hrp)) ?_
 simp -dsimp -implicitDefEqProofs only[go_sem,↓reduceIte,Tryz.f133]
 refine⟨λhn=>?_,λht=>?_⟩
 ·have hn':¬gX s r:=by simpa using hn
  rw[aMB hy' hn']
  try simp -dsimp -implicitDefEqProofs only[go_sem,↓reduceIte,Tryz.f133,aF]
  exact rV nR (kJ [] [_,_]) (by repeat'(first|exact Heap.le_refl _|refine Heap.cD ?_|refine Heap.aW kT ?_))
 have ht':gX s r:=by simpa using ht
 rw[aIT hy' ht']
 try simp -dsimp -implicitDefEqProofs only[go_sem,↓reduceIte,Tryz.f133]
 refine aH.wn1 hcl z4 ?_
 rintro r_ l_ g ⟨e,oe,rfl,rfl⟩ wn z4
 have vV:=oe
 obtain⟨fH,fV,gC,rA,s6,rC,tS,rfl,eM,eU,eJ,eH,eS,eN,eO⟩:=vV
 simp -dsimp -implicitDefEqProofs only[go_sem,↓reduceIte,Tryz.f133,OV.aR,OV.aG,OV.bE,aF,aD,eM.flat,eM.one,eU.flat,eU.one,eJ.flat,eJ.one,eH.flat,eH.one,eS.flat,eS.one,eN.flat,eN.one,eO.flat,eO.one]
 intro nb b0U
 obtain⟨bA6,aF9,aGA,bMA⟩:=cE (show ¬nb=n4 from iS b0U)
 have bHX:g nb=none:=iS b0U
 have hk1:=ht'.1.1
 have hk2:=ht'.1.2
 have l1:=hy'.2.1
 have kn:r.fI.toNat<s.bM.length:=by omega
 have ks:r.fI.toNat<s.aP.length:=by omega
 have ko:r.fI.toNat<s.bI.length:=by omega
 have kp:r.fI.toNat<s.bW.length:=by omega
 have gk:s.bM[r.fI.toNat]?=some s.bM[r.fI.toNat]:=b6 kn
 have gs:s.aP[r.fI.toNat]?=some s.aP[r.fI.toNat]:=b6 ks
 have go:s.bI[r.fI.toNat]?=some s.bI[r.fI.toNat]:=b6 ko
 have htake:rQ s r↔s.bM[r.fI.toNat]=false/\s.aP[r.fI.toNat]=r.pQ:=by rw[rQ,gk,gs];simp
 obtain⟨n7,es,rfl,hor⟩:=eN.some aA
 rcases eS.zX with⟨rfl,h6⟩|⟨n6,rfl⟩
 ·rw[h6]at kn;simp at kn
 rcases eO.zX with⟨rfl,h8⟩|⟨n8,rfl⟩
 ·rw[h8]at ko;simp at ko
 have g6:=wn.aHM [fH,.v (.int .i64 s.bA.b5),.v (.int .i64 s.bA.aU),fV,gC,rA] (c:=.bool)
 have g7:=wn.aNP ([fH,.v (.int .i64 s.bA.b5),.v (.int .i64 s.bA.aU),fV,gC,rA]++[OV.sl n6 1 (s.bM.map λx=>[.v (.bool x)])])
 have g8:=wn.aHM ([fH,.v (.int .i64 s.bA.b5),.v (.int .i64 s.bA.aU),fV,gC,rA]++[OV.sl n6 1 (s.bM.map λx=>[.v (.bool x)]),OV.sl n7 3 es]) (c:=I)
 obtain⟨mD,fZ,gA,aDJ⟩:=cE (show ¬n6=n4 from eK g6 z4)
 obtain⟨aGB,kS,kR,uU⟩:=cE (show ¬n6=nb from eK g6 bHX)
 obtain⟨b4G,aXT,aXU,b4H⟩:=cE (show ¬n7=n4 from eK g7 z4)
 obtain⟨wM,qW,qU,kG⟩:=cE (show ¬n7=nb from eK g7 bHX)
 obtain⟨bMB,aAP,aAQ,bMC⟩:=cE (show ¬n8=n4 from eK g8 z4)
 obtain⟨aXV,qY,qV,aGC⟩:=cE (show ¬n8=nb from eK g8 bHX)
 obtain⟨aXW,rY,rZ,aO3⟩:=cE (show ¬n6=n7 from wn.pP [fH,.v (.int .i64 s.bA.b5),.v (.int .i64 s.bA.aU),fV,gC,rA] (m:=n7) vS)
 obtain⟨aO4,mV,mW,aKO⟩:=cE (show ¬n6=n8 from wn.pP [fH,.v (.int .i64 s.bA.b5),.v (.int .i64 s.bA.aU),fV,gC,rA] (m:=n8) vS)
 obtain⟨aXX,qX,qZ,aXY⟩:=cE (show ¬n7=n8 from wn.pP ([fH,.v (.int .i64 s.bA.b5),.v (.int .i64 s.bA.aU),fV,gC,rA]++[OV.sl n6 1 (s.bM.map λx=>[.v (.bool x)])]) (m:=n8) vS)
 have hv6:=OV.jX aC.bool n6 1 s.bM
 have hv7:=OV.p8 n7 3 es
 have hv8:=OV.jX I n8 1 s.bI
 have hel:es.length=s.bW.length:=hor.length.symm
 obtain⟨ek,hek,oek⟩:=hor.a1L r.fI.toNat s.bW[r.fI.toNat] (b6 kp)
 have a69:=oek
 obtain⟨bTW,rfl,bTX⟩:=a69
 have hck:=wD hek
 simp only[bO,bY,OV.bE]at hck
 simp -dsimp -implicitDefEqProofs only[go_sem,↓reduceIte,Tryz.f133,OV.aR,OV.aG,OV.bE,aF,aD,eM.flat,eM.one,eU.flat,eU.one,eJ.flat,eJ.one,eH.flat,eH.one,eS.flat,eS.one,eN.flat,eN.one,eO.flat,eO.one,aGA,gA,aXU,aAQ,aF9,kR,qU,qV,fZ,kS,rY,mV,aXT,qW,rZ,qX,aAP,qY,mW,qZ,gk,gs,hv6,hv7,hv8]
 refine⟨hk1,by omega,λhq=>⟨hk1,by omega,λhq2=>?_,λhq2=>?_⟩,λhq=>?_⟩
 ·rw[w6 λz=>by rw[htake]at z;exact hq2 z.2]
  exact aFC (w:=λy=>.iF [y,.bool false,I 0]) bOR oe wn (by repeat'(first|exact Heap.le_refl _|refine Heap.cD ?_|refine Heap.aW kT ?_))
 ·refine aH.oX hcp z4 ⟨bA6,bHX⟩ ?_
  rintro r_ l_ g2 ⟨ep,oep,rfl,rfl⟩ wp z4 bHX
  have bTY:=oep
  obtain⟨bHZ,rfl,bH0⟩:=bTY
  replace g6:=wp.keep g6
  replace g7:=wp.keep g7
  replace g8:=wp.keep g8
  simp -dsimp -implicitDefEqProofs only[go_sem,↓reduceIte,Tryz.f133,OV.aR,OV.aG,OV.bE,aF,aD,eM.flat,eM.one,eU.flat,eU.one,eJ.flat,eJ.one,eH.flat,eH.one,eS.flat,eS.one,eN.flat,eN.one,eO.flat,eO.one,bH0.flat,bH0.one,aGA,gA,aXU,aAQ,aF9,kR,qU,qV,fZ,kS,rY,mV,aXT,qW,rZ,qX,aAP,qY,mW,qZ,gk,gs,go,g6,g7,g8,hck]
  refine⟨hk1,by omega,hk1,by omega,hk1,by omega,?_⟩
  rw[zM (htake.2 ⟨hq,hq2⟩)]
  obtain⟨g3,wG,wn3⟩:=wn.aU2 ([fH,.v (.int .i64 s.bA.b5),.v (.int .i64 s.bA.aU),fV,gC,rA]++[OV.sl n6 1 (s.bM.map λx=>[.v (.bool x)])]) (k:=r.fI.toNat) wp aA
  have wn4:=wn3.aQ6 [fH,.v (.int .i64 s.bA.b5),.v (.int .i64 s.bA.aU),fV,gC,rA] (c:=.bool) (l':=s.bM.set r.fI.toNat true)
  have wn5:=wn4.aQ6 ([fH,.v (.int .i64 s.bA.b5),.v (.int .i64 s.bA.aU),fV,gC,rA]++[OV.sl n6 1 ((s.bM.set r.fI.toNat true).map λx=>[.v (.bool x)]),OV.sl n7 3 (es.set r.fI.toNat [.v (.int .i64 r.jY.cX),.v (.int .i64 r.jY.jA),bHZ])]) (c:=I) (l':=s.bI.set r.fI.toNat (-1))
  have hcs:=tI es r.fI.toNat [.v (.int .i64 r.jY.cX),.v (.int .i64 r.jY.jA),bHZ] _ rfl
  simp only[bO,bY,OV.bE]at hcs
  rw[xK aC.bool,xK I,hcs]
  exact aFC (w:=λy=>.iF [y,.bool true,I 0]) (by first|rfl|(simp only[OV.aR,OV.aG,OV.bE,OV.p8,k5,yU];done)|(simp only[OV.aR,OV.aG,OV.bE,OV.p8,k5,yU];rfl)) ⟨fH,fV,gC,rA,_,_,_,rfl,eM,eU,eJ,eH,OS.mk (sE (s.bM.set r.fI.toNat true)),OS.mk (hor.set r.fI.toNat r.jY _ oep),OS.mk (sE (s.bI.set r.fI.toNat (-1)))⟩ wn5 (Heap.le_trans (Heap.cD (Heap.cD wG)) (jM (by repeat'(first|exact gN _ _|refine jN (by simp only[fN,↓reduceIte,eq_self,if_true,aGA,gA,aXU,aAQ,aF9,kR,qU,qV,fZ,kS,rY,mV,aXT,qW,rZ,qX,aAP,qY,mW,qZ]) ?_|refine fS oZ ?_))))
 ·rw[w6 λz=>by rw[htake,hq]at z;simp at z]
  exact aFC (w:=λy=>.iF [y,.bool false,I 0]) bOR oe wn (by repeat'(first|exact Heap.le_refl _|refine Heap.cD ?_|refine Heap.aW kT ?_))
@[go_sem] def bMD:List Nat:=[0,1,4,31]
@[go_sem] def b0V:Marks:=λid=>match id with|1=>([3,7,9,14,18,20,24],(.op 0 (.op 1 (.op 2 (.op 4 (.op 5 (.op 6 (.op 3 (.op 7 (.op 8 (.op 9 (.op 10 (.op 11 (.op 12 (.op 13 (.op 15 (.op 16 (.op 17 (.op 21 (.op 22 (.op 23 (.op 14 (.op 18 (.op 19 (.op 20 (.op 24 (.op 25 (.op 26 .nil))))))))))))))))))))))))))),[])|3=>([3,7,9],(.op 0 (.op 1 (.op 2 (.op 4 (.op 5 (.op 6 (.op 3 (.op 7 (.op 8 (.op 9 .nil)))))))))),[])|4=>([3,7,11,12,14],(.op 0 (.op 1 (.op 2 (.op 4 (.op 5 (.op 6 (.op 8 (.op 9 (.op 10 (.op 3 (.op 7 (.op 11 (.op 12 (.op 13 (.op 14 .nil))))))))))))))),[(3,12),(7,12)])|5=>([3,7,9],(.op 0 (.op 1 (.op 2 (.op 4 (.op 5 (.op 6 (.op 3 (.op 7 (.op 8 (.op 9 .nil)))))))))),[])|_=>([],.nil,[])
set_option maxHeartbeats 2000000 in
theorem aXZ (s:aI) (r:aT) (h0 g:Heap) (nb:Nat) (e:List OV) (oe:s.o e) (hnb:g nb=none) (wn:eW h0 (OV.cQ e) g) (hs:s.s<=1048576) (hr:r.s<=1048576) (l1:s.aP.length=s.bA.aQ.length/\s.bM.length=s.bA.aQ.length/\s.bW.length=s.bA.aQ.length/\s.bI.length=s.bA.aQ.length) (ht:vE s.bA r.fI) :
  gK Tryz.prog 164 [.op nb 9 0 0,.ip 5 [r.c] 0 0] (bT g nb (.row 9 (OV.cells [e]))) (aL1 h0 nb 9 λv e'=>v=.bool (aG1 s r).2/\(aG1 s r).1.o e'):=by
 have hs':=s.fQ
 have rO:=s.bA.fQ
 have hr':=r.fQ
 simp only[fF]at hs' rO
 have hcp:=aHT r.jY aA
 simp only[aT.aM,bR.aM]at hcp ⊢
 have vV:=oe
 obtain⟨fH,fV,gC,rA,s6,rC,tS,rfl,eM,eU,eJ,eH,eS,eN,eO⟩:=vV
 have hk1:=ht.1
 have hk2:=ht.2
 have kn:r.fI.toNat<s.bM.length:=by omega
 have ks:r.fI.toNat<s.aP.length:=by omega
 have ko:r.fI.toNat<s.bI.length:=by omega
 have kp:r.fI.toNat<s.bW.length:=by omega
 have gk:s.bM[r.fI.toNat]?=some s.bM[r.fI.toNat]:=b6 kn
 have gs:s.aP[r.fI.toNat]?=some s.aP[r.fI.toNat]:=b6 ks
 have go:s.bI[r.fI.toNat]?=some s.bI[r.fI.toNat]:=b6 ko
 have htake:rQ s r↔s.bM[r.fI.toNat]=false/\s.aP[r.fI.toNat]=r.pQ:=by rw[rQ,gk,gs];simp
 obtain⟨n7,es,rfl,hor⟩:=eN.some aA
 rcases eH.zX with⟨rfl,h5⟩|⟨n5,rfl⟩
 ·rw[h5]at ks;simp at ks
 rcases eS.zX with⟨rfl,h6⟩|⟨n6,rfl⟩
 ·rw[h6]at kn;simp at kn
 rcases eO.zX with⟨rfl,h8⟩|⟨n8,rfl⟩
 ·rw[h8]at ko;simp at ko
 have g5:=wn.aHM [fH,.v (.int .i64 s.bA.b5),.v (.int .i64 s.bA.aU),fV,gC] (c:=I)
 have g6:=wn.aHM ([fH,.v (.int .i64 s.bA.b5),.v (.int .i64 s.bA.aU),fV,gC]++[OV.sl n5 1 (s.aP.map λx=>[.v (I x)])]) (c:=.bool)
 have g7:=wn.aNP ([fH,.v (.int .i64 s.bA.b5),.v (.int .i64 s.bA.aU),fV,gC]++[OV.sl n5 1 (s.aP.map λx=>[.v (I x)]),OV.sl n6 1 (s.bM.map λx=>[.v (.bool x)])])
 have g8:=wn.aHM ([fH,.v (.int .i64 s.bA.b5),.v (.int .i64 s.bA.aU),fV,gC]++[OV.sl n5 1 (s.aP.map λx=>[.v (I x)]),OV.sl n6 1 (s.bM.map λx=>[.v (.bool x)]),OV.sl n7 3 es]) (c:=I)
 obtain⟨aO5,pU,pT,aJF⟩:=cE (show ¬n5=nb from eK g5 hnb)
 obtain⟨aGB,kS,kR,uU⟩:=cE (show ¬n6=nb from eK g6 hnb)
 obtain⟨wM,qW,qU,kG⟩:=cE (show ¬n7=nb from eK g7 hnb)
 obtain⟨aXV,qY,qV,aGC⟩:=cE (show ¬n8=nb from eK g8 hnb)
 obtain⟨aXW,rY,rZ,aO3⟩:=cE (show ¬n6=n7 from wn.pP ([fH,.v (.int .i64 s.bA.b5),.v (.int .i64 s.bA.aU),fV,gC]++[OV.sl n5 1 (s.aP.map λx=>[.v (I x)])]) (m:=n7) vS)
 obtain⟨aO4,mV,mW,aKO⟩:=cE (show ¬n6=n8 from wn.pP ([fH,.v (.int .i64 s.bA.b5),.v (.int .i64 s.bA.aU),fV,gC]++[OV.sl n5 1 (s.aP.map λx=>[.v (I x)])]) (m:=n8) vS)
 obtain⟨aXX,qX,qZ,aXY⟩:=cE (show ¬n7=n8 from wn.pP ([fH,.v (.int .i64 s.bA.b5),.v (.int .i64 s.bA.aU),fV,gC]++[OV.sl n5 1 (s.aP.map λx=>[.v (I x)]),OV.sl n6 1 (s.bM.map λx=>[.v (.bool x)])]) (m:=n8) vS)
 have hv5:=OV.jX I n5 1 s.aP
 have hv6:=OV.jX aC.bool n6 1 s.bM
 have hv7:=OV.p8 n7 3 es
 have hv8:=OV.jX I n8 1 s.bI
 have hel:es.length=s.bW.length:=hor.length.symm
 obtain⟨ek,hek,oek⟩:=hor.a1L r.fI.toNat s.bW[r.fI.toNat] (b6 kp)
 have a69:=oek
 obtain⟨bTW,rfl,bTX⟩:=a69
 have hck:=wD hek
 simp only[bO,bY,OV.bE]at hck
 refine aTZ 64 bMD cG b0V Tryz.func164 ?_
 simp -dsimp -implicitDefEqProofs only[go_sem,↓reduceIte,Tryz.f164]
 simp -dsimp -implicitDefEqProofs only[go_sem,↓reduceIte,Tryz.f164,OV.aR,OV.aG,OV.bE,aF,aD,eM.flat,eM.one,eU.flat,eU.one,eJ.flat,eJ.one,eH.flat,eH.one,eS.flat,eS.one,eN.flat,eN.one,eO.flat,eO.one,kR,qU,qV,kS,rY,mV,qW,rZ,qX,qY,mW,qZ,pU,pT,cV,bO,bY,gk,gs,go,hv5,hv6,hv7,hv8,g5,g6,g7,g8]
 have cb:∀ v:aC,v=.bool false->¬rQ s r->∃ g_1:Heap,g_1.le (bT g nb (.row 9 [[.v fH.val,.v (I s.bA.b5),.v (I s.bA.aU),.v fV.val,.v gC.val,.v (.os n5 1 0 s.aP.length),.v (.os n6 1 0 s.bM.length),.v (.os n7 3 0 es.length),.v (.os n8 1 0 s.bI.length)]]))/\aL1 h0 nb 9 (λv e'=>v=.bool (aG1 s r).2/\(aG1 s r).1.o e') v g_1:=by
  rintro v rfl hq
  rw[w6 hq]
  exact⟨_,Heap.le_refl _,_,g,⟨rfl,oe⟩,by simp only[cV,bO,bY,OV.bE,hv5,hv6,hv7,hv8],hnb,wn⟩
 refine⟨hk1,by omega,λhq=>⟨hk1,by omega,λhq2=>?_,λhq2=>⟨hk1,by omega,?_⟩⟩,λhq=>?_⟩
 ·exact cb _ rfl λz=>by rw[htake]at z;exact hq2 z.2
 ·rw[xK aC.bool,nB uU]
  have wn1:=wn.aQ6 ([fH,.v (.int .i64 s.bA.b5),.v (.int .i64 s.bA.aU),fV,gC]++[OV.sl n5 1 (s.aP.map λx=>[.v (I x)])]) (c:=.bool) (l':=s.bM.set r.fI.toNat true)
  refine aH.wn1 hcp (by rw[aD _ _ _ _ uU];exact hnb) ?_
  rintro r_ l_ g2 ⟨ep,oep,rfl,rfl⟩ wp aKP
  have bTY:=oep
  obtain⟨bHZ,rfl,bH0⟩:=bTY
  replace g7:=wp.keep (n:=n7) (by rw[aD _ _ _ _ aO3];exact g7)
  replace g8:=wp.keep (n:=n8) (by rw[aD _ _ _ _ aKO];exact g8)
  simp -dsimp -implicitDefEqProofs only[go_sem,↓reduceIte,Tryz.f164,OV.aR,OV.aG,OV.bE,aF,aD,eM.flat,eM.one,eU.flat,eU.one,eJ.flat,eJ.one,eH.flat,eH.one,eS.flat,eS.one,eN.flat,eN.one,eO.flat,eO.one,bH0.flat,bH0.one,kR,qU,qV,kS,rY,mV,qW,rZ,qX,qY,mW,qZ,pU,pT,gk,gs,go,g7,g8,hck]
  refine⟨hk1,by omega,hk1,by omega,?_⟩
  rw[zM (htake.2 ⟨hq,hq2⟩)]
  obtain⟨g3,wG,wn3⟩:=wn1.aU2 ([fH,.v (.int .i64 s.bA.b5),.v (.int .i64 s.bA.aU),fV,gC]++[OV.sl n5 1 (s.aP.map λx=>[.v (I x)]),OV.sl n6 1 ((s.bM.set r.fI.toNat true).map λx=>[.v (.bool x)])]) (k:=r.fI.toNat) wp aA
  have wn5:=wn3.aQ6 ([fH,.v (.int .i64 s.bA.b5),.v (.int .i64 s.bA.aU),fV,gC]++[OV.sl n5 1 (s.aP.map λx=>[.v (I x)]),OV.sl n6 1 ((s.bM.set r.fI.toNat true).map λx=>[.v (.bool x)]),OV.sl n7 3 (es.set r.fI.toNat [.v (.int .i64 r.jY.cX),.v (.int .i64 r.jY.jA),bHZ])]) (c:=I) (l':=s.bI.set r.fI.toNat (-1))
  have hcs:=tI es r.fI.toNat [.v (.int .i64 r.jY.cX),.v (.int .i64 r.jY.jA),bHZ] _ rfl
  simp only[bO,bY,OV.bE]at hcs
  rw[xK I,hcs]
  refine⟨_,?hl,_,_,⟨rfl,fH,fV,gC,_,_,_,_,rfl,eM,eU,eJ,eH,OS.mk (sE (s.bM.set r.fI.toNat true)),OS.mk (hor.set r.fI.toNat r.jY _ oep),OS.mk (sE (s.bI.set r.fI.toNat (-1)))⟩,rfl,?hn,wn5⟩
  case hl =>
   simp only[cV,bO,bY,OV.bE,OV.p8,k5,yU,show(aKN s r).bA=s.bA from rfl]
   exact Heap.le_trans (Heap.cD (Heap.cD wG)) (jM (by repeat'(first|exact gN _ _|refine jN (by simp only[fN,↓reduceIte,eq_self,if_true,qU,qV,qW,qX,qY,qZ]) ?_|refine fS oZ ?_)))
  case hn =>
   rw[aD _ _ _ _ aGC]
   exact Heap.le_none wG (by rw[aD _ _ _ _ kG];exact aKP)
 ·exact cb _ rfl λz=>by rw[htake,hq]at z;simp at z
def j3 (s:aI) (k:Int):aI:={ s with aP:=s.aP.set k.toNat (s.aP.getD k.toNat 0+1),bM:=s.bM.set k.toNat false,bW:=s.bW.set k.toNat ⟨0,0,[]⟩,bI:=s.bI.set k.toNat (-1) }
@[go_sem] def bME:List Nat:=[0,1]
@[go_sem] def b0W:List Nat:=[24]
set_option maxHeartbeats 2000000 in
theorem aVI (s:aI) (k:Int) (h0 g:Heap) (nb:Nat) (e:List OV) (oe:s.o e) (hnb:g nb=none) (wn:eW h0 (OV.cQ e) g) (l1:s.aP.length=s.bA.aQ.length/\s.bM.length=s.bA.aQ.length/\s.bW.length=s.bA.aQ.length/\s.bI.length=s.bA.aQ.length) (ht:vE s.bA k) (hst:∀ x∈s.aP,0<=x/\x<=50) :
  gK Tryz.prog 198 [.op nb 9 0 0,I k] (bT g nb (.row 9 (OV.cells [e]))) (aL1 h0 nb 9 λv e'=>(j3 s k).o e'):=by
 have hk1:=ht.1
 have hk2:=ht.2
 have vV:=oe
 obtain⟨fH,fV,gC,rA,s6,rC,tS,rfl,eM,eU,eJ,eH,eS,eN,eO⟩:=vV
 have kn:k.toNat<s.bM.length:=by omega
 have ks:k.toNat<s.aP.length:=by omega
 have ko:k.toNat<s.bI.length:=by omega
 have kp:k.toNat<s.bW.length:=by omega
 have gk:s.bM[k.toNat]?=some s.bM[k.toNat]:=b6 kn
 have gs:s.aP[k.toNat]?=some s.aP[k.toNat]:=b6 ks
 have gd:s.aP.getD k.toNat 0=s.aP[k.toNat]:=by rw[jC,gs];rfl
 have go:s.bI[k.toNat]?=some s.bI[k.toNat]:=b6 ko
 have hb:=hst s.aP[k.toNat] (dG ks)
 obtain⟨n7,es,rfl,hor⟩:=eN.some aA
 rcases eH.zX with⟨rfl,h5⟩|⟨n5,rfl⟩
 ·rw[h5]at ks;simp at ks
 rcases eS.zX with⟨rfl,h6⟩|⟨n6,rfl⟩
 ·rw[h6]at kn;simp at kn
 rcases eO.zX with⟨rfl,h8⟩|⟨n8,rfl⟩
 ·rw[h8]at ko;simp at ko
 have g5:=wn.aHM [fH,.v (.int .i64 s.bA.b5),.v (.int .i64 s.bA.aU),fV,gC] (c:=I)
 have g6:=wn.aHM ([fH,.v (.int .i64 s.bA.b5),.v (.int .i64 s.bA.aU),fV,gC]++[OV.sl n5 1 (s.aP.map λx=>[.v (I x)])]) (c:=.bool)
 have g7:=wn.aNP ([fH,.v (.int .i64 s.bA.b5),.v (.int .i64 s.bA.aU),fV,gC]++[OV.sl n5 1 (s.aP.map λx=>[.v (I x)]),OV.sl n6 1 (s.bM.map λx=>[.v (.bool x)])])
 have g8:=wn.aHM ([fH,.v (.int .i64 s.bA.b5),.v (.int .i64 s.bA.aU),fV,gC]++[OV.sl n5 1 (s.aP.map λx=>[.v (I x)]),OV.sl n6 1 (s.bM.map λx=>[.v (.bool x)]),OV.sl n7 3 es]) (c:=I)
 obtain⟨aO5,pU,pT,aJF⟩:=cE (show ¬n5=nb from eK g5 hnb)
 obtain⟨aGB,kS,kR,uU⟩:=cE (show ¬n6=nb from eK g6 hnb)
 obtain⟨wM,qW,qU,kG⟩:=cE (show ¬n7=nb from eK g7 hnb)
 obtain⟨aXV,qY,qV,aGC⟩:=cE (show ¬n8=nb from eK g8 hnb)
 obtain⟨bMF,aI9,aJC,bMG⟩:=cE (show ¬n5=n6 from wn.pP [fH,.v (.int .i64 s.bA.b5),.v (.int .i64 s.bA.aU),fV,gC] (m:=n6) vS)
 obtain⟨bMH,aJA,aJD,bMI⟩:=cE (show ¬n5=n7 from wn.pP [fH,.v (.int .i64 s.bA.b5),.v (.int .i64 s.bA.aU),fV,gC] (m:=n7) vS)
 obtain⟨bMJ,aJB,aJE,bMK⟩:=cE (show ¬n5=n8 from wn.pP [fH,.v (.int .i64 s.bA.b5),.v (.int .i64 s.bA.aU),fV,gC] (m:=n8) vS)
 obtain⟨aXW,rY,rZ,aO3⟩:=cE (show ¬n6=n7 from wn.pP ([fH,.v (.int .i64 s.bA.b5),.v (.int .i64 s.bA.aU),fV,gC]++[OV.sl n5 1 (s.aP.map λx=>[.v (I x)])]) (m:=n7) vS)
 obtain⟨aO4,mV,mW,aKO⟩:=cE (show ¬n6=n8 from wn.pP ([fH,.v (.int .i64 s.bA.b5),.v (.int .i64 s.bA.aU),fV,gC]++[OV.sl n5 1 (s.aP.map λx=>[.v (I x)])]) (m:=n8) vS)
 obtain⟨aXX,qX,qZ,aXY⟩:=cE (show ¬n7=n8 from wn.pP ([fH,.v (.int .i64 s.bA.b5),.v (.int .i64 s.bA.aU),fV,gC]++[OV.sl n5 1 (s.aP.map λx=>[.v (I x)]),OV.sl n6 1 (s.bM.map λx=>[.v (.bool x)])]) (m:=n8) vS)
 have hv5:=OV.jX I n5 1 s.aP
 have hv6:=OV.jX aC.bool n6 1 s.bM
 have hv7:=OV.p8 n7 3 es
 have hv8:=OV.jX I n8 1 s.bI
 have hel:es.length=s.bW.length:=hor.length.symm
 obtain⟨ek,hek,oek⟩:=hor.a1L k.toNat s.bW[k.toNat] (b6 kp)
 have a69:=oek
 obtain⟨bTW,rfl,bTX⟩:=a69
 have hck:=wD hek
 simp only[bO,bY,OV.bE]at hck
 have wn1:=wn.aQ6 [fH,.v (.int .i64 s.bA.b5),.v (.int .i64 s.bA.aU),fV,gC] (c:=I) (l':=s.aP.set k.toNat (s.aP[k.toNat]+1))
 have oX:=wn1.aQ6 ([fH,.v (.int .i64 s.bA.b5),.v (.int .i64 s.bA.aU),fV,gC]++[OV.sl n5 1 ((s.aP.set k.toNat (s.aP[k.toNat]+1)).map λx=>[.v (I x)])]) (c:=.bool) (l':=s.bM.set k.toNat false)
 obtain⟨g3,wG,wn3⟩:=oX.aU2 ([fH,.v (.int .i64 s.bA.b5),.v (.int .i64 s.bA.aU),fV,gC]++[OV.sl n5 1 ((s.aP.set k.toNat (s.aP[k.toNat]+1)).map λx=>[.v (I x)]),OV.sl n6 1 ((s.bM.set k.toNat false).map λx=>[.v (.bool x)])]) (k:=k.toNat) (enew:=[.v (I 0),.v (I 0),.nil 1]) (eW.nil _) aA
 have wn4:=wn3.aQ6 ([fH,.v (.int .i64 s.bA.b5),.v (.int .i64 s.bA.aU),fV,gC]++[OV.sl n5 1 ((s.aP.set k.toNat (s.aP[k.toNat]+1)).map λx=>[.v (I x)]),OV.sl n6 1 ((s.bM.set k.toNat false).map λx=>[.v (.bool x)]),OV.sl n7 3 (es.set k.toNat [.v (I 0),.v (I 0),.nil 1])]) (c:=I) (l':=s.bI.set k.toNat (-1))
 have hcs:=tI es k.toNat [.v (I 0),.v (I 0),.nil 1] _ rfl
 simp only[bO,bY,OV.bE,OV.r7]at hcs
 refine aTZ 33 bME b0W b9 Tryz.func198 ?_
 simp -dsimp -implicitDefEqProofs only[go_sem,↓reduceIte,Tryz.f198]
 simp -dsimp -implicitDefEqProofs only[go_sem,↓reduceIte,Tryz.f198,OV.aR,OV.aG,OV.bE,aF,aD,eM.flat,eM.one,eU.flat,eU.one,eJ.flat,eJ.one,eH.flat,eH.one,eS.flat,eS.one,eN.flat,eN.one,eO.flat,eO.one,pT,kR,qU,qV,pU,aI9,aJA,aJB,kS,aJC,rY,mV,qW,aJD,rZ,qX,qY,aJE,mW,qZ,cV,bO,bY,gk,gs,go,hv5,hv6,hv7,hv8,g5,g6,g7,g8,hck]
 rw[IntWalk.i64_in _ aA]
 refine⟨hk1,by omega,hk1,by omega,hk1,by omega,cM,hk1,by omega,hk1,by omega,?_⟩
 rw[xK aC.bool,xK I,xK I,hcs]
 have ef:(j3 s k).bA=s.bA:=rfl
 refine⟨_,?hl,_,_,⟨fH,fV,gC,_,_,_,_,rfl,eM,eU,eJ,OS.mk bO2,OS.mk (sE (s.bM.set k.toNat false)),OS.mk (hor.set k.toNat ⟨0,0,[]⟩ _ ⟨.nil 1,rfl,OS.nil⟩),OS.mk (sE (s.bI.set k.toNat (-1)))⟩,rfl,?hn,wn4⟩
 case hl =>
  simp only[cV,bO,bY,OV.bE,OV.p8,k5,yU,ef]
  exact Heap.le_trans (Heap.cD (Heap.cD wG)) (jM (by repeat'(first|exact gN _ _|refine jN bXL ?_|refine fS oZ ?_)))
 case hn =>
  rw[aD _ _ _ _ aGC]
  exact Heap.le_none wG bO0
@[go_sem] def bML:List Nat:=[0,1,4,12]
@[go_sem] def b0X:Marks:=λid=>match id with|4=>([3,8,13,17,19,21],(.op 0 (.op 1 (.op 2 (.op 4 (.op 5 (.op 6 (.op 7 (.op 9 (.op 10 (.op 11 (.op 12 (.op 14 (.op 15 (.op 3 (.op 8 (.op 13 (.op 16 (.op 17 (.op 18 (.op 19 (.op 20 (.op 21 .nil)))))))))))))))))))))),[])|_=>([],.nil,[])
set_option maxHeartbeats 2000000 in
theorem forget (s:aI) (k:Int) (h0 g:Heap) (nb:Nat) (e:List OV) (oe:s.o e) (hnb:g nb=none) (wn:eW h0 (OV.cQ e) g) (l1:s.aP.length=s.bA.aQ.length/\s.bM.length=s.bA.aQ.length/\s.bW.length=s.bA.aQ.length/\s.bI.length=s.bA.aQ.length) (ht:vE s.bA k) (hst:∀ x∈s.aP,0<=x/\x<=50) :
  gK Tryz.prog 178 [.op nb 9 0 0,I k] (bT g nb (.row 9 (OV.cells [e]))) (aL1 h0 nb 9 λv e'=>(s.aP[k.toNat]?=some 50->v=.bool false/\s.o e')/\(¬s.aP[k.toNat]?=some 50->v=.bool true/\(j3 s k).o e')):=by
 have hk1:=ht.1
 have hk2:=ht.2
 have vV:=oe
 obtain⟨fH,fV,gC,rA,s6,rC,tS,rfl,eM,eU,eJ,eH,eS,eN,eO⟩:=vV
 have kn:k.toNat<s.bM.length:=by omega
 have ks:k.toNat<s.aP.length:=by omega
 have ko:k.toNat<s.bI.length:=by omega
 have kp:k.toNat<s.bW.length:=by omega
 have gk:s.bM[k.toNat]?=some s.bM[k.toNat]:=b6 kn
 have gs:s.aP[k.toNat]?=some s.aP[k.toNat]:=b6 ks
 have gd:s.aP.getD k.toNat 0=s.aP[k.toNat]:=by rw[jC,gs];rfl
 have go:s.bI[k.toNat]?=some s.bI[k.toNat]:=b6 ko
 have hb:=hst s.aP[k.toNat] (dG ks)
 obtain⟨n7,es,rfl,hor⟩:=eN.some aA
 rcases eH.zX with⟨rfl,h5⟩|⟨n5,rfl⟩
 ·rw[h5]at ks;simp at ks
 rcases eS.zX with⟨rfl,h6⟩|⟨n6,rfl⟩
 ·rw[h6]at kn;simp at kn
 rcases eO.zX with⟨rfl,h8⟩|⟨n8,rfl⟩
 ·rw[h8]at ko;simp at ko
 have g5:=wn.aHM [fH,.v (.int .i64 s.bA.b5),.v (.int .i64 s.bA.aU),fV,gC] (c:=I)
 have g6:=wn.aHM ([fH,.v (.int .i64 s.bA.b5),.v (.int .i64 s.bA.aU),fV,gC]++[OV.sl n5 1 (s.aP.map λx=>[.v (I x)])]) (c:=.bool)
 have g7:=wn.aNP ([fH,.v (.int .i64 s.bA.b5),.v (.int .i64 s.bA.aU),fV,gC]++[OV.sl n5 1 (s.aP.map λx=>[.v (I x)]),OV.sl n6 1 (s.bM.map λx=>[.v (.bool x)])])
 have g8:=wn.aHM ([fH,.v (.int .i64 s.bA.b5),.v (.int .i64 s.bA.aU),fV,gC]++[OV.sl n5 1 (s.aP.map λx=>[.v (I x)]),OV.sl n6 1 (s.bM.map λx=>[.v (.bool x)]),OV.sl n7 3 es]) (c:=I)
 obtain⟨aO5,pU,pT,aJF⟩:=cE (show ¬n5=nb from eK g5 hnb)
 obtain⟨aGB,kS,kR,uU⟩:=cE (show ¬n6=nb from eK g6 hnb)
 obtain⟨wM,qW,qU,kG⟩:=cE (show ¬n7=nb from eK g7 hnb)
 obtain⟨aXV,qY,qV,aGC⟩:=cE (show ¬n8=nb from eK g8 hnb)
 obtain⟨bMF,aI9,aJC,bMG⟩:=cE (show ¬n5=n6 from wn.pP [fH,.v (.int .i64 s.bA.b5),.v (.int .i64 s.bA.aU),fV,gC] (m:=n6) vS)
 obtain⟨bMH,aJA,aJD,bMI⟩:=cE (show ¬n5=n7 from wn.pP [fH,.v (.int .i64 s.bA.b5),.v (.int .i64 s.bA.aU),fV,gC] (m:=n7) vS)
 obtain⟨bMJ,aJB,aJE,bMK⟩:=cE (show ¬n5=n8 from wn.pP [fH,.v (.int .i64 s.bA.b5),.v (.int .i64 s.bA.aU),fV,gC] (m:=n8) vS)
 obtain⟨aXW,rY,rZ,aO3⟩:=cE (show ¬n6=n7 from wn.pP ([fH,.v (.int .i64 s.bA.b5),.v (.int .i64 s.bA.aU),fV,gC]++[OV.sl n5 1 (s.aP.map λx=>[.v (I x)])]) (m:=n7) vS)
 obtain⟨aO4,mV,mW,aKO⟩:=cE (show ¬n6=n8 from wn.pP ([fH,.v (.int .i64 s.bA.b5),.v (.int .i64 s.bA.aU),fV,gC]++[OV.sl n5 1 (s.aP.map λx=>[.v (I x)])]) (m:=n8) vS)
 obtain⟨aXX,qX,qZ,aXY⟩:=cE (show ¬n7=n8 from wn.pP ([fH,.v (.int .i64 s.bA.b5),.v (.int .i64 s.bA.aU),fV,gC]++[OV.sl n5 1 (s.aP.map λx=>[.v (I x)]),OV.sl n6 1 (s.bM.map λx=>[.v (.bool x)])]) (m:=n8) vS)
 have hv5:=OV.jX I n5 1 s.aP
 have hv6:=OV.jX aC.bool n6 1 s.bM
 have hv7:=OV.p8 n7 3 es
 have hv8:=OV.jX I n8 1 s.bI
 have hel:es.length=s.bW.length:=hor.length.symm
 obtain⟨ek,hek,oek⟩:=hor.a1L k.toNat s.bW[k.toNat] (b6 kp)
 have a69:=oek
 obtain⟨bTW,rfl,bTX⟩:=a69
 have hck:=wD hek
 simp only[bO,bY,OV.bE]at hck
 have wn1:=wn.aQ6 [fH,.v (.int .i64 s.bA.b5),.v (.int .i64 s.bA.aU),fV,gC] (c:=I) (l':=s.aP.set k.toNat (s.aP[k.toNat]+1))
 have oX:=wn1.aQ6 ([fH,.v (.int .i64 s.bA.b5),.v (.int .i64 s.bA.aU),fV,gC]++[OV.sl n5 1 ((s.aP.set k.toNat (s.aP[k.toNat]+1)).map λx=>[.v (I x)])]) (c:=.bool) (l':=s.bM.set k.toNat false)
 obtain⟨g3,wG,wn3⟩:=oX.aU2 ([fH,.v (.int .i64 s.bA.b5),.v (.int .i64 s.bA.aU),fV,gC]++[OV.sl n5 1 ((s.aP.set k.toNat (s.aP[k.toNat]+1)).map λx=>[.v (I x)]),OV.sl n6 1 ((s.bM.set k.toNat false).map λx=>[.v (.bool x)])]) (k:=k.toNat) (enew:=[.v (I 0),.v (I 0),.nil 1]) (eW.nil _) aA
 have wn4:=wn3.aQ6 ([fH,.v (.int .i64 s.bA.b5),.v (.int .i64 s.bA.aU),fV,gC]++[OV.sl n5 1 ((s.aP.set k.toNat (s.aP[k.toNat]+1)).map λx=>[.v (I x)]),OV.sl n6 1 ((s.bM.set k.toNat false).map λx=>[.v (.bool x)]),OV.sl n7 3 (es.set k.toNat [.v (I 0),.v (I 0),.nil 1])]) (c:=I) (l':=s.bI.set k.toNat (-1))
 have hcs:=tI es k.toNat [.v (I 0),.v (I 0),.nil 1] _ rfl
 simp only[bO,bY,OV.bE,OV.r7]at hcs
 have b55:(OV.cells es).set k.toNat [.v (I 0),.v (I 0),.v (.sl 1 [] true)]=OV.cells (es.set k.toNat [.v (I 0),.v (I 0),.nil 1]):=hcs
 have wk7:=iM.setAt (xs:=[I 0,I 0,.aV]) (ys:=[I 0,I 0,.sl 1 [] true]) (.cons (.refl _) (.cons (.refl _) (.cons (Sub.nil 1 true) .nil))) (OV.cells es) k.toNat
 simp only[lU,tP]at wk7
 refine gK.shift (K':=λr h'=>∃ g1:Heap,g1.wk h'/\aL1 h0 nb 9 (λv e'=>(s.aP[k.toNat]?=some 50->v=.bool false/\s.o e')/\(¬s.aP[k.toNat]?=some 50->v=.bool true/\(j3 s k).o e')) r g1) ?_ λr h' q=>q
 refine aTZ 41 bML cG b0X Tryz.func178 ?_
 simp -dsimp -implicitDefEqProofs only[go_sem,↓reduceIte,Tryz.f178]
 simp -dsimp -implicitDefEqProofs only[go_sem,↓reduceIte,Tryz.f178,OV.aR,OV.aG,OV.bE,aF,aD,eM.flat,eM.one,eU.flat,eU.one,eJ.flat,eJ.one,eH.flat,eH.one,eS.flat,eS.one,eN.flat,eN.one,eO.flat,eO.one,pT,kR,qU,qV,pU,aI9,aJA,aJB,kS,aJC,rY,mV,qW,aJD,rZ,qX,qY,aJE,mW,qZ,cV,bO,bY,gk,gs,go,hv5,hv6,hv7,hv8,g5,g6,g7,g8,hck]
 refine⟨hk1,by omega,λhq=>?_,λhq=>?_⟩
 ·exact⟨_,Heap.le_refl _,_,Heap.iO (Heap.le_refl _),_,g,⟨λ_=>⟨rfl,oe⟩,λz=>absurd (by rw[hq]) z⟩,by simp only[cV,bO,bY,OV.bE,hv5,hv6,hv7,hv8],hnb,wn⟩
 rw[IntWalk.i64_in _ aA]
 refine⟨hk1,by omega,hk1,by omega,hk1,by omega,hk1,by omega,hk1,by omega,?_⟩
 rw[xK aC.bool,xK I,xK I]
 have ef:(j3 s k).bA=s.bA:=rfl
 refine⟨_,Heap.le_refl _,_,?hl,[fH,.v (I s.bA.b5),.v (I s.bA.aU),fV,gC,OV.sl n5 1 ((s.aP.set k.toNat (s.aP[k.toNat]+1)).map λx=>[.v (I x)]),OV.sl n6 1 ((s.bM.set k.toNat false).map λx=>[.v (.bool x)]),OV.sl n7 3 (es.set k.toNat [.v (I 0),.v (I 0),.nil 1]),OV.sl n8 1 ((s.bI.set k.toNat (-1)).map λx=>[.v (I x)])],_,⟨λz=>absurd (dY z) hq,λ_=>⟨rfl,fH,fV,gC,_,_,_,_,rfl,eM,eU,eJ,OS.mk bO2,OS.mk (sE (s.bM.set k.toNat false)),OS.mk (hor.set k.toNat ⟨0,0,[]⟩ _ ⟨.nil 1,rfl,OS.nil⟩),OS.mk (sE (s.bI.set k.toNat (-1)))⟩⟩,rfl,?hn,wn4⟩
 case hl =>
  simp only[cV,bO,bY,OV.bE,OV.p8,k5,yU,ef]
  refine Heap.wk.trans (Heap.iO ?_) (Heap.aHL (g:=bT (bT (bT (bT (bT g nb (.row 9 [[.v fH.val,.v (I s.bA.b5),.v (I s.bA.aU),.v fV.val,.v gC.val,.v (.os n5 1 0 s.aP.length),.v (.os n6 1 0 s.bM.length),.v (.os n7 3 0 es.length),.v (.os n8 1 0 s.bI.length)]])) n5 (.row 1 (((s.aP.set k.toNat (s.aP[k.toNat]+1)).map λx=>[I x]).map (List.map .v)))) n6 (.row 1 (((s.bM.set k.toNat false).map λx=>[aC.bool x]).map (List.map .v)))) n7 (.row 3 (OV.cells (es.set k.toNat [.v (I 0),.v (I 0),.nil 1])))) n8 (.row 1 (((s.bI.set k.toNat (-1)).map λx=>[I x]).map (List.map .v)))) (m:=n7) (sz:=3) (es:=(OV.cells es).set k.toNat [.v (I 0),.v (I 0),.v .aV]) (es':=OV.cells (es.set k.toNat [.v (I 0),.v (I 0),.nil 1])) (λq hq=>by simp only[fN,if_neg hq]) bXM bXM (by rw[←b55];exact wk7))
  exact Heap.le_trans (Heap.cD (Heap.cD wG)) (jM (by repeat'(first|exact gN _ _|refine jN bXL ?_|refine fS oZ ?_)))
 case hn =>
  rw[aD _ _ _ _ aGC]
  exact Heap.le_none wG bO0
def qO (s:aI) (k:Int) (ns:List Int):Prop:=vE s.bA k/\(ns.length=(s.bA.aQ.getD k.toNat []).length)/\p4 ns
noncomputable instance (s:aI) (k:Int) (ns:List Int):Decidable (qO s k ns):=Classical.propDecidable _
def xM (s:aI) (k:Int) (ns:List Int):aI:={ s with bA:={ s.bA with aQ:=s.bA.aQ.set k.toNat ns } }
def aN1 (s:aI) (k:Int) (ns:List Int):aI:=xM (j3 s k) k ns
noncomputable def aG2 (s:aI) (k:Int) (ns:List Int):aI×Int:=if qO s k ns then(if s.aP[k.toNat]?=some 50 then(s,3)else(aN1 s k ns,0))else(s,2)
theorem aKQ {s:aI} {k:Int} {ns:List Int} (h:¬qO s k ns):aG2 s k ns=(s,2):=if_neg h
theorem bA7 {s:aI} {k:Int} {ns:List Int} (h:qO s k ns) (h2:s.aP[k.toNat]?=some 50):aG2 s k ns=(s,3):=by rw[aG2,if_pos h,if_pos h2]
theorem a18 {s:aI} {k:Int} {ns:List Int} (h:qO s k ns) (h2:¬s.aP[k.toNat]?=some 50):aG2 s k ns=(aN1 s k ns,0):=by rw[aG2,if_pos h,if_neg h2]
noncomputable def yE (s:aI) (k:Int) (ns:List Int):aI×Int:=if s.ok then(if qO s k ns then(if s.aP[k.toNat]?=some 50 then(kZ,3)else(aN1 s k ns,0))else(kZ,2))else(kZ,1)
theorem bDT {s:aI} {k:Int} {ns:List Int} (h:¬s.ok):yE s k ns=(kZ,1):=if_neg h
theorem aMC {s:aI} {k:Int} {ns:List Int} (h0:s.ok) (h:¬qO s k ns):yE s k ns=(kZ,2):=by rw[yE,if_pos h0,if_neg h]
theorem aVJ {s:aI} {k:Int} {ns:List Int} (h0:s.ok) (h:qO s k ns) (h2:s.aP[k.toNat]?=some 50):yE s k ns=(kZ,3):=by rw[yE,if_pos h0,if_pos h,if_pos h2]
theorem aR9 {s:aI} {k:Int} {ns:List Int} (h0:s.ok) (h:qO s k ns) (h2:¬s.aP[k.toNat]?=some 50):yE s k ns=(aN1 s k ns,0):=by rw[yE,if_pos h0,if_pos h,if_neg h2]
theorem aI.yN {s:aI} (h:s.ok):∀ x∈s.aP,0<=x/\x<=50:=by
 intro x hx
 obtain⟨k,hk,rfl⟩:=aM4.1 hx
 have l:=h.2.1
 exact(h.2.2 k s.aP[k] (s.bI[k]'aA) (s.bM[k]'aA) (s.bW[k]'aA) (b6 hk) (b6 _) (b6 _) (b6 _)).1
@[go_sem] def bMM:List Nat:=[0,1,2,6,31,39]
@[go_sem] def b0Y:Marks:=λid=>match id with|6=>([4,7,9],(.op 0 (.op 1 (.op 2 (.op 3 (.op 5 (.op 6 (.op 4 (.op 7 (.op 8 (.op 9 .nil)))))))))),[(4,7)])|_=>([],.nil,[])
set_option maxHeartbeats 2000000 in
theorem bMN (s:aI) (k:Int) (ns:List Int) (h0 g:Heap) (nb:Nat) (e:List OV) (oe:s.o e) (hnb:g nb=none) (wn:eW h0 (OV.cQ e) g) (hs:s.s<=1048576) (hns:ns.length<=1048576) (l1:s.aP.length=s.bA.aQ.length/\s.bM.length=s.bA.aQ.length/\s.bW.length=s.bA.aQ.length/\s.bI.length=s.bA.aQ.length) (hst:∀ x∈s.aP,0<=x/\x<=50) :
  gK Tryz.prog 163 [.op nb 9 0 0,I k,cI 1 (λn=>[I n]) ns] (bT g nb (.row 9 (OV.cells [e]))) (aL1 h0 nb 9 λr e'=>r=I (aG2 s k ns).2/\(aG2 s k ns).1.o e'):=by
 have hs':=s.fQ
 have rO:=s.bA.fQ
 simp only[fF]at hs' rO
 have hvw:=View.box (sz:=9) (aI.u7 oe) hnb wn.oJ
 have htm:=aXS s.bA k aA
 have vV:=oe
 obtain⟨fH,fV,gC,rA,s6,rC,tS,rfl,eM,eU,eJ,eH,eS,eN,eO⟩:=vV
 refine aTZ 52 bMM cG b0Y Tryz.func163 ?_
 simp -dsimp -implicitDefEqProofs only[go_sem,↓reduceIte,Tryz.f163]
 refine aH.aJ3 htm (dU.cons (hvw.sub (Sub.cK rfl rfl rfl)) (dU.cons (View.same _ _) dU.nil)) rfl ?_
 simp -dsimp -implicitDefEqProofs only[go_sem,↓reduceIte,Tryz.f163,OV.aR,OV.aG,OV.bE,aF,aD,eM.flat,eM.one,eU.flat,eU.one,eJ.flat,eJ.one,eH.flat,eH.one,eS.flat,eS.one,eN.flat,eN.one,eO.flat,eO.one]
 refine⟨λht=>?_,λht=>?_⟩
 case refine_2 =>
  rw[aKQ λq=>ht q.1]
  exact⟨_,Heap.le_refl _,_,g,⟨rfl,oe⟩,rfl,hnb,wn⟩
 have hk1:=ht.1
 have hk2:=ht.2
 have kt:k.toNat<s.bA.aQ.length:=by omega
 have gt:s.bA.aQ[k.toNat]?=some s.bA.aQ[k.toNat]:=b6 kt
 have gtd:s.bA.aQ.getD k.toNat []=s.bA.aQ[k.toNat]:=by rw[jC,gt];rfl
 have htl:=k6 (λx:List Int=>x.length) (dG kt)
 try simp only at htl
 have ks:k.toNat<s.aP.length:=by omega
 have gs:s.aP[k.toNat]?=some s.aP[k.toNat]:=b6 ks
 have hb:=hst s.aP[k.toNat] (dG ks)
 obtain⟨n4,es4,rfl,bDU⟩:=eJ.some aA
 rcases eH.zX with⟨rfl,h5⟩|⟨n5,rfl⟩
 ·rw[h5]at ks;simp at ks
 have g4:=wn.aNP [fH,.v (.int .i64 s.bA.b5),.v (.int .i64 s.bA.aU),fV]
 have g5:=wn.aHM ([fH,.v (.int .i64 s.bA.b5),.v (.int .i64 s.bA.aU),fV]++[OV.sl n4 1 es4]) (c:=I)
 obtain⟨bMA,aGA,aF9,bA6⟩:=cE (show ¬n4=nb from eK g4 hnb)
 obtain⟨aO5,pU,pT,aJF⟩:=cE (show ¬n5=nb from eK g5 hnb)
 have hv4:=OV.p8 n4 1 es4
 have hv5:=OV.jX I n5 1 s.aP
 have b56:es4.length=s.bA.aQ.length:=bDU.length.symm
 obtain⟨ek4,b57,yk,rfl,oyk⟩:=bDU.a1L k.toNat _ gt
 have bTZ:=wD b57
 simp only[bO,bY,OV.bE]at bTZ
 have hyk:(yk.val=.sl 1 [] true/\s.bA.aQ[k.toNat].length=0)∨∃ n,yk.val=.os n 1 0 s.bA.aQ[k.toNat].length:=by
  rcases oyk.zX with⟨rfl,h⟩|⟨n,rfl⟩
  ·exact .inl ⟨rfl,by rw[h];rfl⟩
  ·exact .inr ⟨n,OV.jX I n 1 _⟩
 have cb:∀ (v:aC) (c:Int),v=I c->aG2 s k ns=(s,c)->∃ g_1:Heap,g_1.le (bT g nb (.row 9 [[.v fH.val,.v (I s.bA.b5),.v (I s.bA.aU),.v fV.val,.v (.os n4 1 0 es4.length),.v (.os n5 1 0 s.aP.length),.v s6.val,.v rC.val,.v tS.val]]))/\aL1 h0 nb 9 (λr e'=>r=I (aG2 s k ns).2/\(aG2 s k ns).1.o e') v g_1:=by
  rintro v c rfl hq
  rw[hq]
  exact⟨_,Heap.le_refl _,_,g,⟨rfl,oe⟩,by simp only[cV,bO,bY,OV.bE,hv4,hv5],hnb,wn⟩
 rcases hyk with⟨hvk,hlk⟩|⟨nk,hvk⟩
 all_goals
  simp -dsimp -implicitDefEqProofs only[go_sem,↓reduceIte,Tryz.f163,OV.aR,OV.aG,OV.bE,aF,aD,eM.flat,eM.one,eU.flat,eU.one,eJ.flat,eJ.one,eH.flat,eH.one,eS.flat,eS.one,eN.flat,eN.one,eO.flat,eO.one,aF9,aGA,pT,pU,cV,bO,bY,gs,hv4,hv5,g4,g5,bTZ,hvk]
  refine λ_=>⟨hk1,by omega,?_⟩
  first|refine λ_=>⟨λhq=>?_,λhq=>cb _ 2 rfl (aKQ λz=>?_)⟩|refine⟨λhq=>?_,λhq=>cb _ 2 rfl (aKQ λz=>?_)⟩
  case' refine_2=>have:=z.2.1;rw[gtd]at this;omega
 all_goals
  have hq':ns.length=s.bA.aQ[k.toNat].length:=by omega
  first|refine aH.mk (jB ns) ?_|refine aE.mk (jB ns) ?_|refine aH.b7 (jB ns) ?_|refine aE.mk (bX.eA (jB ns)) ?_
  simp -dsimp -implicitDefEqProofs only[go_sem,↓reduceIte,Tryz.f163]
  refine⟨λhn=>cb _ 2 rfl (aKQ λz=>by have:=z.2.2;first|exact hn this|simp_all),λhn=>?_⟩
  simp -dsimp -implicitDefEqProofs only[go_sem,↓reduceIte,Tryz.f163,OV.aR,OV.aG,OV.bE,aF,aD,eM.flat,eM.one,eU.flat,eU.one,eJ.flat,eJ.one,eH.flat,eH.one,eS.flat,eS.one,eN.flat,eN.one,eO.flat,eO.one,aF9,aGA,pT,pU,gs,hv4,hv5,g4,g5,bTZ,hvk]
 all_goals
  refine⟨hk1,by omega,λh50=>cb _ 3 rfl (bA7 ⟨ht,by rw[gtd];exact hq',by first|assumption|(simp_all;done)⟩ (by rw[gs];congr 1;omega)),λh50=>?_⟩
  rw[a18 ⟨ht,by rw[gtd];exact hq',by first|assumption|(simp_all;done)⟩ (by rw[gs];intro z;have:=dY z;omega)]
  have hR:([[.v fH.val,.v (I s.bA.b5),.v (I s.bA.aU),.v fV.val,.v (.os n4 1 0 es4.length),.v (.os n5 1 0 s.aP.length),.v s6.val,.v rC.val,.v tS.val]]:List (List Cell))=OV.cells [[fH,.v (I s.bA.b5),.v (I s.bA.aU),fV,OV.sl n4 1 es4,OV.sl n5 1 (s.aP.map λx=>[.v (I x)]),s6,rC,tS]]:=by simp only[cV,bO,bY,OV.bE,hv4,hv5]
  rw[hR]
  refine aH.kF (aVI s k h0 g nb _ oe hnb wn l1 ht hst) ?_
  clear hR cb hvw wn oe hv4 hv5 g4 g5 eM eU eJ eH eS eN eO oyk
  rintro r h' ⟨e2,g2,oe2,rfl,aKP,oX⟩
  have oe3:=oe2
  obtain⟨aBC,aBD,aD7,aDK,aDL,aDM,aDN,rfl,hP,hU,hZ,iA,iC,iD,iE⟩:=oe3
  obtain⟨m4,fs4,rfl,bT0⟩:=hZ.some (show 0<s.bA.aQ.length by omega)
  have f4:=oX.aNP [aBC,.v (.int .i64 (j3 s k).bA.b5),.v (.int .i64 (j3 s k).bA.aU),aBD]
  obtain⟨b4I,aX0,aX1,bMP⟩:=cE (show ¬m4=nb from eK f4 aKP)
  have hw4:=OV.p8 m4 1 fs4
  have cAU:fs4.length=s.bA.aQ.length:=bT0.length.symm
  obtain⟨fk4,bMQ,yk2,rfl,b59⟩:=bT0.a1L k.toNat _ gt
  have a19:=wD bMQ
  simp only[bO,bY,OV.bE]at a19
  simp -dsimp -implicitDefEqProofs only[go_sem,↓reduceIte,Tryz.f163,OV.aR,OV.aG,OV.bE,aF,aD,hP.flat,hP.one,hU.flat,hU.one,hZ.flat,hZ.one,iA.flat,iA.one,iC.flat,iC.one,iD.flat,iD.one,iE.flat,iE.one,aX1,aX0,cV,bO,bY,hw4,f4,a19]
 all_goals
  refine aH.wn1 (lN ns hns) aKP ?_
  rintro r_ l_ g3 ⟨yn,oyn,rfl,rfl⟩ wp bH1
  replace f4:=wp.keep f4
  simp -dsimp -implicitDefEqProofs only[go_sem,↓reduceIte,Tryz.f163,OV.aR,OV.aG,OV.bE,aF,aD,hP.flat,hP.one,hU.flat,hU.one,hZ.flat,hZ.one,iA.flat,iA.one,iC.flat,iC.one,iD.flat,iD.one,iE.flat,iE.one,aX1,aX0,cV,bO,bY,hw4,f4,a19,oyn.flat,oyn.one]
  refine⟨hk1,by omega,?_⟩
  obtain⟨g5,aMD,wn5⟩:=oX.aU2 [aBC,.v (.int .i64 (j3 s k).bA.b5),.v (.int .i64 (j3 s k).bA.aU),aBD] (k:=k.toNat) (enew:=[yn]) bPD aA
  have hcs:=tI fs4 k.toNat [yn] _ rfl
  simp only[bO,bY,OV.bE]at hcs
  rw[hcs]
  refine⟨_,?hl,_,_,⟨rfl,aBC,aBD,_,aDK,aDL,aDM,aDN,rfl,hP,hU,OS.mk (bT0.set k.toNat ns [yn] ⟨yn,rfl,oyn⟩),iA,iC,iD,iE⟩,rfl,?hn,wn5⟩
  case hl =>
   simp only[cV,bO,bY,OV.bE,OV.p8,yU,show(aN1 s k ns).bA.b5=(j3 s k).bA.b5 from rfl,show(aN1 s k ns).bA.aU=(j3 s k).bA.aU from rfl]
   exact Heap.le_trans (Heap.cD aMD) (jM (by repeat'(first|exact gN _ _|refine jN (by simp only[fN,↓reduceIte,eq_self,if_true,aX1,aX0]) ?_|refine fS oZ ?_)))
  case hn=>exact Heap.le_none aMD (by rw[aD _ _ _ _ bMP];exact bH1)
@[go_sem] def bMR:List Nat:=[0,1,2,3,6,7,8,9,14,44]
@[go_sem] def b01:Marks:=λid=>match id with|6=>([2,5,7],(.op 0 (.op 1 (.op 3 (.op 4 (.op 2 (.op 5 (.op 6 (.op 7 .nil)))))))),[(2,5)])|_=>([],.nil,[])
set_option maxHeartbeats 2000000 in
theorem a7A (s:aI) (k:Int) (ns:List Int) (hs:s.s<=1048576) (hns:ns.length<=1048576):tU Tryz.prog 135 [.agg s.c,I k,cI 1 (λn=>[I n]) ns] (QA (yE s k ns).1.o (λy=>.iF [y,I (yE s k ns).2])):=by
 have hs':=s.fQ
 have rO:=s.bA.fQ
 simp only[fF]at hs' rO
 have hok:=yB s aA
 have hcl:=yD s hs
 have hhas:=has s.bA k aA
 simp only[aI.aM,dN.aM]at hok hcl hhas ⊢
 refine x9 47 bMR bGU b01 Tryz.func135 λh=>?_
 simp -dsimp -implicitDefEqProofs only[go_sem,↓reduceIte,Tryz.f135]
 intro n4 z4
 have z4h:=z4
 try simp -dsimp -implicitDefEqProofs only[go_sem,↓reduceIte,Tryz.f135]
 first|refine aH.mk (hok) ?_|refine aE.mk (hok) ?_|refine aH.b7 (hok) ?_|refine aE.mk (bX.eA (hok)) ?_
 simp -dsimp -implicitDefEqProofs only[go_sem,↓reduceIte,Tryz.f135]
 refine⟨λhn=>?_,λhy=>?_⟩
 ·have hn':¬s.ok:=by simpa using hn
  rw[bDT hn']
  try simp -dsimp -implicitDefEqProofs only[go_sem,↓reduceIte,Tryz.f135,aF]
  exact rV nR (kJ [] [_]) (by repeat'(first|exact Heap.le_refl _|refine Heap.cD ?_|refine Heap.aW kT ?_))
 have hy':s.ok:=by simpa using hy
 try simp -dsimp -implicitDefEqProofs only[go_sem,↓reduceIte,Tryz.f135]
 first|refine aH.mk (hhas) ?_|refine aE.mk (hhas) ?_|refine aH.b7 (hhas) ?_|refine aE.mk (bX.eA (hhas)) ?_
 simp -dsimp -implicitDefEqProofs only[go_sem,↓reduceIte,Tryz.f135]
 refine⟨λht=>?_,λht=>?_⟩
 case refine_2 =>
  rw[aMC hy' λq=>ht q.1]
  try simp -dsimp -implicitDefEqProofs only[go_sem,↓reduceIte,Tryz.f135,aF]
  exact rV nR (kJ [] [_]) (by repeat'(first|exact Heap.le_refl _|refine Heap.cD ?_|refine Heap.aW kT ?_))
 have hk1:=ht.1
 have hk2:=ht.2
 have kt:k.toNat<s.bA.aQ.length:=by omega
 have gt:s.bA.aQ[k.toNat]?=some s.bA.aQ[k.toNat]:=b6 kt
 have gtd:s.bA.aQ.getD k.toNat []=s.bA.aQ[k.toNat]:=by rw[jC,gt];rfl
 have htl:=k6 (λx:List Int=>x.length) (dG kt)
 try simp only at htl
 simp -dsimp -implicitDefEqProofs only[go_sem,↓reduceIte,Tryz.f135,gt]
 refine⟨hk1,by omega,λ_=>?_⟩
 have htn:qO s k ns↔ns.length=(s.bA.aQ[k.toNat]).length/\p4 ns:=by rw[qO,gtd];exact⟨λq=>q.2,λq=>⟨ht,q⟩⟩
 first|refine aH.mk (fX ns s.bA.aQ[k.toNat].length) ?_|refine aE.mk (fX ns s.bA.aQ[k.toNat].length) ?_|refine aH.b7 (fX ns s.bA.aQ[k.toNat].length) ?_|refine aE.mk (bX.eA (fX ns s.bA.aQ[k.toNat].length)) ?_
 simp -dsimp -implicitDefEqProofs only[go_sem,↓reduceIte,Tryz.f135]
 refine⟨λhn=>?_,λhn=>?_⟩
 ·rw[aMC hy' (by rw[htn];simpa using hn)]
  try simp -dsimp -implicitDefEqProofs only[go_sem,↓reduceIte,Tryz.f135,aF]
  exact rV nR (kJ [] [_]) (by repeat'(first|exact Heap.le_refl _|refine Heap.cD ?_|refine Heap.aW kT ?_))
 have h2:qO s k ns:=by rw[htn];simpa using hn
 try simp -dsimp -implicitDefEqProofs only[go_sem,↓reduceIte,Tryz.f135]
 refine aH.wn1 hcl z4 ?_
 rintro r l_ g ⟨e,oe,rfl,rfl⟩ wn z4
 have vV:=oe
 obtain⟨fH,fV,gC,rA,s6,rC,tS,rfl,eM,eU,eJ,eH,eS,eN,eO⟩:=vV
 simp -dsimp -implicitDefEqProofs only[go_sem,↓reduceIte,Tryz.f135,OV.aR,OV.aG,OV.bE,aF,aD,eM.flat,eM.one,eU.flat,eU.one,eJ.flat,eJ.one,eH.flat,eH.one,eS.flat,eS.one,eN.flat,eN.one,eO.flat,eO.one]
 intro n6 aKR
 obtain⟨mD,fZ,gA,aDJ⟩:=cE (show ¬n6=n4 from iS aKR)
 have p5:g n6=none:=iS aKR
 obtain⟨m4,es4,rfl,bDU⟩:=eJ.some aA
 have f4:=wn.aNP [fH,.v (.int .i64 s.bA.b5),.v (.int .i64 s.bA.aU),fV]
 obtain⟨b4J,aX2,aX3,bMS⟩:=cE (show ¬m4=n6 from eK f4 p5)
 obtain⟨b4K,aX4,aX5,bMT⟩:=cE (show ¬m4=n4 from eK f4 z4)
 have hw4:=OV.p8 m4 1 es4
 have b56:es4.length=s.bA.aQ.length:=bDU.length.symm
 obtain⟨fk4,bMQ,yk2,rfl,b59⟩:=bDU.a1L k.toNat _ gt
 have a19:=wD bMQ
 simp only[bO,bY,OV.bE]at a19
 simp -dsimp -implicitDefEqProofs only[go_sem,↓reduceIte,Tryz.f135,OV.aR,OV.aG,OV.bE,aF,aD,eM.flat,eM.one,eU.flat,eU.one,eJ.flat,eJ.one,eH.flat,eH.one,eS.flat,eS.one,eN.flat,eN.one,eO.flat,eO.one,gA,aX5,fZ,aX3,aX4,aX2,hw4,f4,a19]
 refine aH.oX (sI ns hns) z4 ⟨mD,p5⟩ ?_
 rintro r_ l_ g2 ⟨yn,oyn,rfl,rfl⟩ wp z42 z62
 replace f4:=wp.keep f4
 simp -dsimp -implicitDefEqProofs only[go_sem,↓reduceIte,Tryz.f135,OV.aR,OV.aG,OV.bE,aF,aD,eM.flat,eM.one,eU.flat,eU.one,eJ.flat,eJ.one,eH.flat,eH.one,eS.flat,eS.one,eN.flat,eN.one,eO.flat,eO.one,gA,aX5,fZ,aX3,aX4,aX2,hw4,f4,a19,oyn.flat,oyn.one]
 refine⟨hk1,by omega,?_⟩
 obtain⟨g5,aMD,wn5⟩:=wn.aU2 [fH,.v (.int .i64 s.bA.b5),.v (.int .i64 s.bA.aU),fV] (k:=k.toNat) (enew:=[yn]) bPD aA
 have hcs:=tI es4 k.toNat [yn] _ rfl
 simp only[bO,bY,OV.bE]at hcs
 rw[hcs]
 have z45:g5 n4=none:=Heap.le_none aMD (by rw[aD _ _ _ _ bMT];exact z42)
 have z65:g5 n6=none:=Heap.le_none aMD (by rw[aD _ _ _ _ bMS];exact z62)
 have vV:(xM s k ns).o [fH,.v (I s.bA.b5),.v (I s.bA.aU),fV,OV.sl m4 1 (es4.set k.toNat [yn]),rA,s6,rC,tS]:=⟨fH,fV,_,rA,s6,rC,tS,rfl,eM,eU,OS.mk (bDU.set k.toNat ns [yn] ⟨yn,rfl,oyn⟩),eH,eS,eN,eO⟩
 have hst:∀ x∈s.aP,0<=x/\x<=50:=aI.yN hy'
 have l1:=hy'.2.1
 have hfg:=forget (xM s k ns) k _ _ n6 _ vV (by rw[aD _ _ _ _ mD];exact z65) (wn5.over (o:=.row 9 [[.v .aV,.v (I 0),.v (I 0),.v .aV,.v .aV,.v .aV,.v .aV,.v .aV,.v .aV]]) z45) (by simpa[xM]using l1) (by simpa[xM,vE]using ht) hst
 refine aH.wk (g:=bT (bT g5 n4 (.row 9 [[.v .aV,.v (I 0),.v (I 0),.v .aV,.v .aV,.v .aV,.v .aV,.v .aV,.v .aV]])) n6 (.row 9 (OV.cells [[fH,.v (I s.bA.b5),.v (I s.bA.aU),fV,OV.sl m4 1 (es4.set k.toNat [yn]),rA,s6,rC,tS]]))) (Heap.iO ?_) (aH.kF hfg ?_)
 ·simp only[cV,bO,bY,OV.bE,OV.p8,yU]
  exact Heap.le_trans (Heap.cD (Heap.cD aMD)) (jM (by repeat'(first|exact gN _ _|refine jN (by simp only[fN,↓reduceIte,eq_self,if_true,gA,aX5,fZ,aX3,aX4,aX2]) ?_|refine fS oZ ?_)))
 clear wn oe eM eU eJ eH eS eN eO vV hfg wn5 aMD bMQ a19 hcs f4
 rintro r h' ⟨e2,g3,⟨q50,qno⟩,rfl,hg3,wn3⟩
 obtain⟨g4,a2A,wn4,z44,rfl⟩:=wn3.base z4h
 have z64:g4 n6=none:=by rwa [aD _ _ _ _ mD]at hg3
 by_cases h3:s.aP[k.toNat]?=some 50
 ·obtain⟨rfl,oe2⟩:=q50 h3
  rw[aVJ hy' h2 h3]
  simp -dsimp -implicitDefEqProofs only[go_sem,↓reduceIte,Tryz.f135,OV.aR,OV.aG,OV.bE,aF,aD,gA,fZ]
  exact rV nR (kJ [] [_]) (Heap.le_trans wn4.le (by repeat'(first|exact Heap.le_refl _|refine Heap.cD ?_|refine Heap.aW kT ?_)))
 ·obtain⟨rfl,oe2⟩:=qno h3
  rw[aR9 hy' h2 h3]
  have oe3:=oe2
  obtain⟨aBC,aBD,aD7,aDK,aDL,aDM,aDN,rfl,hP,hU,hZ,iA,iC,iD,iE⟩:=oe3
  simp -dsimp -implicitDefEqProofs only[go_sem,↓reduceIte,Tryz.f135,OV.aR,OV.aG,OV.bE,aF,aD,hP.flat,hP.one,hU.flat,hU.one,hZ.flat,hZ.one,iA.flat,iA.one,iC.flat,iC.one,iD.flat,iD.one,iE.flat,iE.one,gA,fZ,cV,bO,bY]
  exact aF6 (w:=λy=>.iF [y,I 0]) oe2 wn4 (by repeat'(first|exact Heap.le_refl _|refine Heap.cD ?_|refine Heap.aW kT ?_))
theorem bQR (n:Int):n.tmod 1000003=n%1000003∨n.tmod 1000003=n%1000003-1000003:=by
 by_cases h:0<=n
 ·exact .inl (aGP h)
 ·have h1:n.tmod 1000003=-((-n)%1000003):=by
   have h2:n=-(-n):=by omega
   rw[h2,Int.neg_tmod,aGP aA,Int.neg_neg]
  rw[h1];omega
theorem j5 (n:Int):dQ Tryz.prog 297 [I n] (I (n%1000003)):=by
 refine dI 7 aL3 cG b9 Tryz.func297 λh=>?_
 simp -dsimp -implicitDefEqProofs only[go_sem,↓reduceIte,Tryz.f297]
 rcases bQR n with h|h
 all_goals
  rw[h,IntWalk.i64_in _ aA,aGP aA]
  omega
@[go_sem] def bMU:List Nat:=[0,2,3,7]
theorem dM (n:Int):dQ Tryz.prog 196 [I n] (I (n%1000003)):=by
 refine dI 11 bMU cG b9 Tryz.func196 λh=>?_
 simp -dsimp -implicitDefEqProofs only[go_sem,↓reduceIte,Tryz.f196]
 rcases bQR n with h|h
 all_goals
  rw[h]
  refine⟨λq=>?_,λq=>?_⟩
  all_goals first|omega|(rw[IntWalk.i64_in _ aA];omega)
theorem a2C (a b:Int):dQ Tryz.prog 292 [I a,I b] (I ((a+b)%1000003)):=by
 refine dI 11 zG cG b9 Tryz.func292 λh=>?_
 simp -dsimp -implicitDefEqProofs only[go_sem,↓reduceIte,Tryz.f292]
 first|refine aH.mk (j5 a) ?_|refine aE.mk (j5 a) ?_|refine aH.b7 (j5 a) ?_|refine aE.mk (bX.eA (j5 a)) ?_
 simp -dsimp -implicitDefEqProofs only[go_sem,↓reduceIte,Tryz.f292]
 first|refine aH.mk (j5 b) ?_|refine aE.mk (j5 b) ?_|refine aH.b7 (j5 b) ?_|refine aE.mk (bX.eA (j5 b)) ?_
 simp -dsimp -implicitDefEqProofs only[go_sem,↓reduceIte,Tryz.f292]
 rw[IntWalk.i64_in _ aA,aGP aA]
 omega
theorem jZ (a b:Int):dQ Tryz.prog 289 [I a,I b] (I ((a+b)%1000003)):=by
 refine dI 11 zG cG b9 Tryz.func289 λh=>?_
 simp -dsimp -implicitDefEqProofs only[go_sem,↓reduceIte,Tryz.f289]
 first|refine aH.mk (dM a) ?_|refine aE.mk (dM a) ?_|refine aH.b7 (dM a) ?_|refine aE.mk (bX.eA (dM a)) ?_
 simp -dsimp -implicitDefEqProofs only[go_sem,↓reduceIte,Tryz.f289]
 first|refine aH.mk (dM b) ?_|refine aE.mk (dM b) ?_|refine aH.b7 (dM b) ?_|refine aE.mk (bX.eA (dM b)) ?_
 simp -dsimp -implicitDefEqProofs only[go_sem,↓reduceIte,Tryz.f289]
 rw[IntWalk.i64_in _ aA,aGP aA]
 omega
def aFN (a b:List Int):List Int:=List.zipWith (λx y=>(x+y)%1000003) a b
theorem bH2 {a b:List Int} (h:b.length=a.length):(aFN a b).length=a.length:=by simp[aFN,h]
end Go.Hl

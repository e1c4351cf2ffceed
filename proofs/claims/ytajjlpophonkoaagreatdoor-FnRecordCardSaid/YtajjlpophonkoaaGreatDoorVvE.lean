/-
  Contracts of functions and laws of the layer over the walk.
-/
import Derived.Test.YtajjlpophonkoaaGreatDoorVvD
import Derived.Test.YtajjlpophonkoaaGreatDoorHlD
import Derived.Test.YtajjlpophonkoaaGreatDoorVvA
import Derived.Test.YtajjlpophonkoaaGreatDoorVvB
import Derived.Lib.ItoaNum
import Derived.Test.YtajjlpophonkoaaGreatDoorVvC
import Derived.Test.YtajjlpophonkoaaGreatDoorGn
namespace Go.Hl
set_option maxRecDepth 100000
open Go.Proofs
set_option linter.unusedVariables false
set_option linter.unusedSimpArgs false
def fK (l:List (List UInt8)):List UInt8:=(l.map (·++[10])).flatten
theorem aAF (l:List (List UInt8)) (s:List UInt8):fK (l++[s])=fK l++s++[10]:=by simp[fK]
theorem aC5:∀ {l:List (List UInt8)},(∀ s∈l,s.length<=63)->(fK l).length<=64*l.length
 | [],_=>j4 _
 |s::l,h=>by
  have h1:=aC5 (l:=l) λx hx=>h x (by simp[hx])
  have h2:=h s cK
  have e:fK (s::l)=s++[10]++fK l:=rfl
  simp only[e,k8,al3,yZ];omega
theorem aOT (k:Int) (h:1<=k/\k<=7):(jZ k).length<=3:=by
 obtain rfl|rfl|rfl|rfl|rfl|rfl|rfl:k=1∨k=2∨k=3∨k=4∨k=5∨k=6∨k=7:=by omega
 all_goals decide
theorem a4E {c:aP} {k inp:Int} (h:kE c k inp) (hk:k<=3200) (hi:inp<=12):(lnI c).length<=63:=by
 obtain⟨n1,n2,n3⟩:=aB1 h hk hi
 have h1:=aOT _ (aHH h)
 have h2:=sZ _ n1
 have h3:(iD c).length<=2:=by unfold iD;split;simp;split <;> simp
 rw[lnI,lnT,k8];omega
theorem a4F {g:bL} (hg:0<=g.oT/\g.oT<=3200):(lnG g).length<=63:=by
 have h2:=sZ [g.oT] λn hn=>by simp at hn;omega
 have h3:(if g.wL then s5 else sD).length<=5:=by cases g.wL <;> decide
 rw[lnG,lnT,k8]
 simp only[lV]at h2;omega
def pG (t:cW) (k:Nat):List (List UInt8):=lnT oU [t.cB]::(t.aS.take k).map lnI
def uU (t:cW) (k:Nat):List (List UInt8):=lnT oU [t.cB]::(t.aS.map lnI++(t.bX.take k).map lnG)
theorem aJS {n:Int} (h:0<=n/\n<=12):(lnT oU [n]).length<=63:=by
 have h2:=sZ [n] λm hm=>by simp at hm;omega
 rw[lnT,k8]
 have:oU.length=4:=rfl
 simp only[lV]at h2;omega
theorem aOU {t:cW} (ht:t.ok):∀ c∈t.aS,(lnI c).length<=63:=λc hc=>by
 obtain⟨k,hk,rfl⟩:=aAK.1 hc
 exact a4E (ht.code k hk) aMO ht.inp.2
theorem a4G {t:cW} (ht:t.ok):∀ g∈t.bX,(lnG g).length<=63:=λg hg=>a4F (by have:=ht.yG g hg;have:=ht.lens;omega)
theorem aZ2 {t:cW} (ht:t.ok) (k:Nat):(fK (pG t k)).length<=300000:=by
 have:=aC5 (l:=pG t k) λs hs=>by
  rcases oH.1 hs with rfl|hs
  ·exact aJS ht.inp
  ·obtain⟨c,hc,rfl⟩:=rC.1 hs
   exact aOU ht c (aJ4 hc)
 have hl:=ht.lens
 have h2:(pG t k).length<=3201:=by rw[pG,al3,iG,qI];omega
 omega
theorem aOV {t:cW} (ht:t.ok) (k:Nat):(fK (uU t k)).length<=600000:=by
 have:=aC5 (l:=uU t k) λs hs=>by
  rcases oH.1 hs with rfl|hs
  ·exact aJS ht.inp
  ·rcases mS.1 hs with hs|hs
   ·obtain⟨c,hc,rfl⟩:=rC.1 hs
    exact aOU ht c hc
   ·obtain⟨c,hc,rfl⟩:=rC.1 hs
    exact a4G ht c (aJ4 hc)
 have hl:=ht.lens
 have h2:(uU t k).length<=6401:=by rw[uU,al3,k8,iG,iG,qI];omega
 omega
theorem aV3 {t:cW} {k:Nat} (hk:k<t.aS.length):fK (pG t (k+1))=fK (pG t k)++lnI t.aS[k]++[10]:=by
 rw[pG,pD hk,zG,←aE9]
 exact aAF _ _
theorem aV4 {t:cW} {k:Nat} (hk:k<t.bX.length):fK (uU t (k+1))=fK (uU t k)++lnG t.bX[k]++[10]:=by
 rw[uU,pD hk,zG,←aH1,←aE9]
 exact aAF _ _
theorem aHI {t:cW} (ht:t.ok):rH t=fK (uU t t.bX.length)++[111,117,116,32]++Go.Lib.join (t.aO.map Go.Lib.itoa) [32]++[10]:=by
 have hne:t.aO≠[]:=λq=>by have:=ht.lens;rw[q]at this;simp at this
 have e:aD9 t=uU t t.bX.length++[lnT aBP t.aO]:=by rw[aD9,uU,jG];simp
 rw[show rH t=fK (aD9 t)from rfl,e,aAF,lnT,←xO _ hne]
 simp[aBP]
theorem aOW {t:cW} (ht:t.ok):(rH t).length<=700000:=by
 have h1:=aOV ht t.bX.length
 have hl:=ht.lens
 have h2:=aCW t.aO λn hn=>by have:=ht.outs n hn;unfold fZ;omega
 rw[aHI ht]
 simp only[k8,al3,yZ]
 omega
@[go_sem] def aQ8:List Nat:=[0,1,2,3,5,7,8,11,22,23,24,25,38,49,57,68,69,70,71,75]
@[go_sem] def bAC:List Nat:=[1,5,7]
@[go_sem] def bAD:Marks:=λid=>match id with|8=>([1,3,8],(.op 0 (.op 2 (.op 3 (.op 4 (.op 1 (.op 5 (.op 6 (.op 7 (.op 8 .nil))))))))),[(3,1)])|10=>([2,3,6,7,9],(.op 0 (.op 1 (.op 5 (.op 2 (.op 6 (.op 3 (.op 4 (.op 7 (.op 8 (.op 9 .nil)))))))))),[(6,3)])|26=>([1,5],(.op 0 (.op 3 (.op 4 (.op 1 (.op 2 (.op 5 (.op 6 (.op 7 (.op 8 .nil))))))))),[])|_=>([],.nil,[])
theorem aZ3 (t:cW) (ht:t.ok):eX Tryz.prog 26 [.agg t.c] (.str (rH t)):=by
 have hl:=ht.lens
 have hi:=ht.inp
 have hv:=yM t aA aA aA
 rw[decide_eq_true ht]at hv
 have hiN:fZ t.cB:=by unfold fZ;omega
 have hil:=jY hiN
 rw[cW.aU]at hv ⊢
 refine eJ 93 aQ8 bAC bAD Tryz.func26 λh=>?_
 simp -dsimp -implicitDefEqProofs only[go_sem,↓reduceIte,Tryz.f26]
 first|refine aG.mk (hv) ?_|refine aD.mk (hv) ?_|refine aG.bC (hv) ?_|refine aD.mk (aZ.dB (hv)) ?_
 simp -dsimp -implicitDefEqProofs only[go_sem,↓reduceIte,Tryz.f26]
 intro nb hn
 refine aG.wk (aV2 (aH ..)) ?_
 rw[aJ]
 first|refine aG.mk (decimal t.cB hiN) ?_|refine aD.mk (decimal t.cB hiN) ?_|refine aG.bC (decimal t.cB hiN) ?_|refine aD.mk (aZ.dB (decimal t.cB hiN)) ?_
 simp -dsimp -implicitDefEqProofs only[go_sem,↓reduceIte,Tryz.f26]
 refine⟨by omega,by omega,aG.eH (writeString [] _ rN (aH ..)) ?_⟩
 rintro r_ h' ⟨rfl,rfl⟩
 have et:[]++116::97::112::101::32::(Go.Lib.itoa t.cB++[10])=fK (pG t 0):=by simp[fK,pG,lnT,eU,oU]
 rw[et,aJ]
 simp -dsimp -implicitDefEqProofs only[go_sem,↓reduceIte,Tryz.f26]
 intro _
 refine dJ aQ8 bAC bAD (λk:Nat=>[(1,.ip 4 [[I t.cB,eQ 4 aP.c t.aS,eQ 2 bL.c t.bX,ints t.aO]] 0 0),(3,.op nb 2 0 0),(22,eQ 4 aP.c t.aS),(23,I t.aS.length),(24,I k)]) (λk=>aR h nb (bld (fK (pG t k)))) (λk=>k<=t.aS.length) (λk=>t.aS.length-k) 0 ⟨by simp[dM,cE],Heap.le_refl _,gM _⟩ ?_
 intro k hk
 have hpre:=aZ2 ht k
 rcases cQ k t.aS.length with hlt|hge
 ·have ea:t.aS[k]?=some t.aS[k]:=cP hlt
  have hins:=ht.code k hlt
  have hnx:=aV3 hlt
  generalize t.aS[k]=c at *
  obtain⟨op,ca,cb,cn⟩:=c
  have hop:=aHH hins
  have hnums:=aB1 hins aA hi.2
  simp only at hop
  have e1:IntKind.i64.wrap (op-1)=op-1:=IntWalk.i64_in _ aA
  have ew:(qY.map λs=>[aC.str s])[(op-1).toNat]?=some [.str (jZ op)]:=by
   obtain rfl|rfl|rfl|rfl|rfl|rfl|rfl:op=1∨op=2∨op=3∨op=4∨op=5∨op=6∨op=7:=by omega
   all_goals rfl
  have hwl:=aOT op hop
  have eln:lnI ⟨op,ca,cb,cn⟩=jZ op++eU (iD ⟨op,ca,cb,cn⟩):=rfl
  rw[eln]at hnx
  generalize jZ op=w at *
  simp -dsimp -implicitDefEqProofs only[go_sem,↓reduceIte,Tryz.f26,hlt,ea,aP.aU]
  rintro b ⟨b1,b2⟩
  obtain⟨gU,cN,cM,iV⟩:=c7 (show ¬b=nb from b1)
  rw[aJ]
  first|refine aG.mk (fU) ?_|refine aD.mk (fU) ?_|refine aG.bC (fU) ?_|refine aD.mk (aZ.dB (fU)) ?_
  simp -dsimp -implicitDefEqProofs only[go_sem,↓reduceIte,Tryz.f26,cN,cM,aE,aM,e1,ew]
  refine⟨by omega,by have:qY.length=7:=rfl;omega,by omega,aG.eH (writeString (fK (pG t k)) (w++[32]) pW aW6) ?_⟩
  rintro r_ h' ⟨rfl,rfl⟩
  have hle:∀ Y,(aR h nb Y).le (aR (aR (aR h nb (bld (fK (pG t k)))) b (.row 4 [[.v (I op),.v (I ca),.v (I cb),.v (I cn)]])) nb Y):=λY=>tT b1 b2
  clear e1 ew
  obtain rfl|rfl|rfl|rfl|rfl|rfl|rfl:op=1∨op=2∨op=3∨op=4∨op=5∨op=6∨op=7:=by omega
  ·have hN:fZ cn:=by have:=hnums.1 cn (by simp[iD]);unfold kE fZ at hins;simp only at hins;unfold fZ;omega
   have hi2:=jY hN
   simp -dsimp -implicitDefEqProofs only[go_sem,↓reduceIte,Tryz.f26,cN,cM,aE,aM]
   first|refine aG.mk (decimal cn hN) ?_|refine aD.mk (decimal cn hN) ?_|refine aG.bC (decimal cn hN) ?_|refine aD.mk (aZ.dB (decimal cn hN)) ?_
   simp -dsimp -implicitDefEqProofs only[go_sem,↓reduceIte,Tryz.f26]
   refine aG.eH (writeString _ (Go.Lib.itoa cn) pW (aH ..)) ?_
   rintro r_ h' ⟨rfl,rfl⟩
   rw[aJ]
   simp -dsimp -implicitDefEqProofs only[go_sem,↓reduceIte,Tryz.f26,cN,cM,aE,aM]
   refine aG.eH (pS _ 10 pW (aH ..)) ?_
   rintro r_ h' ⟨rfl,rfl⟩
   rw[aJ]
   simp -dsimp -implicitDefEqProofs only[go_sem,↓reduceIte,Tryz.f26]
   exact⟨k+1,IntWalk.i64_in _ aA,by rw[hnx,show fK (pG t k)++(w++eU (iD ⟨1,ca,cb,cn⟩))++[10]=fK (pG t k)++(w++[32])++(Go.Lib.itoa cn)++[10]by simp[iD,eU]];exact tT b1 b2,hlt,by omega⟩
  ·have hN:fZ cn:=by have:=hnums.1 cn (by simp[iD]);unfold kE fZ at hins;simp only at hins;unfold fZ;omega
   have hi2:=jY hN
   simp -dsimp -implicitDefEqProofs only[go_sem,↓reduceIte,Tryz.f26,cN,cM,aE,aM]
   first|refine aG.mk (decimal cn hN) ?_|refine aD.mk (decimal cn hN) ?_|refine aG.bC (decimal cn hN) ?_|refine aD.mk (aZ.dB (decimal cn hN)) ?_
   simp -dsimp -implicitDefEqProofs only[go_sem,↓reduceIte,Tryz.f26]
   refine aG.eH (writeString _ (Go.Lib.itoa cn) pW (aH ..)) ?_
   rintro r_ h' ⟨rfl,rfl⟩
   rw[aJ]
   simp -dsimp -implicitDefEqProofs only[go_sem,↓reduceIte,Tryz.f26,cN,cM,aE,aM]
   refine aG.eH (pS _ 10 pW (aH ..)) ?_
   rintro r_ h' ⟨rfl,rfl⟩
   rw[aJ]
   simp -dsimp -implicitDefEqProofs only[go_sem,↓reduceIte,Tryz.f26]
   exact⟨k+1,IntWalk.i64_in _ aA,by rw[hnx,show fK (pG t k)++(w++eU (iD ⟨2,ca,cb,cn⟩))++[10]=fK (pG t k)++(w++[32])++(Go.Lib.itoa cn)++[10]by simp[iD,eU]];exact tT b1 b2,hlt,by omega⟩
  ·have hN:fZ ca:=by unfold kE fZ at hins;simp only at hins;unfold fZ;omega
   have hM:fZ cb:=by unfold kE fZ at hins;simp only at hins;unfold fZ;omega
   have hi2:=jY hN
   have hi3:=jY hM
   simp -dsimp -implicitDefEqProofs only[go_sem,↓reduceIte,Tryz.f26,cN,cM,aE,aM]
   first|refine aG.mk (decimal ca hN) ?_|refine aD.mk (decimal ca hN) ?_|refine aG.bC (decimal ca hN) ?_|refine aD.mk (aZ.dB (decimal ca hN)) ?_
   simp -dsimp -implicitDefEqProofs only[go_sem,↓reduceIte,Tryz.f26]
   refine⟨by omega,?_⟩
   first|refine aG.mk (decimal cb hM) ?_|refine aD.mk (decimal cb hM) ?_|refine aG.bC (decimal cb hM) ?_|refine aD.mk (aZ.dB (decimal cb hM)) ?_
   simp -dsimp -implicitDefEqProofs only[go_sem,↓reduceIte,Tryz.f26]
   refine⟨by simp only[k8,al3,yZ];omega,?_⟩
   refine aG.eH (writeString _ _ pW (aH ..)) ?_
   rintro r_ h' ⟨rfl,rfl⟩
   rw[aJ]
   simp -dsimp -implicitDefEqProofs only[go_sem,↓reduceIte,Tryz.f26,cN,cM,aE,aM]
   refine aG.eH (pS _ 10 pW (aH ..)) ?_
   rintro r_ h' ⟨rfl,rfl⟩
   rw[aJ]
   simp -dsimp -implicitDefEqProofs only[go_sem,↓reduceIte,Tryz.f26]
   exact⟨k+1,IntWalk.i64_in _ aA,by rw[hnx,show fK (pG t k)++(w++eU (iD ⟨3,ca,cb,cn⟩))++[10]=fK (pG t k)++(w++[32])++(Go.Lib.itoa ca++[32]++Go.Lib.itoa cb)++[10]by simp[iD,eU]];exact tT b1 b2,hlt,by omega⟩
  ·have hN:fZ ca:=by unfold kE fZ at hins;simp only at hins;unfold fZ;omega
   have hM:fZ cb:=by unfold kE fZ at hins;simp only at hins;unfold fZ;omega
   have hi2:=jY hN
   have hi3:=jY hM
   simp -dsimp -implicitDefEqProofs only[go_sem,↓reduceIte,Tryz.f26,cN,cM,aE,aM]
   first|refine aG.mk (decimal ca hN) ?_|refine aD.mk (decimal ca hN) ?_|refine aG.bC (decimal ca hN) ?_|refine aD.mk (aZ.dB (decimal ca hN)) ?_
   simp -dsimp -implicitDefEqProofs only[go_sem,↓reduceIte,Tryz.f26]
   refine⟨by omega,?_⟩
   first|refine aG.mk (decimal cb hM) ?_|refine aD.mk (decimal cb hM) ?_|refine aG.bC (decimal cb hM) ?_|refine aD.mk (aZ.dB (decimal cb hM)) ?_
   simp -dsimp -implicitDefEqProofs only[go_sem,↓reduceIte,Tryz.f26]
   refine⟨by simp only[k8,al3,yZ];omega,?_⟩
   refine aG.eH (writeString _ _ pW (aH ..)) ?_
   rintro r_ h' ⟨rfl,rfl⟩
   rw[aJ]
   simp -dsimp -implicitDefEqProofs only[go_sem,↓reduceIte,Tryz.f26,cN,cM,aE,aM]
   refine aG.eH (pS _ 10 pW (aH ..)) ?_
   rintro r_ h' ⟨rfl,rfl⟩
   rw[aJ]
   simp -dsimp -implicitDefEqProofs only[go_sem,↓reduceIte,Tryz.f26]
   exact⟨k+1,IntWalk.i64_in _ aA,by rw[hnx,show fK (pG t k)++(w++eU (iD ⟨4,ca,cb,cn⟩))++[10]=fK (pG t k)++(w++[32])++(Go.Lib.itoa ca++[32]++Go.Lib.itoa cb)++[10]by simp[iD,eU]];exact tT b1 b2,hlt,by omega⟩
  ·have hN:fZ ca:=by unfold kE fZ at hins;simp only at hins;unfold fZ;omega
   have hM:fZ cb:=by unfold kE fZ at hins;simp only at hins;unfold fZ;omega
   have hi2:=jY hN
   have hi3:=jY hM
   simp -dsimp -implicitDefEqProofs only[go_sem,↓reduceIte,Tryz.f26,cN,cM,aE,aM]
   first|refine aG.mk (decimal ca hN) ?_|refine aD.mk (decimal ca hN) ?_|refine aG.bC (decimal ca hN) ?_|refine aD.mk (aZ.dB (decimal ca hN)) ?_
   simp -dsimp -implicitDefEqProofs only[go_sem,↓reduceIte,Tryz.f26]
   refine⟨by omega,?_⟩
   first|refine aG.mk (decimal cb hM) ?_|refine aD.mk (decimal cb hM) ?_|refine aG.bC (decimal cb hM) ?_|refine aD.mk (aZ.dB (decimal cb hM)) ?_
   simp -dsimp -implicitDefEqProofs only[go_sem,↓reduceIte,Tryz.f26]
   refine⟨by simp only[k8,al3,yZ];omega,?_⟩
   refine aG.eH (writeString _ _ pW (aH ..)) ?_
   rintro r_ h' ⟨rfl,rfl⟩
   rw[aJ]
   simp -dsimp -implicitDefEqProofs only[go_sem,↓reduceIte,Tryz.f26,cN,cM,aE,aM]
   refine aG.eH (pS _ 10 pW (aH ..)) ?_
   rintro r_ h' ⟨rfl,rfl⟩
   rw[aJ]
   simp -dsimp -implicitDefEqProofs only[go_sem,↓reduceIte,Tryz.f26]
   exact⟨k+1,IntWalk.i64_in _ aA,by rw[hnx,show fK (pG t k)++(w++eU (iD ⟨5,ca,cb,cn⟩))++[10]=fK (pG t k)++(w++[32])++(Go.Lib.itoa ca++[32]++Go.Lib.itoa cb)++[10]by simp[iD,eU]];exact tT b1 b2,hlt,by omega⟩
  ·have hN:fZ ca:=by unfold kE fZ at hins;simp only at hins;unfold fZ;omega
   have hM:fZ cb:=by unfold kE fZ at hins;simp only at hins;unfold fZ;omega
   have hi2:=jY hN
   have hi3:=jY hM
   simp -dsimp -implicitDefEqProofs only[go_sem,↓reduceIte,Tryz.f26,cN,cM,aE,aM]
   first|refine aG.mk (decimal ca hN) ?_|refine aD.mk (decimal ca hN) ?_|refine aG.bC (decimal ca hN) ?_|refine aD.mk (aZ.dB (decimal ca hN)) ?_
   simp -dsimp -implicitDefEqProofs only[go_sem,↓reduceIte,Tryz.f26]
   refine⟨by omega,?_⟩
   first|refine aG.mk (decimal cb hM) ?_|refine aD.mk (decimal cb hM) ?_|refine aG.bC (decimal cb hM) ?_|refine aD.mk (aZ.dB (decimal cb hM)) ?_
   simp -dsimp -implicitDefEqProofs only[go_sem,↓reduceIte,Tryz.f26]
   refine⟨by simp only[k8,al3,yZ];omega,?_⟩
   refine aG.eH (writeString _ _ pW (aH ..)) ?_
   rintro r_ h' ⟨rfl,rfl⟩
   rw[aJ]
   simp -dsimp -implicitDefEqProofs only[go_sem,↓reduceIte,Tryz.f26,cN,cM,aE,aM]
   refine aG.eH (pS _ 10 pW (aH ..)) ?_
   rintro r_ h' ⟨rfl,rfl⟩
   rw[aJ]
   simp -dsimp -implicitDefEqProofs only[go_sem,↓reduceIte,Tryz.f26]
   exact⟨k+1,IntWalk.i64_in _ aA,by rw[hnx,show fK (pG t k)++(w++eU (iD ⟨6,ca,cb,cn⟩))++[10]=fK (pG t k)++(w++[32])++(Go.Lib.itoa ca++[32]++Go.Lib.itoa cb)++[10]by simp[iD,eU]];exact tT b1 b2,hlt,by omega⟩
  ·have hN:fZ ca:=by have:=hnums.1 ca (by simp[iD]);unfold kE fZ at hins;simp only at hins;unfold fZ;omega
   have hi2:=jY hN
   simp -dsimp -implicitDefEqProofs only[go_sem,↓reduceIte,Tryz.f26,cN,cM,aE,aM]
   first|refine aG.mk (decimal ca hN) ?_|refine aD.mk (decimal ca hN) ?_|refine aG.bC (decimal ca hN) ?_|refine aD.mk (aZ.dB (decimal ca hN)) ?_
   simp -dsimp -implicitDefEqProofs only[go_sem,↓reduceIte,Tryz.f26]
   refine aG.eH (writeString _ (Go.Lib.itoa ca) pW (aH ..)) ?_
   rintro r_ h' ⟨rfl,rfl⟩
   rw[aJ]
   simp -dsimp -implicitDefEqProofs only[go_sem,↓reduceIte,Tryz.f26,cN,cM,aE,aM]
   refine aG.eH (pS _ 10 pW (aH ..)) ?_
   rintro r_ h' ⟨rfl,rfl⟩
   rw[aJ]
   simp -dsimp -implicitDefEqProofs only[go_sem,↓reduceIte,Tryz.f26]
   exact⟨k+1,IntWalk.i64_in _ aA,by rw[hnx,show fK (pG t k)++(w++eU (iD ⟨7,ca,cb,cn⟩))++[10]=fK (pG t k)++(w++[32])++(Go.Lib.itoa ca)++[10]by simp[iD,eU]];exact tT b1 b2,hlt,by omega⟩
 ·obtain rfl:k=t.aS.length:=by omega
  simp -dsimp -implicitDefEqProofs only[go_sem,↓reduceIte,Tryz.f26,cV,fW]
  have e0:fK (pG t t.aS.length)=fK (uU t 0):=by rw[pG,uU,jG];simp
  rw[e0]
  intro _
  refine dJ aQ8 bAC bAD (λk:Nat=>[(1,.ip 4 [[I t.cB,eQ 4 aP.c t.aS,eQ 2 bL.c t.bX,ints t.aO]] 0 0),(3,.op nb 2 0 0),(68,eQ 2 bL.c t.bX),(69,I t.bX.length),(70,I k)]) (λk=>aR h nb (bld (fK (uU t k)))) (λk=>k<=t.bX.length) (λk=>t.bX.length-k) 0 ⟨by simp[dM,cE],Heap.le_refl _,gM _⟩ ?_
  intro k hk
  have hpre:=aOV ht k
  rcases cQ k t.bX.length with hlt|hge
  ·have ea:t.bX[k]?=some t.bX[k]:=cP hlt
   have hgd:=ht.yG _ (eF hlt)
   have hnx:=aV4 hlt
   generalize t.bX[k]=c at *
   obtain⟨r,z⟩:=c
   simp only at hgd
   have hN:fZ r:=by unfold fZ;omega
   have hi2:=jY hN
   simp -dsimp -implicitDefEqProofs only[go_sem,↓reduceIte,Tryz.f26,hlt,ea,bL.aU]
   rintro b ⟨b1,b2⟩
   obtain⟨gU,cN,cM,iV⟩:=c7 (show ¬b=nb from b1)
   rw[aJ]
   cases z
   ·simp -dsimp -implicitDefEqProofs only[go_sem,↓reduceIte,Tryz.f26,cN,cM,aE,aM]
    first|refine aG.mk (decimal r hN) ?_|refine aD.mk (decimal r hN) ?_|refine aG.bC (decimal r hN) ?_|refine aD.mk (aZ.dB (decimal r hN)) ?_
    simp -dsimp -implicitDefEqProofs only[go_sem,↓reduceIte,Tryz.f26]
    refine⟨by omega,by omega,aG.eH (writeString (fK (uU t k)) _ pW aW6) ?_⟩
    rintro r_ h' ⟨rfl,rfl⟩
    simp -dsimp -implicitDefEqProofs only[go_sem,↓reduceIte,Tryz.f26]
    exact⟨k+1,IntWalk.i64_in _ aA,by rw[hnx,show fK (uU t k)++lnG ⟨r,false⟩++[10]=fK (uU t k)++111::116::104::101::114::32::(Go.Lib.itoa r++[10])by simp[lnG,lnT,eU,sD,s5]];exact tT b1 b2,hlt,by omega⟩
   ·simp -dsimp -implicitDefEqProofs only[go_sem,↓reduceIte,Tryz.f26,cN,cM,aE,aM]
    first|refine aG.mk (decimal r hN) ?_|refine aD.mk (decimal r hN) ?_|refine aG.bC (decimal r hN) ?_|refine aD.mk (aZ.dB (decimal r hN)) ?_
    simp -dsimp -implicitDefEqProofs only[go_sem,↓reduceIte,Tryz.f26]
    refine⟨by omega,by omega,aG.eH (writeString (fK (uU t k)) _ pW aW6) ?_⟩
    rintro r_ h' ⟨rfl,rfl⟩
    simp -dsimp -implicitDefEqProofs only[go_sem,↓reduceIte,Tryz.f26]
    exact⟨k+1,IntWalk.i64_in _ aA,by rw[hnx,show fK (uU t k)++lnG ⟨r,true⟩++[10]=fK (uU t k)++122::101::114::111::32::(Go.Lib.itoa r++[10])by simp[lnG,lnT,eU,sD,s5]];exact tT b1 b2,hlt,by omega⟩
  ·obtain rfl:k=t.bX.length:=by omega
   simp -dsimp -implicitDefEqProofs only[go_sem,↓reduceIte,Tryz.f26,cV,fW]
   refine aG.eH (aIP (fK (uU t t.bX.length)) aML (aH ..)) ?_
   rintro r_ h2 ⟨rfl,rfl⟩
   have hnO:∀ n∈t.aO,fZ n:=λn hn=>by have:=ht.outs n hn;unfold fZ;omega
   have hj:=aCW t.aO hnO
   rw[aJ]
   simp -dsimp -implicitDefEqProofs only[go_sem,↓reduceIte,Tryz.f26]
   refine⟨by omega,?_⟩
   first|refine aG.mk (aLN t.aO aA hnO) ?_|refine aD.mk (aLN t.aO aA hnO) ?_|refine aG.bC (aLN t.aO aA hnO) ?_|refine aD.mk (aZ.dB (aLN t.aO aA hnO)) ?_
   simp -dsimp -implicitDefEqProofs only[go_sem,↓reduceIte,Tryz.f26]
   exact⟨by simp only[k8,al3,yZ];omega,by simp only[k8,al3,yZ];omega,by rw[aHI ht],Heap.bA hn (Heap.le_refl _)⟩
def iX (c:List Int) (a:Nat) (sd:Int):bW:=.row 3 [[.v (.sl 1 (c.map λn=>[.int .u8 n]) false),.v (I a),.v (.int .u64 sd)]]
theorem bAE (x:Int):(0:Int)<=((BitVec.ofInt 64 x &&& BitVec.ofInt 64 255).toNat:Int)/\((BitVec.ofInt 64 x &&& BitVec.ofInt 64 255).toNat:Int)<=255:=by
 have h:(BitVec.ofInt 64 x &&& BitVec.ofInt 64 255).toNat<=255:=by
  rw[BitVec.toNat_and]
  exact aD2 Nat.and_le_right bU
 omega
@[go_sem] def aZ4:List Nat:=[0,2,3,13,53]
@[go_sem] def bF0:Marks:=λid=>match id with|2=>([3,7],(.op 0 (.op 1 (.op 2 (.op 4 (.op 5 (.op 6 (.op 3 (.op 7 (.op 8 (.op 9 .nil)))))))))),[])|3=>([3,7,9],(.op 0 (.op 1 (.op 2 (.op 4 (.op 5 (.op 6 (.op 3 (.op 7 (.op 8 (.op 9 (.op 10 (.op 11 .nil)))))))))))),[])|6=>([3,7],(.op 0 (.op 1 (.op 2 (.op 4 (.op 5 (.op 6 (.op 3 (.op 7 (.op 8 (.op 9 .nil)))))))))),[])|_=>([],.nil,[])
theorem a64 {ns:Nat} {c:List Int} (hc:∀ x∈c,InB x) (hl:c.length<=4096) {a:Nat} (ha:a<=1000000000) {sd:Int} {g:Heap} (hg:g ns=some (iX c a sd)) :
  fH Tryz.prog 85 [.op ns 3 0 0] g λr h'=>∃ x sd',r=I x/\0<=x/\x<=255/\h'=aR g ns (iX c (a+1) sd'):=by
 have w1:IntKind.i64.wrap ((a:Int)+1)=((a+1:Nat):Int):=by rw[IntWalk.i64_in _ aA];omega
 unfold iX at hg
 rcases cQ a c.length with hlt|hge
 ·have ea:c[a]?=some c[a]:=cP hlt
  obtain⟨b0,b1⟩:=hc _ (eF hlt)
  generalize c[a]=x at ea b0 b1
  have w2:IntKind.i64.wrap x=x:=IntWalk.i64_in _ aA
  have c1:(a<c.length)=True:=eq_true hlt
  have c2:(a+1<=c.length)=True:=eq_true hlt
  refine aGC 62 aZ4 cR bF0 Tryz.func85 ?_
  simp -dsimp -implicitDefEqProofs only[go_sem,↓reduceIte,Tryz.f85,hg,w1,dP,dQ,dR,dS,dT,eC,eV,fX,ea,c1,c2,w2]
  rw[aJ]
  exact⟨_,Heap.le_refl _,x,_,rfl,b0,b1,rfl⟩
 ·have c1:(a<c.length)=False:=eq_false aA
  have c2:(a+1<=c.length)=False:=eq_false aA
  refine aGC 62 aZ4 cR bF0 Tryz.func85 ?_
  simp -dsimp -implicitDefEqProofs only[go_sem,↓reduceIte,Tryz.f85,hg,w1,dP,dQ,dR,dS,dT,eC,eV,fX,c1,c2]
  rw[aJ]
  generalize (IntKind.u64.wrap _:Int)=yN
  obtain⟨b0,b1⟩:=bAE (yN.fdiv (2 ^ min (Int.toNat 40) 64))
  refine⟨_,Heap.le_refl _,_,yN,rfl,?_,?_,rfl⟩
  ·rw[show IntKind.u64.bits=64 from rfl,IntWalk.u64_in _ aA,IntWalk.i64_in _ aA];exact b0
  ·rw[show IntKind.u64.bits=64 from rfl,IntWalk.u64_in _ aA,IntWalk.i64_in _ aA];exact b1
@[go_sem] def aZ5:List Nat:=[0,1,4,5,7,11]
theorem qG {ns:Nat} {c:List Int} (hc:∀ x∈c,InB x) (hl:c.length<=4096) {a:Nat} (ha:a<=900000000) {sd:Int} (n:Int) (hn:n<=100000) {g:Heap} (hg:g ns=some (iX c a sd)) :
  fH Tryz.prog 32 [.op ns 3 0 0,I n] g λr h'=>∃ x a' sd',r=I x/\0<=x/\(1<=n->x<n)/\(n<=1->x=0)/\(a<=a'/\a'<=a+2)/\h'=aR g ns (iX c a' sd'):=by
 by_cases h1:n<=1
 ·refine aGC 20 aZ5 cR cC Tryz.func32 ?_
  simp -dsimp -implicitDefEqProofs only[go_sem,↓reduceIte,Tryz.f32,h1]
  exact⟨g,Heap.le_refl _,0,a,sd,rfl,aCB _,λh=>by omega,rfl,by omega,(qA hg).symm⟩
 ·refine aGC 20 aZ5 cR cC Tryz.func32 ?_
  simp -dsimp -implicitDefEqProofs only[go_sem,↓reduceIte,Tryz.f32,h1]
  refine aG.eH (a64 hc hl aA hg) ?_
  rintro r_ h' ⟨x,sd',rfl,x0,x1,rfl⟩
  simp -dsimp -implicitDefEqProofs only[go_sem,↓reduceIte,Tryz.f32]
  refine⟨λh2=>?_,λh2=>?_⟩
  ·refine aG.eH (a64 hc hl (a:=a+1) aA (aH ..)) ?_
   rintro r_ h' ⟨y,yN,rfl,y0,y1,rfl⟩
   simp -dsimp -implicitDefEqProofs only[go_sem,↓reduceIte,Tryz.f32]
   have e1:IntKind.i64.wrap (IntKind.i64.wrap (x*256)+y)=x*256+y:=by rw[IntWalk.i64_in (x*256) aA,IntWalk.i64_in _ aA]
   have e2:(x*256+y).tmod n=(x*256+y)%n:=tY aA
   have e3:=Int.emod_nonneg (x*256+y) (show n≠0 by omega)
   have e4:=Int.emod_lt_of_pos (x*256+y) (show 0<n by omega)
   rw[e1,e2,aJ]
   exact⟨by omega,_,Heap.le_refl _,_,a+1+1,yN,rfl,e3,λ_=>e4,λq=>absurd q h1,by omega,rfl⟩
  ·have e2:x.tmod n=x%n:=tY x0
   have e3:=Int.emod_nonneg x (show n≠0 by omega)
   have e4:=Int.emod_lt_of_pos x (show 0<n by omega)
   rw[e2]
   exact⟨by omega,_,Heap.le_refl _,_,a+1,sd',rfl,e3,λ_=>e4,λq=>absurd q h1,by omega,rfl⟩
theorem aZ6 {ns:Nat} {c:List Int} (hc:∀ x∈c,InB x) (hl:c.length<=4096) {a:Nat} (ha:a<=900000000) {sd:Int} (n:Int) (hn:n<=100000) {g:Heap} (hg:g ns=some (iX c a sd)) :
  fH Tryz.prog 33 [.op ns 3 0 0,I n] g λr h'=>∃ x a' sd',r=.bool x/\(a<=a'/\a'<=a+2)/\h'=aR g ns (iX c a' sd'):=by
 refine aGC 9 yW cR cC Tryz.func33 ?_
 simp -dsimp -implicitDefEqProofs only[go_sem,↓reduceIte,Tryz.f33]
 refine aG.eH (qG hc hl ha n hn hg) ?_
 rintro r_ h' ⟨x,a',sd',rfl,-,-,-,ha',rfl⟩
 simp -dsimp -implicitDefEqProofs only[go_sem,↓reduceIte,Tryz.f33]
 exact⟨_,Heap.le_refl _,_,a',sd',rfl,ha',rfl⟩
theorem bF1 {ns:Nat} {c:List Int} (hc:∀ x∈c,InB x) (hl:c.length<=4096) {a:Nat} (ha:a<=900000000) {sd:Int} (l:List (List UInt8)) (bz:Bool) (h1:1<=l.length) (h2:l.length<=1000) {g:Heap} (hg:g ns=some (iX c a sd)) :
  fH Tryz.prog 84 [.op ns 3 0 0,.sl 1 (l.map λs=>[.str s]) bz] g λr h'=>∃ x a' sd',r=.str x/\x∈l/\(a<=a'/\a'<=a+2)/\h'=aR g ns (iX c a' sd'):=by
 refine aGC 12 yW cR cC Tryz.func84 ?_
 simp -dsimp -implicitDefEqProofs only[go_sem,↓reduceIte,Tryz.f84]
 intro _
 refine aG.eH (qG hc hl ha l.length aA hg) ?_
 rintro r_ h' ⟨x,a',sd',rfl,x0,x1,-,ha',rfl⟩
 have x1:=x1 aA
 obtain⟨k,rfl⟩:∃ k:Nat,x=k:=⟨x.toNat,by omega⟩
 have ek:l[k]?=some l[k]:=cP aA
 simp -dsimp -implicitDefEqProofs only[go_sem,↓reduceIte,Tryz.f84,ek]
 exact⟨by omega,_,Heap.le_refl _,_,a',sd',rfl,eF _,ha',rfl⟩
@[go_sem] def bAF:List Nat:=[0,2,4,5,10]
theorem bAG {ns:Nat} {c:List Int} (hc:∀ x∈c,InB x) (hl:c.length<=4096) {a:Nat} (ha:a<=850000000) {sd:Int} {g:Heap} (hg:g ns=some (iX c a sd)) :
  fH Tryz.prog 89 [.op ns 3 0 0] g λr h'=>∃ x a' sd',r=I x/\fZ x/\(a<=a'/\a'<=a+8)/\h'=aR g ns (iX c a' sd'):=by
 refine aGC 25 bAF cR cC Tryz.func89 ?_
 simp -dsimp -implicitDefEqProofs only[go_sem,↓reduceIte,Tryz.f89]
 refine aG.eH (qG hc hl aA 6 aA hg) ?_
 rintro r_ h' ⟨x,a1,sd1,rfl,x0,x1,-,ha1,rfl⟩
 simp -dsimp -implicitDefEqProofs only[go_sem,↓reduceIte,Tryz.f89]
 refine⟨λe0=>?_,λe0=>⟨λe1=>?_,λe1=>?_⟩⟩
 ·refine aG.eH (qG hc hl aA 3 aA (aH ..)) ?_
  rintro r_ h' ⟨y,a2,yN,rfl,y0,y1,-,ha2,rfl⟩
  have y1:=y1 aA
  simp -dsimp -implicitDefEqProofs only[go_sem,↓reduceIte,Tryz.f89]
  rw[aJ]
  exact⟨_,Heap.le_refl _,_,a2,yN,rfl,by rw[IntWalk.i64_in _ aA];unfold fZ;omega,by omega,rfl⟩
 ·refine aG.eH (qG hc hl aA 256 aA (aH ..)) ?_
  rintro r_ h' ⟨y,a2,yN,rfl,y0,y1,-,ha2,rfl⟩
  have y1:=y1 aA
  simp -dsimp -implicitDefEqProofs only[go_sem,↓reduceIte,Tryz.f89]
  refine aG.eH (qG hc hl aA 256 aA (aH ..)) ?_
  rintro r_ h' ⟨z,a3,wT,rfl,z0,z1,-,ha3,rfl⟩
  have z1:=z1 aA
  simp -dsimp -implicitDefEqProofs only[go_sem,↓reduceIte,Tryz.f89]
  refine aG.eH (qG hc hl aA 256 aA (aH ..)) ?_
  rintro r_ h' ⟨u,a4,sd4,rfl,u0,u1,-,ha4,rfl⟩
  have u1:=u1 aA
  simp -dsimp -implicitDefEqProofs only[go_sem,↓reduceIte,Tryz.f89]
  simp only[aJ]
  refine⟨_,Heap.le_refl _,_,a4,sd4,rfl,?_,by omega,rfl⟩
  rw[IntWalk.i64_in (y*65536) aA,IntWalk.i64_in (z*256) aA,IntWalk.i64_in (y*65536+z*256) aA,IntWalk.i64_in _ aA,tY aA]
  unfold fZ;omega
 ·refine aG.eH (qG hc hl aA 7 aA (aH ..)) ?_
  rintro r_ h' ⟨y,a2,yN,rfl,y0,y1,-,ha2,rfl⟩
  have y1:=y1 aA
  simp -dsimp -implicitDefEqProofs only[go_sem,↓reduceIte,Tryz.f89]
  rw[aJ]
  exact⟨_,Heap.le_refl _,_,a2,yN,rfl,by unfold fZ;omega,by omega,rfl⟩
theorem aB2 {α:Type} (f:α->Nat) (l:List α) (x:α):pE f (l++[x])=pE f l+1+f x:=by
 simp only[oQ,k8,zG,List.sum_append,al3,yZ,qH,x4,aPQ,List.sum_nil];omega
theorem aZ7 (k n i c:Int) (l:List aB):(aB.mk k n i c l).s=pE aB.s l:=by rw[aB.xN];rfl
theorem aZ8 (k n:Int):(aB.mk k n 0 0 []).o [.v (I k),.v (I n),.v (I 0),.v (I 0),.nil 5]:=(aB.sC _ _).2 ⟨.nil 5,rfl,OS.nil⟩
theorem aOY (k n:Int):Sub (.agg [I k,I n,I 0,I 0,.aW]) (.agg ([.v (I k),.v (I n),.v (I 0),.v (I 0),.nil 5].map OV.val)):=Sub.agg (.cons (.refl _) (.cons (.refl _) (.cons (.refl _) (.cons (.refl _) (.cons (Sub.nil 5 true) .nil)))))
theorem aJT (k n:Int):OV.dD [.v (I k),.v (I n),.v (I 0),.v (I 0),.nil 5]=[]:=by simp only[OV.p7,OV.sV,OV.xK,OV.l5,eV]
def sN (k n c d:Int) (v:aC):bW:=.row 5 [[.v (I k),.v (I n),.v (I c),.v (I d),.v v]]
def kB (ns np:Nat) (L:Int) (pl:Bool):bW:=.row 4 [[.v (.op ns 3 0 0),.v (.op np 1 0 0),.v (I L),.v (.bool pl)]]
def mL (L:Int):Nat:=(L-1).toNat
def aC6 (p:aF) (np:Nat) (B:Heap):Prop:=∃ es o,OR aV.o p.aI es/\B np=some (.row 1 [[.v (gK 3 p.aI.length o)]])/\(o=none->p.aI=[])/\∀ m,o=some m->B m=some (.row 3 (OV.cells es))
theorem aC6.le {p:aF} {np:Nat} {B B':Heap} (h:aC6 p np B) (hl:B.le B'):aC6 p np B':=by
 obtain⟨es,o,h1,h2,h3,h4⟩:=h
 exact⟨es,o,h1,Heap.zR hl h2,h3,λm e=>Heap.zR hl (h4 m e)⟩
@[go_sem] def bAH:List Nat:=[0,1,4,14]
theorem aT1 {ns ng np:Nat} {c:List Int} {pl:Bool} (hc:∀ x∈c,InB x) (hl:c.length<=4096) (hne:¬ns=ng) (vars:Int) (hv:vars<=1000) {B:Heap} {a:Nat} {sd L:Int} (hB1:B ns=none) (hB2:B ng=none) (ha:a<=800001000) :
  fH Tryz.prog 86 [.op ng 4 0 0,I vars] (aR (aR B ns (iX c a sd)) ng (kB ns np L pl)) λr h'=>∃ k n a' sd',r=.agg [I k,I n,I 0,I 0,.aW]/\((k=1/\fZ n)∨(k=2/\0<=n/\n<vars))/\(a<=a'/\a'<=a+10)/\h'=aR (aR B ns (iX c a' sd')) ng (kB ns np L pl):=by
 obtain⟨x8,bH,bI,j2⟩:=c7 (show ¬ns=ng from hne)
 have hg:(aR (aR B ns (iX c a sd)) ng (kB ns np L pl)) ng=some (kB ns np L pl):=aH ..
 unfold kB at hg
 refine aGC 28 bAH cR cC Tryz.func86 ?_
 simp -dsimp -implicitDefEqProofs only[go_sem,↓reduceIte,Tryz.f86]
 intro n4 q4
 have a4:¬n4=ng:=by grind
 have b4:¬n4=ns:=by grind
 have z4:B n4=none:=by grind
 obtain⟨a4H,yO,yP,bIT⟩:=c7 (show ¬n4=ng from a4)
 obtain⟨aB3,yQ,yR,a1R⟩:=c7 (show ¬n4=ns from b4)
 simp -dsimp -implicitDefEqProofs only[go_sem,↓reduceIte,Tryz.f86,yO,yQ,yP,bI,yR,bH,aE,aM,kB,dP,dQ,dR,dS,dT,eC,eV,fX]
 have hle:∀ X Y Z,(aR (aR B ns X) ng Y).le (aR (aR (aR B ns X) ng Y) n4 Z):=λX Y Z=>Heap.bA (by rw[aE _ _ _ _ a4H,aE _ _ _ _ aB3];exact z4) (Heap.le_refl _)
 refine⟨λhp=>?_,λhp=>?_⟩
 ·refine aG.eH (aZ6 (a:=a) (sd:=sd) hc hl aA 4 aA aRT) ?_
  rintro r_ h' ⟨b,a1,sd1,rfl,ha1,rfl⟩
  simp only[bT aB3,bT j2,aJ]
  cases b
  ·simp -dsimp -implicitDefEqProofs only[go_sem,↓reduceIte,Tryz.f86,yO,yQ,yP,bI,yR,bH,aE,aM,dP,dQ,dR,dS,dT,eC,eV,fX]
   refine aG.eH (qG (a:=a1) (sd:=sd1) hc hl aA vars aA aRT) ?_
   rintro r_ h' ⟨x,a2,yN,rfl,x0,x1,-,ha2,rfl⟩
   simp only[bT aB3,bT j2,aJ]
   simp -dsimp -implicitDefEqProofs only[go_sem,↓reduceIte,Tryz.f86,yO,yQ,yP,bI,yR,bH,aE,aM,aJ,dP,dQ,dR,dS,dT,eC,eV,fX]
   exact⟨_,hle _ _ _,2,x,a2,yN,rfl,.inr ⟨rfl,x0,x1 aA⟩,by omega,rfl⟩
  ·simp -dsimp -implicitDefEqProofs only[go_sem,↓reduceIte,Tryz.f86,yO,yQ,yP,bI,yR,bH,aE,aM,dP,dQ,dR,dS,dT,eC,eV,fX]
   refine aG.eH (bAG (a:=a1) (sd:=sd1) hc hl aA aRT) ?_
   rintro r_ h' ⟨x,a2,yN,rfl,hx,ha2,rfl⟩
   simp only[bT aB3,bT j2,aJ]
   simp -dsimp -implicitDefEqProofs only[go_sem,↓reduceIte,Tryz.f86,yO,yQ,yP,bI,yR,bH,aE,aM,aJ,dP,dQ,dR,dS,dT,eC,eV,fX]
   exact⟨_,hle _ _ _,1,x,a2,yN,rfl,.inl ⟨rfl,hx⟩,by omega,rfl⟩
 ·refine aG.eH (bAG (a:=a) (sd:=sd) hc hl aA aRT) ?_
  rintro r_ h' ⟨x,a2,yN,rfl,hx,ha2,rfl⟩
  simp only[bT aB3,bT j2,aJ]
  simp -dsimp -implicitDefEqProofs only[go_sem,↓reduceIte,Tryz.f86,yO,yQ,yP,bI,yR,bH,aE,aM,aJ,dP,dQ,dR,dS,dT,eC,eV,fX]
  exact⟨_,hle _ _ _,1,x,a2,yN,rfl,.inl ⟨rfl,hx⟩,by omega,rfl⟩
def bF2 (p:aF) (ns ng np:Nat) (c:List Int) (pl:Bool) (vars:Int) (dp:Nat) (B:Heap) (R:Nat->Nat->Int->Prop):aC->Heap->Prop:=λr h' =>
 ∃ (x:aB) (e:List OV) (g':Heap) (a':Nat) (sd' L':Int),x.o e/\r=.agg (e.map OV.val)/\fY B (OV.dD e) g'/\(g' ns=none/\g' ng=none)/\h'=aR (aR g' ns (iX c a' sd')) ng (kB ns np L' pl) /\
  x.ok p p.aI.length vars/\x.d<=dp+1/\R x.s a' L'
def a4I (p:aF) (ns ng np:Nat) (c:List Int) (pl:Bool) (vars:Int) (dp a:Nat) (L:Int) (B:Heap):aC->Heap->Prop :=
 bF2 p ns ng np c pl vars dp B λs a' L'=>(L'<=L-1/\L-(s+1)<=L'/\s+3*mL L'<=3*mL L)/\(a<=a'/\a'<=a+14*(s+1))
def aZ9 (p:aF) (ns ng np:Nat) (c:List Int) (pl:Bool) (vars:Int) (dp a:Nat) (L:Int) (B:Heap):aC->Heap->Prop :=
 bF2 p ns ng np c pl vars dp B λs a' L'=>(L'<=L/\L-s<=L'/\s+3*mL L'<=3*mL L+3)/\(a<=a'/\a'<=a+10+14*s)
def bAI (dp a:Nat) (vars L:Int):Prop:=(0<=vars/\vars+dp<=1000)/\a+42*mL L+100*dp<=800000000/\(-2000000+10000*(dp:Int)<=L/\L<=1000)
def a0A (P:Program) (f:FuncId) (p:aF) (ns ng np:Nat) (c:List Int) (pl:Bool) (dp:Nat):Prop:=∀ (vars:Int) (B:Heap) (a:Nat) (sd L:Int),B ns=none->B ng=none->aC6 p np B->bAI dp a vars L ->
 fH P f [.op ng 4 0 0,I vars,I p.aI.length,I dp] (aR (aR B ns (iX c a sd)) ng (kB ns np L pl)) (a4I p ns ng np c pl vars dp a L B)
def a66 (P:Program) (f:FuncId) (p:aF) (ns ng np:Nat) (c:List Int) (pl:Bool) (dp:Nat):Prop:=∀ (vars:Int) (B:Heap) (a:Nat) (sd L:Int),B ns=none->B ng=none->aC6 p np B->(0<=vars/\vars+dp<=1000)->a+42*mL L+42+100*dp<=800000050->(-2000000+10000*(dp:Int)<=L/\L<=1000/\1<=L) ->
 fH P f [.op ng 4 0 0,I vars,I p.aI.length,I dp] (aR (aR B ns (iX c a sd)) ng (kB ns np L pl)) (aZ9 p ns ng np c pl vars dp a L B)
def aEX (p:aF):Prop:=∀ f∈p.aI,(1<=f.bB/\f.bB<=3)/\(1<=f.aO.length/\f.aO.length<=3)
theorem aT2 {p:aF} {k n vars:Int} (h:(k=1/\fZ n)∨(k=2/\0<=n/\n<vars)):(aB.mk k n 0 0 []).ok p p.aI.length vars:=by
 refine(aB.cS _ _ _ _).2 ⟨?_,λj hj=>by simp[aB.aK]at hj⟩
 rw[dI aW8]
 simp only[aB.aN,aB.aX,aB.cF,aB.b7,aB.aK,yZ]
 rcases h with⟨rfl,h⟩|⟨rfl,h⟩
 ·exact⟨rfl,trivial,trivial,λ_=>h,λq=>by omega,λq=>absurd rfl q⟩
 ·exact⟨rfl,trivial,trivial,λq=>by omega,λ_=>by omega,λ_ q=>absurd rfl q⟩
theorem a0B (k n:Int):(aB.mk k n 0 0 []).d=1:=by rw[aB.aYV];rfl
theorem aLO (k n:Int):(aB.mk k n 0 0 []).s=0:=by rw[aZ7];rfl
theorem aHJ {p:aF} {ns ng np:Nat} {c:List Int} {pl:Bool} {vars:Int} {dp a:Nat} {L:Int} {B H:Heap} {k n:Int} {a':Nat} {sd':Int} (h:(k=1/\fZ n)∨(k=2/\0<=n/\n<vars)) (hB1:B ns=none) (hB2:B ng=none) (ha:a<=a'/\a'<=a+14) (hle:(aR (aR B ns (iX c a' sd')) ng (kB ns np (L-1) pl)).le H) :
  ∃ r1 g2,Shift (.agg [I k,I n,I 0,I 0,.aW]) H r1 g2/\a4I p ns ng np c pl vars dp a L B r1 g2:=by
 refine⟨_,_,Shift.of (aOY k n) hle,_,_,B,a',sd',L-1,aZ8 k n,rfl,by rw[aJT];exact fY.nil B,⟨hB1,hB2⟩,rfl,aT2 h,by rw[a0B];omega,?_,by rw[aLO];omega⟩
 rw[aLO]
 unfold mL
 omega
theorem a0C {p:aF} {ns ng np:Nat} {c:List Int} {pl:Bool} {vars:Int} {dp a:Nat} {L:Int} {B g' H:Heap} {x:aB} {e:List OV} {a':Nat} {sd' L':Int} (hx:x.o e) (w:fY B (OV.dD e) g') (z:g' ns=none/\g' ng=none) (hok:x.ok p p.aI.length vars) (hd:x.d<=dp+1)
  (hL:L'<=L-1/\(L-1)-x.s<=L'/\x.s+3*mL L'<=3*mL (L-1)+3) (ha:a<=a'/\a'<=a+14*(x.s+1)) (h1:¬L-1<1) (hle:(aR (aR g' ns (iX c a' sd')) ng (kB ns np L' pl)).le H) :
  ∃ r1 g2,Shift (.agg (e.map OV.val)) H r1 g2/\a4I p ns ng np c pl vars dp a L B r1 g2 :=
 ⟨_,_,Shift.of (Sub.refl _) hle,x,e,g',a',sd',L',hx,rfl,w,z,rfl,hok,hd,⟨by omega,by omega,by unfold mL at hL ⊢;omega⟩,ha⟩
abbrev GSt:=Int×Nat×List aB×List (List OV)×Heap×Option Nat×Nat×Int×Int
def xU (p:aF) (vars:Int) (dp a2:Nat) (L:Int) (B:Heap) (ns ng n8 n9:Nat):GSt->Prop:=λ(K,i,kids,es,g1,o,a3,_,L3) =>
 (3<=K/\K<=9)/\i<=(dK K).toNat/\kids.length=i/\OR aB.o kids es/\fY B (OV.cT es) g1/\(g1 ns=none/\g1 ng=none/\g1 n8=none/\g1 n9=none)/\aBE g1 es o/\(∀ m,o=some m->¬m=ns/\¬m=ng/\¬m=n8/\¬m=n9) /\
  (∀ (j:Nat) (h:j<kids.length),kids[j].ok p p.aI.length (gL K j vars))/\aB.dL kids<=dp/\(L3<=L-1/\(L-1)-pE aB.s kids<=L3/\pE aB.s kids+3*mL L3<=3*mL (L-1)+i)/\(a2<=a3/\a3<=a2+14*pE aB.s kids)
theorem aLP (x:aB):∀ l:List aB,aB.dL (l++[x])=max (aB.dL l) x.d
 | []=>by simp[aB.dL]
 |y::l=>by rw[aE9,aB.dL,aB.dL,aLP x l];omega
theorem xU.next {p:aF} {vars:Int} {dp a2:Nat} {L:Int} {B:Heap} {ns ng n8 n9:Nat} {K:Int} {i:Nat} {kids:List aB} {es:List (List OV)} {g1 g5:Heap} {o:Option Nat} {a3 a5:Nat} {wT sd5 L3 L5:Int} {x:aB} {e:List OV} {m:Nat}
  (h:xU p vars dp a2 L B ns ng n8 n9 (K,i,kids,es,g1,o,a3,wT,L3)) (hlt:(i:Int)<dK K) (hx:x.o e) (w:fY g1 (OV.dD e) g5) (z:g5 ns=none/\g5 ng=none/\g5 n8=none/\g5 n9=none) (hm:g5 m=none) (hm2:¬m=ns/\¬m=ng/\¬m=n8/\¬m=n9)
  (hok:x.ok p p.aI.length (gL K i vars)) (hd:x.d<=dp) (hL:L5<=L3-1/\L3-(x.s+1)<=L5/\x.s+3*mL L5<=3*mL L3) (ha:a3<=a5/\a5<=a3+14*(x.s+1)):xU p vars dp a2 L B ns ng n8 n9 (K,i+1,kids++[x],es++[e],g5,some m,a5,sd5,L5):=by
 obtain⟨hK,hi,hlen,hor,hnew,-,-,-,bAJ,hdl,hL3,ha3⟩:=h
 refine⟨hK,by omega,by rw[k8,hlen];rfl,OR.append hor ⟨hx,trivial⟩,fY.snoc hnew w,z,hm,λb q=>by cases q;exact hm2,λj hj=>?_,by rw[aLP];omega,?_,?_⟩
 ·rcases cQ j kids.length with h2|h2
  ·rw[List.getElem_append_left h2];exact bAJ j h2
  ·obtain rfl:j=kids.length:=by rw[k8]at hj;simp at hj;omega
   rw[List.getElem_append_right (j4 _)]
   simp only[zF,List.getElem_cons_zero]
   rw[hlen];exact hok
 ·rw[aB2];refine⟨by omega,by omega,by omega⟩
 ·rw[aB2];omega
theorem a0D {p:aF} {ns ng np:Nat} {c:List Int} {pl:Bool} {vars:Int} {dp a a2:Nat} {L:Int} {B H:Heap} {n8 n9:Nat} {K:Int} {i:Nat} {kids:List aB} {es:List (List OV)} {g1:Heap} {o:Option Nat} {a3:Nat} {wT L3:Int}
  (h:xU p vars dp a2 L B ns ng n8 n9 (K,i,kids,es,g1,o,a3,wT,L3)) (hi:(i:Int)=dK K) (ha:a<=a2/\a2<=a+4) (h1:¬L-1<1) (hle:(aR (aR (c8 g1 (.row 5 (OV.cells es)) o) ns (iX c a3 wT)) ng (kB ns np L3 pl)).le H) :
  ∃ r1 g2,Shift (.agg [I K,I 0,I 0,I 0,gK 5 i o]) H r1 g2/\a4I p ns ng np c pl vars dp a L B r1 g2:=by
 obtain⟨hK,-,hlen,hor,hnew,⟨zs,zg,-,-⟩,hgs,hon,hok,hdl,hL,ha3⟩:=h
 have hes:es.length=i:=by rw[←hor.length];exact hlen
 have hk3:i<=3:=by
  have:dK K<=3:=by unfold dK;split <;> (try split) <;> (try split) <;> (try split) <;> omega
  omega
 rw[←hes]
 have hat:∀ q,B q=B q:=λ_=>rfl
 have z (q:Nat) (hq:g1 q=none) (hqo:∀ m,o=some m->¬m=q):c8 g1 (.row 5 (OV.cells es)) o q=none:=jW hq hqo
 refine⟨_,_,Shift.of (Sub.agg (.cons (.refl _) (.cons (.refl _) (.cons (.refl _) (.cons (.refl _) (.cons aSR .nil)))))) hle,.mk K 0 0 0 kids,[.v (I K),.v (I 0),.v (I 0),.v (I 0),gov 5 es o],_,a3,wT,L3,(aB.sC _ _).2 ⟨_,rfl,aP9 hor hgs⟩,rfl,
  by simpa only[OV.p7,OV.sV,OV.xK,eC,eV]using aKQ hnew hgs,⟨z ns zs λm e=>(hon m e).1,z ng zg λm e=>(hon m e).2.1⟩,rfl,(aB.cS _ _ _ _).2 ⟨?_,hok⟩,by rw[aB.aYV];simp only[aB.aK];omega,?_,?_⟩
 ·rw[dI aW8]
  simp only[aB.aN,aB.aX,aB.cF,aB.b7,aB.aK]
  refine⟨by omega,trivial,trivial,λq=>by omega,λq=>by omega,λ_ _=>trivial⟩
 ·rw[aZ7];unfold mL at hL ⊢;refine⟨by omega,by omega,by omega⟩
 ·rw[aZ7];omega
theorem share {T G:Prop} (m:T->G) (t:T):G:=m t
@[go_sem] def xV:List Nat:=[0,1,2,3,8,9,10,11,34,43,49,52,55,58,61,65,68,86,92,102]
@[go_sem] def aOZ:List Nat:=[113]
@[go_sem] def aO0:Marks:=λid=>match id with|32=>([1,7,9,11],(.op 0 (.op 2 (.op 3 (.op 4 (.op 5 (.op 6 (.op 1 (.op 7 (.op 8 (.op 9 (.op 10 (.op 11 .nil)))))))))))),[(1,7)])|_=>([],.nil,[])
set_option maxHeartbeats 8000000 in
theorem aHL {p:aF} {ns ng np:Nat} {c:List Int} {pl:Bool} (hc:∀ x∈c,InB x) (hl:c.length<=4096) (hne:¬ns=ng) (hP:aEX p) {dp:Nat} (ih:∀ d,d+1=dp->a0A Tryz.prog 34 p ns ng np c pl d) (hcall:1<=dp->a66 Tryz.prog 87 p ns ng np c pl dp):a0A Tryz.prog 34 p ns ng np c pl dp:=by
 intro vars B a sd L hB1 hB2 hprog ⟨hv,ha,hL⟩
 obtain⟨x8,bH,bI,j2⟩:=c7 (show ¬ns=ng from hne)
 have w1:IntKind.i64.wrap (L-1)=L-1:=IntWalk.i64_in _ aA
 refine gG 117 xV aOZ aO0 Tryz.func34 ?_
 simp -dsimp -implicitDefEqProofs only[go_sem,↓reduceIte,Tryz.f34,kB]
 intro n8 q8
 have a8:¬n8=ng:=by grind
 have b8:¬n8=ns:=by grind
 have z8:B n8=none:=by grind
 obtain⟨a4J,bY,bZ,oK⟩:=c7 (show ¬n8=ng from a8)
 obtain⟨aB4,bF,bG,gQ⟩:=c7 (show ¬n8=ns from b8)
 simp -dsimp -implicitDefEqProofs only[go_sem,↓reduceIte,Tryz.f34,bY,bF,bZ,bI,bG,bH,aE,aM,kB,dP,dQ,dR,dS,dT,eC,eV,fX,w1,bT oK,bT gQ,aJ]
 rw[show(bW.row 4 [[.v (.op ns 3 0 0),.v (.op np 1 0 0),.v (.int .i64 (L-1)),.v (.bool pl)]])=kB ns np (L-1) pl from rfl]
 refine⟨λh1=>⟨λh2=>?_,λh2=>?_⟩,λh1=>?_⟩
 ·refine aG.eH (aZ6 (a:=a) (sd:=sd) hc hl aA 5 aA aIY) ?_
  rintro r_ h' ⟨b,a1,sd1,rfl,ha1,rfl⟩
  simp only[bT j2,aJ]
  cases b
  ·simp -dsimp -implicitDefEqProofs only[go_sem,↓reduceIte,Tryz.f34,bY,bF,bZ,bI,bG,bH,aE,aM,dP,dQ,dR,dS,dT,eC,eV,fX]
   intro n9 q9
   have a9:¬n9=ng:=by grind
   have b9:¬n9=ns:=by grind
   have c9:¬n9=n8:=by grind
   have z9:B n9=none:=by grind
   obtain⟨a4K,cH,cI,oJ⟩:=c7 (show ¬n9=ng from a9)
   obtain⟨aT3,bN,bO,kP⟩:=c7 (show ¬n9=ns from b9)
   obtain⟨x7,bP,bQ,aT4⟩:=c7 (show ¬n9=n8 from c9)
   simp -dsimp -implicitDefEqProofs only[go_sem,↓reduceIte,Tryz.f34,bY,bF,bQ,bZ,bI,cI,bG,bH,bO,bP,cH,bN,aE,aM,kB,dP,dQ,dR,dS,dT,eC,eV,fX,bT oJ,bT kP,aJ]
   refine aG.eH (qG (a:=a1) (sd:=sd1) hc hl aA 12 aA aIY) ?_
   rintro r_ h' ⟨x,a2,yN,rfl,x0,x1,-,ha2,rfl⟩
   simp only[bT j2,aJ]
   simp -dsimp -implicitDefEqProofs only[go_sem,↓reduceIte,Tryz.f34,bY,bF,bQ,bZ,bI,cI,bG,bH,bO,bP,cH,bN,aE,aM,dP,dQ,dR,dS,dT,eC,eV,fX,bT oJ,bT kP,aJ]
   apply share
   case m =>
    intro key
    repeat'(with_reducible first|intro _|refine And.intro ?_ ?_)
    all_goals try
     first
     |skip
      refine dJ xV aOZ aO0 (λx:GSt=>[(0,.op ng 4 0 0),(1,I vars),(2,I p.aI.length),(3,I dp),(8,.op n8 5 0 0),(9,.op n9 5 0 0),(10,I x.2.1)]) (λx=>aR (aR (aR (aR (c8 x.2.2.2.2.1 (.row 5 (OV.cells x.2.2.2.1)) x.2.2.2.2.2.1) n8 (sN 0 0 0 0 .aW)) n9 (sN x.1 0 0 0 (gK 5 x.2.1 x.2.2.2.2.2.1))) ns (iX c x.2.2.2.2.2.2.1 x.2.2.2.2.2.2.2.1)) ng (kB ns np x.2.2.2.2.2.2.2.2 pl)) (λx=>xU p vars dp a2 L B ns ng n8 n9 x) (λx=>(dK x.1).toNat-x.2.1) (7,0,[],[],B,none,a2,yN,L-1) ⟨by simp[dM,cE],Heap.le_refl _,by decide,by decide,rfl,trivial,fY.nil B,⟨hB1,hB2,z8,z9⟩,rfl,(λm e=>by cases e),(λj h=>by cases h),gM _,⟨aCB _,by simp[pE],by simp[pE]⟩,by simp[pE]⟩ ?_
      exact key
     |skip
      refine dJ xV aOZ aO0 (λx:GSt=>[(0,.op ng 4 0 0),(1,I vars),(2,I p.aI.length),(3,I dp),(8,.op n8 5 0 0),(9,.op n9 5 0 0),(10,I x.2.1)]) (λx=>aR (aR (aR (aR (c8 x.2.2.2.2.1 (.row 5 (OV.cells x.2.2.2.1)) x.2.2.2.2.2.1) n8 (sN 0 0 0 0 .aW)) n9 (sN x.1 0 0 0 (gK 5 x.2.1 x.2.2.2.2.2.1))) ns (iX c x.2.2.2.2.2.2.1 x.2.2.2.2.2.2.2.1)) ng (kB ns np x.2.2.2.2.2.2.2.2 pl)) (λx=>xU p vars dp a2 L B ns ng n8 n9 x) (λx=>(dK x.1).toNat-x.2.1) (9,0,[],[],B,none,a2,yN,L-1) ⟨by simp[dM,cE],Heap.le_refl _,by decide,by decide,rfl,trivial,fY.nil B,⟨hB1,hB2,z8,z9⟩,rfl,(λm e=>by cases e),(λj h=>by cases h),gM _,⟨aCB _,by simp[pE],by simp[pE]⟩,by simp[pE]⟩ ?_
      exact key
     |skip
      refine dJ xV aOZ aO0 (λx:GSt=>[(0,.op ng 4 0 0),(1,I vars),(2,I p.aI.length),(3,I dp),(8,.op n8 5 0 0),(9,.op n9 5 0 0),(10,I x.2.1)]) (λx=>aR (aR (aR (aR (c8 x.2.2.2.2.1 (.row 5 (OV.cells x.2.2.2.1)) x.2.2.2.2.2.1) n8 (sN 0 0 0 0 .aW)) n9 (sN x.1 0 0 0 (gK 5 x.2.1 x.2.2.2.2.2.1))) ns (iX c x.2.2.2.2.2.2.1 x.2.2.2.2.2.2.2.1)) ng (kB ns np x.2.2.2.2.2.2.2.2 pl)) (λx=>xU p vars dp a2 L B ns ng n8 n9 x) (λx=>(dK x.1).toNat-x.2.1) (8,0,[],[],B,none,a2,yN,L-1) ⟨by simp[dM,cE],Heap.le_refl _,by decide,by decide,rfl,trivial,fY.nil B,⟨hB1,hB2,z8,z9⟩,rfl,(λm e=>by cases e),(λj h=>by cases h),gM _,⟨aCB _,by simp[pE],by simp[pE]⟩,by simp[pE]⟩ ?_
      exact key
     |skip
      refine dJ xV aOZ aO0 (λx:GSt=>[(0,.op ng 4 0 0),(1,I vars),(2,I p.aI.length),(3,I dp),(8,.op n8 5 0 0),(9,.op n9 5 0 0),(10,I x.2.1)]) (λx=>aR (aR (aR (aR (c8 x.2.2.2.2.1 (.row 5 (OV.cells x.2.2.2.1)) x.2.2.2.2.2.1) n8 (sN 0 0 0 0 .aW)) n9 (sN x.1 0 0 0 (gK 5 x.2.1 x.2.2.2.2.2.1))) ns (iX c x.2.2.2.2.2.2.1 x.2.2.2.2.2.2.2.1)) ng (kB ns np x.2.2.2.2.2.2.2.2 pl)) (λx=>xU p vars dp a2 L B ns ng n8 n9 x) (λx=>(dK x.1).toNat-x.2.1) (6,0,[],[],B,none,a2,yN,L-1) ⟨by simp[dM,cE],Heap.le_refl _,by decide,by decide,rfl,trivial,fY.nil B,⟨hB1,hB2,z8,z9⟩,rfl,(λm e=>by cases e),(λj h=>by cases h),gM _,⟨aCB _,by simp[pE],by simp[pE]⟩,by simp[pE]⟩ ?_
      exact key
     |skip
      refine dJ xV aOZ aO0 (λx:GSt=>[(0,.op ng 4 0 0),(1,I vars),(2,I p.aI.length),(3,I dp),(8,.op n8 5 0 0),(9,.op n9 5 0 0),(10,I x.2.1)]) (λx=>aR (aR (aR (aR (c8 x.2.2.2.2.1 (.row 5 (OV.cells x.2.2.2.1)) x.2.2.2.2.2.1) n8 (sN 0 0 0 0 .aW)) n9 (sN x.1 0 0 0 (gK 5 x.2.1 x.2.2.2.2.2.1))) ns (iX c x.2.2.2.2.2.2.1 x.2.2.2.2.2.2.2.1)) ng (kB ns np x.2.2.2.2.2.2.2.2 pl)) (λx=>xU p vars dp a2 L B ns ng n8 n9 x) (λx=>(dK x.1).toNat-x.2.1) (3,0,[],[],B,none,a2,yN,L-1) ⟨by simp[dM,cE],Heap.le_refl _,by decide,by decide,rfl,trivial,fY.nil B,⟨hB1,hB2,z8,z9⟩,rfl,(λm e=>by cases e),(λj h=>by cases h),gM _,⟨aCB _,by simp[pE],by simp[pE]⟩,by simp[pE]⟩ ?_
      exact key
     |skip
      refine dJ xV aOZ aO0 (λx:GSt=>[(0,.op ng 4 0 0),(1,I vars),(2,I p.aI.length),(3,I dp),(8,.op n8 5 0 0),(9,.op n9 5 0 0),(10,I x.2.1)]) (λx=>aR (aR (aR (aR (c8 x.2.2.2.2.1 (.row 5 (OV.cells x.2.2.2.1)) x.2.2.2.2.2.1) n8 (sN 0 0 0 0 .aW)) n9 (sN x.1 0 0 0 (gK 5 x.2.1 x.2.2.2.2.2.1))) ns (iX c x.2.2.2.2.2.2.1 x.2.2.2.2.2.2.2.1)) ng (kB ns np x.2.2.2.2.2.2.2.2 pl)) (λx=>xU p vars dp a2 L B ns ng n8 n9 x) (λx=>(dK x.1).toNat-x.2.1) (4,0,[],[],B,none,a2,yN,L-1) ⟨by simp[dM,cE],Heap.le_refl _,by decide,by decide,rfl,trivial,fY.nil B,⟨hB1,hB2,z8,z9⟩,rfl,(λm e=>by cases e),(λj h=>by cases h),gM _,⟨aCB _,by simp[pE],by simp[pE]⟩,by simp[pE]⟩ ?_
      exact key
     |skip
      refine dJ xV aOZ aO0 (λx:GSt=>[(0,.op ng 4 0 0),(1,I vars),(2,I p.aI.length),(3,I dp),(8,.op n8 5 0 0),(9,.op n9 5 0 0),(10,I x.2.1)]) (λx=>aR (aR (aR (aR (c8 x.2.2.2.2.1 (.row 5 (OV.cells x.2.2.2.1)) x.2.2.2.2.2.1) n8 (sN 0 0 0 0 .aW)) n9 (sN x.1 0 0 0 (gK 5 x.2.1 x.2.2.2.2.2.1))) ns (iX c x.2.2.2.2.2.2.1 x.2.2.2.2.2.2.2.1)) ng (kB ns np x.2.2.2.2.2.2.2.2 pl)) (λx=>xU p vars dp a2 L B ns ng n8 n9 x) (λx=>(dK x.1).toNat-x.2.1) (5,0,[],[],B,none,a2,yN,L-1) ⟨by simp[dM,cE],Heap.le_refl _,by decide,by decide,rfl,trivial,fY.nil B,⟨hB1,hB2,z8,z9⟩,rfl,(λm e=>by cases e),(λj h=>by cases h),gM _,⟨aCB _,by simp[pE],by simp[pE]⟩,by simp[pE]⟩ ?_
      exact key
    all_goals
     rw[show ∀ H:Heap,aR H ng (bW.row 4 [[Cell.v (aC.op ns 3 0 0),Cell.v (aC.op np 1 0 0),Cell.v (I (L-1)),Cell.v (aC.bool pl)]])=aR H ng (kB ns np (L-1) pl)from λ_=>rfl]
     refine aG.eH (hcall aA vars _ a2 yN (L-1) (by rw[aE _ _ _ _ kP,aE _ _ _ _ gQ];exact hB1) (by rw[aE _ _ _ _ oJ,aE _ _ _ _ oK];exact hB2) (hprog.le (Heap.bA z9 (Heap.bA z8 (Heap.le_refl _)))) ⟨by omega,by omega⟩ (by unfold mL at ha ⊢;omega) ⟨by omega,by omega,by omega⟩) ?_
     rintro r_ h' ⟨x,e,g',a',sd',L',hx,rfl,hnew,⟨y1,y2⟩,rfl,hok,hd,hL',ha'⟩
     obtain⟨g5,rfl,w5,z58,z59⟩:=fY.zT z8 (by rw[aE _ _ _ _ x7];exact z9) hnew
     simp only[aM,bY,bF,bQ,bZ,bI,cI,bG,bH,bO,bP,cH,bN,if_false]at y1 y2 z59
     rw[aB.sC]at hx
     obtain⟨y4,rfl,zD⟩:=hx
     simp -dsimp -implicitDefEqProofs only[go_sem,↓reduceIte,Tryz.f34,bY,bF,bQ,bZ,bI,cI,bG,bH,bO,bP,cH,bN,aE,aM,OV.gD,OV.c6,OV.lN,zD.flat,zD.one]
     exact a0C (x:=x) (a':=a') (sd':=sd') (L':=L') ((aB.sC _ _).2 ⟨y4,rfl,zD⟩) w5 ⟨y1,y2⟩ hok hd hL' aA h1 (by
      intro q_
      simp only[aM]
      grind)
   case t =>
    rintro⟨K,i,kids,es,g1,o,a3,wT,L3⟩ hgg
    obtain⟨hK,hi,hlen,hor,hnew,⟨zs,zg,z18,z19⟩,hgs,hon,hok,hdl,hL3,ha3⟩:=id hgg
    simp only at hi hlen hor hnew zs zg z18 z19 hgs hon hok hdl hL3 ha3 hK ⊢
    have hkn:0<=dK K/\dK K<=3:=by unfold dK;split <;> (try split) <;> (try split) <;> (try split) <;> omega
    have wd:IntKind.i64.wrap ((dp:Int)-1)=((dp-1:Nat):Int):=by rw[IntWalk.i64_in _ aA];omega
    have hml:3*mL (L-1)+3=3*mL L:=by unfold mL;omega
    have a11:mL L<=1000:=by unfold mL;omega
    have wv:IntKind.i64.wrap (vars+1)=vars+1:=IntWalk.i64_in _ aA
    unfold sN
    simp -dsimp -implicitDefEqProofs only[go_sem,↓reduceIte,Tryz.f34,bY,bF,bQ,bZ,bI,cI,bG,bH,bO,bP,cH,bN,aE,aM,dP,dQ,dR,dS,dT,eC,eV,fX]
    first|refine aG.mk ((s6 K)) ?_|refine aD.mk ((s6 K)) ?_|refine aG.bC ((s6 K)) ?_|refine aD.mk (aZ.dB ((s6 K))) ?_
    simp -dsimp -implicitDefEqProofs only[go_sem,↓reduceIte,Tryz.f34,bY,bF,bQ,bZ,bI,cI,bG,bH,bO,bP,cH,bN,aE,aM,dP,dQ,dR,dS,dT,eC,eV,fX,wd,wv]
    refine⟨λhlt=>⟨λk9=>⟨λi1=>?_,λi1=>?_⟩,λk9=>?_⟩,λhge=>⟨mB ..,?_⟩⟩
    ·have hV:vars+1=gL K i vars:=by unfold gL;rw[if_pos ⟨k9,by omega⟩]
     cases o with
     |none =>
      rw[kT]at hgs
      subst hgs
      obtain rfl:kids=[]:=aE8.1 hor.length
      obtain rfl:i=0:=hlen.symm
      simp only[aQ,gJ]
      refine aG.eH (ih (dp-1) aA (vars+1) _ a3 wT L3 aRS aRU (hprog.le (Heap.bA z9 (Heap.bA z8 hnew.le))) ⟨by omega,by omega,by omega⟩) ?_
      rintro r_ h' ⟨x5,e5,g',a5,sd5,L5,hx,rfl,hnw,⟨y1,y2⟩,rfl,aFF,hd5,hL5,ha5⟩
      obtain⟨g5,rfl,w5,z58,z59⟩:=fY.zT z18 aR1 hnw
      simp only[aM,bY,bF,bQ,bZ,bI,cI,bG,bH,bO,bP,cH,bN,if_false]at y1 y2 z59
      have hx5:=hx
      rw[aB.sC]at hx
      obtain⟨y4,rfl,zD⟩:=hx
      simp -dsimp -implicitDefEqProofs only[go_sem,↓reduceIte,Tryz.f34,bY,bF,bQ,bZ,bI,cI,bG,bH,bO,bP,cH,bN,aE,aM,dP,dQ,dR,dS,dT,eC,eV,fX,OV.gD,OV.c6,OV.lN,zD.flat,zD.one]
      have ht:=eM []
      refine⟨by decide,by decide,by decide,λm qm=>?_⟩
      have am:¬m=ns:=by grind
      have bm:¬m=ng:=by grind
      have cm:¬m=n8:=by grind
      have em:¬m=n9:=by grind
      have dm:g5 m=none:=by grind
      skip
      obtain⟨qS,fO,fP,qT⟩:=c7 (show ¬m=ns from am)
      obtain⟨vV,iY,iZ,vW⟩:=c7 (show ¬m=ng from bm)
      obtain⟨tU,iE,iF,tV⟩:=c7 (show ¬m=n8 from cm)
      obtain⟨vX,jA,jB,vY⟩:=c7 (show ¬m=n9 from em)
      simp -dsimp -implicitDefEqProofs only[go_sem,↓reduceIte,Tryz.f34,bY,bF,bQ,iF,bZ,bI,cI,iZ,bG,bH,bO,fP,bP,cH,bN,jB,iE,iY,fO,jA,aE,aM,dP,dQ,dR,dS,dT,eC,eV,fX]
      refine⟨(K,0+1,[]++[x5],[]++[[.v (.int .i64 x5.aN),.v (.int .i64 x5.aX),.v (.int .i64 x5.cF),.v (.int .i64 x5.b7),y4]],g5,some m,a5,sd5,L5),IntWalk.i64_in _ aA,?_,hgg.next hlt hx5 w5 ⟨y1,y2,z58,z59⟩ dm ⟨am,bm,cm,em⟩ aDE aA hL5 ha5,by simp only;omega⟩
      intro q_
      simp only[aM,aL,bD,iN,eM,dY,jR,jS,OV.gD,OV.c6,OV.lN,eC,qH,x4,ht]
      grind
     |some m0 =>
      rw[kU]at hgs
      obtain⟨hm1,hm2,hm3,hm4⟩:=hon m0 rfl
      obtain⟨aB5,hJ,hU,x6⟩:=c7 (show ¬m0=ns from hm1)
      obtain⟨aLQ,kY,kZ,aEF⟩:=c7 (show ¬m0=ng from hm2)
      obtain⟨aEY,jC,jD,aAN⟩:=c7 (show ¬m0=n8 from hm3)
      obtain⟨aEZ,jE,jF,aAL⟩:=c7 (show ¬m0=n9 from hm4)
      have hBm:B m0=none:=by
       cases hb:B m0 with
       |none=>rfl
       |some v=>have:=hnew.keep hb;rw[hgs]at this;cases this
      simp only[aL,bD]
      refine aG.eH (ih (dp-1) aA (vars+1) _ a3 wT L3 aRO aRP (hprog.le (Heap.bA z9 (Heap.bA z8 (Heap.bA hBm hnew.le)))) ⟨by omega,by omega,by omega⟩) ?_
      rintro r_ h' ⟨x5,e5,g',a5,sd5,L5,hx,rfl,hnw,⟨y1,y2⟩,rfl,aFF,hd5,hL5,ha5⟩
      obtain⟨g5,rfl,w5,z50,z58,z59⟩:=fY.aKN hgs aR2 aRR hnw
      simp only[aM,bY,bF,bQ,jD,bZ,bI,cI,kZ,bG,bH,bO,hU,bP,cH,bN,jF,jC,kY,hJ,jE,if_false]at y1 y2 z58 z59
      have hx5:=hx
      rw[aB.sC]at hx
      obtain⟨y4,rfl,zD⟩:=hx
      simp -dsimp -implicitDefEqProofs only[go_sem,↓reduceIte,Tryz.f34,bY,bF,bQ,jD,bZ,bI,cI,kZ,bG,bH,bO,hU,bP,cH,bN,jF,jC,kY,hJ,jE,aE,aM,dP,dQ,dR,dS,dT,eC,eV,fX,OV.gD,OV.c6,OV.lN,zD.flat,zD.one,dY]
      have ht:List.take i (OV.cells es)=OV.cells es:=kC aMJ
      refine⟨by decide,by decide,by decide,by have:=hor.length;omega,by omega,by omega,λm qm=>?_⟩
      have am:¬m=ns:=by grind
      have bm:¬m=ng:=by grind
      have cm:¬m=n8:=by grind
      have em:¬m=n9:=by grind
      have dm:g5 m=none:=by grind
      have fm:¬m=m0:=(by grind);have vZ:=eq_false fm;have v7:=eq_false (sJ fm);have aLR:=fm;have aLS:=sJ fm
      obtain⟨qS,fO,fP,qT⟩:=c7 (show ¬m=ns from am)
      obtain⟨vV,iY,iZ,vW⟩:=c7 (show ¬m=ng from bm)
      obtain⟨tU,iE,iF,tV⟩:=c7 (show ¬m=n8 from cm)
      obtain⟨vX,jA,jB,vY⟩:=c7 (show ¬m=n9 from em)
      simp -dsimp -implicitDefEqProofs only[go_sem,↓reduceIte,Tryz.f34,bY,bF,bQ,iF,bZ,bI,cI,iZ,bG,bH,bO,fP,bP,cH,bN,jB,iE,iY,fO,jA,vZ,iE,jA,iY,fO,v7,jC,jE,kY,hJ,iF,jD,bQ,bY,bF,jB,jF,bP,cH,bN,iZ,kZ,bZ,cI,bI,fP,hU,bG,bO,bH,aE,aM,dP,dQ,dR,dS,dT,eC,eV,fX]
      refine⟨(K,i+1,kids++[x5],es++[[.v (.int .i64 x5.aN),.v (.int .i64 x5.aX),.v (.int .i64 x5.cF),.v (.int .i64 x5.b7),y4]],g5,some m,a5,sd5,L5),IntWalk.i64_in _ aA,?_,hgg.next hlt hx5 w5 ⟨y1,y2,z58,z59⟩ dm ⟨am,bm,cm,em⟩ aDE aA hL5 ha5,by simp only;omega⟩
      intro q_
      simp only[aM,aL,bD,iN,eM,dY,jR,jS,OV.gD,OV.c6,OV.lN,eC,qH,x4,ht]
      grind
    ·have hV:vars=gL K i vars:=by unfold gL;rw[if_neg (λq=>i1 aA)]
     cases o with
     |none =>
      rw[kT]at hgs
      subst hgs
      obtain rfl:kids=[]:=aE8.1 hor.length
      obtain rfl:i=0:=hlen.symm
      simp only[aQ,gJ]
      refine aG.eH (ih (dp-1) aA vars _ a3 wT L3 aRS aRU (hprog.le (Heap.bA z9 (Heap.bA z8 hnew.le))) ⟨by omega,by omega,by omega⟩) ?_
      rintro r_ h' ⟨x5,e5,g',a5,sd5,L5,hx,rfl,hnw,⟨y1,y2⟩,rfl,aFF,hd5,hL5,ha5⟩
      obtain⟨g5,rfl,w5,z58,z59⟩:=fY.zT z18 aR1 hnw
      simp only[aM,bY,bF,bQ,bZ,bI,cI,bG,bH,bO,bP,cH,bN,if_false]at y1 y2 z59
      have hx5:=hx
      rw[aB.sC]at hx
      obtain⟨y4,rfl,zD⟩:=hx
      simp -dsimp -implicitDefEqProofs only[go_sem,↓reduceIte,Tryz.f34,bY,bF,bQ,bZ,bI,cI,bG,bH,bO,bP,cH,bN,aE,aM,dP,dQ,dR,dS,dT,eC,eV,fX,OV.gD,OV.c6,OV.lN,zD.flat,zD.one]
      have ht:=eM []
      refine⟨by decide,by decide,by decide,λm qm=>?_⟩
      have am:¬m=ns:=by grind
      have bm:¬m=ng:=by grind
      have cm:¬m=n8:=by grind
      have em:¬m=n9:=by grind
      have dm:g5 m=none:=by grind
      skip
      obtain⟨qS,fO,fP,qT⟩:=c7 (show ¬m=ns from am)
      obtain⟨vV,iY,iZ,vW⟩:=c7 (show ¬m=ng from bm)
      obtain⟨tU,iE,iF,tV⟩:=c7 (show ¬m=n8 from cm)
      obtain⟨vX,jA,jB,vY⟩:=c7 (show ¬m=n9 from em)
      simp -dsimp -implicitDefEqProofs only[go_sem,↓reduceIte,Tryz.f34,bY,bF,bQ,iF,bZ,bI,cI,iZ,bG,bH,bO,fP,bP,cH,bN,jB,iE,iY,fO,jA,aE,aM,dP,dQ,dR,dS,dT,eC,eV,fX]
      refine⟨(K,0+1,[]++[x5],[]++[[.v (.int .i64 x5.aN),.v (.int .i64 x5.aX),.v (.int .i64 x5.cF),.v (.int .i64 x5.b7),y4]],g5,some m,a5,sd5,L5),IntWalk.i64_in _ aA,?_,hgg.next hlt hx5 w5 ⟨y1,y2,z58,z59⟩ dm ⟨am,bm,cm,em⟩ aDE aA hL5 ha5,by simp only;omega⟩
      intro q_
      simp only[aM,aL,bD,iN,eM,dY,jR,jS,OV.gD,OV.c6,OV.lN,eC,qH,x4,ht]
      grind
     |some m0 =>
      rw[kU]at hgs
      obtain⟨hm1,hm2,hm3,hm4⟩:=hon m0 rfl
      obtain⟨aB5,hJ,hU,x6⟩:=c7 (show ¬m0=ns from hm1)
      obtain⟨aLQ,kY,kZ,aEF⟩:=c7 (show ¬m0=ng from hm2)
      obtain⟨aEY,jC,jD,aAN⟩:=c7 (show ¬m0=n8 from hm3)
      obtain⟨aEZ,jE,jF,aAL⟩:=c7 (show ¬m0=n9 from hm4)
      have hBm:B m0=none:=by
       cases hb:B m0 with
       |none=>rfl
       |some v=>have:=hnew.keep hb;rw[hgs]at this;cases this
      simp only[aL,bD]
      refine aG.eH (ih (dp-1) aA vars _ a3 wT L3 aRO aRP (hprog.le (Heap.bA z9 (Heap.bA z8 (Heap.bA hBm hnew.le)))) ⟨by omega,by omega,by omega⟩) ?_
      rintro r_ h' ⟨x5,e5,g',a5,sd5,L5,hx,rfl,hnw,⟨y1,y2⟩,rfl,aFF,hd5,hL5,ha5⟩
      obtain⟨g5,rfl,w5,z50,z58,z59⟩:=fY.aKN hgs aR2 aRR hnw
      simp only[aM,bY,bF,bQ,jD,bZ,bI,cI,kZ,bG,bH,bO,hU,bP,cH,bN,jF,jC,kY,hJ,jE,if_false]at y1 y2 z58 z59
      have hx5:=hx
      rw[aB.sC]at hx
      obtain⟨y4,rfl,zD⟩:=hx
      simp -dsimp -implicitDefEqProofs only[go_sem,↓reduceIte,Tryz.f34,bY,bF,bQ,jD,bZ,bI,cI,kZ,bG,bH,bO,hU,bP,cH,bN,jF,jC,kY,hJ,jE,aE,aM,dP,dQ,dR,dS,dT,eC,eV,fX,OV.gD,OV.c6,OV.lN,zD.flat,zD.one,dY]
      have ht:List.take i (OV.cells es)=OV.cells es:=kC aMJ
      refine⟨by decide,by decide,by decide,by have:=hor.length;omega,by omega,by omega,λm qm=>?_⟩
      have am:¬m=ns:=by grind
      have bm:¬m=ng:=by grind
      have cm:¬m=n8:=by grind
      have em:¬m=n9:=by grind
      have dm:g5 m=none:=by grind
      have fm:¬m=m0:=(by grind);have vZ:=eq_false fm;have v7:=eq_false (sJ fm);have aLR:=fm;have aLS:=sJ fm
      obtain⟨qS,fO,fP,qT⟩:=c7 (show ¬m=ns from am)
      obtain⟨vV,iY,iZ,vW⟩:=c7 (show ¬m=ng from bm)
      obtain⟨tU,iE,iF,tV⟩:=c7 (show ¬m=n8 from cm)
      obtain⟨vX,jA,jB,vY⟩:=c7 (show ¬m=n9 from em)
      simp -dsimp -implicitDefEqProofs only[go_sem,↓reduceIte,Tryz.f34,bY,bF,bQ,iF,bZ,bI,cI,iZ,bG,bH,bO,fP,bP,cH,bN,jB,iE,iY,fO,jA,vZ,iE,jA,iY,fO,v7,jC,jE,kY,hJ,iF,jD,bQ,bY,bF,jB,jF,bP,cH,bN,iZ,kZ,bZ,cI,bI,fP,hU,bG,bO,bH,aE,aM,dP,dQ,dR,dS,dT,eC,eV,fX]
      refine⟨(K,i+1,kids++[x5],es++[[.v (.int .i64 x5.aN),.v (.int .i64 x5.aX),.v (.int .i64 x5.cF),.v (.int .i64 x5.b7),y4]],g5,some m,a5,sd5,L5),IntWalk.i64_in _ aA,?_,hgg.next hlt hx5 w5 ⟨y1,y2,z58,z59⟩ dm ⟨am,bm,cm,em⟩ aDE aA hL5 ha5,by simp only;omega⟩
      intro q_
      simp only[aM,aL,bD,iN,eM,dY,jR,jS,OV.gD,OV.c6,OV.lN,eC,qH,x4,ht]
      grind
    ·have hV:vars=gL K i vars:=by unfold gL;rw[if_neg (λq=>k9 q.1)]
     cases o with
     |none =>
      rw[kT]at hgs
      subst hgs
      obtain rfl:kids=[]:=aE8.1 hor.length
      obtain rfl:i=0:=hlen.symm
      simp only[aQ,gJ]
      refine aG.eH (ih (dp-1) aA vars _ a3 wT L3 aRS aRU (hprog.le (Heap.bA z9 (Heap.bA z8 hnew.le))) ⟨by omega,by omega,by omega⟩) ?_
      rintro r_ h' ⟨x5,e5,g',a5,sd5,L5,hx,rfl,hnw,⟨y1,y2⟩,rfl,aFF,hd5,hL5,ha5⟩
      obtain⟨g5,rfl,w5,z58,z59⟩:=fY.zT z18 aR1 hnw
      simp only[aM,bY,bF,bQ,bZ,bI,cI,bG,bH,bO,bP,cH,bN,if_false]at y1 y2 z59
      have hx5:=hx
      rw[aB.sC]at hx
      obtain⟨y4,rfl,zD⟩:=hx
      simp -dsimp -implicitDefEqProofs only[go_sem,↓reduceIte,Tryz.f34,bY,bF,bQ,bZ,bI,cI,bG,bH,bO,bP,cH,bN,aE,aM,dP,dQ,dR,dS,dT,eC,eV,fX,OV.gD,OV.c6,OV.lN,zD.flat,zD.one]
      have ht:=eM []
      refine⟨by decide,by decide,by decide,λm qm=>?_⟩
      have am:¬m=ns:=by grind
      have bm:¬m=ng:=by grind
      have cm:¬m=n8:=by grind
      have em:¬m=n9:=by grind
      have dm:g5 m=none:=by grind
      skip
      obtain⟨qS,fO,fP,qT⟩:=c7 (show ¬m=ns from am)
      obtain⟨vV,iY,iZ,vW⟩:=c7 (show ¬m=ng from bm)
      obtain⟨tU,iE,iF,tV⟩:=c7 (show ¬m=n8 from cm)
      obtain⟨vX,jA,jB,vY⟩:=c7 (show ¬m=n9 from em)
      simp -dsimp -implicitDefEqProofs only[go_sem,↓reduceIte,Tryz.f34,bY,bF,bQ,iF,bZ,bI,cI,iZ,bG,bH,bO,fP,bP,cH,bN,jB,iE,iY,fO,jA,aE,aM,dP,dQ,dR,dS,dT,eC,eV,fX]
      refine⟨(K,0+1,[]++[x5],[]++[[.v (.int .i64 x5.aN),.v (.int .i64 x5.aX),.v (.int .i64 x5.cF),.v (.int .i64 x5.b7),y4]],g5,some m,a5,sd5,L5),IntWalk.i64_in _ aA,?_,hgg.next hlt hx5 w5 ⟨y1,y2,z58,z59⟩ dm ⟨am,bm,cm,em⟩ aDE aA hL5 ha5,by simp only;omega⟩
      intro q_
      simp only[aM,aL,bD,iN,eM,dY,jR,jS,OV.gD,OV.c6,OV.lN,eC,qH,x4,ht]
      grind
     |some m0 =>
      rw[kU]at hgs
      obtain⟨hm1,hm2,hm3,hm4⟩:=hon m0 rfl
      obtain⟨aB5,hJ,hU,x6⟩:=c7 (show ¬m0=ns from hm1)
      obtain⟨aLQ,kY,kZ,aEF⟩:=c7 (show ¬m0=ng from hm2)
      obtain⟨aEY,jC,jD,aAN⟩:=c7 (show ¬m0=n8 from hm3)
      obtain⟨aEZ,jE,jF,aAL⟩:=c7 (show ¬m0=n9 from hm4)
      have hBm:B m0=none:=by
       cases hb:B m0 with
       |none=>rfl
       |some v=>have:=hnew.keep hb;rw[hgs]at this;cases this
      simp only[aL,bD]
      refine aG.eH (ih (dp-1) aA vars _ a3 wT L3 aRO aRP (hprog.le (Heap.bA z9 (Heap.bA z8 (Heap.bA hBm hnew.le)))) ⟨by omega,by omega,by omega⟩) ?_
      rintro r_ h' ⟨x5,e5,g',a5,sd5,L5,hx,rfl,hnw,⟨y1,y2⟩,rfl,aFF,hd5,hL5,ha5⟩
      obtain⟨g5,rfl,w5,z50,z58,z59⟩:=fY.aKN hgs aR2 aRR hnw
      simp only[aM,bY,bF,bQ,jD,bZ,bI,cI,kZ,bG,bH,bO,hU,bP,cH,bN,jF,jC,kY,hJ,jE,if_false]at y1 y2 z58 z59
      have hx5:=hx
      rw[aB.sC]at hx
      obtain⟨y4,rfl,zD⟩:=hx
      simp -dsimp -implicitDefEqProofs only[go_sem,↓reduceIte,Tryz.f34,bY,bF,bQ,jD,bZ,bI,cI,kZ,bG,bH,bO,hU,bP,cH,bN,jF,jC,kY,hJ,jE,aE,aM,dP,dQ,dR,dS,dT,eC,eV,fX,OV.gD,OV.c6,OV.lN,zD.flat,zD.one,dY]
      have ht:List.take i (OV.cells es)=OV.cells es:=kC aMJ
      refine⟨by decide,by decide,by decide,by have:=hor.length;omega,by omega,by omega,λm qm=>?_⟩
      have am:¬m=ns:=by grind
      have bm:¬m=ng:=by grind
      have cm:¬m=n8:=by grind
      have em:¬m=n9:=by grind
      have dm:g5 m=none:=by grind
      have fm:¬m=m0:=(by grind);have vZ:=eq_false fm;have v7:=eq_false (sJ fm);have aLR:=fm;have aLS:=sJ fm
      obtain⟨qS,fO,fP,qT⟩:=c7 (show ¬m=ns from am)
      obtain⟨vV,iY,iZ,vW⟩:=c7 (show ¬m=ng from bm)
      obtain⟨tU,iE,iF,tV⟩:=c7 (show ¬m=n8 from cm)
      obtain⟨vX,jA,jB,vY⟩:=c7 (show ¬m=n9 from em)
      simp -dsimp -implicitDefEqProofs only[go_sem,↓reduceIte,Tryz.f34,bY,bF,bQ,iF,bZ,bI,cI,iZ,bG,bH,bO,fP,bP,cH,bN,jB,iE,iY,fO,jA,vZ,iE,jA,iY,fO,v7,jC,jE,kY,hJ,iF,jD,bQ,bY,bF,jB,jF,bP,cH,bN,iZ,kZ,bZ,cI,bI,fP,hU,bG,bO,bH,aE,aM,dP,dQ,dR,dS,dT,eC,eV,fX]
      refine⟨(K,i+1,kids++[x5],es++[[.v (.int .i64 x5.aN),.v (.int .i64 x5.aX),.v (.int .i64 x5.cF),.v (.int .i64 x5.b7),y4]],g5,some m,a5,sd5,L5),IntWalk.i64_in _ aA,?_,hgg.next hlt hx5 w5 ⟨y1,y2,z58,z59⟩ dm ⟨am,bm,cm,em⟩ aDE aA hL5 ha5,by simp only;omega⟩
      intro q_
      simp only[aM,aL,bD,iN,eM,dY,jR,jS,OV.gD,OV.c6,OV.lN,eC,qH,x4,ht]
      grind
    ·have hi2:(i:Int)=dK K:=by omega
     have y8:c8 g1 (.row 5 (OV.cells es)) o n8=none:=jW z18 λm e=>(hon m e).2.2.1
     have y9:c8 g1 (.row 5 (OV.cells es)) o n9=none:=jW z19 λm e=>(hon m e).2.2.2
     exact a0D (vars:=vars) (a:=a) (L:=L) hgg hi2 aA h1 (by
      intro q_
      simp only[aM]
      grind)
  ·simp -dsimp -implicitDefEqProofs only[go_sem,↓reduceIte,Tryz.f34,bY,bF,bZ,bI,bG,bH,aE,aM,dP,dQ,dR,dS,dT,eC,eV,fX]
   refine aG.eH (aT1 (np:=np) (a:=a1) (sd:=sd1) (L:=L-1) (pl:=pl) (B:=aR B n8 (.row 5 [[.v (I 0),.v (I 0),.v (I 0),.v (I 0),.v .aW]])) hc hl hne vars aA aRZ aR0 aA) ?_
   rintro r_ h' ⟨k,n,a',sd',rfl,hkn,ha',rfl⟩
   simp -dsimp -implicitDefEqProofs only[go_sem,↓reduceIte,Tryz.f34,bY,bF,bZ,bI,bG,bH,aE,aM,bT oK,bT gQ,aJ]
   exact aHJ (a:=a) (a':=a') (sd':=sd') hkn hB1 hB2 aA (by
    intro q_
    simp only[aM]
    grind)
 ·refine aG.eH (aT1 (np:=np) (a:=a) (sd:=sd) (L:=L-1) (pl:=pl) (B:=aR B n8 (.row 5 [[.v (I 0),.v (I 0),.v (I 0),.v (I 0),.v .aW]])) hc hl hne vars aA aRZ aR0 aA) ?_
  rintro r_ h' ⟨k,n,a',sd',rfl,hkn,ha',rfl⟩
  simp -dsimp -implicitDefEqProofs only[go_sem,↓reduceIte,Tryz.f34,bY,bF,bZ,bI,bG,bH,aE,aM,bT oK,bT gQ,aJ]
  exact aHJ (a:=a) (a':=a') (sd':=sd') hkn hB1 hB2 aA (by
   intro q_
   simp only[aM]
   grind)
 ·refine aG.eH (aT1 (np:=np) (a:=a) (sd:=sd) (L:=L-1) (pl:=pl) (B:=aR B n8 (.row 5 [[.v (I 0),.v (I 0),.v (I 0),.v (I 0),.v .aW]])) hc hl hne vars aA aRZ aR0 aA) ?_
  rintro r_ h' ⟨k,n,a',sd',rfl,hkn,ha',rfl⟩
  simp -dsimp -implicitDefEqProofs only[go_sem,↓reduceIte,Tryz.f34,bY,bF,bZ,bI,bG,bH,aE,aM,bT oK,bT gQ,aJ]
  exact aHJ (a:=a) (a':=a') (sd':=sd') hkn hB1 hB2 aA (by
   intro q_
   simp only[aM]
   grind)
theorem aV5 {p:aF} {ns ng np:Nat} {c:List Int} {pl:Bool} {vars:Int} {dp a:Nat} {L:Int} {B H:Heap} {k n:Int} {a':Nat} {sd':Int} (h:(k=1/\fZ n)∨(k=2/\0<=n/\n<vars)) (hB1:B ns=none) (hB2:B ng=none) (ha:a<=a'/\a'<=a+10) (hle:(aR (aR B ns (iX c a' sd')) ng (kB ns np L pl)).le H) :
  ∃ r1 g2,Shift (.agg [I k,I n,I 0,I 0,.aW]) H r1 g2/\aZ9 p ns ng np c pl vars dp a L B r1 g2:=by
 refine⟨_,_,Shift.of (aOY k n) hle,_,_,B,a',sd',L,aZ8 k n,rfl,by rw[aJT];exact fY.nil B,⟨hB1,hB2⟩,rfl,aT2 h,by rw[a0B];omega,?_,by rw[aLO];omega⟩
 rw[aLO]
 omega
structure bLR (T:Prop):Prop where
 get:T
theorem a0E {T G:Prop} (m:bLR T->G) (t:T):G:=m ⟨t⟩
abbrev CSt:=Int×Nat×List aB×List (List OV)×Heap×Option Nat×Nat×Int×Int×Int
def aHM (p:aF) (f:aV) (vars:Int) (dp a:Nat) (L:Int) (B:Heap) (ns ng n8 n9:Nat):CSt->Prop:=λ(K,i,kids,es,g1,o,a3,_,L3,cnt) =>
 ((K=10/\cnt=0)∨(K=11/\0<=cnt/\cnt<=8/\(f.aO.length:Int)=f.bB))/\i<=f.bB.toNat/\kids.length=i/\OR aB.o kids es/\fY B (OV.cT es) g1/\(g1 ns=none/\g1 ng=none/\g1 n8=none/\g1 n9=none)/\aBE g1 es o/\(∀ m,o=some m->¬m=ns/\¬m=ng/\¬m=n8/\¬m=n9) /\
  (∀ (j:Nat) (h:j<kids.length),kids[j].ok p p.aI.length vars)/\aB.dL kids<=dp/\(L3<=L/\L-pE aB.s kids<=L3/\pE aB.s kids+3*mL L3<=3*mL L+i)/\(a<=a3/\a3<=a+10+14*pE aB.s kids)
theorem aHM.next {p:aF} {f:aV} {vars:Int} {dp a:Nat} {L:Int} {B:Heap} {ns ng n8 n9:Nat} {K cnt:Int} {i:Nat} {kids:List aB} {es:List (List OV)} {g1 g5:Heap} {o:Option Nat} {a3 a5:Nat} {wT sd5 L3 L5:Int} {x:aB} {e:List OV} {m:Nat}
  (h:aHM p f vars dp a L B ns ng n8 n9 (K,i,kids,es,g1,o,a3,wT,L3,cnt)) (hlt:(i:Int)<f.bB) (hx:x.o e) (w:fY g1 (OV.dD e) g5) (z:g5 ns=none/\g5 ng=none/\g5 n8=none/\g5 n9=none) (hm:g5 m=none) (hm2:¬m=ns/\¬m=ng/\¬m=n8/\¬m=n9)
  (hok:x.ok p p.aI.length vars) (hd:x.d<=dp) (hL:L5<=L3-1/\L3-(x.s+1)<=L5/\x.s+3*mL L5<=3*mL L3) (ha:a3<=a5/\a5<=a3+14*(x.s+1)):aHM p f vars dp a L B ns ng n8 n9 (K,i+1,kids++[x],es++[e],g5,some m,a5,sd5,L5,cnt):=by
 obtain⟨hK,hi,hlen,hor,hnew,-,-,-,bAJ,hdl,hL3,ha3⟩:=h
 refine⟨hK,by omega,by rw[k8,hlen];rfl,OR.append hor ⟨hx,trivial⟩,fY.snoc hnew w,z,hm,λb q=>by cases q;exact hm2,λj hj=>?_,by rw[aLP];omega,?_,?_⟩
 ·rcases cQ j kids.length with h2|h2
  ·rw[List.getElem_append_left h2];exact bAJ j h2
  ·obtain rfl:j=kids.length:=by rw[k8]at hj;simp at hj;omega
   rw[List.getElem_append_right (j4 _)]
   simp only[zF,List.getElem_cons_zero]
   exact hok
 ·rw[aB2];refine⟨by omega,by omega,by omega⟩
 ·rw[aB2];omega
theorem aV6 {p:aF} {f:aV} {ns ng np:Nat} {c:List Int} {pl:Bool} {vars:Int} {dp a k:Nat} {L y cnt:Int} {B H:Heap} {n8 n9:Nat} {K:Int} {i:Nat} {kids:List aB} {es:List (List OV)} {g1:Heap} {o:Option Nat} {a3:Nat} {wT L3:Int} (hf:p.aI[k]?=some f) (hf1:1<=f.bB/\f.bB<=3) (hy:0<=y/\y<f.aO.length)
  (h:aHM p f vars dp a L B ns ng n8 n9 (K,i,kids,es,g1,o,a3,wT,L3,cnt)) (hi:(i:Int)=f.bB) (hle:(aR (aR (c8 g1 (.row 5 (OV.cells es)) o) ns (iX c a3 wT)) ng (kB ns np L3 pl)).le H) :
  ∃ r1 g2,Shift (.agg [I K,I k,I y,I cnt,gK 5 i o]) H r1 g2/\aZ9 p ns ng np c pl vars dp a L B r1 g2:=by
 obtain⟨hK,-,hlen,hor,hnew,⟨zs,zg,-,-⟩,hgs,hon,hok,hdl,hL,ha3⟩:=h
 have hes:es.length=i:=by rw[←hor.length];exact hlen
 have hkl:k<p.aI.length:=by rcases cQ k p.aI.length with h|h;exact h;rw[aUR h]at hf;cases hf
 rw[←hes]
 have z (q:Nat) (hq:g1 q=none) (hqo:∀ m,o=some m->¬m=q):c8 g1 (.row 5 (OV.cells es)) o q=none:=jW hq hqo
 refine⟨_,_,Shift.of (Sub.agg (.cons (.refl _) (.cons (.refl _) (.cons (.refl _) (.cons (.refl _) (.cons aSR .nil)))))) hle,.mk K k y cnt kids,[.v (I K),.v (I k),.v (I y),.v (I cnt),gov 5 es o],_,a3,wT,L3,(aB.sC _ _).2 ⟨_,rfl,aP9 hor hgs⟩,rfl,
  by simpa only[OV.p7,OV.sV,OV.xK,eC,eV]using aKQ hnew hgs,⟨z ns zs λm e=>(hon m e).1,z ng zg λm e=>(hon m e).2.1⟩,rfl,(aB.cS _ _ _ _).2 ⟨?_,λj hj=>?_⟩,by rw[aB.aYV];simp only[aB.aK];omega,?_,?_⟩
 ·unfold kV
  rw[if_pos (show(aB.mk K k y cnt kids).aN=10∨(aB.mk K k y cnt kids).aN=11 from by simp only[aB.aN];omega)]
  simp only[aB.aN,aB.aX,aB.cF,aB.b7,aB.aK]
  refine⟨by omega,by omega,λf' hf'=>?_⟩
  rw[tX,hf]at hf'
  cases hf'
  refine⟨hy.1,by omega,by omega,λq=>by omega,λq=>by omega⟩
 ·have hm:gL (aB.mk K k y cnt kids).aN j vars=vars:=by unfold gL;rw[if_neg aW8]
  rw[hm]
  exact hok j hj
 ·rw[aZ7];refine⟨by omega,by omega,by omega⟩
 ·rw[aZ7];omega
@[go_sem] def aLT:List Nat:=[0,1,2,3,8,9,10,11,13,61,74]
@[go_sem] def a4L:List Nat:=[85]
@[go_sem] def a4M:Marks:=λid=>match id with|4=>([3,6,8],(.op 0 (.op 1 (.op 2 (.op 7 (.op 3 (.op 4 (.op 5 (.op 6 (.op 8 (.op 9 (.op 10 .nil))))))))))),[])|5=>([3,7,8,9,11],(.op 0 (.op 1 (.op 2 (.op 4 (.op 5 (.op 6 (.op 3 (.op 7 (.op 8 (.op 9 (.op 10 (.op 11 .nil)))))))))))),[(3,8)])|6=>([3,4,8,14,15],(.op 0 (.op 1 (.op 2 (.op 5 (.op 6 (.op 7 (.op 3 (.op 8 (.op 4 (.op 9 (.op 10 (.op 11 (.op 12 (.op 13 (.op 14 (.op 15 (.op 16 .nil))))))))))))))))),[(8,4)])|12=>([1,7,9,11],(.op 0 (.op 2 (.op 3 (.op 4 (.op 5 (.op 6 (.op 1 (.op 7 (.op 8 (.op 9 (.op 10 (.op 11 .nil)))))))))))),[(1,7)])|_=>([],.nil,[])
set_option maxHeartbeats 8000000 in
theorem aRA {p:aF} {ns ng np:Nat} {c:List Int} {pl:Bool} (hc:∀ x∈c,InB x) (hl:c.length<=4096) (hne:¬ns=ng) (hP:aEX p) (hpl:p.aI.length<=100) {dp:Nat} (hdp:1<=dp) (ih:∀ d,d+1=dp->a0A Tryz.prog 34 p ns ng np c pl d):a66 Tryz.prog 87 p ns ng np c pl dp:=by
 intro vars B a sd L hB1 hB2 hprog hv ha hL
 obtain⟨x8,bH,bI,j2⟩:=c7 (show ¬ns=ng from hne)
 refine gG 89 aLT a4L a4M Tryz.func87 ?_
 simp -dsimp -implicitDefEqProofs only[go_sem,↓reduceIte,Tryz.f87,kB]
 intro n8 q8
 have a8:¬n8=ng:=by grind
 have b8:¬n8=ns:=by grind
 have z8:B n8=none:=by grind
 obtain⟨a4J,bY,bZ,oK⟩:=c7 (show ¬n8=ng from a8)
 obtain⟨aB4,bF,bG,gQ⟩:=c7 (show ¬n8=ns from b8)
 simp -dsimp -implicitDefEqProofs only[go_sem,↓reduceIte,Tryz.f87,bY,bF,bZ,bI,bG,bH,aE,aM,kB,dP,dQ,dR,dS,dT,eC,eV,fX,bT oK,bT gQ,aJ]
 rw[show ∀ H:Heap,aR H ng (bW.row 4 [[Cell.v (aC.op ns 3 0 0),Cell.v (aC.op np 1 0 0),Cell.v (I L),Cell.v (aC.bool pl)]])=aR H ng (kB ns np L pl)from λ_=>rfl]
 refine⟨λh0=>?_,λh0=>?_⟩
 ·refine aG.eH (aT1 (np:=np) (a:=a) (sd:=sd) (L:=L) (pl:=pl) (B:=aR B n8 (.row 5 [[.v (I 0),.v (I 0),.v (I 0),.v (I 0),.v .aW]])) hc hl hne vars aA aRZ aR0 aA) ?_
  rintro r_ h' ⟨k,n,a',sd',rfl,hkn,ha',rfl⟩
  simp -dsimp -implicitDefEqProofs only[go_sem,↓reduceIte,Tryz.f87,bY,bF,bZ,bI,bG,bH,aE,aM,bT oK,bT gQ,aJ]
  exact aV5 (a:=a) (a':=a') (sd':=sd') hkn hB1 hB2 aA (by
   intro q_
   simp only[aM]
   grind)
 ·obtain⟨esF,oF,horF,hBp,honF,hBm⟩:=id hprog
  cases oF with
  |none=>exact absurd (by rw[honF rfl];rfl) h0
  |some mF =>
  have hBm:=hBm mF rfl
  have p1:¬np=ns:=λq=>by rw[q,hB1]at hBp;cases hBp
  have p2:¬np=ng:=λq=>by rw[q,hB2]at hBp;cases hBp
  have p3:¬np=n8:=λq=>by rw[q,z8]at hBp;cases hBp
  have m1:¬mF=ns:=λq=>by rw[q,hB1]at hBm;cases hBm
  have m2:¬mF=ng:=λq=>by rw[q,hB2]at hBm;cases hBm
  have m3:¬mF=n8:=λq=>by rw[q,z8]at hBm;cases hBm
  obtain⟨aT5,mH,mI,aE0⟩:=c7 (show ¬np=ns from p1)
  obtain⟨bIW,v8,wA,bIX⟩:=c7 (show ¬np=ng from p2)
  obtain⟨bIY,wB,wC,bIZ⟩:=c7 (show ¬np=n8 from p3)
  obtain⟨bI0,tA,tB,bI1⟩:=c7 (show ¬mF=ns from m1)
  obtain⟨bI2,tC,tD,bI3⟩:=c7 (show ¬mF=ng from m2)
  obtain⟨bI4,tE,tF,bI5⟩:=c7 (show ¬mF=n8 from m3)
  refine aG.eH (qG (a:=a) (sd:=sd) hc hl aA p.aI.length aA aIY) ?_
  rintro r_ h' ⟨x,a2,yN,rfl,x0,x1,-,ha2,rfl⟩
  simp only[bT j2,aJ]
  have x1:=x1 aA
  obtain⟨k,rfl⟩:∃ k:Nat,x=k:=⟨x.toNat,by omega⟩
  have hk:k<p.aI.length:=by omega
  have hf:p.aI[k]?=some p.aI[k]:=cP hk
  obtain⟨hf1,hf2⟩:=hP _ (eF hk)
  generalize p.aI[k]=f at hf hf1 hf2
  obtain⟨ef,hef,hfo⟩:=horF.bE9 k f hf
  obtain⟨y,rfl,hy⟩:=hfo
  obtain⟨n5,eo,rfl,hyR⟩:=hy.some aA
  have hcell:=aVH hef
  have hes:esF.length=p.aI.length:=horF.length.symm
  have hyl:eo.length=f.aO.length:=hyR.length.symm
  simp only[qH,x4,OV.lN,OV.aKO]at hcell
  simp -dsimp -implicitDefEqProofs only[go_sem,↓reduceIte,Tryz.f87,bY,bF,wC,bZ,bI,wA,bG,bH,mI,wB,v8,mH,bY,bF,tF,bZ,bI,tD,bG,bH,tB,tE,tC,tA,aE,aM,dP,dQ,dR,dS,dT,eC,eV,fX,kB,hBp,hBm,hcell,bD,dY]
  intro n9 q9
  have a9:¬n9=ng:=by grind
  have b9:¬n9=ns:=by grind
  have c9:¬n9=n8:=by grind
  have z9:B n9=none:=by grind
  have p4:¬np=n9:=λq=>by rw[q,z9]at hBp;cases hBp
  have m4:¬mF=n9:=λq=>by rw[q,z9]at hBm;cases hBm
  obtain⟨a4K,cH,cI,oJ⟩:=c7 (show ¬n9=ng from a9)
  obtain⟨aT3,bN,bO,kP⟩:=c7 (show ¬n9=ns from b9)
  obtain⟨x7,bP,bQ,aT4⟩:=c7 (show ¬n9=n8 from c9)
  obtain⟨bI6,yS,yT,bI7⟩:=c7 (show ¬np=n9 from p4)
  obtain⟨bI8,wD,wE,bI9⟩:=c7 (show ¬mF=n9 from m4)
  simp -dsimp -implicitDefEqProofs only[go_sem,↓reduceIte,Tryz.f87,bY,bF,wC,bQ,bZ,bI,wA,cI,bG,bH,mI,bO,wB,v8,mH,yS,bP,cH,bN,yT,bY,bF,tF,bQ,bZ,bI,tD,cI,bG,bH,tB,bO,tE,tC,tA,wD,bP,cH,bN,wE,aE,aM,dP,dQ,dR,dS,dT,eC,eV,fX,kB,hBp,hBm,hcell,bD,dY,bT oJ,bT kP,aJ]
  rw[show ∀ H:Heap,aR H ng (bW.row 4 [[Cell.v (aC.op ns 3 0 0),Cell.v (aC.op np 1 0 0),Cell.v (I L),Cell.v (aC.bool pl)]])=aR H ng (kB ns np L pl)from λ_=>rfl]
  refine⟨hk,λ_=>?_⟩
  refine aG.eH (qG (a:=a2) (sd:=yN) hc hl aA eo.length aA aIY) ?_
  rintro r_ h' ⟨y,a3,wT,rfl,y0,y1,-,ha3,rfl⟩
  have y1:=y1 aA
  simp only[bT j2,aJ]
  simp -dsimp -implicitDefEqProofs only[go_sem,↓reduceIte,Tryz.f87,bY,bF,wC,bQ,bZ,bI,wA,cI,bG,bH,mI,bO,wB,v8,mH,yS,bP,cH,bN,yT,bY,bF,tF,bQ,bZ,bI,tD,cI,bG,bH,tB,bO,tE,tC,tA,wD,bP,cH,bN,wE,aE,aM,dP,dQ,dR,dS,dT,eC,eV,fX,hBp,hBm,hcell,bD,dY,bT oJ,bT kP,bT j2,aJ]
  refine λ_=>?_
  apply a0E
  case m =>
   intro key
   refine⟨λh1=>?_,λh1=>?_⟩
   ·simp -dsimp -implicitDefEqProofs only[go_sem,↓reduceIte,Tryz.f87,bY,bF,wC,bQ,bZ,bI,wA,cI,bG,bH,mI,bO,wB,v8,mH,yS,bP,cH,bN,yT,bY,bF,tF,bQ,bZ,bI,tD,cI,bG,bH,tB,bO,tE,tC,tA,wD,bP,cH,bN,wE,aE,aM,dP,dQ,dR,dS,dT,eC,eV,fX,kB,hBp,hBm,hcell,bD,dY]
    rw[show ∀ H:Heap,aR H ng (bW.row 4 [[Cell.v (aC.op ns 3 0 0),Cell.v (aC.op np 1 0 0),Cell.v (I L),Cell.v (aC.bool pl)]])=aR H ng (kB ns np L pl)from λ_=>rfl]
    refine aG.eH (aZ6 (a:=a3) (sd:=wT) hc hl aA 2 aA aIY) ?_
    rintro r_ h' ⟨b,a4,sd4,rfl,ha4,rfl⟩
    simp only[bT j2,aJ]
    cases b
    ·simp -dsimp -implicitDefEqProofs only[go_sem,↓reduceIte,Tryz.f87,bY,bF,wC,bQ,bZ,bI,wA,cI,bG,bH,mI,bO,wB,v8,mH,yS,bP,cH,bN,yT,bY,bF,tF,bQ,bZ,bI,tD,cI,bG,bH,tB,bO,tE,tC,tA,wD,bP,cH,bN,wE,aE,aM,dP,dQ,dR,dS,dT,eC,eV,fX,bT oJ,bT kP,bT j2,aJ]
     refine dJ aLT a4L a4M (λx:CSt=>[(0,.op ng 4 0 0),(1,I vars),(2,I p.aI.length),(3,I dp),(8,.op n8 5 0 0),(9,.op n9 5 0 0),(10,.op mF 3 k 0),(11,I x.2.1)]) (λx=>aR (aR (aR (aR (c8 x.2.2.2.2.1 (.row 5 (OV.cells x.2.2.2.1)) x.2.2.2.2.2.1) n8 (sN 0 0 0 0 .aW)) n9 (sN x.1 k y x.2.2.2.2.2.2.2.2.2 (gK 5 x.2.1 x.2.2.2.2.2.1))) ns (iX c x.2.2.2.2.2.2.1 x.2.2.2.2.2.2.2.1)) ng (kB ns np x.2.2.2.2.2.2.2.2.1 pl)) (λx=>aHM p f vars dp a L B ns ng n8 n9 x) (λx=>f.bB.toNat-x.2.1) (10,0,[],[],B,none,a4,sd4,L,0) ⟨by simp[dM,cE],Heap.le_refl _,by omega,gM _,rfl,trivial,fY.nil B,⟨hB1,hB2,z8,z9⟩,rfl,(λm e=>by cases e),(λj h=>by cases h),gM _,⟨aCB _,by simp[pE],by simp[pE]⟩,by simp[pE];omega⟩ ?_
     exact key.get
    ·simp -dsimp -implicitDefEqProofs only[go_sem,↓reduceIte,Tryz.f87,bY,bF,wC,bQ,bZ,bI,wA,cI,bG,bH,mI,bO,wB,v8,mH,yS,bP,cH,bN,yT,bY,bF,tF,bQ,bZ,bI,tD,cI,bG,bH,tB,bO,tE,tC,tA,wD,bP,cH,bN,wE,aE,aM,dP,dQ,dR,dS,dT,eC,eV,fX,kB,bT oJ,bT kP,bT j2,aJ]
     rw[show ∀ H:Heap,aR H ng (bW.row 4 [[Cell.v (aC.op ns 3 0 0),Cell.v (aC.op np 1 0 0),Cell.v (I L),Cell.v (aC.bool pl)]])=aR H ng (kB ns np L pl)from λ_=>rfl]
     refine aG.eH (qG (a:=a4) (sd:=sd4) hc hl aA 4 aA aIY) ?_
     rintro r_ h' ⟨cnt,a5,sd5,rfl,c0,c1,-,ha5,rfl⟩
     have c1:=c1 aA
     simp only[bT j2,aJ]
     simp -dsimp -implicitDefEqProofs only[go_sem,↓reduceIte,Tryz.f87,bY,bF,wC,bQ,bZ,bI,wA,cI,bG,bH,mI,bO,wB,v8,mH,yS,bP,cH,bN,yT,bY,bF,tF,bQ,bZ,bI,tD,cI,bG,bH,tB,bO,tE,tC,tA,wD,bP,cH,bN,wE,aE,aM,dP,dQ,dR,dS,dT,eC,eV,fX,bT oJ,bT kP,bT j2,aJ]
     refine dJ aLT a4L a4M (λx:CSt=>[(0,.op ng 4 0 0),(1,I vars),(2,I p.aI.length),(3,I dp),(8,.op n8 5 0 0),(9,.op n9 5 0 0),(10,.op mF 3 k 0),(11,I x.2.1)]) (λx=>aR (aR (aR (aR (c8 x.2.2.2.2.1 (.row 5 (OV.cells x.2.2.2.1)) x.2.2.2.2.2.1) n8 (sN 0 0 0 0 .aW)) n9 (sN x.1 k y x.2.2.2.2.2.2.2.2.2 (gK 5 x.2.1 x.2.2.2.2.2.1))) ns (iX c x.2.2.2.2.2.2.1 x.2.2.2.2.2.2.2.1)) ng (kB ns np x.2.2.2.2.2.2.2.2.1 pl)) (λx=>aHM p f vars dp a L B ns ng n8 n9 x) (λx=>f.bB.toNat-x.2.1) (11,0,[],[],B,none,a5,sd5,L,cnt) ⟨by simp[dM,cE],Heap.le_refl _,by omega,gM _,rfl,trivial,fY.nil B,⟨hB1,hB2,z8,z9⟩,rfl,(λm e=>by cases e),(λj h=>by cases h),gM _,⟨aCB _,by simp[pE],by simp[pE]⟩,by simp[pE];omega⟩ ?_
     exact key.get
   ·refine dJ aLT a4L a4M (λx:CSt=>[(0,.op ng 4 0 0),(1,I vars),(2,I p.aI.length),(3,I dp),(8,.op n8 5 0 0),(9,.op n9 5 0 0),(10,.op mF 3 k 0),(11,I x.2.1)]) (λx=>aR (aR (aR (aR (c8 x.2.2.2.2.1 (.row 5 (OV.cells x.2.2.2.1)) x.2.2.2.2.2.1) n8 (sN 0 0 0 0 .aW)) n9 (sN x.1 k y x.2.2.2.2.2.2.2.2.2 (gK 5 x.2.1 x.2.2.2.2.2.1))) ns (iX c x.2.2.2.2.2.2.1 x.2.2.2.2.2.2.2.1)) ng (kB ns np x.2.2.2.2.2.2.2.2.1 pl)) (λx=>aHM p f vars dp a L B ns ng n8 n9 x) (λx=>f.bB.toNat-x.2.1) (10,0,[],[],B,none,a3,wT,L,0) ⟨by simp[dM,cE],Heap.le_refl _,by omega,gM _,rfl,trivial,fY.nil B,⟨hB1,hB2,z8,z9⟩,rfl,(λm e=>by cases e),(λj h=>by cases h),gM _,⟨aCB _,by simp[pE],by simp[pE]⟩,by simp[pE];omega⟩ ?_
    exact key.get
  case t =>
   rintro⟨K,i,kids,es,g1,o,a3,wT,L3,cnt⟩ hgg
   obtain⟨hK,hi,hlen,hor,hnew,⟨zs,zg,z18,z19⟩,hgs,hon,hok,hdl,hL3,ha3⟩:=id hgg
   simp only at hi hlen hor hnew zs zg z18 z19 hgs hon hok hdl hL3 ha3 hK ⊢
   have wd:IntKind.i64.wrap ((dp:Int)-1)=((dp-1:Nat):Int):=by rw[IntWalk.i64_in _ aA];omega
   have a11:mL L<=1000:=by unfold mL;omega
   have hGm:=hnew.keep hBm
   have hom:∀ R,c8 g1 R o mF=some (.row 3 (OV.cells esF)):=by
    intro R
    cases o with
    |none=>exact hGm
    |some m5 =>
     rw[kU]at hgs
     rw[aL,aE _ _ _ _ (λq=>by rw[←q,hGm]at hgs;cases hgs)]
     exact hGm
   unfold sN
   simp -dsimp -implicitDefEqProofs only[go_sem,↓reduceIte,Tryz.f87,bY,bF,bQ,bZ,bI,cI,bG,bH,bO,bP,cH,bN,bY,bF,tF,bQ,bZ,bI,tD,cI,bG,bH,tB,bO,tE,tC,tA,wD,bP,cH,bN,wE,aE,aM,dP,dQ,dR,dS,dT,eC,eV,fX,wd,hom,hcell]
   refine⟨λhlt=>?_,λhge=>⟨mB ..,?_⟩⟩
   ·have hV:vars=vars:=rfl
    cases o with
    |none =>
     rw[kT]at hgs
     subst hgs
     obtain rfl:kids=[]:=aE8.1 hor.length
     obtain rfl:i=0:=hlen.symm
     simp only[aQ,gJ]
     refine aG.eH (ih (dp-1) aA vars _ a3 wT L3 aRS aRU (hprog.le (Heap.bA z9 (Heap.bA z8 hnew.le))) ⟨by omega,by omega,by omega⟩) ?_
     rintro r_ h' ⟨x5,e5,g',a5,sd5,L5,hx,rfl,hnw,⟨y1,y2⟩,rfl,aFF,hd5,hL5,ha5⟩
     obtain⟨g5,rfl,w5,z58,z59⟩:=fY.zT z18 aR1 hnw
     simp only[aM,bY,bF,bQ,bZ,bI,cI,bG,bH,bO,bP,cH,bN,if_false]at y1 y2 z59
     have hx5:=hx
     rw[aB.sC]at hx
     obtain⟨y4,rfl,zD⟩:=hx
     simp -dsimp -implicitDefEqProofs only[go_sem,↓reduceIte,Tryz.f87,bY,bF,bQ,bZ,bI,cI,bG,bH,bO,bP,cH,bN,aE,aM,dP,dQ,dR,dS,dT,eC,eV,fX,OV.gD,OV.c6,OV.lN,zD.flat,zD.one]
     have ht:=eM []
     refine⟨by decide,by decide,by decide,λm qm=>?_⟩
     have am:¬m=ns:=by grind
     have bm:¬m=ng:=by grind
     have cm:¬m=n8:=by grind
     have em:¬m=n9:=by grind
     have dm:g5 m=none:=by grind
     skip
     obtain⟨qS,fO,fP,qT⟩:=c7 (show ¬m=ns from am)
     obtain⟨vV,iY,iZ,vW⟩:=c7 (show ¬m=ng from bm)
     obtain⟨tU,iE,iF,tV⟩:=c7 (show ¬m=n8 from cm)
     obtain⟨vX,jA,jB,vY⟩:=c7 (show ¬m=n9 from em)
     simp -dsimp -implicitDefEqProofs only[go_sem,↓reduceIte,Tryz.f87,bY,bF,bQ,iF,bZ,bI,cI,iZ,bG,bH,bO,fP,bP,cH,bN,jB,iE,iY,fO,jA,aE,aM,dP,dQ,dR,dS,dT,eC,eV,fX]
     refine⟨(K,0+1,[]++[x5],[]++[[.v (.int .i64 x5.aN),.v (.int .i64 x5.aX),.v (.int .i64 x5.cF),.v (.int .i64 x5.b7),y4]],g5,some m,a5,sd5,L5,cnt),IntWalk.i64_in _ aA,?_,hgg.next hlt hx5 w5 ⟨y1,y2,z58,z59⟩ dm ⟨am,bm,cm,em⟩ aDE aA hL5 ha5,by simp only;omega⟩
     intro q_
     simp only[aM,aL,bD,iN,eM,dY,jR,jS,OV.gD,OV.c6,OV.lN,eC,qH,x4,ht]
     grind
    |some m0 =>
     rw[kU]at hgs
     obtain⟨hm1,hm2,hm3,hm4⟩:=hon m0 rfl
     obtain⟨aB5,hJ,hU,x6⟩:=c7 (show ¬m0=ns from hm1)
     obtain⟨aLQ,kY,kZ,aEF⟩:=c7 (show ¬m0=ng from hm2)
     obtain⟨aEY,jC,jD,aAN⟩:=c7 (show ¬m0=n8 from hm3)
     obtain⟨aEZ,jE,jF,aAL⟩:=c7 (show ¬m0=n9 from hm4)
     have hBm:B m0=none:=by
      cases hb:B m0 with
      |none=>rfl
      |some v=>have:=hnew.keep hb;rw[hgs]at this;cases this
     simp only[aL,bD]
     refine aG.eH (ih (dp-1) aA vars _ a3 wT L3 aRO aRP (hprog.le (Heap.bA z9 (Heap.bA z8 (Heap.bA hBm hnew.le)))) ⟨by omega,by omega,by omega⟩) ?_
     rintro r_ h' ⟨x5,e5,g',a5,sd5,L5,hx,rfl,hnw,⟨y1,y2⟩,rfl,aFF,hd5,hL5,ha5⟩
     obtain⟨g5,rfl,w5,z50,z58,z59⟩:=fY.aKN hgs aR2 aRR hnw
     simp only[aM,bY,bF,bQ,jD,bZ,bI,cI,kZ,bG,bH,bO,hU,bP,cH,bN,jF,jC,kY,hJ,jE,if_false]at y1 y2 z58 z59
     have hx5:=hx
     rw[aB.sC]at hx
     obtain⟨y4,rfl,zD⟩:=hx
     simp -dsimp -implicitDefEqProofs only[go_sem,↓reduceIte,Tryz.f87,bY,bF,bQ,jD,bZ,bI,cI,kZ,bG,bH,bO,hU,bP,cH,bN,jF,jC,kY,hJ,jE,aE,aM,dP,dQ,dR,dS,dT,eC,eV,fX,OV.gD,OV.c6,OV.lN,zD.flat,zD.one,dY]
     have ht:List.take i (OV.cells es)=OV.cells es:=kC aMJ
     refine⟨by decide,by decide,by decide,by have:=hor.length;omega,by omega,by omega,λm qm=>?_⟩
     have am:¬m=ns:=by grind
     have bm:¬m=ng:=by grind
     have cm:¬m=n8:=by grind
     have em:¬m=n9:=by grind
     have dm:g5 m=none:=by grind
     have fm:¬m=m0:=(by grind);have vZ:=eq_false fm;have v7:=eq_false (sJ fm);have aLR:=fm;have aLS:=sJ fm
     obtain⟨qS,fO,fP,qT⟩:=c7 (show ¬m=ns from am)
     obtain⟨vV,iY,iZ,vW⟩:=c7 (show ¬m=ng from bm)
     obtain⟨tU,iE,iF,tV⟩:=c7 (show ¬m=n8 from cm)
     obtain⟨vX,jA,jB,vY⟩:=c7 (show ¬m=n9 from em)
     simp -dsimp -implicitDefEqProofs only[go_sem,↓reduceIte,Tryz.f87,bY,bF,bQ,iF,bZ,bI,cI,iZ,bG,bH,bO,fP,bP,cH,bN,jB,iE,iY,fO,jA,vZ,iE,jA,iY,fO,v7,jC,jE,kY,hJ,iF,jD,bQ,bY,bF,jB,jF,bP,cH,bN,iZ,kZ,bZ,cI,bI,fP,hU,bG,bO,bH,aE,aM,dP,dQ,dR,dS,dT,eC,eV,fX]
     refine⟨(K,i+1,kids++[x5],es++[[.v (.int .i64 x5.aN),.v (.int .i64 x5.aX),.v (.int .i64 x5.cF),.v (.int .i64 x5.b7),y4]],g5,some m,a5,sd5,L5,cnt),IntWalk.i64_in _ aA,?_,hgg.next hlt hx5 w5 ⟨y1,y2,z58,z59⟩ dm ⟨am,bm,cm,em⟩ aDE aA hL5 ha5,by simp only;omega⟩
     intro q_
     simp only[aM,aL,bD,iN,eM,dY,jR,jS,OV.gD,OV.c6,OV.lN,eC,qH,x4,ht]
     grind
   ·have hi2:(i:Int)=f.bB:=by omega
    have y8:c8 g1 (.row 5 (OV.cells es)) o n8=none:=jW z18 λm e=>(hon m e).2.2.1
    have y9:c8 g1 (.row 5 (OV.cells es)) o n9=none:=jW z19 λm e=>(hon m e).2.2.2
    exact aV6 hf hf1 ⟨y0,by omega⟩ hgg hi2 (by
     intro q_
     simp only[aM]
     grind)
theorem bLS {p:aF} {ns ng np:Nat} {c:List Int} {pl:Bool} (hc:∀ x∈c,InB x) (hl:c.length<=4096) (hne:¬ns=ng) (hP:aEX p) (hpl:p.aI.length<=100) (dp:Nat):a0A Tryz.prog 34 p ns ng np c pl dp:=by
 induction dp with
 |zero=>exact aHL hc hl hne hP (λd h=>by omega) (λh=>by omega)
 |succ d ih =>
  have hd:∀ d',d'+1=d+1->a0A Tryz.prog 34 p ns ng np c pl d':=λd' h=>by
   cases h
   exact ih
  exact aHL hc hl hne hP hd (λ_=>aRA hc hl hne hP hpl aA hd)
def aHN:List (List UInt8):=[[102],[103],[115,116,101,112],[104,50]]
def xW (p:aF) (k:Nat) (f:aV):Prop:=(∃ w∈aHN,f.jX=w++Go.Lib.itoa k)/\(1<=f.bB/\f.bB<=3)/\(1<=f.aO.length/\f.aO.length<=3)/\∀ e∈f.aO,e.s<=39/\e.d<=6/\e.ok p k f.bB
def wQ (fs:List aV):Prop:=∀ (j:Nat) (f:aV),fs[j]?=some f->xW ⟨fs⟩ j f
theorem aV7 {p q:aF} {m:Nat} (hpq:∀ j,j<m->q.aI[j]?=p.aI[j]?) {e:aB} {vars:Int} (h:kV p e vars m):kV q e vars m:=by
 unfold kV at h ⊢
 split
 ·rename_i hk
  rw[if_pos hk]at h
  exact⟨h.1,h.2.1,λf ef=>h.2.2 f (by rw[hpq _ aA]at ef;exact ef)⟩
 ·rename_i hk
  rw[if_neg hk]at h
  exact h
theorem aB.a69 {p q:aF} {m:Nat} (hpq:∀ j,j<m->q.aI[j]?=p.aI[j]?) (e:aB) (vars:Int) (h:e.ok p m vars):e.ok q m vars:=by
 have h1:=(aB.cS _ _ _ _).1 h
 refine(aB.cS _ _ _ _).2 ⟨aV7 hpq h1.1,λj hj=>?_⟩
 have hs:=aB.aFD (eF hj)
 exact aB.a69 hpq e.aK[j] _ (h1.2 j hj)
termination_by e.s
theorem wQ.snoc {fs:List aV} (h:wQ fs) {f:aV} (hf:xW ⟨fs⟩ fs.length f):wQ (fs++[f]):=by
 have up:∀ {k:Nat} {g:aV},k<=fs.length->xW ⟨fs⟩ k g->xW ⟨fs++[f]⟩ k g:=λ{k g} hk ⟨h1,h2,h3,h4⟩=>⟨h1,h2,h3,λe he=>⟨(h4 e he).1,(h4 e he).2.1,aB.a69 (λj hj=>by simp only[aF.aI];rw[tW aA]) e _ (h4 e he).2.2⟩⟩
 intro j g hg
 rcases cQ j fs.length with h1|h1
 ·rw[tW h1]at hg
  exact up aA (h j g hg)
 ·have hj:j<(fs++[f]).length:=by rcases cQ j (fs++[f]).length with q|q;exact q;rw[aUR q]at hg;cases hg
  rw[k8,lV]at hj
  obtain rfl:j=fs.length:=by omega
  rw[zE (j4 _),zF]at hg
  cases hg
  exact up (j4 _) hf
theorem wQ.get {fs:List aV} (h:wQ fs) {f:aV} (hf:f∈fs):∃ j,j<fs.length/\fs[j]?=some f/\xW ⟨fs⟩ j f:=by
 obtain⟨j,hj,e⟩:=aAK.1 hf
 have e2:fs[j]?=some f:=by rw[cP hj,e]
 exact⟨j,hj,e2,h j f e2⟩
theorem wQ.a4N {fs:List aV} (h:wQ fs):aEX ⟨fs⟩:=λf hf=>by
 obtain⟨j,-,-,hg⟩:=h.get hf
 exact⟨hg.2.1,hg.2.2.1⟩
theorem aHO {k:Nat} (h:k<=2):∃ c:UInt8,Go.Lib.itoa k=[c]/\Dig c/\c.toNat=48+k:=by
 refine⟨UInt8.ofNat (48+k),by rw[aBJ _ aA,tX,aBH aA],?_⟩
 match k,h with
 |0,_=>exact⟨⟨by decide,by decide⟩,rfl⟩
 |1,_=>exact⟨⟨by decide,by decide⟩,rfl⟩
 |2,_=>exact⟨⟨by decide,by decide⟩,rfl⟩
theorem a4O {w:List UInt8} (hw:w∈aHN) {c:UInt8} (hc:Dig c):yX (w++[c]):=by
 simp only[aHN,oH,List.not_mem_nil,or_false]at hw
 rcases hw with rfl|rfl|rfl|rfl
 all_goals
  refine⟨by simp,by simp,λx hx=>by cases hx;exact⟨by decide,by decide⟩,λx hx=>?_⟩
  simp only[aE9,eC,oH,List.not_mem_nil,or_false]at hx
 ·rcases hx with rfl|rfl <;> first|exact .inr hc|exact .inl ⟨by decide,by decide⟩
 ·rcases hx with rfl|rfl <;> first|exact .inr hc|exact .inl ⟨by decide,by decide⟩
 ·rcases hx with rfl|rfl|rfl|rfl|rfl <;> first|exact .inr hc|exact .inl ⟨by decide,by decide⟩
 ·rcases hx with rfl|rfl|rfl <;> first|exact .inr hc|exact .inl ⟨by decide,by decide⟩|exact .inr ⟨by decide,by decide⟩
theorem wQ.bLT {fs:List aV} (h:wQ fs) (hl:fs.length<=3):(⟨fs⟩:aF).ok:=by
 have hsz:∀ {l:List aB},(∀ e∈l,e.s<=39)->pE aB.s l<=40*l.length:=λ{l} hl=>by
  rw[oQ]
  induction l with
  |nil=>simp
  |cons x l ih =>
   have h1:=hl x (.head _)
   have h2:=ih λe he=>hl e (.tail _ he)
   simp only[al3,qH,aPQ]
   omega
 refine⟨by simp only[aF.aI];omega,λk f hf=>?_⟩
 ·have hk:k<fs.length:=by rcases cQ k fs.length with q|q;exact q;rw[show(⟨fs⟩:aF).aI=fs from rfl,aUR q]at hf;cases hf
  obtain⟨⟨w,hw,hn⟩,h2,h3,h4⟩:=h k f hf
  obtain⟨c,ec,dc,cv⟩:=aHO (k:=k) aA
  have h5:=hsz λe he=>(h4 e he).1
  refine⟨by rw[hn,ec];exact a4O hw dc,by omega,by omega,λg hg q=>?_,by omega,λe he=>⟨by omega,⟨by omega,by simp only[aF.aI];omega⟩,by have:=(h4 e he).1;omega,by have:=(h4 e he).2.1;omega,(h4 e he).2.2⟩⟩
  obtain⟨j,hj,e⟩:=aAK.1 hg
  rw[qI]at hj
  rw[List.getElem_take]at e
  obtain⟨⟨w2,hw2,hn2⟩,-⟩:=h j g (by rw[cP (by simp only[aF.aI]at hj;omega)];exact congrArg some e)
  obtain⟨c2,ec2,-,cv2⟩:=aHO (k:=j) aA
  rw[hn,hn2,ec,ec2]at q
  have q2:=congrArg List.getLast? q
  simp only[List.getLast?_append,List.getLast?_singleton,Option.some_or,aPM]at q2
  rw[q2]at cv2
  omega
abbrev DSt:=List aV×List (List OV)×Heap×Option Nat×Nat×Int
def aT6 (n:Nat) (a:Nat) (B:Heap) (ns n8 n9:Nat):DSt->Prop:=λ(fs,es,g1,o,a3,_) =>
 fs.length<=n/\wQ fs/\OR aV.o fs es/\fY B (OV.cT es) g1/\(g1 ns=none/\g1 n8=none/\g1 n9=none)/\aBE g1 es o/\(∀ m,o=some m->¬m=ns/\¬m=n8/\¬m=n9)/\(o=none->fs=[])/\(a<=a3/\a3<=a+5000*fs.length)
abbrev ISt:=Int×Nat×List aB×List (List OV)×Heap×Option Nat×Nat×Int
def aO2 (fs:List aV) (par:Int) (a:Nat) (B1:Heap) (ns nf:Nat):ISt->Prop:=λ(cnt,i,outs,eo,g2,oo,a8,_) =>
 (1<=cnt/\cnt<=3)/\(i:Int)<=cnt/\outs.length=i/\OR aB.o outs eo/\fY B1 (OV.cT eo) g2/\(g2 ns=none/\g2 nf=none)/\aBE g2 eo oo/\(∀ m,oo=some m->¬m=ns/\¬m=nf)/\(∀ e∈outs,e.s<=39/\e.d<=6/\e.ok ⟨fs⟩ fs.length par)/\(a<=a8/\a8<=a+600*i)
theorem aO2.next {fs:List aV} {par:Int} {a:Nat} {B1:Heap} {ns nf:Nat} {cnt:Int} {i:Nat} {outs:List aB} {eo:List (List OV)} {g2 g5:Heap} {oo:Option Nat} {a8 a9:Nat} {sd8 sd9:Int} {x:aB} {e:List OV} {m:Nat}
  (h:aO2 fs par a B1 ns nf (cnt,i,outs,eo,g2,oo,a8,sd8)) (hlt:(i:Int)<cnt) (hx:x.o e) (w:fY g2 (OV.dD e) g5) (z:g5 ns=none/\g5 nf=none) (hm:g5 m=none) (hm2:¬m=ns/\¬m=nf) (hg:x.s<=39/\x.d<=6/\x.ok ⟨fs⟩ fs.length par) (ha:a8<=a9/\a9<=a8+600) :
  aO2 fs par a B1 ns nf (cnt,i+1,outs++[x],eo++[e],g5,some m,a9,sd9):=by
 obtain⟨hcnt,hi,hol,hor,hnew,-,-,-,hgd,ha8⟩:=h
 refine⟨hcnt,by omega,by rw[k8,hol];rfl,OR.append hor ⟨hx,trivial⟩,fY.snoc hnew w,z,hm,λb q=>by cases q;exact hm2,λy hy=>?_,by omega⟩
 rcases mS.1 hy with hy|hy
 ·exact hgd y hy
 ·rw[nQ.1 hy];exact hg
theorem aT6.next {n a:Nat} {B:Heap} {ns n8 n9:Nat} {fs:List aV} {es:List (List OV)} {g1 g8:Heap} {o:Option Nat} {a3 a8:Nat} {wT sd8:Int} {f:aV} {e:List OV} {m:Nat}
  (h:aT6 n a B ns n8 n9 (fs,es,g1,o,a3,wT)) (hlt:fs.length<n) (hf:xW ⟨fs⟩ fs.length f) (hx:f.o e) (w:fY g1 (OV.dD e) g8) (z:g8 ns=none/\g8 n8=none/\g8 n9=none) (hm:g8 m=none) (hm2:¬m=ns/\¬m=n8/\¬m=n9) (ha:a3<=a8/\a8<=a3+5000) :
  aT6 n a B ns n8 n9 (fs++[f],es++[e],g8,some m,a8,sd8):=by
 obtain⟨hfl,hdr,hor,hnew,-,-,-,-,ha3⟩:=h
 exact⟨by rw[k8,lV];omega,hdr.snoc hf,OR.append hor ⟨hx,trivial⟩,fY.snoc hnew w,z,hm,λb q=>by cases q;exact hm2,(λq=>(by cases q)),by rw[k8,lV];omega⟩
@[go_sem] def aLU:List Nat:=[0,1,2,3,8,9,10,11,12,13,14,18,35,40]
@[go_sem] def a4P:List Nat:=[22,55,61]
@[go_sem] def a4Q:Marks:=λid=>match id with|13=>([1,4,6,8,10],(.op 0 (.op 2 (.op 3 (.op 5 (.op 1 (.op 4 (.op 6 (.op 7 (.op 8 (.op 9 (.op 10 .nil))))))))))),[(1,6)])|_=>([],.nil,[])
set_option maxHeartbeats 8000000 in
theorem bF4 {L0:Int} (hL0:1<=L0/\L0<=14) {ns:Nat} {c:List Int} {pl:Bool} (hc:∀ x∈c,InB x) (hl:c.length<=4096) {n:Nat} (hn:n<=3) {B:Heap} (hB:B ns=none) {a:Nat} (ha:a<=700000000) {sd:Int} :
  fH Tryz.prog 31 [.op ns 3 0 0,I n,I L0,.bool pl] (aR B ns (iX c a sd)) λr h'=>∃ (fs:List aV) (es:List (List OV)) (o:Option Nat) (g1:Heap) (a':Nat) (sd':Int),fs.length=n/\wQ fs/\OR aV.o fs es/\fY B (OV.cT es) g1/\g1 ns=none/\aBE g1 es o/\(∀ m,o=some m->¬m=ns)/\(o=none->fs=[])/\r=.agg [gK 3 fs.length o]/\(a<=a'/\a'<=a+5000*n)/\h'=aR (c8 g1 (.row 3 (OV.cells es)) o) ns (iX c a' sd'):=by
 have bPQ:mL L0<=13:=(by unfold mL;omega)
 refine gG 65 aLU a4P a4Q Tryz.func31 ?_
 simp -dsimp -implicitDefEqProofs only[go_sem,↓reduceIte,Tryz.f31,kB]
 intro n8 q8
 have b8:¬n8=ns:=by grind
 have z8:B n8=none:=by grind
 obtain⟨aB4,bF,bG,gQ⟩:=c7 (show ¬n8=ns from b8)
 intro n9 q9
 have b9:¬n9=ns:=by grind
 have c9:¬n9=n8:=by grind
 have z9:B n9=none:=by grind
 obtain⟨aT3,bN,bO,kP⟩:=c7 (show ¬n9=ns from b9)
 obtain⟨x7,bP,bQ,aT4⟩:=c7 (show ¬n9=n8 from c9)
 simp only[bT gQ,bT kP,aJ]
 refine dJ aLU a4P a4Q (λx:DSt=>[(0,.op ns 3 0 0),(1,I n),(2,I L0),(3,.bool pl),(8,.op n8 1 0 0),(9,.op n9 1 0 0),(10,I x.1.length)]) (λx=>aR (aR (aR (c8 x.2.2.1 (.row 3 (OV.cells x.2.1)) x.2.2.2.1) n8 (.row 1 [[.v .aW]])) n9 (.row 1 [[.v (gK 3 x.1.length x.2.2.2.1)]])) ns (iX c x.2.2.2.2.1 x.2.2.2.2.2)) (λx=>aT6 n a B ns n8 n9 x) (λx=>n-x.1.length) ([],[],B,none,a,sd) ⟨by simp[dM,cE],Heap.le_refl _,gM _,(λj f h=>by cases h),trivial,fY.nil B,⟨hB,z8,z9⟩,rfl,(λm e=>by cases e),(λ_=>rfl),by simp⟩ ?_
 rintro⟨fs,es,g1,o,a3,wT⟩ hdd
 obtain⟨hfl,hdr,hor,hnew,⟨zs,z18,z19⟩,hgs,hon,hfo,ha3⟩:=id hdd
 simp only at hfl hdr hor hnew zs z18 z19 hgs hon hfo ha3 ⊢
 simp -dsimp -implicitDefEqProofs only[go_sem,↓reduceIte,Tryz.f31,bF,bQ,bG,bO,bP,bN,aE,aM,dP,dQ,dR,dS,dT,eC,eV,fX]
 refine⟨λhlt=>⟨by decide,by decide,?_⟩,λhge=>⟨mB ..,?_⟩⟩
 ·refine aG.eH (bF1 (a:=a3) (sd:=wT) hc hl aA aHN true bU bU (aH ..)) ?_
  rintro r_ h' ⟨w,a4,sd4,rfl,hw,ha4,rfl⟩
  rw[aJ]
  simp -dsimp -implicitDefEqProofs only[go_sem,↓reduceIte,Tryz.f31,bF,bQ,bG,bO,bP,bN,aE,aM,dP,dQ,dR,dS,dT,eC,eV,fX]
  first|refine aG.mk ((aEQ 4 fs.length aA aA aA)) ?_|refine aD.mk ((aEQ 4 fs.length aA aA aA)) ?_|refine aG.bC ((aEQ 4 fs.length aA aA aA)) ?_|refine aD.mk (aZ.dB ((aEQ 4 fs.length aA aA aA))) ?_
  simp -dsimp -implicitDefEqProofs only[go_sem,↓reduceIte,Tryz.f31,bF,bQ,bG,bO,bP,bN,aE,aM,dP,dQ,dR,dS,dT,eC,eV,fX]
  refine⟨by have:=aHO (k:=fs.length) aA;obtain⟨c5,e5,-,-⟩:=this;have:w.length<=4:=(by simp only[aHN,oH,List.not_mem_nil,or_false]at hw;rcases hw with rfl|rfl|rfl|rfl <;> decide);rw[e5];simp only[lV];omega,?_⟩
  refine aG.eH (qG (a:=a4) (sd:=sd4) hc hl aA 3 aA (aH ..)) ?_
  rintro r_ h' ⟨px,a5,sd5,rfl,x0,x1,-,ha5,rfl⟩
  have x1:=x1 aA
  have wp:IntKind.i64.wrap (1+px)=1+px:=IntWalk.i64_in _ aA
  rw[aJ]
  simp -dsimp -implicitDefEqProofs only[go_sem,↓reduceIte,Tryz.f31,bF,bQ,bG,bO,bP,bN,aE,aM,dP,dQ,dR,dS,dT,eC,eV,fX,wp]
  intro nf qf
  have af:¬nf=ns:=by grind
  have bf:¬nf=n8:=by grind
  have cf:¬nf=n9:=by grind
  have zf:c8 g1 (.row 3 (OV.cells es)) o nf=none:=by grind
  obtain⟨bJB,hZ,h8,aT7⟩:=c7 (show ¬nf=ns from af)
  obtain⟨aT8,mJ,mK,bJC⟩:=c7 (show ¬nf=n8 from bf)
  obtain⟨aT9,mM,mN,a4R⟩:=c7 (show ¬nf=n9 from cf)
  simp -dsimp -implicitDefEqProofs only[go_sem,↓reduceIte,Tryz.f31,bF,bQ,mK,bG,bO,h8,bP,bN,mN,mJ,hZ,mM,aE,aM,dP,dQ,dR,dS,dT,eC,eV,fX,wp,bT aT7,aJ]
  refine aG.eH (qG (a:=a5) (sd:=sd5) hc hl aA 3 aA (aH ..)) ?_
  rintro r_ h' ⟨py,a6,sd6,rfl,y0,y1,-,ha6,rfl⟩
  have y1:=y1 aA
  have wq:IntKind.i64.wrap (1+py)=1+py:=IntWalk.i64_in _ aA
  rw[aJ]
  simp -dsimp -implicitDefEqProofs only[go_sem,↓reduceIte,Tryz.f31,bF,bQ,mK,bG,bO,h8,bP,bN,mN,mJ,hZ,mM,aE,aM,dP,dQ,dR,dS,dT,eC,eV,fX,wq]
  refine aG.eH (aZ6 (a:=a6) (sd:=sd6) hc hl aA 2 aA (aH ..)) ?_
  rintro r_ h' ⟨b,a7,sd7,rfl,ha7,rfl⟩
  rw[aJ]
  generalize hnm:w++Go.Lib.itoa fs.length=nm
  generalize hpar:1+px=par at *
  apply a0E
  case m =>
   intro key
   cases b
   ·simp -dsimp -implicitDefEqProofs only[go_sem,↓reduceIte,Tryz.f31,bF,bQ,mK,bG,bO,h8,bP,bN,mN,mJ,hZ,mM,aE,aM,dP,dQ,dR,dS,dT,eC,eV,fX]
    refine dJ aLU a4P a4Q (λx:ISt=>[(0,.op ns 3 0 0),(1,I n),(2,I L0),(3,.bool pl),(8,.op n8 1 0 0),(9,.op n9 1 0 0),(10,I fs.length),(11,.op nf 3 0 0),(12,I x.1),(13,I x.2.1)]) (λx=>aR (aR (c8 x.2.2.2.2.1 (.row 5 (OV.cells x.2.2.2.1)) x.2.2.2.2.2.1) nf (.row 3 [[.v (.str nm),.v (I par),.v (gK 5 x.2.1 x.2.2.2.2.2.1)]])) ns (iX c x.2.2.2.2.2.2.1 x.2.2.2.2.2.2.2)) (λx=>aO2 fs par a7 (aR (aR (c8 g1 (.row 3 (OV.cells es)) o) n8 (.row 1 [[.v .aW]])) n9 (.row 1 [[.v (gK 3 fs.length o)]])) ns nf x) (λx=>x.1.toNat-x.2.1) ((1+py),0,[],[],aR (aR (c8 g1 (.row 3 (OV.cells es)) o) n8 (.row 1 [[.v .aW]])) n9 (.row 1 [[.v (gK 3 fs.length o)]]),none,a7,sd7) ⟨by simp[dM,cE],Heap.le_refl _,by omega,by omega,rfl,trivial,fY.nil _,⟨by rw[aE _ _ _ _ kP,aE _ _ _ _ gQ];exact jW zs λm e=>(hon m e).1,by rw[aE _ _ _ _ aT9,aE _ _ _ _ aT8];exact zf⟩,rfl,(λm e=>by cases e),(λe h=>by cases h),by simp⟩ ?_
    exact key.get
   ·simp -dsimp -implicitDefEqProofs only[go_sem,↓reduceIte,Tryz.f31,bF,bQ,mK,bG,bO,h8,bP,bN,mN,mJ,hZ,mM,aE,aM,dP,dQ,dR,dS,dT,eC,eV,fX]
    refine dJ aLU a4P a4Q (λx:ISt=>[(0,.op ns 3 0 0),(1,I n),(2,I L0),(3,.bool pl),(8,.op n8 1 0 0),(9,.op n9 1 0 0),(10,I fs.length),(11,.op nf 3 0 0),(12,I x.1),(13,I x.2.1)]) (λx=>aR (aR (c8 x.2.2.2.2.1 (.row 5 (OV.cells x.2.2.2.1)) x.2.2.2.2.2.1) nf (.row 3 [[.v (.str nm),.v (I par),.v (gK 5 x.2.1 x.2.2.2.2.2.1)]])) ns (iX c x.2.2.2.2.2.2.1 x.2.2.2.2.2.2.2)) (λx=>aO2 fs par a7 (aR (aR (c8 g1 (.row 3 (OV.cells es)) o) n8 (.row 1 [[.v .aW]])) n9 (.row 1 [[.v (gK 3 fs.length o)]])) ns nf x) (λx=>x.1.toNat-x.2.1) (par,0,[],[],aR (aR (c8 g1 (.row 3 (OV.cells es)) o) n8 (.row 1 [[.v .aW]])) n9 (.row 1 [[.v (gK 3 fs.length o)]]),none,a7,sd7) ⟨by simp[dM,cE],Heap.le_refl _,by omega,by omega,rfl,trivial,fY.nil _,⟨by rw[aE _ _ _ _ kP,aE _ _ _ _ gQ];exact jW zs λm e=>(hon m e).1,by rw[aE _ _ _ _ aT9,aE _ _ _ _ aT8];exact zf⟩,rfl,(λm e=>by cases e),(λe h=>by cases h),by simp⟩ ?_
    exact key.get
  case t =>
   rintro⟨cnt,i,outs,eo,g2,oo,a8,sd8⟩ hii
   obtain⟨hcnt,hi,hol,aRB,bAN,⟨ws,wf⟩,aEA,aV8,hgd,ha8⟩:=id hii
   simp only at hcnt hi hol aRB bAN ws wf aEA aV8 hgd ha8 ⊢
   simp -dsimp -implicitDefEqProofs only[go_sem,↓reduceIte,Tryz.f31,bF,bQ,mK,bG,bO,h8,bP,bN,mN,mJ,hZ,mM,aE,aM,dP,dQ,dR,dS,dT,eC,eV,fX]
   have hkeep:∀ q R S,(aR (aR (c8 g1 (.row 3 (OV.cells es)) o) n8 (.row 1 [[.v .aW]])) n9 (.row 1 [[.v (gK 3 fs.length o)]])) q=some R->c8 g2 S oo q=some R:=λq R S hq=>by
    have h2:=bAN.keep hq
    cases oo with
    |none=>exact h2
    |some m5 =>
     rw[kU]at aEA
     rw[aL,aE _ _ _ _ (λe=>by rw[e,aEA]at h2;cases h2)]
     exact h2
   have hk9:=λS=>hkeep n9 _ S (aH ..)
   refine⟨λvO=>?_,λaVN=>?_⟩
   ·intro ng qg
    have an:¬ng=ns:=by grind
    have bn:¬ng=nf:=by grind
    have zn:c8 g2 (.row 5 (OV.cells eo)) oo ng=none:=by grind
    obtain⟨j2,bI,bH,x8⟩:=c7 (show ¬ng=ns from an)
    obtain⟨a4S,tG,tH,bJD⟩:=c7 (show ¬ng=nf from bn)
    have zof:c8 g2 (.row 5 (OV.cells eo)) oo nf=none:=jW wf λm e=>(aV8 m e).2
    have hpr:aC6 ⟨fs⟩ n9 (aR (c8 g2 (.row 5 (OV.cells eo)) oo) nf (.row 3 [[.v (.str nm),.v (I par),.v (gK 5 i oo)]])):=by
     refine⟨es,o,hor,?_,hfo,λm e=>?_⟩
     ·rw[aE _ _ _ _ a4R];exact hk9 _
     ·have hm:=hon m e
      subst e
      have h3:=hkeep m (.row 3 (OV.cells es)) (.row 5 (OV.cells eo)) (by rw[aE _ _ _ _ hm.2.2,aE _ _ _ _ hm.2.1,aL,aH])
      rw[aE _ _ _ _ (λq=>by rw[q,zof]at h3;cases h3)]
      exact h3
    simp -dsimp -implicitDefEqProofs only[go_sem,↓reduceIte,Tryz.f31,h8,bH,hZ,tH,bI,tG,aE,aM,dP,dQ,dR,dS,dT,eC,eV,fX,kB]
    rw[show ∀ H:Heap,aR H ng (bW.row 4 [[Cell.v (aC.op ns 3 0 0),Cell.v (aC.op n9 1 0 0),Cell.v (I L0),Cell.v (aC.bool pl)]])=aR H ng (kB ns n9 L0 pl)from λ_=>rfl]
    refine aG.eH (bLS hc hl x8 hdr.a4N (by simp only[aF.aI];omega) 5 par _ a8 sd8 L0 (by rw[aE _ _ _ _ aT7];exact jW ws λm e=>(aV8 m e).1) (by rw[aE _ _ _ _ a4S];exact zn) hpr ⟨by omega,by omega,by omega⟩) ?_
    rintro r_ h' ⟨x5,e5,g',a9,sd9,L9,hx,rfl,bAO,⟨v1,v2⟩,rfl,aFF,hd5,hL9,ha9⟩
    obtain⟨g4,rfl,w4,z4f⟩:=fY.under zof bAO
    simp only[aM,h8,bH,hZ,tH,bI,tG,if_false]at v1 v2
    have hx5:=hx
    rw[aB.sC]at hx
    obtain⟨y4,rfl,zD⟩:=hx
    have bF5:x5.s<=39:=by have:=hL9.2.2;omega
    cases oo with
    |none =>
     rw[kT]at aEA
     subst aEA
     obtain rfl:outs=[]:=aE8.1 aRB.length
     obtain rfl:i=0:=hol.symm
     simp only[aQ,gJ]at *
     simp -dsimp -implicitDefEqProofs only[go_sem,↓reduceIte,Tryz.f31,h8,bH,hZ,tH,bI,tG,aE,aM,dP,dQ,dR,dS,dT,eC,eV,fX,OV.gD,OV.c6,OV.lN,zD.flat,zD.one]
     have ht:=eM []
     refine⟨by decide,by decide,by decide,λm qm=>?_⟩
     have am:¬m=ns:=by grind
     have bm:¬m=nf:=by grind
     have dm:g4 m=none:=by grind
     have em:¬m=ng:=by grind
     skip
     obtain⟨qS,fO,fP,qT⟩:=c7 (show ¬m=ns from am)
     obtain⟨aRC,wF,wG,aRD⟩:=c7 (show ¬m=nf from bm)
     obtain⟨vV,iY,iZ,vW⟩:=c7 (show ¬m=ng from em)
     simp -dsimp -implicitDefEqProofs only[go_sem,↓reduceIte,Tryz.f31,h8,bH,fP,hZ,tH,wG,bI,tG,iZ,fO,wF,iY,aE,aM,dP,dQ,dR,dS,dT,eC,eV,fX]
     refine⟨(cnt,0+1,[]++[x5],[]++[[.v (.int .i64 x5.aN),.v (.int .i64 x5.aX),.v (.int .i64 x5.cF),.v (.int .i64 x5.b7),y4]],g4,some m,a9,sd9),⟨rfl,IntWalk.i64_in _ aA⟩,?_,hii.next vO hx5 w4 ⟨v1,z4f⟩ dm ⟨am,bm⟩ ⟨bF5,by omega,aFF⟩ aA,by simp only;omega⟩
     intro q_
     simp only[aM,aL,bD,iN,eM,dY,jR,jS,OV.gD,OV.c6,OV.lN,eC,qH,x4,ht]
     grind
    |some m5 =>
     rw[kU]at aEA
     obtain⟨g5,rfl,w5,z45⟩:=fY.under aEA w4
     have k1:=(aV8 m5 rfl).1
     have k2:=(aV8 m5 rfl).2
     have k3:¬m5=ng:=λe=>by rw[aL,e,aH]at zn;cases zn
     obtain⟨a4T,aE1,aE2,aUA⟩:=c7 (show ¬m5=ns from k1)
     obtain⟨a4U,aE3,aE4,aUB⟩:=c7 (show ¬m5=nf from k2)
     obtain⟨bJE,aLV,aLW,bJF⟩:=c7 (show ¬m5=ng from k3)
     simp only[aL,bD]at *
     simp -dsimp -implicitDefEqProofs only[go_sem,↓reduceIte,Tryz.f31,h8,bH,aE2,hZ,tH,aE4,bI,tG,aLW,aE1,aE3,aLV,aE,aM,dP,dQ,dR,dS,dT,eC,eV,fX,OV.gD,OV.c6,OV.lN,zD.flat,zD.one,dY]
     simp only[aM,h8,bH,aE2,hZ,tH,aE4,bI,tG,aLW,aE1,aE3,aLV,if_false]at v1 v2 z4f
     have ht:List.take i (OV.cells eo)=OV.cells eo:=kC (by rw[dY];have:=aRB.length;omega)
     refine⟨by decide,by decide,by decide,by have:=aRB.length;omega,by omega,by omega,λm qm=>?_⟩
     have am:¬m=ns:=by grind
     have bm:¬m=nf:=by grind
     have dm:g5 m=none:=by grind
     have em:¬m=ng:=by grind
     have fm:¬m=m5:=(by grind);have bAP:=eq_false fm;have bAQ:=eq_false (sJ fm);have bLX:=fm;have bLY:=sJ fm
     obtain⟨qS,fO,fP,qT⟩:=c7 (show ¬m=ns from am)
     obtain⟨aRC,wF,wG,aRD⟩:=c7 (show ¬m=nf from bm)
     obtain⟨vV,iY,iZ,vW⟩:=c7 (show ¬m=ng from em)
     simp -dsimp -implicitDefEqProofs only[go_sem,↓reduceIte,Tryz.f31,h8,bH,fP,hZ,tH,wG,bI,tG,iZ,fO,wF,iY,bAP,wF,iY,fO,bAQ,aE3,aLV,aE1,wG,aE4,tH,hZ,iZ,aLW,tG,bI,fP,aE2,h8,bH,aE,aM,dP,dQ,dR,dS,dT,eC,eV,fX]
     refine⟨(cnt,i+1,outs++[x5],eo++[[.v (.int .i64 x5.aN),.v (.int .i64 x5.aX),.v (.int .i64 x5.cF),.v (.int .i64 x5.b7),y4]],g5,some m,a9,sd9),⟨rfl,IntWalk.i64_in _ aA⟩,?_,hii.next vO hx5 w5 ⟨v1,z4f⟩ dm ⟨am,bm⟩ ⟨bF5,by omega,aFF⟩ aA,by simp only;omega⟩
     intro q_
     simp only[aM,aL,bD,iN,eM,dY,jR,jS,OV.gD,OV.c6,OV.lN,eC,qH,x4,ht]
     grind
   ·simp -dsimp -implicitDefEqProofs only[go_sem,↓reduceIte,Tryz.f31,bF,bQ,mK,bG,bO,h8,bP,bN,mN,mJ,hZ,mM,aE,aM,dP,dQ,dR,dS,dT,eC,eV,fX,hk9]
    refine⟨by decide,by rw[mB];rfl,?_⟩
    cases oo with
    |none =>
     rw[kT]at aEA
     subst aEA
     have:=aRB.length
     simp at this
     rw[this]at hol
     simp at hol
     omega
    |some m5 =>
    have bAO:=aKQ (sz:=5) bAN aEA
    have hgo:=aP9 aRB (sz:=5) aEA
    have hei:eo.length=i:=by rw[←aRB.length];exact hol
    rw[kU]at aEA
    obtain⟨k1,k2⟩:=aV8 m5 rfl
    obtain⟨a4T,aE1,aE2,aUA⟩:=c7 (show ¬m5=ns from k1)
    obtain⟨a4U,aE3,aE4,aUB⟩:=c7 (show ¬m5=nf from k2)
    simp only[aL,bD,aNP]at *
    have bF6:(⟨nm,par,outs⟩:aV).o [.v (.str nm),.v (I par),.sl m5 5 eo]:=⟨_,rfl,hgo⟩
    have hgood:xW ⟨fs⟩ fs.length ⟨nm,par,outs⟩:=⟨⟨w,hw,hnm.symm⟩,by simp only[aV.bB];omega,by simp only[aV.aO];omega,hgd⟩
    have ws':aR g2 m5 (.row 5 (OV.cells eo)) ns=none:=by rw[aE _ _ _ _ aUA];exact ws
    have wf':aR g2 m5 (.row 5 (OV.cells eo)) nf=none:=by rw[aE _ _ _ _ aUB];exact wf
    have bPT:=hk9 (.row 5 (OV.cells eo))
    clear hkeep
    generalize aR g2 m5 (.row 5 (OV.cells eo))=g6 at *
    have hz8:c8 g1 (.row 3 (OV.cells es)) o n8=none:=jW z18 λm e=>(hon m e).2.1
    have hz9:c8 g1 (.row 3 (OV.cells es)) o n9=none:=jW z19 λm e=>(hon m e).2.2
    obtain⟨g7,rfl,w7,z78,z79⟩:=fY.zT hz8 (by rw[aE _ _ _ _ x7];exact hz9) bAO
    simp only[aM,bF,bQ,mK,bG,bO,h8,bP,bN,mN,mJ,hZ,mM,if_false]at ws' wf' z79
    cases o with
    |none =>
     rw[kT]at hgs
     subst hgs
     obtain rfl:fs=[]:=aE8.1 hor.length
     simp only[aQ,gJ]at *
     simp -dsimp -implicitDefEqProofs only[go_sem,↓reduceIte,Tryz.f31,bF,bQ,mK,bG,bO,h8,bP,bN,mN,mJ,hZ,mM,aE,aM,dP,dQ,dR,dS,dT,eC,eV,fX]
     have ht:=eM []
     refine⟨by decide,λm qm=>?_⟩
     have am:¬m=ns:=by grind
     have bm:¬m=n8:=by grind
     have cm:¬m=n9:=by grind
     have em:¬m=nf:=by grind
     have dm:g7 m=none:=by grind
     skip
     obtain⟨qS,fO,fP,qT⟩:=c7 (show ¬m=ns from am)
     obtain⟨tU,iE,iF,tV⟩:=c7 (show ¬m=n8 from bm)
     obtain⟨vX,jA,jB,vY⟩:=c7 (show ¬m=n9 from cm)
     obtain⟨aRC,wF,wG,aRD⟩:=c7 (show ¬m=nf from em)
     simp -dsimp -implicitDefEqProofs only[go_sem,↓reduceIte,Tryz.f31,bF,bQ,mK,iF,bG,bO,h8,fP,bP,bN,mN,jB,mJ,hZ,mM,wG,iE,fO,jA,wF,aE,aM,dP,dQ,dR,dS,dT,eC,eV,fX]
     refine⟨([]++[⟨nm,par,outs⟩],[]++[[.v (.str nm),.v (I par),.sl m5 5 eo]],g7,some m,a8,sd8),?_,?_,hdd.next hlt hgood bF6 (by simpa only[OV.p7,OV.sV,OV.xK,eC,eV]using w7) ⟨ws',z78,z79⟩ dm ⟨am,bm,cm⟩ aA,by simp only[k8,lV];omega⟩
     ·rw[IntWalk.i64_in _ (by first|omega|(simp only[yZ];omega))]
      simp only[k8,lV,yZ]
      rfl
     ·intro q_
      simp only[aM,aL,bD,iN,eM,dY,jR,jS,OV.gD,OV.c6,OV.lN,OV.aKO,eC,qH,x4,k8,lV,yZ,hei,ht]
      grind
    |some m0 =>
     rw[kU]at hgs
     obtain⟨g8,rfl,w8,z80⟩:=fY.under hgs w7
     obtain⟨k3,k4,k5⟩:=hon m0 rfl
     obtain⟨aB5,hJ,hU,x6⟩:=c7 (show ¬m0=ns from k3)
     obtain⟨aEY,jC,jD,aAN⟩:=c7 (show ¬m0=n8 from k4)
     obtain⟨aEZ,jE,jF,aAL⟩:=c7 (show ¬m0=n9 from k5)
     simp only[aL,bD]at *
     have k6:¬m0=nf:=λe=>by rw[e,aH]at zf;cases zf
     obtain⟨bJH,aLX,aLY,bJI⟩:=c7 (show ¬m0=nf from k6)
     simp only[aM,bF,bQ,mK,jD,bG,bO,h8,hU,bP,bN,mN,jF,mJ,hZ,mM,aLY,jC,hJ,jE,aLX,if_false]at ws' wf' z78 z79
     simp -dsimp -implicitDefEqProofs only[go_sem,↓reduceIte,Tryz.f31,bF,bQ,mK,jD,bG,bO,h8,hU,bP,bN,mN,jF,mJ,hZ,mM,aLY,jC,hJ,jE,aLX,aE,aM,dP,dQ,dR,dS,dT,eC,eV,fX,dY]
     have ht:List.take fs.length (OV.cells es)=OV.cells es:=kC aMJ
     refine⟨by decide,by have:=hor.length;omega,by omega,by omega,λm qm=>?_⟩
     have am:¬m=ns:=by grind
     have bm:¬m=n8:=by grind
     have cm:¬m=n9:=by grind
     have em:¬m=nf:=by grind
     have dm:g8 m=none:=by grind
     have fm:¬m=m0:=(by grind);have vZ:=eq_false fm;have v7:=eq_false (sJ fm);have aLR:=fm;have aLS:=sJ fm
     obtain⟨qS,fO,fP,qT⟩:=c7 (show ¬m=ns from am)
     obtain⟨tU,iE,iF,tV⟩:=c7 (show ¬m=n8 from bm)
     obtain⟨vX,jA,jB,vY⟩:=c7 (show ¬m=n9 from cm)
     obtain⟨aRC,wF,wG,aRD⟩:=c7 (show ¬m=nf from em)
     simp -dsimp -implicitDefEqProofs only[go_sem,↓reduceIte,Tryz.f31,bF,bQ,mK,iF,bG,bO,h8,fP,bP,bN,mN,jB,mJ,hZ,mM,wG,iE,fO,jA,wF,vZ,iE,jA,wF,fO,v7,jC,jE,aLX,hJ,iF,jD,bQ,mK,bF,jB,jF,bP,mN,bN,wG,aLY,mJ,mM,hZ,fP,hU,bG,bO,h8,aE,aM,dP,dQ,dR,dS,dT,eC,eV,fX]
     refine⟨(fs++[⟨nm,par,outs⟩],es++[[.v (.str nm),.v (I par),.sl m5 5 eo]],g8,some m,a8,sd8),?_,?_,hdd.next hlt hgood bF6 (by simpa only[OV.p7,OV.sV,OV.xK,eC,eV]using w8) ⟨ws',z78,z79⟩ dm ⟨am,bm,cm⟩ aA,by simp only[k8,lV];omega⟩
     ·rw[IntWalk.i64_in _ (by first|omega|(simp only[yZ];omega))]
      simp only[k8,lV,yZ]
      rfl
     ·intro q_
      simp only[aM,aL,bD,iN,eM,dY,jR,jS,OV.gD,OV.c6,OV.lN,OV.aKO,eC,qH,x4,k8,lV,yZ,hei,ht]
      grind
 ·have hfe:es.length=fs.length:=hor.length.symm
  refine⟨_,_,Shift.of (Sub.refl _) ?_,fs,es,o,g1,a3,wT,by omega,hdr,hor,hnew,zs,hgs,λm e=>(hon m e).1,hfo,rfl,by omega,rfl⟩
  have y8:c8 g1 (.row 3 (OV.cells es)) o n8=none:=jW z18 λm e=>(hon m e).2.1
  have y9:c8 g1 (.row 3 (OV.cells es)) o n9=none:=jW z19 λm e=>(hon m e).2.2
  intro q_
  simp only[aM]
  grind
theorem Shift.own {h h':Heap} (e:List OV) (ho:sM h' (OV.dD e)) (hl:h.le (jV h' (bR (OV.dD e)))):Shift (.agg (e.map OV.val)) h' (.agg (e.map OV.oG)) h:=λE w v R rx =>
 ⟨E,(Ev.jV _).forget hl,(R.jV _).forget hl,(dU.aGD R e v ho (λp hp=>dC.2 ⟨p.2,hp⟩) rx).rP λb hb=>oE.le hl hb⟩
def a0F (l:List Int):bW:=.row 1 ((l.map λn=>[I n]).map (List.map .v))
theorem aV9 (l:List Int) (x:Int):a0F (l++[x])=.row 1 (((l.map λn=>[I n]).map (List.map Cell.v))++[[.v (I x)]]):=by simp[a0F]
@[go_sem] def a0G:List Nat:=[0,1,4,5,6,10]
@[go_sem] def bF7:List Nat:=[7,16]
theorem aHP {ns:Nat} {c:List Int} (hc:∀ x∈c,InB x) (hl:c.length<=4096) (size:Int) (hsz:size<=1000) {B:Heap} (hB:B ns=none) {a:Nat} (ha:a<=800000000) {sd:Int} :
  fH Tryz.prog 35 [.op ns 3 0 0,I size] (aR B ns (iX c a sd)) λr h'=>∃ l a' sd',l.length=size.toNat/\gE l/\r=ints l/\(a<=a'/\a'<=a+8*size.toNat)/\h'=aR B ns (iX c a' sd'):=by
 refine gG 19 a0G bF7 cC Tryz.func35 ?_
 simp -dsimp -implicitDefEqProofs only[go_sem,↓reduceIte,Tryz.f35]
 refine⟨by decide,?_⟩
 refine dJ a0G bF7 cC (λx:List Int×Option Nat×Nat×Int=>[(0,.op ns 3 0 0),(1,I size),(5,iH 1 x.1.length x.2.1),(6,I x.1.length)]) (λx=>aR (c8 B (a0F x.1) x.2.1) ns (iX c x.2.2.1 x.2.2.2)) (λx=>(x.1.length<=size.toNat/\gE x.1)/\fM B x.1 x.2.1/\(∀ m,x.2.1=some m->¬m=ns)/\(a<=x.2.2.1/\x.2.2.1<=a+8*x.1.length)) (λx=>size.toNat-x.1.length) ([],none,a,sd) ⟨by simp[dM,cE,iH],Heap.le_refl _,⟨gM _,λx hx=>by cases hx⟩,rfl,(λm e=>by cases e),by simp⟩ ?_
 rintro⟨l,o,a1,sd1⟩ ⟨⟨hll,hnl⟩,hos,hon,ha1⟩
 simp only at hll hnl hos hon ha1 ⊢
 simp -dsimp -implicitDefEqProofs only[go_sem,↓reduceIte,Tryz.f35]
 refine⟨λhlt=>?_,λhge=>?_⟩
 ·refine aG.eH (bAG (a:=a1) (sd:=sd1) hc hl aA (aH ..)) ?_
  rintro r_ h' ⟨x,a2,yN,rfl,hx,ha2,rfl⟩
  rw[aJ]
  simp -dsimp -implicitDefEqProofs only[go_sem,↓reduceIte,Tryz.f35]
  refine⟨by decide,by decide,?_⟩
  have hnx:gE (l++[x]):=λy hy=>by
   rcases mS.1 hy with hy|hy
   ·exact hnl y hy
   ·rw[nQ.1 hy];exact hx
  have hstep:(l++[x]).length=l.length+1:=by simp
  cases o with
  |none =>
   rw[bK]at hos
   subst hos
   simp -dsimp -implicitDefEqProofs only[go_sem,↓reduceIte,Tryz.f35,b5,aQ]
   refine⟨by decide,λn ⟨d1,z1⟩=>⟨([x],some n,a2,yN),⟨rfl,IntWalk.i64_in _ aA⟩,?_,⟨⟨by simp only[lV];omega,hnx⟩,z1,λm e=>by cases e;exact d1,by show a<=a2/\a2<=a+8*1;simp only[yZ]at ha1;omega⟩,by simp only[lV,yZ]at hlt ⊢;omega⟩⟩
   simp only[aL]
   rw[bT d1]
   exact Heap.le_refl _
  |some m0 =>
   rw[aT]at hos
   have k1:=hon m0 rfl
   obtain⟨aB5,hJ,hU,x6⟩:=c7 (show ¬m0=ns from k1)
   simp -dsimp -implicitDefEqProofs only[go_sem,↓reduceIte,Tryz.f35,aY,aL,hJ,hU,aE,aM,a0F]
   refine⟨by decide,j4 _,by omega,by omega,λb hb=>?_⟩
   have b1:¬b=ns:=by grind
   have b2:¬b=m0:=by grind
   have b3:B b=none:=by grind
   refine⟨(l++[x],some b,a2,yN),⟨by rw[hstep];rfl,by rw[hstep,IntWalk.i64_in _ aA];rfl⟩,?_,⟨⟨by rw[hstep];omega,hnx⟩,b3,λm e=>by cases e;exact b1,by show a<=a2/\a2<=a+8*(l++[x]).length;rw[hstep];omega⟩,by show size.toNat-(l++[x]).length<_;rw[hstep];omega⟩
   simp only[aL]
   have hr:=aV9 l x
   unfold a0F at hr
   rw[kC cK,hr]
   intro q_
   simp only[aM]
   grind
 ·have he:l.length=size.toNat:=by omega
  cases o with
  |none =>
   rw[bK]at hos
   subst hos
   exact⟨ints [],_,Shift.of (Sub.loose _ _ _) (Heap.le_refl _),[],a1,sd1,he,hnl,rfl,by omega,rfl⟩
  |some m0 =>
   rw[aT]at hos
   have k1:=hon m0 rfl
   exact⟨ints l,aR B ns (iX c a1 sd1),iO l (by rw[aE _ _ _ _ k1];exact hos) (by rw[aL,bT k1];exact Heap.le_refl _) rfl,l,a1,sd1,he,hnl,rfl,by omega,rfl⟩
theorem sG {h h':Heap} {n sz:Nat} {x r:aC} (es:List (List aC)) (h0:h n=none) (hl:(aR h n (.row sz (es.map (List.map .v)))).le h') (hb:j5 n sz es.length x=true) (hr:x.gP n es=r):Shift x h' r h:=by
 subst hr
 refine(Shift.of (Sub.refl _) hl).trans ((Shift.gP (aH _ _ _) (by rw[iG];exact hb)).trans ?_)
 rw[p8]
 exact bJ ((bA h0).2 ((bA h0).2 (Heap.le_refl h)))
theorem aE5 {h g:Heap} {b:Nat} {A:List (List Cell)} {x y:aC} (hb:h b=some (.row 1 (A++[[.v x]]))) (s:Sub x y) (hg:g.le (aR h b (.row 1 (A++[[.v y]])))):g.wk h :=
 Heap.wk.trans (Heap.r9 hg) (Heap.a8P (m:=b) (λq hq=>aE _ _ _ _ hq) hb (aH _ _ _) (lJ.sub (.cons s .nil) A))
@[go_sem] def bF8:List Nat:=[6,15,16]
theorem aB6 (l:List Int) (hl:l.length<=1048576):eX Tryz.prog 82 [ints l] (dX (l.map λn=>[n])):=by
 refine aBA 20 aSZ bF8 cC Tryz.func82 λh=>?_
 simp -dsimp -implicitDefEqProofs only[go_sem,↓reduceIte,Tryz.f82]
 refine⟨b6,λ_=>?_⟩
 refine aYB aSZ bF8 cC (λx:Nat×Option Nat=>[(3,iH 1 (l.take x.1).length x.2),(7,ints l),(8,I l.length),(9,I x.1)]) (λx=>c8 h (.row 1 ((((l.take x.1).map λn=>[n]).map λs=>[ints s]).map (List.map .v))) x.2) (λx=>x.1<=l.length/\fM h (l.take x.1) x.2) (λx=>l.length-x.1) (0,none) ⟨by simp[dM,cE,iH],by simp only[aQ];exact Heap.r9 (Heap.le_refl _),gM _,by simp[fM]⟩ ?_
 rintro⟨k,o⟩ ⟨hk,hos⟩
 simp only at hk hos ⊢
 rcases cQ k l.length with hlt|hge
 ·have ea:l[k]?=some l[k]:=cP hlt
  have hy:l.take (k+1)=l.take k++[l[k]]:=pD hlt
  have hlk:(l.take k).length=k:=by rw[qI];omega
  cases o with
  |none =>
   rw[bK]at hos
   rw[hos]at hy ⊢
   simp -dsimp -implicitDefEqProofs only[go_sem,↓reduceIte,Tryz.f82,b5,aQ,hlt,ea]
   refine⟨b6,b6,b6,b6,b6,λb hb=>⟨(k+1,some b),?_⟩⟩
   simp only[hy]
   refine⟨⟨rfl,by rw[IntWalk.i64_in _ aA];rfl⟩,aE5 (A:=[]) (x:=.sl 1 [[I l[k]]] true) (y:=ints [l[k]]) (aH _ _ _) (Sub.loose _ _ _) qU,⟨by omega,hb⟩,by omega⟩
  |some n =>
   rw[aT]at hos
   simp -dsimp -implicitDefEqProofs only[go_sem,↓reduceIte,Tryz.f82,aY,aL,hlt,ea]
   refine⟨b6,b6,b6,b6,b6,j4 _,by omega,by omega,λb hb=>⟨(k+1,some b),?_⟩⟩
   simp only[hy,aL,aY,aT]
   refine⟨⟨by rw[k8];rfl,by rw[IntWalk.i64_in _ aA];rfl⟩,aE5 (x:=.sl 1 [[I l[k]]] true) (y:=ints [l[k]]) (aH _ _ _) (Sub.loose _ _ _) ?_,⟨by omega,hb.2⟩,by omega⟩
   have hl2:(l.take k).length=((l.take k).map λn=>[n]).length:=by rw[iG]
   rw[aJ,zG,show((l.take k).map λn=>[n])++[l[k]].map (λn=>[n])=((l.take k).map λn=>[n])++[[l[k]]]from rfl,←fJ ints,hl2]
   exact mU hos
 ·have hk':k=l.length:=by omega
  subst hk'
  rw[jG]at hos ⊢
  cases o with
  |none =>
   rw[bK]at hos
   simp -dsimp -implicitDefEqProofs only[go_sem,↓reduceIte,Tryz.f82,b5,aQ,cV,fW]
   subst hos
   exact Shift.of (Sub.loose _ _ _) (Heap.le_refl _)
  |some n =>
   rw[aT]at hos
   simp -dsimp -implicitDefEqProofs only[go_sem,↓reduceIte,Tryz.f82,aY,aL,cV,fW]
   exact s9 _ hos (Heap.le_refl _) aMP
@[go_sem] def bF9:List Nat:=[6,17]
theorem a0H (l:List (List Int)) (hl:l.length<=1048576) (hne:∀ s∈l,0<s.length):eX Tryz.prog 83 [dX l] (ints (l.map λs=>s.getD 0 0)):=by
 have hc:(l.map λs=>s.getD 0 0).length=l.length:=iG _
 refine aBA 21 aSZ bF9 cC Tryz.func83 λh=>?_
 simp -dsimp -implicitDefEqProofs only[go_sem,↓reduceIte,Tryz.f83]
 refine⟨b6,λ_=>?_⟩
 refine dJ aSZ bF9 cC (λx:Nat×Option Nat=>[(7,dX l),(8,I l.length),(3,iH 1 ((l.map λs=>s.getD 0 0).take x.1).length x.2),(9,I x.1)]) (λx=>c8 h (.row 1 ((((l.map λs=>s.getD 0 0).take x.1).map λn=>[I n]).map (List.map .v))) x.2) (λx=>x.1<=l.length/\fM h ((l.map λs=>s.getD 0 0).take x.1) x.2) (λx=>l.length-x.1) (0,none) ⟨by simp[dM,cE,iH],by simp only[aQ];exact Heap.le_refl _,gM _,by simp[fM]⟩ ?_
 rintro⟨k,o⟩ ⟨hk,hos⟩
 simp only at hk hos ⊢
 rcases cQ k l.length with hlt|hge
 ·have ea:l[k]?=some l[k]:=cP hlt
  have h0:=hne _ (eF hlt)
  have e0:(l[k])[Int.toNat 0]?=some (l[k].getD 0 0):=dV h0
  have hy:(l.map λs=>s.getD 0 0).take (k+1)=(l.map λs=>s.getD 0 0).take k++[(l.map λs=>s.getD 0 0)[k]'aA]:=pD aA
  have hlk:((l.map λs=>s.getD 0 0).take k).length=k:=by rw[qI];omega
  rw[aIW]at hy
  cases o with
  |none =>
   rw[bK]at hos
   rw[hos]at hy ⊢
   simp -dsimp -implicitDefEqProofs only[go_sem,↓reduceIte,Tryz.f83,b5,aQ,hlt,ea,e0]
   repeat'(with_reducible first|intro _|refine And.intro ?_ ?_)
   all_goals try(first|omega|decide)
   rename_i b hb
   refine⟨(k+1,some b),?_⟩
   simp only[hy]
   refine⟨⟨rfl,?_⟩,Heap.le_refl _,⟨by omega,hb⟩,by omega⟩
   rw[IntWalk.i64_in _ aA];rfl
  |some n =>
   rw[aT]at hos
   simp -dsimp -implicitDefEqProofs only[go_sem,↓reduceIte,Tryz.f83,aY,aL,hlt,ea,e0]
   repeat'(with_reducible first|intro _|refine And.intro ?_ ?_)
   all_goals try(first|omega|decide|exact j4 _)
   rename_i b hb
   refine⟨(k+1,some b),?_⟩
   simp only[hy,aL,aY,aT]
   refine⟨⟨by rw[k8];rfl,?_⟩,?_,⟨by omega,hb.2⟩,by omega⟩
   ·rw[IntWalk.i64_in _ aA];rfl
   ·rw[←fJ];exact mU hos
 ·have hk':k=l.length:=by omega
  subst hk'
  rw[kC aA]at hos ⊢
  cases o with
  |none =>
   rw[bK]at hos
   simp -dsimp -implicitDefEqProofs only[go_sem,↓reduceIte,Tryz.f83,b5,aQ,cV,fW]
   rw[hos]
   exact Shift.of (Sub.loose _ _ _) (Heap.le_refl _)
  |some n =>
   rw[aT]at hos
   simp -dsimp -implicitDefEqProofs only[go_sem,↓reduceIte,Tryz.f83,aY,aL,cV,fW]
   exact iO _ hos (Heap.le_refl _) hc.symm
def aO3 (X:Out (List (List Int))):List (List Int)×Int×Int:=match X with
 | .ok (vs,t)=>(vs,t,0)
 | .error c=>([],0,c)
theorem a0I {X:Out (List (List Int))} {l:List (List Int)} {t:Nat} {c:Int} (h:gZ X l t c):aO3 X=if c=0 then(l,(t:Int),0)else([],0,c):=by
 cases X with
 |ok p =>
  obtain⟨w,u⟩:=p
  obtain⟨rfl,rfl,rfl⟩:=h
  rfl
 |error d =>
  obtain⟨rfl,h⟩:=h
  rw[if_neg h];rfl
theorem xX (l:List Int) (hl:l.length<=1048576):eX Tryz.prog 137 [ints l] (ints l):=aG7 (a8X l hl)
@[go_sem] def a0J:List Nat:=[0,1,2,3,4,8,9,10,11,12,13,15,33,39,40,41,42]
@[go_sem] def bGA:List Nat:=[4,38,48]
@[go_sem] def bGB:Marks:=λid=>match id with|4=>([3],(.op 0 (.op 1 (.op 2 (.op 3 (.op 4 (.op 5 (.op 6 .nil))))))),[])|11=>([4],(.op 0 (.op 1 (.op 2 (.op 3 (.op 4 (.op 5 (.op 6 (.op 7 .nil)))))))),[])|_=>([],.nil,[])
theorem aWA {p:aF} (hp:p.ok) {sz:Nat} (hsz:1<=sz/\sz<=1048576) (f:Int) (hf:0<=f/\f<p.aI.length) (args:List (List Int)) (ha:∀ s∈args,cG sz s) (hl:∀ F,p.aI[f.toNat]?=some F->(args.length:Int)=F.bB) :
  eX Tryz.prog 81 [.agg p.c,I f,dX args,I ((sz:Int)-1)] (.eW [dX (aO3 (evF p sz f args)).1,I (aO3 (evF p sz f args)).2.1,I (aO3 (evF p sz f args)).2.2]):=by
 obtain⟨F,ef,hF1,hF2,hF3,hF4⟩:=rG hp hf
 have hlF:=hl F ef
 rw[aF.aU]
 refine aBA 56 a0J bGA bGB Tryz.func81 λh=>?_
 simp -dsimp -implicitDefEqProofs only[go_sem,↓reduceIte,Tryz.f81,ef,aV.aU]
 intro nb zb
 refine⟨hf.1,by omega,?_⟩
 refine aG.eH (vU (value hp hsz 3001) (aR h nb (cZ p sz 0 0)) nb 0 0 F.aO args f (aH _ _ _) aA aA aA (by rw[hlF];exact hF4) hf.1 aA ha aA) ?_
 rintro r h' ⟨vs,t,c,rfl,rfl,hvl,hvs,a1,a2,a3⟩
 rw[cJ,←hF3]at a3
 rw[a0I (show gZ (evF p sz f args) vs t c from a3)]
 rw[aJ]
 have hBn:(aR h nb (cZ p sz t c)) nb=some (.row 4 [[.v (eQ 3 aV.c p.aI),.v (I ((sz:Int)-1)),.v (I t),.v (I c)]]):=aH _ _ _
 have hBl:h.le (aR h nb (cZ p sz t c)):=Heap.bA zb (Heap.le_refl _)
 generalize aR h nb (cZ p sz t c)=hB at hBn hBl ⊢
 simp -dsimp -implicitDefEqProofs only[go_sem,↓reduceIte,Tryz.f81,hBn]
 refine⟨λhc=>?_,λhc=>?_⟩
 ·have hc':¬c=0:=by simpa using hc
  rw[if_neg hc']
  exact Shift.of (Sub.eW (.cons (Sub.nil 1 false) (.cons (.refl _) (.cons (.refl _) .nil)))) hBl
 ·have hc':c=0:=by simpa using hc
  subst hc'
  rw[if_pos rfl]
  refine⟨b6,λ_=>?_⟩
  refine dJ a0J bGA bGB (λx:Nat×Option Nat=>[(11,.op nb 4 0 0),(13,iH 1 (vs.take x.1).length x.2),(39,dX vs),(40,I vs.length),(41,I x.1)]) (λx=>c8 hB (.row 1 (((vs.take x.1).map λs=>[ints s]).map (List.map .v))) x.2) (λx=>x.1<=vs.length/\fM hB (vs.take x.1) x.2) (λx=>vs.length-x.1) (0,none) ⟨by simp[dM,cE,iH],by simp only[aQ];exact Heap.le_refl _,gM _,by simp[fM]⟩ ?_
  rintro⟨k,o⟩ ⟨hk,hos⟩
  simp only at hk hos ⊢
  rcases cQ k vs.length with hlt|hge
  ·have ea:vs[k]?=some vs[k]:=cP hlt
   have hy:vs.take (k+1)=vs.take k++[vs[k]]:=pD hlt
   have hlk:(vs.take k).length=k:=by rw[qI];omega
   have hsk:=hvs _ (eF hlt)
   cases o with
   |none =>
    rw[bK]at hos
    rw[hos]at hy ⊢
    simp -dsimp -implicitDefEqProofs only[go_sem,↓reduceIte,Tryz.f81,b5,aQ,hlt,ea]
    first|refine aG.mk (xX vs[k] aDF) ?_|refine aD.mk (xX vs[k] aDF) ?_|refine aG.bC (xX vs[k] aDF) ?_|refine aD.mk (aZ.dB (xX vs[k] aDF)) ?_
    simp -dsimp -implicitDefEqProofs only[go_sem,↓reduceIte,Tryz.f81]
    repeat'(with_reducible first|intro _|refine And.intro ?_ ?_)
    all_goals try(first|omega|decide)
    rename_i b hb
    refine⟨(k+1,some b),?_⟩
    simp only[hy]
    refine⟨⟨rfl,?_⟩,Heap.le_refl _,⟨by omega,hb⟩,by omega⟩
    rw[IntWalk.i64_in _ aA];rfl
   |some n =>
    rw[aT]at hos
    simp -dsimp -implicitDefEqProofs only[go_sem,↓reduceIte,Tryz.f81,aY,aL,hlt,ea]
    first|refine aG.mk (xX vs[k] aDF) ?_|refine aD.mk (xX vs[k] aDF) ?_|refine aG.bC (xX vs[k] aDF) ?_|refine aD.mk (aZ.dB (xX vs[k] aDF)) ?_
    simp -dsimp -implicitDefEqProofs only[go_sem,↓reduceIte,Tryz.f81]
    repeat'(with_reducible first|intro _|refine And.intro ?_ ?_)
    all_goals try(first|omega|decide|exact j4 _)
    rename_i b hb
    refine⟨(k+1,some b),?_⟩
    simp only[hy,aL,aY,aT]
    refine⟨⟨by rw[k8];rfl,?_⟩,?_,⟨by omega,hb.2⟩,by omega⟩
    ·rw[IntWalk.i64_in _ aA];rfl
    ·rw[←fJ];exact mU hos
  ·have hk':k=vs.length:=by omega
   subst hk'
   rw[jG]at hos ⊢
   cases o with
   |none =>
    rw[bK]at hos
    subst hos
    simp -dsimp -implicitDefEqProofs only[go_sem,↓reduceIte,Tryz.f81,b5,aQ,cV,hBn]
    exact Shift.of (Sub.eW (.cons (Sub.loose _ _ _) (.cons (.refl _) (.cons (.refl _) .nil)))) hBl
   |some n =>
    rw[aT]at hos
    obtain⟨aLZ,qL,qM,aL0⟩:=c7 (show ¬n=nb from λe=>by rw[e,hBn]at hos;cases hos)
    simp -dsimp -implicitDefEqProofs only[go_sem,↓reduceIte,Tryz.f81,aY,aL,cV,aE,qL,qM,hBn]
    refine Shift.trans (sG (vs.map λs=>[ints s]) hos (Heap.le_refl _) (by simp[j5,kQ]) ?_) (bJ hBl)
    simp[aC.gP,p5,kC]
@[go_sem] def bJJ:List Nat:=[0,1,4,5,7,10,11,12,13]
theorem w2:IntKind.i64.wrap (1+1)=2:=by decide
theorem n0:Int.toNat 0=0:=rfl
theorem n1:Int.toNat 1=1:=rfl
theorem n2:Int.toNat 2=2:=rfl
end Go.Hl

/-
  Contracts of functions and laws of the layer over the walk.
-/
import Derived.Test.YtajjlpophonkoaaGreatDoorVvF
import Derived.Test.YtajjlpophonkoaaGreatDoorVvE
import Derived.Test.YtajjlpophonkoaaGreatDoorVvD
import Derived.Test.YtajjlpophonkoaaGreatDoorVvA
namespace Go.Hl
set_option maxRecDepth 100000
open Go.Proofs
set_option linter.unusedVariables false
set_option linter.unusedSimpArgs false
theorem Shift.bGT {x y:aC} {h h':Heap} (s:Shift x h' y h) (n:Int):Shift (.eW [x,I n]) h' (.eW [y,I n]) h:=λE w v R r=>by
 cases r with
 |eW _ vs hl hr =>
  match vs,hl with
  | [v0,v1],_ =>
   obtain⟨E',ev,R',r'⟩:=s E w v0 R (hr 0 x v0 rfl rfl)
   have h1:=hr 1 (I n) v1 rfl rfl
   cases h1
   refine⟨E',ev,R',.eW _ _ rfl λi z u hz hu=>?_⟩
   match i with
   |0=>cases hz;cases hu;exact r'
   |1=>cases hz;cases hu;exact .int _ _
   |i+2=>cases hz
def nD (l:List (List Int)):bW:=.row 1 ((l.map λs=>[ints s]).map (List.map .v))
theorem aRI (l:List (List Int)) (s:List Int):nD (l++[s])=.row 1 (((l.map λs=>[ints s]).map (List.map Cell.v))++[[.v (ints s)]]):=by simp[nD]
theorem nP (l:List (List Int)) {k:Nat} (h:l.length=k) (s:List Int):bW.row 1 (List.take k ((l.map λs=>[ints s]).map (List.map Cell.v))++[[.v (aC.sl 1 (s.map λn=>[I n]) false)]])=nD (l++[s]):=by
 rw[aRI,kC (by simp[h])]
@[go_sem] def aUH:List Nat:=[0,1,2,4,6,9,10,11,12,13,20]
theorem bGU (t:cW) (ht:t.ok) (ls:List (List Int)) (hl:ls.length<=100) (hls:∀ l∈ls,(l.length:Int)=t.cB/\gE l):eX Tryz.prog 126 [.agg t.c,dX ls] (I 0):=by
 have hv:=yM t aMO aMO aMO
 rw[decide_eq_true ht]at hv
 rw[cW.aU]at hv ⊢
 refine eJ 22 aUH aKR cC Tryz.func126 λh=>?_
 simp -dsimp -implicitDefEqProofs only[go_sem,↓reduceIte,Tryz.f126]
 first|refine aG.mk (hv) ?_|refine aD.mk (hv) ?_|refine aG.bC (hv) ?_|refine aD.mk (aZ.dB (hv)) ?_
 simp -dsimp -implicitDefEqProofs only[go_sem,↓reduceIte,Tryz.f126]
 refine λ_=>?_
 refine dJ aUH aKR cC (λk:Nat=>[(2,.ip 4 [[I t.cB,eQ 4 aP.c t.aS,eQ 2 bL.c t.bX,ints t.aO]] 0 0),(10,dX ls),(11,I ls.length),(12,I k)]) (λ_=>h) (λk=>k<=ls.length) (λk=>ls.length-k) 0 ⟨by simp[dM,cE],Heap.le_refl _,gM _⟩ ?_
 intro k hk
 rcases cQ k ls.length with hlt|hge
 ·have ea:ls[k]?=some ls[k]:=cP hlt
  have hn:=pP ls[k] t.cB
  rw[decide_eq_true (hls _ (eF hlt))]at hn
  simp -dsimp -implicitDefEqProofs only[go_sem,↓reduceIte,Tryz.f126,hlt,ea]
  first|refine aG.mk (hn) ?_|refine aD.mk (hn) ?_|refine aG.bC (hn) ?_|refine aD.mk (aZ.dB (hn)) ?_
  simp -dsimp -implicitDefEqProofs only[go_sem,↓reduceIte,Tryz.f126,hlt,ea]
  exact⟨k+1,IntWalk.i64_in _ aA,hlt,by omega⟩
 ·obtain rfl:k=ls.length:=by omega
  simp -dsimp -implicitDefEqProofs only[go_sem,↓reduceIte,Tryz.f126,cV,fW]
@[go_sem] def a5I:List Nat:=[0,1,3,4]
theorem a0S (n:Int) {sz:Nat} (hsz:1<=sz/\sz<=1048576):eX Tryz.prog 142 [I n,.ip 1 [[I ((sz:Int)-1)]] 0 0] (ints (l6 n sz)):=by
 have e1:IntKind.i64.wrap ((sz:Int)-1+1)=(sz:Int):=by rw[IntWalk.i64_in _ aA];omega
 have e2:=aLB (x:=[aC.int .i64 0]) hsz.1
 refine aBA 12 a5I cR cC Tryz.func142 λh=>?_
 simp -dsimp -implicitDefEqProofs only[go_sem,↓reduceIte,Tryz.f142,e1,tX,e2]
 refine⟨b6,by omega,by omega,by omega,λm hm=>⟨by omega,?_⟩⟩
 rw[aJ,show Int.toNat 0=0 from rfl,aG8]
 exact iO _ hm (Heap.le_refl _) (z7 n sz).symm
@[go_sem] def aUI:List Nat:=[0,1,2,3,5,6,7,8,9,11,12,16,17,18,19,27,28,35,48,61,74,82,91]
@[go_sem] def a7D:List Nat:=[3,5,13,105]
@[go_sem] def a7E:Marks:=λid=>match id with|11=>([2,4,7,9],(.op 0 (.op 1 (.op 5 (.op 6 (.op 2 (.op 3 (.op 4 (.op 7 (.op 8 (.op 9 (.op 10 (.op 11 .nil)))))))))))),[])|13=>([2,4,7,9],(.op 0 (.op 1 (.op 5 (.op 6 (.op 2 (.op 3 (.op 4 (.op 7 (.op 8 (.op 9 (.op 10 (.op 11 .nil)))))))))))),[])|15=>([2,4,7,9],(.op 0 (.op 1 (.op 5 (.op 6 (.op 2 (.op 3 (.op 4 (.op 7 (.op 8 (.op 9 (.op 10 (.op 11 .nil)))))))))))),[])|21=>([2,4,7,9],(.op 0 (.op 1 (.op 5 (.op 6 (.op 2 (.op 3 (.op 4 (.op 7 (.op 8 (.op 9 (.op 10 (.op 11 .nil)))))))))))),[])|_=>([],.nil,[])
def a7F (sz:Nat) (args:List (List Int)) (code:List aP):Prop:=∀ (i:Nat) (c:aP),code[i]?=some c->c.lT=6->¬(kL sz args code c.fB.toNat).getD 0 0=0
open Classical in
noncomputable def aHQ (sz:Nat) (args:List (List Int)) (code:List aP):aC:=if a7F sz args code then .eW [dX (o9 sz args code code.length),I 0]else .eW [.aW,I 6]
theorem aRJ (t:cW) {sz:Nat} (hsz:1<=sz/\sz<=1048576) (hins:∀ i c,t.aS[i]?=some c->fD t.cB i c) (hcl:t.aS.length<=3200) (args:List (List Int)) (ha:∀ s∈args,cG sz s) (hal:(args.length:Int)=t.cB):eX Tryz.prog 100 [.agg t.c,dX args,I ((sz:Int)-1)] (aHQ sz args t.aS):=by
 rw[cW.aU]
 refine aBA 109 aUI a7D a7E Tryz.func100 λh=>?_
 simp -dsimp -implicitDefEqProofs only[go_sem,↓reduceIte,Tryz.f100]
 refine⟨by decide,λ_=>?_⟩
 refine dJ aUI a7D a7E (λx:Nat×Option Nat=>[(1,dX args),(8,iH 1 x.1 x.2),(9,.fn (.func 142) [] [.ip 1 [[I ((sz:Int)-1)]] 0 0]),(16,eQ 4 aP.c t.aS),(17,I t.aS.length),(18,I x.1)]) (λx=>c8 h (nD (o9 sz args t.aS x.1)) x.2) (λx=>x.1<=t.aS.length/\fM h (o9 sz args t.aS x.1) x.2/\∀ (i:Nat) (c:aP),i<x.1->t.aS[i]?=some c->c.lT=6->¬(kL sz args t.aS c.fB.toNat).getD 0 0=0) (λx=>t.aS.length-x.1) (0,none) ⟨by simp[dM,cE,iH],Heap.le_refl _,gM _,rfl,λi c q=>absurd q (Nat.not_lt_zero i)⟩ ?_
 rintro⟨k,o⟩ ⟨hk,hos,hdone⟩
 simp only at hk hos hdone ⊢
 have hml:=nC sz args t.aS k
 rcases cQ k t.aS.length with hlt|hge
 ·have ek:t.aS[k]?=some t.aS[k]:=cP hlt
  have hin:=hins k _ ek
  have hnxt:(t.aS[k].lT=6->¬(kL sz args t.aS t.aS[k].fB.toNat).getD 0 0=0)->∀ (i:Nat) (c:aP),i<k+1->t.aS[i]?=some c->c.lT=6->¬(kL sz args t.aS c.fB.toNat).getD 0 0=0:=λq i c hi hc=>by
   rcases cQ i k with h1|h1
   ·exact hdone i c h1 hc
   ·obtain rfl:i=k:=by omega
    rw[ek]at hc
    cases hc;exact q
  have hst:o9 sz args t.aS (k+1)=o9 sz args t.aS k++[opS sz args (o9 sz args t.aS k) t.aS[k]]:=by
   rw[o9,show t.aS.getD k ⟨0,0,0,0⟩=t.aS[k]by rw[gA,ek];rfl]
  generalize hc:t.aS[k]=c at *
  have hconst:=a0S c.aX hsz
  generalize hR:o9 sz args t.aS k=R at *
  have hgR:∀ i:Int,0<=i/\i<k->R[i.toNat]?=some (R.getD i.toNat [])/\cG sz (R.getD i.toNat []):=λi hi=>by
   refine⟨jP aA,?_⟩
   have h1:=aE6 (sz:=sz) hins ha hal i.toNat aA
   rwa [kL,sH sz args t.aS (k:=k) aA _ aA,hR]at h1
  by_cases hdk:c.lT=6->¬(kL sz args t.aS c.fB.toNat).getD 0 0=0
  rotate_left
  ·have h1:c.lT=6:=by omega
   have hres:aHQ sz args t.aS=.eW [.aW,I 6]:=if_neg λq=>hdk (q k c ek)
   have hz0:(kL sz args t.aS c.fB.toNat).getD 0 0=0:=aMF λq=>hdk λ_=>q
   have i0:(0<=c.fA/\c.fA<k)/\0<=c.fB/\c.fB<k:=by unfold fD at hin;omega
   have nb:=hgR c.fB aA
   have hz:(R.getD c.fB.toNat []).getD 0 0=0:=by rwa [kL,sH sz args t.aS (k:=k) aA _ aA,hR]at hz0
   have gz:(R.getD c.fB.toNat [])[Int.toNat 0]?=some ((R.getD c.fB.toNat []).getD 0 0):=dV (by rw[nb.2.1];exact hsz.1)
   have lz:=nb.2.1
   cases o with
   |none=>rw[bK]at hos;subst hos;simp at hml;omega
   |some n =>
    rw[aT]at hos
    simp -dsimp -implicitDefEqProofs only[go_sem,↓reduceIte,Tryz.f100,aY,aL,hlt,ek,aP.aU]
    refine λm ⟨dm,zm⟩=>?_
    obtain⟨bGV,tI,tJ,bGW⟩:=c7 (show ¬m=n from dm)
    rw[aJ]
    first|refine aG.mk (hconst) ?_|refine aD.mk (hconst) ?_|refine aG.bC (hconst) ?_|refine aD.mk (aZ.dB (hconst)) ?_
    simp -dsimp -implicitDefEqProofs only[go_sem,↓reduceIte,Tryz.f100]
    simp -dsimp -implicitDefEqProofs only[go_sem,↓reduceIte,Tryz.f100,h1,nD,nb.1,gz,hz,tI,tJ,aE]
    rw[hres]
    exact⟨i0.2.1,i0.2.2,by rw[lz];omega,bJ (Heap.bA zm (Heap.bA hos (Heap.le_refl _)))⟩
  cases o with
  |none =>
   rw[bK]at hos
   subst hos
   obtain rfl:k=0:=hml.symm
   simp -dsimp -implicitDefEqProofs only[go_sem,↓reduceIte,Tryz.f100,b5,aQ,hlt,ek,aP.aU]
   intro m hm
   rw[aJ]
   first|refine aG.mk (hconst) ?_|refine aD.mk (hconst) ?_|refine aG.bC (hconst) ?_|refine aD.mk (aZ.dB (hconst)) ?_
   simp -dsimp -implicitDefEqProofs only[go_sem,↓reduceIte,Tryz.f100]
   have hnext:∀ (g:Heap) (b:Nat) (s:List Int),s=opS sz args [] c->h b=none->(aR h b (nD [s])).le g->∃ x':Nat×Option Nat,(aC.os b 1 0 1=iH 1 x'.1 x'.2/\IntKind.i64.wrap (((0:Nat):Int)+1)=(x'.1:Int))/\(c8 h (nD (o9 sz args t.aS x'.1)) x'.2).le g/\(x'.1<=t.aS.length/\fM h (o9 sz args t.aS x'.1) x'.2/\∀ (i:Nat) (c:aP),i<x'.1->t.aS[i]?=some c->c.lT=6->¬(kL sz args t.aS c.fB.toNat).getD 0 0=0)/\t.aS.length-x'.1<t.aS.length-0:=λg b s e z l=>by
    subst e
    exact⟨(1,some b),⟨rfl,IntWalk.i64_in _ aA⟩,by simp only[aL,hst];exact l,⟨hlt,z,hnxt hdk⟩,by simp only;omega⟩
   rcases(show c.lT=1∨c.lT=2 by unfold fD at hin;omega)with h1|h1
   ·have hn:0<=c.aX/\c.aX<args.length:=by unfold fD at hin;omega
    have ea:args[c.aX.toNat]?=some (args.getD c.aX.toNat []):=jP aA
    simp -dsimp -implicitDefEqProofs only[go_sem,↓reduceIte,Tryz.f100,h1,ea]
    refine⟨hn.1,hn.2,by decide,by decide,by decide,λb ⟨b1,b2⟩=>hnext _ b _ (by rw[opS,if_pos h1]) b2 (Heap.nG (Heap.bA hm (Heap.le_refl _)))⟩
   ·simp -dsimp -implicitDefEqProofs only[go_sem,↓reduceIte,Tryz.f100,h1]
    refine⟨by decide,by decide,by decide,λb ⟨b1,b2⟩=>hnext _ b _ (by rw[opS,if_neg aA,if_pos h1]) b2 (Heap.nG (Heap.bA hm (Heap.le_refl _)))⟩
  |some n =>
   rw[aT]at hos
   simp -dsimp -implicitDefEqProofs only[go_sem,↓reduceIte,Tryz.f100,aY,aL,hlt,ek,aP.aU]
   refine λm ⟨dm,zm⟩=>?_
   obtain⟨bGV,tI,tJ,bGW⟩:=c7 (show ¬m=n from dm)
   rw[aJ]
   first|refine aG.mk (hconst) ?_|refine aD.mk (hconst) ?_|refine aG.bC (hconst) ?_|refine aD.mk (aZ.dB (hconst)) ?_
   simp -dsimp -implicitDefEqProofs only[go_sem,↓reduceIte,Tryz.f100]
   have hnext:∀ (g:Heap) (b:Nat) (s:List Int),s=opS sz args R c->h b=none->(aR h b (nD (R++[s]))).le g->∃ x':Nat×Option Nat,(aC.os b 1 0 (k+1)=iH 1 x'.1 x'.2/\IntKind.i64.wrap ((k:Int)+1)=(x'.1:Int))/\(c8 h (nD (o9 sz args t.aS x'.1)) x'.2).le g/\(x'.1<=t.aS.length/\fM h (o9 sz args t.aS x'.1) x'.2/\∀ (i:Nat) (c:aP),i<x'.1->t.aS[i]?=some c->c.lT=6->¬(kL sz args t.aS c.fB.toNat).getD 0 0=0)/\t.aS.length-x'.1<t.aS.length-k:=λg b s e z l=>by
    subst e
    exact⟨(k+1,some b),⟨rfl,IntWalk.i64_in _ aA⟩,by simp only[aL,hst];exact l,⟨hlt,z,hnxt hdk⟩,by simp only;omega⟩
   have aC8:∀ X Y,h.le (aR (aR (aR h n X) m Y) n .gone):=λX Y q=>by
    by_cases e1:q=n
    ·subst e1;exact .inl hos
    by_cases e2:q=m
    ·subst e2;exact .inl zm
    rw[aE _ _ _ _ e1,aE _ _ _ _ e2,aE _ _ _ _ e1];exact .inr rfl
   rcases(show c.lT=1∨c.lT=2∨c.lT=3∨c.lT=4∨c.lT=5∨c.lT=6∨c.lT=7 by unfold fD at hin;omega)with h1|h1|h1|h1|h1|h1|h1
   ·have hn:0<=c.aX/\c.aX<args.length:=by unfold fD at hin;omega
    have ea:args[c.aX.toNat]?=some (args.getD c.aX.toNat []):=jP aA
    simp -dsimp -implicitDefEqProofs only[go_sem,↓reduceIte,Tryz.f100,h1,ea,tI,tJ,aE,nD]
    refine⟨hn.1,hn.2,by decide,by decide,by decide,by omega,by omega,by omega,λb ⟨b1,b2,b3⟩=>hnext _ b _ (by rw[opS,if_pos h1]) b3 ?_⟩
    rw[nP R hml]
    exact Heap.nG (aC8 _ _)
   ·simp -dsimp -implicitDefEqProofs only[go_sem,↓reduceIte,Tryz.f100,h1,tI,tJ,aE,nD]
    refine⟨by decide,by decide,by decide,by omega,by omega,by omega,λb ⟨b1,b2,b3⟩=>hnext _ b _ (by rw[opS,if_neg aA,if_pos h1]) b3 ?_⟩
    rw[nP R hml]
    exact Heap.nG (aC8 _ _)
   ·have na:=hgR c.fA aAQ
    have nb:=hgR c.fB aAQ
    have i0:(0<=c.fA/\c.fA<k)/\0<=c.fB/\c.fB<k:=by unfold fD at hin;omega
    have hop:3<=c.lT->opS sz args R c=opW c.lT (R.getD c.fA.toNat []) (R.getD c.fB.toNat []):=λq=>by rw[opS,if_neg aA,if_neg aA]
    have hcall:=aG7 (added (R.getD c.fA.toNat []) (R.getD c.fB.toNat []) aR8 aI0 (yF na.2.2) (yF nb.2.2))
    simp -dsimp -implicitDefEqProofs only[go_sem,↓reduceIte,Tryz.f100,h1,nD,na.1,nb.1,tI,tJ,aE]
    refine⟨by omega,by omega,by omega,by omega,aD.mk hcall ?_⟩
    simp -dsimp -implicitDefEqProofs only[go_sem,↓reduceIte,Tryz.f100,h1,nD,tI,tJ,aE]
    refine⟨by decide,by decide,by decide,by omega,by omega,by omega,λb ⟨b1,b2,b3⟩=>hnext _ b _ aMN b3 ?_⟩
    rw[nP R hml]
    exact Heap.nG (aC8 _ _)
   ·have na:=hgR c.fA aAQ
    have nb:=hgR c.fB aAQ
    have i0:(0<=c.fA/\c.fA<k)/\0<=c.fB/\c.fB<k:=by unfold fD at hin;omega
    have hop:3<=c.lT->opS sz args R c=opW c.lT (R.getD c.fA.toNat []) (R.getD c.fB.toNat []):=λq=>by rw[opS,if_neg aA,if_neg aA]
    have hcall:=reduced (R.getD c.fA.toNat []) (R.getD c.fB.toNat []) aR8 aI0 na.2.2 nb.2.2
    simp -dsimp -implicitDefEqProofs only[go_sem,↓reduceIte,Tryz.f100,h1,nD,na.1,nb.1,tI,tJ,aE]
    refine⟨by omega,by omega,by omega,by omega,aD.mk hcall ?_⟩
    simp -dsimp -implicitDefEqProofs only[go_sem,↓reduceIte,Tryz.f100,h1,nD,tI,tJ,aE]
    refine⟨by decide,by decide,by decide,by omega,by omega,by omega,λb ⟨b1,b2,b3⟩=>hnext _ b _ aMN b3 ?_⟩
    rw[nP R hml]
    exact Heap.nG (aC8 _ _)
   ·have na:=hgR c.fA aAQ
    have nb:=hgR c.fB aAQ
    have i0:(0<=c.fA/\c.fA<k)/\0<=c.fB/\c.fB<k:=by unfold fD at hin;omega
    have hop:3<=c.lT->opS sz args R c=opW c.lT (R.getD c.fA.toNat []) (R.getD c.fB.toNat []):=λq=>by rw[opS,if_neg aA,if_neg aA]
    have hcall:=product (R.getD c.fA.toNat []) (R.getD c.fB.toNat []) aR8 aI0 na.2.2 nb.2.2
    simp -dsimp -implicitDefEqProofs only[go_sem,↓reduceIte,Tryz.f100,h1,nD,na.1,nb.1,tI,tJ,aE]
    refine⟨by omega,by omega,by omega,by omega,aD.mk hcall ?_⟩
    simp -dsimp -implicitDefEqProofs only[go_sem,↓reduceIte,Tryz.f100,h1,nD,tI,tJ,aE]
    refine⟨by decide,by decide,by decide,by omega,by omega,by omega,λb ⟨b1,b2,b3⟩=>hnext _ b _ aMN b3 ?_⟩
    rw[nP R hml]
    exact Heap.nG (aC8 _ _)
   ·have na:=hgR c.fA aAQ
    have nb:=hgR c.fB aAQ
    have i0:(0<=c.fA/\c.fA<k)/\0<=c.fB/\c.fB<k:=by unfold fD at hin;omega
    have hop:3<=c.lT->opS sz args R c=opW c.lT (R.getD c.fA.toNat []) (R.getD c.fB.toNat []):=λq=>by rw[opS,if_neg aA,if_neg aA]
    have hcall:=quotient (R.getD c.fA.toNat []) (R.getD c.fB.toNat []) aR8 aI0 aI0 na.2.2 nb.2.2
    have hz:¬(R.getD c.fB.toNat []).getD 0 0=0:=by
     have h2:=hdk h1
     rwa [kL,sH sz args t.aS (k:=k) aA _ aA,hR]at h2
    have gz:(R.getD c.fB.toNat [])[Int.toNat 0]?=some ((R.getD c.fB.toNat []).getD 0 0):=dV (by rw[nb.2.1];exact hsz.1)
    have lz:=nb.2.1
    simp -dsimp -implicitDefEqProofs only[go_sem,↓reduceIte,Tryz.f100,h1,nD,na.1,nb.1,gz,hz,tI,tJ,aE]
    refine⟨by omega,by omega,by rw[lz];omega,by omega,by omega,by omega,by omega,aD.mk hcall ?_⟩
    simp -dsimp -implicitDefEqProofs only[go_sem,↓reduceIte,Tryz.f100,h1,nD,tI,tJ,aE]
    refine⟨by decide,by decide,by decide,by omega,by omega,by omega,λb ⟨b1,b2,b3⟩=>hnext _ b _ aMN b3 ?_⟩
    rw[nP R hml]
    exact Heap.nG (aC8 _ _)
   ·have na:=hgR c.fA aAQ
    have hop:3<=c.lT->opS sz args R c=opW c.lT (R.getD c.fA.toNat []) (R.getD c.fB.toNat []):=λq=>by rw[opS,if_neg aA,if_neg aA]
    have i0:0<=c.fA/\c.fA<k:=by unfold fD at hin;omega
    have hcall:=scaled (R.getD c.fA.toNat []) 1000002 pH aI0 na.2.2
    simp -dsimp -implicitDefEqProofs only[go_sem,↓reduceIte,Tryz.f100,h1,nD,na.1,tI,tJ,aE]
    refine⟨by omega,by omega,aG.mk hcall ?_⟩
    simp -dsimp -implicitDefEqProofs only[go_sem,↓reduceIte,Tryz.f100,h1,nD,tI,tJ,aE]
    refine⟨by decide,by decide,by decide,by omega,by omega,by omega,λb ⟨b1,b2,b3⟩=>hnext _ b _ aMN b3 ?_⟩
    rw[nP R hml]
    exact Heap.nG (aC8 _ _)
 ·have hk':k=t.aS.length:=by omega
  subst hk'
  rw[show aHQ sz args t.aS=.eW [dX (o9 sz args t.aS t.aS.length),I 0]from if_pos λi c hc=>hdone i c (jQ.1 hc).1 hc]
  cases o with
  |none =>
   rw[bK]at hos
   simp -dsimp -implicitDefEqProofs only[go_sem,↓reduceIte,Tryz.f100,b5,aQ,cV,fW]
   rw[hos]
   exact Shift.of (Sub.eW (.cons (Sub.loose _ _ _) (.cons (.refl _) .nil))) (Heap.le_refl _)
  |some n =>
   rw[aT]at hos
   simp -dsimp -implicitDefEqProofs only[go_sem,↓reduceIte,Tryz.f100,aY,aL,cV,fW]
   have h1:=s9 (o9 sz args t.aS t.aS.length) hos (Heap.le_refl _) hml.symm
   exact h1.bGT 0
def nE (args:List Int) (code:List aP):List Int:=(o9 1 (args.map λn=>[n]) code code.length).map λs=>s.getD 0 0
abbrev aB8 (args:List Int) (code:List aP):Prop:=a7F 1 (args.map λn=>[n]) code
open Classical in
noncomputable def aHR (args:List Int) (code:List aP) (x y:aC):aC:=if aB8 args code then .eW [x,I 0]else .eW [y,I 6]
theorem uZ {args:List Int} {code:List aP} (h:aB8 args code) (x y:aC):aHR args code x y=.eW [x,I 0]:=if_pos h
theorem yV {args:List Int} {code:List aP} (h:¬aB8 args code) (x y:aC):aHR args code x y=.eW [y,I 6]:=if_neg h
theorem a0T {inp:Int} {l:List aP} (h:yL inp l):∀ i c,l[i]?=some c->fD inp i c:=λi c e=>by
 obtain⟨hi,rfl⟩:=jQ.1 e
 have:=h i hi
 unfold kE fZ at this
 unfold fD fZ
 omega
theorem aJX (args:List Int) (code:List aP):(nE args code).length=code.length:=by rw[nE,iG,nC]
theorem aHS {args:List Int} (h:gE args):∀ s∈args.map λn=>[n],cG 1 s:=λs hs=>by
 obtain⟨n,hn,rfl⟩:=rC.1 hs
 exact⟨rfl,λx hx=>by rw[nQ.1 hx];exact h n hn⟩
theorem aC9 (args:List Int) (code:List aP) {k:Nat} (hk:k<code.length):(nE args code).getD k 0=(kL 1 (args.map λn=>[n]) code k).getD 0 0:=by
 rw[nE,kL,gA,nI,gA (l:=o9 _ _ _ _),cP (by rw[nC];exact hk)];rfl
@[go_sem] def a0U:List Nat:=[0,1,2,4,5,6,7,8,14,24]
@[go_sem] def bGX:List Nat:=[2,11]
@[go_sem] def bGY:Marks:=λid=>match id with|4=>([],(.op 0 (.op 1 (.op 2 (.op 3 (.op 4 (.op 5 (.op 6 (.op 7 (.op 8 .nil))))))))),[])|_=>([],.nil,[])
theorem aD1 (t:cW) (ht:t.ok) (args:List Int) (h1:(args.length:Int)=t.cB/\gE args):eX Tryz.prog 64 [.agg t.c,ints args] (aHR args t.aS (ints (nE args t.aS)) .aW):=by
 have bP3:=ht.inp
 have hr:=bGU t ht [args] cK (λl hl=>by rw[nQ.1 hl];exact h1)
 have hs:=aB6 args aA
 have hser:=aHS h1.2
 have hrg:=aRJ t (sz:=1) ⟨by decide,by decide⟩ (a0T ht.code) ht.lens.1 (args.map λn=>[n]) hser (by rw[iG];exact h1.1)
 rw[show(((1:Nat):Int)-1)=0 from rfl]at hrg
 have hrl:∀ s∈o9 1 (args.map λn=>[n]) t.aS t.aS.length,0<s.length:=λs hs=>by
  obtain⟨i,hi,rfl⟩:=aAK.1 hs
  rw[nC]at hi
  have h:=aE6 (sz:=1) (a0T ht.code) hser (by rw[iG];exact h1.1) i hi
  rw[kL,gA,cP (by rw[nC];exact hi)]at h
  have:=h.1
  simp only[aD5]at this
  omega
 have hf:=a0H (o9 1 (args.map λn=>[n]) t.aS t.aS.length) (by rw[nC];have:=ht.lens;omega) hrl
 rw[cW.aU]at hr hrg ⊢
 by_cases hd:aB8 args t.aS
 ·rw[uZ hd]
  rw[show aHQ 1 (args.map λn=>[n]) t.aS=.eW [dX (o9 1 (args.map λn=>[n]) t.aS t.aS.length),I 0]from if_pos hd]at hrg
  refine eJ 28 a0U bGX bGY Tryz.func64 λh=>?_
  simp -dsimp -implicitDefEqProofs only[go_sem,↓reduceIte,Tryz.f64]
  refine⟨by decide,by decide,aG.mk (eX.sub (.cons (.refl _) (.cons (Sub.loose 1 [[ints args]] true) .nil)) hr) ?_⟩
  simp -dsimp -implicitDefEqProofs only[go_sem,↓reduceIte,Tryz.f64]
  first|refine aG.mk (hs) ?_|refine aD.mk (hs) ?_|refine aG.bC (hs) ?_|refine aD.mk (aZ.dB (hs)) ?_
  simp -dsimp -implicitDefEqProofs only[go_sem,↓reduceIte,Tryz.f64]
  first|refine aG.mk (hrg) ?_|refine aD.mk (hrg) ?_|refine aG.bC (hrg) ?_|refine aD.mk (aZ.dB (hrg)) ?_
  simp -dsimp -implicitDefEqProofs only[go_sem,↓reduceIte,Tryz.f64]
  first|refine aG.mk (hf) ?_|refine aD.mk (hf) ?_|refine aG.bC (hf) ?_|refine aD.mk (aZ.dB (hf)) ?_
  simp -dsimp -implicitDefEqProofs only[go_sem,↓reduceIte,Tryz.f64]
  rfl
 ·rw[yV hd]
  rw[show aHQ 1 (args.map λn=>[n]) t.aS=.eW [.aW,I 6]from if_neg hd]at hrg
  refine eJ 28 a0U bGX bGY Tryz.func64 λh=>?_
  simp -dsimp -implicitDefEqProofs only[go_sem,↓reduceIte,Tryz.f64]
  refine⟨by decide,by decide,aG.mk (eX.sub (.cons (.refl _) (.cons (Sub.loose 1 [[ints args]] true) .nil)) hr) ?_⟩
  simp -dsimp -implicitDefEqProofs only[go_sem,↓reduceIte,Tryz.f64]
  first|refine aG.mk (hs) ?_|refine aD.mk (hs) ?_|refine aG.bC (hs) ?_|refine aD.mk (aZ.dB (hs)) ?_
  simp -dsimp -implicitDefEqProofs only[go_sem,↓reduceIte,Tryz.f64]
  first|refine aG.mk (hrg) ?_|refine aD.mk (hrg) ?_|refine aG.bC (hrg) ?_|refine aD.mk (aZ.dB (hrg)) ?_
  simp -dsimp -implicitDefEqProofs only[go_sem,↓reduceIte,Tryz.f64]
@[go_sem] def bGZ:List Nat:=[8,20]
theorem a5J (rg:List Int) (L:List Int) (hr:∀ r∈L,0<=r/\r<rg.length) (hl:L.length<=1048576):eX Tryz.prog 65 [ints rg,ints L] (ints (L.map λr=>rg.getD r.toNat 0)):=by
 have hc:(L.map λr=>rg.getD r.toNat 0).length=L.length:=iG _
 refine aBA 24 aSY bGZ cC Tryz.func65 λh=>?_
 simp -dsimp -implicitDefEqProofs only[go_sem,↓reduceIte,Tryz.f65]
 refine⟨b6,λ_=>?_⟩
 refine dJ aSY bGZ cC (λx:Nat×Option Nat=>[(0,ints rg),(9,ints L),(10,I L.length),(5,iH 1 ((L.map λr=>rg.getD r.toNat 0).take x.1).length x.2),(11,I x.1)]) (λx=>c8 h (.row 1 ((((L.map λr=>rg.getD r.toNat 0).take x.1).map λn=>[I n]).map (List.map .v))) x.2) (λx=>x.1<=L.length/\fM h ((L.map λr=>rg.getD r.toNat 0).take x.1) x.2) (λx=>L.length-x.1) (0,none) ⟨by simp[dM,cE,iH],by simp only[aQ];exact Heap.le_refl _,gM _,by simp[fM]⟩ ?_
 rintro⟨k,o⟩ ⟨hk,hos⟩
 simp only at hk hos ⊢
 rcases cQ k L.length with hlt|hge
 ·have ea:L[k]?=some L[k]:=cP hlt
  have hr0:=hr _ (eF hlt)
  have eg:rg[L[k].toNat]?=some (rg.getD L[k].toNat 0):=dV aA
  have hy:(L.map λr=>rg.getD r.toNat 0).take (k+1)=(L.map λr=>rg.getD r.toNat 0).take k++[(L.map λr=>rg.getD r.toNat 0)[k]'aA]:=pD aA
  have hlk:((L.map λr=>rg.getD r.toNat 0).take k).length=k:=by rw[qI];omega
  rw[aIW]at hy
  cases o with
  |none =>
   rw[bK]at hos
   rw[hos]at hy ⊢
   simp -dsimp -implicitDefEqProofs only[go_sem,↓reduceIte,Tryz.f65,b5,aQ,hlt,ea,eg]
   repeat'(with_reducible first|intro _|refine And.intro ?_ ?_)
   all_goals try(first|omega|decide)
   rename_i b hb
   refine⟨(k+1,some b),?_⟩
   simp only[hy]
   refine⟨⟨rfl,?_⟩,Heap.le_refl _,⟨by omega,hb⟩,by omega⟩
   rw[IntWalk.i64_in _ aA];rfl
  |some n =>
   rw[aT]at hos
   simp -dsimp -implicitDefEqProofs only[go_sem,↓reduceIte,Tryz.f65,aY,aL,hlt,ea,eg]
   repeat'(with_reducible first|intro _|refine And.intro ?_ ?_)
   all_goals try(first|omega|decide|exact j4 _)
   rename_i b hb
   refine⟨(k+1,some b),?_⟩
   simp only[hy,aL,aY,aT]
   refine⟨⟨by rw[k8];rfl,?_⟩,?_,⟨by omega,hb.2⟩,by omega⟩
   ·rw[IntWalk.i64_in _ aA];rfl
   ·rw[←fJ];exact mU hos
 ·have hk':k=L.length:=by omega
  subst hk'
  rw[kC aA]at hos ⊢
  cases o with
  |none =>
   rw[bK]at hos
   simp -dsimp -implicitDefEqProofs only[go_sem,↓reduceIte,Tryz.f65,b5,aQ,cV,fW]
   rw[hos]
   exact Shift.of (Sub.loose _ _ _) (Heap.le_refl _)
  |some n =>
   rw[aT]at hos
   simp -dsimp -implicitDefEqProofs only[go_sem,↓reduceIte,Tryz.f65,aY,aL,cV,fW]
   exact iO _ hos (Heap.le_refl _) hc.symm
theorem aUJ (t:cW) (ht:t.ok) (args:List Int) (h1:(args.length:Int)=t.cB/\gE args):eX Tryz.prog 23 [.agg t.c,ints args] (aHR args t.aS (ints (t.aO.map λr=>(nE args t.aS).getD r.toNat 0)) .aW):=by
 have hrg:=aD1 t ht args h1
 have hp:=a5J (nE args t.aS) t.aO (λr hr=>by rw[aJX];have:=ht.outs r hr;omega) aMO
 rw[cW.aU]at hrg ⊢
 by_cases hd:aB8 args t.aS
 ·rw[uZ hd]at hrg ⊢
  refine eJ 21 aS0 aKR cC Tryz.func23 λh=>?_
  simp -dsimp -implicitDefEqProofs only[go_sem,↓reduceIte,Tryz.f23]
  first|refine aG.mk (hrg) ?_|refine aD.mk (hrg) ?_|refine aG.bC (hrg) ?_|refine aD.mk (aZ.dB (hrg)) ?_
  simp -dsimp -implicitDefEqProofs only[go_sem,↓reduceIte,Tryz.f23]
  first|refine aG.mk (hp) ?_|refine aD.mk (hp) ?_|refine aG.bC (hp) ?_|refine aD.mk (aZ.dB (hp)) ?_
  simp -dsimp -implicitDefEqProofs only[go_sem,↓reduceIte,Tryz.f23]
 ·rw[yV hd]at hrg ⊢
  refine eJ 21 aS0 aKR cC Tryz.func23 λh=>?_
  simp -dsimp -implicitDefEqProofs only[go_sem,↓reduceIte,Tryz.f23]
  first|refine aG.mk (hrg) ?_|refine aD.mk (hrg) ?_|refine aG.bC (hrg) ?_|refine aD.mk (aZ.dB (hrg)) ?_
  simp -dsimp -implicitDefEqProofs only[go_sem,↓reduceIte,Tryz.f23]
def a5K (rg:List Int) (g:bL):Bool:=!(decide (rg.getD g.oT.toNat 0=0) == g.wL)
@[go_sem] def bL7:Marks:=λid=>match id with|1=>([0,2,4,7],(.op 1 (.op 6 (.op 0 (.op 2 (.op 3 (.op 4 (.op 5 (.op 7 (.op 8 (.op 9 .nil)))))))))),[])|_=>([],.nil,[])
theorem aPA (rg:List Int) (g:bL) (hg:0<=g.oT/\g.oT<rg.length) {n:Nat} {h0:Heap} (hn:h0 n=some (.row 1 [[.v (ints rg)]])):aZ Tryz.prog 67 [.agg g.c,.op n 1 0 0] (.bool (a5K rg g)) h0:=by
 have eg:rg[g.oT.toNat]?=some (rg.getD g.oT.toNat 0):=dV aA
 have hgt (h:Heap) (hle:h0.le h):=Heap.zR hle hn
 rw[bL.aU]
 refine aBC 13 a6I aKR bL7 Tryz.func67 λh hle=>?_
 simp -dsimp -implicitDefEqProofs only[go_sem,↓reduceIte,Tryz.f67]
 have hn':=hgt h hle
 simp -dsimp -implicitDefEqProofs only[go_sem,↓reduceIte,Tryz.f67,hn',eg]
 exact⟨hg.1,hg.2,rfl⟩
theorem aPB (a:List bL) (p:bL->Bool) (g:FuncId) (cap:List aC) {h0:Heap} (hc:∀ x∈a,aZ Tryz.prog g ([(.agg (bL.c x))]++cap) (.bool (p x)) h0):aZ Tryz.prog 127 [(eQ 2 bL.c a),.fn (.func g) [] cap] (I (idxOf p a)) h0:=by
 refine aBC 19 aVB cR cC Tryz.func127 λh hle=>?_
 simp -dsimp -implicitDefEqProofs only[go_sem,↓reduceIte,Tryz.f127,Tryz.f127]
 intro _
 refine dJ aVB cR cC (λk:Nat=>[(0,(eQ 2 bL.c a)),(1,.fn (.func g) [] cap),(7,I a.length),(8,I k)]) (λ_=>h) (λk=>k<=a.length/\∀ x∈a.take k,p x=false) (λk=>a.length-k) 0 aAP ?_
 intro k ⟨hk,hp⟩
 rcases cQ k a.length with hlt|hge
 ·have ea:a[k]?=some a[k]:=cP hlt
  simp -dsimp -implicitDefEqProofs only[go_sem,↓reduceIte,Tryz.f127,Tryz.f127,ea,bL.aU]
  repeat'(with_reducible first|intro _|refine And.intro ?_ ?_)
  all_goals try omega
  have hx:=hc a[k] (eF hlt)
  simp only[bL.aU]at hx
  refine aG.bC (hx.mono hle) ?_
  cases hpk:p a[k]with
  |true =>
   simp -dsimp -implicitDefEqProofs only[go_sem,↓reduceIte,Tryz.f127,Tryz.f127]
   repeat'(with_reducible first|intro _|refine And.intro ?_ ?_)
   all_goals first|exact(pO hlt hp hpk).symm|rfl|(rw[pO hlt hp hpk])
  |false =>
   simp -dsimp -implicitDefEqProofs only[go_sem,↓reduceIte,Tryz.f127,Tryz.f127]
   refine⟨k+1,?_⟩
   repeat'(with_reducible refine And.intro ?_ ?_)
   all_goals try(rw[IntWalk.i64_in _ aA];first|rfl|omega)
   all_goals try omega
   exact oS (P:=λx=>p x=false) hlt hp hpk
 ·have hk':k=a.length:=by omega
  subst hk'
  rw[jG]at hp
  simp -dsimp -implicitDefEqProofs only[go_sem,↓reduceIte,Tryz.f127,Tryz.f127,cV]
  all_goals first|exact(pN hp).symm|rw[pN hp]
theorem aPC (a:List bL) (p:bL->Bool) (g:FuncId) (cap:List aC) {h0:Heap} (hc:∀ x∈a,aZ Tryz.prog g ([(.agg (bL.c x))]++cap) (.bool (p x)) h0):aZ Tryz.prog 66 [(eQ 2 bL.c a),.fn (.func g) [] cap] (.bool (a.any p)) h0:=by
 refine aBC 9 yW cR cC Tryz.func66 λh hle=>?_
 simp -dsimp -implicitDefEqProofs only[go_sem,↓reduceIte,Tryz.f66,Tryz.f66]
 refine aG.bC ((aPB a p g cap hc).mono hle) ?_
 simp -dsimp -implicitDefEqProofs only[go_sem,↓reduceIte,Tryz.f66,Tryz.f66]
 all_goals first|done|exact mC|rw[mC]
def aWI (args:List Int) (t:cW):Bool:=!(t.bX.any (a5K (nE args t.aS)))
theorem aHT (t:cW) (ht:t.ok) (args:List Int) (h1:(args.length:Int)=t.cB/\gE args):eX Tryz.prog 24 [.agg t.c,ints args] (aHR args t.aS (.bool (aWI args t)) (.bool false)):=by
 have hrg:=aD1 t ht args h1
 rw[cW.aU]at hrg ⊢
 by_cases hd:aB8 args t.aS
 ·rw[uZ hd]at hrg ⊢
  refine eJ 22 aS0 aKR cC Tryz.func24 λh=>?_
  simp -dsimp -implicitDefEqProofs only[go_sem,↓reduceIte,Tryz.f24]
  first|refine aG.mk (hrg) ?_|refine aD.mk (hrg) ?_|refine aG.bC (hrg) ?_|refine aD.mk (aZ.dB (hrg)) ?_
  simp -dsimp -implicitDefEqProofs only[go_sem,↓reduceIte,Tryz.f24]
  intro n hn
  rw[aJ]
  refine aG.bC (aPC t.bX (a5K (nE args t.aS)) 67 [.op n 1 0 0] λg hg=>aPA (nE args t.aS) g (by rw[aJX];have:=ht.yG g hg;omega) (by simp[aM])) ?_
  simp -dsimp -implicitDefEqProofs only[go_sem,↓reduceIte,Tryz.f24]
  exact⟨rfl,Heap.bA hn (Heap.le_refl _)⟩
 ·rw[yV hd]at hrg ⊢
  refine eJ 22 aS0 aKR cC Tryz.func24 λh=>?_
  simp -dsimp -implicitDefEqProofs only[go_sem,↓reduceIte,Tryz.f24]
  first|refine aG.mk (hrg) ?_|refine aD.mk (hrg) ?_|refine aG.bC (hrg) ?_|refine aD.mk (aZ.dB (hrg)) ?_
  simp -dsimp -implicitDefEqProofs only[go_sem,↓reduceIte,Tryz.f24]
  exact λn hn=>by rw[aJ];exact Heap.bA hn (Heap.le_refl _)
theorem bA7 (c d:List Int):eX Tryz.prog 5 [.sl 1 (c.map λn=>[.int .u8 n]) false,.sl 1 (d.map λn=>[.int .u8 n]) false] (.bool (decide (3000<c.length∨3000<d.length))):=by
 refine eJ 13 yW cR cC Tryz.func5 λh=>?_
 simp -dsimp -implicitDefEqProofs only[go_sem,↓reduceIte,Tryz.f5]
 exact λ_=>⟨λh1 _=>decide_eq_decide.2 aA,λh1=>(decide_eq_true aA).symm⟩
theorem a0V (a:List Int) (hl:a.length<=1048576):eX Tryz.prog 13 [ints a,ints a] (.bool true):=by
 refine eJ 26 aSS cR aST Tryz.func13 λh=>?_
 simp -dsimp -implicitDefEqProofs only[go_sem,↓reduceIte,Tryz.f13]
 refine λ_ _=>?_
 refine dJ aSS cR aST (λk:Nat=>[(0,ints a),(1,ints a),(5,I k)]) (λ_=>h) (λk=>k<=a.length) (λk=>a.length-k) 0 ⟨by simp[dM,cE],Heap.le_refl _,gM _⟩ ?_
 intro k hk
 rcases cQ k a.length with hlt|hge
 ·have ea:a[k]?=some a[k]:=cP hlt
  simp -dsimp -implicitDefEqProofs only[go_sem,↓reduceIte,Tryz.f13,hlt,ea]
  exact λ_=>⟨k+1,IntWalk.i64_in _ aA,hlt,by omega⟩
 ·obtain rfl:k=a.length:=by omega
  simp -dsimp -implicitDefEqProofs only[go_sem,↓reduceIte,Tryz.f13,cV,fW]
@[go_sem] def bA8:List Nat:=[0,1,2,3,6,7,8,9,10,11,27,29,41]
@[go_sem] def bL8:Marks:=λid=>match id with|6=>([],(.op 0 (.op 1 (.op 2 (.op 3 (.op 4 (.op 5 (.op 6 (.op 7 (.op 8 (.op 9 (.op 10 (.op 11 .nil)))))))))))),[])|_=>([],.nil,[])
theorem aWJ {p:aF} (hp:p.ok) (hps:p.s<=4194304) (f:Int) (hf:0<=f/\f<p.aI.length) (args:List Int) (na:gE args) (hal:args.length<=1048576) (hl:∀ F,p.aI[f.toNat]?=some F->(args.length:Int)=F.bB) {vs:List (List Int)} {t:Nat} (he:evF p 1 f (args.map λn=>[n])=.ok (vs,t)) (hvs:∀ s∈vs,0<s.length) (hvl:vs.length<=1048576) :
  eX Tryz.prog 29 [.agg p.c,I f,ints args] (.eW [ints (vs.map λs=>s.getD 0 0),I t,I 0]):=by
 have hif:=aY0 p f hps
 rw[if_pos hp,if_pos (show 0<=f/\f<=(p.aI.length:Int)-1 by omega)]at hif
 obtain⟨F,ef,-⟩:=rG hp hf
 have rV:=aWA hp (sz:=1) bU f hf (args.map λn=>[n]) (aHS na) (λF hF=>by rw[iG];exact hl F hF)
 rw[he,show aO3 (.ok (vs,t))=(vs,(t:Int),0)from rfl,show(((1:Nat):Int)-1)=0 from rfl]at rV
 have hfi:=a0H vs hvl hvs
 simp only[aF.aU]at hif rV ⊢
 refine eJ 46 bA8 bE6 bL8 Tryz.func29 λh=>?_
 simp -dsimp -implicitDefEqProofs only[go_sem,↓reduceIte,Tryz.f29]
 first|refine aG.mk (hif) ?_|refine aD.mk (hif) ?_|refine aG.bC (hif) ?_|refine aD.mk (aZ.dB (hif)) ?_
 simp -dsimp -implicitDefEqProofs only[go_sem,↓reduceIte,Tryz.f29,ef,aV.aU]
 refine⟨hf.1,hf.2,?_⟩
 first|refine aG.mk (pP args F.bB) ?_|refine aD.mk (pP args F.bB) ?_|refine aG.bC (pP args F.bB) ?_|refine aD.mk (aZ.dB (pP args F.bB)) ?_
 simp -dsimp -implicitDefEqProofs only[go_sem,↓reduceIte,Tryz.f29,ef,aV.aU]
 refine⟨λq=>absurd ⟨hl F ef,na⟩ q,λ_=>?_⟩
 first|refine aG.mk (aB6 args hal) ?_|refine aD.mk (aB6 args hal) ?_|refine aG.bC (aB6 args hal) ?_|refine aD.mk (aZ.dB (aB6 args hal)) ?_
 simp -dsimp -implicitDefEqProofs only[go_sem,↓reduceIte,Tryz.f29]
 first|refine aG.mk (rV) ?_|refine aD.mk (rV) ?_|refine aG.bC (rV) ?_|refine aD.mk (aZ.dB (rV)) ?_
 simp -dsimp -implicitDefEqProofs only[go_sem,↓reduceIte,Tryz.f29]
 first|refine aG.mk (hfi) ?_|refine aD.mk (hfi) ?_|refine aG.bC (hfi) ?_|refine aD.mk (aZ.dB (hfi)) ?_
 simp -dsimp -implicitDefEqProofs only[go_sem,↓reduceIte,Tryz.f29]
@[go_sem] def bA9:List Nat:=[0,1,2,3,6,7,8,9,14]
@[go_sem] def bL9:List Nat:=[3,15]
theorem aL6 {p:aF} (hp:p.ok) (hps:p.s<=4194304) (f:Int) (hf:0<=f/\f<p.aI.length) (args:List Int) (na:gE args) (hal:args.length<=12) (hl:∀ F,p.aI[f.toNat]?=some F->(args.length:Int)=F.bB) :
  eX Tryz.prog 21 [.agg p.c,I f,ints args] (.eW [ints (rA (evF p 1 f (args.map λn=>[n]))).1,I (rA (evF p 1 f (args.map λn=>[n]))).2.1,I (rA (evF p 1 f (args.map λn=>[n]))).2.2]):=by
 have h1:=a0L hp hps f hf args na hal hl
 have h2:=a45 hp f hf args na hal hl
 simp only[aF.aU]at h1 h2 ⊢
 refine eJ 23 bA9 bL9 cC Tryz.func21 λh=>?_
 simp -dsimp -implicitDefEqProofs only[go_sem,↓reduceIte,Tryz.f21]
 first|refine aG.mk (h1) ?_|refine aD.mk (h1) ?_|refine aG.bC (h1) ?_|refine aD.mk (aZ.dB (h1)) ?_
 simp -dsimp -implicitDefEqProofs only[go_sem,↓reduceIte,Tryz.f21]
 first|refine aG.mk (h2) ?_|refine aD.mk (h2) ?_|refine aG.bC (h2) ?_|refine aD.mk (aZ.dB (h2)) ?_
 simp -dsimp -implicitDefEqProofs only[go_sem,↓reduceIte,Tryz.f21]
structure bG0 (p:aF) (f:Int) (args:List Int) (t:cW):Prop where
 ok:t.ok
 inp:t.cB=args.length
 div:aB8 args t.aS
 grd:aWI args t=true
 out:rA (evF p 1 f (args.map λn=>[n]))=(t.aO.map λr=>(nE args t.aS).getD r.toNat 0,(rA (evF p 1 f (args.map λn=>[n]))).2.1,0)
 other:∀ o:List Int,o.length=args.length->gE o->aB8 o t.aS->aWI o t=true->∃ vs u,evF p 1 f (o.map λn=>[n])=.ok (vs,u)/\(∀ s∈vs,0<s.length)/\vs.length<=1048576/\(vs.map λs=>s.getD 0 0)=t.aO.map λr=>(nE o t.aS).getD r.toNat 0
theorem aPD {args:List Int} {t:cW}:aWI args t=true↔∀ g∈t.bX,((nE args t.aS).getD g.oT.toNat 0=0↔g.wL=true):=by
 unfold aWI
 rw[aPP,aW2]
 refine forall_congr' λg=>forall_congr' λ_=>?_
 unfold a5K
 cases g.wL <;> simp
theorem aWK {p:aF} (hp:p.ok) {f:Int} (hf:0<=f/\f<p.aI.length) {args:List Int} (na:gE args) (h12:args.length<=12) (hl:∀ G,p.aI[f.toNat]?=some G->(args.length:Int)=G.bB) :
  ((mY p f args).2=(rA (evF p 1 f (args.map λn=>[n]))).2.2/\¬(mY p f args).2=0)∨((mY p f args).2=0/\bG0 p f args (mY p f args).1):=by
 obtain⟨hok,hrel⟩:=aLK hp f hf args na hl
 rw[mY]
 cases hX:aIM p f args with
 |error c =>
  left
  rw[hX]at hrel
  cases hY:evF p 1 f (args.map λn=>[n])with
  |ok v=>rw[hY]at hrel;exact hrel.elim
  |error d =>
   rw[hY]at hrel
   have e:c=d:=hrel
   have:=a3F p 1 f (args.map λn=>[n]) d hY
   refine⟨e,?_⟩
   show ¬c=0
   rw[e]
   rcases this with q|q <;> rw[q] <;> decide
 |ok v =>
  obtain⟨⟨L,F⟩,u⟩:=v
  right
  refine⟨rfl,?_⟩
  obtain⟨q1,q2,q3,q4⟩:=hok _ _ hX
  simp only at q1 q2 q3 q4
  obtain⟨G,eG,hO1,hO2,hO3,hO4⟩:=rG hp hf
  have hcl:=q1.len
  have hcap:=q1.cap
  have hgc:=q1.vR
  have hu:=q4.2.2.2
  have hLl:L.length=G.aO.length:=by rw[q3.1,hO3]
  have hser:∀ {o:List Int},gE o->∀ s∈o.map λn=>[n],cG 1 s:=λno=>aHS no
  have hinL:∀ x∈L,0<=x/\x<(F.code.length:Int):=λx hx=>by
   have:=q3.2 x hx
   unfold l8 at this
   omega
  have hbh:=aWG hp (sz:=1) bU hf na hl hX (N:=λ_=>True) ⟨q1.ins,λ_ _ _ _=>⟨λ_=>⟨trivial,trivial⟩,λ_=>trivial⟩,λ_ _=>trivial,λ_ _ _ _=>trivial⟩ (args:=args.map λn=>[n]) (hser na) aMP (λi hi _=>by simp[gA,cP hi])
  have hsm:=λ(o:List Int) (ho:o.length=args.length)=>a5C hp (sz:=1) hf na hl hX (args:=o.map λn=>[n]) (by rw[iG,ho])
  have hTG:=(hsm args rfl).1
  have hval:∀ k,k<F.code.length->(nE args F.code).getD k 0=F.dZ.getD k 0:=λk hk=>by
   rw[aC9 args F.code hk];exact hbh.2.1 k aA trivial
  have heads:∀ o:List Int,(L.map λk=>kL 1 (o.map λn=>[n]) F.code k.toNat).map (λs=>s.getD 0 0)=L.map λr=>(nE o F.code).getD r.toNat 0:=λo=>by
   rw[aDB]
   refine aUT λx hx=>?_
   have:=hinL x hx
   exact(aC9 o F.code aA).symm
  refine⟨⟨by simp only;omega,⟨by simp only;omega,by simp only;omega,by simp only;omega,by simp only;omega⟩,λk hk=>?_,λg hg=>?_,λr hr=>by have:=hinL r hr;simp only;omega⟩,rfl,λi c ec h6=>?_,aPD.2 λg hg=>?_,?_,λo ho no hd hg=>?_⟩
  ·have hk':k<F.code.length:=hk
   have hc:=q1.ins k _ (cP hk')
   show kE F.code[k] k args.length
   unfold fD fZ at hc
   unfold kE fZ
   omega
  ·have:=q1.yG g hg
   simp only
   omega
  ·have ec:F.code[i]?=some c:=ec
   have hc:=q1.ins i c ec
   have hi:=(jQ.1 ec).1
   have hz:=hbh.2.2 i c ec h6
   have hcb:0<=c.fB/\c.fB<i:=by unfold fD at hc;omega
   rw[cD.val]at hz
   rw[hbh.2.1 c.fB.toNat aA trivial];exact hz
  ·obtain⟨g1,g2⟩:=hTG g hg
   unfold l8 at g1
   simp only
   rw[hval _ aA];exact g2
  ·rw[hbh.1]
   show(_,_,_)=(_,_,_)
   rw[show(λx:List Int=>x.getD 0 0)=λs=>s.getD 0 0 from rfl,heads args]
   rfl
  ·have hgr:=aPD.1 hg
   simp only at hd hgr
   have hC:aL4 1 (o.map λn=>[n]) args.length F:=⟨q1.ins,hd,λg hgm=>by
    have h1:=q1.yG g hgm
    rw[←aC9 o F.code aA];exact hgr g hgm⟩
   refine⟨_,_,(hsm o ho).2 hC,λs hs=>?_,by rw[iG];omega,heads o⟩
   obtain⟨x,hx,rfl⟩:=rC.1 hs
   have:=hinL x hx
   have:=(aE6 (sz:=1) q1.ins (hser no) (by rw[iG,ho]) x.toNat aA).1
   omega
theorem bG1 {q n:Nat} {X:bW} {h:Heap} (e:(if q=n then some X else h q)=none):¬q=n/\h q=none:=by grind
theorem a7G {q n m:Nat} {X Y:bW} {h:Heap} (e:(if q=n then some X else if q=m then some Y else h q)=none):¬q=n/\¬q=m/\h q=none:=by grind
theorem aWL (t:List UInt8) (ht:t.length<=1048576):eX Tryz.prog 27 [.str t] (.eW [.agg (kW t).1.c,I (kW t).2.1,I (kW t).2.2]) :=
 QA.a2P (aV1 t ht) (λe he=>cW.wN he) (aGG [] [I (kW t).2.1,I (kW t).2.2])
@[go_sem] def bG2:List Nat:=[0,1,4,5,6,8,10,11,13,14,15,16,17,18,19,20,21,22,23,24,25,26,27,28,30,33,63,65,103,114,128,140]
set_option maxHeartbeats 4000000 in
theorem bBA {c:List Int} (hc:∀ x∈c,InB x) {d:List Int} (hd:∀ x∈d,InB x):eX Tryz.prog 4 [.sl 1 (c.map λn=>[.int .u8 n]) false,.sl 1 (d.map λn=>[.int .u8 n]) false] (.bool true):=by
 have hb:=bA7 c d
 refine eJ 172 bG2 cR cC Tryz.func4 λh=>?_
 simp -dsimp -implicitDefEqProofs only[go_sem,↓reduceIte,Tryz.f4]
 first|refine aG.mk (hb) ?_|refine aD.mk (hb) ?_|refine aG.bC (hb) ?_|refine aD.mk (aZ.dB (hb)) ?_
 simp -dsimp -implicitDefEqProofs only[go_sem,↓reduceIte,Tryz.f4]
 intro hlong
 have hlc:c.length<=4096:=by omega
 refine aG.eH (a4W hc hlc) ?_
 rintro r_ h' ⟨p,k,args,dir,hp,hps,hf1,hpar,na,h12,rfl,rfl⟩
 have hf:0<=(p.aI.length:Int)-1/\(p.aI.length:Int)-1<p.aI.length:=by omega
 have hpar':∀ F,p.aI[((p.aI.length:Int)-1).toNat]?=some F->(args.length:Int)=F.bB:=by rw[show((p.aI.length:Int)-1).toNat=p.aI.length-1 by omega];exact hpar
 generalize (p.aI.length:Int)-1=f at *
 have hse:=aL6 hp hps f hf args na h12 hpar'
 have hre:=bA3 hp hps f hf args na h12 hpar'
 have hcs:=aWK hp hf na h12 hpar'
 generalize mY p f args=R at *
 obtain⟨T,w⟩:=R
 simp only at hcs hre
 generalize rV:rA (evF p 1 f (args.map λn=>[n]))=ev at *
 obtain⟨dZ,steps,want⟩:=ev
 simp only at hse hcs
 rw[cW.aU]at hre
 simp only[aF.aU p]at hse hre ⊢
 simp -dsimp -implicitDefEqProofs only[go_sem,↓reduceIte,Tryz.f4]
 intro n5 q5
 rw[aJ]
 refine λ_=>aG.eH (a4V hd aA args.length aA) ?_
 rintro r_ h' ⟨other,hol,no,rfl,rfl⟩
 simp -dsimp -implicitDefEqProofs only[go_sem,↓reduceIte,Tryz.f4,aM]
 first|refine aG.mk (hse) ?_|refine aD.mk (hse) ?_|refine aG.bC (hse) ?_|refine aD.mk (aZ.dB (hse)) ?_
 simp -dsimp -implicitDefEqProofs only[go_sem,↓reduceIte,Tryz.f4,aM]
 first|refine aG.mk (hre) ?_|refine aD.mk (hre) ?_|refine aG.bC (hre) ?_|refine aD.mk (aZ.dB (hre)) ?_
 simp -dsimp -implicitDefEqProofs only[go_sem,↓reduceIte,Tryz.f4,aM]
 intro n14 q14
 obtain⟨z1,z2⟩:=bG1 q14
 obtain⟨bG4,iT,iU,bG5⟩:=c7 (show ¬n14=n5 from z1)
 have hle:∀ X Y:bW,h'.le (aR (aR h' n5 X) n14 Y):=λX Y=>Heap.bA z2 (Heap.bA q5 (Heap.le_refl _))
 rw[aJ]
 rcases hcs with⟨e1,e2⟩|⟨e1,RG⟩
 ·subst e1
  exact⟨λq=>absurd rfl q,λ_=>⟨λ_=>hle _ _,λq=>absurd q e2⟩⟩
 ·subst e1
  have ho:=RG.out
  rw[rV]at ho
  obtain⟨rfl,-,rfl⟩:=ho
  refine⟨λq=>absurd rfl q,λ_=>⟨λq=>absurd rfl q,λ_=>?_⟩⟩
  have ht:=RG.ok
  have hl:=ht.lens
  have hinp:=RG.inp
  have hrun:=aUJ T ht args ⟨hinp.symm,na⟩
  have hgrd:=aHT T ht args ⟨hinp.symm,na⟩
  rw[uZ RG.div]at hrun hgrd
  rw[RG.grd]at hgrd
  have hvt:=yM T aA aA aA
  rw[decide_eq_true ht]at hvt
  have htt:=aZ3 T ht
  have htl:=aOW ht
  have hrt:=aWL (rH T) aA
  have hrd:=aQ4 ht
  have hst:=aZU T aA aA aA
  have hvl:(T.aO.map λr=>(nE args T.aS).getD r.toNat 0).length=T.aO.length:=iG _
  have hsm:=a0V (T.aO.map λr=>(nE args T.aS).getD r.toNat 0) aA
  generalize (T.aO.map λr=>(nE args T.aS).getD r.toNat 0)=dZ at *
  have aJY:=aUJ T ht other ⟨by omega,no⟩
  have xZ:=aHT T ht other ⟨by omega,no⟩
  have hoth:=RG.other other hol no
  rw[cW.aU T]at hrun hgrd hvt htt hst aJY xZ
  clear hse hre rV
  first|refine aG.mk (hrun) ?_|refine aD.mk (hrun) ?_|refine aG.bC (hrun) ?_|refine aD.mk (aZ.dB (hrun)) ?_
  simp -dsimp -implicitDefEqProofs only[go_sem,↓reduceIte,Tryz.f4,aM,iT,iU]
  first|refine aG.mk (hgrd) ?_|refine aD.mk (hgrd) ?_|refine aG.bC (hgrd) ?_|refine aD.mk (aZ.dB (hgrd)) ?_
  simp -dsimp -implicitDefEqProofs only[go_sem,↓reduceIte,Tryz.f4,aM,iT,iU]
  refine λ_=>⟨λ_=>?_,λq=>by omega⟩
  first|refine aG.mk (hsm) ?_|refine aD.mk (hsm) ?_|refine aG.bC (hsm) ?_|refine aD.mk (aZ.dB (hsm)) ?_
  simp -dsimp -implicitDefEqProofs only[go_sem,↓reduceIte,Tryz.f4,aM,iT,iU]
  first|refine aG.mk (hvt) ?_|refine aD.mk (hvt) ?_|refine aG.bC (hvt) ?_|refine aD.mk (aZ.dB (hvt)) ?_
  simp -dsimp -implicitDefEqProofs only[go_sem,↓reduceIte,Tryz.f4,aM,iT,iU]
  first|refine aG.mk (htt) ?_|refine aD.mk (htt) ?_|refine aG.bC (htt) ?_|refine aD.mk (aZ.dB (htt)) ?_
  simp -dsimp -implicitDefEqProofs only[go_sem,↓reduceIte,Tryz.f4,aM,iT,iU]
  by_cases hlo:50000<(rH T).length
  ·rw[aBZ hlo]at hrt
   rw[cW.aU]at hrt
   first|refine aG.mk (hrt) ?_|refine aD.mk (hrt) ?_|refine aG.bC (hrt) ?_|refine aD.mk (aZ.dB (hrt)) ?_
   simp -dsimp -implicitDefEqProofs only[go_sem,↓reduceIte,Tryz.f4,aM,iT,iU]
   intro n21 q21
   obtain⟨z3,z4,z5⟩:=a7G q21
   have aC8:∀ X Y Z:bW,h'.le (aR (aR (aR h' n5 X) n14 Y) n21 Z):=λX Y Z=>Heap.bA z5 (hle X Y)
   rw[aJ]
   exact λ_=>⟨λ_=>aC8 _ _ _,λq=>by omega⟩
  ·rw[hrd aA]at hrt
   simp only at hrt
   rw[cW.aU]at hrt
   first|refine aG.mk (hrt) ?_|refine aD.mk (hrt) ?_|refine aG.bC (hrt) ?_|refine aD.mk (aZ.dB (hrt)) ?_
   simp -dsimp -implicitDefEqProofs only[go_sem,↓reduceIte,Tryz.f4,aM,iT,iU]
   intro n21 q21
   obtain⟨z3,z4,z5⟩:=a7G q21
   obtain⟨bDA,mQ,mR,bDB⟩:=c7 (show ¬n21=n14 from z3)
   obtain⟨bG7,pB,pC,bG8⟩:=c7 (show ¬n21=n5 from z4)
   have aC8:∀ X Y Z:bW,h'.le (aR (aR (aR h' n5 X) n14 Y) n21 Z):=λX Y Z=>Heap.bA z5 (hle X Y)
   rw[aJ]
   refine λ_=>⟨λq=>by omega,λ_=>?_⟩
   simp -dsimp -implicitDefEqProofs only[go_sem,↓reduceIte,Tryz.f4,aM,iT,mR,iU,pC,mQ,pB]
   first|refine aG.mk (hst) ?_|refine aD.mk (hst) ?_|refine aG.bC (hst) ?_|refine aD.mk (aZ.dB (hst)) ?_
   simp -dsimp -implicitDefEqProofs only[go_sem,↓reduceIte,Tryz.f4,aM,iT,mR,iU,pC,mQ,pB]
   by_cases hdv:aB8 other T.aS
   ·rw[uZ hdv]at xZ aJY
    first|refine aG.mk (xZ) ?_|refine aD.mk (xZ) ?_|refine aG.bC (xZ) ?_|refine aD.mk (aZ.dB (xZ)) ?_
    simp -dsimp -implicitDefEqProofs only[go_sem,↓reduceIte,Tryz.f4,aM,iT,mR,iU,pC,mQ,pB]
    cases hgh:aWI other T with
    |false =>
     simp -dsimp -implicitDefEqProofs only[go_sem,↓reduceIte,Tryz.f4,aM,iT,mR,iU,pC,mQ,pB]
     exact aC8 _ _ _
    |true =>
     obtain⟨vs,u,he,hs0,hvs,hout⟩:=hoth hdv hgh
     have hEv:=aWJ hp hps f hf other no aA (λF hF=>by rw[hol];exact hpar' F hF) he hs0 hvs
     rw[hout]at hEv
     have bP8:(T.aO.map λr=>(nE other T.aS).getD r.toNat 0).length=T.aO.length:=iG _
     have a5L:=a0V (T.aO.map λr=>(nE other T.aS).getD r.toNat 0) aA
     generalize (T.aO.map λr=>(nE other T.aS).getD r.toNat 0)=bOJ at *
     simp only[aF.aU p]at hEv
     simp -dsimp -implicitDefEqProofs only[go_sem,↓reduceIte,Tryz.f4,aM,iT,mR,iU,pC,mQ,pB]
     first|refine aG.mk (aJY) ?_|refine aD.mk (aJY) ?_|refine aG.bC (aJY) ?_|refine aD.mk (aZ.dB (aJY)) ?_
     simp -dsimp -implicitDefEqProofs only[go_sem,↓reduceIte,Tryz.f4,aM,iT,mR,iU,pC,mQ,pB]
     first|refine aG.mk (hEv) ?_|refine aD.mk (hEv) ?_|refine aG.bC (hEv) ?_|refine aD.mk (aZ.dB (hEv)) ?_
     simp -dsimp -implicitDefEqProofs only[go_sem,↓reduceIte,Tryz.f4,aM,iT,mR,iU,pC,mQ,pB]
     first|refine aG.mk (a5L) ?_|refine aD.mk (a5L) ?_|refine aG.bC (a5L) ?_|refine aD.mk (aZ.dB (a5L)) ?_
     simp -dsimp -implicitDefEqProofs only[go_sem,↓reduceIte,Tryz.f4,aM,iT,mR,iU,pC,mQ,pB]
     exact aC8 _ _ _
   ·rw[yV hdv]at xZ
    first|refine aG.mk (xZ) ?_|refine aD.mk (xZ) ?_|refine aG.bC (xZ) ?_|refine aD.mk (aZ.dB (xZ)) ?_
    simp -dsimp -implicitDefEqProofs only[go_sem,↓reduceIte,Tryz.f4,aM,iT,mR,iU,pC,mQ,pB]
    exact aC8 _ _ _
theorem a0W {P:Program} {n:Nat} {t:TypeId} {xs:List aC} (hu:P.underlying t=some (.int .u8)) (h:Dat P n t xs):∃ i:Int,xs=[.int .u8 i]/\InB i:=by
 match n,h with
 |0,h=>exact h.elim
 |n+1,h =>
  simp only[Dat,hu]at h
  obtain⟨i,rfl,hw⟩:=h
  refine⟨i,rfl,?_⟩
  have h1:IntKind.min .u8=0:=by decide
  have h2:IntKind.max .u8=255:=by decide
  simp[Lit.wf,IntKind.has,h1,h2]at hw
  unfold InB
  omega
theorem aUK {α:Type} {c:α->List aC} {w:α->Prop}:∀ {es:List (List aC)},(∀ y∈es,∃ x,y=c x/\w x)->∃ l:List α,es=l.map c/\∀ x∈l,w x
 | [],_=>⟨[],rfl,by simp⟩
 |e::es,h=>by
  obtain⟨x,rfl,hx⟩:=h _ u4
  obtain⟨l,rfl,hl⟩:=aUK λy hy=>h y (rM _ hy)
  refine⟨x::l,rfl,λy hy=>?_⟩
  rcases oH.1 hy with rfl|hy
  ·exact hx
  ·exact hl y hy
theorem aJZ {P:Program} {n sz:Nat} {t e:TypeId} {α:Type} {c:α->List aC} {w:α->Prop} {xs:List aC} (hu:P.underlying t=some (.slice e)) (hc:P.cellsOf e=sz) (h:Dat P n t xs)
  (hx:∀ m y,m<n->Dat P m e y->∃ x,y=c x/\w x):∃ l:List α,xs=[eQ sz c l]/\∀ x∈l,w x:=by
 match n,h with
 |0,h=>exact h.elim
 |n+1,h =>
  simp only[Dat,hu]at h
  obtain⟨es,rfl,hes⟩:=h
  obtain⟨l,rfl,hl⟩:=aUK λy hy=>hx n y aA (hes y hy)
  exact⟨l,by rw[hc],hl⟩
theorem a0X:Tryz.prog.cellsOf 5=1:=by kernel_rfl
def bG9:List TypeId:=[5,22]
theorem a5M:aU9 Tryz.prog bG9=true:=by kernel_rfl
end Go.Hl

/-
  Contracts of functions and laws of the layer over the walk.
-/
import Derived.Test.YtoomflalicffnaaGreatVvF
import Derived.Test.YtoomflalicffnaaGreatVvE
import Derived.Test.YtoomflalicffnaaGreatVvD
import Derived.Test.YtoomflalicffnaaGreatVvA
namespace Go.Hl
set_option maxRecDepth 100000
open Go.Proofs
set_option linter.unusedVariables false
set_option linter.unusedSimpArgs false
@[go_sem] def aGQ:List Nat:=[0,1,4,5,6,7,8,9,10,11,12,18,37,48,75,80,101]
@[go_sem] def a3H:List Nat:=[31,97,113]
@[go_sem] def a3I:Marks:=λid=>match id with|5=>([5,11,13],(.op 0 (.op 1 (.op 2 (.op 3 (.op 4 (.op 6 (.op 7 (.op 8 (.op 9 (.op 10 (.op 5 (.op 11 (.op 12 (.op 13 .nil)))))))))))))),[])|19=>([3,7,11,14,15],(.op 0 (.op 1 (.op 2 (.op 4 (.op 5 (.op 6 (.op 8 (.op 9 (.op 10 (.op 12 (.op 3 (.op 7 (.op 11 (.op 13 (.op 14 (.op 15 .nil)))))))))))))))),[])|_=>([],.nil,[])
set_option maxHeartbeats 4000000 in
theorem a79 {n:Nat} (hn:1<=n/\n<=12) {L:List (List Int)} {rest:List Int} (hL:L.length=n) (hLw:∀ i,i<n->(L.getD i []).length=n) (hLn:∀ i,i<n->eI (L.getD i [])) (hrl:rest.length=n) (hrn:eI rest) {A0:Nat->Nat->Int} (bC0:uO gM n (vI n (λi k=>(L.getD i []).getD k 0) λi=>rest.getD i 0) n=some A0):fR Tryz.prog 91 [bL L,ints rest] (ints (gU n λi=>A0 i n)):=by
 refine mP 116 aGQ a3H a3I Tryz.func91 λh=>?_
 simp -dsimp -implicitDefEqProofs only[go_sem,↓reduceIte,Tryz.f91]
 refine aH.fX (a0T aA aA hL hLw h) ?_
 rintro r g ⟨b,N,rfl,hN,H0⟩
 obtain⟨M,hM⟩:∃ M:Nat->Nat->Int,M=vI n (λi k=>(L.getD i []).getD k 0) λi=>rest.getD i 0:=⟨_,rfl⟩
 have hMn:okM iE n M:=λi hi k hk=>by
  rw[hM];unfold vI
  split
  ·exact(hLn i hi).get k
  ·exact hrn.get i
 have hrow:∀ i,i<n->gU n (λk=>(L.getD i []).getD k 0)++[rest.getD i 0]=gU (n+1) (M i):=λi hi=>by
  rw[hM,gU,gU,aXH,mY]
  congr 1
  ·exact aCA λk hk=>by rw[vI,if_pos (aDZ.1 hk)]
  ·simp[vI]
 rw[←hM]at bC0
 have HW:=H0.toW hN
 clear H0
 simp -dsimp -implicitDefEqProofs only[go_sem,↓reduceIte,Tryz.f91]
 refine cM aGQ a3H a3I (λx:Nat×(Nat->Nat)×(Nat->List Int)×aB=>[(1,ints rest),(5,.os b 1 0 n),(6,I x.1)]) (λx=>x.2.2.2) (λx=>x.1<=n/\(∀ i,i<n->x.2.2.1 i=if i<x.1 then gU (n+1) (M i)else gU n λk=>(L.getD i []).getD k 0)/\OMW I h b n x.2.1 x.2.2.1 x.2.2.2) (λx=>n-x.1) (0,_,_,g) ⟨by simp[cR,bZ],aB.le_refl _,eM _,(λi hi=>by simp only[aRJ,if_false];rfl),HW⟩ ?_
 clear HW
 rintro⟨k,P,R,g⟩ ⟨hk,hR,HW⟩
 simp only at hk hR HW ⊢
 have hgb:=HW.bk
 rcases bT k n with hlt|hge
 ·have hRk:=hR k hlt
  rw[if_neg (bV k)]at hRk
  have hgk:=HW.get k hlt
  have ek:(gU n λi=>[Cell.v (.os (P i) 1 0 (R i).length)])[k]?=some [Cell.v (.os (P k) 1 0 n)]:=by rw[fE _ hlt,hRk,cO]
  have erk:=bW (l:=rest) (i:=k) aA
  simp -dsimp -implicitDefEqProofs only[go_sem,↓reduceIte,Tryz.f91,hlt,hgb,ek,cO,erk,hrl,hgk,jB,hRk]
  have hgr:List.take n (((gU n λk_1=>(L.getD k []).getD k_1 0).map λn=>[I n]).map (List.map Cell.v))++[[Cell.v (I (rest.getD k 0))]]=((gU (n+1) (M k)).map λn=>[I n]).map (List.map .v):=by rw[←hrow k hlt,←dS I,cO]
  refine λ_=>⟨by decide,by decide,by decide,bY _,by omega,by omega,λm zm=>?_⟩
  obtain⟨rD,lN,lM,rZ⟩:=cW (show ¬m=b from λe=>by rw[e,hgb]at zm;cases zm)
  have hPb:=(HW.out k hlt).1
  have eP1:(P k=b)=False:=eq_false hPb
  have eP2:(b=P k)=False:=eq_false (iK hPb)
  rw[hgr]
  simp -dsimp -implicitDefEqProofs only[go_sem,↓reduceIte,Tryz.f91,lN,lM,eP1,eP2,aD,hgb,ek,cO]
  generalize hF:aT (aT (aT g (P k) bU.gone) m _) b _=F
  have HF:=HW.put (F:=F) hlt zm (gU (n+1) (M k)) (by rw[←hF,aD _ _ _ _ rD,aI];rfl) (by rw[←hF,aI,cO]) λq q1 q2 q3 o ho=>by rw[←hF,aD _ _ _ _ q2,aD _ _ _ _ q1,aD _ _ _ _ q3];exact ho
  exact⟨(k+1,(λj=>if j=k then m else P j),(λj=>if j=k then gU (n+1) (M k)else R j),F),IntWalk.i64_in _ aA,aB.le_refl _,⟨hlt,λi hi=>by
   by_cases e:i=k
   ·simp only[if_pos e];rw[if_pos aA,e]
   ·simp only[if_neg e]
    rw[hR i hi]
    by_cases e2:i<k
    ·rw[if_pos e2,if_pos aA]
    ·rw[if_neg e2,if_neg aA],HF⟩,by simp only;omega⟩
 ·obtain rfl:k=n:=by omega
  have H:=HW.toM (w:=k+1) (A:=M) λi hi=>by rw[hR i hi,if_pos hi]
  have hN2:(gU k P).length=k:=cO _ _
  generalize gU k P=N at H hN2
  clear HW hR hgb hge
  simp -dsimp -implicitDefEqProofs only[go_sem,↓reduceIte,Tryz.f91,bV,cY]
  intro _
  refine cM aGQ a3H a3I (λx:Nat×(Nat->Nat->Int)×List Nat×aB=>[(5,.os b 1 0 k),(7,I x.1)]) (λx=>x.2.2.2) (λx=>x.1<=k/\x.2.2.1.length=k/\uO gM k M x.1=some x.2.1/\okM iE k x.2.1/\OM I h b (k+1) x.2.2.1 x.2.1 x.2.2.2) (λx=>k-x.1) (0,M,N,g) ⟨by simp[cR,bZ],aB.le_refl _,eM _,hN2,rfl,hMn,H⟩ ?_
  clear H hN2
  rintro⟨c,A,N,g⟩ ⟨hc,hN,hgj,hA,H⟩
  simp only at hc hN hgj hA H ⊢
  have hgb:=H.bk
  rcases bT c k with hlt|hge
  ·have hne:¬rS gM.z A c k (k-c)=k:=λe=>by rw[aUF hlt hgj e]at bC0;cases bC0
   simp -dsimp -implicitDefEqProofs only[go_sem,↓reduceIte,Tryz.f91,hlt,hgb,eE,hN]
   intro _
   refine u3 aGQ a3H a3I (λr:Nat=>[(5,.os b 1 0 k),(7,I c),(8,I r)]) (λr=>r<k/\c<=r/\rS gM.z A c k (k-r)=rS gM.z A c k (k-c)) (λr=>k-r) c ⟨by simp[cR,bZ],hlt,bY _,rfl⟩ ?_
   rintro r ⟨hrk,hcr,hpv⟩
   obtain⟨nr,hnr⟩:∃ nr,N[r]?=some nr:=⟨_,fC aA⟩
   obtain⟨nc,hnc⟩:∃ nc,N[c]?=some nc:=⟨_,fC aA⟩
   have hpr:rS gM.z A c k (k-r)=if gM.z (A r c)=true then rS gM.z A c k (k-(r+1))else r:=by
    rw[show k-r=(k-(r+1))+1 by omega,rS,show k-(k-(r+1)+1)=r by omega]
   have hgr:=H.get r nr hnr
   have hArc:=hA r hrk c aA
   obtain⟨a78,aLT,aLU,bJZ⟩:=cW (show ¬nr=b from(H.out nr (s5 hnr)).1)
   simp -dsimp -implicitDefEqProofs only[go_sem,↓reduceIte,Tryz.f91,hrk,hgb,dN hnr,eE,hN,hgr,jB,cO,fE (A r) (show c<k+1 by omega),dN hnc,aBN,p7,hlt,aLT,aLU,aD]
   refine⟨λq=>⟨r+1,IntWalk.i64_in _ aA,?_,by omega⟩,λq=>?_⟩
   ·rw[hpr,if_pos (show gM.z (A r c)=true from decide_eq_true q)]at hpv
    refine⟨?_,by omega,hpv⟩
    rcases bT (r+1) k with h1|h1
    ·exact h1
    ·rw[show k-(r+1)=0 by omega,rS]at hpv
     exact absurd hpv.symm hne
   rw[hpr,if_neg (show ¬gM.z (A r c)=true from λe=>q (of_decide_eq_true e))]at hpv
   have hgo:=a74 hgj hrk hpv.symm
   have hB:okM iE k (nG A c r):=aWK hlt hrk hA
   have hcc:nG A c r c c=A r c:=by rw[nG,if_pos rfl]
   first|refine aH.mk (tF (A r c)) ?_|refine aG.mk (tF (A r c)) ?_|refine aH.bH (tF (A r c)) ?_|refine aG.mk (bB.dI (tF (A r c))) ?_
   simp -dsimp -implicitDefEqProofs only[go_sem,↓reduceIte,Tryz.f91,hrk,hgb,dN hnr,eE,hN,hgr,jB,cO,fE (A r) (show c<k+1 by omega),dN hnc,aBN,p7,hlt,aLT,aLU,aD]
   have hsn:eI (gU (k+1) (A r)):=λx hx=>by
    obtain⟨q,hq,rfl⟩:=lZ.1 hx
    have:=aDZ.1 hq
    exact hA r hrk q aA
   have hsc:=a3G (gU (k+1) (A r)) (gJ (A r c)) (num_inv _) (by rw[cO];omega) hsn
   have hse:eJ (gU (k+1) (A r)) (gJ (A r c))=gU (k+1) λq=>gM.dv (nG A c r c q) (nG A c r c c):=by
    rw[eJ,gU,zZ]
    exact aCA λq _=>by simp[nG,gM]
   rw[hse]at hsc
   refine aH.wl0 hsc (mA.cons (a71 (cO _ _).symm (by rw[aD _ _ _ _ a78];exact hgr)) (mA.cons (View.same _ _) mA.nil)) (QS.gY (λy hy=>OS.sol (λ_ _ q=>aO0 (λ_=>rfl) q) hy) λ_ h=>h) ?_
   rintro r_ l_ g' ⟨y_,oy_,rfl,rfl⟩ wn_
   rcases oy_.aA9 with⟨_,q_⟩|⟨ns,rfl⟩
   ·have:=congrArg List.length q_;rw[cO]at this;simp at this
   rw[OV.jG]
   rw[OV.eK,gL,fP]at wn_
   obtain⟨zns,rfl⟩:=wn_.tG
   obtain⟨a8A,bJ1,bJ2,bWR⟩:=cW (show ¬ns=b from λe=>by rw[e,aI]at zns;cases zns)
   rw[aD _ _ _ _ a8A]at zns
   have hx1:(N.set r nc)[c]?=some nc:=by
    by_cases e:r=c
    ·rw[e,nH aA]
    ·rw[mG e];exact hnc
   simp -dsimp -implicitDefEqProofs only[go_sem,↓reduceIte,Tryz.f91,bJ1,bJ2,aD,eE,p7,hN,hlt,cO,aBN,dN hx1]
   generalize hB':nG A c r=B at *
   generalize hD:(λq=>gM.dv (B c q) (B c c))=D at *
   have hDn:∀ q,q<k+1->iE (D q):=λq _=>by rw[←hD];exact dY _
   have hz:¬B c c=0:=by rw[hcc];exact q
   generalize hF:aT (aT (aT g b _) ns _) b _=F
   have HF:=H.bQH (F:=F) (B:=λi q=>if i=c then D q else B i q) hnc hnr zns (by rw[←hF,aD _ _ _ _ a8A,aI];exact congrArg (λr=>some (jB I r)) (eY λq _=>(if_pos rfl).symm)) (by rw[←hF,aI]) (λq q1 q2=>by rw[←hF,aD _ _ _ _ q2,aD _ _ _ _ q1,aD _ _ _ _ q2]) λi hi q _=>by rw[if_neg hi,←hB',nG,if_neg hi];by_cases e:i=r <;> simp[e]
   have hN2:((N.set r nc).set c ns).length=k:=by simp[hN]
   generalize (N.set r nc).set c ns=N2 at HF hN2
   clear hF zns hx1 H hgb hgr hnr hnc hpr hpv
   refine cM aGQ a3H a3I (λx:Nat×aB=>[(5,.os b 1 0 k),(7,I c),(10,I x.1)]) (λx=>x.2) (λx=>x.1<=k/\OM I h b (k+1) N2 (λi q=>if i=c then D q else if i<x.1 then gM.tk (B i q) (B i c) (D q)else B i q) x.2) (λx=>k-x.1) (0,F) ⟨by simp[cR,bZ],aB.le_refl _,eM _,HF.congr λi _ q _=>by simp⟩ ?_
   rintro⟨i,G⟩ ⟨hi,H⟩
   simp only at hi H ⊢
   have hgb:=H.bk
   rcases bT i k with iV|aBC
   ·obtain⟨ni,hni⟩:∃ ni,N2[i]?=some ni:=⟨_,fC aA⟩
    obtain⟨nc,hnc⟩:∃ nc,N2[c]?=some nc:=⟨_,fC aA⟩
    have hgc:G nc=some (jB I (gU (k+1) D)):=by
     rw[H.get c nc hnc]
     exact congrArg (λr=>some (jB I r)) (eY λq _=>if_pos rfl)
    by_cases hic:i=c
    ·have HC:OM I h b (k+1) N2 (λi' q=>if i'=c then D q else if i'<i+1 then gM.tk (B i' q) (B i' c) (D q)else B i' q) G:=H.congr λi' _ q _=>by
      by_cases e:i'=c
      ·rw[if_pos e,if_pos e]
      ·rw[if_neg e,if_neg e]
       by_cases e2:i'<i
       ·rw[if_pos e2,if_pos aA]
       ·rw[if_neg e2,if_neg aA]
     simp -dsimp -implicitDefEqProofs only[go_sem,↓reduceIte,Tryz.f91,iV,hgb,eE,hN2]
     refine λ_=>⟨λq=>absurd aA q,λ_=>⟨(i+1,G),IntWalk.i64_in _ aA,aB.le_refl _,⟨iV,HC⟩,by simp only;omega⟩⟩
    ·have hgi:G ni=some (jB I (gU (k+1) (B i))):=by
      rw[H.get i ni hni]
      exact congrArg (λr=>some (jB I r)) (eY λq _=>by rw[if_neg hic,if_neg (bV i)])
     simp -dsimp -implicitDefEqProofs only[go_sem,↓reduceIte,Tryz.f91,iV,hgb,dN hni,dN hnc,eE,hN2,hgi,hgc,jB,cO,fE (B i) (show c<k+1 by omega)]
     refine λ_=>⟨λ_=>⟨hlt,by omega,?_⟩,λq=>absurd q hic⟩
     refine aH.fX (aUJ aA (λq hq=>hB i iV q (Nat.le_of_lt_succ hq)) (λq hq=>hDn q hq) (hB i iV c aA) hgi hgc (H.apart hni hnc hic)) ?_
     rintro r_ h' rfl
     have HF:=H.set (B:=λi' q=>if i'=c then D q else if i'<i+1 then gM.tk (B i' q) (B i' c) (D q)else B i' q) hni λi' hi' q _=>by
      by_cases e:i'=c
      ·rw[if_pos e,if_pos e]
      ·rw[if_neg e,if_neg e]
       by_cases e2:i'<i
       ·rw[if_pos e2,if_pos aA]
       ·rw[if_neg e2,if_neg aA]
     have hrf:gU (k+1) ((λi' q=>if i'=c then D q else if i'<i+1 then gM.tk (B i' q) (B i' c) (D q)else B i' q) i)=gU (k+1) λq=>gM.tk (B i q) (B i c) (D q):=eY λq _=>by simp[hic]
     rw[hrf]at HF
     simp -dsimp -implicitDefEqProofs only[go_sem,↓reduceIte,Tryz.f91]
     exact⟨(i+1,aT G ni (jB I (gU (k+1) λq=>gM.tk (B i q) (B i c) (D q)))),IntWalk.i64_in _ aA,aB.le_refl _,⟨iV,HF⟩,by simp only;omega⟩
   ·obtain rfl:i=k:=by omega
    simp -dsimp -implicitDefEqProofs only[go_sem,↓reduceIte,Tryz.f91,bV,cY,hgb,eE,hN2]
    refine λ_=>⟨(c+1,gsF gM B c,N2,G),IntWalk.i64_in _ aA,aB.le_refl _,⟨hlt,hN2,hgo,aWL a0I hlt hB (decide_eq_false hz),H.congr λi' hi' q _=>?_⟩,by simp only;omega⟩
    rw[hN2]at hi'
    show gsF gM B c i' q=_
    unfold gsF
    by_cases e:i'=c
    ·rw[if_pos e,if_pos e,←hD]
    ·rw[if_neg e,if_neg e,if_pos hi',←hD]
  ·obtain rfl:c=k:=by omega
   simp -dsimp -implicitDefEqProofs only[go_sem,↓reduceIte,Tryz.f91,bV,cY,hgb,eE,hN]
   intro _
   obtain rfl:A=A0:=gO (hgj.symm.trans bC0)
   have hxl:(gU c λi=>A i c).length=c:=cO _ _
   refine⟨by decide,?_⟩
   refine cM aGQ a3H a3I (λx:Nat×Option Nat=>[(5,.os b 1 0 c),(11,fT 1 ((gU c λi=>A i c).take x.1).length x.2),(12,I x.1)]) (λx=>cQ g (.row 1 ((((gU c λi=>A i c).take x.1).map λn=>[I n]).map (List.map .v))) x.2) (λx=>x.1<=c/\eU g ((gU c λi=>A i c).take x.1) x.2) (λx=>c-x.1) (0,none) ⟨by simp[cR,bZ,fT],by simp only[aM];exact aB.le_refl _,eM _,by simp[eU]⟩ ?_
   rintro⟨k,o⟩ ⟨hk,hos⟩
   simp only at hk hos ⊢
   rcases bT k c with hlt|hge
   ·obtain⟨nk,hnk⟩:∃ nk,N[k]?=some nk:=⟨_,fC aA⟩
    have hgk:=H.get k nk hnk
    have hy:(gU c λi=>A i c).take (k+1)=(gU c λi=>A i c).take k++[A k c]:=by
     rw[iW aA];simp[gU]
    have hlk:((gU c λi=>A i c).take k).length=k:=by rw[nU];omega
    cases o with
    |none =>
     rw[aZ]at hos
     rw[hos]at hy ⊢
     simp -dsimp -implicitDefEqProofs only[go_sem,↓reduceIte,Tryz.f91,bD,aM,hlt,hgb,dN hnk,eE,hN,hgk,jB,cO,fE (A k) (sR c)]
     intro _
     repeat'(with_reducible first|intro _|refine And.intro ?_ ?_)
     all_goals try(first|omega|decide)
     rename_i b hb
     refine⟨(k+1,some b),?_⟩
     simp only[hy]
     refine⟨⟨rfl,?_⟩,aB.le_refl _,⟨by omega,hb⟩,by omega⟩
     rw[IntWalk.i64_in _ aA];rfl
    |some m =>
     rw[aP]at hos
     obtain⟨rD,lN,lM,rZ⟩:=cW (show ¬m=b from λe=>by rw[e,hgb]at hos;cases hos)
     obtain⟨bJV,aWS,aWR,bJU⟩:=cW (show ¬m=nk from λe=>by rw[e,hgk]at hos;cases hos)
     simp -dsimp -implicitDefEqProofs only[go_sem,↓reduceIte,Tryz.f91,aQ,aJ,hlt,hgb,dN hnk,eE,hN,hgk,jB,cO,fE (A k) (sR c),lN,lM,aWS,aWR,aD]
     intro _
     repeat'(with_reducible first|intro _|refine And.intro ?_ ?_)
     all_goals try(first|omega|decide|exact bY _)
     rename_i b hb
     refine⟨(k+1,some b),?_⟩
     simp only[hy,aJ,aQ,aP]
     refine⟨⟨by rw[nT];rfl,?_⟩,?_,⟨by omega,hb.2⟩,by omega⟩
     ·rw[IntWalk.i64_in _ aA];rfl
     ·rw[←dS];exact jL hos
   ·have hk':k=c:=by omega
    subst hk'
    rw[hJ aA]at hos ⊢
    cases o with
    |none =>
     rw[aZ]at hos
     simp -dsimp -implicitDefEqProofs only[go_sem,↓reduceIte,Tryz.f91,bD,aM,bV,cY]
     rw[hos]
     exact λ_=>Shift.of (Sub.loose _ _ _) H.le
    |some m =>
     rw[aP]at hos
     simp -dsimp -implicitDefEqProofs only[go_sem,↓reduceIte,Tryz.f91,aQ,aJ,bV,cY]
     refine λ_=>Shift.trans (mU ((gU k λi=>A i k).map λn=>[I n]) hos (aB.le_refl _) aRT ?_) (cT H.le)
     simp[aE.fS,mZ,hJ]
@[go_sem] def b13:List Nat:=[5,18]
@[go_sem] def bTF:List Nat:=[0,1,2,6,7,8,9,13,18]
@[go_sem] def bZ5:Marks:=λid=>match id with|8=>([],(.op 0 (.op 1 (.op 2 (.op 3 (.op 4 (.op 5 (.op 6 (.op 7 (.op 8 (.op 9 (.op 10 (.op 11 (.op 12 (.op 13 (.op 14 (.op 15 (.op 16 (.op 17 (.op 18 (.op 19 .nil)))))))))))))))))))),[])|_=>([],.nil,[])
@[go_sem] def bWS:List Nat:=[0,1,4,5,6,7,8,9,10,11,12,17,41,48,75]
@[go_sem] def b14:List Nat:=[13,27,44,67]
@[go_sem] def b15:Marks:=λid=>match id with|14=>([14,17],(.op 0 (.op 1 (.op 2 (.op 3 (.op 4 (.op 5 (.op 6 (.op 7 (.op 8 (.op 9 (.op 10 (.op 11 (.op 12 (.op 13 (.op 14 (.op 15 (.op 16 (.op 17 (.op 18 .nil))))))))))))))))))),[])|19=>([3,10],(.op 0 (.op 1 (.op 2 (.op 4 (.op 5 (.op 6 (.op 7 (.op 8 (.op 3 (.op 9 (.op 10 .nil))))))))))),[])|_=>([],.nil,[])
abbrev bC1 (s:List Int):Prop:=(1<=s.length/\s.length<=13)/\eI s
abbrev a0V (y:List (List Int)) (m:Nat):Prop:=∀ s∈y,bC1 s/\s.length=m
abbrev a8B (y:List (List Int)) (n:Int):Prop:=a0V y (y.getD 0 []).length/\(y.length:Int)=n
theorem s4 (s:List Int):fR Tryz.prog 118 [ints s] (.bool (decide (bC1 s))):=by
 refine gA 12 aBA cU cG Tryz.func118 λh=>?_
 simp -dsimp -implicitDefEqProofs only[go_sem,↓reduceIte,Tryz.f118]
 intro _
 first|refine aH.mk (within (s.length:Int) 1 13) ?_|refine aG.mk (within (s.length:Int) 1 13) ?_|refine aH.bH (within (s.length:Int) 1 13) ?_|refine aG.mk (bB.dI (within (s.length:Int) 1 13)) ?_
 simp -dsimp -implicitDefEqProofs only[go_sem,↓reduceIte,Tryz.f118]
 refine⟨λq _=>?_,λq=>(decide_eq_false λz=>q aA).symm⟩
 first|refine aH.mk (dX s s.length) ?_|refine aG.mk (dX s s.length) ?_|refine aH.bH (dX s s.length) ?_|refine aG.mk (bB.dI (dX s s.length)) ?_
 simp -dsimp -implicitDefEqProofs only[go_sem,↓reduceIte,Tryz.f118]
 exact decide_eq_decide.2 ⟨λz=>⟨by omega,z⟩,λz=>z.2⟩
theorem a3J {y:List (List Int)} {k m:Nat} (hk:k<y.length) (h:a0V (y.take k) m) (h1:bC1 (y[k]'hk)) (h2:(y[k]'hk).length=m):a0V (y.take (k+1)) m:=λs hs=>by
 rw[iW hk,nY,iO]at hs
 rcases hs with hs|rfl
 ·exact h s hs
 ·exact⟨h1,h2⟩
@[go_sem] def bTG:List Nat:=[0,1,4,5,9,26]
@[go_sem] def a0W:List Nat:=[0,1,4,6,7,8,9,10,24]
theorem bC2 (y:List (List Int)) (hl:y.length<=4194304) (n:Int):fR Tryz.prog 113 [bL y,I n] (.bool (decide (a8B y n))):=by
 refine gA 30 a0W cU cG Tryz.func113 λh=>?_
 simp -dsimp -implicitDefEqProofs only[go_sem,↓reduceIte,Tryz.f113]
 intro _
 refine u3 a0W cU cG (λk:Nat=>[(0,bL y),(1,I n),(7,bL y),(8,I y.length),(9,I k)]) (λk=>k<=y.length/\a0V (y.take k) (y.getD 0 []).length) (λk=>y.length-k) 0 ⟨by simp[cR,bZ],eM _,λs hs=>by simp at hs⟩ ?_
 rintro k ⟨hk,hkl⟩
 rcases bT k y.length with hlt|hge
 ·have ea:y[k]?=some y[k]:=fC hlt
  have h3:y.take (k+1)=y.take k++[y[k]]:=iW hlt
  have e0:y[Int.toNat 0]?=some (y.getD 0 []):=by rw[e8,show Int.toNat 0=0 from rfl,fC aA];rfl
  simp -dsimp -implicitDefEqProofs only[go_sem,↓reduceIte,Tryz.f113,hlt,ea]
  first|refine aH.mk (s4 y[k]) ?_|refine aG.mk (s4 y[k]) ?_|refine aH.bH (s4 y[k]) ?_|refine aG.mk (bB.dI (s4 y[k])) ?_
  simp -dsimp -implicitDefEqProofs only[go_sem,↓reduceIte,Tryz.f113,hlt,ea,e0]
  refine⟨λq _=>⟨by omega,?_⟩,λq=>(decide_eq_false λz=>q (z.1 _ (lF hlt)).1).symm⟩
  exact λ_=>⟨λq2=>(decide_eq_false λz=>q2 (z.1 _ (lF hlt)).2).symm,λq2=>⟨k+1,IntWalk.i64_in _ aA,⟨hlt,a3J hlt hkl q q2⟩,by omega⟩⟩
 ·obtain rfl:k=y.length:=by omega
  simp -dsimp -implicitDefEqProofs only[go_sem,↓reduceIte,Tryz.f113,bV,cY]
  rw[nM]at hkl
  exact λ_=>decide_eq_decide.2 ⟨λz=>⟨hkl,z⟩,λz=>z.2⟩
@[go_sem] def bWT:List Nat:=[0,1,4,5,43]
@[go_sem] def b16:Marks:=λid=>match id with|2=>([11,22],(.op 0 (.op 1 (.op 2 (.op 3 (.op 4 (.op 5 (.op 6 (.op 7 (.op 8 (.op 9 (.op 10 (.op 11 (.op 12 (.op 13 (.op 14 (.op 15 (.op 16 (.op 17 (.op 18 (.op 19 (.op 20 (.op 21 (.op 23 (.op 24 (.op 25 (.op 26 (.op 27 (.op 28 (.op 29 (.op 30 (.op 31 (.op 22 (.op 32 (.op 33 (.op 34 .nil))))))))))))))))))))))))))))))))))),[])|_=>([],.nil,[])
@[go_sem] def bWU:List Nat:=[0,1,2,6,7,35]
@[go_sem] def bWV:List Nat:=[0,1,2,3,6,7,24]
def tS (sz:Nat):List Int:=(bX 0 sz).set 1 1
theorem aQO (sz:Nat):(tS sz).length=sz:=by simp[tS,bX]
theorem wD (sz:Nat):bX 0 sz=List.replicate sz 0:=by
 cases sz with
 |zero=>rfl
 |succ q=>rw[bX,aJC,aXB]
theorem zK (sz:Nat):aW sz (tS sz):=⟨aQO sz,λx hx=>by
 rw[tS,wD]at hx
 rcases s6 hx with hx|rfl
 ·rw[(aGW.1 hx).2];exact gZ
 ·decide⟩
theorem bC3 {sz:Nat} (h:1<=sz):(tS sz).getD 0 0=0:=by
 obtain⟨q,rfl⟩:∃ q,sz=q+1:=⟨sz-1,by omega⟩
 rw[tS,wD,aJC];rfl
@[go_sem] def bC4:List Nat:=[0,2,3,8]
theorem aWT {sz:Nat} (hs:1<=sz/\sz<=1048576):fR Tryz.prog 110 [I ((sz:Int)-1)] (ints (tS sz)):=by
 have e2:=y5 (x:=[aE.int .i64 0]) hs.1
 have e1:IntKind.i64.wrap ((sz:Int)-1+1)=(sz:Int):=by rw[IntWalk.i64_in _ aA];omega
 refine mP 12 bC4 cU cG Tryz.func110 λh=>?_
 simp -dsimp -implicitDefEqProofs only[go_sem,↓reduceIte,Tryz.f110,r8,e2,e1]
 refine⟨aX,bY _,by omega,by omega,λm hm=>⟨λq=>⟨by omega,?_⟩,λq=>?_⟩⟩
 ·have e4:(List.replicate sz [aE.int .i64 0])[Int.toNat 1]?=some [aE.int .i64 0]:=by rw[sQ,if_pos (show Int.toNat 1<sz by rw[show Int.toNat 1=1 from rfl];omega)]
  simp -dsimp -implicitDefEqProofs only[go_sem,↓reduceIte,Tryz.f110,e4]
  rw[aL,show Int.toNat 1=1 from rfl,vS,nL I,←wD,←tS]
  exact fU (tS sz) hm (aB.le_refl _) (aQO sz).symm
 ·obtain rfl:sz=1:=by omega
  exact fU (tS 1) hm (aB.le_refl _) rfl
@[go_sem] def bWW:List Nat:=[0,2,3,4,14]
@[go_sem] def bZ6:List Nat:=[6,16]
def o9 (n:Nat) (M:Nat->Nat->List Int) (y:List (List Int)):List (List Int)×Bool:=match uO o8 n M n with
 |some A=>(gU n λi=>kD (y.getD i []) (A i n),true)
 |none=>([],false)
@[go_sem] def aWU:List Nat:=[0,1,2,6,7,8,9,10,11,12,20,22,23,24,25]
@[go_sem] def bJ3:List Nat:=[21,36]
theorem bC5 {d sz:Nat} (hn:1<=d/\d<=12) (hsz:1<=sz/\sz<=1048576) {y:List (List Int)} {a:List (List (List Int))} {B:List (List Int)} (hys:c7 sz d y) (hal:a.length=d) (ha:∀ i,i<d->c7 sz d (a.getD i [])) (hb:c7 sz d B) {M:Nat->Nat->List Int} (hM:M=vI d (λi k=>(a.getD i []).getD k []) λi=>B.getD i []) :
  yR Tryz.prog 78 [bL y,zJ a,bL B] (QS (OS (oL I) 1 (o9 d M y).1) (λz=>.gK [z,.bool (o9 d M y).2])):=by
 have hs:=solved hn hsz hal ha hb hM
 have hMok:okM (aW sz) d M:=λi hi k hk=>by
  rw[hM];unfold vI
  split
  ·exact((ha i hi).get kX).2
  ·exact(hb.get hi).2
 cases hA:uO o8 d M d with
 |none =>
  rw[aUG,hA]at hs
  rw[o9,hA]
  refine yT 40 aWU bJ3 cG Tryz.func78 λh=>?_
  simp -dsimp -implicitDefEqProofs only[go_sem,↓reduceIte,Tryz.f78]
  first|refine aH.mk (hs) ?_|refine aG.mk (hs) ?_|refine aH.bH (hs) ?_|refine aG.mk (bB.dI (hs)) ?_
  simp -dsimp -implicitDefEqProofs only[go_sem,↓reduceIte,Tryz.f78]
  exact⟨.gK [(OV.nil 1).val,.bool false],h,[],Shift.of (Sub.gK (.cons (Sub.nil 1 true) (.cons (.refl _) .nil))) (aB.le_refl _),⟨_,OS.nil,rfl,by rw[OV.sV]⟩,fI.nil h⟩
 |some A =>
  rw[aUG,hA]at hs
  rw[o9,hA]
  have hAs:=(aFC (wB sz) hMok d (bY _) A hA).1
  simp only at hs ⊢
  generalize hX:(gU d λi=>A i d)=X at hs
  have hXg:∀ i,i<d->X[i]?=some (A i d):=λi hi=>by rw[←hX,fE _ hi]
  have hXl:X.length=d:=by rw[←hX,cO]
  have hyl:=hys.1
  obtain⟨Z,hZ⟩:∃ Z,Z=gU d λi=>kD (y.getD i []) (A i d):=⟨_,rfl⟩
  have hZl:Z.length=d:=by rw[hZ,cO]
  rw[←hZ]
  refine yT 40 aWU bJ3 cG Tryz.func78 λh=>?_
  simp -dsimp -implicitDefEqProofs only[go_sem,↓reduceIte,Tryz.f78]
  first|refine aH.mk (hs) ?_|refine aG.mk (hs) ?_|refine aH.bH (hs) ?_|refine aG.mk (bB.dI (hs)) ?_
  simp -dsimp -implicitDefEqProofs only[go_sem,↓reduceIte,Tryz.f78]
  refine⟨aX,λ_=>?_⟩
  refine cM aWU bJ3 cG (λx:Nat×LLx=>[(8,bL X),(10,fT 1 x.1 x.2.1),(22,bL y),(23,I d),(24,I x.1)]) (λx=>LLH x.2) (λx=>x.1<=d/\LLG h (Z.take x.1) x.2) (λx=>d-x.1) (0,none,[],h) ⟨by simp[cR,bZ,fT,hyl],aB.le_refl _,eM _,LLG.init _⟩ ?_
  rintro⟨k,op,es,g⟩ ⟨hk,H⟩
  simp only at hk H ⊢
  rcases bT k d with hlt|hge
  ·have ey:=hys.get hlt
   have eX:=hXg k hlt
   have hak:=hAs k hlt d aA
   have hy:Z.take (k+1)=Z.take k++[kD (y.getD k []) (A k d)]:=by
    rw[iW aA]
    congr 2
    simp[hZ,gU]
   have hlk:(Z.take k).length=k:=by rw[nU];omega
   have zI:=H.len
   simp only[hlk]at zI
   have hown:=aTH (y.getD k []) (A k d) (by rw[hak.1,ey.2.1]) (by rw[ey.2.1];omega) ey.2.2 hak.2
   have hc:(kD (y.getD k []) (A k d)).length=sz:=(jO ey.2 hak).1
   cases op with
   |none =>
    obtain⟨h1,rfl,rfl⟩:=H.nil
    obtain rfl:k=0:=by rw[←hlk,h1];rfl
    simp -dsimp -implicitDefEqProofs only[go_sem,↓reduceIte,Tryz.f78,hlt,ey.1,eX,hXl,bD,LLH,aM]
    refine⟨by omega,?_⟩
    refine aH.wn0 (hown) ?_
    rintro r_ l_ g ⟨y_,oy_,rfl,rfl⟩ wn_
    rcases oy_.aA9 with⟨_,q_⟩|⟨m,rfl⟩
    ·rw[q_]at hc;simp at hc;omega
    rw[OV.jG]
    rw[OV.eK,gL,fP]at wn_
    obtain⟨zm,rfl⟩:=wn_.tG
    simp -dsimp -implicitDefEqProofs only[go_sem,↓reduceIte,Tryz.f78,hc,bD]
    refine⟨aX,aX,aX,λb ⟨b1,b2⟩=>?_⟩
    obtain⟨x',e',H',L'⟩:=H.fin (m:=m) (b:=b) (s:=kD (y.getD 0 []) (A 0 d)) (hc) zm b2 b1 (aB.le_refl _)
    refine⟨(1,x'),⟨by simp only[e'];rfl,IntWalk.i64_in _ aA⟩,L',⟨hlt,by simp only;rw[hy];exact H'⟩,by simp only;omega⟩
   |some n =>
    simp -dsimp -implicitDefEqProofs only[go_sem,↓reduceIte,Tryz.f78,hlt,ey.1,eX,hXl,aQ,LLH,aJ,cP,zI]
    refine⟨by omega,?_⟩
    refine aH.wn1 (hown) H.2.2 ?_
    rintro r_ l_ g' ⟨y_,oy_,rfl,rfl⟩ wn_ zn
    rcases oy_.aA9 with⟨_,q_⟩|⟨m,rfl⟩
    ·rw[q_]at hc;simp at hc;omega
    rw[OV.jG]
    rw[OV.eK,gL,fP]at wn_
    obtain⟨zm,rfl⟩:=wn_.tG
    obtain⟨aAE,lI,lJ,aHI⟩:=cW (show ¬m=n from λe=>by rw[e,aI]at zn;cases zn)
    simp -dsimp -implicitDefEqProofs only[go_sem,↓reduceIte,Tryz.f78,hc,lI,lJ,aD,cP,zI,aQ]
    refine⟨aX,aX,aX,bY _,by omega,by omega,λb ⟨bn,bm,bz⟩=>?_⟩
    rw[show List.take k (OV.cells es)=OV.cells es from zI▸eQ es]
    refine⟨(k+1,some b,es++[oI m (kD (y.getD k []) (A k d))],aT g m (mH (kD (y.getD k []) (A k d)))),⟨rfl,IntWalk.i64_in _ aA⟩,?_,⟨hlt,by simp only;rw[hy];exact H.snoc (kD (y.getD k []) (A k d)) zm bz bm⟩,by simp only;omega⟩
    show(LLH (some b,es++[oI m (kD (y.getD k []) (A k d))],aT g m (mH (kD (y.getD k []) (A k d))))).le _
    rw[LLH.snoc,show List.length (kD (y.getD k []) (A k d))=_ from hc]
    exact aQG H.2.2 aAE bn (λq hq=>by simp only[fN,if_neg hq];(repeat' split) <;> first|rfl|contradiction)
  ·obtain rfl:k=d:=by omega
   simp -dsimp -implicitDefEqProofs only[go_sem,↓reduceIte,Tryz.f78,bV,cY]
   rw[hJ aA]at H
   obtain⟨z,hz,hv,hw⟩:=H.done
   rw[hZl]at hv
   rw[←hv]
   exact⟨_,LLH (op,es,g),_,bO _ _,⟨z,hz,rfl,rfl⟩,hw⟩
theorem a8C {start:List Int} {sz:Nat} {X:List (List Int)} (hX:St start sz X):X.map (·.getD 0 0)=start:=by
 apply tI
 ·rw[gX,hX.1.1]
 ·intro i a b
  have:=hX.2 i b
  rw[gX]at a
  have h1:X[i]=X.getD i []:=by rw[e8,fC a];rfl
  have h2:start[i]=start.getD i 0:=by rw[e8,fC b];rfl
  rw[tJ,h1,h2];exact this
theorem bQI {h g:aB} (c:Int) (hl:h.le g):Shift (.gK [.bS,.bS,I c]) g (.gK [bL [],zJ [],I c]) h :=
 Shift.of (Sub.gK (.cons (Sub.nil 1 false) (.cons (Sub.nil 1 false) (.cons (.refl _) .nil)))) hl
theorem bC6 {p:aF} (hp:p.ok) (hps:p.s<=4194304) {sz:Nat} (hsz:1<=sz/\sz<=1048576) (f:Int) (hf:0<=f/\f<p.aK.length) {start:List Int} (ns:eI start) (hs:1<=start.length/\start.length<=12) (hl:∀ F,p.aK[f.toNat]?=some F->(start.length:Int)=F.aR) {c:Int} (hr:zB p f start=.error c) {X:List (List Int)} (hX:St start sz X) :
  fR Tryz.prog 58 [.agg p.c,I f,bL X] (.gK [bL [],zJ [],I c]):=by
 have hfi:=aPQ X (by rw[hX.1.1];omega) (λs hs'=>by rw[(hX.1.2 s hs').1];exact hsz.1)
 rw[a8C hX]at hfi
 have hrc:=a6Z hp hps f hf start ns aA hl
 rw[show rJ p f start=(⟨0,[],[],[]⟩,c)by rw[rJ,hr]]at hrc
 have hc:=aE0 p 1 f _ c (aI0 hp hf ns hl hr).1
 simp only[aF.aY,rI.aY]at hrc ⊢
 refine mP 63 aWQ bJM bJN Tryz.func58 λh=>?_
 simp -dsimp -implicitDefEqProofs only[go_sem,↓reduceIte,Tryz.f58]
 first|refine aH.mk (hfi) ?_|refine aG.mk (hfi) ?_|refine aH.bH (hfi) ?_|refine aG.mk (bB.dI (hfi)) ?_
 simp -dsimp -implicitDefEqProofs only[go_sem,↓reduceIte,Tryz.f58]
 first|refine aH.mk (hrc) ?_|refine aG.mk (hrc) ?_|refine aH.bH (hrc) ?_|refine aG.mk (bB.dI (hrc)) ?_
 simp -dsimp -implicitDefEqProofs only[go_sem,↓reduceIte,Tryz.f58]
 exact λn zn=>⟨λ_=>by rw[aL];exact bQI c (aB.bM zn (aB.le_refl _)),λq=>absurd hc aA⟩
@[go_sem] def bWX:List Nat:=[0,1,2,3,6,7,8,9,10,11,12,28]
@[go_sem] def b17:List Nat:=[3,16]
@[go_sem] def bWY:List Nat:=[0,1,2,3,6,7,8,9,10,11,12,13,19,30,40]
def uD (sz inp k:Nat):List (List Int):=(List.range inp).map λi=>if i=k then bX 1 sz else bX 0 sz
theorem a8D {sz:Nat} (inp k:Nat):c7 sz inp (uD sz inp k):=⟨by simp[uD],λs hs=>by
 obtain⟨i,_,rfl⟩:=lZ.1 hs
 split
 ·exact cS b6
 ·exact cS b6⟩
theorem aN6:∀ (j:Nat) (f:Nat->Int),dG f (λ_=>0) j=0
 |0,f=>by rw[dG];omega
 |j+1,f=>by rw[dG,aN6 j];omega
theorem aN7 (a:Int) (k:Nat):∀ m,eW (λi=>if i=k then a else 0) m=if k<m then a else 0
 |0=>by simp[eW]
 |m+1=>by
  rw[eW,aN7 a k m]
  by_cases e:m=k
  ·rw[if_neg aA,if_pos e,if_pos aA];omega
  ·rw[if_neg e]
   by_cases e2:k<m
   ·rw[if_pos e2,if_pos aA];omega
   ·rw[if_neg e2,if_neg aA];omega
theorem a3K (sz:Nat):sF (bX 0 sz)=λ_=>0:=funext λq=>by
 rw[sF,wD,e8,sQ]
 split <;> rfl
theorem a3L {sz:Nat} (h:1<=sz):sF (bX 1 sz)=λq=>if q=0 then 1 else 0:=funext λq=>by
 obtain⟨m,rfl⟩:∃ m,sz=m+1:=⟨sz-1,by omega⟩
 rw[sF,bX,aJC,aXB]
 cases q with
 |zero=>rfl
 |succ q =>
  rw[if_neg aA,List.getD_cons_succ,e8,sQ]
  split <;> rfl
theorem a8E {sz inp k:Nat} {row:List (List Int)} (hr:c7 sz inp row) (hk:k<inp):aP6 sz row (uD sz inp k) inp=row.getD k []:=by
 refine a0E (aFA hr inp (bY _)) (hr.get hk).2 λj hj=>?_
 refine(aFB hj hr inp (bY _)).trans ?_
 refine Cg.of_eq (Eq.trans (oK (G:=λi=>if i=k then sF (row.getD k []) j else 0) inp λi hi=>?_) ((aN7 _ k inp).trans (if_pos hk)))
 have e:fA (uD sz inp k) i=if i=k then sF (bX 1 sz)else sF (bX 0 sz):=by
  rw[fA,uD,a3A hi]
  split <;> rfl
 rw[e]
 by_cases h:i=k
 ·rw[if_pos h,if_pos h,a3L aA,tZ,h];rfl
 ·rw[if_neg h,if_neg h,a3K,aN6]
@[go_sem] def bWZ:List Nat:=[0,1,2,6,7,8,9,10,11,12,13,21,31,38,59]
@[go_sem] def b18:List Nat:=[26,34,44,72]
@[go_sem] def b19:Marks:=λid=>match id with|19=>([5,11,13],(.op 0 (.op 1 (.op 2 (.op 3 (.op 4 (.op 6 (.op 7 (.op 8 (.op 9 (.op 10 (.op 5 (.op 11 (.op 12 (.op 13 .nil)))))))))))))),[])|_=>([],.nil,[])
theorem a3M {code:List bG} {inp:Nat} (hins:∀ i c,code[i]?=some c->bN inp i c) {outs:List Int} (ho:∀ r∈outs,0<=r/\r<code.length) {o:Nat} (hol:o<outs.length) {rg:List (List Int)} (hrg:c7 2 code.length rg) {args:List Int} (na:eI args) (hal:args.length=inp) (hv:∀ i k,k<code.length->(fM 2 (jH args (eV inp i)) code k).getD 0 0=rL rg k) {i:Nat} (hi:i<inp) :
  rL (byK code (nW code rg (rV outs (eV outs.length o) (List.replicate code.length (x8 2)) outs.length) code.length 0) 2 inp code.length) i=(fM 2 (jH args (eV inp i)) code (outs.getD o 0).toNat).getD 1 0:=by
 have hser:=aBX na (oJ inp i)
 have hll:=aE8 (args:=args) (dir:=eV inp i) (by rw[uN,hal])
 have hwn:=oJ outs.length o
 have hA0:=vB (sz:=2) b6 ho hwn outs.length (bY _)
 have hD:∀ k,k<code.length->aW 2 (fM 2 (jH args (eV inp i)) code k):=λk hk=>l5 hins hser (by rw[hll,hal]) k hk
 have hps:=a0A ho hwn (d:=λk=>(fM 2 (jH args (eV inp i)) code k).getD 1 0) outs.length (bY _)
 have h1:=aNU hins hrg hA0 hD (hv i) (λy c ec h2=>by rw[tX ec h2];rfl) (λy c ec h3=>zD ec (hins y c ec) aA aA) code.length (bY _)
 rw[sP,nW]at h1
 generalize rV outs (eV outs.length o) (List.replicate code.length (x8 2)) outs.length=A0 at *
 have hA:=rK (sz:=2) ⟨by decide,by decide⟩ hins hrg hA0 code.length 0 rfl
 generalize nW code rg A0 code.length 0=A at *
 have h2:=a7J hins hA hi (d:=λk=>(fM 2 (jH args (eV inp i)) code k).getD 1 0) (λk c ec h1=>by
  have hc:=hins k c ec
  have hn:0<=c.bA/\c.bA<inp:=by unfold bN at hc;omega
  rw[zC ec h1,aNR aA (by rw[uN];omega)]
  show(eV inp i).getD c.bA.toNat 0=_
  split
  ·rename_i e
   rw[eV,e8,e,nH (by rw[aFR];exact hi)];rfl
  ·rename_i e
   exact aGJ (iK e)) code.length (bY _)
 have hB:=zE hins hA code.length (bY _)
 have hone:∀ m,m<=outs.length->qQ (λk=>(eV outs.length o).getD k 0) (λk=>(fM 2 (jH args (eV inp i)) code (outs.getD k 0).toNat).getD 1 0) m=if o<m then(fM 2 (jH args (eV inp i)) code (outs.getD o 0).toNat).getD 1 0 else 0:=λm=>by
  induction m with
  |zero=>intro _;rfl
  |succ m ih =>
   intro hm
   rw[qQ,ih aA]
   by_cases e:m=o
   ·subst e
    rw[if_neg aA,if_pos aA,eV,e8 (l:=List.set _ _ _),nH (by rw[aFR];exact hm)]
    simp
   ·rw[aGJ (iK e)]
    by_cases e2:o<m
    ·rw[if_pos e2,if_pos aA];omega
    ·rw[if_neg e2,if_neg aA];omega
 rw[hone _ (bY _),if_pos hol]at hps
 have hr0:=ho (outs.getD o 0) a4O
 exact(h2.trans (h1.symm.trans hps)).num ((hB.get hi).2.2.get 0) ((hD _ aA).2.get 1)
theorem aWV:∀ n,eW (λ_=>0) n=0
 |0=>rfl
 |n+1=>by rw[eW,aWV n];rfl
theorem aUM (F:Nat->Int):∀ n,eW (λk=>-(F k)) n=-(eW F n)
 |0=>rfl
 |n+1=>by rw[eW,eW,aUM F n];omega
theorem aHM {p:aF} (hp:p.ok) {f:Int} (hf:0<=f/\f<p.aK.length) {args:List Int} (na:eI args) (hl:∀ G,p.aK[f.toNat]?=some G->(args.length:Int)=G.aR) {L:List Int} {F:dQ} {u:Nat} (hX:zB p f args=.ok ((L,F),u)) {sz:Nat} (hsz:1<=sz) {X:List (List Int)} (h:St args sz X) {k:Nat} (hk:k<F.code.length):(fM sz X F.code k).getD 0 0=F.eT.getD k 0:=by
 obtain⟨q1,q2,q3,q4⟩:=(aE5 hp f hf args na hl).1 _ _ hX
 have hsim:a60 args.length F λ_=>True:=⟨q1.ins,λ_ _ _ _=>⟨λ_=>⟨trivial,trivial⟩,λ_=>trivial⟩,λ_ _=>trivial,λ_ _ _ _=>trivial⟩
 have hcl:=q1.len
 exact(aNQ hp hsz hf na hl hX hsim h.1.2 h.1.1 λi hi _=>h.2 i hi).2.1 k (by simp only at hcl;omega) trivial
theorem aQP {args:List Int} (na:eI args) (i:Nat):St args 2 (jH args (eV args.length i)):=by
 have hll:=aE8 (args:=args) (dir:=eV args.length i) (uN _ _)
 exact⟨⟨hll,aBX na (oJ _ _)⟩,λk hk=>by rw[aNR hk (by rw[uN];exact hk)];rfl⟩
theorem a8F {R:List Int->List Int->Prop} {f g:Nat->List Int} (h:∀ i,R (f i) (g i)):∀ l:List Nat,eG R (l.map f) (l.map g)
 | []=>trivial
 |i::l=>⟨h i,a8F h l⟩
@[go_sem] def bW0:List Nat:=[0,1,2,3,4,8,9,10,11,12,14,15,16,38,40,52,55,63,69,81]
@[go_sem] def bW1:List Nat:=[0,1,2,6,7,8,9,23]
@[go_sem] def b2A:List Nat:=[19,35]
@[go_sem] def bZ7:List Nat:=[0,1,2,3,4,5,10,11,12,13,14,15,16,17,18,19,36,38,49,59,74,91]
@[go_sem] def ib8:List Nat:=[5,39,50,55,70]
@[go_sem] def mk8:Marks:=λid=>match id with|22=>([3,18],(.op 0 (.op 1 (.op 2 (.op 4 (.op 5 (.op 6 (.op 7 (.op 8 (.op 9 (.op 10 (.op 11 (.op 12 (.op 13 (.op 14 (.op 15 (.op 16 (.op 3 (.op 17 (.op 18 .nil))))))))))))))))))),[])|_=>([],.nil,[])
theorem a8G {n:Nat} {N:Nat->Nat->Int} (hN:∀ i,i<n->∀ k,k<n->iE (N i k)) (r:Nat->Int):(aUK n N=0↔uO gM n (vI n N r) n=none):=by
 have h1:=aQB (F:=gM) (G:=gM) (R:=λa b=>a=b) (λx y q=>by rw[q]) (λx y d e q1 q2 _=>by rw[q1,q2]) (λx y f g u v q1 q2 q3=>by rw[q1,q2,q3]) (n:=n) (w:=n) (bY _) (M:=vI n N r) (N:=N) (λi hi k hk=>by rw[vI,if_pos hk]) n (bY _)
 rcases bGB hN (N:=N) (λ_ _ _ _=>rfl) n (bY _)with⟨a,b⟩|⟨A,d,B,a,b,c,_⟩
 ·rw[aUK,a]
  rcases h1 with⟨q,_⟩|⟨_,_,_,q,_⟩
  ·exact⟨λ_=>q,λ_=>rfl⟩
  ·rw[b]at q;cases q
 ·rw[aUK,a]
  rcases h1 with⟨_,q⟩|⟨_,_,q,_,_⟩
  ·rw[b]at q;cases q
  ·rw[q];exact⟨λz=>absurd z c.2,λz=>by cases z⟩
@[go_sem] def bW2:List Nat:=[0,1,2,3,6,7,8,9,10,11,12,13,14,15,16,21,38,51,60]
@[go_sem] def b2B:List Nat:=[3,22,39,52,56,73]
@[go_sem] def b2C:Marks:=λid=>match id with|18=>([11],(.op 0 (.op 1 (.op 2 (.op 3 (.op 4 (.op 5 (.op 6 (.op 7 (.op 8 (.op 9 (.op 10 (.op 11 (.op 12 .nil))))))))))))),[])|_=>([],.nil,[])
def Zm (m:Nat) (f:Nat->Int):Prop:=∀ j,j<m->Cg (f j) 0
theorem Zm.add {m:Nat} {f g:Nat->Int} (a:Zm m f) (b:Zm m g):Zm m λj=>f j+g j:=λj hj=>(a j hj).add (b j hj)
theorem Zm.neg {m:Nat} {f:Nat->Int} (a:Zm m f):Zm m λj=>-(f j):=λj hj=>sH (a j hj)
theorem Zm.le {m n:Nat} {f:Nat->Int} (a:Zm m f) (h:n<=m):Zm n f:=λj hj=>a j aA
theorem Zm.of {m:Nat} {f g:Nat->Int} (a:Zm m f) (h:∀ j,j<m->Cg (g j) (f j)):Zm m g:=λj hj=>(h j hj).trans (a j hj)
theorem Zm.prod {a b:Nat} {f g:Nat->Int} (x:Zm a f) (y:Zm b g):Zm (a+b) (dG f g):=λj hj=>by
 rw[rN]
 refine(zG (F:=λi=>f i*g (j-i)) (G:=λ_=>0) (j+1) λi hi=>?_).trans (Cg.of_eq (aWV _))
 by_cases h:i<a
 ·exact((x i h).mul (Cg.refl _)).trans (Cg.of_eq (tK _))
 ·exact((Cg.refl _).mul (y (j-i) aA)).trans (Cg.of_eq (aJL _))
theorem Zm.left {m:Nat} {f g:Nat->Int} (x:Zm m f):Zm m (dG f g):=by
 have:=Zm.prod (b:=0) (g:=g) x λj hj=>absurd hj (aRJ _)
 exact this
theorem Zm.right {m:Nat} {f g:Nat->Int} (y:Zm m g):Zm m (dG f g):=by rw[lA];exact y.left
theorem aI2 (k:Nat) (f g h:Nat->Int):dG (λi=>f i-g i) h k=dG f h k-dG g h k:=by
 have:=rM k f (λi=>-(g i)) h
 rw[zF]at this
 exact this
theorem bJ4 {m m1:Nat} (hm:m<=m1+m1) {Fa Fb Ga Gb Ea Eb:Nat->Int} (a:Zm m1 Ga) (b:Zm m1 Gb) (ea:Zm m Ea) (eb:Zm m Eb) :
  Zm m λj=>dG (λi=>Fa i+Ga i+Ea i) (λi=>Fb i+Gb i+Eb i) j-dG Fa Fb j-(dG Ga Fb j+dG Fa Gb j):=by
 have h1:=(((Zm.prod a b).le hm).add (eb.right (f:=λi=>Fa i+Ga i))).add (ea.left (g:=λi=>Fb i+Gb i+Eb i))
 refine h1.of λj _=>Cg.of_eq ?_
 rw[rM j (λi=>Fa i+Ga i) Ea,mD j (λi=>Fb i+Gb i) Eb,rM j Fa Ga,mD j Fb Gb Fa,mD j Fb Gb Ga]
 omega
theorem Zm.iv {m:Nat} {U B iv:Nat->Int} (h1:pJ m (dG B iv) aGP) (h:Zm m (dG U B)):Zm m U:=by
 refine(h.left (g:=iv)).of λj hj=>?_
 rw[mE]
 refine Cg.trans ?_ (jP j U U _ _ (λ_ _=>Cg.refl _) λi hi=>(h1 i aA).symm)
 exact Cg.of_eq (tZ j U).symm
theorem bJ5 {m m1:Nat} (hm:m<=m1+m1) (h1m:m1<=m) {X X' D A B Ga Gb Ea Eb iv:Nat->Int} (hB:pJ m (dG B iv) aGP) (a:Zm m1 Ga) (b:Zm m1 Gb) (ea:Zm m Ea) (eb:Zm m Eb)
  (h1:pJ m (dG X' λi=>B i+Gb i+Eb i) λi=>A i+Ga i+Ea i) (h2:pJ m (dG X B) A) (h3:pJ m (dG D B) λj=>Ga j-dG X Gb j):Zm m (λj=>X' j-X j-D j)/\Zm m1 D:=by
 have hB1:pJ m1 (dG B iv) aGP:=λj hj=>hB j aA
 have d1:Zm m1 D:=Zm.iv hB1 ((a.add (b.right (f:=X)).neg).of λj hj=>h3 j aA)
 have hU:pJ m (dG (λj=>X' j-X j) B) λj=>Ga j+Ea j+(-(dG X' Gb j)+-(dG X' Eb j)):=λj hj=>by
  have q1:=h1 j hj
  have q2:=h2 j hj
  rw[mD j (λi=>B i+Gb i) Eb,mD j B Gb]at q1
  rw[aI2]
  obtain⟨x,hx⟩:=q1
  obtain⟨y,hy⟩:=q2
  exact⟨x-y,by simp only at hx hy ⊢;omega⟩
 have u1:Zm m1 λj=>X' j-X j:=Zm.iv hB1 (((a.add (ea.le h1m)).add ((b.right (f:=X')).neg.add ((eb.le h1m).right (f:=X')).neg)).of λj hj=>hU j aA)
 refine⟨Zm.iv hB ?_,d1⟩
 refine((ea.add (eb.right (f:=X')).neg).add ((Zm.prod u1 b).le hm).neg).of λj hj=>?_
 have q1:=hU j hj
 have q2:=h3 j hj
 rw[aI2 j (λj=>X' j-X j) D,aI2 j X' X Gb]
 obtain⟨x,hx⟩:=q1
 obtain⟨y,hy⟩:=q2
 exact⟨x-y,by simp only at hx hy ⊢;omega⟩
theorem div_eq {sz:Nat} {a b:List Int} (ha:aW sz a) (hb:aW sz b) (h0:¬b.getD 0 0=0):pJ sz (dG (sF (gG a b)) (sF b)) (sF a):=λj hj=>by
 have h1:=aQC hb h0
 refine(jP j _ (dG (sF a) (sF (ivL b sz))) _ _ (λi hi=>aGM ha (i+1) i aA aA) λi _=>Cg.refl _).trans ?_
 rw[mE,lA (sF (ivL b sz))]
 exact(jP j _ _ _ _ (λ_ _=>Cg.refl _) λi hi=>h1 i aA).trans (Cg.of_eq (tZ j _))
theorem aN8 {sz inp m m1:Nat} (hsz:1<=sz) (hms:m<=sz) (hm2:m<=m1+m1) (h1m:m1<=m) {code:List bG} (hins:∀ i c,code[i]?=some c->bN inp i c) {X X' D:List (List Int)} (hX:c7 sz inp X) (hX':c7 sz inp X') (hD:c7 sz inp D)
  (hs:∀ i,i<inp->∀ j,j<m->Cg (sF (X'.getD i []) j) (sF (X.getD i []) j+sF (D.getD i []) j)) (hz:∀ i,i<inp->Zm m1 (sF (D.getD i [])))
  (nz:∀ (k:Nat) (c:bG),code[k]?=some c->c.gB=6->¬(fM sz X code c.fB.toNat).getD 0 0=0) (nz':∀ (k:Nat) (c:bG),code[k]?=some c->c.gB=6->¬(fM sz X' code c.fB.toNat).getD 0 0=0) :
  ∀ n k,k<n->k<code.length->Zm m (λj=>sF (fM sz X' code k) j-sF (fM sz X code k) j-sF (dgS sz D (fM sz X code) code k) j)/\Zm m1 (sF (dgS sz D (fM sz X code) code k))
 |0,k,h,_=>by omega
 |n+1,k,hn,hk=>by
  have ih:=λi hi=>aN8 hsz hms hm2 h1m hins hX hX' hD hs hz nz nz' n i hi
  have e:code[k]?=some code[k]:=fC hk
  have hc:=hins k _ e
  have z1:=nz k _ e
  have z2:=nz' k _ e
  have sr:=λi (hi:i<code.length)=>l5 hins hX.2 (by rw[hX.1]) i hi
  have sr':=λi (hi:i<code.length)=>l5 hins hX'.2 (by rw[hX'.1]) i hi
  have sd:=λi (hi:i<code.length)=>aP3 hsz hins hD.2 (by rw[hD.1]) sr (i+1) i (sR i) hi
  have hdk:=aGO (sz:=sz) (dirs:=D) (rg:=fM sz X code) e hc
  by_cases h1:code[k].gB=1
  ·have hi:0<=code[k].bA/\code[k].bA<inp:=by unfold bN at hc;omega
   rw[hdk,aGN,if_pos h1,zC e h1,zC e h1]
   refine⟨λj hj=>?_,hz _ aA⟩
   obtain⟨q,hq⟩:=hs code[k].bA.toNat aA j hj
   exact⟨q,by simp only;omega⟩
  by_cases h2:code[k].gB=2
  ·rw[hdk,aGN,if_neg h1,if_pos h2,tX e h2,tX e h2]
   have h0:∀ j,j<m->sF (bX 0 sz) j=0:=λj hj=>by rw[iI _ _ aA];split <;> rfl
   exact⟨λj hj=>Cg.of_eq (by simp only[h0 j hj];omega),λj hj=>Cg.of_eq (h0 j aA)⟩
  have hr:=zD (sz:=sz) (args:=X) e hc h1 h2
  have hr':=zD (sz:=sz) (args:=X') e hc h1 h2
  rw[aGN,if_neg h1,if_neg h2]at hdk
  generalize code[k]=c at *
  have ia:0<=c.fA/\c.fA<k:=by unfold bN at hc;omega
  have ra:=sr c.fA.toNat aA
  have ra':=sr' c.fA.toNat aA
  have da:=sd c.fA.toNat aA
  obtain⟨pa,qa⟩:=ih c.fA.toNat aA aA
  by_cases h7:c.gB=7
  ·rw[opW,if_neg aA,if_neg aA,if_neg aA,if_pos h7]at hr hr'
   rw[if_neg aA,if_neg aA,if_neg aA,if_pos h7]at hdk
   rw[hr,hr',hdk]
   refine⟨pa.neg.of λj hj=>?_,qa.neg.of λj hj=>rO da aA⟩
   obtain⟨x,hx⟩:=rO ra' (k:=j) aA
   obtain⟨y,hy⟩:=rO ra (k:=j) aA
   obtain⟨w,hw⟩:=rO da (k:=j) aA
   exact⟨x-y-w,by omega⟩
  have ib:0<=c.fB/\c.fB<k:=by unfold bN at hc;omega
  have rb:=sr c.fB.toNat aA
  have rb':=sr' c.fB.toNat aA
  have db:=sd c.fB.toNat aA
  obtain⟨pb,qb⟩:=ih c.fB.toNat aA aA
  have rk:=sr k hk
  have rk':=sr' k hk
  have dk:=sd k hk
  by_cases h3:c.gB=3
  ·rw[opW,if_pos h3]at hr hr'
   rw[if_pos h3]at hdk
   rw[hr,hr',hdk]
   refine⟨(pa.add pb).of λj hj=>?_,(qa.add qb).of λj hj=>pN da db aA⟩
   obtain⟨x,hx⟩:=pN ra' rb' (k:=j) aA
   obtain⟨y,hy⟩:=pN ra rb (k:=j) aA
   obtain⟨w,hw⟩:=pN da db (k:=j) aA
   exact⟨x-y-w,by omega⟩
  by_cases h4:c.gB=4
  ·rw[opW,if_neg h3,if_pos h4]at hr hr'
   rw[if_neg h3,if_pos h4]at hdk
   rw[hr,hr',hdk]
   refine⟨(pa.add pb.neg).of λj hj=>?_,(qa.add qb.neg).of λj hj=>rP da db aA⟩
   obtain⟨x,hx⟩:=rP ra' rb' (k:=j) aA
   obtain⟨y,hy⟩:=rP ra rb (k:=j) aA
   obtain⟨w,hw⟩:=rP da db (k:=j) aA
   exact⟨x-y-w,by omega⟩

  have hfa:∀ j,sF (fM sz X' code c.fA.toNat) j=sF (fM sz X code c.fA.toNat) j+sF (dgS sz D (fM sz X code) code c.fA.toNat) j+(sF (fM sz X' code c.fA.toNat) j-sF (fM sz X code c.fA.toNat) j-sF (dgS sz D (fM sz X code) code c.fA.toNat) j):=λj=>by omega
  have hfb:∀ j,sF (fM sz X' code c.fB.toNat) j=sF (fM sz X code c.fB.toNat) j+sF (dgS sz D (fM sz X code) code c.fB.toNat) j+(sF (fM sz X' code c.fB.toNat) j-sF (fM sz X code c.fB.toNat) j-sF (dgS sz D (fM sz X code) code c.fB.toNat) j):=λj=>by omega
  by_cases h5:c.gB=5
  ·rw[opW,if_neg h3,if_neg h4,if_pos h5]at hr hr'
   rw[if_neg h3,if_neg h4,if_pos h5]at hdk
   rw[hr,hr',hdk]
   refine⟨(bJ4 hm2 qa qb pa pb (Fa:=sF (fM sz X code c.fA.toNat)) (Fb:=sF (fM sz X code c.fB.toNat))).of λj hj=>?_,((qa.left (g:=sF (fM sz X code c.fB.toNat))).add (qb.right (f:=sF (fM sz X code c.fA.toNat)))).of λj hj=>(pN (cF _ da) (cF _ ra) aA).trans ((mV _ da aA).add (mV _ ra aA))⟩
   have g1:=mV (fM sz X' code c.fB.toNat) ra' (k:=j) aA
   have g2:=mV (fM sz X code c.fB.toNat) ra (k:=j) aA
   have g3:=(pN (cF (fM sz X code c.fB.toNat) da) (cF (dgS sz D (fM sz X code) code c.fB.toNat) ra) (k:=j) aA).trans ((mV _ da aA).add (mV _ ra aA))
   rw[funext hfa,funext hfb]at g1
   obtain⟨x,hx⟩:=g1
   obtain⟨y,hy⟩:=g2
   obtain⟨w,hw⟩:=g3
   exact⟨x-y-w,by omega⟩
  ·have h6:c.gB=6:=by unfold bN at hc;omega
   rw[opW,if_neg h3,if_neg h4,if_neg h5,if_neg h7]at hr hr'
   rw[if_neg h3,if_neg h4,if_neg h5,if_neg h7]at hdk
   have hm:=cF (dgS sz D (fM sz X code) code c.fB.toNat) rk
   have w1:=div_eq ra' rb' (z2 h6)
   have w2:=div_eq ra rb (z1 h6)
   have w3:=div_eq (jO da hm) rb (z1 h6)
   rw[←hr']at w1
   rw[←hr]at w2
   rw[←hdk]at w3
   rw[funext hfa,funext hfb]at w1
   exact bJ5 hm2 h1m (λj hj=>aQC rb (z1 h6) j aA) qa qb pa pb (λj hj=>w1 j aA) (λj hj=>w2 j aA) (λj hj=>(w3 j aA).trans ((rP da hm aA).trans ((Cg.refl _).add (sH (mV _ rk aA)))))
theorem bJ7 {r sz:Nat} (h:r<=sz):aT8 o8 r (aW sz) sF where
 okd:=(wB sz).okd
 okt:=(wB sz).okt
 dv d hd hz:=by
  obtain⟨iv,a,b⟩:=(wB sz).dv d hd hz
  exact⟨iv,λx hx j hj=>a x hx j aA,λj hj=>b j aA⟩
 tk x f y hx hf hy:=λj hj=>(wB sz).tk x f y hx hf hy j aA
def wY (code:List bG) (L:List Int) (sz n:Nat) (X b:List (List Int)):Nat->Nat->List Int:=vI n (λi k=>((yA code L (l4 sz X code code.length) sz n).getD i []).getD k []) λi=>b.getD i []
theorem aFF {code:List bG} {L:List Int} {sz n:Nat} {X b:List (List Int)} (hL:L.length=n) {i k:Nat} (hi:i<n) (hk:k<n):wY code L sz n X b i k=(aH1 code L (l4 sz X code code.length) sz n i).getD k []:=by
 rw[wY,vI,if_pos hk,yA,e8 (l:=List.map _ _),sO,al8 aA];rfl
theorem aLV {code:List bG} {L:List Int} {sz n:Nat} {X b:List (List Int)} (i:Nat):wY code L sz n X b i n=b.getD i []:=by rw[wY,vI,if_neg (bV _)]
theorem aI3 {code:List bG} {L:List Int} {sz n:Nat} (hsz:1<=sz/\sz<=1048576) (hins:∀ i c,code[i]?=some c->bN (n:Nat) i c) (ho:∀ r∈L,0<=r/\r<code.length) (hL:L.length=n) {X b:List (List Int)} (hX:c7 sz n X) (hb:c7 sz n b):okM (aW sz) n (wY code L sz n X b):=λi hi k hk=>by
 by_cases e:k<n
 ·rw[aFF hL hi e]
  exact((yB (i:=i) hsz hins (pU hins hX) ho).get e).2
 ·obtain rfl:k=n:=by omega
  rw[aLV]
  exact(hb.get hi).2
theorem aWW {n sz m m1:Nat} (hsz:1<=sz/\sz<=1048576) (h1:1<=m1) (hms:m<=sz) (hm2:m<=m1+m1) (h1m:m1<=m) {code:List bG} (hins:∀ i c,code[i]?=some c->bN (n:Nat) i c) {L:List Int} (ho:∀ r∈L,0<=r/\r<code.length) (hL:L.length=n) {args:List Int} (na:eI args) (hal:args.length=n)
  {X:List (List Int)} (hX:St args sz X) {b:List (List Int)} (hb:c7 sz n b) (qP:∀ o,o<n->Zm m1 (sF (b.getD o []))) {A:Nat->Nat->List Int} (hg:uO o8 n (wY code L sz n X b) n=some A)
  (nz:∀ X,St args sz X->∀ (k:Nat) (c:bG),code[k]?=some c->c.gB=6->¬(fM sz X code c.fB.toNat).getD 0 0=0) :
  St args sz (gU n λi=>kD (X.getD i []) (A i n))/\∀ o,o<n->Zm m λj=>sF (fM sz (gU n λi=>kD (X.getD i []) (A i n)) code (L.getD o 0).toNat) j-sF (fM sz X code (L.getD o 0).toNat) j+sF (b.getD o []) j:=by
 have hX1:c7 sz n X:=hal▸hX.1
 have hok:=aI3 hsz hins ho hL hX1 hb
 have hA:=(aFC (wB sz) hok n (bY _) A hg).1
 have hAn:=λk (hk:k<n)=>hA k hk n (bY _)
 have hsol:=(a0H (wB sz) hok hg λk=>sF (A k n)).2 λ_ _=>pJ.refl _
 have hz:∀ k,k<n->Zm m1 (sF (A k n)):=λk hk j hj=>by
  have:=(a0H (bJ7 (r:=m1) aA) hok hg λ_ _=>0).1 (λi hi j hj=>by
   rw[aLV]
   refine Cg.trans (Cg.of_eq ?_) (qP i hi j hj).symm
   show eW (λk=>dG _ (λ_=>0) j) n=0
   rw[oK (G:=λ_=>0) n λk _=>by rw[kJ,rQ]]
   exact aWV n) k hk j hj
  exact this.symm
 have hD:c7 sz n (gU n λi=>eJ (A i n) 1000002):=⟨cO _ _,λs hs=>by
  obtain⟨i,hi,rfl⟩:=lZ.1 hs
  exact dM _ (hAn i (aDZ.1 hi))⟩
 have hX':c7 sz n (gU n λi=>kD (X.getD i []) (A i n)):=⟨cO _ _,λs hs=>by
  obtain⟨i,hi,rfl⟩:=lZ.1 hs
  have hi:=aDZ.1 hi
  exact jO (hX1.get hi).2 (hAn i hi)⟩
 have gD:∀ i,i<n->(gU n λi=>eJ (A i n) 1000002).getD i []=eJ (A i n) 1000002:=λi hi=>by rw[e8,fE _ hi];rfl
 have gX':∀ i,i<n->(gU n λi=>kD (X.getD i []) (A i n)).getD i []=kD (X.getD i []) (A i n):=λi hi=>by rw[e8,fE _ hi];rfl
 have hst:St args sz (gU n λi=>kD (X.getD i []) (A i n)):=⟨hal▸hX',λi hi=>by
  have hi':i<n:=by omega
  rw[gX' i hi',←hX.2 i hi]
  have q1:=rP (hX1.get hi').2 (hAn i hi') (k:=0) hsz.1
  have q2:=hz i hi' 0 h1
  refine Cg.num (q1.trans (((Cg.refl _).add (sH q2)).trans (Cg.of_eq (aGX _)))) ((jO (hX1.get hi').2 (hAn i hi')).2.get 0) ((hX1.get hi').2.2.get 0)⟩
 refine⟨hst,λo hoo=>?_⟩
 have hr0:=ho (L.getD o 0) (a7V aA)
 have hsec:=(aN8 hsz.1 hms hm2 h1m hins hX1 hX' hD (λi hi j hj=>by
  rw[gD i hi,gX' i hi]
  exact(rP (hX1.get hi).2 (hAn i hi) aA).trans ((Cg.refl _).add (rO (hAn i hi) aA).symm)) (λi hi=>by
  rw[gD i hi]
  exact(hz i hi).neg.of λj hj=>rO (hAn i hi) aA) (nz X hX) (nz _ hst) _ (L.getD o 0).toNat (sR _) aA).1
 have hadj:=aP7 hsz hins ho (pU hins hX1) hD (o:=o) aA
 have hslp:=yB (i:=o) hsz hins (pU hins hX1) ho
 have hdg:∀ j,j<sz->Cg (sF (dgS sz (gU n λi=>eJ (A i n) 1000002) (fM sz X code) code (L.getD o 0).toNat) j) (-(sF (b.getD o []) j)):=λj hj=>by
  have q1:=aFB (Z:=gU n λi=>eJ (A i n) 1000002) hj hslp n (bY _)
  rw[show aP6 sz (aH1 code L (l4 sz X code code.length) sz n o) (gU n λi=>eJ (A i n) 1000002) n=dgS sz (gU n λi=>eJ (A i n) 1000002) (fM sz X code) code (L.getD o 0).toNat from hadj]at q1
  have q2:=hsol o hoo j hj
  rw[aLV]at q2
  refine q1.trans (Cg.trans ?_ (sH q2))
  show Cg _ (-(eW (λk=>dG (sF (wY code L sz n X b o k)) (sF (A k n)) j) n))
  rw[←aUM]
  refine zG n λk hk=>?_
  rw[aFF hL hoo hk]
  show Cg (dG (sF ((aH1 code L (l4 sz X code code.length) sz n o).getD k [])) (sF ((gU n λi=>eJ (A i n) 1000002).getD k [])) j) _
  rw[gD k hk,←aBK j (sF (A k n))]
  exact jP j _ _ _ _ (λ_ _=>Cg.refl _) λi hi=>rO (hAn k hk) aA
 refine hsec.of λj hj=>?_
 obtain⟨x,hx⟩:=hdg j aA
 exact⟨x,by omega⟩
theorem aN9 {s1 s2:Nat} (z1:1<=s1/\s1<=1048576) (z2:1<=s2/\s2<=1048576) {code:List bG} {inp:Nat} (hins:∀ i c,code[i]?=some c->bN inp i c) {L:List Int} (ho:∀ r∈L,0<=r/\r<code.length) {X1 X2:List (List Int)} (h1:c7 s1 code.length (l4 s1 X1 code code.length)) (h2:c7 s2 code.length (l4 s2 X2 code code.length))
  (hv:∀ k,k<code.length->(fM s1 X1 code k).getD 0 0=(fM s2 X2 code k).getD 0 0) {o j:Nat} (hol:o<L.length) (hj:j<inp) :
  ((aH1 code L (l4 s1 X1 code code.length) s1 inp o).getD j []).getD 0 0=((aH1 code L (l4 s2 X2 code code.length) s2 inp o).getD j []).getD 0 0:=by
 have a1:aP6 s1 (aH1 code L (l4 s1 X1 code code.length) s1 inp o) (uD s1 inp j) inp=_:=aP7 z1 hins ho h1 (a8D inp j) hol
 have a2:aP6 s2 (aH1 code L (l4 s2 X2 code code.length) s2 inp o) (uD s2 inp j) inp=_:=aP7 z2 hins ho h2 (a8D inp j) hol
 rw[a8E (yB (i:=o) z1 hins h1 ho) hj]at a1
 rw[a8E (yB (i:=o) z2 hins h2 ho) hj]at a2
 rw[a1,a2]
 have hr0:=ho (L.getD o 0) a4O
 have hc:∀ x:Int,pR 1 (bX x s1) (bX x s2):=λx=>.inr ⟨by rw[gE];exact z1.1,by rw[gE];exact z2.1,λi hi=>by
  obtain rfl:i=0:=aA
  rw[iI _ _ z1.1,iI _ _ z2.1]⟩
 have hp:=a0K (R:=pR 1) (sz:=s1) (sz':=s2) (bP2 b6 z1.1 z2.1) hins (dirs:=uD s1 inp j) (dirs':=uD s2 inp j) (a8F (λi=>by split <;> exact hc _) _) (rg:=λi=>(l4 s1 X1 code code.length).getD i []) (rg':=λi=>(l4 s2 X2 code code.length).getD i []) (λk hk=>.inr ⟨by rw[(h1.get hk).2.1];exact z1.1,by rw[(h2.get hk).2.1];exact z2.1,λi hi=>by obtain rfl:i=0:=aA;exact hv k hk⟩) _ (L.getD o 0).toNat (sR _) aA
 exact hp.get b6
def gC (F:dQ) (L:List Int):List Int:=L.map λr=>F.eT.getD r.toNat 0
def qN (eT dir:List Int) (sz n:Nat):List (List Int):=gU n λi=>iA (bX (eT.getD i 0) sz) (eJ (tS sz) (dir.getD i 0))
def aLW (code:List bG) (L:List Int) (sz n:Nat) (X line:List (List Int)):List (List Int):=gU n λi=>kD (fM sz X code (L.getD i 0).toNat) (line.getD i [])
def r6 (code:List bG) (L:List Int) (sz n:Nat) (line:List (List Int)) (args:List Int):Nat->List (List Int)
 |0=>sI args sz
 |i+1=>(o9 n (wY code L sz n (r6 code L sz n line args i) (aLW code L sz n (r6 code L sz n line args i) line)) (r6 code L sz n line args i)).1
def yC (o:Nat):Nat:=if o<1 then 0 else if o<2 then 1 else if o<4 then 2 else if o<8 then 3 else 4
theorem a0X (o:Nat):yC o<=4:=by unfold yC;split <;> (try split) <;> (try split) <;> (try split) <;> omega
theorem aUN {o i:Nat} (ho:o<=12) (hi:i<=4):(2 ^ i<=o)↔i<yC o:=by
 match i,hi with
 |0,_=>unfold yC;split <;> (try split) <;> (try split) <;> (try split) <;> omega
 |1,_=>unfold yC;split <;> (try split) <;> (try split) <;> (try split) <;> omega
 |2,_=>unfold yC;split <;> (try split) <;> (try split) <;> (try split) <;> omega
 |3,_=>unfold yC;split <;> (try split) <;> (try split) <;> (try split) <;> omega
 |4,_=>unfold yC;split <;> (try split) <;> (try split) <;> (try split) <;> omega
structure zL (p:aF) (f:Int) (args dir L:List Int) (F:dQ) (u sz:Nat):Prop where
 ok:p.ok
 fn:0<=f/\f<p.aK.length
 hn:1<=args.length/\args.length<=6
 hs:1<=sz/\sz<=13
 na:eI args
 nd:eI dir
 ld:dir.length=args.length
 par:∀ F,p.aK[f.toNat]?=some F->(args.length:Int)=F.aR
 hre:zB p f args=.ok ((L,F),u)
 T:aUD p f args L F u
 hL:L.length=args.length
 det:¬uO o8 args.length (wY F.code L 1 args.length (args.map λn=>[n]) ((L.map λr=>fM 1 (args.map λn=>[n]) F.code r.toNat))) args.length=none
theorem aWX {args:List Int} (na:eI args) {sz:Nat} (hsz:1<=sz):St args sz (sI args sz):=by
 refine⟨⟨by simp[sI],λs hs=>by obtain⟨x,hx,rfl⟩:=lZ.1 hs;exact cS (na x hx)⟩,λi hi=>?_⟩
 have h1:(sI args sz).getD i []=bX args[i] sz:=by rw[sI,e8,sO,fC hi];rfl
 have h2:args.getD i 0=args[i]:=by rw[e8,fC hi];rfl
 rw[h1,h2]
 have:=iI (sz:=sz) args[i] 0 hsz
 rw[if_pos rfl]at this
 exact this
theorem aGR {args:List Int} (na:eI args):St args 1 (args.map λn=>[n]):=aWX na (sz:=1) b6
theorem aGS {eT dir:List Int} {sz n:Nat} (nv:eI eT) (nd:eI dir):c7 sz n (qN eT dir sz n):=⟨cO _ _,λs hs=>by
 obtain⟨i,hi,rfl⟩:=lZ.1 hs
 exact lL (cS (nv.get i)) (dM _ (zK sz))⟩
section
variable {p:aF} {f:Int} {args dir L:List Int} {F:dQ} {u sz:Nat} (G:zL p f args dir L F u sz)
include G
theorem zL.eT:eI (gC F L):=λx hx=>by
 obtain⟨q1,q2,q3,q4⟩:=(aE5 G.ok f G.fn args G.na G.par).1 _ _ G.hre
 simp only at q1
 obtain⟨r,hr,rfl⟩:=lZ.1 hx
 exact q1.a6R.get _
theorem zL.aQQ {o:Nat} (ho:o<args.length):(gC F L).getD o 0=F.eT.getD (L.getD o 0).toNat 0:=by
 have:=G.hL
 rw[gC,e8,sO,fC aA,e8 (l:=L),fC aA];rfl
theorem zL.sz':1<=sz/\sz<=1048576:=⟨G.hs.1,by have:=G.hs.2;omega⟩
theorem zL.out {o:Nat} (ho:o<args.length):0<=L.getD o 0/\L.getD o 0<F.code.length:=G.T.outs _ (a7V (by rw[G.hL];exact ho))
theorem zL.head {X:List (List Int)} (hX:St args sz X) {k:Nat} (hk:k<F.code.length):(fM sz X F.code k).getD 0 0=F.eT.getD k 0:=aHM G.ok G.fn G.na G.par G.hre G.hs.1 hX hk
theorem zL.reg {X:List (List Int)} (hX:St args sz X) {k:Nat} (hk:k<F.code.length):aW sz (fM sz X F.code k):=l5 G.T.ins hX.1.2 (by rw[hX.1.1]) k hk
theorem zL.bQJ {X line:List (List Int)} (hX:St args sz X) (hl:c7 sz args.length line):c7 sz args.length (aLW F.code L sz args.length X line):=⟨cO _ _,λs hs=>by
 obtain⟨i,hi,rfl⟩:=lZ.1 hs
 have hi:=aDZ.1 hi
 have:=G.out hi
 exact jO (G.reg hX aA) (hl.get hi).2⟩
theorem zL.bW3 {X b:List (List Int)} (hX:St args sz X) (hb:c7 sz args.length b):∃ A,uO o8 args.length (wY F.code L sz args.length X b) args.length=some A:=by
 have hok:=aI3 G.sz' G.T.ins G.T.outs G.hL hX.1 hb
 have h1:=aGR G.na
 have qP:c7 1 args.length (L.map λr=>fM 1 (args.map λn=>[n]) F.code r.toNat):=⟨by rw[gX,G.hL],λs hs=>by
  obtain⟨r,hr,rfl⟩:=lZ.1 hs
  have:=G.T.outs r hr
  exact l5 G.T.ins h1.1.2 (by rw[h1.1.1]) _ aA⟩
 have bW4:=aI3 (sz:=1) b6 G.T.ins G.T.outs G.hL h1.1 qP
 have g1:=aLO (w:=args.length) (N:=λi k=>(wY F.code L 1 args.length (args.map λn=>[n]) ((L.map λr=>fM 1 (args.map λn=>[n]) F.code r.toNat)) i k).getD 0 0) b6 (bY _) (λi hi k hk=>bW4 i hi k aA) λ_ _ _ _=>rfl
 have g2:=aLO (w:=args.length) (N:=λi k=>(wY F.code L 1 args.length (args.map λn=>[n]) ((L.map λr=>fM 1 (args.map λn=>[n]) F.code r.toNat)) i k).getD 0 0) G.hs.1 (bY _) (λi hi k hk=>hok i hi k aA) λi hi k hk=>by
  rw[aFF G.hL hi hk,aFF G.hL hi hk]
  exact aN9 G.sz' b6 G.T.ins G.T.outs (pU G.T.ins hX.1) (pU G.T.ins h1.1) (λq hq=>by rw[G.head hX hq,aHM G.ok G.fn G.na G.par G.hre b6 h1 hq]) (by rw[G.hL];exact hi) hk
 cases hq:uO o8 args.length (wY F.code L sz args.length X b) args.length with
 |some A=>exact⟨A,rfl⟩
 |none=>exact absurd (g1.2 (g2.1 hq)) G.det
theorem zL.it:∀ i,St args sz (r6 F.code L sz args.length (qN (gC F L) dir sz args.length) args i)/\∀ o,o<args.length->Zm (min (2 ^ i) sz) λj=>sF (fM sz (r6 F.code L sz args.length (qN (gC F L) dir sz args.length) args i) F.code (L.getD o 0).toNat) j-sF ((qN (gC F L) dir sz args.length).getD o []) j
 |0=>by
  have hst:=aWX G.na G.hs.1
  refine⟨hst,λo ho j hj=>?_⟩
  obtain rfl:j=0:=by simp at hj;omega
  have hr:=G.out ho
  have h1:=G.head hst (k:=(L.getD o 0).toNat) aA
  rw[qN,e8 (l:=gU _ _),fE _ ho,aDY,G.aQQ ho]
  have h2:=(pN (cS (G.eT.get o)) (dM (dir.getD o 0) (zK sz)) (k:=0) G.hs.1).trans ((Cg.refl _).add (aP1 (zK sz) (dir.getD o 0) G.hs.1))
  rw[iI _ _ G.hs.1,if_pos rfl,G.aQQ ho,show sF (tS sz) 0=0 from bC3 G.hs.1,tK,aGX]at h2
  show Cg (sF (fM sz (sI args sz) F.code (L.getD o 0).toNat) 0-_) 0
  rw[show sF (fM sz (sI args sz) F.code (L.getD o 0).toNat) 0=F.eT.getD (L.getD o 0).toNat 0 from h1]
  obtain⟨q,hq⟩:=h2
  exact⟨-q,by omega⟩
 |i+1=>by
  obtain⟨hst,hz⟩:=zL.it i
  have hline:=aGS (sz:=sz) (n:=args.length) G.eT G.nd
  generalize hX:r6 F.code L sz args.length (qN (gC F L) dir sz args.length) args i=X at *
  generalize hLn:qN (gC F L) dir sz args.length=line at *
  have hb:=G.bQJ hst hline
  obtain⟨A,hA⟩:=G.bW3 hst hb
  have gb:∀ o,o<args.length->(aLW F.code L sz args.length X line).getD o []=kD (fM sz X F.code (L.getD o 0).toNat) (line.getD o []):=λo ho=>by rw[aLW,e8,fE _ ho];rfl
  have hp:1<=2 ^ i:=Nat.one_le_two_pow
  have h2:2 ^ (i+1)=2 ^ i+2 ^ i:=by rw[aJK];omega
  have hgp:∀ o,o<args.length->∀ j,j<sz->Cg (sF ((aLW F.code L sz args.length X line).getD o []) j) (sF (fM sz X F.code (L.getD o 0).toNat) j-sF (line.getD o []) j):=λo ho j hj=>by
   have hr:=G.out ho
   rw[gb o ho]
   exact(rP (G.reg hst aA) (hline.get ho).2 hj).trans (Cg.of_eq aA)
  have hs:=G.hs
  obtain⟨n1,n2⟩:=aWW (m:=min (2 ^ (i+1)) sz) (m1:=min (2 ^ i) sz) G.sz' aA aA aA aA G.T.ins G.T.outs G.hL G.na rfl hst hb (λo ho=>(hz o ho).of λj hj=>hgp o ho j aA) hA λX hX=>G.T.nz sz X G.hs.1 hX
  have he:r6 F.code L sz args.length line args (i+1)=gU args.length λi=>kD (X.getD i []) (A i args.length):=by rw[r6,hX,o9,hA]
  rw[he]
  refine⟨n1,λo ho=>(n2 o ho).of λj hj=>?_⟩
  obtain⟨q,hq⟩:=hgp o ho j aA
  exact⟨-q,by omega⟩
end
def bQK (p:aF) (ns ng np:Nat) (c:List Int) (pl:Bool) (vars:Int) (dp:Nat) (B:aB) (R:Nat->Nat->Int->Prop):aE->aB->Prop:=λr h' =>
 ∃ (x:aC) (e:List OV) (g':aB) (a':Nat) (sd' L':Int),x.o e/\r=.agg (e.map OV.val)/\fI B (OV.b5 e) g'/\(g' ns=none/\g' ng=none)/\h'=aT (aT g' ns (jW c a' sd')) ng (lE ns np L' pl) /\
  x.ok p p.aK.length vars/\x.d<=dp+1/\R x.s a' L'
def bC8 (p:aF) (ns ng np:Nat) (c:List Int) (pl:Bool) (vars:Int) (dp a:Nat) (L:Int) (B:aB):aE->aB->Prop :=
 bQK p ns ng np c pl vars dp B λs a' L'=>(L'<=L-1/\L-(s+1)<=L'/\s+3*mL L'<=3*mL L)/\(a<=a'/\a'<=a+14*(s+1))
def a8H (p:aF) (ns ng np:Nat) (c:List Int) (pl:Bool) (vars:Int) (dp a:Nat) (L:Int) (B:aB):aE->aB->Prop :=
 bQK p ns ng np c pl vars dp B λs a' L'=>(L'<=L/\L-s<=L'/\s+3*mL L'<=3*mL L+3)/\(a<=a'/\a'<=a+10+14*s)
def a8I (dp a:Nat) (vars L:Int):Prop:=(0<=vars/\vars+dp<=1000)/\a+42*mL L+100*dp<=800000000/\(-2000000+10000*(dp:Int)<=L/\L<=1000)
def a8J (P:Program) (f:FuncId) (p:aF) (ns ng np:Nat) (c:List Int) (pl:Bool) (dp:Nat):Prop:=∀ (vars:Int) (B:aB) (a:Nat) (sd L:Int),B ns=none->B ng=none->aBJ p np B->a8I dp a vars L ->
 iD P f [.op ng 4 0 0,I vars,I p.aK.length,I dp] (aT (aT B ns (jW c a sd)) ng (lE ns np L pl)) (bC8 p ns ng np c pl vars dp a L B)
def bGI (P:Program) (f:FuncId) (p:aF) (ns ng np:Nat) (c:List Int) (pl:Bool) (dp:Nat):Prop:=∀ (vars:Int) (B:aB) (a:Nat) (sd L:Int),B ns=none->B ng=none->aBJ p np B->(0<=vars/\vars+dp<=1000)->a+42*mL L+42+100*dp<=800000050->(-2000000+10000*(dp:Int)<=L/\L<=1000/\1<=L) ->
 iD P f [.op ng 4 0 0,I vars,I p.aK.length,I dp] (aT (aT B ns (jW c a sd)) ng (lE ns np L pl)) (a8H p ns ng np c pl vars dp a L B)
def zM (p:aF):Prop:=∀ f∈p.aK,(1<=f.aR/\f.aR<=3)/\(1<=f.aU.length/\f.aU.length<=3)
theorem a0Y {p:aF} {k n vars:Int} (h:(k=1/\iE n)∨(k=2/\0<=n/\n<vars)):(aC.mk k n 0 0 []).ok p p.aK.length vars:=by
 refine(aC.dK _ _ _ _).2 ⟨?_,λj hj=>by simp[aC.aN]at hj⟩
 rw[dT a4U]
 simp only[aC.aS,aC.bA,aC.cV,aC.cH,aC.aN,rU]
 rcases h with⟨rfl,h⟩|⟨rfl,h⟩
 ·exact⟨rfl,trivial,trivial,λ_=>h,λq=>by omega,λq=>absurd rfl q⟩
 ·exact⟨rfl,trivial,trivial,λq=>by omega,λ_=>by omega,λ_ q=>absurd rfl q⟩
theorem a8K (k n:Int):(aC.mk k n 0 0 []).d=1:=by rw[aC.a5Z];rfl
theorem aQR (k n:Int):(aC.mk k n 0 0 []).s=0:=by rw[a22];rfl
theorem aLX {p:aF} {ns ng np:Nat} {c:List Int} {pl:Bool} {vars:Int} {dp a:Nat} {L:Int} {B H:aB} {k n:Int} {a':Nat} {sd':Int} (h:(k=1/\iE n)∨(k=2/\0<=n/\n<vars)) (hB1:B ns=none) (hB2:B ng=none) (ha:a<=a'/\a'<=a+14) (hle:(aT (aT B ns (jW c a' sd')) ng (lE ns np (L-1) pl)).le H) :
  ∃ r1 g2,Shift (.agg [I k,I n,I 0,I 0,.bS]) H r1 g2/\bC8 p ns ng np c pl vars dp a L B r1 g2:=by
 refine⟨_,_,Shift.of (aTU k n) hle,_,_,B,a',sd',L-1,a66 k n,rfl,by rw[aNS];exact fI.nil B,⟨hB1,hB2⟩,rfl,a0Y h,by rw[a8K];omega,?_,by rw[aQR];omega⟩
 rw[aQR]
 unfold mL
 omega
theorem a8L {p:aF} {ns ng np:Nat} {c:List Int} {pl:Bool} {vars:Int} {dp a:Nat} {L:Int} {B g' H:aB} {x:aC} {e:List OV} {a':Nat} {sd' L':Int} (hx:x.o e) (w:fI B (OV.b5 e) g') (z:g' ns=none/\g' ng=none) (hok:x.ok p p.aK.length vars) (hd:x.d<=dp+1)
  (hL:L'<=L-1/\(L-1)-x.s<=L'/\x.s+3*mL L'<=3*mL (L-1)+3) (ha:a<=a'/\a'<=a+14*(x.s+1)) (h1:¬L-1<1) (hle:(aT (aT g' ns (jW c a' sd')) ng (lE ns np L' pl)).le H) :
  ∃ r1 g2,Shift (.agg (e.map OV.val)) H r1 g2/\bC8 p ns ng np c pl vars dp a L B r1 g2 :=
 ⟨_,_,Shift.of (Sub.refl _) hle,x,e,g',a',sd',L',hx,rfl,w,z,rfl,hok,hd,⟨by omega,by omega,by unfold mL at hL ⊢;omega⟩,ha⟩
abbrev GSt:=Int×Nat×List aC×List (List OV)×aB×Option Nat×Nat×Int×Int
def aBP (p:aF) (vars:Int) (dp a2:Nat) (L:Int) (B:aB) (ns ng n8 n9:Nat):GSt->Prop:=λ(K,i,kids,es,g1,o,a3,_,L3) =>
 (3<=K/\K<=9)/\i<=(eO K).toNat/\kids.length=i/\OR aC.o kids es/\fI B (OV.bF es) g1/\(g1 ns=none/\g1 ng=none/\g1 n8=none/\g1 n9=none)/\aAA g1 es o/\(∀ m,o=some m->¬m=ns/\¬m=ng/\¬m=n8/\¬m=n9) /\
  (∀ (j:Nat) (h:j<kids.length),kids[j].ok p p.aK.length (jE K j vars))/\aC.dL kids<=dp/\(L3<=L-1/\(L-1)-rX aC.s kids<=L3/\rX aC.s kids+3*mL L3<=3*mL (L-1)+i)/\(a2<=a3/\a3<=a2+14*rX aC.s kids)
theorem aQS (x:aC):∀ l:List aC,aC.dL (l++[x])=max (aC.dL l) x.d
 | []=>by simp[aC.dL]
 |y::l=>by rw[aU9,aC.dL,aC.dL,aQS x l];omega
theorem aBP.next {p:aF} {vars:Int} {dp a2:Nat} {L:Int} {B:aB} {ns ng n8 n9:Nat} {K:Int} {i:Nat} {kids:List aC} {es:List (List OV)} {g1 g5:aB} {o:Option Nat} {a3 a5:Nat} {sd3 sd5 L3 L5:Int} {x:aC} {e:List OV} {m:Nat}
  (h:aBP p vars dp a2 L B ns ng n8 n9 (K,i,kids,es,g1,o,a3,sd3,L3)) (hlt:(i:Int)<eO K) (hx:x.o e) (w:fI g1 (OV.b5 e) g5) (z:g5 ns=none/\g5 ng=none/\g5 n8=none/\g5 n9=none) (hm:g5 m=none) (hm2:¬m=ns/\¬m=ng/\¬m=n8/\¬m=n9)
  (hok:x.ok p p.aK.length (jE K i vars)) (hd:x.d<=dp) (hL:L5<=L3-1/\L3-(x.s+1)<=L5/\x.s+3*mL L5<=3*mL L3) (ha:a3<=a5/\a5<=a3+14*(x.s+1)):aBP p vars dp a2 L B ns ng n8 n9 (K,i+1,kids++[x],es++[e],g5,some m,a5,sd5,L5):=by
 obtain⟨hK,hi,hlen,hor,hnew,-,-,-,bJ8,hdl,hL3,ha3⟩:=h
 refine⟨hK,by omega,by rw[nT,hlen];rfl,OR.append hor ⟨hx,trivial⟩,fI.snoc hnew w,z,hm,λb q=>by cases q;exact hm2,λj hj=>?_,by rw[aQS];omega,?_,?_⟩
 ·rcases bT j kids.length with h2|h2
  ·rw[a4M h2];exact bJ8 j h2
  ·obtain rfl:j=kids.length:=by rw[nT]at hj;simp at hj;omega
   rw[a4N (bY _)]
   simp only[sP,List.getElem_cons_zero]
   rw[hlen];exact hok
 ·rw[aE6];refine⟨by omega,by omega,by omega⟩
 ·rw[aE6];omega
theorem a8M {p:aF} {ns ng np:Nat} {c:List Int} {pl:Bool} {vars:Int} {dp a a2:Nat} {L:Int} {B H:aB} {n8 n9:Nat} {K:Int} {i:Nat} {kids:List aC} {es:List (List OV)} {g1:aB} {o:Option Nat} {a3:Nat} {sd3 L3:Int}
  (h:aBP p vars dp a2 L B ns ng n8 n9 (K,i,kids,es,g1,o,a3,sd3,L3)) (hi:(i:Int)=eO K) (ha:a<=a2/\a2<=a+4) (h1:¬L-1<1) (hle:(aT (aT (cQ g1 (.row 5 (OV.cells es)) o) ns (jW c a3 sd3)) ng (lE ns np L3 pl)).le H) :
  ∃ r1 g2,Shift (.agg [I K,I 0,I 0,I 0,j7 5 i o]) H r1 g2/\bC8 p ns ng np c pl vars dp a L B r1 g2:=by
 obtain⟨hK,-,hlen,hor,hnew,⟨zs,zg,-,-⟩,hgs,hon,hok,hdl,hL,ha3⟩:=h
 have hes:es.length=i:=by rw[←hor.length];exact hlen
 have hk3:i<=3:=by
  have:eO K<=3:=by unfold eO;split <;> (try split) <;> (try split) <;> (try split) <;> omega
  omega
 rw[←hes]
 have hat:∀ q,B q=B q:=λ_=>rfl
 have z (q:Nat) (hq:g1 q=none) (hqo:∀ m,o=some m->¬m=q):cQ g1 (.row 5 (OV.cells es)) o q=none:=kG hq hqo
 refine⟨_,_,Shift.of (Sub.agg (.cons (.refl _) (.cons (.refl _) (.cons (.refl _) (.cons (.refl _) (.cons aYY .nil)))))) hle,.mk K 0 0 0 kids,[.v (I K),.v (I 0),.v (I 0),.v (I 0),gov 5 es o],_,a3,sd3,L3,(aC.u5 _ _).2 ⟨_,rfl,aO3 hor hgs⟩,rfl,
  by simpa only[OV.eP,OV.iQ,OV.aA6,dZ,dR]using aID hnew hgs,⟨z ns zs λm e=>(hon m e).1,z ng zg λm e=>(hon m e).2.1⟩,rfl,(aC.dK _ _ _ _).2 ⟨?_,hok⟩,by rw[aC.a5Z];simp only[aC.aN];omega,?_,?_⟩
 ·rw[dT a4U]
  simp only[aC.aS,aC.bA,aC.cV,aC.cH,aC.aN]
  refine⟨by omega,trivial,trivial,λq=>by omega,λq=>by omega,λ_ _=>trivial⟩
 ·rw[a22];unfold mL at hL ⊢;refine⟨by omega,by omega,by omega⟩
 ·rw[a22];omega
theorem share {T G:Prop} (m:T->G) (t:T):G:=m t
@[go_sem] def wE:List Nat:=[0,1,2,3,8,9,10,11,34,43,49,52,55,58,61,65,68,86,92,102]
@[go_sem] def aHN:List Nat:=[113]
@[go_sem] def aHO:Marks:=λid=>match id with|32=>([1,7,9,11],(.op 0 (.op 2 (.op 3 (.op 4 (.op 5 (.op 6 (.op 1 (.op 7 (.op 8 (.op 9 (.op 10 (.op 11 .nil)))))))))))),[(1,7)])|_=>([],.nil,[])
set_option maxHeartbeats 8000000 in
theorem aLY {p:aF} {ns ng np:Nat} {c:List Int} {pl:Bool} (hc:∀ x∈c,InB x) (hl:c.length<=4096) (hne:¬ns=ng) (hP:zM p) {dp:Nat} (ih:∀ d,d+1=dp->a8J Tryz.prog 154 p ns ng np c pl d) (hcall:1<=dp->bGI Tryz.prog 193 p ns ng np c pl dp):a8J Tryz.prog 154 p ns ng np c pl dp:=by
 intro vars B a sd L hB1 hB2 hprog ⟨hv,ha,hL⟩
 obtain⟨tP,bI,bJ,lH⟩:=cW (show ¬ns=ng from hne)
 have w1:IntKind.i64.wrap (L-1)=L-1:=IntWalk.i64_in _ aA
 refine jU 117 wE aHN aHO Tryz.func154 ?_
 simp -dsimp -implicitDefEqProofs only[go_sem,↓reduceIte,Tryz.f154,lE]
 intro n8 q8
 have a8:¬n8=ng:=by grind
 have b8:¬n8=ns:=by grind
 have z8:B n8=none:=by grind
 obtain⟨bC9,cJ,cK,qU⟩:=cW (show ¬n8=ng from a8)
 obtain⟨a0Z,bP,bQ,mN⟩:=cW (show ¬n8=ns from b8)
 simp -dsimp -implicitDefEqProofs only[go_sem,↓reduceIte,Tryz.f154,cJ,bP,cK,bJ,bQ,bI,aD,aO,lE,dA,dB,dC,dD,dF,dZ,dR,fQ,w1,cE qU,cE mN,aL]
 rw[show(bU.row 4 [[.v (.op ns 3 0 0),.v (.op np 1 0 0),.v (.int .i64 (L-1)),.v (.bool pl)]])=lE ns np (L-1) pl from rfl]
 refine⟨λh1=>⟨λh2=>?_,λh2=>?_⟩,λh1=>?_⟩
 ·refine aH.fX (a64 (a:=a) (sd:=sd) hc hl aA 5 aA aMZ) ?_
  rintro r_ h' ⟨b,a1,sd1,rfl,ha1,rfl⟩
  simp only[cE lH,aL]
  cases b
  ·simp -dsimp -implicitDefEqProofs only[go_sem,↓reduceIte,Tryz.f154,cJ,bP,cK,bJ,bQ,bI,aD,aO,dA,dB,dC,dD,dF,dZ,dR,fQ]
   intro n9 q9
   have a9:¬n9=ng:=by grind
   have b9:¬n9=ns:=by grind
   have c9:¬n9=n8:=by grind
   have z9:B n9=none:=by grind
   obtain⟨bDA,c4,c6,qT⟩:=cW (show ¬n9=ng from a9)
   obtain⟨a00,b7,cA,mM⟩:=cW (show ¬n9=ns from b9)
   obtain⟨aBQ,cB,cC,a01⟩:=cW (show ¬n9=n8 from c9)
   simp -dsimp -implicitDefEqProofs only[go_sem,↓reduceIte,Tryz.f154,cJ,bP,cC,cK,bJ,c6,bQ,bI,cA,cB,c4,b7,aD,aO,lE,dA,dB,dC,dD,dF,dZ,dR,fQ,cE qT,cE mM,aL]
   refine aH.fX (r5 (a:=a1) (sd:=sd1) hc hl aA 12 aA aMZ) ?_
   rintro r_ h' ⟨x,a2,sd2,rfl,x0,x1,-,ha2,rfl⟩
   simp only[cE lH,aL]
   simp -dsimp -implicitDefEqProofs only[go_sem,↓reduceIte,Tryz.f154,cJ,bP,cC,cK,bJ,c6,bQ,bI,cA,cB,c4,b7,aD,aO,dA,dB,dC,dD,dF,dZ,dR,fQ,cE qT,cE mM,aL]
   apply share
   case m =>
    intro key
    repeat'(with_reducible first|intro _|refine And.intro ?_ ?_)
    all_goals try
     first
     |skip
      refine cM wE aHN aHO (λx:GSt=>[(0,.op ng 4 0 0),(1,I vars),(2,I p.aK.length),(3,I dp),(8,.op n8 5 0 0),(9,.op n9 5 0 0),(10,I x.2.1)]) (λx=>aT (aT (aT (aT (cQ x.2.2.2.2.1 (.row 5 (OV.cells x.2.2.2.1)) x.2.2.2.2.2.1) n8 (vH 0 0 0 0 .bS)) n9 (vH x.1 0 0 0 (j7 5 x.2.1 x.2.2.2.2.2.1))) ns (jW c x.2.2.2.2.2.2.1 x.2.2.2.2.2.2.2.1)) ng (lE ns np x.2.2.2.2.2.2.2.2 pl)) (λx=>aBP p vars dp a2 L B ns ng n8 n9 x) (λx=>(eO x.1).toNat-x.2.1) (7,0,[],[],B,none,a2,sd2,L-1) ⟨by simp[cR,bZ],aB.le_refl _,by decide,by decide,rfl,trivial,fI.nil B,⟨hB1,hB2,z8,z9⟩,rfl,(λm e=>by cases e),(λj h=>by cases h),eM _,⟨aFS _,by simp[rX],by simp[rX]⟩,by simp[rX]⟩ ?_
      exact key
     |skip
      refine cM wE aHN aHO (λx:GSt=>[(0,.op ng 4 0 0),(1,I vars),(2,I p.aK.length),(3,I dp),(8,.op n8 5 0 0),(9,.op n9 5 0 0),(10,I x.2.1)]) (λx=>aT (aT (aT (aT (cQ x.2.2.2.2.1 (.row 5 (OV.cells x.2.2.2.1)) x.2.2.2.2.2.1) n8 (vH 0 0 0 0 .bS)) n9 (vH x.1 0 0 0 (j7 5 x.2.1 x.2.2.2.2.2.1))) ns (jW c x.2.2.2.2.2.2.1 x.2.2.2.2.2.2.2.1)) ng (lE ns np x.2.2.2.2.2.2.2.2 pl)) (λx=>aBP p vars dp a2 L B ns ng n8 n9 x) (λx=>(eO x.1).toNat-x.2.1) (9,0,[],[],B,none,a2,sd2,L-1) ⟨by simp[cR,bZ],aB.le_refl _,by decide,by decide,rfl,trivial,fI.nil B,⟨hB1,hB2,z8,z9⟩,rfl,(λm e=>by cases e),(λj h=>by cases h),eM _,⟨aFS _,by simp[rX],by simp[rX]⟩,by simp[rX]⟩ ?_
      exact key
     |skip
      refine cM wE aHN aHO (λx:GSt=>[(0,.op ng 4 0 0),(1,I vars),(2,I p.aK.length),(3,I dp),(8,.op n8 5 0 0),(9,.op n9 5 0 0),(10,I x.2.1)]) (λx=>aT (aT (aT (aT (cQ x.2.2.2.2.1 (.row 5 (OV.cells x.2.2.2.1)) x.2.2.2.2.2.1) n8 (vH 0 0 0 0 .bS)) n9 (vH x.1 0 0 0 (j7 5 x.2.1 x.2.2.2.2.2.1))) ns (jW c x.2.2.2.2.2.2.1 x.2.2.2.2.2.2.2.1)) ng (lE ns np x.2.2.2.2.2.2.2.2 pl)) (λx=>aBP p vars dp a2 L B ns ng n8 n9 x) (λx=>(eO x.1).toNat-x.2.1) (8,0,[],[],B,none,a2,sd2,L-1) ⟨by simp[cR,bZ],aB.le_refl _,by decide,by decide,rfl,trivial,fI.nil B,⟨hB1,hB2,z8,z9⟩,rfl,(λm e=>by cases e),(λj h=>by cases h),eM _,⟨aFS _,by simp[rX],by simp[rX]⟩,by simp[rX]⟩ ?_
      exact key
     |skip
      refine cM wE aHN aHO (λx:GSt=>[(0,.op ng 4 0 0),(1,I vars),(2,I p.aK.length),(3,I dp),(8,.op n8 5 0 0),(9,.op n9 5 0 0),(10,I x.2.1)]) (λx=>aT (aT (aT (aT (cQ x.2.2.2.2.1 (.row 5 (OV.cells x.2.2.2.1)) x.2.2.2.2.2.1) n8 (vH 0 0 0 0 .bS)) n9 (vH x.1 0 0 0 (j7 5 x.2.1 x.2.2.2.2.2.1))) ns (jW c x.2.2.2.2.2.2.1 x.2.2.2.2.2.2.2.1)) ng (lE ns np x.2.2.2.2.2.2.2.2 pl)) (λx=>aBP p vars dp a2 L B ns ng n8 n9 x) (λx=>(eO x.1).toNat-x.2.1) (6,0,[],[],B,none,a2,sd2,L-1) ⟨by simp[cR,bZ],aB.le_refl _,by decide,by decide,rfl,trivial,fI.nil B,⟨hB1,hB2,z8,z9⟩,rfl,(λm e=>by cases e),(λj h=>by cases h),eM _,⟨aFS _,by simp[rX],by simp[rX]⟩,by simp[rX]⟩ ?_
      exact key
     |skip
      refine cM wE aHN aHO (λx:GSt=>[(0,.op ng 4 0 0),(1,I vars),(2,I p.aK.length),(3,I dp),(8,.op n8 5 0 0),(9,.op n9 5 0 0),(10,I x.2.1)]) (λx=>aT (aT (aT (aT (cQ x.2.2.2.2.1 (.row 5 (OV.cells x.2.2.2.1)) x.2.2.2.2.2.1) n8 (vH 0 0 0 0 .bS)) n9 (vH x.1 0 0 0 (j7 5 x.2.1 x.2.2.2.2.2.1))) ns (jW c x.2.2.2.2.2.2.1 x.2.2.2.2.2.2.2.1)) ng (lE ns np x.2.2.2.2.2.2.2.2 pl)) (λx=>aBP p vars dp a2 L B ns ng n8 n9 x) (λx=>(eO x.1).toNat-x.2.1) (3,0,[],[],B,none,a2,sd2,L-1) ⟨by simp[cR,bZ],aB.le_refl _,by decide,by decide,rfl,trivial,fI.nil B,⟨hB1,hB2,z8,z9⟩,rfl,(λm e=>by cases e),(λj h=>by cases h),eM _,⟨aFS _,by simp[rX],by simp[rX]⟩,by simp[rX]⟩ ?_
      exact key
     |skip
      refine cM wE aHN aHO (λx:GSt=>[(0,.op ng 4 0 0),(1,I vars),(2,I p.aK.length),(3,I dp),(8,.op n8 5 0 0),(9,.op n9 5 0 0),(10,I x.2.1)]) (λx=>aT (aT (aT (aT (cQ x.2.2.2.2.1 (.row 5 (OV.cells x.2.2.2.1)) x.2.2.2.2.2.1) n8 (vH 0 0 0 0 .bS)) n9 (vH x.1 0 0 0 (j7 5 x.2.1 x.2.2.2.2.2.1))) ns (jW c x.2.2.2.2.2.2.1 x.2.2.2.2.2.2.2.1)) ng (lE ns np x.2.2.2.2.2.2.2.2 pl)) (λx=>aBP p vars dp a2 L B ns ng n8 n9 x) (λx=>(eO x.1).toNat-x.2.1) (4,0,[],[],B,none,a2,sd2,L-1) ⟨by simp[cR,bZ],aB.le_refl _,by decide,by decide,rfl,trivial,fI.nil B,⟨hB1,hB2,z8,z9⟩,rfl,(λm e=>by cases e),(λj h=>by cases h),eM _,⟨aFS _,by simp[rX],by simp[rX]⟩,by simp[rX]⟩ ?_
      exact key
     |skip
      refine cM wE aHN aHO (λx:GSt=>[(0,.op ng 4 0 0),(1,I vars),(2,I p.aK.length),(3,I dp),(8,.op n8 5 0 0),(9,.op n9 5 0 0),(10,I x.2.1)]) (λx=>aT (aT (aT (aT (cQ x.2.2.2.2.1 (.row 5 (OV.cells x.2.2.2.1)) x.2.2.2.2.2.1) n8 (vH 0 0 0 0 .bS)) n9 (vH x.1 0 0 0 (j7 5 x.2.1 x.2.2.2.2.2.1))) ns (jW c x.2.2.2.2.2.2.1 x.2.2.2.2.2.2.2.1)) ng (lE ns np x.2.2.2.2.2.2.2.2 pl)) (λx=>aBP p vars dp a2 L B ns ng n8 n9 x) (λx=>(eO x.1).toNat-x.2.1) (5,0,[],[],B,none,a2,sd2,L-1) ⟨by simp[cR,bZ],aB.le_refl _,by decide,by decide,rfl,trivial,fI.nil B,⟨hB1,hB2,z8,z9⟩,rfl,(λm e=>by cases e),(λj h=>by cases h),eM _,⟨aFS _,by simp[rX],by simp[rX]⟩,by simp[rX]⟩ ?_
      exact key
    all_goals
     rw[show ∀ H:aB,aT H ng (bU.row 4 [[Cell.v (aE.op ns 3 0 0),Cell.v (aE.op np 1 0 0),Cell.v (I (L-1)),Cell.v (aE.bool pl)]])=aT H ng (lE ns np (L-1) pl)from λ_=>rfl]
     refine aH.fX (hcall aA vars _ a2 sd2 (L-1) (by rw[aD _ _ _ _ mM,aD _ _ _ _ mN];exact hB1) (by rw[aD _ _ _ _ qT,aD _ _ _ _ qU];exact hB2) (hprog.le (aB.bM z9 (aB.bM z8 (aB.le_refl _)))) ⟨by omega,by omega⟩ (by unfold mL at ha ⊢;omega) ⟨by omega,by omega,by omega⟩) ?_
     rintro r_ h' ⟨x,e,g',a',sd',L',hx,rfl,hnew,⟨y1,y2⟩,rfl,hok,hd,hL',ha'⟩
     obtain⟨g5,rfl,w5,z58,z59⟩:=fI.aC7 z8 (by rw[aD _ _ _ _ aBQ];exact z9) hnew
     simp only[aO,cJ,bP,cC,cK,bJ,c6,bQ,bI,cA,cB,c4,b7,if_false]at y1 y2 z59
     rw[aC.u5]at hx
     obtain⟨y4,rfl,os4⟩:=hx
     simp -dsimp -implicitDefEqProofs only[go_sem,↓reduceIte,Tryz.f154,cJ,bP,cC,cK,bJ,c6,bQ,bI,cA,cB,c4,b7,aD,aO,OV.iR,OV.dP,OV.nR,os4.flat,os4.one]
     exact a8L (x:=x) (a':=a') (sd':=sd') (L':=L') ((aC.u5 _ _).2 ⟨y4,rfl,os4⟩) w5 ⟨y1,y2⟩ hok hd hL' aA h1 (by
      intro q_
      simp only[aO]
      grind)
   case t =>
    rintro⟨K,i,kids,es,g1,o,a3,sd3,L3⟩ hgg
    obtain⟨hK,hi,hlen,hor,hnew,⟨zs,zg,z18,z19⟩,hgs,hon,hok,hdl,hL3,ha3⟩:=id hgg
    simp only at hi hlen hor hnew zs zg z18 z19 hgs hon hok hdl hL3 ha3 hK ⊢
    have hkn:0<=eO K/\eO K<=3:=by unfold eO;split <;> (try split) <;> (try split) <;> (try split) <;> omega
    have wd:IntKind.i64.wrap ((dp:Int)-1)=((dp-1:Nat):Int):=by rw[IntWalk.i64_in _ aA];omega
    have hml:3*mL (L-1)+3=3*mL L:=by unfold mL;omega
    have bAB:mL L<=1000:=by unfold mL;omega
    have wv:IntKind.i64.wrap (vars+1)=vars+1:=IntWalk.i64_in _ aA
    unfold vH
    simp -dsimp -implicitDefEqProofs only[go_sem,↓reduceIte,Tryz.f154,cJ,bP,cC,cK,bJ,c6,bQ,bI,cA,cB,c4,b7,aD,aO,dA,dB,dC,dD,dF,dZ,dR,fQ]
    first|refine aH.mk ((vW K)) ?_|refine aG.mk ((vW K)) ?_|refine aH.bH ((vW K)) ?_|refine aG.mk (bB.dI ((vW K))) ?_
    simp -dsimp -implicitDefEqProofs only[go_sem,↓reduceIte,Tryz.f154,cJ,bP,cC,cK,bJ,c6,bQ,bI,cA,cB,c4,b7,aD,aO,dA,dB,dC,dD,dF,dZ,dR,fQ,wd,wv]
    refine⟨λhlt=>⟨λk9=>⟨λi1=>?_,λi1=>?_⟩,λk9=>?_⟩,λhge=>⟨oW ..,?_⟩⟩
    ·have hV:vars+1=jE K i vars:=by unfold jE;rw[if_pos ⟨k9,by omega⟩]
     cases o with
     |none =>
      rw[mQ]at hgs
      subst hgs
      obtain rfl:kids=[]:=aHR.1 hor.length
      obtain rfl:i=0:=hlen.symm
      simp only[aM,nE]
      refine aH.fX (ih (dp-1) aA (vars+1) _ a3 sd3 L3 aXQ aXS (hprog.le (aB.bM z9 (aB.bM z8 hnew.le))) ⟨by omega,by omega,by omega⟩) ?_
      rintro r_ h' ⟨x5,e5,g',a5,sd5,L5,hx,rfl,hnw,⟨y1,y2⟩,rfl,aJN,hd5,hL5,ha5⟩
      obtain⟨g5,rfl,w5,z58,z59⟩:=fI.aC7 z18 aXZ hnw
      simp only[aO,cJ,bP,cC,cK,bJ,c6,bQ,bI,cA,cB,c4,b7,if_false]at y1 y2 z59
      have hx5:=hx
      rw[aC.u5]at hx
      obtain⟨y4,rfl,os4⟩:=hx
      simp -dsimp -implicitDefEqProofs only[go_sem,↓reduceIte,Tryz.f154,cJ,bP,cC,cK,bJ,c6,bQ,bI,cA,cB,c4,b7,aD,aO,dA,dB,dC,dD,dF,dZ,dR,fQ,OV.iR,OV.dP,OV.nR,os4.flat,os4.one]
      have ht:=eQ []
      refine⟨by decide,by decide,by decide,λm qm=>?_⟩
      have am:¬m=ns:=by grind
      have bm:¬m=ng:=by grind
      have cm:¬m=n8:=by grind
      have em:¬m=n9:=by grind
      have dm:g5 m=none:=by grind
      skip
      obtain⟨oN,fK,fL,oO⟩:=cW (show ¬m=ns from am)
      obtain⟨vD,jC,jD,vE⟩:=cW (show ¬m=ng from bm)
      obtain⟨zN,kL,kM,zO⟩:=cW (show ¬m=n8 from cm)
      obtain⟨zP,kN,kO,zQ⟩:=cW (show ¬m=n9 from em)
      simp -dsimp -implicitDefEqProofs only[go_sem,↓reduceIte,Tryz.f154,cJ,bP,cC,kM,cK,bJ,c6,jD,bQ,bI,cA,fL,cB,c4,b7,kO,kL,jC,fK,kN,aD,aO,dA,dB,dC,dD,dF,dZ,dR,fQ]
      refine⟨(K,0+1,[]++[x5],[]++[[.v (.int .i64 x5.aS),.v (.int .i64 x5.bA),.v (.int .i64 x5.cV),.v (.int .i64 x5.cH),y4]],g5,some m,a5,sd5,L5),IntWalk.i64_in _ aA,?_,hgg.next hlt hx5 w5 ⟨y1,y2,z58,z59⟩ dm ⟨am,bm,cm,em⟩ aGZ aA hL5 ha5,by simp only;omega⟩
      intro q_
      simp only[aO,aJ,cN,jM,eQ,cP,kZ,k7,OV.iR,OV.dP,OV.nR,dZ,qR,w9,ht]
      grind
     |some m0 =>
      rw[kC]at hgs
      obtain⟨hm1,hm2,hm3,hm4⟩:=hon m0 rfl
      obtain⟨aB2,iS,iT,yE⟩:=cW (show ¬m0=ns from hm1)
      obtain⟨aQT,mW,mX,aH8⟩:=cW (show ¬m0=ng from hm2)
      obtain⟨aI4,kP,kQ,aD5⟩:=cW (show ¬m0=n8 from hm3)
      obtain⟨aI5,kR,kS,aD2⟩:=cW (show ¬m0=n9 from hm4)
      have hBm:B m0=none:=by
       cases hb:B m0 with
       |none=>rfl
       |some v=>have:=hnew.keep hb;rw[hgs]at this;cases this
      simp only[aJ,cN]
      refine aH.fX (ih (dp-1) aA (vars+1) _ a3 sd3 L3 aXN aXO (hprog.le (aB.bM z9 (aB.bM z8 (aB.bM hBm hnew.le)))) ⟨by omega,by omega,by omega⟩) ?_
      rintro r_ h' ⟨x5,e5,g',a5,sd5,L5,hx,rfl,hnw,⟨y1,y2⟩,rfl,aJN,hd5,hL5,ha5⟩
      obtain⟨g5,rfl,w5,z50,z58,z59⟩:=fI.aOY hgs aX0 aXP hnw
      simp only[aO,cJ,bP,cC,kQ,cK,bJ,c6,mX,bQ,bI,cA,iT,cB,c4,b7,kS,kP,mW,iS,kR,if_false]at y1 y2 z58 z59
      have hx5:=hx
      rw[aC.u5]at hx
      obtain⟨y4,rfl,os4⟩:=hx
      simp -dsimp -implicitDefEqProofs only[go_sem,↓reduceIte,Tryz.f154,cJ,bP,cC,kQ,cK,bJ,c6,mX,bQ,bI,cA,iT,cB,c4,b7,kS,kP,mW,iS,kR,aD,aO,dA,dB,dC,dD,dF,dZ,dR,fQ,OV.iR,OV.dP,OV.nR,os4.flat,os4.one,cP]
      have ht:List.take i (OV.cells es)=OV.cells es:=hJ aRO
      refine⟨by decide,by decide,by decide,by have:=hor.length;omega,by omega,by omega,λm qm=>?_⟩
      have am:¬m=ns:=by grind
      have bm:¬m=ng:=by grind
      have cm:¬m=n8:=by grind
      have em:¬m=n9:=by grind
      have dm:g5 m=none:=by grind
      have fm:¬m=m0:=xD;have zR:=eq_false fm;have zS:=eq_false (iK fm);have aQU:=fm;have aQV:=iK fm
      obtain⟨oN,fK,fL,oO⟩:=cW (show ¬m=ns from am)
      obtain⟨vD,jC,jD,vE⟩:=cW (show ¬m=ng from bm)
      obtain⟨zN,kL,kM,zO⟩:=cW (show ¬m=n8 from cm)
      obtain⟨zP,kN,kO,zQ⟩:=cW (show ¬m=n9 from em)
      simp -dsimp -implicitDefEqProofs only[go_sem,↓reduceIte,Tryz.f154,cJ,bP,cC,kM,cK,bJ,c6,jD,bQ,bI,cA,fL,cB,c4,b7,kO,kL,jC,fK,kN,zR,kL,kN,jC,fK,zS,kP,kR,mW,iS,kM,kQ,cC,cJ,bP,kO,kS,cB,c4,b7,jD,mX,cK,c6,bJ,fL,iT,bQ,cA,bI,aD,aO,dA,dB,dC,dD,dF,dZ,dR,fQ]
      refine⟨(K,i+1,kids++[x5],es++[[.v (.int .i64 x5.aS),.v (.int .i64 x5.bA),.v (.int .i64 x5.cV),.v (.int .i64 x5.cH),y4]],g5,some m,a5,sd5,L5),IntWalk.i64_in _ aA,?_,hgg.next hlt hx5 w5 ⟨y1,y2,z58,z59⟩ dm ⟨am,bm,cm,em⟩ aGZ aA hL5 ha5,by simp only;omega⟩
      intro q_
      simp only[aO,aJ,cN,jM,eQ,cP,kZ,k7,OV.iR,OV.dP,OV.nR,dZ,qR,w9,ht]
      grind
    ·have hV:vars=jE K i vars:=by unfold jE;rw[if_neg (λq=>i1 aA)]
     cases o with
     |none =>
      rw[mQ]at hgs
      subst hgs
      obtain rfl:kids=[]:=aHR.1 hor.length
      obtain rfl:i=0:=hlen.symm
      simp only[aM,nE]
      refine aH.fX (ih (dp-1) aA vars _ a3 sd3 L3 aXQ aXS (hprog.le (aB.bM z9 (aB.bM z8 hnew.le))) ⟨by omega,by omega,by omega⟩) ?_
      rintro r_ h' ⟨x5,e5,g',a5,sd5,L5,hx,rfl,hnw,⟨y1,y2⟩,rfl,aJN,hd5,hL5,ha5⟩
      obtain⟨g5,rfl,w5,z58,z59⟩:=fI.aC7 z18 aXZ hnw
      simp only[aO,cJ,bP,cC,cK,bJ,c6,bQ,bI,cA,cB,c4,b7,if_false]at y1 y2 z59
      have hx5:=hx
      rw[aC.u5]at hx
      obtain⟨y4,rfl,os4⟩:=hx
      simp -dsimp -implicitDefEqProofs only[go_sem,↓reduceIte,Tryz.f154,cJ,bP,cC,cK,bJ,c6,bQ,bI,cA,cB,c4,b7,aD,aO,dA,dB,dC,dD,dF,dZ,dR,fQ,OV.iR,OV.dP,OV.nR,os4.flat,os4.one]
      have ht:=eQ []
      refine⟨by decide,by decide,by decide,λm qm=>?_⟩
      have am:¬m=ns:=by grind
      have bm:¬m=ng:=by grind
      have cm:¬m=n8:=by grind
      have em:¬m=n9:=by grind
      have dm:g5 m=none:=by grind
      skip
      obtain⟨oN,fK,fL,oO⟩:=cW (show ¬m=ns from am)
      obtain⟨vD,jC,jD,vE⟩:=cW (show ¬m=ng from bm)
      obtain⟨zN,kL,kM,zO⟩:=cW (show ¬m=n8 from cm)
      obtain⟨zP,kN,kO,zQ⟩:=cW (show ¬m=n9 from em)
      simp -dsimp -implicitDefEqProofs only[go_sem,↓reduceIte,Tryz.f154,cJ,bP,cC,kM,cK,bJ,c6,jD,bQ,bI,cA,fL,cB,c4,b7,kO,kL,jC,fK,kN,aD,aO,dA,dB,dC,dD,dF,dZ,dR,fQ]
      refine⟨(K,0+1,[]++[x5],[]++[[.v (.int .i64 x5.aS),.v (.int .i64 x5.bA),.v (.int .i64 x5.cV),.v (.int .i64 x5.cH),y4]],g5,some m,a5,sd5,L5),IntWalk.i64_in _ aA,?_,hgg.next hlt hx5 w5 ⟨y1,y2,z58,z59⟩ dm ⟨am,bm,cm,em⟩ aGZ aA hL5 ha5,by simp only;omega⟩
      intro q_
      simp only[aO,aJ,cN,jM,eQ,cP,kZ,k7,OV.iR,OV.dP,OV.nR,dZ,qR,w9,ht]
      grind
     |some m0 =>
      rw[kC]at hgs
      obtain⟨hm1,hm2,hm3,hm4⟩:=hon m0 rfl
      obtain⟨aB2,iS,iT,yE⟩:=cW (show ¬m0=ns from hm1)
      obtain⟨aQT,mW,mX,aH8⟩:=cW (show ¬m0=ng from hm2)
      obtain⟨aI4,kP,kQ,aD5⟩:=cW (show ¬m0=n8 from hm3)
      obtain⟨aI5,kR,kS,aD2⟩:=cW (show ¬m0=n9 from hm4)
      have hBm:B m0=none:=by
       cases hb:B m0 with
       |none=>rfl
       |some v=>have:=hnew.keep hb;rw[hgs]at this;cases this
      simp only[aJ,cN]
      refine aH.fX (ih (dp-1) aA vars _ a3 sd3 L3 aXN aXO (hprog.le (aB.bM z9 (aB.bM z8 (aB.bM hBm hnew.le)))) ⟨by omega,by omega,by omega⟩) ?_
      rintro r_ h' ⟨x5,e5,g',a5,sd5,L5,hx,rfl,hnw,⟨y1,y2⟩,rfl,aJN,hd5,hL5,ha5⟩
      obtain⟨g5,rfl,w5,z50,z58,z59⟩:=fI.aOY hgs aX0 aXP hnw
      simp only[aO,cJ,bP,cC,kQ,cK,bJ,c6,mX,bQ,bI,cA,iT,cB,c4,b7,kS,kP,mW,iS,kR,if_false]at y1 y2 z58 z59
      have hx5:=hx
      rw[aC.u5]at hx
      obtain⟨y4,rfl,os4⟩:=hx
      simp -dsimp -implicitDefEqProofs only[go_sem,↓reduceIte,Tryz.f154,cJ,bP,cC,kQ,cK,bJ,c6,mX,bQ,bI,cA,iT,cB,c4,b7,kS,kP,mW,iS,kR,aD,aO,dA,dB,dC,dD,dF,dZ,dR,fQ,OV.iR,OV.dP,OV.nR,os4.flat,os4.one,cP]
      have ht:List.take i (OV.cells es)=OV.cells es:=hJ aRO
      refine⟨by decide,by decide,by decide,by have:=hor.length;omega,by omega,by omega,λm qm=>?_⟩
      have am:¬m=ns:=by grind
      have bm:¬m=ng:=by grind
      have cm:¬m=n8:=by grind
      have em:¬m=n9:=by grind
      have dm:g5 m=none:=by grind
      have fm:¬m=m0:=xD;have zR:=eq_false fm;have zS:=eq_false (iK fm);have aQU:=fm;have aQV:=iK fm
      obtain⟨oN,fK,fL,oO⟩:=cW (show ¬m=ns from am)
      obtain⟨vD,jC,jD,vE⟩:=cW (show ¬m=ng from bm)
      obtain⟨zN,kL,kM,zO⟩:=cW (show ¬m=n8 from cm)
      obtain⟨zP,kN,kO,zQ⟩:=cW (show ¬m=n9 from em)
      simp -dsimp -implicitDefEqProofs only[go_sem,↓reduceIte,Tryz.f154,cJ,bP,cC,kM,cK,bJ,c6,jD,bQ,bI,cA,fL,cB,c4,b7,kO,kL,jC,fK,kN,zR,kL,kN,jC,fK,zS,kP,kR,mW,iS,kM,kQ,cC,cJ,bP,kO,kS,cB,c4,b7,jD,mX,cK,c6,bJ,fL,iT,bQ,cA,bI,aD,aO,dA,dB,dC,dD,dF,dZ,dR,fQ]
      refine⟨(K,i+1,kids++[x5],es++[[.v (.int .i64 x5.aS),.v (.int .i64 x5.bA),.v (.int .i64 x5.cV),.v (.int .i64 x5.cH),y4]],g5,some m,a5,sd5,L5),IntWalk.i64_in _ aA,?_,hgg.next hlt hx5 w5 ⟨y1,y2,z58,z59⟩ dm ⟨am,bm,cm,em⟩ aGZ aA hL5 ha5,by simp only;omega⟩
      intro q_
      simp only[aO,aJ,cN,jM,eQ,cP,kZ,k7,OV.iR,OV.dP,OV.nR,dZ,qR,w9,ht]
      grind
    ·have hV:vars=jE K i vars:=by unfold jE;rw[if_neg (λq=>k9 q.1)]
     cases o with
     |none =>
      rw[mQ]at hgs
      subst hgs
      obtain rfl:kids=[]:=aHR.1 hor.length
      obtain rfl:i=0:=hlen.symm
      simp only[aM,nE]
      refine aH.fX (ih (dp-1) aA vars _ a3 sd3 L3 aXQ aXS (hprog.le (aB.bM z9 (aB.bM z8 hnew.le))) ⟨by omega,by omega,by omega⟩) ?_
      rintro r_ h' ⟨x5,e5,g',a5,sd5,L5,hx,rfl,hnw,⟨y1,y2⟩,rfl,aJN,hd5,hL5,ha5⟩
      obtain⟨g5,rfl,w5,z58,z59⟩:=fI.aC7 z18 aXZ hnw
      simp only[aO,cJ,bP,cC,cK,bJ,c6,bQ,bI,cA,cB,c4,b7,if_false]at y1 y2 z59
      have hx5:=hx
      rw[aC.u5]at hx
      obtain⟨y4,rfl,os4⟩:=hx
      simp -dsimp -implicitDefEqProofs only[go_sem,↓reduceIte,Tryz.f154,cJ,bP,cC,cK,bJ,c6,bQ,bI,cA,cB,c4,b7,aD,aO,dA,dB,dC,dD,dF,dZ,dR,fQ,OV.iR,OV.dP,OV.nR,os4.flat,os4.one]
      have ht:=eQ []
      refine⟨by decide,by decide,by decide,λm qm=>?_⟩
      have am:¬m=ns:=by grind
      have bm:¬m=ng:=by grind
      have cm:¬m=n8:=by grind
      have em:¬m=n9:=by grind
      have dm:g5 m=none:=by grind
      skip
      obtain⟨oN,fK,fL,oO⟩:=cW (show ¬m=ns from am)
      obtain⟨vD,jC,jD,vE⟩:=cW (show ¬m=ng from bm)
      obtain⟨zN,kL,kM,zO⟩:=cW (show ¬m=n8 from cm)
      obtain⟨zP,kN,kO,zQ⟩:=cW (show ¬m=n9 from em)
      simp -dsimp -implicitDefEqProofs only[go_sem,↓reduceIte,Tryz.f154,cJ,bP,cC,kM,cK,bJ,c6,jD,bQ,bI,cA,fL,cB,c4,b7,kO,kL,jC,fK,kN,aD,aO,dA,dB,dC,dD,dF,dZ,dR,fQ]
      refine⟨(K,0+1,[]++[x5],[]++[[.v (.int .i64 x5.aS),.v (.int .i64 x5.bA),.v (.int .i64 x5.cV),.v (.int .i64 x5.cH),y4]],g5,some m,a5,sd5,L5),IntWalk.i64_in _ aA,?_,hgg.next hlt hx5 w5 ⟨y1,y2,z58,z59⟩ dm ⟨am,bm,cm,em⟩ aGZ aA hL5 ha5,by simp only;omega⟩
      intro q_
      simp only[aO,aJ,cN,jM,eQ,cP,kZ,k7,OV.iR,OV.dP,OV.nR,dZ,qR,w9,ht]
      grind
     |some m0 =>
      rw[kC]at hgs
      obtain⟨hm1,hm2,hm3,hm4⟩:=hon m0 rfl
      obtain⟨aB2,iS,iT,yE⟩:=cW (show ¬m0=ns from hm1)
      obtain⟨aQT,mW,mX,aH8⟩:=cW (show ¬m0=ng from hm2)
      obtain⟨aI4,kP,kQ,aD5⟩:=cW (show ¬m0=n8 from hm3)
      obtain⟨aI5,kR,kS,aD2⟩:=cW (show ¬m0=n9 from hm4)
      have hBm:B m0=none:=by
       cases hb:B m0 with
       |none=>rfl
       |some v=>have:=hnew.keep hb;rw[hgs]at this;cases this
      simp only[aJ,cN]
      refine aH.fX (ih (dp-1) aA vars _ a3 sd3 L3 aXN aXO (hprog.le (aB.bM z9 (aB.bM z8 (aB.bM hBm hnew.le)))) ⟨by omega,by omega,by omega⟩) ?_
      rintro r_ h' ⟨x5,e5,g',a5,sd5,L5,hx,rfl,hnw,⟨y1,y2⟩,rfl,aJN,hd5,hL5,ha5⟩
      obtain⟨g5,rfl,w5,z50,z58,z59⟩:=fI.aOY hgs aX0 aXP hnw
      simp only[aO,cJ,bP,cC,kQ,cK,bJ,c6,mX,bQ,bI,cA,iT,cB,c4,b7,kS,kP,mW,iS,kR,if_false]at y1 y2 z58 z59
      have hx5:=hx
      rw[aC.u5]at hx
      obtain⟨y4,rfl,os4⟩:=hx
      simp -dsimp -implicitDefEqProofs only[go_sem,↓reduceIte,Tryz.f154,cJ,bP,cC,kQ,cK,bJ,c6,mX,bQ,bI,cA,iT,cB,c4,b7,kS,kP,mW,iS,kR,aD,aO,dA,dB,dC,dD,dF,dZ,dR,fQ,OV.iR,OV.dP,OV.nR,os4.flat,os4.one,cP]
      have ht:List.take i (OV.cells es)=OV.cells es:=hJ aRO
      refine⟨by decide,by decide,by decide,by have:=hor.length;omega,by omega,by omega,λm qm=>?_⟩
      have am:¬m=ns:=by grind
      have bm:¬m=ng:=by grind
      have cm:¬m=n8:=by grind
      have em:¬m=n9:=by grind
      have dm:g5 m=none:=by grind
      have fm:¬m=m0:=xD;have zR:=eq_false fm;have zS:=eq_false (iK fm);have aQU:=fm;have aQV:=iK fm
      obtain⟨oN,fK,fL,oO⟩:=cW (show ¬m=ns from am)
      obtain⟨vD,jC,jD,vE⟩:=cW (show ¬m=ng from bm)
      obtain⟨zN,kL,kM,zO⟩:=cW (show ¬m=n8 from cm)
      obtain⟨zP,kN,kO,zQ⟩:=cW (show ¬m=n9 from em)
      simp -dsimp -implicitDefEqProofs only[go_sem,↓reduceIte,Tryz.f154,cJ,bP,cC,kM,cK,bJ,c6,jD,bQ,bI,cA,fL,cB,c4,b7,kO,kL,jC,fK,kN,zR,kL,kN,jC,fK,zS,kP,kR,mW,iS,kM,kQ,cC,cJ,bP,kO,kS,cB,c4,b7,jD,mX,cK,c6,bJ,fL,iT,bQ,cA,bI,aD,aO,dA,dB,dC,dD,dF,dZ,dR,fQ]
      refine⟨(K,i+1,kids++[x5],es++[[.v (.int .i64 x5.aS),.v (.int .i64 x5.bA),.v (.int .i64 x5.cV),.v (.int .i64 x5.cH),y4]],g5,some m,a5,sd5,L5),IntWalk.i64_in _ aA,?_,hgg.next hlt hx5 w5 ⟨y1,y2,z58,z59⟩ dm ⟨am,bm,cm,em⟩ aGZ aA hL5 ha5,by simp only;omega⟩
      intro q_
      simp only[aO,aJ,cN,jM,eQ,cP,kZ,k7,OV.iR,OV.dP,OV.nR,dZ,qR,w9,ht]
      grind
    ·have hi2:(i:Int)=eO K:=by omega
     have y8:cQ g1 (.row 5 (OV.cells es)) o n8=none:=kG z18 λm e=>(hon m e).2.2.1
     have y9:cQ g1 (.row 5 (OV.cells es)) o n9=none:=kG z19 λm e=>(hon m e).2.2.2
     exact a8M (vars:=vars) (a:=a) (L:=L) hgg hi2 aA h1 (by
      intro q_
      simp only[aO]
      grind)
  ·simp -dsimp -implicitDefEqProofs only[go_sem,↓reduceIte,Tryz.f154,cJ,bP,cK,bJ,bQ,bI,aD,aO,dA,dB,dC,dD,dF,dZ,dR,fQ]
   refine aH.fX (aZ5 (np:=np) (a:=a1) (sd:=sd1) (L:=L-1) (pl:=pl) (B:=aT B n8 (.row 5 [[.v (I 0),.v (I 0),.v (I 0),.v (I 0),.v .bS]])) hc hl hne vars aA aXX aXY aA) ?_
   rintro r_ h' ⟨k,n,a',sd',rfl,hkn,ha',rfl⟩
   simp -dsimp -implicitDefEqProofs only[go_sem,↓reduceIte,Tryz.f154,cJ,bP,cK,bJ,bQ,bI,aD,aO,cE qU,cE mN,aL]
   exact aLX (a:=a) (a':=a') (sd':=sd') hkn hB1 hB2 aA (by
    intro q_
    simp only[aO]
    grind)
 ·refine aH.fX (aZ5 (np:=np) (a:=a) (sd:=sd) (L:=L-1) (pl:=pl) (B:=aT B n8 (.row 5 [[.v (I 0),.v (I 0),.v (I 0),.v (I 0),.v .bS]])) hc hl hne vars aA aXX aXY aA) ?_
  rintro r_ h' ⟨k,n,a',sd',rfl,hkn,ha',rfl⟩
  simp -dsimp -implicitDefEqProofs only[go_sem,↓reduceIte,Tryz.f154,cJ,bP,cK,bJ,bQ,bI,aD,aO,cE qU,cE mN,aL]
  exact aLX (a:=a) (a':=a') (sd':=sd') hkn hB1 hB2 aA (by
   intro q_
   simp only[aO]
   grind)
 ·refine aH.fX (aZ5 (np:=np) (a:=a) (sd:=sd) (L:=L-1) (pl:=pl) (B:=aT B n8 (.row 5 [[.v (I 0),.v (I 0),.v (I 0),.v (I 0),.v .bS]])) hc hl hne vars aA aXX aXY aA) ?_
  rintro r_ h' ⟨k,n,a',sd',rfl,hkn,ha',rfl⟩
  simp -dsimp -implicitDefEqProofs only[go_sem,↓reduceIte,Tryz.f154,cJ,bP,cK,bJ,bQ,bI,aD,aO,cE qU,cE mN,aL]
  exact aLX (a:=a) (a':=a') (sd':=sd') hkn hB1 hB2 aA (by
   intro q_
   simp only[aO]
   grind)
theorem a3N {p:aF} {ns ng np:Nat} {c:List Int} {pl:Bool} {vars:Int} {dp a:Nat} {L:Int} {B H:aB} {k n:Int} {a':Nat} {sd':Int} (h:(k=1/\iE n)∨(k=2/\0<=n/\n<vars)) (hB1:B ns=none) (hB2:B ng=none) (ha:a<=a'/\a'<=a+10) (hle:(aT (aT B ns (jW c a' sd')) ng (lE ns np L pl)).le H) :
  ∃ r1 g2,Shift (.agg [I k,I n,I 0,I 0,.bS]) H r1 g2/\a8H p ns ng np c pl vars dp a L B r1 g2:=by
 refine⟨_,_,Shift.of (aTU k n) hle,_,_,B,a',sd',L,a66 k n,rfl,by rw[aNS];exact fI.nil B,⟨hB1,hB2⟩,rfl,a0Y h,by rw[a8K];omega,?_,by rw[aQR];omega⟩
 rw[aQR]
 omega
structure bW6 (T:Prop):Prop where
 get:T
theorem a8N {T G:Prop} (m:bW6 T->G) (t:T):G:=m ⟨t⟩
abbrev CSt:=Int×Nat×List aC×List (List OV)×aB×Option Nat×Nat×Int×Int×Int
def aLZ (p:aF) (f:aV) (vars:Int) (dp a:Nat) (L:Int) (B:aB) (ns ng n8 n9:Nat):CSt->Prop:=λ(K,i,kids,es,g1,o,a3,_,L3,cnt) =>
 ((K=10/\cnt=0)∨(K=11/\0<=cnt/\cnt<=8/\(f.aU.length:Int)=f.aR))/\i<=f.aR.toNat/\kids.length=i/\OR aC.o kids es/\fI B (OV.bF es) g1/\(g1 ns=none/\g1 ng=none/\g1 n8=none/\g1 n9=none)/\aAA g1 es o/\(∀ m,o=some m->¬m=ns/\¬m=ng/\¬m=n8/\¬m=n9) /\
  (∀ (j:Nat) (h:j<kids.length),kids[j].ok p p.aK.length vars)/\aC.dL kids<=dp/\(L3<=L/\L-rX aC.s kids<=L3/\rX aC.s kids+3*mL L3<=3*mL L+i)/\(a<=a3/\a3<=a+10+14*rX aC.s kids)
theorem aLZ.next {p:aF} {f:aV} {vars:Int} {dp a:Nat} {L:Int} {B:aB} {ns ng n8 n9:Nat} {K cnt:Int} {i:Nat} {kids:List aC} {es:List (List OV)} {g1 g5:aB} {o:Option Nat} {a3 a5:Nat} {sd3 sd5 L3 L5:Int} {x:aC} {e:List OV} {m:Nat}
  (h:aLZ p f vars dp a L B ns ng n8 n9 (K,i,kids,es,g1,o,a3,sd3,L3,cnt)) (hlt:(i:Int)<f.aR) (hx:x.o e) (w:fI g1 (OV.b5 e) g5) (z:g5 ns=none/\g5 ng=none/\g5 n8=none/\g5 n9=none) (hm:g5 m=none) (hm2:¬m=ns/\¬m=ng/\¬m=n8/\¬m=n9)
  (hok:x.ok p p.aK.length vars) (hd:x.d<=dp) (hL:L5<=L3-1/\L3-(x.s+1)<=L5/\x.s+3*mL L5<=3*mL L3) (ha:a3<=a5/\a5<=a3+14*(x.s+1)):aLZ p f vars dp a L B ns ng n8 n9 (K,i+1,kids++[x],es++[e],g5,some m,a5,sd5,L5,cnt):=by
 obtain⟨hK,hi,hlen,hor,hnew,-,-,-,bJ8,hdl,hL3,ha3⟩:=h
 refine⟨hK,by omega,by rw[nT,hlen];rfl,OR.append hor ⟨hx,trivial⟩,fI.snoc hnew w,z,hm,λb q=>by cases q;exact hm2,λj hj=>?_,by rw[aQS];omega,?_,?_⟩
 ·rcases bT j kids.length with h2|h2
  ·rw[a4M h2];exact bJ8 j h2
  ·obtain rfl:j=kids.length:=by rw[nT]at hj;simp at hj;omega
   rw[a4N (bY _)]
   simp only[sP,List.getElem_cons_zero]
   exact hok
 ·rw[aE6];refine⟨by omega,by omega,by omega⟩
 ·rw[aE6];omega
theorem a3O {p:aF} {f:aV} {ns ng np:Nat} {c:List Int} {pl:Bool} {vars:Int} {dp a k:Nat} {L y cnt:Int} {B H:aB} {n8 n9:Nat} {K:Int} {i:Nat} {kids:List aC} {es:List (List OV)} {g1:aB} {o:Option Nat} {a3:Nat} {sd3 L3:Int} (hf:p.aK[k]?=some f) (hf1:1<=f.aR/\f.aR<=3) (hy:0<=y/\y<f.aU.length)
  (h:aLZ p f vars dp a L B ns ng n8 n9 (K,i,kids,es,g1,o,a3,sd3,L3,cnt)) (hi:(i:Int)=f.aR) (hle:(aT (aT (cQ g1 (.row 5 (OV.cells es)) o) ns (jW c a3 sd3)) ng (lE ns np L3 pl)).le H) :
  ∃ r1 g2,Shift (.agg [I K,I k,I y,I cnt,j7 5 i o]) H r1 g2/\a8H p ns ng np c pl vars dp a L B r1 g2:=by
 obtain⟨hK,-,hlen,hor,hnew,⟨zs,zg,-,-⟩,hgs,hon,hok,hdl,hL,ha3⟩:=h
 have hes:es.length=i:=by rw[←hor.length];exact hlen
 have hkl:k<p.aK.length:=by rcases bT k p.aK.length with h|h;exact h;rw[aJE h]at hf;cases hf
 rw[←hes]
 have z (q:Nat) (hq:g1 q=none) (hqo:∀ m,o=some m->¬m=q):cQ g1 (.row 5 (OV.cells es)) o q=none:=kG hq hqo
 refine⟨_,_,Shift.of (Sub.agg (.cons (.refl _) (.cons (.refl _) (.cons (.refl _) (.cons (.refl _) (.cons aYY .nil)))))) hle,.mk K k y cnt kids,[.v (I K),.v (I k),.v (I y),.v (I cnt),gov 5 es o],_,a3,sd3,L3,(aC.u5 _ _).2 ⟨_,rfl,aO3 hor hgs⟩,rfl,
  by simpa only[OV.eP,OV.iQ,OV.aA6,dZ,dR]using aID hnew hgs,⟨z ns zs λm e=>(hon m e).1,z ng zg λm e=>(hon m e).2.1⟩,rfl,(aC.dK _ _ _ _).2 ⟨?_,λj hj=>?_⟩,by rw[aC.a5Z];simp only[aC.aN];omega,?_,?_⟩
 ·unfold mR
  rw[if_pos (show(aC.mk K k y cnt kids).aS=10∨(aC.mk K k y cnt kids).aS=11 from by simp only[aC.aS];omega)]
  simp only[aC.aS,aC.bA,aC.cV,aC.cH,aC.aN]
  refine⟨by omega,by omega,λf' hf'=>?_⟩
  rw[r8,hf]at hf'
  cases hf'
  refine⟨hy.1,by omega,by omega,λq=>by omega,λq=>by omega⟩
 ·have hm:jE (aC.mk K k y cnt kids).aS j vars=vars:=by unfold jE;rw[if_neg a4U]
  rw[hm]
  exact hok j hj
 ·rw[a22];refine⟨by omega,by omega,by omega⟩
 ·rw[a22];omega
@[go_sem] def aI6:List Nat:=[0,1,2,3,8,9,10,11,13,61,74]
@[go_sem] def a02:List Nat:=[85]
@[go_sem] def a03:Marks:=λid=>match id with|4=>([3,6,8],(.op 0 (.op 1 (.op 2 (.op 7 (.op 3 (.op 4 (.op 5 (.op 6 (.op 8 (.op 9 (.op 10 .nil))))))))))),[])|5=>([3,7,8,9,11],(.op 0 (.op 1 (.op 2 (.op 4 (.op 5 (.op 6 (.op 3 (.op 7 (.op 8 (.op 9 (.op 10 (.op 11 .nil)))))))))))),[(3,8)])|6=>([3,4,8,14,15],(.op 0 (.op 1 (.op 2 (.op 5 (.op 6 (.op 7 (.op 3 (.op 8 (.op 4 (.op 9 (.op 10 (.op 11 (.op 12 (.op 13 (.op 14 (.op 15 (.op 16 .nil))))))))))))))))),[(8,4)])|12=>([1,7,9,11],(.op 0 (.op 2 (.op 3 (.op 4 (.op 5 (.op 6 (.op 1 (.op 7 (.op 8 (.op 9 (.op 10 (.op 11 .nil)))))))))))),[(1,7)])|_=>([],.nil,[])
set_option maxHeartbeats 8000000 in
theorem aWZ {p:aF} {ns ng np:Nat} {c:List Int} {pl:Bool} (hc:∀ x∈c,InB x) (hl:c.length<=4096) (hne:¬ns=ng) (hP:zM p) (hpl:p.aK.length<=100) {dp:Nat} (hdp:1<=dp) (ih:∀ d,d+1=dp->a8J Tryz.prog 154 p ns ng np c pl d):bGI Tryz.prog 193 p ns ng np c pl dp:=by
 intro vars B a sd L hB1 hB2 hprog hv ha hL
 obtain⟨tP,bI,bJ,lH⟩:=cW (show ¬ns=ng from hne)
 refine jU 89 aI6 a02 a03 Tryz.func193 ?_
 simp -dsimp -implicitDefEqProofs only[go_sem,↓reduceIte,Tryz.f193,lE]
 intro n8 q8
 have a8:¬n8=ng:=by grind
 have b8:¬n8=ns:=by grind
 have z8:B n8=none:=by grind
 obtain⟨bC9,cJ,cK,qU⟩:=cW (show ¬n8=ng from a8)
 obtain⟨a0Z,bP,bQ,mN⟩:=cW (show ¬n8=ns from b8)
 simp -dsimp -implicitDefEqProofs only[go_sem,↓reduceIte,Tryz.f193,cJ,bP,cK,bJ,bQ,bI,aD,aO,lE,dA,dB,dC,dD,dF,dZ,dR,fQ,cE qU,cE mN,aL]
 rw[show ∀ H:aB,aT H ng (bU.row 4 [[Cell.v (aE.op ns 3 0 0),Cell.v (aE.op np 1 0 0),Cell.v (I L),Cell.v (aE.bool pl)]])=aT H ng (lE ns np L pl)from λ_=>rfl]
 refine⟨λh0=>?_,λh0=>?_⟩
 ·refine aH.fX (aZ5 (np:=np) (a:=a) (sd:=sd) (L:=L) (pl:=pl) (B:=aT B n8 (.row 5 [[.v (I 0),.v (I 0),.v (I 0),.v (I 0),.v .bS]])) hc hl hne vars aA aXX aXY aA) ?_
  rintro r_ h' ⟨k,n,a',sd',rfl,hkn,ha',rfl⟩
  simp -dsimp -implicitDefEqProofs only[go_sem,↓reduceIte,Tryz.f193,cJ,bP,cK,bJ,bQ,bI,aD,aO,cE qU,cE mN,aL]
  exact a3N (a:=a) (a':=a') (sd':=sd') hkn hB1 hB2 aA (by
   intro q_
   simp only[aO]
   grind)
 ·obtain⟨esF,oF,horF,hBp,honF,hBm⟩:=id hprog
  cases oF with
  |none=>exact absurd (by rw[honF rfl];rfl) h0
  |some mF =>
  have hBm:=hBm mF rfl
  have p1:¬np=ns:=λq=>by rw[q,hB1]at hBp;cases hBp
  have p2:¬np=ng:=λq=>by rw[q,hB2]at hBp;cases hBp
  have p3:¬np=n8:=λq=>by rw[q,z8]at hBp;cases hBp
  have m1:¬mF=ns:=λq=>by rw[q,hB1]at hBm;cases hBm
  have m2:¬mF=ng:=λq=>by rw[q,hB2]at hBm;cases hBm
  have m3:¬mF=n8:=λq=>by rw[q,z8]at hBm;cases hBm
  obtain⟨a04,fY,fZ,aB4⟩:=cW (show ¬np=ns from p1)
  obtain⟨bDB,kT,kU,a05⟩:=cW (show ¬np=ng from p2)
  obtain⟨bTI,zT,zU,bTJ⟩:=cW (show ¬np=n8 from p3)
  obtain⟨bTK,wF,wG,bTL⟩:=cW (show ¬mF=ns from m1)
  obtain⟨bTM,wH,wI,bTN⟩:=cW (show ¬mF=ng from m2)
  obtain⟨bTO,wJ,wK,bTP⟩:=cW (show ¬mF=n8 from m3)
  refine aH.fX (r5 (a:=a) (sd:=sd) hc hl aA p.aK.length aA aMZ) ?_
  rintro r_ h' ⟨x,a2,sd2,rfl,x0,x1,-,ha2,rfl⟩
  simp only[cE lH,aL]
  have x1:=x1 aA
  obtain⟨k,rfl⟩:∃ k:Nat,x=k:=⟨x.toNat,by omega⟩
  have hk:k<p.aK.length:=by omega
  have hf:p.aK[k]?=some p.aK[k]:=fC hk
  obtain⟨hf1,hf2⟩:=hP _ (lF hk)
  generalize p.aK[k]=f at hf hf1 hf2
  obtain⟨ef,hef,hfo⟩:=horF.bA0 k f hf
  obtain⟨y,rfl,hy⟩:=hfo
  obtain⟨n5,eo,rfl,hyR⟩:=hy.some aA
  have hcell:=aGB hef
  have hes:esF.length=p.aK.length:=horF.length.symm
  have hyl:eo.length=f.aU.length:=hyR.length.symm
  simp only[qR,w9,OV.nR,OV.wV]at hcell
  simp -dsimp -implicitDefEqProofs only[go_sem,↓reduceIte,Tryz.f193,cJ,bP,zU,cK,bJ,kU,bQ,bI,fZ,zT,kT,fY,cJ,bP,wK,cK,bJ,wI,bQ,bI,wG,wJ,wH,wF,aD,aO,dA,dB,dC,dD,dF,dZ,dR,fQ,lE,hBp,hBm,hcell,cN,cP]
  intro n9 q9
  have a9:¬n9=ng:=by grind
  have b9:¬n9=ns:=by grind
  have c9:¬n9=n8:=by grind
  have z9:B n9=none:=by grind
  have p4:¬np=n9:=λq=>by rw[q,z9]at hBp;cases hBp
  have m4:¬mF=n9:=λq=>by rw[q,z9]at hBm;cases hBm
  obtain⟨bDA,c4,c6,qT⟩:=cW (show ¬n9=ng from a9)
  obtain⟨a00,b7,cA,mM⟩:=cW (show ¬n9=ns from b9)
  obtain⟨aBQ,cB,cC,a01⟩:=cW (show ¬n9=n8 from c9)
  obtain⟨bTQ,aB5,aB6,bTR⟩:=cW (show ¬np=n9 from p4)
  obtain⟨bTS,zV,zW,bTT⟩:=cW (show ¬mF=n9 from m4)
  simp -dsimp -implicitDefEqProofs only[go_sem,↓reduceIte,Tryz.f193,cJ,bP,zU,cC,cK,bJ,kU,c6,bQ,bI,fZ,cA,zT,kT,fY,aB5,cB,c4,b7,aB6,cJ,bP,wK,cC,cK,bJ,wI,c6,bQ,bI,wG,cA,wJ,wH,wF,zV,cB,c4,b7,zW,aD,aO,dA,dB,dC,dD,dF,dZ,dR,fQ,lE,hBp,hBm,hcell,cN,cP,cE qT,cE mM,aL]
  rw[show ∀ H:aB,aT H ng (bU.row 4 [[Cell.v (aE.op ns 3 0 0),Cell.v (aE.op np 1 0 0),Cell.v (I L),Cell.v (aE.bool pl)]])=aT H ng (lE ns np L pl)from λ_=>rfl]
  refine⟨hk,λ_=>?_⟩
  refine aH.fX (r5 (a:=a2) (sd:=sd2) hc hl aA eo.length aA aMZ) ?_
  rintro r_ h' ⟨y,a3,sd3,rfl,y0,y1,-,ha3,rfl⟩
  have y1:=y1 aA
  simp only[cE lH,aL]
  simp -dsimp -implicitDefEqProofs only[go_sem,↓reduceIte,Tryz.f193,cJ,bP,zU,cC,cK,bJ,kU,c6,bQ,bI,fZ,cA,zT,kT,fY,aB5,cB,c4,b7,aB6,cJ,bP,wK,cC,cK,bJ,wI,c6,bQ,bI,wG,cA,wJ,wH,wF,zV,cB,c4,b7,zW,aD,aO,dA,dB,dC,dD,dF,dZ,dR,fQ,hBp,hBm,hcell,cN,cP,cE qT,cE mM,cE lH,aL]
  refine λ_=>?_
  apply a8N
  case m =>
   intro key
   refine⟨λh1=>?_,λh1=>?_⟩
   ·simp -dsimp -implicitDefEqProofs only[go_sem,↓reduceIte,Tryz.f193,cJ,bP,zU,cC,cK,bJ,kU,c6,bQ,bI,fZ,cA,zT,kT,fY,aB5,cB,c4,b7,aB6,cJ,bP,wK,cC,cK,bJ,wI,c6,bQ,bI,wG,cA,wJ,wH,wF,zV,cB,c4,b7,zW,aD,aO,dA,dB,dC,dD,dF,dZ,dR,fQ,lE,hBp,hBm,hcell,cN,cP]
    rw[show ∀ H:aB,aT H ng (bU.row 4 [[Cell.v (aE.op ns 3 0 0),Cell.v (aE.op np 1 0 0),Cell.v (I L),Cell.v (aE.bool pl)]])=aT H ng (lE ns np L pl)from λ_=>rfl]
    refine aH.fX (a64 (a:=a3) (sd:=sd3) hc hl aA 2 aA aMZ) ?_
    rintro r_ h' ⟨b,a4,sd4,rfl,ha4,rfl⟩
    simp only[cE lH,aL]
    cases b
    ·simp -dsimp -implicitDefEqProofs only[go_sem,↓reduceIte,Tryz.f193,cJ,bP,zU,cC,cK,bJ,kU,c6,bQ,bI,fZ,cA,zT,kT,fY,aB5,cB,c4,b7,aB6,cJ,bP,wK,cC,cK,bJ,wI,c6,bQ,bI,wG,cA,wJ,wH,wF,zV,cB,c4,b7,zW,aD,aO,dA,dB,dC,dD,dF,dZ,dR,fQ,cE qT,cE mM,cE lH,aL]
     refine cM aI6 a02 a03 (λx:CSt=>[(0,.op ng 4 0 0),(1,I vars),(2,I p.aK.length),(3,I dp),(8,.op n8 5 0 0),(9,.op n9 5 0 0),(10,.op mF 3 k 0),(11,I x.2.1)]) (λx=>aT (aT (aT (aT (cQ x.2.2.2.2.1 (.row 5 (OV.cells x.2.2.2.1)) x.2.2.2.2.2.1) n8 (vH 0 0 0 0 .bS)) n9 (vH x.1 k y x.2.2.2.2.2.2.2.2.2 (j7 5 x.2.1 x.2.2.2.2.2.1))) ns (jW c x.2.2.2.2.2.2.1 x.2.2.2.2.2.2.2.1)) ng (lE ns np x.2.2.2.2.2.2.2.2.1 pl)) (λx=>aLZ p f vars dp a L B ns ng n8 n9 x) (λx=>f.aR.toNat-x.2.1) (10,0,[],[],B,none,a4,sd4,L,0) ⟨by simp[cR,bZ],aB.le_refl _,by omega,eM _,rfl,trivial,fI.nil B,⟨hB1,hB2,z8,z9⟩,rfl,(λm e=>by cases e),(λj h=>by cases h),eM _,⟨aFS _,by simp[rX],by simp[rX]⟩,by simp[rX];omega⟩ ?_
     exact key.get
    ·simp -dsimp -implicitDefEqProofs only[go_sem,↓reduceIte,Tryz.f193,cJ,bP,zU,cC,cK,bJ,kU,c6,bQ,bI,fZ,cA,zT,kT,fY,aB5,cB,c4,b7,aB6,cJ,bP,wK,cC,cK,bJ,wI,c6,bQ,bI,wG,cA,wJ,wH,wF,zV,cB,c4,b7,zW,aD,aO,dA,dB,dC,dD,dF,dZ,dR,fQ,lE,cE qT,cE mM,cE lH,aL]
     rw[show ∀ H:aB,aT H ng (bU.row 4 [[Cell.v (aE.op ns 3 0 0),Cell.v (aE.op np 1 0 0),Cell.v (I L),Cell.v (aE.bool pl)]])=aT H ng (lE ns np L pl)from λ_=>rfl]
     refine aH.fX (r5 (a:=a4) (sd:=sd4) hc hl aA 4 aA aMZ) ?_
     rintro r_ h' ⟨cnt,a5,sd5,rfl,c0,c1,-,ha5,rfl⟩
     have c1:=c1 aA
     simp only[cE lH,aL]
     simp -dsimp -implicitDefEqProofs only[go_sem,↓reduceIte,Tryz.f193,cJ,bP,zU,cC,cK,bJ,kU,c6,bQ,bI,fZ,cA,zT,kT,fY,aB5,cB,c4,b7,aB6,cJ,bP,wK,cC,cK,bJ,wI,c6,bQ,bI,wG,cA,wJ,wH,wF,zV,cB,c4,b7,zW,aD,aO,dA,dB,dC,dD,dF,dZ,dR,fQ,cE qT,cE mM,cE lH,aL]
     refine cM aI6 a02 a03 (λx:CSt=>[(0,.op ng 4 0 0),(1,I vars),(2,I p.aK.length),(3,I dp),(8,.op n8 5 0 0),(9,.op n9 5 0 0),(10,.op mF 3 k 0),(11,I x.2.1)]) (λx=>aT (aT (aT (aT (cQ x.2.2.2.2.1 (.row 5 (OV.cells x.2.2.2.1)) x.2.2.2.2.2.1) n8 (vH 0 0 0 0 .bS)) n9 (vH x.1 k y x.2.2.2.2.2.2.2.2.2 (j7 5 x.2.1 x.2.2.2.2.2.1))) ns (jW c x.2.2.2.2.2.2.1 x.2.2.2.2.2.2.2.1)) ng (lE ns np x.2.2.2.2.2.2.2.2.1 pl)) (λx=>aLZ p f vars dp a L B ns ng n8 n9 x) (λx=>f.aR.toNat-x.2.1) (11,0,[],[],B,none,a5,sd5,L,cnt) ⟨by simp[cR,bZ],aB.le_refl _,by omega,eM _,rfl,trivial,fI.nil B,⟨hB1,hB2,z8,z9⟩,rfl,(λm e=>by cases e),(λj h=>by cases h),eM _,⟨aFS _,by simp[rX],by simp[rX]⟩,by simp[rX];omega⟩ ?_
     exact key.get
   ·refine cM aI6 a02 a03 (λx:CSt=>[(0,.op ng 4 0 0),(1,I vars),(2,I p.aK.length),(3,I dp),(8,.op n8 5 0 0),(9,.op n9 5 0 0),(10,.op mF 3 k 0),(11,I x.2.1)]) (λx=>aT (aT (aT (aT (cQ x.2.2.2.2.1 (.row 5 (OV.cells x.2.2.2.1)) x.2.2.2.2.2.1) n8 (vH 0 0 0 0 .bS)) n9 (vH x.1 k y x.2.2.2.2.2.2.2.2.2 (j7 5 x.2.1 x.2.2.2.2.2.1))) ns (jW c x.2.2.2.2.2.2.1 x.2.2.2.2.2.2.2.1)) ng (lE ns np x.2.2.2.2.2.2.2.2.1 pl)) (λx=>aLZ p f vars dp a L B ns ng n8 n9 x) (λx=>f.aR.toNat-x.2.1) (10,0,[],[],B,none,a3,sd3,L,0) ⟨by simp[cR,bZ],aB.le_refl _,by omega,eM _,rfl,trivial,fI.nil B,⟨hB1,hB2,z8,z9⟩,rfl,(λm e=>by cases e),(λj h=>by cases h),eM _,⟨aFS _,by simp[rX],by simp[rX]⟩,by simp[rX];omega⟩ ?_
    exact key.get
  case t =>
   rintro⟨K,i,kids,es,g1,o,a3,sd3,L3,cnt⟩ hgg
   obtain⟨hK,hi,hlen,hor,hnew,⟨zs,zg,z18,z19⟩,hgs,hon,hok,hdl,hL3,ha3⟩:=id hgg
   simp only at hi hlen hor hnew zs zg z18 z19 hgs hon hok hdl hL3 ha3 hK ⊢
   have wd:IntKind.i64.wrap ((dp:Int)-1)=((dp-1:Nat):Int):=by rw[IntWalk.i64_in _ aA];omega
   have bAB:mL L<=1000:=by unfold mL;omega
   have hGm:=hnew.keep hBm
   have hom:∀ R,cQ g1 R o mF=some (.row 3 (OV.cells esF)):=by
    intro R
    cases o with
    |none=>exact hGm
    |some m5 =>
     rw[kC]at hgs
     rw[aJ,aD _ _ _ _ (λq=>by rw[←q,hGm]at hgs;cases hgs)]
     exact hGm
   unfold vH
   simp -dsimp -implicitDefEqProofs only[go_sem,↓reduceIte,Tryz.f193,cJ,bP,cC,cK,bJ,c6,bQ,bI,cA,cB,c4,b7,cJ,bP,wK,cC,cK,bJ,wI,c6,bQ,bI,wG,cA,wJ,wH,wF,zV,cB,c4,b7,zW,aD,aO,dA,dB,dC,dD,dF,dZ,dR,fQ,wd,hom,hcell]
   refine⟨λhlt=>?_,λhge=>⟨oW ..,?_⟩⟩
   ·have hV:vars=vars:=rfl
    cases o with
    |none =>
     rw[mQ]at hgs
     subst hgs
     obtain rfl:kids=[]:=aHR.1 hor.length
     obtain rfl:i=0:=hlen.symm
     simp only[aM,nE]
     refine aH.fX (ih (dp-1) aA vars _ a3 sd3 L3 aXQ aXS (hprog.le (aB.bM z9 (aB.bM z8 hnew.le))) ⟨by omega,by omega,by omega⟩) ?_
     rintro r_ h' ⟨x5,e5,g',a5,sd5,L5,hx,rfl,hnw,⟨y1,y2⟩,rfl,aJN,hd5,hL5,ha5⟩
     obtain⟨g5,rfl,w5,z58,z59⟩:=fI.aC7 z18 aXZ hnw
     simp only[aO,cJ,bP,cC,cK,bJ,c6,bQ,bI,cA,cB,c4,b7,if_false]at y1 y2 z59
     have hx5:=hx
     rw[aC.u5]at hx
     obtain⟨y4,rfl,os4⟩:=hx
     simp -dsimp -implicitDefEqProofs only[go_sem,↓reduceIte,Tryz.f193,cJ,bP,cC,cK,bJ,c6,bQ,bI,cA,cB,c4,b7,aD,aO,dA,dB,dC,dD,dF,dZ,dR,fQ,OV.iR,OV.dP,OV.nR,os4.flat,os4.one]
     have ht:=eQ []
     refine⟨by decide,by decide,by decide,λm qm=>?_⟩
     have am:¬m=ns:=by grind
     have bm:¬m=ng:=by grind
     have cm:¬m=n8:=by grind
     have em:¬m=n9:=by grind
     have dm:g5 m=none:=by grind
     skip
     obtain⟨oN,fK,fL,oO⟩:=cW (show ¬m=ns from am)
     obtain⟨vD,jC,jD,vE⟩:=cW (show ¬m=ng from bm)
     obtain⟨zN,kL,kM,zO⟩:=cW (show ¬m=n8 from cm)
     obtain⟨zP,kN,kO,zQ⟩:=cW (show ¬m=n9 from em)
     simp -dsimp -implicitDefEqProofs only[go_sem,↓reduceIte,Tryz.f193,cJ,bP,cC,kM,cK,bJ,c6,jD,bQ,bI,cA,fL,cB,c4,b7,kO,kL,jC,fK,kN,aD,aO,dA,dB,dC,dD,dF,dZ,dR,fQ]
     refine⟨(K,0+1,[]++[x5],[]++[[.v (.int .i64 x5.aS),.v (.int .i64 x5.bA),.v (.int .i64 x5.cV),.v (.int .i64 x5.cH),y4]],g5,some m,a5,sd5,L5,cnt),IntWalk.i64_in _ aA,?_,hgg.next hlt hx5 w5 ⟨y1,y2,z58,z59⟩ dm ⟨am,bm,cm,em⟩ aGZ aA hL5 ha5,by simp only;omega⟩
     intro q_
     simp only[aO,aJ,cN,jM,eQ,cP,kZ,k7,OV.iR,OV.dP,OV.nR,dZ,qR,w9,ht]
     grind
    |some m0 =>
     rw[kC]at hgs
     obtain⟨hm1,hm2,hm3,hm4⟩:=hon m0 rfl
     obtain⟨aB2,iS,iT,yE⟩:=cW (show ¬m0=ns from hm1)
     obtain⟨aQT,mW,mX,aH8⟩:=cW (show ¬m0=ng from hm2)
     obtain⟨aI4,kP,kQ,aD5⟩:=cW (show ¬m0=n8 from hm3)
     obtain⟨aI5,kR,kS,aD2⟩:=cW (show ¬m0=n9 from hm4)
     have hBm:B m0=none:=by
      cases hb:B m0 with
      |none=>rfl
      |some v=>have:=hnew.keep hb;rw[hgs]at this;cases this
     simp only[aJ,cN]
     refine aH.fX (ih (dp-1) aA vars _ a3 sd3 L3 aXN aXO (hprog.le (aB.bM z9 (aB.bM z8 (aB.bM hBm hnew.le)))) ⟨by omega,by omega,by omega⟩) ?_
     rintro r_ h' ⟨x5,e5,g',a5,sd5,L5,hx,rfl,hnw,⟨y1,y2⟩,rfl,aJN,hd5,hL5,ha5⟩
     obtain⟨g5,rfl,w5,z50,z58,z59⟩:=fI.aOY hgs aX0 aXP hnw
     simp only[aO,cJ,bP,cC,kQ,cK,bJ,c6,mX,bQ,bI,cA,iT,cB,c4,b7,kS,kP,mW,iS,kR,if_false]at y1 y2 z58 z59
     have hx5:=hx
     rw[aC.u5]at hx
     obtain⟨y4,rfl,os4⟩:=hx
     simp -dsimp -implicitDefEqProofs only[go_sem,↓reduceIte,Tryz.f193,cJ,bP,cC,kQ,cK,bJ,c6,mX,bQ,bI,cA,iT,cB,c4,b7,kS,kP,mW,iS,kR,aD,aO,dA,dB,dC,dD,dF,dZ,dR,fQ,OV.iR,OV.dP,OV.nR,os4.flat,os4.one,cP]
     have ht:List.take i (OV.cells es)=OV.cells es:=hJ aRO
     refine⟨by decide,by decide,by decide,by have:=hor.length;omega,by omega,by omega,λm qm=>?_⟩
     have am:¬m=ns:=by grind
     have bm:¬m=ng:=by grind
     have cm:¬m=n8:=by grind
     have em:¬m=n9:=by grind
     have dm:g5 m=none:=by grind
     have fm:¬m=m0:=xD;have zR:=eq_false fm;have zS:=eq_false (iK fm);have aQU:=fm;have aQV:=iK fm
     obtain⟨oN,fK,fL,oO⟩:=cW (show ¬m=ns from am)
     obtain⟨vD,jC,jD,vE⟩:=cW (show ¬m=ng from bm)
     obtain⟨zN,kL,kM,zO⟩:=cW (show ¬m=n8 from cm)
     obtain⟨zP,kN,kO,zQ⟩:=cW (show ¬m=n9 from em)
     simp -dsimp -implicitDefEqProofs only[go_sem,↓reduceIte,Tryz.f193,cJ,bP,cC,kM,cK,bJ,c6,jD,bQ,bI,cA,fL,cB,c4,b7,kO,kL,jC,fK,kN,zR,kL,kN,jC,fK,zS,kP,kR,mW,iS,kM,kQ,cC,cJ,bP,kO,kS,cB,c4,b7,jD,mX,cK,c6,bJ,fL,iT,bQ,cA,bI,aD,aO,dA,dB,dC,dD,dF,dZ,dR,fQ]
     refine⟨(K,i+1,kids++[x5],es++[[.v (.int .i64 x5.aS),.v (.int .i64 x5.bA),.v (.int .i64 x5.cV),.v (.int .i64 x5.cH),y4]],g5,some m,a5,sd5,L5,cnt),IntWalk.i64_in _ aA,?_,hgg.next hlt hx5 w5 ⟨y1,y2,z58,z59⟩ dm ⟨am,bm,cm,em⟩ aGZ aA hL5 ha5,by simp only;omega⟩
     intro q_
     simp only[aO,aJ,cN,jM,eQ,cP,kZ,k7,OV.iR,OV.dP,OV.nR,dZ,qR,w9,ht]
     grind
   ·have hi2:(i:Int)=f.aR:=by omega
    have y8:cQ g1 (.row 5 (OV.cells es)) o n8=none:=kG z18 λm e=>(hon m e).2.2.1
    have y9:cQ g1 (.row 5 (OV.cells es)) o n9=none:=kG z19 λm e=>(hon m e).2.2.2
    exact a3O hf hf1 ⟨y0,by omega⟩ hgg hi2 (by
     intro q_
     simp only[aO]
     grind)
theorem bQM {p:aF} {ns ng np:Nat} {c:List Int} {pl:Bool} (hc:∀ x∈c,InB x) (hl:c.length<=4096) (hne:¬ns=ng) (hP:zM p) (hpl:p.aK.length<=100) (dp:Nat):a8J Tryz.prog 154 p ns ng np c pl dp:=by
 induction dp with
 |zero=>exact aLY hc hl hne hP (λd h=>by omega) (λh=>by omega)
 |succ d ih =>
  have hd:∀ d',d'+1=d+1->a8J Tryz.prog 154 p ns ng np c pl d':=λd' h=>by
   cases h
   exact ih
  exact aLY hc hl hne hP hd (λ_=>aWZ hc hl hne hP hpl aA hd)
def aQW:List (List UInt8):=[[102],[103],[115,116,101,112],[104,50]]
def aDN (p:aF) (k:Nat) (f:aV):Prop:=(∃ w∈aQW,f.lD=w++Go.Lib.itoa k)/\(1<=f.aR/\f.aR<=3)/\(1<=f.aU.length/\f.aU.length<=3)/\∀ e∈f.aU,e.s<=39/\e.d<=6/\e.ok p k f.aR
def aCU (fs:List aV):Prop:=∀ (j:Nat) (f:aV),fs[j]?=some f->aDN ⟨fs⟩ j f
theorem a3P {p q:aF} {m:Nat} (hpq:∀ j,j<m->q.aK[j]?=p.aK[j]?) {e:aC} {vars:Int} (h:mR p e vars m):mR q e vars m:=by
 unfold mR at h ⊢
 split
 ·rename_i hk
  rw[if_pos hk]at h
  exact⟨h.1,h.2.1,λf ef=>h.2.2 f (by rw[hpq _ aA]at ef;exact ef)⟩
 ·rename_i hk
  rw[if_neg hk]at h
  exact h
theorem aC.bGL {p q:aF} {m:Nat} (hpq:∀ j,j<m->q.aK[j]?=p.aK[j]?) (e:aC) (vars:Int) (h:e.ok p m vars):e.ok q m vars:=by
 have h1:=(aC.dK _ _ _ _).1 h
 refine(aC.dK _ _ _ _).2 ⟨a3P hpq h1.1,λj hj=>?_⟩
 have hs:=aC.aM0 (lF hj)
 exact aC.bGL hpq e.aN[j] _ (h1.2 j hj)
termination_by e.s
theorem aCU.snoc {fs:List aV} (h:aCU fs) {f:aV} (hf:aDN ⟨fs⟩ fs.length f):aCU (fs++[f]):=by
 have up:∀ {k:Nat} {g:aV},k<=fs.length->aDN ⟨fs⟩ k g->aDN ⟨fs++[f]⟩ k g:=λ{k g} hk ⟨h1,h2,h3,h4⟩=>⟨h1,h2,h3,λe he=>⟨(h4 e he).1,(h4 e he).2.1,aC.bGL (λj hj=>by simp only[aF.aK];rw[uP aA]) e _ (h4 e he).2.2⟩⟩
 intro j g hg
 rcases bT j fs.length with h1|h1
 ·rw[uP h1]at hg
  exact up aA (h j g hg)
 ·have hj:j<(fs++[f]).length:=by rcases bT j (fs++[f]).length with q|q;exact q;rw[aJE q]at hg;cases hg
  rw[nT,nN]at hj
  obtain rfl:j=fs.length:=by omega
  rw[yD (bY _),sP]at hg
  cases hg
  exact up (bY _) hf
theorem aCU.get {fs:List aV} (h:aCU fs) {f:aV} (hf:f∈fs):∃ j,j<fs.length/\fs[j]?=some f/\aDN ⟨fs⟩ j f:=by
 obtain⟨j,hj,e⟩:=aCE.1 hf
 have e2:fs[j]?=some f:=by rw[fC hj,e]
 exact⟨j,hj,e2,h j f e2⟩
theorem aCU.a06 {fs:List aV} (h:aCU fs):zM ⟨fs⟩:=λf hf=>by
 obtain⟨j,-,-,hg⟩:=h.get hf
 exact⟨hg.2.1,hg.2.2.1⟩
theorem aUO {k:Nat} (h:k<=2):∃ c:UInt8,Go.Lib.itoa k=[c]/\Dig c/\c.toNat=48+k:=by
 refine⟨UInt8.ofNat (48+k),by rw[a65 _ aA,r8,bCA aA],?_⟩
 match k,h with
 |0,_=>exact⟨⟨by decide,by decide⟩,rfl⟩
 |1,_=>exact⟨⟨by decide,by decide⟩,rfl⟩
 |2,_=>exact⟨⟨by decide,by decide⟩,rfl⟩
theorem OV.aHP {x:OV} {p:Nat×bU} (hp:p∈x.rows):∀ {e:List OV},x∈e->p∈OV.b5 e
 |y::e,h=>by
  rw[OV.eP]
  rcases pP.1 h with rfl|h
  ·exact aAK _ hp
  ·exact xA _ (OV.aHP hp h)
theorem OV.aFG {x:OV} {e:List OV} {p:Nat×bU} (hx:x∈e) (hp:p∈x.rows):∀ {es:List (List OV)},e∈es->p∈OV.bF es
 |y::es,h=>by
  rw[OV.bF]
  rcases pP.1 h with rfl|h
  ·exact aAK _ (OV.aHP hp hx)
  ·exact xA _ (OV.aFG hx hp h)
theorem aB.a8O {h:aB} {b sz:Nat} {es:List (List OV)} (hb:h b=some (.row sz (OV.cells es))) (ho:qO h (OV.bF es)) (hnb:b∉bC (OV.bF es)) :
  (aT (iX h (bC (OV.bF es))) b (.row sz ((es.map (List.map OV.pX)).map (List.map .v)))).wk h:=λE w R=>by
 have R1:=R.iX (bC (OV.bF es))
 have qP:iX h (bC (OV.bF es)) b=some (.row sz (OV.cells es)):=by rw[kY hnb];exact hb
 have h0:∀ b,oU E h w b->oU E (iX h (bC (OV.bF es))) w b:=λb=>qK _ b
 have hun:∀ i j x v,iU es i j=some x->fG E h w x.val v->fG E (iX h (bC (OV.bF es))) w x.pX v:=λi j x v hx hr=>by
  obtain⟨e,e1,e2⟩:=lC hx
  have hsub:∀ p∈x.rows,p∈OV.bF es:=λp hp=>OV.aFG (s5 e2) hp (s5 e1)
  exact fG.aCN R x (λp hp=>ho p (hsub p hp)) (λp hp=>dH.2 ⟨p.2,hsub p hp⟩) v hr
 have hat:∀ i j,iU ((es.map (List.map OV.pX)).map (List.map Cell.v)) i j=(iU es i j).map λx=>Cell.v x.pX:=λi j=>by rw[nQ,nQ,Option.map_map];rfl
 have bQN:∀ i j,iU (OV.cells es) i j=(iU es i j).map λx=>Cell.v x.val:=λi j=>nQ _ _ _ _
 have hlen:((es.map (List.map OV.pX)).map (List.map Cell.v)).length=(OV.cells es).length:=by rw[gX,gX,cP]
 generalize iX h (bC (OV.bF es))=h1 at *
 have live:∀ q o,aT h1 b (.row sz ((es.map (List.map OV.pX)).map (List.map .v))) q=some o->∃ o',h1 q=some o'/\(o.live->o'.live):=λq o ho=>by
  by_cases e:q=b
  ·subst e;exact⟨_,qP,λ_=>trivial⟩
  ·rw[aD _ _ _ _ e]at ho;exact⟨o,ho,id⟩
 have pV:∀ q,oU E h1 w q->oU E (aT h1 b (.row sz ((es.map (List.map OV.pX)).map (List.map .v)))) w q:=λq i=>⟨i.1,λn o ho hl=>by
  obtain⟨o',h1,h2⟩:=live n o ho;exact i.2 n o' h1 (h2 hl)⟩
 refine⟨⟨R1.fin,λn hn=>R1.dom n λe=>?_,λn o c hn hl=>?_,λn o n' o' c hn hl hn' hl'=>?_,λn o hn=>?_,R1.laid.pV pV⟩,λq i=>pV q (h0 q i)⟩
 ·by_cases e2:n=b
  ·subst e2;rw[qP]at e;cases e
  ·rw[aD _ _ _ _ e2]at hn;exact hn e
 ·obtain⟨o2,h1,h2⟩:=live n o hn
  exact R1.lt n o2 c h1 (h2 hl)
 ·obtain⟨o2,h1,h2⟩:=live n o hn
  obtain⟨o3,h3,h4⟩:=live n' o' hn'
  exact R1.apart n o2 n' o3 c h1 (h2 hl) h3 (h4 hl')
 ·by_cases e:n=b
  ·subst e
   rw[aI]at hn
   obtain rfl:=gO hn
   rcases R.obj n _ hb with⟨k,o2,hlc,ra⟩|⟨he,hlc⟩
   ·refine .inl ⟨k,o2,hlc,ra.hb,λe he=>?_,?_⟩
    ·obtain⟨e1,h3,rfl⟩:=lZ.1 he
     obtain⟨e2,h4,rfl⟩:=lZ.1 h3
     have:=ra.size (e2.map λc=>Cell.v c.val) (List.mem_map_of_mem h4)
     rw[gX]at this
     rw[gX,gX];exact this
    obtain⟨cs,t,cv,T,g1,g2,g3,g4,g5,g6⟩:=ra.mem
    refine⟨cs,t,cv,T,g1,by rw[hlen];exact g2,g3,g4,λi j x hx=>?_,λi j x hx=>?_⟩
    ·rw[hat]at hx
     obtain⟨y,hy,rfl⟩:=r7.1 hx
     exact g5 i j (.v y.val) (by rw[bQN,hy];rfl)
    ·rw[hat]at hx
     obtain⟨y,hy,rfl⟩:=r7.1 hx
     have hr:=g6 i j (.v y.val) (by rw[bQN,hy];rfl)
     cases hr with
     |v _ _ _ k1 k2=>exact .v _ _ _ k1 ((hun i j y _ hy k2).pV pV)
   ·have h5:es=[]:=by
     cases es with
     |nil=>rfl
     |cons e es=>simp[OV.cells]at he
    subst h5
    exact .inr ⟨rfl,hlc⟩
  ·rw[aD _ _ _ _ e]at hn
   exact(R1.obj n o hn).pV pV
theorem a8P {B g':aB} {l:List (Nat×bU)} {ns ng:Nat} {X Y:bU} (w:fI B l g') (z:g' ns=none) (z2:g' ng=none):(aT (aT B ns X) ng Y).le (iX (aT (aT g' ns X) ng Y) (bC l)):=λm=>by
 by_cases e2:m∈bC l
 ·obtain⟨o,ho⟩:=dH.1 e2
  have:=w.oC _ ho
  simp only at this
  have e3:¬m=ns:=λe=>by rw[e,z]at this;cases this
  have e4:¬m=ng:=λe=>by rw[e,z2]at this;cases this
  rw[aD _ _ _ _ e4,aD _ _ _ _ e3];exact .inl (w.fresh m e2)
 ·rw[kY e2]
  by_cases e4:m=ng
  ·rw[e4,aI,aI];exact .inr rfl
  rw[aD _ _ _ _ e4,aD _ _ _ _ e4]
  by_cases e3:m=ns
  ·rw[e3,aI,aI];exact .inr rfl
  rw[aD _ _ _ _ e3,aD _ _ _ _ e3,w.upto m e2];exact .inr rfl
theorem iD.bDC {P:Program} {f:FuncId} {args:List aE} {h:aB} {K K':aE->aB->Prop} (a:iD P f args h K) (hK:∀ r h',K r h'->∃ r1 g1,Shift r h' r1 g1/\K' r1 g1):iD P f args h K':=by
 refine⟨a.1,λE w vs R hv=>Calls.mono (a.2 E w vs R hv) λe w' he=>?_⟩
 cases e <;> try exact he
 obtain⟨r,h',E',k,ev,R',rx⟩:=he
 obtain⟨r1,g1,s,k1⟩:=hK r h' k
 obtain⟨E2,ev2,R2,rx2⟩:=s E' w' _ R' rx
 exact⟨r1,g1,E2,k1,ev.trans ev2,R2,rx2⟩
theorem bW8 {p:aF} {ns ng np:Nat} {c:List Int} {pl:Bool} (hc:∀ x∈c,InB x) (hl:c.length<=4096) (hne:¬ns=ng) (hP:zM p) (hpl:p.aK.length<=100) (dp:Nat) (vars:Int) {B:aB} {a:Nat} {sd L:Int} (h1:B ns=none) (h2:B ng=none) (h3:aBJ p np B) (h4:a8I dp a vars L) :
  iD Tryz.prog 154 [.op ng 4 0 0,I vars,I p.aK.length,I dp] (aT (aT B ns (jW c a sd)) ng (lE ns np L pl)) λr h'=>∃ (x:aC) (a':Nat) (sd' L':Int),r=.agg x.c/\h'=aT (aT B ns (jW c a' sd')) ng (lE ns np L' pl)/\x.s<=3*mL L/\(a<=a'/\a'<=a+14*(x.s+1)) :=
 (bQM (pl:=pl) hc hl hne hP hpl dp vars B a sd L h1 h2 h3 h4).bDC λr h' ⟨x,e,g',a',sd',L',ho,hr,hw,⟨z1,z2⟩,hh,hok,hd,hL,ha⟩=>by
  subst hr hh
  refine⟨_,_,Shift.own (h:=aT (aT B ns (jW c a' sd')) ng (lE ns np L' pl)) e (λq hq=>?_) (a8P hw z1 z2),x,a',sd',L',by rw[aC.aS9 ho],rfl,by omega,ha⟩
  have:=hw.oC q hq
  rw[aD _ _ _ _ (λe=>by rw[e,z2]at this;cases this),aD _ _ _ _ (λe=>by rw[e,z1]at this;cases this)];exact this
theorem aOB (k n:Int):Sub (.agg [I k,I n,I 0,I 0,.bS]) (.agg (aC.mk k n 0 0 []).c):=by
 rw[aC.aY]
 exact Sub.agg (.cons (.refl _) (.cons (.refl _) (.cons (.refl _) (.cons (.refl _) (.cons (Sub.nil 5 false) .nil)))))
theorem aQX (n:Int):fR Tryz.prog 158 [I n] (.agg (aC.mk 1 n 0 0 []).c):=by
 refine mP 5 aBA cU cG Tryz.func158 λh=>?_
 simp -dsimp -implicitDefEqProofs only[go_sem,↓reduceIte,Tryz.f158]
 exact λm hm=>Shift.of (aOB 1 n) (by rw[aL];exact aB.bM hm (aB.le_refl _))
theorem aQY (n:Int):fR Tryz.prog 159 [I n] (.agg (aC.mk 2 n 0 0 []).c):=by
 refine mP 5 aBA cU cG Tryz.func159 λh=>?_
 simp -dsimp -implicitDefEqProofs only[go_sem,↓reduceIte,Tryz.f159]
 exact λm hm=>Shift.of (aOB 2 n) (by rw[aL];exact aB.bM hm (aB.le_refl _))
@[go_sem] def bDD:List Nat:=[0,1,2,4,5,6]
@[go_sem] def bQO:List Nat:=[4,5,10]
theorem bGM (k:Int) (x y:aC):fR Tryz.prog 157 [I k,.agg x.c,.agg y.c] (.agg (aC.mk k 0 0 0 [x,y]).c):=by
 rw[aC.aY (.mk k 0 0 0 [x,y])]
 simp only[aC.aN,gT,qR,w9,aC.aS,aC.bA,aC.cV,aC.cH]
 rw[aC.aY x,aC.aY y]
 refine mP 12 bDD bQO cG Tryz.func157 λh=>?_
 simp -dsimp -implicitDefEqProofs only[go_sem,↓reduceIte,Tryz.f157]
 exact λn hn=>⟨by decide,by decide,Shift.of (Sub.agg (.cons (.refl _) (.cons (.refl _) (.cons (.refl _) (.cons (.refl _) (.cons (Sub.loose _ _ _) .nil)))))) (by rw[aL];exact aB.bM hn (aB.le_refl _))⟩
end Go.Hl

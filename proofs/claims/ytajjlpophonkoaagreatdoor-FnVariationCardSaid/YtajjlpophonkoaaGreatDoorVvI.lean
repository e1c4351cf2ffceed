/-
  Contracts of functions and laws of the layer over the walk.
-/
import Derived.Test.YtajjlpophonkoaaGreatDoorVvH
import Derived.Test.YtajjlpophonkoaaGreatDoorVvA
import Derived.Test.YtajjlpophonkoaaGreatDoorVvE
import Derived.Test.YtajjlpophonkoaaGreatDoorVvC
import Derived.Test.YtajjlpophonkoaaGreatDoorVvG
import Derived.Test.YtajjlpophonkoaaGreatDoorVvF
namespace Go.Hl
set_option maxRecDepth 100000
open Go.Proofs
set_option linter.unusedVariables false
set_option linter.unusedSimpArgs false
theorem a13 {h:aE} {nb d:Nat} {X X' R:bE} (d2:¬d=nb):(aR (aR h d R) nb X').le (aR (aR (aR h nb X) d R) nb X'):=λq=>by
 simp only[aG]
 grind
theorem aFS {h:aE} {m nb d:Nat} {X X' R R0:bE} (h0:h m=none) (d2:¬d=nb) (d3:¬d=m) (d4:¬m=nb):(aR (aR h d R) nb X').le (aR (aR (aR (aR (aR h m R0) nb X) m .gone) d R) nb X'):=λq=>by
 simp only[aG]
 grind
@[go_sem] def aYA:List Nat:=[0,1,2,3,6,7,8,9,10,55,77]
@[go_sem] def bJA:List Nat:=[3,68,91]
@[go_sem] def bJB:Marks:=λid=>match id with|1=>([],(.op 0 (.op 1 (.op 2 (.op 3 (.op 4 (.op 5 (.op 6 (.op 7 (.op 8 (.op 9 .nil)))))))))),[])|2=>([29,30],(.op 0 (.op 1 (.op 2 (.op 3 (.op 4 (.op 5 (.op 6 (.op 7 (.op 8 (.op 9 (.op 10 (.op 11 (.op 12 (.op 13 (.op 14 (.op 15 (.op 16 (.op 17 (.op 18 (.op 19 (.op 20 (.op 21 (.op 22 (.op 23 (.op 24 (.op 25 (.op 26 (.op 27 (.op 28 (.op 29 (.op 30 .nil))))))))))))))))))))))))))))))),[])|6=>([1,11,13],(.op 0 (.op 2 (.op 3 (.op 4 (.op 5 (.op 6 (.op 7 (.op 8 (.op 9 (.op 10 (.op 1 (.op 11 (.op 12 (.op 13 .nil)))))))))))))),[])|10=>([1,12,14],(.op 0 (.op 2 (.op 3 (.op 4 (.op 5 (.op 6 (.op 7 (.op 8 (.op 9 (.op 10 (.op 11 (.op 1 (.op 12 (.op 13 (.op 14 .nil))))))))))))))),[])|_=>([],.nil,[])
set_option maxHeartbeats 1000000 in
theorem bOL {p:aC} (hp:p.ok) {funcs:Int} (hf:funcs<=p.aD.length) (e:aB) (hk:e.aP=10∨e.aP=11) (ih:∀ x∈e.aL,aB1 p funcs x) (v s:List Int) (c:Int) (hls:s.length=v.length) (hok:e.ok p funcs v.length) (hv:v.length+e.s<=1000000) (hc:0<=c/\c+2*e.s<=1000000):fM Tryz.prog 166 [nmS c v s,.ip 1 [p.c] 0 0,.ip 5 [e.c] 0 0] (.agg (rU (oN p) p.aD.length e v s c).c):=by
 obtain⟨G,Fc⟩:=nD hp hok hf hk
 have hsl:=lN e
 have oks:=cO hok aA
 have hpl':=λk (h:k<e.aL.length)=>uO (p:=p) (funcs:=funcs) e.aL[k] v s c hls (oks _ (eI h)) a6R a6R
 have hd:=λk (h:k<e.aL.length)=>ih _ (eI h) v s c hls (oks _ (eI h)) a6R a6R
 have hnode:=((aB.cN _ _ _ _).1 hok).1
 have hout:oN p e.aW=(G.aN.length:Int):=by rw[oN,Fc.eq]
 have hpl:=hp.1
 rw[pE,slN,if_neg aA,if_neg aA,if_neg aA,if_neg aA,if_neg aA,if_neg aA,if_neg aA,hout]
 have w1:IntKind.i64.wrap (p.aD.length+e.aW)=p.aD.length+e.aW:=by have:=Fc.lo;have:=Fc.hi;rw[IntWalk.i64_in _ aA]
 have w2:IntKind.i64.wrap (e.bR+G.aN.length)=e.bR+G.aN.length:=by have:=Fc.pk;have:=Fc.pk2;have:=Fc.outs;rw[IntWalk.i64_in _ aA]
 have eG:=Fc.get
 obtain⟨L,hL⟩:∃ L,L=(e.aL.map λx=>qI x v c)++e.aL.map λx=>rU (oN p) p.aD.length x v s c:=⟨_,rfl⟩
 rw[←hL]
 have hLl:L.length=e.aL.length+e.aL.length:=by rw[hL,mV,nG,nG]
 have hL1:∀ k (h:k<e.aL.length),L[k]'aA=qI e.aL[k] v c:=λk h=>by
  simp only[hL];rw[a6C (by rw[nG];exact h),r8]
 have hL2:∀ k (h:k<e.aL.length),L[e.aL.length+k]'aA=rU (oN p) p.aD.length e.aL[k] v s c:=λk h=>by
  simp only[hL];rw[a6D a62,r8];simp only[nG,bDL]
 clear hL
 simp only[aC.aS]at hd ⊢
 rw[aB.aS e]
 refine iN 95 aYA bJA bJB Tryz.func166 λh=>?_
 simp -dsimp -implicitDefEqProofs only[go_sem,↓reduceIte,Tryz.f166,w1,w2,eG,aU.aS,aO]
 refine λb hb=>⟨Fc.lo,Fc.hi,λnb hnb=>?_⟩
 obtain⟨kY,dO,dP,mY⟩:=bB (show ¬nb=b from hnb.1)
 obtain⟨HA,hHA⟩:∃ H:aE,H=aR h b (.row 5 [[.v (I 0),.v (I 0),.v (I 0),.v (I 0),.v .bD]]):=⟨_,rfl⟩
 rw[←hHA]
 have A1:HA b=some (.row 5 [[.v (I 0),.v (I 0),.v (I 0),.v (I 0),.v .bD]]):=by rw[hHA];exact aM ..
 have A2:HA nb=none:=by rw[hHA,aI _ _ _ _ kY];exact hnb.2
 have A3:∀ q,HA q=none->¬q=b/\h q=none:=λq hq=>by rw[hHA]at hq;simp only[aG]at hq;exact wF hq
 have A4:h.le HA:=by rw[hHA];exact aE.bP hb (aE.le_refl _)
 clear hHA
 refine cZ aYA bJA bJB (λx:Nat×Option Nat=>[(1,.ip 1 [[fN 3 aU.c p.aD]] 0 0),(2,.ip 5 [[I e.aP,I e.aW,I e.bR,I e.bI,fN 5 aB.c e.aL]] 0 0),(3,.ip 3 [[ints v,ints s,I c]] 0 0),(6,.op b 5 0 0),(8,.op nb 5 0 0),(9,I x.1)]) (λx=>aR (bY HA (rJ (L.take x.1)) x.2) nb (.row 5 [[.v (I e.aP),.v (I (p.aD.length+e.aW)),.v (I (e.bR+G.aN.length)),.v (I e.bI),.v (gW 5 x.1 x.2)]])) (λx=>x.1<=e.aL.length/\fT HA (L.take x.1) x.2/\∀ m,x.2=some m->¬m=nb) (λx=>e.aL.length-x.1) (0,none) ⟨by simp[c4,b7],aE.le_refl _,fE _,rfl,λm e=>by cases e⟩ ?_
 rintro⟨k,o⟩ ⟨hk1,hos,hon⟩
 simp only at hk1 hos hon ⊢
 rcases bZ k e.aL.length with hlt|hge
 ·have hq:=hpl' k hlt
  rw[←hL1 k hlt]at hq
  have hy:L.take (k+1)=L.take (k)++[L[k]'aA]:=jU aA
  have aBQ:(L.take (k)).length=k:=by rw[jT];omega
  generalize L[k]'aA=y at *
  simp only[aB.aS y]at hq
  cases o with
  |none =>
   rw[aZ]at hos
   have hj0:k=0:=by have:=congrArg List.length hos;rw[aBQ]at this;exact this
   subst hj0
   rw[aQ,b5]
   simp -dsimp -implicitDefEqProofs only[go_sem,↓reduceIte,Tryz.f166,dO,dP,aG,hlt]
   intro _
   first|refine aF.mk ((hq).sub gG) ?_|refine aJ.mk ((hq).sub gG) ?_
   simp -dsimp -implicitDefEqProofs only[go_sem,↓reduceIte,Tryz.f166,dO,dP,aG]
   refine⟨by decide,by decide,by decide,λd hd=>?_⟩
   obtain⟨R2,R3⟩:=wF hd
   obtain⟨aFO,qS,qT,aFP⟩:=bB (show ¬d=nb from R2)
   simp -dsimp -implicitDefEqProofs only[go_sem,↓reduceIte,Tryz.f166,qT,qS,aG]
   rw[aBN y]
   refine⟨(0+1,some d),IntWalk.i64_in _ aA,?_,⟨hlt,R3,λm' e=>by cases e;exact R2⟩,by simp only;omega⟩
   rw[hy]
   exact a13 R2
  |some m =>
   rw[aV]at hos
   have F1:=hon m rfl
   obtain⟨mB,cY,cX,kM⟩:=bB (show ¬m=nb from F1)
   rw[aK,aY]
   simp -dsimp -implicitDefEqProofs only[go_sem,↓reduceIte,Tryz.f166,cX,cY,aG,hlt]
   intro _
   first|refine aF.mk ((hq).sub gG) ?_|refine aJ.mk ((hq).sub gG) ?_
   simp -dsimp -implicitDefEqProofs only[go_sem,↓reduceIte,Tryz.f166,cX,cY,aG]
   rw[rJ]
   simp -dsimp -implicitDefEqProofs only[go_sem,↓reduceIte,Tryz.f166,cX,cY,aG]
   refine⟨by decide,by decide,by decide,by omega,by omega,by omega,λd hd=>?_⟩
   obtain⟨R2,R3,R4⟩:=aFM hd
   obtain⟨aFO,qS,qT,aFP⟩:=bB (show ¬d=nb from R2)
   obtain⟨a1X,aFQ,aFR,a1Y⟩:=bB (show ¬d=m from R3)
   simp -dsimp -implicitDefEqProofs only[go_sem,↓reduceIte,Tryz.f166,cX,qT,cY,aFR,qS,aFQ,aG]
   rw[oO _ y aBQ,←hy]
   exact⟨(k+1,some d),IntWalk.i64_in _ aA,aFS hos R2 R3 F1,⟨hlt,R4,λm' e=>by cases e;exact R2⟩,by simp only;omega⟩
 ·obtain rfl:k=e.aL.length:=by omega
  simp -dsimp -implicitDefEqProofs only[go_sem,↓reduceIte,Tryz.f166,bX,dB]
  intro _
  refine cZ aYA bJA bJB (λx:Nat×Option Nat=>[(1,.ip 1 [[fN 3 aU.c p.aD]] 0 0),(2,.ip 5 [[I e.aP,I e.aW,I e.bR,I e.bI,fN 5 aB.c e.aL]] 0 0),(3,.ip 3 [[ints v,ints s,I c]] 0 0),(6,.op b 5 0 0),(8,.op nb 5 0 0),(10,I x.1)]) (λx=>aR (bY HA (rJ (L.take (e.aL.length+x.1))) x.2) nb (.row 5 [[.v (I e.aP),.v (I (p.aD.length+e.aW)),.v (I (e.bR+G.aN.length)),.v (I e.bI),.v (gW 5 (e.aL.length+x.1) x.2)]])) (λx=>x.1<=e.aL.length/\fT HA (L.take (e.aL.length+x.1)) x.2/\∀ m,x.2=some m->¬m=nb) (λx=>e.aL.length-x.1) (0,o) ⟨by simp[c4,b7],aE.le_refl _,fE _,hos,hon⟩ ?_
  clear hos hon
  rintro⟨k,o⟩ ⟨hk1,hos,hon⟩
  simp only at hk1 hos hon ⊢
  rcases bZ k e.aL.length with hlt|hge
  ·have hq:=hd k hlt
   rw[←hL2 k hlt]at hq
   have hy:L.take (e.aL.length+k+1)=L.take (e.aL.length+k)++[L[e.aL.length+k]'aA]:=jU aA
   have aBQ:(L.take (e.aL.length+k)).length=e.aL.length+k:=by rw[jT];omega
   generalize L[e.aL.length+k]'aA=y at *
   simp only[aB.aS y]at hq
   cases o with
   |none =>
    rw[aZ]at hos
    have hj0:e.aL.length+k=0:=by have:=congrArg List.length hos;rw[aBQ]at this;exact this
    omega
   |some m =>
    rw[aV]at hos
    have F1:=hon m rfl
    obtain⟨mB,cY,cX,kM⟩:=bB (show ¬m=nb from F1)
    rw[aK,aY]
    simp -dsimp -implicitDefEqProofs only[go_sem,↓reduceIte,Tryz.f166,cX,cY,aG,hlt]
    intro _
    first|refine aF.mk ((hq).sub gG) ?_|refine aJ.mk ((hq).sub gG) ?_
    simp -dsimp -implicitDefEqProofs only[go_sem,↓reduceIte,Tryz.f166,cX,cY,aG]
    rw[rJ]
    simp -dsimp -implicitDefEqProofs only[go_sem,↓reduceIte,Tryz.f166,cX,cY,aG]
    refine⟨by decide,by decide,by decide,by omega,by omega,by omega,λd hd=>?_⟩
    obtain⟨R2,R3,R4⟩:=aFM hd
    obtain⟨aFO,qS,qT,aFP⟩:=bB (show ¬d=nb from R2)
    obtain⟨a1X,aFQ,aFR,a1Y⟩:=bB (show ¬d=m from R3)
    simp -dsimp -implicitDefEqProofs only[go_sem,↓reduceIte,Tryz.f166,cX,qT,cY,aFR,qS,aFQ,aG]
    rw[oO _ y aBQ,←hy]
    exact⟨(k+1,some d),IntWalk.i64_in _ aA,aFS hos R2 R3 F1,⟨hlt,R4,λm' e=>by cases e;exact R2⟩,by simp only;omega⟩
  ·obtain rfl:k=e.aL.length:=by omega
   rw[pQ aA]at hos ⊢
   cases o with
   |none =>
    rw[aZ]at hos
    rw[aQ,b5]
    simp -dsimp -implicitDefEqProofs only[go_sem,↓reduceIte,Tryz.f166,bX,dB,dO,dP,aG,A1]
    intro _
    rw[hos,aB.aS (.mk _ _ _ _ _)]
    exact Shift.of (Sub.agg (.cons (.refl _) (.cons (.refl _) (.cons (.refl _) (.cons (.refl _) (.cons (Sub.nil 5 false) .nil)))))) (aGG A4 (A3 nb A2).2 hb)
   |some m =>
    rw[aV]at hos
    have F1:=hon m rfl
    obtain⟨mB,cY,cX,kM⟩:=bB (show ¬m=nb from F1)
    have F2:¬m=b:=(A3 m hos).1
    obtain⟨rT,fJ,fI,sG⟩:=bB (show ¬m=b from F2)
    rw[aK,aY]
    simp -dsimp -implicitDefEqProofs only[go_sem,↓reduceIte,Tryz.f166,bX,dB,dO,cX,dP,fI,cY,fJ,aG,A1]
    intro _
    exact aIN _ _ _ _ a6H hLl.symm (aFN A4 hb (A3 nb A2).2 (A3 m hos).2)
theorem a5X {p:aC} {funcs:Int} (e:aB) (hk:(e.aP=10∨e.aP=11)/\p.ok/\funcs<=p.aD.length) (ih:∀ x∈e.aL,aB1 p funcs x):aB1 p funcs e:=by
 intro v s c hls hok hv hc
 have hnode:=((aB.cN _ _ _ _).1 hok).1
 have hsl:=lN e
 have t0:Int.toNat 0=0:=rfl
 have t1:Int.toNat 1=1:=rfl
 have t2:Int.toNat 2=2:=rfl
 have hx:=bOL hk.2.1 hk.2.2 e hk.1 ih v s c hls hok hv hc
 rcases hk.1 with hk|hk
 all_goals
  simp only[aC.aS,aB.aS e,aB.aS (rU _ _ _ _ _ _),hk]at hx ⊢
  refine iN 120 aDR aR3 aR4 Tryz.func119 λh=>?_
  simp -dsimp -implicitDefEqProofs only[go_sem,↓reduceIte,Tryz.f119,hk]
  intro b hb
  first|refine aJ.mk (hx) ?_|refine aF.mk (hx) ?_|refine aJ.bA (hx) ?_|refine aF.mk (aX.cU (hx)) ?_
  simp -dsimp -implicitDefEqProofs only[go_sem,↓reduceIte,Tryz.f119]
  exact bG sA
theorem aMJ {p:aC} {funcs:Int} (e:aB) (hk:e.aP=3∨e.aP=4∨e.aP=5∨e.aP=6) (ih:∀ x∈e.aL,aB1 p funcs x):aB1 p funcs e:=by
 intro v s c hls hok hv hc
 have hnode:=((aB.cN _ _ _ _).1 hok).1
 have hsl:=lN e
 have t0:Int.toNat 0=0:=rfl
 have t1:Int.toNat 1=1:=rfl
 have t2:Int.toNat 2=2:=rfl
 have hx:fM Tryz.prog 167 [nmS c v s,.ip 1 [p.c] 0 0,.ip 5 [e.c] 0 0] (.agg (rU (oN p) p.aD.length e v s c).c):=by
  rcases hk with hk|hk|hk|hk
  ·exact aNE e (.inl hk) ih v s c hls hok hv hc
  ·exact aNE e (.inr hk) ih v s c hls hok hv hc
  ·exact a1Z e hk ih v s c hls hok hv hc
  ·exact a11 e hk ih v s c hls hok hv hc
 generalize rU (oN p) p.aD.length e v s c=y at *
 rcases hk with hk|hk|hk|hk
 all_goals
  simp only[aC.aS,aB.aS e,aB.aS y,hk]at hx ⊢
  refine iN 120 aDR aR3 aR4 Tryz.func119 λh=>?_
  simp -dsimp -implicitDefEqProofs only[go_sem,↓reduceIte,Tryz.f119,hk]
  intro b hb
  first|refine aJ.mk (hx) ?_|refine aF.mk (hx) ?_|refine aJ.bA (hx) ?_|refine aF.mk (aX.cU (hx)) ?_
  simp -dsimp -implicitDefEqProofs only[go_sem,↓reduceIte,Tryz.f119]
  exact bG sA
theorem a14 {p:aC} (hp:p.ok) {funcs:Int} (hf:funcs<=p.aD.length) (e:aB):aB1 p funcs e:=by
 have ih:∀ x∈e.aL,aB1 p funcs x:=λx hx=>a14 hp hf x
 intro v s c hls hok hv hc
 have hnode:=((aB.cN _ _ _ _).1 hok).1
 rcases aND hnode with hk|hk|hk|hk|hk|hk|hk|hk|hk
 ·exact bCI e hk ih v s c hls hok hv hc
 ·exact bCJ e hk ih v s c hls hok hv hc
 ·exact aMJ e aA ih v s c hls hok hv hc
 ·exact aMJ e aA ih v s c hls hok hv hc
 ·exact aMJ e aA ih v s c hls hok hv hc
 ·exact bCK e hk ih v s c hls hok hv hc
 ·exact bCL e hk ih v s c hls hok hv hc
 ·exact bCM e hk ih v s c hls hok hv hc
 ·exact a5X e ⟨hk,hp,hf⟩ ih v s c hls hok hv hc
termination_by SizeOf.sizeOf e
decreasing_by exact aB.wQ hx
@[go_sem] def aYB:List Nat:=[0,1,4,5,6,7,8,9,10,28,63,85]
@[go_sem] def bOM:List Nat:=[76,99]
@[go_sem] def bON:Marks:=λid=>match id with|6=>([0,9,11],(.op 1 (.op 2 (.op 3 (.op 4 (.op 5 (.op 6 (.op 7 (.op 8 (.op 0 (.op 9 (.op 10 (.op 11 .nil)))))))))))),[])|7=>([15,16],(.op 0 (.op 1 (.op 2 (.op 3 (.op 4 (.op 5 (.op 6 (.op 7 (.op 8 (.op 9 (.op 10 (.op 11 (.op 12 (.op 13 (.op 14 (.op 15 (.op 16 .nil))))))))))))))))),[])|11=>([1,2,11,13],(.op 0 (.op 3 (.op 4 (.op 5 (.op 6 (.op 7 (.op 8 (.op 1 (.op 2 (.op 9 (.op 10 (.op 11 (.op 12 (.op 13 .nil)))))))))))))),[])|15=>([1,2,12,14],(.op 0 (.op 3 (.op 4 (.op 5 (.op 6 (.op 7 (.op 8 (.op 9 (.op 1 (.op 2 (.op 10 (.op 11 (.op 12 (.op 13 (.op 14 .nil))))))))))))))),[])|_=>([],.nil,[])
set_option maxHeartbeats 1000000 in
theorem a15 {p:aC} (hp:p.ok) (f:Nat) (hf:f<p.aD.length):fM Tryz.prog 55 [.ip 1 [p.c] 0 0,I f] (.agg (vG (mJ p) p f p.aD[f]).c):=by
 have eG:p.aD[f]?=some p.aD[f]:=cM hf
 generalize hGe:p.aD[f]=G at *
 obtain⟨g1,g2,g3,g4,g5,g6⟩:=hp.2 f G eG
 have hpl:=hp.1
 have hdec:=aFX (p.aD.length+f+1) ((p.aD.length+f:Nat):Int) aA aA aA
 obtain⟨n,hn⟩:∃ n:Nat,G.aT=n:=⟨G.aT.toNat,by omega⟩
 have hgs:∀ x∈G.aN,x.s<=400/\x.ok p f (vR n).length:=λx hx=>by
  have h1:=vN aB.s hx
  rw[l8]at g5
  have h2:=(g6 x hx).2.2.2.2
  rw[aEC,←hn]
  exact⟨by omega,h2⟩
 have hpl':=λk (h:k<G.aN.length)=>uO (p:=p) (funcs:=f) G.aN[k] (vR n) (sR n) (2*n) (by rw[aEC,aWO]) (hgs _ (eI h)).2 bDR bDW
 have hd:=λk (h:k<G.aN.length)=>a14 hp (funcs:=f) aA G.aN[k] (vR n) (sR n) (2*n) (by rw[aEC,aWO]) (hgs _ (eI h)).2 bDR bDW
 obtain⟨L,hL⟩:∃ L,L=(G.aN.map λx=>qI x (vR n) (2*n))++G.aN.map λx=>rU (oN p) p.aD.length x (vR n) (sR n) (2*n):=⟨_,rfl⟩
 have hdf:vG (mJ p) p f G=⟨100::Go.Lib.itoa ((p.aD.length+f:Nat):Int),2*(n:Int),L⟩:=by rw[vG,hn,nU,hL];rfl
 rw[hdf]
 have hLl:L.length=G.aN.length+G.aN.length:=by rw[hL,mV,nG,nG]
 have hL1:∀ k (h:k<G.aN.length),L[k]'aA=qI G.aN[k] (vR n) (2*n):=λk h=>by
  simp only[hL];rw[a6C (by rw[nG];exact h),r8]
 have hL2:∀ k (h:k<G.aN.length),L[G.aN.length+k]'aA=rU (oN p) p.aD.length G.aN[k] (vR n) (sR n) (2*n):=λk h=>by
  simp only[hL];rw[a6D a62,r8];simp only[nG,bDL]
 clear hL hdf
 have w1:IntKind.i64.wrap (2*(n:Int))=2*(n:Int):=IntWalk.i64_in _ aA
 have w2:IntKind.i64.wrap ((p.aD.length:Int)+(f:Int))=((p.aD.length+f:Nat):Int):=by rw[IntWalk.i64_in _ aA];omega
 have hil:=qN (n:=((p.aD.length+f:Nat):Int)) aA aA
 generalize Go.Lib.itoa ((p.aD.length+f:Nat):Int)=dn at *
 have hgp:(p.aD.map aU.c)[f]?=some [.str G.e8,I n,fN 5 aB.c G.aN]:=by rw[nE,eG];simp only[aNH,aU.aS,hn]
 simp only[aC.aS]at hd ⊢
 refine iN 103 aYB bOM bON Tryz.func55 λh=>?_
 simp -dsimp -implicitDefEqProofs only[go_sem,↓reduceIte,Tryz.f55,eG,aU.aS,hn,w1,w2,aO]
 refine λb hb=>⟨hf,λnt hnt=>?_⟩
 obtain⟨a5F,l7,l6,a5G⟩:=bB (show ¬nt=b from hnt.1)
 obtain⟨HA,hHA⟩:∃ H:aE,H=aR h b (.row 3 [[.v (.str []),.v (I 0),.v .bD]]):=⟨_,rfl⟩
 rw[←hHA]
 have A1:HA b=some (.row 3 [[.v (.str []),.v (I 0),.v .bD]]):=by rw[hHA];exact aM ..
 have A2:HA nt=none:=by rw[hHA,aI _ _ _ _ a5F];exact hnt.2
 have A3:∀ q,HA q=none->¬q=b/\h q=none:=λq hq=>by rw[hHA]at hq;simp only[aG]at hq;exact wF hq
 have A4:h.le HA:=by rw[hHA];exact aE.bP hb (aE.le_refl _)
 clear hHA
 refine aL6 aYB bOM bON (λi:Nat=>[(0,.ip 1 [[fN 3 aU.c p.aD]] 0 0),(1,I f),(4,.op b 3 0 0),(5,.ip 3 (p.aD.map aU.c) f 0),(6,.op nt 3 0 0),(7,I i)]) (λi=>aR HA nt (.row 3 [[.v (ints (rR 0 i)),.v (ints (rR n i)),.v (I (2*n))]])) (λi=>i<=n) (λi=>n-i) 0 ⟨by simp[c4,b7],aE.aVZ (m:=nt) (λq hq=>by rw[aI _ _ _ _ hq,aI _ _ _ _ hq]) (aM ..) (aM ..) (oA.sub (.cons (Sub.nil 1 false) (.cons (Sub.nil 1 false) (.cons (.refl _) .nil))) []),fE _⟩ ?_
 intro i hi
 rcases bZ i n with hlt|hge
 ·have w3:IntKind.i64.wrap ((n:Int)+(i:Int))=(n:Int)+(i:Int):=IntWalk.i64_in _ aA
  have hw:=aUX (rR 0 i) (rR n i) (2*n) i (n+i) (2*n) (by rw[aIO];omega) (by rw[aIO,aIO])
  rw[show rR 0 i++[(i:Int)]=rR 0 (i+1)by rw[aOL,Int.zero_add],←aOL]at hw
  simp -dsimp -implicitDefEqProofs only[go_sem,↓reduceIte,Tryz.f55,aG,eG,aU.aS,hn,hlt,w3]
  first|refine aJ.mk (hw) ?_|refine aF.mk (hw) ?_|refine aJ.bA (hw) ?_|refine aF.mk (aX.cU (hw)) ?_
  simp -dsimp -implicitDefEqProofs only[go_sem,↓reduceIte,Tryz.f55,aO]
  exact⟨i+1,IntWalk.i64_in _ aA,aE.kE (aE.le_refl _),hlt,by omega⟩
 ·obtain rfl:i=n:=by omega
  rw[b24,b25]
  simp -dsimp -implicitDefEqProofs only[go_sem,↓reduceIte,Tryz.f55,aG,eG,aU.aS,hn,bX,dB]
  rw[w2]
  first|refine aJ.mk (hdec) ?_|refine aF.mk (hdec) ?_|refine aJ.bA (hdec) ?_|refine aF.mk (aX.cU (hdec)) ?_
  simp -dsimp -implicitDefEqProofs only[go_sem,↓reduceIte,Tryz.f55,aG,eG,aU.aS,hn,w1,aO]
  refine⟨by omega,λnb hnx=>?_⟩
  obtain⟨X1,X2⟩:=wF hnx
  obtain⟨b6S,aOO,aOP,bAJ⟩:=bB (show ¬nb=nt from X1)
  obtain⟨HB,hHB⟩:∃ H:aE,H=aR HA nt (.row 3 [[.v (ints (vR i)),.v (ints (sR i)),.v (I (2*i))]]):=⟨_,rfl⟩
  rw[←hHB]
  have b6T:¬nt=b:=a5F
  have B1:HB b=some (.row 3 [[.v (.str []),.v (I 0),.v .bD]]):=by rw[hHB,aI _ _ _ _ a5G];exact A1
  have B2:HB nt=some (.row 3 [[.v (ints (vR i)),.v (ints (sR i)),.v (I (2*i))]]):=by rw[hHB];exact aM ..
  have B3:HB nb=none:=by rw[hHB,aI _ _ _ _ X1];exact X2
  have B4:h.le HB:=λq=>by
   rw[hHB]
   by_cases e:q=nt
   ·rw[e];exact .inl hnt.2
   ·rw[aI _ _ _ _ e];exact A4 q
  have B5:∀ q,HB q=none->¬q=nt/\¬q=b/\h q=none:=λq hq=>by
   rw[hHB]at hq
   simp only[aG]at hq
   obtain⟨h1,h2⟩:=wF hq
   exact⟨h1,A3 q h2⟩
  clear hHB hnx X2
  have kY:¬nb=b:=(B5 nb B3).2.1
  obtain⟨kY,dO,dP,mY⟩:=bB (show ¬nb=b from kY)
  refine cZ aYB bOM bON (λx:Nat×Option Nat=>[(0,.ip 1 [[fN 3 aU.c p.aD]] 0 0),(4,.op b 3 0 0),(5,.ip 3 (p.aD.map aU.c) f 0),(6,.op nt 3 0 0),(8,.op nb 3 0 0),(9,I x.1)]) (λx=>aR (bY HB (rJ (L.take x.1)) x.2) nb (.row 3 [[.v (.str (100::dn)),.v (I (2*i)),.v (gW 5 x.1 x.2)]])) (λx=>x.1<=G.aN.length/\fT HB (L.take x.1) x.2/\∀ m,x.2=some m->¬m=nb) (λx=>G.aN.length-x.1) (0,none) ⟨by simp[c4,b7],aE.le_refl _,fE _,rfl,λm e=>by cases e⟩ ?_
  rintro⟨k,o⟩ ⟨hk1,hos,hon⟩
  simp only at hk1 hos hon ⊢
  rcases bZ k G.aN.length with hlt|hge
  ·have hq:=hpl' k hlt
   rw[←hL1 k hlt]at hq
   have hy:L.take (k+1)=L.take (k)++[L[k]'aA]:=jU aA
   have aBQ:(L.take (k)).length=k:=by rw[jT];omega
   generalize L[k]'aA=y at *
   simp only[aB.aS y]at hq
   have tn:¬nt=nb:=bAJ
   cases o with
   |none =>
    rw[aZ]at hos
    have hj0:k=0:=by have:=congrArg List.length hos;rw[aBQ]at this;exact this
    subst hj0
    rw[aQ,b5]
    simp -dsimp -implicitDefEqProofs only[go_sem,↓reduceIte,Tryz.f55,aOO,aOP,aG,hlt,eG,aU.aS,B2]
    intro _
    first|refine aF.mk ((hq).sub gG) ?_|refine aJ.mk ((hq).sub gG) ?_
    simp -dsimp -implicitDefEqProofs only[go_sem,↓reduceIte,Tryz.f55,aOO,aOP,aG]
    refine⟨by decide,by decide,by decide,λd hd=>?_⟩
    obtain⟨R2,R3⟩:=wF hd
    obtain⟨aFO,qS,qT,aFP⟩:=bB (show ¬d=nb from R2)
    simp -dsimp -implicitDefEqProofs only[go_sem,↓reduceIte,Tryz.f55,qT,qS,aG]
    rw[aBN y]
    refine⟨(0+1,some d),IntWalk.i64_in _ aA,?_,⟨hlt,R3,λm' e=>by cases e;exact R2⟩,by simp only;omega⟩
    rw[hy]
    exact a13 R2
   |some m =>
    rw[aV]at hos
    have F1:=hon m rfl
    have F3:¬m=nt:=(B5 m hos).1
    obtain⟨mB,cY,cX,kM⟩:=bB (show ¬m=nb from F1)
    obtain⟨aRY,p0,pZ,aRZ⟩:=bB (show ¬m=nt from F3)
    rw[aK,aY]
    simp -dsimp -implicitDefEqProofs only[go_sem,↓reduceIte,Tryz.f55,cX,aOO,cY,p0,aOP,pZ,aG,hlt,eG,aU.aS,B2]
    intro _
    first|refine aF.mk ((hq).sub gG) ?_|refine aJ.mk ((hq).sub gG) ?_
    simp -dsimp -implicitDefEqProofs only[go_sem,↓reduceIte,Tryz.f55,cX,cY,aG]
    rw[rJ]
    simp -dsimp -implicitDefEqProofs only[go_sem,↓reduceIte,Tryz.f55,cX,cY,aG]
    refine⟨by decide,by decide,by decide,by omega,by omega,by omega,λd hd=>?_⟩
    obtain⟨R2,R3,R4⟩:=aFM hd
    obtain⟨aFO,qS,qT,aFP⟩:=bB (show ¬d=nb from R2)
    obtain⟨a1X,aFQ,aFR,a1Y⟩:=bB (show ¬d=m from R3)
    simp -dsimp -implicitDefEqProofs only[go_sem,↓reduceIte,Tryz.f55,cX,qT,cY,aFR,qS,aFQ,aG]
    rw[oO _ y aBQ,←hy]
    exact⟨(k+1,some d),IntWalk.i64_in _ aA,aFS hos R2 R3 F1,⟨hlt,R4,λm' e=>by cases e;exact R2⟩,by simp only;omega⟩
  ·obtain rfl:k=G.aN.length:=by omega
   simp -dsimp -implicitDefEqProofs only[go_sem,↓reduceIte,Tryz.f55,bX,dB,eG,aU.aS]
   intro _
   refine cZ aYB bOM bON (λx:Nat×Option Nat=>[(0,.ip 1 [[fN 3 aU.c p.aD]] 0 0),(4,.op b 3 0 0),(5,.ip 3 (p.aD.map aU.c) f 0),(6,.op nt 3 0 0),(8,.op nb 3 0 0),(10,I x.1)]) (λx=>aR (bY HB (rJ (L.take (G.aN.length+x.1))) x.2) nb (.row 3 [[.v (.str (100::dn)),.v (I (2*i)),.v (gW 5 (G.aN.length+x.1) x.2)]])) (λx=>x.1<=G.aN.length/\fT HB (L.take (G.aN.length+x.1)) x.2/\∀ m,x.2=some m->¬m=nb) (λx=>G.aN.length-x.1) (0,o) ⟨by simp[c4,b7],aE.le_refl _,fE _,hos,hon⟩ ?_
   clear hos hon
   rintro⟨k,o⟩ ⟨hk1,hos,hon⟩
   simp only at hk1 hos hon ⊢
   rcases bZ k G.aN.length with hlt|hge
   ·have hq:=hd k hlt
    rw[←hL2 k hlt]at hq
    have hy:L.take (G.aN.length+k+1)=L.take (G.aN.length+k)++[L[G.aN.length+k]'aA]:=jU aA
    have aBQ:(L.take (G.aN.length+k)).length=G.aN.length+k:=by rw[jT];omega
    generalize L[G.aN.length+k]'aA=y at *
    simp only[aB.aS y]at hq
    have tn:¬nt=nb:=bAJ
    cases o with
    |none =>
     rw[aZ]at hos
     have hj0:G.aN.length+k=0:=by have:=congrArg List.length hos;rw[aBQ]at this;exact this
     omega
    |some m =>
     rw[aV]at hos
     have F1:=hon m rfl
     have F3:¬m=nt:=(B5 m hos).1
     obtain⟨mB,cY,cX,kM⟩:=bB (show ¬m=nb from F1)
     obtain⟨aRY,p0,pZ,aRZ⟩:=bB (show ¬m=nt from F3)
     rw[aK,aY]
     simp -dsimp -implicitDefEqProofs only[go_sem,↓reduceIte,Tryz.f55,cX,aOO,cY,p0,aOP,pZ,aG,hlt,eG,aU.aS,B2]
     intro _
     first|refine aF.mk ((hq).sub gG) ?_|refine aJ.mk ((hq).sub gG) ?_
     simp -dsimp -implicitDefEqProofs only[go_sem,↓reduceIte,Tryz.f55,cX,cY,aG]
     rw[rJ]
     simp -dsimp -implicitDefEqProofs only[go_sem,↓reduceIte,Tryz.f55,cX,cY,aG]
     refine⟨by decide,by decide,by decide,by omega,by omega,by omega,λd hd=>?_⟩
     obtain⟨R2,R3,R4⟩:=aFM hd
     obtain⟨aFO,qS,qT,aFP⟩:=bB (show ¬d=nb from R2)
     obtain⟨a1X,aFQ,aFR,a1Y⟩:=bB (show ¬d=m from R3)
     simp -dsimp -implicitDefEqProofs only[go_sem,↓reduceIte,Tryz.f55,cX,qT,cY,aFR,qS,aFQ,aG]
     rw[oO _ y aBQ,←hy]
     exact⟨(k+1,some d),IntWalk.i64_in _ aA,aFS hos R2 R3 F1,⟨hlt,R4,λm' e=>by cases e;exact R2⟩,by simp only;omega⟩
   ·obtain rfl:k=G.aN.length:=by omega
    rw[pQ aA]at hos ⊢
    cases o with
    |none =>
     rw[aZ]at hos
     rw[hos]at hLl
     simp at hLl
     omega
    |some m =>
     rw[aV]at hos
     have F1:=hon m rfl
     obtain⟨mB,cY,cX,kM⟩:=bB (show ¬m=nb from F1)
     have F2:¬m=b:=(B5 m hos).2.1
     obtain⟨rT,fJ,fI,sG⟩:=bB (show ¬m=b from F2)
     rw[aK,aY]
     simp -dsimp -implicitDefEqProofs only[go_sem,↓reduceIte,Tryz.f55,bX,dB,dO,cX,dP,fI,cY,fJ,aG,B1,eG,aU.aS]
     intro _
     exact aIP _ _ a6H hLl.symm (aFN B4 hb (B5 nb B3).2.2 (B5 m hos).2.2)
theorem bJC {p:aC} (hp:p.ok):p.s<=8000:=by
 have hl:=hp.1
 have h1:(p.aD.map aU.s).sum<=p.aD.length*453:=aXK _ _ _ λf hf=>by
  obtain⟨k,hk,rfl⟩:=aD8.1 hf
  obtain⟨h1,h2,h3,h4,h5,h6⟩:=hp.2 k _ (cM hk)
  unfold aGO at h1
  rw[aU.u9];omega
 have h3:p.aD.length*453<=16*453:=aYQ _ aA
 rw[p.u9,l8];omega
theorem bWA (p:aC) (hs:p.s<=1048576) {h:aE}:jC Tryz.prog 54 [.ip 1 [p.c] 0 0] h λr h'=>∃ o,fT h p.aD o/\r=.agg [iO 3 p.aD.length o]/\h'=bY h (wG p.aD) o:=by
 refine(aS0 p hs h).shift ?_
 rintro r h' ⟨l,⟨e,⟨y,rfl,oy⟩,rfl,rfl⟩,wn⟩
 rcases oy with⟨rfl,hnil⟩|⟨n,es,rfl,hor⟩
 ·refine⟨h',aE.kE (aE.le_refl _),none,hnil,by simp[OV.val,iO],?_⟩
  rw[OV.fC,OV.gZ,OV.uE]at wn
  rw[aQ];exact funext λq=>wn.upto q aHC
 ·have hdat:es.map (List.map OV.pU)=p.aD.map aU.c:=by rw[←OV.fS];exact OR.pU (λ_ _ q=>aU.aM5 q) hor
  have hlen:=hor.length
  rw[OV.fC,OV.gZ,dT,OV.hJ]at wn
  have hb:=wn.tO (n,_) (.head _)
  have ho:xH h' (OV.bF es):=λp hp=>wn.tO p (.tail _ hp)
  have hz:h n=none:=wn.fresh n aHC
  have hnd:n∉bH (OV.bF es):=(aMN.1 wn.nodup).1
  have hw:=aE.bVP hb ho hnd
  refine⟨aR h n (wG p.aD),aE.wk.trans (aE.kE λq=>?_) hw,some n,hz,?_,rfl⟩
  ·rw[hdat]
   by_cases e:q=n
   ·rw[e,aM,aM];exact .inr rfl
   ·rw[aI _ _ _ _ e,aI _ _ _ _ e]
    by_cases e2:q∈bH (OV.bF es)
    ·exact .inl (wn.fresh q (w6 _ e2))
    ·rw[iL e2,wn.upto q (λhq=>(pY.1 hq).elim e e2)];exact .inr rfl
  ·simp only[OV.val,nZ,sX,iO,hlen]
abbrev DSt:=List aU×List (List OV)×aE×Option Nat×Nat×Int
def bAK (n:Nat) (a:Nat) (B:aE) (ns n8 n9:Nat):DSt->Prop:=λ(fs,es,g1,o,a3,_) =>
 fs.length<=n/\aG5 fs/\OR aU.o fs es/\gB B (OV.bF es) g1/\(g1 ns=none/\g1 n8=none/\g1 n9=none)/\yJ g1 es o/\(∀ m,o=some m->¬m=ns/\¬m=n8/\¬m=n9)/\(o=none->fs=[])/\(a<=a3/\a3<=a+5000*fs.length)
abbrev ISt:=Int×Nat×List aB×List (List OV)×aE×Option Nat×Nat×Int
def a16 (fs:List aU) (par:Int) (a:Nat) (B1:aE) (ns nf:Nat):ISt->Prop:=λ(cnt,i,outs,eo,g2,oo,a8,_) =>
 (1<=cnt/\cnt<=3)/\(i:Int)<=cnt/\outs.length=i/\OR aB.o outs eo/\gB B1 (OV.bF eo) g2/\(g2 ns=none/\g2 nf=none)/\yJ g2 eo oo/\(∀ m,oo=some m->¬m=ns/\¬m=nf)/\(∀ e∈outs,e.s<=39/\e.d<=6/\e.ok ⟨fs⟩ fs.length par)/\(a<=a8/\a8<=a+600*i)
theorem a16.next {fs:List aU} {par:Int} {a:Nat} {B1:aE} {ns nf:Nat} {cnt:Int} {i:Nat} {outs:List aB} {eo:List (List OV)} {g2 g5:aE} {oo:Option Nat} {a8 a9:Nat} {sd8 sd9:Int} {x:aB} {e:List OV} {m:Nat}
  (h:a16 fs par a B1 ns nf (cnt,i,outs,eo,g2,oo,a8,sd8)) (hlt:(i:Int)<cnt) (hx:x.o e) (w:gB g2 (OV.cJ e) g5) (z:g5 ns=none/\g5 nf=none) (hm:g5 m=none) (hm2:¬m=ns/\¬m=nf) (hg:x.s<=39/\x.d<=6/\x.ok ⟨fs⟩ fs.length par) (ha:a8<=a9/\a9<=a8+600) :
  a16 fs par a B1 ns nf (cnt,i+1,outs++[x],eo++[e],g5,some m,a9,sd9):=by
 obtain⟨hcnt,hi,hol,hor,hnew,-,-,-,hgd,ha8⟩:=h
 refine⟨hcnt,by omega,by rw[mV,hol];rfl,OR.append hor ⟨hx,trivial⟩,gB.snoc hnew w,z,hm,λb q=>by cases q;exact hm2,λy hy=>?_,by omega⟩
 rcases pJ.1 hy with hy|hy
 ·exact hgd y hy
 ·rw[jF.1 hy];exact hg
theorem bAK.next {n a:Nat} {B:aE} {ns n8 n9:Nat} {fs:List aU} {es:List (List OV)} {g1 g8:aE} {o:Option Nat} {a3 a8:Nat} {sd3 sd8:Int} {f:aU} {e:List OV} {m:Nat}
  (h:bAK n a B ns n8 n9 (fs,es,g1,o,a3,sd3)) (hlt:fs.length<n) (hf:aIL ⟨fs⟩ fs.length f) (hx:f.o e) (w:gB g1 (OV.cJ e) g8) (z:g8 ns=none/\g8 n8=none/\g8 n9=none) (hm:g8 m=none) (hm2:¬m=ns/\¬m=n8/\¬m=n9) (ha:a3<=a8/\a8<=a3+5000) :
  bAK n a B ns n8 n9 (fs++[f],es++[e],g8,some m,a8,sd8):=by
 obtain⟨hfl,hdr,hor,hnew,-,-,-,-,ha3⟩:=h
 exact⟨by rw[mV,u4];omega,hdr.snoc hf,OR.append hor ⟨hx,trivial⟩,gB.snoc hnew w,z,hm,λb q=>by cases q;exact hm2,(λq=>(by cases q)),by rw[mV,u4];omega⟩
@[go_sem] def aYC:List Nat:=[0,1,2,3,8,9,10,11,12,13,14,18,35,40]
@[go_sem] def bOO:List Nat:=[22,55,61]
@[go_sem] def bOP:Marks:=λid=>match id with|13=>([1,4,6,8,10],(.op 0 (.op 2 (.op 3 (.op 5 (.op 1 (.op 4 (.op 6 (.op 7 (.op 8 (.op 9 (.op 10 .nil))))))))))),[(1,6)])|_=>([],.nil,[])
set_option maxHeartbeats 8000000 in
theorem b3B {L0:Int} (hL0:1<=L0/\L0<=14) {ns:Nat} {c:List Int} {pl:Bool} (hc:∀ x∈c,InB x) (hl:c.length<=4096) {n:Nat} (hn:n<=3) {B:aE} (hB:B ns=none) {a:Nat} (ha:a<=700000000) {sd:Int} :
  jC Tryz.prog 31 [.op ns 3 0 0,I n,I L0,.bool pl] (aR B ns (nF c a sd)) λr h'=>∃ (fs:List aU) (es:List (List OV)) (o:Option Nat) (g1:aE) (a':Nat) (sd':Int),fs.length=n/\aG5 fs/\OR aU.o fs es/\gB B (OV.bF es) g1/\g1 ns=none/\yJ g1 es o/\(∀ m,o=some m->¬m=ns)/\(o=none->fs=[])/\r=.agg [gW 3 fs.length o]/\(a<=a'/\a'<=a+5000*n)/\h'=aR (bY g1 (.row 3 (OV.cells es)) o) ns (nF c a' sd'):=by
 have cEQ:mL L0<=13:=(by unfold mL;omega)
 refine lU 65 aYC bOO bOP Tryz.func31 ?_
 simp -dsimp -implicitDefEqProofs only[go_sem,↓reduceIte,Tryz.f31,nA]
 intro n8 q8
 have b8:¬n8=ns:=by grind
 have z8:B n8=none:=by grind
 obtain⟨a9L,bT,bU,oZ⟩:=bB (show ¬n8=ns from b8)
 intro n9 q9
 have b9:¬n9=ns:=by grind
 have c9:¬n9=n8:=by grind
 have z9:B n9=none:=by grind
 obtain⟨a9M,cA,cB,oY⟩:=bB (show ¬n9=ns from b9)
 obtain⟨aFU,cC,cD,a9N⟩:=bB (show ¬n9=n8 from c9)
 simp only[cH oZ,cH oY,aO]
 refine cZ aYC bOO bOP (λx:DSt=>[(0,.op ns 3 0 0),(1,I n),(2,I L0),(3,.bool pl),(8,.op n8 1 0 0),(9,.op n9 1 0 0),(10,I x.1.length)]) (λx=>aR (aR (aR (bY x.2.2.1 (.row 3 (OV.cells x.2.1)) x.2.2.2.1) n8 (.row 1 [[.v .bD]])) n9 (.row 1 [[.v (gW 3 x.1.length x.2.2.2.1)]])) ns (nF c x.2.2.2.2.1 x.2.2.2.2.2)) (λx=>bAK n a B ns n8 n9 x) (λx=>n-x.1.length) ([],[],B,none,a,sd) ⟨by simp[c4,b7],aE.le_refl _,fE _,(λj f h=>by cases h),trivial,gB.nil B,⟨hB,z8,z9⟩,rfl,(λm e=>by cases e),(λ_=>rfl),by simp⟩ ?_
 rintro⟨fs,es,g1,o,a3,sd3⟩ hdd
 obtain⟨hfl,hdr,hor,hnew,⟨zs,z18,z19⟩,hgs,hon,hfo,ha3⟩:=id hdd
 simp only at hfl hdr hor hnew zs z18 z19 hgs hon hfo ha3 ⊢
 simp -dsimp -implicitDefEqProofs only[go_sem,↓reduceIte,Tryz.f31,bT,cD,bU,cB,cC,cA,aI,aG,dZ,eC,eE,eF,eH,lW,dT,iI]
 refine⟨λhlt=>⟨by decide,by decide,?_⟩,λhge=>⟨kH ..,?_⟩⟩
 ·refine aJ.gS (b11 (a:=a3) (sd:=sd3) hc hl aA aXQ true cE cE (aM ..)) ?_
  rintro r_ h' ⟨w,a4,sd4,rfl,hw,ha4,rfl⟩
  rw[aO]
  simp -dsimp -implicitDefEqProofs only[go_sem,↓reduceIte,Tryz.f31,bT,cD,bU,cB,cC,cA,aI,aG,dZ,eC,eE,eF,eH,lW,dT,iI]
  first|refine aJ.mk ((aFX 4 fs.length aA aA aA)) ?_|refine aF.mk ((aFX 4 fs.length aA aA aA)) ?_|refine aJ.bA ((aFX 4 fs.length aA aA aA)) ?_|refine aF.mk (aX.cU ((aFX 4 fs.length aA aA aA))) ?_
  simp -dsimp -implicitDefEqProofs only[go_sem,↓reduceIte,Tryz.f31,bT,cD,bU,cB,cC,cA,aI,aG,dZ,eC,eE,eF,eH,lW,dT,iI]
  refine⟨by have:=a1S (k:=fs.length) aA;obtain⟨c5,e5,-,-⟩:=this;have:w.length<=4:=(by simp only[aXQ,pY,aTB,or_false]at hw;rcases hw with rfl|rfl|rfl|rfl <;> decide);rw[e5];simp only[u4];omega,?_⟩
  refine aJ.gS (wB (a:=a4) (sd:=sd4) hc hl aA 3 aA (aM ..)) ?_
  rintro r_ h' ⟨px,a5,sd5,rfl,x0,x1,-,ha5,rfl⟩
  have x1:=x1 aA
  have wp:IntKind.i64.wrap (1+px)=1+px:=IntWalk.i64_in _ aA
  rw[aO]
  simp -dsimp -implicitDefEqProofs only[go_sem,↓reduceIte,Tryz.f31,bT,cD,bU,cB,cC,cA,aI,aG,dZ,eC,eE,eF,eH,lW,dT,iI,wp]
  intro nf qf
  have af:¬nf=ns:=by grind
  have bf:¬nf=n8:=by grind
  have cf:¬nf=n9:=by grind
  have zf:bY g1 (.row 3 (OV.cells es)) o nf=none:=by grind
  obtain⟨aYD,eP,eQ,aK1⟩:=bB (show ¬nf=ns from af)
  obtain⟨bAL,rM,rN,b6V⟩:=bB (show ¬nf=n8 from bf)
  obtain⟨bAM,rO,rP,bOQ⟩:=bB (show ¬nf=n9 from cf)
  simp -dsimp -implicitDefEqProofs only[go_sem,↓reduceIte,Tryz.f31,bT,cD,rN,bU,cB,eQ,cC,cA,rP,rM,eP,rO,aI,aG,dZ,eC,eE,eF,eH,lW,dT,iI,wp,cH aK1,aO]
  refine aJ.gS (wB (a:=a5) (sd:=sd5) hc hl aA 3 aA (aM ..)) ?_
  rintro r_ h' ⟨py,a6,sd6,rfl,y0,y1,-,ha6,rfl⟩
  have y1:=y1 aA
  have wq:IntKind.i64.wrap (1+py)=1+py:=IntWalk.i64_in _ aA
  rw[aO]
  simp -dsimp -implicitDefEqProofs only[go_sem,↓reduceIte,Tryz.f31,bT,cD,rN,bU,cB,eQ,cC,cA,rP,rM,eP,rO,aI,aG,dZ,eC,eE,eF,eH,lW,dT,iI,wq]
  refine aJ.gS (bB0 (a:=a6) (sd:=sd6) hc hl aA 2 aA (aM ..)) ?_
  rintro r_ h' ⟨b,a7,sd7,rfl,ha7,rfl⟩
  rw[aO]
  generalize hnm:w++Go.Lib.itoa fs.length=nm
  generalize hpar:1+px=par at *
  apply bIG
  case m =>
   intro key
   cases b
   ·simp -dsimp -implicitDefEqProofs only[go_sem,↓reduceIte,Tryz.f31,bT,cD,rN,bU,cB,eQ,cC,cA,rP,rM,eP,rO,aI,aG,dZ,eC,eE,eF,eH,lW,dT,iI]
    refine cZ aYC bOO bOP (λx:ISt=>[(0,.op ns 3 0 0),(1,I n),(2,I L0),(3,.bool pl),(8,.op n8 1 0 0),(9,.op n9 1 0 0),(10,I fs.length),(11,.op nf 3 0 0),(12,I x.1),(13,I x.2.1)]) (λx=>aR (aR (bY x.2.2.2.2.1 (.row 5 (OV.cells x.2.2.2.1)) x.2.2.2.2.2.1) nf (.row 3 [[.v (.str nm),.v (I par),.v (gW 5 x.2.1 x.2.2.2.2.2.1)]])) ns (nF c x.2.2.2.2.2.2.1 x.2.2.2.2.2.2.2)) (λx=>a16 fs par a7 (aR (aR (bY g1 (.row 3 (OV.cells es)) o) n8 (.row 1 [[.v .bD]])) n9 (.row 1 [[.v (gW 3 fs.length o)]])) ns nf x) (λx=>x.1.toNat-x.2.1) ((1+py),0,[],[],aR (aR (bY g1 (.row 3 (OV.cells es)) o) n8 (.row 1 [[.v .bD]])) n9 (.row 1 [[.v (gW 3 fs.length o)]]),none,a7,sd7) ⟨by simp[c4,b7],aE.le_refl _,by omega,by omega,rfl,trivial,gB.nil _,⟨by rw[aI _ _ _ _ oY,aI _ _ _ _ oZ];exact fU zs λm e=>(hon m e).1,by rw[aI _ _ _ _ bAM,aI _ _ _ _ bAL];exact zf⟩,rfl,(λm e=>by cases e),(λe h=>by cases h),by simp⟩ ?_
    exact key.get
   ·simp -dsimp -implicitDefEqProofs only[go_sem,↓reduceIte,Tryz.f31,bT,cD,rN,bU,cB,eQ,cC,cA,rP,rM,eP,rO,aI,aG,dZ,eC,eE,eF,eH,lW,dT,iI]
    refine cZ aYC bOO bOP (λx:ISt=>[(0,.op ns 3 0 0),(1,I n),(2,I L0),(3,.bool pl),(8,.op n8 1 0 0),(9,.op n9 1 0 0),(10,I fs.length),(11,.op nf 3 0 0),(12,I x.1),(13,I x.2.1)]) (λx=>aR (aR (bY x.2.2.2.2.1 (.row 5 (OV.cells x.2.2.2.1)) x.2.2.2.2.2.1) nf (.row 3 [[.v (.str nm),.v (I par),.v (gW 5 x.2.1 x.2.2.2.2.2.1)]])) ns (nF c x.2.2.2.2.2.2.1 x.2.2.2.2.2.2.2)) (λx=>a16 fs par a7 (aR (aR (bY g1 (.row 3 (OV.cells es)) o) n8 (.row 1 [[.v .bD]])) n9 (.row 1 [[.v (gW 3 fs.length o)]])) ns nf x) (λx=>x.1.toNat-x.2.1) (par,0,[],[],aR (aR (bY g1 (.row 3 (OV.cells es)) o) n8 (.row 1 [[.v .bD]])) n9 (.row 1 [[.v (gW 3 fs.length o)]]),none,a7,sd7) ⟨by simp[c4,b7],aE.le_refl _,by omega,by omega,rfl,trivial,gB.nil _,⟨by rw[aI _ _ _ _ oY,aI _ _ _ _ oZ];exact fU zs λm e=>(hon m e).1,by rw[aI _ _ _ _ bAM,aI _ _ _ _ bAL];exact zf⟩,rfl,(λm e=>by cases e),(λe h=>by cases h),by simp⟩ ?_
    exact key.get
  case t =>
   rintro⟨cnt,i,outs,eo,g2,oo,a8,sd8⟩ hii
   obtain⟨hcnt,hi,hol,a5Y,bWB,⟨ws,wf⟩,aNS,aS4,hgd,ha8⟩:=id hii
   simp only at hcnt hi hol a5Y bWB ws wf aNS aS4 hgd ha8 ⊢
   simp -dsimp -implicitDefEqProofs only[go_sem,↓reduceIte,Tryz.f31,bT,cD,rN,bU,cB,eQ,cC,cA,rP,rM,eP,rO,aI,aG,dZ,eC,eE,eF,eH,lW,dT,iI]
   have hkeep:∀ q R S,(aR (aR (bY g1 (.row 3 (OV.cells es)) o) n8 (.row 1 [[.v .bD]])) n9 (.row 1 [[.v (gW 3 fs.length o)]])) q=some R->bY g2 S oo q=some R:=λq R S hq=>by
    have h2:=bWB.keep hq
    cases oo with
    |none=>exact h2
    |some m5 =>
     rw[jX]at aNS
     rw[aK,aI _ _ _ _ (λe=>by rw[e,aNS]at h2;cases h2)]
     exact h2
   have hk9:=λS=>hkeep n9 _ S (aM ..)
   refine⟨λmA=>?_,λaQI=>?_⟩
   ·intro ng qg
    have an:¬ng=ns:=by grind
    have bn:¬ng=nf:=by grind
    have zn:bY g2 (.row 5 (OV.cells eo)) oo ng=none:=by grind
    obtain⟨lO,bL,bK,zI⟩:=bB (show ¬ng=ns from an)
    obtain⟨aK2,qD,qE,bOR⟩:=bB (show ¬ng=nf from bn)
    have zof:bY g2 (.row 5 (OV.cells eo)) oo nf=none:=fU wf λm e=>(aS4 m e).2
    have hpr:aFC ⟨fs⟩ n9 (aR (bY g2 (.row 5 (OV.cells eo)) oo) nf (.row 3 [[.v (.str nm),.v (I par),.v (gW 5 i oo)]])):=by
     refine⟨es,o,hor,?_,hfo,λm e=>?_⟩
     ·rw[aI _ _ _ _ bOQ];exact hk9 _
     ·have hm:=hon m e
      subst e
      have h3:=hkeep m (.row 3 (OV.cells es)) (.row 5 (OV.cells eo)) (by rw[aI _ _ _ _ hm.2.2,aI _ _ _ _ hm.2.1,aK,aM])
      rw[aI _ _ _ _ (λq=>by rw[q,zof]at h3;cases h3)]
      exact h3
    simp -dsimp -implicitDefEqProofs only[go_sem,↓reduceIte,Tryz.f31,eQ,bK,eP,qE,bL,qD,aI,aG,dZ,eC,eE,eF,eH,lW,dT,iI,nA]
    rw[show ∀ H:aE,aR H ng (bE.row 4 [[Cell.v (aH.op ns 3 0 0),Cell.v (aH.op n9 1 0 0),Cell.v (I L0),Cell.v (aH.bool pl)]])=aR H ng (nA ns n9 L0 pl)from λ_=>rfl]
    refine aJ.gS (b20 hc hl zI hdr.a9O (by simp only[aC.aD];omega) 5 par _ a8 sd8 L0 (by rw[aI _ _ _ _ aK1];exact fU ws λm e=>(aS4 m e).1) (by rw[aI _ _ _ _ aK2];exact zn) hpr ⟨by omega,by omega,by omega⟩) ?_
    rintro r_ h' ⟨x5,e5,g',a9,sd9,L9,hx,rfl,bWC,⟨v1,v2⟩,rfl,aOZ,hd5,hL9,ha9⟩
    obtain⟨g4,rfl,w4,z4f⟩:=gB.under zof bWC
    simp only[aG,eQ,bK,eP,qE,bL,qD,if_false]at v1 v2
    have hx5:=hx
    rw[aB.pM]at hx
    obtain⟨y4,rfl,os4⟩:=hx
    have b3D:x5.s<=39:=by have:=hL9.2.2;omega
    cases oo with
    |none =>
     rw[kD]at aNS
     subst aNS
     obtain rfl:outs=[]:=aNI.1 a5Y.length
     obtain rfl:i=0:=hol.symm
     simp only[aQ,b5]at *
     simp -dsimp -implicitDefEqProofs only[go_sem,↓reduceIte,Tryz.f31,eQ,bK,eP,qE,bL,qD,aI,aG,dZ,eC,eE,eF,eH,lW,dT,iI,OV.dY,OV.bS,OV.jB,os4.flat,os4.one]
     have ht:=fF []
     refine⟨by decide,by decide,by decide,λm qm=>?_⟩
     have am:¬m=ns:=by grind
     have bm:¬m=nf:=by grind
     have dm:g4 m=none:=by grind
     have em:¬m=ng:=by grind
     skip
     obtain⟨pG,fX,fY,tC⟩:=bB (show ¬m=ns from am)
     obtain⟨aIS,nB,nC,aIT⟩:=bB (show ¬m=nf from bm)
     obtain⟨yX,kN,kO,yY⟩:=bB (show ¬m=ng from em)
     simp -dsimp -implicitDefEqProofs only[go_sem,↓reduceIte,Tryz.f31,eQ,bK,fY,eP,qE,nC,bL,qD,kO,fX,nB,kN,aI,aG,dZ,eC,eE,eF,eH,lW,dT,iI]
     refine⟨(cnt,0+1,[]++[x5],[]++[[.v (.int .i64 x5.aP),.v (.int .i64 x5.aW),.v (.int .i64 x5.bR),.v (.int .i64 x5.bI),y4]],g4,some m,a9,sd9),⟨rfl,IntWalk.i64_in _ aA⟩,?_,hii.next mA hx5 w4 ⟨v1,z4f⟩ dm ⟨am,bm⟩ ⟨b3D,by omega,aOZ⟩ aA,by simp only;omega⟩
     intro q_
     simp only[aG,aK,aY,jW,fF,cW,lK,mT,OV.dY,OV.bS,OV.jB,lW,nZ,sX,ht]
     grind
    |some m5 =>
     rw[jX]at aNS
     obtain⟨g5,rfl,w5,z45⟩:=gB.under aNS w4
     have k1:=(aS4 m5 rfl).1
     have k2:=(aS4 m5 rfl).2
     have k3:¬m5=ng:=λe=>by rw[aK,e,aM]at zn;cases zn
     obtain⟨aYE,mK,mM,aOQ⟩:=bB (show ¬m5=ns from k1)
     obtain⟨aYF,mN,mO,aOR⟩:=bB (show ¬m5=nf from k2)
     obtain⟨bOS,aGJ,aGK,bAN⟩:=bB (show ¬m5=ng from k3)
     simp only[aK,aY]at *
     simp -dsimp -implicitDefEqProofs only[go_sem,↓reduceIte,Tryz.f31,eQ,bK,mM,eP,qE,mO,bL,qD,aGK,mK,mN,aGJ,aI,aG,dZ,eC,eE,eF,eH,lW,dT,iI,OV.dY,OV.bS,OV.jB,os4.flat,os4.one,cW]
     simp only[aG,eQ,bK,mM,eP,qE,mO,bL,qD,aGK,mK,mN,aGJ,if_false]at v1 v2 z4f
     have ht:List.take i (OV.cells eo)=OV.cells eo:=pQ (by rw[cW];have:=a5Y.length;omega)
     refine⟨by decide,by decide,by decide,by have:=a5Y.length;omega,by omega,by omega,λm qm=>?_⟩
     have am:¬m=ns:=by grind
     have bm:¬m=nf:=by grind
     have dm:g5 m=none:=by grind
     have em:¬m=ng:=by grind
     have fm:¬m=m5:=(by grind);have vH:=eq_false fm;have vI:=eq_false (l5 fm);have a5Z:=fm;have a50:=l5 fm
     obtain⟨pG,fX,fY,tC⟩:=bB (show ¬m=ns from am)
     obtain⟨aIS,nB,nC,aIT⟩:=bB (show ¬m=nf from bm)
     obtain⟨yX,kN,kO,yY⟩:=bB (show ¬m=ng from em)
     simp -dsimp -implicitDefEqProofs only[go_sem,↓reduceIte,Tryz.f31,eQ,bK,fY,eP,qE,nC,bL,qD,kO,fX,nB,kN,vH,nB,kN,fX,vI,mN,aGJ,mK,nC,mO,qE,eP,kO,aGK,qD,bL,fY,mM,eQ,bK,aI,aG,dZ,eC,eE,eF,eH,lW,dT,iI]
     refine⟨(cnt,i+1,outs++[x5],eo++[[.v (.int .i64 x5.aP),.v (.int .i64 x5.aW),.v (.int .i64 x5.bR),.v (.int .i64 x5.bI),y4]],g5,some m,a9,sd9),⟨rfl,IntWalk.i64_in _ aA⟩,?_,hii.next mA hx5 w5 ⟨v1,z4f⟩ dm ⟨am,bm⟩ ⟨b3D,by omega,aOZ⟩ aA,by simp only;omega⟩
     intro q_
     simp only[aG,aK,aY,jW,fF,cW,lK,mT,OV.dY,OV.bS,OV.jB,lW,nZ,sX,ht]
     grind
   ·simp -dsimp -implicitDefEqProofs only[go_sem,↓reduceIte,Tryz.f31,bT,cD,rN,bU,cB,eQ,cC,cA,rP,rM,eP,rO,aI,aG,dZ,eC,eE,eF,eH,lW,dT,iI,hk9]
    refine⟨by decide,by rw[kH];rfl,?_⟩
    cases oo with
    |none =>
     rw[kD]at aNS
     subst aNS
     have:=a5Y.length
     simp at this
     rw[this]at hol
     simp at hol
     omega
    |some m5 =>
    have bWC:=xK (sz:=5) bWB aNS
    have hgo:=aCL a5Y (sz:=5) aNS
    have hei:eo.length=i:=by rw[←a5Y.length];exact hol
    rw[jX]at aNS
    obtain⟨k1,k2⟩:=aS4 m5 rfl
    obtain⟨aYE,mK,mM,aOQ⟩:=bB (show ¬m5=ns from k1)
    obtain⟨aYF,mN,mO,aOR⟩:=bB (show ¬m5=nf from k2)
    simp only[aK,aY,aP7]at *
    have b3E:(⟨nm,par,outs⟩:aU).o [.v (.str nm),.v (I par),.sl m5 5 eo]:=⟨_,rfl,hgo⟩
    have hgood:aIL ⟨fs⟩ fs.length ⟨nm,par,outs⟩:=⟨⟨w,hw,hnm.symm⟩,by simp only[aU.aT];omega,by simp only[aU.aN];omega,hgd⟩
    have ws':aR g2 m5 (.row 5 (OV.cells eo)) ns=none:=by rw[aI _ _ _ _ aOQ];exact ws
    have wf':aR g2 m5 (.row 5 (OV.cells eo)) nf=none:=by rw[aI _ _ _ _ aOR];exact wf
    have cET:=hk9 (.row 5 (OV.cells eo))
    clear hkeep
    generalize aR g2 m5 (.row 5 (OV.cells eo))=g6 at *
    have hz8:bY g1 (.row 3 (OV.cells es)) o n8=none:=fU z18 λm e=>(hon m e).2.1
    have hz9:bY g1 (.row 3 (OV.cells es)) o n9=none:=fU z19 λm e=>(hon m e).2.2
    obtain⟨g7,rfl,w7,z78,z79⟩:=gB.aHN hz8 (by rw[aI _ _ _ _ aFU];exact hz9) bWC
    simp only[aG,bT,cD,rN,bU,cB,eQ,cC,cA,rP,rM,eP,rO,if_false]at ws' wf' z79
    cases o with
    |none =>
     rw[kD]at hgs
     subst hgs
     obtain rfl:fs=[]:=aNI.1 hor.length
     simp only[aQ,b5]at *
     simp -dsimp -implicitDefEqProofs only[go_sem,↓reduceIte,Tryz.f31,bT,cD,rN,bU,cB,eQ,cC,cA,rP,rM,eP,rO,aI,aG,dZ,eC,eE,eF,eH,lW,dT,iI]
     have ht:=fF []
     refine⟨by decide,λm qm=>?_⟩
     have am:¬m=ns:=by grind
     have bm:¬m=n8:=by grind
     have cm:¬m=n9:=by grind
     have em:¬m=nf:=by grind
     have dm:g7 m=none:=by grind
     skip
     obtain⟨pG,fX,fY,tC⟩:=bB (show ¬m=ns from am)
     obtain⟨yZ,iA,hU,y5⟩:=bB (show ¬m=n8 from bm)
     obtain⟨aDC,mC,mD,aDD⟩:=bB (show ¬m=n9 from cm)
     obtain⟨aIS,nB,nC,aIT⟩:=bB (show ¬m=nf from em)
     simp -dsimp -implicitDefEqProofs only[go_sem,↓reduceIte,Tryz.f31,bT,cD,rN,hU,bU,cB,eQ,fY,cC,cA,rP,mD,rM,eP,rO,nC,iA,fX,mC,nB,aI,aG,dZ,eC,eE,eF,eH,lW,dT,iI]
     refine⟨([]++[⟨nm,par,outs⟩],[]++[[.v (.str nm),.v (I par),.sl m5 5 eo]],g7,some m,a8,sd8),?_,?_,hdd.next hlt hgood b3E (by simpa only[OV.fC,OV.gZ,OV.sZ,lW,dT]using w7) ⟨ws',z78,z79⟩ dm ⟨am,bm,cm⟩ aA,by simp only[mV,u4];omega⟩
     ·rw[IntWalk.i64_in _ (by first|omega|(simp only[al3];omega))]
      simp only[mV,u4,al3]
      rfl
     ·intro q_
      simp only[aG,aK,aY,jW,fF,cW,lK,mT,OV.dY,OV.bS,OV.jB,OV.aCK,lW,nZ,sX,mV,u4,al3,hei,ht]
      grind
    |some m0 =>
     rw[jX]at hgs
     obtain⟨g8,rfl,w8,z80⟩:=gB.under hgs w7
     obtain⟨k3,k4,k5⟩:=hon m0 rfl
     obtain⟨aC6,iX,iY,aB5⟩:=bB (show ¬m0=ns from k3)
     obtain⟨aOI,mE,mG,aI5⟩:=bB (show ¬m0=n8 from k4)
     obtain⟨aOJ,mH,mI,aI3⟩:=bB (show ¬m0=n9 from k5)
     simp only[aK,aY]at *
     have k6:¬m0=nf:=λe=>by rw[e,aM]at zf;cases zf
     obtain⟨bOT,xS,xT,bOU⟩:=bB (show ¬m0=nf from k6)
     simp only[aG,bT,cD,rN,mG,bU,cB,eQ,iY,cC,cA,rP,mI,rM,eP,rO,xT,mE,iX,mH,xS,if_false]at ws' wf' z78 z79
     simp -dsimp -implicitDefEqProofs only[go_sem,↓reduceIte,Tryz.f31,bT,cD,rN,mG,bU,cB,eQ,iY,cC,cA,rP,mI,rM,eP,rO,xT,mE,iX,mH,xS,aI,aG,dZ,eC,eE,eF,eH,lW,dT,iI,cW]
     have ht:List.take fs.length (OV.cells es)=OV.cells es:=pQ aY5
     refine⟨by decide,by have:=hor.length;omega,by omega,by omega,λm qm=>?_⟩
     have am:¬m=ns:=by grind
     have bm:¬m=n8:=by grind
     have cm:¬m=n9:=by grind
     have em:¬m=nf:=by grind
     have dm:g8 m=none:=by grind
     have fm:¬m=m0:=(by grind);have uM:=eq_false fm;have uN:=eq_false (l5 fm);have aRU:=fm;have aRV:=l5 fm
     obtain⟨pG,fX,fY,tC⟩:=bB (show ¬m=ns from am)
     obtain⟨yZ,iA,hU,y5⟩:=bB (show ¬m=n8 from bm)
     obtain⟨aDC,mC,mD,aDD⟩:=bB (show ¬m=n9 from cm)
     obtain⟨aIS,nB,nC,aIT⟩:=bB (show ¬m=nf from em)
     simp -dsimp -implicitDefEqProofs only[go_sem,↓reduceIte,Tryz.f31,bT,cD,rN,hU,bU,cB,eQ,fY,cC,cA,rP,mD,rM,eP,rO,nC,iA,fX,mC,nB,uM,iA,mC,nB,fX,uN,mE,mH,xS,iX,hU,mG,cD,rN,bT,mD,mI,cC,rP,cA,nC,xT,rM,rO,eP,fY,iY,bU,cB,eQ,aI,aG,dZ,eC,eE,eF,eH,lW,dT,iI]
     refine⟨(fs++[⟨nm,par,outs⟩],es++[[.v (.str nm),.v (I par),.sl m5 5 eo]],g8,some m,a8,sd8),?_,?_,hdd.next hlt hgood b3E (by simpa only[OV.fC,OV.gZ,OV.sZ,lW,dT]using w8) ⟨ws',z78,z79⟩ dm ⟨am,bm,cm⟩ aA,by simp only[mV,u4];omega⟩
     ·rw[IntWalk.i64_in _ (by first|omega|(simp only[al3];omega))]
      simp only[mV,u4,al3]
      rfl
     ·intro q_
      simp only[aG,aK,aY,jW,fF,cW,lK,mT,OV.dY,OV.bS,OV.jB,OV.aCK,lW,nZ,sX,mV,u4,al3,hei,ht]
      grind
 ·have hfe:es.length=fs.length:=hor.length.symm
  refine⟨_,_,Shift.of (Sub.refl _) ?_,fs,es,o,g1,a3,sd3,by omega,hdr,hor,hnew,zs,hgs,λm e=>(hon m e).1,hfo,rfl,by omega,rfl⟩
  have y8:bY g1 (.row 3 (OV.cells es)) o n8=none:=fU z18 λm e=>(hon m e).2.1
  have y9:bY g1 (.row 3 (OV.cells es)) o n9=none:=fU z19 λm e=>(hon m e).2.2
  intro q_
  simp only[aG]
  grind
theorem b3F (c:List Int) {g:aE}:jC Tryz.prog 30 [.sl 1 (c.map λn=>[.int .u8 n]) false] g λr h'=>∃ ns,r=.op ns 3 0 0/\g ns=none/\h'=aR g ns (nF c 0 0):=by
 refine aP0 6 aD2 dC cK Tryz.func30 ?_
 simp -dsimp -implicitDefEqProofs only[go_sem,↓reduceIte,Tryz.f30]
 intro n q
 exact⟨_,aE.le_refl _,n,rfl,q,rfl⟩
theorem Shift.bWD {h h':aE} {w:aH->aH} (hw:a29 w) (e:List OV) (ho:xH h' (OV.cJ e)) (hl:h.le (jL h' (bH (OV.cJ e)))):Shift (w (.agg (e.map OV.val))) h' (w (.agg (e.map OV.pU))) h:=λE W v R rx =>
 ⟨E,(Ev.jL _).forget hl,(R.jL _).forget hl,(hw E h' _ W _ _ v (λb=>tJ _ b) (λu ru=>gC.aP1 R e u ho (λp hp=>dR.2 ⟨p.2,hp⟩) ru) rx).sB λb hb=>qK.le hl hb⟩
theorem aYG {α:Type} (f:α->Nat) (m:Nat):∀ l:List α,(∀ x∈l,f x<=m)->uW f l<=(m+1)*l.length
 | [],_=>by simp[uW]
 |x::l,h=>by
  have h1:=aYG f m l λy hy=>h y (.tail _ hy)
  have h2:=h x (.head _)
  simp only[uW,al2,nZ,aOV]at h1 ⊢
  rw[aYY,Nat.mul_one];omega
theorem bAO {nm:List UInt8} (hnm:nm.length<=10) {fs:List aU} (hd:aG5 fs) (hl:fs.length<=3) {n:Int} {k:Nat} (hk:k<=10) {outs:List aB} (ho:outs.length=k) (hs:∀ x∈outs,x.s<=62):(aNC nm fs n outs).s<=4194304:=by
 have h1:∀ f∈fs,f.s<=1000:=λf hf=>by
  obtain⟨j,hj,-,⟨w,hw,hn⟩,-,h3,h4⟩:=hd.get hf
  obtain⟨c,hc,-,-⟩:=a1S (k:=j) aA
  have h5:w.length<=4:=by simp only[aXQ,pY,aTB,or_false]at hw;rcases hw with rfl|rfl|rfl|rfl <;> decide
  have h6:=aYG aB.s 39 f.aN λx hx=>(h4 x hx).1
  rw[aU.u9,hn,hc,mV,u4]
  omega
 have h2:=aYG aU.s 1000 (fs++[⟨nm,n,outs⟩]) λf hf=>by
  rcases pJ.1 hf with hf|hf
  ·exact h1 f hf
  ·rw[jF.1 hf,aU.u9]
   have h7:=aYG aB.s 62 outs hs
   simp only[aU.e8,aU.aN]
   omega
 rw[aC.u9,aNC]
 simp only[aC.aD]
 rw[mV,u4]at h2
 omega
theorem bAP {h H:aE} {n5 b mo:Nat} {X Y R:bE} (hl:h.le H) (h1:h n5=none) (h2:h b=none) (h3:h mo=none):h.le (aR (aR (aR H mo R) n5 X) b Y):=λq=>by
 have:=hl q
 simp only[aG]
 grind
theorem bCN {p:aC} {i k:Nat} (hi:i<p.aD.length) (hk:k<p.aD.length) (h:p.aD[i].e8=mJ p k):(List.range p.aD.length).any (a5L p)=true :=
 aOU.2 ⟨k,aLK.2 hk,aOU.2 ⟨_,eI hi,decide_eq_true h⟩⟩
@[go_sem] def aR5:List Nat:=[0,1,2,3,4,5,6,7,9,15,22,38,45,56]
@[go_sem] def bJE:List Nat:=[1,52]
@[go_sem] def bJF:Marks:=λid=>match id with|9=>([],(.op 0 (.op 1 (.op 2 (.op 3 (.op 4 (.op 5 (.op 6 (.op 7 (.op 8 (.op 9 (.op 10 (.op 11 (.op 12 (.op 13 .nil)))))))))))))),[])|15=>([1,5,7],(.op 0 (.op 2 (.op 3 (.op 4 (.op 1 (.op 5 (.op 6 (.op 7 .nil)))))))),[])|_=>([],.nil,[])
set_option maxHeartbeats 1000000 in
theorem aIU (p:aC) (hps:p.s<=4194304):fM Tryz.prog 15 [.agg p.c] (.jO [.agg (oT p).1.c,I (oT p).2]):=by
 have hvp:=bFF p aA
 by_cases hp:p.ok
 ·rw[decide_eq_true hp]at hvp
  have hpl:=hp.1
  have hder:∀ f (hf:f<p.aD.length),fM Tryz.prog 55 [.ip 1 [p.c] 0 0,I f] (.agg (vG (mJ p) p f p.aD[f]).c):=λf hf=>a15 hp f hf
  have hDl:(p.aD.mapIdx (vG (mJ p) p)).length=p.aD.length:=aYZ
  have hDk:∀ k (h:k<p.aD.length),(p.aD.mapIdx (vG (mJ p) p))[k]'aVG=vG (mJ p) p k p.aD[k]:=λk h=>bDM ..
  have hdP:xR (mJ p) p=⟨p.aD++p.aD.mapIdx (vG (mJ p) p)⟩:=rfl
  generalize hDe:p.aD.mapIdx (vG (mJ p) p)=D at *
  have hot:=λh=>bWA p (h:=h) (by have:=bJC hp;omega)
  simp only[aC.aS p]at hvp hder hot ⊢
  refine iN 59 aR5 bJE bJF Tryz.func15 λh=>?_
  simp -dsimp -implicitDefEqProofs only[go_sem,↓reduceIte,Tryz.f15]
  refine λb hb=>?_
  first|refine aJ.mk (hvp) ?_|refine aF.mk (hvp) ?_|refine aJ.bA (hvp) ?_|refine aF.mk (aX.cU (hvp)) ?_
  simp -dsimp -implicitDefEqProofs only[go_sem,↓reduceIte,Tryz.f15]
  refine cZ aR5 bJE bJF (λi:Nat=>[(1,.ip 1 [[fN 3 aU.c p.aD]] 0 0),(2,.op b 1 0 0),(4,I i)]) (λ_=>aR h b (.row 1 [[.v .bD]])) (λi=>i<=p.aD.length/\∀ j (hj:j<p.aD.length),j<i->∀ k,k<p.aD.length->¬p.aD[j].e8=mJ p k) (λi=>p.aD.length-i) 0 ⟨by simp[c4,b7],aE.le_refl _,fE _,λ_ _ q=>absurd q (aMP _)⟩ ?_
  intro i ⟨hi,hnc⟩
  rcases bZ i p.aD.length with hlt|hge
  ·have ea:p.aD[i]?=some p.aD[i]:=cM hlt
   simp -dsimp -implicitDefEqProofs only[go_sem,↓reduceIte,Tryz.f15,hlt]
   intro _
   refine cZ aR5 bJE bJF (λk:Nat=>[(1,.ip 1 [[fN 3 aU.c p.aD]] 0 0),(2,.op b 1 0 0),(4,I i),(5,I k)]) (λ_=>aR h b (.row 1 [[.v .bD]])) (λk=>k<=p.aD.length/\∀ k',k'<k->¬p.aD[i].e8=mJ p k') (λk=>p.aD.length-k) 0 ⟨by simp[c4,b7],aE.le_refl _,fE _,λ_ q=>absurd q (aMP _)⟩ ?_
   intro k ⟨hk,hnk⟩
   rcases bZ k p.aD.length with mA|aQI
   ·have hdec:=aFX (p.aD.length+k+1) ((p.aD.length+k:Nat):Int) aA aA aA
    have w2:IntKind.i64.wrap ((p.aD.length:Int)+(k:Int))=((p.aD.length+k:Nat):Int):=by rw[IntWalk.i64_in _ aA];omega
    have hil:=qN (n:=((p.aD.length+k:Nat):Int)) aA aA
    have hdn:mJ p k=100::Go.Lib.itoa ((p.aD.length+k:Nat):Int):=rfl
    simp -dsimp -implicitDefEqProofs only[go_sem,↓reduceIte,Tryz.f15,mA,ea,aU.aS,w2]
    refine λ_=>⟨hlt,?_⟩
    first|refine aJ.mk (hdec) ?_|refine aF.mk (hdec) ?_|refine aJ.bA (hdec) ?_|refine aF.mk (aX.cU (hdec)) ?_
    simp -dsimp -implicitDefEqProofs only[go_sem,↓reduceIte,Tryz.f15]
    refine⟨by omega,λq=>?_,λq=>⟨k+1,IntWalk.i64_in _ aA,⟨mA,λk' hk'=>?_⟩,by omega⟩⟩
    ·have e:oT p=(⟨[]⟩,4):=by rw[oT,if_pos hp,if_pos (bCN hlt mA q)]
     rw[e]
     exact Shift.of (Sub.jO (.cons (Sub.agg (.cons (Sub.nil 3 false) .nil)) (.cons (.refl _) .nil))) sA
    ·rcases bZ k' k with h1|h1
     ·exact hnk k' h1
     ·obtain rfl:k'=k:=by omega
      exact q
   ·obtain rfl:k=p.aD.length:=by omega
    simp -dsimp -implicitDefEqProofs only[go_sem,↓reduceIte,Tryz.f15,bX,dB]
    intro _
    refine⟨i+1,IntWalk.i64_in _ aA,⟨hlt,λj hj hji k hk=>?_⟩,by omega⟩
    rcases bZ j i with h1|h1
    ·exact hnc j hj h1 k hk
    ·obtain rfl:j=i:=by omega
     exact hnk k hk
  ·obtain rfl:i=p.aD.length:=by omega
   have hnd:¬(List.range p.aD.length).any (a5L p)=true:=λq=>by
    obtain⟨k,hk,hq⟩:=aOU.1 q
    obtain⟨f,hf,hq⟩:=aOU.1 hq
    obtain⟨j,hj,rfl⟩:=aD8.1 hf
    exact hnc j hj hj k (aLK.1 hk) (of_decide_eq_true hq)
   simp -dsimp -implicitDefEqProofs only[go_sem,↓reduceIte,Tryz.f15,bX,dB]
   intro _
   refine aJ.gS (hot _) ?_
   rintro r_ h' ⟨o,hos,rfl,rfl⟩
   simp -dsimp -implicitDefEqProofs only[go_sem,↓reduceIte,Tryz.f15]
   intro nx hnx
   obtain⟨HB,hHB⟩:∃ H:aE,H=aR h b (.row 1 [[.v .bD]]):=⟨_,rfl⟩
   rw[←hHB]at hos hnx ⊢
   have B1:HB b=some (.row 1 [[.v .bD]]):=by rw[hHB];exact aM ..
   have B4:h.le HB:=by rw[hHB];exact aE.bP hb (aE.le_refl _)
   have B5:∀ q,HB q=none->¬q=b/\h q=none:=λq hq=>by rw[hHB]at hq;simp only[aG]at hq;exact wF hq
   clear hHB
   have B3:HB nx=none:=by
    cases o with
    |none=>exact hnx
    |some m =>
     rw[aK]at hnx
     simp only[aG]at hnx
     exact(wF hnx).2
   have hon:∀ m,o=some m->¬m=nx:=λm e q=>by
    subst e q
    rw[aK,aM]at hnx;cases hnx
   have a5E:¬nx=b:=(B5 nx B3).1
   obtain⟨a5E,kK,kL,bVU⟩:=bB (show ¬nx=b from a5E)
   clear hnx
   refine⟨by cases o <;> rfl,?_⟩
   refine cZ aR5 bJE bJF (λx:Nat×Option Nat=>[(1,.ip 1 [[fN 3 aU.c p.aD]] 0 0),(2,.op b 1 0 0),(6,.op nx 1 0 0),(7,I x.1)]) (λx=>aR (bY HB (wG (p.aD++D.take x.1)) x.2) nx (.row 1 [[.v (iO 3 (p.aD.length+x.1) x.2)]])) (λx=>x.1<=p.aD.length/\fT HB (p.aD++D.take x.1) x.2/\∀ m,x.2=some m->¬m=nx) (λx=>p.aD.length-x.1) (0,o) ⟨by simp[c4,b7],?_,fE _,?_,hon⟩ ?_
   ·simp only[aSF,dT,aNG]
    rw[aO]
    exact aE.le_refl _
   ·simp only[aSF,dT]
    exact hos
   clear hos hon
   rintro⟨k,o⟩ ⟨hkk,hos,hon⟩
   simp only at hkk hos hon ⊢
   rcases bZ k p.aD.length with hlt|hge
   ·have hx:=hder k hlt
    have hg:p.aD++D.take (k+1)=p.aD++D.take k++[vG (mJ p) p k p.aD[k]]:=by
     rw[jU aA,hDk k hlt,aD6]
    have hlL:(p.aD++D.take k).length=p.aD.length+k:=by rw[mV,jT];omega
    generalize vG (mJ p) p k p.aD[k]=X at *
    cases o with
    |none =>
     rw[aZ]at hos
     exact absurd (congrArg List.length hos) (by simp only[mV,al3];omega)
    |some mo =>
     rw[aV]at hos
     have V5:=hon mo rfl
     rw[aK,bC]
     simp only[aU.aS X]at hx
     obtain⟨bOV,aGL,aGM,bAQ⟩:=bB (show ¬mo=nx from V5)
     simp -dsimp -implicitDefEqProofs only[go_sem,↓reduceIte,Tryz.f15,aGL,aGM,aG,hlt]
     intro _
     first|refine aJ.mk (hx) ?_|refine aF.mk (hx) ?_|refine aJ.bA (hx) ?_|refine aF.mk (aX.cU (hx)) ?_
     simp -dsimp -implicitDefEqProofs only[go_sem,↓reduceIte,Tryz.f15,aGL,aGM,aG,hlt]
     rw[wG]
     simp -dsimp -implicitDefEqProofs only[go_sem,↓reduceIte,Tryz.f15,aGL,aGM,aG]
     refine⟨by decide,by decide,by decide,by omega,by omega,by omega,λc hc=>?_⟩
     obtain⟨R2,R3,R4⟩:=aFM hc
     obtain⟨bIT,aR0,aR1,bIU⟩:=bB (show ¬c=nx from R2)
     obtain⟨bI1,aLL,aLM,bI2⟩:=bB (show ¬c=mo from R3)
     simp -dsimp -implicitDefEqProofs only[go_sem,↓reduceIte,Tryz.f15,aGL,aLM,aGM,aR1,aLL,aR0,aG]
     rw[aUW _ X hlL,←hg]
     exact⟨(k+1,some c),IntWalk.i64_in _ aA,aFS hos R2 R3 V5,⟨hlt,R4,λm' e=>by cases e;exact R2⟩,by simp only;omega⟩
   ·obtain rfl:k=p.aD.length:=by omega
    rw[pQ aA]at hos ⊢
    have hds:=bH9 hp (nm:=mJ p) λg hg=>by
     have:=qN (n:=((p.aD.length+g:Nat):Int)) aA aA
     rw[mJ,al2];omega
    have a1U:=bFF (xR (mJ p) p) aA
    have e:oT p=if (xR (mJ p) p).ok then(xR (mJ p) p,0)else(⟨[]⟩,3):=by rw[oT,if_pos hp,if_neg hnd]
    rw[e]
    rw[hdP]at a1U ⊢
    simp -dsimp -implicitDefEqProofs only[go_sem,↓reduceIte,Tryz.f15,bX,dB]
    intro _
    cases o with
    |none =>
     rw[aZ]at hos
     rw[aQ,bM]
     have hview:=View.box (g:=HB) (nb:=nx) (sz:=1) (e:=[OV.nil 3]) (T:=aC.c ⟨p.aD++D⟩) (by rw[aC.aS,hos];rfl) B3 (by simp[OV.cJ,OV.uE,xH])
     rw[show OV.cells [[OV.nil 3]]=[[.v (.sl 3 [] true)]]by simp[OV.cells,OV.val]]at hview
     refine aJ.bP8 a1U (.cons hview .nil) rfl ?_
     simp -dsimp -implicitDefEqProofs only[go_sem,↓reduceIte,Tryz.f15,kK,kL,aG,B1]
     refine⟨λq=>?_,λq=>?_⟩
     ·rw[if_neg q]
      exact Shift.of (Sub.jO (.cons (Sub.agg (.cons (Sub.nil 3 false) .nil)) (.cons (.refl _) .nil))) (aGG B4 (B5 nx B3).2 hb)
     ·rw[if_pos q,hos]
      exact Shift.of (Sub.jO (.cons (Sub.agg (.cons (Sub.loose 3 [] true) .nil)) (.cons (.refl _) .nil))) (aGG B4 (B5 nx B3).2 hb)
    |some mo =>
     rw[aV]at hos
     have V5:=hon mo rfl
     have Y1:¬mo=b:=(B5 mo hos).1
     obtain⟨bOV,aGL,aGM,bAQ⟩:=bB (show ¬mo=nx from V5)
     obtain⟨bI3,aIQ,aIR,bI4⟩:=bB (show ¬mo=b from Y1)
     rw[aK,bC]
     have hview:=View.box (g:=aR HB mo (wG (p.aD++D))) (nb:=nx) (sz:=1) (e:=[OV.sl mo 3 ((p.aD++D).map λf=>f.c.map OV.v)]) (T:=aC.c ⟨p.aD++D⟩) (by rw[aC.aS,aI1,OV.pU,OV.fS,aMI]) (by rw[aI _ _ _ _ bAQ];exact B3) (by
      intro q hq
      simp only[OV.fC,OV.gZ,OV.hJ,aIM,aGF,dT,jF]at hq
      rw[hq]
      exact aM ..)
     rw[show OV.cells [[OV.sl mo 3 ((p.aD++D).map λf=>f.c.map OV.v)]]=[[.v (.os mo 3 0 (p.aD.length+p.aD.length))]]by simp[OV.cells,OV.val,hDl]]at hview
     refine aJ.bP8 a1U (.cons hview .nil) rfl ?_
     simp -dsimp -implicitDefEqProofs only[go_sem,↓reduceIte,Tryz.f15,aGL,aIQ,aGM,kK,aIR,kL,aG,B1]
     refine⟨λq=>?_,λq=>?_⟩
     ·rw[if_neg q]
      exact Shift.of (Sub.jO (.cons (Sub.agg (.cons (Sub.nil 3 false) .nil)) (.cons (.refl _) .nil))) (bAP B4 (B5 nx B3).2 hb (B5 mo hos).2)
     ·rw[if_pos q]
      have hw:=Shift.bWD (h:=h) (h':=aR (aR (aR HB mo (wG (p.aD++D))) nx (.row 1 [[.v (.os mo 3 0 (p.aD.length+p.aD.length))]])) b (.row 1 [[.v (.os mo 3 0 (p.aD.length+p.aD.length))]])) (aEW [] [I 0]) [OV.sl mo 3 ((p.aD++D).map λf=>f.c.map OV.v)]
      have hrows:OV.cJ [OV.sl mo 3 ((p.aD++D).map λf=>f.c.map OV.v)]=[(mo,wG (p.aD++D))]:=by
       simp only[OV.fC,OV.gZ,OV.hJ,aIM,aGF,dT];rfl
      have hdat:[OV.sl mo 3 ((p.aD++D).map λf=>f.c.map OV.v)].map OV.pU=aC.c ⟨p.aD++D⟩:=by rw[aC.aS,aI1,OV.pU,OV.fS,aMI]
      have hval:[OV.sl mo 3 ((p.aD++D).map λf=>f.c.map OV.v)].map OV.val=[.os mo 3 0 (p.aD.length+p.aD.length)]:=by simp[OV.val,hDl]
      rw[hrows,hdat,hval]at hw
      refine hw (λq hq=>?_) λq=>?_
      ·rw[jF.1 hq]
       show aR _ b _ mo=_
       rw[aI _ _ _ _ Y1,aI _ _ _ _ V5,aM]
      ·by_cases e1:q=mo
       ·rw[e1];exact .inl (B5 mo hos).2
       ·rw[iL (by simp[bH,e1])]
        exact bAP B4 (B5 nx B3).2 hb (B5 mo hos).2 q
 ·rw[decide_eq_false hp]at hvp
  have e:oT p=(⟨[]⟩,1):=by rw[oT,if_neg hp]
  rw[e]
  simp only[aC.aS]at hvp ⊢
  refine iN 59 aR5 bJE bJF Tryz.func15 λh=>?_
  simp -dsimp -implicitDefEqProofs only[go_sem,↓reduceIte,Tryz.f15]
  refine λb hb=>?_
  first|refine aJ.mk (hvp) ?_|refine aF.mk (hvp) ?_|refine aJ.bA (hvp) ?_|refine aF.mk (aX.cU (hvp)) ?_
  simp -dsimp -implicitDefEqProofs only[go_sem,↓reduceIte,Tryz.f15]
  exact Shift.of (Sub.jO (.cons (Sub.agg (.cons (Sub.nil 3 false) .nil)) (.cons (.refl _) .nil))) sA
noncomputable def gY (p:aC) (f:Int) (start:List Int) (order:Int):List (List Int)×Int :=
 if fW p f [start] order=0 then(match wT p f start with
  | .ok ((L,F),_)=>(eS (Vy F.code L) start order.toNat,0)
  | .error c=>([],c))
 else([],fW p f [start] order)
theorem aNF {p:aC} {f:Int} {ls:List (List Int)} {order:Int} (h:fW p f ls order=0):p.ok/\(0<=f/\f<p.aD.length)/\(0<=order/\order<=12)/\∃ G,p.aD[f.toNat]?=some G/\(1<=G.aT/\G.aT<=12)/\((p.outs f).length:Int)=G.aT/\∀ l∈ls,(l.length:Int)=G.aT/\dW l:=by
 by_cases h0:j9 p f p8=0
 ·obtain⟨h1,h2,G,ef,e1,e2,e3⟩:=aDA h0
  rw[fW,if_pos h0]at h
  split at h
  ·rename_i h4
   rw[e1]at h4
   simp only[p8,oW,decide_eq_true_eq]at e3
   exact⟨h1,h2,h4.2,G,ef,e3.1,by rw[e2];exact e3.2,h4.1⟩
  ·cases h
 ·rw[fW,if_neg h0]at h
  exact absurd h h0
theorem bJG {p d:aC} (H:Der p d) {f:Int} {start one:List Int} {order:Int} (h0:fW p f [start,one] order=0) {L:List Int} {F:dS} {u:Nat} (hX:wT p f start=.ok ((L,F),u)) (hd:(gY d (p.aD.length+f) (start++one) order).2=0) :
  (gY d (p.aD.length+f) (start++one) order).1=eS (Vy F.code L) start order.toNat++eS (Vz F.code L (eS (Vy F.code L) start)) one order.toNat:=by
 obtain⟨h1,h2,h3,G,ef,h4,h5,h6⟩:=aNF h0
 obtain⟨a1,a2⟩:=h6 start (.head _)
 obtain⟨b1,b2⟩:=h6 one (.tail _ (.head _))
 have hl:∀ G',p.aD[f.toNat]?=some G'->(start.length:Int)=G'.aT:=λG' hG=>by rw[ef]at hG;cases hG;exact a1
 have T:=aUM h1 h2 a2 aA hl hX
 by_cases hs:fW d (p.aD.length+f) [start++one] order=0
 ·obtain⟨g1,g2,g3,G',eg,g4,g5,g6⟩:=aNF hs
  obtain⟨c1,c2⟩:=g6 _ (.head _)
  cases hr:wT d (p.aD.length+f) (start++one)with
  |error c =>
   have hcode:∀ G'',d.aD[((p.aD.length:Int)+f).toNat]?=some G''->((start++one).length:Int)=G''.aT:=λG'' hG=>by rw[eg]at hG;cases hG;exact c1
   have hc:=aF0 d 1 _ _ c (aKS g1 g2 c2 hcode hr).1
   rw[show gY d (p.aD.length+f) (start++one) order=([],c)by rw[gY,if_pos hs,hr]]at hd
   exact absurd hd aO0
  |ok z =>
   obtain⟨⟨L',F'⟩,u'⟩:=z
   have T':=aUM g1 g2 c2 aA (λG'' hG=>by rw[eg]at hG;cases hG;exact c1) hr
   rw[show gY d (p.aD.length+f) (start++one) order=(eS (Vy F'.code L') (start++one) order.toNat,0)by rw[gY,if_pos hs,hr]]
   exact a1N h1 H h2 a2 b2 aA hl hX T (by have:=T.ll;omega) T' order.toNat
 ·rw[gY,if_neg hs]at hd
  exact absurd hd hs
@[go_sem] def a52:List Nat:=[0,1,2,3,4,8,9,10,18]
@[go_sem] def bWE:List Nat:=[4,15]
theorem a54 (p:aC) (hps:p.s<=4194304) (f:Int) (start:List Int) (order:Int):fM Tryz.prog 17 [.agg p.c,I f,ints start,I order] (.jO [b6 (gY p f start order).1,I (gY p f start order).2]):=by
 have h1:=aOG p f hps [start] cT order
 by_cases h0:fW p f [start] order=0
 ·obtain⟨S,_⟩:=yW h0
  obtain⟨o,rfl⟩:∃ o:Nat,order=((o+1:Nat):Int)-1:=⟨order.toNat,by have:=S.ord;omega⟩
  have ho:=S.ord
  rw[h0]at h1
  cases hX:wT p f start with
  |ok q =>
   obtain⟨⟨L,F⟩,u⟩:=q
   have T:=aUM S.ok S.fn S.ns S.hs.2 S.par hX
   have hll:L.length=start.length:=by rw[T.ll,S.outs]
   have e:gY p f start (((o+1:Nat):Int)-1)=(eS (Vy F.code L) start o,0):=by
    rw[gY,if_pos h0,hX,show(((o+1:Nat):Int)-1).toNat=o by omega]
   have h2:=b2M S.ok (sz:=o+1) aA f S.fn S.ns (by have:=S.hs;omega) S.par (a9E T hll) (λX hX=>T.ev (o+1) X aA hX)
   rw[a4V S.ns (a9E T hll) (o:=o) (n:=o+1) aA]at h2
   rw[e]
   generalize (((o+1:Nat):Int)-1)=order at *
   rw[aC.aS]at h1 h2 ⊢
   refine iN 27 a52 bWE cK Tryz.func17 λh=>?_
   simp -dsimp -implicitDefEqProofs only[go_sem,↓reduceIte,Tryz.f17]
   refine⟨by decide,by decide,aJ.mk (fM.sub (.cons (.refl _) (.cons (.refl _) (.cons (.refl _) (.cons (Sub.loose 1 [[ints start]] true) .nil)))) h1) ?_⟩
   simp -dsimp -implicitDefEqProofs only[go_sem,↓reduceIte,Tryz.f17]
   first|refine aJ.mk (h2) ?_|refine aF.mk (h2) ?_|refine aJ.bA (h2) ?_|refine aF.mk (aX.cU (h2)) ?_
   simp -dsimp -implicitDefEqProofs only[go_sem,↓reduceIte,Tryz.f17]
   exact bG (aE.le_refl _)
  |error c =>
   have e:gY p f start (((o+1:Nat):Int)-1)=([],c):=by rw[gY,if_pos h0,hX]
   have he:=(aKS S.ok S.fn S.ns S.par hX).2 (o+1) _ aA (aOD S.ns aA)
   have h2:=bQ9 S.ok (sz:=o+1) aA f S.fn S.ns (by have:=S.hs;omega) S.par he
   rw[e]
   generalize (((o+1:Nat):Int)-1)=order at *
   rw[aC.aS]at h1 h2 ⊢
   refine iN 27 a52 bWE cK Tryz.func17 λh=>?_
   simp -dsimp -implicitDefEqProofs only[go_sem,↓reduceIte,Tryz.f17]
   refine⟨by decide,by decide,aJ.mk (fM.sub (.cons (.refl _) (.cons (.refl _) (.cons (.refl _) (.cons (Sub.loose 1 [[ints start]] true) .nil)))) h1) ?_⟩
   simp -dsimp -implicitDefEqProofs only[go_sem,↓reduceIte,Tryz.f17]
   first|refine aJ.mk (h2) ?_|refine aF.mk (h2) ?_|refine aJ.bA (h2) ?_|refine aF.mk (aX.cU (h2)) ?_
   simp -dsimp -implicitDefEqProofs only[go_sem,↓reduceIte,Tryz.f17]
   exact bG (aE.le_refl _)
 ·have e:gY p f start order=([],fW p f [start] order):=by rw[gY,if_neg h0]
  rw[e]
  generalize fW p f [start] order=c at *
  rw[aC.aS]at h1 ⊢
  refine iN 27 a52 bWE cK Tryz.func17 λh=>?_
  simp -dsimp -implicitDefEqProofs only[go_sem,↓reduceIte,Tryz.f17]
  refine⟨by decide,by decide,aJ.mk (fM.sub (.cons (.refl _) (.cons (.refl _) (.cons (.refl _) (.cons (Sub.loose 1 [[ints start]] true) .nil)))) h1) ?_⟩
  simp -dsimp -implicitDefEqProofs only[go_sem,↓reduceIte,Tryz.f17,h0]
  exact Shift.of (Sub.jO (.cons (Sub.nil 1 false) (.cons (.refl _) .nil))) (aE.le_refl _)
@[go_sem] def bJH:List Nat:=[0,1,2,3,4,8,9,10,16]
@[go_sem] def ib8:List Nat:=[4,17]
theorem aR6 (p:aC) (hps:p.s<=4194304) (f:Int) (start:List Int) (order:Int):fM Tryz.prog 8 [.agg p.c,I f,ints start,I order] (.jO [b6 (gY p f start order).1,I (gY p f start order).2]):=by
 have h1:=bHR p hps f start order
 by_cases h0:fW p f [start] order=0
 ·obtain⟨S,_⟩:=yW h0
  obtain⟨o,rfl⟩:∃ o:Nat,order=((o+1:Nat):Int)-1:=⟨order.toNat,by have:=S.ord;omega⟩
  have ho:=S.ord
  rw[h0]at h1
  cases hX:wT p f start with
  |ok q =>
   obtain⟨⟨L,F⟩,u⟩:=q
   have T:=aUM S.ok S.fn S.ns S.hs.2 S.par hX
   have hll:L.length=start.length:=by rw[T.ll,S.outs]
   have e:gY p f start (((o+1:Nat):Int)-1)=(eS (Vy F.code L) start o,0):=by
    rw[gY,if_pos h0,hX,show(((o+1:Nat):Int)-1).toNat=o by omega]
   have h01:evF p 1 f (start.map λn=>[n])=.ok (Vy F.code L 1 (start.map λn=>[n]),u):=T.ev 1 _ (iH _) (gE (Vy F.code L) S.ns 0)
   have h2:=aXD (bH1 S.ok (sz:=o+1) aA f S.fn S.ns S.hs S.par (a9E T hll) h01 (λsz X a b=>T.ev sz X a b))
   rw[Nat.add_sub_cancel]at h2
   rw[e]
   generalize (((o+1:Nat):Int)-1)=order at *
   rw[aC.aS]at h1 h2 ⊢
   refine iN 25 bJH ib8 cK Tryz.func8 λh=>?_
   simp -dsimp -implicitDefEqProofs only[go_sem,↓reduceIte,Tryz.f8]
   first|refine aJ.mk (h1) ?_|refine aF.mk (h1) ?_|refine aJ.bA (h1) ?_|refine aF.mk (aX.cU (h1)) ?_
   simp -dsimp -implicitDefEqProofs only[go_sem,↓reduceIte,Tryz.f8]
   first|refine aJ.mk (h2) ?_|refine aF.mk (h2) ?_|refine aJ.bA (h2) ?_|refine aF.mk (aX.cU (h2)) ?_
   simp -dsimp -implicitDefEqProofs only[go_sem,↓reduceIte,Tryz.f8]
   exact bG (aE.le_refl _)
  |error c =>
   have e:gY p f start (((o+1:Nat):Int)-1)=([],c):=by rw[gY,if_pos h0,hX]
   have he:=(aKS S.ok S.fn S.ns S.par hX).1
   have h2:=bH3 S.ok f S.fn S.ns S.hs S.par he (((o+1:Nat):Int)-1)
   rw[e]
   generalize (((o+1:Nat):Int)-1)=order at *
   rw[aC.aS]at h1 h2 ⊢
   refine iN 25 bJH ib8 cK Tryz.func8 λh=>?_
   simp -dsimp -implicitDefEqProofs only[go_sem,↓reduceIte,Tryz.f8]
   first|refine aJ.mk (h1) ?_|refine aF.mk (h1) ?_|refine aJ.bA (h1) ?_|refine aF.mk (aX.cU (h1)) ?_
   simp -dsimp -implicitDefEqProofs only[go_sem,↓reduceIte,Tryz.f8]
   first|refine aJ.mk (h2) ?_|refine aF.mk (h2) ?_|refine aJ.bA (h2) ?_|refine aF.mk (aX.cU (h2)) ?_
   simp -dsimp -implicitDefEqProofs only[go_sem,↓reduceIte,Tryz.f8]
   exact bG (aE.le_refl _)
 ·have e:gY p f start order=([],fW p f [start] order):=by rw[gY,if_neg h0]
  rw[e]
  generalize fW p f [start] order=c at *
  rw[aC.aS]at h1 ⊢
  refine iN 25 bJH ib8 cK Tryz.func8 λh=>?_
  simp -dsimp -implicitDefEqProofs only[go_sem,↓reduceIte,Tryz.f8]
  first|refine aJ.mk (h1) ?_|refine aF.mk (h1) ?_|refine aJ.bA (h1) ?_|refine aF.mk (aX.cU (h1)) ?_
  simp -dsimp -implicitDefEqProofs only[go_sem,↓reduceIte,Tryz.f8,h0]
  exact⟨by decide,Shift.of (Sub.jO (.cons (Sub.loose _ _ _) (.cons (.refl _) .nil))) (aE.le_refl _)⟩
def Zm (m:Nat) (f:Nat->Int):Prop:=∀ j,j<m->Cg (f j) 0
theorem Zm.add {m:Nat} {f g:Nat->Int} (a:Zm m f) (b:Zm m g):Zm m λj=>f j+g j:=λj hj=>(a j hj).add (b j hj)
def cAM (code:List bO) (L:List Int) (sz n:Nat) (X b:List (List Int)):Nat->Nat->List Int:=b9O n (λi k=>((aAX code L (tP sz X code code.length) sz n).getD i []).getD k []) λi=>b.getD i []
def b3G (F:dS) (L:List Int):List Int:=L.map λr=>F.jE.getD r.toNat 0
structure bWF (p:aC) (f:Int) (args dir L:List Int) (F:dS) (u sz:Nat):Prop where
 ok:p.ok
 fn:0<=f/\f<p.aD.length
 hn:1<=args.length/\args.length<=6
 hs:1<=sz/\sz<=13
 na:dW args
 nd:dW dir
 ld:dir.length=args.length
 par:∀ F,p.aD[f.toNat]?=some F->(args.length:Int)=F.aT
 hre:wT p f args=.ok ((L,F),u)
 T:aFH p f args L F u
 hL:L.length=args.length
 det:¬gjF b9N args.length (cAM F.code L 1 args.length (args.map λn=>[n]) ((L.map λr=>pW 1 (args.map λn=>[n]) F.code r.toNat))) args.length=none
section
variable {p:aC} {f:Int} {args dir L:List Int} {F:dS} {u sz:Nat} (G:bWF p f args dir L F u sz)
include G
theorem bWF.jE:dW (b3G F L):=λx hx=>by
 obtain⟨q1,q2,q3,q4⟩:=(aKI G.ok f G.fn args G.na G.par).1 _ _ G.hre
 simp only at q1
 obtain⟨r,hr,rfl⟩:=qU.1 hx
 exact q1.bGG.get _
theorem bWF.out {o:Nat} (ho:o<args.length):0<=L.getD o 0/\L.getD o 0<F.code.length:=G.T.outs _ (aXB (by rw[G.hL];exact ho))
end
theorem bWG (c d:List Int):fM Tryz.prog 5 [.sl 1 (c.map λn=>[.int .u8 n]) false,.sl 1 (d.map λn=>[.int .u8 n]) false] (.bool (decide (3000<c.length∨3000<d.length))):=by
 refine gX 13 aE0 dC cK Tryz.func5 λh=>?_
 simp -dsimp -implicitDefEqProofs only[go_sem,↓reduceIte,Tryz.f5]
 exact λ_=>⟨λh1 _=>decide_eq_decide.2 aA,λh1=>(decide_eq_true aA).symm⟩
@[go_sem] def bJI:List Nat:=[0,1,2,6,7,11,15,24]
theorem bWH {L:List (List Int)} {n w:Nat} (hl:L.length=n) (hs:∀ s∈L,s.length=w):fM Tryz.prog 12 [b6 L,I n,I w] (.bool true):=by
 subst hl
 refine gX 25 bJI dC cK Tryz.func12 λh=>?_
 simp -dsimp -implicitDefEqProofs only[go_sem,↓reduceIte,Tryz.f12]
 refine λ_=>?_
 refine cZ bJI dC cK (λk:Nat=>[(0,b6 L),(2,I w),(7,I k)]) (λ_=>h) (λk=>k<=L.length) (λk=>L.length-k) 0 ⟨by simp[c4,b7],aE.le_refl _,fE _⟩ ?_
 intro k hk
 rcases bZ k L.length with hlt|hge
 ·have ea:L[k]?=some L[k]:=cM hlt
  have h0:=hs _ (eI hlt)
  simp -dsimp -implicitDefEqProofs only[go_sem,↓reduceIte,Tryz.f12,hlt,ea,h0]
  exact λ_ _=>⟨k+1,IntWalk.i64_in _ aA,hlt,by omega⟩
 ·obtain rfl:k=L.length:=by omega
  simp -dsimp -implicitDefEqProofs only[go_sem,↓reduceIte,Tryz.f12,bX,dB]
@[go_sem] def cAN:List Nat:=[6]
theorem bWI (a b:List Int) (ha:1<=a.length/\a.length<=1000) (hb:b.length<=1000):fM Tryz.prog 16 [ints a,ints b] (ints (a++b)):=by
 refine iN 12 bQD cAN cK Tryz.func16 λh=>?_
 simp -dsimp -implicitDefEqProofs only[go_sem,↓reduceIte,Tryz.f16]
 refine⟨by decide,by decide,λh0=>absurd (congrArg List.length h0) (by simp only[nG,al3];omega),λ_=>⟨by omega,by omega,λn hn=>⟨by decide,iH _,by omega,by omega,λm hm=>?_⟩⟩⟩
 rw[pQ cT,←kS,←kS]
 exact jZ (a++b) hm.2 (aE.rD bDU) (by rw[mV])
theorem St.put {args:List Int} {sz:Nat} {Y:List (List Int)} (h:St args sz Y) (i k:Nat) {v:Int} (hv:oU v):St args sz (Y.set i ((Y.getD i []).set (k+1) v)):=by
 by_cases hi:i<args.length
 ·have hYi:=(h.1.get hi).2
  refine⟨h.1.set ⟨by rw[aU6];exact hYi.1,λx hx=>?_⟩ i,λq hq=>?_⟩
  ·rcases aSE hx with hx|rfl
   ·exact hYi.2 x hx
   ·exact hv
  ·rw[←h.2 q hq]
   by_cases e:i=q
   ·subst e
    rw[dI (l:=Y.set _ _),aLH (by rw[h.1.1];exact hi),bA1,dI,aLI aA,←dI]
   ·rw[dI (l:=Y.set _ _),aLI e,←dI]
 ·rw[List.set_eq_of_length_le (by rw[h.1.1];omega)];exact h
def atV (d:List Int) (n:Int):Int:=if d=[]then 0 else d.getD 0 0%n
@[go_sem] def bRM:List Nat:=[0,1,2,6,14]
theorem bJJ (a:List Int) (hl:a.length<=1048576):fM Tryz.prog 13 [ints a,ints a] (.bool true):=by
 refine gX 26 bQA dC bQB Tryz.func13 λh=>?_
 simp -dsimp -implicitDefEqProofs only[go_sem,↓reduceIte,Tryz.f13]
 refine λ_ _=>?_
 refine cZ bQA dC bQB (λk:Nat=>[(0,ints a),(1,ints a),(5,I k)]) (λ_=>h) (λk=>k<=a.length) (λk=>a.length-k) 0 ⟨by simp[c4,b7],aE.le_refl _,fE _⟩ ?_
 intro k hk
 rcases bZ k a.length with hlt|hge
 ·have ea:a[k]?=some a[k]:=cM hlt
  simp -dsimp -implicitDefEqProofs only[go_sem,↓reduceIte,Tryz.f13,hlt,ea]
  exact λ_=>⟨k+1,IntWalk.i64_in _ aA,hlt,by omega⟩
 ·obtain rfl:k=a.length:=by omega
  simp -dsimp -implicitDefEqProofs only[go_sem,↓reduceIte,Tryz.f13,bX,dB]
theorem bAR (a:List Int) (by_:Int) (na:dW a) (nb:oU by_) (hl:a.length<=1048576):fM Tryz.prog 11 [ints a,I by_] (ints (iE a by_)):=by
 refine iN 24 aSV a7U cK Tryz.func11 λh=>?_
 simp -dsimp -implicitDefEqProofs only[go_sem,↓reduceIte,Tryz.f11]
 refine⟨bN,?_⟩
 have hcl:=vU a by_
 refine cZ aSV a7U cK (λx:Nat×Option Nat=>[(0,ints a),(1,I by_),(5,iO 1 ((iE a by_).take x.1).length x.2),(6,I x.1)]) (λx=>bY h (.row 1 ((((iE a by_).take x.1).map λn=>[I n]).map (List.map .v))) x.2) (λx=>x.1<=a.length/\fT h ((iE a by_).take x.1) x.2) (λx=>a.length-x.1) (0,none) ⟨by simp[c4,b7,iO],by simp only[aQ];exact aE.le_refl _,fE _,by simp[fT]⟩ ?_
 rintro⟨k,o⟩ ⟨hk,hos⟩
 simp only at hk hos ⊢
 rcases bZ k a.length with hlt|hge
 ·have ea:a[k]?=some a[k]:=cM hlt
  have htm:=cG a[k] by_ (na _ (eI hlt)) nb
  have hy:(iE a by_).take (k+1)=(iE a by_).take k++[a[k]*by_%1000003]:=by
   rw[jU aA]
   simp[iE]
  have hlk:((iE a by_).take k).length=k:=by rw[jT];omega
  cases o with
  |none =>
   rw[aZ]at hos
   rw[hos]at hy ⊢
   simp -dsimp -implicitDefEqProofs only[go_sem,↓reduceIte,Tryz.f11,bM,aQ,hlt,ea]
   intro _
   first|refine aJ.mk (htm) ?_|refine aF.mk (htm) ?_|refine aJ.bA (htm) ?_|refine aF.mk (aX.cU (htm)) ?_
   simp -dsimp -implicitDefEqProofs only[go_sem,↓reduceIte,Tryz.f11]
   repeat'(with_reducible first|intro _|refine And.intro ?_ ?_)
   all_goals try(first|omega|decide)
   rename_i b hb
   refine⟨(k+1,some b),?_⟩
   simp only[hy]
   refine⟨⟨rfl,?_⟩,aE.le_refl _,⟨by omega,hb⟩,by omega⟩
   rw[IntWalk.i64_in _ aA];rfl
  |some n =>
   rw[aV]at hos
   simp -dsimp -implicitDefEqProofs only[go_sem,↓reduceIte,Tryz.f11,bC,aK,hlt,ea]
   intro _
   first|refine aJ.mk (htm) ?_|refine aF.mk (htm) ?_|refine aJ.bA (htm) ?_|refine aF.mk (aX.cU (htm)) ?_
   simp -dsimp -implicitDefEqProofs only[go_sem,↓reduceIte,Tryz.f11]
   repeat'(with_reducible first|intro _|refine And.intro ?_ ?_)
   all_goals try(first|omega|decide|exact iH _)
   rename_i b hb
   refine⟨(k+1,some b),?_⟩
   simp only[hy,aK,bC,aV]
   refine⟨⟨by rw[mV];rfl,?_⟩,?_,⟨by omega,hb.2⟩,by omega⟩
   ·rw[IntWalk.i64_in _ aA];rfl
   ·rw[←jD];exact qM hos
 ·have hk':k=a.length:=by omega
  subst hk'
  rw[pQ aA]at hos ⊢
  cases o with
  |none =>
   rw[aZ]at hos
   simp -dsimp -implicitDefEqProofs only[go_sem,↓reduceIte,Tryz.f11,bM,aQ,bX,dB]
   rw[hos]
   exact λ_=>Shift.of (Sub.loose _ _ _) (aE.le_refl _)
  |some n =>
   rw[aV]at hos
   simp -dsimp -implicitDefEqProofs only[go_sem,↓reduceIte,Tryz.f11,bC,aK,bX,dB]
   exact λ_=>jZ _ hos (aE.le_refl _) rfl
@[go_sem] def cAO:List Nat:=[0,1,2,3,6,7,8,9,10,11,27,29,41]
@[go_sem] def cEX:Marks:=λid=>match id with|6=>([],(.op 0 (.op 1 (.op 2 (.op 3 (.op 4 (.op 5 (.op 6 (.op 7 (.op 8 (.op 9 (.op 10 (.op 11 .nil)))))))))))),[])|_=>([],.nil,[])
theorem b3H (d:List Int) (hd:∀ x∈d,InB x):fM Tryz.prog 7 [.sl 1 (d.map λn=>[.int .u8 n]) false,I 0,I 7] (I (atV d 7)):=by
 cases d with
 |nil =>
  refine gX 22 bRM dC cK Tryz.func7 λh=>?_
  simp -dsimp -implicitDefEqProofs only[go_sem,↓reduceIte,Tryz.f7]
  exact⟨λq=>absurd cE q,λ_=>by rw[atV,if_pos rfl]⟩
 |cons x d =>
  have hx:=hd x (.head _)
  have ha:atV (x::d) 7=x%7:=by rw[atV,if_neg cT];rfl
  rw[ha]
  refine gX 22 bRM dC cK Tryz.func7 λh=>?_
  simp -dsimp -implicitDefEqProofs only[go_sem,↓reduceIte,Tryz.f7]
  refine λ_=>⟨λ_=>⟨by omega,?_⟩,λq=>absurd q aA⟩
  simp -dsimp -implicitDefEqProofs only[go_sem,↓reduceIte,Tryz.f7,bC4,bAX]
  unfold InB at hx
  rw[IntWalk.i64_in _ aA,zH aA]
@[go_sem] def bJK:List Nat:=[0,1,4,5,6,17]
@[go_sem] def b3I:List Nat:=[7,30]
theorem bRN (a b:List Int) (hab:b.length=a.length) (hl:a.length<=1048576) (ha:dW a) (hb:dW b):fM Tryz.prog 10 [ints a,ints b] (ints (iK a b)):=by
 have hc:=aJ2 hab
 refine iN 33 bJK b3I a7V Tryz.func10 λh=>?_
 simp -dsimp -implicitDefEqProofs only[go_sem,↓reduceIte,Tryz.f10]
 refine⟨bN,?_⟩
 refine cZ bJK b3I a7V (λx:Nat×Option Nat=>[(0,ints a),(1,ints b),(5,iO 1 ((iK a b).take x.1).length x.2),(6,I x.1)]) (λx=>bY h (.row 1 ((((iK a b).take x.1).map λn=>[I n]).map (List.map .v))) x.2) (λx=>x.1<=a.length/\fT h ((iK a b).take x.1) x.2) (λx=>a.length-x.1) (0,none) ⟨by simp[c4,b7,iO],by simp only[aQ];exact aE.le_refl _,fE _,by simp[fT]⟩ ?_
 rintro⟨k,o⟩ ⟨hk,hos⟩
 simp only at hk hos ⊢
 rcases bZ k a.length with hlt|hge
 ·have ea:a[k]?=some a[k]:=cM hlt
  have eb:b[k]?=some (b[k]'aA):=cM aA
  have hltb:k<b.length:=by omega
  have hy:(iK a b).take (k+1)=(iK a b).take k++[(iK a b)[k]'aA]:=jU aA
  have hv:(iK a b)[k]'aA=(a[k]+b[k]'aA)%1000003:=by simp[iK]
  have hlk:((iK a b).take k).length=k:=by rw[jT];omega
  rw[hv]at hy
  cases o with
  |none =>
   rw[aZ]at hos
   rw[hos]at hy ⊢
   simp -dsimp -implicitDefEqProofs only[go_sem,↓reduceIte,Tryz.f10,bM,aQ,hlt,hltb,ea,eb]
   intro _ _
   first|refine aJ.mk (iD a[k] (b[k]'aA)) ?_|refine aF.mk (iD a[k] (b[k]'aA)) ?_|refine aJ.bA (iD a[k] (b[k]'aA)) ?_|refine aF.mk (aX.cU (iD a[k] (b[k]'aA))) ?_
   simp -dsimp -implicitDefEqProofs only[go_sem,↓reduceIte,Tryz.f10]
   repeat'(with_reducible first|intro _|refine And.intro ?_ ?_)
   all_goals try(first|omega|decide)
   rename_i b hb
   refine⟨(k+1,some b),?_⟩
   simp only[hy]
   refine⟨⟨rfl,?_⟩,aE.le_refl _,⟨by omega,hb⟩,by omega⟩
   rw[IntWalk.i64_in _ aA];rfl
  |some n =>
   rw[aV]at hos
   simp -dsimp -implicitDefEqProofs only[go_sem,↓reduceIte,Tryz.f10,bC,aK,hlt,hltb,ea,eb]
   intro _ _
   first|refine aJ.mk (iD a[k] (b[k]'aA)) ?_|refine aF.mk (iD a[k] (b[k]'aA)) ?_|refine aJ.bA (iD a[k] (b[k]'aA)) ?_|refine aF.mk (aX.cU (iD a[k] (b[k]'aA))) ?_
   simp -dsimp -implicitDefEqProofs only[go_sem,↓reduceIte,Tryz.f10]
   repeat'(with_reducible first|intro _|refine And.intro ?_ ?_)
   all_goals try(first|omega|decide|exact iH _)
   rename_i b hb
   refine⟨(k+1,some b),?_⟩
   simp only[hy,aK,bC,aV]
   refine⟨⟨by rw[mV];rfl,?_⟩,?_,⟨by omega,hb.2⟩,by omega⟩
   ·rw[IntWalk.i64_in _ aA];rfl
   ·rw[←jD];exact qM hos
 ·have hk':k=a.length:=by omega
  subst hk'
  rw[pQ aA]at hos ⊢
  cases o with
  |none =>
   rw[aZ]at hos
   simp -dsimp -implicitDefEqProofs only[go_sem,↓reduceIte,Tryz.f10,bM,aQ,bX,dB]
   rw[hos]
   exact λ_=>Shift.of (Sub.loose _ _ _) (aE.le_refl _)
  |some n =>
   rw[aV]at hos
   simp -dsimp -implicitDefEqProofs only[go_sem,↓reduceIte,Tryz.f10,bC,aK,bX,dB]
   exact λ_=>jZ _ hos (aE.le_refl _) rfl
@[go_sem] def bJL:List Nat:=[0,1,4,5,10,14,26]
@[go_sem] def b3J:Marks:=λid=>match id with|6=>([],(.op 0 (.op 1 (.op 2 (.op 3 (.op 4 (.op 5 (.op 6 (.op 7 (.op 8 (.op 9 .nil)))))))))),[])|_=>([],.nil,[])
theorem aR7 (A:List (List Int)) (hl:A.length<=1048576) (hr:∀ s∈A,s.length<=1048576):fM Tryz.prog 18 [b6 A,b6 A] (.bool true):=by
 refine gX 27 bJL dC b3J Tryz.func18 λh=>?_
 simp -dsimp -implicitDefEqProofs only[go_sem,↓reduceIte,Tryz.f18]
 refine λ_ _=>?_
 refine cZ bJL dC b3J (λk:Nat=>[(0,b6 A),(1,b6 A),(5,I k)]) (λ_=>h) (λk=>k<=A.length) (λk=>A.length-k) 0 ⟨by simp[c4,b7],aE.le_refl _,fE _⟩ ?_
 intro k hk
 rcases bZ k A.length with hlt|hge
 ·have ea:A[k]?=some A[k]:=cM hlt
  have hs:=bJJ A[k] (hr _ (eI hlt))
  simp -dsimp -implicitDefEqProofs only[go_sem,↓reduceIte,Tryz.f18,hlt,ea]
  intro _
  first|refine aJ.mk (hs) ?_|refine aF.mk (hs) ?_|refine aJ.bA (hs) ?_|refine aF.mk (aX.cU (hs)) ?_
  simp -dsimp -implicitDefEqProofs only[go_sem,↓reduceIte,Tryz.f18]
  exact⟨k+1,IntWalk.i64_in _ aA,hlt,by omega⟩
 ·obtain rfl:k=A.length:=by omega
  simp -dsimp -implicitDefEqProofs only[go_sem,↓reduceIte,Tryz.f18,bX,dB]
theorem cAP {q a b c d e:Nat} {h:aE} {X Y Z U V:bE} (hq:(if q=a then some X else if q=b then some Y else if q=c then some Z else if q=d then some U else if q=e then some V else h q)=none):¬q=a/\¬q=b/\¬q=c/\¬q=d/\¬q=e/\h q=none:=by grind(splits:=20)
theorem bWJ {q a b c d:Nat} {h:aE} {X Y Z U:bE} (hq:(if q=a then some X else if q=b then some Y else if q=c then some Z else if q=d then some U else h q)=none):¬q=a/\¬q=b/\¬q=c/\¬q=d/\h q=none:=by grind
theorem bOX {G:aE} {m np nf ns ng:Nat} {P F F' S R Z:bE} (hg:G ng=none) (m1:¬m=ng) (m2:¬m=ns) (m3:¬m=nf) (m4:¬m=np) (n1:¬ng=ns) (n2:¬ng=nf) (n3:¬ng=np) (f1:¬nf=ns) (f2:¬nf=np) (p1:¬ns=np):(aR (aR (aR (aR G m R) np P) nf F') ns S).le (aR (aR (aR (aR (aR (aR G np P) nf F) ns S) ng Z) m R) nf F'):=λq=>by
 simp only[aG]
 grind(splits:=20)
theorem bOY {G:aE} {m np nf ns ng m5:Nat} {P F F' S R R0 Z:bE} (h5:G m5=none) (hg:G ng=none) (m1:¬m=ng) (m2:¬m=ns) (m3:¬m=nf) (m4:¬m=np) (n1:¬ng=ns) (n2:¬ng=nf) (n3:¬ng=np) (f1:¬nf=ns) (f2:¬nf=np) (p1:¬ns=np) (g7:¬m=m5) (k1:¬m5=ns) (k2:¬m5=np) (k3:¬m5=nf) (k4:¬m5=ng):(aR (aR (aR (aR G m R) np P) nf F') ns S).le (aR (aR (aR (aR (aR (aR (aR (aR G m5 R0) np P) nf F) ns S) ng Z) m5 .gone) m R) nf F'):=λq=>by
 simp only[aG]
 grind(splits:=20)
theorem bCP {G:aE} {m5 np nf ns m:Nat} {A B C S D E:bE} (h1:¬np=ns) (h2:¬m=ns):aR (aR (aR (aR (aR (aR G m5 A) np B) nf C) ns S) m D) np E=aR (aR (aR (aR (aR (aR G m5 A) np B) nf C) m D) np E) ns S:=by
 funext q
 simp only[aG]
 grind
theorem bCQ {G:aE} {m5 np nf ns m m0:Nat} {A B C S D E:bE} (h1:¬np=ns) (h2:¬m=ns) (h3:¬m0=ns):aR (aR (aR (aR (aR (aR (aR G m5 A) np B) nf C) ns S) m0 .gone) m D) np E=aR (aR (aR (aR (aR (aR (aR G m5 A) np B) nf C) m0 .gone) m D) np E) ns S:=by
 funext q
 simp only[aG]
 grind
def iP:List UInt8:=[102,105,101,108,100]
@[go_sem] def bRO:List Nat:=[0,2,3,4,5,6,7,8,9,10,11,12,13,14,15,16,35]
@[go_sem] def ib6:List Nat:=[50,56]
@[go_sem] def mk6:Marks:=λid=>match id with|10=>([1,5,7,9],(.op 0 (.op 2 (.op 3 (.op 4 (.op 1 (.op 5 (.op 6 (.op 7 (.op 8 (.op 9 .nil)))))))))),[(1,5)])|_=>([],.nil,[])
set_option maxHeartbeats 4000000 in
theorem bJM {c:List Int} (hc:∀ x∈c,InB x) (hl:c.length<=4096) {g:aE}:jC Tryz.prog 6 [.sl 1 (c.map λn=>[.int .u8 n]) false] g λr h'=>∃ (p:aC) (f:Int) (start one two:List Int) (k:Nat),(p.s<=4194304/\(1<=k/\k<=3)/\(start.length=k/\one.length=k/\two.length=k)/\dW start/\dW one/\dW two)/\r=.jO [.agg p.c,I f,ints start,ints one,ints two]/\h'=g:=by
 refine lU 73 bRO ib6 mk6 Tryz.func6 ?_
 simp -dsimp -implicitDefEqProofs only[go_sem,↓reduceIte,Tryz.f6]
 intro n2 q2
 refine aJ.gS (b3F c) ?_
 rintro r_ h' ⟨ns,rfl,hns,rfl⟩
 have k1:¬n2=ns:=λe=>by rw[e,aM]at hns;cases hns
 obtain⟨b6Z,bAS,bAT,b60⟩:=bB (show ¬n2=ns from k1)
 simp -dsimp -implicitDefEqProofs only[go_sem,↓reduceIte,Tryz.f6]
 refine aJ.gS (wB (a:=0) (sd:=0) hc hl aA 2 aA (aM ..)) ?_
 rintro r_ h' ⟨x,a1,sd1,rfl,x0,x1,-,ha1,rfl⟩
 have x1:=x1 aA
 obtain⟨nk,rfl⟩:∃ nk:Nat,x=nk:=⟨x.toNat,by omega⟩
 rw[aO]
 simp -dsimp -implicitDefEqProofs only[go_sem,↓reduceIte,Tryz.f6]
 refine aJ.gS (bB0 (a:=a1) (sd:=sd1) hc hl aA 2 aA (aM ..)) ?_
 rintro r_ h' ⟨b0,a2,sd2,rfl,ha2,rfl⟩
 rw[aO]
 simp -dsimp -implicitDefEqProofs only[go_sem,↓reduceIte,Tryz.f6]
 refine aJ.gS (b3B (L0:=7) ⟨by decide,by decide⟩ (a:=a2) (sd:=sd2) (n:=nk) (pl:=b0) (B:=aR g n2 (.row 1 [[.v .bD]])) hc hl aA hns aA) ?_
 rintro r_ h' ⟨fs,es,o,g1,a3,sd3,hfl,hdr,hor,hnw,z0,hgs,hon,hfo,rfl,ha3,rfl⟩
 simp -dsimp -implicitDefEqProofs only[go_sem,↓reduceIte,Tryz.f6]
 rintro np ⟨p1,p2⟩
 obtain⟨aXP,iF,iG,aGC⟩:=bB (show ¬np=ns from p1)
 rw[aO,cH aGC]
 refine⟨kH ..,?_⟩
 refine aJ.gS (wB (a:=a3) (sd:=sd3) hc hl aA 3 aA (aM ..)) ?_
 rintro r_ h' ⟨y,a4,sd4,rfl,y0,y1,-,ha4,rfl⟩
 have y1:=y1 aA
 obtain⟨k,hk⟩:∃ k:Nat,1+y=k:=⟨(1+y).toNat,by omega⟩
 have wk:IntKind.i64.wrap (1+y)=k:=by rw[IntWalk.i64_in _ aA,hk]
 have hk3:1<=k/\k<=3:=by omega
 rw[aO]
 simp -dsimp -implicitDefEqProofs only[go_sem,↓reduceIte,Tryz.f6,wk]
 have hns':bY g1 (.row 3 (OV.cells es)) o ns=none:=fU z0 hon
 have hG0:∀ q,g1 q=none->¬q=n2/\g q=none:=λq hq=>by
  by_cases e:q∈bH (OV.bF es)
  ·obtain⟨v,hv⟩:=dR.1 e
   have:=hnw.tO _ hv
   simp only at this
   rw[hq]at this;cases this
  ·have:=hnw.upto q e
   rw[hq]at this
   have h2:=this.symm
   simp only[aG]at h2
   exact wF h2
 have hnp:bY g1 (.row 3 (OV.cells es)) o np=none:=p2
 have hn2:g1 n2=some (.row 1 [[.v .bD]]):=by
  rw[hnw.upto n2 λe=>by have:=hnw.fresh n2 e;rw[aM]at this;cases this]
  exact aM ..
 have o7:∀ q,g q=none∨g1 q=g q:=λq=>by
  by_cases e:q∈bH (OV.bF es)
  ·have:=hnw.fresh q e
   simp only[aG]at this
   exact .inl (wF this).2
  ·rw[hnw.upto q e]
   by_cases e2:q=n2
   ·rw[e2];exact .inl q2
   ·rw[aI _ _ _ _ e2];exact .inr rfl
 obtain⟨G,hG⟩:∃ G,G=bY g1 (.row 3 (OV.cells es)) o:=⟨_,rfl⟩
 rw[←hG]at hns' hnp ⊢
 have hGm:∀ m,o=some m->G m=some (.row 3 (OV.cells es)):=λm e=>by rw[hG,e,aK,aM]
 intro nf qf
 have af:¬nf=ns:=qf.1
 have bf:¬nf=np:=qf.2.1
 have cf:G nf=none:=qf.2.2
 obtain⟨aYD,eP,eQ,aK1⟩:=bB (show ¬nf=ns from af)
 obtain⟨bAU,mP,mQ,bOZ⟩:=bB (show ¬nf=np from bf)
 have aZI:=λ{P:Program} {L:aH->Prop} {et:TypeId} {sz:Nat} (t:Tag L)=>a5B (P:=P) (L:=L) (et:=et) (sz:=sz) (n:=fs.length) (o:=o) aA (λq=>by rw[hfo q];rfl) t
 simp -dsimp -implicitDefEqProofs only[go_sem,↓reduceIte,Tryz.f6,eP,mP,eQ,iG,mQ,iF,aI,aG,dZ,eC,eE,eF,eH,lW,dT,iI,cH aK1,cH aGC,aO,aZI]
 refine cZ bRO ib6 mk6 (λx:BSt=>[(2,.op n2 1 0 0),(7,.op ns 3 0 0),(8,.op np 1 0 0),(9,I k),(10,.op nf 3 0 0),(11,I fs.length),(12,I x.1)]) (λx=>aR (aR (aR (bY G (aDI x.2.1) x.2.2.1) np (.row 1 [[.v (gW 3 fs.length o)]])) nf (.row 3 [[.v (.str iP),.v (I k),.v (gW 5 x.1 x.2.2.1)]])) ns (nF c x.2.2.2.1 x.2.2.2.2)) (λx=>b23 k G ns np nf a4 x) (λx=>k-x.1) (0,[],none,a4,sd4) ⟨by simp[c4,b7],aE.le_refl _,fE _,rfl,rfl,(λm e=>by cases e),(λx h=>by cases h),by simp⟩ ?_
 rintro⟨i,outs,oo,a8,sd8⟩ hbs
 obtain⟨hi,hol,hos,bO0,c6,ha8⟩:=id hbs
 simp only at hi hol hos bO0 c6 ha8 ⊢
 rcases bZ i k with hlt|hge
 ·simp -dsimp -implicitDefEqProofs only[go_sem,↓reduceIte,Tryz.f6,eP,mP,eQ,iG,mQ,iF,aI,aG,dZ,eC,eE,eF,eH,lW,dT,iI,hlt]
  refine aJ.gS (bB0 (a:=a8) (sd:=sd8) hc hl aA 4 aA (aM ..)) ?_
  rintro r_ h' ⟨b,a9,sd9,rfl,ha9,rfl⟩
  rw[aO]
  simp -dsimp -implicitDefEqProofs only[go_sem,↓reduceIte,Tryz.f6,eP,mP,eQ,iG,mQ,iF,aI,aG,dZ,eC,eE,eF,eH,lW,dT,iI,nA]
  intro ng qg
  have qg':¬ng=ns/\¬ng=nf/\¬ng=np/\bY G (aDI outs) oo ng=none:=by clear hG0 hGm hbs hdr;grind
  obtain⟨ag,bg,cg,dg⟩:=qg'
  obtain⟨lO,bL,bK,zI⟩:=bB (show ¬ng=ns from ag)
  obtain⟨aK2,qD,qE,bOR⟩:=bB (show ¬ng=nf from bg)
  obtain⟨aOK,rL,rK,bNK⟩:=bB (show ¬ng=np from cg)
  simp -dsimp -implicitDefEqProofs only[go_sem,↓reduceIte,Tryz.f6,eP,mP,qE,eQ,iG,bK,mQ,iF,rK,qD,bL,rL,aI,aG,dZ,eC,eE,eF,eH,lW,dT,iI]
  rw[show ∀ H:aE,aR H ng (bE.row 4 [[Cell.v (aH.op ns 3 0 0),Cell.v (aH.op np 1 0 0),Cell.v (I 6),Cell.v (aH.bool !b)]])=aR H ng (nA ns np 6 !b)from λ_=>rfl]
  have hoG:∀ q R,G q=some R->bY G (aDI outs) oo q=some R:=λq R hq=>by
   cases oo with
   |none=>exact hq
   |some m =>
    rw[aV]at hos
    rw[aK,aI _ _ _ _ (λe=>by rw[e,hos]at hq;cases hq)];exact hq
  have hB1:aR (aR (bY G (aDI outs) oo) np (.row 1 [[.v (gW 3 fs.length o)]])) nf (.row 3 [[.v (.str iP),.v (I k),.v (gW 5 i oo)]]) ns=none:=by
   rw[aI _ _ _ _ aK1,aI _ _ _ _ aGC];exact fU hns' λm e=>(bO0 m e).1
  have hB2:aR (aR (bY G (aDI outs) oo) np (.row 1 [[.v (gW 3 fs.length o)]])) nf (.row 3 [[.v (.str iP),.v (I k),.v (gW 5 i oo)]]) ng=none:=by
   rw[aI _ _ _ _ aK2,aI _ _ _ _ aOK];exact dg
  have hpr:aFC ⟨fs⟩ np (aR (aR (bY G (aDI outs) oo) np (.row 1 [[.v (gW 3 fs.length o)]])) nf (.row 3 [[.v (.str iP),.v (I k),.v (gW 5 i oo)]])):=by
   refine⟨es,o,hor,by rw[aI _ _ _ _ bOZ,aM],hfo,λm e=>?_⟩
   have h1:=hGm m e
   rw[aI _ _ _ _ (λq=>by rw[q,cf]at h1;cases h1),aI _ _ _ _ (λq=>by rw[q,hnp]at h1;cases h1)]
   exact hoG _ _ h1
  have hm6:mL 6=5:=rfl
  refine aJ.gS (b91 hc hl zI hdr.a9O (by simp only[aC.aD];omega) 3 k (a:=a9) (sd:=sd9) (L:=6) hB1 hB2 hpr ⟨by omega,by omega,by omega⟩) ?_
  rintro r_ h' ⟨z,a10,b3K,L10,rfl,rfl,hxs,cEY⟩
  rw[aB.aS z]
  have hzs:z.s<=60:=by omega
  cases oo with
  |none =>
   rw[aZ]at hos
   subst hos
   obtain rfl:i=0:=hol.symm
   simp only[aQ,b5]at *
   simp -dsimp -implicitDefEqProofs only[go_sem,↓reduceIte,Tryz.f6,eP,mP,qE,eQ,iG,bK,mQ,iF,rK,qD,bL,rL,aI,aG,dZ,eC,eE,eF,eH,lW,dT,iI]
   refine⟨by decide,by decide,by decide,λm qm=>?_⟩
   have gm:=bWJ qm
   obtain⟨g3,g1',g4,g5,g6⟩:=gm
   obtain⟨pG,fX,fY,tC⟩:=bB (show ¬m=ns from g1')
   obtain⟨yX,kN,kO,yY⟩:=bB (show ¬m=ng from g3)
   obtain⟨aIS,nB,nC,aIT⟩:=bB (show ¬m=nf from g4)
   obtain⟨a55,vJ,vK,a56⟩:=bB (show ¬m=np from g5)
   simp -dsimp -implicitDefEqProofs only[go_sem,↓reduceIte,Tryz.f6,eP,mP,qE,nC,eQ,iG,bK,fY,mQ,iF,rK,vK,qD,bL,rL,kO,nB,fX,vJ,kN,aI,aG,dZ,eC,eE,eF,eH,lW,dT,iI]
   have hrow:bE.row 5 [[Cell.v (aH.int IntKind.i64 z.aP),Cell.v (aH.int IntKind.i64 z.aW),Cell.v (aH.int IntKind.i64 z.bR),Cell.v (aH.int IntKind.i64 z.bI),Cell.v (fN 5 aB.c z.aL)]]=aDI [z]:=by rw[aDI,aI1,aB.aS z];rfl
   rw[hrow]
   refine⟨(1,[z],some m,a10,b3K),IntWalk.i64_in _ aA,?_,⟨by omega,rfl,g6,λb q=>by cases q;exact⟨g1',g5,g4⟩,λw hw=>by rw[jF.1 hw];exact hzs,by omega⟩,by simp only;omega⟩
   simp only[aK,aY]
   exact bOX dg g3 g1' g4 g5 lO aK2 aOK aYD bAU aGC
  |some m5 =>
   rw[aV]at hos
   obtain⟨k1,k2,k3⟩:=bO0 m5 rfl
   obtain⟨aYE,mK,mM,aOQ⟩:=bB (show ¬m5=ns from k1)
   obtain⟨bO1,qF,qG,bO2⟩:=bB (show ¬m5=np from k2)
   obtain⟨aYF,mN,mO,aOR⟩:=bB (show ¬m5=nf from k3)
   have k4:¬m5=ng:=λe=>by rw[aK,e,aM]at dg;cases dg
   obtain⟨bOS,aGJ,aGK,bAN⟩:=bB (show ¬m5=ng from k4)
   simp only[aK,aY]at *
   simp -dsimp -implicitDefEqProofs only[go_sem,↓reduceIte,Tryz.f6,eP,mP,qE,mO,eQ,iG,bK,mM,mQ,iF,rK,qG,qD,bL,rL,aGK,mN,mK,qF,aGJ,aI,aG,dZ,eC,eE,eF,eH,lW,dT,iI,aDI]
   refine⟨by decide,by decide,by decide,by omega,by omega,by omega,λm qm=>?_⟩
   have gm:=cAP qm
   obtain⟨g3,g1',g4,g5,g7,g6⟩:=gm
   obtain⟨pG,fX,fY,tC⟩:=bB (show ¬m=ns from g1')
   obtain⟨yX,kN,kO,yY⟩:=bB (show ¬m=ng from g3)
   obtain⟨aIS,nB,nC,aIT⟩:=bB (show ¬m=nf from g4)
   obtain⟨a55,vJ,vK,a56⟩:=bB (show ¬m=np from g5)
   obtain⟨a5Z,vH,vI,a50⟩:=bB (show ¬m=m5 from g7)
   simp -dsimp -implicitDefEqProofs only[go_sem,↓reduceIte,Tryz.f6,eP,mP,qE,nC,mO,eQ,iG,bK,fY,mM,mQ,iF,rK,vK,qG,qD,bL,rL,kO,aGK,nB,fX,vJ,kN,vH,mN,mK,qF,aGJ,vI,aI,aG,dZ,eC,eE,eF,eH,lW,dT,iI]
   have hrow:bE.row 5 (List.take i (List.map (List.map Cell.v) (List.map aB.c outs))++[[Cell.v (aH.int IntKind.i64 z.aP),Cell.v (aH.int IntKind.i64 z.aW),Cell.v (aH.int IntKind.i64 z.bR),Cell.v (aH.int IntKind.i64 z.bI),Cell.v (fN 5 aB.c z.aL)]])=aDI (outs++[z]):=by
    rw[bCG,aB.aS z,pQ (by rw[nG,nG];omega)];rfl
   rw[hrow]
   refine⟨(i+1,outs++[z],some m,a10,b3K),IntWalk.i64_in _ aA,?_,⟨by omega,by rw[mV,hol];rfl,g6,λb q=>by cases q;exact⟨g1',g5,g4⟩,λw hw=>?_,by omega⟩,by simp only;omega⟩
   ·rw[aI _ _ _ _ bAN]at dg
    simp only[aK,aY]
    exact bOY hos dg g3 g1' g4 g5 lO aK2 aOK aYD bAU aGC g7 k1 k2 k3 k4
   ·rcases pJ.1 hw with hw|hw
    ·exact c6 w hw
    ·rw[jF.1 hw];exact hzs
 ·cases oo with
  |none =>
   rw[aZ]at hos
   rw[hos]at hol
   simp at hol
   omega
  |some m5 =>
  rw[aV]at hos
  obtain⟨k1,k2,k3⟩:=bO0 m5 rfl
  obtain⟨aYE,mK,mM,aOQ⟩:=bB (show ¬m5=ns from k1)
  obtain⟨bO1,qF,qG,bO2⟩:=bB (show ¬m5=np from k2)
  obtain⟨aYF,mN,mO,aOR⟩:=bB (show ¬m5=nf from k3)
  obtain rfl:i=k:=by omega
  simp only[aK,aY]at *
  simp -dsimp -implicitDefEqProofs only[go_sem,↓reduceIte,Tryz.f6,eP,mP,mO,eQ,iG,mM,mQ,iF,qG,mN,mK,qF,aI,aG,dZ,eC,eE,eF,eH,lW,dT,iI,bX,dB]
  refine⟨by decide,by decide,?_⟩
  have hrX:aDI outs=.row 5 ((outs.map aB.c).map (List.map .v)):=rfl
  cases o with
  |none =>
   have hes:es=[]:=by
    have:=hor.length
    rw[hfo rfl]at this
    exact aNI.1 this.symm
   have iC:fs=[]:=hfo rfl
   subst hes iC
   simp only[b5]at *
   simp -dsimp -implicitDefEqProofs only[go_sem,↓reduceIte,Tryz.f6,eP,mP,mO,eQ,iG,mM,mQ,iF,qG,mN,mK,qF,aI,aG,dZ,eC,eE,eF,eH,lW,dT,iI]
   refine⟨by decide,λm qm=>?_⟩
   obtain⟨g1',g4,g5,g7,g6⟩:=bWJ qm
   obtain⟨pG,fX,fY,tC⟩:=bB (show ¬m=ns from g1')
   obtain⟨aIS,nB,nC,aIT⟩:=bB (show ¬m=nf from g4)
   obtain⟨a55,vJ,vK,a56⟩:=bB (show ¬m=np from g5)
   obtain⟨a5Z,vH,vI,a50⟩:=bB (show ¬m=m5 from g7)
   simp -dsimp -implicitDefEqProofs only[go_sem,↓reduceIte,Tryz.f6,eP,mP,nC,mO,eQ,iG,fY,mM,mQ,iF,vK,qG,nB,fX,vJ,vH,mN,mK,qF,vI,aI,aG,dZ,eC,eE,eF,eH,lW,dT,iI]
   obtain⟨HX,hHX⟩:∃ H:aE,H=aR (aR (aR (aR (aR G m5 (aDI outs)) np (.row 1 [[.v .bD]])) nf (.row 3 [[.v (.str iP),.v (I i),.v (.os m5 5 0 i)]])) m (.row 3 [[.v (.str iP),.v (I i),.v (.os m5 5 0 i)]])) np (.row 1 [[.v (.os m 3 0 1)]]):=⟨_,rfl⟩
   have hG1:G=g1:=hG
   rw[bCP (ns:=ns) aXP pG,←hHX]
   have X1:HX m=some (.row 3 (OV.cells ([]++[[.v (.str iP),.v (I i),.sl m5 5 (outs.map λx=>x.c.map OV.v)]]))):=by
    rw[hHX];simp only[aG,eP,mP,nC,mO,eQ,iG,fY,mM,mQ,iF,vK,qG,nB,fX,vJ,vH,mN,mK,qF,vI,↓reduceIte];simp[OV.cells,OV.val,hol]
   have X2:HX m5=some (aDI outs):=by rw[hHX];simp only[aG,eP,mP,nC,mO,eQ,iG,fY,mM,mQ,iF,vK,qG,nB,fX,vJ,vH,mN,mK,qF,vI,↓reduceIte]
   have X3:HX np=some (.row 1 [[.v (.os m 3 0 1)]]):=by rw[hHX];exact aM ..
   have X5:HX ns=none:=by rw[hHX];simp only[aG,eP,mP,nC,mO,eQ,iG,fY,mM,mQ,iF,vK,qG,nB,fX,vJ,vH,mN,mK,qF,vI,↓reduceIte];exact hns'
   have Y5:¬np=n2:=(hG0 np (hG1▸hnp)).1
   have Y6:¬nf=n2:=(hG0 nf (hG1▸cf)).1
   have X4:HX n2=some (.row 1 [[.v .bD]]):=by
    rw[hHX,aI _ _ _ _ (l5 Y5),aI _ _ _ _ (λe=>(hG0 m (hG1▸g6)).1 e.symm),aI _ _ _ _ (l5 Y6),aI _ _ _ _ (l5 Y5),aI _ _ _ _ (λe=>(hG0 m5 (hG1▸hos)).1 e.symm),hG1];exact hn2
   have X6:∀ p∈OV.bF ([]:List (List OV)),HX p.1=some p.2:=λp hp=>by cases hp
   have X7:g.le HX:=λq=>by
    rw[hHX]
    by_cases e1:q=m5
    ·rw[e1];exact .inl (hG0 m5 (hG1▸hos)).2
    by_cases e2:q=np
    ·rw[e2];exact .inl (hG0 np (hG1▸hnp)).2
    by_cases e3:q=nf
    ·rw[e3];exact .inl (hG0 nf (hG1▸cf)).2
    by_cases e4:q=m
    ·rw[e4];exact .inl (hG0 m (hG1▸g6)).2
    simp only[aG,e1,e2,e3,e4,↓reduceIte]
    rw[hG1]
    exact(o7 q).imp_right Eq.symm
   have Y1:g m=none:=(hG0 m (hG1▸g6)).2
   have Y2:g m5=none:=(hG0 m5 (hG1▸hos)).2
   have Y3:¬m=n2:=(hG0 m (hG1▸g6)).1
   have Y4:¬m5=n2:=(hG0 m5 (hG1▸hos)).1
   clear hHX
   refine aJ.gS (aBV (a:=a8) (sd:=sd8) hc hl i aA (B:=HX) X5 aA) ?_
   rintro r_ h' ⟨start,a5,sd5,hsl,hsn,rfl,ha5,rfl⟩
   rw[nU]at hsl ha5
   simp -dsimp -implicitDefEqProofs only[go_sem,↓reduceIte,Tryz.f6]
   refine aJ.gS (aBV (a:=a5) (sd:=sd5) hc hl i aA (B:=HX) X5 aA) ?_
   rintro r_ h' ⟨one,a6,sd6,bJO,bWK,rfl,ha6,rfl⟩
   rw[nU]at bJO ha6
   simp -dsimp -implicitDefEqProofs only[go_sem,↓reduceIte,Tryz.f6]
   refine aJ.gS (aBV (a:=a6) (sd:=sd6) hc hl i aA (B:=HX) X5 aA) ?_
   rintro r_ h' ⟨two,a7,sd7,htl,htn,rfl,ha7,rfl⟩
   rw[nU]at htl
   obtain⟨bO3,aYH,aYI,bO4⟩:=bB (show ¬n2=np from l5 Y5)
   simp -dsimp -implicitDefEqProofs only[go_sem,↓reduceIte,Tryz.f6,iG,bAT,iF,aYI,bAS,aYH,aG,X3,X4]
   have hw:=λ(h':aE) ho hl=>Shift.bWD (h:=g) (h':=h') (aEW [] [I ([]:List aU).length,ints start,ints one,ints two]) [OV.sl m 3 (([]:List (List OV))++[[.v (.str iP),.v (I i),.sl m5 5 (outs.map λx=>x.c.map OV.v)]])] ho hl
   have bWL:(([]:List (List OV))++[[OV.v (.str iP),.v (I i),.sl m5 5 (outs.map λx=>x.c.map OV.v)]]).length=([]:List aU).length+1:=by
    have:=hor.length
    rw[mV,←this];rfl
   have hvl:[OV.sl m 3 (([]:List (List OV))++[[.v (.str iP),.v (I i),.sl m5 5 (outs.map λx=>x.c.map OV.v)]])].map OV.val=[.os m 3 0 (([]:List aU).length+1)]:=by
    simp only[nZ,sX,OV.val,bWL]
   have hdat:[OV.sl m 3 (([]:List (List OV))++[[.v (.str iP),.v (I i),.sl m5 5 (outs.map λx=>x.c.map OV.v)]])].map OV.pU=(aNC iP ([]:List aU) i outs).c:=by
    rw[aC.aS,aI1,OV.pU,OV.fS,kS,←OV.fS,OR.pU (λ_ _ q=>aU.aM5 q) hor]
    simp only[aNC,aC.aD,fN,kS,aI1,nZ,sX]
    rw[aU.aS]
    simp only[aU.e8,aU.aT,aU.aN,OV.pU,OV.fS,aMI,fN]
   have hrows:OV.cJ [OV.sl m 3 (([]:List (List OV))++[[.v (.str iP),.v (I i),.sl m5 5 (outs.map λx=>x.c.map OV.v)]])]=(m,.row 3 (OV.cells (([]:List (List OV))++[[.v (.str iP),.v (I i),.sl m5 5 (outs.map λx=>x.c.map OV.v)]])))::(OV.bF ([]:List (List OV))++[(m5,aDI outs)]):=by
    rw[OV.fC,OV.gZ,dT,OV.hJ,OV.pL]
    simp only[OV.bF,OV.fC,OV.gZ,OV.sZ,OV.hJ,aIM,aGF,lW,dT]
    rfl
   rw[hvl,hdat,hrows]at hw
   refine⟨_,g,hw _ ?_ ?_,aNC iP ([]:List aU) i outs,([]:List aU).length,start,one,two,i,⟨bAO (nm:=iP) cE hdr aA (k:=i) aA hol (λx hx=>by have:=c6 x hx;omega),hk3,⟨hsl,bJO,htl⟩,hsn,bWK,htn⟩,rfl,rfl⟩
   ·intro p hp
    rcases pY.1 hp with rfl|hp
    ·show aR _ n2 _ m=_
     rw[aI _ _ _ _ Y3,aI _ _ _ _ pG];exact X1
    rcases pJ.1 hp with hp|hp
    ·have h1:=X6 p hp
     have h2:=hnw.fresh p.1 (dR.2 ⟨p.2,hp⟩)
     simp only[aG]at h2
     rw[aI _ _ _ _ (wF h2).1,aI _ _ _ _ (λe=>by rw[e,X5]at h1;cases h1)];exact h1
    ·rw[jF.1 hp]
     show aR _ n2 _ m5=_
     rw[aI _ _ _ _ Y4,aI _ _ _ _ k1];exact X2
   ·intro q
    by_cases f1:q=m
    ·rw[f1];exact .inl Y1
    by_cases f2:q=m5
    ·rw[f2];exact .inl Y2
    by_cases f3:q∈bH (OV.bF ([]:List (List OV)))
    ·have h2:=hnw.fresh q f3
     simp only[aG]at h2
     exact .inl (wF h2).2
    by_cases f4:q=n2
    ·rw[f4];exact .inl q2
    by_cases f5:q=ns
    ·rw[f5];exact .inl (hG0 ns z0).2
    rw[iL (λhm=>by
     simp only[bH,nZ,kS,sX,pY,pJ,aTB,or_false]at hm
     rcases hm with hm|hm|hm
     ·exact f1 hm
     ·exact f3 hm
     ·exact f2 hm),aI _ _ _ _ f4,aI _ _ _ _ f5]
    exact X7 q
  |some m0 =>
   have hg0:=hGm m0 rfl
   have j1:¬m0=ns:=λe=>by rw[e,hns']at hg0;cases hg0
   have j2:¬m0=np:=λe=>by rw[e,hnp]at hg0;cases hg0
   have j3:¬m0=nf:=λe=>by rw[e,cf]at hg0;cases hg0
   have j4:¬m0=m5:=λe=>by rw[e,hos]at hg0;cases hg0
   obtain⟨aC6,iX,iY,aB5⟩:=bB (show ¬m0=ns from j1)
   obtain⟨b61,aK3,aK4,b62⟩:=bB (show ¬m0=np from j2)
   obtain⟨bOT,xS,xT,bOU⟩:=bB (show ¬m0=nf from j3)
   obtain⟨b63,aK5,aK6,b64⟩:=bB (show ¬m0=m5 from j4)
   simp only[aY]at *
   have hel:es.length=fs.length:=hor.length.symm
   simp -dsimp -implicitDefEqProofs only[go_sem,↓reduceIte,Tryz.f6,eP,mP,mO,xT,eQ,iG,mM,iY,mQ,iF,qG,aK4,mN,mK,qF,aK6,xS,iX,aK3,aK5,aI,aG,dZ,eC,eE,eF,eH,lW,dT,iI,hg0,cW]
   refine⟨by decide,by omega,by omega,by omega,λm qm=>?_⟩
   obtain⟨g1',g4,g5,g7,g6⟩:=bWJ qm
   obtain⟨pG,fX,fY,tC⟩:=bB (show ¬m=ns from g1')
   obtain⟨aIS,nB,nC,aIT⟩:=bB (show ¬m=nf from g4)
   obtain⟨a55,vJ,vK,a56⟩:=bB (show ¬m=np from g5)
   obtain⟨a5Z,vH,vI,a50⟩:=bB (show ¬m=m5 from g7)
   have g8:¬m=m0:=λe=>by rw[e,hg0]at g6;cases g6
   obtain⟨aRU,uM,uN,aRV⟩:=bB (show ¬m=m0 from g8)
   simp -dsimp -implicitDefEqProofs only[go_sem,↓reduceIte,Tryz.f6,eP,mP,nC,mO,xT,eQ,iG,fY,mM,iY,mQ,iF,vK,qG,aK4,nB,fX,vJ,vH,uM,mN,mK,qF,vI,aK6,xS,iX,aK3,uN,aK5,aI,aG,dZ,eC,eE,eF,eH,lW,dT,iI]
   obtain⟨HX,hHX⟩:∃ H:aE,H=aR (aR (aR (aR (aR (aR G m5 (aDI outs)) np (.row 1 [[.v (.os m0 3 0 fs.length)]])) nf (.row 3 [[.v (.str iP),.v (I i),.v (.os m5 5 0 i)]])) m0 .gone) m (.row 3 (List.take fs.length (OV.cells es)++[[.v (.str iP),.v (I i),.v (.os m5 5 0 i)]]))) np (.row 1 [[.v (.os m 3 0 (fs.length+1))]]):=⟨_,rfl⟩
   rw[jX]at hgs
   have hGq:∀ q,G q=none->g1 q=none:=λq hq=>by
    rw[hG,aK]at hq
    simp only[aG]at hq
    exact(wF hq).2
   rw[bCQ (ns:=ns) aXP pG aC6,←hHX]
   have X1:HX m=some (.row 3 (OV.cells (es++[[.v (.str iP),.v (I i),.sl m5 5 (outs.map λx=>x.c.map OV.v)]]))):=by
    rw[hHX];simp only[aG,eP,mP,nC,mO,xT,eQ,iG,fY,mM,iY,mQ,iF,vK,qG,aK4,nB,fX,vJ,vH,uM,mN,mK,qF,vI,aK6,xS,iX,aK3,uN,aK5,↓reduceIte]
    rw[xJ,pQ (by rw[cW];omega)]
    simp[OV.cells,OV.val,hol]
   have X2:HX m5=some (aDI outs):=by rw[hHX];simp only[aG,eP,mP,nC,mO,xT,eQ,iG,fY,mM,iY,mQ,iF,vK,qG,aK4,nB,fX,vJ,vH,uM,mN,mK,qF,vI,aK6,xS,iX,aK3,uN,aK5,↓reduceIte]
   have X3:HX np=some (.row 1 [[.v (.os m 3 0 (fs.length+1))]]):=by rw[hHX];exact aM ..
   have X5:HX ns=none:=by rw[hHX];simp only[aG,eP,mP,nC,mO,xT,eQ,iG,fY,mM,iY,mQ,iF,vK,qG,aK4,nB,fX,vJ,vH,uM,mN,mK,qF,vI,aK6,xS,iX,aK3,uN,aK5,↓reduceIte];exact hns'
   have Y5:¬np=n2:=(hG0 np (hGq _ hnp)).1
   have Y6:¬nf=n2:=(hG0 nf (hGq _ cf)).1
   have X4:HX n2=some (.row 1 [[.v .bD]]):=by
    rw[hHX,aI _ _ _ _ (l5 Y5),aI _ _ _ _ (λe=>(hG0 m (hGq _ g6)).1 e.symm),aI _ _ _ _ (λe=>(hG0 m0 hgs).1 e.symm),aI _ _ _ _ (l5 Y6),aI _ _ _ _ (l5 Y5),aI _ _ _ _ (λe=>(hG0 m5 (hGq _ hos)).1 e.symm),hG,aK,aI _ _ _ _ (λe=>(hG0 m0 hgs).1 e.symm)];exact hn2
   have hGs:∀ q v,g1 q=some v->G q=some v:=λq v hq=>by
    rw[hG,aK,aI _ _ _ _ (λe=>by rw[e,hgs]at hq;cases hq)];exact hq
   have X6:∀ p∈OV.bF es,HX p.1=some p.2:=λp hp=>by
    have h1:=hnw.tO p hp
    have h2:=hGs _ _ h1
    have f1:¬p.1=m5:=λe=>by rw[e,hos]at h2;cases h2
    have f2:¬p.1=np:=λe=>by rw[e,hnp]at h2;cases h2
    have f3:¬p.1=nf:=λe=>by rw[e,cf]at h2;cases h2
    have f4:¬p.1=m:=λe=>by rw[e,g6]at h2;cases h2
    have f5:¬p.1=m0:=λe=>by rw[e,hgs]at h1;cases h1
    rw[hHX]
    simp only[aG,f1,f2,f3,f4,f5,↓reduceIte]
    exact h2
   have X7:g.le HX:=λq=>by
    rw[hHX]
    by_cases e1:q=m5
    ·rw[e1];exact .inl (hG0 m5 (hGq _ hos)).2
    by_cases e2:q=np
    ·rw[e2];exact .inl (hG0 np (hGq _ hnp)).2
    by_cases e3:q=nf
    ·rw[e3];exact .inl (hG0 nf (hGq _ cf)).2
    by_cases e4:q=m
    ·rw[e4];exact .inl (hG0 m (hGq _ g6)).2
    by_cases e5:q=m0
    ·rw[e5];exact .inl (hG0 m0 hgs).2
    simp only[aG,e1,e2,e3,e4,e5,↓reduceIte]
    rw[hG,aK,aI _ _ _ _ e5]
    exact(o7 q).imp_right Eq.symm
   have Y1:g m=none:=(hG0 m (hGq _ g6)).2
   have Y2:g m5=none:=(hG0 m5 (hGq _ hos)).2
   have Y3:¬m=n2:=(hG0 m (hGq _ g6)).1
   have Y4:¬m5=n2:=(hG0 m5 (hGq _ hos)).1
   clear hHX
   refine aJ.gS (aBV (a:=a8) (sd:=sd8) hc hl i aA (B:=HX) X5 aA) ?_
   rintro r_ h' ⟨start,a5,sd5,hsl,hsn,rfl,ha5,rfl⟩
   rw[nU]at hsl ha5
   simp -dsimp -implicitDefEqProofs only[go_sem,↓reduceIte,Tryz.f6]
   refine aJ.gS (aBV (a:=a5) (sd:=sd5) hc hl i aA (B:=HX) X5 aA) ?_
   rintro r_ h' ⟨one,a6,sd6,bJO,bWK,rfl,ha6,rfl⟩
   rw[nU]at bJO ha6
   simp -dsimp -implicitDefEqProofs only[go_sem,↓reduceIte,Tryz.f6]
   refine aJ.gS (aBV (a:=a6) (sd:=sd6) hc hl i aA (B:=HX) X5 aA) ?_
   rintro r_ h' ⟨two,a7,sd7,htl,htn,rfl,ha7,rfl⟩
   rw[nU]at htl
   obtain⟨bO3,aYH,aYI,bO4⟩:=bB (show ¬n2=np from l5 Y5)
   simp -dsimp -implicitDefEqProofs only[go_sem,↓reduceIte,Tryz.f6,iG,bAT,iF,aYI,bAS,aYH,aG,X3,X4]
   have hw:=λ(h':aE) ho hl=>Shift.bWD (h:=g) (h':=h') (aEW [] [I fs.length,ints start,ints one,ints two]) [OV.sl m 3 (es++[[.v (.str iP),.v (I i),.sl m5 5 (outs.map λx=>x.c.map OV.v)]])] ho hl
   have bWL:(es++[[OV.v (.str iP),.v (I i),.sl m5 5 (outs.map λx=>x.c.map OV.v)]]).length=fs.length+1:=by
    have:=hor.length
    rw[mV,←this];rfl
   have hvl:[OV.sl m 3 (es++[[.v (.str iP),.v (I i),.sl m5 5 (outs.map λx=>x.c.map OV.v)]])].map OV.val=[.os m 3 0 (fs.length+1)]:=by
    simp only[nZ,sX,OV.val,bWL]
   have hdat:[OV.sl m 3 (es++[[.v (.str iP),.v (I i),.sl m5 5 (outs.map λx=>x.c.map OV.v)]])].map OV.pU=(aNC iP fs i outs).c:=by
    rw[aC.aS,aI1,OV.pU,OV.fS,kS,←OV.fS,OR.pU (λ_ _ q=>aU.aM5 q) hor]
    simp only[aNC,aC.aD,fN,kS,aI1,nZ,sX]
    rw[aU.aS]
    simp only[aU.e8,aU.aT,aU.aN,OV.pU,OV.fS,aMI,fN]
   have hrows:OV.cJ [OV.sl m 3 (es++[[.v (.str iP),.v (I i),.sl m5 5 (outs.map λx=>x.c.map OV.v)]])]=(m,.row 3 (OV.cells (es++[[.v (.str iP),.v (I i),.sl m5 5 (outs.map λx=>x.c.map OV.v)]])))::(OV.bF es++[(m5,aDI outs)]):=by
    rw[OV.fC,OV.gZ,dT,OV.hJ,OV.pL]
    simp only[OV.bF,OV.fC,OV.gZ,OV.sZ,OV.hJ,aIM,aGF,lW,dT]
    rfl
   rw[hvl,hdat,hrows]at hw
   refine⟨_,g,hw _ ?_ ?_,aNC iP fs i outs,fs.length,start,one,two,i,⟨bAO (nm:=iP) cE hdr aA (k:=i) aA hol (λx hx=>by have:=c6 x hx;omega),hk3,⟨hsl,bJO,htl⟩,hsn,bWK,htn⟩,rfl,rfl⟩
   ·intro p hp
    rcases pY.1 hp with rfl|hp
    ·show aR _ n2 _ m=_
     rw[aI _ _ _ _ Y3,aI _ _ _ _ pG];exact X1
    rcases pJ.1 hp with hp|hp
    ·have h1:=X6 p hp
     have h2:=hnw.fresh p.1 (dR.2 ⟨p.2,hp⟩)
     simp only[aG]at h2
     rw[aI _ _ _ _ (wF h2).1,aI _ _ _ _ (λe=>by rw[e,X5]at h1;cases h1)];exact h1
    ·rw[jF.1 hp]
     show aR _ n2 _ m5=_
     rw[aI _ _ _ _ Y4,aI _ _ _ _ k1];exact X2
   ·intro q
    by_cases f1:q=m
    ·rw[f1];exact .inl Y1
    by_cases f2:q=m5
    ·rw[f2];exact .inl Y2
    by_cases f3:q∈bH (OV.bF es)
    ·have h2:=hnw.fresh q f3
     simp only[aG]at h2
     exact .inl (wF h2).2
    by_cases f4:q=n2
    ·rw[f4];exact .inl q2
    by_cases f5:q=ns
    ·rw[f5];exact .inl (hG0 ns z0).2
    rw[iL (λhm=>by
     simp only[bH,nZ,kS,sX,pY,pJ,aTB,or_false]at hm
     rcases hm with hm|hm|hm
     ·exact f1 hm
     ·exact f3 hm
     ·exact f2 hm),aI _ _ _ _ f4,aI _ _ _ _ f5]
    exact X7 q
theorem aR8 {p:aC} {f:Int} {start dir:List Int} {order:Int} (hd:dir.length=start.length) (nd:dW dir):(oS p f start dir order).2=(gY p f start order).2:=by
 have h2:=aUQ p f start dir order
 by_cases h0:fW p f [start] order=0
 ·obtain⟨S,_⟩:=yW h0
  obtain⟨G,eG,hO1,hO2,hO3,hO4⟩:=vQ S.ok S.fn
  have hlG:=S.par G eG
  have hpar:p.par f=G.aT:=by rw[aC.par,eG];rfl
  rw[if_pos h0,if_pos ⟨by rw[hpar,←hlG,hd],nd⟩]at h2
  rw[oS,if_pos h2,gY,if_pos h0]
  cases wT p f start <;> rfl
 ·rw[if_neg h0]at h2
  rw[oS,if_neg (by rw[h2];exact h0),gY,if_neg h0,h2]
theorem bWM {p:aC} {f:Int} {start:List Int} {order:Int} (h:(gY p f start order).2=0):a9H p f start order/\fW p f [start] order=0/\∃ L F u,wT p f start=.ok ((L,F),u)/\aFH p f start L F u/\L.length=start.length/\(gY p f start order).1=eS (Vy F.code L) start order.toNat/\∀ dir:List Int,dir.length=start.length->dW dir->fW p f [start,dir] order=0/\(oS p f start dir order).1=eS (Vz F.code L (eS (Vy F.code L) start)) dir order.toNat:=by
 by_cases h0:fW p f [start] order=0
 ·obtain⟨S,_⟩:=yW h0
  refine⟨S,h0,?_⟩
  obtain⟨G,eG,hO1,hO2,hO3,hO4⟩:=vQ S.ok S.fn
  have hlG:=S.par G eG
  have hpar:p.par f=G.aT:=by rw[aC.par,eG];rfl
  cases hX:wT p f start with
  |error c =>
   have he:=(aKS S.ok S.fn S.ns S.par hX).1
   have hc:=aF0 p 1 f _ c he
   rw[gY,if_pos h0,hX]at h
   simp only at h
   omega
  |ok q =>
   obtain⟨⟨L,F⟩,u⟩:=q
   have T:=aUM S.ok S.fn S.ns S.hs.2 S.par hX
   refine⟨L,F,u,rfl,T,by rw[T.ll,S.outs],by rw[gY,if_pos h0,hX],λdir hd nd=>?_⟩
   have h2:=aUQ p f start dir order
   rw[if_pos h0,if_pos ⟨by rw[hpar,←hlG,hd],nd⟩]at h2
   exact⟨h2,by rw[oS,if_pos h2,hX]⟩
 ·rw[gY,if_neg h0]at h
  exact absurd h h0
theorem bJP {p:aC} (h:(oT p).2=0):p.ok/\(oT p).1=xR (mJ p) p:=by
 unfold oT at h ⊢
 by_cases hp:p.ok
 ·rw[if_pos hp]at h ⊢
  split at h
  ·cases h
  ·rename_i hn
   rw[if_neg hn]
   split at h
   ·rename_i hq;rw[if_pos hq];exact⟨hp,rfl⟩
   ·cases h
 ·rw[if_neg hp]at h;cases h
theorem bJQ {p:aC} (hp:p.ok) (g:Nat) (hg:g<16):(mJ p g).length<=40:=by
 have hpl:=hp.1
 have:=qN (n:=((p.aD.length+g:Nat):Int)) aA aA
 rw[mJ,al2];omega
structure bWN (n o:Nat) (one:List Int) (U V W:List (List Int)):Prop where
 u:gF (o+1) n U
 v:gF (o+1) n V
 w:gF (o+1) n W
 first:∀ i,i<n->(U.getD i []).getD 0 0=one.getD i 0
 lin:∀ i,i<n->W.getD i []=iK (U.getD i []) (iE (V.getD i []) 5)
theorem b3L {q a b:Nat} {h:aE} {X Y Z:bE} (e:(if q=a then some X else if q=a then some Y else if q=b then some Z else h q)=none):¬q=a/\¬q=b/\h q=none:=by grind
theorem bCR {p:aC} {f:Int} {start one two:List Int} {o:Nat} (ho:o<=12) (hz:(gY p f start o).2=0) (l1:one.length=start.length) (l2:two.length=start.length) (n1:dW one) (n2:dW two) :
  gF (o+1) start.length (gY p f start o).1/\bWN start.length o one (oS p f start one o).1 (oS p f start two o).1 (oS p f start (iK one (iE two 5)) o).1/\(0<=f/\f<p.aD.length)/\p.ok/\∀ d,Der p d->(gY d (p.aD.length+f) (start++one) o).2=0->(gY d (p.aD.length+f) (start++one) o).1=(gY p f start o).1++(oS p f start one o).1:=by
 obtain⟨S,h0,L,F,u,hX,T,hL,hF,hV⟩:=bWM hz
 have ow:=kX (n:=start.length) ⟨l1,n1⟩ (eO 5 ⟨l2,n2⟩)
 obtain⟨s1,e1⟩:=hV one l1 n1
 obtain⟨s2,e2⟩:=hV two l2 n2
 obtain⟨s3,e3⟩:=hV (iK one (iE two 5)) ow.1 ow.2
 have q0:=gE (Vy F.code L) S.ns o
 have q1:=gE (Vz F.code L (eS (Vy F.code L) start)) n1 o
 have q2:=gE (Vz F.code L (eS (Vy F.code L) start)) n2 o
 have q3:=gE (Vz F.code L (eS (Vy F.code L) start)) ow.2 o
 rw[hF,e1,e2,e3,nU]
 refine⟨q0.1,⟨l1▸q1.1,l2▸q2.1,ow.1▸q3.1,λi hi=>q1.2 i aA,λi hi=>bND T hL S.ns n1 n2 l1 l2 ho hi⟩,S.fn,S.ok,λd hd hz2=>?_⟩
 have:=bJG hd s1 hX hz2
 rw[nU]at this
 exact this
@[go_sem] def bRP:List Nat:=[0,1,4,5,6,7,8,9,10,11,12,13,14,15,16,17,18,19,20,21,22,24,25,27,28,29,32,93,95,115,118,149,162,164,192,194]
@[go_sem] def mk3:Marks:=λid=>match id with|8=>([0,5,6,8],(.op 1 (.op 2 (.op 3 (.op 4 (.op 7 (.op 0 (.op 5 (.op 6 (.op 8 (.op 9 (.op 10 (.op 11 (.op 12 (.op 13 .nil)))))))))))))),[(0,5),(0,6)])|19=>([3,5,9,15,19,20,21,25,26],(.op 0 (.op 1 (.op 2 (.op 6 (.op 7 (.op 8 (.op 3 (.op 4 (.op 5 (.op 9 (.op 10 (.op 11 (.op 12 (.op 13 (.op 14 (.op 16 (.op 17 (.op 18 (.op 22 (.op 23 (.op 24 (.op 15 (.op 19 (.op 25 (.op 20 (.op 21 (.op 26 (.op 27 (.op 28 .nil))))))))))))))))))))))))))))),[(15,20),(25,20),(25,21)])|28=>([0,4,6],(.op 1 (.op 2 (.op 3 (.op 5 (.op 0 (.op 4 (.op 6 (.op 7 (.op 8 (.op 9 (.op 10 (.op 11 .nil)))))))))))),[(0,4)])|29=>([0,4,6],(.op 1 (.op 2 (.op 3 (.op 5 (.op 0 (.op 4 (.op 6 (.op 7 (.op 8 (.op 9 (.op 10 (.op 11 .nil)))))))))))),[(0,4)])|_=>([],.nil,[])
set_option maxHeartbeats 4000000 in
theorem bWO {c:List Int} (hc:∀ x∈c,InB x) {d:List Int} (hd:∀ x∈d,InB x):fM Tryz.prog 3 [.sl 1 (c.map λn=>[.int .u8 n]) false,.sl 1 (d.map λn=>[.int .u8 n]) false] (.bool true):=by
 have hb:=bWG c d
 have hat:=b3H d hd
 obtain⟨o,ho1,ho2⟩:∃ o:Nat,atV d 7=o/\o<=6:=by
  have:0<=atV d 7/\atV d 7<7:=by unfold atV;split <;> omega
  exact⟨(atV d 7).toNat,by omega,by omega⟩
 refine gX 214 bRP dC mk3 Tryz.func3 λh=>?_
 simp -dsimp -implicitDefEqProofs only[go_sem,↓reduceIte,Tryz.f3]
 first|refine aJ.mk (hb) ?_|refine aF.mk (hb) ?_|refine aJ.bA (hb) ?_|refine aF.mk (aX.cU (hb)) ?_
 simp -dsimp -implicitDefEqProofs only[go_sem,↓reduceIte,Tryz.f3]
 intro hlong
 have hlc:c.length<=4096:=by omega
 refine aJ.gS (bJM hc hlc) ?_
 rintro r_ h' ⟨p,f,start,one,two,n,⟨hps,hn3,⟨hsl,hol,htl⟩,ns,no,nt⟩,rfl,rfl⟩
 have hsf:=aR6 p hps f start o
 have hv:=λdir=>aXD (a1G p hps f start dir o)
 have hdp:=aNR p hps
 have hsd:=aIU p hps
 have hsc:=bAR two 5 nt pK aA
 have hcl:=vU two 5
 have nsc:dW (iE two 5):=(eO _ ⟨rfl,nt⟩).2
 have had:=bRN one (iE two 5) aA aA no nsc
 have hal:=aJ2 (a:=one) (b:=iE two 5) aA
 have nad:dW (iK one (iE two 5)):=(kX (n:=n) ⟨hol,no⟩ ⟨by omega,nsc⟩).2
 have c1:=aR8 (p:=p) (f:=f) (start:=start) (order:=o) aA no
 have c2:=aR8 (p:=p) (f:=f) (start:=start) (order:=o) aA nt
 have c3:=aR8 (p:=p) (f:=f) (start:=start) (dir:=iK one (iE two 5)) (order:=o) aA nad
 have hv1:=hv one
 have hv2:=hv two
 have hv3:=hv (iK one (iE two 5))
 rw[c1]at hv1
 rw[c2]at hv2
 rw[c3]at hv3
 clear c1 c2 c3 hv
 simp only[aC.aS p,aC.aS (oT p).1]at hsf hv1 hv2 hv3 hdp hsd ⊢
 simp -dsimp -implicitDefEqProofs only[go_sem,↓reduceIte,Tryz.f3]
 intro n5 q5
 rw[aO]
 first|refine aJ.mk (hat) ?_|refine aF.mk (hat) ?_|refine aJ.bA (hat) ?_|refine aF.mk (aX.cU (hat)) ?_
 simp -dsimp -implicitDefEqProofs only[go_sem,↓reduceIte,Tryz.f3,aG]
 rw[ho1]
 first|refine aJ.mk (hsf) ?_|refine aF.mk (hsf) ?_|refine aJ.bA (hsf) ?_|refine aF.mk (aX.cU (hsf)) ?_
 simp -dsimp -implicitDefEqProofs only[go_sem,↓reduceIte,Tryz.f3,aG]
 first|refine aJ.mk (hv1) ?_|refine aF.mk (hv1) ?_|refine aJ.bA (hv1) ?_|refine aF.mk (aX.cU (hv1)) ?_
 simp -dsimp -implicitDefEqProofs only[go_sem,↓reduceIte,Tryz.f3,aG]
 first|refine aJ.mk (hv2) ?_|refine aF.mk (hv2) ?_|refine aJ.bA (hv2) ?_|refine aF.mk (aX.cU (hv2)) ?_
 simp -dsimp -implicitDefEqProofs only[go_sem,↓reduceIte,Tryz.f3,aG]
 first|refine aJ.mk (hsc) ?_|refine aF.mk (hsc) ?_|refine aJ.bA (hsc) ?_|refine aF.mk (aX.cU (hsc)) ?_
 simp -dsimp -implicitDefEqProofs only[go_sem,↓reduceIte,Tryz.f3,aG]
 first|refine aJ.mk (had) ?_|refine aF.mk (had) ?_|refine aJ.bA (had) ?_|refine aF.mk (aX.cU (had)) ?_
 simp -dsimp -implicitDefEqProofs only[go_sem,↓reduceIte,Tryz.f3,aG]
 first|refine aJ.mk (hv3) ?_|refine aF.mk (hv3) ?_|refine aJ.bA (hv3) ?_|refine aF.mk (aX.cU (hv3)) ?_
 simp -dsimp -implicitDefEqProofs only[go_sem,↓reduceIte,Tryz.f3,aG]
 have cAQ:∀ Y,h'.le (aR h' n5 Y):=λY=>aE.bP q5 (aE.le_refl _)
 refine⟨λ_=>cAQ _,λhz _=>?_⟩
 obtain⟨sY,VO,hfn,hok,hder⟩:=bCR aA hz aA aA no nt
 clear hv1 hv2 hv3 hsf hat hb hc had hsc hal nad
 generalize (oS p f start one o).1=U at *
 generalize (oS p f start two o).1=V at *
 generalize (oS p f start (iK one (iE two 5)) o).1=W at *
 generalize (gY p f start o).1=Y at *
 have hw1:IntKind.i64.wrap ((o:Int)+1)=((o+1:Nat):Int):=by rw[IntWalk.i64_in _ aA];omega
 have hUl:=VO.u.1
 have hVl:=VO.v.1
 have hWl:=VO.w.1
 have hwide:=bWH (n:=start.length) (w:=o+1) hUl λs hs=>(VO.u.2 s hs).1
 rw[hw1]
 first|refine aJ.mk (hwide) ?_|refine aF.mk (hwide) ?_|refine aJ.bA (hwide) ?_|refine aF.mk (aX.cU (hwide)) ?_
 simp -dsimp -implicitDefEqProofs only[go_sem,↓reduceIte,Tryz.f3,aG]
 refine λ_=>⟨λ_ _=>⟨λq=>absurd hWl q,λ_=>?_⟩,λq=>absurd hVl q⟩
 refine cZ bRP dC mk3 (λi:Nat=>[(5,.op n5 1 0 0),(6,I f),(7,ints start),(8,ints one),(10,I o),(11,b6 Y),(13,b6 U),(15,b6 V),(17,b6 W),(19,I start.length),(20,I i)]) (λ_=>aR h' n5 (.row 1 [[.v (fN 3 aU.c p.aD)]])) (λi=>i<=start.length) (λi=>start.length-i) 0 ⟨by simp[c4,b7],aE.le_refl _,fE _⟩ ?_
 intro i hi
 rcases bZ i start.length with hlt|hge
 ·have sU:=(VO.u.get hlt).2
  have sV:=(VO.v.get hlt).2
  have sW:=(VO.w.get hlt).2
  have eU:U[i]?=some (U.getD i []):=(VO.u.get hlt).1
  have eV:V[i]?=some (V.getD i []):=(VO.v.get hlt).1
  have eW:W[i]?=some (W.getD i []):=(VO.w.get hlt).1
  have eo:one[i]?=some (one.getD i 0):=cI aA
  have e0:(U.getD i [])[Int.toNat 0]?=some ((U.getD i []).getD 0 0):=cI (by rw[sU.1];omega)
  have hfst:=VO.first i hlt
  have hlin:=VO.lin i hlt
  have bO5:=bAR (V.getD i []) 5 sV.2 pK (by rw[sV.1];omega)
  have hadd:=bRN (U.getD i []) (iE (V.getD i []) 5) (by rw[vU,sV.1,sU.1]) (by rw[sU.1];omega) sU.2 (eO _ sV).2
  have hsame:=bJJ (W.getD i []) (by rw[sW.1];omega)
  rw[←hlin]at hadd
  have hu1:=sU.1
  simp -dsimp -implicitDefEqProofs only[go_sem,↓reduceIte,Tryz.f3,aG,hlt,eU,e0,eo,hfst]
  refine⟨by omega,by omega,by omega,by omega,by omega,by omega,?_⟩
  simp -dsimp -implicitDefEqProofs only[go_sem,↓reduceIte,Tryz.f3,aG,eV,eW]
  first|refine aJ.mk (bO5) ?_|refine aF.mk (bO5) ?_|refine aJ.bA (bO5) ?_|refine aF.mk (aX.cU (bO5)) ?_
  simp -dsimp -implicitDefEqProofs only[go_sem,↓reduceIte,Tryz.f3,aG]
  first|refine aJ.mk (hadd) ?_|refine aF.mk (hadd) ?_|refine aJ.bA (hadd) ?_|refine aF.mk (aX.cU (hadd)) ?_
  simp -dsimp -implicitDefEqProofs only[go_sem,↓reduceIte,Tryz.f3,aG]
  first|refine aJ.mk (hsame) ?_|refine aF.mk (hsame) ?_|refine aJ.bA (hsame) ?_|refine aF.mk (aX.cU (hsame)) ?_
  simp -dsimp -implicitDefEqProofs only[go_sem,↓reduceIte,Tryz.f3,aG]
  exact⟨i+1,IntWalk.i64_in _ aA,hlt,by omega⟩
 ·obtain rfl:i=start.length:=by omega
  simp -dsimp -implicitDefEqProofs only[go_sem,↓reduceIte,Tryz.f3,aG,bX,dB]
  first|refine aJ.mk (hdp) ?_|refine aF.mk (hdp) ?_|refine aJ.bA (hdp) ?_|refine aF.mk (aX.cU (hdp)) ?_
  simp -dsimp -implicitDefEqProofs only[go_sem,↓reduceIte,Tryz.f3,aG]
  intro n21 q21
  obtain⟨z1,z2⟩:=wF q21
  obtain⟨b3M,aK7,aK8,b3N⟩:=bB (show ¬n21=n5 from z1)
  simp -dsimp -implicitDefEqProofs only[go_sem,↓reduceIte,Tryz.f3,aK7,aK8,aG]
  first|refine aJ.mk (hsd) ?_|refine aF.mk (hsd) ?_|refine aJ.bA (hsd) ?_|refine aF.mk (aX.cU (hsd)) ?_
  simp -dsimp -implicitDefEqProofs only[go_sem,↓reduceIte,Tryz.f3,aK7,aK8,aG]
  intro n23 q23
  obtain⟨z3,z4,z5⟩:=b3L q23
  obtain⟨b3O,a17,a18,b3P⟩:=bB (show ¬n23=n5 from z4)
  obtain⟨bYU,aUY,aUZ,bYV⟩:=bB (show ¬n23=n21 from z3)
  have hle:∀ X Y Z:bE,h'.le (aR (aR (aR (aR (aR h' n5 X) n21 (.row 1 [[.v .bD]])) n21 Y) n23 (.row 1 [[.v .bD]])) n23 Z):=λX Y Z q=>by
   simp only[aG]
   grind
  refine⟨λ_=>hle _ _ _,λhdz=>?_⟩
  obtain⟨hpk,hde⟩:=bJP hdz
  have hdl:=bH9 hpk (bJQ hpk)
  rw[hde]
  simp -dsimp -implicitDefEqProofs only[go_sem,↓reduceIte,Tryz.f3,aK7,aUZ,aK8,a18,aUY,a17,aG]
  intro _
  obtain⟨HZ,hHZ⟩:∃ H:aE,H=aR (aR (aR (aR (aR h' n5 (.row 1 [[.v (fN 3 aU.c p.aD)]])) n21 (.row 1 [[.v .bD]])) n21 (.row 1 [[.v (fN 3 aU.c (xR (mJ p) p).aD)]])) n23 (.row 1 [[.v .bD]])) n23 (.row 1 [[.v (fN 3 aU.c (xR (mJ p) p).aD)]]):=⟨_,rfl⟩
  rw[←hHZ]
  have Z1:h'.le HZ:=by rw[hHZ];exact hle _ _ _
  have Z2:HZ n21=some (.row 1 [[.v (fN 3 aU.c (xR (mJ p) p).aD)]]):=by rw[hHZ];simp only[aG,aK7,aUZ,aK8,a18,aUY,a17,↓reduceIte]
  clear hHZ hle
  have hbo:=bWI start one aA aA
  have hpl:=hok.1
  have wf:IntKind.i64.wrap ((p.aD.length:Int)+f)=p.aD.length+f:=IntWalk.i64_in _ aA
  have xE:=aR6 (xR (mJ p) p) hdl (p.aD.length+f) (start++one) o
  have hi2:=a54 (xR (mJ p) p) hdl (p.aD.length+f) (start++one) o
  have b3Q:=hder _ (bNE (mJ p) p)
  simp only[aC.aS (xR (mJ p) p)]at xE hi2
  generalize hR:gY (xR (mJ p) p) (p.aD.length+f) (start++one) o=R at *
  generalize (xR (mJ p) p).aD=DF at *
  first|refine aJ.mk (hbo) ?_|refine aF.mk (hbo) ?_|refine aJ.bA (hbo) ?_|refine aF.mk (aX.cU (hbo)) ?_
  simp -dsimp -implicitDefEqProofs only[go_sem,↓reduceIte,Tryz.f3,aG,Z2]
  rw[wf]
  first|refine aJ.mk (xE) ?_|refine aF.mk (xE) ?_|refine aJ.bA (xE) ?_|refine aF.mk (aX.cU (xE)) ?_
  simp -dsimp -implicitDefEqProofs only[go_sem,↓reduceIte,Tryz.f3,aG,Z2]
  first|refine aJ.mk (hbo) ?_|refine aF.mk (hbo) ?_|refine aJ.bA (hbo) ?_|refine aF.mk (aX.cU (hbo)) ?_
  simp -dsimp -implicitDefEqProofs only[go_sem,↓reduceIte,Tryz.f3,aG,Z2]
  first|refine aJ.mk (hi2) ?_|refine aF.mk (hi2) ?_|refine aJ.bA (hi2) ?_|refine aF.mk (aX.cU (hi2)) ?_
  simp -dsimp -implicitDefEqProofs only[go_sem,↓reduceIte,Tryz.f3,aG,Z2]
  refine⟨λ_=>Z1,λhq=>?_⟩
  have hR1:=b3Q hq
  rw[hR1]
  have hYl:=sY.1
  have hll:(Y++U).length=start.length+start.length:=by rw[mV,hYl,hUl]
  have w2:IntKind.i64.wrap (2*(start.length:Int))=((start.length+start.length:Nat):Int):=by rw[IntWalk.i64_in _ aA];omega
  have x8:=aR7 Y aA λs hs=>by have:=(sY.2 s hs).1;omega
  have hs3:=aR7 U aA λs hs=>by have:=(VO.u.2 s hs).1;omega
  have ht1:List.take start.length ((Y++U).map λs=>[ints s])=Y.map λs=>[ints s]:=by rw[kS,List.take_left' (by rw[nG,hYl])]
  have ht2:List.drop start.length ((Y++U).map λs=>[ints s])=U.map λs=>[ints s]:=by rw[kS,List.drop_left' (by rw[nG,hYl])]
  rw[w2]
  refine λ_=>⟨λ_=>⟨fE _,by omega,?_⟩,λq=>absurd (by rw[hll]) q⟩
  rw[ht1]
  first|refine aJ.mk (x8) ?_|refine aF.mk (x8) ?_|refine aJ.bA (x8) ?_|refine aF.mk (aX.cU (x8)) ?_
  simp -dsimp -implicitDefEqProofs only[go_sem,↓reduceIte,Tryz.f3,aG]
  refine⟨by omega,iH _,?_⟩
  rw[pQ (l:=(Y++U).map λs=>[ints s]) aOY,ht2]
  first|refine aJ.mk (hs3) ?_|refine aF.mk (hs3) ?_|refine aJ.bA (hs3) ?_|refine aF.mk (aX.cU (hs3)) ?_
  simp -dsimp -implicitDefEqProofs only[go_sem,↓reduceIte,Tryz.f3,aG]
  exact Z1
end Go.Hl

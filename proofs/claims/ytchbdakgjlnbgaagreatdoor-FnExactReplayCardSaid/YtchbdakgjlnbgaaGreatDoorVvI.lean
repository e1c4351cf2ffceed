/-
  Contracts of functions and laws of the layer over the walk.
-/
import Derived.Test.YtchbdakgjlnbgaaGreatDoorVvH
import Derived.Test.YtchbdakgjlnbgaaGreatDoorVvA
namespace Go.Hl
set_option maxRecDepth 100000
open Go.Proofs
set_option linter.unusedVariables false
set_option linter.unusedSimpArgs false
theorem aQS (l:List aB) (hk:∀ x∈l,aPS Tryz.prog 138 (OS aB.o 5 x.aP)):aPS Tryz.prog 138 (OS aB.o 5 l):=by
 intro y k h hy h0 h1 ho nd
 rcases hy with⟨rfl,hl⟩|⟨n,es,rfl,hor⟩
 ·rw[OV.tB,OV.kG,OV.wT,OV.nV]
  refine zY 48 vL cD bS Tryz.func138 ?_
  simp -dsimp -implicitDefEqProofs only[go_sem,↓reduceIte,Tryz.f138]
  refine cY vL cD bS (λ_:Unit=>[(0,.sl 5 [] true),(1,I k),(5,I 0)]) (λ_=>h) (λ_=>True) (λ_=>0) () qA ?_
  intro _ _
  simp -dsimp -implicitDefEqProofs only[go_sem,↓reduceIte,Tryz.f138,gF,eK]
  try intro _
  refine⟨h,Heap.le_refl _,?_⟩
  first|exact mJ.refl zS|exact⟨by simp,mJ.refl zS⟩
 ·rw[OV.aAJ,OV.fF,OV.fF,OV.pO,OV.lC]
  rw[OV.pO]at h1
  rw[OV.fF]at ho nd
  generalize hL0:(n,bQ.row 5 (OV.cells es))::OV.bV es=L0 at nd ⊢
  refine zY 48 vL cD bS Tryz.func138 ?_
  simp -dsimp -implicitDefEqProofs only[go_sem,↓reduceIte,Tryz.f138]
  refine cY vL cD bS (λx:Nat×Heap=>[(0,.os n 5 0 es.length),(1,I (k+OV.dM (es.take x.1))),(5,I x.1)]) (λx=>x.2) (λx=>x.1<=es.length/\mJ h x.2 L0 ((n,.row 5 (OV.cells (OV.cM k (es.take x.1)++es.drop x.1)))::OV.bV (OV.cM k (es.take x.1)++es.drop x.1))) (λx=>es.length-x.1) (0,h) (by
   refine⟨by simp[eE,dJ,OV.dM],Heap.le_refl _,iF _,?_⟩
   rw[←hL0]
   simpa[OV.cM]using mJ.refl ho) ?_
  rintro⟨i,g⟩ ⟨hi,hc⟩
  simp only at hi hc ⊢
  rcases cX i es.length with hlt|hge
  ·have hll:i<l.length:=by rw[hor.length];exact hlt
   obtain⟨A,e,B,rfl,hA,he⟩:=hor.split i hll
   have t1:(A++e::B).take i=A:=by rw[←hA];simp
   have t2:(A++e::B).drop i=e::B:=by rw[←hA];simp
   have t0:A++e::B=(A++[e])++B:=by simp
   have t3:(A++e::B).take (i+1)=A++[e]:=by rw[t0];exact aAF qV
   have t4:(A++e::B).drop (i+1)=B:=by rw[t0];exact aR4 qV
   clear t0
   have hct:=OV.gW A (e::B)
   rw[OV.dM]at hct
   rw[t1,t2]at hc
   rw[t1]
   have hA2:(OV.cells (OV.cM k A)).length=i:=by rw[OV.cells,lM,OV.gD,hA]
   have nA:=OV.vC k A e
   have hs3:=OV.kO A e
   rw[aB.tJ]at he
   obtain⟨zA,rfl,p4⟩:=he
   simp only[OV.lS,OV.nR,OV.aBJ,al0,OV.lT,OV.nS,OV.aQO,qD,nT,qE,kX]at hct nA hs3
   generalize hkk:k+(OV.dM A:Int)=kk at nA ⊢
   generalize OV.cM k A=A2 at nA hc hA2
   have gm:∀ (c:List Cell) (Y:List (List Cell)),(OV.cells A2++c::Y)[i]?=some c:=λc Y=>tT hA2
   have sm:∀ (c c2:List Cell) (Y:List (List Cell)),(OV.cells A2++c::Y).set i c2=OV.cells A2++c2::Y:=λc c2 Y=>aID hA2
   have r8:=hc
   simp only[oW,tE,pR,gU,OV.b7,OV.cV,OV.dV,bP,bT,bX,cS,aS,aY,OV.aR]at r8
   have hgn:=r8.gH (n,_) p6
   simp only at hgn
   have pM:IntKind.i64.wrap (kk+1)=kk+1:=IntWalk.i64_in _ aA
   have xH:IntKind.i64.wrap (kk+1+1)=kk+1+1:=IntWalk.i64_in _ aA
   have a5Z:IntKind.i64.wrap (kk+1+1+1)=kk+1+1+1:=IntWalk.i64_in _ aA
   have a50:IntKind.i64.wrap (kk+1+1+1+1)=kk+1+1+1+1:=IntWalk.i64_in _ aA
   simp -dsimp -implicitDefEqProofs only[go_sem,↓reduceIte,Tryz.f138,hgn,gm,sm,aF,bB,p4.flat,p4.one,pM,xH,a5Z,a50]
   repeat'(with_reducible first|intro _|refine And.intro ?_ ?_)
   all_goals try omega
   have hq0:=r8.trans (mJ.set (o':=.row 5 (OV.cells A2++[.v (.int .i64 (kk)),.v (.int .i64 (kk+1)),.v (.int .i64 (kk+1+1)),.v (.int .i64 (kk+1+1+1)),.v zA.val]::OV.cells B)) r8.gH (r8.nodup nd))
   have hg0:bL g n (.row 5 (OV.cells A2++[.v (.int .i64 (kk)),.v (.int .i64 (kk+1)),.v (.int .i64 (kk+1+1)),.v (.int .i64 (kk+1+1+1)),.v zA.val]::OV.cells B)) n=some (.row 5 (OV.cells A2++[.v (.int .i64 (kk)),.v (.int .i64 (kk+1)),.v (.int .i64 (kk+1+1)),.v (.int .i64 (kk+1+1+1)),.v zA.val]::OV.cells B)):=bB _ _ _
   have hp0:mJ h (bL g n (.row 5 (OV.cells A2++[.v (.int .i64 (kk)),.v (.int .i64 (kk+1)),.v (.int .i64 (kk+1+1)),.v (.int .i64 (kk+1+1+1)),.v zA.val]::OV.cells B))) L0 (((n,.row 5 (OV.cells A2++[.v (.int .i64 (kk)),.v (.int .i64 (kk+1)),.v (.int .i64 (kk+1+1)),.v (.int .i64 (kk+1+1+1)),.v zA.val]::OV.cells B))::(OV.bV A2))++(zA.rows++(OV.bV B))):=by simpa only[oW,tE,pR,gU,OV.b7,OV.cV,OV.dV,bP,bT,bX,cS,aS,aY,OV.aR]using hq0
   refine aH.jP ((hk l[i] (dX hll)) zA (kk+1+1+1+1) _ p4 aA aA hp0.gH.right.left (lJ (hp0.nodup nd))) ?_
   rintro r g0 ⟨rfl,aSE⟩
   have hr0:=hp0.trans (mJ.mid hp0.gH (hp0.nodup nd) aSE)
   have aVS:=hr0.gH (n,_) p6
   simp only at aVS
   have r7:∃ z:Int,z=kk+1+1+1+1+(zA.ct:Int):=⟨_,rfl⟩
   obtain⟨kk0,r7⟩:=r7
   rw[←r7]
   simp -dsimp -implicitDefEqProofs only[go_sem,↓reduceIte,Tryz.f138,aVS,gm,sm,aF,bB,p4.flat,p4.one,pM,xH,a5Z,a50]
   refine⟨(i+1,g0),?_⟩
   simp only[t3,t4,nA,hs3]
   refine⟨?_,Heap.le_refl _,⟨by omega,?_⟩,by omega⟩
   ·repeat'(with_reducible refine And.intro ?_ ?_)
    all_goals first|rfl|trivial|omega|(rw[IntWalk.i64_in _ aA];omega)
   ·simpa only[oW,tE,pR,gU,OV.b7,OV.cV,OV.dV,bP,bT,bX,cS,aS,aY,OV.aR,p4.mk_val,r7]using hr0
  ·have hi2:i=es.length:=by omega
   subst hi2
   rw[eJ,aWV,gU]at hc
   rw[eJ]
   simp -dsimp -implicitDefEqProofs only[go_sem,↓reduceIte,Tryz.f138,eK,cO]
   try intro _
   refine⟨g,Heap.le_refl _,?_⟩
   first|exact hc|exact⟨rfl,hc⟩
theorem aVT (l:List aB):aPS Tryz.prog 138 (OS aB.o 5 l) :=
 aQS l λx hx=>aVT x.aP
termination_by SizeOf.sizeOf l
decreasing_by
 have h1:=bHM hx
 cases x
 simp only[aB.mk.sizeOf_spec,aB.aP]at h1 ⊢
 omega
theorem bAJ (l:List aX):aPS Tryz.prog 84 (OS aX.o 3 l):=by
 intro y k h hy h0 h1 ho nd
 rcases hy with⟨rfl,hl⟩|⟨n,es,rfl,hor⟩
 ·rw[OV.tB,OV.kG,OV.wT,OV.nV]
  refine zY 35 vL cD bS Tryz.func84 ?_
  simp -dsimp -implicitDefEqProofs only[go_sem,↓reduceIte,Tryz.f84]
  refine cY vL cD bS (λ_:Unit=>[(0,.sl 3 [] true),(1,I k),(5,I 0)]) (λ_=>h) (λ_=>True) (λ_=>0) () qA ?_
  intro _ _
  simp -dsimp -implicitDefEqProofs only[go_sem,↓reduceIte,Tryz.f84,gF,eK]
  try intro _
  refine⟨h,Heap.le_refl _,?_⟩
  first|exact mJ.refl zS|exact⟨by simp,mJ.refl zS⟩
 ·rw[OV.aAJ,OV.fF,OV.fF,OV.pO,OV.lC]
  rw[OV.pO]at h1
  rw[OV.fF]at ho nd
  generalize hL0:(n,bQ.row 3 (OV.cells es))::OV.bV es=L0 at nd ⊢
  refine zY 35 vL cD bS Tryz.func84 ?_
  simp -dsimp -implicitDefEqProofs only[go_sem,↓reduceIte,Tryz.f84]
  refine cY vL cD bS (λx:Nat×Heap=>[(0,.os n 3 0 es.length),(1,I (k+OV.dM (es.take x.1))),(5,I x.1)]) (λx=>x.2) (λx=>x.1<=es.length/\mJ h x.2 L0 ((n,.row 3 (OV.cells (OV.cM k (es.take x.1)++es.drop x.1)))::OV.bV (OV.cM k (es.take x.1)++es.drop x.1))) (λx=>es.length-x.1) (0,h) (by
   refine⟨by simp[eE,dJ,OV.dM],Heap.le_refl _,iF _,?_⟩
   rw[←hL0]
   simpa[OV.cM]using mJ.refl ho) ?_
  rintro⟨i,g⟩ ⟨hi,hc⟩
  simp only at hi hc ⊢
  rcases cX i es.length with hlt|hge
  ·have hll:i<l.length:=by rw[hor.length];exact hlt
   obtain⟨A,e,B,rfl,hA,he⟩:=hor.split i hll
   have t1:(A++e::B).take i=A:=by rw[←hA];simp
   have t2:(A++e::B).drop i=e::B:=by rw[←hA];simp
   have t0:A++e::B=(A++[e])++B:=by simp
   have t3:(A++e::B).take (i+1)=A++[e]:=by rw[t0];exact aAF qV
   have t4:(A++e::B).drop (i+1)=B:=by rw[t0];exact aR4 qV
   clear t0
   have hct:=OV.gW A (e::B)
   rw[OV.dM]at hct
   rw[t1,t2]at hc
   rw[t1]
   have hA2:(OV.cells (OV.cM k A)).length=i:=by rw[OV.cells,lM,OV.gD,hA]
   have nA:=OV.vC k A e
   have hs3:=OV.kO A e
   obtain⟨y_2,rfl,o_2⟩:=he
   simp only[OV.lS,OV.nR,OV.aBJ,al0,OV.lT,OV.nS,OV.aQO,qD,nT,qE,kX]at hct nA hs3
   generalize hkk:k+(OV.dM A:Int)=kk at nA ⊢
   generalize OV.cM k A=A2 at nA hc hA2
   have gm:∀ (c:List Cell) (Y:List (List Cell)),(OV.cells A2++c::Y)[i]?=some c:=λc Y=>tT hA2
   have sm:∀ (c c2:List Cell) (Y:List (List Cell)),(OV.cells A2++c::Y).set i c2=OV.cells A2++c2::Y:=λc c2 Y=>aID hA2
   have r8:=hc
   simp only[oW,tE,pR,gU,OV.b7,OV.cV,OV.dV,bP,bT,bX,cS,aS,aY,OV.aR]at r8
   have hgn:=r8.gH (n,_) p6
   simp only at hgn
   have pM:IntKind.i64.wrap (kk+1)=kk+1:=IntWalk.i64_in _ aA
   have xH:IntKind.i64.wrap (kk+1+1)=kk+1+1:=IntWalk.i64_in _ aA
   simp -dsimp -implicitDefEqProofs only[go_sem,↓reduceIte,Tryz.f84,hgn,gm,sm,aF,bB,o_2.flat,o_2.one,pM,xH]
   repeat'(with_reducible first|intro _|refine And.intro ?_ ?_)
   all_goals try omega
   refine aH.mk (aVR (kk) aA) ?_
   simp -dsimp -implicitDefEqProofs only[go_sem,↓reduceIte,Tryz.f84,hgn,gm,sm,aF,bB,o_2.flat,o_2.one,pM,xH]
   repeat'(with_reducible first|intro _|refine And.intro ?_ ?_)
   all_goals try omega
   have hq0:=r8.trans (mJ.set (o':=.row 3 (OV.cells A2++[.v (.str (aI8 (kk))),.v (.int .i64 (kk+1)),.v y_2.val]::OV.cells B)) r8.gH (r8.nodup nd))
   have hg0:bL g n (.row 3 (OV.cells A2++[.v (.str (aI8 (kk))),.v (.int .i64 (kk+1)),.v y_2.val]::OV.cells B)) n=some (.row 3 (OV.cells A2++[.v (.str (aI8 (kk))),.v (.int .i64 (kk+1)),.v y_2.val]::OV.cells B)):=bB _ _ _
   have hp0:mJ h (bL g n (.row 3 (OV.cells A2++[.v (.str (aI8 (kk))),.v (.int .i64 (kk+1)),.v y_2.val]::OV.cells B))) L0 (((n,.row 3 (OV.cells A2++[.v (.str (aI8 (kk))),.v (.int .i64 (kk+1)),.v y_2.val]::OV.cells B))::(OV.bV A2))++(y_2.rows++(OV.bV B))):=by simpa only[oW,tE,pR,gU,OV.b7,OV.cV,OV.dV,bP,bT,bX,cS,aS,aY,OV.aR]using hq0
   refine aH.jP ((aVT l[i].bG) y_2 (kk+1+1) _ o_2 aA aA hp0.gH.right.left (lJ (hp0.nodup nd))) ?_
   rintro r g0 ⟨rfl,aSE⟩
   have hr0:=hp0.trans (mJ.mid hp0.gH (hp0.nodup nd) aSE)
   have aVS:=hr0.gH (n,_) p6
   simp only at aVS
   have r7:∃ z:Int,z=kk+1+1+(y_2.ct:Int):=⟨_,rfl⟩
   obtain⟨kk0,r7⟩:=r7
   rw[←r7]
   simp -dsimp -implicitDefEqProofs only[go_sem,↓reduceIte,Tryz.f84,aVS,gm,sm,aF,bB,o_2.flat,o_2.one,pM,xH]
   refine⟨(i+1,g0),?_⟩
   simp only[t3,t4,nA,hs3]
   refine⟨?_,Heap.le_refl _,⟨by omega,?_⟩,by omega⟩
   ·repeat'(with_reducible refine And.intro ?_ ?_)
    all_goals first|rfl|trivial|omega|(rw[IntWalk.i64_in _ aA];omega)
   ·simpa only[oW,tE,pR,gU,OV.b7,OV.cV,OV.dV,bP,bT,bX,cS,aS,aY,OV.aR,o_2.mk_val,r7]using hr0
  ·have hi2:i=es.length:=by omega
   subst hi2
   rw[eJ,aWV,gU]at hc
   rw[eJ]
   simp -dsimp -implicitDefEqProofs only[go_sem,↓reduceIte,Tryz.f84,eK,cO]
   try intro _
   refine⟨g,Heap.le_refl _,?_⟩
   first|exact hc|exact⟨rfl,hc⟩
theorem a1H (x:aL):bI0 Tryz.prog 34 x.o:=by
 intro e k h he h0 h1 ho nd
 obtain⟨s4,rfl,nC⟩:=he
 simp only[OV.lN,OV.nP,OV.aFZ,OV.lO,OV.nQ,OV.aF0,al0,al1,gF,al2,al3,nC.vK,nC.xI]at h1 ⊢
 have r8:=mJ.refl ho
 simp only[oW,tE,pR,gU,OV.b7,OV.cV,OV.dV,bP,bT,bX,cS,aS,aY,OV.aR]at r8 nd ⊢
 obtain⟨L0,hL0⟩:∃ L:List (Nat×bQ),L=(s4.rows):=⟨_,rfl⟩
 replace r8:mJ h h L0 (s4.rows):=by rw[hL0];exact r8
 rw[←hL0]at nd ⊢
 refine zY 10 a39 aAO bS Tryz.func34 ?_
 simp -dsimp -implicitDefEqProofs only[go_sem,↓reduceIte,Tryz.f34,OV.aM,OV.aD,OV.aR,nC.flat,nC.one]
 have hp0:mJ h h L0 ((([]:List (Nat×bQ)))++((s4.rows)++(([]:List (Nat×bQ))))):=by simpa only[oW,tE,pR,gU,OV.b7,OV.cV,OV.dV,bP,bT,bX,cS,aS,aY,OV.aR]using r8
 refine aH.jP (bAJ x.aJ s4 (k) _ nC aA aA hp0.gH.right.left (lJ (hp0.nodup nd))) ?_
 rintro r g0 ⟨rfl,aSE⟩
 have hr0:=hp0.trans (mJ.mid hp0.gH (hp0.nodup nd) bHP)
 simp -dsimp -implicitDefEqProofs only[go_sem,↓reduceIte,Tryz.f34,OV.aM,OV.aD,OV.aR,nC.flat,nC.one]
 refine⟨g0,Heap.le_refl _,?_⟩
 first
  |exact⟨by congr 1;omega,by simpa only[oW,tE,pR,gU,OV.b7,OV.cV,OV.dV,bP,bT,bX,cS,aS,aY,OV.aR,aDL,←aDM]using hr0⟩
  |exact⟨by omega,by simpa only[oW,tE,pR,gU,OV.b7,OV.cV,OV.dV,bP,bT,bX,cS,aS,aY,OV.aR,aDL,←aDM]using hr0⟩
  |simpa only[oW,tE,pR,gU,OV.b7,OV.cV,OV.dV,bP,bT,bX,cS,aS,aY,OV.aR,aDL,←aDM]using hr0
theorem zP (l:List Int):aPS Tryz.prog 35 (OS (oP I) 1 l):=by
 intro y k h hy h0 h1 ho nd
 rcases hy with⟨rfl,hl⟩|⟨n,es,rfl,hor⟩
 ·rw[OV.tB,OV.kG,OV.wT,OV.nV]
  refine zY 19 vL cD bS Tryz.func35 ?_
  simp -dsimp -implicitDefEqProofs only[go_sem,↓reduceIte,Tryz.f35]
  refine cY vL cD bS (λ_:Unit=>[(0,.sl 1 [] true),(1,I k),(5,I 0)]) (λ_=>h) (λ_=>True) (λ_=>0) () qA ?_
  intro _ _
  simp -dsimp -implicitDefEqProofs only[go_sem,↓reduceIte,Tryz.f35,gF,eK]
  try intro _
  refine⟨h,Heap.le_refl _,?_⟩
  first|exact mJ.refl zS|exact⟨by simp,mJ.refl zS⟩
 ·rw[OV.aAJ,OV.fF,OV.fF,OV.pO,OV.lC]
  rw[OV.pO]at h1
  rw[OV.fF]at ho nd
  generalize hL0:(n,bQ.row 1 (OV.cells es))::OV.bV es=L0 at nd ⊢
  refine zY 19 vL cD bS Tryz.func35 ?_
  simp -dsimp -implicitDefEqProofs only[go_sem,↓reduceIte,Tryz.f35]
  refine cY vL cD bS (λx:Nat×Heap=>[(0,.os n 1 0 es.length),(1,I (k+OV.dM (es.take x.1))),(5,I x.1)]) (λx=>x.2) (λx=>x.1<=es.length/\mJ h x.2 L0 ((n,.row 1 (OV.cells (OV.cM k (es.take x.1)++es.drop x.1)))::OV.bV (OV.cM k (es.take x.1)++es.drop x.1))) (λx=>es.length-x.1) (0,h) (by
   refine⟨by simp[eE,dJ,OV.dM],Heap.le_refl _,iF _,?_⟩
   rw[←hL0]
   simpa[OV.cM]using mJ.refl ho) ?_
  rintro⟨i,g⟩ ⟨hi,hc⟩
  simp only at hi hc ⊢
  rcases cX i es.length with hlt|hge
  ·have hll:i<l.length:=by rw[hor.length];exact hlt
   obtain⟨A,e,B,rfl,hA,he⟩:=hor.split i hll
   have t1:(A++e::B).take i=A:=by rw[←hA];simp
   have t2:(A++e::B).drop i=e::B:=by rw[←hA];simp
   have t0:A++e::B=(A++[e])++B:=by simp
   have t3:(A++e::B).take (i+1)=A++[e]:=by rw[t0];exact aAF qV
   have t4:(A++e::B).drop (i+1)=B:=by rw[t0];exact aR4 qV
   clear t0
   have hct:=OV.gW A (e::B)
   rw[OV.dM]at hct
   rw[t1,t2]at hc
   rw[t1]
   have hA2:(OV.cells (OV.cM k A)).length=i:=by rw[OV.cells,lM,OV.gD,hA]
   have nA:=OV.vC k A e
   have hs3:=OV.kO A e
   obtain rfl:_=_:=he
   simp only[OV.lS,OV.nR,OV.aBJ,al0,OV.lT,OV.nS,OV.aQO,qD,nT,qE,kX]at hct nA hs3
   generalize hkk:k+(OV.dM A:Int)=kk at nA ⊢
   generalize OV.cM k A=A2 at nA hc hA2
   have gm:∀ (c:List Cell) (Y:List (List Cell)),(OV.cells A2++c::Y)[i]?=some c:=λc Y=>tT hA2
   have sm:∀ (c c2:List Cell) (Y:List (List Cell)),(OV.cells A2++c::Y).set i c2=OV.cells A2++c2::Y:=λc c2 Y=>aID hA2
   have r8:=hc
   simp only[oW,tE,pR,gU,OV.b7,OV.cV,OV.dV,bP,bT,bX,cS,aS,aY,OV.aR]at r8
   have hgn:=r8.gH (n,_) p6
   simp only at hgn
   have pM:IntKind.i64.wrap (kk+1)=kk+1:=IntWalk.i64_in _ aA
   simp -dsimp -implicitDefEqProofs only[go_sem,↓reduceIte,Tryz.f35,hgn,gm,sm,aF,bB,pM]
   repeat'(with_reducible first|intro _|refine And.intro ?_ ?_)
   all_goals try omega
   have hq0:=r8.trans (mJ.set (o':=.row 1 (OV.cells A2++[.v (.int .i64 (kk))]::OV.cells B)) r8.gH (r8.nodup nd))
   have hg0:bL g n (.row 1 (OV.cells A2++[.v (.int .i64 (kk))]::OV.cells B)) n=some (.row 1 (OV.cells A2++[.v (.int .i64 (kk))]::OV.cells B)):=bB _ _ _
   refine⟨(i+1,(bL g n (.row 1 (OV.cells A2++[.v (.int .i64 (kk))]::OV.cells B)))),?_⟩
   simp only[t3,t4,nA,hs3]
   refine⟨?_,Heap.le_refl _,⟨by omega,?_⟩,by omega⟩
   ·repeat'(with_reducible refine And.intro ?_ ?_)
    all_goals first|rfl|trivial|omega|(rw[IntWalk.i64_in _ aA];omega)
   ·simpa only[oW,tE,pR,gU,OV.b7,OV.cV,OV.dV,bP,bT,bX,cS,aS,aY,OV.aR]using hq0
  ·have hi2:i=es.length:=by omega
   subst hi2
   rw[eJ,aWV,gU]at hc
   rw[eJ]
   simp -dsimp -implicitDefEqProofs only[go_sem,↓reduceIte,Tryz.f35,eK,cO]
   try intro _
   refine⟨g,Heap.le_refl _,?_⟩
   first|exact hc|exact⟨rfl,hc⟩
theorem a1I (l:List (List Int)):aPS Tryz.prog 36 (OS (oS (oP I) 1) 1 l):=by
 intro y k h hy h0 h1 ho nd
 rcases hy with⟨rfl,hl⟩|⟨n,es,rfl,hor⟩
 ·rw[OV.tB,OV.kG,OV.wT,OV.nV]
  refine zY 19 vL cD bS Tryz.func36 ?_
  simp -dsimp -implicitDefEqProofs only[go_sem,↓reduceIte,Tryz.f36]
  refine cY vL cD bS (λ_:Unit=>[(0,.sl 1 [] true),(1,I k),(5,I 0)]) (λ_=>h) (λ_=>True) (λ_=>0) () qA ?_
  intro _ _
  simp -dsimp -implicitDefEqProofs only[go_sem,↓reduceIte,Tryz.f36,gF,eK]
  try intro _
  refine⟨h,Heap.le_refl _,?_⟩
  first|exact mJ.refl zS|exact⟨by simp,mJ.refl zS⟩
 ·rw[OV.aAJ,OV.fF,OV.fF,OV.pO,OV.lC]
  rw[OV.pO]at h1
  rw[OV.fF]at ho nd
  generalize hL0:(n,bQ.row 1 (OV.cells es))::OV.bV es=L0 at nd ⊢
  refine zY 19 vL cD bS Tryz.func36 ?_
  simp -dsimp -implicitDefEqProofs only[go_sem,↓reduceIte,Tryz.f36]
  refine cY vL cD bS (λx:Nat×Heap=>[(0,.os n 1 0 es.length),(1,I (k+OV.dM (es.take x.1))),(5,I x.1)]) (λx=>x.2) (λx=>x.1<=es.length/\mJ h x.2 L0 ((n,.row 1 (OV.cells (OV.cM k (es.take x.1)++es.drop x.1)))::OV.bV (OV.cM k (es.take x.1)++es.drop x.1))) (λx=>es.length-x.1) (0,h) (by
   refine⟨by simp[eE,dJ,OV.dM],Heap.le_refl _,iF _,?_⟩
   rw[←hL0]
   simpa[OV.cM]using mJ.refl ho) ?_
  rintro⟨i,g⟩ ⟨hi,hc⟩
  simp only at hi hc ⊢
  rcases cX i es.length with hlt|hge
  ·have hll:i<l.length:=by rw[hor.length];exact hlt
   obtain⟨A,e,B,rfl,hA,he⟩:=hor.split i hll
   have t1:(A++e::B).take i=A:=by rw[←hA];simp
   have t2:(A++e::B).drop i=e::B:=by rw[←hA];simp
   have t0:A++e::B=(A++[e])++B:=by simp
   have t3:(A++e::B).take (i+1)=A++[e]:=by rw[t0];exact aAF qV
   have t4:(A++e::B).drop (i+1)=B:=by rw[t0];exact aR4 qV
   clear t0
   have hct:=OV.gW A (e::B)
   rw[OV.dM]at hct
   rw[t1,t2]at hc
   rw[t1]
   have hA2:(OV.cells (OV.cM k A)).length=i:=by rw[OV.cells,lM,OV.gD,hA]
   have nA:=OV.vC k A e
   have hs3:=OV.kO A e
   obtain⟨s4,rfl,nC⟩:=he
   simp only[OV.lS,OV.nR,OV.aBJ,al0,OV.lT,OV.nS,OV.aQO,qD,nT,qE,kX]at hct nA hs3
   generalize hkk:k+(OV.dM A:Int)=kk at nA ⊢
   generalize OV.cM k A=A2 at nA hc hA2
   have gm:∀ (c:List Cell) (Y:List (List Cell)),(OV.cells A2++c::Y)[i]?=some c:=λc Y=>tT hA2
   have sm:∀ (c c2:List Cell) (Y:List (List Cell)),(OV.cells A2++c::Y).set i c2=OV.cells A2++c2::Y:=λc c2 Y=>aID hA2
   have r8:=hc
   simp only[oW,tE,pR,gU,OV.b7,OV.cV,OV.dV,bP,bT,bX,cS,aS,aY,OV.aR]at r8
   have hgn:=r8.gH (n,_) p6
   simp only at hgn
   simp -dsimp -implicitDefEqProofs only[go_sem,↓reduceIte,Tryz.f36,hgn,gm,sm,aF,bB,nC.flat,nC.one]
   repeat'(with_reducible first|intro _|refine And.intro ?_ ?_)
   all_goals try omega
   have hp0:mJ h g L0 (((n,.row 1 (OV.cells A2++[.v s4.val]::OV.cells B))::(OV.bV A2))++(s4.rows++(OV.bV B))):=by simpa only[oW,tE,pR,gU,OV.b7,OV.cV,OV.dV,bP,bT,bX,cS,aS,aY,OV.aR]using r8
   refine aH.jP ((zP l[i]) s4 (kk) _ nC aA aA hp0.gH.right.left (lJ (hp0.nodup nd))) ?_
   rintro r g0 ⟨rfl,aSE⟩
   have hr0:=hp0.trans (mJ.mid hp0.gH (hp0.nodup nd) aSE)
   have aVS:=hr0.gH (n,_) p6
   simp only at aVS
   have r7:∃ z:Int,z=kk+(s4.ct:Int):=⟨_,rfl⟩
   obtain⟨kk0,r7⟩:=r7
   rw[←r7]
   simp -dsimp -implicitDefEqProofs only[go_sem,↓reduceIte,Tryz.f36,aVS,gm,sm,aF,bB,nC.flat,nC.one]
   refine⟨(i+1,g0),?_⟩
   simp only[t3,t4,nA,hs3]
   refine⟨?_,Heap.le_refl _,⟨by omega,?_⟩,by omega⟩
   ·repeat'(with_reducible refine And.intro ?_ ?_)
    all_goals first|rfl|trivial|omega|(rw[IntWalk.i64_in _ aA];omega)
   ·simpa only[oW,tE,pR,gU,OV.b7,OV.cV,OV.dV,bP,bT,bX,cS,aS,aY,OV.aR,nC.mk_val,r7]using hr0
  ·have hi2:i=es.length:=by omega
   subst hi2
   rw[eJ,aWV,gU]at hc
   rw[eJ]
   simp -dsimp -implicitDefEqProofs only[go_sem,↓reduceIte,Tryz.f36,eK,cO]
   try intro _
   refine⟨g,Heap.le_refl _,?_⟩
   first|exact hc|exact⟨rfl,hc⟩
theorem a52 (x:dF):bI0 Tryz.prog 11 x.o:=by
 intro e k h he h0 h1 ho nd
 obtain⟨s4,y_3,zA,rfl,nC,s8,p4⟩:=he
 simp only[OV.lN,OV.nP,OV.aFZ,OV.lO,OV.nQ,OV.aF0,al0,al1,gF,al2,al3,nC.vK,nC.xI,s8.vK,s8.xI,p4.vK,p4.xI]at h1 ⊢
 have r8:=mJ.refl ho
 simp only[oW,tE,pR,gU,OV.b7,OV.cV,OV.dV,bP,bT,bX,cS,aS,aY,OV.aR]at r8 nd ⊢
 obtain⟨L0,hL0⟩:∃ L:List (Nat×bQ),L=(s4.rows++(y_3.rows++(zA.rows))):=⟨_,rfl⟩
 replace r8:mJ h h L0 (s4.rows++(y_3.rows++(zA.rows))):=by rw[hL0];exact r8
 rw[←hL0]at nd ⊢
 refine zY 18 a39 aAO bS Tryz.func11 ?_
 simp -dsimp -implicitDefEqProofs only[go_sem,↓reduceIte,Tryz.f11,OV.aM,OV.aD,OV.aR,nC.flat,nC.one,s8.flat,s8.one,p4.flat,p4.one]
 have hp0:mJ h h L0 ((([]:List (Nat×bQ)))++((s4.rows)++(y_3.rows++zA.rows))):=by simpa only[oW,tE,pR,gU,OV.b7,OV.cV,OV.dV,bP,bT,bX,cS,aS,aY,OV.aR]using r8
 have hs0:=a1H x.bR [s4] (k) h ⟨s4,rfl,nC⟩ aA bQ7 bQ3 bZ4
 simp only[OV.lN,OV.nP,OV.aFZ,OV.lO,OV.nQ,OV.aF0,al0,al1,gF,al2,al3,nC.vK,nC.xI,s8.vK,s8.xI,p4.vK,p4.xI,oW,tE,pR,gU,OV.b7,OV.cV,OV.dV,bP,bT,bX,cS,aS,aY,OV.aR,OV.aM,OV.aD,aDL,←aDM]at hs0
 refine aH.jP hs0 ?_
 rintro r g0 ⟨rfl,aSE⟩
 have hr0:=hp0.trans (mJ.mid hp0.gH (hp0.nodup nd) bHP)
 simp -dsimp -implicitDefEqProofs only[go_sem,↓reduceIte,Tryz.f11,OV.aM,OV.aD,OV.aR,nC.flat,nC.one,s8.flat,s8.one,p4.flat,p4.one]
 have hp1:mJ h g0 L0 (((s4.mk (k)).rows)++((y_3.rows)++(zA.rows))):=by simpa only[oW,tE,pR,gU,OV.b7,OV.cV,OV.dV,bP,bT,bX,cS,aS,aY,OV.aR]using hr0
 refine aH.jP (zP x.c7 y_3 (k+(s4.ct:Int)) _ s8 aA aA hp1.gH.right.left (lJ (hp1.nodup nd))) ?_
 rintro r g1 ⟨rfl,bZ6⟩
 have hr1:=hp1.trans (mJ.mid hp1.gH (hp1.nodup nd) bQ6)
 simp -dsimp -implicitDefEqProofs only[go_sem,↓reduceIte,Tryz.f11,OV.aM,OV.aD,OV.aR,nC.flat,nC.one,s8.flat,s8.one,p4.flat,p4.one]
 have hp2:mJ h g1 L0 (((s4.mk (k)).rows++(y_3.mk (k+(s4.ct:Int))).rows)++((zA.rows)++(([]:List (Nat×bQ))))):=by simpa only[oW,tE,pR,gU,OV.b7,OV.cV,OV.dV,bP,bT,bX,cS,aS,aY,OV.aR]using hr1
 refine aH.jP (a1I x.aV zA (k+(s4.ct:Int)+(y_3.ct:Int)) _ p4 aA aA hp2.gH.right.left (lJ (hp2.nodup nd))) ?_
 rintro r g2 ⟨rfl,bZ5⟩
 have hr2:=hp2.trans (mJ.mid hp2.gH (hp2.nodup nd) bQ5)
 simp -dsimp -implicitDefEqProofs only[go_sem,↓reduceIte,Tryz.f11,OV.aM,OV.aD,OV.aR,nC.flat,nC.one,s8.flat,s8.one,p4.flat,p4.one]
 refine⟨g2,Heap.le_refl _,?_⟩
 first
  |exact⟨by congr 1;omega,by simpa only[oW,tE,pR,gU,OV.b7,OV.cV,OV.dV,bP,bT,bX,cS,aS,aY,OV.aR,aDL,←aDM]using hr2⟩
  |exact⟨by omega,by simpa only[oW,tE,pR,gU,OV.b7,OV.cV,OV.dV,bP,bT,bX,cS,aS,aY,OV.aR,aDL,←aDM]using hr2⟩
  |simpa only[oW,tE,pR,gU,OV.b7,OV.cV,OV.dV,bP,bT,bX,cS,aS,aY,OV.aR,aDL,←aDM]using hr2
theorem bAK (l:List Bool):aPS Tryz.prog 37 (OS (oP aC.bool) 1 l):=by
 intro y k h hy h0 h1 ho nd
 rcases hy with⟨rfl,hl⟩|⟨n,es,rfl,hor⟩
 ·rw[OV.tB,OV.kG,OV.wT,OV.nV]
  refine zY 21 vL cD bS Tryz.func37 ?_
  simp -dsimp -implicitDefEqProofs only[go_sem,↓reduceIte,Tryz.f37]
  refine cY vL cD bS (λ_:Unit=>[(0,.sl 1 [] true),(1,I k),(5,I 0)]) (λ_=>h) (λ_=>True) (λ_=>0) () qA ?_
  intro _ _
  simp -dsimp -implicitDefEqProofs only[go_sem,↓reduceIte,Tryz.f37,gF,eK]
  try intro _
  refine⟨h,Heap.le_refl _,?_⟩
  first|exact mJ.refl zS|exact⟨by simp,mJ.refl zS⟩
 ·rw[OV.aAJ,OV.fF,OV.fF,OV.pO,OV.lC]
  rw[OV.pO]at h1
  rw[OV.fF]at ho nd
  generalize hL0:(n,bQ.row 1 (OV.cells es))::OV.bV es=L0 at nd ⊢
  refine zY 21 vL cD bS Tryz.func37 ?_
  simp -dsimp -implicitDefEqProofs only[go_sem,↓reduceIte,Tryz.f37]
  refine cY vL cD bS (λx:Nat×Heap=>[(0,.os n 1 0 es.length),(1,I (k+OV.dM (es.take x.1))),(5,I x.1)]) (λx=>x.2) (λx=>x.1<=es.length/\mJ h x.2 L0 ((n,.row 1 (OV.cells (OV.cM k (es.take x.1)++es.drop x.1)))::OV.bV (OV.cM k (es.take x.1)++es.drop x.1))) (λx=>es.length-x.1) (0,h) (by
   refine⟨by simp[eE,dJ,OV.dM],Heap.le_refl _,iF _,?_⟩
   rw[←hL0]
   simpa[OV.cM]using mJ.refl ho) ?_
  rintro⟨i,g⟩ ⟨hi,hc⟩
  simp only at hi hc ⊢
  rcases cX i es.length with hlt|hge
  ·have hll:i<l.length:=by rw[hor.length];exact hlt
   obtain⟨A,e,B,rfl,hA,he⟩:=hor.split i hll
   have t1:(A++e::B).take i=A:=by rw[←hA];simp
   have t2:(A++e::B).drop i=e::B:=by rw[←hA];simp
   have t0:A++e::B=(A++[e])++B:=by simp
   have t3:(A++e::B).take (i+1)=A++[e]:=by rw[t0];exact aAF qV
   have t4:(A++e::B).drop (i+1)=B:=by rw[t0];exact aR4 qV
   clear t0
   have hct:=OV.gW A (e::B)
   rw[OV.dM]at hct
   rw[t1,t2]at hc
   rw[t1]
   have hA2:(OV.cells (OV.cM k A)).length=i:=by rw[OV.cells,lM,OV.gD,hA]
   have nA:=OV.vC k A e
   have hs3:=OV.kO A e
   obtain rfl:_=_:=he
   simp only[OV.lS,OV.nR,OV.aBJ,al0,OV.lT,OV.nS,OV.aQO,qD,nT,qE,kX]at hct nA hs3
   generalize hkk:k+(OV.dM A:Int)=kk at nA ⊢
   generalize OV.cM k A=A2 at nA hc hA2
   have gm:∀ (c:List Cell) (Y:List (List Cell)),(OV.cells A2++c::Y)[i]?=some c:=λc Y=>tT hA2
   have sm:∀ (c c2:List Cell) (Y:List (List Cell)),(OV.cells A2++c::Y).set i c2=OV.cells A2++c2::Y:=λc c2 Y=>aID hA2
   have r8:=hc
   simp only[oW,tE,pR,gU,OV.b7,OV.cV,OV.dV,bP,bT,bX,cS,aS,aY,OV.aR]at r8
   have hgn:=r8.gH (n,_) p6
   simp only at hgn
   have pM:IntKind.i64.wrap (kk+1)=kk+1:=IntWalk.i64_in _ aA
   simp -dsimp -implicitDefEqProofs only[go_sem,↓reduceIte,Tryz.f37,hgn,gm,sm,aF,bB,pM]
   repeat'(with_reducible first|intro _|refine And.intro ?_ ?_)
   all_goals try omega
   have hq0:=r8.trans (mJ.set (o':=.row 1 (OV.cells A2++[.v (.bool (decide ((kk).tmod 3=0)))]::OV.cells B)) r8.gH (r8.nodup nd))
   have hg0:bL g n (.row 1 (OV.cells A2++[.v (.bool (decide ((kk).tmod 3=0)))]::OV.cells B)) n=some (.row 1 (OV.cells A2++[.v (.bool (decide ((kk).tmod 3=0)))]::OV.cells B)):=bB _ _ _
   refine⟨(i+1,(bL g n (.row 1 (OV.cells A2++[.v (.bool (decide ((kk).tmod 3=0)))]::OV.cells B)))),?_⟩
   simp only[t3,t4,nA,hs3]
   refine⟨?_,Heap.le_refl _,⟨by omega,?_⟩,by omega⟩
   ·repeat'(with_reducible refine And.intro ?_ ?_)
    all_goals first|rfl|trivial|omega|(rw[IntWalk.i64_in _ aA];omega)
   ·simpa only[oW,tE,pR,gU,OV.b7,OV.cV,OV.dV,bP,bT,bX,cS,aS,aY,OV.aR]using hq0
  ·have hi2:i=es.length:=by omega
   subst hi2
   rw[eJ,aWV,gU]at hc
   rw[eJ]
   simp -dsimp -implicitDefEqProofs only[go_sem,↓reduceIte,Tryz.f37,eK,cO]
   try intro _
   refine⟨g,Heap.le_refl _,?_⟩
   first|exact hc|exact⟨rfl,hc⟩
theorem bAL (l:List cR):aPS Tryz.prog 38 (OS cR.o 3 l):=by
 intro y k h hy h0 h1 ho nd
 rcases hy with⟨rfl,hl⟩|⟨n,es,rfl,hor⟩
 ·rw[OV.tB,OV.kG,OV.wT,OV.nV]
  refine zY 34 vL cD bS Tryz.func38 ?_
  simp -dsimp -implicitDefEqProofs only[go_sem,↓reduceIte,Tryz.f38]
  refine cY vL cD bS (λ_:Unit=>[(0,.sl 3 [] true),(1,I k),(5,I 0)]) (λ_=>h) (λ_=>True) (λ_=>0) () qA ?_
  intro _ _
  simp -dsimp -implicitDefEqProofs only[go_sem,↓reduceIte,Tryz.f38,gF,eK]
  try intro _
  refine⟨h,Heap.le_refl _,?_⟩
  first|exact mJ.refl zS|exact⟨by simp,mJ.refl zS⟩
 ·rw[OV.aAJ,OV.fF,OV.fF,OV.pO,OV.lC]
  rw[OV.pO]at h1
  rw[OV.fF]at ho nd
  generalize hL0:(n,bQ.row 3 (OV.cells es))::OV.bV es=L0 at nd ⊢
  refine zY 34 vL cD bS Tryz.func38 ?_
  simp -dsimp -implicitDefEqProofs only[go_sem,↓reduceIte,Tryz.f38]
  refine cY vL cD bS (λx:Nat×Heap=>[(0,.os n 3 0 es.length),(1,I (k+OV.dM (es.take x.1))),(5,I x.1)]) (λx=>x.2) (λx=>x.1<=es.length/\mJ h x.2 L0 ((n,.row 3 (OV.cells (OV.cM k (es.take x.1)++es.drop x.1)))::OV.bV (OV.cM k (es.take x.1)++es.drop x.1))) (λx=>es.length-x.1) (0,h) (by
   refine⟨by simp[eE,dJ,OV.dM],Heap.le_refl _,iF _,?_⟩
   rw[←hL0]
   simpa[OV.cM]using mJ.refl ho) ?_
  rintro⟨i,g⟩ ⟨hi,hc⟩
  simp only at hi hc ⊢
  rcases cX i es.length with hlt|hge
  ·have hll:i<l.length:=by rw[hor.length];exact hlt
   obtain⟨A,e,B,rfl,hA,he⟩:=hor.split i hll
   have t1:(A++e::B).take i=A:=by rw[←hA];simp
   have t2:(A++e::B).drop i=e::B:=by rw[←hA];simp
   have t0:A++e::B=(A++[e])++B:=by simp
   have t3:(A++e::B).take (i+1)=A++[e]:=by rw[t0];exact aAF qV
   have t4:(A++e::B).drop (i+1)=B:=by rw[t0];exact aR4 qV
   clear t0
   have hct:=OV.gW A (e::B)
   rw[OV.dM]at hct
   rw[t1,t2]at hc
   rw[t1]
   have hA2:(OV.cells (OV.cM k A)).length=i:=by rw[OV.cells,lM,OV.gD,hA]
   have nA:=OV.vC k A e
   have hs3:=OV.kO A e
   obtain⟨y_2,rfl,o_2⟩:=he
   simp only[OV.lS,OV.nR,OV.aBJ,al0,OV.lT,OV.nS,OV.aQO,qD,nT,qE,kX]at hct nA hs3
   generalize hkk:k+(OV.dM A:Int)=kk at nA ⊢
   generalize OV.cM k A=A2 at nA hc hA2
   have gm:∀ (c:List Cell) (Y:List (List Cell)),(OV.cells A2++c::Y)[i]?=some c:=λc Y=>tT hA2
   have sm:∀ (c c2:List Cell) (Y:List (List Cell)),(OV.cells A2++c::Y).set i c2=OV.cells A2++c2::Y:=λc c2 Y=>aID hA2
   have r8:=hc
   simp only[oW,tE,pR,gU,OV.b7,OV.cV,OV.dV,bP,bT,bX,cS,aS,aY,OV.aR]at r8
   have hgn:=r8.gH (n,_) p6
   simp only at hgn
   have pM:IntKind.i64.wrap (kk+1)=kk+1:=IntWalk.i64_in _ aA
   have xH:IntKind.i64.wrap (kk+1+1)=kk+1+1:=IntWalk.i64_in _ aA
   simp -dsimp -implicitDefEqProofs only[go_sem,↓reduceIte,Tryz.f38,hgn,gm,sm,aF,bB,o_2.flat,o_2.one,pM,xH]
   repeat'(with_reducible first|intro _|refine And.intro ?_ ?_)
   all_goals try omega
   have hq0:=r8.trans (mJ.set (o':=.row 3 (OV.cells A2++[.v (.int .i64 (kk)),.v (.int .i64 (kk+1)),.v y_2.val]::OV.cells B)) r8.gH (r8.nodup nd))
   have hg0:bL g n (.row 3 (OV.cells A2++[.v (.int .i64 (kk)),.v (.int .i64 (kk+1)),.v y_2.val]::OV.cells B)) n=some (.row 3 (OV.cells A2++[.v (.int .i64 (kk)),.v (.int .i64 (kk+1)),.v y_2.val]::OV.cells B)):=bB _ _ _
   have hp0:mJ h (bL g n (.row 3 (OV.cells A2++[.v (.int .i64 (kk)),.v (.int .i64 (kk+1)),.v y_2.val]::OV.cells B))) L0 (((n,.row 3 (OV.cells A2++[.v (.int .i64 (kk)),.v (.int .i64 (kk+1)),.v y_2.val]::OV.cells B))::(OV.bV A2))++(y_2.rows++(OV.bV B))):=by simpa only[oW,tE,pR,gU,OV.b7,OV.cV,OV.dV,bP,bT,bX,cS,aS,aY,OV.aR]using hq0
   refine aH.jP ((zP l[i].kQ) y_2 (kk+1+1) _ o_2 aA aA hp0.gH.right.left (lJ (hp0.nodup nd))) ?_
   rintro r g0 ⟨rfl,aSE⟩
   have hr0:=hp0.trans (mJ.mid hp0.gH (hp0.nodup nd) aSE)
   have aVS:=hr0.gH (n,_) p6
   simp only at aVS
   have r7:∃ z:Int,z=kk+1+1+(y_2.ct:Int):=⟨_,rfl⟩
   obtain⟨kk0,r7⟩:=r7
   rw[←r7]
   simp -dsimp -implicitDefEqProofs only[go_sem,↓reduceIte,Tryz.f38,aVS,gm,sm,aF,bB,o_2.flat,o_2.one,pM,xH]
   refine⟨(i+1,g0),?_⟩
   simp only[t3,t4,nA,hs3]
   refine⟨?_,Heap.le_refl _,⟨by omega,?_⟩,by omega⟩
   ·repeat'(with_reducible refine And.intro ?_ ?_)
    all_goals first|rfl|trivial|omega|(rw[IntWalk.i64_in _ aA];omega)
   ·simpa only[oW,tE,pR,gU,OV.b7,OV.cV,OV.dV,bP,bT,bX,cS,aS,aY,OV.aR,o_2.mk_val,r7]using hr0
  ·have hi2:i=es.length:=by omega
   subst hi2
   rw[eJ,aWV,gU]at hc
   rw[eJ]
   simp -dsimp -implicitDefEqProofs only[go_sem,↓reduceIte,Tryz.f38,eK,cO]
   try intro _
   refine⟨g,Heap.le_refl _,?_⟩
   first|exact hc|exact⟨rfl,hc⟩
theorem a1J (x:aI):bI0 Tryz.prog 12 x.o:=by
 intro e k h he h0 h1 ho nd
 obtain⟨s4,y_3,zA,y_5,y_6,y_7,y_8,rfl,nC,s8,p4,o_5,o_6,o_7,o_8⟩:=he
 simp only[OV.lN,OV.nP,OV.aFZ,OV.lO,OV.nQ,OV.aF0,al0,al1,gF,al2,al3,nC.vK,nC.xI,s8.vK,s8.xI,p4.vK,p4.xI,o_5.vK,o_5.xI,o_6.vK,o_6.xI,o_7.vK,o_7.xI,o_8.vK,o_8.xI]at h1 ⊢
 have r8:=mJ.refl ho
 simp only[oW,tE,pR,gU,OV.b7,OV.cV,OV.dV,bP,bT,bX,cS,aS,aY,OV.aR]at r8 nd ⊢
 obtain⟨L0,hL0⟩:∃ L:List (Nat×bQ),L=(s4.rows++(y_3.rows++(zA.rows++(y_5.rows++(y_6.rows++(y_7.rows++(y_8.rows))))))):=⟨_,rfl⟩
 replace r8:mJ h h L0 (s4.rows++(y_3.rows++(zA.rows++(y_5.rows++(y_6.rows++(y_7.rows++(y_8.rows))))))):=by rw[hL0];exact r8
 rw[←hL0]at nd ⊢
 refine zY 26 a39 aAO bS Tryz.func12 ?_
 simp -dsimp -implicitDefEqProofs only[go_sem,↓reduceIte,Tryz.f12,OV.aM,OV.aD,OV.aR,nC.flat,nC.one,s8.flat,s8.one,p4.flat,p4.one,o_5.flat,o_5.one,o_6.flat,o_6.one,o_7.flat,o_7.one,o_8.flat,o_8.one]
 have hp0:mJ h h L0 ((([]:List (Nat×bQ)))++((s4.rows++(y_3.rows++(zA.rows)))++(y_5.rows++y_6.rows++y_7.rows++y_8.rows))):=by simpa only[oW,tE,pR,gU,OV.b7,OV.cV,OV.dV,bP,bT,bX,cS,aS,aY,OV.aR]using r8
 have hs0:=a52 x.bC [s4,.v (.int .i64 x.bC.bO),.v (.int .i64 x.bC.aQ),y_3,zA] (k) h ⟨s4,y_3,zA,rfl,nC,s8,p4⟩ aA bZ3 bQ3 bZ4
 simp only[OV.lN,OV.nP,OV.aFZ,OV.lO,OV.nQ,OV.aF0,al0,al1,gF,al2,al3,nC.vK,nC.xI,s8.vK,s8.xI,p4.vK,p4.xI,o_5.vK,o_5.xI,o_6.vK,o_6.xI,o_7.vK,o_7.xI,o_8.vK,o_8.xI,oW,tE,pR,gU,OV.b7,OV.cV,OV.dV,bP,bT,bX,cS,aS,aY,OV.aR,OV.aM,OV.aD,aDL,←aDM]at hs0
 refine aH.jP hs0 ?_
 rintro r g0 ⟨rfl,aSE⟩
 have hr0:=hp0.trans (mJ.mid hp0.gH (hp0.nodup nd) bHP)
 simp -dsimp -implicitDefEqProofs only[go_sem,↓reduceIte,Tryz.f12,OV.aM,OV.aD,OV.aR,nC.flat,nC.one,s8.flat,s8.one,p4.flat,p4.one,o_5.flat,o_5.one,o_6.flat,o_6.one,o_7.flat,o_7.one,o_8.flat,o_8.one]
 have hp1:mJ h g0 L0 (((s4.mk (k)).rows++(y_3.mk (k+(s4.ct:Int))).rows++(zA.mk (k+(s4.ct:Int)+(y_3.ct:Int))).rows)++((y_5.rows)++(y_6.rows++y_7.rows++y_8.rows))):=by simpa only[oW,tE,pR,gU,OV.b7,OV.cV,OV.dV,bP,bT,bX,cS,aS,aY,OV.aR]using hr0
 refine aH.jP (zP x.aT y_5 (k+(s4.ct:Int)+(y_3.ct:Int)+(zA.ct:Int)) _ o_5 aA aA hp1.gH.right.left (lJ (hp1.nodup nd))) ?_
 rintro r g1 ⟨rfl,bZ6⟩
 have hr1:=hp1.trans (mJ.mid hp1.gH (hp1.nodup nd) bQ6)
 simp -dsimp -implicitDefEqProofs only[go_sem,↓reduceIte,Tryz.f12,OV.aM,OV.aD,OV.aR,nC.flat,nC.one,s8.flat,s8.one,p4.flat,p4.one,o_5.flat,o_5.one,o_6.flat,o_6.one,o_7.flat,o_7.one,o_8.flat,o_8.one]
 have hp2:mJ h g1 L0 (((s4.mk (k)).rows++(y_3.mk (k+(s4.ct:Int))).rows++(zA.mk (k+(s4.ct:Int)+(y_3.ct:Int))).rows++(y_5.mk (k+(s4.ct:Int)+(y_3.ct:Int)+(zA.ct:Int))).rows)++((y_6.rows)++(y_7.rows++y_8.rows))):=by simpa only[oW,tE,pR,gU,OV.b7,OV.cV,OV.dV,bP,bT,bX,cS,aS,aY,OV.aR]using hr1
 refine aH.jP (bAK x.bW y_6 (k+(s4.ct:Int)+(y_3.ct:Int)+(zA.ct:Int)+(y_5.ct:Int)) _ o_6 aA aA hp2.gH.right.left (lJ (hp2.nodup nd))) ?_
 rintro r g2 ⟨rfl,bZ5⟩
 have hr2:=hp2.trans (mJ.mid hp2.gH (hp2.nodup nd) bQ5)
 simp -dsimp -implicitDefEqProofs only[go_sem,↓reduceIte,Tryz.f12,OV.aM,OV.aD,OV.aR,nC.flat,nC.one,s8.flat,s8.one,p4.flat,p4.one,o_5.flat,o_5.one,o_6.flat,o_6.one,o_7.flat,o_7.one,o_8.flat,o_8.one]
 have hp3:mJ h g2 L0 (((s4.mk (k)).rows++(y_3.mk (k+(s4.ct:Int))).rows++(zA.mk (k+(s4.ct:Int)+(y_3.ct:Int))).rows++(y_5.mk (k+(s4.ct:Int)+(y_3.ct:Int)+(zA.ct:Int))).rows++(y_6.mk (k+(s4.ct:Int)+(y_3.ct:Int)+(zA.ct:Int)+(y_5.ct:Int))).rows)++((y_7.rows)++(y_8.rows))):=by simpa only[oW,tE,pR,gU,OV.b7,OV.cV,OV.dV,bP,bT,bX,cS,aS,aY,OV.aR]using hr2
 refine aH.jP (bAL x.cQ y_7 (k+(s4.ct:Int)+(y_3.ct:Int)+(zA.ct:Int)+(y_5.ct:Int)+(y_6.ct:Int)) _ o_7 aA aA hp3.gH.right.left (lJ (hp3.nodup nd))) ?_
 rintro r g3 ⟨rfl,b9R⟩
 have hr3:=hp3.trans (mJ.mid hp3.gH (hp3.nodup nd) (by simpa only[oW,tE,pR,gU,OV.b7,OV.cV,OV.dV,bP,bT,bX,cS,aS,aY,OV.aR]using b9R))
 simp -dsimp -implicitDefEqProofs only[go_sem,↓reduceIte,Tryz.f12,OV.aM,OV.aD,OV.aR,nC.flat,nC.one,s8.flat,s8.one,p4.flat,p4.one,o_5.flat,o_5.one,o_6.flat,o_6.one,o_7.flat,o_7.one,o_8.flat,o_8.one]
 have hp4:mJ h g3 L0 (((s4.mk (k)).rows++(y_3.mk (k+(s4.ct:Int))).rows++(zA.mk (k+(s4.ct:Int)+(y_3.ct:Int))).rows++(y_5.mk (k+(s4.ct:Int)+(y_3.ct:Int)+(zA.ct:Int))).rows++(y_6.mk (k+(s4.ct:Int)+(y_3.ct:Int)+(zA.ct:Int)+(y_5.ct:Int))).rows++(y_7.mk (k+(s4.ct:Int)+(y_3.ct:Int)+(zA.ct:Int)+(y_5.ct:Int)+(y_6.ct:Int))).rows)++((y_8.rows)++(([]:List (Nat×bQ))))):=by simpa only[oW,tE,pR,gU,OV.b7,OV.cV,OV.dV,bP,bT,bX,cS,aS,aY,OV.aR]using hr3
 refine aH.jP (zP x.cC y_8 (k+(s4.ct:Int)+(y_3.ct:Int)+(zA.ct:Int)+(y_5.ct:Int)+(y_6.ct:Int)+(y_7.ct:Int)) _ o_8 aA aA hp4.gH.right.left (lJ (hp4.nodup nd))) ?_
 rintro r g4 ⟨rfl,b9S⟩
 have hr4:=hp4.trans (mJ.mid hp4.gH (hp4.nodup nd) (by simpa only[oW,tE,pR,gU,OV.b7,OV.cV,OV.dV,bP,bT,bX,cS,aS,aY,OV.aR]using b9S))
 simp -dsimp -implicitDefEqProofs only[go_sem,↓reduceIte,Tryz.f12,OV.aM,OV.aD,OV.aR,nC.flat,nC.one,s8.flat,s8.one,p4.flat,p4.one,o_5.flat,o_5.one,o_6.flat,o_6.one,o_7.flat,o_7.one,o_8.flat,o_8.one]
 refine⟨g4,Heap.le_refl _,?_⟩
 first
  |exact⟨by congr 1;omega,by simpa only[oW,tE,pR,gU,OV.b7,OV.cV,OV.dV,bP,bT,bX,cS,aS,aY,OV.aR,aDL,←aDM]using hr4⟩
  |exact⟨by omega,by simpa only[oW,tE,pR,gU,OV.b7,OV.cV,OV.dV,bP,bT,bX,cS,aS,aY,OV.aR,aDL,←aDM]using hr4⟩
  |simpa only[oW,tE,pR,gU,OV.b7,OV.cV,OV.dV,bP,bT,bX,cS,aS,aY,OV.aR,aDL,←aDM]using hr4
@[go_sem] def aRN:List Nat:=[0,1,4,5,9,18,27,36,45,56]
theorem aQT (l:List aB) (hk:∀ x∈l,aPT Tryz.prog 180 (OS aB.o 5 x.aP)):aPT Tryz.prog 180 (OS aB.o 5 l):=by
 intro y k hy h0 h1
 rcases hy with⟨rfl,hl⟩|⟨n,es,rfl,hor⟩
 ·rw[OV.tB,aCF,OV.wT]
  refine eG 58 aRN cD bS Tryz.func180 λh=>?_
  simp -dsimp -implicitDefEqProofs only[go_sem,↓reduceIte,Tryz.f180]
  refine cY aRN cD bS (λ_:Unit=>[(0,.sl 5 [] false),(1,I k),(5,I 0)]) (λ_=>h) (λ_=>True) (λ_=>0) () qA ?_
  intro _ _
  simp -dsimp -implicitDefEqProofs only[go_sem,↓reduceIte,Tryz.f180,gF,eK]
  first|done|(intro _;simp)|simp
 ·rw[OV.aAJ,aHH,OV.pO]
  rw[OV.pO]at h1
  have hlen:(OV.cW (OV.cM k es)).length=es.length:=by rw[kP,OV.gD]
  refine eG 58 aRN cD bS Tryz.func180 λh=>?_
  simp -dsimp -implicitDefEqProofs only[go_sem,↓reduceIte,Tryz.f180,hlen]
  refine cY aRN cD bS (λi:Nat=>[(0,.sl 5 (OV.cW (OV.cM k es)) false),(1,I (k+OV.dM (es.take i))),(5,I i)]) (λ_=>h) (λi=>i<=es.length) (λi=>es.length-i) 0 aWZ ?_
  intro i hi
  rcases cX i es.length with hlt|hge
  ·have hll:i<l.length:=by rw[hor.length];exact hlt
   obtain⟨A,e,B,rfl,hA,he⟩:=hor.split i hll
   have t1:(A++e::B).take i=A:=by rw[←hA];simp
   have t0:A++e::B=(A++[e])++B:=by simp
   have t3:(A++e::B).take (i+1)=A++[e]:=by rw[t0];exact aAF qV
   clear t0
   have hct:=OV.gW A (e::B)
   rw[OV.dM]at hct
   rw[t1]
   have hs3:=OV.kO A e
   have hD:OV.cW (OV.cM k (A++e::B))=OV.cW (OV.cM k A)++(OV.vB (k+(OV.dM A:Int)) e).map OV.nD::OV.cW (OV.cM (k+(OV.dM A:Int)+(OV.kN e:Int)) B):=by
    rw[OV.mE,pB,OV.cM,sH]
   have hA2:(OV.cW (OV.cM k A)).length=i:=by rw[kP,OV.gD,hA]
   have hi2:(i:Int)<(A++e::B).length:=by omega
   rw[aB.tJ]at he
   obtain⟨zA,rfl,p4⟩:=he
   simp only[OV.lS,OV.nR,OV.aBJ,al0,kX]at hct hs3
   generalize hkk:k+(OV.dM A:Int)=kk at hD ⊢
   have gm:(OV.cW (OV.cM k (A++[.v (.int .i64 l[i].bH),.v (.int .i64 l[i].bZ),.v (.int .i64 l[i].dR),.v (.int .i64 l[i].dB),zA]::B)))[i]?=some ((OV.vB kk [.v (.int .i64 l[i].bH),.v (.int .i64 l[i].bZ),.v (.int .i64 l[i].dR),.v (.int .i64 l[i].dB),zA]).map OV.nD):=by rw[hD];exact tT hA2
   simp only[OV.lT,OV.nS,OV.aQO,qD,nT,qE,OV.aBJ,kX,kH,lH,aHG]at gm
   clear hD
   generalize OV.cW (OV.cM k (A++[.v (.int .i64 l[i].bH),.v (.int .i64 l[i].bZ),.v (.int .i64 l[i].dR),.v (.int .i64 l[i].dB),zA]::B))=DD at gm hlen ⊢
   have pM:IntKind.i64.wrap (kk+1)=kk+1:=IntWalk.i64_in _ aA
   have xH:IntKind.i64.wrap (kk+1+1)=kk+1+1:=IntWalk.i64_in _ aA
   have a5Z:IntKind.i64.wrap (kk+1+1+1)=kk+1+1+1:=IntWalk.i64_in _ aA
   have a50:IntKind.i64.wrap (kk+1+1+1+1)=kk+1+1+1+1:=IntWalk.i64_in _ aA
   simp -dsimp -implicitDefEqProofs only[go_sem,↓reduceIte,Tryz.f180,hlen,hi2,gm,eq_self,decide_true,qO,bne_self_eq_false,pM,xH,a5Z,a50]
   repeat'(with_reducible first|intro _|refine And.intro ?_ ?_)
   all_goals try omega
   all_goals try(exact absurd rfl fI)
   refine aH.mk ((hk l[i] (dX hll)) zA (kk+1+1+1+1) p4 aA aA) ?_
   have r7:∃ z:Int,z=kk+1+1+1+1+(zA.ct:Int):=⟨_,rfl⟩
   obtain⟨kk0,r7⟩:=r7
   rw[←r7]
   simp -dsimp -implicitDefEqProofs only[go_sem,↓reduceIte,Tryz.f180,hlen,hi2,gm,eq_self,decide_true,qO,bne_self_eq_false,pM,xH,a5Z,a50]
   repeat'(with_reducible first|intro _|refine And.intro ?_ ?_)
   all_goals try omega
   all_goals try(exact absurd rfl fI)
   refine⟨i+1,?_⟩
   simp only[t3,hs3]
   repeat'(with_reducible first|intro _|refine And.intro ?_ ?_)
   all_goals first|rfl|trivial|omega|exact Heap.le_refl _|(rw[IntWalk.i64_in _ aA];omega)
  ·have hi2:i=es.length:=by omega
   subst hi2
   rw[eJ]
   simp -dsimp -implicitDefEqProofs only[go_sem,↓reduceIte,Tryz.f180,hlen,eK,cO]
   first|done|(intro _;rfl)|rfl
theorem aVU (l:List aB):aPT Tryz.prog 180 (OS aB.o 5 l) :=
 aQT l λx hx=>aVU x.aP
termination_by SizeOf.sizeOf l
decreasing_by
 have h1:=bHM hx
 cases x
 simp only[aB.mk.sizeOf_spec,aB.aP]at h1 ⊢
 omega
@[go_sem] def aRO:List Nat:=[0,1,4,5,9,19,28,39]
@[go_sem] def bEL:Marks:=λid=>match id with|4=>([],(.op 0 (.op 1 (.op 2 (.op 3 (.op 4 (.op 5 (.op 6 (.op 7 .nil)))))))),[])|_=>([],.nil,[])
theorem bAN (l:List aX):aPT Tryz.prog 139 (OS aX.o 3 l):=by
 intro y k hy h0 h1
 rcases hy with⟨rfl,hl⟩|⟨n,es,rfl,hor⟩
 ·rw[OV.tB,aCF,OV.wT]
  refine eG 41 aRO cD bEL Tryz.func139 λh=>?_
  simp -dsimp -implicitDefEqProofs only[go_sem,↓reduceIte,Tryz.f139]
  refine cY aRO cD bEL (λ_:Unit=>[(0,.sl 3 [] false),(1,I k),(5,I 0)]) (λ_=>h) (λ_=>True) (λ_=>0) () qA ?_
  intro _ _
  simp -dsimp -implicitDefEqProofs only[go_sem,↓reduceIte,Tryz.f139,gF,eK]
  first|done|(intro _;simp)|simp
 ·rw[OV.aAJ,aHH,OV.pO]
  rw[OV.pO]at h1
  have hlen:(OV.cW (OV.cM k es)).length=es.length:=by rw[kP,OV.gD]
  refine eG 41 aRO cD bEL Tryz.func139 λh=>?_
  simp -dsimp -implicitDefEqProofs only[go_sem,↓reduceIte,Tryz.f139,hlen]
  refine cY aRO cD bEL (λi:Nat=>[(0,.sl 3 (OV.cW (OV.cM k es)) false),(1,I (k+OV.dM (es.take i))),(5,I i)]) (λ_=>h) (λi=>i<=es.length) (λi=>es.length-i) 0 aWZ ?_
  intro i hi
  rcases cX i es.length with hlt|hge
  ·have hll:i<l.length:=by rw[hor.length];exact hlt
   obtain⟨A,e,B,rfl,hA,he⟩:=hor.split i hll
   have t1:(A++e::B).take i=A:=by rw[←hA];simp
   have t0:A++e::B=(A++[e])++B:=by simp
   have t3:(A++e::B).take (i+1)=A++[e]:=by rw[t0];exact aAF qV
   clear t0
   have hct:=OV.gW A (e::B)
   rw[OV.dM]at hct
   rw[t1]
   have hs3:=OV.kO A e
   have hD:OV.cW (OV.cM k (A++e::B))=OV.cW (OV.cM k A)++(OV.vB (k+(OV.dM A:Int)) e).map OV.nD::OV.cW (OV.cM (k+(OV.dM A:Int)+(OV.kN e:Int)) B):=by
    rw[OV.mE,pB,OV.cM,sH]
   have hA2:(OV.cW (OV.cM k A)).length=i:=by rw[kP,OV.gD,hA]
   have hi2:(i:Int)<(A++e::B).length:=by omega
   obtain⟨y_2,rfl,o_2⟩:=he
   simp only[OV.lS,OV.nR,OV.aBJ,al0,kX]at hct hs3
   generalize hkk:k+(OV.dM A:Int)=kk at hD ⊢
   have gm:(OV.cW (OV.cM k (A++[.v (.str l[i].fG),.v (.int .i64 l[i].bN),y_2]::B)))[i]?=some ((OV.vB kk [.v (.str l[i].fG),.v (.int .i64 l[i].bN),y_2]).map OV.nD):=by rw[hD];exact tT hA2
   simp only[OV.lT,OV.nS,OV.aQO,qD,nT,qE,OV.aBJ,kX,kH,lH,aHG]at gm
   clear hD
   generalize OV.cW (OV.cM k (A++[.v (.str l[i].fG),.v (.int .i64 l[i].bN),y_2]::B))=DD at gm hlen ⊢
   have pM:IntKind.i64.wrap (kk+1)=kk+1:=IntWalk.i64_in _ aA
   have xH:IntKind.i64.wrap (kk+1+1)=kk+1+1:=IntWalk.i64_in _ aA
   simp -dsimp -implicitDefEqProofs only[go_sem,↓reduceIte,Tryz.f139,hlen,hi2,gm,eq_self,decide_true,qO,bne_self_eq_false,pM,xH]
   repeat'(with_reducible first|intro _|refine And.intro ?_ ?_)
   all_goals try omega
   all_goals try(exact absurd rfl fI)
   first|refine aH.mk (aVR (kk) aA) ?_|refine aG.mk (aVR (kk) aA) ?_
   simp -dsimp -implicitDefEqProofs only[go_sem,↓reduceIte,Tryz.f139,hlen,hi2,gm,eq_self,decide_true,qO,bne_self_eq_false,pM,xH]
   repeat'(with_reducible first|intro _|refine And.intro ?_ ?_)
   all_goals try omega
   all_goals try(exact absurd rfl fI)
   refine aH.mk ((aVU l[i].bG) y_2 (kk+1+1) o_2 aA aA) ?_
   have r7:∃ z:Int,z=kk+1+1+(y_2.ct:Int):=⟨_,rfl⟩
   obtain⟨kk0,r7⟩:=r7
   rw[←r7]
   simp -dsimp -implicitDefEqProofs only[go_sem,↓reduceIte,Tryz.f139,hlen,hi2,gm,eq_self,decide_true,qO,bne_self_eq_false,pM,xH]
   repeat'(with_reducible first|intro _|refine And.intro ?_ ?_)
   all_goals try omega
   all_goals try(exact absurd rfl fI)
   refine⟨i+1,?_⟩
   simp only[t3,hs3]
   repeat'(with_reducible first|intro _|refine And.intro ?_ ?_)
   all_goals first|rfl|trivial|omega|exact Heap.le_refl _|(rw[IntWalk.i64_in _ aA];omega)
  ·have hi2:i=es.length:=by omega
   subst hi2
   rw[eJ]
   simp -dsimp -implicitDefEqProofs only[go_sem,↓reduceIte,Tryz.f139,hlen,eK,cO]
   first|done|(intro _;rfl)|rfl
theorem a1L (x:aL):bI1 Tryz.prog 85 x.o:=by
 intro e k he h0 h1
 obtain⟨s4,rfl,nC⟩:=he
 simp only[OV.lN,OV.nP,OV.aFZ,OV.lO,OV.nQ,OV.aF0,al0,al1,gF,al2,al3,nC.vK,nC.xI,kH,lH,aHG]at h1 ⊢
 refine eG 12 bI9 aAO bS Tryz.func85 λh=>?_
 simp -dsimp -implicitDefEqProofs only[go_sem,↓reduceIte,Tryz.f85,nC.dT,nC.eT]
 repeat'(with_reducible first|intro _|refine And.intro ?_ ?_)
 all_goals try omega
 refine aH.mk (bAN x.aJ s4 (k) nC aA aA) ?_
 simp -dsimp -implicitDefEqProofs only[go_sem,↓reduceIte,Tryz.f85,nC.dT,nC.eT]
 repeat'(with_reducible first|intro _|refine And.intro ?_ ?_)
 all_goals try omega
 all_goals first|done|rfl|trivial|(congr 1;omega)|omega|(simp only[go_sem];omega)
@[go_sem] def a1M:List Nat:=[0,1,4,5,9,17]
theorem zQ (l:List Int):aPT Tryz.prog 40 (OS (oP I) 1 l):=by
 intro y k hy h0 h1
 rcases hy with⟨rfl,hl⟩|⟨n,es,rfl,hor⟩
 ·rw[OV.tB,aCF,OV.wT]
  refine eG 21 a1M cD bS Tryz.func40 λh=>?_
  simp -dsimp -implicitDefEqProofs only[go_sem,↓reduceIte,Tryz.f40]
  refine cY a1M cD bS (λ_:Unit=>[(0,.sl 1 [] false),(1,I k),(5,I 0)]) (λ_=>h) (λ_=>True) (λ_=>0) () qA ?_
  intro _ _
  simp -dsimp -implicitDefEqProofs only[go_sem,↓reduceIte,Tryz.f40,gF,eK]
  first|done|(intro _;simp)|simp
 ·rw[OV.aAJ,aHH,OV.pO]
  rw[OV.pO]at h1
  have hlen:(OV.cW (OV.cM k es)).length=es.length:=by rw[kP,OV.gD]
  refine eG 21 a1M cD bS Tryz.func40 λh=>?_
  simp -dsimp -implicitDefEqProofs only[go_sem,↓reduceIte,Tryz.f40,hlen]
  refine cY a1M cD bS (λi:Nat=>[(0,.sl 1 (OV.cW (OV.cM k es)) false),(1,I (k+OV.dM (es.take i))),(5,I i)]) (λ_=>h) (λi=>i<=es.length) (λi=>es.length-i) 0 aWZ ?_
  intro i hi
  rcases cX i es.length with hlt|hge
  ·have hll:i<l.length:=by rw[hor.length];exact hlt
   obtain⟨A,e,B,rfl,hA,he⟩:=hor.split i hll
   have t1:(A++e::B).take i=A:=by rw[←hA];simp
   have t0:A++e::B=(A++[e])++B:=by simp
   have t3:(A++e::B).take (i+1)=A++[e]:=by rw[t0];exact aAF qV
   clear t0
   have hct:=OV.gW A (e::B)
   rw[OV.dM]at hct
   rw[t1]
   have hs3:=OV.kO A e
   have hD:OV.cW (OV.cM k (A++e::B))=OV.cW (OV.cM k A)++(OV.vB (k+(OV.dM A:Int)) e).map OV.nD::OV.cW (OV.cM (k+(OV.dM A:Int)+(OV.kN e:Int)) B):=by
    rw[OV.mE,pB,OV.cM,sH]
   have hA2:(OV.cW (OV.cM k A)).length=i:=by rw[kP,OV.gD,hA]
   have hi2:(i:Int)<(A++e::B).length:=by omega
   obtain rfl:_=_:=he
   simp only[OV.lS,OV.nR,OV.aBJ,al0,kX]at hct hs3
   generalize hkk:k+(OV.dM A:Int)=kk at hD ⊢
   have gm:(OV.cW (OV.cM k (A++[.v (.int .i64 l[i])]::B)))[i]?=some ((OV.vB kk [.v (.int .i64 l[i])]).map OV.nD):=by rw[hD];exact tT hA2
   simp only[OV.lT,OV.nS,OV.aQO,qD,nT,qE,OV.aBJ,kX,kH,lH,aHG]at gm
   clear hD
   generalize OV.cW (OV.cM k (A++[.v (.int .i64 l[i])]::B))=DD at gm hlen ⊢
   have pM:IntKind.i64.wrap (kk+1)=kk+1:=IntWalk.i64_in _ aA
   simp -dsimp -implicitDefEqProofs only[go_sem,↓reduceIte,Tryz.f40,hlen,hi2,gm,eq_self,decide_true,qO,bne_self_eq_false,pM]
   repeat'(with_reducible first|intro _|refine And.intro ?_ ?_)
   all_goals try omega
   all_goals try(exact absurd rfl fI)
   refine⟨i+1,?_⟩
   simp only[t3,hs3]
   repeat'(with_reducible first|intro _|refine And.intro ?_ ?_)
   all_goals first|rfl|trivial|omega|exact Heap.le_refl _|(rw[IntWalk.i64_in _ aA];omega)
  ·have hi2:i=es.length:=by omega
   subst hi2
   rw[eJ]
   simp -dsimp -implicitDefEqProofs only[go_sem,↓reduceIte,Tryz.f40,hlen,eK,cO]
   first|done|(intro _;rfl)|rfl
theorem a1N (l:List (List Int)):aPT Tryz.prog 86 (OS (oS (oP I) 1) 1 l):=by
 intro y k hy h0 h1
 rcases hy with⟨rfl,hl⟩|⟨n,es,rfl,hor⟩
 ·rw[OV.tB,aCF,OV.wT]
  refine eG 21 aP1 cD bS Tryz.func86 λh=>?_
  simp -dsimp -implicitDefEqProofs only[go_sem,↓reduceIte,Tryz.f86]
  refine cY aP1 cD bS (λ_:Unit=>[(0,.sl 1 [] false),(1,I k),(5,I 0)]) (λ_=>h) (λ_=>True) (λ_=>0) () qA ?_
  intro _ _
  simp -dsimp -implicitDefEqProofs only[go_sem,↓reduceIte,Tryz.f86,gF,eK]
  first|done|(intro _;simp)|simp
 ·rw[OV.aAJ,aHH,OV.pO]
  rw[OV.pO]at h1
  have hlen:(OV.cW (OV.cM k es)).length=es.length:=by rw[kP,OV.gD]
  refine eG 21 aP1 cD bS Tryz.func86 λh=>?_
  simp -dsimp -implicitDefEqProofs only[go_sem,↓reduceIte,Tryz.f86,hlen]
  refine cY aP1 cD bS (λi:Nat=>[(0,.sl 1 (OV.cW (OV.cM k es)) false),(1,I (k+OV.dM (es.take i))),(5,I i)]) (λ_=>h) (λi=>i<=es.length) (λi=>es.length-i) 0 aWZ ?_
  intro i hi
  rcases cX i es.length with hlt|hge
  ·have hll:i<l.length:=by rw[hor.length];exact hlt
   obtain⟨A,e,B,rfl,hA,he⟩:=hor.split i hll
   have t1:(A++e::B).take i=A:=by rw[←hA];simp
   have t0:A++e::B=(A++[e])++B:=by simp
   have t3:(A++e::B).take (i+1)=A++[e]:=by rw[t0];exact aAF qV
   clear t0
   have hct:=OV.gW A (e::B)
   rw[OV.dM]at hct
   rw[t1]
   have hs3:=OV.kO A e
   have hD:OV.cW (OV.cM k (A++e::B))=OV.cW (OV.cM k A)++(OV.vB (k+(OV.dM A:Int)) e).map OV.nD::OV.cW (OV.cM (k+(OV.dM A:Int)+(OV.kN e:Int)) B):=by
    rw[OV.mE,pB,OV.cM,sH]
   have hA2:(OV.cW (OV.cM k A)).length=i:=by rw[kP,OV.gD,hA]
   have hi2:(i:Int)<(A++e::B).length:=by omega
   obtain⟨s4,rfl,nC⟩:=he
   simp only[OV.lS,OV.nR,OV.aBJ,al0,kX]at hct hs3
   generalize hkk:k+(OV.dM A:Int)=kk at hD ⊢
   have gm:(OV.cW (OV.cM k (A++[s4]::B)))[i]?=some ((OV.vB kk [s4]).map OV.nD):=by rw[hD];exact tT hA2
   simp only[OV.lT,OV.nS,OV.aQO,qD,nT,qE,OV.aBJ,kX,kH,lH,aHG]at gm
   clear hD
   generalize OV.cW (OV.cM k (A++[s4]::B))=DD at gm hlen ⊢
   simp -dsimp -implicitDefEqProofs only[go_sem,↓reduceIte,Tryz.f86,hlen,hi2,gm,eq_self,decide_true,qO,bne_self_eq_false]
   repeat'(with_reducible first|intro _|refine And.intro ?_ ?_)
   all_goals try omega
   all_goals try(exact absurd rfl fI)
   refine aH.mk ((zQ l[i]) s4 (kk) nC aA aA) ?_
   have r7:∃ z:Int,z=kk+(s4.ct:Int):=⟨_,rfl⟩
   obtain⟨kk0,r7⟩:=r7
   rw[←r7]
   simp -dsimp -implicitDefEqProofs only[go_sem,↓reduceIte,Tryz.f86,hlen,hi2,gm,eq_self,decide_true,qO,bne_self_eq_false]
   repeat'(with_reducible first|intro _|refine And.intro ?_ ?_)
   all_goals try omega
   all_goals try(exact absurd rfl fI)
   refine⟨i+1,?_⟩
   simp only[t3,hs3]
   repeat'(with_reducible first|intro _|refine And.intro ?_ ?_)
   all_goals first|rfl|trivial|omega|exact Heap.le_refl _|(rw[IntWalk.i64_in _ aA];omega)
  ·have hi2:i=es.length:=by omega
   subst hi2
   rw[eJ]
   simp -dsimp -implicitDefEqProofs only[go_sem,↓reduceIte,Tryz.f86,hlen,eK,cO]
   first|done|(intro _;rfl)|rfl
theorem bL0 (x:dF):bI1 Tryz.prog 39 x.o:=by
 intro e k he h0 h1
 obtain⟨s4,y_3,zA,rfl,nC,s8,p4⟩:=he
 simp only[OV.lN,OV.nP,OV.aFZ,OV.lO,OV.nQ,OV.aF0,al0,al1,gF,al2,al3,nC.vK,nC.xI,s8.vK,s8.xI,p4.vK,p4.xI,kH,lH,aHG]at h1 ⊢
 refine eG 24 bST aAO bS Tryz.func39 λh=>?_
 simp -dsimp -implicitDefEqProofs only[go_sem,↓reduceIte,Tryz.f39,nC.dT,nC.eT,s8.dT,s8.eT,p4.dT,p4.eT]
 repeat'(with_reducible first|intro _|refine And.intro ?_ ?_)
 all_goals try omega
 have hs0:=a1L x.bR [s4] (k) ⟨s4,rfl,nC⟩ aA bQ7
 simp only[OV.lN,OV.nP,OV.aFZ,OV.lO,OV.nQ,OV.aF0,al0,al1,gF,al2,al3,nC.vK,nC.xI,s8.vK,s8.xI,p4.vK,p4.xI,kH,lH,aHG,aDL,←aDM]at hs0
 refine aH.mk hs0 ?_
 simp -dsimp -implicitDefEqProofs only[go_sem,↓reduceIte,Tryz.f39,nC.dT,nC.eT,s8.dT,s8.eT,p4.dT,p4.eT]
 repeat'(with_reducible first|intro _|refine And.intro ?_ ?_)
 all_goals try omega
 refine aH.mk (zQ x.c7 y_3 (k+(s4.ct:Int)) s8 aA aA) ?_
 simp -dsimp -implicitDefEqProofs only[go_sem,↓reduceIte,Tryz.f39,nC.dT,nC.eT,s8.dT,s8.eT,p4.dT,p4.eT]
 repeat'(with_reducible first|intro _|refine And.intro ?_ ?_)
 all_goals try omega
 refine aH.mk (a1N x.aV zA (k+(s4.ct:Int)+(y_3.ct:Int)) p4 aA aA) ?_
 simp -dsimp -implicitDefEqProofs only[go_sem,↓reduceIte,Tryz.f39,nC.dT,nC.eT,s8.dT,s8.eT,p4.dT,p4.eT]
 repeat'(with_reducible first|intro _|refine And.intro ?_ ?_)
 all_goals try omega
 all_goals first|done|rfl|trivial|(congr 1;omega)|omega|(simp only[go_sem];omega)
theorem bAO (l:List Bool):aPT Tryz.prog 41 (OS (oP aC.bool) 1 l):=by
 intro y k hy h0 h1
 rcases hy with⟨rfl,hl⟩|⟨n,es,rfl,hor⟩
 ·rw[OV.tB,aCF,OV.wT]
  refine eG 23 aP1 cD bS Tryz.func41 λh=>?_
  simp -dsimp -implicitDefEqProofs only[go_sem,↓reduceIte,Tryz.f41]
  refine cY aP1 cD bS (λ_:Unit=>[(0,.sl 1 [] false),(1,I k),(5,I 0)]) (λ_=>h) (λ_=>True) (λ_=>0) () qA ?_
  intro _ _
  simp -dsimp -implicitDefEqProofs only[go_sem,↓reduceIte,Tryz.f41,gF,eK]
  first|done|(intro _;simp)|simp
 ·rw[OV.aAJ,aHH,OV.pO]
  rw[OV.pO]at h1
  have hlen:(OV.cW (OV.cM k es)).length=es.length:=by rw[kP,OV.gD]
  refine eG 23 aP1 cD bS Tryz.func41 λh=>?_
  simp -dsimp -implicitDefEqProofs only[go_sem,↓reduceIte,Tryz.f41,hlen]
  refine cY aP1 cD bS (λi:Nat=>[(0,.sl 1 (OV.cW (OV.cM k es)) false),(1,I (k+OV.dM (es.take i))),(5,I i)]) (λ_=>h) (λi=>i<=es.length) (λi=>es.length-i) 0 aWZ ?_
  intro i hi
  rcases cX i es.length with hlt|hge
  ·have hll:i<l.length:=by rw[hor.length];exact hlt
   obtain⟨A,e,B,rfl,hA,he⟩:=hor.split i hll
   have t1:(A++e::B).take i=A:=by rw[←hA];simp
   have t0:A++e::B=(A++[e])++B:=by simp
   have t3:(A++e::B).take (i+1)=A++[e]:=by rw[t0];exact aAF qV
   clear t0
   have hct:=OV.gW A (e::B)
   rw[OV.dM]at hct
   rw[t1]
   have hs3:=OV.kO A e
   have hD:OV.cW (OV.cM k (A++e::B))=OV.cW (OV.cM k A)++(OV.vB (k+(OV.dM A:Int)) e).map OV.nD::OV.cW (OV.cM (k+(OV.dM A:Int)+(OV.kN e:Int)) B):=by
    rw[OV.mE,pB,OV.cM,sH]
   have hA2:(OV.cW (OV.cM k A)).length=i:=by rw[kP,OV.gD,hA]
   have hi2:(i:Int)<(A++e::B).length:=by omega
   obtain rfl:_=_:=he
   simp only[OV.lS,OV.nR,OV.aBJ,al0,kX]at hct hs3
   generalize hkk:k+(OV.dM A:Int)=kk at hD ⊢
   have gm:(OV.cW (OV.cM k (A++[.v (.bool l[i])]::B)))[i]?=some ((OV.vB kk [.v (.bool l[i])]).map OV.nD):=by rw[hD];exact tT hA2
   simp only[OV.lT,OV.nS,OV.aQO,qD,nT,qE,OV.aBJ,kX,kH,lH,aHG]at gm
   clear hD
   generalize OV.cW (OV.cM k (A++[.v (.bool l[i])]::B))=DD at gm hlen ⊢
   have pM:IntKind.i64.wrap (kk+1)=kk+1:=IntWalk.i64_in _ aA
   simp -dsimp -implicitDefEqProofs only[go_sem,↓reduceIte,Tryz.f41,hlen,hi2,gm,eq_self,decide_true,qO,bne_self_eq_false,pM]
   repeat'(with_reducible first|intro _|refine And.intro ?_ ?_)
   all_goals try omega
   all_goals try(exact absurd rfl fI)
   refine⟨i+1,?_⟩
   simp only[t3,hs3]
   repeat'(with_reducible first|intro _|refine And.intro ?_ ?_)
   all_goals first|rfl|trivial|omega|exact Heap.le_refl _|(rw[IntWalk.i64_in _ aA];omega)
  ·have hi2:i=es.length:=by omega
   subst hi2
   rw[eJ]
   simp -dsimp -implicitDefEqProofs only[go_sem,↓reduceIte,Tryz.f41,hlen,eK,cO]
   first|done|(intro _;rfl)|rfl
@[go_sem] def a1O:List Nat:=[0,1,4,5,9,18,27,38]
theorem bAP (l:List cR):aPT Tryz.prog 42 (OS cR.o 3 l):=by
 intro y k hy h0 h1
 rcases hy with⟨rfl,hl⟩|⟨n,es,rfl,hor⟩
 ·rw[OV.tB,aCF,OV.wT]
  refine eG 40 a1O cD bS Tryz.func42 λh=>?_
  simp -dsimp -implicitDefEqProofs only[go_sem,↓reduceIte,Tryz.f42]
  refine cY a1O cD bS (λ_:Unit=>[(0,.sl 3 [] false),(1,I k),(5,I 0)]) (λ_=>h) (λ_=>True) (λ_=>0) () qA ?_
  intro _ _
  simp -dsimp -implicitDefEqProofs only[go_sem,↓reduceIte,Tryz.f42,gF,eK]
  first|done|(intro _;simp)|simp
 ·rw[OV.aAJ,aHH,OV.pO]
  rw[OV.pO]at h1
  have hlen:(OV.cW (OV.cM k es)).length=es.length:=by rw[kP,OV.gD]
  refine eG 40 a1O cD bS Tryz.func42 λh=>?_
  simp -dsimp -implicitDefEqProofs only[go_sem,↓reduceIte,Tryz.f42,hlen]
  refine cY a1O cD bS (λi:Nat=>[(0,.sl 3 (OV.cW (OV.cM k es)) false),(1,I (k+OV.dM (es.take i))),(5,I i)]) (λ_=>h) (λi=>i<=es.length) (λi=>es.length-i) 0 aWZ ?_
  intro i hi
  rcases cX i es.length with hlt|hge
  ·have hll:i<l.length:=by rw[hor.length];exact hlt
   obtain⟨A,e,B,rfl,hA,he⟩:=hor.split i hll
   have t1:(A++e::B).take i=A:=by rw[←hA];simp
   have t0:A++e::B=(A++[e])++B:=by simp
   have t3:(A++e::B).take (i+1)=A++[e]:=by rw[t0];exact aAF qV
   clear t0
   have hct:=OV.gW A (e::B)
   rw[OV.dM]at hct
   rw[t1]
   have hs3:=OV.kO A e
   have hD:OV.cW (OV.cM k (A++e::B))=OV.cW (OV.cM k A)++(OV.vB (k+(OV.dM A:Int)) e).map OV.nD::OV.cW (OV.cM (k+(OV.dM A:Int)+(OV.kN e:Int)) B):=by
    rw[OV.mE,pB,OV.cM,sH]
   have hA2:(OV.cW (OV.cM k A)).length=i:=by rw[kP,OV.gD,hA]
   have hi2:(i:Int)<(A++e::B).length:=by omega
   obtain⟨y_2,rfl,o_2⟩:=he
   simp only[OV.lS,OV.nR,OV.aBJ,al0,kX]at hct hs3
   generalize hkk:k+(OV.dM A:Int)=kk at hD ⊢
   have gm:(OV.cW (OV.cM k (A++[.v (.int .i64 l[i].cU),.v (.int .i64 l[i].iL),y_2]::B)))[i]?=some ((OV.vB kk [.v (.int .i64 l[i].cU),.v (.int .i64 l[i].iL),y_2]).map OV.nD):=by rw[hD];exact tT hA2
   simp only[OV.lT,OV.nS,OV.aQO,qD,nT,qE,OV.aBJ,kX,kH,lH,aHG]at gm
   clear hD
   generalize OV.cW (OV.cM k (A++[.v (.int .i64 l[i].cU),.v (.int .i64 l[i].iL),y_2]::B))=DD at gm hlen ⊢
   have pM:IntKind.i64.wrap (kk+1)=kk+1:=IntWalk.i64_in _ aA
   have xH:IntKind.i64.wrap (kk+1+1)=kk+1+1:=IntWalk.i64_in _ aA
   simp -dsimp -implicitDefEqProofs only[go_sem,↓reduceIte,Tryz.f42,hlen,hi2,gm,eq_self,decide_true,qO,bne_self_eq_false,pM,xH]
   repeat'(with_reducible first|intro _|refine And.intro ?_ ?_)
   all_goals try omega
   all_goals try(exact absurd rfl fI)
   refine aH.mk ((zQ l[i].kQ) y_2 (kk+1+1) o_2 aA aA) ?_
   have r7:∃ z:Int,z=kk+1+1+(y_2.ct:Int):=⟨_,rfl⟩
   obtain⟨kk0,r7⟩:=r7
   rw[←r7]
   simp -dsimp -implicitDefEqProofs only[go_sem,↓reduceIte,Tryz.f42,hlen,hi2,gm,eq_self,decide_true,qO,bne_self_eq_false,pM,xH]
   repeat'(with_reducible first|intro _|refine And.intro ?_ ?_)
   all_goals try omega
   all_goals try(exact absurd rfl fI)
   refine⟨i+1,?_⟩
   simp only[t3,hs3]
   repeat'(with_reducible first|intro _|refine And.intro ?_ ?_)
   all_goals first|rfl|trivial|omega|exact Heap.le_refl _|(rw[IntWalk.i64_in _ aA];omega)
  ·have hi2:i=es.length:=by omega
   subst hi2
   rw[eJ]
   simp -dsimp -implicitDefEqProofs only[go_sem,↓reduceIte,Tryz.f42,hlen,eK,cO]
   first|done|(intro _;rfl)|rfl
theorem aNB (x:aI):bI1 Tryz.prog 13 x.o:=by
 intro e k he h0 h1
 obtain⟨s4,y_3,zA,y_5,y_6,y_7,y_8,rfl,nC,s8,p4,o_5,o_6,o_7,o_8⟩:=he
 simp only[OV.lN,OV.nP,OV.aFZ,OV.lO,OV.nQ,OV.aF0,al0,al1,gF,al2,al3,nC.vK,nC.xI,s8.vK,s8.xI,p4.vK,p4.xI,o_5.vK,o_5.xI,o_6.vK,o_6.xI,o_7.vK,o_7.xI,o_8.vK,o_8.xI,kH,lH,aHG]at h1 ⊢
 refine eG 36 b1W aAO bS Tryz.func13 λh=>?_
 simp -dsimp -implicitDefEqProofs only[go_sem,↓reduceIte,Tryz.f13,nC.dT,nC.eT,s8.dT,s8.eT,p4.dT,p4.eT,o_5.dT,o_5.eT,o_6.dT,o_6.eT,o_7.dT,o_7.eT,o_8.dT,o_8.eT]
 repeat'(with_reducible first|intro _|refine And.intro ?_ ?_)
 all_goals try omega
 have hs0:=bL0 x.bC [s4,.v (.int .i64 x.bC.bO),.v (.int .i64 x.bC.aQ),y_3,zA] (k) ⟨s4,y_3,zA,rfl,nC,s8,p4⟩ aA bZ3
 simp only[OV.lN,OV.nP,OV.aFZ,OV.lO,OV.nQ,OV.aF0,al0,al1,gF,al2,al3,nC.vK,nC.xI,s8.vK,s8.xI,p4.vK,p4.xI,o_5.vK,o_5.xI,o_6.vK,o_6.xI,o_7.vK,o_7.xI,o_8.vK,o_8.xI,kH,lH,aHG,aDL,←aDM]at hs0
 refine aH.mk hs0 ?_
 simp -dsimp -implicitDefEqProofs only[go_sem,↓reduceIte,Tryz.f13,nC.dT,nC.eT,s8.dT,s8.eT,p4.dT,p4.eT,o_5.dT,o_5.eT,o_6.dT,o_6.eT,o_7.dT,o_7.eT,o_8.dT,o_8.eT]
 repeat'(with_reducible first|intro _|refine And.intro ?_ ?_)
 all_goals try omega
 refine aH.mk (zQ x.aT y_5 (k+(s4.ct:Int)+(y_3.ct:Int)+(zA.ct:Int)) o_5 aA aA) ?_
 simp -dsimp -implicitDefEqProofs only[go_sem,↓reduceIte,Tryz.f13,nC.dT,nC.eT,s8.dT,s8.eT,p4.dT,p4.eT,o_5.dT,o_5.eT,o_6.dT,o_6.eT,o_7.dT,o_7.eT,o_8.dT,o_8.eT]
 repeat'(with_reducible first|intro _|refine And.intro ?_ ?_)
 all_goals try omega
 refine aH.mk (bAO x.bW y_6 (k+(s4.ct:Int)+(y_3.ct:Int)+(zA.ct:Int)+(y_5.ct:Int)) o_6 aA aA) ?_
 simp -dsimp -implicitDefEqProofs only[go_sem,↓reduceIte,Tryz.f13,nC.dT,nC.eT,s8.dT,s8.eT,p4.dT,p4.eT,o_5.dT,o_5.eT,o_6.dT,o_6.eT,o_7.dT,o_7.eT,o_8.dT,o_8.eT]
 repeat'(with_reducible first|intro _|refine And.intro ?_ ?_)
 all_goals try omega
 refine aH.mk (bAP x.cQ y_7 (k+(s4.ct:Int)+(y_3.ct:Int)+(zA.ct:Int)+(y_5.ct:Int)+(y_6.ct:Int)) o_7 aA aA) ?_
 simp -dsimp -implicitDefEqProofs only[go_sem,↓reduceIte,Tryz.f13,nC.dT,nC.eT,s8.dT,s8.eT,p4.dT,p4.eT,o_5.dT,o_5.eT,o_6.dT,o_6.eT,o_7.dT,o_7.eT,o_8.dT,o_8.eT]
 repeat'(with_reducible first|intro _|refine And.intro ?_ ?_)
 all_goals try omega
 refine aH.mk (zQ x.cC y_8 (k+(s4.ct:Int)+(y_3.ct:Int)+(zA.ct:Int)+(y_5.ct:Int)+(y_6.ct:Int)+(y_7.ct:Int)) o_8 aA aA) ?_
 simp -dsimp -implicitDefEqProofs only[go_sem,↓reduceIte,Tryz.f13,nC.dT,nC.eT,s8.dT,s8.eT,p4.dT,p4.eT,o_5.dT,o_5.eT,o_6.dT,o_6.eT,o_7.dT,o_7.eT,o_8.dT,o_8.eT]
 repeat'(with_reducible first|intro _|refine And.intro ?_ ?_)
 all_goals try omega
 all_goals first|done|rfl|trivial|(congr 1;omega)|omega|(simp only[go_sem];omega)
theorem a54 (l:List aB) (left:Int) (h0:0<=left) (h1:left<=1048576) (hc:∀ x∈l,∀ left:Int,0<=left->left<=1048576->fQ Tryz.prog 191 [(.agg (aB.c x)),I left] (I (lft left ((aB.s x))))):fQ Tryz.prog 155 [dA 5 aB.c l,I left] (I (lft left (zZ aB.s l))):=by
 refine eG 27 aXL cD bS Tryz.func155 λh=>?_
 simp -dsimp -implicitDefEqProofs only[go_sem,Tryz.f155,↓reduceIte]
 intro hl
 rw[IntWalk.i64_in _ aA]
 refine⟨λhn=>?_,λhn=>?_⟩
 ·exact(sJ aEV).symm
 ·refine cY aXL cD bS (λk:Nat=>[(0,dA 5 aB.c l),(1,I (left-l.length-(((l.take k).map aB.s).sum:Int))),(5,I k)]) (λ_=>h) (λk=>k<=l.length/\0<=left-l.length-(((l.take k).map aB.s).sum:Int)) (λk=>l.length-k) 0 bHZ ?_
  intro k ⟨hk,hb⟩
  rcases cX k l.length with hlt|hge
  ·have ea:l[k]?=some l[k]:=cJ hlt
   simp -dsimp -implicitDefEqProofs only[go_sem,↓reduceIte,Tryz.f155,ea,aB.aO]
   refine λ_=>⟨λ_=>⟨hlt,?_⟩,λhn=>absurd hlt hn⟩
   have hx:=hc l[k] (dX hlt) (left-l.length-(((l.take k).map aB.s).sum:Int)) aA aA
   simp only[aB.aO]at hx
   refine aH.mk hx ?_
   have hs:=kE aB.s l k hlt
   have hs':=rN aB.s l (k+1)
   try dsimp only at hs
   rcases yM (left-l.length-(((l.take k).map aB.s).sum:Int)) ((aB.s l[k]))with⟨e,hl1⟩|⟨e,hl1⟩
   ·simp -dsimp -implicitDefEqProofs only[go_sem,↓reduceIte,Tryz.f155,e]
    exact(sJ aEV).symm
   ·have hn1:(left-l.length-(((l.take k).map aB.s).sum:Int)-((aB.s l[k]):Int)<0)=False:=eq_false aA
    simp -dsimp -implicitDefEqProofs only[go_sem,↓reduceIte,Tryz.f155,e,hn1]
    refine⟨k+1,⟨?_,?_⟩,⟨by omega,by rw[hs];omega⟩,by omega⟩
    ·rw[hs];omega
    ·rw[IntWalk.i64_in _ aA];rfl
  ·have hk':k=l.length:=by omega
   subst hk'
   simp -dsimp -implicitDefEqProofs only[go_sem,↓reduceIte,Tryz.f155,cO]
   refine λ_=>?_
   rw[eJ]at hb ⊢
   rw[aCG aEV,gI]
   omega
theorem a1P (x:aB) (left:Int) (h0:0<=left) (h1:left<=1048576) (hk:∀ left:Int,0<=left->left<=1048576->fQ Tryz.prog 155 [(dA 5 aB.c x.aP),I left] (I (lft left (zZ aB.s x.aP)))):fQ Tryz.prog 191 [.agg x.c,I left] (I (lft left x.s)):=by
 rw[aB.gB]
 simp only[aB.aO]
 refine eG 12 bI9 aAO bS Tryz.func191 λh=>?_
 simp -dsimp -implicitDefEqProofs only[go_sem,Tryz.f191,↓reduceIte]
 refine aH.mk (hk left aA aA) ?_
 rcases yM left (zZ aB.s x.aP)with⟨e,hl1⟩|⟨e,hl1⟩
 ·simp -dsimp -implicitDefEqProofs only[go_sem,↓reduceIte,Tryz.f191,e]
 ·have hn1:(left-((zZ aB.s x.aP):Int)<0)=False:=eq_false aA
  simp -dsimp -implicitDefEqProofs only[go_sem,↓reduceIte,Tryz.f191,e,hn1]
 try(rw[aCG aA];omega)
theorem bEM (x:aB) (left:Int) (h0:0<=left) (h1:left<=1048576):fQ Tryz.prog 191 [.agg x.c,I left] (I (lft left x.s)) :=
 a1P x left h0 h1 λleft h0 h1=>a54 x.aP left h0 h1 λy hy left h0 h1=>bEM y left h0 h1
termination_by SizeOf.sizeOf x
decreasing_by exact aB.wV hy
@[go_sem] def bQQ:List Nat:=[0,1,2,4,11,17]
theorem bQR (x:aX) (left:Int) (h0:0<=left) (h1:left<=1048576):fQ Tryz.prog 110 [.agg x.c,I left] (I (lft left x.s)):=by
 rw[aX.gB]
 simp only[aX.aO]
 refine eG 19 bQQ aAO bS Tryz.func110 λh=>?_
 simp -dsimp -implicitDefEqProofs only[go_sem,Tryz.f110,↓reduceIte]
 refine λhl0=>?_
 rw[IntWalk.i64_in _ aA]
 generalize hL0:left-((x.fG.length:Nat):Int)=L0
 refine⟨λhn=>(sJ aA).symm,λhn0=>?_⟩
 refine aH.mk (a54 x.bG (L0) aA aA (λx _ left h0 h1=>bEM x left h0 h1)) ?_
 generalize hL1:lft (L0) (zZ aB.s x.bG)=L1
 simp -dsimp -implicitDefEqProofs only[go_sem,↓reduceIte,Tryz.f110]
 have uB:=aHO hL1
 refine⟨λhn=>(sJ (by have:=uB.1 hn;omega)).symm,λhn1=>?_⟩
 have hp1:=uB.2 hn1
 clear uB hL1
 try(rw[aCG aA];omega)
theorem bL1 (l:List aX) (left:Int) (h0:0<=left) (h1:left<=1048576) (hc:∀ x∈l,∀ left:Int,0<=left->left<=1048576->fQ Tryz.prog 110 [(.agg (aX.c x)),I left] (I (lft left ((aX.s x))))):fQ Tryz.prog 63 [dA 3 aX.c l,I left] (I (lft left (zZ aX.s l))):=by
 refine eG 27 aXL cD bS Tryz.func63 λh=>?_
 simp -dsimp -implicitDefEqProofs only[go_sem,Tryz.f63,↓reduceIte]
 intro hl
 rw[IntWalk.i64_in _ aA]
 refine⟨λhn=>?_,λhn=>?_⟩
 ·exact(sJ aEV).symm
 ·refine cY aXL cD bS (λk:Nat=>[(0,dA 3 aX.c l),(1,I (left-l.length-(((l.take k).map aX.s).sum:Int))),(5,I k)]) (λ_=>h) (λk=>k<=l.length/\0<=left-l.length-(((l.take k).map aX.s).sum:Int)) (λk=>l.length-k) 0 bHZ ?_
  intro k ⟨hk,hb⟩
  rcases cX k l.length with hlt|hge
  ·have ea:l[k]?=some l[k]:=cJ hlt
   simp -dsimp -implicitDefEqProofs only[go_sem,↓reduceIte,Tryz.f63,ea,aX.aO]
   refine λ_=>⟨λ_=>⟨hlt,?_⟩,λhn=>absurd hlt hn⟩
   have hx:=hc l[k] (dX hlt) (left-l.length-(((l.take k).map aX.s).sum:Int)) aA aA
   simp only[aX.aO]at hx
   refine aH.mk hx ?_
   have hs:=kE aX.s l k hlt
   have hs':=rN aX.s l (k+1)
   try dsimp only at hs
   rcases yM (left-l.length-(((l.take k).map aX.s).sum:Int)) ((aX.s l[k]))with⟨e,hl1⟩|⟨e,hl1⟩
   ·simp -dsimp -implicitDefEqProofs only[go_sem,↓reduceIte,Tryz.f63,e]
    exact(sJ aEV).symm
   ·have hn1:(left-l.length-(((l.take k).map aX.s).sum:Int)-((aX.s l[k]):Int)<0)=False:=eq_false aA
    simp -dsimp -implicitDefEqProofs only[go_sem,↓reduceIte,Tryz.f63,e,hn1]
    refine⟨k+1,⟨?_,?_⟩,⟨by omega,by rw[hs];omega⟩,by omega⟩
    ·rw[hs];omega
    ·rw[IntWalk.i64_in _ aA];rfl
  ·have hk':k=l.length:=by omega
   subst hk'
   simp -dsimp -implicitDefEqProofs only[go_sem,↓reduceIte,Tryz.f63,cO]
   refine λ_=>?_
   rw[eJ]at hb ⊢
   rw[aCG aEV,gI]
   omega
theorem bAQ (x:aL) (left:Int) (h0:0<=left) (h1:left<=1048576):fQ Tryz.prog 19 [.agg x.c,I left] (I (lft left x.s)):=by
 rw[aL.gB]
 simp only[aL.aO]
 refine eG 12 bI9 aAO bS Tryz.func19 λh=>?_
 simp -dsimp -implicitDefEqProofs only[go_sem,Tryz.f19,↓reduceIte]
 refine aH.mk (bL1 x.aJ left aA aA (λx _ left h0 h1=>bQR x left h0 h1)) ?_
 rcases yM left (zZ aX.s x.aJ)with⟨e,hl1⟩|⟨e,hl1⟩
 ·simp -dsimp -implicitDefEqProofs only[go_sem,↓reduceIte,Tryz.f19,e]
 ·have hn1:(left-((zZ aX.s x.aJ):Int)<0)=False:=eq_false aA
  simp -dsimp -implicitDefEqProofs only[go_sem,↓reduceIte,Tryz.f19,e,hn1]
 try(rw[aCG aA];omega)
theorem aYN (sz:Nat) (es:List (List aC)) (tg:Bool) (left:Int) (h0:0<=left) (h1:left<=1048576):fQ Tryz.prog 20 [.sl sz es tg,I left] (I (lft left es.length)):=by
 refine eG 12 b1X cD bS Tryz.func20 λh=>?_
 simp -dsimp -implicitDefEqProofs only[go_sem,Tryz.f20,↓reduceIte]
 intro hl
 rw[IntWalk.i64_in _ aA]
 refine⟨λhn=>?_,λhn=>?_⟩
 ·exact(sJ hn).symm
 ·exact(aCG aA).symm
theorem bAR (l:List (List Int)) (left:Int) (h0:0<=left) (h1:left<=1048576) (hc:∀ x∈l,∀ left:Int,0<=left->left<=1048576->fQ Tryz.prog 20 [(dA 1 (λn=>[I n]) x),I left] (I (lft left (x.length)))):fQ Tryz.prog 21 [dA 1 (λx=>[dA 1 (λn=>[I n]) x]) l,I left] (I (lft left (zZ (λx:List Int=>x.length) l))):=by
 refine eG 27 aXL cD bS Tryz.func21 λh=>?_
 simp -dsimp -implicitDefEqProofs only[go_sem,Tryz.f21,↓reduceIte]
 intro hl
 rw[IntWalk.i64_in _ aA]
 refine⟨λhn=>?_,λhn=>?_⟩
 ·exact(sJ aEV).symm
 ·refine cY aXL cD bS (λk:Nat=>[(0,dA 1 (λx=>[dA 1 (λn=>[I n]) x]) l),(1,I (left-l.length-(((l.take k).map (λx:List Int=>x.length)).sum:Int))),(5,I k)]) (λ_=>h) (λk=>k<=l.length/\0<=left-l.length-(((l.take k).map (λx:List Int=>x.length)).sum:Int)) (λk=>l.length-k) 0 bHZ ?_
  intro k ⟨hk,hb⟩
  rcases cX k l.length with hlt|hge
  ·have ea:l[k]?=some l[k]:=cJ hlt
   simp -dsimp -implicitDefEqProofs only[go_sem,↓reduceIte,Tryz.f21,ea]
   refine λ_=>⟨λ_=>⟨hlt,?_⟩,λhn=>absurd hlt hn⟩
   have hx:=hc l[k] (dX hlt) (left-l.length-(((l.take k).map (λx:List Int=>x.length)).sum:Int)) aA aA
   refine aH.mk hx ?_
   have hs:=kE (λx:List Int=>x.length) l k hlt
   have hs':=rN (λx:List Int=>x.length) l (k+1)
   try dsimp only at hs
   rcases yM (left-l.length-(((l.take k).map (λx:List Int=>x.length)).sum:Int)) (l[k].length)with⟨e,hl1⟩|⟨e,hl1⟩
   ·simp -dsimp -implicitDefEqProofs only[go_sem,↓reduceIte,Tryz.f21,e]
    exact(sJ aEV).symm
   ·have hn1:(left-l.length-(((l.take k).map (λx:List Int=>x.length)).sum:Int)-(l[k].length:Int)<0)=False:=eq_false aA
    simp -dsimp -implicitDefEqProofs only[go_sem,↓reduceIte,Tryz.f21,e,hn1]
    refine⟨k+1,⟨?_,?_⟩,⟨by omega,by rw[hs];omega⟩,by omega⟩
    ·rw[hs];omega
    ·rw[IntWalk.i64_in _ aA];rfl
  ·have hk':k=l.length:=by omega
   subst hk'
   simp -dsimp -implicitDefEqProofs only[go_sem,↓reduceIte,Tryz.f21,cO]
   refine λ_=>?_
   rw[eJ]at hb ⊢
   rw[aCG aEV,gI]
   omega
theorem bXZ (x:dF) (left:Int) (h0:0<=left) (h1:left<=1048576):fQ Tryz.prog 5 [.agg x.c,I left] (I (lft left x.s)):=by
 rw[dF.gB]
 simp only[dF.aO]
 refine eG 24 bST aAO bS Tryz.func5 λh=>?_
 simp -dsimp -implicitDefEqProofs only[go_sem,Tryz.f5,↓reduceIte]
 refine aH.mk (bAQ x.bR (left) aA aA) ?_
 generalize hL0:lft left (aL.s x.bR)=L0
 simp -dsimp -implicitDefEqProofs only[go_sem,↓reduceIte,Tryz.f5]
 have hs0:=aHO hL0
 refine⟨λhn=>(sJ (by have:=hs0.1 hn;omega)).symm,λhn0=>?_⟩
 have hp0:=hs0.2 hn0
 clear hs0 hL0
 refine aH.mk (aYN _ _ _ (L0) aA aA) ?_
 rw[lM]
 generalize hL1:lft (L0) x.c7.length=L1
 simp -dsimp -implicitDefEqProofs only[go_sem,↓reduceIte,Tryz.f5]
 have uB:=aHO hL1
 refine⟨λhn=>(sJ (by have:=uB.1 hn;omega)).symm,λhn1=>?_⟩
 have hp1:=uB.2 hn1
 clear uB hL1
 refine aH.mk (bAR x.aV (L1) aA aA (λx _ left h0 h1=>(by have hq:=aYN 1 (x.map (λn=>[I n])) false left h0 h1;rw[lM]at hq;exact hq))) ?_
 generalize hL2:lft (L1) (zZ (λx:List Int=>x.length) x.aV)=L2
 simp -dsimp -implicitDefEqProofs only[go_sem,↓reduceIte,Tryz.f5]
 have nA:=aHO hL2
 refine⟨λhn=>(sJ (by have:=nA.1 hn;omega)).symm,λhn2=>?_⟩
 have hp2:=nA.2 hn2
 clear nA hL2
 try(rw[aCG aA];omega)
@[go_sem] def b9V:List Nat:=[0,1,2,4,10,16,23,29,35]
theorem a55 (a b:List aB) (hc:∀ x∈a,∀ y,fQ Tryz.prog 218 [(.agg (aB.c x)),(.agg (aB.c y))] (.bool (decide (x=y)))):fQ Tryz.prog 179 [(dA 5 aB.c a),(dA 5 aB.c b)] (.bool (decide (a=b))):=by
 refine eG 27 aPW cD aPX Tryz.func179 λh=>?_
 simp -dsimp -implicitDefEqProofs only[go_sem,Tryz.f179,↓reduceIte]
 refine λ_ _=>⟨λhne=>?_,λheq=>?_⟩
 ·exact(decide_eq_false λe=>hne iX).symm
 ·refine cY aPW cD aPX (λk:Nat=>[(0,(dA 5 aB.c a)),(1,(dA 5 aB.c b)),(5,I k)]) (λ_=>h) (λk=>k<=a.length/\a.take k=b.take k) (λk=>a.length-k) 0 qA ?_
  intro k ⟨hk,hp⟩
  rcases cX k a.length with hlt|hge
  ·have hlb:k<b.length:=by omega
   have ea:a[k]?=some a[k]:=cJ hlt
   have eb:b[k]?=some b[k]:=cJ hlb
   simp -dsimp -implicitDefEqProofs only[go_sem,↓reduceIte,Tryz.f179,ea,eb,aB.aO]
   refine λ_=>⟨λ_=>⟨hlt,hlb,?_⟩,λhn=>absurd hlt hn⟩
   have hx:=hc a[k] (dX hlt) b[k]
   simp only[aB.aO]at hx
   refine aG.mk hx ?_
   by_cases he:a[k]=b[k]
   ·have d:=decide_eq_true he
    simp -dsimp -implicitDefEqProofs only[go_sem,↓reduceIte,Tryz.f179,d]
    exact⟨k+1,by rw[IntWalk.i64_in _ aA];rfl,⟨by omega,yN hlt hlb hp he⟩,by omega⟩
   ·have d:=decide_eq_false he
    simp -dsimp -implicitDefEqProofs only[go_sem,↓reduceIte,Tryz.f179,d]
    exact(decide_eq_false λe=>he (getElem_of_eq e hlt)).symm
  ·have hk':k=a.length:=by omega
   subst hk'
   simp -dsimp -implicitDefEqProofs only[go_sem,↓reduceIte,Tryz.f179,cO]
   exact λ_=>(decide_eq_true (uE heq hp)).symm
@[go_sem] def bQS:List Nat:=[0,1,2,3,4,9,14,19,24,30]
theorem a1Q (a b:aB) (hk:fQ Tryz.prog 179 [(dA 5 aB.c a.aP),(dA 5 aB.c b.aP)] (.bool (decide (a.aP=b.aP)))):fQ Tryz.prog 218 [.agg a.c,.agg b.c] (.bool (decide (a=b))):=by
 simp only[aB.aO]
 refine eG 31 bQS aWG bS Tryz.func218 λh=>?_
 simp -dsimp -implicitDefEqProofs only[go_sem,Tryz.f218,↓reduceIte]
 refine⟨λhn=>(decide_eq_false λe=>hn iX).symm,λefKind=>?_⟩
 refine⟨λhn=>(decide_eq_false λe=>hn iX).symm,λefNum=>?_⟩
 refine⟨λhn=>(decide_eq_false λe=>hn iX).symm,λefPick=>?_⟩
 refine⟨λhn=>(decide_eq_false λe=>hn iX).symm,λefCount=>?_⟩
 refine aH.mk hk ?_
 by_cases efKids:a.aP=b.aP
 case neg =>
  have d:=decide_eq_false efKids
  simp -dsimp -implicitDefEqProofs only[go_sem,↓reduceIte,Tryz.f218,d]
  exact(decide_eq_false λe=>efKids iX).symm
 have dfKids:=decide_eq_true efKids
 simp -dsimp -implicitDefEqProofs only[go_sem,↓reduceIte,Tryz.f218,dfKids]
 exact(decide_eq_true (aB.eq_iff.2 ⟨efKind,efNum,efPick,efCount,efKids⟩)).symm
theorem bEN (a b:aB):fQ Tryz.prog 218 [.agg a.c,.agg b.c] (.bool (decide (a=b))) :=
 a1Q a b (a55 a.aP b.aP λx hx y=>bEN x y)
termination_by SizeOf.sizeOf a
decreasing_by exact aB.wV hx
theorem bQT (a b:aX):fQ Tryz.prog 136 [.agg a.c,.agg b.c] (.bool (decide (a=b))):=by
 simp only[aX.aO]
 refine eG 21 bSN aWG bS Tryz.func136 λh=>?_
 simp -dsimp -implicitDefEqProofs only[go_sem,Tryz.f136,↓reduceIte]
 refine⟨λhn=>(decide_eq_false λe=>hn iX).symm,λefName=>?_⟩
 refine⟨λhn=>(decide_eq_false λe=>hn iX).symm,λefParams=>?_⟩
 refine aH.mk (a55 a.bG b.bG (λx _ y=>(bEN x y))) ?_
 by_cases efOuts:a.bG=b.bG
 case neg =>
  have d:=decide_eq_false efOuts
  simp -dsimp -implicitDefEqProofs only[go_sem,↓reduceIte,Tryz.f136,d]
  exact(decide_eq_false λe=>efOuts iX).symm
 have dfOuts:=decide_eq_true efOuts
 simp -dsimp -implicitDefEqProofs only[go_sem,↓reduceIte,Tryz.f136,dfOuts]
 exact(decide_eq_true (aX.eq_iff.2 ⟨efName,efParams,efOuts⟩)).symm
theorem bL2 (a b:List aX) (hc:∀ x∈a,∀ y,fQ Tryz.prog 136 [(.agg (aX.c x)),(.agg (aX.c y))] (.bool (decide (x=y)))):fQ Tryz.prog 83 [(dA 3 aX.c a),(dA 3 aX.c b)] (.bool (decide (a=b))):=by
 refine eG 27 aPW cD aPX Tryz.func83 λh=>?_
 simp -dsimp -implicitDefEqProofs only[go_sem,Tryz.f83,↓reduceIte]
 refine λ_ _=>⟨λhne=>?_,λheq=>?_⟩
 ·exact(decide_eq_false λe=>hne iX).symm
 ·refine cY aPW cD aPX (λk:Nat=>[(0,(dA 3 aX.c a)),(1,(dA 3 aX.c b)),(5,I k)]) (λ_=>h) (λk=>k<=a.length/\a.take k=b.take k) (λk=>a.length-k) 0 qA ?_
  intro k ⟨hk,hp⟩
  rcases cX k a.length with hlt|hge
  ·have hlb:k<b.length:=by omega
   have ea:a[k]?=some a[k]:=cJ hlt
   have eb:b[k]?=some b[k]:=cJ hlb
   simp -dsimp -implicitDefEqProofs only[go_sem,↓reduceIte,Tryz.f83,ea,eb,aX.aO]
   refine λ_=>⟨λ_=>⟨hlt,hlb,?_⟩,λhn=>absurd hlt hn⟩
   have hx:=hc a[k] (dX hlt) b[k]
   simp only[aX.aO]at hx
   refine aG.mk hx ?_
   by_cases he:a[k]=b[k]
   ·have d:=decide_eq_true he
    simp -dsimp -implicitDefEqProofs only[go_sem,↓reduceIte,Tryz.f83,d]
    exact⟨k+1,by rw[IntWalk.i64_in _ aA];rfl,⟨by omega,yN hlt hlb hp he⟩,by omega⟩
   ·have d:=decide_eq_false he
    simp -dsimp -implicitDefEqProofs only[go_sem,↓reduceIte,Tryz.f83,d]
    exact(decide_eq_false λe=>he (getElem_of_eq e hlt)).symm
  ·have hk':k=a.length:=by omega
   subst hk'
   simp -dsimp -implicitDefEqProofs only[go_sem,↓reduceIte,Tryz.f83,cO]
   exact λ_=>(decide_eq_true (uE heq hp)).symm
@[go_sem] def bX0:List Nat:=[0,1,2,3,4,10]
theorem bAS (a b:aL):fQ Tryz.prog 32 [.agg a.c,.agg b.c] (.bool (decide (a=b))):=by
 simp only[aL.aO]
 refine eG 11 bX0 aWG bS Tryz.func32 λh=>?_
 simp -dsimp -implicitDefEqProofs only[go_sem,Tryz.f32,↓reduceIte]
 refine aH.mk (bL2 a.aJ b.aJ (λx _ y=>(bQT x y))) ?_
 by_cases efFuncs:a.aJ=b.aJ
 case neg =>
  have d:=decide_eq_false efFuncs
  simp -dsimp -implicitDefEqProofs only[go_sem,↓reduceIte,Tryz.f32,d]
  exact(decide_eq_false λe=>efFuncs iX).symm
 have dfFuncs:=decide_eq_true efFuncs
 simp -dsimp -implicitDefEqProofs only[go_sem,↓reduceIte,Tryz.f32,dfFuncs]
 exact(decide_eq_true (aL.eq_iff.2 efFuncs)).symm
theorem aEC (a b:List Int):fQ Tryz.prog 29 [(dA 1 (λn=>[I n]) a),(dA 1 (λn=>[I n]) b)] (.bool (decide (a=b))):=by
 refine eG 26 bCL cD aXM Tryz.func29 λh=>?_
 simp -dsimp -implicitDefEqProofs only[go_sem,Tryz.f29,↓reduceIte]
 refine λ_ _=>⟨λhne=>?_,λheq=>?_⟩
 ·exact(decide_eq_false λe=>hne iX).symm
 ·refine cY bCL cD aXM (λk:Nat=>[(0,(dA 1 (λn=>[I n]) a)),(1,(dA 1 (λn=>[I n]) b)),(5,I k)]) (λ_=>h) (λk=>k<=a.length/\a.take k=b.take k) (λk=>a.length-k) 0 qA ?_
  intro k ⟨hk,hp⟩
  rcases cX k a.length with hlt|hge
  ·have hlb:k<b.length:=by omega
   have ea:a[k]?=some a[k]:=cJ hlt
   have eb:b[k]?=some b[k]:=cJ hlb
   simp -dsimp -implicitDefEqProofs only[go_sem,↓reduceIte,Tryz.f29,ea,eb]
   refine λ_=>⟨λ_=>⟨hlt,hlb,λhne=>?_,λhe=>?_⟩,λhn=>absurd hlt hn⟩
   ·first
     |exact(decide_eq_false λe=>hne (getElem_of_eq e hlt)).symm
     |exact(decide_eq_false λe=>by have:=getElem_of_eq e hlt (hb:=hlb);rw[this]at hne;simp at hne).symm
   ·exact⟨k+1,by rw[IntWalk.i64_in _ aA];rfl,⟨by omega,yN hlt hlb hp bH1⟩,by omega⟩
  ·have hk':k=a.length:=by omega
   subst hk'
   simp -dsimp -implicitDefEqProofs only[go_sem,↓reduceIte,Tryz.f29,cO]
   exact λ_=>(decide_eq_true (uE heq hp)).symm
theorem bAT (a b:List (List Int)) (hc:∀ x∈a,∀ y,fQ Tryz.prog 29 [(dA 1 (λn=>[I n]) x),(dA 1 (λn=>[I n]) y)] (.bool (decide (x=y)))):fQ Tryz.prog 33 [(dA 1 (λx=>[dA 1 (λn=>[I n]) x]) a),(dA 1 (λx=>[dA 1 (λn=>[I n]) x]) b)] (.bool (decide (a=b))):=by
 refine eG 27 aPW cD aPX Tryz.func33 λh=>?_
 simp -dsimp -implicitDefEqProofs only[go_sem,Tryz.f33,↓reduceIte]
 refine λ_ _=>⟨λhne=>?_,λheq=>?_⟩
 ·exact(decide_eq_false λe=>hne iX).symm
 ·refine cY aPW cD aPX (λk:Nat=>[(0,(dA 1 (λx=>[dA 1 (λn=>[I n]) x]) a)),(1,(dA 1 (λx=>[dA 1 (λn=>[I n]) x]) b)),(5,I k)]) (λ_=>h) (λk=>k<=a.length/\a.take k=b.take k) (λk=>a.length-k) 0 qA ?_
  intro k ⟨hk,hp⟩
  rcases cX k a.length with hlt|hge
  ·have hlb:k<b.length:=by omega
   have ea:a[k]?=some a[k]:=cJ hlt
   have eb:b[k]?=some b[k]:=cJ hlb
   simp -dsimp -implicitDefEqProofs only[go_sem,↓reduceIte,Tryz.f33,ea,eb]
   refine λ_=>⟨λ_=>⟨hlt,hlb,?_⟩,λhn=>absurd hlt hn⟩
   have hx:=hc a[k] (dX hlt) b[k]
   refine aG.mk hx ?_
   by_cases he:a[k]=b[k]
   ·have d:=decide_eq_true he
    simp -dsimp -implicitDefEqProofs only[go_sem,↓reduceIte,Tryz.f33,d]
    exact⟨k+1,by rw[IntWalk.i64_in _ aA];rfl,⟨by omega,yN hlt hlb hp he⟩,by omega⟩
   ·have d:=decide_eq_false he
    simp -dsimp -implicitDefEqProofs only[go_sem,↓reduceIte,Tryz.f33,d]
    exact(decide_eq_false λe=>he (getElem_of_eq e hlt)).symm
  ·have hk':k=a.length:=by omega
   subst hk'
   simp -dsimp -implicitDefEqProofs only[go_sem,↓reduceIte,Tryz.f33,cO]
   exact λ_=>(decide_eq_true (uE heq hp)).symm
@[go_sem] def bX1:List Nat:=[0,1,2,3,4,10,15,20,26,32]
theorem bL3 (a b:dF):fQ Tryz.prog 10 [.agg a.c,.agg b.c] (.bool (decide (a=b))):=by
 simp only[dF.aO]
 refine eG 33 bX1 aWG bS Tryz.func10 λh=>?_
 simp -dsimp -implicitDefEqProofs only[go_sem,Tryz.f10,↓reduceIte]
 refine aH.mk (bAS a.bR b.bR) ?_
 by_cases efProgram:a.bR=b.bR
 case neg =>
  have d:=decide_eq_false efProgram
  simp -dsimp -implicitDefEqProofs only[go_sem,↓reduceIte,Tryz.f10,d]
  exact(decide_eq_false λe=>efProgram iX).symm
 have dfProgram:=decide_eq_true efProgram
 simp -dsimp -implicitDefEqProofs only[go_sem,↓reduceIte,Tryz.f10,dfProgram]
 refine⟨λhn=>(decide_eq_false λe=>hn iX).symm,λefFunc=>?_⟩
 refine⟨λhn=>(decide_eq_false λe=>hn iX).symm,λefShared=>?_⟩
 refine aH.mk (aEC a.c7 b.c7) ?_
 by_cases efPoint:a.c7=b.c7
 case neg =>
  have d:=decide_eq_false efPoint
  simp -dsimp -implicitDefEqProofs only[go_sem,↓reduceIte,Tryz.f10,d]
  exact(decide_eq_false λe=>efPoint iX).symm
 have dfPoint:=decide_eq_true efPoint
 simp -dsimp -implicitDefEqProofs only[go_sem,↓reduceIte,Tryz.f10,dfPoint]
 refine aH.mk (bAT a.aV b.aV (λx _ y=>(aEC x y))) ?_
 by_cases efTerms:a.aV=b.aV
 case neg =>
  have d:=decide_eq_false efTerms
  simp -dsimp -implicitDefEqProofs only[go_sem,↓reduceIte,Tryz.f10,d]
  exact(decide_eq_false λe=>efTerms iX).symm
 have dfTerms:=decide_eq_true efTerms
 simp -dsimp -implicitDefEqProofs only[go_sem,↓reduceIte,Tryz.f10,dfTerms]
 exact(decide_eq_true (dF.eq_iff.2 ⟨efProgram,efFunc,efShared,efPoint,efTerms⟩)).symm
theorem bL4 (a b:List Bool):fQ Tryz.prog 30 [(dA 1 (λb=>[.bool b]) a),(dA 1 (λb=>[.bool b]) b)] (.bool (decide (a=b))):=by
 refine eG 26 bCL cD aXM Tryz.func30 λh=>?_
 simp -dsimp -implicitDefEqProofs only[go_sem,Tryz.f30,↓reduceIte]
 refine λ_ _=>⟨λhne=>?_,λheq=>?_⟩
 ·exact(decide_eq_false λe=>hne iX).symm
 ·refine cY bCL cD aXM (λk:Nat=>[(0,(dA 1 (λb=>[.bool b]) a)),(1,(dA 1 (λb=>[.bool b]) b)),(5,I k)]) (λ_=>h) (λk=>k<=a.length/\a.take k=b.take k) (λk=>a.length-k) 0 qA ?_
  intro k ⟨hk,hp⟩
  rcases cX k a.length with hlt|hge
  ·have hlb:k<b.length:=by omega
   have ea:a[k]?=some a[k]:=cJ hlt
   have eb:b[k]?=some b[k]:=cJ hlb
   simp -dsimp -implicitDefEqProofs only[go_sem,↓reduceIte,Tryz.f30,ea,eb]
   refine λ_=>⟨λ_=>⟨hlt,hlb,λhne=>?_,λhe=>?_⟩,λhn=>absurd hlt hn⟩
   ·first
     |exact(decide_eq_false λe=>hne (getElem_of_eq e hlt)).symm
     |exact(decide_eq_false λe=>by have:=getElem_of_eq e hlt (hb:=hlb);rw[this]at hne;simp at hne).symm
   ·exact⟨k+1,by rw[IntWalk.i64_in _ aA];rfl,⟨by omega,yN hlt hlb hp bH1⟩,by omega⟩
  ·have hk':k=a.length:=by omega
   subst hk'
   simp -dsimp -implicitDefEqProofs only[go_sem,↓reduceIte,Tryz.f30,cO]
   exact λ_=>(decide_eq_true (uE heq hp)).symm
theorem bQU (a b:cR):fQ Tryz.prog 82 [.agg a.c,.agg b.c] (.bool (decide (a=b))):=by
 simp only[cR.aO]
 refine eG 21 bSN aWG bS Tryz.func82 λh=>?_
 simp -dsimp -implicitDefEqProofs only[go_sem,Tryz.f82,↓reduceIte]
 refine⟨λhn=>(decide_eq_false λe=>hn iX).symm,λefCode=>?_⟩
 refine⟨λhn=>(decide_eq_false λe=>hn iX).symm,λefValue=>?_⟩
 refine aH.mk (aEC a.kQ b.kQ) ?_
 by_cases efGrad:a.kQ=b.kQ
 case neg =>
  have d:=decide_eq_false efGrad
  simp -dsimp -implicitDefEqProofs only[go_sem,↓reduceIte,Tryz.f82,d]
  exact(decide_eq_false λe=>efGrad iX).symm
 have dfGrad:=decide_eq_true efGrad
 simp -dsimp -implicitDefEqProofs only[go_sem,↓reduceIte,Tryz.f82,dfGrad]
 exact(decide_eq_true (cR.eq_iff.2 ⟨efCode,efValue,efGrad⟩)).symm
theorem bL5 (a b:List cR) (hc:∀ x∈a,∀ y,fQ Tryz.prog 82 [(.agg (cR.c x)),(.agg (cR.c y))] (.bool (decide (x=y)))):fQ Tryz.prog 31 [(dA 3 cR.c a),(dA 3 cR.c b)] (.bool (decide (a=b))):=by
 refine eG 27 aPW cD aPX Tryz.func31 λh=>?_
 simp -dsimp -implicitDefEqProofs only[go_sem,Tryz.f31,↓reduceIte]
 refine λ_ _=>⟨λhne=>?_,λheq=>?_⟩
 ·exact(decide_eq_false λe=>hne iX).symm
 ·refine cY aPW cD aPX (λk:Nat=>[(0,(dA 3 cR.c a)),(1,(dA 3 cR.c b)),(5,I k)]) (λ_=>h) (λk=>k<=a.length/\a.take k=b.take k) (λk=>a.length-k) 0 qA ?_
  intro k ⟨hk,hp⟩
  rcases cX k a.length with hlt|hge
  ·have hlb:k<b.length:=by omega
   have ea:a[k]?=some a[k]:=cJ hlt
   have eb:b[k]?=some b[k]:=cJ hlb
   simp -dsimp -implicitDefEqProofs only[go_sem,↓reduceIte,Tryz.f31,ea,eb,cR.aO]
   refine λ_=>⟨λ_=>⟨hlt,hlb,?_⟩,λhn=>absurd hlt hn⟩
   have hx:=hc a[k] (dX hlt) b[k]
   simp only[cR.aO]at hx
   refine aG.mk hx ?_
   by_cases he:a[k]=b[k]
   ·have d:=decide_eq_true he
    simp -dsimp -implicitDefEqProofs only[go_sem,↓reduceIte,Tryz.f31,d]
    exact⟨k+1,by rw[IntWalk.i64_in _ aA];rfl,⟨by omega,yN hlt hlb hp he⟩,by omega⟩
   ·have d:=decide_eq_false he
    simp -dsimp -implicitDefEqProofs only[go_sem,↓reduceIte,Tryz.f31,d]
    exact(decide_eq_false λe=>he (getElem_of_eq e hlt)).symm
  ·have hk':k=a.length:=by omega
   subst hk'
   simp -dsimp -implicitDefEqProofs only[go_sem,↓reduceIte,Tryz.f31,cO]
   exact λ_=>(decide_eq_true (uE heq hp)).symm
@[go_sem] def b5F:List Nat:=[0,1,2,3,4,10,16,22,28,34]
theorem aK2 (a b:aI):fQ Tryz.prog 9 [.agg a.c,.agg b.c] (.bool (decide (a=b))):=by
 simp only[aI.aO]
 refine eG 35 b5F aWG bS Tryz.func9 λh=>?_
 simp -dsimp -implicitDefEqProofs only[go_sem,Tryz.f9,↓reduceIte]
 refine aH.mk (bL3 a.bC b.bC) ?_
 by_cases efJob:a.bC=b.bC
 case neg =>
  have d:=decide_eq_false efJob
  simp -dsimp -implicitDefEqProofs only[go_sem,↓reduceIte,Tryz.f9,d]
  exact(decide_eq_false λe=>efJob iX).symm
 have dfJob:=decide_eq_true efJob
 simp -dsimp -implicitDefEqProofs only[go_sem,↓reduceIte,Tryz.f9,dfJob]
 refine aH.mk (aEC a.aT b.aT) ?_
 by_cases efStamps:a.aT=b.aT
 case neg =>
  have d:=decide_eq_false efStamps
  simp -dsimp -implicitDefEqProofs only[go_sem,↓reduceIte,Tryz.f9,d]
  exact(decide_eq_false λe=>efStamps iX).symm
 have dfStamps:=decide_eq_true efStamps
 simp -dsimp -implicitDefEqProofs only[go_sem,↓reduceIte,Tryz.f9,dfStamps]
 refine aH.mk (bL4 a.bW b.bW) ?_
 by_cases efKnown:a.bW=b.bW
 case neg =>
  have d:=decide_eq_false efKnown
  simp -dsimp -implicitDefEqProofs only[go_sem,↓reduceIte,Tryz.f9,d]
  exact(decide_eq_false λe=>efKnown iX).symm
 have dfKnown:=decide_eq_true efKnown
 simp -dsimp -implicitDefEqProofs only[go_sem,↓reduceIte,Tryz.f9,dfKnown]
 refine aH.mk (bL5 a.cQ b.cQ (λx _ y=>(bQU x y))) ?_
 by_cases efParts:a.cQ=b.cQ
 case neg =>
  have d:=decide_eq_false efParts
  simp -dsimp -implicitDefEqProofs only[go_sem,↓reduceIte,Tryz.f9,d]
  exact(decide_eq_false λe=>efParts iX).symm
 have dfParts:=decide_eq_true efParts
 simp -dsimp -implicitDefEqProofs only[go_sem,↓reduceIte,Tryz.f9,dfParts]
 refine aH.mk (aEC a.cC b.cC) ?_
 by_cases efOwners:a.cC=b.cC
 case neg =>
  have d:=decide_eq_false efOwners
  simp -dsimp -implicitDefEqProofs only[go_sem,↓reduceIte,Tryz.f9,d]
  exact(decide_eq_false λe=>efOwners iX).symm
 have dfOwners:=decide_eq_true efOwners
 simp -dsimp -implicitDefEqProofs only[go_sem,↓reduceIte,Tryz.f9,dfOwners]
 exact(decide_eq_true (aI.eq_iff.2 ⟨efJob,efStamps,efKnown,efParts,efOwners⟩)).symm
@[go_sem] def b9W:List Nat:=[0,1,2,3,4,10,16,21,26,32,38]
@[go_sem] def b5G:List Nat:=[0,1,2,4,5,6,7,8,9,10,11,12,13,14,15,16,17,18,21,26,57,62,83,91,94,116,121,124]
@[go_sem] def mk3:Marks:=λid=>match id with|12=>([0,2,3],(.op 1 (.op 0 (.op 2 (.op 3 (.op 4 .nil))))),[(0,2)])|_=>([],.nil,[])
set_option maxHeartbeats 4000000 in
theorem aNC (a:dF) (t:(List UInt8)) (h:Heap):gV Tryz.prog 3 [.agg a.c,(.str t)] h λr _=>r=.bool true:=by
 simp only[dF.aO,aI.aO]
 refine zY 125 b5G aAO mk3 Tryz.func3 ?_
 simp -dsimp -implicitDefEqProofs only[go_sem,↓reduceIte,Tryz.f3,q8,sW,tG,sX,oV,eq_self,decide_true,qO,bne_self_eq_false,aF,dD,OV.aM,OV.aD,OV.aR,dF.aO,aI.aO]
 repeat'(with_reducible first|intro _|refine And.intro ?_ ?_)
 all_goals try(first|exact⟨_,Heap.le_refl _,rfl⟩|exact⟨_,Heap.le_refl _⟩)
 all_goals try omega
 have cED:t.length<=1048576:=by omega
 refine aH.mk (bXZ a 1048576 aA aA) ?_
 generalize hL0:lft 1048576 (dF.s a)=L0
 have hs0:=aHO hL0
 simp -dsimp -implicitDefEqProofs only[go_sem,↓reduceIte,Tryz.f3,q8,sW,tG,sX,oV,eq_self,decide_true,qO,bne_self_eq_false,aF,dD,OV.aM,OV.aD,OV.aR,dF.aO,aI.aO]
 repeat'(with_reducible first|intro _|refine And.intro ?_ ?_)
 all_goals try(first|exact⟨_,Heap.le_refl _,rfl⟩|exact⟨_,Heap.le_refl _⟩)
 all_goals try omega
 have hn0:=hs0.2 aA
 clear hs0 hL0
 have bGQ:(dF.s a)<=1048576:=by omega
 have hseal:=QA.bFP (Replay a t aA aA) (λe he=>aI.qG he) (aHJ [] [I (dZ a t).2.1,I (dZ a t).2.2])
 first|refine aH.mk (aTR a bGQ) ?_|refine aG.mk (aTR a bGQ) ?_
 simp -dsimp -implicitDefEqProofs only[go_sem,↓reduceIte,Tryz.f3,q8,sW,tG,sX,oV,eq_self,decide_true,qO,bne_self_eq_false,aF,dD,OV.aM,OV.aD,OV.aR,dF.aO,aI.aO]
 repeat'(with_reducible first|intro _|refine And.intro ?_ ?_)
 all_goals try trivial
 first|refine aH.mk (QA.bFP (aVQ a t aA aA) (λe he=>aI.qG he) (aHJ [] [I (dZ a t).2.1,I (dZ a t).2.2])) ?_|refine aG.mk (QA.bFP (aVQ a t aA aA) (λe he=>aI.qG he) (aHJ [] [I (dZ a t).2.1,I (dZ a t).2.2])) ?_
 simp -dsimp -implicitDefEqProofs only[go_sem,↓reduceIte,Tryz.f3,q8,sW,tG,sX,oV,eq_self,decide_true,qO,bne_self_eq_false,aF,dD,OV.aM,OV.aD,OV.aR,dF.aO,aI.aO]
 intro nw0 b5H
 have bX2:=b5H
 clear b5H
 try simp -dsimp -implicitDefEqProofs only[go_sem,↓reduceIte,Tryz.f3,q8,sW,tG,sX,oV,eq_self,decide_true,qO,bne_self_eq_false,aF,dD,OV.aM,OV.aD,OV.aR,dF.aO,aI.aO]
 refine aH.wn1 (bOK a bGQ) bX2 ?_
 rintro r l1 g1 ⟨e0_,oe0,rfl,rfl⟩ w1 bL6
 have oo0:=oe0
 obtain⟨aVV,aVW,aVX,rfl,mF,mH,mI⟩:=oo0
 have bL7:kD g1 (OV.cA [aVV,.v (.int .i64 a.bO),.v (.int .i64 a.aQ),aVW,aVX]):=w1.gH
 simp -dsimp -implicitDefEqProofs only[go_sem,↓reduceIte,Tryz.f3,q8,sW,tG,sX,oV,eq_self,decide_true,qO,bne_self_eq_false,aF,dD,OV.aM,OV.aD,OV.aR,dF.aO,aI.aO,mF.flat,mF.one,mH.flat,mH.one,mI.flat,mI.one]
 intro nx0 a56
 have oE:nx0≠nw0:=λe=>by
  first
   |exact a56.1 e
   |(rw[if_pos e]at a56;cases a56)
 have mY:(nx0=nw0)=False:=eq_false oE
 have mZ:(nw0=nx0)=False:=eq_false (λe=>oE e.symm)
 first
  |(rw[if_neg oE]at a56)
  |(replace a56:=a56.2)
 have bL8:=a56
 clear a56
 try simp -dsimp -implicitDefEqProofs only[go_sem,↓reduceIte,Tryz.f3,q8,sW,tG,sX,oV,eq_self,decide_true,qO,bne_self_eq_false,aF,dD,OV.aM,OV.aD,OV.aR,dF.aO,aI.aO,mY,mZ,mF.flat,mF.one,mH.flat,mH.one,mI.flat,mI.one]
 refine aH.wl2 (Replay a t aA aA) (dS.cons (View.bI3 [aVV,.v (.int .i64 a.bO),.v (.int .i64 a.aQ),aVW,aVX] (dF.qG oe0) (kD.up2 bL6 ⟨oE,bL8⟩ bL7)) (dS.cons (View.same _ _) dS.nil)) (QA.eQ (λe he=>aI.tK _ e he) (λx hx=>by simp[aC.eQ,aC.nK,hx])) bL6 ⟨oE,bL8⟩ ?_
 rintro r l2 g2 ⟨eg_,oeg,rfl,rfl⟩ w2 a1R a1S
 have oog:=oeg
 obtain⟨aOY,aOZ,aO0,aO1,aO2,aO3,aO4,rfl,xQ,xR,xS,xT,xU,xV,xW⟩:=oog
 have bL9:kD g2 (OV.cA [aVV,.v (.int .i64 a.bO),.v (.int .i64 a.aQ),aVW,aVX]):=λp hp=>w2.keep (bL7 p hp)
 have b5J:kD g2 (OV.cA [aOY,.v (.int .i64 (dZ a t).1.bC.bO),.v (.int .i64 (dZ a t).1.bC.aQ),aOZ,aO0,aO1,aO2,aO3,aO4]):=w2.gH
 have b5K:∀ m∈cF (OV.cA [aVV,.v (.int .i64 a.bO),.v (.int .i64 a.aQ),aVW,aVX]),m∉cF (OV.cA [aOY,.v (.int .i64 (dZ a t).1.bC.bO),.v (.int .i64 (dZ a t).1.bC.aQ),aOZ,aO0,aO1,aO2,aO3,aO4]):=λm hm hq=>by
  obtain⟨x,hx⟩:=eC.1 hm
  have h1:=w2.fresh m hq
  have h2:=bL7 (m,x) hx
  rw[h1]at h2;cases h2
 have nd0:=w1.nodup
 have ndg:=w2.nodup
 simp -dsimp -implicitDefEqProofs only[go_sem,↓reduceIte,Tryz.f3,q8,sW,tG,sX,oV,eq_self,decide_true,qO,bne_self_eq_false,aF,dD,OV.aM,OV.aD,OV.aR,dF.aO,aI.aO,mY,mZ,mF.flat,mF.one,mH.flat,mH.one,mI.flat,mI.one,xQ.flat,xQ.one,xR.flat,xR.one,xS.flat,xS.one,xT.flat,xT.one,xU.flat,xU.one,xV.flat,xV.one,xW.flat,xW.one]
 intro ng qng
 have tY:ng≠nx0:=λe=>by
  first
   |exact qng.1 e
   |(rw[if_pos e]at qng;cases qng)
 have sR:(ng=nx0)=False:=eq_false tY
 have sS:(nx0=ng)=False:=eq_false (λe=>tY e.symm)
 first
  |(rw[if_neg tY]at qng)
  |(replace qng:=qng.2)
 have tZ:ng≠nw0:=λe=>by
  first
   |exact qng.1 e
   |(rw[if_pos e]at qng;cases qng)
 have sT:(ng=nw0)=False:=eq_false tZ
 have sU:(nw0=ng)=False:=eq_false (λe=>tZ e.symm)
 first
  |(rw[if_neg tZ]at qng)
  |(replace qng:=qng.2)
 have bEO:=qng
 clear qng
 try simp -dsimp -implicitDefEqProofs only[go_sem,↓reduceIte,Tryz.f3,q8,sW,tG,sX,oV,eq_self,decide_true,qO,bne_self_eq_false,aF,dD,OV.aM,OV.aD,OV.aR,dF.aO,aI.aO,mY,mZ,sR,sS,sT,sU,mF.flat,mF.one,mH.flat,mH.one,mI.flat,mI.one,xQ.flat,xQ.one,xR.flat,xR.one,xS.flat,xS.one,xT.flat,xT.one,xU.flat,xU.one,xV.flat,xV.one,xW.flat,xW.one]
 refine aH.aF3 (aK2 (dZ a t).1 (dZ a t).1) (dS.cons (View.bI3 [aOY,.v (.int .i64 (dZ a t).1.bC.bO),.v (.int .i64 (dZ a t).1.bC.aQ),aOZ,aO0,aO1,aO2,aO3,aO4] (aI.qG oeg) (kD.up3 a1R ⟨oE,a1S⟩ ⟨tY,tZ,bEO⟩ b5J)) (dS.cons bHV dS.nil)) rfl ?_
 simp -dsimp -implicitDefEqProofs only[go_sem,↓reduceIte,Tryz.f3,q8,sW,tG,sX,oV,eq_self,decide_true,qO,bne_self_eq_false,aF,dD,OV.aM,OV.aD,OV.aR,dF.aO,aI.aO,mY,mZ,sR,sS,sT,sU,mF.flat,mF.one,mH.flat,mH.one,mI.flat,mI.one,xQ.flat,xQ.one,xR.flat,xR.one,xS.flat,xS.one,xT.flat,xT.one,xU.flat,xU.one,xV.flat,xV.one,xW.flat,xW.one]
 repeat'(with_reducible first|intro _|refine And.intro ?_ ?_)
 all_goals try(first|exact⟨_,Heap.le_refl _,rfl⟩|exact⟨_,Heap.le_refl _⟩)
 all_goals try omega
 refine aH.mk (aTR a bGQ) ?_
 simp -dsimp -implicitDefEqProofs only[go_sem,↓reduceIte,Tryz.f3,q8,sW,tG,sX,oV,eq_self,decide_true,qO,bne_self_eq_false,aF,dD,OV.aM,OV.aD,OV.aR,dF.aO,aI.aO,mY,mZ,sR,sS,sT,sU,mF.flat,mF.one,mH.flat,mH.one,mI.flat,mI.one,xQ.flat,xQ.one,xR.flat,xR.one,xS.flat,xS.one,xT.flat,xT.one,xU.flat,xU.one,xV.flat,xV.one,xW.flat,xW.one]
 repeat'(with_reducible first|intro _|refine And.intro ?_ ?_)
 all_goals try trivial
 refine aH.aF3 (bL3 a a) (dS.cons (View.bI3 [aVV,.v (.int .i64 a.bO),.v (.int .i64 a.aQ),aVW,aVX] (dF.qG oe0) (kD.up3 a1R ⟨oE,a1S⟩ ⟨tY,tZ,bEO⟩ bL9)) (dS.cons bHV dS.nil)) rfl ?_
 simp -dsimp -implicitDefEqProofs only[go_sem,↓reduceIte,Tryz.f3,q8,sW,tG,sX,oV,eq_self,decide_true,qO,bne_self_eq_false,aF,dD,OV.aM,OV.aD,OV.aR,dF.aO,aI.aO,mY,mZ,sR,sS,sT,sU,mF.flat,mF.one,mH.flat,mH.one,mI.flat,mI.one,xQ.flat,xQ.one,xR.flat,xR.one,xS.flat,xS.one,xT.flat,xT.one,xU.flat,xU.one,xV.flat,xV.one,xW.flat,xW.one]
 repeat'(with_reducible first|intro _|refine And.intro ?_ ?_)
 all_goals try(first|exact⟨_,Heap.le_refl _,rfl⟩|exact⟨_,Heap.le_refl _⟩)
 all_goals try omega
 have cEG:=dF.bJQ a _ oe0
 refine aH.wc3 (a52 a [aVV,.v (.int .i64 a.bO),.v (.int .i64 a.aQ),aVW,aVX] (1:Int) _ oe0 aA aA (kD.up3 a1R ⟨oE,a1S⟩ ⟨tY,tZ,bEO⟩ bL9) nd0) bL9 a1R ⟨oE,a1S⟩ ⟨tY,tZ,bEO⟩ ?_
 rintro g3 cg3 bAU bAV bMA
 obtain⟨cc0,b9X⟩:∃ z:Int,z=(1:Int)+((OV.wU [aVV,.v (.int .i64 a.bO),.v (.int .i64 a.aQ),aVW,aVX]:Nat):Int):=⟨_,rfl⟩
 rw[←b9X]
 have bX3:kD g3 (OV.cA [aOY,.v (.int .i64 (dZ a t).1.bC.bO),.v (.int .i64 (dZ a t).1.bC.aQ),aOZ,aO0,aO1,aO2,aO3,aO4]):=λp hp=>by
  have hm:p.1∈cF (OV.cA [aOY,.v (.int .i64 (dZ a t).1.bC.bO),.v (.int .i64 (dZ a t).1.bC.aQ),aOZ,aO0,aO1,aO2,aO3,aO4]):=eC.2 ⟨p.2,hp⟩
  rw[cg3.upto p.1 (λhq=>b5K p.1 hq hm)]
  exact b5J p hp
 simp -dsimp -implicitDefEqProofs only[go_sem,↓reduceIte,Tryz.f3,q8,sW,tG,sX,oV,eq_self,decide_true,qO,bne_self_eq_false,aF,dD,OV.aM,OV.aD,OV.aR,dF.aO,aI.aO,mY,mZ,sR,sS,sT,sU,mF.flat,mF.one,mH.flat,mH.one,mI.flat,mI.one,xQ.flat,xQ.one,xR.flat,xR.one,xS.flat,xS.one,xT.flat,xT.one,xU.flat,xU.one,xV.flat,xV.one,xW.flat,xW.one]
 repeat'(with_reducible first|intro _|refine And.intro ?_ ?_)
 all_goals try(first|exact⟨_,Heap.le_refl _,rfl⟩|exact⟨_,Heap.le_refl _⟩)
 all_goals try omega
 refine aH.aF3 (aK2 (dZ a t).1 (dZ a t).1) (dS.cons (View.bI3 [aOY,.v (.int .i64 (dZ a t).1.bC.bO),.v (.int .i64 (dZ a t).1.bC.aQ),aOZ,aO0,aO1,aO2,aO3,aO4] (aI.qG oeg) (kD.up3 bAU ⟨oE,bAV⟩ ⟨tY,tZ,bMA⟩ bX3)) (dS.cons bHV dS.nil)) rfl ?_
 simp -dsimp -implicitDefEqProofs only[go_sem,↓reduceIte,Tryz.f3,q8,sW,tG,sX,oV,eq_self,decide_true,qO,bne_self_eq_false,aF,dD,OV.aM,OV.aD,OV.aR,dF.aO,aI.aO,mY,mZ,sR,sS,sT,sU,mF.flat,mF.one,mH.flat,mH.one,mI.flat,mI.one,xQ.flat,xQ.one,xR.flat,xR.one,xS.flat,xS.one,xT.flat,xT.one,xU.flat,xU.one,xV.flat,xV.one,xW.flat,xW.one]
 repeat'(with_reducible first|intro _|refine And.intro ?_ ?_)
 all_goals try(first|exact⟨_,Heap.le_refl _,rfl⟩|exact⟨_,Heap.le_refl _⟩)
 all_goals try omega
 have hctg:OV.wU [aOY,.v (.int .i64 (dZ a t).1.bC.bO),.v (.int .i64 (dZ a t).1.bC.aQ),aOZ,aO0,aO1,aO2,aO3,aO4]<=4000000000000000000:=by have h1:=aI.bJQ _ _ oeg;have h2:=bGP a t;omega
 refine aH.wc3 (a1J _ [aOY,.v (.int .i64 (dZ a t).1.bC.bO),.v (.int .i64 (dZ a t).1.bC.aQ),aOZ,aO0,aO1,aO2,aO3,aO4] 1 _ oeg aA aA (kD.up3 bAU ⟨oE,bAV⟩ ⟨tY,tZ,bMA⟩ bX3) ndg) bX3 bAU ⟨oE,bAV⟩ ⟨tY,tZ,bMA⟩ ?_
 rintro g4 cg4 bMB bMC bUG
 obtain⟨ccg,hccg⟩:∃ z:Int,z=1+((OV.wU [aOY,.v (.int .i64 (dZ a t).1.bC.bO),.v (.int .i64 (dZ a t).1.bC.aQ),aOZ,aO0,aO1,aO2,aO3,aO4]:Nat):Int):=⟨_,rfl⟩
 rw[←hccg]
 simp -dsimp -implicitDefEqProofs only[go_sem,↓reduceIte,Tryz.f3,q8,sW,tG,sX,oV,eq_self,decide_true,qO,bne_self_eq_false,aF,dD,OV.aM,OV.aD,OV.aR,dF.aO,aI.aO,mY,mZ,sR,sS,sT,sU,mF.flat,mF.one,mH.flat,mH.one,mI.flat,mI.one,xQ.flat,xQ.one,xR.flat,xR.one,xS.flat,xS.one,xT.flat,xT.one,xU.flat,xU.one,xV.flat,xV.one,xW.flat,xW.one]
 repeat'(with_reducible first|intro _|refine And.intro ?_ ?_)
 all_goals try(first|exact⟨_,Heap.le_refl _,rfl⟩|exact⟨_,Heap.le_refl _⟩)
 all_goals try omega
 have hh:=aNB _ [aOY,.v (.int .i64 (dZ a t).1.bC.bO),.v (.int .i64 (dZ a t).1.bC.aQ),aOZ,aO0,aO1,aO2,aO3,aO4] 1 oeg aA aA
 rw[←hccg]at hh
 refine aH.aF3 hh (dS.cons (View.b1U 1 [aOY,.v (.int .i64 (dZ a t).1.bC.bO),.v (.int .i64 (dZ a t).1.bC.aQ),aOZ,aO0,aO1,aO2,aO3,aO4] (kD.up3 bMB ⟨oE,bMC⟩ ⟨tY,tZ,bUG⟩ cg4.gH)) (dS.cons (View.same _ _) dS.nil)) rfl ?_
 simp -dsimp -implicitDefEqProofs only[go_sem,↓reduceIte,Tryz.f3,q8,sW,tG,sX,oV,eq_self,decide_true,qO,bne_self_eq_false,aF,dD,OV.aM,OV.aD,OV.aR,dF.aO,aI.aO,mY,mZ,sR,sS,sT,sU,mF.flat,mF.one,mH.flat,mH.one,mI.flat,mI.one,xQ.flat,xQ.one,xR.flat,xR.one,xS.flat,xS.one,xT.flat,xT.one,xU.flat,xU.one,xV.flat,xV.one,xW.flat,xW.one]
 repeat'(with_reducible first|intro _|refine And.intro ?_ ?_)
 all_goals try(first|exact⟨_,Heap.le_refl _,rfl⟩|exact⟨_,Heap.le_refl _⟩)
 all_goals try omega
 first|refine aH.mk (aTR a bGQ) ?_|refine aG.mk (aTR a bGQ) ?_
 simp -dsimp -implicitDefEqProofs only[go_sem,↓reduceIte,Tryz.f3,q8,sW,tG,sX,oV,eq_self,decide_true,qO,bne_self_eq_false,aF,dD,OV.aM,OV.aD,OV.aR,dF.aO,aI.aO,mY,mZ,sR,sS,sT,sU,mF.flat,mF.one,mH.flat,mH.one,mI.flat,mI.one,xQ.flat,xQ.one,xR.flat,xR.one,xS.flat,xS.one,xT.flat,xT.one,xU.flat,xU.one,xV.flat,xV.one,xW.flat,xW.one]
 repeat'(with_reducible first|intro _|refine And.intro ?_ ?_)
 all_goals try trivial
 first|refine aH.mk (hseal) ?_|refine aG.mk (hseal) ?_
 simp -dsimp -implicitDefEqProofs only[go_sem,↓reduceIte,Tryz.f3,q8,sW,tG,sX,oV,eq_self,decide_true,qO,bne_self_eq_false,aF,dD,OV.aM,OV.aD,OV.aR,dF.aO,aI.aO,mY,mZ,sR,sS,sT,sU,mF.flat,mF.one,mH.flat,mH.one,mI.flat,mI.one,xQ.flat,xQ.one,xR.flat,xR.one,xS.flat,xS.one,xT.flat,xT.one,xU.flat,xU.one,xV.flat,xV.one,xW.flat,xW.one]
 intro nh qnh
 have a1T:nh≠ng:=λe=>by
  first
   |exact qnh.1 e
   |(rw[if_pos e]at qnh;cases qnh)
 have bAW:(nh=ng)=False:=eq_false a1T
 have bAX:(ng=nh)=False:=eq_false (λe=>a1T e.symm)
 first
  |(rw[if_neg a1T]at qnh)
  |(replace qnh:=qnh.2)
 have aRP:nh≠nx0:=λe=>by
  first
   |exact qnh.1 e
   |(rw[if_pos e]at qnh;cases qnh)
 have a1U:(nh=nx0)=False:=eq_false aRP
 have a1V:(nx0=nh)=False:=eq_false (λe=>aRP e.symm)
 first
  |(rw[if_neg aRP]at qnh)
  |(replace qnh:=qnh.2)
 have aRQ:nh≠nw0:=λe=>by
  first
   |exact qnh.1 e
   |(rw[if_pos e]at qnh;cases qnh)
 have a1W:(nh=nw0)=False:=eq_false aRQ
 have a1X:(nw0=nh)=False:=eq_false (λe=>aRQ e.symm)
 first
  |(rw[if_neg aRQ]at qnh)
  |(replace qnh:=qnh.2)
 have b5L:=qnh
 clear qnh
 try simp -dsimp -implicitDefEqProofs only[go_sem,↓reduceIte,Tryz.f3,q8,sW,tG,sX,oV,eq_self,decide_true,qO,bne_self_eq_false,aF,dD,OV.aM,OV.aD,OV.aR,dF.aO,aI.aO,mY,mZ,sR,sS,sT,sU,bAW,bAX,a1U,a1V,a1W,a1X,mF.flat,mF.one,mH.flat,mH.one,mI.flat,mI.one,xQ.flat,xQ.one,xR.flat,xR.one,xS.flat,xS.one,xT.flat,xT.one,xU.flat,xU.one,xV.flat,xV.one,xW.flat,xW.one]
 refine aH.mk (aK2 (dZ a t).1 (dZ a t).1) ?_
 simp -dsimp -implicitDefEqProofs only[go_sem,↓reduceIte,Tryz.f3,q8,sW,tG,sX,oV,eq_self,decide_true,qO,bne_self_eq_false,aF,dD,OV.aM,OV.aD,OV.aR,dF.aO,aI.aO,mY,mZ,sR,sS,sT,sU,bAW,bAX,a1U,a1V,a1W,a1X,mF.flat,mF.one,mH.flat,mH.one,mI.flat,mI.one,xQ.flat,xQ.one,xR.flat,xR.one,xS.flat,xS.one,xT.flat,xT.one,xU.flat,xU.one,xV.flat,xV.one,xW.flat,xW.one]
 repeat'(with_reducible first|intro _|refine And.intro ?_ ?_)
 all_goals try(first|exact⟨_,Heap.le_refl _,rfl⟩|exact⟨_,Heap.le_refl _⟩)
 all_goals try omega
 have hh:=aNB _ [aOY,.v (.int .i64 (dZ a t).1.bC.bO),.v (.int .i64 (dZ a t).1.bC.aQ),aOZ,aO0,aO1,aO2,aO3,aO4] 1 oeg aA aA
 rw[←hccg]at hh
 refine aH.aF3 hh (dS.cons (View.b1U 1 [aOY,.v (.int .i64 (dZ a t).1.bC.bO),.v (.int .i64 (dZ a t).1.bC.aQ),aOZ,aO0,aO1,aO2,aO3,aO4] (kD.up4 bMB ⟨oE,bMC⟩ ⟨tY,tZ,bUG⟩ ⟨a1T,aRP,aRQ,b5L⟩ cg4.gH)) (dS.cons (View.same _ _) dS.nil)) rfl ?_
 simp -dsimp -implicitDefEqProofs only[go_sem,↓reduceIte,Tryz.f3,q8,sW,tG,sX,oV,eq_self,decide_true,qO,bne_self_eq_false,aF,dD,OV.aM,OV.aD,OV.aR,dF.aO,aI.aO,mY,mZ,sR,sS,sT,sU,bAW,bAX,a1U,a1V,a1W,a1X,mF.flat,mF.one,mH.flat,mH.one,mI.flat,mI.one,xQ.flat,xQ.one,xR.flat,xR.one,xS.flat,xS.one,xT.flat,xT.one,xU.flat,xU.one,xV.flat,xV.one,xW.flat,xW.one]
 repeat'(with_reducible first|intro _|refine And.intro ?_ ?_)
 all_goals try(first|exact⟨_,Heap.le_refl _,rfl⟩|exact⟨_,Heap.le_refl _⟩)
 all_goals try omega
theorem aAV {P:Program} {n:Nat} {t:TypeId} {xs:List aC} (hu:P.underlying t=some (.int .i64)) (h:Dat P n t xs):∃ i:Int,xs=[I i]/\InI i:=by
 match n,h with
 |0,h=>exact h.elim
 |n+1,h =>
  simp only[Dat,hu]at h
  obtain⟨i,rfl,hw⟩:=h
  refine⟨i,rfl,?_⟩
  have h1:IntKind.min .i64=-9223372036854775808:=by decide
  have h2:IntKind.max .i64=9223372036854775807:=by decide
  simp[Lit.wf,IntKind.has,h1,h2]at hw
  unfold InI
  omega
theorem bEP {P:Program} {n:Nat} {t:TypeId} {xs:List aC} (hu:P.underlying t=some .string) (h:Dat P n t xs):∃ s:List UInt8,xs=[.str s]/\True:=by
 match n,h with
 |0,h=>exact h.elim
 |n+1,h =>
  simp only[Dat,hu]at h
  obtain⟨b,rfl⟩:=h
  exact⟨b,rfl,trivial⟩
theorem bEQ {α:Type} {c:α->List aC} {w:α->Prop}:∀ {es:List (List aC)},(∀ y∈es,∃ x,y=c x/\w x)->∃ l:List α,es=l.map c/\∀ x∈l,w x
 | [],_=>⟨[],rfl,by simp⟩
 |e::es,h=>by
  obtain⟨x,rfl,hx⟩:=h _ p6
  obtain⟨l,rfl,hl⟩:=bEQ λy hy=>h y (tF _ hy)
  refine⟨x::l,rfl,λy hy=>?_⟩
  rcases s7.1 hy with rfl|hy
  ·exact hx
  ·exact hl y hy
theorem aA4 {P:Program} {n sz:Nat} {t e:TypeId} {α:Type} {c:α->List aC} {w:α->Prop} {xs:List aC} (hu:P.underlying t=some (.slice e)) (hc:P.cellsOf e=sz) (h:Dat P n t xs)
  (hx:∀ m y,m<n->Dat P m e y->∃ x,y=c x/\w x):∃ l:List α,xs=[dA sz c l]/\∀ x∈l,w x:=by
 match n,h with
 |0,h=>exact h.elim
 |n+1,h =>
  simp only[Dat,hu]at h
  obtain⟨es,rfl,hes⟩:=h
  obtain⟨l,rfl,hl⟩:=bEQ λy hy=>hx n y aA (hes y hy)
  exact⟨l,by rw[hc],hl⟩
theorem kM {α:Type} {xs c r:List α} {o n o':Nat} (h:(xs.drop o).take n=c) (hr:xs.drop o'=r) (ho:o+n=o'):xs.drop o=c++r:=by
 rw[←hr,←ho,←a2B,←h,aR1]
theorem bQX:Tryz.prog.cellsOf 28=5:=by kernel_rfl
theorem aFX:Tryz.prog.cellsOf 2=1:=by kernel_rfl
theorem a58:Tryz.prog.cellsOf 153=1:=by kernel_rfl
theorem aVZ:Tryz.prog.cellsOf 223=5:=by kernel_rfl
theorem bX4:Tryz.prog.cellsOf 9=1:=by kernel_rfl
theorem a6A:Tryz.prog.cellsOf 155=3:=by kernel_rfl
theorem bQY:Tryz.prog.cellsOf 22=1:=by kernel_rfl
theorem bER:Tryz.prog.cellsOf 24=1:=by kernel_rfl
theorem bES:Tryz.prog.cellsOf 25=1:=by kernel_rfl
theorem bQZ:Tryz.prog.cellsOf 26=1:=by kernel_rfl
theorem bET:∀ {n:Nat} {xs:List aC},Dat Tryz.prog n 223 xs->∃ x:aB,xs=x.c/\x.wf
 |0,_,h=>h.elim
 |n+1,xs,h=>by
  simp only[Dat,Tryz.underlying223]at h
  obtain⟨hl,hf⟩:=h
  rw[aVZ]at hl
  have f0:Dat Tryz.prog n 2 ((xs.drop 0).take (Tryz.prog.cellsOf 2)):=hf 0 _ rfl
  rw[aFX]at f0
  obtain⟨x0,e0,w0⟩:=(aAV Tryz.underlying2 f0)
  have f1:Dat Tryz.prog n 2 ((xs.drop 1).take (Tryz.prog.cellsOf 2)):=hf 1 _ rfl
  rw[aFX]at f1
  obtain⟨x1,e1,w1⟩:=(aAV Tryz.underlying2 f1)
  have f2:Dat Tryz.prog n 2 ((xs.drop 2).take (Tryz.prog.cellsOf 2)):=hf 2 _ rfl
  rw[aFX]at f2
  obtain⟨x2,e2,w2⟩:=(aAV Tryz.underlying2 f2)
  have f3:Dat Tryz.prog n 2 ((xs.drop 3).take (Tryz.prog.cellsOf 2)):=hf 3 _ rfl
  rw[aFX]at f3
  obtain⟨x3,e3,w3⟩:=(aAV Tryz.underlying2 f3)
  have f4:Dat Tryz.prog n 153 ((xs.drop 4).take (Tryz.prog.cellsOf 153)):=hf 4 _ rfl
  rw[a58]at f4
  obtain⟨x4,e4,w4⟩:=(aA4 (c:=aB.c) (w:=(λx=>x.wf)) Tryz.underlying153 aVZ f4 (λm y hm hy=>(bET hy)))
  have r5:xs.drop 5=[]:=aV4 aA
  have r4:=kM e4 r5 rfl
  have r3:=kM e3 r4 rfl
  have r2:=kM e2 r3 rfl
  have r1:=kM e1 r2 rfl
  have r0:=kM e0 r1 rfl
  exact⟨.mk x0 x1 x2 x3 x4,by rw[aB.aO];exact r0,.mk _ w0 w1 w2 w3 w4⟩
termination_by n=>n
decreasing_by all_goals omega
theorem bQ0:∀ {n:Nat} {xs:List aC},Dat Tryz.prog n 155 xs->∃ x:aX,xs=x.c/\x.wf
 |0,_,h=>h.elim
 |n+1,xs,h=>by
  simp only[Dat,Tryz.underlying155]at h
  obtain⟨hl,hf⟩:=h
  rw[a6A]at hl
  have f0:Dat Tryz.prog n 9 ((xs.drop 0).take (Tryz.prog.cellsOf 9)):=hf 0 _ rfl
  rw[bX4]at f0
  obtain⟨x0,e0,w0⟩:=(bEP Tryz.underlying9 f0)
  have f1:Dat Tryz.prog n 2 ((xs.drop 1).take (Tryz.prog.cellsOf 2)):=hf 1 _ rfl
  rw[aFX]at f1
  obtain⟨x1,e1,w1⟩:=(aAV Tryz.underlying2 f1)
  have f2:Dat Tryz.prog n 153 ((xs.drop 2).take (Tryz.prog.cellsOf 153)):=hf 2 _ rfl
  rw[a58]at f2
  obtain⟨x2,e2,w2⟩:=(aA4 (c:=aB.c) (w:=(λx=>x.wf)) Tryz.underlying153 aVZ f2 (λm y hm hy=>(bET hy)))
  have r3:xs.drop 3=[]:=aV4 aA
  have r2:=kM e2 r3 rfl
  have r1:=kM e1 r2 rfl
  have r0:=kM e0 r1 rfl
  exact⟨⟨x0,x1,x2⟩,r0,⟨w1,w2⟩⟩
theorem bX5:∀ {n:Nat} {xs:List aC},Dat Tryz.prog n 24 xs->∃ x:aL,xs=x.c/\x.wf
 |0,_,h=>h.elim
 |n+1,xs,h=>by
  simp only[Dat,Tryz.underlying24]at h
  obtain⟨hl,hf⟩:=h
  rw[bER]at hl
  have f0:Dat Tryz.prog n 22 ((xs.drop 0).take (Tryz.prog.cellsOf 22)):=hf 0 _ rfl
  rw[bQY]at f0
  obtain⟨x0,e0,w0⟩:=(aA4 (c:=aX.c) (w:=(λx=>x.wf)) Tryz.underlying22 a6A f0 (λm y hm hy=>(bQ0 hy)))
  have r1:xs.drop 1=[]:=aV4 aA
  have r0:=kM e0 r1 rfl
  exact⟨⟨x0⟩,r0,w0⟩
theorem bX6:∀ {n:Nat} {xs:List aC},Dat Tryz.prog n 28 xs->∃ x:dF,xs=x.c/\x.wf
 |0,_,h=>h.elim
 |n+1,xs,h=>by
  simp only[Dat,Tryz.underlying28]at h
  obtain⟨hl,hf⟩:=h
  rw[bQX]at hl
  have f0:Dat Tryz.prog n 24 ((xs.drop 0).take (Tryz.prog.cellsOf 24)):=hf 0 _ rfl
  rw[bER]at f0
  obtain⟨x0,e0,w0⟩:=(bX5 f0)
  have f1:Dat Tryz.prog n 2 ((xs.drop 1).take (Tryz.prog.cellsOf 2)):=hf 1 _ rfl
  rw[aFX]at f1
  obtain⟨x1,e1,w1⟩:=(aAV Tryz.underlying2 f1)
  have f2:Dat Tryz.prog n 2 ((xs.drop 2).take (Tryz.prog.cellsOf 2)):=hf 2 _ rfl
  rw[aFX]at f2
  obtain⟨x2,e2,w2⟩:=(aAV Tryz.underlying2 f2)
  have f3:Dat Tryz.prog n 25 ((xs.drop 3).take (Tryz.prog.cellsOf 25)):=hf 3 _ rfl
  rw[bES]at f3
  obtain⟨x3,e3,w3⟩:=(aA4 (c:=(λn=>[I n])) (w:=(λx=>InI x)) Tryz.underlying25 aFX f3 (λm y hm hy=>(aAV Tryz.underlying2 hy)))
  have f4:Dat Tryz.prog n 26 ((xs.drop 4).take (Tryz.prog.cellsOf 26)):=hf 4 _ rfl
  rw[bQZ]at f4
  obtain⟨x4,e4,w4⟩:=(aA4 (c:=(λx=>[dA 1 (λn=>[I n]) x])) (w:=(λx=>(∀ y∈x,InI y))) Tryz.underlying26 bES f4 (λm y hm hy=>(aA4 (c:=(λn=>[I n])) (w:=(λx=>InI x)) Tryz.underlying25 aFX hy (λm y hm hy=>(aAV Tryz.underlying2 hy)))))
  have r5:xs.drop 5=[]:=aV4 aA
  have r4:=kM e4 r5 rfl
  have r3:=kM e3 r4 rfl
  have r2:=kM e2 r3 rfl
  have r1:=kM e1 r2 rfl
  have r0:=kM e0 r1 rfl
  exact⟨⟨x0,x1,x2,x3,x4⟩,r0,⟨w0,w1,w2,w3,w4⟩⟩
def b5M:List TypeId:=[2,4,9,22,24,25,26,28,35,47,49,50,51,53,135,137,153,155,223]
theorem bQ1:bFJ Tryz.prog b5M=true:=by kernel_rfl
end Go.Hl

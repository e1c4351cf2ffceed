/-
  Contracts of functions and laws of the layer over the walk.
-/
import Derived.Test.YtchbdakgjlnbgaaGreatDoorVvA
import Derived.Test.YtchbdakgjlnbgaaGreatDoorHlD
namespace Go.Hl
open Go.Proofs
set_option linter.unusedVariables false
set_option linter.unusedSimpArgs false
mutual
def aB.o:aB->List OV->Prop
 | .mk bH bZ dR dB aP,e=>∃ y,e=[.v (.int .i64 bH),.v (.int .i64 bZ),.v (.int .i64 dR),.v (.int .i64 dB),y]/\((y=.nil 5/\aP=[])∨∃ n es,y=.sl n 5 es/\aB.oR aP es)
def aB.oR:List aB->List (List OV)->Prop
 | [],[]=>True
 |x::l,e::es=>x.o e/\aB.oR l es
 | _,_=>False
end
theorem aB.bSY:∀ (l:List aB) (es:List (List OV)),aB.oR l es=OR aB.o l es
 | [],[]=>rfl
 |x::l,e::es=>by rw[aB.oR,OR,aB.bSY l es]
 | [],_::_=>rfl
 | _::_,[]=>rfl
theorem aB.tJ (x:aB) (e:List OV):x.o e↔∃ y4,e=[.v (.int .i64 x.bH),.v (.int .i64 x.bZ),.v (.int .i64 x.dR),.v (.int .i64 x.dB),y4]/\OS aB.o 5 x.aP y4:=by
 cases x
 simp only[aB.o,aB.bSY,OS]
 rfl
mutual
theorem aB.qG:∀ {x:aB} {e:List OV},x.o e->e.map OV.nD=x.c
 | .mk bH bZ dR dB aP,e,h=>by
  rw[aB.tJ]at h
  obtain⟨y,rfl,h⟩:=h
  have hk:y.nD=.sl 5 (aP.map aB.c) false:=by
   rcases h with⟨rfl,h0⟩|⟨n,es,rfl,h⟩
   ·have h1:aP=[]:=h0
    subst h1;rfl
   ·simp only[OV.nD]
    rw[aB.bJP h]
    rfl
  rw[aB.aO]
  simp only[nE,xL,OV.nD,hk]
  rfl
theorem aB.bJP:∀ {l:List aB} {es:List (List OV)},OR aB.o l es->OV.cW es=l.map aB.c
 | [],[],_=>rfl
 |x::l,e::es,h=>by rw[OV.cW,aB.bJP h.2,OV.aE9,aB.qG h.1];rfl
 | [],_::_,h=>h.elim
 | _::_,[],h=>h.elim
end
def aX.o (x:aX) (e:List OV):Prop:=∃ y2,e=[.v (.str x.fG),.v (.int .i64 x.bN),y2]/\OS aB.o 5 x.bG y2
theorem aX.qG {x:aX} {e:List OV} (h:x.o e):e.map OV.nD=x.c:=by
 obtain⟨y2,rfl,o2⟩:=h
 have d2:=OS.nD (c:=aB.c) (λ_ _ q=>aB.qG q) o2
 rw[aX.aO]
 simp only[nE,xL,OV.nD,d2]
def aL.o (x:aL) (e:List OV):Prop:=∃ y0,e=[y0]/\OS aX.o 3 x.aJ y0
def dF.o (x:dF) (e:List OV):Prop:=∃ y0 y3 y4,e=[y0,.v (.int .i64 x.bO),.v (.int .i64 x.aQ),y3,y4]/\OS aX.o 3 x.bR.aJ y0/\OS (oP I) 1 x.c7 y3/\OS (oS (oP I) 1) 1 x.aV y4
theorem dF.qG {x:dF} {e:List OV} (h:x.o e):e.map OV.nD=x.c:=by
 obtain⟨y0,y3,y4,rfl,o0,o3,o4⟩:=h
 have d0:=OS.nD (c:=aX.c) (λ_ _ q=>aX.qG q) o0
 have d3:=OS.nD (c:=(λn=>[I n])) (λ_ _ q=>yJ q) o3
 have d4:=OS.nD (c:=(λx=>[dA 1 (λn=>[I n]) x])) (λ_ _ q=>bIZ (c:=(λn=>[I n])) (λ_ _ q=>yJ q) q) o4
 rw[dF.aO]
 simp only[nE,xL,OV.nD,d0,d3,d4]
def cR.o (x:cR) (e:List OV):Prop:=∃ y2,e=[.v (.int .i64 x.cU),.v (.int .i64 x.iL),y2]/\OS (oP I) 1 x.kQ y2
theorem cR.qG {x:cR} {e:List OV} (h:x.o e):e.map OV.nD=x.c:=by
 obtain⟨y2,rfl,o2⟩:=h
 have d2:=OS.nD (c:=(λn=>[I n])) (λ_ _ q=>yJ q) o2
 rw[cR.aO]
 simp only[nE,xL,OV.nD,d2]
def aI.o (x:aI) (e:List OV):Prop:=∃ y0 y3 y4 y5 y6 y7 y8,e=[y0,.v (.int .i64 x.bC.bO),.v (.int .i64 x.bC.aQ),y3,y4,y5,y6,y7,y8]/\OS aX.o 3 x.bC.bR.aJ y0/\OS (oP I) 1 x.bC.c7 y3/\OS (oS (oP I) 1) 1 x.bC.aV y4/\OS (oP I) 1 x.aT y5/\OS (oP aC.bool) 1 x.bW y6/\OS cR.o 3 x.cQ y7/\OS (oP I) 1 x.cC y8
theorem aI.qG {x:aI} {e:List OV} (h:x.o e):e.map OV.nD=x.c:=by
 obtain⟨y0,y3,y4,y5,y6,y7,y8,rfl,o0,o3,o4,o5,o6,o7,o8⟩:=h
 have d0:=OS.nD (c:=aX.c) (λ_ _ q=>aX.qG q) o0
 have d3:=OS.nD (c:=(λn=>[I n])) (λ_ _ q=>yJ q) o3
 have d4:=OS.nD (c:=(λx=>[dA 1 (λn=>[I n]) x])) (λ_ _ q=>bIZ (c:=(λn=>[I n])) (λ_ _ q=>yJ q) q) o4
 have d5:=OS.nD (c:=(λn=>[I n])) (λ_ _ q=>yJ q) o5
 have d6:=OS.nD (c:=(λb=>[.bool b])) (λ_ _ q=>yJ q) o6
 have d7:=OS.nD (c:=cR.c) (λ_ _ q=>cR.qG q) o7
 have d8:=OS.nD (c:=(λn=>[I n])) (λ_ _ q=>yJ q) o8
 rw[aI.aO]
 simp only[nE,xL,OV.nD,d0,d3,d4,d5,d6,d7,d8]
theorem aB.tK (x:aB) (e:List OV) (h:x.o e):OV.l5 e=true:=by
 rw[aB.tJ]at h
 obtain⟨y4,rfl,o4⟩:=h
 have d4:=OS.aL6 (λz hz e q=>aB.tK z e q) o4
 simp[OV.l5,OV.sol,aC.eQ,d4]
termination_by SizeOf.sizeOf x
decreasing_by exact aB.wV hz
theorem aB.aTS (x:aB) (e:List OV) (h:x.o e):OV.kN e<=16*(1+x.s):=by
 rw[aB.tJ]at h
 obtain⟨y4,rfl,o4⟩:=h
 have d4:=OS.cts (s:=aB.s) o4 (λz hz e q=>aB.aTS z e q)
 have s0:=aB.gB x
 clear o4
 simp only[OV.kN,OV.aBJ]
 refine aIX (p7 (eV 1) (p7 (eV 1) (p7 (eV 1) (p7 (eV 1) (p7 d4 (eV 0)))))) ?_
 clear d4
 try generalize (zZ aB.s x.aP)=z4 at *
 omega
termination_by SizeOf.sizeOf x
decreasing_by exact aB.wV hz
theorem aX.tK (x:aX) (e:List OV) (h:x.o e):OV.l5 e=true:=by
 obtain⟨y2,rfl,o2⟩:=h
 have d2:=OS.aL6 (λz hz e q=>aB.tK z e q) o2
 simp[OV.l5,OV.sol,aC.eQ,d2]
theorem aX.aTS (x:aX) (e:List OV) (h:x.o e):OV.kN e<=16*(1+x.s):=by
 obtain⟨y2,rfl,o2⟩:=h
 have d2:=OS.cts (s:=aB.s) o2 (λz hz e q=>aB.aTS z e q)
 have s0:=aX.gB x
 clear o2
 simp only[OV.kN,OV.aBJ]
 refine aIX (p7 (eV 1) (p7 (eV 1) (p7 d2 (eV 0)))) ?_
 clear d2
 try generalize (zZ aB.s x.bG)=z2 at *
 omega
theorem dF.aTS (x:dF) (e:List OV) (h:x.o e):OV.kN e<=16*(1+x.s):=by
 obtain⟨y0,y3,y4,rfl,o0,o3,o4⟩:=h
 have d0:=OS.cts (s:=aX.s) o0 (λz hz e q=>aX.aTS z e q)
 have d3:=o3.ctP
 have d4:=OS.cts (s:=(λx:List Int=>x.length)) o4 (λz hz e q=>bI2 q)
 have s0:=dF.gB x
 have s1:=aL.gB (x.bR)
 clear o0 o3 o4
 simp only[OV.kN,OV.aBJ]
 refine aIX (p7 d0 (p7 (eV 1) (p7 (eV 1) (p7 d3 (p7 d4 (eV 0)))))) ?_
 clear d0
 clear d3
 clear d4
 try generalize (zZ aX.s x.bR.aJ)=z0 at *
 try generalize x.c7.length=z3 at *
 try generalize (zZ (λx:List Int=>x.length) x.aV)=z4 at *
 omega
theorem dF.bJQ (x:dF) (e:List OV) (h:x.o e):OV.wU e<=16*(1+x.s):=by
 have h1:=dF.aTS x e h
 have h2:∀ e:List OV,OV.wU e<=OV.kN e:=λe=>by
  induction e with
  |nil=>simp[OV.wU]
  |cons a e ih=>rw[OV.wU,OV.kN];cases a <;> simp[OV.vK] <;> omega
 exact aIX (h2 e) h1
theorem cR.tK (x:cR) (e:List OV) (h:x.o e):OV.l5 e=true:=by
 obtain⟨y2,rfl,o2⟩:=h
 have d2:=OS.aL6 (λ_ _ _ q=>aN0 (λ_=>rfl) q) o2
 simp[OV.l5,OV.sol,aC.eQ,d2]
theorem cR.aTS (x:cR) (e:List OV) (h:x.o e):OV.kN e<=16*(1+x.s):=by
 obtain⟨y2,rfl,o2⟩:=h
 have d2:=o2.ctP
 have s0:=cR.gB x
 clear o2
 simp only[OV.kN,OV.aBJ]
 refine aIX (p7 (eV 1) (p7 (eV 1) (p7 d2 (eV 0)))) ?_
 clear d2
 try generalize x.kQ.length=z2 at *
 omega
theorem aI.tK (x:aI) (e:List OV) (h:x.o e):OV.l5 e=true:=by
 obtain⟨y0,y3,y4,y5,y6,y7,y8,rfl,o0,o3,o4,o5,o6,o7,o8⟩:=h
 have d0:=OS.aL6 (λz hz e q=>aX.tK z e q) o0
 have d3:=OS.aL6 (λ_ _ _ q=>aN0 (λ_=>rfl) q) o3
 have d4:=OS.aL6 (λz hz e q=>bOA (λ_ _ _ q=>aN0 (λ_=>rfl) q) q) o4
 have d5:=OS.aL6 (λ_ _ _ q=>aN0 (λ_=>rfl) q) o5
 have d6:=OS.aL6 (λ_ _ _ q=>aN0 (λ_=>rfl) q) o6
 have d7:=OS.aL6 (λz hz e q=>cR.tK z e q) o7
 have d8:=OS.aL6 (λ_ _ _ q=>aN0 (λ_=>rfl) q) o8
 simp[OV.l5,OV.sol,aC.eQ,d0,d3,d4,d5,d6,d7,d8]
theorem aI.aTS (x:aI) (e:List OV) (h:x.o e):OV.kN e<=16*(1+x.s):=by
 obtain⟨y0,y3,y4,y5,y6,y7,y8,rfl,o0,o3,o4,o5,o6,o7,o8⟩:=h
 have d0:=OS.cts (s:=aX.s) o0 (λz hz e q=>aX.aTS z e q)
 have d3:=o3.ctP
 have d4:=OS.cts (s:=(λx:List Int=>x.length)) o4 (λz hz e q=>bI2 q)
 have d5:=o5.ctP
 have d6:=o6.ctP
 have d7:=OS.cts (s:=cR.s) o7 (λz hz e q=>cR.aTS z e q)
 have d8:=o8.ctP
 have s0:=aI.gB x
 have s1:=dF.gB (x.bC)
 have s2:=aL.gB (x.bC.bR)
 clear o0 o3 o4 o5 o6 o7 o8
 simp only[OV.kN,OV.aBJ]
 refine aIX (p7 d0 (p7 (eV 1) (p7 (eV 1) (p7 d3 (p7 d4 (p7 d5 (p7 d6 (p7 d7 (p7 d8 (eV 0)))))))))) ?_
 clear d0
 clear d3
 clear d4
 clear d5
 clear d6
 clear d7
 clear d8
 try generalize (zZ aX.s x.bC.bR.aJ)=z0 at *
 try generalize x.bC.c7.length=z3 at *
 try generalize (zZ (λx:List Int=>x.length) x.bC.aV)=z4 at *
 try generalize x.aT.length=z5 at *
 try generalize x.bW.length=z6 at *
 try generalize (zZ cR.s x.cQ)=z7 at *
 try generalize x.cC.length=z8 at *
 omega
theorem aI.bJQ (x:aI) (e:List OV) (h:x.o e):OV.wU e<=16*(1+x.s):=by
 have h1:=aI.aTS x e h
 have h2:∀ e:List OV,OV.wU e<=OV.kN e:=λe=>by
  induction e with
  |nil=>simp[OV.wU]
  |cons a e ih=>rw[OV.wU,OV.kN];cases a <;> simp[OV.vK] <;> omega
 exact aIX (h2 e) h1
set_option maxRecDepth 100000
theorem aXT (l:List aB) (h1:l.length<=1048576) (hc:∀ x∈l,qK Tryz.prog 199 [(.agg (aB.c x))] (QA x.o)):qK Tryz.prog 165 [(dA 5 aB.c l)] (QS (OS aB.o 5 l)):=by
 refine tA 23 aGD cD bS Tryz.func165 λh=>?_
 simp -dsimp -implicitDefEqProofs only[go_sem,↓reduceIte,Tryz.f165]
 refine λ_=>⟨by omega,by omega,by omega,by omega,λn hn=>?_⟩
 refine cY aGD cD bS (λx:Nat×List (List OV)×Heap=>[(0,(dA 5 aB.c l)),(3,.os n 5 0 l.length),(4,I x.1)]) (λx=>bL x.2.2 n (.row 5 (OV.cells x.2.1++(List.replicate (l.length-x.1) [.int .i64 0,.int .i64 0,.int .i64 0,.int .i64 0,.aU]).map (List.map .v)))) (λx=>x.1<=l.length/\OR aB.o (l.take x.1) x.2.1/\eO h (OV.bV x.2.1) x.2.2/\x.2.2 n=none) (λx=>l.length-x.1) (0,[],h) (by
  exact⟨by simp[eE,dJ],Heap.le_refl _,iF _,trivial,eO.nil h,hn⟩) ?_
 rintro⟨k,es,g⟩ ⟨hk,hor,hnew,hgn⟩
 have hlen:es.length=k:=by have:=hor.length;simp at this;omega
 rcases cX k l.length with hlt|hge
 ·have ea:l[k]?=some l[k]:=cJ hlt
  have eg:∀ m,m=l.length-k->(OV.cells es++(List.replicate m [.int .i64 0,.int .i64 0,.int .i64 0,.int .i64 0,.aU]).map (List.map Cell.v))[k]?=some ([.int .i64 0,.int .i64 0,.int .i64 0,.int .i64 0,.aU].map .v):=λm hm=>aTK hlen aA
  simp -dsimp -implicitDefEqProofs only[go_sem,↓reduceIte,Tryz.f165,ea,aB.aO]
  refine λ_=>⟨λ_=>⟨hlt,?_⟩,λhn=>absurd hlt hn⟩
  have hx:=hc l[k] (dX hlt)
  simp only[aB.aO]at hx
  refine aH.nw1 hx hgn ?_
  rintro r l1 g1 ⟨e0,he0,rfl,rfl⟩ hn1 w1
  have he1:=he0
  rw[aB.tJ]at he1
  obtain⟨zA,rfl,p4⟩:=he1
  simp -dsimp -implicitDefEqProofs only[go_sem,↓reduceIte,Tryz.f165,eg _ rfl,aF,OV.aM,OV.aD,OV.aR,p4.flat]
  refine⟨hlt,(k+1,es++[[.v (.int .i64 l[k].bH),.v (.int .i64 l[k].bZ),.v (.int .i64 l[k].dR),.v (.int .i64 l[k].dB),zA]],g1),?_⟩
  simp only
  have hf:=aTJ (z:=[.int .i64 0,.int .i64 0,.int .i64 0,.int .i64 0,.aU]) [.v (.int .i64 l[k].bH),.v (.int .i64 l[k].bZ),.v (.int .i64 l[k].dR),.v (.int .i64 l[k].dB),zA] hlen (m:=l.length-k) aA [Cell.v (.int .i64 l[k].bH),Cell.v (.int .i64 l[k].bZ),Cell.v (.int .i64 l[k].dR),Cell.v (.int .i64 l[k].dB),Cell.v zA.val] rfl
  rw[hf,show l.length-k-1=l.length-(k+1)by omega]
  refine⟨by rw[IntWalk.i64_in _ aA];rfl,Heap.le_refl _,⟨by omega,?_,?_,w1⟩,by omega⟩
  ·rw[kF hlt]
   exact OR.append hor ⟨he0,trivial⟩
  ·rw[y9]
   exact hnew.append hn1
 ·have hk':k=l.length:=by omega
  subst hk'
  simp -dsimp -implicitDefEqProofs only[go_sem,↓reduceIte,Tryz.f165,cO]
  refine λ_=>⟨_,_,_,cE _ _,⟨.sl n 5 es,OS.mk (by simpa using hor),by simp[OV.val,hlen,dJ],rfl⟩,?_⟩
  rw[OV.fF]
  simpa using hnew.row hgn
theorem aWH (x:aB) (hs:x.s<=1048576) (hk:qK Tryz.prog 165 [(dA 5 aB.c x.aP)] (QS (OS aB.o 5 x.aP))):qK Tryz.prog 199 [.agg x.c] (QA x.o):=by
 rw[aB.gB]at hs
 simp only[aB.aO]
 refine tA 21 aZE aDX bS Tryz.func199 λh=>?_
 simp -dsimp -implicitDefEqProofs only[go_sem,↓reduceIte,Tryz.f199,aF]
 intro n2 a0 n3 b0
 have e1:(n2=n3)=False:=eq_false λe=>b0.1 e.symm
 have e2:(n3=n2)=False:=eq_false b0.1
 have w0:=eO.nil h
 have hb0:=b0.2
 have hzfKids:(x.aP).length+((x.aP).map aB.s).sum=(zZ aB.s x.aP):=rfl
 refine aH.nw2 hk a0 ⟨b0.1,hb0⟩ ?_
 rintro r l1 g1 ⟨y1,o1,rfl,rfl⟩ w1 a1 oF
 simp -dsimp -implicitDefEqProofs only[go_sem,↓reduceIte,Tryz.f199,aF,dD,e1,e2,OV.aM,OV.aD,OV.aR,o1.flat,o1.one]
 have w1t:=w0.append w1
 refine⟨_,g1,_,Shift.of (Sub.refl _) ?_,⟨[.v (.int .i64 x.bH),.v (.int .i64 x.bZ),.v (.int .i64 x.dR),.v (.int .i64 x.dB),y1],?_,rfl,rfl⟩,?_⟩
 ·exact qC a1 (qC oF (qC a1 (Heap.le_refl _)))
 ·rw[aB.tJ];exact⟨y1,rfl,o1⟩
 ·simpa only[OV.b7,OV.cV,OV.dV,pR,gU,oW]using w1t
theorem a4K (x:aB) (hs:x.s<=1048576):qK Tryz.prog 199 [.agg x.c] (QA x.o) :=
 aWH x hs (aXT x.aP (by rw[aB.gB]at hs;rw[gI]at hs;omega) λy hy=>a4K y bRO)
termination_by SizeOf.sizeOf x
decreasing_by exact aB.wV hy
theorem bJR (x:aX) (hs:x.s<=1048576):qK Tryz.prog 122 [.agg x.c] (QA x.o):=by
 rw[aX.gB]at hs
 simp only[aX.aO]
 refine tA 15 aZE aDX bS Tryz.func122 λh=>?_
 simp -dsimp -implicitDefEqProofs only[go_sem,↓reduceIte,Tryz.f122,aF]
 intro n2 a0 n3 b0
 have e1:(n2=n3)=False:=eq_false λe=>b0.1 e.symm
 have e2:(n3=n2)=False:=eq_false b0.1
 have w0:=eO.nil h
 have hb0:=b0.2
 have hzfOuts:(x.bG).length+((x.bG).map aB.s).sum=(zZ aB.s x.bG):=rfl
 refine aH.nw2 (aXT x.bG aA (λy hy=>a4K y bRM)) a0 ⟨b0.1,hb0⟩ ?_
 rintro r l1 g1 ⟨y1,o1,rfl,rfl⟩ w1 a1 oF
 simp -dsimp -implicitDefEqProofs only[go_sem,↓reduceIte,Tryz.f122,aF,dD,e1,e2,OV.aM,OV.aD,OV.aR,o1.flat,o1.one]
 have w1t:=w0.append w1
 refine⟨_,g1,_,Shift.of (Sub.refl _) ?_,⟨[.v (.str x.fG),.v (.int .i64 x.bN),y1],?_,rfl,rfl⟩,?_⟩
 ·exact qC a1 (qC oF (qC a1 (Heap.le_refl _)))
 ·exact⟨y1,rfl,o1⟩
 ·simpa only[OV.b7,OV.cV,OV.dV,pR,gU,oW]using w1t
theorem bFV (l:List aX) (h1:l.length<=1048576) (hc:∀ x∈l,qK Tryz.prog 122 [(.agg (aX.c x))] (QA x.o)):qK Tryz.prog 71 [(dA 3 aX.c l)] (QS (OS aX.o 3 l)):=by
 refine tA 23 aGD cD bS Tryz.func71 λh=>?_
 simp -dsimp -implicitDefEqProofs only[go_sem,↓reduceIte,Tryz.f71]
 refine λ_=>⟨by omega,by omega,by omega,by omega,λn hn=>?_⟩
 refine cY aGD cD bS (λx:Nat×List (List OV)×Heap=>[(0,(dA 3 aX.c l)),(3,.os n 3 0 l.length),(4,I x.1)]) (λx=>bL x.2.2 n (.row 3 (OV.cells x.2.1++(List.replicate (l.length-x.1) [.str [],.int .i64 0,.aU]).map (List.map .v)))) (λx=>x.1<=l.length/\OR aX.o (l.take x.1) x.2.1/\eO h (OV.bV x.2.1) x.2.2/\x.2.2 n=none) (λx=>l.length-x.1) (0,[],h) (by
  exact⟨by simp[eE,dJ],Heap.le_refl _,iF _,trivial,eO.nil h,hn⟩) ?_
 rintro⟨k,es,g⟩ ⟨hk,hor,hnew,hgn⟩
 have hlen:es.length=k:=by have:=hor.length;simp at this;omega
 rcases cX k l.length with hlt|hge
 ·have ea:l[k]?=some l[k]:=cJ hlt
  have eg:∀ m,m=l.length-k->(OV.cells es++(List.replicate m [.str [],.int .i64 0,.aU]).map (List.map Cell.v))[k]?=some ([.str [],.int .i64 0,.aU].map .v):=λm hm=>aTK hlen aA
  simp -dsimp -implicitDefEqProofs only[go_sem,↓reduceIte,Tryz.f71,ea,aX.aO]
  refine λ_=>⟨λ_=>⟨hlt,?_⟩,λhn=>absurd hlt hn⟩
  have hx:=hc l[k] (dX hlt)
  simp only[aX.aO]at hx
  refine aH.nw1 hx hgn ?_
  rintro r l1 g1 ⟨e0,he0,rfl,rfl⟩ hn1 w1
  have he1:=he0
  obtain⟨y_2,rfl,o_2⟩:=he1
  simp -dsimp -implicitDefEqProofs only[go_sem,↓reduceIte,Tryz.f71,eg _ rfl,aF,OV.aM,OV.aD,OV.aR,o_2.flat]
  refine⟨hlt,(k+1,es++[[.v (.str l[k].fG),.v (.int .i64 l[k].bN),y_2]],g1),?_⟩
  simp only
  have hf:=aTJ (z:=[.str [],.int .i64 0,.aU]) [.v (.str l[k].fG),.v (.int .i64 l[k].bN),y_2] hlen (m:=l.length-k) aA [Cell.v (.str l[k].fG),Cell.v (.int .i64 l[k].bN),Cell.v y_2.val] rfl
  rw[hf,show l.length-k-1=l.length-(k+1)by omega]
  refine⟨by rw[IntWalk.i64_in _ aA];rfl,Heap.le_refl _,⟨by omega,?_,?_,w1⟩,by omega⟩
  ·rw[kF hlt]
   exact OR.append hor ⟨he0,trivial⟩
  ·rw[y9]
   exact hnew.append hn1
 ·have hk':k=l.length:=by omega
  subst hk'
  simp -dsimp -implicitDefEqProofs only[go_sem,↓reduceIte,Tryz.f71,cO]
  refine λ_=>⟨_,_,_,cE _ _,⟨.sl n 3 es,OS.mk (by simpa using hor),by simp[OV.val,hlen,dJ],rfl⟩,?_⟩
  rw[OV.fF]
  simpa using hnew.row hgn
theorem a4L (x:aL) (hs:x.s<=1048576):qK Tryz.prog 24 [.agg x.c] (QA x.o):=by
 rw[aL.gB]at hs
 simp only[aL.aO]
 refine tA 9 aZE aDX bS Tryz.func24 λh=>?_
 simp -dsimp -implicitDefEqProofs only[go_sem,↓reduceIte,Tryz.f24,aF]
 intro n2 a0 n3 b0
 have e1:(n2=n3)=False:=eq_false λe=>b0.1 e.symm
 have e2:(n3=n2)=False:=eq_false b0.1
 have w0:=eO.nil h
 have hb0:=b0.2
 have hzfFuncs:(x.aJ).length+((x.aJ).map aX.s).sum=(zZ aX.s x.aJ):=rfl
 refine aH.nw2 (bFV x.aJ aA (λy hy=>bJR y bRL)) a0 ⟨b0.1,hb0⟩ ?_
 rintro r l1 g1 ⟨y1,o1,rfl,rfl⟩ w1 a1 oF
 simp -dsimp -implicitDefEqProofs only[go_sem,↓reduceIte,Tryz.f24,aF,dD,e1,e2,OV.aM,OV.aD,OV.aR,o1.flat,o1.one]
 have w1t:=w0.append w1
 refine⟨_,g1,_,Shift.of (Sub.refl _) ?_,⟨[y1],?_,rfl,rfl⟩,?_⟩
 ·exact qC a1 (qC oF (qC a1 (Heap.le_refl _)))
 ·exact⟨y1,rfl,o1⟩
 ·simpa only[OV.b7,OV.cV,OV.dV,pR,gU,oW]using w1t
theorem aTT (l:List Int) (h1:l.length<=1048576):qK Tryz.prog 25 [(dA 1 (λn=>[I n]) l)] (QS (OS (oP I) 1 l)):=by
 refine tA 22 aGD cD bS Tryz.func25 λh=>?_
 simp -dsimp -implicitDefEqProofs only[go_sem,↓reduceIte,Tryz.f25]
 refine λ_=>⟨by omega,by omega,by omega,by omega,λn hn=>?_⟩
 refine cY aGD cD bS (λk:Nat=>[(0,(dA 1 (λn=>[I n]) l)),(3,.os n 1 0 l.length),(4,I k)]) (λk=>bL h n (.row 1 (rO (λn=>[I n]) [.int .i64 0] l k))) (λk=>k<=l.length) (λk=>l.length-k) 0 a2W ?_
 intro k hk
 rcases cX k l.length with hlt|hge
 ·have ea:l[k]?=some l[k]:=cJ hlt
  simp -dsimp -implicitDefEqProofs only[go_sem,↓reduceIte,Tryz.f25,ea,rP _ _ _ _ hlt]
  refine λ_=>⟨λ_=>⟨hlt,hlt,k+1,by rw[IntWalk.i64_in _ aA];rfl,?_,by omega,by omega⟩,λhn=>absurd hlt hn⟩
  exact aL9 hlt rfl
 ·have hk':k=l.length:=by omega
  subst hk'
  simp -dsimp -implicitDefEqProofs only[go_sem,↓reduceIte,Tryz.f25,cO]
  rw[aBM]
  refine λ_=>⟨_,_,_,cE _ _,⟨.sl n 1 (l.map λx=>[.v (I x)]),OS.mk (uA l),by simp[OV.val,dJ],rfl⟩,?_⟩
  rw[OV.fF,wS,sG]
  exact eO.one hn
theorem a4M (l:List (List Int)) (h1:l.length<=1048576) (hc:∀ x∈l,qK Tryz.prog 25 [(dA 1 (λn=>[I n]) x)] (QS (OS (oP I) 1 x))):qK Tryz.prog 26 [(dA 1 (λx=>[dA 1 (λn=>[I n]) x]) l)] (QS (OS (oS (oP I) 1) 1 l)):=by
 refine tA 23 aGD cD bS Tryz.func26 λh=>?_
 simp -dsimp -implicitDefEqProofs only[go_sem,↓reduceIte,Tryz.f26]
 refine λ_=>⟨by omega,by omega,by omega,by omega,λn hn=>?_⟩
 refine cY aGD cD bS (λx:Nat×List (List OV)×Heap=>[(0,(dA 1 (λx=>[dA 1 (λn=>[I n]) x]) l)),(3,.os n 1 0 l.length),(4,I x.1)]) (λx=>bL x.2.2 n (.row 1 (OV.cells x.2.1++(List.replicate (l.length-x.1) [.aU]).map (List.map .v)))) (λx=>x.1<=l.length/\OR (oS (oP I) 1) (l.take x.1) x.2.1/\eO h (OV.bV x.2.1) x.2.2/\x.2.2 n=none) (λx=>l.length-x.1) (0,[],h) (by
  exact⟨by simp[eE,dJ],Heap.le_refl _,iF _,trivial,eO.nil h,hn⟩) ?_
 rintro⟨k,es,g⟩ ⟨hk,hor,hnew,hgn⟩
 have hlen:es.length=k:=by have:=hor.length;simp at this;omega
 rcases cX k l.length with hlt|hge
 ·have ea:l[k]?=some l[k]:=cJ hlt
  have eg:∀ m,m=l.length-k->(OV.cells es++(List.replicate m [.aU]).map (List.map Cell.v))[k]?=some ([.aU].map .v):=λm hm=>aTK hlen aA
  simp -dsimp -implicitDefEqProofs only[go_sem,↓reduceIte,Tryz.f26,ea]
  refine λ_=>⟨λ_=>⟨hlt,?_⟩,λhn=>absurd hlt hn⟩
  have hx:=hc l[k] (dX hlt)
  refine aH.nw1 hx hgn ?_
  rintro r l1 g1 ⟨y0,o0,rfl,rfl⟩ hn1 w1
  have he0:(oS (oP I) 1) l[k] [y0]:=⟨y0,rfl,o0⟩
  simp -dsimp -implicitDefEqProofs only[go_sem,↓reduceIte,Tryz.f26,eg _ rfl,aF,o0.flat,o0.one]
  refine⟨hlt,(k+1,es++[[y0]],g1),?_⟩
  simp only
  have hf:=aTJ (z:=[.aU]) [y0] hlen (m:=l.length-k) aA [Cell.v y0.val] rfl
  rw[hf,show l.length-k-1=l.length-(k+1)by omega]
  refine⟨by rw[IntWalk.i64_in _ aA];rfl,Heap.le_refl _,⟨by omega,?_,?_,w1⟩,by omega⟩
  ·rw[kF hlt]
   exact OR.append hor ⟨he0,trivial⟩
  ·rw[y9]
   have:=hnew.append hn1
   simpa only[OV.b7,OV.cV,gU]using this
 ·have hk':k=l.length:=by omega
  subst hk'
  simp -dsimp -implicitDefEqProofs only[go_sem,↓reduceIte,Tryz.f26,cO]
  refine λ_=>⟨_,_,_,cE _ _,⟨.sl n 1 es,OS.mk (by simpa using hor),by simp[OV.val,hlen,dJ],rfl⟩,?_⟩
  rw[OV.fF]
  simpa using hnew.row hgn
theorem bOK (x:dF) (hs:x.s<=1048576):qK Tryz.prog 7 [.agg x.c] (QA x.o):=by
 rw[dF.gB]at hs
 simp only[dF.aO]
 refine tA 23 aZE aDX bS Tryz.func7 λh=>?_
 simp -dsimp -implicitDefEqProofs only[go_sem,↓reduceIte,Tryz.f7,aF]
 intro n2 a0 n3 b0
 have e1:(n2=n3)=False:=eq_false λe=>b0.1 e.symm
 have e2:(n3=n2)=False:=eq_false b0.1
 have w0:=eO.nil h
 have hb0:=b0.2
 have hzfTerms:(x.aV).length+((x.aV).map (λx:List Int=>x.length)).sum=(zZ (λx:List Int=>x.length) x.aV):=rfl
 refine aH.nw2 (a4L x.bR aA) a0 ⟨b0.1,hb0⟩ ?_
 rintro r l1 g1 ⟨e1_,o1,rfl,rfl⟩ w1 a1 oF
 have oo1:=o1
 obtain⟨b12,rfl,a7M⟩:=oo1
 simp -dsimp -implicitDefEqProofs only[go_sem,↓reduceIte,Tryz.f7,aF,dD,e1,e2,OV.aM,OV.aD,OV.aR,a7M.flat,a7M.one]
 have w1t:=w0.append w1
 refine aH.nw2 (aTT x.c7 aA) a1 ⟨b0.1,oF⟩ ?_
 rintro r l2 g2 ⟨y2,o2,rfl,rfl⟩ w2 a2 mL
 simp -dsimp -implicitDefEqProofs only[go_sem,↓reduceIte,Tryz.f7,aF,dD,e1,e2,OV.aM,OV.aD,OV.aR,a7M.flat,a7M.one,o2.flat,o2.one]
 have w2t:=w1t.append w2
 refine aH.nw2 (a4M x.aV aA (λy hy=>aTT y bRB)) a2 ⟨b0.1,mL⟩ ?_
 rintro r l3 g3 ⟨y3,o3,rfl,rfl⟩ w3 a3 hb3
 simp -dsimp -implicitDefEqProofs only[go_sem,↓reduceIte,Tryz.f7,aF,dD,e1,e2,OV.aM,OV.aD,OV.aR,a7M.flat,a7M.one,o2.flat,o2.one,o3.flat,o3.one]
 have w3t:=w2t.append w3
 refine⟨_,g3,_,Shift.of (Sub.refl _) ?_,⟨[b12,.v (.int .i64 x.bO),.v (.int .i64 x.aQ),y2,y3],?_,rfl,rfl⟩,?_⟩
 ·exact qC a3 (qC hb3 (qC a3 (Heap.le_refl _)))
 ·exact⟨b12,y2,y3,rfl,a7M,o2,o3⟩
 ·simpa only[OV.b7,OV.cV,OV.dV,pR,gU,oW]using w3t
theorem aCJ (a b:List Int):fQ Tryz.prog 105 [(dA 1 (λn=>[I n]) a),(dA 1 (λn=>[I n]) b)] (.bool (decide (a=b))):=by
 refine eG 26 bSP cD aXM Tryz.func105 λh=>?_
 simp -dsimp -implicitDefEqProofs only[go_sem,↓reduceIte,Tryz.f105]
 refine λ_ _=>⟨λhne=>?_,λheq=>?_⟩
 ·exact(decide_eq_false λe=>hne iX).symm
 ·refine λ_=>?_
  refine cY bSP cD aXM (λk:Nat=>[(0,(dA 1 (λn=>[I n]) a)),(1,(dA 1 (λn=>[I n]) b)),(12,I a.length),(13,I k)]) (λ_=>h) (λk=>k<=a.length/\a.take k=b.take k) (λk=>a.length-k) 0 qA ?_
  intro k ⟨hk,hp⟩
  rcases cX k a.length with hlt|hge
  ·have hlb:k<b.length:=by omega
   have ea:a[k]?=some a[k]:=cJ hlt
   have eb:b[k]?=some b[k]:=cJ hlb
   simp -dsimp -implicitDefEqProofs only[go_sem,↓reduceIte,Tryz.f105,ea,eb]
   refine⟨λ_=>⟨hlt,hlb,λhne=>?_,λhe=>?_⟩,λhn=>absurd hlt hn⟩
   ·first
     |exact(decide_eq_false λe=>hne (getElem_of_eq e hlt)).symm
     |exact(decide_eq_false λe=>by have:=getElem_of_eq e hlt (hb:=hlb);rw[this]at hne;simp at hne).symm
   ·exact⟨k+1,by rw[IntWalk.i64_in _ aA];rfl,⟨by omega,yN hlt hlb hp bH1⟩,by omega⟩
  ·have hk':k=a.length:=by omega
   subst hk'
   simp -dsimp -implicitDefEqProofs only[go_sem,↓reduceIte,Tryz.f105,cO]
   exact(decide_eq_true (uE heq hp)).symm
theorem bJS (a b:cR):fQ Tryz.prog 98 [.agg a.c,.agg b.c] (.bool (decide (a=b))):=by
 simp only[cR.aO]
 refine eG 24 bSM aWG bS Tryz.func98 λh=>?_
 simp -dsimp -implicitDefEqProofs only[go_sem,↓reduceIte,Tryz.f98]
 repeat'(with_reducible first|intro _|refine And.intro ?_ ?_)
 all_goals try(first|(simp[cR.eq_iff, *];done)|omega|(grind[cR.eq_iff])|(simp[cR.eq_iff];omega))
 first|refine aH.mk (aCJ a.kQ b.kQ) ?_|refine aG.mk (aCJ a.kQ b.kQ) ?_|refine aH.cN (aCJ a.kQ b.kQ) ?_|refine aG.mk (cG.fO (aCJ a.kQ b.kQ)) ?_
 simp -dsimp -implicitDefEqProofs only[go_sem,↓reduceIte,Tryz.f98]
 all_goals try(first|(simp[cR.eq_iff, *];done)|omega|(grind[cR.eq_iff])|(simp[cR.eq_iff];omega))
def Low (c:UInt8):Prop:=97<=c.toNat/\c.toNat<=122
def Dig (c:UInt8):Prop:=48<=c.toNat/\c.toNat<=57
instance (c:UInt8):Decidable (Low c):=inferInstanceAs (Decidable (_/\_))
instance (c:UInt8):Decidable (Dig c):=inferInstanceAs (Decidable (_/\_))
def aJT (s:List UInt8):Prop:=1<=s.length/\s.length<=12/\(∀ c,s[0]?=some c->Low c)/\∀ c∈s,Low c∨Dig c
noncomputable instance (s:List UInt8):Decidable (aJT s):=Classical.propDecidable _
theorem aXU {s:List UInt8} {k:Nat} {c:UInt8} (h:k<s.length) (ec:s[k]=c) (hp:∀ x∈s.take k,Low x∨Dig x) (he:Low c∨Dig c):∀ x∈s.take (k+1),Low x∨Dig x :=
 mN (P:=λx=>Low x∨Dig x) h hp (by rw[ec];exact he)
theorem a4N {s:List UInt8} {k:Nat} {c:UInt8} (h:k<s.length) (ec:s[k]=c) (he:¬(Low c∨Dig c)):false=decide (aJT s) :=
 (decide_eq_false λe=>he (ec▸e.2.2.2 _ (dX h))).symm
theorem bFW {s:List UInt8} {k:Nat} {c:UInt8} (h:k<s.length) (h0:(k:Int)=0) (ec:s[k]=c) (he:¬Low c):false=decide (aJT s) :=
 (decide_eq_false fun e => he (e.2.2.1 c (by have : k = 0 := by omega
                                             subst this;rw[cJ h,ec]))).symm
@[go_sem] def aZM:List Nat:=[0,2,3,17,21,45]
theorem aFF (s:List UInt8):fQ Tryz.prog 156 [.str s] (.bool (decide (aJT s))):=by
 cases s with
 |nil =>
  refine eG 46 aZM cD bS Tryz.func156 λh=>?_
  simp -dsimp -implicitDefEqProofs only[go_sem,↓reduceIte,Tryz.f156]
  first|refine aH.mk (gC 0 1 12) ?_|refine aG.mk (gC 0 1 12) ?_|refine aH.cN (gC 0 1 12) ?_|refine aG.mk (cG.fO (gC 0 1 12)) ?_
  simp -dsimp -implicitDefEqProofs only[go_sem,↓reduceIte,Tryz.f156]
  repeat'(with_reducible first|intro _|refine And.intro ?_ ?_)
  all_goals try(first|(simp[aJT, *];done)|omega|(grind[aJT])|(simp[aJT];omega))
 |cons c t =>
  refine eG 46 aZM cD bS Tryz.func156 λh=>?_
  simp -dsimp -implicitDefEqProofs only[go_sem,↓reduceIte,Tryz.f156,a6N,bMZ]
  intro _
  first|refine aH.mk (gC (c::t).length 1 12) ?_|refine aG.mk (gC (c::t).length 1 12) ?_|refine aH.cN (gC (c::t).length 1 12) ?_|refine aG.mk (cG.fO (gC (c::t).length 1 12)) ?_
  simp -dsimp -implicitDefEqProofs only[go_sem,↓reduceIte,Tryz.f156,a6N,bMZ]
  repeat'(with_reducible first|intro _|refine And.intro ?_ ?_)
  all_goals try(first|(simp[aJT,Low,Dig, *];done)|omega|(grind[aJT,Low,Dig])|(simp[aJT,Low,Dig];omega))
  rename_i h0 h1 h2 h3
  generalize hs:c::t=s at *
  refine cY aZM cD bS (λk:Nat=>[(0,.str s),(3,I k)]) (λ_=>h) (λk=>k<=s.length/\∀ x∈s.take k,Low x∨Dig x) (λk=>s.length-k) 0 qA ?_
  intro k ⟨hk,hp⟩
  rcases cX k s.length with hlt|hge
  ·generalize ec:s[k]=d
   have ea:s[k]?=some d:=by rw[←ec];exact cJ hlt
   simp -dsimp -implicitDefEqProofs only[go_sem,↓reduceIte,Tryz.f156,ea,aA7]
   repeat'(with_reducible first|intro _|refine And.intro ?_ ?_)
   all_goals try omega
   all_goals try exact a4N hlt ec bBV
   all_goals
    refine⟨k+1,?_⟩
    repeat'(with_reducible refine And.intro ?_ ?_)
    all_goals try(rw[IntWalk.i64_in _ aA];first|rfl|omega)
    all_goals try omega
    all_goals try(repeat'(with_reducible first|exact Heap.le_refl _|refine(aW jI).2 ?_))
    exact aXU hlt ec hp bBV
  ·have hk':k=s.length:=by omega
   subst hk'
   rw[eJ]at hp
   simp -dsimp -implicitDefEqProofs only[go_sem,↓reduceIte,Tryz.f156,cO]
   have:s.length=t.length+1:=by rw[←hs];rfl
   exact λ_=>(decide_eq_true ⟨by omega,by omega,λx hx=>by rw[←hs]at hx;simp at hx;subst hx;simp only[Low];omega,hp⟩).symm
@[go_sem] def bCW:List Nat:=[0,2,3,5,6,7,34]
theorem aZN (s:List UInt8):fQ Tryz.prog 166 [.str s] (.bool (decide (aJT s))):=by
 refine eG 44 bCW cD bS Tryz.func166 λh=>?_
 simp -dsimp -implicitDefEqProofs only[go_sem,↓reduceIte,Tryz.f166]
 repeat'(with_reducible first|intro _|refine And.intro ?_ ?_)
 refine cY bCW cD bS (λk:Nat=>[(0,.str s),(5,I s.length),(6,I k)]) (λ_=>h) (λk=>k<=s.length/\(∀ x∈s.take k,Low x∨Dig x)/\(0<k->∀ c,s[0]?=some c->Low c)) (λk=>s.length-k) 0 qA ?_
 intro k ⟨hk,hp,hz⟩
 rcases cX k s.length with hlt|hge
 ·generalize ec:s[k]=d
  have ea:s[k]?=some d:=by rw[←ec];exact cJ hlt
  have hz':Low d∨¬((k:Int)=0)->∀ c,s[0]?=some c->Low c:=by
   intro q c hc
   by_cases h0:k=0
   ·subst h0
    rw[ea]at hc
    obtain rfl:=eN hc
    exact q.resolve_right bF
   ·exact hz aA c hc
  simp -dsimp -implicitDefEqProofs only[go_sem,↓reduceIte,Tryz.f166,ea,aA7]
  repeat'(with_reducible first|intro _|refine And.intro ?_ ?_)
  all_goals try omega
  all_goals try exact a4N hlt ec bBV
  all_goals try exact bFW hlt aA ec (by simp only[Low];omega)
  all_goals
   refine⟨k+1,?_⟩
   repeat'(with_reducible refine And.intro ?_ ?_)
   all_goals try(rw[IntWalk.i64_in _ aA];first|rfl|omega)
   all_goals try omega
   all_goals try(repeat'(with_reducible first|exact Heap.le_refl _|refine(aW jI).2 ?_))
   all_goals first|exact aXU hlt ec hp bBV|exact λ_=>hz' (by simp only[Low];omega)
 ·have hk':k=s.length:=by omega
  subst hk'
  rw[eJ]at hp
  simp -dsimp -implicitDefEqProofs only[go_sem,↓reduceIte,Tryz.f166,cO]
  repeat'(with_reducible first|intro _|refine And.intro ?_ ?_)
  all_goals simp only[aJT,decide_eq_decide,eq_comm (a:=false),decide_eq_false_iff_not]
  all_goals grind
mutual
def aB.d:aB->Nat
 | .mk _ _ _ _ kids=>aB.dL kids+1
def aB.dL:List aB->Nat
 | []=>0
 |x::l=>max x.d (aB.dL l)
end
theorem aB.b14 (x:aB):x.d=aB.dL x.aP+1:=by cases x;rfl
theorem aB.aZO:∀ {l:List aB} {k:Nat} (h:k<l.length),aB.dL (l.take (k+1))=max (aB.dL (l.take k)) l[k].d
 |x::l,0,_=>by simp[aB.dL]
 |x::l,k+1,h=>by
  have:=aB.aZO (l:=l) (k:=k) (by simpa using h)
  simp only[bA2,aB.dL,this,List.getElem_cons_succ]
  omega
mutual
theorem aB.bVR:∀ x:aB,x.d<=x.s+1
 | .mk _ _ _ _ kids=>by
  have:=aB.bSZ kids
  simp only[aB.d,aB.s];omega
theorem aB.bSZ:∀ l:List aB,aB.dL l<=l.length+aB.sL l
 | []=>by simp[aB.dL]
 |x::l=>by
  have h1:=aB.bVR x
  have h2:=aB.bSZ l
  simp only[aB.dL,aB.sL,al6];omega
end
theorem aB.a2Z {x y:aB} (h:y∈x.aP):y.s<x.s:=by
 have h1:=pT aB.s h
 have h2:=List.length_pos_of_mem h
 rw[x.gB,gI];omega
theorem aB.bJT (x:aB) {k:Nat} (h:k<x.aP.length):k+((x.aP.take k).map aB.s).sum+x.aP[k].s+1<=x.s:=by
 have h1:=kE aB.s x.aP k h
 have h2:=rN aB.s x.aP (k+1)
 rw[x.gB,gI];omega
theorem aB.bS0 (x:aB):x.aP.length+((x.aP.take x.aP.length).map aB.s).sum=x.s:=by
 rw[eJ,x.gB,gI]
theorem aWJ (x:aB) (hs:x.s<=4294967296) (hc:∀ y∈x.aP,fQ Tryz.prog 170 [.agg y.c] (I ((y.s:Int)+1))):fQ Tryz.prog 170 [.agg x.c] (I ((x.s:Int)+1)):=by
 have hx:=x.bS0
 rw[aB.aO x]
 refine eG 19 bCM aDX bS Tryz.func170 λh=>?_
 simp -dsimp -implicitDefEqProofs only[go_sem,↓reduceIte,Tryz.f170]
 repeat'(with_reducible first|intro _|refine And.intro ?_ ?_)
 refine cY bCM aDX bS (λk:Nat=>[(1,.ip 5 [x.c] 0 0),(3,I (1+k+(((x.aP.take k).map aB.s).sum:Int))),(7,dA 5 aB.c x.aP),(8,I x.aP.length),(9,I k)]) (λ_=>h) (λk=>k<=x.aP.length) (λk=>x.aP.length-k) 0 (by simp[eE,dJ,Heap.le_refl,aB.aO]) ?_
 intro k hk
 rcases cX k x.aP.length with hlt|hge
 ·have ea:x.aP[k]?=some x.aP[k]:=cJ hlt
  have hp:=x.bJT hlt
  have h1:=kE aB.s x.aP k hlt
  have hcy:=hc x.aP[k] (dX hlt)
  simp only[aB.aO]at hcy
  simp -dsimp -implicitDefEqProofs only[go_sem,↓reduceIte,Tryz.f170,ea,aB.aO,aF]
  repeat'(with_reducible first|intro _|refine And.intro ?_ ?_)
  all_goals try omega
  first|refine aH.mk (hcy) ?_|refine aG.mk (hcy) ?_|refine aH.cN (hcy) ?_|refine aG.mk (cG.fO (hcy)) ?_
  simp -dsimp -implicitDefEqProofs only[go_sem,↓reduceIte,Tryz.f170]
  rename_i n hn
  refine⟨k+1,?_⟩
  repeat'(with_reducible refine And.intro ?_ ?_)
  all_goals try(rw[IntWalk.i64_in _ aA];first|rfl|omega)
  all_goals try omega
  all_goals try(repeat'(with_reducible first|exact Heap.le_refl _|refine(aW jI).2 ?_))
  all_goals try(simp only[aB.aO];done)
 ·have hk':k=x.aP.length:=by omega
  subst hk'
  simp -dsimp -implicitDefEqProofs only[go_sem,↓reduceIte,Tryz.f170,cO]
  omega
theorem aTU (x:aB) (hs:x.s<=4294967296):fQ Tryz.prog 170 [.agg x.c] (I ((x.s:Int)+1)) :=
 aWJ x hs λy hy=>aTU y bBT
termination_by SizeOf.sizeOf x
decreasing_by exact aB.wV hy
theorem aTV (x:aB) (hs:x.s<=4294967296) (hc:∀ y∈x.aP,fQ Tryz.prog 202 [.agg y.c] (I (y.d:Int))):fQ Tryz.prog 202 [.agg x.c] (I (x.d:Int)):=by
 have hd:=x.bVR
 rw[aB.b14]at hd ⊢
 rw[aB.aO x]
 refine eG 20 bCM aDX bS Tryz.func202 λh=>?_
 simp -dsimp -implicitDefEqProofs only[go_sem,↓reduceIte,Tryz.f202]
 repeat'(with_reducible first|intro _|refine And.intro ?_ ?_)
 refine cY bCM aDX bS (λk:Nat=>[(1,.ip 5 [x.c] 0 0),(3,I (aB.dL (x.aP.take k):Int)),(7,dA 5 aB.c x.aP),(8,I x.aP.length),(9,I k)]) (λ_=>h) (λk=>k<=x.aP.length) (λk=>x.aP.length-k) 0 (by simp[eE,dJ,Heap.le_refl,aB.aO,aB.dL]) ?_
 intro k hk
 rcases cX k x.aP.length with hlt|hge
 ·have ea:x.aP[k]?=some x.aP[k]:=cJ hlt
  have h1:=aB.aZO hlt
  have hcy:=hc x.aP[k] (dX hlt)
  simp only[aB.aO]at hcy
  simp -dsimp -implicitDefEqProofs only[go_sem,↓reduceIte,Tryz.f202,ea,aB.aO,aF]
  repeat'(with_reducible first|intro _|refine And.intro ?_ ?_)
  all_goals try omega
  first|refine aH.mk (hcy) ?_|refine aG.mk (hcy) ?_|refine aH.cN (hcy) ?_|refine aG.mk (cG.fO (hcy)) ?_
  simp -dsimp -implicitDefEqProofs only[go_sem,↓reduceIte,Tryz.f202]
  repeat'(with_reducible first|intro _|refine And.intro ?_ ?_)
  all_goals try rfl
  rename_i n hn
  refine⟨k+1,?_⟩
  repeat'(with_reducible refine And.intro ?_ ?_)
  all_goals try(rw[IntWalk.i64_in _ aA];first|rfl|omega)
  all_goals try omega
  all_goals try(repeat'(with_reducible first|exact Heap.le_refl _|refine(aW jI).2 ?_))
  all_goals try(simp only[aB.aO];done)
 ·have hk':k=x.aP.length:=by omega
  subst hk'
  simp -dsimp -implicitDefEqProofs only[go_sem,↓reduceIte,Tryz.f202,cO]
  rw[eJ,IntWalk.i64_in _ aA];omega
theorem aXV (x:aB) (hs:x.s<=4294967296):fQ Tryz.prog 202 [.agg x.c] (I (x.d:Int)) :=
 aTV x hs λy hy=>aXV y bBT
termination_by SizeOf.sizeOf x
decreasing_by exact aB.wV hy
@[go_sem] def bCX:List Nat:=[0,1,4,5,18]
theorem aZP (x:aB) (left:Int) (h0:0<=left) (h9:left<=4294967296) (hs:x.s<=4294967296) (hc:∀ y∈x.aP,∀ left:Int,0<=left->left<=4294967296->fQ Tryz.prog 157 [.ip 5 [y.c] 0 0,I left] (I (lft left (y.s+1)))):fQ Tryz.prog 157 [.ip 5 [x.c] 0 0,I left] (I (lft left (x.s+1))):=by
 have hx:=x.bS0
 rw[aB.aO x]
 refine eG 30 bCX cD bS Tryz.func157 λh=>?_
 simp -dsimp -implicitDefEqProofs only[go_sem,↓reduceIte,Tryz.f157]
 repeat'(with_reducible first|intro _|refine And.intro ?_ ?_)
 refine cY bCX cD bS (λk:Nat=>[(0,.ip 5 [x.c] 0 0),(1,I (lft left (1+k+((x.aP.take k).map aB.s).sum))),(5,I k)]) (λ_=>h) (λk=>k<=x.aP.length) (λk=>x.aP.length-k) 0 (by simp[eE,dJ,Heap.le_refl,aB.aO];rw[IntWalk.i64_in _ aA];unfold lft;split <;> omega) ?_
 intro k hk
 rcases cX k x.aP.length with hlt|hge
 ·have hp:=x.bJT hlt
  have h1:=kE aB.s x.aP k hlt
  rcases yM left (1+k+((x.aP.take k).map aB.s).sum)with⟨e,hl⟩|⟨e,hl⟩
  ·rw[e,aB.aO x]
   simp -dsimp -implicitDefEqProofs only[go_sem,↓reduceIte,Tryz.f157]
   repeat'(with_reducible first|intro _|refine And.intro ?_ ?_)
   all_goals try omega
   exact(sJ aA).symm
  ·rw[e,aB.aO x]
   simp -dsimp -implicitDefEqProofs only[go_sem,↓reduceIte,Tryz.f157]
   repeat'(with_reducible first|intro _|refine And.intro ?_ ?_)
   all_goals try omega
   first|refine aG.mk ((hc x.aP[k] (dX hlt) _ hl aA).sub (by repeat'(first|exact b8.nil|refine b8.cons ?_ ?_|exact Sub.refl _|(rw[aB.aO];exact Sub.refl _)|exact Sub.eA rfl rfl rfl|exact Sub.ip (b9 aA) bF|exact Sub.eA (b9 aA) rfl rfl|exact Sub.ip dI bF|exact Sub.eA dI dC dC))) ?_|refine aH.mk ((hc x.aP[k] (dX hlt) _ hl aA).sub (by repeat'(first|exact b8.nil|refine b8.cons ?_ ?_|exact Sub.refl _|(rw[aB.aO];exact Sub.refl _)|exact Sub.eA rfl rfl rfl|exact Sub.ip (b9 aA) bF|exact Sub.eA (b9 aA) rfl rfl|exact Sub.ip dI bF|exact Sub.eA dI dC dC))) ?_
   simp -dsimp -implicitDefEqProofs only[go_sem,↓reduceIte,Tryz.f157]
   refine⟨k+1,?_⟩
   repeat'(with_reducible refine And.intro ?_ ?_)
   all_goals try(rw[IntWalk.i64_in _ aA];first|rfl|omega)
   all_goals try omega
   all_goals try(repeat'(with_reducible first|exact Heap.le_refl _|refine(aW jI).2 ?_))
   all_goals try(simp only[aB.aO];done)
   all_goals(rw[h1];unfold lft;split <;> split <;> omega)
 ·have hk':k=x.aP.length:=by omega
  subst hk'
  rw[aB.aO x]
  simp -dsimp -implicitDefEqProofs only[go_sem,↓reduceIte,Tryz.f157,cO]
  rw[show 1+x.aP.length+((x.aP.take x.aP.length).map aB.s).sum=x.s+1 by omega]
  exact λ_=>rfl
theorem aMJ (x:aB) (left:Int) (h0:0<=left) (h9:left<=4294967296) (hs:x.s<=4294967296):fQ Tryz.prog 157 [.ip 5 [x.c] 0 0,I left] (I (lft left (x.s+1))) :=
 aZP x left h0 h9 hs λy hy left h0 h9=>aMJ y left h0 h9 bBT
termination_by SizeOf.sizeOf x
decreasing_by exact aB.wV hy
theorem aZQ (a b:Int):fQ Tryz.prog 223 [I a,I b] (I (max a b)):=by
 refine eG 10 bSQ cD bS Tryz.func223 λh=>?_
 simp -dsimp -implicitDefEqProofs only[go_sem,↓reduceIte,Tryz.f223]
 repeat'(with_reducible first|intro _|refine And.intro ?_ ?_)
 all_goals omega
theorem aWK (x:aB) (hs:x.s<=4294967296) (hc:∀ y∈x.aP,fQ Tryz.prog 193 [.ip 5 [y.c] 0 0] (I (y.d:Int))):fQ Tryz.prog 193 [.ip 5 [x.c] 0 0] (I (x.d:Int)):=by
 have hd:=x.bVR
 rw[aB.b14]at hd ⊢
 rw[aB.aO x]
 refine eG 25 aGD cD bS Tryz.func193 λh=>?_
 simp -dsimp -implicitDefEqProofs only[go_sem,↓reduceIte,Tryz.f193]
 repeat'(with_reducible first|intro _|refine And.intro ?_ ?_)
 refine cY aGD cD bS (λk:Nat=>[(0,.ip 5 [x.c] 0 0),(3,I (aB.dL (x.aP.take k):Int)),(4,I k)]) (λ_=>h) (λk=>k<=x.aP.length) (λk=>x.aP.length-k) 0 (by simp[eE,dJ,Heap.le_refl,aB.aO,aB.dL]) ?_
 intro k hk
 rw[aB.aO x]
 rcases cX k x.aP.length with hlt|hge
 ·have h1:=aB.aZO hlt
  simp -dsimp -implicitDefEqProofs only[go_sem,↓reduceIte,Tryz.f193]
  repeat'(with_reducible first|intro _|refine And.intro ?_ ?_)
  all_goals try omega
  first|refine aG.mk ((hc x.aP[k] (dX hlt)).sub (by repeat'(first|exact b8.nil|refine b8.cons ?_ ?_|exact Sub.refl _|(rw[aB.aO];exact Sub.refl _)|exact Sub.eA rfl rfl rfl|exact Sub.ip (b9 aA) bF|exact Sub.eA (b9 aA) rfl rfl|exact Sub.ip dI bF|exact Sub.eA dI dC dC))) ?_|refine aH.mk ((hc x.aP[k] (dX hlt)).sub (by repeat'(first|exact b8.nil|refine b8.cons ?_ ?_|exact Sub.refl _|(rw[aB.aO];exact Sub.refl _)|exact Sub.eA rfl rfl rfl|exact Sub.ip (b9 aA) bF|exact Sub.eA (b9 aA) rfl rfl|exact Sub.ip dI bF|exact Sub.eA dI dC dC))) ?_
  simp -dsimp -implicitDefEqProofs only[go_sem,↓reduceIte,Tryz.f193]
  first|refine aH.mk (aZQ _ _) ?_|refine aG.mk (aZQ _ _) ?_|refine aH.cN (aZQ _ _) ?_|refine aG.mk (cG.fO (aZQ _ _)) ?_
  simp -dsimp -implicitDefEqProofs only[go_sem,↓reduceIte,Tryz.f193]
  refine⟨k+1,?_⟩
  repeat'(with_reducible refine And.intro ?_ ?_)
  all_goals try(rw[IntWalk.i64_in _ aA];first|rfl|omega)
  all_goals try omega
  all_goals try(repeat'(with_reducible first|exact Heap.le_refl _|refine(aW jI).2 ?_))
  all_goals try(simp only[aB.aO];done)
 ·have hk':k=x.aP.length:=by omega
  subst hk'
  simp -dsimp -implicitDefEqProofs only[go_sem,↓reduceIte,Tryz.f193,cO]
  intro _
  rw[eJ,IntWalk.i64_in _ aA];omega
theorem aTW (x:aB) (hs:x.s<=4294967296):fQ Tryz.prog 193 [.ip 5 [x.c] 0 0] (I (x.d:Int)) :=
 aWK x hs λy hy=>aTW y bBT
termination_by SizeOf.sizeOf x
decreasing_by exact aB.wV hy
def jO (k:Int):Int:=if k=1∨k=2 then 0 else if k=3∨k=4∨k=5∨k=6∨k=9 then 2 else if k=7 then 1 else if k=8 then 3 else -1
def uF (p:aL) (e:aB) (vars funcs:Int):Prop :=
 if e.bH=10∨e.bH=11 then
  0<=e.bZ/\e.bZ<=funcs-1/\∀ f,p.aJ[e.bZ.toNat]?=some f ->
   0<=e.dR/\e.dR<=(f.bG.length:Int)-1/\(e.aP.length:Int)=f.bN/\(e.bH=10->e.dB=0)/\(e.bH=11->0<=e.dB/\e.dB<=8/\(f.bG.length:Int)=f.bN)
 else jO e.bH=e.aP.length/\e.dR=0/\e.dB=0/\(e.bH=1->oI e.bZ)/\(e.bH=2->0<=e.bZ/\e.bZ<=vars-1)/\(e.bH≠1->e.bH≠2->e.bZ=0)
noncomputable instance (p:aL) (e:aB) (vars funcs:Int):Decidable (uF p e vars funcs):=Classical.propDecidable _
def p8 (kind:Int) (i:Nat) (vars:Int):Int:=if kind=9/\i=1 then vars+1 else vars
mutual
def aB.ok (p:aL) (funcs:Int):aB->Int->Prop
 | .mk a b c d kids,vars=>uF p (.mk a b c d kids) vars funcs/\aB.okL p funcs a kids 0 vars
def aB.okL (p:aL) (funcs:Int) (kind:Int):List aB->Nat->Int->Prop
 | [],_,_=>True
 |x::l,i,vars=>x.ok p funcs (p8 kind i vars)/\aB.okL p funcs kind l (i+1) vars
end
noncomputable instance (p:aL) (funcs:Int) (e:aB) (vars:Int):Decidable (e.ok p funcs vars):=Classical.propDecidable _
theorem aB.bCY (p:aL) (funcs kind:Int):∀ (l:List aB) (i:Nat) (vars:Int),aB.okL p funcs kind l i vars↔∀ (k:Nat) (h:k<l.length),l[k].ok p funcs (p8 kind (i+k) vars)
 | [],i,vars=>by simp[aB.okL]
 |x::l,i,vars=>by
  rw[aB.okL,aB.bCY p funcs kind l (i+1) vars]
  constructor
  ·rintro⟨h1,h2⟩ k hk
   cases k with
   |zero=>exact h1
   |succ k=>have:=h2 k aSJ;rw[show i+1+k=i+(k+1)by omega]at this;exact this
  ·intro h
   refine⟨h 0 bF,λk hk=>?_⟩
   have:=h (k+1) aSJ
   rw[show i+1+k=i+(k+1)by omega];exact this
theorem aB.fK (p:aL) (funcs:Int) (x:aB) (vars:Int):x.ok p funcs vars↔uF p x vars funcs/\∀ (k:Nat) (h:k<x.aP.length),x.aP[k].ok p funcs (p8 x.bH k vars):=by
 cases x with
 |mk a b c d kids =>
  rw[aB.ok,aB.bCY]
  simp only[al1,aB.aP,aB.bH]
theorem aL.aTX (p:aL):p.aJ.length<=p.s:=by rw[p.gB,gI];omega
theorem aL.aTY {p:aL} {f:aX} (h:f∈p.aJ):f.s+p.aJ.length<=p.s:=by
 have:=pT aX.s h
 rw[p.gB,gI];omega
theorem aX.aTZ (f:aX):f.bG.length<=f.s:=by rw[f.gB,gI];omega
theorem aX.bS1 {f:aX} {e:aB} (h:e∈f.bG):e.s<f.s:=by
 have:=pT aB.s h
 have:=List.length_pos_of_mem h
 rw[f.gB,gI];omega
@[go_sem] def bOL:List Nat:=[0,2,3,4,7,13,15]
theorem aQ2 (k:Int):fQ Tryz.prog 247 [I k] (I (jO k)):=by
 refine eG 17 bOL cD bS Tryz.func247 λh=>?_
 simp -dsimp -implicitDefEqProofs only[go_sem,↓reduceIte,Tryz.f247]
 repeat'(with_reducible first|intro _|refine And.intro ?_ ?_)
 all_goals try(first|(simp[jO, *];done)|omega|(grind[jO])|(simp[jO];omega))
theorem zG {p:aL} {e:aB} {vars funcs:Int} (hk:e.bH=10∨e.bH=11) {f:aX} (ef:p.aJ[e.bZ.toNat]?=some f):uF p e vars funcs ↔
  0<=e.bZ/\e.bZ<=funcs-1/\0<=e.dR/\e.dR<=(f.bG.length:Int)-1/\(e.aP.length:Int)=f.bN/\(e.bH=10->e.dB=0)/\(e.bH=11->0<=e.dB/\e.dB<=8/\(f.bG.length:Int)=f.bN):=by
 unfold uF
 rw[if_pos hk]
 simp[ef]
theorem aMK {p:aL} {e:aB} {vars funcs:Int} (hk:e.bH=10∨e.bH=11) (hr:¬(0<=e.bZ/\e.bZ<=funcs-1)):¬uF p e vars funcs:=by
 unfold uF
 rw[if_pos hk]
 intro h
 exact hr ⟨h.1,h.2.1⟩
theorem iG {p:aL} {e:aB} {vars funcs:Int} (hk:¬(e.bH=10∨e.bH=11)):uF p e vars funcs ↔
  jO e.bH=e.aP.length/\e.dR=0/\e.dB=0/\(e.bH=1->oI e.bZ)/\(e.bH=2->0<=e.bZ/\e.bZ<=vars-1)/\(e.bH≠1->e.bH≠2->e.bZ=0):=by
 unfold uF
 rw[if_neg hk]
@[go_sem] def aZR:List Nat:=[0,1,2,3,8,9,21,29,62,67,114,118,119,126]
@[go_sem] def bJU:Marks:=λid=>match id with|4=>([],(.op 0 (.op 1 (.op 2 (.op 3 (.op 4 (.op 5 (.op 6 (.op 7 (.op 8 (.op 9 .nil)))))))))),[])|5=>([],(.op 0 (.op 1 (.op 2 (.op 3 (.op 4 (.op 5 (.op 6 (.op 7 (.op 8 (.op 9 (.op 10 (.op 11 (.op 12 (.op 13 (.op 14 (.op 15 (.op 16 (.op 17 (.op 18 (.op 19 (.op 20 (.op 21 (.op 22 (.op 23 .nil)))))))))))))))))))))))),[])|9=>([],(.op 0 (.op 1 (.op 2 (.op 3 (.op 4 (.op 5 (.op 6 (.op 7 (.op 8 (.op 9 (.op 10 (.op 11 (.op 12 (.op 13 (.op 14 (.op 15 (.op 16 (.op 17 .nil)))))))))))))))))),[])|10=>([],(.op 0 (.op 1 (.op 2 (.op 3 (.op 4 (.op 5 (.op 6 (.op 7 (.op 8 (.op 9 (.op 10 (.op 11 (.op 12 (.op 13 (.op 14 (.op 15 (.op 16 (.op 17 (.op 18 (.op 19 (.op 20 (.op 21 (.op 22 (.op 23 (.op 24 .nil))))))))))))))))))))))))),[])|_=>([],.nil,[])
theorem bCZ (p:aL) (e:aB) (vars funcs:Int) (hv:0<=vars) (hv2:vars<=4294967296) (gZ:0<=funcs) (hf:funcs<=p.aJ.length) (hps:p.s<=4294967296):fQ Tryz.prog 224 [.ip 1 [p.c] 0 0,.ip 5 [e.c] 0 0,I vars,I funcs] (.bool (decide (uF p e vars funcs))):=by
 have hl:=p.aTX
 have e1:IntKind.i64.wrap (funcs-1)=funcs-1:=IntWalk.i64_in _ aA
 have e2:IntKind.i64.wrap (vars-1)=vars-1:=IntWalk.i64_in _ aA
 rw[aB.aO]
 simp only[aL.aO]
 by_cases hk:e.bH=10∨e.bH=11
 ·by_cases hr:0<=e.bZ/\e.bZ<=funcs-1
  ·obtain⟨f,ef⟩:∃ f,p.aJ[e.bZ.toNat]?=some f:=⟨_,cJ aA⟩
   have hn:=zG (vars:=vars) (funcs:=funcs) hk ef
   have hfs:=aL.aTY (vJ ef)
   have hos:=f.aTZ
   refine eG 140 aZR cD bJU Tryz.func224 λh=>?_
   simp -dsimp -implicitDefEqProofs only[go_sem,↓reduceIte,Tryz.f224,e1,e2]
   repeat'(with_reducible first|intro _|refine And.intro ?_ ?_)
   all_goals try omega
   all_goals(first|refine aH.mk (gC e.bZ 0 (funcs-1)) ?_|refine aG.mk (gC e.bZ 0 (funcs-1)) ?_)
   all_goals simp -dsimp -implicitDefEqProofs only[go_sem,↓reduceIte,Tryz.f224,ef,aX.aO]
   all_goals repeat'(with_reducible first|intro _|refine And.intro ?_ ?_)
   all_goals try omega
   all_goals try simp(disch:=omega) only[IntWalk.i64_in]
   all_goals(first|refine aH.mk (gC e.dR 0 (f.bG.length-1)) ?_|refine aG.mk (gC e.dR 0 (f.bG.length-1)) ?_)
   all_goals simp -dsimp -implicitDefEqProofs only[go_sem,↓reduceIte,Tryz.f224,ef,aX.aO]
   all_goals repeat'(with_reducible first|intro _|refine And.intro ?_ ?_)
   all_goals try omega
   all_goals try(first|(simp[*];done)|omega|grind)
   first|refine aH.mk (gC e.dB 0 8) ?_|refine aG.mk (gC e.dB 0 8) ?_|refine aH.cN (gC e.dB 0 8) ?_|refine aG.mk (cG.fO (gC e.dB 0 8)) ?_
   simp -dsimp -implicitDefEqProofs only[go_sem,↓reduceIte,Tryz.f224,ef,aX.aO]
   repeat'(with_reducible first|intro _|refine And.intro ?_ ?_)
   all_goals try(first|(simp[*];done)|omega|grind)
  ·have hn:=aMK (p:=p) (vars:=vars) hk hr
   refine eG 140 aZR cD bJU Tryz.func224 λh=>?_
   simp -dsimp -implicitDefEqProofs only[go_sem,↓reduceIte,Tryz.f224,e1,e2]
   repeat'(with_reducible first|intro _|refine And.intro ?_ ?_)
   all_goals try omega
   all_goals(first|refine aH.mk (gC e.bZ 0 (funcs-1)) ?_|refine aG.mk (gC e.bZ 0 (funcs-1)) ?_)
   all_goals simp -dsimp -implicitDefEqProofs only[go_sem,↓reduceIte,Tryz.f224]
   all_goals repeat'(with_reducible first|intro _|refine And.intro ?_ ?_)
   all_goals try(first|(simp[*];done)|omega|grind)
 ·have hn:=iG (p:=p) (vars:=vars) (funcs:=funcs) hk
  refine eG 140 aZR cD bJU Tryz.func224 λh=>?_
  simp -dsimp -implicitDefEqProofs only[go_sem,↓reduceIte,Tryz.f224,e1,e2]
  repeat'(with_reducible first|intro _|refine And.intro ?_ ?_)
  all_goals try omega
  first|refine aH.mk (aQ2 e.bH) ?_|refine aG.mk (aQ2 e.bH) ?_|refine aH.cN (aQ2 e.bH) ?_|refine aG.mk (cG.fO (aQ2 e.bH)) ?_
  simp -dsimp -implicitDefEqProofs only[go_sem,↓reduceIte,Tryz.f224]
  repeat'(with_reducible first|intro _|refine And.intro ?_ ?_)
  all_goals try(first|(simp[*];done)|omega|grind)
  ·first|refine aH.mk (nU e.bZ) ?_|refine aG.mk (nU e.bZ) ?_|refine aH.cN (nU e.bZ) ?_|refine aG.mk (cG.fO (nU e.bZ)) ?_
   simp -dsimp -implicitDefEqProofs only[go_sem,↓reduceIte,Tryz.f224]
   all_goals try(first|(simp[*];done)|omega|grind)
  ·all_goals try simp(disch:=omega) only[IntWalk.i64_in]
   first|refine aH.mk (gC e.bZ 0 (vars-1)) ?_|refine aG.mk (gC e.bZ 0 (vars-1)) ?_|refine aH.cN (gC e.bZ 0 (vars-1)) ?_|refine aG.mk (cG.fO (gC e.bZ 0 (vars-1))) ?_
   simp -dsimp -implicitDefEqProofs only[go_sem,↓reduceIte,Tryz.f224]
   all_goals try(first|(simp[*];done)|omega|grind)
@[go_sem] def aCK:List Nat:=[0,1,2,3,4,6,7,8,9,10,11,12,25,26,38,52,68,69,81,82,94,95,104,125,152,154,155,156,157,168,175]
@[go_sem] def aP4:List Nat:=[3,4]
@[go_sem] def bC0:List Nat:=[0,1,2,3,8,9,10,16,23,35,48]
theorem aZS (p:aL) (e:aB) (vars funcs:Int) (hv:0<=vars) (hv2:vars+e.s<=4294967296) (gZ:0<=funcs) (hf:funcs<=p.aJ.length) (hps:p.s<=4294967296)
  (hc:∀ y∈e.aP,∀ vars:Int,0<=vars->vars+y.s<=4294967296->fQ Tryz.prog 194 [.ip 1 [p.c] 0 0,.ip 5 [y.c] 0 0,I vars,I funcs] (.bool (decide (y.ok p funcs vars)))) :
  fQ Tryz.prog 194 [.ip 1 [p.c] 0 0,.ip 5 [e.c] 0 0,I vars,I funcs] (.bool (decide (e.ok p funcs vars))):=by
 have hok:=aB.fK p funcs e vars
 simp only[aB.aO,aL.aO]
 refine eG 49 bC0 cD bS Tryz.func194 λh=>?_
 simp -dsimp -implicitDefEqProofs only[go_sem,↓reduceIte,Tryz.f194]
 first|refine aG.mk ((bCZ p e vars funcs hv aA gZ hf hps).sub (by repeat'(first|exact b8.nil|refine b8.cons ?_ ?_|exact Sub.refl _|(rw[aB.aO];exact Sub.refl _)|exact Sub.eA rfl rfl rfl|exact Sub.ip (b9 aA) bF|exact Sub.eA (b9 aA) rfl rfl|exact Sub.ip dI bF|exact Sub.eA dI dC dC))) ?_|refine aH.mk ((bCZ p e vars funcs hv aA gZ hf hps).sub (by repeat'(first|exact b8.nil|refine b8.cons ?_ ?_|exact Sub.refl _|(rw[aB.aO];exact Sub.refl _)|exact Sub.eA rfl rfl rfl|exact Sub.ip (b9 aA) bF|exact Sub.eA (b9 aA) rfl rfl|exact Sub.ip dI bF|exact Sub.eA dI dC dC))) ?_
 simp -dsimp -implicitDefEqProofs only[go_sem,↓reduceIte,Tryz.f194]
 repeat'(with_reducible first|intro _|refine And.intro ?_ ?_)
 ·rename_i hn
  exact(decide_eq_false λq=>hn (hok.1 q).1).symm
 ·rename_i hn
  refine cY bC0 cD bS (λk:Nat=>[(0,.ip 1 [p.c] 0 0),(1,.ip 5 [e.c] 0 0),(2,I vars),(3,I funcs),(9,I k)]) (λ_=>h) (λk=>k<=e.aP.length/\∀ (j:Nat) (hj:j<e.aP.length),j<k->e.aP[j].ok p funcs (p8 e.bH j vars)) (λk=>e.aP.length-k) 0 (by simp[eE,dJ,Heap.le_refl,aB.aO,aL.aO]) ?_
  intro k ⟨hk,hp⟩
  simp only[aB.aO,aL.aO]
  rcases cX k e.aP.length with hlt|hge
  ·have uB:=aB.a2Z (dX hlt)
   have nx (q:e.aP[k].ok p funcs (p8 e.bH k vars)):∀ (j:Nat) (hj:j<e.aP.length),j<k+1->e.aP[j].ok p funcs (p8 e.bH j vars):=by
    intro j hj hjk
    rcases aI2.1 hjk with h1|rfl
    ·exact hp j hj h1
    ·exact q
   have no (q:¬e.aP[k].ok p funcs (p8 e.bH k vars)):false=decide (e.ok p funcs vars):=(decide_eq_false λz=>q ((hok.1 z).2 k hlt)).symm
   simp -dsimp -implicitDefEqProofs only[go_sem,↓reduceIte,Tryz.f194]
   repeat'(with_reducible first|intro _|refine And.intro ?_ ?_)
   all_goals try omega
   ·have em:p8 e.bH k vars=vars+1:=if_pos ⟨by assumption,by omega⟩
    rw[em]at nx no
    all_goals try simp(disch:=omega) only[IntWalk.i64_in]
    first|refine aG.mk ((hc e.aP[k] (dX hlt) (vars+1) aA aA).sub (by repeat'(first|exact b8.nil|refine b8.cons ?_ ?_|exact Sub.refl _|(rw[aB.aO];exact Sub.refl _)|exact Sub.eA rfl rfl rfl|exact Sub.ip (b9 aA) bF|exact Sub.eA (b9 aA) rfl rfl|exact Sub.ip dI bF|exact Sub.eA dI dC dC))) ?_|refine aH.mk ((hc e.aP[k] (dX hlt) (vars+1) aA aA).sub (by repeat'(first|exact b8.nil|refine b8.cons ?_ ?_|exact Sub.refl _|(rw[aB.aO];exact Sub.refl _)|exact Sub.eA rfl rfl rfl|exact Sub.ip (b9 aA) bF|exact Sub.eA (b9 aA) rfl rfl|exact Sub.ip dI bF|exact Sub.eA dI dC dC))) ?_
    simp -dsimp -implicitDefEqProofs only[go_sem,↓reduceIte,Tryz.f194]
    repeat'(with_reducible first|intro _|refine And.intro ?_ ?_)
    ·exact no fI
    ·refine⟨k+1,?_⟩
     repeat'(with_reducible refine And.intro ?_ ?_)
     all_goals try(rw[IntWalk.i64_in _ aA];first|rfl|omega)
     all_goals try omega
     all_goals try(repeat'(with_reducible first|exact Heap.le_refl _|refine(aW jI).2 ?_))
     all_goals try(simp only[aB.aO,aL.aO];done)
     exact nx fI
   all_goals
    have em:p8 e.bH k vars=vars:=if_neg aA
    rw[em]at nx no
    first|refine aG.mk ((hc e.aP[k] (dX hlt) vars aA aA).sub (by repeat'(first|exact b8.nil|refine b8.cons ?_ ?_|exact Sub.refl _|(rw[aB.aO];exact Sub.refl _)|exact Sub.eA rfl rfl rfl|exact Sub.ip (b9 aA) bF|exact Sub.eA (b9 aA) rfl rfl|exact Sub.ip dI bF|exact Sub.eA dI dC dC))) ?_|refine aH.mk ((hc e.aP[k] (dX hlt) vars aA aA).sub (by repeat'(first|exact b8.nil|refine b8.cons ?_ ?_|exact Sub.refl _|(rw[aB.aO];exact Sub.refl _)|exact Sub.eA rfl rfl rfl|exact Sub.ip (b9 aA) bF|exact Sub.eA (b9 aA) rfl rfl|exact Sub.ip dI bF|exact Sub.eA dI dC dC))) ?_
    simp -dsimp -implicitDefEqProofs only[go_sem,↓reduceIte,Tryz.f194]
    repeat'(with_reducible first|intro _|refine And.intro ?_ ?_)
    ·exact no fI
    ·refine⟨k+1,?_⟩
     repeat'(with_reducible refine And.intro ?_ ?_)
     all_goals try(rw[IntWalk.i64_in _ aA];first|rfl|omega)
     all_goals try omega
     all_goals try(repeat'(with_reducible first|exact Heap.le_refl _|refine(aW jI).2 ?_))
     all_goals try(simp only[aB.aO,aL.aO];done)
     exact nx fI
  ·have hk':k=e.aP.length:=by omega
   subst hk'
   simp -dsimp -implicitDefEqProofs only[go_sem,↓reduceIte,Tryz.f194,cO]
   exact λ_=>(decide_eq_true (hok.2 ⟨hn,λj hj=>hp j hj hj⟩)).symm
theorem aZT (p:aL) (e:aB) (vars funcs:Int) (hv:0<=vars) (hv2:vars+e.s<=4294967296) (gZ:0<=funcs) (hf:funcs<=p.aJ.length) (hps:p.s<=4294967296) :
  fQ Tryz.prog 194 [.ip 1 [p.c] 0 0,.ip 5 [e.c] 0 0,I vars,I funcs] (.bool (decide (e.ok p funcs vars))) :=
 aZS p e vars funcs hv hv2 gZ hf hps λy hy vars hv hv2=>aZT p y vars funcs hv hv2 gZ hf hps
termination_by SizeOf.sizeOf e
decreasing_by exact aB.wV hy
set_option maxHeartbeats 8000000 in
theorem aT0 (p:aL) (e:aB) (vars funcs:Int) (hv:0<=vars) (hv2:vars+e.s<=4294967296) (gZ:0<=funcs) (hf:funcs<=p.aJ.length) (hps:p.s<=4294967296)
  (hc:∀ y∈e.aP,∀ vars:Int,0<=vars->vars+y.s<=4294967296->fQ Tryz.prog 203 [.agg [dA 3 aX.c p.aJ,I funcs],.agg y.c,I vars] (.bool (decide (y.ok p funcs vars)))) (hk:¬(e.bH=10∨e.bH=11)) :
  fQ Tryz.prog 203 [.agg [dA 3 aX.c p.aJ,I funcs],.agg e.c,I vars] (.bool (decide (e.ok p funcs vars))):=by
 have hok:=aB.fK p funcs e vars
 have hl:=p.aTX
 have e1:IntKind.i64.wrap (funcs-1)=funcs-1:=IntWalk.i64_in _ aA
 have e2:IntKind.i64.wrap (vars-1)=vars-1:=IntWalk.i64_in _ aA
 simp only[aB.aO]
 have no1 (hk:¬(e.bH=10∨e.bH=11)) (q:¬(jO e.bH=e.aP.length/\e.dR=0/\e.dB=0/\(e.bH=1->oI e.bZ)/\(e.bH=2->0<=e.bZ/\e.bZ<=vars-1)/\(e.bH≠1->e.bH≠2->e.bZ=0))):false=decide (e.ok p funcs vars) :=
  (decide_eq_false λz=>q ((iG hk).1 (hok.1 z).1)).symm
 have b16 (hk:¬(e.bH=10∨e.bH=11)) (q:jO e.bH=e.aP.length/\e.dR=0/\e.dB=0/\(e.bH=1->oI e.bZ)/\(e.bH=2->0<=e.bZ/\e.bZ<=vars-1)/\(e.bH≠1->e.bH≠2->e.bZ=0)):uF p e vars funcs:=(iG hk).2 q
 refine eG 177 aCK aP4 bS Tryz.func203 λh=>?_
 simp(maxSteps:=1000000) -dsimp -implicitDefEqProofs only[go_sem,↓reduceIte,Tryz.f203,e1,e2]
 repeat'(with_reducible first|intro _|refine And.intro ?_ ?_)
 all_goals try omega
 all_goals try(refine no1 aA ?_;simp only[jO];grind)
 ·first|refine aH.mk (qF e.bZ) ?_|refine aG.mk (qF e.bZ) ?_|refine aH.cN (qF e.bZ) ?_|refine aG.mk (cG.fO (qF e.bZ)) ?_
  simp(maxSteps:=1000000) -dsimp -implicitDefEqProofs only[go_sem,↓reduceIte,Tryz.f203]
  rw[decide_eq_decide,hok,iG hk]
  have:e.aP.length=0:=by omega
  constructor
  ·intro q
   exact⟨by simp only[jO];grind,λk hk=>by omega⟩
  ·intro q
   grind
 ·first|refine aH.mk (within e.bZ 0 (vars-1)) ?_|refine aG.mk (within e.bZ 0 (vars-1)) ?_|refine aH.cN (within e.bZ 0 (vars-1)) ?_|refine aG.mk (cG.fO (within e.bZ 0 (vars-1))) ?_
  simp(maxSteps:=1000000) -dsimp -implicitDefEqProofs only[go_sem,↓reduceIte,Tryz.f203]
  rw[decide_eq_decide,hok,iG hk]
  have:e.aP.length=0:=by omega
  constructor
  ·intro q
   exact⟨by simp only[jO];grind,λk hk=>by omega⟩
  ·intro q
   grind
 all_goals
  have hn:=b16 hk (by simp only[jO];grind)
  clear no1 b16
  refine cY aCK aP4 bS (λk:Nat=>[(2,I vars),(3,.ip 2 [[dA 3 aX.c p.aJ,I funcs]] 0 0),(4,.ip 5 [e.c] 0 0),(154,dA 5 aB.c e.aP),(155,I e.aP.length),(156,I k)]) (λ_=>h) (λk=>k<=e.aP.length/\∀ (j:Nat) (hj:j<e.aP.length),j<k->e.aP[j].ok p funcs (p8 e.bH j vars)) (λk=>e.aP.length-k) 0 (by refine⟨by simp[eE,dJ,aB.aO],by repeat'(with_reducible first|exact Heap.le_refl _|refine(aW jI).2 ?_),by simp⟩) ?_
  intro k ⟨hk,hp⟩
  simp only[aB.aO]
  rcases cX k e.aP.length with hlt|hge
  ·have uB:=aB.a2Z (dX hlt)
   have nx (q:e.aP[k].ok p funcs (p8 e.bH k vars)):∀ (j:Nat) (hj:j<e.aP.length),j<k+1->e.aP[j].ok p funcs (p8 e.bH j vars):=by
    intro j hj hjk
    rcases aI2.1 hjk with h1|rfl
    ·exact hp j hj h1
    ·exact q
   have no (q:¬e.aP[k].ok p funcs (p8 e.bH k vars)):false=decide (e.ok p funcs vars):=(decide_eq_false λz=>q ((hok.1 z).2 k hlt)).symm
   have ea:e.aP[k]?=some e.aP[k]:=cJ hlt
   rcases Decidable.em (e.bH=9/\k=1)with e9|e9
   ·have em:p8 e.bH k vars=vars+1:=if_pos e9
    rw[em]at nx no
    have hcy:=hc e.aP[k] (dX hlt) (vars+1) aA aA
    simp only[aB.aO]at hcy
    simp(maxSteps:=1000000) -dsimp -implicitDefEqProofs only[go_sem,↓reduceIte,Tryz.f203,ea,aB.aO,aF]
    repeat'(with_reducible first|intro _|refine And.intro ?_ ?_)
    all_goals try omega
    all_goals try simp(disch:=omega) only[IntWalk.i64_in]
    all_goals(first|refine aH.mk (hcy) ?_|refine aG.mk (hcy) ?_)
    all_goals simp(maxSteps:=1000000) -dsimp -implicitDefEqProofs only[go_sem,↓reduceIte,Tryz.f203]
    all_goals repeat'(with_reducible first|intro _|refine And.intro ?_ ?_)
    all_goals first|exact no fI|exact Heap.le_refl _|skip
    all_goals try(exact(aW fI).2 (Heap.le_refl _))
    all_goals
     refine⟨k+1,?_⟩
     repeat'(with_reducible refine And.intro ?_ ?_)
     all_goals try(rw[IntWalk.i64_in _ aA];first|rfl|omega)
     all_goals try omega
     all_goals try(repeat'(with_reducible first|exact Heap.le_refl _|refine(aW jI).2 ?_))
     all_goals try(simp only[aB.aO];done)
     exact nx fI
   ·have em:p8 e.bH k vars=vars:=if_neg e9
    rw[em]at nx no
    have hcy:=hc e.aP[k] (dX hlt) vars aA aA
    simp only[aB.aO]at hcy
    simp(maxSteps:=1000000) -dsimp -implicitDefEqProofs only[go_sem,↓reduceIte,Tryz.f203,ea,aB.aO,aF]
    repeat'(with_reducible first|intro _|refine And.intro ?_ ?_)
    all_goals try omega
    all_goals(first|refine aH.mk (hcy) ?_|refine aG.mk (hcy) ?_)
    all_goals simp(maxSteps:=1000000) -dsimp -implicitDefEqProofs only[go_sem,↓reduceIte,Tryz.f203]
    all_goals repeat'(with_reducible first|intro _|refine And.intro ?_ ?_)
    all_goals first|exact no fI|exact Heap.le_refl _|skip
    all_goals try(exact(aW fI).2 (Heap.le_refl _))
    all_goals
     refine⟨k+1,?_⟩
     repeat'(with_reducible refine And.intro ?_ ?_)
     all_goals try(rw[IntWalk.i64_in _ aA];first|rfl|omega)
     all_goals try omega
     all_goals try(repeat'(with_reducible first|exact Heap.le_refl _|refine(aW jI).2 ?_))
     all_goals try(simp only[aB.aO];done)
     exact nx fI
  ·have hk':k=e.aP.length:=by omega
   subst hk'
   simp(maxSteps:=1000000) -dsimp -implicitDefEqProofs only[go_sem,↓reduceIte,Tryz.f203,cO]
   exact(decide_eq_true (hok.2 ⟨hn,λj hj=>hp j hj hj⟩)).symm
theorem aML {p:aL} {e:aB} {vars funcs:Int} {f:aX} (hk:e.bH=10∨e.bH=11) (ef:p.aJ[e.bZ.toNat]?=some f)
  (q:¬(0<=e.dR/\e.dR<=(f.bG.length:Int)-1/\(e.aP.length:Int)=f.bN/\(e.bH=10->e.dB=0)/\(e.bH=11->0<=e.dB/\e.dB<=8/\(f.bG.length:Int)=f.bN))):false=decide (e.ok p funcs vars) :=
 (decide_eq_false λz=>q ((zG hk ef).1 ((aB.fK _ _ _ _).1 z).1).2.2).symm
theorem a4O {p:aL} {e:aB} {vars funcs:Int} (hk:e.bH=10∨e.bH=11) (q:¬(0<=e.bZ/\e.bZ<=funcs-1)):false=decide (e.ok p funcs vars) :=
 (decide_eq_false λz=>aMK hk q ((aB.fK _ _ _ _).1 z).1).symm
set_option maxHeartbeats 8000000 in
theorem a4P (p:aL) (e:aB) (vars funcs:Int) (hv:0<=vars) (hv2:vars+e.s<=4294967296) (gZ:0<=funcs) (hf:funcs<=p.aJ.length) (hps:p.s<=4294967296)
  (hc:∀ y∈e.aP,∀ vars:Int,0<=vars->vars+y.s<=4294967296->fQ Tryz.prog 203 [.agg [dA 3 aX.c p.aJ,I funcs],.agg y.c,I vars] (.bool (decide (y.ok p funcs vars)))) (hk:e.bH=10) :
  fQ Tryz.prog 203 [.agg [dA 3 aX.c p.aJ,I funcs],.agg e.c,I vars] (.bool (decide (e.ok p funcs vars))):=by
 have hl:=p.aTX
 have e1:IntKind.i64.wrap (funcs-1)=funcs-1:=IntWalk.i64_in _ aA
 simp only[aB.aO]
 by_cases hr:0<=e.bZ/\e.bZ<=funcs-1
 ·obtain⟨f,ef⟩:∃ f,p.aJ[e.bZ.toNat]?=some f:=⟨_,cJ aA⟩
  have hfs:=aL.aTY (vJ ef)
  have hos:=f.aTZ
  have e3:IntKind.i64.wrap ((f.bG.length:Int)-1)=f.bG.length-1:=IntWalk.i64_in _ aA
  refine eG 177 aCK aP4 bS Tryz.func203 λh=>?_
  simp -dsimp -implicitDefEqProofs only[go_sem,↓reduceIte,Tryz.f203,e1,e3,hk]
  repeat'(with_reducible first|intro _|refine And.intro ?_ ?_)
  all_goals try omega
  all_goals(first|refine aH.mk (within e.bZ 0 (funcs-1)) ?_|refine aG.mk (within e.bZ 0 (funcs-1)) ?_)
  all_goals simp -dsimp -implicitDefEqProofs only[go_sem,↓reduceIte,Tryz.f203,ef,aX.aO,aF,hk,e3]
  all_goals repeat'(with_reducible first|intro _|refine And.intro ?_ ?_)
  all_goals try omega
  all_goals try(refine aML aA ef ?_;omega)
  all_goals try(repeat'(with_reducible first|exact Heap.le_refl _|refine(aW jI).2 ?_))
  all_goals(first|refine aH.mk (within e.dR 0 (f.bG.length-1)) ?_|refine aG.mk (within e.dR 0 (f.bG.length-1)) ?_)
  all_goals simp -dsimp -implicitDefEqProofs only[go_sem,↓reduceIte,Tryz.f203,ef,aX.aO,aF,hk]
  all_goals repeat'(with_reducible first|intro _|refine And.intro ?_ ?_)
  all_goals try omega
  all_goals try(refine aML aA ef ?_;omega)
  all_goals try(repeat'(with_reducible first|exact Heap.le_refl _|refine(aW jI).2 ?_))
  all_goals
   have hn:uF p e vars funcs:=(zG aA ef).2 aA
   have hok:=aB.fK p funcs e vars
   clear hr hfs hos ef
   refine cY aCK aP4 bS (λk:Nat=>[(2,I vars),(3,.ip 2 [[dA 3 aX.c p.aJ,I funcs]] 0 0),(4,.ip 5 [e.c] 0 0),(154,dA 5 aB.c e.aP),(155,I e.aP.length),(156,I k)]) (λ_=>h) (λk=>k<=e.aP.length/\∀ (j:Nat) (hj:j<e.aP.length),j<k->e.aP[j].ok p funcs vars) (λk=>e.aP.length-k) 0 (by refine⟨by simp[eE,dJ,aB.aO,hk],by repeat'(with_reducible first|exact Heap.le_refl _|refine(aW jI).2 ?_),by simp⟩) ?_
   intro k ⟨hk',hp⟩
   simp only[aB.aO]
   rcases cX k e.aP.length with hlt|hge
   ·have uB:=aB.a2Z (dX hlt)
    have nx (q:e.aP[k].ok p funcs vars):∀ (j:Nat) (hj:j<e.aP.length),j<k+1->e.aP[j].ok p funcs vars:=by
     intro j hj hjk
     rcases aI2.1 hjk with h1|rfl
     ·exact hp j hj h1
     ·exact q
    have no (q:¬e.aP[k].ok p funcs vars):false=decide (e.ok p funcs vars):=(decide_eq_false λz=>q bRD).symm
    have ea:e.aP[k]?=some e.aP[k]:=cJ hlt
    have hcy:=hc e.aP[k] (dX hlt) vars aA aA
    simp only[aB.aO]at hcy
    simp -dsimp -implicitDefEqProofs only[go_sem,↓reduceIte,Tryz.f203,ea,aB.aO,aF,hk]
    repeat'(with_reducible first|intro _|refine And.intro ?_ ?_)
    all_goals try omega
    first|refine aH.mk (hcy) ?_|refine aG.mk (hcy) ?_|refine aH.cN (hcy) ?_|refine aG.mk (cG.fO (hcy)) ?_
    simp -dsimp -implicitDefEqProofs only[go_sem,↓reduceIte,Tryz.f203]
    repeat'(with_reducible first|intro _|refine And.intro ?_ ?_)
    all_goals first|exact no fI|skip
    all_goals try(repeat'(with_reducible first|exact Heap.le_refl _|refine(aW jI).2 ?_))
    refine⟨k+1,?_⟩
    repeat'(with_reducible refine And.intro ?_ ?_)
    all_goals try(rw[IntWalk.i64_in _ aA];first|rfl|omega)
    all_goals try omega
    all_goals try(repeat'(with_reducible first|exact Heap.le_refl _|refine(aW jI).2 ?_))
    all_goals try(simp only[aB.aO,hk];done)
    exact nx fI
   ·have hk'':k=e.aP.length:=by omega
    subst hk''
    simp -dsimp -implicitDefEqProofs only[go_sem,↓reduceIte,Tryz.f203,cO]
    exact(decide_eq_true (hok.2 ⟨hn,λj hj=>by rw[show p8 e.bH j vars=vars from if_neg aA];exact hp j hj hj⟩)).symm
 ·refine eG 177 aCK aP4 bS Tryz.func203 λh=>?_
  simp -dsimp -implicitDefEqProofs only[go_sem,↓reduceIte,Tryz.f203,e1,hk]
  repeat'(with_reducible first|intro _|refine And.intro ?_ ?_)
  all_goals try omega
  all_goals(first|refine aH.mk (within e.bZ 0 (funcs-1)) ?_|refine aG.mk (within e.bZ 0 (funcs-1)) ?_)
  all_goals simp -dsimp -implicitDefEqProofs only[go_sem,↓reduceIte,Tryz.f203]
  all_goals repeat'(with_reducible first|intro _|refine And.intro ?_ ?_)
  all_goals try omega
  all_goals exact a4O aA hr
set_option maxHeartbeats 8000000 in
theorem a4Q (p:aL) (e:aB) (vars funcs:Int) (hv:0<=vars) (hv2:vars+e.s<=4294967296) (gZ:0<=funcs) (hf:funcs<=p.aJ.length) (hps:p.s<=4294967296)
  (hc:∀ y∈e.aP,∀ vars:Int,0<=vars->vars+y.s<=4294967296->fQ Tryz.prog 203 [.agg [dA 3 aX.c p.aJ,I funcs],.agg y.c,I vars] (.bool (decide (y.ok p funcs vars)))) (hk:e.bH=11) :
  fQ Tryz.prog 203 [.agg [dA 3 aX.c p.aJ,I funcs],.agg e.c,I vars] (.bool (decide (e.ok p funcs vars))):=by
 have hl:=p.aTX
 have e1:IntKind.i64.wrap (funcs-1)=funcs-1:=IntWalk.i64_in _ aA
 simp only[aB.aO]
 by_cases hr:0<=e.bZ/\e.bZ<=funcs-1
 ·obtain⟨f,ef⟩:∃ f,p.aJ[e.bZ.toNat]?=some f:=⟨_,cJ aA⟩
  have hfs:=aL.aTY (vJ ef)
  have hos:=f.aTZ
  have e3:IntKind.i64.wrap ((f.bG.length:Int)-1)=f.bG.length-1:=IntWalk.i64_in _ aA
  refine eG 177 aCK aP4 bS Tryz.func203 λh=>?_
  simp -dsimp -implicitDefEqProofs only[go_sem,↓reduceIte,Tryz.f203,e1,e3,hk]
  repeat'(with_reducible first|intro _|refine And.intro ?_ ?_)
  all_goals try omega
  all_goals(first|refine aH.mk (within e.bZ 0 (funcs-1)) ?_|refine aG.mk (within e.bZ 0 (funcs-1)) ?_)
  all_goals simp -dsimp -implicitDefEqProofs only[go_sem,↓reduceIte,Tryz.f203,ef,aX.aO,aF,hk,e3]
  all_goals repeat'(with_reducible first|intro _|refine And.intro ?_ ?_)
  all_goals try omega
  all_goals try(refine aML aA ef ?_;omega)
  all_goals try(repeat'(with_reducible first|exact Heap.le_refl _|refine(aW jI).2 ?_))
  all_goals(first|refine aH.mk (within e.dR 0 (f.bG.length-1)) ?_|refine aG.mk (within e.dR 0 (f.bG.length-1)) ?_)
  all_goals simp -dsimp -implicitDefEqProofs only[go_sem,↓reduceIte,Tryz.f203,ef,aX.aO,aF,hk]
  all_goals repeat'(with_reducible first|intro _|refine And.intro ?_ ?_)
  all_goals try omega
  all_goals try(refine aML aA ef ?_;omega)
  all_goals try(repeat'(with_reducible first|exact Heap.le_refl _|refine(aW jI).2 ?_))
  all_goals(first|refine aH.mk (within e.dB 0 8) ?_|refine aG.mk (within e.dB 0 8) ?_)
  all_goals simp -dsimp -implicitDefEqProofs only[go_sem,↓reduceIte,Tryz.f203,aF,hk]
  all_goals repeat'(with_reducible first|intro _|refine And.intro ?_ ?_)
  all_goals try(refine aML aA ef ?_;omega)
  all_goals try(repeat'(with_reducible first|exact Heap.le_refl _|refine(aW jI).2 ?_))
  all_goals
   have hn:uF p e vars funcs:=(zG aA ef).2 aA
   have hok:=aB.fK p funcs e vars
   clear hr hfs hos ef
   refine cY aCK aP4 bS (λk:Nat=>[(2,I vars),(3,.ip 2 [[dA 3 aX.c p.aJ,I funcs]] 0 0),(4,.ip 5 [e.c] 0 0),(154,dA 5 aB.c e.aP),(155,I e.aP.length),(156,I k)]) (λ_=>h) (λk=>k<=e.aP.length/\∀ (j:Nat) (hj:j<e.aP.length),j<k->e.aP[j].ok p funcs vars) (λk=>e.aP.length-k) 0 (by refine⟨by simp[eE,dJ,aB.aO,hk],by repeat'(with_reducible first|exact Heap.le_refl _|refine(aW jI).2 ?_),by simp⟩) ?_
   intro k ⟨hk',hp⟩
   simp only[aB.aO]
   rcases cX k e.aP.length with hlt|hge
   ·have uB:=aB.a2Z (dX hlt)
    have nx (q:e.aP[k].ok p funcs vars):∀ (j:Nat) (hj:j<e.aP.length),j<k+1->e.aP[j].ok p funcs vars:=by
     intro j hj hjk
     rcases aI2.1 hjk with h1|rfl
     ·exact hp j hj h1
     ·exact q
    have no (q:¬e.aP[k].ok p funcs vars):false=decide (e.ok p funcs vars):=(decide_eq_false λz=>q bRD).symm
    have ea:e.aP[k]?=some e.aP[k]:=cJ hlt
    have hcy:=hc e.aP[k] (dX hlt) vars aA aA
    simp only[aB.aO]at hcy
    simp -dsimp -implicitDefEqProofs only[go_sem,↓reduceIte,Tryz.f203,ea,aB.aO,aF,hk]
    repeat'(with_reducible first|intro _|refine And.intro ?_ ?_)
    all_goals try omega
    first|refine aH.mk (hcy) ?_|refine aG.mk (hcy) ?_|refine aH.cN (hcy) ?_|refine aG.mk (cG.fO (hcy)) ?_
    simp -dsimp -implicitDefEqProofs only[go_sem,↓reduceIte,Tryz.f203]
    repeat'(with_reducible first|intro _|refine And.intro ?_ ?_)
    all_goals first|exact no fI|skip
    all_goals try(repeat'(with_reducible first|exact Heap.le_refl _|refine(aW jI).2 ?_))
    refine⟨k+1,?_⟩
    repeat'(with_reducible refine And.intro ?_ ?_)
    all_goals try(rw[IntWalk.i64_in _ aA];first|rfl|omega)
    all_goals try omega
    all_goals try(repeat'(with_reducible first|exact Heap.le_refl _|refine(aW jI).2 ?_))
    all_goals try(simp only[aB.aO,hk];done)
    exact nx fI
   ·have hk'':k=e.aP.length:=by omega
    subst hk''
    simp -dsimp -implicitDefEqProofs only[go_sem,↓reduceIte,Tryz.f203,cO]
    exact(decide_eq_true (hok.2 ⟨hn,λj hj=>by rw[show p8 e.bH j vars=vars from if_neg aA];exact hp j hj hj⟩)).symm
 ·refine eG 177 aCK aP4 bS Tryz.func203 λh=>?_
  simp -dsimp -implicitDefEqProofs only[go_sem,↓reduceIte,Tryz.f203,e1,hk]
  repeat'(with_reducible first|intro _|refine And.intro ?_ ?_)
  all_goals try omega
  all_goals(first|refine aH.mk (within e.bZ 0 (funcs-1)) ?_|refine aG.mk (within e.bZ 0 (funcs-1)) ?_)
  all_goals simp -dsimp -implicitDefEqProofs only[go_sem,↓reduceIte,Tryz.f203]
  all_goals repeat'(with_reducible first|intro _|refine And.intro ?_ ?_)
  all_goals try omega
  all_goals exact a4O aA hr
theorem aMM (p:aL) (e:aB) (vars funcs:Int) (hv:0<=vars) (hv2:vars+e.s<=4294967296) (gZ:0<=funcs) (hf:funcs<=p.aJ.length) (hps:p.s<=4294967296) :
  fQ Tryz.prog 203 [.agg [dA 3 aX.c p.aJ,I funcs],.agg e.c,I vars] (.bool (decide (e.ok p funcs vars))):=by
 by_cases h1:e.bH=10
 ·exact a4P p e vars funcs hv hv2 gZ hf hps (λy hy vars hv hv2=>aMM p y vars funcs hv hv2 gZ hf hps) h1
 ·by_cases h2:e.bH=11
  ·exact a4Q p e vars funcs hv hv2 gZ hf hps (λy hy vars hv hv2=>aMM p y vars funcs hv hv2 gZ hf hps) h2
  ·exact aT0 p e vars funcs hv hv2 gZ hf hps (λy hy vars hv hv2=>aMM p y vars funcs hv hv2 gZ hf hps) (λq=>q.elim h1 h2)
termination_by SizeOf.sizeOf e
decreasing_by all_goals exact aB.wV hy
def pD (p:aL) (e:aB) (vars funcs:Int):Prop:=(0<=vars/\vars<=412)/\(0<=funcs/\funcs<=p.aJ.length)/\(e.s:Int)+1<=400/\(e.d:Int)<=60/\e.ok p funcs vars
noncomputable instance (p:aL) (e:aB) (vars funcs:Int):Decidable (pD p e vars funcs):=Classical.propDecidable _
def aHQ (p:aL) (k:Nat) (f:aX):Prop:=aJT f.fG/\(0<=f.bN/\f.bN<=12)/\(1<=(f.bG.length:Int)/\(f.bG.length:Int)<=12)/\(∀ g∈p.aJ.take k,g.fG≠f.fG)/\(zZ aB.s f.bG:Int)<=400/\∀ e∈f.bG,pD p e f.bN k
noncomputable instance (p:aL) (k:Nat) (f:aX):Decidable (aHQ p k f):=Classical.propDecidable _
def aL.ok (p:aL):Prop:=(p.aJ.length:Int)<=16/\∀ (k:Nat) (f:aX),p.aJ[k]?=some f->aHQ p k f
noncomputable instance (p:aL):Decidable p.ok:=Classical.propDecidable _
theorem aQ3 (n:Int):fQ Tryz.prog 192 [I n] (.bool (decide (0<=n/\n<=412))):=by
 refine eG 5 aN4 cD bS Tryz.func192 λh=>?_
 simp -dsimp -implicitDefEqProofs only[go_sem,↓reduceIte,Tryz.f192]
 first|refine aH.mk (gC n 0 412) ?_|refine aG.mk (gC n 0 412) ?_|refine aH.cN (gC n 0 412) ?_|refine aG.mk (cG.fO (gC n 0 412)) ?_
 simp -dsimp -implicitDefEqProofs only[go_sem,↓reduceIte,Tryz.f192]
theorem aQ4 (n:Int):fQ Tryz.prog 201 [I n] (.bool (decide (0<=n/\n<=412))):=by
 refine eG 5 aN4 cD bS Tryz.func201 λh=>?_
 simp -dsimp -implicitDefEqProofs only[go_sem,↓reduceIte,Tryz.f201]
 first|refine aH.mk (within n 0 412) ?_|refine aG.mk (within n 0 412) ?_|refine aH.cN (within n 0 412) ?_|refine aG.mk (cG.fO (within n 0 412)) ?_
 simp -dsimp -implicitDefEqProofs only[go_sem,↓reduceIte,Tryz.f201]
theorem aT1 {left:Int} {n:Nat}:0<=lft left n↔(n:Int)<=left:=by
 unfold lft;split <;> omega
@[go_sem] def bOM:List Nat:=[0,1,2,3,8]
theorem bC1 (p:aL) (e:aB) (vars funcs:Int) (hs:e.s<=4294966296) (hps:p.s<=4294967296):fQ Tryz.prog 158 [.ip 1 [p.c] 0 0,.ip 5 [e.c] 0 0,I vars,I funcs] (.bool (decide (pD p e vars funcs))):=by
 simp only[aL.aO]
 refine eG 37 bOM cD bS Tryz.func158 λh=>?_
 simp -dsimp -implicitDefEqProofs only[go_sem,↓reduceIte,Tryz.f158]
 first|refine aH.mk (aQ3 vars) ?_|refine aG.mk (aQ3 vars) ?_|refine aH.cN (aQ3 vars) ?_|refine aG.mk (cG.fO (aQ3 vars)) ?_
 simp -dsimp -implicitDefEqProofs only[go_sem,↓reduceIte,Tryz.f158]
 repeat'(with_reducible first|intro _|refine And.intro ?_ ?_)
 all_goals try(first|(simp[pD, *];done)|omega|(grind[pD])|(simp[pD];omega))
 first|refine aH.mk (gC funcs 0 p.aJ.length) ?_|refine aG.mk (gC funcs 0 p.aJ.length) ?_|refine aH.cN (gC funcs 0 p.aJ.length) ?_|refine aG.mk (cG.fO (gC funcs 0 p.aJ.length)) ?_
 simp -dsimp -implicitDefEqProofs only[go_sem,↓reduceIte,Tryz.f158]
 repeat'(with_reducible first|intro _|refine And.intro ?_ ?_)
 all_goals try(first|(simp[pD, *];done)|omega|(grind[pD])|(simp[pD];omega))
 first|refine aG.mk ((aMJ e 400 aA aA aA).sub (by repeat'(first|exact b8.nil|refine b8.cons ?_ ?_|exact Sub.refl _|(rw[aB.aO];exact Sub.refl _)|exact Sub.eA rfl rfl rfl|exact Sub.ip (b9 aA) bF|exact Sub.eA (b9 aA) rfl rfl|exact Sub.ip dI bF|exact Sub.eA dI dC dC))) ?_|refine aH.mk ((aMJ e 400 aA aA aA).sub (by repeat'(first|exact b8.nil|refine b8.cons ?_ ?_|exact Sub.refl _|(rw[aB.aO];exact Sub.refl _)|exact Sub.eA rfl rfl rfl|exact Sub.ip (b9 aA) bF|exact Sub.eA (b9 aA) rfl rfl|exact Sub.ip dI bF|exact Sub.eA dI dC dC))) ?_
 simp -dsimp -implicitDefEqProofs only[go_sem,↓reduceIte,Tryz.f158]
 repeat'(with_reducible first|intro _|refine And.intro ?_ ?_)
 ·have hle:((e.s+1:Nat):Int)<=400:=aT1.1 fI
  first|refine aG.mk ((aTW e aA).sub (by repeat'(first|exact b8.nil|refine b8.cons ?_ ?_|exact Sub.refl _|(rw[aB.aO];exact Sub.refl _)|exact Sub.eA rfl rfl rfl|exact Sub.ip (b9 aA) bF|exact Sub.eA (b9 aA) rfl rfl|exact Sub.ip dI bF|exact Sub.eA dI dC dC))) ?_|refine aH.mk ((aTW e aA).sub (by repeat'(first|exact b8.nil|refine b8.cons ?_ ?_|exact Sub.refl _|(rw[aB.aO];exact Sub.refl _)|exact Sub.eA rfl rfl rfl|exact Sub.ip (b9 aA) bF|exact Sub.eA (b9 aA) rfl rfl|exact Sub.ip dI bF|exact Sub.eA dI dC dC))) ?_
  simp -dsimp -implicitDefEqProofs only[go_sem,↓reduceIte,Tryz.f158]
  repeat'(with_reducible first|intro _|refine And.intro ?_ ?_)
  ·first|refine aG.mk ((aZT p e vars funcs aA aA aA aA hps).sub (by repeat'(first|exact b8.nil|refine b8.cons ?_ ?_|exact Sub.refl _|(rw[aB.aO];exact Sub.refl _)|exact Sub.eA rfl rfl rfl|exact Sub.ip (b9 aA) bF|exact Sub.eA (b9 aA) rfl rfl|exact Sub.ip dI bF|exact Sub.eA dI dC dC))) ?_|refine aH.mk ((aZT p e vars funcs aA aA aA aA hps).sub (by repeat'(first|exact b8.nil|refine b8.cons ?_ ?_|exact Sub.refl _|(rw[aB.aO];exact Sub.refl _)|exact Sub.eA rfl rfl rfl|exact Sub.ip (b9 aA) bF|exact Sub.eA (b9 aA) rfl rfl|exact Sub.ip dI bF|exact Sub.eA dI dC dC))) ?_
   simp -dsimp -implicitDefEqProofs only[go_sem,↓reduceIte,Tryz.f158]
   rw[decide_eq_decide]
   exact⟨λq=>⟨by omega,by omega,by omega,by omega,q⟩,λq=>q.2.2.2.2⟩
  ·exact(decide_eq_false λq=>by have:=q.2.2.2.1;omega).symm
 ·rename_i hn
  exact(decide_eq_false λq=>hn (aT1.2 (by have:=q.2.2.1;omega))).symm
@[go_sem] def bON:List Nat:=[0,1,2,3,4,5,8]
@[go_sem] def b17:List Nat:=[4,5]
theorem bFX (p:aL) (e:aB) (vars funcs:Int) (hs:e.s<=4294966296) (hps:p.s<=4294967296):fQ Tryz.prog 169 [.agg p.c,.agg e.c,I vars,I funcs] (.bool (decide (pD p e vars funcs))):=by
 have h1:=aTU e aA
 have h2:=aXV e aA
 simp only[aB.aO]at h1 h2
 simp only[aL.aO,aB.aO]
 refine eG 36 bON b17 bS Tryz.func169 λh=>?_
 simp -dsimp -implicitDefEqProofs only[go_sem,↓reduceIte,Tryz.f169]
 first|refine aH.mk (aQ4 vars) ?_|refine aG.mk (aQ4 vars) ?_|refine aH.cN (aQ4 vars) ?_|refine aG.mk (cG.fO (aQ4 vars)) ?_
 simp -dsimp -implicitDefEqProofs only[go_sem,↓reduceIte,Tryz.f169]
 repeat'(with_reducible first|intro _|refine And.intro ?_ ?_)
 all_goals try(first|(simp[pD, *];done)|omega|(grind[pD])|(simp[pD];omega))
 first|refine aH.mk (within funcs 0 p.aJ.length) ?_|refine aG.mk (within funcs 0 p.aJ.length) ?_|refine aH.cN (within funcs 0 p.aJ.length) ?_|refine aG.mk (cG.fO (within funcs 0 p.aJ.length)) ?_
 simp -dsimp -implicitDefEqProofs only[go_sem,↓reduceIte,Tryz.f169]
 repeat'(with_reducible first|intro _|refine And.intro ?_ ?_)
 all_goals try(first|(simp[pD, *];done)|omega|(grind[pD])|(simp[pD];omega))
 first|refine aH.mk (h1) ?_|refine aG.mk (h1) ?_|refine aH.cN (h1) ?_|refine aG.mk (cG.fO (h1)) ?_
 simp -dsimp -implicitDefEqProofs only[go_sem,↓reduceIte,Tryz.f169]
 repeat'(with_reducible first|intro _|refine And.intro ?_ ?_)
 ·first|refine aH.mk (h2) ?_|refine aG.mk (h2) ?_|refine aH.cN (h2) ?_|refine aG.mk (cG.fO (h2)) ?_
  simp -dsimp -implicitDefEqProofs only[go_sem,↓reduceIte,Tryz.f169]
  repeat'(with_reducible first|intro _|refine And.intro ?_ ?_)
  ·have h3:=aMM p e vars funcs aA aA aA aA hps
   simp only[aB.aO]at h3
   first|refine aH.mk (h3) ?_|refine aG.mk (h3) ?_|refine aH.cN (h3) ?_|refine aG.mk (cG.fO (h3)) ?_
   simp -dsimp -implicitDefEqProofs only[go_sem,↓reduceIte,Tryz.f169]
   rw[decide_eq_decide]
   exact⟨λq=>⟨by omega,by omega,by omega,by omega,q⟩,λq=>q.2.2.2.2⟩
  ·exact(decide_eq_false λq=>by have:=q.2.2.2.1;omega).symm
 ·exact(decide_eq_false λq=>by have:=q.2.2.1;omega).symm
@[go_sem] def aZU:List Nat:=[0,1,4,5,6,7,8,37,40,55,62,90]
@[go_sem] def bJV:Marks:=λid=>match id with|7=>([],(.op 0 (.op 1 (.op 2 (.op 3 (.op 4 (.op 5 (.op 6 (.op 7 (.op 8 (.op 9 (.op 10 (.op 11 (.op 12 .nil))))))))))))),[])|14=>([],(.op 0 (.op 1 (.op 2 (.op 3 (.op 4 (.op 5 (.op 6 (.op 7 (.op 8 (.op 9 (.op 10 (.op 11 (.op 12 (.op 13 (.op 14 (.op 15 (.op 16 (.op 17 .nil)))))))))))))))))),[])|_=>([],.nil,[])
theorem bC2 (p:aL) (k:Nat) (f:aX) (ef:p.aJ[k]?=some f) (hps:p.s<=4194304):fQ Tryz.prog 111 [.ip 1 [p.c] 0 0,I k] (.bool (decide (aHQ p k f))):=by
 have hk:k<p.aJ.length:=(oG.1 ef).1
 have hfs:=aL.aTY (vJ ef)
 have hl:=p.aTX
 have hos:=f.aTZ
 simp only[aL.aO]
 have no (q:¬(aJT f.fG/\(0<=f.bN/\f.bN<=12)/\(1<=(f.bG.length:Int)/\(f.bG.length:Int)<=12))):false=decide (aHQ p k f):=(decide_eq_false λz=>q ⟨z.1,z.2.1,z.2.2.1⟩).symm
 refine eG 91 aZU cD bJV Tryz.func111 λh=>?_
 simp -dsimp -implicitDefEqProofs only[go_sem,↓reduceIte,Tryz.f111,ef,aX.aO,aA7]
 repeat'(with_reducible first|intro _|refine And.intro ?_ ?_)
 all_goals try omega
 first|refine aH.mk (aFF f.fG) ?_|refine aG.mk (aFF f.fG) ?_|refine aH.cN (aFF f.fG) ?_|refine aG.mk (cG.fO (aFF f.fG)) ?_
 simp -dsimp -implicitDefEqProofs only[go_sem,↓reduceIte,Tryz.f111,ef,aX.aO]
 repeat'(with_reducible first|intro _|refine And.intro ?_ ?_)
 ·first|refine aH.mk (gC f.bN 0 12) ?_|refine aG.mk (gC f.bN 0 12) ?_|refine aH.cN (gC f.bN 0 12) ?_|refine aG.mk (cG.fO (gC f.bN 0 12)) ?_
  simp -dsimp -implicitDefEqProofs only[go_sem,↓reduceIte,Tryz.f111,ef,aX.aO]
  repeat'(with_reducible first|intro _|refine And.intro ?_ ?_)
  ·first|refine aH.mk (gC f.bG.length 1 12) ?_|refine aG.mk (gC f.bG.length 1 12) ?_|refine aH.cN (gC f.bG.length 1 12) ?_|refine aG.mk (cG.fO (gC f.bG.length 1 12)) ?_
   simp -dsimp -implicitDefEqProofs only[go_sem,↓reduceIte,Tryz.f111,ef,aX.aO]
   repeat'(with_reducible first|intro _|refine And.intro ?_ ?_)
   ·exact no λz=>by simp_all
   ·rename_i q1 q2 q3
    refine cY aZU cD bJV (λj:Nat=>[(0,.ip 1 [p.c] 0 0),(1,I k),(5,.ip 3 (p.aJ.map aX.c) k 0),(6,I j)]) (λ_=>h) (λj=>j<=k/\∀ g∈p.aJ.take j,g.fG≠f.fG) (λj=>k-j) 0 (by refine⟨by simp[eE,dJ,aL.aO],by repeat'(with_reducible first|exact Heap.le_refl _|refine(aW jI).2 ?_),by simp⟩) ?_
    intro j ⟨hj,hp⟩
    simp only[aL.aO]
    rcases cX j k with hlt|hge
    ·have eg:p.aJ[j]?=some p.aJ[j]:=cJ aA
     simp -dsimp -implicitDefEqProofs only[go_sem,↓reduceIte,Tryz.f111,ef,eg,aX.aO,aA7]
     repeat'(with_reducible first|intro _|refine And.intro ?_ ?_)
     all_goals try omega
     ·rename_i he
      refine(decide_eq_false λz=>z.2.2.2.1 p.aJ[j] ?_ he).symm
      exact List.mem_take_iff_getElem.2 ⟨j,by omega,rfl⟩
     ·rename_i he
      refine⟨j+1,?_⟩
      repeat'(with_reducible refine And.intro ?_ ?_)
      all_goals try(rw[IntWalk.i64_in _ aA];first|rfl|omega)
      all_goals try omega
      all_goals try(repeat'(with_reducible first|exact Heap.le_refl _|refine(aW jI).2 ?_))
      all_goals try(simp only[aL.aO];done)
      exact mN (P:=λg:aX=>g.fG≠f.fG) aA hp he
    ·have hj':j=k:=by omega
     rw[hj']at hp
     simp -dsimp -implicitDefEqProofs only[go_sem,↓reduceIte,Tryz.f111,hj',eK]
     have part (i:Nat) (hi:i<f.bG.length):i+((f.bG.take i).map aB.s).sum+f.bG[i].s+1<=zZ aB.s f.bG:=by
      have h1:=kE aB.s f.bG i hi
      have h2:=rN aB.s f.bG (i+1)
      rw[gI];omega
     have hszs:zZ aB.s f.bG<=f.s:=by rw[f.gB];omega
     refine cY aZU cD bJV (λi:Nat=>[(0,.ip 1 [p.c] 0 0),(1,I k),(5,.ip 3 (p.aJ.map aX.c) k 0),(7,I (400-(i+((f.bG.take i).map aB.s).sum:Nat))),(8,I i)]) (λ_=>h) (λi=>i<=f.bG.length/\i+((f.bG.take i).map aB.s).sum<=400/\∀ e∈f.bG.take i,pD p e f.bN k) (λi=>f.bG.length-i) 0 (by refine⟨by simp[eE,dJ,aL.aO],by repeat'(with_reducible first|exact Heap.le_refl _|refine(aW jI).2 ?_),by simp⟩) ?_
     intro i ⟨hi,hsum,hall⟩
     simp only[aL.aO]
     rcases cX i f.bG.length with hlt|hge
     ·have h1:=kE aB.s f.bG i hlt
      have hpt:=part i hlt
      have hout:=aX.bS1 (dX hlt)
      simp -dsimp -implicitDefEqProofs only[go_sem,↓reduceIte,Tryz.f111,ef,aX.aO,aA7]
      repeat'(with_reducible first|intro _|refine And.intro ?_ ?_)
      all_goals try omega
      first|refine aG.mk ((aMJ f.bG[i] (400-(i+((f.bG.take i).map aB.s).sum:Nat)) aA aA aA).sub (by repeat'(first|exact b8.nil|refine b8.cons ?_ ?_|exact Sub.refl _|(rw[aB.aO];exact Sub.refl _)|exact Sub.eA rfl rfl rfl|exact Sub.ip (b9 aA) bF|exact Sub.eA (b9 aA) rfl rfl|exact Sub.ip dI bF|exact Sub.eA dI dC dC))) ?_|refine aH.mk ((aMJ f.bG[i] (400-(i+((f.bG.take i).map aB.s).sum:Nat)) aA aA aA).sub (by repeat'(first|exact b8.nil|refine b8.cons ?_ ?_|exact Sub.refl _|(rw[aB.aO];exact Sub.refl _)|exact Sub.eA rfl rfl rfl|exact Sub.ip (b9 aA) bF|exact Sub.eA (b9 aA) rfl rfl|exact Sub.ip dI bF|exact Sub.eA dI dC dC))) ?_
      simp -dsimp -implicitDefEqProofs only[go_sem,↓reduceIte,Tryz.f111,ef,aX.aO]
      rcases yM (400-(i+((f.bG.take i).map aB.s).sum:Nat)) (f.bG[i].s+1)with⟨e,hl1⟩|⟨e,hl1⟩
      ·simp -dsimp -implicitDefEqProofs only[go_sem,↓reduceIte,Tryz.f111,e]
       repeat'(with_reducible first|intro _|refine And.intro ?_ ?_)
       all_goals try omega
       all_goals exact(decide_eq_false λz=>by have:=z.2.2.2.2.1;omega).symm
      ·simp -dsimp -implicitDefEqProofs only[go_sem,↓reduceIte,Tryz.f111,e]
       repeat'(with_reducible first|intro _|refine And.intro ?_ ?_)
       all_goals try omega
       first|refine aG.mk ((bC1 p f.bG[i] f.bN k aA aA).sub (by repeat'(first|exact b8.nil|refine b8.cons ?_ ?_|exact Sub.refl _|(rw[aB.aO];exact Sub.refl _)|exact Sub.eA rfl rfl rfl|exact Sub.ip (b9 aA) bF|exact Sub.eA (b9 aA) rfl rfl|exact Sub.ip dI bF|exact Sub.eA dI dC dC))) ?_|refine aH.mk ((bC1 p f.bG[i] f.bN k aA aA).sub (by repeat'(first|exact b8.nil|refine b8.cons ?_ ?_|exact Sub.refl _|(rw[aB.aO];exact Sub.refl _)|exact Sub.eA rfl rfl rfl|exact Sub.ip (b9 aA) bF|exact Sub.eA (b9 aA) rfl rfl|exact Sub.ip dI bF|exact Sub.eA dI dC dC))) ?_
       simp -dsimp -implicitDefEqProofs only[go_sem,↓reduceIte,Tryz.f111,ef,aX.aO]
       repeat'(with_reducible first|intro _|refine And.intro ?_ ?_)
       ·rename_i hn
        exact(decide_eq_false λz=>hn (z.2.2.2.2.2 _ (dX hlt))).symm
       ·rename_i hn
        refine⟨i+1,?_⟩
        repeat'(with_reducible refine And.intro ?_ ?_)
        all_goals try(rw[IntWalk.i64_in _ aA];first|rfl|omega)
        all_goals try omega
        all_goals try(repeat'(with_reducible first|exact Heap.le_refl _|refine(aW jI).2 ?_))
        all_goals try(simp only[aL.aO];done)
        exact mN (P:=λe=>pD p e f.bN k) hlt hall hn
     ·have hi':i=f.bG.length:=by omega
      subst hi'
      rw[eJ]at hsum hall
      simp -dsimp -implicitDefEqProofs only[go_sem,↓reduceIte,Tryz.f111,ef,aX.aO,cO]
      exact λ_=>(decide_eq_true ⟨by assumption,q1,q3,hp,by rw[gI];omega,hall⟩).symm
  ·exact no λz=>by simp_all
 ·exact no λz=>by simp_all
@[go_sem] def bJW:List Nat:=[0,2,3,9,16,22]
theorem bS2 (p:aL) (hps:p.s<=4194304):fQ Tryz.prog 64 [.ip 1 [p.c] 0 0] (.bool (decide p.ok)):=by
 simp only[aL.aO]
 refine eG 23 bJW cD bS Tryz.func64 λh=>?_
 simp -dsimp -implicitDefEqProofs only[go_sem,↓reduceIte,Tryz.f64]
 repeat'(with_reducible first|intro _|refine And.intro ?_ ?_)
 ·exact(decide_eq_false λz=>by have:=z.1;omega).symm
 refine cY bJW cD bS (λk:Nat=>[(0,.ip 1 [p.c] 0 0),(3,I k)]) (λ_=>h) (λk=>k<=p.aJ.length/\∀ (j:Nat) (f:aX),j<k->p.aJ[j]?=some f->aHQ p j f) (λk=>p.aJ.length-k) 0 (by refine⟨by simp[eE,dJ,aL.aO],by repeat'(with_reducible first|exact Heap.le_refl _|refine(aW jI).2 ?_),by simp⟩) ?_
 intro k ⟨hk,hp⟩
 simp only[aL.aO]
 rcases cX k p.aJ.length with hlt|hge
 ·have eg:p.aJ[k]?=some p.aJ[k]:=cJ aA
  simp -dsimp -implicitDefEqProofs only[go_sem,↓reduceIte,Tryz.f64]
  repeat'(with_reducible first|intro _|refine And.intro ?_ ?_)
  all_goals try omega
  first|refine aG.mk ((bC2 p k p.aJ[k] eg hps).sub (by repeat'(first|exact b8.nil|refine b8.cons ?_ ?_|exact Sub.refl _|(rw[aB.aO];exact Sub.refl _)|exact Sub.eA rfl rfl rfl|exact Sub.ip (b9 aA) bF|exact Sub.eA (b9 aA) rfl rfl|exact Sub.ip dI bF|exact Sub.eA dI dC dC))) ?_|refine aH.mk ((bC2 p k p.aJ[k] eg hps).sub (by repeat'(first|exact b8.nil|refine b8.cons ?_ ?_|exact Sub.refl _|(rw[aB.aO];exact Sub.refl _)|exact Sub.eA rfl rfl rfl|exact Sub.ip (b9 aA) bF|exact Sub.eA (b9 aA) rfl rfl|exact Sub.ip dI bF|exact Sub.eA dI dC dC))) ?_
  simp -dsimp -implicitDefEqProofs only[go_sem,↓reduceIte,Tryz.f64]
  repeat'(with_reducible first|intro _|refine And.intro ?_ ?_)
  ·rename_i hn
   exact(decide_eq_false λz=>hn (z.2 k _ eg)).symm
  ·rename_i hn
   refine⟨k+1,?_⟩
   repeat'(with_reducible refine And.intro ?_ ?_)
   all_goals try(rw[IntWalk.i64_in _ aA];first|rfl|omega)
   all_goals try omega
   all_goals try(repeat'(with_reducible first|exact Heap.le_refl _|refine(aW jI).2 ?_))
   all_goals try(simp only[aL.aO];done)
   intro j f hj ej
   rcases aI2.1 hj with h1|rfl
   ·exact hp j f h1 ej
   ·rw[eg]at ej;obtain rfl:=eN ej;exact hn
 ·have hk':k=p.aJ.length:=by omega
  subst hk'
  simp -dsimp -implicitDefEqProofs only[go_sem,↓reduceIte,Tryz.f64,cO]
  exact λ_=>(decide_eq_true ⟨by omega,λj f ej=>hp j f (oG.1 ej).1 ej⟩).symm
theorem a7N (a:List aX) (p:aX->Bool) (g:FuncId) (cap:List aC) {h0:Heap} (hc:∀ x∈a,cG Tryz.prog g ([(.agg (aX.c x))]++cap) (.bool (p x)) h0):cG Tryz.prog 200 [(dA 3 aX.c a),.fn (.func g) [] cap] (I (idxOf p a)) h0:=by
 refine aPO 19 aXN cD bS Tryz.func200 λh hle=>?_
 simp -dsimp -implicitDefEqProofs only[go_sem,↓reduceIte,Tryz.f200,Tryz.f200]
 intro _
 refine cY aXN cD bS (λk:Nat=>[(0,(dA 3 aX.c a)),(1,.fn (.func g) [] cap),(7,I a.length),(8,I k)]) (λ_=>h) (λk=>k<=a.length/\∀ x∈a.take k,p x=false) (λk=>a.length-k) 0 qA ?_
 intro k ⟨hk,hp⟩
 rcases cX k a.length with hlt|hge
 ·have ea:a[k]?=some a[k]:=cJ hlt
  simp -dsimp -implicitDefEqProofs only[go_sem,↓reduceIte,Tryz.f200,Tryz.f200,ea,aX.aO]
  repeat'(with_reducible first|intro _|refine And.intro ?_ ?_)
  all_goals try omega
  have hx:=hc a[k] (dX hlt)
  simp only[aX.aO]at hx
  refine aH.cN (hx.mono hle) ?_
  cases hpk:p a[k]with
  |true =>
   simp -dsimp -implicitDefEqProofs only[go_sem,↓reduceIte,Tryz.f200,Tryz.f200]
   repeat'(with_reducible first|intro _|refine And.intro ?_ ?_)
   all_goals first|exact(yP hlt hp hpk).symm|rfl|(rw[yP hlt hp hpk])
  |false =>
   simp -dsimp -implicitDefEqProofs only[go_sem,↓reduceIte,Tryz.f200,Tryz.f200]
   refine⟨k+1,?_⟩
   repeat'(with_reducible refine And.intro ?_ ?_)
   all_goals try(rw[IntWalk.i64_in _ aA];first|rfl|omega)
   all_goals try omega
   exact mN (P:=λx=>p x=false) hlt hp hpk
 ·have hk':k=a.length:=by omega
  subst hk'
  rw[eJ]at hp
  simp -dsimp -implicitDefEqProofs only[go_sem,↓reduceIte,Tryz.f200,Tryz.f200,cO]
  all_goals first|exact(yO hp).symm|rw[yO hp]
theorem a7O (a:List aX) (p:aX->Bool) (g:FuncId) (cap:List aC) {h0:Heap} (hc:∀ x∈a,cG Tryz.prog g ([(.agg (aX.c x))]++cap) (.bool (p x)) h0):cG Tryz.prog 167 [(dA 3 aX.c a),.fn (.func g) [] cap] (.bool (a.any p)) h0:=by
 refine aPO 9 aHN cD bS Tryz.func167 λh hle=>?_
 simp -dsimp -implicitDefEqProofs only[go_sem,↓reduceIte,Tryz.f167,Tryz.f167]
 refine aH.cN ((a7N a p g cap hc).mono hle) ?_
 simp -dsimp -implicitDefEqProofs only[go_sem,↓reduceIte,Tryz.f167,Tryz.f167]
 all_goals first|done|exact sM|rw[sM]
theorem aWL (g f:aX) (n:Nat) {h0:Heap} (hn:h0 n=some (.row 3 [f.c.map .v])):cG Tryz.prog 168 [.agg g.c,.op n 3 0 0] (.bool (decide (g.fG=f.fG))) h0:=by
 simp only[aX.aO]
 have hg (h:Heap) (hle:h0.le h):=Heap.aHE hle hn
 refine aPO 9 aZE aAO bS Tryz.func168 λh hle=>?_
 simp -dsimp -implicitDefEqProofs only[go_sem,↓reduceIte,Tryz.f168]
 have hn':=hg h hle
 simp only[aX.aO]at hn'
 simp -dsimp -implicitDefEqProofs only[go_sem,↓reduceIte,Tryz.f168,hn']
@[go_sem] def aZV:List Nat:=[0,1,2,3,4,5,7,11,13,14,15,16,31,42,44,45,46,47,56,63]
theorem aZW (p:aL) (hps:p.s<=4194304):fQ Tryz.prog 123 [.agg p.c] (.bool (decide p.ok)):=by
 simp only[aL.aO]
 refine eG 65 aZV aDX bS Tryz.func123 λh=>?_
 simp -dsimp -implicitDefEqProofs only[go_sem,↓reduceIte,Tryz.f123]
 repeat'(with_reducible first|intro _|refine And.intro ?_ ?_)
 ·exact(decide_eq_false λz=>by have:=z.1;omega).symm
 refine cY aZV aDX bS (λk:Nat=>[(1,.ip 1 [p.c] 0 0),(13,dA 3 aX.c p.aJ),(14,I p.aJ.length),(15,I k)]) (λ_=>h) (λk=>k<=p.aJ.length/\∀ (j:Nat) (f:aX),j<k->p.aJ[j]?=some f->aHQ p j f) (λk=>p.aJ.length-k) 0 (by refine⟨by simp[eE,dJ,aL.aO],by repeat'(with_reducible first|exact Heap.le_refl _|refine(aW jI).2 ?_),by simp⟩) ?_
 intro k ⟨hk,hp⟩
 simp only[aL.aO]
 rcases cX k p.aJ.length with hlt|hge
 ·obtain⟨f,eg⟩:∃ f,p.aJ[k]?=some f:=⟨_,cJ hlt⟩
  have hfs:=aL.aTY (vJ eg)
  have hos:=f.aTZ
  have no (q:¬aHQ p k f):false=decide p.ok:=(decide_eq_false λz=>q (z.2 k f eg)).symm
  simp -dsimp -implicitDefEqProofs only[go_sem,↓reduceIte,Tryz.f123,eg,aX.aO,aF]
  repeat'(with_reducible first|intro _|refine And.intro ?_ ?_)
  all_goals try omega
  rename_i n hn
  first|refine aH.mk (aZN f.fG) ?_|refine aG.mk (aZN f.fG) ?_|refine aH.cN (aZN f.fG) ?_|refine aG.mk (cG.fO (aZN f.fG)) ?_
  simp -dsimp -implicitDefEqProofs only[go_sem,↓reduceIte,Tryz.f123,dD,aF]
  repeat'(with_reducible first|intro _|refine And.intro ?_ ?_)
  all_goals try(repeat'(with_reducible first|exact Heap.le_refl _|refine(aW jI).2 ?_))
  all_goals try omega
  all_goals try(rename_i hnm;exact no λz=>hnm z.1)
  rename_i hnm
  rw[←List.map_take]
  refine aH.cN (a7O (p.aJ.take k) (λg=>decide (g.fG=f.fG)) 168 [.op n 3 0 0] λg _=>aWL g f n (by simp[dD,aX.aO])) ?_
  simp -dsimp -implicitDefEqProofs only[go_sem,↓reduceIte,Tryz.f123,dD,aF]
  repeat'(with_reducible first|intro _|refine And.intro ?_ ?_)
  all_goals try(repeat'(with_reducible first|exact Heap.le_refl _|refine(aW jI).2 ?_))
  ·rename_i q
   refine no λz=>?_
   obtain⟨g,pE,hg2⟩:=bHH.1 q
   exact z.2.2.2.1 g pE (by simpa using hg2)
  rename_i hnd
  have hnd':∀ g∈p.aJ.take k,g.fG≠f.fG:=λg hg=>by
   have:=List.any_eq_false.1 hnd g hg
   simpa using this
  first|refine aH.mk (within f.bN 0 12) ?_|refine aG.mk (within f.bN 0 12) ?_|refine aH.cN (within f.bN 0 12) ?_|refine aG.mk (cG.fO (within f.bN 0 12)) ?_
  simp -dsimp -implicitDefEqProofs only[go_sem,↓reduceIte,Tryz.f123,dD,aF]
  repeat'(with_reducible first|intro _|refine And.intro ?_ ?_)
  all_goals try(repeat'(with_reducible first|exact Heap.le_refl _|refine(aW jI).2 ?_))
  ·first|refine aH.mk (within f.bG.length 1 12) ?_|refine aG.mk (within f.bG.length 1 12) ?_|refine aH.cN (within f.bG.length 1 12) ?_|refine aG.mk (cG.fO (within f.bG.length 1 12)) ?_
   simp -dsimp -implicitDefEqProofs only[go_sem,↓reduceIte,Tryz.f123,dD,aF]
   repeat'(with_reducible first|intro _|refine And.intro ?_ ?_)
   all_goals try(repeat'(with_reducible first|exact Heap.le_refl _|refine(aW jI).2 ?_))
   ·rename_i q
    exact no λz=>q z.2.2.1
   ·rename_i q1 q2 q3 q4
    have part (i:Nat) (hi:i<f.bG.length):i+((f.bG.take i).map aB.s).sum+f.bG[i].s+1<=zZ aB.s f.bG:=by
     have h1:=kE aB.s f.bG i hi
     have h2:=rN aB.s f.bG (i+1)
     rw[gI];omega
    have hszs:zZ aB.s f.bG<=f.s:=by rw[f.gB];omega
    refine cY aZV aDX bS (λi:Nat=>[(1,.ip 1 [p.c] 0 0),(3,I k),(4,.op n 3 0 0),(5,I ((i+((f.bG.take i).map aB.s).sum:Nat):Int)),(13,dA 3 aX.c p.aJ),(14,I p.aJ.length),(15,I k),(44,dA 5 aB.c f.bG),(45,I f.bG.length),(46,I i)]) (λ_=>bL h n (.row 3 [f.c.map .v])) (λi=>i<=f.bG.length/\∀ e∈f.bG.take i,pD p e f.bN k) (λi=>f.bG.length-i) 0 (by refine⟨by simp[eE,dJ,aL.aO],by simp[aX.aO,Heap.le_refl],by simp⟩) ?_
    intro i ⟨hi,hall⟩
    simp only[aL.aO,aX.aO,nE,xL]
    rcases cX i f.bG.length with aHS|bOO
    ·have h1:=kE aB.s f.bG i aHS
     have hpt:=part i aHS
     have hout:=aX.bS1 (dX aHS)
     have ee:f.bG[i]?=some f.bG[i]:=cJ aHS
     have hv:=bFX p f.bG[i] f.bN k aA aA
     have hz:=aTU f.bG[i] aA
     simp only[aB.aO,aL.aO]at hv hz
     simp -dsimp -implicitDefEqProofs only[go_sem,↓reduceIte,Tryz.f123,ee,aB.aO,aF]
     repeat'(with_reducible first|intro _|refine And.intro ?_ ?_)
     all_goals try omega
     rename_i m hm
     have hmn:(n=m)=False:=eq_false λe=>hm.1 e.symm
     have bVS:(m=n)=False:=eq_false hm.1
     simp -dsimp -implicitDefEqProofs only[go_sem,↓reduceIte,Tryz.f123,dD,hmn,bVS]
     first|refine aH.mk (hv) ?_|refine aG.mk (hv) ?_|refine aH.cN (hv) ?_|refine aG.mk (cG.fO (hv)) ?_
     simp -dsimp -implicitDefEqProofs only[go_sem,↓reduceIte,Tryz.f123,dD,hmn,bVS]
     repeat'(with_reducible first|intro _|refine And.intro ?_ ?_)
     ·rename_i hne
      exact no λz=>hne (z.2.2.2.2.2 _ (dX aHS))
     ·all_goals try(repeat'(with_reducible first|exact Heap.le_refl _|refine(aW jI).2 ?_))
     ·rename_i hne
      first|refine aH.mk (hz) ?_|refine aG.mk (hz) ?_|refine aH.cN (hz) ?_|refine aG.mk (cG.fO (hz)) ?_
      simp -dsimp -implicitDefEqProofs only[go_sem,↓reduceIte,Tryz.f123,dD,hmn,bVS]
      refine⟨i+1,?_⟩
      repeat'(with_reducible refine And.intro ?_ ?_)
      all_goals try(rw[IntWalk.i64_in _ aA];first|rfl|omega)
      all_goals try omega
      all_goals try(repeat'(with_reducible first|exact Heap.le_refl _|refine(aW jI).2 ?_))
      all_goals try(simp only[aL.aO];done)
      exact mN (P:=λe=>pD p e f.bN k) aHS hall hne
    ·have hi':i=f.bG.length:=by omega
     subst hi'
     rw[eJ]at hall ⊢
     simp -dsimp -implicitDefEqProofs only[go_sem,↓reduceIte,Tryz.f123,cO]
     have hss:zZ aB.s f.bG=f.bG.length+(f.bG.map aB.s).sum:=gI _ _
     repeat'(with_reducible first|intro _|refine And.intro ?_ ?_)
     all_goals try(repeat'(with_reducible first|exact Heap.le_refl _|refine(aW jI).2 ?_))
     ·rename_i q
      exact no λz=>by have:=z.2.2.2.2.1;omega
     ·rename_i q
      have hfk:aHQ p k f:=⟨hnm,q1,q3,hnd',by omega,hall⟩
      refine⟨k+1,?_⟩
      repeat'(with_reducible refine And.intro ?_ ?_)
      all_goals try(rw[IntWalk.i64_in _ aA];first|rfl|omega)
      all_goals try omega
      all_goals try(repeat'(with_reducible first|exact Heap.le_refl _|refine(aW jI).2 ?_))
      intro j f' hj ej
      rcases aI2.1 hj with h1|rfl
      ·exact hp j f' h1 ej
      ·rw[eg]at ej;obtain rfl:=eN ej;exact hfk
  ·rename_i q
   exact no λz=>q z.2.1
 ·have hk':k=p.aJ.length:=by omega
  subst hk'
  simp -dsimp -implicitDefEqProofs only[go_sem,↓reduceIte,Tryz.f123,cO]
  exact(decide_eq_true ⟨by omega,λj f ej=>hp j f (oG.1 ej).1 ej⟩).symm
@[go_sem] def bVT:List Nat:=[0,1,2,4,5,9]
theorem bJX (p:aL) (f:Int) (hps:p.s<=4194304):fQ Tryz.prog 72 [.agg p.c,I f] (I (if p.ok then if 0<=f/\f<=(p.aJ.length:Int)-1 then 0 else 2 else 1)):=by
 have hv:=aZW p hps
 simp only[aL.aO]at hv ⊢
 refine eG 17 bVT aAO bS Tryz.func72 λh=>?_
 simp -dsimp -implicitDefEqProofs only[go_sem,↓reduceIte,Tryz.f72]
 first|refine aH.mk (hv) ?_|refine aG.mk (hv) ?_|refine aH.cN (hv) ?_|refine aG.mk (cG.fO (hv)) ?_
 simp -dsimp -implicitDefEqProofs only[go_sem,↓reduceIte,Tryz.f72]
 repeat'(with_reducible first|intro _|refine And.intro ?_ ?_)
 ·rename_i hn
  rw[if_neg hn]
 ·rename_i hn _
  rw[if_pos hn]
  all_goals try simp(disch:=omega) only[IntWalk.i64_in]
  first|refine aH.mk (within f 0 (p.aJ.length-1)) ?_|refine aG.mk (within f 0 (p.aJ.length-1)) ?_|refine aH.cN (within f 0 (p.aJ.length-1)) ?_|refine aG.mk (cG.fO (within f 0 (p.aJ.length-1))) ?_
  simp -dsimp -implicitDefEqProofs only[go_sem,↓reduceIte,Tryz.f72]
  repeat'(with_reducible first|intro _|refine And.intro ?_ ?_)
  ·rename_i q
   rw[if_neg q]
  ·rename_i q
   rw[if_pos q]
def dF.okF (j:dF) (f:aX):Prop:=(0<=j.aQ/\j.aQ<=f.bN)/\((j.c7.length:Int)=j.aQ/\rH j.c7)/\(j.aV.length:Int)<=10/\∀ t∈j.aV,(t.length:Int)=f.bN-j.aQ/\rH t
def dF.ok (j:dF):Prop:=j.bR.ok/\(0<=j.bO/\j.bO<=(j.bR.aJ.length:Int)-1)/\∀ f,j.bR.aJ[j.bO.toNat]?=some f->j.okF f
noncomputable instance (j:dF):Decidable j.ok:=Classical.propDecidable _
@[go_sem] def bJY:List Nat:=[0,2,3,4,24,71,78,106]
@[go_sem] def b18:Marks:=λid=>match id with|1=>([],(.op 0 (.op 1 (.op 2 (.op 3 (.op 4 (.op 5 (.op 6 (.op 7 (.op 8 (.op 9 (.op 10 (.op 11 (.op 12 (.op 13 (.op 14 (.op 15 (.op 16 (.op 17 (.op 18 (.op 19 .nil)))))))))))))))))))),[])|3=>([],(.op 0 (.op 1 (.op 2 (.op 3 (.op 4 (.op 5 (.op 6 (.op 7 (.op 8 (.op 9 (.op 10 (.op 11 (.op 12 .nil))))))))))))),[])|4=>([],(.op 0 (.op 1 (.op 2 (.op 3 (.op 4 (.op 5 (.op 6 (.op 7 (.op 8 (.op 9 (.op 10 (.op 11 (.op 12 (.op 13 (.op 14 (.op 15 (.op 16 (.op 17 (.op 18 (.op 19 (.op 20 (.op 21 (.op 22 (.op 23 (.op 24 (.op 25 (.op 26 (.op 27 (.op 28 (.op 29 (.op 30 (.op 31 (.op 32 (.op 33 (.op 34 .nil))))))))))))))))))))))))))))))))))),[])|9=>([],(.op 0 (.op 1 (.op 2 (.op 3 (.op 4 (.op 5 (.op 6 (.op 7 (.op 8 (.op 9 (.op 10 (.op 11 (.op 12 (.op 13 (.op 14 (.op 15 (.op 16 (.op 17 (.op 18 (.op 19 (.op 20 (.op 21 (.op 22 (.op 23 (.op 24 (.op 25 .nil)))))))))))))))))))))))))),[])|_=>([],.nil,[])
theorem bVU (j:dF) (hps:j.bR.s<=4194304):fQ Tryz.prog 22 [.ip 5 [j.c] 0 0] (.bool (decide j.ok)):=by
 have hl:=j.bR.aTX
 have e1:IntKind.i64.wrap ((j.bR.aJ.length:Int)-1)=j.bR.aJ.length-1:=IntWalk.i64_in _ aA
 simp only[dF.aO]
 refine eG 107 bJY cD b18 Tryz.func22 λh=>?_
 simp -dsimp -implicitDefEqProofs only[go_sem,↓reduceIte,Tryz.f22,e1]
 first|refine aG.mk ((bS2 j.bR hps).sub (by repeat'(first|exact b8.nil|refine b8.cons ?_ ?_|exact Sub.refl _|(rw[aB.aO];exact Sub.refl _)|exact Sub.eA rfl rfl rfl|exact Sub.ip (b9 aA) bF|exact Sub.eA (b9 aA) rfl rfl|exact Sub.ip dI bF|exact Sub.eA dI dC dC))) ?_|refine aH.mk ((bS2 j.bR hps).sub (by repeat'(first|exact b8.nil|refine b8.cons ?_ ?_|exact Sub.refl _|(rw[aB.aO];exact Sub.refl _)|exact Sub.eA rfl rfl rfl|exact Sub.ip (b9 aA) bF|exact Sub.eA (b9 aA) rfl rfl|exact Sub.ip dI bF|exact Sub.eA dI dC dC))) ?_
 simp -dsimp -implicitDefEqProofs only[go_sem,↓reduceIte,Tryz.f22,e1]
 repeat'(with_reducible first|intro _|refine And.intro ?_ ?_)
 ·rename_i hp
  first|refine aH.mk (gC j.bO 0 (j.bR.aJ.length-1)) ?_|refine aG.mk (gC j.bO 0 (j.bR.aJ.length-1)) ?_|refine aH.cN (gC j.bO 0 (j.bR.aJ.length-1)) ?_|refine aG.mk (cG.fO (gC j.bO 0 (j.bR.aJ.length-1))) ?_
  simp -dsimp -implicitDefEqProofs only[go_sem,↓reduceIte,Tryz.f22,e1]
  repeat'(with_reducible first|intro _|refine And.intro ?_ ?_)
  ·rename_i hr
   exact(decide_eq_false λz=>hr z.2.1).symm
  all_goals try omega
  rename_i hr
  obtain⟨f,ef⟩:∃ f,j.bR.aJ[j.bO.toNat]?=some f:=⟨_,cJ aA⟩
  have hfo:=hp.2 _ f ef
  have hj:j.ok↔j.okF f:=⟨λz=>z.2.2 f ef,λz=>⟨hp,hr,λg eg=>by rw[ef]at eg;obtain rfl:=eN eg;exact z⟩⟩
  have hp1:=hfo.2.1
  simp -dsimp -implicitDefEqProofs only[go_sem,↓reduceIte,Tryz.f22,ef,aX.aO]
  first|refine aH.mk (gC j.aQ 0 f.bN) ?_|refine aG.mk (gC j.aQ 0 f.bN) ?_|refine aH.cN (gC j.aQ 0 f.bN) ?_|refine aG.mk (cG.fO (gC j.aQ 0 f.bN)) ?_
  simp -dsimp -implicitDefEqProofs only[go_sem,↓reduceIte,Tryz.f22]
  repeat'(with_reducible first|intro _|refine And.intro ?_ ?_)
  ·rename_i hsh hlen
   first|refine aH.mk (jG j.c7) ?_|refine aG.mk (jG j.c7) ?_|refine aH.cN (jG j.c7) ?_|refine aG.mk (cG.fO (jG j.c7)) ?_
   simp -dsimp -implicitDefEqProofs only[go_sem,↓reduceIte,Tryz.f22]
   repeat'(with_reducible first|intro _|refine And.intro ?_ ?_)
   ·exact(decide_eq_false λz=>by have:=(hj.1 z).2.2.1;omega).symm
   ·have e4:IntKind.i64.wrap (f.bN-j.aQ)=f.bN-j.aQ:=IntWalk.i64_in _ aA
    refine cY bJY cD b18 (λk:Nat=>[(0,.ip 5 [j.c] 0 0),(3,I f.bN),(4,I k)]) (λ_=>h) (λk=>k<=j.aV.length/\∀ t∈j.aV.take k,(t.length:Int)=f.bN-j.aQ/\rH t) (λk=>j.aV.length-k) 0 (by refine⟨by simp[eE,dJ,dF.aO],by repeat'(with_reducible first|exact Heap.le_refl _|refine(aW jI).2 ?_),by simp⟩) ?_
    intro k ⟨hk,hall⟩
    simp only[dF.aO]
    rcases cX k j.aV.length with hlt|hge
    ·have ea:j.aV[k]?=some j.aV[k]:=cJ hlt
     have no (q:¬((j.aV[k].length:Int)=f.bN-j.aQ/\rH j.aV[k])):false=decide j.ok:=(decide_eq_false λz=>q ((hj.1 z).2.2.2 _ (dX hlt))).symm
     simp -dsimp -implicitDefEqProofs only[go_sem,↓reduceIte,Tryz.f22,ea,e4]
     repeat'(with_reducible first|intro _|refine And.intro ?_ ?_)
     all_goals try omega
     ·first|refine aH.mk (jG j.aV[k]) ?_|refine aG.mk (jG j.aV[k]) ?_|refine aH.cN (jG j.aV[k]) ?_|refine aG.mk (cG.fO (jG j.aV[k])) ?_
      simp -dsimp -implicitDefEqProofs only[go_sem,↓reduceIte,Tryz.f22]
      repeat'(with_reducible first|intro _|refine And.intro ?_ ?_)
      ·rename_i q4 q5
       exact no λz=>q5 z.2
      ·rename_i q4 q5
       refine⟨k+1,?_⟩
       repeat'(with_reducible refine And.intro ?_ ?_)
       all_goals try(rw[IntWalk.i64_in _ aA];first|rfl|omega)
       all_goals try omega
       all_goals try(repeat'(with_reducible first|exact Heap.le_refl _|refine(aW jI).2 ?_))
       all_goals try(simp only[dF.aO];done)
       exact mN (P:=λt:List Int=>(t.length:Int)=f.bN-j.aQ/\rH t) hlt hall ⟨q4,q5⟩
     ·rename_i q4
      exact no λz=>q4 z.1
    ·have hk':k=j.aV.length:=by omega
     subst hk'
     rw[eJ]at hall
     simp -dsimp -implicitDefEqProofs only[go_sem,↓reduceIte,Tryz.f22,cO]
     exact λ_=>(decide_eq_true (hj.2 ⟨hsh,⟨by assumption,by assumption⟩,by omega,hall⟩)).symm
   ·rename_i q2
    exact(decide_eq_false λz=>q2 (hj.1 z).2.1.2).symm
  ·rename_i q
   exact(decide_eq_false λz=>q (hj.1 z).2.1.1).symm
  ·rename_i q
   exact(decide_eq_false λz=>q (hj.1 z).1).symm
 ·rename_i hp
  exact(decide_eq_false λz=>hp z.1).symm
@[go_sem] def bVV:List Nat:=[0,1,3]
theorem bFY (l:List Int) (c:Int) (n:Nat) {h0:Heap} (hn:h0 n=some (.row 1 [[.v (I c)]])):cG Tryz.prog 75 [dA 1 (λn=>[I n]) l,.op n 1 0 0] (.bool (!decide ((l.length:Int)=c/\rH l))) h0:=by
 have hg (h:Heap) (hle:h0.le h):=Heap.aHE hle hn
 refine aPO 8 bVV cD bS Tryz.func75 λh hle=>?_
 simp -dsimp -implicitDefEqProofs only[go_sem,↓reduceIte,Tryz.f75]
 have hn':=hg h hle
 simp -dsimp -implicitDefEqProofs only[go_sem,↓reduceIte,Tryz.f75,hn']
 first|refine aH.mk (gE l c) ?_|refine aG.mk (gE l c) ?_|refine aH.cN (gE l c) ?_|refine aG.mk (cG.fO (gE l c)) ?_
 simp -dsimp -implicitDefEqProofs only[go_sem,↓reduceIte,Tryz.f75]
theorem aZX (a:List (List Int)) (p:(List Int)->Bool) (g:FuncId) (cap:List aC) {h0:Heap} (hc:∀ x∈a,cG Tryz.prog g ([(dA 1 (λn=>[I n]) x)]++cap) (.bool (p x)) h0):cG Tryz.prog 126 [(dA 1 (λx=>[dA 1 (λn=>[I n]) x]) a),.fn (.func g) [] cap] (I (idxOf p a)) h0:=by
 refine aPO 19 aXN cD bS Tryz.func126 λh hle=>?_
 simp -dsimp -implicitDefEqProofs only[go_sem,↓reduceIte,Tryz.f126,Tryz.f126]
 intro _
 refine cY aXN cD bS (λk:Nat=>[(0,(dA 1 (λx=>[dA 1 (λn=>[I n]) x]) a)),(1,.fn (.func g) [] cap),(7,I a.length),(8,I k)]) (λ_=>h) (λk=>k<=a.length/\∀ x∈a.take k,p x=false) (λk=>a.length-k) 0 qA ?_
 intro k ⟨hk,hp⟩
 rcases cX k a.length with hlt|hge
 ·have ea:a[k]?=some a[k]:=cJ hlt
  simp -dsimp -implicitDefEqProofs only[go_sem,↓reduceIte,Tryz.f126,Tryz.f126,ea]
  repeat'(with_reducible first|intro _|refine And.intro ?_ ?_)
  all_goals try omega
  have hx:=hc a[k] (dX hlt)
  refine aH.cN (hx.mono hle) ?_
  cases hpk:p a[k]with
  |true =>
   simp -dsimp -implicitDefEqProofs only[go_sem,↓reduceIte,Tryz.f126,Tryz.f126]
   repeat'(with_reducible first|intro _|refine And.intro ?_ ?_)
   all_goals first|exact(yP hlt hp hpk).symm|rfl|(rw[yP hlt hp hpk])
  |false =>
   simp -dsimp -implicitDefEqProofs only[go_sem,↓reduceIte,Tryz.f126,Tryz.f126]
   refine⟨k+1,?_⟩
   repeat'(with_reducible refine And.intro ?_ ?_)
   all_goals try(rw[IntWalk.i64_in _ aA];first|rfl|omega)
   all_goals try omega
   exact mN (P:=λx=>p x=false) hlt hp hpk
 ·have hk':k=a.length:=by omega
  subst hk'
  rw[eJ]at hp
  simp -dsimp -implicitDefEqProofs only[go_sem,↓reduceIte,Tryz.f126,Tryz.f126,cO]
  all_goals first|exact(yO hp).symm|rw[yO hp]
theorem aZY (a:List (List Int)) (p:(List Int)->Bool) (g:FuncId) (cap:List aC) {h0:Heap} (hc:∀ x∈a,cG Tryz.prog g ([(dA 1 (λn=>[I n]) x)]++cap) (.bool (p x)) h0):cG Tryz.prog 74 [(dA 1 (λx=>[dA 1 (λn=>[I n]) x]) a),.fn (.func g) [] cap] (.bool (a.any p)) h0:=by
 refine aPO 9 aHN cD bS Tryz.func74 λh hle=>?_
 simp -dsimp -implicitDefEqProofs only[go_sem,↓reduceIte,Tryz.f74,Tryz.f74]
 refine aH.cN ((aZX a p g cap hc).mono hle) ?_
 simp -dsimp -implicitDefEqProofs only[go_sem,↓reduceIte,Tryz.f74,Tryz.f74]
 all_goals first|done|exact sM|rw[sM]
@[go_sem] def bJZ:List Nat:=[0,1,2,3,31]
@[go_sem] def b19:Marks:=λid=>match id with|1=>([],(.op 0 (.op 1 (.op 2 (.op 3 (.op 4 (.op 5 (.op 6 (.op 7 (.op 8 (.op 9 (.op 10 (.op 11 (.op 12 (.op 13 (.op 14 (.op 15 (.op 16 (.op 17 (.op 18 (.op 19 (.op 20 (.op 21 (.op 22 (.op 23 (.op 24 (.op 25 (.op 26 (.op 27 .nil)))))))))))))))))))))))))))),[])|3=>([11,12],(.op 0 (.op 1 (.op 2 (.op 3 (.op 4 (.op 5 (.op 6 (.op 7 (.op 8 (.op 9 (.op 10 (.op 11 (.op 12 .nil))))))))))))),[])|_=>([],.nil,[])
theorem a4R (j:dF) (hps:j.bR.s<=4194304):fQ Tryz.prog 27 [.agg j.c] (.bool (decide j.ok)):=by
 have hif:=bJX j.bR j.bO hps
 have hl:=j.bR.aTX
 simp only[dF.aO,aL.aO]at hif ⊢
 by_cases hp:j.bR.ok/\(0<=j.bO/\j.bO<=(j.bR.aJ.length:Int)-1)
 ·obtain⟨hp,hr⟩:=hp
  rw[if_pos hp,if_pos hr]at hif
  obtain⟨f,ef⟩:∃ f,j.bR.aJ[j.bO.toNat]?=some f:=⟨_,cJ aA⟩
  have hfo:=hp.2 _ f ef
  have hj:j.ok↔j.okF f:=⟨λz=>z.2.2 f ef,λz=>⟨hp,hr,λg eg=>by rw[ef]at eg;obtain rfl:=eN eg;exact z⟩⟩
  have hp1:=hfo.2.1
  refine eG 54 bJZ aDX b19 Tryz.func27 λh=>?_
  simp -dsimp -implicitDefEqProofs only[go_sem,↓reduceIte,Tryz.f27]
  first|refine aH.mk (hif) ?_|refine aG.mk (hif) ?_|refine aH.cN (hif) ?_|refine aG.mk (cG.fO (hif)) ?_
  simp -dsimp -implicitDefEqProofs only[go_sem,↓reduceIte,Tryz.f27,ef,aX.aO]
  repeat'(with_reducible first|intro _|refine And.intro ?_ ?_)
  all_goals try omega
  first|refine aH.mk (within j.aQ 0 f.bN) ?_|refine aG.mk (within j.aQ 0 f.bN) ?_|refine aH.cN (within j.aQ 0 f.bN) ?_|refine aG.mk (cG.fO (within j.aQ 0 f.bN)) ?_
  simp -dsimp -implicitDefEqProofs only[go_sem,↓reduceIte,Tryz.f27,ef,aX.aO]
  repeat'(with_reducible first|intro _|refine And.intro ?_ ?_)
  ·first|refine aH.mk (gE j.c7 j.aQ) ?_|refine aG.mk (gE j.c7 j.aQ) ?_|refine aH.cN (gE j.c7 j.aQ) ?_|refine aG.mk (cG.fO (gE j.c7 j.aQ)) ?_
   simp -dsimp -implicitDefEqProofs only[go_sem,↓reduceIte,Tryz.f27,ef,aX.aO]
   repeat'(with_reducible first|intro _|refine And.intro ?_ ?_)
   all_goals try omega
   ·rename_i q
    exact(decide_eq_false λz=>q (hj.1 z).2.1).symm
   ·rename_i n hn q1 q2
    rw[IntWalk.i64_in _ aA]
    refine aH.cN (aZY j.aV (λt=>!decide ((t.length:Int)=f.bN-j.aQ/\rH t)) 75 [.op n 1 0 0] λt _=>bFY t (f.bN-j.aQ) n (by simp[dD])) ?_
    simp -dsimp -implicitDefEqProofs only[go_sem,↓reduceIte,Tryz.f27]
    repeat'(with_reducible first|intro _|refine And.intro ?_ ?_)
    all_goals try(repeat'(with_reducible first|exact Heap.le_refl _|refine(aW jI).2 ?_))
    rw[bCQ,decide_eq_decide,hj]
    exact⟨λq=>⟨by assumption,by assumption,by omega,q⟩,λq=>q.2.2.2⟩
   ·rename_i q
    exact(decide_eq_false λz=>q (by have:=(hj.1 z).2.2.1;omega)).symm
   ·all_goals try(repeat'(with_reducible first|exact Heap.le_refl _|refine(aW jI).2 ?_))
  ·rename_i q
   exact(decide_eq_false λz=>q (hj.1 z).1).symm
 ·have hne:¬(if j.bR.ok then if 0<=j.bO/\j.bO<=(j.bR.aJ.length:Int)-1 then 0 else 2 else 1:Int)=0:=by
   intro q
   split at q
   ·split at q
    ·rename_i a b
     exact hp ⟨a,b⟩
    ·cases q
   ·cases q
  refine eG 54 bJZ aDX b19 Tryz.func27 λh=>?_
  simp -dsimp -implicitDefEqProofs only[go_sem,↓reduceIte,Tryz.f27]
  first|refine aH.mk (hif) ?_|refine aG.mk (hif) ?_|refine aH.cN (hif) ?_|refine aG.mk (cG.fO (hif)) ?_
  simp -dsimp -implicitDefEqProofs only[go_sem,↓reduceIte,Tryz.f27]
  repeat'(with_reducible first|intro _|refine And.intro ?_ ?_)
  all_goals try(exact absurd fI hne)
  exact(decide_eq_false λz=>hp ⟨z.1,z.2.1⟩).symm
def aQ5 (j:dF) (l:List Int):Prop:=(l.length:Int)=j.aQ/\rH l
def qY (j:dF) (p:cR):Prop:=if p.cU=0 then oI p.iL/\aQ5 j p.kQ else(p.cU=6∨p.cU=7)/\p.iL=0/\p.kQ=[]
noncomputable instance (j:dF) (p:cR):Decidable (qY j p):=Classical.propDecidable _
def a4S (j:dF) (st ow:Int) (kn:Bool) (p:cR):Prop:=(0<=st/\st<=50)/\(-1<=ow/\ow<=3)/\(kn=true->ow=-1/\qY j p)/\(kn=false->p.cU=0/\p.iL=0/\p.kQ=[])
def aI.ok (s:aI):Prop:=s.bC.ok/\(s.aT.length=s.bC.aV.length/\s.bW.length=s.bC.aV.length/\s.cQ.length=s.bC.aV.length/\s.cC.length=s.bC.aV.length) /\
 ∀ (k:Nat) (st ow:Int) (kn:Bool) (p:cR),s.aT[k]?=some st->s.cC[k]?=some ow->s.bW[k]?=some kn->s.cQ[k]?=some p->a4S s.bC st ow kn p
noncomputable instance (s:aI):Decidable s.ok:=Classical.propDecidable _
theorem bFZ {α:Type} (l:List α):(l.length:Int)=0↔l=[]:=by cases l <;> simp;omega
theorem aT2 (j:dF) (l:List Int):fQ Tryz.prog 181 [.ip 5 [j.c] 0 0,dA 1 (λn=>[I n]) l] (.bool (decide ((l.length:Int)=j.aQ/\rH l))):=by
 simp only[dF.aO]
 refine eG 16 aHN cD bS Tryz.func181 λh=>?_
 simp -dsimp -implicitDefEqProofs only[go_sem,↓reduceIte,Tryz.f181]
 repeat'(with_reducible first|intro _|refine And.intro ?_ ?_)
 all_goals try(first|(simp[*];done)|omega|grind)
 first|refine aH.mk (jG l) ?_|refine aG.mk (jG l) ?_|refine aH.cN (jG l) ?_|refine aG.mk (cG.fO (jG l)) ?_
 simp -dsimp -implicitDefEqProofs only[go_sem,↓reduceIte,Tryz.f181]
 all_goals try(first|(simp[*];done)|omega|grind)
@[go_sem] def bOP:List Nat:=[0,1,4,8,9,24]
theorem bC3 (j:dF) (p:cR):fQ Tryz.prog 141 [.ip 5 [j.c] 0 0,.ip 3 [p.c] 0 0] (.bool (decide (qY j p))):=by
 simp only[dF.aO,cR.aO]
 refine eG 40 bOP cD bS Tryz.func141 λh=>?_
 simp -dsimp -implicitDefEqProofs only[go_sem,↓reduceIte,Tryz.f141]
 repeat'(with_reducible first|intro _|refine And.intro ?_ ?_)
 all_goals try(first|(simp[qY,bFZ, *];done)|omega|(grind[qY,bFZ])|(simp[qY,bFZ];omega))
 rename_i hc
 have hp:qY j p↔oI p.iL/\aQ5 j p.kQ:=by unfold qY;rw[if_pos hc]
 first|refine aH.mk (nU p.iL) ?_|refine aG.mk (nU p.iL) ?_|refine aH.cN (nU p.iL) ?_|refine aG.mk (cG.fO (nU p.iL)) ?_
 simp -dsimp -implicitDefEqProofs only[go_sem,↓reduceIte,Tryz.f141]
 repeat'(with_reducible first|intro _|refine And.intro ?_ ?_)
 ·first|refine aG.mk ((aT2 j p.kQ).sub (by repeat'(first|exact b8.nil|refine b8.cons ?_ ?_|exact Sub.refl _|(rw[aB.aO];exact Sub.refl _)|exact Sub.eA rfl rfl rfl|exact Sub.ip (b9 aA) bF|exact Sub.eA (b9 aA) rfl rfl|exact Sub.ip dI bF|exact Sub.eA dI dC dC))) ?_|refine aH.mk ((aT2 j p.kQ).sub (by repeat'(first|exact b8.nil|refine b8.cons ?_ ?_|exact Sub.refl _|(rw[aB.aO];exact Sub.refl _)|exact Sub.eA rfl rfl rfl|exact Sub.ip (b9 aA) bF|exact Sub.eA (b9 aA) rfl rfl|exact Sub.ip dI bF|exact Sub.eA dI dC dC))) ?_
  simp -dsimp -implicitDefEqProofs only[go_sem,↓reduceIte,Tryz.f141]
  rw[decide_eq_decide,hp]
  exact⟨λq=>⟨by assumption,q⟩,λq=>q.2⟩
 ·exact(decide_eq_false λq=>by simp_all).symm
@[go_sem] def bVW:List Nat:=[0,1,2,3,4,7]
theorem bJ0 (j:dF) (p:cR):fQ Tryz.prog 97 [.agg j.c,.agg p.c] (.bool (decide (qY j p))):=by
 simp only[dF.aO,cR.aO]
 refine eG 37 bVW aWG bS Tryz.func97 λh=>?_
 simp -dsimp -implicitDefEqProofs only[go_sem,↓reduceIte,Tryz.f97]
 repeat'(with_reducible first|intro _|refine And.intro ?_ ?_)
 all_goals try(first|(simp[qY,bFZ, *];done)|omega|(grind[qY,bFZ])|(simp[qY,bFZ];omega))
 rename_i hc
 have hp:qY j p↔oI p.iL/\aQ5 j p.kQ:=by unfold qY;rw[if_pos hc]
 first|refine aH.mk (qF p.iL) ?_|refine aG.mk (qF p.iL) ?_|refine aH.cN (qF p.iL) ?_|refine aG.mk (cG.fO (qF p.iL)) ?_
 simp -dsimp -implicitDefEqProofs only[go_sem,↓reduceIte,Tryz.f97]
 repeat'(with_reducible first|intro _|refine And.intro ?_ ?_)
 ·first|refine aH.mk (gE p.kQ j.aQ) ?_|refine aG.mk (gE p.kQ j.aQ) ?_|refine aH.cN (gE p.kQ j.aQ) ?_|refine aG.mk (cG.fO (gE p.kQ j.aQ)) ?_
  simp -dsimp -implicitDefEqProofs only[go_sem,↓reduceIte,Tryz.f97]
  rw[decide_eq_decide,hp]
  exact⟨λq=>⟨by assumption,q⟩,λq=>q.2⟩
 ·exact(decide_eq_false λq=>by simp_all).symm
@[go_sem] def b8S:List Nat:=[0,2,3,4,9,49,52,74,104,146]
@[go_sem] def cDN:Marks:=λid=>match id with|11=>([],(.op 0 (.op 1 (.op 2 (.op 3 (.op 4 (.op 5 (.op 6 (.op 7 (.op 8 (.op 9 (.op 10 (.op 11 (.op 12 (.op 13 (.op 14 (.op 15 (.op 16 (.op 17 (.op 18 (.op 19 (.op 20 (.op 21 (.op 22 (.op 23 (.op 24 (.op 25 (.op 26 (.op 27 (.op 28 (.op 29 .nil)))))))))))))))))))))))))))))),[])|_=>([],.nil,[])
@[go_sem] def bJ1:List Nat:=[0,1,2,3,4,5,41,43,44,45,46,65,99]
@[go_sem] def b2A:Marks:=λid=>match id with|9=>([],(.op 0 (.op 1 (.op 2 (.op 3 (.op 4 (.op 5 (.op 6 (.op 7 (.op 8 (.op 9 (.op 10 (.op 11 (.op 12 (.op 13 (.op 14 (.op 15 (.op 16 (.op 17 (.op 18 (.op 19 (.op 20 (.op 21 (.op 22 (.op 23 (.op 24 (.op 25 (.op 26 (.op 27 (.op 28 (.op 29 (.op 30 (.op 31 (.op 32 (.op 33 .nil)))))))))))))))))))))))))))))))))),[])|_=>([],.nil,[])
theorem aFG (s:aI) (hps:s.bC.bR.s<=4194304):fQ Tryz.prog 50 [.agg s.c] (.bool (decide s.ok)):=by
 have hj:=a4R s.bC hps
 simp only[aI.aO,dF.aO]at hj ⊢
 refine eG 101 bJ1 aDX b2A Tryz.func50 λh=>?_
 simp -dsimp -implicitDefEqProofs only[go_sem,↓reduceIte,Tryz.f50]
 intro _
 first|refine aH.mk (hj) ?_|refine aG.mk (hj) ?_|refine aH.cN (hj) ?_|refine aG.mk (cG.fO (hj)) ?_
 simp -dsimp -implicitDefEqProofs only[go_sem,↓reduceIte,Tryz.f50]
 repeat'(with_reducible first|intro _|refine And.intro ?_ ?_)
 all_goals try(exact(decide_eq_false λz=>by have:=z.2.1;omega).symm)
 all_goals try(rename_i hn;exact(decide_eq_false λz=>hn z.1).symm)
 have hjob:s.bC.ok:=by assumption
 have h1:s.aT.length=s.bC.aV.length:=by assumption
 have h2:s.bW.length=s.bC.aV.length:=by assumption
 have h3:s.cQ.length=s.bC.aV.length:=by assumption
 have h4:s.cC.length=s.bC.aV.length:=by assumption
 refine cY bJ1 aDX b2A (λk:Nat=>[(1,.ip 9 [s.c] 0 0),(43,dA 1 (λb=>[.bool b]) s.bW),(44,I s.bC.aV.length),(45,I k)]) (λ_=>h) (λk=>k<=s.bC.aV.length/\∀ (j:Nat) (st ow:Int) (kn:Bool) (p:cR),j<k->s.aT[j]?=some st->s.cC[j]?=some ow->s.bW[j]?=some kn->s.cQ[j]?=some p->a4S s.bC st ow kn p) (λk=>s.bC.aV.length-k) 0 (by refine⟨by simp[eE,dJ,aI.aO,h2],by simp[Heap.le_refl],by simp⟩) ?_
 intro k ⟨hk,hall⟩
 simp only[aI.aO]
 rcases cX k s.bC.aV.length with hlt|hge
 ·have k1:k<s.aT.length:=by omega
  have k2:k<s.bW.length:=by omega
  have k3:k<s.cQ.length:=by omega
  have k4:k<s.cC.length:=by omega
  have g1:s.aT[k]?=some s.aT[k]:=cJ k1
  have g2:s.bW[k]?=some s.bW[k]:=cJ k2
  have g3:s.cQ[k]?=some s.cQ[k]:=cJ k3
  have g4:s.cC[k]?=some s.cC[k]:=cJ k4
  have no (q:¬a4S s.bC s.aT[k] s.cC[k] s.bW[k] s.cQ[k]):false=decide s.ok:=(decide_eq_false λz=>q (z.2.2 k _ _ _ _ g1 g4 g2 g3)).symm
  have nx (q:a4S s.bC s.aT[k] s.cC[k] s.bW[k] s.cQ[k]):∀ (j:Nat) (st ow:Int) (kn:Bool) (p:cR),j<k+1->s.aT[j]?=some st->s.cC[j]?=some ow->s.bW[j]?=some kn->s.cQ[j]?=some p->a4S s.bC st ow kn p:=by
   intro j st ow kn p hj a b c d
   rcases aI2.1 hj with hj|rfl
   ·exact hall j st ow kn p hj a b c d
   ·rw[g1]at a;rw[g4]at b;rw[g2]at c;rw[g3]at d
    obtain rfl:=eN a
    obtain rfl:=eN b
    obtain rfl:=eN c
    obtain rfl:=eN d
    exact q
  cases hkn:s.bW[k]
  all_goals
   rw[hkn]at g2 no nx
   simp -dsimp -implicitDefEqProofs only[go_sem,↓reduceIte,Tryz.f50,g1,g2,g3,g4,cR.aO]
   repeat'(with_reducible first|intro _|refine And.intro ?_ ?_)
   all_goals try omega
  all_goals(first|refine aH.mk (within s.aT[k] 0 50) ?_|refine aG.mk (within s.aT[k] 0 50) ?_)
  all_goals simp -dsimp -implicitDefEqProofs only[go_sem,↓reduceIte,Tryz.f50,g1,g2,g3,g4,cR.aO]
  all_goals repeat'(with_reducible first|intro _|refine And.intro ?_ ?_)
  all_goals try omega
  all_goals try(rename_i q;exact no λz=>q z.1)
  all_goals(first|refine aH.mk (within s.cC[k] (-1) 3) ?_|refine aG.mk (within s.cC[k] (-1) 3) ?_)
  all_goals simp -dsimp -implicitDefEqProofs only[go_sem,↓reduceIte,Tryz.f50,g1,g2,g3,g4,cR.aO]
  all_goals repeat'(with_reducible first|intro _|refine And.intro ?_ ?_)
  all_goals try omega
  all_goals try(rename_i q;exact no λz=>q z.2.1)
  ·have hsp:=(bJS s.cQ[k] ⟨0,0,[]⟩).sub (.cons (.refl _) (.cons (Sub.agg (.cons (.refl (I 0)) (.cons (.refl (I 0)) (.cons (Sub.nil 1 false) .nil)))) .nil))
   simp only[cR.aO]at hsp
   first|refine aH.mk (hsp) ?_|refine aG.mk (hsp) ?_|refine aH.cN (hsp) ?_|refine aG.mk (cG.fO (hsp)) ?_
   simp -dsimp -implicitDefEqProofs only[go_sem,↓reduceIte,Tryz.f50]
   repeat'(with_reducible first|intro _|refine And.intro ?_ ?_)
   ·rename_i q
    exact no λz=>q (cR.eq_iff.2 (z.2.2.2 rfl))
   ·rename_i q
    have:=cR.eq_iff.1 q
    refine⟨k+1,?_⟩
    repeat'(with_reducible refine And.intro ?_ ?_)
    all_goals try(rw[IntWalk.i64_in _ aA];first|rfl|omega)
    all_goals try omega
    all_goals try(repeat'(with_reducible first|exact Heap.le_refl _|refine(aW jI).2 ?_))
    all_goals try(simp only[aI.aO];done)
    exact nx ⟨by assumption,by assumption,λz=>by simp at z,λ_=>this⟩
  ·have hip:=bJ0 s.bC s.cQ[k]
   simp only[cR.aO,dF.aO]at hip
   first|refine aH.mk (hip) ?_|refine aG.mk (hip) ?_|refine aH.cN (hip) ?_|refine aG.mk (cG.fO (hip)) ?_
   simp -dsimp -implicitDefEqProofs only[go_sem,↓reduceIte,Tryz.f50,g1,g2,g3,g4,cR.aO]
   repeat'(with_reducible first|intro _|refine And.intro ?_ ?_)
   all_goals try omega
   all_goals try(rename_i q;exact no λz=>q (z.2.2.1 rfl).2)
   all_goals try(rename_i q;exact no λz=>q (z.2.2.1 rfl).1)
   refine⟨k+1,?_⟩
   repeat'(with_reducible refine And.intro ?_ ?_)
   all_goals try(rw[IntWalk.i64_in _ aA];first|rfl|omega)
   all_goals try omega
   all_goals try(repeat'(with_reducible first|exact Heap.le_refl _|refine(aW jI).2 ?_))
   all_goals try(simp only[aI.aO];done)
   exact nx ⟨by assumption,by assumption,λ_=>⟨by assumption,by assumption⟩,λz=>by simp at z⟩
 ·have hk':k=s.bC.aV.length:=by omega
  subst hk'
  simp -dsimp -implicitDefEqProofs only[go_sem,↓reduceIte,Tryz.f50,eK,cO]
  exact(decide_eq_true ⟨hjob,⟨h1,h2,h3,h4⟩,λj st ow kn p a b c d=>hall j st ow kn p (by have:=(oG.1 a).1;omega) a b c d⟩).symm
end Go.Hl

/-
  Contracts of functions and laws of the layer over the walk.
-/
import Derived.Test.YtchbdakgjlnbgaaGreatDoorVvA
import Derived.Test.YtchbdakgjlnbgaaGreatDoorHlD
namespace Go.Hl
set_option maxRecDepth 100000
open Go.Proofs
set_option linter.unusedVariables false
set_option linter.unusedSimpArgs false
theorem a1V (l:List aB) (h1:l.length<=1048576) (hc:∀ x∈l,dQ Tryz.prog 199 [(.agg (aB.c x))] (.agg (aB.c x))):dQ Tryz.prog 165 [(cI 5 aB.c l)] (cI 5 aB.c l):=by
 refine tQ 23 aD6 cG b9 Tryz.func165 λh=>?_
 simp -dsimp -implicitDefEqProofs only[go_sem,Tryz.f165,↓reduceIte]
 refine λ_=>⟨by omega,by omega,by omega,by omega,λn hn=>?_⟩
 refine cY aD6 cG b9 (λk:Nat=>[(0,(cI 5 aB.c l)),(3,.os n 5 0 l.length),(4,I k)]) (λk=>bT h n (.row 5 (oA aB.c [.int .i64 0,.int .i64 0,.int .i64 0,.int .i64 0,.aV] l k))) (λk=>k<=l.length) (λk=>l.length-k) 0 aM7 ?_
 intro k hk
 rcases cP k l.length with hlt|hge
 ·have ea:l[k]?=some l[k]:=b6 hlt
  simp -dsimp -implicitDefEqProofs only[go_sem,↓reduceIte,Tryz.f165,ea,kA _ _ _ _ hlt,aB.aM]
  refine λ_=>⟨λ_=>⟨hlt,?_⟩,λhn=>absurd hlt hn⟩
  have hx:=hc l[k] (dG hlt)
  simp only[aB.aM]at hx
  refine aH.mk hx ?_
  simp -dsimp -implicitDefEqProofs only[go_sem,↓reduceIte,Tryz.f165,kA _ _ _ _ hlt]
  refine⟨hlt,k+1,by rw[IntWalk.i64_in _ aA];rfl,?_,by omega,by omega⟩
  exact aAH hlt (by first|rfl|(simp only[lU,tP,aB.aM]))
 ·have hk':k=l.length:=by omega
  subst hk'
  simp -dsimp -implicitDefEqProofs only[go_sem,↓reduceIte,Tryz.f165,cN]
  rw[qE]
  exact λ_=>lV _ hn (Heap.le_refl _) _ aS
theorem aW8 (x:aB) (hs:x.s<=1048576) (hk:dQ Tryz.prog 165 [(cI 5 aB.c x.aO)] (cI 5 aB.c x.aO)):dQ Tryz.prog 199 [.agg x.c] (.agg x.c):=by
 rw[aB.fQ]at hs
 simp only[aB.aM]
 refine tQ 21 aT1 wE b9 Tryz.func199 λh=>?_
 simp -dsimp -implicitDefEqProofs only[go_sem,Tryz.f199,↓reduceIte]
 intro n2 h2 n3 h3
 have e1:(n2=n3)=False:=eq_false λe=>h3.1 e.symm
 have e2:(n3=n2)=False:=eq_false h3.1
 have hzfKids:(x.aO).length+((x.aO).map aB.s).sum=(rR aB.s x.aO):=rfl
 refine aH.mk hk ?_
 simp -dsimp -implicitDefEqProofs only[go_sem,↓reduceIte,Tryz.f199,aF,dC,e1,e2]
 exact eD aM6
theorem bAJ (x:aB) (hs:x.s<=1048576):dQ Tryz.prog 199 [.agg x.c] (.agg x.c) :=
 aW8 x hs (a1V x.aO (by rw[aB.fQ]at hs;rw[fF]at hs;omega) λy hy=>bAJ y (by rw[aB.fQ]at hs;have:=k6 aB.s hy;rw[fF]at hs;omega))
termination_by SizeOf.sizeOf x
decreasing_by exact aB.u6 hy
theorem bL1 (x:aX) (hs:x.s<=1048576):dQ Tryz.prog 122 [.agg x.c] (.agg x.c):=by
 rw[aX.fQ]at hs
 simp only[aX.aM]
 refine tQ 15 aT1 wE b9 Tryz.func122 λh=>?_
 simp -dsimp -implicitDefEqProofs only[go_sem,Tryz.f122,↓reduceIte]
 intro n2 h2 n3 h3
 have e1:(n2=n3)=False:=eq_false λe=>h3.1 e.symm
 have e2:(n3=n2)=False:=eq_false h3.1
 have hzfOuts:(x.bB).length+((x.bB).map aB.s).sum=(rR aB.s x.bB):=rfl
 refine aH.mk (a1V x.bB aA (λy hy=>bAJ y (by have hq:(aB.s y)<=((x.bB).map aB.s).sum:=k6 aB.s hy;omega))) ?_
 simp -dsimp -implicitDefEqProofs only[go_sem,↓reduceIte,Tryz.f122,aF,dC,e1,e2]
 exact eD aM6
theorem bG7 (l:List aX) (h1:l.length<=1048576) (hc:∀ x∈l,dQ Tryz.prog 122 [(.agg (aX.c x))] (.agg (aX.c x))):dQ Tryz.prog 71 [(cI 3 aX.c l)] (cI 3 aX.c l):=by
 refine tQ 23 aD6 cG b9 Tryz.func71 λh=>?_
 simp -dsimp -implicitDefEqProofs only[go_sem,Tryz.f71,↓reduceIte]
 refine λ_=>⟨by omega,by omega,by omega,by omega,λn hn=>?_⟩
 refine cY aD6 cG b9 (λk:Nat=>[(0,(cI 3 aX.c l)),(3,.os n 3 0 l.length),(4,I k)]) (λk=>bT h n (.row 3 (oA aX.c [.str [],.int .i64 0,.aV] l k))) (λk=>k<=l.length) (λk=>l.length-k) 0 aM7 ?_
 intro k hk
 rcases cP k l.length with hlt|hge
 ·have ea:l[k]?=some l[k]:=b6 hlt
  simp -dsimp -implicitDefEqProofs only[go_sem,↓reduceIte,Tryz.f71,ea,kA _ _ _ _ hlt,aX.aM]
  refine λ_=>⟨λ_=>⟨hlt,?_⟩,λhn=>absurd hlt hn⟩
  have hx:=hc l[k] (dG hlt)
  simp only[aX.aM]at hx
  refine aH.mk hx ?_
  simp -dsimp -implicitDefEqProofs only[go_sem,↓reduceIte,Tryz.f71,kA _ _ _ _ hlt]
  refine⟨hlt,k+1,by rw[IntWalk.i64_in _ aA];rfl,?_,by omega,by omega⟩
  exact aAH hlt (by first|rfl|(simp only[lU,tP,aX.aM]))
 ·have hk':k=l.length:=by omega
  subst hk'
  simp -dsimp -implicitDefEqProofs only[go_sem,↓reduceIte,Tryz.f71,cN]
  rw[qE]
  exact λ_=>lV _ hn (Heap.le_refl _) _ aS
theorem a41 (x:aK) (hs:x.s<=1048576):dQ Tryz.prog 24 [.agg x.c] (.agg x.c):=by
 rw[aK.fQ]at hs
 simp only[aK.aM]
 refine tQ 9 aT1 wE b9 Tryz.func24 λh=>?_
 simp -dsimp -implicitDefEqProofs only[go_sem,Tryz.f24,↓reduceIte]
 intro n2 h2 n3 h3
 have e1:(n2=n3)=False:=eq_false λe=>h3.1 e.symm
 have e2:(n3=n2)=False:=eq_false h3.1
 have hzfFuncs:(x.aJ).length+((x.aJ).map aX.s).sum=(rR aX.s x.aJ):=rfl
 refine aH.mk (bG7 x.aJ aA (λy hy=>bL1 y (by have hq:(aX.s y)<=((x.aJ).map aX.s).sum:=k6 aX.s hy;omega))) ?_
 simp -dsimp -implicitDefEqProofs only[go_sem,↓reduceIte,Tryz.f24,aF,dC,e1,e2]
 exact eD aM6
theorem aBX (l:List Int) (h1:l.length<=1048576):dQ Tryz.prog 25 [(cI 1 (λn=>[I n]) l)] (cI 1 (λn=>[I n]) l):=by
 refine tQ 22 aD6 cG b9 Tryz.func25 λh=>?_
 simp -dsimp -implicitDefEqProofs only[go_sem,Tryz.f25,↓reduceIte]
 refine λ_=>⟨by omega,by omega,by omega,by omega,λn hn=>?_⟩
 refine cY aD6 cG b9 (λk:Nat=>[(0,(cI 1 (λn=>[I n]) l)),(3,.os n 1 0 l.length),(4,I k)]) (λk=>bT h n (.row 1 (oA (λn=>[I n]) [.int .i64 0] l k))) (λk=>k<=l.length) (λk=>l.length-k) 0 aM7 ?_
 intro k hk
 rcases cP k l.length with hlt|hge
 ·have ea:l[k]?=some l[k]:=b6 hlt
  simp -dsimp -implicitDefEqProofs only[go_sem,↓reduceIte,Tryz.f25,ea,kA _ _ _ _ hlt]
  refine λ_=>⟨λ_=>⟨hlt,hlt,k+1,by rw[IntWalk.i64_in _ aA];rfl,?_,by omega,by omega⟩,λhn=>absurd hlt hn⟩
  exact aAH hlt rfl
 ·have hk':k=l.length:=by omega
  subst hk'
  simp -dsimp -implicitDefEqProofs only[go_sem,↓reduceIte,Tryz.f25,cN]
  rw[qE]
  exact λ_=>lV _ hn (Heap.le_refl _) _ aS
theorem a42 (l:List (List Int)) (h1:l.length<=1048576) (hc:∀ x∈l,dQ Tryz.prog 25 [(cI 1 (λn=>[I n]) x)] (cI 1 (λn=>[I n]) x)):dQ Tryz.prog 26 [(cI 1 (λx=>[cI 1 (λn=>[I n]) x]) l)] (cI 1 (λx=>[cI 1 (λn=>[I n]) x]) l):=by
 refine tQ 23 aD6 cG b9 Tryz.func26 λh=>?_
 simp -dsimp -implicitDefEqProofs only[go_sem,Tryz.f26,↓reduceIte]
 refine λ_=>⟨by omega,by omega,by omega,by omega,λn hn=>?_⟩
 refine cY aD6 cG b9 (λk:Nat=>[(0,(cI 1 (λx=>[cI 1 (λn=>[I n]) x]) l)),(3,.os n 1 0 l.length),(4,I k)]) (λk=>bT h n (.row 1 (oA (λx=>[cI 1 (λn=>[I n]) x]) [.aV] l k))) (λk=>k<=l.length) (λk=>l.length-k) 0 aM7 ?_
 intro k hk
 rcases cP k l.length with hlt|hge
 ·have ea:l[k]?=some l[k]:=b6 hlt
  simp -dsimp -implicitDefEqProofs only[go_sem,↓reduceIte,Tryz.f26,ea,kA _ _ _ _ hlt]
  refine λ_=>⟨λ_=>⟨hlt,?_⟩,λhn=>absurd hlt hn⟩
  have hx:=hc l[k] (dG hlt)
  refine aH.mk hx ?_
  simp -dsimp -implicitDefEqProofs only[go_sem,↓reduceIte,Tryz.f26,kA _ _ _ _ hlt]
  refine⟨hlt,k+1,by rw[IntWalk.i64_in _ aA];rfl,?_,by omega,by omega⟩
  exact aAH hlt bPE
 ·have hk':k=l.length:=by omega
  subst hk'
  simp -dsimp -implicitDefEqProofs only[go_sem,↓reduceIte,Tryz.f26,cN]
  rw[qE]
  exact λ_=>lV _ hn (Heap.le_refl _) _ aS
theorem bG8 (x:dN) (hs:x.s<=1048576):dQ Tryz.prog 7 [.agg x.c] (.agg x.c):=by
 rw[dN.fQ]at hs
 simp only[dN.aM]
 refine tQ 23 aT1 wE b9 Tryz.func7 λh=>?_
 simp -dsimp -implicitDefEqProofs only[go_sem,Tryz.f7,↓reduceIte]
 intro n2 h2 n3 h3
 have e1:(n2=n3)=False:=eq_false λe=>h3.1 e.symm
 have e2:(n3=n2)=False:=eq_false h3.1
 have hzfTerms:(x.aQ).length+((x.aQ).map (λx:List Int=>x.length)).sum=(rR (λx:List Int=>x.length) x.aQ):=rfl
 refine aH.mk (a41 x.bN aA) ?_
 simp -dsimp -implicitDefEqProofs only[go_sem,↓reduceIte,Tryz.f7,aF,dC,e1,e2,aK.aM]
 refine aH.mk (aBX x.cT aA) ?_
 simp -dsimp -implicitDefEqProofs only[go_sem,↓reduceIte,Tryz.f7,aF,dC,e1,e2]
 refine aH.mk (a42 x.aQ aA (λy hy=>aBX y (by have hq:y.length<=((x.aQ).map (λx:List Int=>x.length)).sum:=k6 (λx:List Int=>x.length) hy;omega))) ?_
 simp -dsimp -implicitDefEqProofs only[go_sem,↓reduceIte,Tryz.f7,aF,dC,e1,e2]
 exact eD aM6
theorem bG9 (l:List Bool) (h1:l.length<=1048576):dQ Tryz.prog 94 [(cI 1 (λb=>[.bool b]) l)] (cI 1 (λb=>[.bool b]) l):=by
 refine tQ 22 aD6 cG b9 Tryz.func94 λh=>?_
 simp -dsimp -implicitDefEqProofs only[go_sem,Tryz.f94,↓reduceIte]
 refine λ_=>⟨by omega,by omega,by omega,by omega,λn hn=>?_⟩
 refine cY aD6 cG b9 (λk:Nat=>[(0,(cI 1 (λb=>[.bool b]) l)),(3,.os n 1 0 l.length),(4,I k)]) (λk=>bT h n (.row 1 (oA (λb=>[.bool b]) [.bool false] l k))) (λk=>k<=l.length) (λk=>l.length-k) 0 aM7 ?_
 intro k hk
 rcases cP k l.length with hlt|hge
 ·have ea:l[k]?=some l[k]:=b6 hlt
  simp -dsimp -implicitDefEqProofs only[go_sem,↓reduceIte,Tryz.f94,ea,kA _ _ _ _ hlt]
  refine λ_=>⟨λ_=>⟨hlt,hlt,k+1,by rw[IntWalk.i64_in _ aA];rfl,?_,by omega,by omega⟩,λhn=>absurd hlt hn⟩
  exact aAH hlt rfl
 ·have hk':k=l.length:=by omega
  subst hk'
  simp -dsimp -implicitDefEqProofs only[go_sem,↓reduceIte,Tryz.f94,cN]
  rw[qE]
  exact λ_=>lV _ hn (Heap.le_refl _) _ aS
theorem bAK (x:bR) (hs:x.s<=1048576):dQ Tryz.prog 146 [.agg x.c] (.agg x.c):=by
 rw[bR.fQ]at hs
 simp only[bR.aM]
 refine tQ 15 aT1 wE b9 Tryz.func146 λh=>?_
 simp -dsimp -implicitDefEqProofs only[go_sem,Tryz.f146,↓reduceIte]
 intro n2 h2 n3 h3
 have e1:(n2=n3)=False:=eq_false λe=>h3.1 e.symm
 have e2:(n3=n2)=False:=eq_false h3.1
 refine aH.mk (aBX x.iQ aA) ?_
 simp -dsimp -implicitDefEqProofs only[go_sem,↓reduceIte,Tryz.f146,aF,dC,e1,e2]
 exact eD aM6
theorem bHA (l:List bR) (h1:l.length<=1048576) (hc:∀ x∈l,dQ Tryz.prog 146 [(.agg (bR.c x))] (.agg (bR.c x))):dQ Tryz.prog 95 [(cI 3 bR.c l)] (cI 3 bR.c l):=by
 refine tQ 23 aD6 cG b9 Tryz.func95 λh=>?_
 simp -dsimp -implicitDefEqProofs only[go_sem,Tryz.f95,↓reduceIte]
 refine λ_=>⟨by omega,by omega,by omega,by omega,λn hn=>?_⟩
 refine cY aD6 cG b9 (λk:Nat=>[(0,(cI 3 bR.c l)),(3,.os n 3 0 l.length),(4,I k)]) (λk=>bT h n (.row 3 (oA bR.c [.int .i64 0,.int .i64 0,.aV] l k))) (λk=>k<=l.length) (λk=>l.length-k) 0 aM7 ?_
 intro k hk
 rcases cP k l.length with hlt|hge
 ·have ea:l[k]?=some l[k]:=b6 hlt
  simp -dsimp -implicitDefEqProofs only[go_sem,↓reduceIte,Tryz.f95,ea,kA _ _ _ _ hlt,bR.aM]
  refine λ_=>⟨λ_=>⟨hlt,?_⟩,λhn=>absurd hlt hn⟩
  have hx:=hc l[k] (dG hlt)
  simp only[bR.aM]at hx
  refine aH.mk hx ?_
  simp -dsimp -implicitDefEqProofs only[go_sem,↓reduceIte,Tryz.f95,kA _ _ _ _ hlt]
  refine⟨hlt,k+1,by rw[IntWalk.i64_in _ aA];rfl,?_,by omega,by omega⟩
  exact aAH hlt (by first|rfl|(simp only[lU,tP,bR.aM]))
 ·have hk':k=l.length:=by omega
  subst hk'
  simp -dsimp -implicitDefEqProofs only[go_sem,↓reduceIte,Tryz.f95,cN]
  rw[qE]
  exact λ_=>lV _ hn (Heap.le_refl _) _ aS
theorem a43 (x:aI) (hs:x.s<=1048576):dQ Tryz.prog 47 [.agg x.c] (.agg x.c):=by
 rw[aI.fQ]at hs
 simp only[aI.aM]
 refine tQ 25 aT1 wE b9 Tryz.func47 λh=>?_
 simp -dsimp -implicitDefEqProofs only[go_sem,Tryz.f47,↓reduceIte]
 intro n2 h2 n3 h3
 have e1:(n2=n3)=False:=eq_false λe=>h3.1 e.symm
 have e2:(n3=n2)=False:=eq_false h3.1
 have hzfParts:(x.bW).length+((x.bW).map bR.s).sum=(rR bR.s x.bW):=rfl
 refine aH.mk (bG8 x.bA aA) ?_
 simp -dsimp -implicitDefEqProofs only[go_sem,↓reduceIte,Tryz.f47,aF,dC,e1,e2,dN.aM]
 refine aH.mk (aBX x.aP aA) ?_
 simp -dsimp -implicitDefEqProofs only[go_sem,↓reduceIte,Tryz.f47,aF,dC,e1,e2]
 refine aH.mk (bG9 x.bM aA) ?_
 simp -dsimp -implicitDefEqProofs only[go_sem,↓reduceIte,Tryz.f47,aF,dC,e1,e2]
 refine aH.mk (bHA x.bW aA (λy hy=>bAK y (by have hq:(bR.s y)<=((x.bW).map bR.s).sum:=k6 bR.s hy;omega))) ?_
 simp -dsimp -implicitDefEqProofs only[go_sem,↓reduceIte,Tryz.f47,aF,dC,e1,e2]
 refine aH.mk (aBX x.bI aA) ?_
 simp -dsimp -implicitDefEqProofs only[go_sem,↓reduceIte,Tryz.f47,aF,dC,e1,e2]
 exact eD aM6
theorem aVA (x:aT) (hs:x.s<=1048576):dQ Tryz.prog 96 [.agg x.c] (.agg x.c):=by
 rw[aT.fQ]at hs
 simp only[aT.aM]
 refine tQ 15 aT1 wE b9 Tryz.func96 λh=>?_
 simp -dsimp -implicitDefEqProofs only[go_sem,Tryz.f96,↓reduceIte]
 intro n2 h2 n3 h3
 have e1:(n2=n3)=False:=eq_false λe=>h3.1 e.symm
 have e2:(n3=n2)=False:=eq_false h3.1
 refine aH.mk (bAK x.jY aA) ?_
 simp -dsimp -implicitDefEqProofs only[go_sem,↓reduceIte,Tryz.f96,aF,dC,e1,e2,bR.aM]
 exact eD aM6
theorem aRC (l:List aT) (h1:l.length<=1048576) (hc:∀ x∈l,dQ Tryz.prog 96 [(.agg (aT.c x))] (.agg (aT.c x))):dQ Tryz.prog 49 [(cI 5 aT.c l)] (cI 5 aT.c l):=by
 refine tQ 23 aD6 cG b9 Tryz.func49 λh=>?_
 simp -dsimp -implicitDefEqProofs only[go_sem,Tryz.f49,↓reduceIte]
 refine λ_=>⟨by omega,by omega,by omega,by omega,λn hn=>?_⟩
 refine cY aD6 cG b9 (λk:Nat=>[(0,(cI 5 aT.c l)),(3,.os n 5 0 l.length),(4,I k)]) (λk=>bT h n (.row 5 (oA aT.c [.int .i64 0,.int .i64 0,.int .i64 0,.int .i64 0,.aV] l k))) (λk=>k<=l.length) (λk=>l.length-k) 0 aM7 ?_
 intro k hk
 rcases cP k l.length with hlt|hge
 ·have ea:l[k]?=some l[k]:=b6 hlt
  simp -dsimp -implicitDefEqProofs only[go_sem,↓reduceIte,Tryz.f49,ea,kA _ _ _ _ hlt,aT.aM]
  refine λ_=>⟨λ_=>⟨hlt,?_⟩,λhn=>absurd hlt hn⟩
  have hx:=hc l[k] (dG hlt)
  simp only[aT.aM]at hx
  refine aH.mk hx ?_
  simp -dsimp -implicitDefEqProofs only[go_sem,↓reduceIte,Tryz.f49,kA _ _ _ _ hlt]
  refine⟨hlt,k+1,by rw[IntWalk.i64_in _ aA];rfl,?_,by omega,by omega⟩
  exact aAH hlt (by first|rfl|(simp only[lU,tP,aT.aM]))
 ·have hk':k=l.length:=by omega
  subst hk'
  simp -dsimp -implicitDefEqProofs only[go_sem,↓reduceIte,Tryz.f49,cN]
  rw[qE]
  exact λ_=>lV _ hn (Heap.le_refl _) _ aS
theorem a1W (l:List (List aT)) (h1:l.length<=1048576) (hc:∀ x∈l,dQ Tryz.prog 49 [(cI 5 aT.c x)] (cI 5 aT.c x)):dQ Tryz.prog 48 [(cI 1 (λx=>[cI 5 aT.c x]) l)] (cI 1 (λx=>[cI 5 aT.c x]) l):=by
 refine tQ 23 aD6 cG b9 Tryz.func48 λh=>?_
 simp -dsimp -implicitDefEqProofs only[go_sem,Tryz.f48,↓reduceIte]
 refine λ_=>⟨by omega,by omega,by omega,by omega,λn hn=>?_⟩
 refine cY aD6 cG b9 (λk:Nat=>[(0,(cI 1 (λx=>[cI 5 aT.c x]) l)),(3,.os n 1 0 l.length),(4,I k)]) (λk=>bT h n (.row 1 (oA (λx=>[cI 5 aT.c x]) [.aV] l k))) (λk=>k<=l.length) (λk=>l.length-k) 0 aM7 ?_
 intro k hk
 rcases cP k l.length with hlt|hge
 ·have ea:l[k]?=some l[k]:=b6 hlt
  simp -dsimp -implicitDefEqProofs only[go_sem,↓reduceIte,Tryz.f48,ea,kA _ _ _ _ hlt]
  refine λ_=>⟨λ_=>⟨hlt,?_⟩,λhn=>absurd hlt hn⟩
  have hx:=hc l[k] (dG hlt)
  refine aH.mk hx ?_
  simp -dsimp -implicitDefEqProofs only[go_sem,↓reduceIte,Tryz.f48,kA _ _ _ _ hlt]
  refine⟨hlt,k+1,by rw[IntWalk.i64_in _ aA];rfl,?_,by omega,by omega⟩
  exact aAH hlt bPE
 ·have hk':k=l.length:=by omega
  subst hk'
  simp -dsimp -implicitDefEqProofs only[go_sem,↓reduceIte,Tryz.f48,cN]
  rw[qE]
  exact λ_=>lV _ hn (Heap.le_refl _) _ aS
theorem xL (x:jQ) (hs:x.s<=1048576):dQ Tryz.prog 16 [.agg x.c] (.agg x.c):=by
 rw[jQ.fQ]at hs
 simp only[jQ.aM]
 refine tQ 27 aT1 wE b9 Tryz.func16 λh=>?_
 simp -dsimp -implicitDefEqProofs only[go_sem,Tryz.f16,↓reduceIte]
 intro n2 h2 n3 h3
 have e1:(n2=n3)=False:=eq_false λe=>h3.1 e.symm
 have e2:(n3=n2)=False:=eq_false h3.1
 have hzfQueues:(x.cH).length+((x.cH).map (λx=>rR aT.s x)).sum=(rR (λx=>rR aT.s x) x.cH):=rfl
 have hzfFlying:(x.gV).length+((x.gV).map aT.s).sum=(rR aT.s x.gV):=rfl
 refine aH.mk (bG8 x.jR aA) ?_
 simp -dsimp -implicitDefEqProofs only[go_sem,↓reduceIte,Tryz.f16,aF,dC,e1,e2,dN.aM]
 refine aH.mk (a43 x.cA aA) ?_
 simp -dsimp -implicitDefEqProofs only[go_sem,↓reduceIte,Tryz.f16,aF,dC,e1,e2,aI.aM]
 refine aH.mk (a1W x.cH aA (λy hy=>(by have hq:(rR aT.s y)<=((x.cH).map (λx=>rR aT.s x)).sum:=k6 (λx=>rR aT.s x) hy;have hz:(y).length+((y).map aT.s).sum=(rR aT.s y):=rfl;exact aRC y aA (λz hy=>aVA z (by have hq:(aT.s z)<=((y).map aT.s).sum:=k6 aT.s hy;omega))))) ?_
 simp -dsimp -implicitDefEqProofs only[go_sem,↓reduceIte,Tryz.f16,aF,dC,e1,e2]
 refine aH.mk (aRC x.gV aA (λy hy=>aVA y (by have hq:(aT.s y)<=((x.gV).map aT.s).sum:=k6 aT.s hy;omega))) ?_
 simp -dsimp -implicitDefEqProofs only[go_sem,↓reduceIte,Tryz.f16,aF,dC,e1,e2]
 exact eD aM6
mutual
def aB.o:aB->List OV->Prop
 | .mk bH cC dO dF aO,e=>∃ y,e=[.v (.int .i64 bH),.v (.int .i64 cC),.v (.int .i64 dO),.v (.int .i64 dF),y]/\((y=.nil 5/\aO=[])∨∃ n es,y=.sl n 5 es/\aB.oR aO es)
def aB.oR:List aB->List (List OV)->Prop
 | [],[]=>True
 |x::l,e::es=>x.o e/\aB.oR l es
 | _,_=>False
end
theorem aB.bP9:∀ (l:List aB) (es:List (List OV)),aB.oR l es=OR aB.o l es
 | [],[]=>rfl
 |x::l,e::es=>by rw[aB.oR,OR,aB.bP9 l es]
 | [],_::_=>rfl
 | _::_,[]=>rfl
theorem aB.xU (x:aB) (e:List OV):x.o e↔∃ y4,e=[.v (.int .i64 x.bH),.v (.int .i64 x.cC),.v (.int .i64 x.dO),.v (.int .i64 x.dF),y4]/\OS aB.o 5 x.aO y4:=by
 cases x
 simp only[aB.o,aB.bP9,OS]
 rfl
mutual
theorem aB.u7:∀ {x:aB} {e:List OV},x.o e->e.map OV.u3=x.c
 | .mk bH cC dO dF aO,e,h=>by
  rw[aB.xU]at h
  obtain⟨y,rfl,h⟩:=h
  have hk:y.u3=.sl 5 (aO.map aB.c) false:=by
   rcases h with⟨rfl,h0⟩|⟨n,es,rfl,h⟩
   ·have h1:aO=[]:=h0
    subst h1;rfl
   ·simp only[OV.u3]
    rw[aB.bHB h]
    rfl
  rw[aB.aM]
  simp only[lU,tP,OV.u3,hk]
  rfl
theorem aB.bHB:∀ {l:List aB} {es:List (List OV)},OR aB.o l es->OV.k8 es=l.map aB.c
 | [],[],_=>rfl
 |x::l,e::es,h=>by rw[OV.k8,aB.bHB h.2,OV.aC6,aB.u7 h.1];rfl
 | [],_::_,h=>h.elim
 | _::_,[],h=>h.elim
end
def aX.o (x:aX) (e:List OV):Prop:=∃ y2,e=[.v (.str x.fT),.v (.int .i64 x.bV),y2]/\OS aB.o 5 x.bB y2
theorem aX.u7 {x:aX} {e:List OV} (h:x.o e):e.map OV.u3=x.c:=by
 obtain⟨y2,rfl,o2⟩:=h
 have d2:=OS.u3 (c:=aB.c) (λ_ _ q=>aB.u7 q) o2
 rw[aX.aM]
 simp only[lU,tP,OV.u3,d2]
def aK.o (x:aK) (e:List OV):Prop:=∃ y0,e=[y0]/\OS aX.o 3 x.aJ y0
def dN.o (x:dN) (e:List OV):Prop:=∃ y0 y3 y4,e=[y0,.v (.int .i64 x.b5),.v (.int .i64 x.aU),y3,y4]/\OS aX.o 3 x.bN.aJ y0/\OS (oP I) 1 x.cT y3/\OS (oS (oP I) 1) 1 x.aQ y4
def bR.o (x:bR) (e:List OV):Prop:=∃ y2,e=[.v (.int .i64 x.cX),.v (.int .i64 x.jA),y2]/\OS (oP I) 1 x.iQ y2
theorem bR.u7 {x:bR} {e:List OV} (h:x.o e):e.map OV.u3=x.c:=by
 obtain⟨y2,rfl,o2⟩:=h
 have d2:=OS.u3 (c:=(λn=>[I n])) (λ_ _ q=>zF q) o2
 rw[bR.aM]
 simp only[lU,tP,OV.u3,d2]
def aI.o (x:aI) (e:List OV):Prop:=∃ y0 y3 y4 y5 y6 y7 y8,e=[y0,.v (.int .i64 x.bA.b5),.v (.int .i64 x.bA.aU),y3,y4,y5,y6,y7,y8]/\OS aX.o 3 x.bA.bN.aJ y0/\OS (oP I) 1 x.bA.cT y3/\OS (oS (oP I) 1) 1 x.bA.aQ y4/\OS (oP I) 1 x.aP y5/\OS (oP aC.bool) 1 x.bM y6/\OS bR.o 3 x.bW y7/\OS (oP I) 1 x.bI y8
theorem aI.u7 {x:aI} {e:List OV} (h:x.o e):e.map OV.u3=x.c:=by
 obtain⟨y0,y3,y4,y5,y6,y7,y8,rfl,o0,o3,o4,o5,o6,o7,o8⟩:=h
 have d0:=OS.u3 (c:=aX.c) (λ_ _ q=>aX.u7 q) o0
 have d3:=OS.u3 (c:=(λn=>[I n])) (λ_ _ q=>zF q) o3
 have d4:=OS.u3 (c:=(λx=>[cI 1 (λn=>[I n]) x])) (λ_ _ q=>bS0 (c:=(λn=>[I n])) (λ_ _ q=>zF q) q) o4
 have d5:=OS.u3 (c:=(λn=>[I n])) (λ_ _ q=>zF q) o5
 have d6:=OS.u3 (c:=(λb=>[.bool b])) (λ_ _ q=>zF q) o6
 have d7:=OS.u3 (c:=bR.c) (λ_ _ q=>bR.u7 q) o7
 have d8:=OS.u3 (c:=(λn=>[I n])) (λ_ _ q=>zF q) o8
 rw[aI.aM]
 simp only[lU,tP,OV.u3,d0,d3,d4,d5,d6,d7,d8]
theorem aB.tL (x:aB) (e:List OV) (h:x.o e):OV.lL e=true:=by
 rw[aB.xU]at h
 obtain⟨y4,rfl,o4⟩:=h
 have d4:=OS.aJ5 (λz hz e q=>aB.tL z e q) o4
 simp[OV.lL,OV.sol,aC.eQ,d4]
termination_by SizeOf.sizeOf x
decreasing_by exact aB.u6 hz
theorem aX.tL (x:aX) (e:List OV) (h:x.o e):OV.lL e=true:=by
 obtain⟨y2,rfl,o2⟩:=h
 have d2:=OS.aJ5 (λz hz e q=>aB.tL z e q) o2
 simp[OV.lL,OV.sol,aC.eQ,d2]
theorem bR.tL (x:bR) (e:List OV) (h:x.o e):OV.lL e=true:=by
 obtain⟨y2,rfl,o2⟩:=h
 have d2:=OS.aJ5 (λ_ _ _ q=>aLZ (λ_=>rfl) q) o2
 simp[OV.lL,OV.sol,aC.eQ,d2]
theorem aI.tL (x:aI) (e:List OV) (h:x.o e):OV.lL e=true:=by
 obtain⟨y0,y3,y4,y5,y6,y7,y8,rfl,o0,o3,o4,o5,o6,o7,o8⟩:=h
 have d0:=OS.aJ5 (λz hz e q=>aX.tL z e q) o0
 have d3:=OS.aJ5 (λ_ _ _ q=>aLZ (λ_=>rfl) q) o3
 have d4:=OS.aJ5 (λz hz e q=>bLS (λ_ _ _ q=>aLZ (λ_=>rfl) q) q) o4
 have d5:=OS.aJ5 (λ_ _ _ q=>aLZ (λ_=>rfl) q) o5
 have d6:=OS.aJ5 (λ_ _ _ q=>aLZ (λ_=>rfl) q) o6
 have d7:=OS.aJ5 (λz hz e q=>bR.tL z e q) o7
 have d8:=OS.aJ5 (λ_ _ _ q=>aLZ (λ_=>rfl) q) o8
 simp[OV.lL,OV.sol,aC.eQ,d0,d3,d4,d5,d6,d7,d8]
theorem fE (a b:List Int):dQ Tryz.prog 143 [(cI 1 (λn=>[I n]) a),(cI 1 (λn=>[I n]) b)] (.bool (decide (a=b))):=by
 refine dI 26 aU4 cG aGZ Tryz.func143 λh=>?_
 simp -dsimp -implicitDefEqProofs only[go_sem,Tryz.f143,↓reduceIte]
 refine λ_ _=>⟨λhne=>?_,λheq=>?_⟩
 ·exact(decide_eq_false λe=>hne fD).symm
 ·refine cY aU4 cG aGZ (λk:Nat=>[(0,(cI 1 (λn=>[I n]) a)),(1,(cI 1 (λn=>[I n]) b)),(5,I k)]) (λ_=>h) (λk=>k<=a.length/\a.take k=b.take k) (λk=>a.length-k) 0 pV ?_
  intro k ⟨hk,hp⟩
  rcases cP k a.length with hlt|hge
  ·have hlb:k<b.length:=by omega
   have ea:a[k]?=some a[k]:=b6 hlt
   have eb:b[k]?=some b[k]:=b6 hlb
   simp -dsimp -implicitDefEqProofs only[go_sem,↓reduceIte,Tryz.f143,ea,eb]
   refine λ_=>⟨λ_=>⟨hlt,hlb,λhne=>?_,λhe=>?_⟩,λhn=>absurd hlt hn⟩
   ·first
     |exact(decide_eq_false λe=>hne (getElem_of_eq e hlt)).symm
     |exact(decide_eq_false λe=>by have:=getElem_of_eq e hlt (hb:=hlb);rw[this]at hne;simp at hne).symm
   ·exact⟨k+1,by rw[IntWalk.i64_in _ aA];rfl,⟨by omega,gT hlt hlb hp a0B⟩,by omega⟩
  ·have hk':k=a.length:=by omega
   subst hk'
   simp -dsimp -implicitDefEqProofs only[go_sem,↓reduceIte,Tryz.f143,cN]
   exact λ_=>(decide_eq_true (fW heq hp)).symm
theorem fO (a b:List Int):dQ Tryz.prog 105 [(cI 1 (λn=>[I n]) a),(cI 1 (λn=>[I n]) b)] (.bool (decide (a=b))):=by
 refine dI 26 bAA cG aGZ Tryz.func105 λh=>?_
 simp -dsimp -implicitDefEqProofs only[go_sem,↓reduceIte,Tryz.f105]
 refine λ_ _=>⟨λhne=>?_,λheq=>?_⟩
 ·exact(decide_eq_false λe=>hne fD).symm
 ·refine λ_=>?_
  refine cY bAA cG aGZ (λk:Nat=>[(0,(cI 1 (λn=>[I n]) a)),(1,(cI 1 (λn=>[I n]) b)),(12,I a.length),(13,I k)]) (λ_=>h) (λk=>k<=a.length/\a.take k=b.take k) (λk=>a.length-k) 0 pV ?_
  intro k ⟨hk,hp⟩
  rcases cP k a.length with hlt|hge
  ·have hlb:k<b.length:=by omega
   have ea:a[k]?=some a[k]:=b6 hlt
   have eb:b[k]?=some b[k]:=b6 hlb
   simp -dsimp -implicitDefEqProofs only[go_sem,↓reduceIte,Tryz.f105,ea,eb]
   refine⟨λ_=>⟨hlt,hlb,λhne=>?_,λhe=>?_⟩,λhn=>absurd hlt hn⟩
   ·first
     |exact(decide_eq_false λe=>hne (getElem_of_eq e hlt)).symm
     |exact(decide_eq_false λe=>by have:=getElem_of_eq e hlt (hb:=hlb);rw[this]at hne;simp at hne).symm
   ·exact⟨k+1,by rw[IntWalk.i64_in _ aA];rfl,⟨by omega,gT hlt hlb hp a0B⟩,by omega⟩
  ·have hk':k=a.length:=by omega
   subst hk'
   simp -dsimp -implicitDefEqProofs only[go_sem,↓reduceIte,Tryz.f105,cN]
   exact(decide_eq_true (fW heq hp)).symm
theorem aDD (a b:List Bool):dQ Tryz.prog 106 [(cI 1 (λb=>[.bool b]) a),(cI 1 (λb=>[.bool b]) b)] (.bool (decide (a=b))):=by
 refine dI 26 bAA cG aGZ Tryz.func106 λh=>?_
 simp -dsimp -implicitDefEqProofs only[go_sem,↓reduceIte,Tryz.f106]
 refine λ_ _=>⟨λhne=>?_,λheq=>?_⟩
 ·exact(decide_eq_false λe=>hne fD).symm
 ·refine λ_=>?_
  refine cY bAA cG aGZ (λk:Nat=>[(0,(cI 1 (λb=>[.bool b]) a)),(1,(cI 1 (λb=>[.bool b]) b)),(12,I a.length),(13,I k)]) (λ_=>h) (λk=>k<=a.length/\a.take k=b.take k) (λk=>a.length-k) 0 pV ?_
  intro k ⟨hk,hp⟩
  rcases cP k a.length with hlt|hge
  ·have hlb:k<b.length:=by omega
   have ea:a[k]?=some a[k]:=b6 hlt
   have eb:b[k]?=some b[k]:=b6 hlb
   simp -dsimp -implicitDefEqProofs only[go_sem,↓reduceIte,Tryz.f106,ea,eb]
   refine⟨λ_=>⟨hlt,hlb,λhne=>?_,λhe=>?_⟩,λhn=>absurd hlt hn⟩
   ·first
     |exact(decide_eq_false λe=>hne (getElem_of_eq e hlt)).symm
     |exact(decide_eq_false λe=>by have:=getElem_of_eq e hlt (hb:=hlb);rw[this]at hne;simp at hne).symm
   ·exact⟨k+1,by rw[IntWalk.i64_in _ aA];rfl,⟨by omega,gT hlt hlb hp a0B⟩,by omega⟩
  ·have hk':k=a.length:=by omega
   subst hk'
   simp -dsimp -implicitDefEqProofs only[go_sem,↓reduceIte,Tryz.f106,cN]
   exact(decide_eq_true (fW heq hp)).symm
theorem aAJ (a b:List bR) (g:FuncId) (cap:List aC) (hc:∀ x∈a,∀ y,dQ Tryz.prog g ([(.agg (bR.c x)),(.agg (bR.c y))]++cap) (.bool (decide (x=y)))):dQ Tryz.prog 107 [(cI 3 bR.c a),(cI 3 bR.c b),.fn (.func g) [] cap] (.bool (decide (a=b))):=by
 refine dI 32 aNR cG b9 Tryz.func107 λh=>?_
 simp -dsimp -implicitDefEqProofs only[go_sem,↓reduceIte,Tryz.f107]
 refine λ_ _=>⟨λhne=>?_,λheq=>?_⟩
 ·exact(decide_eq_false λe=>hne fD).symm
 ·refine λ_=>?_
  refine cY aNR cG b9 (λk:Nat=>[(0,(cI 3 bR.c a)),(1,(cI 3 bR.c b)),(2,.fn (.func g) [] cap),(15,(cI 3 bR.c a)),(16,I a.length),(17,I k)]) (λ_=>h) (λk=>k<=a.length/\a.take k=b.take k) (λk=>a.length-k) 0 pV ?_
  intro k ⟨hk,hp⟩
  rcases cP k a.length with hlt|hge
  ·have hlb:k<b.length:=by omega
   have ea:a[k]?=some a[k]:=b6 hlt
   have eb:b[k]?=some b[k]:=b6 hlb
   simp -dsimp -implicitDefEqProofs only[go_sem,↓reduceIte,Tryz.f107,ea,eb,bR.aM]
   refine⟨λ_=>⟨hlt,λn hn=>⟨hlb,λm hm=>?_⟩⟩,λhn=>absurd hlt hn⟩
   have e1:(n=m)=False:=eq_false λe=>hm.1 e.symm
   have e2:(m=n)=False:=eq_false hm.1
   simp -dsimp -implicitDefEqProofs only[go_sem,↓reduceIte,Tryz.f107,aF,dC,e1,e2]
   have hx:=hc a[k] (dG hlt) b[k]
   simp only[bR.aM]at hx
   refine aH.mk hx ?_
   by_cases he:a[k]=b[k]
   ·have d:=decide_eq_true he
    simp -dsimp -implicitDefEqProofs only[go_sem,↓reduceIte,Tryz.f107,d]
    refine⟨k+1,by rw[IntWalk.i64_in _ aA];rfl,?_,⟨by omega,gT hlt hlb hp he⟩,by omega⟩
    simp only[go_sem,hn,hm,e1,e2,dC]
   ·have d:=decide_eq_false he
    simp -dsimp -implicitDefEqProofs only[go_sem,↓reduceIte,Tryz.f107,d]
    refine⟨(decide_eq_false λe=>he (getElem_of_eq e hlt)).symm,?_⟩
    simp only[go_sem,hn,hm,e1,e2,dC]
  ·have hk':k=a.length:=by omega
   subst hk'
   simp -dsimp -implicitDefEqProofs only[go_sem,↓reduceIte,Tryz.f107,cN]
   exact(decide_eq_true (fW heq hp)).symm
theorem wY (a b:List aB) (g:FuncId) (cap:List aC) (hc:∀ x∈a,∀ y,dQ Tryz.prog g ([(.agg (aB.c x)),(.agg (aB.c y))]++cap) (.bool (decide (x=y)))):dQ Tryz.prog 189 [(cI 5 aB.c a),(cI 5 aB.c b),.fn (.func g) [] cap] (.bool (decide (a=b))):=by
 refine dI 32 aNR cG b9 Tryz.func189 λh=>?_
 simp -dsimp -implicitDefEqProofs only[go_sem,↓reduceIte,Tryz.f189]
 refine λ_ _=>⟨λhne=>?_,λheq=>?_⟩
 ·exact(decide_eq_false λe=>hne fD).symm
 ·refine λ_=>?_
  refine cY aNR cG b9 (λk:Nat=>[(0,(cI 5 aB.c a)),(1,(cI 5 aB.c b)),(2,.fn (.func g) [] cap),(15,(cI 5 aB.c a)),(16,I a.length),(17,I k)]) (λ_=>h) (λk=>k<=a.length/\a.take k=b.take k) (λk=>a.length-k) 0 pV ?_
  intro k ⟨hk,hp⟩
  rcases cP k a.length with hlt|hge
  ·have hlb:k<b.length:=by omega
   have ea:a[k]?=some a[k]:=b6 hlt
   have eb:b[k]?=some b[k]:=b6 hlb
   simp -dsimp -implicitDefEqProofs only[go_sem,↓reduceIte,Tryz.f189,ea,eb,aB.aM]
   refine⟨λ_=>⟨hlt,λn hn=>⟨hlb,λm hm=>?_⟩⟩,λhn=>absurd hlt hn⟩
   have e1:(n=m)=False:=eq_false λe=>hm.1 e.symm
   have e2:(m=n)=False:=eq_false hm.1
   simp -dsimp -implicitDefEqProofs only[go_sem,↓reduceIte,Tryz.f189,aF,dC,e1,e2]
   have hx:=hc a[k] (dG hlt) b[k]
   simp only[aB.aM]at hx
   refine aH.mk hx ?_
   by_cases he:a[k]=b[k]
   ·have d:=decide_eq_true he
    simp -dsimp -implicitDefEqProofs only[go_sem,↓reduceIte,Tryz.f189,d]
    refine⟨k+1,by rw[IntWalk.i64_in _ aA];rfl,?_,⟨by omega,gT hlt hlb hp he⟩,by omega⟩
    simp only[go_sem,hn,hm,e1,e2,dC]
   ·have d:=decide_eq_false he
    simp -dsimp -implicitDefEqProofs only[go_sem,↓reduceIte,Tryz.f189,d]
    refine⟨(decide_eq_false λe=>he (getElem_of_eq e hlt)).symm,?_⟩
    simp only[go_sem,hn,hm,e1,e2,dC]
  ·have hk':k=a.length:=by omega
   subst hk'
   simp -dsimp -implicitDefEqProofs only[go_sem,↓reduceIte,Tryz.f189,cN]
   exact(decide_eq_true (fW heq hp)).symm
theorem aAK (a b:List aX) (g:FuncId) (cap:List aC) (hc:∀ x∈a,∀ y,dQ Tryz.prog g ([(.agg (aX.c x)),(.agg (aX.c y))]++cap) (.bool (decide (x=y)))):dQ Tryz.prog 187 [(cI 3 aX.c a),(cI 3 aX.c b),.fn (.func g) [] cap] (.bool (decide (a=b))):=by
 refine dI 32 aNR cG b9 Tryz.func187 λh=>?_
 simp -dsimp -implicitDefEqProofs only[go_sem,↓reduceIte,Tryz.f187]
 refine λ_ _=>⟨λhne=>?_,λheq=>?_⟩
 ·exact(decide_eq_false λe=>hne fD).symm
 ·refine λ_=>?_
  refine cY aNR cG b9 (λk:Nat=>[(0,(cI 3 aX.c a)),(1,(cI 3 aX.c b)),(2,.fn (.func g) [] cap),(15,(cI 3 aX.c a)),(16,I a.length),(17,I k)]) (λ_=>h) (λk=>k<=a.length/\a.take k=b.take k) (λk=>a.length-k) 0 pV ?_
  intro k ⟨hk,hp⟩
  rcases cP k a.length with hlt|hge
  ·have hlb:k<b.length:=by omega
   have ea:a[k]?=some a[k]:=b6 hlt
   have eb:b[k]?=some b[k]:=b6 hlb
   simp -dsimp -implicitDefEqProofs only[go_sem,↓reduceIte,Tryz.f187,ea,eb,aX.aM]
   refine⟨λ_=>⟨hlt,λn hn=>⟨hlb,λm hm=>?_⟩⟩,λhn=>absurd hlt hn⟩
   have e1:(n=m)=False:=eq_false λe=>hm.1 e.symm
   have e2:(m=n)=False:=eq_false hm.1
   simp -dsimp -implicitDefEqProofs only[go_sem,↓reduceIte,Tryz.f187,aF,dC,e1,e2]
   have hx:=hc a[k] (dG hlt) b[k]
   simp only[aX.aM]at hx
   refine aH.mk hx ?_
   by_cases he:a[k]=b[k]
   ·have d:=decide_eq_true he
    simp -dsimp -implicitDefEqProofs only[go_sem,↓reduceIte,Tryz.f187,d]
    refine⟨k+1,by rw[IntWalk.i64_in _ aA];rfl,?_,⟨by omega,gT hlt hlb hp he⟩,by omega⟩
    simp only[go_sem,hn,hm,e1,e2,dC]
   ·have d:=decide_eq_false he
    simp -dsimp -implicitDefEqProofs only[go_sem,↓reduceIte,Tryz.f187,d]
    refine⟨(decide_eq_false λe=>he (getElem_of_eq e hlt)).symm,?_⟩
    simp only[go_sem,hn,hm,e1,e2,dC]
  ·have hk':k=a.length:=by omega
   subst hk'
   simp -dsimp -implicitDefEqProofs only[go_sem,↓reduceIte,Tryz.f187,cN]
   exact(decide_eq_true (fW heq hp)).symm
theorem wO (a b:List (List Int)) (g:FuncId) (cap:List aC) (hc:∀ x∈a,∀ y,dQ Tryz.prog g ([(cI 1 (λn=>[I n]) x),(cI 1 (λn=>[I n]) y)]++cap) (.bool (decide (x=y)))):dQ Tryz.prog 150 [(cI 1 (λx=>[cI 1 (λn=>[I n]) x]) a),(cI 1 (λx=>[cI 1 (λn=>[I n]) x]) b),.fn (.func g) [] cap] (.bool (decide (a=b))):=by
 refine dI 32 aNR cG b9 Tryz.func150 λh=>?_
 simp -dsimp -implicitDefEqProofs only[go_sem,↓reduceIte,Tryz.f150]
 refine λ_ _=>⟨λhne=>?_,λheq=>?_⟩
 ·exact(decide_eq_false λe=>hne fD).symm
 ·refine λ_=>?_
  refine cY aNR cG b9 (λk:Nat=>[(0,(cI 1 (λx=>[cI 1 (λn=>[I n]) x]) a)),(1,(cI 1 (λx=>[cI 1 (λn=>[I n]) x]) b)),(2,.fn (.func g) [] cap),(15,(cI 1 (λx=>[cI 1 (λn=>[I n]) x]) a)),(16,I a.length),(17,I k)]) (λ_=>h) (λk=>k<=a.length/\a.take k=b.take k) (λk=>a.length-k) 0 pV ?_
  intro k ⟨hk,hp⟩
  rcases cP k a.length with hlt|hge
  ·have hlb:k<b.length:=by omega
   have ea:a[k]?=some a[k]:=b6 hlt
   have eb:b[k]?=some b[k]:=b6 hlb
   simp -dsimp -implicitDefEqProofs only[go_sem,↓reduceIte,Tryz.f150,ea,eb]
   refine⟨λ_=>⟨hlt,hlb,?_⟩,λhn=>absurd hlt hn⟩
   have hx:=hc a[k] (dG hlt) b[k]
   refine aH.mk hx ?_
   by_cases he:a[k]=b[k]
   ·have d:=decide_eq_true he
    simp -dsimp -implicitDefEqProofs only[go_sem,↓reduceIte,Tryz.f150,d]
    refine⟨k+1,by rw[IntWalk.i64_in _ aA];rfl,⟨by omega,gT hlt hlb hp he⟩,by omega⟩
   ·have d:=decide_eq_false he
    simp -dsimp -implicitDefEqProofs only[go_sem,↓reduceIte,Tryz.f150,d]
    exact(decide_eq_false λe=>he (getElem_of_eq e hlt)).symm
  ·have hk':k=a.length:=by omega
   subst hk'
   simp -dsimp -implicitDefEqProofs only[go_sem,↓reduceIte,Tryz.f150,cN]
   exact(decide_eq_true (fW heq hp)).symm
theorem aFF (a b:bR):dQ Tryz.prog 98 [.agg a.c,.agg b.c] (.bool (decide (a=b))):=by
 simp only[bR.aM]
 refine dI 24 a4W aDC b9 Tryz.func98 λh=>?_
 simp -dsimp -implicitDefEqProofs only[go_sem,↓reduceIte,Tryz.f98]
 repeat'(with_reducible first|intro _|refine And.intro ?_ ?_)
 all_goals try(first|(simp[bR.eq_iff, *];done)|omega|(grind[bR.eq_iff])|(simp[bR.eq_iff];omega))
 first|refine aH.mk (fO a.iQ b.iQ) ?_|refine aE.mk (fO a.iQ b.iQ) ?_|refine aH.b7 (fO a.iQ b.iQ) ?_|refine aE.mk (bX.eA (fO a.iQ b.iQ)) ?_
 simp -dsimp -implicitDefEqProofs only[go_sem,↓reduceIte,Tryz.f98]
 all_goals try(first|(simp[bR.eq_iff, *];done)|omega|(grind[bR.eq_iff])|(simp[bR.eq_iff];omega))
theorem aT2 (a b:aB) (hk:dQ Tryz.prog 189 [cI 5 aB.c a.aO,cI 5 aB.c b.aO,.fn (.func 190) [] []] (.bool (decide (a.aO=b.aO)))):dQ Tryz.prog 190 [.agg a.c,.agg b.c] (.bool (decide (a=b))):=by
 simp only[aB.aM]
 refine dI 38 a4W aDC b9 Tryz.func190 λh=>?_
 simp -dsimp -implicitDefEqProofs only[go_sem,↓reduceIte,Tryz.f190]
 repeat'(with_reducible first|intro _|refine And.intro ?_ ?_)
 all_goals try(first|(simp[aB.eq_iff, *];done)|omega|(grind[aB.eq_iff])|(simp[aB.eq_iff];omega))
 first|refine aH.mk (hk) ?_|refine aE.mk (hk) ?_|refine aH.b7 (hk) ?_|refine aE.mk (bX.eA (hk)) ?_
 simp -dsimp -implicitDefEqProofs only[go_sem,↓reduceIte,Tryz.f190]
 all_goals try(first|(simp[aB.eq_iff, *];done)|omega|(grind[aB.eq_iff])|(simp[aB.eq_iff];omega))
theorem aFG (a b:aB):dQ Tryz.prog 190 [.agg a.c,.agg b.c] (.bool (decide (a=b))) :=
 aT2 a b (wY a.aO b.aO 190 [] λx hx y=>aFG x y)
termination_by SizeOf.sizeOf a
decreasing_by exact aB.u6 hx
theorem yA (a b:aX):dQ Tryz.prog 188 [.agg a.c,.agg b.c] (.bool (decide (a=b))):=by
 simp only[aX.aM]
 refine dI 24 a4W aDC b9 Tryz.func188 λh=>?_
 simp -dsimp -implicitDefEqProofs only[go_sem,↓reduceIte,Tryz.f188]
 repeat'(with_reducible first|intro _|refine And.intro ?_ ?_)
 all_goals try(first|(simp[aX.eq_iff, *];done)|omega|(grind[aX.eq_iff])|(simp[aX.eq_iff];omega))
 first|refine aH.mk (wY a.bB b.bB 190 [] λx _ y=>aFG x y) ?_|refine aE.mk (wY a.bB b.bB 190 [] λx _ y=>aFG x y) ?_|refine aH.b7 (wY a.bB b.bB 190 [] λx _ y=>aFG x y) ?_|refine aE.mk (bX.eA (wY a.bB b.bB 190 [] λx _ y=>aFG x y)) ?_
 simp -dsimp -implicitDefEqProofs only[go_sem,↓reduceIte,Tryz.f188]
 all_goals try(first|(simp[aX.eq_iff, *];done)|omega|(grind[aX.eq_iff])|(simp[aX.eq_iff];omega))
theorem aAL (a b:aK):dQ Tryz.prog 149 [.agg a.c,.agg b.c] (.bool (decide (a=b))):=by
 simp only[aK.aM]
 refine dI 10 a4W aDC b9 Tryz.func149 λh=>?_
 simp -dsimp -implicitDefEqProofs only[go_sem,↓reduceIte,Tryz.f149]
 first|refine aH.mk (aAK a.aJ b.aJ 188 [] λx _ y=>yA x y) ?_|refine aE.mk (aAK a.aJ b.aJ 188 [] λx _ y=>yA x y) ?_|refine aH.b7 (aAK a.aJ b.aJ 188 [] λx _ y=>yA x y) ?_|refine aE.mk (bX.eA (aAK a.aJ b.aJ 188 [] λx _ y=>yA x y)) ?_
 simp -dsimp -implicitDefEqProofs only[go_sem,↓reduceIte,Tryz.f149]
 all_goals try(first|(simp[aK.eq_iff, *];done)|omega|(grind[aK.eq_iff])|(simp[aK.eq_iff];omega))
theorem aKD (a b:List Int):dQ Tryz.prog 151 [cI 1 (λn=>[I n]) a,cI 1 (λn=>[I n]) b] (.bool (decide (a=b))):=by
 refine dI 8 zG cG b9 Tryz.func151 λh=>?_
 simp -dsimp -implicitDefEqProofs only[go_sem,↓reduceIte,Tryz.f151]
 first|refine aH.mk (fO a b) ?_|refine aE.mk (fO a b) ?_|refine aH.b7 (fO a b) ?_|refine aE.mk (bX.eA (fO a b)) ?_
 simp -dsimp -implicitDefEqProofs only[go_sem,↓reduceIte,Tryz.f151]
theorem aOV (a b:dN):dQ Tryz.prog 104 [.agg a.c,.agg b.c] (.bool (decide (a=b))):=by
 simp only[dN.aM]
 refine dI 38 a4W aDC b9 Tryz.func104 λh=>?_
 simp -dsimp -implicitDefEqProofs only[go_sem,↓reduceIte,Tryz.f104]
 first|refine aH.mk (aAL a.bN b.bN) ?_|refine aE.mk (aAL a.bN b.bN) ?_|refine aH.b7 (aAL a.bN b.bN) ?_|refine aE.mk (bX.eA (aAL a.bN b.bN)) ?_
 simp -dsimp -implicitDefEqProofs only[go_sem,↓reduceIte,Tryz.f104]
 repeat'(with_reducible first|intro _|refine And.intro ?_ ?_)
 all_goals try(first|(simp[dN.eq_iff, *];done)|omega|(grind[dN.eq_iff])|(simp[dN.eq_iff];omega))
 first|refine aH.mk (fO a.cT b.cT) ?_|refine aE.mk (fO a.cT b.cT) ?_|refine aH.b7 (fO a.cT b.cT) ?_|refine aE.mk (bX.eA (fO a.cT b.cT)) ?_
 simp -dsimp -implicitDefEqProofs only[go_sem,↓reduceIte,Tryz.f104]
 repeat'(with_reducible first|intro _|refine And.intro ?_ ?_)
 all_goals try(first|(simp[dN.eq_iff, *];done)|omega|(grind[dN.eq_iff])|(simp[dN.eq_iff];omega))
 first|refine aH.mk (wO a.aQ b.aQ 151 [] λx _ y=>aKD x y) ?_|refine aE.mk (wO a.aQ b.aQ 151 [] λx _ y=>aKD x y) ?_|refine aH.b7 (wO a.aQ b.aQ 151 [] λx _ y=>aKD x y) ?_|refine aE.mk (bX.eA (wO a.aQ b.aQ 151 [] λx _ y=>aKD x y)) ?_
 simp -dsimp -implicitDefEqProofs only[go_sem,↓reduceIte,Tryz.f104]
 all_goals try(first|(simp[dN.eq_iff, *];done)|omega|(grind[dN.eq_iff])|(simp[dN.eq_iff];omega))
theorem a1X (a b:aI):dQ Tryz.prog 59 [.agg a.c,.agg b.c] (.bool (decide (a=b))):=by
 simp only[aI.aM]
 refine dI 38 a4W aDC b9 Tryz.func59 λh=>?_
 simp -dsimp -implicitDefEqProofs only[go_sem,↓reduceIte,Tryz.f59]
 first|refine aH.mk (aOV a.bA b.bA) ?_|refine aE.mk (aOV a.bA b.bA) ?_|refine aH.b7 (aOV a.bA b.bA) ?_|refine aE.mk (bX.eA (aOV a.bA b.bA)) ?_
 simp -dsimp -implicitDefEqProofs only[go_sem,↓reduceIte,Tryz.f59]
 repeat'(with_reducible first|intro _|refine And.intro ?_ ?_)
 all_goals try(first|(simp[aI.eq_iff, *];done)|omega|(grind[aI.eq_iff])|(simp[aI.eq_iff];omega))
 first|refine aH.mk (fO a.aP b.aP) ?_|refine aE.mk (fO a.aP b.aP) ?_|refine aH.b7 (fO a.aP b.aP) ?_|refine aE.mk (bX.eA (fO a.aP b.aP)) ?_
 simp -dsimp -implicitDefEqProofs only[go_sem,↓reduceIte,Tryz.f59]
 repeat'(with_reducible first|intro _|refine And.intro ?_ ?_)
 all_goals try(first|(simp[aI.eq_iff, *];done)|omega|(grind[aI.eq_iff])|(simp[aI.eq_iff];omega))
 first|refine aH.mk (aDD a.bM b.bM) ?_|refine aE.mk (aDD a.bM b.bM) ?_|refine aH.b7 (aDD a.bM b.bM) ?_|refine aE.mk (bX.eA (aDD a.bM b.bM)) ?_
 simp -dsimp -implicitDefEqProofs only[go_sem,↓reduceIte,Tryz.f59]
 repeat'(with_reducible first|intro _|refine And.intro ?_ ?_)
 all_goals try(first|(simp[aI.eq_iff, *];done)|omega|(grind[aI.eq_iff])|(simp[aI.eq_iff];omega))
 first|refine aH.mk (aAJ a.bW b.bW 98 [] λx _ y=>aFF x y) ?_|refine aE.mk (aAJ a.bW b.bW 98 [] λx _ y=>aFF x y) ?_|refine aH.b7 (aAJ a.bW b.bW 98 [] λx _ y=>aFF x y) ?_|refine aE.mk (bX.eA (aAJ a.bW b.bW 98 [] λx _ y=>aFF x y)) ?_
 simp -dsimp -implicitDefEqProofs only[go_sem,↓reduceIte,Tryz.f59]
 repeat'(with_reducible first|intro _|refine And.intro ?_ ?_)
 all_goals try(first|(simp[aI.eq_iff, *];done)|omega|(grind[aI.eq_iff])|(simp[aI.eq_iff];omega))
 first|refine aH.mk (fO a.bI b.bI) ?_|refine aE.mk (fO a.bI b.bI) ?_|refine aH.b7 (fO a.bI b.bI) ?_|refine aE.mk (bX.eA (fO a.bI b.bI)) ?_
 simp -dsimp -implicitDefEqProofs only[go_sem,↓reduceIte,Tryz.f59]
 all_goals try(first|(simp[aI.eq_iff, *];done)|omega|(grind[aI.eq_iff])|(simp[aI.eq_iff];omega))
def Low (c:UInt8):Prop:=97<=c.toNat/\c.toNat<=122
def Dig (c:UInt8):Prop:=48<=c.toNat/\c.toNat<=57
instance (c:UInt8):Decidable (Low c):=inferInstanceAs (Decidable (_/\_))
instance (c:UInt8):Decidable (Dig c):=inferInstanceAs (Decidable (_/\_))
def aHO (s:List UInt8):Prop:=1<=s.length/\s.length<=12/\(∀ c,s[0]?=some c->Low c)/\∀ c∈s,Low c∨Dig c
noncomputable instance (s:List UInt8):Decidable (aHO s):=Classical.propDecidable _
theorem aVB {s:List UInt8} {k:Nat} {c:UInt8} (h:k<s.length) (ec:s[k]=c) (hp:∀ x∈s.take k,Low x∨Dig x) (he:Low c∨Dig c):∀ x∈s.take (k+1),Low x∨Dig x :=
 iY (P:=λx=>Low x∨Dig x) h hp (by rw[ec];exact he)
theorem a1Y {s:List UInt8} {k:Nat} {c:UInt8} (h:k<s.length) (ec:s[k]=c) (he:¬(Low c∨Dig c)):false=decide (aHO s) :=
 (decide_eq_false λe=>he (ec▸e.2.2.2 _ (dG h))).symm
theorem bDM {s:List UInt8} {k:Nat} {c:UInt8} (h:k<s.length) (h0:(k:Int)=0) (ec:s[k]=c) (he:¬Low c):false=decide (aHO s) :=
 (decide_eq_false fun e => he (e.2.2.1 c (by have : k = 0 := by omega
                                             subst this;rw[b6 h,ec]))).symm
@[go_sem] def aW9:List Nat:=[0,2,3,17,21,45]
theorem aDE (s:List UInt8):dQ Tryz.prog 156 [.str s] (.bool (decide (aHO s))):=by
 cases s with
 |nil =>
  refine dI 46 aW9 cG b9 Tryz.func156 λh=>?_
  simp -dsimp -implicitDefEqProofs only[go_sem,↓reduceIte,Tryz.f156]
  first|refine aH.mk (eI 0 1 12) ?_|refine aE.mk (eI 0 1 12) ?_|refine aH.b7 (eI 0 1 12) ?_|refine aE.mk (bX.eA (eI 0 1 12)) ?_
  simp -dsimp -implicitDefEqProofs only[go_sem,↓reduceIte,Tryz.f156]
  repeat'(with_reducible first|intro _|refine And.intro ?_ ?_)
  all_goals try(first|(simp[aHO, *];done)|omega|(grind[aHO])|(simp[aHO];omega))
 |cons c t =>
  refine dI 46 aW9 cG b9 Tryz.func156 λh=>?_
  simp -dsimp -implicitDefEqProofs only[go_sem,↓reduceIte,Tryz.f156,a32,bKI]
  intro _
  first|refine aH.mk (eI (c::t).length 1 12) ?_|refine aE.mk (eI (c::t).length 1 12) ?_|refine aH.b7 (eI (c::t).length 1 12) ?_|refine aE.mk (bX.eA (eI (c::t).length 1 12)) ?_
  simp -dsimp -implicitDefEqProofs only[go_sem,↓reduceIte,Tryz.f156,a32,bKI]
  repeat'(with_reducible first|intro _|refine And.intro ?_ ?_)
  all_goals try(first|(simp[aHO,Low,Dig, *];done)|omega|(grind[aHO,Low,Dig])|(simp[aHO,Low,Dig];omega))
  rename_i h0 h1 h2 h3
  generalize hs:c::t=s at *
  refine cY aW9 cG b9 (λk:Nat=>[(0,.str s),(3,I k)]) (λ_=>h) (λk=>k<=s.length/\∀ x∈s.take k,Low x∨Dig x) (λk=>s.length-k) 0 pV ?_
  intro k ⟨hk,hp⟩
  rcases cP k s.length with hlt|hge
  ·generalize ec:s[k]=d
   have ea:s[k]?=some d:=by rw[←ec];exact b6 hlt
   simp -dsimp -implicitDefEqProofs only[go_sem,↓reduceIte,Tryz.f156,ea,wQ]
   repeat'(with_reducible first|intro _|refine And.intro ?_ ?_)
   all_goals try omega
   all_goals try exact a1Y hlt ec a9F
   all_goals
    refine⟨k+1,?_⟩
    repeat'(with_reducible refine And.intro ?_ ?_)
    all_goals try(rw[IntWalk.i64_in _ aA];first|rfl|omega)
    all_goals try omega
    all_goals try(repeat'(with_reducible first|exact Heap.le_refl _|refine(aW gH).2 ?_))
    exact aVB hlt ec hp a9F
  ·have hk':k=s.length:=by omega
   subst hk'
   rw[eL]at hp
   simp -dsimp -implicitDefEqProofs only[go_sem,↓reduceIte,Tryz.f156,cN]
   have:s.length=t.length+1:=by rw[←hs];rfl
   exact λ_=>(decide_eq_true ⟨by omega,by omega,λx hx=>by rw[←hs]at hx;simp at hx;subst hx;simp only[Low];omega,hp⟩).symm
@[go_sem] def bAL:List Nat:=[0,2,3,5,6,7,34]
theorem aXA (s:List UInt8):dQ Tryz.prog 166 [.str s] (.bool (decide (aHO s))):=by
 refine dI 44 bAL cG b9 Tryz.func166 λh=>?_
 simp -dsimp -implicitDefEqProofs only[go_sem,↓reduceIte,Tryz.f166]
 repeat'(with_reducible first|intro _|refine And.intro ?_ ?_)
 refine cY bAL cG b9 (λk:Nat=>[(0,.str s),(5,I s.length),(6,I k)]) (λ_=>h) (λk=>k<=s.length/\(∀ x∈s.take k,Low x∨Dig x)/\(0<k->∀ c,s[0]?=some c->Low c)) (λk=>s.length-k) 0 pV ?_
 intro k ⟨hk,hp,hz⟩
 rcases cP k s.length with hlt|hge
 ·generalize ec:s[k]=d
  have ea:s[k]?=some d:=by rw[←ec];exact b6 hlt
  have hz':Low d∨¬((k:Int)=0)->∀ c,s[0]?=some c->Low c:=by
   intro q c hc
   by_cases h0:k=0
   ·subst h0
    rw[ea]at hc
    obtain rfl:=dY hc
    exact q.resolve_right aS
   ·exact hz aA c hc
  simp -dsimp -implicitDefEqProofs only[go_sem,↓reduceIte,Tryz.f166,ea,wQ]
  repeat'(with_reducible first|intro _|refine And.intro ?_ ?_)
  all_goals try omega
  all_goals try exact a1Y hlt ec a9F
  all_goals try exact bDM hlt aA ec (by simp only[Low];omega)
  all_goals
   refine⟨k+1,?_⟩
   repeat'(with_reducible refine And.intro ?_ ?_)
   all_goals try(rw[IntWalk.i64_in _ aA];first|rfl|omega)
   all_goals try omega
   all_goals try(repeat'(with_reducible first|exact Heap.le_refl _|refine(aW gH).2 ?_))
   all_goals first|exact aVB hlt ec hp a9F|exact λ_=>hz' (by simp only[Low];omega)
 ·have hk':k=s.length:=by omega
  subst hk'
  rw[eL]at hp
  simp -dsimp -implicitDefEqProofs only[go_sem,↓reduceIte,Tryz.f166,cN]
  repeat'(with_reducible first|intro _|refine And.intro ?_ ?_)
  all_goals simp only[aHO,decide_eq_decide,eq_comm (a:=false),decide_eq_false_iff_not]
  all_goals grind
mutual
def aB.d:aB->Nat
 | .mk _ _ _ _ kids=>aB.dL kids+1
def aB.dL:List aB->Nat
 | []=>0
 |x::l=>max x.d (aB.dL l)
end
theorem aB.bZF (x:aB):x.d=aB.dL x.aO+1:=by cases x;rfl
theorem aB.aXB:∀ {l:List aB} {k:Nat} (h:k<l.length),aB.dL (l.take (k+1))=max (aB.dL (l.take k)) l[k].d
 |x::l,0,_=>by simp[aB.dL]
 |x::l,k+1,h=>by
  have:=aB.aXB (l:=l) (k:=k) (by simpa using h)
  simp only[a8K,aB.dL,this,List.getElem_cons_succ]
  omega
mutual
theorem aB.bS5:∀ x:aB,x.d<=x.s+1
 | .mk _ _ _ _ kids=>by
  have:=aB.bQA kids
  simp only[aB.d,aB.s];omega
theorem aB.bQA:∀ l:List aB,aB.dL l<=l.length+aB.sL l
 | []=>by simp[aB.dL]
 |x::l=>by
  have h1:=aB.bS5 x
  have h2:=aB.bQA l
  simp only[aB.dL,aB.sL,al2];omega
end
theorem aB.a0C {x y:aB} (h:y∈x.aO):y.s<x.s:=by
 have h1:=k6 aB.s h
 have h2:=List.length_pos_of_mem h
 rw[x.fQ,fF];omega
theorem aB.bHC (x:aB) {k:Nat} (h:k<x.aO.length):k+((x.aO.take k).map aB.s).sum+x.aO[k].s+1<=x.s:=by
 have h1:=gS aB.s x.aO k h
 have h2:=lT aB.s x.aO (k+1)
 rw[x.fQ,fF];omega
theorem aB.bQB (x:aB):x.aO.length+((x.aO.take x.aO.length).map aB.s).sum=x.s:=by
 rw[eL,x.fQ,fF]
theorem aT3 (x:aB) (hs:x.s<=4294967296) (hc:∀ y∈x.aO,dQ Tryz.prog 170 [.agg y.c] (I ((y.s:Int)+1))):dQ Tryz.prog 170 [.agg x.c] (I ((x.s:Int)+1)):=by
 have hx:=x.bQB
 rw[aB.aM x]
 refine dI 19 bAB wE b9 Tryz.func170 λh=>?_
 simp -dsimp -implicitDefEqProofs only[go_sem,↓reduceIte,Tryz.f170]
 repeat'(with_reducible first|intro _|refine And.intro ?_ ?_)
 refine cY bAB wE b9 (λk:Nat=>[(1,.ip 5 [x.c] 0 0),(3,I (1+k+(((x.aO.take k).map aB.s).sum:Int))),(7,cI 5 aB.c x.aO),(8,I x.aO.length),(9,I k)]) (λ_=>h) (λk=>k<=x.aO.length) (λk=>x.aO.length-k) 0 (by simp[dT,dB,Heap.le_refl,aB.aM]) ?_
 intro k hk
 rcases cP k x.aO.length with hlt|hge
 ·have ea:x.aO[k]?=some x.aO[k]:=b6 hlt
  have hp:=x.bHC hlt
  have h1:=gS aB.s x.aO k hlt
  have hcy:=hc x.aO[k] (dG hlt)
  simp only[aB.aM]at hcy
  simp -dsimp -implicitDefEqProofs only[go_sem,↓reduceIte,Tryz.f170,ea,aB.aM,aF]
  repeat'(with_reducible first|intro _|refine And.intro ?_ ?_)
  all_goals try omega
  first|refine aH.mk (hcy) ?_|refine aE.mk (hcy) ?_|refine aH.b7 (hcy) ?_|refine aE.mk (bX.eA (hcy)) ?_
  simp -dsimp -implicitDefEqProofs only[go_sem,↓reduceIte,Tryz.f170]
  rename_i n hn
  refine⟨k+1,?_⟩
  repeat'(with_reducible refine And.intro ?_ ?_)
  all_goals try(rw[IntWalk.i64_in _ aA];first|rfl|omega)
  all_goals try omega
  all_goals try(repeat'(with_reducible first|exact Heap.le_refl _|refine(aW gH).2 ?_))
  all_goals try(simp only[aB.aM];done)
 ·have hk':k=x.aO.length:=by omega
  subst hk'
  simp -dsimp -implicitDefEqProofs only[go_sem,↓reduceIte,Tryz.f170,cN]
  omega
theorem aRD (x:aB) (hs:x.s<=4294967296):dQ Tryz.prog 170 [.agg x.c] (I ((x.s:Int)+1)) :=
 aT3 x hs λy hy=>aRD y a9D
termination_by SizeOf.sizeOf x
decreasing_by exact aB.u6 hy
theorem aRE (x:aB) (hs:x.s<=4294967296) (hc:∀ y∈x.aO,dQ Tryz.prog 202 [.agg y.c] (I (y.d:Int))):dQ Tryz.prog 202 [.agg x.c] (I (x.d:Int)):=by
 have hd:=x.bS5
 rw[aB.bZF]at hd ⊢
 rw[aB.aM x]
 refine dI 20 bAB wE b9 Tryz.func202 λh=>?_
 simp -dsimp -implicitDefEqProofs only[go_sem,↓reduceIte,Tryz.f202]
 repeat'(with_reducible first|intro _|refine And.intro ?_ ?_)
 refine cY bAB wE b9 (λk:Nat=>[(1,.ip 5 [x.c] 0 0),(3,I (aB.dL (x.aO.take k):Int)),(7,cI 5 aB.c x.aO),(8,I x.aO.length),(9,I k)]) (λ_=>h) (λk=>k<=x.aO.length) (λk=>x.aO.length-k) 0 (by simp[dT,dB,Heap.le_refl,aB.aM,aB.dL]) ?_
 intro k hk
 rcases cP k x.aO.length with hlt|hge
 ·have ea:x.aO[k]?=some x.aO[k]:=b6 hlt
  have h1:=aB.aXB hlt
  have hcy:=hc x.aO[k] (dG hlt)
  simp only[aB.aM]at hcy
  simp -dsimp -implicitDefEqProofs only[go_sem,↓reduceIte,Tryz.f202,ea,aB.aM,aF]
  repeat'(with_reducible first|intro _|refine And.intro ?_ ?_)
  all_goals try omega
  first|refine aH.mk (hcy) ?_|refine aE.mk (hcy) ?_|refine aH.b7 (hcy) ?_|refine aE.mk (bX.eA (hcy)) ?_
  simp -dsimp -implicitDefEqProofs only[go_sem,↓reduceIte,Tryz.f202]
  repeat'(with_reducible first|intro _|refine And.intro ?_ ?_)
  all_goals try rfl
  rename_i n hn
  refine⟨k+1,?_⟩
  repeat'(with_reducible refine And.intro ?_ ?_)
  all_goals try(rw[IntWalk.i64_in _ aA];first|rfl|omega)
  all_goals try omega
  all_goals try(repeat'(with_reducible first|exact Heap.le_refl _|refine(aW gH).2 ?_))
  all_goals try(simp only[aB.aM];done)
 ·have hk':k=x.aO.length:=by omega
  subst hk'
  simp -dsimp -implicitDefEqProofs only[go_sem,↓reduceIte,Tryz.f202,cN]
  rw[eL,IntWalk.i64_in _ aA];omega
theorem aVC (x:aB) (hs:x.s<=4294967296):dQ Tryz.prog 202 [.agg x.c] (I (x.d:Int)) :=
 aRE x hs λy hy=>aVC y a9D
termination_by SizeOf.sizeOf x
decreasing_by exact aB.u6 hy
@[go_sem] def bAM:List Nat:=[0,1,4,5,18]
theorem aXC (x:aB) (left:Int) (h0:0<=left) (h9:left<=4294967296) (hs:x.s<=4294967296) (hc:∀ y∈x.aO,∀ left:Int,0<=left->left<=4294967296->dQ Tryz.prog 157 [.ip 5 [y.c] 0 0,I left] (I (wV left (y.s+1)))):dQ Tryz.prog 157 [.ip 5 [x.c] 0 0,I left] (I (wV left (x.s+1))):=by
 have hx:=x.bQB
 rw[aB.aM x]
 refine dI 30 bAM cG b9 Tryz.func157 λh=>?_
 simp -dsimp -implicitDefEqProofs only[go_sem,↓reduceIte,Tryz.f157]
 repeat'(with_reducible first|intro _|refine And.intro ?_ ?_)
 refine cY bAM cG b9 (λk:Nat=>[(0,.ip 5 [x.c] 0 0),(1,I (wV left (1+k+((x.aO.take k).map aB.s).sum))),(5,I k)]) (λ_=>h) (λk=>k<=x.aO.length) (λk=>x.aO.length-k) 0 (by simp[dT,dB,Heap.le_refl,aB.aM];rw[IntWalk.i64_in _ aA];unfold wV;split <;> omega) ?_
 intro k hk
 rcases cP k x.aO.length with hlt|hge
 ·have hp:=x.bHC hlt
  have h1:=gS aB.s x.aO k hlt
  rcases mS left (1+k+((x.aO.take k).map aB.s).sum)with⟨e,hl⟩|⟨e,hl⟩
  ·rw[e,aB.aM x]
   simp -dsimp -implicitDefEqProofs only[go_sem,↓reduceIte,Tryz.f157]
   repeat'(with_reducible first|intro _|refine And.intro ?_ ?_)
   all_goals try omega
   exact(gP aA).symm
  ·rw[e,aB.aM x]
   simp -dsimp -implicitDefEqProofs only[go_sem,↓reduceIte,Tryz.f157]
   repeat'(with_reducible first|intro _|refine And.intro ?_ ?_)
   all_goals try omega
   first|refine aE.mk ((hc x.aO[k] (dG hlt) _ hl aA).sub (by repeat'(first|exact bQ.nil|refine bQ.cons ?_ ?_|exact Sub.refl _|(rw[aB.aM];exact Sub.refl _)|exact Sub.cK rfl rfl rfl|exact Sub.ip (bF aA) aS|exact Sub.cK (bF aA) rfl rfl|exact Sub.ip bU aS|exact Sub.cK bU bS bS))) ?_|refine aH.mk ((hc x.aO[k] (dG hlt) _ hl aA).sub (by repeat'(first|exact bQ.nil|refine bQ.cons ?_ ?_|exact Sub.refl _|(rw[aB.aM];exact Sub.refl _)|exact Sub.cK rfl rfl rfl|exact Sub.ip (bF aA) aS|exact Sub.cK (bF aA) rfl rfl|exact Sub.ip bU aS|exact Sub.cK bU bS bS))) ?_
   simp -dsimp -implicitDefEqProofs only[go_sem,↓reduceIte,Tryz.f157]
   refine⟨k+1,?_⟩
   repeat'(with_reducible refine And.intro ?_ ?_)
   all_goals try(rw[IntWalk.i64_in _ aA];first|rfl|omega)
   all_goals try omega
   all_goals try(repeat'(with_reducible first|exact Heap.le_refl _|refine(aW gH).2 ?_))
   all_goals try(simp only[aB.aM];done)
   all_goals(rw[h1];unfold wV;split <;> split <;> omega)
 ·have hk':k=x.aO.length:=by omega
  subst hk'
  rw[aB.aM x]
  simp -dsimp -implicitDefEqProofs only[go_sem,↓reduceIte,Tryz.f157,cN]
  rw[show 1+x.aO.length+((x.aO.take x.aO.length).map aB.s).sum=x.s+1 by omega]
  exact λ_=>rfl
theorem aKE (x:aB) (left:Int) (h0:0<=left) (h9:left<=4294967296) (hs:x.s<=4294967296):dQ Tryz.prog 157 [.ip 5 [x.c] 0 0,I left] (I (wV left (x.s+1))) :=
 aXC x left h0 h9 hs λy hy left h0 h9=>aKE y left h0 h9 a9D
termination_by SizeOf.sizeOf x
decreasing_by exact aB.u6 hy
theorem aXD (a b:Int):dQ Tryz.prog 223 [I a,I b] (I (max a b)):=by
 refine dI 10 bP1 cG b9 Tryz.func223 λh=>?_
 simp -dsimp -implicitDefEqProofs only[go_sem,↓reduceIte,Tryz.f223]
 repeat'(with_reducible first|intro _|refine And.intro ?_ ?_)
 all_goals omega
theorem aT4 (x:aB) (hs:x.s<=4294967296) (hc:∀ y∈x.aO,dQ Tryz.prog 193 [.ip 5 [y.c] 0 0] (I (y.d:Int))):dQ Tryz.prog 193 [.ip 5 [x.c] 0 0] (I (x.d:Int)):=by
 have hd:=x.bS5
 rw[aB.bZF]at hd ⊢
 rw[aB.aM x]
 refine dI 25 aD6 cG b9 Tryz.func193 λh=>?_
 simp -dsimp -implicitDefEqProofs only[go_sem,↓reduceIte,Tryz.f193]
 repeat'(with_reducible first|intro _|refine And.intro ?_ ?_)
 refine cY aD6 cG b9 (λk:Nat=>[(0,.ip 5 [x.c] 0 0),(3,I (aB.dL (x.aO.take k):Int)),(4,I k)]) (λ_=>h) (λk=>k<=x.aO.length) (λk=>x.aO.length-k) 0 (by simp[dT,dB,Heap.le_refl,aB.aM,aB.dL]) ?_
 intro k hk
 rw[aB.aM x]
 rcases cP k x.aO.length with hlt|hge
 ·have h1:=aB.aXB hlt
  simp -dsimp -implicitDefEqProofs only[go_sem,↓reduceIte,Tryz.f193]
  repeat'(with_reducible first|intro _|refine And.intro ?_ ?_)
  all_goals try omega
  first|refine aE.mk ((hc x.aO[k] (dG hlt)).sub (by repeat'(first|exact bQ.nil|refine bQ.cons ?_ ?_|exact Sub.refl _|(rw[aB.aM];exact Sub.refl _)|exact Sub.cK rfl rfl rfl|exact Sub.ip (bF aA) aS|exact Sub.cK (bF aA) rfl rfl|exact Sub.ip bU aS|exact Sub.cK bU bS bS))) ?_|refine aH.mk ((hc x.aO[k] (dG hlt)).sub (by repeat'(first|exact bQ.nil|refine bQ.cons ?_ ?_|exact Sub.refl _|(rw[aB.aM];exact Sub.refl _)|exact Sub.cK rfl rfl rfl|exact Sub.ip (bF aA) aS|exact Sub.cK (bF aA) rfl rfl|exact Sub.ip bU aS|exact Sub.cK bU bS bS))) ?_
  simp -dsimp -implicitDefEqProofs only[go_sem,↓reduceIte,Tryz.f193]
  first|refine aH.mk (aXD _ _) ?_|refine aE.mk (aXD _ _) ?_|refine aH.b7 (aXD _ _) ?_|refine aE.mk (bX.eA (aXD _ _)) ?_
  simp -dsimp -implicitDefEqProofs only[go_sem,↓reduceIte,Tryz.f193]
  refine⟨k+1,?_⟩
  repeat'(with_reducible refine And.intro ?_ ?_)
  all_goals try(rw[IntWalk.i64_in _ aA];first|rfl|omega)
  all_goals try omega
  all_goals try(repeat'(with_reducible first|exact Heap.le_refl _|refine(aW gH).2 ?_))
  all_goals try(simp only[aB.aM];done)
 ·have hk':k=x.aO.length:=by omega
  subst hk'
  simp -dsimp -implicitDefEqProofs only[go_sem,↓reduceIte,Tryz.f193,cN]
  intro _
  rw[eL,IntWalk.i64_in _ aA];omega
theorem aRF (x:aB) (hs:x.s<=4294967296):dQ Tryz.prog 193 [.ip 5 [x.c] 0 0] (I (x.d:Int)) :=
 aT4 x hs λy hy=>aRF y a9D
termination_by SizeOf.sizeOf x
decreasing_by exact aB.u6 hy
def jH (k:Int):Int:=if k=1∨k=2 then 0 else if k=3∨k=4∨k=5∨k=6∨k=9 then 2 else if k=7 then 1 else if k=8 then 3 else -1
def sH (p:aK) (e:aB) (vars funcs:Int):Prop :=
 if e.bH=10∨e.bH=11 then
  0<=e.cC/\e.cC<=funcs-1/\∀ f,p.aJ[e.cC.toNat]?=some f ->
   0<=e.dO/\e.dO<=(f.bB.length:Int)-1/\(e.aO.length:Int)=f.bV/\(e.bH=10->e.dF=0)/\(e.bH=11->0<=e.dF/\e.dF<=8/\(f.bB.length:Int)=f.bV)
 else jH e.bH=e.aO.length/\e.dO=0/\e.dF=0/\(e.bH=1->nJ e.cC)/\(e.bH=2->0<=e.cC/\e.cC<=vars-1)/\(e.bH≠1->e.bH≠2->e.cC=0)
noncomputable instance (p:aK) (e:aB) (vars funcs:Int):Decidable (sH p e vars funcs):=Classical.propDecidable _
def oY (kind:Int) (i:Nat) (vars:Int):Int:=if kind=9/\i=1 then vars+1 else vars
mutual
def aB.ok (p:aK) (funcs:Int):aB->Int->Prop
 | .mk a b c d kids,vars=>sH p (.mk a b c d kids) vars funcs/\aB.okL p funcs a kids 0 vars
def aB.okL (p:aK) (funcs:Int) (kind:Int):List aB->Nat->Int->Prop
 | [],_,_=>True
 |x::l,i,vars=>x.ok p funcs (oY kind i vars)/\aB.okL p funcs kind l (i+1) vars
end
noncomputable instance (p:aK) (funcs:Int) (e:aB) (vars:Int):Decidable (e.ok p funcs vars):=Classical.propDecidable _
theorem aB.bAN (p:aK) (funcs kind:Int):∀ (l:List aB) (i:Nat) (vars:Int),aB.okL p funcs kind l i vars↔∀ (k:Nat) (h:k<l.length),l[k].ok p funcs (oY kind (i+k) vars)
 | [],i,vars=>by simp[aB.okL]
 |x::l,i,vars=>by
  rw[aB.okL,aB.bAN p funcs kind l (i+1) vars]
  constructor
  ·rintro⟨h1,h2⟩ k hk
   cases k with
   |zero=>exact h1
   |succ k=>have:=h2 k a0I;rw[show i+1+k=i+(k+1)by omega]at this;exact this
  ·intro h
   refine⟨h 0 aS,λk hk=>?_⟩
   have:=h (k+1) a0I
   rw[show i+1+k=i+(k+1)by omega];exact this
theorem aB.fG (p:aK) (funcs:Int) (x:aB) (vars:Int):x.ok p funcs vars↔sH p x vars funcs/\∀ (k:Nat) (h:k<x.aO.length),x.aO[k].ok p funcs (oY x.bH k vars):=by
 cases x with
 |mk a b c d kids =>
  rw[aB.ok,aB.bAN]
  simp only[al4,aB.aO,aB.bH]
theorem aK.aRG (p:aK):p.aJ.length<=p.s:=by rw[p.fQ,fF];omega
theorem aK.aRH {p:aK} {f:aX} (h:f∈p.aJ):f.s+p.aJ.length<=p.s:=by
 have:=k6 aX.s h
 rw[p.fQ,fF];omega
theorem aX.aRI (f:aX):f.bB.length<=f.s:=by rw[f.fQ,fF];omega
theorem aX.bQC {f:aX} {e:aB} (h:e∈f.bB):e.s<f.s:=by
 have:=k6 aB.s h
 have:=List.length_pos_of_mem h
 rw[f.fQ,fF];omega
@[go_sem] def bL2:List Nat:=[0,2,3,4,7,13,15]
theorem aOW (k:Int):dQ Tryz.prog 247 [I k] (I (jH k)):=by
 refine dI 17 bL2 cG b9 Tryz.func247 λh=>?_
 simp -dsimp -implicitDefEqProofs only[go_sem,↓reduceIte,Tryz.f247]
 repeat'(with_reducible first|intro _|refine And.intro ?_ ?_)
 all_goals try(first|(simp[jH, *];done)|omega|(grind[jH])|(simp[jH];omega))
theorem wZ {p:aK} {e:aB} {vars funcs:Int} (hk:e.bH=10∨e.bH=11) {f:aX} (ef:p.aJ[e.cC.toNat]?=some f):sH p e vars funcs ↔
  0<=e.cC/\e.cC<=funcs-1/\0<=e.dO/\e.dO<=(f.bB.length:Int)-1/\(e.aO.length:Int)=f.bV/\(e.bH=10->e.dF=0)/\(e.bH=11->0<=e.dF/\e.dF<=8/\(f.bB.length:Int)=f.bV):=by
 unfold sH
 rw[if_pos hk]
 simp[ef]
theorem aKF {p:aK} {e:aB} {vars funcs:Int} (hk:e.bH=10∨e.bH=11) (hr:¬(0<=e.cC/\e.cC<=funcs-1)):¬sH p e vars funcs:=by
 unfold sH
 rw[if_pos hk]
 intro h
 exact hr ⟨h.1,h.2.1⟩
theorem gW {p:aK} {e:aB} {vars funcs:Int} (hk:¬(e.bH=10∨e.bH=11)):sH p e vars funcs ↔
  jH e.bH=e.aO.length/\e.dO=0/\e.dF=0/\(e.bH=1->nJ e.cC)/\(e.bH=2->0<=e.cC/\e.cC<=vars-1)/\(e.bH≠1->e.bH≠2->e.cC=0):=by
 unfold sH
 rw[if_neg hk]
@[go_sem] def aXE:List Nat:=[0,1,2,3,8,9,21,29,62,67,114,118,119,126]
@[go_sem] def bHD:Marks:=λid=>match id with|4=>([],(.op 0 (.op 1 (.op 2 (.op 3 (.op 4 (.op 5 (.op 6 (.op 7 (.op 8 (.op 9 .nil)))))))))),[])|5=>([],(.op 0 (.op 1 (.op 2 (.op 3 (.op 4 (.op 5 (.op 6 (.op 7 (.op 8 (.op 9 (.op 10 (.op 11 (.op 12 (.op 13 (.op 14 (.op 15 (.op 16 (.op 17 (.op 18 (.op 19 (.op 20 (.op 21 (.op 22 (.op 23 .nil)))))))))))))))))))))))),[])|9=>([],(.op 0 (.op 1 (.op 2 (.op 3 (.op 4 (.op 5 (.op 6 (.op 7 (.op 8 (.op 9 (.op 10 (.op 11 (.op 12 (.op 13 (.op 14 (.op 15 (.op 16 (.op 17 .nil)))))))))))))))))),[])|10=>([],(.op 0 (.op 1 (.op 2 (.op 3 (.op 4 (.op 5 (.op 6 (.op 7 (.op 8 (.op 9 (.op 10 (.op 11 (.op 12 (.op 13 (.op 14 (.op 15 (.op 16 (.op 17 (.op 18 (.op 19 (.op 20 (.op 21 (.op 22 (.op 23 (.op 24 .nil))))))))))))))))))))))))),[])|_=>([],.nil,[])
theorem bAO (p:aK) (e:aB) (vars funcs:Int) (hv:0<=vars) (hv2:vars<=4294967296) (gJ:0<=funcs) (hf:funcs<=p.aJ.length) (hps:p.s<=4294967296):dQ Tryz.prog 224 [.ip 1 [p.c] 0 0,.ip 5 [e.c] 0 0,I vars,I funcs] (.bool (decide (sH p e vars funcs))):=by
 have hl:=p.aRG
 have e1:IntKind.i64.wrap (funcs-1)=funcs-1:=IntWalk.i64_in _ aA
 have e2:IntKind.i64.wrap (vars-1)=vars-1:=IntWalk.i64_in _ aA
 rw[aB.aM]
 simp only[aK.aM]
 by_cases hk:e.bH=10∨e.bH=11
 ·by_cases hr:0<=e.cC/\e.cC<=funcs-1
  ·obtain⟨f,ef⟩:∃ f,p.aJ[e.cC.toNat]?=some f:=⟨_,b6 aA⟩
   have hn:=wZ (vars:=vars) (funcs:=funcs) hk ef
   have hfs:=aK.aRH (rS ef)
   have hos:=f.aRI
   refine dI 140 aXE cG bHD Tryz.func224 λh=>?_
   simp -dsimp -implicitDefEqProofs only[go_sem,↓reduceIte,Tryz.f224,e1,e2]
   repeat'(with_reducible first|intro _|refine And.intro ?_ ?_)
   all_goals try omega
   all_goals(first|refine aH.mk (eI e.cC 0 (funcs-1)) ?_|refine aE.mk (eI e.cC 0 (funcs-1)) ?_)
   all_goals simp -dsimp -implicitDefEqProofs only[go_sem,↓reduceIte,Tryz.f224,ef,aX.aM]
   all_goals repeat'(with_reducible first|intro _|refine And.intro ?_ ?_)
   all_goals try omega
   all_goals try simp(disch:=omega) only[IntWalk.i64_in]
   all_goals(first|refine aH.mk (eI e.dO 0 (f.bB.length-1)) ?_|refine aE.mk (eI e.dO 0 (f.bB.length-1)) ?_)
   all_goals simp -dsimp -implicitDefEqProofs only[go_sem,↓reduceIte,Tryz.f224,ef,aX.aM]
   all_goals repeat'(with_reducible first|intro _|refine And.intro ?_ ?_)
   all_goals try omega
   all_goals try(first|(simp[*];done)|omega|grind)
   first|refine aH.mk (eI e.dF 0 8) ?_|refine aE.mk (eI e.dF 0 8) ?_|refine aH.b7 (eI e.dF 0 8) ?_|refine aE.mk (bX.eA (eI e.dF 0 8)) ?_
   simp -dsimp -implicitDefEqProofs only[go_sem,↓reduceIte,Tryz.f224,ef,aX.aM]
   repeat'(with_reducible first|intro _|refine And.intro ?_ ?_)
   all_goals try(first|(simp[*];done)|omega|grind)
  ·have hn:=aKF (p:=p) (vars:=vars) hk hr
   refine dI 140 aXE cG bHD Tryz.func224 λh=>?_
   simp -dsimp -implicitDefEqProofs only[go_sem,↓reduceIte,Tryz.f224,e1,e2]
   repeat'(with_reducible first|intro _|refine And.intro ?_ ?_)
   all_goals try omega
   all_goals(first|refine aH.mk (eI e.cC 0 (funcs-1)) ?_|refine aE.mk (eI e.cC 0 (funcs-1)) ?_)
   all_goals simp -dsimp -implicitDefEqProofs only[go_sem,↓reduceIte,Tryz.f224]
   all_goals repeat'(with_reducible first|intro _|refine And.intro ?_ ?_)
   all_goals try(first|(simp[*];done)|omega|grind)
 ·have hn:=gW (p:=p) (vars:=vars) (funcs:=funcs) hk
  refine dI 140 aXE cG bHD Tryz.func224 λh=>?_
  simp -dsimp -implicitDefEqProofs only[go_sem,↓reduceIte,Tryz.f224,e1,e2]
  repeat'(with_reducible first|intro _|refine And.intro ?_ ?_)
  all_goals try omega
  first|refine aH.mk (aOW e.bH) ?_|refine aE.mk (aOW e.bH) ?_|refine aH.b7 (aOW e.bH) ?_|refine aE.mk (bX.eA (aOW e.bH)) ?_
  simp -dsimp -implicitDefEqProofs only[go_sem,↓reduceIte,Tryz.f224]
  repeat'(with_reducible first|intro _|refine And.intro ?_ ?_)
  all_goals try(first|(simp[*];done)|omega|grind)
  ·first|refine aH.mk (mT e.cC) ?_|refine aE.mk (mT e.cC) ?_|refine aH.b7 (mT e.cC) ?_|refine aE.mk (bX.eA (mT e.cC)) ?_
   simp -dsimp -implicitDefEqProofs only[go_sem,↓reduceIte,Tryz.f224]
   all_goals try(first|(simp[*];done)|omega|grind)
  ·all_goals try simp(disch:=omega) only[IntWalk.i64_in]
   first|refine aH.mk (eI e.cC 0 (vars-1)) ?_|refine aE.mk (eI e.cC 0 (vars-1)) ?_|refine aH.b7 (eI e.cC 0 (vars-1)) ?_|refine aE.mk (bX.eA (eI e.cC 0 (vars-1))) ?_
   simp -dsimp -implicitDefEqProofs only[go_sem,↓reduceIte,Tryz.f224]
   all_goals try(first|(simp[*];done)|omega|grind)
@[go_sem] def aAM:List Nat:=[0,1,2,3,4,6,7,8,9,10,11,12,25,26,38,52,68,69,81,82,94,95,104,125,152,154,155,156,157,168,175]
@[go_sem] def aNX:List Nat:=[3,4]
@[go_sem] def bAP:List Nat:=[0,1,2,3,8,9,10,16,23,35,48]
theorem aXF (p:aK) (e:aB) (vars funcs:Int) (hv:0<=vars) (hv2:vars+e.s<=4294967296) (gJ:0<=funcs) (hf:funcs<=p.aJ.length) (hps:p.s<=4294967296)
  (hc:∀ y∈e.aO,∀ vars:Int,0<=vars->vars+y.s<=4294967296->dQ Tryz.prog 194 [.ip 1 [p.c] 0 0,.ip 5 [y.c] 0 0,I vars,I funcs] (.bool (decide (y.ok p funcs vars)))) :
  dQ Tryz.prog 194 [.ip 1 [p.c] 0 0,.ip 5 [e.c] 0 0,I vars,I funcs] (.bool (decide (e.ok p funcs vars))):=by
 have hok:=aB.fG p funcs e vars
 simp only[aB.aM,aK.aM]
 refine dI 49 bAP cG b9 Tryz.func194 λh=>?_
 simp -dsimp -implicitDefEqProofs only[go_sem,↓reduceIte,Tryz.f194]
 first|refine aE.mk ((bAO p e vars funcs hv aA gJ hf hps).sub (by repeat'(first|exact bQ.nil|refine bQ.cons ?_ ?_|exact Sub.refl _|(rw[aB.aM];exact Sub.refl _)|exact Sub.cK rfl rfl rfl|exact Sub.ip (bF aA) aS|exact Sub.cK (bF aA) rfl rfl|exact Sub.ip bU aS|exact Sub.cK bU bS bS))) ?_|refine aH.mk ((bAO p e vars funcs hv aA gJ hf hps).sub (by repeat'(first|exact bQ.nil|refine bQ.cons ?_ ?_|exact Sub.refl _|(rw[aB.aM];exact Sub.refl _)|exact Sub.cK rfl rfl rfl|exact Sub.ip (bF aA) aS|exact Sub.cK (bF aA) rfl rfl|exact Sub.ip bU aS|exact Sub.cK bU bS bS))) ?_
 simp -dsimp -implicitDefEqProofs only[go_sem,↓reduceIte,Tryz.f194]
 repeat'(with_reducible first|intro _|refine And.intro ?_ ?_)
 ·rename_i hn
  exact(decide_eq_false λq=>hn (hok.1 q).1).symm
 ·rename_i hn
  refine cY bAP cG b9 (λk:Nat=>[(0,.ip 1 [p.c] 0 0),(1,.ip 5 [e.c] 0 0),(2,I vars),(3,I funcs),(9,I k)]) (λ_=>h) (λk=>k<=e.aO.length/\∀ (j:Nat) (hj:j<e.aO.length),j<k->e.aO[j].ok p funcs (oY e.bH j vars)) (λk=>e.aO.length-k) 0 (by simp[dT,dB,Heap.le_refl,aB.aM,aK.aM]) ?_
  intro k ⟨hk,hp⟩
  simp only[aB.aM,aK.aM]
  rcases cP k e.aO.length with hlt|hge
  ·have rH:=aB.a0C (dG hlt)
   have nx (q:e.aO[k].ok p funcs (oY e.bH k vars)):∀ (j:Nat) (hj:j<e.aO.length),j<k+1->e.aO[j].ok p funcs (oY e.bH j vars):=by
    intro j hj hjk
    rcases aEE.1 hjk with h1|rfl
    ·exact hp j hj h1
    ·exact q
   have no (q:¬e.aO[k].ok p funcs (oY e.bH k vars)):false=decide (e.ok p funcs vars):=(decide_eq_false λz=>q ((hok.1 z).2 k hlt)).symm
   simp -dsimp -implicitDefEqProofs only[go_sem,↓reduceIte,Tryz.f194]
   repeat'(with_reducible first|intro _|refine And.intro ?_ ?_)
   all_goals try omega
   ·have em:oY e.bH k vars=vars+1:=if_pos ⟨by assumption,by omega⟩
    rw[em]at nx no
    all_goals try simp(disch:=omega) only[IntWalk.i64_in]
    first|refine aE.mk ((hc e.aO[k] (dG hlt) (vars+1) aA aA).sub (by repeat'(first|exact bQ.nil|refine bQ.cons ?_ ?_|exact Sub.refl _|(rw[aB.aM];exact Sub.refl _)|exact Sub.cK rfl rfl rfl|exact Sub.ip (bF aA) aS|exact Sub.cK (bF aA) rfl rfl|exact Sub.ip bU aS|exact Sub.cK bU bS bS))) ?_|refine aH.mk ((hc e.aO[k] (dG hlt) (vars+1) aA aA).sub (by repeat'(first|exact bQ.nil|refine bQ.cons ?_ ?_|exact Sub.refl _|(rw[aB.aM];exact Sub.refl _)|exact Sub.cK rfl rfl rfl|exact Sub.ip (bF aA) aS|exact Sub.cK (bF aA) rfl rfl|exact Sub.ip bU aS|exact Sub.cK bU bS bS))) ?_
    simp -dsimp -implicitDefEqProofs only[go_sem,↓reduceIte,Tryz.f194]
    repeat'(with_reducible first|intro _|refine And.intro ?_ ?_)
    ·exact no gB
    ·refine⟨k+1,?_⟩
     repeat'(with_reducible refine And.intro ?_ ?_)
     all_goals try(rw[IntWalk.i64_in _ aA];first|rfl|omega)
     all_goals try omega
     all_goals try(repeat'(with_reducible first|exact Heap.le_refl _|refine(aW gH).2 ?_))
     all_goals try(simp only[aB.aM,aK.aM];done)
     exact nx gB
   all_goals
    have em:oY e.bH k vars=vars:=if_neg aA
    rw[em]at nx no
    first|refine aE.mk ((hc e.aO[k] (dG hlt) vars aA aA).sub (by repeat'(first|exact bQ.nil|refine bQ.cons ?_ ?_|exact Sub.refl _|(rw[aB.aM];exact Sub.refl _)|exact Sub.cK rfl rfl rfl|exact Sub.ip (bF aA) aS|exact Sub.cK (bF aA) rfl rfl|exact Sub.ip bU aS|exact Sub.cK bU bS bS))) ?_|refine aH.mk ((hc e.aO[k] (dG hlt) vars aA aA).sub (by repeat'(first|exact bQ.nil|refine bQ.cons ?_ ?_|exact Sub.refl _|(rw[aB.aM];exact Sub.refl _)|exact Sub.cK rfl rfl rfl|exact Sub.ip (bF aA) aS|exact Sub.cK (bF aA) rfl rfl|exact Sub.ip bU aS|exact Sub.cK bU bS bS))) ?_
    simp -dsimp -implicitDefEqProofs only[go_sem,↓reduceIte,Tryz.f194]
    repeat'(with_reducible first|intro _|refine And.intro ?_ ?_)
    ·exact no gB
    ·refine⟨k+1,?_⟩
     repeat'(with_reducible refine And.intro ?_ ?_)
     all_goals try(rw[IntWalk.i64_in _ aA];first|rfl|omega)
     all_goals try omega
     all_goals try(repeat'(with_reducible first|exact Heap.le_refl _|refine(aW gH).2 ?_))
     all_goals try(simp only[aB.aM,aK.aM];done)
     exact nx gB
  ·have hk':k=e.aO.length:=by omega
   subst hk'
   simp -dsimp -implicitDefEqProofs only[go_sem,↓reduceIte,Tryz.f194,cN]
   exact λ_=>(decide_eq_true (hok.2 ⟨hn,λj hj=>hp j hj hj⟩)).symm
theorem aXG (p:aK) (e:aB) (vars funcs:Int) (hv:0<=vars) (hv2:vars+e.s<=4294967296) (gJ:0<=funcs) (hf:funcs<=p.aJ.length) (hps:p.s<=4294967296) :
  dQ Tryz.prog 194 [.ip 1 [p.c] 0 0,.ip 5 [e.c] 0 0,I vars,I funcs] (.bool (decide (e.ok p funcs vars))) :=
 aXF p e vars funcs hv hv2 gJ hf hps λy hy vars hv hv2=>aXG p y vars funcs hv hv2 gJ hf hps
termination_by SizeOf.sizeOf e
decreasing_by exact aB.u6 hy
set_option maxHeartbeats 8000000 in
theorem aRJ (p:aK) (e:aB) (vars funcs:Int) (hv:0<=vars) (hv2:vars+e.s<=4294967296) (gJ:0<=funcs) (hf:funcs<=p.aJ.length) (hps:p.s<=4294967296)
  (hc:∀ y∈e.aO,∀ vars:Int,0<=vars->vars+y.s<=4294967296->dQ Tryz.prog 203 [.agg [cI 3 aX.c p.aJ,I funcs],.agg y.c,I vars] (.bool (decide (y.ok p funcs vars)))) (hk:¬(e.bH=10∨e.bH=11)) :
  dQ Tryz.prog 203 [.agg [cI 3 aX.c p.aJ,I funcs],.agg e.c,I vars] (.bool (decide (e.ok p funcs vars))):=by
 have hok:=aB.fG p funcs e vars
 have hl:=p.aRG
 have e1:IntKind.i64.wrap (funcs-1)=funcs-1:=IntWalk.i64_in _ aA
 have e2:IntKind.i64.wrap (vars-1)=vars-1:=IntWalk.i64_in _ aA
 simp only[aB.aM]
 have no1 (hk:¬(e.bH=10∨e.bH=11)) (q:¬(jH e.bH=e.aO.length/\e.dO=0/\e.dF=0/\(e.bH=1->nJ e.cC)/\(e.bH=2->0<=e.cC/\e.cC<=vars-1)/\(e.bH≠1->e.bH≠2->e.cC=0))):false=decide (e.ok p funcs vars) :=
  (decide_eq_false λz=>q ((gW hk).1 (hok.1 z).1)).symm
 have bZH (hk:¬(e.bH=10∨e.bH=11)) (q:jH e.bH=e.aO.length/\e.dO=0/\e.dF=0/\(e.bH=1->nJ e.cC)/\(e.bH=2->0<=e.cC/\e.cC<=vars-1)/\(e.bH≠1->e.bH≠2->e.cC=0)):sH p e vars funcs:=(gW hk).2 q
 refine dI 177 aAM aNX b9 Tryz.func203 λh=>?_
 simp(maxSteps:=1000000) -dsimp -implicitDefEqProofs only[go_sem,↓reduceIte,Tryz.f203,e1,e2]
 repeat'(with_reducible first|intro _|refine And.intro ?_ ?_)
 all_goals try omega
 all_goals try(refine no1 aA ?_;simp only[jH];grind)
 ·first|refine aH.mk (pA e.cC) ?_|refine aE.mk (pA e.cC) ?_|refine aH.b7 (pA e.cC) ?_|refine aE.mk (bX.eA (pA e.cC)) ?_
  simp(maxSteps:=1000000) -dsimp -implicitDefEqProofs only[go_sem,↓reduceIte,Tryz.f203]
  rw[decide_eq_decide,hok,gW hk]
  have:e.aO.length=0:=by omega
  constructor
  ·intro q
   exact⟨by simp only[jH];grind,λk hk=>by omega⟩
  ·intro q
   grind
 ·first|refine aH.mk (within e.cC 0 (vars-1)) ?_|refine aE.mk (within e.cC 0 (vars-1)) ?_|refine aH.b7 (within e.cC 0 (vars-1)) ?_|refine aE.mk (bX.eA (within e.cC 0 (vars-1))) ?_
  simp(maxSteps:=1000000) -dsimp -implicitDefEqProofs only[go_sem,↓reduceIte,Tryz.f203]
  rw[decide_eq_decide,hok,gW hk]
  have:e.aO.length=0:=by omega
  constructor
  ·intro q
   exact⟨by simp only[jH];grind,λk hk=>by omega⟩
  ·intro q
   grind
 all_goals
  have hn:=bZH hk (by simp only[jH];grind)
  clear no1 bZH
  refine cY aAM aNX b9 (λk:Nat=>[(2,I vars),(3,.ip 2 [[cI 3 aX.c p.aJ,I funcs]] 0 0),(4,.ip 5 [e.c] 0 0),(154,cI 5 aB.c e.aO),(155,I e.aO.length),(156,I k)]) (λ_=>h) (λk=>k<=e.aO.length/\∀ (j:Nat) (hj:j<e.aO.length),j<k->e.aO[j].ok p funcs (oY e.bH j vars)) (λk=>e.aO.length-k) 0 (by refine⟨by simp[dT,dB,aB.aM],by repeat'(with_reducible first|exact Heap.le_refl _|refine(aW gH).2 ?_),by simp⟩) ?_
  intro k ⟨hk,hp⟩
  simp only[aB.aM]
  rcases cP k e.aO.length with hlt|hge
  ·have rH:=aB.a0C (dG hlt)
   have nx (q:e.aO[k].ok p funcs (oY e.bH k vars)):∀ (j:Nat) (hj:j<e.aO.length),j<k+1->e.aO[j].ok p funcs (oY e.bH j vars):=by
    intro j hj hjk
    rcases aEE.1 hjk with h1|rfl
    ·exact hp j hj h1
    ·exact q
   have no (q:¬e.aO[k].ok p funcs (oY e.bH k vars)):false=decide (e.ok p funcs vars):=(decide_eq_false λz=>q ((hok.1 z).2 k hlt)).symm
   have ea:e.aO[k]?=some e.aO[k]:=b6 hlt
   rcases Decidable.em (e.bH=9/\k=1)with e9|e9
   ·have em:oY e.bH k vars=vars+1:=if_pos e9
    rw[em]at nx no
    have hcy:=hc e.aO[k] (dG hlt) (vars+1) aA aA
    simp only[aB.aM]at hcy
    simp(maxSteps:=1000000) -dsimp -implicitDefEqProofs only[go_sem,↓reduceIte,Tryz.f203,ea,aB.aM,aF]
    repeat'(with_reducible first|intro _|refine And.intro ?_ ?_)
    all_goals try omega
    all_goals try simp(disch:=omega) only[IntWalk.i64_in]
    all_goals(first|refine aH.mk (hcy) ?_|refine aE.mk (hcy) ?_)
    all_goals simp(maxSteps:=1000000) -dsimp -implicitDefEqProofs only[go_sem,↓reduceIte,Tryz.f203]
    all_goals repeat'(with_reducible first|intro _|refine And.intro ?_ ?_)
    all_goals first|exact no gB|exact Heap.le_refl _|skip
    all_goals try(exact(aW gB).2 (Heap.le_refl _))
    all_goals
     refine⟨k+1,?_⟩
     repeat'(with_reducible refine And.intro ?_ ?_)
     all_goals try(rw[IntWalk.i64_in _ aA];first|rfl|omega)
     all_goals try omega
     all_goals try(repeat'(with_reducible first|exact Heap.le_refl _|refine(aW gH).2 ?_))
     all_goals try(simp only[aB.aM];done)
     exact nx gB
   ·have em:oY e.bH k vars=vars:=if_neg e9
    rw[em]at nx no
    have hcy:=hc e.aO[k] (dG hlt) vars aA aA
    simp only[aB.aM]at hcy
    simp(maxSteps:=1000000) -dsimp -implicitDefEqProofs only[go_sem,↓reduceIte,Tryz.f203,ea,aB.aM,aF]
    repeat'(with_reducible first|intro _|refine And.intro ?_ ?_)
    all_goals try omega
    all_goals(first|refine aH.mk (hcy) ?_|refine aE.mk (hcy) ?_)
    all_goals simp(maxSteps:=1000000) -dsimp -implicitDefEqProofs only[go_sem,↓reduceIte,Tryz.f203]
    all_goals repeat'(with_reducible first|intro _|refine And.intro ?_ ?_)
    all_goals first|exact no gB|exact Heap.le_refl _|skip
    all_goals try(exact(aW gB).2 (Heap.le_refl _))
    all_goals
     refine⟨k+1,?_⟩
     repeat'(with_reducible refine And.intro ?_ ?_)
     all_goals try(rw[IntWalk.i64_in _ aA];first|rfl|omega)
     all_goals try omega
     all_goals try(repeat'(with_reducible first|exact Heap.le_refl _|refine(aW gH).2 ?_))
     all_goals try(simp only[aB.aM];done)
     exact nx gB
  ·have hk':k=e.aO.length:=by omega
   subst hk'
   simp(maxSteps:=1000000) -dsimp -implicitDefEqProofs only[go_sem,↓reduceIte,Tryz.f203,cN]
   exact(decide_eq_true (hok.2 ⟨hn,λj hj=>hp j hj hj⟩)).symm
theorem aKG {p:aK} {e:aB} {vars funcs:Int} {f:aX} (hk:e.bH=10∨e.bH=11) (ef:p.aJ[e.cC.toNat]?=some f)
  (q:¬(0<=e.dO/\e.dO<=(f.bB.length:Int)-1/\(e.aO.length:Int)=f.bV/\(e.bH=10->e.dF=0)/\(e.bH=11->0<=e.dF/\e.dF<=8/\(f.bB.length:Int)=f.bV))):false=decide (e.ok p funcs vars) :=
 (decide_eq_false λz=>q ((wZ hk ef).1 ((aB.fG _ _ _ _).1 z).1).2.2).symm
theorem a1Z {p:aK} {e:aB} {vars funcs:Int} (hk:e.bH=10∨e.bH=11) (q:¬(0<=e.cC/\e.cC<=funcs-1)):false=decide (e.ok p funcs vars) :=
 (decide_eq_false λz=>aKF hk q ((aB.fG _ _ _ _).1 z).1).symm
set_option maxHeartbeats 8000000 in
theorem a10 (p:aK) (e:aB) (vars funcs:Int) (hv:0<=vars) (hv2:vars+e.s<=4294967296) (gJ:0<=funcs) (hf:funcs<=p.aJ.length) (hps:p.s<=4294967296)
  (hc:∀ y∈e.aO,∀ vars:Int,0<=vars->vars+y.s<=4294967296->dQ Tryz.prog 203 [.agg [cI 3 aX.c p.aJ,I funcs],.agg y.c,I vars] (.bool (decide (y.ok p funcs vars)))) (hk:e.bH=10) :
  dQ Tryz.prog 203 [.agg [cI 3 aX.c p.aJ,I funcs],.agg e.c,I vars] (.bool (decide (e.ok p funcs vars))):=by
 have hl:=p.aRG
 have e1:IntKind.i64.wrap (funcs-1)=funcs-1:=IntWalk.i64_in _ aA
 simp only[aB.aM]
 by_cases hr:0<=e.cC/\e.cC<=funcs-1
 ·obtain⟨f,ef⟩:∃ f,p.aJ[e.cC.toNat]?=some f:=⟨_,b6 aA⟩
  have hfs:=aK.aRH (rS ef)
  have hos:=f.aRI
  have e3:IntKind.i64.wrap ((f.bB.length:Int)-1)=f.bB.length-1:=IntWalk.i64_in _ aA
  refine dI 177 aAM aNX b9 Tryz.func203 λh=>?_
  simp -dsimp -implicitDefEqProofs only[go_sem,↓reduceIte,Tryz.f203,e1,e3,hk]
  repeat'(with_reducible first|intro _|refine And.intro ?_ ?_)
  all_goals try omega
  all_goals(first|refine aH.mk (within e.cC 0 (funcs-1)) ?_|refine aE.mk (within e.cC 0 (funcs-1)) ?_)
  all_goals simp -dsimp -implicitDefEqProofs only[go_sem,↓reduceIte,Tryz.f203,ef,aX.aM,aF,hk,e3]
  all_goals repeat'(with_reducible first|intro _|refine And.intro ?_ ?_)
  all_goals try omega
  all_goals try(refine aKG aA ef ?_;omega)
  all_goals try(repeat'(with_reducible first|exact Heap.le_refl _|refine(aW gH).2 ?_))
  all_goals(first|refine aH.mk (within e.dO 0 (f.bB.length-1)) ?_|refine aE.mk (within e.dO 0 (f.bB.length-1)) ?_)
  all_goals simp -dsimp -implicitDefEqProofs only[go_sem,↓reduceIte,Tryz.f203,ef,aX.aM,aF,hk]
  all_goals repeat'(with_reducible first|intro _|refine And.intro ?_ ?_)
  all_goals try omega
  all_goals try(refine aKG aA ef ?_;omega)
  all_goals try(repeat'(with_reducible first|exact Heap.le_refl _|refine(aW gH).2 ?_))
  all_goals
   have hn:sH p e vars funcs:=(wZ aA ef).2 aA
   have hok:=aB.fG p funcs e vars
   clear hr hfs hos ef
   refine cY aAM aNX b9 (λk:Nat=>[(2,I vars),(3,.ip 2 [[cI 3 aX.c p.aJ,I funcs]] 0 0),(4,.ip 5 [e.c] 0 0),(154,cI 5 aB.c e.aO),(155,I e.aO.length),(156,I k)]) (λ_=>h) (λk=>k<=e.aO.length/\∀ (j:Nat) (hj:j<e.aO.length),j<k->e.aO[j].ok p funcs vars) (λk=>e.aO.length-k) 0 (by refine⟨by simp[dT,dB,aB.aM,hk],by repeat'(with_reducible first|exact Heap.le_refl _|refine(aW gH).2 ?_),by simp⟩) ?_
   intro k ⟨hk',hp⟩
   simp only[aB.aM]
   rcases cP k e.aO.length with hlt|hge
   ·have rH:=aB.a0C (dG hlt)
    have nx (q:e.aO[k].ok p funcs vars):∀ (j:Nat) (hj:j<e.aO.length),j<k+1->e.aO[j].ok p funcs vars:=by
     intro j hj hjk
     rcases aEE.1 hjk with h1|rfl
     ·exact hp j hj h1
     ·exact q
    have no (q:¬e.aO[k].ok p funcs vars):false=decide (e.ok p funcs vars):=(decide_eq_false λz=>q bOU).symm
    have ea:e.aO[k]?=some e.aO[k]:=b6 hlt
    have hcy:=hc e.aO[k] (dG hlt) vars aA aA
    simp only[aB.aM]at hcy
    simp -dsimp -implicitDefEqProofs only[go_sem,↓reduceIte,Tryz.f203,ea,aB.aM,aF,hk]
    repeat'(with_reducible first|intro _|refine And.intro ?_ ?_)
    all_goals try omega
    first|refine aH.mk (hcy) ?_|refine aE.mk (hcy) ?_|refine aH.b7 (hcy) ?_|refine aE.mk (bX.eA (hcy)) ?_
    simp -dsimp -implicitDefEqProofs only[go_sem,↓reduceIte,Tryz.f203]
    repeat'(with_reducible first|intro _|refine And.intro ?_ ?_)
    all_goals first|exact no gB|skip
    all_goals try(repeat'(with_reducible first|exact Heap.le_refl _|refine(aW gH).2 ?_))
    refine⟨k+1,?_⟩
    repeat'(with_reducible refine And.intro ?_ ?_)
    all_goals try(rw[IntWalk.i64_in _ aA];first|rfl|omega)
    all_goals try omega
    all_goals try(repeat'(with_reducible first|exact Heap.le_refl _|refine(aW gH).2 ?_))
    all_goals try(simp only[aB.aM,hk];done)
    exact nx gB
   ·have hk'':k=e.aO.length:=by omega
    subst hk''
    simp -dsimp -implicitDefEqProofs only[go_sem,↓reduceIte,Tryz.f203,cN]
    exact(decide_eq_true (hok.2 ⟨hn,λj hj=>by rw[show oY e.bH j vars=vars from if_neg aA];exact hp j hj hj⟩)).symm
 ·refine dI 177 aAM aNX b9 Tryz.func203 λh=>?_
  simp -dsimp -implicitDefEqProofs only[go_sem,↓reduceIte,Tryz.f203,e1,hk]
  repeat'(with_reducible first|intro _|refine And.intro ?_ ?_)
  all_goals try omega
  all_goals(first|refine aH.mk (within e.cC 0 (funcs-1)) ?_|refine aE.mk (within e.cC 0 (funcs-1)) ?_)
  all_goals simp -dsimp -implicitDefEqProofs only[go_sem,↓reduceIte,Tryz.f203]
  all_goals repeat'(with_reducible first|intro _|refine And.intro ?_ ?_)
  all_goals try omega
  all_goals exact a1Z aA hr
set_option maxHeartbeats 8000000 in
theorem a11 (p:aK) (e:aB) (vars funcs:Int) (hv:0<=vars) (hv2:vars+e.s<=4294967296) (gJ:0<=funcs) (hf:funcs<=p.aJ.length) (hps:p.s<=4294967296)
  (hc:∀ y∈e.aO,∀ vars:Int,0<=vars->vars+y.s<=4294967296->dQ Tryz.prog 203 [.agg [cI 3 aX.c p.aJ,I funcs],.agg y.c,I vars] (.bool (decide (y.ok p funcs vars)))) (hk:e.bH=11) :
  dQ Tryz.prog 203 [.agg [cI 3 aX.c p.aJ,I funcs],.agg e.c,I vars] (.bool (decide (e.ok p funcs vars))):=by
 have hl:=p.aRG
 have e1:IntKind.i64.wrap (funcs-1)=funcs-1:=IntWalk.i64_in _ aA
 simp only[aB.aM]
 by_cases hr:0<=e.cC/\e.cC<=funcs-1
 ·obtain⟨f,ef⟩:∃ f,p.aJ[e.cC.toNat]?=some f:=⟨_,b6 aA⟩
  have hfs:=aK.aRH (rS ef)
  have hos:=f.aRI
  have e3:IntKind.i64.wrap ((f.bB.length:Int)-1)=f.bB.length-1:=IntWalk.i64_in _ aA
  refine dI 177 aAM aNX b9 Tryz.func203 λh=>?_
  simp -dsimp -implicitDefEqProofs only[go_sem,↓reduceIte,Tryz.f203,e1,e3,hk]
  repeat'(with_reducible first|intro _|refine And.intro ?_ ?_)
  all_goals try omega
  all_goals(first|refine aH.mk (within e.cC 0 (funcs-1)) ?_|refine aE.mk (within e.cC 0 (funcs-1)) ?_)
  all_goals simp -dsimp -implicitDefEqProofs only[go_sem,↓reduceIte,Tryz.f203,ef,aX.aM,aF,hk,e3]
  all_goals repeat'(with_reducible first|intro _|refine And.intro ?_ ?_)
  all_goals try omega
  all_goals try(refine aKG aA ef ?_;omega)
  all_goals try(repeat'(with_reducible first|exact Heap.le_refl _|refine(aW gH).2 ?_))
  all_goals(first|refine aH.mk (within e.dO 0 (f.bB.length-1)) ?_|refine aE.mk (within e.dO 0 (f.bB.length-1)) ?_)
  all_goals simp -dsimp -implicitDefEqProofs only[go_sem,↓reduceIte,Tryz.f203,ef,aX.aM,aF,hk]
  all_goals repeat'(with_reducible first|intro _|refine And.intro ?_ ?_)
  all_goals try omega
  all_goals try(refine aKG aA ef ?_;omega)
  all_goals try(repeat'(with_reducible first|exact Heap.le_refl _|refine(aW gH).2 ?_))
  all_goals(first|refine aH.mk (within e.dF 0 8) ?_|refine aE.mk (within e.dF 0 8) ?_)
  all_goals simp -dsimp -implicitDefEqProofs only[go_sem,↓reduceIte,Tryz.f203,aF,hk]
  all_goals repeat'(with_reducible first|intro _|refine And.intro ?_ ?_)
  all_goals try(refine aKG aA ef ?_;omega)
  all_goals try(repeat'(with_reducible first|exact Heap.le_refl _|refine(aW gH).2 ?_))
  all_goals
   have hn:sH p e vars funcs:=(wZ aA ef).2 aA
   have hok:=aB.fG p funcs e vars
   clear hr hfs hos ef
   refine cY aAM aNX b9 (λk:Nat=>[(2,I vars),(3,.ip 2 [[cI 3 aX.c p.aJ,I funcs]] 0 0),(4,.ip 5 [e.c] 0 0),(154,cI 5 aB.c e.aO),(155,I e.aO.length),(156,I k)]) (λ_=>h) (λk=>k<=e.aO.length/\∀ (j:Nat) (hj:j<e.aO.length),j<k->e.aO[j].ok p funcs vars) (λk=>e.aO.length-k) 0 (by refine⟨by simp[dT,dB,aB.aM,hk],by repeat'(with_reducible first|exact Heap.le_refl _|refine(aW gH).2 ?_),by simp⟩) ?_
   intro k ⟨hk',hp⟩
   simp only[aB.aM]
   rcases cP k e.aO.length with hlt|hge
   ·have rH:=aB.a0C (dG hlt)
    have nx (q:e.aO[k].ok p funcs vars):∀ (j:Nat) (hj:j<e.aO.length),j<k+1->e.aO[j].ok p funcs vars:=by
     intro j hj hjk
     rcases aEE.1 hjk with h1|rfl
     ·exact hp j hj h1
     ·exact q
    have no (q:¬e.aO[k].ok p funcs vars):false=decide (e.ok p funcs vars):=(decide_eq_false λz=>q bOU).symm
    have ea:e.aO[k]?=some e.aO[k]:=b6 hlt
    have hcy:=hc e.aO[k] (dG hlt) vars aA aA
    simp only[aB.aM]at hcy
    simp -dsimp -implicitDefEqProofs only[go_sem,↓reduceIte,Tryz.f203,ea,aB.aM,aF,hk]
    repeat'(with_reducible first|intro _|refine And.intro ?_ ?_)
    all_goals try omega
    first|refine aH.mk (hcy) ?_|refine aE.mk (hcy) ?_|refine aH.b7 (hcy) ?_|refine aE.mk (bX.eA (hcy)) ?_
    simp -dsimp -implicitDefEqProofs only[go_sem,↓reduceIte,Tryz.f203]
    repeat'(with_reducible first|intro _|refine And.intro ?_ ?_)
    all_goals first|exact no gB|skip
    all_goals try(repeat'(with_reducible first|exact Heap.le_refl _|refine(aW gH).2 ?_))
    refine⟨k+1,?_⟩
    repeat'(with_reducible refine And.intro ?_ ?_)
    all_goals try(rw[IntWalk.i64_in _ aA];first|rfl|omega)
    all_goals try omega
    all_goals try(repeat'(with_reducible first|exact Heap.le_refl _|refine(aW gH).2 ?_))
    all_goals try(simp only[aB.aM,hk];done)
    exact nx gB
   ·have hk'':k=e.aO.length:=by omega
    subst hk''
    simp -dsimp -implicitDefEqProofs only[go_sem,↓reduceIte,Tryz.f203,cN]
    exact(decide_eq_true (hok.2 ⟨hn,λj hj=>by rw[show oY e.bH j vars=vars from if_neg aA];exact hp j hj hj⟩)).symm
 ·refine dI 177 aAM aNX b9 Tryz.func203 λh=>?_
  simp -dsimp -implicitDefEqProofs only[go_sem,↓reduceIte,Tryz.f203,e1,hk]
  repeat'(with_reducible first|intro _|refine And.intro ?_ ?_)
  all_goals try omega
  all_goals(first|refine aH.mk (within e.cC 0 (funcs-1)) ?_|refine aE.mk (within e.cC 0 (funcs-1)) ?_)
  all_goals simp -dsimp -implicitDefEqProofs only[go_sem,↓reduceIte,Tryz.f203]
  all_goals repeat'(with_reducible first|intro _|refine And.intro ?_ ?_)
  all_goals try omega
  all_goals exact a1Z aA hr
theorem aKH (p:aK) (e:aB) (vars funcs:Int) (hv:0<=vars) (hv2:vars+e.s<=4294967296) (gJ:0<=funcs) (hf:funcs<=p.aJ.length) (hps:p.s<=4294967296) :
  dQ Tryz.prog 203 [.agg [cI 3 aX.c p.aJ,I funcs],.agg e.c,I vars] (.bool (decide (e.ok p funcs vars))):=by
 by_cases h1:e.bH=10
 ·exact a10 p e vars funcs hv hv2 gJ hf hps (λy hy vars hv hv2=>aKH p y vars funcs hv hv2 gJ hf hps) h1
 ·by_cases h2:e.bH=11
  ·exact a11 p e vars funcs hv hv2 gJ hf hps (λy hy vars hv hv2=>aKH p y vars funcs hv hv2 gJ hf hps) h2
  ·exact aRJ p e vars funcs hv hv2 gJ hf hps (λy hy vars hv hv2=>aKH p y vars funcs hv hv2 gJ hf hps) (λq=>q.elim h1 h2)
termination_by SizeOf.sizeOf e
decreasing_by all_goals exact aB.u6 hy
def oB (p:aK) (e:aB) (vars funcs:Int):Prop:=(0<=vars/\vars<=412)/\(0<=funcs/\funcs<=p.aJ.length)/\(e.s:Int)+1<=400/\(e.d:Int)<=60/\e.ok p funcs vars
noncomputable instance (p:aK) (e:aB) (vars funcs:Int):Decidable (oB p e vars funcs):=Classical.propDecidable _
def aFH (p:aK) (k:Nat) (f:aX):Prop:=aHO f.fT/\(0<=f.bV/\f.bV<=12)/\(1<=(f.bB.length:Int)/\(f.bB.length:Int)<=12)/\(∀ g∈p.aJ.take k,g.fT≠f.fT)/\(rR aB.s f.bB:Int)<=400/\∀ e∈f.bB,oB p e f.bV k
noncomputable instance (p:aK) (k:Nat) (f:aX):Decidable (aFH p k f):=Classical.propDecidable _
def aK.ok (p:aK):Prop:=(p.aJ.length:Int)<=16/\∀ (k:Nat) (f:aX),p.aJ[k]?=some f->aFH p k f
noncomputable instance (p:aK):Decidable p.ok:=Classical.propDecidable _
theorem aOX (n:Int):dQ Tryz.prog 192 [I n] (.bool (decide (0<=n/\n<=412))):=by
 refine dI 5 aL3 cG b9 Tryz.func192 λh=>?_
 simp -dsimp -implicitDefEqProofs only[go_sem,↓reduceIte,Tryz.f192]
 first|refine aH.mk (eI n 0 412) ?_|refine aE.mk (eI n 0 412) ?_|refine aH.b7 (eI n 0 412) ?_|refine aE.mk (bX.eA (eI n 0 412)) ?_
 simp -dsimp -implicitDefEqProofs only[go_sem,↓reduceIte,Tryz.f192]
theorem aOY (n:Int):dQ Tryz.prog 201 [I n] (.bool (decide (0<=n/\n<=412))):=by
 refine dI 5 aL3 cG b9 Tryz.func201 λh=>?_
 simp -dsimp -implicitDefEqProofs only[go_sem,↓reduceIte,Tryz.f201]
 first|refine aH.mk (within n 0 412) ?_|refine aE.mk (within n 0 412) ?_|refine aH.b7 (within n 0 412) ?_|refine aE.mk (bX.eA (within n 0 412)) ?_
 simp -dsimp -implicitDefEqProofs only[go_sem,↓reduceIte,Tryz.f201]
theorem aRK {left:Int} {n:Nat}:0<=wV left n↔(n:Int)<=left:=by
 unfold wV;split <;> omega
@[go_sem] def bL3:List Nat:=[0,1,2,3,8]
theorem bAQ (p:aK) (e:aB) (vars funcs:Int) (hs:e.s<=4294966296) (hps:p.s<=4294967296):dQ Tryz.prog 158 [.ip 1 [p.c] 0 0,.ip 5 [e.c] 0 0,I vars,I funcs] (.bool (decide (oB p e vars funcs))):=by
 simp only[aK.aM]
 refine dI 37 bL3 cG b9 Tryz.func158 λh=>?_
 simp -dsimp -implicitDefEqProofs only[go_sem,↓reduceIte,Tryz.f158]
 first|refine aH.mk (aOX vars) ?_|refine aE.mk (aOX vars) ?_|refine aH.b7 (aOX vars) ?_|refine aE.mk (bX.eA (aOX vars)) ?_
 simp -dsimp -implicitDefEqProofs only[go_sem,↓reduceIte,Tryz.f158]
 repeat'(with_reducible first|intro _|refine And.intro ?_ ?_)
 all_goals try(first|(simp[oB, *];done)|omega|(grind[oB])|(simp[oB];omega))
 first|refine aH.mk (eI funcs 0 p.aJ.length) ?_|refine aE.mk (eI funcs 0 p.aJ.length) ?_|refine aH.b7 (eI funcs 0 p.aJ.length) ?_|refine aE.mk (bX.eA (eI funcs 0 p.aJ.length)) ?_
 simp -dsimp -implicitDefEqProofs only[go_sem,↓reduceIte,Tryz.f158]
 repeat'(with_reducible first|intro _|refine And.intro ?_ ?_)
 all_goals try(first|(simp[oB, *];done)|omega|(grind[oB])|(simp[oB];omega))
 first|refine aE.mk ((aKE e 400 aA aA aA).sub (by repeat'(first|exact bQ.nil|refine bQ.cons ?_ ?_|exact Sub.refl _|(rw[aB.aM];exact Sub.refl _)|exact Sub.cK rfl rfl rfl|exact Sub.ip (bF aA) aS|exact Sub.cK (bF aA) rfl rfl|exact Sub.ip bU aS|exact Sub.cK bU bS bS))) ?_|refine aH.mk ((aKE e 400 aA aA aA).sub (by repeat'(first|exact bQ.nil|refine bQ.cons ?_ ?_|exact Sub.refl _|(rw[aB.aM];exact Sub.refl _)|exact Sub.cK rfl rfl rfl|exact Sub.ip (bF aA) aS|exact Sub.cK (bF aA) rfl rfl|exact Sub.ip bU aS|exact Sub.cK bU bS bS))) ?_
 simp -dsimp -implicitDefEqProofs only[go_sem,↓reduceIte,Tryz.f158]
 repeat'(with_reducible first|intro _|refine And.intro ?_ ?_)
 ·have hle:((e.s+1:Nat):Int)<=400:=aRK.1 gB
  first|refine aE.mk ((aRF e aA).sub (by repeat'(first|exact bQ.nil|refine bQ.cons ?_ ?_|exact Sub.refl _|(rw[aB.aM];exact Sub.refl _)|exact Sub.cK rfl rfl rfl|exact Sub.ip (bF aA) aS|exact Sub.cK (bF aA) rfl rfl|exact Sub.ip bU aS|exact Sub.cK bU bS bS))) ?_|refine aH.mk ((aRF e aA).sub (by repeat'(first|exact bQ.nil|refine bQ.cons ?_ ?_|exact Sub.refl _|(rw[aB.aM];exact Sub.refl _)|exact Sub.cK rfl rfl rfl|exact Sub.ip (bF aA) aS|exact Sub.cK (bF aA) rfl rfl|exact Sub.ip bU aS|exact Sub.cK bU bS bS))) ?_
  simp -dsimp -implicitDefEqProofs only[go_sem,↓reduceIte,Tryz.f158]
  repeat'(with_reducible first|intro _|refine And.intro ?_ ?_)
  ·first|refine aE.mk ((aXG p e vars funcs aA aA aA aA hps).sub (by repeat'(first|exact bQ.nil|refine bQ.cons ?_ ?_|exact Sub.refl _|(rw[aB.aM];exact Sub.refl _)|exact Sub.cK rfl rfl rfl|exact Sub.ip (bF aA) aS|exact Sub.cK (bF aA) rfl rfl|exact Sub.ip bU aS|exact Sub.cK bU bS bS))) ?_|refine aH.mk ((aXG p e vars funcs aA aA aA aA hps).sub (by repeat'(first|exact bQ.nil|refine bQ.cons ?_ ?_|exact Sub.refl _|(rw[aB.aM];exact Sub.refl _)|exact Sub.cK rfl rfl rfl|exact Sub.ip (bF aA) aS|exact Sub.cK (bF aA) rfl rfl|exact Sub.ip bU aS|exact Sub.cK bU bS bS))) ?_
   simp -dsimp -implicitDefEqProofs only[go_sem,↓reduceIte,Tryz.f158]
   rw[decide_eq_decide]
   exact⟨λq=>⟨by omega,by omega,by omega,by omega,q⟩,λq=>q.2.2.2.2⟩
  ·exact(decide_eq_false λq=>by have:=q.2.2.2.1;omega).symm
 ·rename_i hn
  exact(decide_eq_false λq=>hn (aRK.2 (by have:=q.2.2.1;omega))).symm
@[go_sem] def bL4:List Nat:=[0,1,2,3,4,5,8]
@[go_sem] def bZI:List Nat:=[4,5]
theorem bDN (p:aK) (e:aB) (vars funcs:Int) (hs:e.s<=4294966296) (hps:p.s<=4294967296):dQ Tryz.prog 169 [.agg p.c,.agg e.c,I vars,I funcs] (.bool (decide (oB p e vars funcs))):=by
 have h1:=aRD e aA
 have h2:=aVC e aA
 simp only[aB.aM]at h1 h2
 simp only[aK.aM,aB.aM]
 refine dI 36 bL4 bZI b9 Tryz.func169 λh=>?_
 simp -dsimp -implicitDefEqProofs only[go_sem,↓reduceIte,Tryz.f169]
 first|refine aH.mk (aOY vars) ?_|refine aE.mk (aOY vars) ?_|refine aH.b7 (aOY vars) ?_|refine aE.mk (bX.eA (aOY vars)) ?_
 simp -dsimp -implicitDefEqProofs only[go_sem,↓reduceIte,Tryz.f169]
 repeat'(with_reducible first|intro _|refine And.intro ?_ ?_)
 all_goals try(first|(simp[oB, *];done)|omega|(grind[oB])|(simp[oB];omega))
 first|refine aH.mk (within funcs 0 p.aJ.length) ?_|refine aE.mk (within funcs 0 p.aJ.length) ?_|refine aH.b7 (within funcs 0 p.aJ.length) ?_|refine aE.mk (bX.eA (within funcs 0 p.aJ.length)) ?_
 simp -dsimp -implicitDefEqProofs only[go_sem,↓reduceIte,Tryz.f169]
 repeat'(with_reducible first|intro _|refine And.intro ?_ ?_)
 all_goals try(first|(simp[oB, *];done)|omega|(grind[oB])|(simp[oB];omega))
 first|refine aH.mk (h1) ?_|refine aE.mk (h1) ?_|refine aH.b7 (h1) ?_|refine aE.mk (bX.eA (h1)) ?_
 simp -dsimp -implicitDefEqProofs only[go_sem,↓reduceIte,Tryz.f169]
 repeat'(with_reducible first|intro _|refine And.intro ?_ ?_)
 ·first|refine aH.mk (h2) ?_|refine aE.mk (h2) ?_|refine aH.b7 (h2) ?_|refine aE.mk (bX.eA (h2)) ?_
  simp -dsimp -implicitDefEqProofs only[go_sem,↓reduceIte,Tryz.f169]
  repeat'(with_reducible first|intro _|refine And.intro ?_ ?_)
  ·have h3:=aKH p e vars funcs aA aA aA aA hps
   simp only[aB.aM]at h3
   first|refine aH.mk (h3) ?_|refine aE.mk (h3) ?_|refine aH.b7 (h3) ?_|refine aE.mk (bX.eA (h3)) ?_
   simp -dsimp -implicitDefEqProofs only[go_sem,↓reduceIte,Tryz.f169]
   rw[decide_eq_decide]
   exact⟨λq=>⟨by omega,by omega,by omega,by omega,q⟩,λq=>q.2.2.2.2⟩
  ·exact(decide_eq_false λq=>by have:=q.2.2.2.1;omega).symm
 ·exact(decide_eq_false λq=>by have:=q.2.2.1;omega).symm
@[go_sem] def aXH:List Nat:=[0,1,4,5,6,7,8,37,40,55,62,90]
@[go_sem] def bHE:Marks:=λid=>match id with|7=>([],(.op 0 (.op 1 (.op 2 (.op 3 (.op 4 (.op 5 (.op 6 (.op 7 (.op 8 (.op 9 (.op 10 (.op 11 (.op 12 .nil))))))))))))),[])|14=>([],(.op 0 (.op 1 (.op 2 (.op 3 (.op 4 (.op 5 (.op 6 (.op 7 (.op 8 (.op 9 (.op 10 (.op 11 (.op 12 (.op 13 (.op 14 (.op 15 (.op 16 (.op 17 .nil)))))))))))))))))),[])|_=>([],.nil,[])
theorem bAR (p:aK) (k:Nat) (f:aX) (ef:p.aJ[k]?=some f) (hps:p.s<=4194304):dQ Tryz.prog 111 [.ip 1 [p.c] 0 0,I k] (.bool (decide (aFH p k f))):=by
 have hk:k<p.aJ.length:=(mU.1 ef).1
 have hfs:=aK.aRH (rS ef)
 have hl:=p.aRG
 have hos:=f.aRI
 simp only[aK.aM]
 have no (q:¬(aHO f.fT/\(0<=f.bV/\f.bV<=12)/\(1<=(f.bB.length:Int)/\(f.bB.length:Int)<=12))):false=decide (aFH p k f):=(decide_eq_false λz=>q ⟨z.1,z.2.1,z.2.2.1⟩).symm
 refine dI 91 aXH cG bHE Tryz.func111 λh=>?_
 simp -dsimp -implicitDefEqProofs only[go_sem,↓reduceIte,Tryz.f111,ef,aX.aM,wQ]
 repeat'(with_reducible first|intro _|refine And.intro ?_ ?_)
 all_goals try omega
 first|refine aH.mk (aDE f.fT) ?_|refine aE.mk (aDE f.fT) ?_|refine aH.b7 (aDE f.fT) ?_|refine aE.mk (bX.eA (aDE f.fT)) ?_
 simp -dsimp -implicitDefEqProofs only[go_sem,↓reduceIte,Tryz.f111,ef,aX.aM]
 repeat'(with_reducible first|intro _|refine And.intro ?_ ?_)
 ·first|refine aH.mk (eI f.bV 0 12) ?_|refine aE.mk (eI f.bV 0 12) ?_|refine aH.b7 (eI f.bV 0 12) ?_|refine aE.mk (bX.eA (eI f.bV 0 12)) ?_
  simp -dsimp -implicitDefEqProofs only[go_sem,↓reduceIte,Tryz.f111,ef,aX.aM]
  repeat'(with_reducible first|intro _|refine And.intro ?_ ?_)
  ·first|refine aH.mk (eI f.bB.length 1 12) ?_|refine aE.mk (eI f.bB.length 1 12) ?_|refine aH.b7 (eI f.bB.length 1 12) ?_|refine aE.mk (bX.eA (eI f.bB.length 1 12)) ?_
   simp -dsimp -implicitDefEqProofs only[go_sem,↓reduceIte,Tryz.f111,ef,aX.aM]
   repeat'(with_reducible first|intro _|refine And.intro ?_ ?_)
   ·exact no λz=>by simp_all
   ·rename_i q1 q2 q3
    refine cY aXH cG bHE (λj:Nat=>[(0,.ip 1 [p.c] 0 0),(1,I k),(5,.ip 3 (p.aJ.map aX.c) k 0),(6,I j)]) (λ_=>h) (λj=>j<=k/\∀ g∈p.aJ.take j,g.fT≠f.fT) (λj=>k-j) 0 (by refine⟨by simp[dT,dB,aK.aM],by repeat'(with_reducible first|exact Heap.le_refl _|refine(aW gH).2 ?_),by simp⟩) ?_
    intro j ⟨hj,hp⟩
    simp only[aK.aM]
    rcases cP j k with hlt|hge
    ·have eg:p.aJ[j]?=some p.aJ[j]:=b6 aA
     simp -dsimp -implicitDefEqProofs only[go_sem,↓reduceIte,Tryz.f111,ef,eg,aX.aM,wQ]
     repeat'(with_reducible first|intro _|refine And.intro ?_ ?_)
     all_goals try omega
     ·rename_i he
      refine(decide_eq_false λz=>z.2.2.2.1 p.aJ[j] ?_ he).symm
      exact List.mem_take_iff_getElem.2 ⟨j,by omega,rfl⟩
     ·rename_i he
      refine⟨j+1,?_⟩
      repeat'(with_reducible refine And.intro ?_ ?_)
      all_goals try(rw[IntWalk.i64_in _ aA];first|rfl|omega)
      all_goals try omega
      all_goals try(repeat'(with_reducible first|exact Heap.le_refl _|refine(aW gH).2 ?_))
      all_goals try(simp only[aK.aM];done)
      exact iY (P:=λg:aX=>g.fT≠f.fT) aA hp he
    ·have hj':j=k:=by omega
     rw[hj']at hp
     simp -dsimp -implicitDefEqProofs only[go_sem,↓reduceIte,Tryz.f111,hj',fP]
     have part (i:Nat) (hi:i<f.bB.length):i+((f.bB.take i).map aB.s).sum+f.bB[i].s+1<=rR aB.s f.bB:=by
      have h1:=gS aB.s f.bB i hi
      have h2:=lT aB.s f.bB (i+1)
      rw[fF];omega
     have hszs:rR aB.s f.bB<=f.s:=by rw[f.fQ];omega
     refine cY aXH cG bHE (λi:Nat=>[(0,.ip 1 [p.c] 0 0),(1,I k),(5,.ip 3 (p.aJ.map aX.c) k 0),(7,I (400-(i+((f.bB.take i).map aB.s).sum:Nat))),(8,I i)]) (λ_=>h) (λi=>i<=f.bB.length/\i+((f.bB.take i).map aB.s).sum<=400/\∀ e∈f.bB.take i,oB p e f.bV k) (λi=>f.bB.length-i) 0 (by refine⟨by simp[dT,dB,aK.aM],by repeat'(with_reducible first|exact Heap.le_refl _|refine(aW gH).2 ?_),by simp⟩) ?_
     intro i ⟨hi,hsum,hall⟩
     simp only[aK.aM]
     rcases cP i f.bB.length with hlt|hge
     ·have h1:=gS aB.s f.bB i hlt
      have hpt:=part i hlt
      have hout:=aX.bQC (dG hlt)
      simp -dsimp -implicitDefEqProofs only[go_sem,↓reduceIte,Tryz.f111,ef,aX.aM,wQ]
      repeat'(with_reducible first|intro _|refine And.intro ?_ ?_)
      all_goals try omega
      first|refine aE.mk ((aKE f.bB[i] (400-(i+((f.bB.take i).map aB.s).sum:Nat)) aA aA aA).sub (by repeat'(first|exact bQ.nil|refine bQ.cons ?_ ?_|exact Sub.refl _|(rw[aB.aM];exact Sub.refl _)|exact Sub.cK rfl rfl rfl|exact Sub.ip (bF aA) aS|exact Sub.cK (bF aA) rfl rfl|exact Sub.ip bU aS|exact Sub.cK bU bS bS))) ?_|refine aH.mk ((aKE f.bB[i] (400-(i+((f.bB.take i).map aB.s).sum:Nat)) aA aA aA).sub (by repeat'(first|exact bQ.nil|refine bQ.cons ?_ ?_|exact Sub.refl _|(rw[aB.aM];exact Sub.refl _)|exact Sub.cK rfl rfl rfl|exact Sub.ip (bF aA) aS|exact Sub.cK (bF aA) rfl rfl|exact Sub.ip bU aS|exact Sub.cK bU bS bS))) ?_
      simp -dsimp -implicitDefEqProofs only[go_sem,↓reduceIte,Tryz.f111,ef,aX.aM]
      rcases mS (400-(i+((f.bB.take i).map aB.s).sum:Nat)) (f.bB[i].s+1)with⟨e,hl1⟩|⟨e,hl1⟩
      ·simp -dsimp -implicitDefEqProofs only[go_sem,↓reduceIte,Tryz.f111,e]
       repeat'(with_reducible first|intro _|refine And.intro ?_ ?_)
       all_goals try omega
       all_goals exact(decide_eq_false λz=>by have:=z.2.2.2.2.1;omega).symm
      ·simp -dsimp -implicitDefEqProofs only[go_sem,↓reduceIte,Tryz.f111,e]
       repeat'(with_reducible first|intro _|refine And.intro ?_ ?_)
       all_goals try omega
       first|refine aE.mk ((bAQ p f.bB[i] f.bV k aA aA).sub (by repeat'(first|exact bQ.nil|refine bQ.cons ?_ ?_|exact Sub.refl _|(rw[aB.aM];exact Sub.refl _)|exact Sub.cK rfl rfl rfl|exact Sub.ip (bF aA) aS|exact Sub.cK (bF aA) rfl rfl|exact Sub.ip bU aS|exact Sub.cK bU bS bS))) ?_|refine aH.mk ((bAQ p f.bB[i] f.bV k aA aA).sub (by repeat'(first|exact bQ.nil|refine bQ.cons ?_ ?_|exact Sub.refl _|(rw[aB.aM];exact Sub.refl _)|exact Sub.cK rfl rfl rfl|exact Sub.ip (bF aA) aS|exact Sub.cK (bF aA) rfl rfl|exact Sub.ip bU aS|exact Sub.cK bU bS bS))) ?_
       simp -dsimp -implicitDefEqProofs only[go_sem,↓reduceIte,Tryz.f111,ef,aX.aM]
       repeat'(with_reducible first|intro _|refine And.intro ?_ ?_)
       ·rename_i hn
        exact(decide_eq_false λz=>hn (z.2.2.2.2.2 _ (dG hlt))).symm
       ·rename_i hn
        refine⟨i+1,?_⟩
        repeat'(with_reducible refine And.intro ?_ ?_)
        all_goals try(rw[IntWalk.i64_in _ aA];first|rfl|omega)
        all_goals try omega
        all_goals try(repeat'(with_reducible first|exact Heap.le_refl _|refine(aW gH).2 ?_))
        all_goals try(simp only[aK.aM];done)
        exact iY (P:=λe=>oB p e f.bV k) hlt hall hn
     ·have hi':i=f.bB.length:=by omega
      subst hi'
      rw[eL]at hsum hall
      simp -dsimp -implicitDefEqProofs only[go_sem,↓reduceIte,Tryz.f111,ef,aX.aM,cN]
      exact λ_=>(decide_eq_true ⟨by assumption,q1,q3,hp,by rw[fF];omega,hall⟩).symm
  ·exact no λz=>by simp_all
 ·exact no λz=>by simp_all
@[go_sem] def bHF:List Nat:=[0,2,3,9,16,22]
theorem bQD (p:aK) (hps:p.s<=4194304):dQ Tryz.prog 64 [.ip 1 [p.c] 0 0] (.bool (decide p.ok)):=by
 simp only[aK.aM]
 refine dI 23 bHF cG b9 Tryz.func64 λh=>?_
 simp -dsimp -implicitDefEqProofs only[go_sem,↓reduceIte,Tryz.f64]
 repeat'(with_reducible first|intro _|refine And.intro ?_ ?_)
 ·exact(decide_eq_false λz=>by have:=z.1;omega).symm
 refine cY bHF cG b9 (λk:Nat=>[(0,.ip 1 [p.c] 0 0),(3,I k)]) (λ_=>h) (λk=>k<=p.aJ.length/\∀ (j:Nat) (f:aX),j<k->p.aJ[j]?=some f->aFH p j f) (λk=>p.aJ.length-k) 0 (by refine⟨by simp[dT,dB,aK.aM],by repeat'(with_reducible first|exact Heap.le_refl _|refine(aW gH).2 ?_),by simp⟩) ?_
 intro k ⟨hk,hp⟩
 simp only[aK.aM]
 rcases cP k p.aJ.length with hlt|hge
 ·have eg:p.aJ[k]?=some p.aJ[k]:=b6 aA
  simp -dsimp -implicitDefEqProofs only[go_sem,↓reduceIte,Tryz.f64]
  repeat'(with_reducible first|intro _|refine And.intro ?_ ?_)
  all_goals try omega
  first|refine aE.mk ((bAR p k p.aJ[k] eg hps).sub (by repeat'(first|exact bQ.nil|refine bQ.cons ?_ ?_|exact Sub.refl _|(rw[aB.aM];exact Sub.refl _)|exact Sub.cK rfl rfl rfl|exact Sub.ip (bF aA) aS|exact Sub.cK (bF aA) rfl rfl|exact Sub.ip bU aS|exact Sub.cK bU bS bS))) ?_|refine aH.mk ((bAR p k p.aJ[k] eg hps).sub (by repeat'(first|exact bQ.nil|refine bQ.cons ?_ ?_|exact Sub.refl _|(rw[aB.aM];exact Sub.refl _)|exact Sub.cK rfl rfl rfl|exact Sub.ip (bF aA) aS|exact Sub.cK (bF aA) rfl rfl|exact Sub.ip bU aS|exact Sub.cK bU bS bS))) ?_
  simp -dsimp -implicitDefEqProofs only[go_sem,↓reduceIte,Tryz.f64]
  repeat'(with_reducible first|intro _|refine And.intro ?_ ?_)
  ·rename_i hn
   exact(decide_eq_false λz=>hn (z.2 k _ eg)).symm
  ·rename_i hn
   refine⟨k+1,?_⟩
   repeat'(with_reducible refine And.intro ?_ ?_)
   all_goals try(rw[IntWalk.i64_in _ aA];first|rfl|omega)
   all_goals try omega
   all_goals try(repeat'(with_reducible first|exact Heap.le_refl _|refine(aW gH).2 ?_))
   all_goals try(simp only[aK.aM];done)
   intro j f hj ej
   rcases aEE.1 hj with h1|rfl
   ·exact hp j f h1 ej
   ·rw[eg]at ej;obtain rfl:=dY ej;exact hn
 ·have hk':k=p.aJ.length:=by omega
  subst hk'
  simp -dsimp -implicitDefEqProofs only[go_sem,↓reduceIte,Tryz.f64,cN]
  exact λ_=>(decide_eq_true ⟨by omega,λj f ej=>hp j f (mU.1 ej).1 ej⟩).symm
theorem a44 (a:List aX) (p:aX->Bool) (g:FuncId) (cap:List aC) {h0:Heap} (hc:∀ x∈a,bX Tryz.prog g ([(.agg (aX.c x))]++cap) (.bool (p x)) h0):bX Tryz.prog 200 [(cI 3 aX.c a),.fn (.func g) [] cap] (I (idxOf p a)) h0:=by
 refine aGX 19 aNQ cG b9 Tryz.func200 λh hle=>?_
 simp -dsimp -implicitDefEqProofs only[go_sem,↓reduceIte,Tryz.f200,Tryz.f200]
 intro _
 refine cY aNQ cG b9 (λk:Nat=>[(0,(cI 3 aX.c a)),(1,.fn (.func g) [] cap),(7,I a.length),(8,I k)]) (λ_=>h) (λk=>k<=a.length/\∀ x∈a.take k,p x=false) (λk=>a.length-k) 0 pV ?_
 intro k ⟨hk,hp⟩
 rcases cP k a.length with hlt|hge
 ·have ea:a[k]?=some a[k]:=b6 hlt
  simp -dsimp -implicitDefEqProofs only[go_sem,↓reduceIte,Tryz.f200,Tryz.f200,ea,aX.aM]
  repeat'(with_reducible first|intro _|refine And.intro ?_ ?_)
  all_goals try omega
  have hx:=hc a[k] (dG hlt)
  simp only[aX.aM]at hx
  refine aH.b7 (hx.mono hle) ?_
  cases hpk:p a[k]with
  |true =>
   simp -dsimp -implicitDefEqProofs only[go_sem,↓reduceIte,Tryz.f200,Tryz.f200]
   repeat'(with_reducible first|intro _|refine And.intro ?_ ?_)
   all_goals first|exact(qG hlt hp hpk).symm|rfl|(rw[qG hlt hp hpk])
  |false =>
   simp -dsimp -implicitDefEqProofs only[go_sem,↓reduceIte,Tryz.f200,Tryz.f200]
   refine⟨k+1,?_⟩
   repeat'(with_reducible refine And.intro ?_ ?_)
   all_goals try(rw[IntWalk.i64_in _ aA];first|rfl|omega)
   all_goals try omega
   exact iY (P:=λx=>p x=false) hlt hp hpk
 ·have hk':k=a.length:=by omega
  subst hk'
  rw[eL]at hp
  simp -dsimp -implicitDefEqProofs only[go_sem,↓reduceIte,Tryz.f200,Tryz.f200,cN]
  all_goals first|exact(qF hp).symm|rw[qF hp]
theorem a45 (a:List aX) (p:aX->Bool) (g:FuncId) (cap:List aC) {h0:Heap} (hc:∀ x∈a,bX Tryz.prog g ([(.agg (aX.c x))]++cap) (.bool (p x)) h0):bX Tryz.prog 167 [(cI 3 aX.c a),.fn (.func g) [] cap] (.bool (a.any p)) h0:=by
 refine aGX 9 zG cG b9 Tryz.func167 λh hle=>?_
 simp -dsimp -implicitDefEqProofs only[go_sem,↓reduceIte,Tryz.f167,Tryz.f167]
 refine aH.b7 ((a44 a p g cap hc).mono hle) ?_
 simp -dsimp -implicitDefEqProofs only[go_sem,↓reduceIte,Tryz.f167,Tryz.f167]
 all_goals first|done|exact nD|rw[nD]
theorem aT5 (g f:aX) (n:Nat) {h0:Heap} (hn:h0 n=some (.row 3 [f.c.map .v])):bX Tryz.prog 168 [.agg g.c,.op n 3 0 0] (.bool (decide (g.fT=f.fT))) h0:=by
 simp only[aX.aM]
 have hg (h:Heap) (hle:h0.le h):=Heap.aE8 hle hn
 refine aGX 9 aT1 aBW b9 Tryz.func168 λh hle=>?_
 simp -dsimp -implicitDefEqProofs only[go_sem,↓reduceIte,Tryz.f168]
 have hn':=hg h hle
 simp only[aX.aM]at hn'
 simp -dsimp -implicitDefEqProofs only[go_sem,↓reduceIte,Tryz.f168,hn']
@[go_sem] def aXI:List Nat:=[0,1,2,3,4,5,7,11,13,14,15,16,31,42,44,45,46,47,56,63]
theorem aXJ (p:aK) (hps:p.s<=4194304):dQ Tryz.prog 123 [.agg p.c] (.bool (decide p.ok)):=by
 simp only[aK.aM]
 refine dI 65 aXI wE b9 Tryz.func123 λh=>?_
 simp -dsimp -implicitDefEqProofs only[go_sem,↓reduceIte,Tryz.f123]
 repeat'(with_reducible first|intro _|refine And.intro ?_ ?_)
 ·exact(decide_eq_false λz=>by have:=z.1;omega).symm
 refine cY aXI wE b9 (λk:Nat=>[(1,.ip 1 [p.c] 0 0),(13,cI 3 aX.c p.aJ),(14,I p.aJ.length),(15,I k)]) (λ_=>h) (λk=>k<=p.aJ.length/\∀ (j:Nat) (f:aX),j<k->p.aJ[j]?=some f->aFH p j f) (λk=>p.aJ.length-k) 0 (by refine⟨by simp[dT,dB,aK.aM],by repeat'(with_reducible first|exact Heap.le_refl _|refine(aW gH).2 ?_),by simp⟩) ?_
 intro k ⟨hk,hp⟩
 simp only[aK.aM]
 rcases cP k p.aJ.length with hlt|hge
 ·obtain⟨f,eg⟩:∃ f,p.aJ[k]?=some f:=⟨_,b6 hlt⟩
  have hfs:=aK.aRH (rS eg)
  have hos:=f.aRI
  have no (q:¬aFH p k f):false=decide p.ok:=(decide_eq_false λz=>q (z.2 k f eg)).symm
  simp -dsimp -implicitDefEqProofs only[go_sem,↓reduceIte,Tryz.f123,eg,aX.aM,aF]
  repeat'(with_reducible first|intro _|refine And.intro ?_ ?_)
  all_goals try omega
  rename_i n hn
  first|refine aH.mk (aXA f.fT) ?_|refine aE.mk (aXA f.fT) ?_|refine aH.b7 (aXA f.fT) ?_|refine aE.mk (bX.eA (aXA f.fT)) ?_
  simp -dsimp -implicitDefEqProofs only[go_sem,↓reduceIte,Tryz.f123,dC,aF]
  repeat'(with_reducible first|intro _|refine And.intro ?_ ?_)
  all_goals try(repeat'(with_reducible first|exact Heap.le_refl _|refine(aW gH).2 ?_))
  all_goals try omega
  all_goals try(rename_i hnm;exact no λz=>hnm z.1)
  rename_i hnm
  rw[←List.map_take]
  refine aH.b7 (a45 (p.aJ.take k) (λg=>decide (g.fT=f.fT)) 168 [.op n 3 0 0] λg _=>aT5 g f n (by simp[dC,aX.aM])) ?_
  simp -dsimp -implicitDefEqProofs only[go_sem,↓reduceIte,Tryz.f123,dC,aF]
  repeat'(with_reducible first|intro _|refine And.intro ?_ ?_)
  all_goals try(repeat'(with_reducible first|exact Heap.le_refl _|refine(aW gH).2 ?_))
  ·rename_i q
   refine no λz=>?_
   obtain⟨g,oC,hg2⟩:=bFA.1 q
   exact z.2.2.2.1 g oC (by simpa using hg2)
  rename_i hnd
  have hnd':∀ g∈p.aJ.take k,g.fT≠f.fT:=λg hg=>by
   have:=List.any_eq_false.1 hnd g hg
   simpa using this
  first|refine aH.mk (within f.bV 0 12) ?_|refine aE.mk (within f.bV 0 12) ?_|refine aH.b7 (within f.bV 0 12) ?_|refine aE.mk (bX.eA (within f.bV 0 12)) ?_
  simp -dsimp -implicitDefEqProofs only[go_sem,↓reduceIte,Tryz.f123,dC,aF]
  repeat'(with_reducible first|intro _|refine And.intro ?_ ?_)
  all_goals try(repeat'(with_reducible first|exact Heap.le_refl _|refine(aW gH).2 ?_))
  ·first|refine aH.mk (within f.bB.length 1 12) ?_|refine aE.mk (within f.bB.length 1 12) ?_|refine aH.b7 (within f.bB.length 1 12) ?_|refine aE.mk (bX.eA (within f.bB.length 1 12)) ?_
   simp -dsimp -implicitDefEqProofs only[go_sem,↓reduceIte,Tryz.f123,dC,aF]
   repeat'(with_reducible first|intro _|refine And.intro ?_ ?_)
   all_goals try(repeat'(with_reducible first|exact Heap.le_refl _|refine(aW gH).2 ?_))
   ·rename_i q
    exact no λz=>q z.2.2.1
   ·rename_i q1 q2 q3 q4
    have part (i:Nat) (hi:i<f.bB.length):i+((f.bB.take i).map aB.s).sum+f.bB[i].s+1<=rR aB.s f.bB:=by
     have h1:=gS aB.s f.bB i hi
     have h2:=lT aB.s f.bB (i+1)
     rw[fF];omega
    have hszs:rR aB.s f.bB<=f.s:=by rw[f.fQ];omega
    refine cY aXI wE b9 (λi:Nat=>[(1,.ip 1 [p.c] 0 0),(3,I k),(4,.op n 3 0 0),(5,I ((i+((f.bB.take i).map aB.s).sum:Nat):Int)),(13,cI 3 aX.c p.aJ),(14,I p.aJ.length),(15,I k),(44,cI 5 aB.c f.bB),(45,I f.bB.length),(46,I i)]) (λ_=>bT h n (.row 3 [f.c.map .v])) (λi=>i<=f.bB.length/\∀ e∈f.bB.take i,oB p e f.bV k) (λi=>f.bB.length-i) 0 (by refine⟨by simp[dT,dB,aK.aM],by simp[aX.aM,Heap.le_refl],by simp⟩) ?_
    intro i ⟨hi,hall⟩
    simp only[aK.aM,aX.aM,lU,tP]
    rcases cP i f.bB.length with aFJ|bL5
    ·have h1:=gS aB.s f.bB i aFJ
     have hpt:=part i aFJ
     have hout:=aX.bQC (dG aFJ)
     have ee:f.bB[i]?=some f.bB[i]:=b6 aFJ
     have hv:=bDN p f.bB[i] f.bV k aA aA
     have hz:=aRD f.bB[i] aA
     simp only[aB.aM,aK.aM]at hv hz
     simp -dsimp -implicitDefEqProofs only[go_sem,↓reduceIte,Tryz.f123,ee,aB.aM,aF]
     repeat'(with_reducible first|intro _|refine And.intro ?_ ?_)
     all_goals try omega
     rename_i m hm
     have hmn:(n=m)=False:=eq_false λe=>hm.1 e.symm
     have bS6:(m=n)=False:=eq_false hm.1
     simp -dsimp -implicitDefEqProofs only[go_sem,↓reduceIte,Tryz.f123,dC,hmn,bS6]
     first|refine aH.mk (hv) ?_|refine aE.mk (hv) ?_|refine aH.b7 (hv) ?_|refine aE.mk (bX.eA (hv)) ?_
     simp -dsimp -implicitDefEqProofs only[go_sem,↓reduceIte,Tryz.f123,dC,hmn,bS6]
     repeat'(with_reducible first|intro _|refine And.intro ?_ ?_)
     ·rename_i hne
      exact no λz=>hne (z.2.2.2.2.2 _ (dG aFJ))
     ·all_goals try(repeat'(with_reducible first|exact Heap.le_refl _|refine(aW gH).2 ?_))
     ·rename_i hne
      first|refine aH.mk (hz) ?_|refine aE.mk (hz) ?_|refine aH.b7 (hz) ?_|refine aE.mk (bX.eA (hz)) ?_
      simp -dsimp -implicitDefEqProofs only[go_sem,↓reduceIte,Tryz.f123,dC,hmn,bS6]
      refine⟨i+1,?_⟩
      repeat'(with_reducible refine And.intro ?_ ?_)
      all_goals try(rw[IntWalk.i64_in _ aA];first|rfl|omega)
      all_goals try omega
      all_goals try(repeat'(with_reducible first|exact Heap.le_refl _|refine(aW gH).2 ?_))
      all_goals try(simp only[aK.aM];done)
      exact iY (P:=λe=>oB p e f.bV k) aFJ hall hne
    ·have hi':i=f.bB.length:=by omega
     subst hi'
     rw[eL]at hall ⊢
     simp -dsimp -implicitDefEqProofs only[go_sem,↓reduceIte,Tryz.f123,cN]
     have hss:rR aB.s f.bB=f.bB.length+(f.bB.map aB.s).sum:=fF _ _
     repeat'(with_reducible first|intro _|refine And.intro ?_ ?_)
     all_goals try(repeat'(with_reducible first|exact Heap.le_refl _|refine(aW gH).2 ?_))
     ·rename_i q
      exact no λz=>by have:=z.2.2.2.2.1;omega
     ·rename_i q
      have hfk:aFH p k f:=⟨hnm,q1,q3,hnd',by omega,hall⟩
      refine⟨k+1,?_⟩
      repeat'(with_reducible refine And.intro ?_ ?_)
      all_goals try(rw[IntWalk.i64_in _ aA];first|rfl|omega)
      all_goals try omega
      all_goals try(repeat'(with_reducible first|exact Heap.le_refl _|refine(aW gH).2 ?_))
      intro j f' hj ej
      rcases aEE.1 hj with h1|rfl
      ·exact hp j f' h1 ej
      ·rw[eg]at ej;obtain rfl:=dY ej;exact hfk
  ·rename_i q
   exact no λz=>q z.2.1
 ·have hk':k=p.aJ.length:=by omega
  subst hk'
  simp -dsimp -implicitDefEqProofs only[go_sem,↓reduceIte,Tryz.f123,cN]
  exact(decide_eq_true ⟨by omega,λj f ej=>hp j f (mU.1 ej).1 ej⟩).symm
end Go.Hl

/-
  Contracts of functions and laws of the layer over the walk.
-/
import Derived.Test.YtajjlpophonkoaaGreatDoorVvB
namespace Go.Hl
set_option maxRecDepth 100000
open Go.Proofs
set_option linter.unusedVariables false
set_option linter.unusedSimpArgs false
theorem a86 (m:Nat) (es:List (List aC)) (x:aB):p5 m es x.c=x.c:=by rw[aB.aU];rfl
theorem aZA (m sz k:Nat) (x:aB):kQ m sz k x.c=true:=by rw[aB.aU];rfl
theorem aCP.a26 {P:Program} {N:Nat} {c:Code} {Q:Exit->bE->Heap->Prop} {τ:bE} {h:Heap} {t:Tag (c,Q)} (n:Nat) {es:List (List aC)} (hh:h n=none) (hb:τ.all (λp=>j5 n 1 es.length p.2)=true)
  (x:aCP P N c Q (τ.map λp=>(p.1,p.2.gP n es)) (aR h n .gone) ()):aCP P N c Q τ (aR h n (.row 1 (es.map (List.map .v)))) t:=by
 have y:=nV.rS (c:=c) (Q:=Q) (τ:=τ) (N:=N) (P:=P) (h:=aR h n (.row 1 (es.map (List.map .v)))) n (sz:=1) (es:=es.map (List.map .v)) (aH _ _ _) (by simpa using hb)
 rw[aJ,p8]at y
 exact y x
theorem aG.aZB {P:Program} {f:FuncId} {h:Heap} {K:aC->Heap->Prop} {t:Tag K} {nb m k len:Nat} {x:aC} {es:List (List aC)} (hx:x.gP m es=x) (hx2:j5 m 1 es.length x=true) (hne:¬nb=m) (hl:len=es.length) (hm:h m=none) (a:fH P f [.op nb k 0 0,x,.sl 1 es false] (aR h m .gone) K) :
  aG P f [.op nb k 0 0,x,.os m 1 0 len] (aR h m (.row 1 (es.map (List.map .v)))) K t:=by
 subst hl
 refine aG.a26 m (aH _ _ _) (by simp[kQ,j5,hx2,hne]) ?_
 rw[aJ,p8]
 have h1:p5 m es [.op nb k 0 0,x,.os m 1 0 es.length]=[.op nb k 0 0,x,.sl 1 es false]:=by
  simp only[p5,aC.gP,hx,if_neg hne,if_true,aUU,jG]
 rw[h1]
 exact a
theorem aG.aTN {P:Program} {f:FuncId} {h:Heap} {K:aC->Heap->Prop} {t:Tag K} {nb m k len:Nat} {e:aB} {es:List (List aC)} (hne:¬nb=m) (hl:len=es.length) (hm:h m=none) (a:fH P f [.op nb k 0 0,.agg e.c,.sl 1 es false] (aR h m .gone) K) :
  aG P f [.op nb k 0 0,.agg e.c,.os m 1 0 len] (aR h m (.row 1 (es.map (List.map .v)))) K t:=by
 subst hl
 refine aG.a26 m (aH _ _ _) (by simp[kQ,j5,aZA,hne]) ?_
 rw[aJ,p8]
 have h1:p5 m es [.op nb k 0 0,.agg e.c,.os m 1 0 es.length]=[.op nb k 0 0,.agg e.c,.sl 1 es false]:=by
  simp only[p5,aC.gP,a86,if_neg hne,if_true,aUU,jG]
 rw[h1]
 exact a
theorem sF {sz:Nat} {env:List (List Int)} {s:List Int} (he:∀ x∈env,cG sz x) (hs:cG sz s):∀ x∈env++[s],cG sz x:=λx hx=>by
 rcases mS.1 hx with hx|hx
 ·exact he x hx
 ·rw[nQ.1 hx];exact hs
theorem aLD (l:List (List Int)) (hl:l.length<=1048576):eX Tryz.prog 205 [dX l] (.sl 1 (l.map λs=>[ints s]) true):=by
 refine eJ 9 aBF cR cC Tryz.func205 λh=>?_
 simp -dsimp -implicitDefEqProofs only[go_sem,↓reduceIte,Tryz.f205]
 repeat'(with_reducible first|intro _|refine And.intro ?_ ?_)
 all_goals try omega
 rw[kC (by rw[iG];exact j4 _)]
theorem j1:fZ 0:=by unfold fZ;simp
theorem aQP {p:aF} {sz n:Nat} (hsz:1<=sz/\sz<=1048576) (h:Heap) (nb st:Nat) (c:Int) (e:aB) (env:List (List Int)) (hb:h nb=some (cZ p sz st c)) (hst:st<=3000) (hs:¬c=0∨st=3000) :
  fH Tryz.prog 179 [.op nb 4 0 0,.agg e.c,dX env] h (EvQ h nb p sz st c (gR p sz (n+1) st e env)):=by
 rw[aB.aU]
 have hb':=hb
 unfold cZ at hb'
 refine gG 210 mE uQ uR Tryz.func179 ?_
 simp -dsimp -implicitDefEqProofs only[go_sem,↓reduceIte,Tryz.f179,hb']
 refine⟨λhc=>?_,λhc=>?_⟩
 ·refine aG.eH (kK _ nb _ _ _ 0 sz hb' hsz) ?_
  rintro r h' ⟨rfl,rfl⟩
  simp -dsimp -implicitDefEqProofs only[go_sem,↓reduceIte,Tryz.f179]
  have hc':¬c=0:=by simpa using hc
  exact⟨_,_,bM _ _,_,st,c,rfl,(qA hb).symm,eD j1,j4 _,hst,by rw[pT _ hc'];exact jJ _ _ hc'⟩
 ·have hc0:c=0:=by simpa using hc
  subst hc0
  have h3:st=3000:=by rcases hs with hs|hs;exact absurd rfl hs;exact hs
  subst h3
  try simp -dsimp -implicitDefEqProofs only[go_sem,↓reduceIte,Tryz.f179,hb']
  refine⟨λ_=>?_,λq=>absurd q cK⟩
  refine aG.eH (kK _ nb _ _ _ 0 sz (aH _ _ _) hsz) ?_
  rintro r h' ⟨rfl,rfl⟩
  simp -dsimp -implicitDefEqProofs only[go_sem,↓reduceIte,Tryz.f179]
  refine⟨_,_,bM _ _,_,3000,7,rfl,rfl,eD j1,j4 _,hst,?_⟩
  rw[cJ,gR,if_pos rfl]
  exact jJ _ _ bU
theorem a3K {p:aF} (hp:p.ok) {sz n:Nat} (hsz:1<=sz/\sz<=1048576) (hv:mG p sz n) (h:Heap) (nb st:Nat) (e:aB) (env:List (List Int)) (funcs:Int) (hb:h nb=some (cZ p sz st 0)) (hst:st<3000) (hn:3001<=n+1+st)
  (hok:e.ok p funcs env.length) (eP:0<=funcs) (hf:funcs<=p.aI.length) (henv:∀ s∈env,cG sz s) (hel:env.length<=412+st) (hk:e.aN=1) :
  fH Tryz.prog 179 [.op nb 4 0 0,.agg e.c,dX env] h (EvQ h nb p sz st 0 (gR p sz (n+1) st e env)):=by
 rw[aB.aU]
 have hb':=hb
 unfold cZ at hb'
 have e3:((st:Int)=3000)=False:=eq_false aA
 have ew:IntKind.i64.wrap ((st:Int)+1)=((st+1:Nat):Int):=by rw[IntWalk.i64_in _ aA];rfl
 have hnode:=(aB.cS _ _ _ _).1 hok
 have h3:¬st=3000:=by omega
 have hnum:fZ e.aX:=((dI aA).1 hnode.1).2.2.2.1 hk
 refine gG 210 mE uQ uR Tryz.func179 ?_
 simp -dsimp -implicitDefEqProofs only[go_sem,↓reduceIte,Tryz.f179,hb',e3,ew,hk]
 refine aG.eH (kK _ nb _ _ _ e.aX sz (aH _ _ _) hsz) ?_
 rintro r h' ⟨rfl,rfl⟩
 simp -dsimp -implicitDefEqProofs only[go_sem,↓reduceIte,Tryz.f179]
 refine⟨_,_,bM _ _,_,st+1,0,rfl,rfl,eD hnum,mZ _,hst,?_⟩
 rw[cJ,aOD h3 hk]
 exact j0 _ _
theorem a3L {p:aF} (hp:p.ok) {sz n:Nat} (hsz:1<=sz/\sz<=1048576) (hv:mG p sz n) (h:Heap) (nb st:Nat) (e:aB) (env:List (List Int)) (funcs:Int) (hb:h nb=some (cZ p sz st 0)) (hst:st<3000) (hn:3001<=n+1+st)
  (hok:e.ok p funcs env.length) (eP:0<=funcs) (hf:funcs<=p.aI.length) (henv:∀ s∈env,cG sz s) (hel:env.length<=412+st) (hk:e.aN=2) :
  fH Tryz.prog 179 [.op nb 4 0 0,.agg e.c,dX env] h (EvQ h nb p sz st 0 (gR p sz (n+1) st e env)):=by
 rw[aB.aU]
 have hb':=hb
 unfold cZ at hb'
 have e3:((st:Int)=3000)=False:=eq_false aA
 have ew:IntKind.i64.wrap ((st:Int)+1)=((st+1:Nat):Int):=by rw[IntWalk.i64_in _ aA];rfl
 have hnode:=(aB.cS _ _ _ _).1 hok
 have h3:¬st=3000:=by omega
 have hnum:=((dI aA).1 hnode.1).2.2.2.2.1 hk
 have hlt:e.aX.toNat<env.length:=by omega
 refine gG 210 mE uQ uR Tryz.func179 ?_
 simp -dsimp -implicitDefEqProofs only[go_sem,↓reduceIte,Tryz.f179,hb',e3,ew,hk,jP hlt]
 refine⟨hnum.1,by omega,_,_,bM _ _,_,st+1,0,rfl,rfl,gW henv hlt,mZ _,hst,?_⟩
 rw[cJ,aOE h3 hk]
 exact j0 _ _
theorem a3M {p:aF} (hp:p.ok) {sz n:Nat} (hsz:1<=sz/\sz<=1048576) (hv:mG p sz n) (h:Heap) (nb st:Nat) (e:aB) (env:List (List Int)) (funcs:Int) (hb:h nb=some (cZ p sz st 0)) (hst:st<3000) (hn:3001<=n+1+st)
  (hok:e.ok p funcs env.length) (eP:0<=funcs) (hf:funcs<=p.aI.length) (henv:∀ s∈env,cG sz s) (hel:env.length<=412+st) (hk:e.aN=8) :
  fH Tryz.prog 179 [.op nb 4 0 0,.agg e.c,dX env] h (EvQ h nb p sz st 0 (gR p sz (n+1) st e env)):=by
 rw[aB.aU]
 have hb':=hb
 unfold cZ at hb'
 have e3:((st:Int)=3000)=False:=eq_false aA
 have ew:IntKind.i64.wrap ((st:Int)+1)=((st+1:Nat):Int):=by rw[IntWalk.i64_in _ aA];rfl
 have hnode:=(aB.cS _ _ _ _).1 hok
 have h3:¬st=3000:=by omega
 have hlen:=dH hok aA
 rw[hk,show dK 8=3 from rfl]at hlen
 have g0:e.aK[Int.toNat 0]?=some (e.lO 0):=aB.fL aA
 have g1:e.aK[Int.toNat 1]?=some (e.lO 1):=aB.fL aA
 have g2:e.aK[Int.toNat 2]?=some (e.lO 2):=aB.fL aA
 have o0:=aB.dW hok (i:=0) aA
 have o1:=aB.dW hok (i:=1) aA
 have o2:=aB.dW hok (i:=2) aA
 rw[fR aA]at o0 o1 o2
 refine gG 210 mE uQ uR Tryz.func179 ?_
 simp -dsimp -implicitDefEqProofs only[go_sem,↓reduceIte,Tryz.f179,hb',e3,ew,hk,g0,aB.ld5]
 refine⟨by omega,?_⟩
 refine aG.eH (hv (aR h nb (cZ p sz (st+1) 0)) nb (st+1) 0 (e.lO 0) env funcs (aH _ _ _) aA aA o0 eP hf henv aA) ?_
 rintro r h' ⟨s1,t1,c1,rfl,rfl,sO,a1,a2,a3⟩
 have gs:s1[Int.toNat 0]?=some (s1.getD 0 0):=dV nR
 simp -dsimp -implicitDefEqProofs only[go_sem,↓reduceIte,Tryz.f179,gs,g1,g2,aB.ld5]
 refine⟨by rw[sO.1];omega,λhz=>⟨by omega,?_⟩,λhz=>⟨by omega,?_⟩⟩
 ·rw[aJ]
  refine aG.eH (hv (aR h nb (cZ p sz t1 c1)) nb t1 c1 (e.lO 1) env funcs (aH _ _ _) aA aA o1 eP hf henv aA) ?_
  rintro r h' ⟨s2,t2,c2,rfl,rfl,tM,b1,b2,b3⟩
  simp -dsimp -implicitDefEqProofs only[go_sem,↓reduceIte,Tryz.f179]
  refine⟨_,_,bM _ _,s2,t2,c2,rfl,by rw[aJ],tM,by omega,b2,?_⟩
  rw[aG2 h3 hk]
  refine a3.dA ?_
  rw[if_pos hz]
  exact b3
 ·rw[aJ]
  refine aG.eH (hv (aR h nb (cZ p sz t1 c1)) nb t1 c1 (e.lO 2) env funcs (aH _ _ _) aA aA o2 eP hf henv aA) ?_
  rintro r h' ⟨s2,t2,c2,rfl,rfl,tM,b1,b2,b3⟩
  simp -dsimp -implicitDefEqProofs only[go_sem,↓reduceIte,Tryz.f179]
  refine⟨_,_,bM _ _,s2,t2,c2,rfl,by rw[aJ],tM,by omega,b2,?_⟩
  rw[aG2 h3 hk]
  refine a3.dA ?_
  rw[if_neg hz]
  exact b3
theorem a3N {p:aF} (hp:p.ok) {sz n:Nat} (hsz:1<=sz/\sz<=1048576) (hv:mG p sz n) (h:Heap) (nb st:Nat) (e:aB) (env:List (List Int)) (funcs:Int) (hb:h nb=some (cZ p sz st 0)) (hst:st<3000) (hn:3001<=n+1+st)
  (hok:e.ok p funcs env.length) (eP:0<=funcs) (hf:funcs<=p.aI.length) (henv:∀ s∈env,cG sz s) (hel:env.length<=412+st) (hk:e.aN=9) :
  fH Tryz.prog 179 [.op nb 4 0 0,.agg e.c,dX env] h (EvQ h nb p sz st 0 (gR p sz (n+1) st e env)):=by
 rw[aB.aU]
 have hb':=hb
 unfold cZ at hb'
 have e3:((st:Int)=3000)=False:=eq_false aA
 have ew:IntKind.i64.wrap ((st:Int)+1)=((st+1:Nat):Int):=by rw[IntWalk.i64_in _ aA];rfl
 have hnode:=(aB.cS _ _ _ _).1 hok
 have h3:¬st=3000:=by omega
 have hlen:=dH hok aA
 rw[hk,show dK 9=2 from rfl]at hlen
 have g0:e.aK[Int.toNat 0]?=some (e.lO 0):=aB.fL aA
 have g1:e.aK[Int.toNat 1]?=some (e.lO 1):=aB.fL aA
 have o0:=aB.dW hok (i:=0) aA
 have o1:=aB.dW hok (i:=1) aA
 rw[fR aA]at o0
 rw[hk,show gL 9 1 (env.length:Int)=env.length+1 from rfl]at o1
 refine gG 210 mE uQ uR Tryz.func179 ?_
 simp -dsimp -implicitDefEqProofs only[go_sem,↓reduceIte,Tryz.f179,hb',e3,ew,hk,g0,g1,aB.ld5]
 refine⟨by omega,by omega,?_⟩
 first|refine aG.mk (aLD env aA) ?_|refine aD.mk (aLD env aA) ?_|refine aG.bC (aLD env aA) ?_|refine aD.mk (aZ.dB (aLD env aA)) ?_
 simp -dsimp -implicitDefEqProofs only[go_sem,↓reduceIte,Tryz.f179]
 refine aG.eH (hv (aR h nb (cZ p sz (st+1) 0)) nb (st+1) 0 (e.lO 0) env funcs (aH _ _ _) aA aA o0 eP hf henv aA) ?_
 rintro r h' ⟨s1,t1,c1,rfl,rfl,sO,a1,a2,a3⟩
 simp -dsimp -implicitDefEqProofs only[go_sem,↓reduceIte,Tryz.f179]
 refine⟨b6,b6,b6,by omega,by omega,?_⟩
 intro m q_m
 obtain⟨jI,dG,dF,iA⟩:=c7 (show ¬m=nb from zH q_m)
 have z_m:h m=none:=zH q_m
 rw[aJ]
 have hrow:env.map (λs=>[ints s])++[[aC.sl 1 (s1.map λn=>[I n]) false]]=(env++[s1]).map λs=>[ints s]:=by rw[zG];rfl
 rw[hrow]
 refine aG.aTN iA (by rw[iG,k8];rfl) (by rw[aE _ _ _ _ jI];exact z_m) ?_
 refine fH.mono (hv (aR (aR h nb (cZ p sz t1 c1)) m .gone) nb t1 c1 (e.lO 1) (env++[s1]) funcs aMK aA aA aAO eP hf (sF henv sO) aW5) ?_
 rintro r h' ⟨s2,t2,c2,rfl,rfl,tM,b1,b2,b3⟩
 simp -dsimp -implicitDefEqProofs only[go_sem,↓reduceIte,Tryz.f179]
 refine⟨_,aR h nb (cZ p sz t2 c2),bJ (gF bDD),s2,t2,c2,rfl,rfl,tM,by omega,b2,?_⟩
 rw[aOF h3 hk]
 exact a3.dA b3
theorem aZC {p:aF} (hp:p.ok) {sz n:Nat} (hsz:1<=sz/\sz<=1048576) (hv:mG p sz n) (h:Heap) (nb st:Nat) (e:aB) (env:List (List Int)) (funcs:Int) (hb:h nb=some (cZ p sz st 0)) (hst:st<3000) (hn:3001<=n+1+st)
  (hok:e.ok p funcs env.length) (eP:0<=funcs) (hf:funcs<=p.aI.length) (henv:∀ s∈env,cG sz s) (hel:env.length<=412+st) (hk:e.aN=10) :
  fH Tryz.prog 179 [.op nb 4 0 0,.agg e.c,dX env] h (EvQ h nb p sz st 0 (gR p sz (n+1) st e env)):=by
 rw[aB.aU]
 have hb':=hb
 unfold cZ at hb'
 have e3:((st:Int)=3000)=False:=eq_false aA
 have ew:IntKind.i64.wrap ((st:Int)+1)=((st+1:Nat):Int):=by rw[IntWalk.i64_in _ aA];rfl
 have hnode:=(aB.cS _ _ _ _).1 hok
 have h3:¬st=3000:=by omega
 obtain⟨f,F⟩:=lP hp hok hf (.inl hk)
 have hkl:e.aK.length<=1048576:=by have:=F.kids;have:=F.params;omega
 refine gG 210 mE uQ uR Tryz.func179 ?_
 simp -dsimp -implicitDefEqProofs only[go_sem,↓reduceIte,Tryz.f179,hb',e3,ew,hk]
 refine aG.eH (vU hv (aR h nb (cZ p sz (st+1) 0)) nb (st+1) 0 e.aK env funcs (aH _ _ _) aA aA hkl (eA hok aA) eP hf henv aA) ?_
 rintro r h' ⟨vs,t1,c1,rfl,rfl,hvl,hvs,a1,a2,a3⟩
 simp -dsimp -implicitDefEqProofs only[go_sem,↓reduceIte,Tryz.f179,cZ]
 refine⟨λhc=>?_,λhc=>?_⟩
 ·have hc':¬c1=0:=by simpa using hc
  refine aG.eH (kK _ nb _ _ _ 0 sz (aH _ _ _) hsz) ?_
  rintro r h' ⟨rfl,rfl⟩
  simp -dsimp -implicitDefEqProofs only[go_sem,↓reduceIte,Tryz.f179]
  refine⟨_,aR h nb (cZ p sz t1 c1),bJ qU,_,t1,c1,rfl,rfl,eD j1,by omega,a2,?_⟩
  rw[aC1 h3 hk]
  exact a3.dA aFC
 ·have hc':c1=0:=by simpa using hc
  subst hc'
  try simp -dsimp -implicitDefEqProofs only[go_sem,↓reduceIte,Tryz.f179,hk,F.get,F.out,aV.aU,aB.ld5,aJ]
  have f1:=F.lo
  have f2:=F.hi
  have f3:=F.pk
  have f4:=F.pk2
  have f5:=F.kids
  have f6:=F.params
  refine⟨f1,f2,f3,by omega,?_⟩
  refine aG.eH (hv (aR h nb (cZ p sz t1 0)) nb t1 0 (p.out e.aX e.cF) vs e.aX (aH _ _ _) aA aA aRV f1 aA hvs aA) ?_
  rintro r h' ⟨s2,t2,c2,rfl,rfl,tM,b1,b2,b3⟩
  simp -dsimp -implicitDefEqProofs only[go_sem,↓reduceIte,Tryz.f179]
  refine⟨_,aR h nb (cZ p sz t2 c2),bJ qU,s2,t2,c2,rfl,rfl,tM,by omega,b2,?_⟩
  rw[aC1 h3 hk]
  exact a3.dA b3
theorem a3O {p:aF} (hp:p.ok) {sz n:Nat} (hsz:1<=sz/\sz<=1048576) (hv:mG p sz n) (h:Heap) (nb st:Nat) (e:aB) (env:List (List Int)) (funcs:Int) (hb:h nb=some (cZ p sz st 0)) (hst:st<3000) (hn:3001<=n+1+st)
  (hok:e.ok p funcs env.length) (eP:0<=funcs) (hf:funcs<=p.aI.length) (henv:∀ s∈env,cG sz s) (hel:env.length<=412+st) (hk:e.aN=7) :
  fH Tryz.prog 179 [.op nb 4 0 0,.agg e.c,dX env] h (EvQ h nb p sz st 0 (gR p sz (n+1) st e env)):=by
 rw[aB.aU]
 have hb':=hb
 unfold cZ at hb'
 have e3:((st:Int)=3000)=False:=eq_false aA
 have ew:IntKind.i64.wrap ((st:Int)+1)=((st+1:Nat):Int):=by rw[IntWalk.i64_in _ aA];rfl
 have hnode:=(aB.cS _ _ _ _).1 hok
 have h3:¬st=3000:=by omega
 have hlen:=dH hok aA
 rw[hk,show dK 7=1 from rfl]at hlen
 have hkl:e.aK.length<=1048576:=by omega
 refine gG 210 mE uQ uR Tryz.func179 ?_
 simp -dsimp -implicitDefEqProofs only[go_sem,↓reduceIte,Tryz.f179,hb',e3,ew,hk]
 refine aG.eH (vU hv (aR h nb (cZ p sz (st+1) 0)) nb (st+1) 0 e.aK env funcs (aH _ _ _) aA aA hkl (eA hok aA) eP hf henv aA) ?_
 rintro r h' ⟨vs,t1,c1,rfl,rfl,hvl,hvs,a1,a2,a3⟩
 have wR:=gW hvs (i:=0) aA
 simp -dsimp -implicitDefEqProofs only[go_sem,↓reduceIte,Tryz.f179,cZ]
 refine⟨λhc=>?_,λhc=>?_⟩
 ·have hc':¬c1=0:=by simpa using hc
  refine aG.eH (kK _ nb _ _ _ 0 sz (aH _ _ _) hsz) ?_
  rintro r h' ⟨rfl,rfl⟩
  simp -dsimp -implicitDefEqProofs only[go_sem,↓reduceIte,Tryz.f179]
  refine⟨_,aR h nb (cZ p sz t1 c1),bJ qU,_,t1,c1,rfl,rfl,eD j1,by omega,a2,?_⟩
  rw[mX h3 aA]
  exact a3.dA aFC
 have hc':c1=0:=by simpa using hc
 subst hc'
 have g0:vs[Int.toNat 0]?=some (vs.getD 0 []):=jP aA
 try simp -dsimp -implicitDefEqProofs only[go_sem,↓reduceIte,Tryz.f179,hk,aJ,g0]
 refine⟨by omega,?_⟩
 refine aG.mk (scaled (vs.getD 0 []) 1000002 pH aI1 wR.2) ?_
 simp -dsimp -implicitDefEqProofs only[go_sem,↓reduceIte,Tryz.f179]
 refine⟨_,aR h nb (cZ p sz t1 0),bJ aIZ,_,t1,0,rfl,rfl,mD _ wR,by omega,a2,?_⟩
 rw[mX h3 aA]
 refine a3.dA ?_
 rw[cJ,hk]
 exact j0 _ _
theorem a3P {p:aF} (hp:p.ok) {sz n:Nat} (hsz:1<=sz/\sz<=1048576) (hv:mG p sz n) (h:Heap) (nb st:Nat) (e:aB) (env:List (List Int)) (funcs:Int) (hb:h nb=some (cZ p sz st 0)) (hst:st<3000) (hn:3001<=n+1+st)
  (hok:e.ok p funcs env.length) (eP:0<=funcs) (hf:funcs<=p.aI.length) (henv:∀ s∈env,cG sz s) (hel:env.length<=412+st) (hk:e.aN=3) :
  fH Tryz.prog 179 [.op nb 4 0 0,.agg e.c,dX env] h (EvQ h nb p sz st 0 (gR p sz (n+1) st e env)):=by
 rw[aB.aU]
 have hb':=hb
 unfold cZ at hb'
 have e3:((st:Int)=3000)=False:=eq_false aA
 have ew:IntKind.i64.wrap ((st:Int)+1)=((st+1:Nat):Int):=by rw[IntWalk.i64_in _ aA];rfl
 have hnode:=(aB.cS _ _ _ _).1 hok
 have h3:¬st=3000:=by omega
 have hlen:=dH hok aA
 rw[hk,show dK 3=2 from rfl]at hlen
 have hkl:e.aK.length<=1048576:=by omega
 refine gG 210 mE uQ uR Tryz.func179 ?_
 simp -dsimp -implicitDefEqProofs only[go_sem,↓reduceIte,Tryz.f179,hb',e3,ew,hk]
 refine aG.eH (vU hv (aR h nb (cZ p sz (st+1) 0)) nb (st+1) 0 e.aK env funcs (aH _ _ _) aA aA hkl (eA hok aA) eP hf henv aA) ?_
 rintro r h' ⟨vs,t1,c1,rfl,rfl,hvl,hvs,a1,a2,a3⟩
 have wR:=gW hvs (i:=0) aA
 simp -dsimp -implicitDefEqProofs only[go_sem,↓reduceIte,Tryz.f179,cZ]
 refine⟨λhc=>?_,λhc=>?_⟩
 ·have hc':¬c1=0:=by simpa using hc
  refine aG.eH (kK _ nb _ _ _ 0 sz (aH _ _ _) hsz) ?_
  rintro r h' ⟨rfl,rfl⟩
  simp -dsimp -implicitDefEqProofs only[go_sem,↓reduceIte,Tryz.f179]
  refine⟨_,aR h nb (cZ p sz t1 c1),bJ qU,_,t1,c1,rfl,rfl,eD j1,by omega,a2,?_⟩
  rw[mX h3 aA]
  exact a3.dA aFC
 have hc':c1=0:=by simpa using hc
 subst hc'
 have g0:vs[Int.toNat 0]?=some (vs.getD 0 []):=jP aA
 have g1:vs[Int.toNat 1]?=some (vs.getD 1 []):=jP aA
 have hv1:=gW hvs (i:=1) aA
 try simp -dsimp -implicitDefEqProofs only[go_sem,↓reduceIte,Tryz.f179,hk,aJ,g0,g1]
 refine⟨by omega,by omega,?_⟩
 refine aG.mk (a82 (vs.getD 0 []) (vs.getD 1 []) aR9 aI1 wR.2 hv1.2) ?_
 simp -dsimp -implicitDefEqProofs only[go_sem,↓reduceIte,Tryz.f179]
 refine⟨_,aR h nb (cZ p sz t1 0),bJ aIZ,_,t1,0,rfl,rfl,yE wR hv1,by omega,a2,?_⟩
 rw[mX h3 aA]
 refine a3.dA ?_
 rw[cJ,hk]
 exact j0 _ _
theorem a3Q {p:aF} (hp:p.ok) {sz n:Nat} (hsz:1<=sz/\sz<=1048576) (hv:mG p sz n) (h:Heap) (nb st:Nat) (e:aB) (env:List (List Int)) (funcs:Int) (hb:h nb=some (cZ p sz st 0)) (hst:st<3000) (hn:3001<=n+1+st)
  (hok:e.ok p funcs env.length) (eP:0<=funcs) (hf:funcs<=p.aI.length) (henv:∀ s∈env,cG sz s) (hel:env.length<=412+st) (hk:e.aN=4) :
  fH Tryz.prog 179 [.op nb 4 0 0,.agg e.c,dX env] h (EvQ h nb p sz st 0 (gR p sz (n+1) st e env)):=by
 rw[aB.aU]
 have hb':=hb
 unfold cZ at hb'
 have e3:((st:Int)=3000)=False:=eq_false aA
 have ew:IntKind.i64.wrap ((st:Int)+1)=((st+1:Nat):Int):=by rw[IntWalk.i64_in _ aA];rfl
 have hnode:=(aB.cS _ _ _ _).1 hok
 have h3:¬st=3000:=by omega
 have hlen:=dH hok aA
 rw[hk,show dK 4=2 from rfl]at hlen
 have hkl:e.aK.length<=1048576:=by omega
 refine gG 210 mE uQ uR Tryz.func179 ?_
 simp -dsimp -implicitDefEqProofs only[go_sem,↓reduceIte,Tryz.f179,hb',e3,ew,hk]
 refine aG.eH (vU hv (aR h nb (cZ p sz (st+1) 0)) nb (st+1) 0 e.aK env funcs (aH _ _ _) aA aA hkl (eA hok aA) eP hf henv aA) ?_
 rintro r h' ⟨vs,t1,c1,rfl,rfl,hvl,hvs,a1,a2,a3⟩
 have wR:=gW hvs (i:=0) aA
 simp -dsimp -implicitDefEqProofs only[go_sem,↓reduceIte,Tryz.f179,cZ]
 refine⟨λhc=>?_,λhc=>?_⟩
 ·have hc':¬c1=0:=by simpa using hc
  refine aG.eH (kK _ nb _ _ _ 0 sz (aH _ _ _) hsz) ?_
  rintro r h' ⟨rfl,rfl⟩
  simp -dsimp -implicitDefEqProofs only[go_sem,↓reduceIte,Tryz.f179]
  refine⟨_,aR h nb (cZ p sz t1 c1),bJ qU,_,t1,c1,rfl,rfl,eD j1,by omega,a2,?_⟩
  rw[mX h3 aA]
  exact a3.dA aFC
 have hc':c1=0:=by simpa using hc
 subst hc'
 have g0:vs[Int.toNat 0]?=some (vs.getD 0 []):=jP aA
 have g1:vs[Int.toNat 1]?=some (vs.getD 1 []):=jP aA
 have hv1:=gW hvs (i:=1) aA
 try simp -dsimp -implicitDefEqProofs only[go_sem,↓reduceIte,Tryz.f179,hk,aJ,g0,g1]
 refine⟨by omega,by omega,?_⟩
 refine aG.mk (reduced (vs.getD 0 []) (vs.getD 1 []) aR9 aI1 wR.2 hv1.2) ?_
 simp -dsimp -implicitDefEqProofs only[go_sem,↓reduceIte,Tryz.f179]
 refine⟨_,aR h nb (cZ p sz t1 0),bJ aIZ,_,t1,0,rfl,rfl,aCX wR hv1,by omega,a2,?_⟩
 rw[mX h3 aA]
 refine a3.dA ?_
 rw[cJ,hk]
 exact j0 _ _
theorem a3R {p:aF} (hp:p.ok) {sz n:Nat} (hsz:1<=sz/\sz<=1048576) (hv:mG p sz n) (h:Heap) (nb st:Nat) (e:aB) (env:List (List Int)) (funcs:Int) (hb:h nb=some (cZ p sz st 0)) (hst:st<3000) (hn:3001<=n+1+st)
  (hok:e.ok p funcs env.length) (eP:0<=funcs) (hf:funcs<=p.aI.length) (henv:∀ s∈env,cG sz s) (hel:env.length<=412+st) (hk:e.aN=5) :
  fH Tryz.prog 179 [.op nb 4 0 0,.agg e.c,dX env] h (EvQ h nb p sz st 0 (gR p sz (n+1) st e env)):=by
 rw[aB.aU]
 have hb':=hb
 unfold cZ at hb'
 have e3:((st:Int)=3000)=False:=eq_false aA
 have ew:IntKind.i64.wrap ((st:Int)+1)=((st+1:Nat):Int):=by rw[IntWalk.i64_in _ aA];rfl
 have hnode:=(aB.cS _ _ _ _).1 hok
 have h3:¬st=3000:=by omega
 have hlen:=dH hok aA
 rw[hk,show dK 5=2 from rfl]at hlen
 have hkl:e.aK.length<=1048576:=by omega
 refine gG 210 mE uQ uR Tryz.func179 ?_
 simp -dsimp -implicitDefEqProofs only[go_sem,↓reduceIte,Tryz.f179,hb',e3,ew,hk]
 refine aG.eH (vU hv (aR h nb (cZ p sz (st+1) 0)) nb (st+1) 0 e.aK env funcs (aH _ _ _) aA aA hkl (eA hok aA) eP hf henv aA) ?_
 rintro r h' ⟨vs,t1,c1,rfl,rfl,hvl,hvs,a1,a2,a3⟩
 have wR:=gW hvs (i:=0) aA
 simp -dsimp -implicitDefEqProofs only[go_sem,↓reduceIte,Tryz.f179,cZ]
 refine⟨λhc=>?_,λhc=>?_⟩
 ·have hc':¬c1=0:=by simpa using hc
  refine aG.eH (kK _ nb _ _ _ 0 sz (aH _ _ _) hsz) ?_
  rintro r h' ⟨rfl,rfl⟩
  simp -dsimp -implicitDefEqProofs only[go_sem,↓reduceIte,Tryz.f179]
  refine⟨_,aR h nb (cZ p sz t1 c1),bJ qU,_,t1,c1,rfl,rfl,eD j1,by omega,a2,?_⟩
  rw[mX h3 aA]
  exact a3.dA aFC
 have hc':c1=0:=by simpa using hc
 subst hc'
 have g0:vs[Int.toNat 0]?=some (vs.getD 0 []):=jP aA
 have g1:vs[Int.toNat 1]?=some (vs.getD 1 []):=jP aA
 have hv1:=gW hvs (i:=1) aA
 try simp -dsimp -implicitDefEqProofs only[go_sem,↓reduceIte,Tryz.f179,hk,aJ,g0,g1]
 refine⟨by omega,by omega,?_⟩
 refine aG.mk (product (vs.getD 0 []) (vs.getD 1 []) aR9 aI1 wR.2 hv1.2) ?_
 simp -dsimp -implicitDefEqProofs only[go_sem,↓reduceIte,Tryz.f179]
 refine⟨_,aR h nb (cZ p sz t1 0),bJ aIZ,_,t1,0,rfl,rfl,aCY _ wR,by omega,a2,?_⟩
 rw[mX h3 aA]
 refine a3.dA ?_
 rw[cJ,hk]
 exact j0 _ _
theorem a3S {p:aF} (hp:p.ok) {sz n:Nat} (hsz:1<=sz/\sz<=1048576) (hv:mG p sz n) (h:Heap) (nb st:Nat) (e:aB) (env:List (List Int)) (funcs:Int) (hb:h nb=some (cZ p sz st 0)) (hst:st<3000) (hn:3001<=n+1+st)
  (hok:e.ok p funcs env.length) (eP:0<=funcs) (hf:funcs<=p.aI.length) (henv:∀ s∈env,cG sz s) (hel:env.length<=412+st) (hk:e.aN=6) :
  fH Tryz.prog 179 [.op nb 4 0 0,.agg e.c,dX env] h (EvQ h nb p sz st 0 (gR p sz (n+1) st e env)):=by
 rw[aB.aU]
 have hb':=hb
 unfold cZ at hb'
 have e3:((st:Int)=3000)=False:=eq_false aA
 have ew:IntKind.i64.wrap ((st:Int)+1)=((st+1:Nat):Int):=by rw[IntWalk.i64_in _ aA];rfl
 have hnode:=(aB.cS _ _ _ _).1 hok
 have h3:¬st=3000:=by omega
 have hlen:=dH hok aA
 rw[hk,show dK 6=2 from rfl]at hlen
 have hkl:e.aK.length<=1048576:=by omega
 refine gG 210 mE uQ uR Tryz.func179 ?_
 simp -dsimp -implicitDefEqProofs only[go_sem,↓reduceIte,Tryz.f179,hb',e3,ew,hk]
 refine aG.eH (vU hv (aR h nb (cZ p sz (st+1) 0)) nb (st+1) 0 e.aK env funcs (aH _ _ _) aA aA hkl (eA hok aA) eP hf henv aA) ?_
 rintro r h' ⟨vs,t1,c1,rfl,rfl,hvl,hvs,a1,a2,a3⟩
 have wR:=gW hvs (i:=0) aA
 simp -dsimp -implicitDefEqProofs only[go_sem,↓reduceIte,Tryz.f179,cZ]
 refine⟨λhc=>?_,λhc=>?_⟩
 ·have hc':¬c1=0:=by simpa using hc
  refine aG.eH (kK _ nb _ _ _ 0 sz (aH _ _ _) hsz) ?_
  rintro r h' ⟨rfl,rfl⟩
  simp -dsimp -implicitDefEqProofs only[go_sem,↓reduceIte,Tryz.f179]
  refine⟨_,aR h nb (cZ p sz t1 c1),bJ qU,_,t1,c1,rfl,rfl,eD j1,by omega,a2,?_⟩
  rw[mX h3 aA]
  exact a3.dA aFC
 have hc':c1=0:=by simpa using hc
 subst hc'
 have g0:vs[Int.toNat 0]?=some (vs.getD 0 []):=jP aA
 have g1:vs[Int.toNat 1]?=some (vs.getD 1 []):=jP aA
 have hv1:=gW hvs (i:=1) aA
 have gs:(vs.getD 1 [])[Int.toNat 0]?=some ((vs.getD 1 []).getD 0 0):=dV (by rw[hv1.1];omega)
 try simp -dsimp -implicitDefEqProofs only[go_sem,↓reduceIte,Tryz.f179,hk,aJ,g0,g1,gs]
 refine⟨by omega,by rw[hv1.1];omega,λhz=>?_,λhz=>?_⟩
 ·refine aG.eH (kK _ nb _ _ _ 0 sz (aH _ _ _) hsz) ?_
  rintro r h' ⟨rfl,rfl⟩
  simp -dsimp -implicitDefEqProofs only[go_sem,↓reduceIte,Tryz.f179]
  refine⟨_,aR h nb (cZ p sz t1 6),bJ aIZ,_,t1,6,rfl,rfl,eD j1,by omega,a2,?_⟩
  rw[mX h3 aA]
  refine a3.dA ?_
  rw[cJ,hk]
  have:opE 6 vs t1=.error 6:=by rw[opE,if_neg bU,if_neg bU,if_neg bU,if_neg bU,if_pos hz]
  rw[this]
  exact jJ _ _ bU
 ·try simp -dsimp -implicitDefEqProofs only[go_sem,↓reduceIte,Tryz.f179,hk,aJ,g0,g1,gs]
  refine⟨by omega,by omega,?_⟩
  refine aG.mk (quotient (vs.getD 0 []) (vs.getD 1 []) aR9 aI1 aI1 wR.2 hv1.2) ?_
  simp -dsimp -implicitDefEqProofs only[go_sem,↓reduceIte,Tryz.f179]
  refine⟨_,aR h nb (cZ p sz t1 0),bJ aIZ,_,t1,0,rfl,rfl,aCZ _ wR,by omega,a2,?_⟩
  rw[mX h3 aA]
  refine a3.dA ?_
  rw[cJ,hk]
  have:opE 6 vs t1=.ok (nN (vs.getD 0 []) (vs.getD 1 []),t1):=by rw[opE,if_neg bU,if_neg bU,if_neg bU,if_neg bU,if_neg hz]
  rw[this]
  exact j0 _ _
theorem aZD {p:aF} (hp:p.ok) {sz n:Nat} (hsz:1<=sz/\sz<=1048576) (hv:mG p sz n) (h:Heap) (nb st:Nat) (e:aB) (env:List (List Int)) (funcs:Int) (hb:h nb=some (cZ p sz st 0)) (hst:st<3000) (hn:3001<=n+1+st)
  (hok:e.ok p funcs env.length) (eP:0<=funcs) (hf:funcs<=p.aI.length) (henv:∀ s∈env,cG sz s) (hel:env.length<=412+st) (hk:e.aN=11) :
  fH Tryz.prog 179 [.op nb 4 0 0,.agg e.c,dX env] h (EvQ h nb p sz st 0 (gR p sz (n+1) st e env)):=by
 rw[aB.aU]
 have hb':=hb
 unfold cZ at hb'
 have e3:((st:Int)=3000)=False:=eq_false aA
 have ew:IntKind.i64.wrap ((st:Int)+1)=((st+1:Nat):Int):=by rw[IntWalk.i64_in _ aA];rfl
 have hnode:=(aB.cS _ _ _ _).1 hok
 have h3:¬st=3000:=by omega
 obtain⟨f,F⟩:=lP hp hok hf (.inr hk)
 have hkl:e.aK.length<=1048576:=by have:=F.kids;have:=F.params;omega
 have f1:=F.lo
 have f2:=F.hi
 have f3:=F.pk
 have f4:=F.pk2
 have f5:=F.kids
 have f6:=F.params
 have f7:=F.loop hk
 have f8:=F.outs
 refine gG 210 mE uQ uR Tryz.func179 ?_
 simp -dsimp -implicitDefEqProofs only[go_sem,↓reduceIte,Tryz.f179,hb',e3,ew,hk]
 refine aG.eH (vU hv (aR h nb (cZ p sz (st+1) 0)) nb (st+1) 0 e.aK env funcs (aH _ _ _) aA aA hkl (eA hok aA) eP hf henv aA) ?_
 rintro r h' ⟨vs,t1,c1,rfl,rfl,hvl,hvs,a1,a2,a3⟩
 simp -dsimp -implicitDefEqProofs only[go_sem,↓reduceIte,Tryz.f179,cZ]
 refine⟨λhc=>?_,λhc=>?_⟩
 ·have hc':¬c1=0:=by simpa using hc
  refine aG.eH (kK _ nb _ _ _ 0 sz (aH _ _ _) hsz) ?_
  rintro r h' ⟨rfl,rfl⟩
  simp -dsimp -implicitDefEqProofs only[go_sem,↓reduceIte,Tryz.f179]
  refine⟨_,aR h nb (cZ p sz t1 c1),bJ qU,_,t1,c1,rfl,rfl,eD j1,by omega,a2,?_⟩
  rw[aC2 h3 hk]
  exact a3.dA aFC
 have hc':c1=0:=by simpa using hc
 subst hc'
 try simp -dsimp -implicitDefEqProofs only[go_sem,↓reduceIte,Tryz.f179,hk,aJ]
 have hiter:∀ (k:Nat) (us:List (List Int)) (t:Nat) (c:Int),gZ (oV (λvs t=>kJ (λt e=>gR p sz n t e vs) (p.outs e.aX) t) k vs t1) us t c->k<=e.b7.toNat->(¬c=0∨k=e.b7.toNat)->gZ (mW 0 (gR p sz (n+1) st e env)) (us.getD e.cF.toNat []) t c:=λk us t c ho hk1 hor=>by
  rw[aC2 h3 hk]
  refine a3.dA ?_
  rw[cJ]
  refine gZ.then (v:=us) (t:=t) (c:=c) ?_ (fI _ _ _)
  rcases hor with hc|rfl
  ·have:=ho.err hc
   rw[aJL _ k hk1 this]
   exact jJ _ _ hc
  ·exact ho
 refine dJ mE uQ uR (λx:Nat×List (List Int)×Nat×Int=>[(0,.op nb 4 0 0),(4,.ip 5 [[I 11,I e.aX,I e.cF,I e.b7,eQ 5 aB.c e.aK]] 0 0),(7,dX x.2.1),(8,I x.1)]) (λx=>aR h nb (cZ p sz x.2.2.1 x.2.2.2)) (λx=>x.1<=e.b7.toNat/\x.2.1.length=f.aO.length/\(∀ s∈x.2.1,cG sz s)/\t1<=x.2.2.1/\x.2.2.1<=3000/\gZ (oV (λvs t=>kJ (λt e=>gR p sz n t e vs) (p.outs e.aX) t) x.1 vs t1) x.2.1 x.2.2.1 x.2.2.2) (λx=>e.b7.toNat-x.1) (0,vs,t1,0) ⟨by simp[dM,cE],Heap.le_refl _,gM _,by simp only;omega,hvs,j4 _,a2,j0 _ _⟩ ?_
 rintro⟨k,us,t,c⟩ ⟨hk1,hul,hus,ht0,ht,ho⟩
 simp only at hk1 hul hus ht0 ht ho ⊢
 have gp:us[e.cF.toNat]?=some (us.getD e.cF.toNat []):=jP aA
 simp -dsimp -implicitDefEqProofs only[go_sem,↓reduceIte,Tryz.f179,cZ,F.get,aV.aU,gp]
 refine⟨λhlt=>⟨λhc=>⟨f1,f2,?_⟩,λhc=>?_⟩,λhge=>?_⟩
 ·subst hc
  refine aG.eH (vU hv (aR h nb (cZ p sz t 0)) nb t 0 f.aO us e.aX (aH _ _ _) ht aA aA (by rw[hul,f7.2.2];exact F.oks) f1 aA hus aA) ?_
  rintro r h' ⟨l2,t2,c2,rfl,rfl,hl2,tM,b1,b2,b3⟩
  simp -dsimp -implicitDefEqProofs only[go_sem,↓reduceIte,Tryz.f179]
  refine⟨(k+1,l2,t2,c2),⟨rfl,by rw[IntWalk.i64_in _ aA];rfl⟩,by simp only[aJ];exact Heap.le_refl _,⟨by omega,hl2,tM,by simp only;omega,b2,?_⟩,by simp only;omega⟩
  simp only
  rw[vP]
  refine ho.then ?_
  rw[F.eq]
  exact b3
 ·exact⟨f3,by omega,_,_,bM _ _,us.getD e.cF.toNat [],t,c,rfl,rfl,gW hus aA,by omega,ht,hiter k us t c ho hk1 (.inl hc)⟩
 ·exact⟨f3,by omega,_,_,bM _ _,us.getD e.cF.toNat [],t,c,rfl,rfl,gW hus aA,by omega,ht,hiter k us t c ho hk1 (.inr aA)⟩
theorem value {p:aF} (hp:p.ok) {sz:Nat} (hsz:1<=sz/\sz<=1048576):∀ n,mG p sz n
 |0=>λh nb st c e env funcs hb hst hn=>by omega
 |n+1=>λh nb st c e env funcs hb hst hn hok eP hf henv hel=>by
  have hv:=value hp hsz n
  by_cases hs:¬c=0∨st=3000
  ·exact aQP hsz h nb st c e env hb hst hs
  have hc:c=0:=aMF λq=>hs (.inl q)
  have h3:st<3000:=by
   rcases cQ st 3000 with h|h
   ·exact h
   ·exact absurd (.inr aA) hs
  subst hc
  rcases pR ((aB.cS _ _ _ _).1 hok).1 with hk|hk|hk|hk|hk|hk|hk|hk|hk|hk|hk
  ·exact a3K hp hsz hv h nb st e env funcs hb h3 hn hok eP hf henv hel hk
  ·exact a3L hp hsz hv h nb st e env funcs hb h3 hn hok eP hf henv hel hk
  ·exact a3P hp hsz hv h nb st e env funcs hb h3 hn hok eP hf henv hel hk
  ·exact a3Q hp hsz hv h nb st e env funcs hb h3 hn hok eP hf henv hel hk
  ·exact a3R hp hsz hv h nb st e env funcs hb h3 hn hok eP hf henv hel hk
  ·exact a3S hp hsz hv h nb st e env funcs hb h3 hn hok eP hf henv hel hk
  ·exact a3O hp hsz hv h nb st e env funcs hb h3 hn hok eP hf henv hel hk
  ·exact a3M hp hsz hv h nb st e env funcs hb h3 hn hok eP hf henv hel hk
  ·exact a3N hp hsz hv h nb st e env funcs hb h3 hn hok eP hf henv hel hk
  ·exact aZC hp hsz hv h nb st e env funcs hb h3 hn hok eP hf henv hel hk
  ·exact aZD hp hsz hv h nb st e env funcs hb h3 hn hok eP hf henv hel hk
theorem cA (a b:Int) (ha:fZ a) (hb:fZ b):eX Tryz.prog 46 [I a,I b] (I (a*b%1000003)):=by
 refine eJ 11 yW cR cC Tryz.func46 λh=>?_
 simp -dsimp -implicitDefEqProofs only[go_sem,↓reduceIte,Tryz.f46]
 first|refine aG.mk (cY a) ?_|refine aD.mk (cY a) ?_|refine aG.bC (cY a) ?_|refine aD.mk (aZ.dB (cY a)) ?_
 simp -dsimp -implicitDefEqProofs only[go_sem,↓reduceIte,Tryz.f46]
 first|refine aG.mk (cY b) ?_|refine aD.mk (cY b) ?_|refine aG.bC (cY b) ?_|refine aD.mk (aZ.dB (cY b)) ?_
 simp -dsimp -implicitDefEqProofs only[go_sem,↓reduceIte,Tryz.f46]
 have h1:=num_mul ha hb
 have h2:=ha
 have h3:=hb
 unfold fZ at h2 h3
 rw[aRM h2.1 aA,aRM h3.1 aA,aQL h1.1 aA]
@[go_sem] def aTO:List Nat:=[0,1,4,5,6,8,12,15]
theorem yJ (a n:Int) (hn:0<=n) (hn2:n<=4294967296):eX Tryz.prog 139 [I a,I n] (I (pwN (a%1000003) n.toNat)):=by
 refine eJ 25 aTO cR cC Tryz.func139 λh=>?_
 simp -dsimp -implicitDefEqProofs only[go_sem,↓reduceIte,Tryz.f139]
 refine⟨λq=>absurd q aA,λ_=>?_⟩
 first|refine aG.mk (cY a) ?_|refine aD.mk (cY a) ?_|refine aG.bC (cY a) ?_|refine aD.mk (aZ.dB (cY a)) ?_
 simp -dsimp -implicitDefEqProofs only[go_sem,↓reduceIte,Tryz.f139]
 generalize hT:pwN (a%1000003) n.toNat=T
 refine zW aTO cR cC (λx:Int×Int×Int=>[(1,I x.2.2),(5,I x.1),(6,I x.2.1)]) (λx=>(0<=x.1/\x.1<1000003)/\(0<=x.2.1/\x.2.1<1000003)/\(0<=x.2.2/\x.2.2<=4294967296)/\x.1*x.2.1 ^ x.2.2.toNat%1000003=T) (λx=>x.2.2.toNat) (1,a%1000003,n) ⟨by simp[dM,cE],⟨by simp,by simp⟩,aOA _,⟨hn,hn2⟩,by rw[Int.one_mul];exact hT⟩ ?_
 rintro⟨x,b,m⟩ ⟨hx,hb,hm,hp⟩
 simp only at hx hb hm hp ⊢
 have nx:fZ x:=by unfold fZ;omega
 have nb:fZ b:=by unfold fZ;omega
 simp -dsimp -implicitDefEqProofs only[go_sem,↓reduceIte,Tryz.f139]
 rw[tY hm.1]
 refine⟨λhg=>⟨λho=>?_,λho=>?_⟩,λhg=>?_⟩
 ·first|refine aG.mk (cA x b nx nb) ?_|refine aD.mk (cA x b nx nb) ?_|refine aG.bC (cA x b nx nb) ?_|refine aD.mk (aZ.dB (cA x b nx nb)) ?_
  simp -dsimp -implicitDefEqProofs only[go_sem,↓reduceIte,Tryz.f139]
  first|refine aG.mk (cA b b nb nb) ?_|refine aD.mk (cA b b nb nb) ?_|refine aG.bC (cA b b nb nb) ?_|refine aD.mk (aZ.dB (cA b b nb nb)) ?_
  simp -dsimp -implicitDefEqProofs only[go_sem,↓reduceIte,Tryz.f139]
  rw[aRL hm.1,IntWalk.i64_in (m / 2) aA]
  exact⟨(x*b%1000003,b*b%1000003,m / 2),⟨rfl,rfl,rfl⟩,⟨aOA _,aOA _,(show 0<=m / 2/\m / 2<=4294967296 by omega),aY3 hm.1 ho hp⟩,by simp only;omega⟩
 ·first|refine aG.mk (cA b b nb nb) ?_|refine aD.mk (cA b b nb nb) ?_|refine aG.bC (cA b b nb nb) ?_|refine aD.mk (aZ.dB (cA b b nb nb)) ?_
  simp -dsimp -implicitDefEqProofs only[go_sem,↓reduceIte,Tryz.f139]
  rw[aRL hm.1,IntWalk.i64_in (m / 2) aA]
  exact⟨(x,b*b%1000003,m / 2),⟨rfl,rfl,rfl⟩,⟨hx,aOA _,(show 0<=m / 2/\m / 2<=4294967296 by omega),aTJ hm.1 ho hp⟩,by simp only;omega⟩
 ·have:m.toNat=0:=by omega
  rw[this,aTI x b hx]at hp
  exact hp
theorem aLE (a:Int):eX Tryz.prog 96 [I a] (I (qC a)):=by
 refine eJ 5 aBF cR cC Tryz.func96 λh=>?_
 simp -dsimp -implicitDefEqProofs only[go_sem,↓reduceIte,Tryz.f96]
 first|refine aG.mk (yJ a 1000001 bU bU) ?_|refine aD.mk (yJ a 1000001 bU bU) ?_|refine aG.bC (yJ a 1000001 bU bU) ?_|refine aD.mk (aZ.dB (yJ a 1000001 bU bU)) ?_
 simp -dsimp -implicitDefEqProofs only[go_sem,↓reduceIte,Tryz.f96]
 rfl
theorem aBW (a b:Int) (ha:fZ a) (hb:fZ b):eX Tryz.prog 208 [I a,I b] (I ((a-b)%1000003)):=by
 unfold fZ at ha hb
 refine eJ 9 yW cR cC Tryz.func208 λh=>?_
 simp -dsimp -implicitDefEqProofs only[go_sem,↓reduceIte,Tryz.f208]
 rw[IntWalk.i64_in _ aA]
 first|refine aG.mk (cY (a-b)) ?_|refine aD.mk (cY (a-b)) ?_|refine aG.bC (cY (a-b)) ?_|refine aD.mk (aZ.dB (cY (a-b))) ?_
 simp -dsimp -implicitDefEqProofs only[go_sem,↓reduceIte,Tryz.f208]
@[go_sem] def aZF:List Nat:=[0,1,4,5,9]
theorem lB (n:Int) (sz:Nat) (hs:sz<=1048576):eX Tryz.prog 93 [I n,I sz] (ints (l6 n sz)):=by
 rcases a1J sz with rfl|hp
 ·refine aBA 14 aZF cR cC Tryz.func93 λh=>?_
  simp -dsimp -implicitDefEqProofs only[go_sem,↓reduceIte,Tryz.f93]
  refine⟨b6,by omega,by omega,λm hm=>⟨λq=>absurd q aA,λ_=>?_⟩⟩
  exact iO [] hm (Heap.le_refl _) rfl
 ·have e2:=aLB (x:=[aC.int .i64 0]) hp
  refine aBA 14 aZF cR cC Tryz.func93 λh=>?_
  simp -dsimp -implicitDefEqProofs only[go_sem,↓reduceIte,Tryz.f93,tX,e2]
  refine⟨b6,j4 _,by omega,by omega,λm hm=>⟨λ_=>⟨by omega,?_⟩,λq=>absurd q aA⟩⟩
  rw[aJ,show Int.toNat 0=0 from rfl,aG8]
  exact iO _ hm (Heap.le_refl _) (z7 n sz).symm
@[go_sem] def a6Q:List Nat:=[7,21]
theorem qE (a:List Int) (m:Int) (hm:fZ m) (hl:a.length<=1048576) (ha:gE a):eX Tryz.prog 186 [ints a,I m] (ints (mV a m)):=by
 have hc:=aFE a m
 refine aBA 24 aVC a6Q cC Tryz.func186 λh=>?_
 simp -dsimp -implicitDefEqProofs only[go_sem,↓reduceIte,Tryz.f186]
 refine⟨b6,?_⟩
 refine dJ aVC a6Q cC (λx:Nat×Option Nat=>[(0,ints a),(1,I m),(5,iH 1 ((mV a m).take x.1).length x.2),(6,I x.1)]) (λx=>c8 h (.row 1 ((((mV a m).take x.1).map λn=>[I n]).map (List.map .v))) x.2) (λx=>x.1<=a.length/\fM h ((mV a m).take x.1) x.2) (λx=>a.length-x.1) (0,none) ⟨by simp[dM,cE,iH],by simp only[aQ];exact Heap.le_refl _,gM _,by simp[fM]⟩ ?_
 rintro⟨k,o⟩ ⟨hk,hos⟩
 simp only at hk hos ⊢
 rcases cQ k a.length with hlt|hge
 ·have ea:a[k]?=some a[k]:=cP hlt
  have hy:(mV a m).take (k+1)=(mV a m).take k++[(mV a m)[k]'aA]:=pD aA
  have hv:(mV a m)[k]'aA=a[k]*m%1000003:=by simp[mV]
  have hlk:((mV a m).take k).length=k:=by rw[qI];omega
  rw[hv]at hy
  cases o with
  |none =>
   rw[bK]at hos
   rw[hos]at hy ⊢
   simp -dsimp -implicitDefEqProofs only[go_sem,↓reduceIte,Tryz.f186,b5,aQ,hlt,ea]
   intro _
   first|refine aG.mk (cA a[k] m (ha _ (eF hlt)) hm) ?_|refine aD.mk (cA a[k] m (ha _ (eF hlt)) hm) ?_|refine aG.bC (cA a[k] m (ha _ (eF hlt)) hm) ?_|refine aD.mk (aZ.dB (cA a[k] m (ha _ (eF hlt)) hm)) ?_
   simp -dsimp -implicitDefEqProofs only[go_sem,↓reduceIte,Tryz.f186]
   repeat'(with_reducible first|intro _|refine And.intro ?_ ?_)
   all_goals try(first|omega|decide)
   rename_i b hb
   refine⟨(k+1,some b),?_⟩
   simp only[hy]
   refine⟨⟨rfl,?_⟩,Heap.le_refl _,⟨by omega,hb⟩,by omega⟩
   rw[IntWalk.i64_in _ aA];rfl
  |some n =>
   rw[aT]at hos
   simp -dsimp -implicitDefEqProofs only[go_sem,↓reduceIte,Tryz.f186,aY,aL,hlt,ea]
   intro _
   first|refine aG.mk (cA a[k] m (ha _ (eF hlt)) hm) ?_|refine aD.mk (cA a[k] m (ha _ (eF hlt)) hm) ?_|refine aG.bC (cA a[k] m (ha _ (eF hlt)) hm) ?_|refine aD.mk (aZ.dB (cA a[k] m (ha _ (eF hlt)) hm)) ?_
   simp -dsimp -implicitDefEqProofs only[go_sem,↓reduceIte,Tryz.f186]
   repeat'(with_reducible first|intro _|refine And.intro ?_ ?_)
   all_goals try(first|omega|decide|exact j4 _)
   rename_i b hb
   refine⟨(k+1,some b),?_⟩
   simp only[hy,aL,aY,aT]
   refine⟨⟨by rw[k8];rfl,?_⟩,?_,⟨by omega,hb.2⟩,by omega⟩
   ·rw[IntWalk.i64_in _ aA];rfl
   ·rw[←fJ];exact mU hos
 ·have hk':k=a.length:=by omega
  subst hk'
  rw[kC aA]at hos ⊢
  cases o with
  |none =>
   rw[bK]at hos
   simp -dsimp -implicitDefEqProofs only[go_sem,↓reduceIte,Tryz.f186,b5,aQ,cV,fW]
   intro _
   rw[hos]
   exact Shift.of (Sub.loose _ _ _) (Heap.le_refl _)
  |some n =>
   rw[aT]at hos
   simp -dsimp -implicitDefEqProofs only[go_sem,↓reduceIte,Tryz.f186,aY,aL,cV,fW]
   intro _
   exact iO _ hos (Heap.le_refl _) rfl
@[go_sem] def a6R:List Nat:=[7,24]
@[go_sem] def a6S:Marks:=λid=>match id with|5=>([11],(.op 0 (.op 1 (.op 2 (.op 3 (.op 4 (.op 5 (.op 6 (.op 7 (.op 8 (.op 9 (.op 10 (.op 11 (.op 12 .nil))))))))))))),[])|_=>([],.nil,[])
theorem xS (a b:List Int) (hab:b.length=a.length) (hl:a.length<=1048576) (ha:gE a) (hb:gE b):eX Tryz.prog 189 [ints a,ints b] (ints (pF a b)):=by
 have hc:=aN9 hab
 refine aBA 27 aVC a6R a6S Tryz.func189 λh=>?_
 simp -dsimp -implicitDefEqProofs only[go_sem,↓reduceIte,Tryz.f189]
 refine⟨b6,?_⟩
 refine dJ aVC a6R a6S (λx:Nat×Option Nat=>[(0,ints a),(1,ints b),(5,iH 1 ((pF a b).take x.1).length x.2),(6,I x.1)]) (λx=>c8 h (.row 1 ((((pF a b).take x.1).map λn=>[I n]).map (List.map .v))) x.2) (λx=>x.1<=a.length/\fM h ((pF a b).take x.1) x.2) (λx=>a.length-x.1) (0,none) ⟨by simp[dM,cE,iH],by simp only[aQ];exact Heap.le_refl _,gM _,by simp[fM]⟩ ?_
 rintro⟨k,o⟩ ⟨hk,hos⟩
 simp only at hk hos ⊢
 rcases cQ k a.length with hlt|hge
 ·have ea:a[k]?=some a[k]:=cP hlt
  have eb:b[k]?=some (b[k]'aA):=cP aA
  have hy:(pF a b).take (k+1)=(pF a b).take k++[(pF a b)[k]'aA]:=pD aA
  have hv:(pF a b)[k]'aA=(a[k]+b[k]'aA)%1000003:=by simp[pF]
  have hlk:((pF a b).take k).length=k:=by rw[qI];omega
  rw[hv]at hy
  cases o with
  |none =>
   rw[bK]at hos
   rw[hos]at hy ⊢
   simp -dsimp -implicitDefEqProofs only[go_sem,↓reduceIte,Tryz.f189,b5,aQ,hlt,ea,eb]
   intro _
   refine⟨by omega,?_⟩
   first|refine aG.mk (iR a[k] (b[k]'aA)) ?_|refine aD.mk (iR a[k] (b[k]'aA)) ?_|refine aG.bC (iR a[k] (b[k]'aA)) ?_|refine aD.mk (aZ.dB (iR a[k] (b[k]'aA))) ?_
   simp -dsimp -implicitDefEqProofs only[go_sem,↓reduceIte,Tryz.f189]
   repeat'(with_reducible first|intro _|refine And.intro ?_ ?_)
   all_goals try(first|omega|decide)
   rename_i b hb
   refine⟨(k+1,some b),?_⟩
   simp only[hy]
   refine⟨⟨rfl,?_⟩,Heap.le_refl _,⟨by omega,hb⟩,by omega⟩
   rw[IntWalk.i64_in _ aA];rfl
  |some n =>
   rw[aT]at hos
   simp -dsimp -implicitDefEqProofs only[go_sem,↓reduceIte,Tryz.f189,aY,aL,hlt,ea,eb]
   intro _
   refine⟨by omega,?_⟩
   first|refine aG.mk (iR a[k] (b[k]'aA)) ?_|refine aD.mk (iR a[k] (b[k]'aA)) ?_|refine aG.bC (iR a[k] (b[k]'aA)) ?_|refine aD.mk (aZ.dB (iR a[k] (b[k]'aA))) ?_
   simp -dsimp -implicitDefEqProofs only[go_sem,↓reduceIte,Tryz.f189]
   repeat'(with_reducible first|intro _|refine And.intro ?_ ?_)
   all_goals try(first|omega|decide|exact j4 _)
   rename_i b hb
   refine⟨(k+1,some b),?_⟩
   simp only[hy,aL,aY,aT]
   refine⟨⟨by rw[k8];rfl,?_⟩,?_,⟨by omega,hb.2⟩,by omega⟩
   ·rw[IntWalk.i64_in _ aA];rfl
   ·rw[←fJ];exact mU hos
 ·have hk':k=a.length:=by omega
  subst hk'
  rw[kC aA]at hos ⊢
  cases o with
  |none =>
   rw[bK]at hos
   simp -dsimp -implicitDefEqProofs only[go_sem,↓reduceIte,Tryz.f189,b5,aQ,cV,fW]
   intro _
   rw[hos]
   exact Shift.of (Sub.loose _ _ _) (Heap.le_refl _)
  |some n =>
   rw[aT]at hos
   simp -dsimp -implicitDefEqProofs only[go_sem,↓reduceIte,Tryz.f189,aY,aL,cV,fW]
   intro _
   exact iO _ hos (Heap.le_refl _) rfl
theorem aLF (a b:List Int) (hab:b.length=a.length) (hl:a.length<=1048576) (ha:gE a) (hb:gE b):eX Tryz.prog 190 [ints a,ints b] (ints (aVO a b)):=by
 refine eJ 9 yW cR cC Tryz.func190 λh=>?_
 simp -dsimp -implicitDefEqProofs only[go_sem,↓reduceIte,Tryz.f190]
 first|refine aG.mk (qE b 1000002 pH aA hb) ?_|refine aD.mk (qE b 1000002 pH aA hb) ?_|refine aG.bC (qE b 1000002 pH aA hb) ?_|refine aD.mk (aZ.dB (qE b 1000002 pH aA hb)) ?_
 simp -dsimp -implicitDefEqProofs only[go_sem,↓reduceIte,Tryz.f190]
 first|refine aG.mk (xS a (mV b 1000002) aMM hl ha (mD _ ⟨rfl,hb⟩).2) ?_|refine aD.mk (xS a (mV b 1000002) aMM hl ha (mD _ ⟨rfl,hb⟩).2) ?_|refine aG.bC (xS a (mV b 1000002) aMM hl ha (mD _ ⟨rfl,hb⟩).2) ?_|refine aD.mk (aZ.dB (xS a (mV b 1000002) aMM hl ha (mD _ ⟨rfl,hb⟩).2)) ?_
 simp -dsimp -implicitDefEqProofs only[go_sem,↓reduceIte,Tryz.f190]
 rfl
@[go_sem] def aEV:List Nat:=[0,1,4,5,6,7,8,13,18]
@[go_sem] def aTP:List Nat:=[9,36]
@[go_sem] def aTQ:Marks:=λid=>match id with|9=>([],(.op 0 (.op 1 (.op 2 (.op 3 (.op 4 (.op 5 (.op 6 (.op 7 (.op 8 (.op 9 (.op 10 (.op 11 (.op 12 (.op 13 .nil)))))))))))))),[])|_=>([],.nil,[])
theorem aLG (a b:List Int) (hab:b.length=a.length) (hl:a.length<=1048576) (ha:gE a) (hb:gE b):eX Tryz.prog 191 [ints a,ints b] (ints (mulL a b)):=by
 have hc:=aOC a b
 refine aBA 39 aEV aTP aTQ Tryz.func191 λh=>?_
 simp -dsimp -implicitDefEqProofs only[go_sem,↓reduceIte,Tryz.f191]
 refine⟨b6,?_⟩
 refine dJ aEV aTP aTQ (λx:Nat×Option Nat=>[(0,ints a),(1,ints b),(5,iH 1 ((mulL a b).take x.1).length x.2),(6,I x.1)]) (λx=>c8 h (.row 1 ((((mulL a b).take x.1).map λn=>[I n]).map (List.map .v))) x.2) (λx=>x.1<=a.length/\fM h ((mulL a b).take x.1) x.2) (λx=>a.length-x.1) (0,none) ⟨by simp[dM,cE,iH],by simp only[aQ];exact Heap.le_refl _,gM _,by simp[fM]⟩ ?_
 rintro⟨k,o⟩ ⟨hk,hos⟩
 simp only at hk hos ⊢
 rcases cQ k a.length with hlt|hge
 ·have hy:(mulL a b).take (k+1)=(mulL a b).take k++[(mulL a b)[k]'aA]:=pD aA
  have hv:(mulL a b)[k]'aA=zX a b k (k+1):=by simp[mulL]
  have hlk:((mulL a b).take k).length=k:=by rw[qI];omega
  rw[hv]at hy
  cases o with
  |none =>
   rw[bK]at hos
   rw[hos]at hy ⊢
   simp -dsimp -implicitDefEqProofs only[go_sem,↓reduceIte,Tryz.f191,b5,aQ,hlt]
   intro _
   refine zW aEV aTP aTQ (λi:Nat=>[(0,ints a),(1,ints b),(5,.sl 1 [] true),(6,I k),(7,I (zX a b k i)),(8,I i)]) (λi=>i<=k+1) (λi=>k+1-i) 0 ⟨by simp[dM,cE,zX],gM _⟩ ?_
   intro i hi
   rcases cQ i (k+1)with vO|aVN
   ·have ea:=dV (l:=a) (i:=i) aA
    have eb:=dV (l:=b) (i:=k-i) aA
    have ew:IntKind.i64.wrap ((k:Int)-(i:Int))=((k-i:Nat):Int):=by rw[IntWalk.i64_in _ aA];omega
    simp -dsimp -implicitDefEqProofs only[go_sem,↓reduceIte,Tryz.f191,ea,eb,ew]
    refine⟨λ_=>⟨by omega,by omega,?_⟩,λq=>absurd aA q⟩
    first|refine aG.mk (cA (a.getD i 0) (b.getD (k-i) 0) (ha.get i) (hb.get (k-i))) ?_|refine aD.mk (cA (a.getD i 0) (b.getD (k-i) 0) (ha.get i) (hb.get (k-i))) ?_|refine aG.bC (cA (a.getD i 0) (b.getD (k-i) 0) (ha.get i) (hb.get (k-i))) ?_|refine aD.mk (aZ.dB (cA (a.getD i 0) (b.getD (k-i) 0) (ha.get i) (hb.get (k-i)))) ?_
    simp -dsimp -implicitDefEqProofs only[go_sem,↓reduceIte,Tryz.f191]
    first|refine aG.mk (iR (zX a b k i) (a.getD i 0*b.getD (k-i) 0%1000003)) ?_|refine aD.mk (iR (zX a b k i) (a.getD i 0*b.getD (k-i) 0%1000003)) ?_|refine aG.bC (iR (zX a b k i) (a.getD i 0*b.getD (k-i) 0%1000003)) ?_|refine aD.mk (aZ.dB (iR (zX a b k i) (a.getD i 0*b.getD (k-i) 0%1000003))) ?_
    simp -dsimp -implicitDefEqProofs only[go_sem,↓reduceIte,Tryz.f191]
    refine⟨i+1,⟨?_,by rw[IntWalk.i64_in _ aA];rfl⟩,by omega,by omega⟩
    rw[zX]
    omega
   ·have hi':i=k+1:=by omega
    subst hi'
    simp -dsimp -implicitDefEqProofs only[go_sem,↓reduceIte,Tryz.f191,hlt]
    refine⟨λq=>absurd q aA,λ_=>?_⟩
    repeat'(with_reducible first|intro _|refine And.intro ?_ ?_)
    all_goals try(first|omega|decide)
    rename_i b hb
    refine⟨(k+1,some b),?_⟩
    simp only[hy]
    refine⟨⟨rfl,?_⟩,Heap.le_refl _,⟨by omega,hb⟩,by omega⟩
    rw[IntWalk.i64_in _ aA];rfl
  |some n =>
   rw[aT]at hos
   simp -dsimp -implicitDefEqProofs only[go_sem,↓reduceIte,Tryz.f191,aY,aL,hlt]
   intro _
   refine zW aEV aTP aTQ (λi:Nat=>[(0,ints a),(1,ints b),(5,.os n 1 0 ((mulL a b).take k).length),(6,I k),(7,I (zX a b k i)),(8,I i)]) (λi=>i<=k+1) (λi=>k+1-i) 0 ⟨by simp[dM,cE,zX],gM _⟩ ?_
   intro i hi
   rcases cQ i (k+1)with vO|aVN
   ·have ea:=dV (l:=a) (i:=i) aA
    have eb:=dV (l:=b) (i:=k-i) aA
    have ew:IntKind.i64.wrap ((k:Int)-(i:Int))=((k-i:Nat):Int):=by rw[IntWalk.i64_in _ aA];omega
    simp -dsimp -implicitDefEqProofs only[go_sem,↓reduceIte,Tryz.f191,ea,eb,ew]
    refine⟨λ_=>⟨by omega,by omega,?_⟩,λq=>absurd aA q⟩
    first|refine aG.mk (cA (a.getD i 0) (b.getD (k-i) 0) (ha.get i) (hb.get (k-i))) ?_|refine aD.mk (cA (a.getD i 0) (b.getD (k-i) 0) (ha.get i) (hb.get (k-i))) ?_|refine aG.bC (cA (a.getD i 0) (b.getD (k-i) 0) (ha.get i) (hb.get (k-i))) ?_|refine aD.mk (aZ.dB (cA (a.getD i 0) (b.getD (k-i) 0) (ha.get i) (hb.get (k-i)))) ?_
    simp -dsimp -implicitDefEqProofs only[go_sem,↓reduceIte,Tryz.f191]
    first|refine aG.mk (iR (zX a b k i) (a.getD i 0*b.getD (k-i) 0%1000003)) ?_|refine aD.mk (iR (zX a b k i) (a.getD i 0*b.getD (k-i) 0%1000003)) ?_|refine aG.bC (iR (zX a b k i) (a.getD i 0*b.getD (k-i) 0%1000003)) ?_|refine aD.mk (aZ.dB (iR (zX a b k i) (a.getD i 0*b.getD (k-i) 0%1000003))) ?_
    simp -dsimp -implicitDefEqProofs only[go_sem,↓reduceIte,Tryz.f191]
    refine⟨i+1,⟨?_,by rw[IntWalk.i64_in _ aA];rfl⟩,by omega,by omega⟩
    rw[zX]
    omega
   ·have hi':i=k+1:=by omega
    subst hi'
    simp -dsimp -implicitDefEqProofs only[go_sem,↓reduceIte,Tryz.f191,hlt]
    refine⟨λq=>absurd q aA,λ_=>?_⟩
    repeat'(with_reducible first|intro _|refine And.intro ?_ ?_)
    all_goals try(first|omega|decide|exact j4 _)
    rename_i b hb
    refine⟨(k+1,some b),?_⟩
    simp only[hy,aL,aY,aT]
    refine⟨⟨by rw[k8];rfl,?_⟩,?_,⟨by omega,hb.2⟩,by omega⟩
    ·rw[IntWalk.i64_in _ aA];rfl
    ·rw[←fJ];exact mU hos
 ·have hk':k=a.length:=by omega
  subst hk'
  rw[kC aA]at hos ⊢
  cases o with
  |none =>
   rw[bK]at hos
   simp -dsimp -implicitDefEqProofs only[go_sem,↓reduceIte,Tryz.f191,b5,aQ,cV,fW]
   intro _
   rw[hos]
   exact Shift.of (Sub.loose _ _ _) (Heap.le_refl _)
  |some n =>
   rw[aT]at hos
   simp -dsimp -implicitDefEqProofs only[go_sem,↓reduceIte,Tryz.f191,aY,aL,cV,fW]
   intro _
   exact iO _ hos (Heap.le_refl _) rfl
@[go_sem] def aEW:List Nat:=[0,1,4,5,6,7,8,9,18,27]
@[go_sem] def aTR:List Nat:=[10,47]
@[go_sem] def aTS:Marks:=λid=>match id with|10=>([4],(.op 0 (.op 1 (.op 2 (.op 3 (.op 5 (.op 6 (.op 7 (.op 8 (.op 9 (.op 10 (.op 4 (.op 11 (.op 12 (.op 13 .nil)))))))))))))),[])|_=>([],.nil,[])
theorem a88 (a b:List Int) (hab:b.length=a.length) (hl:a.length<=1048576) (h0:0<a.length) (ha:gE a) (hb:gE b):eX Tryz.prog 192 [ints a,ints b] (ints (nN a b)):=by
 have hc:=uP a b
 have e0:b[Int.toNat 0]?=some (b.getD 0 0):=dV (l:=b) (i:=0) aA
 refine aBA 50 aEW aTR aTS Tryz.func192 λh=>?_
 simp -dsimp -implicitDefEqProofs only[go_sem,↓reduceIte,Tryz.f192,e0]
 refine⟨b6,by omega,?_⟩
 first|refine aG.mk (aLE (b.getD 0 0)) ?_|refine aD.mk (aLE (b.getD 0 0)) ?_|refine aG.bC (aLE (b.getD 0 0)) ?_|refine aD.mk (aZ.dB (aLE (b.getD 0 0))) ?_
 simp -dsimp -implicitDefEqProofs only[go_sem,↓reduceIte,Tryz.f192]
 refine dJ aEW aTR aTS (λx:Nat×Option Nat=>[(0,ints a),(1,ints b),(6,I (qC (b.getD 0 0))),(5,iH 1 ((nN a b).take x.1).length x.2),(7,I x.1)]) (λx=>c8 h (.row 1 ((((nN a b).take x.1).map λn=>[I n]).map (List.map .v))) x.2) (λx=>x.1<=a.length/\fM h ((nN a b).take x.1) x.2) (λx=>a.length-x.1) (0,none) ⟨by simp[dM,cE,iH],by simp only[aQ];exact Heap.le_refl _,gM _,by simp[fM]⟩ ?_
 rintro⟨k,o⟩ ⟨hk,hos⟩
 simp only at hk hos ⊢
 rcases cQ k a.length with hlt|hge
 ·have hy:(nN a b).take (k+1)=(nN a b).take k++[(nN a b)[k]'aA]:=pD aA
  have hv:=aOB (a:=a) (b:=b) hlt
  have hlk:((nN a b).take k).length=k:=by rw[qI];omega
  have ek:=dV hlt
  rw[hv]at hy
  cases o with
  |none =>
   rw[bK]at hos
   rw[hos]at hy ⊢
   have hk0:k=0:=by rw[hos]at hlk;exact hlk.symm
   subst hk0
   simp -dsimp -implicitDefEqProofs only[go_sem,↓reduceIte,Tryz.f192,b5,aQ,hlt,ek]
   intro _
   refine zW aEW aTR aTS (λ_:Unit=>[(0,ints a),(1,ints b),(5,.sl 1 [] true),(6,I (qC (b.getD 0 0))),(7,I (0:Nat)),(8,I (a.getD 0 0)),(9,I (0:Nat))]) (λ_=>True) (λ_=>0) () ⟨by simp[dM,cE],trivial⟩ ?_
   intro _ _
   simp -dsimp -implicitDefEqProofs only[go_sem,↓reduceIte,Tryz.f192,cV,fW]
   try(refine⟨λq=>absurd q aA,λ_=>?_⟩)
   first|refine aG.mk (cA (a.getD 0 0) (qC (b.getD 0 0)) (ha.get 0) (num_inv _)) ?_|refine aD.mk (cA (a.getD 0 0) (qC (b.getD 0 0)) (ha.get 0) (num_inv _)) ?_|refine aG.bC (cA (a.getD 0 0) (qC (b.getD 0 0)) (ha.get 0) (num_inv _)) ?_|refine aD.mk (aZ.dB (cA (a.getD 0 0) (qC (b.getD 0 0)) (ha.get 0) (num_inv _))) ?_
   simp -dsimp -implicitDefEqProofs only[go_sem,↓reduceIte,Tryz.f192]
   repeat'(with_reducible first|intro _|refine And.intro ?_ ?_)
   all_goals try(first|omega|decide)
   rename_i b hb
   refine⟨(0+1,some b),?_⟩
   simp only[hy]
   refine⟨⟨rfl,?_⟩,Heap.le_refl _,⟨by omega,hb⟩,by omega⟩
   rw[IntWalk.i64_in _ aA];rfl
  |some n =>
   rw[aT]at hos
   simp -dsimp -implicitDefEqProofs only[go_sem,↓reduceIte,Tryz.f192,aY,aL,hlt,ek]
   intro _
   have htk:(nN a b).take k=jN a b k:=aC0 a b _ hk
   refine zW aEW aTR aTS (λi:Nat=>[(0,ints a),(1,ints b),(5,.os n 1 0 ((nN a b).take k).length),(6,I (qC (b.getD 0 0))),(7,I k),(8,I (dvS (jN a b k) b k (a.getD k 0) i)),(9,I i)]) (λi=>i<=k) (λi=>k-i) 0 ⟨by simp[dM,cE,dvS],gM _⟩ ?_
   intro i hi
   rcases cQ i k with vO|aVN
   ·have ei:((nN a b).take k)[i]?=some ((jN a b k).getD i 0):=by rw[htk];exact dV (by rw[nB];exact vO)
    have eb:=dV (l:=b) (i:=k-i) aA
    have ew:IntKind.i64.wrap ((k:Int)-(i:Int))=((k-i:Nat):Int):=by rw[IntWalk.i64_in _ aA];omega
    simp -dsimp -implicitDefEqProofs only[go_sem,↓reduceIte,Tryz.f192,vO,ei,eb,ew]
    refine⟨by omega,by omega,?_⟩
    first|refine aG.mk (cA ((jN a b k).getD i 0) (b.getD (k-i) 0) ((sE a b k).get i) (hb.get (k-i))) ?_|refine aD.mk (cA ((jN a b k).getD i 0) (b.getD (k-i) 0) ((sE a b k).get i) (hb.get (k-i))) ?_|refine aG.bC (cA ((jN a b k).getD i 0) (b.getD (k-i) 0) ((sE a b k).get i) (hb.get (k-i))) ?_|refine aD.mk (aZ.dB (cA ((jN a b k).getD i 0) (b.getD (k-i) 0) ((sE a b k).get i) (hb.get (k-i)))) ?_
    simp -dsimp -implicitDefEqProofs only[go_sem,↓reduceIte,Tryz.f192]
    first|refine aG.mk (aBW (dvS (jN a b k) b k (a.getD k 0) i) ((jN a b k).getD i 0*b.getD (k-i) 0%1000003) (vQ _ _ _ (ha.get k) i) (oW _)) ?_|refine aD.mk (aBW (dvS (jN a b k) b k (a.getD k 0) i) ((jN a b k).getD i 0*b.getD (k-i) 0%1000003) (vQ _ _ _ (ha.get k) i) (oW _)) ?_|refine aG.bC (aBW (dvS (jN a b k) b k (a.getD k 0) i) ((jN a b k).getD i 0*b.getD (k-i) 0%1000003) (vQ _ _ _ (ha.get k) i) (oW _)) ?_|refine aD.mk (aZ.dB (aBW (dvS (jN a b k) b k (a.getD k 0) i) ((jN a b k).getD i 0*b.getD (k-i) 0%1000003) (vQ _ _ _ (ha.get k) i) (oW _))) ?_
    simp -dsimp -implicitDefEqProofs only[go_sem,↓reduceIte,Tryz.f192]
    refine⟨i+1,⟨?_,by rw[IntWalk.i64_in _ aA];rfl⟩,by omega,by omega⟩
    rw[dvS]
    omega
   ·have hi':i=k:=by omega
    subst hi'
    simp -dsimp -implicitDefEqProofs only[go_sem,↓reduceIte,Tryz.f192,cV,fW]
    first|refine aG.mk (cA (dvS (jN a b i) b i (a.getD i 0) i) (qC (b.getD 0 0)) (vQ _ _ _ (ha.get i) i) (num_inv _)) ?_|refine aD.mk (cA (dvS (jN a b i) b i (a.getD i 0) i) (qC (b.getD 0 0)) (vQ _ _ _ (ha.get i) i) (num_inv _)) ?_|refine aG.bC (cA (dvS (jN a b i) b i (a.getD i 0) i) (qC (b.getD 0 0)) (vQ _ _ _ (ha.get i) i) (num_inv _)) ?_|refine aD.mk (aZ.dB (cA (dvS (jN a b i) b i (a.getD i 0) i) (qC (b.getD 0 0)) (vQ _ _ _ (ha.get i) i) (num_inv _))) ?_
    simp -dsimp -implicitDefEqProofs only[go_sem,↓reduceIte,Tryz.f192]
    repeat'(with_reducible first|intro _|refine And.intro ?_ ?_)
    all_goals try(first|omega|decide|exact j4 _)
    rename_i b hb
    refine⟨(i+1,some b),?_⟩
    simp only[hy,aL,aY,aT]
    refine⟨⟨by rw[k8];rfl,?_⟩,?_,⟨by omega,hb.2⟩,by omega⟩
    ·rw[IntWalk.i64_in _ aA];rfl
    ·rw[←fJ];exact mU hos
 ·have hk':k=a.length:=by omega
  subst hk'
  rw[kC aA]at hos ⊢
  cases o with
  |none =>
   rw[bK]at hos
   simp -dsimp -implicitDefEqProofs only[go_sem,↓reduceIte,Tryz.f192,b5,aQ,cV,fW]
   intro _
   rw[hos]
   exact Shift.of (Sub.loose _ _ _) (Heap.le_refl _)
  |some n =>
   rw[aT]at hos
   simp -dsimp -implicitDefEqProofs only[go_sem,↓reduceIte,Tryz.f192,aY,aL,cV,fW]
   intro _
   exact iO _ hos (Heap.le_refl _) rfl
theorem s9 {h h':Heap} {n:Nat} (l:List (List Int)) (h0:h n=none) (hl:(aR h n (.row 1 ((l.map λs=>[ints s]).map (List.map .v)))).le h') {len:Nat} (e:len=l.length):Shift (.os n 1 0 len) h' (eQ 1 (λs=>[ints s]) l) h :=
 yA (l.map λs=>[ints s]) h0 hl len (by rw[iG];exact e)
@[go_sem] def a6T:List Nat:=[7,19,23]
theorem aLH (env:List (List Int)) (s:List Int) (hl:env.length<=1048576):eX Tryz.prog 187 [eQ 1 (λs=>[ints s]) env,ints s] (eQ 1 (λs=>[ints s]) (env++[s])):=by
 refine aBA 25 aVC a6T cC Tryz.func187 λh=>?_
 simp -dsimp -implicitDefEqProofs only[go_sem,↓reduceIte,Tryz.f187]
 refine⟨b6,?_⟩
 refine dJ aVC a6T cC (λx:Nat×Option Nat=>[(0,eQ 1 (λs=>[ints s]) env),(1,ints s),(5,iH 1 (env.take x.1).length x.2),(6,I x.1)]) (λx=>c8 h (.row 1 (((env.take x.1).map λs=>[ints s]).map (List.map .v))) x.2) (λx=>x.1<=env.length/\fM h (env.take x.1) x.2) (λx=>env.length-x.1) (0,none) ⟨by simp[dM,cE,iH],by simp only[aQ];exact Heap.le_refl _,gM _,by simp[fM]⟩ ?_
 rintro⟨k,o⟩ ⟨hk,hos⟩
 simp only at hk hos ⊢
 rcases cQ k env.length with hlt|hge
 ·have ea:env[k]?=some env[k]:=cP hlt
  have hy:env.take (k+1)=env.take k++[env[k]]:=pD hlt
  have hlk:(env.take k).length=k:=by rw[qI];omega
  cases o with
  |none =>
   rw[bK]at hos
   rw[hos]at hy ⊢
   simp -dsimp -implicitDefEqProofs only[go_sem,↓reduceIte,Tryz.f187,b5,aQ,hlt,ea]
   intro _
   repeat'(with_reducible first|intro _|refine And.intro ?_ ?_)
   all_goals try(first|omega|decide)
   rename_i b hb
   refine⟨(k+1,some b),?_⟩
   simp only[hy]
   refine⟨⟨rfl,?_⟩,Heap.le_refl _,⟨by omega,hb⟩,by omega⟩
   rw[IntWalk.i64_in _ aA];rfl
  |some n =>
   rw[aT]at hos
   simp -dsimp -implicitDefEqProofs only[go_sem,↓reduceIte,Tryz.f187,aY,aL,hlt,ea]
   intro _
   repeat'(with_reducible first|intro _|refine And.intro ?_ ?_)
   all_goals try(first|omega|decide|exact j4 _)
   rename_i b hb
   refine⟨(k+1,some b),?_⟩
   simp only[hy,aL,aY,aT]
   refine⟨⟨by rw[k8];rfl,?_⟩,?_,⟨by omega,hb.2⟩,by omega⟩
   ·rw[IntWalk.i64_in _ aA];rfl
   ·rw[←fJ];exact mU hos
 ·have hk':k=env.length:=by omega
  subst hk'
  rw[jG]at hos ⊢
  cases o with
  |none =>
   rw[bK]at hos
   simp -dsimp -implicitDefEqProofs only[go_sem,↓reduceIte,Tryz.f187,b5,aQ,cV,fW]
   subst hos
   exact λ_=>⟨b6,b6,b6,λn hn=>s9 [s] hn (Heap.le_refl _) rfl⟩
  |some n =>
   rw[aT]at hos
   simp -dsimp -implicitDefEqProofs only[go_sem,↓reduceIte,Tryz.f187,aY,aL,cV,fW]
   exact λ_=>⟨b6,b6,b6,j4 _,by omega,by omega,λm hm=>s9 (env++[s]) hm.2 (by rw[←fJ];exact mU hos) (by rw[k8];rfl)⟩
def dO (p:aF) (sz st:Nat) (c:Int):bW:=.row 4 [[.v (.ip 1 [p.c] 0 0),.v (I sz),.v (I st),.v (I c)]]
def RnQ (h:Heap) (nb:Nat) (p:aF) (sz st:Nat) (c:Int) (X:Out (List Int)):aC->Heap->Prop:=λr h'=>∃ s t c',r=ints s/\h'=aR h nb (dO p sz t c')/\cG sz s/\st<=t/\t<=3000/\gZ (mW c X) s t c'
def bK9 (h:Heap) (nb:Nat) (p:aF) (sz st:Nat) (c:Int) (n:Nat) (X:Out (List (List Int))):aC->Heap->Prop:=λr h'=>∃ l t c',r=dX l/\h'=aR h nb (dO p sz t c')/\l.length=n/\(∀ s∈l,cG sz s)/\st<=t/\t<=3000/\gZ (mW c X) l t c'
@[go_sem] def a3T:List Nat:=[0,1,4,9]
theorem aTT (h:Heap) (nb:Nat) (p:aF) (sz st:Nat) (c d:Int) (hb:h nb=some (dO p sz st c)) (hsz:sz<=1048576):fH Tryz.prog 185 [.op nb 4 0 0,I d] h λr h'=>r=ints (l6 0 sz)/\h'=aR h nb (dO p sz st (if c=0 then d else c)):=by
 have hb':=hb
 unfold dO at hb'
 refine aGC 19 a3T cR cC Tryz.func185 ?_
 simp -dsimp -implicitDefEqProofs only[go_sem,↓reduceIte,Tryz.f185,hb']
 refine⟨λhc=>?_,λhc=>?_⟩
 ·try simp -dsimp -implicitDefEqProofs only[go_sem,↓reduceIte,Tryz.f185]
  first|refine aG.mk (lB 0 sz hsz) ?_|refine aD.mk (lB 0 sz hsz) ?_|refine aG.bC (lB 0 sz hsz) ?_|refine aD.mk (aZ.dB (lB 0 sz hsz)) ?_
  simp -dsimp -implicitDefEqProofs only[go_sem,↓reduceIte,Tryz.f185]
  exact⟨_,by rw[if_pos hc];exact Heap.le_refl _,rfl⟩
 ·try simp -dsimp -implicitDefEqProofs only[go_sem,↓reduceIte,Tryz.f185,hb']
  first|refine aG.mk (lB 0 sz hsz) ?_|refine aD.mk (lB 0 sz hsz) ?_|refine aG.bC (lB 0 sz hsz) ?_|refine aD.mk (aZ.dB (lB 0 sz hsz)) ?_
  simp -dsimp -implicitDefEqProofs only[go_sem,↓reduceIte,Tryz.f185]
  refine⟨_,?_,rfl⟩
  rw[if_neg hc,qA hb]
  exact Heap.le_refl _
@[go_sem] def nH:List Nat:=[0,1,2,6,7,8,9,14,25,38,39,50,59,70,82,99,119,142,151,160,169]
@[go_sem] def wP:Marks:=λid=>match id with|8=>([7,8],(.op 0 (.op 1 (.op 2 (.op 3 (.op 4 (.op 5 (.op 6 (.op 7 (.op 8 (.op 9 .nil)))))))))),[])|19=>([8,9],(.op 0 (.op 1 (.op 2 (.op 3 (.op 4 (.op 5 (.op 6 (.op 7 (.op 8 (.op 9 (.op 10 .nil))))))))))),[])|_=>([],.nil,[])
def qF (p:aF) (sz n:Nat):Prop:=∀ (h:Heap) (nb st:Nat) (c:Int) (e:aB) (env:List (List Int)) (funcs:Int),h nb=some (dO p sz st c)->st<=3000->3001<=n+st->e.ok p funcs env.length->0<=funcs->funcs<=p.aI.length->(∀ s∈env,cG sz s)->env.length<=412+st ->
 fH Tryz.prog 169 [.op nb 4 0 0,.ip 5 [e.c] 0 0,dX env] h (RnQ h nb p sz st c (gR p sz n st e env))
theorem a89 {l:List aB} {k:Nat} {x:aB} (h:l[k]?=some x) (i:Nat) (hi:i=k):Sub (.ip 5 (l.map aB.c) i 0) (.ip 5 [x.c] 0 0):=by
 subst hi
 exact Sub.ip (by rw[nI,h];rfl) cK
theorem qF.at {p:aF} {sz n:Nat} (hv:qF p sz n) {l:List aB} {i:Nat} {e:aB} (hi:l[i]?=some e) (h:Heap) (nb st:Nat) (c:Int) (env:List (List Int)) (funcs:Int) (hb:h nb=some (dO p sz st c)) (hst:st<=3000) (hn:3001<=n+st) (hok:e.ok p funcs env.length) (eP:0<=funcs) (hf:funcs<=p.aI.length) (henv:∀ s∈env,cG sz s) (hel:env.length<=412+st) :
  fH Tryz.prog 169 [.op nb 4 0 0,.ip 5 (l.map aB.c) i 0,dX env] h (RnQ h nb p sz st c (gR p sz n st e env)) :=
 fH.sub (.cons (.refl _) (.cons (a89 hi _ rfl) (.cons (.refl _) .nil))) (hv h nb st c e env funcs hb hst hn hok eP hf henv hel)
@[go_sem] def aTU:List Nat:=[0,1,2,6,7,8,16]
@[go_sem] def a6U:List Nat:=[9,29]
theorem aLI {p:aF} {sz n:Nat} (hv:qF p sz n) (h:Heap) (nb st:Nat) (c:Int) (f:aV) (env:List (List Int)) (funcs:Int) (hb:h nb=some (dO p sz st c)) (hst:st<=3000) (hn:3001<=n+st)
  (hl:f.aO.length<=1048576) (hok:∀ e∈f.aO,e.ok p funcs env.length) (eP:0<=funcs) (hf:funcs<=p.aI.length) (henv:∀ s∈env,cG sz s) (hel:env.length<=412+st) :
  fH Tryz.prog 122 [.op nb 4 0 0,.ip 3 [f.c] 0 0,dX env] h (bK9 h nb p sz st c f.aO.length (kJ (λt e=>gR p sz n t e env) f.aO st)):=by
 rw[aV.aU]
 refine gG 32 aTU a6U cC Tryz.func122 ?_
 simp -dsimp -implicitDefEqProofs only[go_sem,↓reduceIte,Tryz.f122]
 refine⟨b6,?_⟩
 refine dJ aTU a6U cC (λx:Nat×List (List Int)×Nat×Int×Option Nat=>[(0,.op nb 4 0 0),(1,.ip 3 [[.str f.jX,I f.bB,eQ 5 aB.c f.aO]] 0 0),(2,dX env),(7,iH 1 x.2.1.length x.2.2.2.2),(8,I x.1)]) (λx=>c8 (aR h nb (dO p sz x.2.2.1 x.2.2.2.1)) (.row 1 ((x.2.1.map λs=>[ints s]).map (List.map .v))) x.2.2.2.2) (λx=>x.1<=f.aO.length/\x.2.1.length=x.1/\(∀ s∈x.2.1,cG sz s)/\st<=x.2.2.1/\x.2.2.1<=3000/\gZ (mW c (kJ (λt e=>gR p sz n t e env) (f.aO.take x.1) st)) x.2.1 x.2.2.1 x.2.2.2.1/\fM h x.2.1 x.2.2.2.2) (λx=>f.aO.length-x.1) (0,[],st,c,none) ⟨by simp[dM,cE,iH],by simp only[aQ];rw[qA hb];exact Heap.le_refl _,gM _,rfl,by simp,j4 _,hst,fI _ _ _,rfl⟩ ?_
 rintro⟨k,vs,t,c',o⟩ ⟨hk,hvl,hvs,ht0,ht,ho,hos⟩
 simp only at hk hvl hvs ht0 ht ho hos ⊢
 rcases cQ k f.aO.length with hlt|hge
 ·have ek:f.aO[k]?=some f.aO[k]:=cP hlt
  have hnext:∀ (s:List Int) (t2:Nat) (c2:Int),gZ (mW c' (gR p sz n t f.aO[k] env)) s t2 c2->gZ (mW c (kJ (λt e=>gR p sz n t e env) (f.aO.take (k+1)) st)) (vs++[s]) t2 c2:=λs t2 c2 h3=>by
   rw[pD hlt,uO]
   exact ho.dA (h3.dA (fI _ _ _))
  have hall:∀ s,cG sz s->∀ x∈vs++[s],cG sz x:=λs hs=>sF hvs hs
  cases o with
  |none =>
   rw[bK]at hos
   subst hos
   simp -dsimp -implicitDefEqProofs only[go_sem,↓reduceIte,Tryz.f122,b5,aQ,hlt,ek]
   intro _
   refine aG.eH (hv.at ek (aR h nb (dO p sz t c')) nb t c' env funcs (aH _ _ _) ht aA (hok _ (eF _)) eP hf henv aA) ?_
   rintro r h' ⟨s,t2,c2,rfl,rfl,hs,h1,h2,h3⟩
   simp -dsimp -implicitDefEqProofs only[go_sem,↓reduceIte,Tryz.f122]
   refine⟨b6,b6,b6,?_⟩
   intro b q_b
   obtain⟨gU,cN,cM,iV⟩:=c7 (show ¬b=nb from zH q_b)
   have z_b:h b=none:=zH q_b
   refine⟨(k+1,[s],t2,c2,some b),⟨rfl,by rw[IntWalk.i64_in _ aA];rfl⟩,(gF a7M),⟨by omega,by simp only[yZ]at hvl;subst hvl;rfl,λx hx=>hall s hs x hx,aD2 ht0 h1,h2,hnext s t2 c2 h3,z_b⟩,by simp only;omega⟩
  |some m =>
   rw[aT]at hos
   obtain⟨jI,dG,dF,iA⟩:=c7 (show ¬m=nb from λe=>by rw[e,hb]at hos;cases hos)
   simp -dsimp -implicitDefEqProofs only[go_sem,↓reduceIte,Tryz.f122,aY,aL,hlt,ek]
   intro _
   refine aG.eH (hv.at ek (aR (aR h nb (dO p sz t c')) m (.row 1 ((vs.map λs=>[ints s]).map (List.map .v)))) nb t c' env funcs aMK ht aA (hok _ (eF _)) eP hf henv aA) ?_
   rintro r h' ⟨s,t2,c2,rfl,rfl,hs,h1,h2,h3⟩
   simp -dsimp -implicitDefEqProofs only[go_sem,↓reduceIte,Tryz.f122,aE,dG,dF]
   refine⟨b6,b6,b6,j4 _,by omega,by omega,?_⟩
   intro b q_b
   obtain⟨gU,cN,cM,iV⟩:=c7 (show ¬b=nb from zH q_b)
   obtain⟨xQ,l0,lY,xR⟩:=c7 (show ¬b=m from zH q_b)
   have z_b:h b=none:=zH q_b
   refine⟨(k+1,vs++[s],t2,c2,some b),⟨by rw[aY,k8];rfl,by rw[IntWalk.i64_in _ aA];rfl⟩,?_,⟨by omega,by rw[k8,hvl];rfl,hall s hs,aD2 ht0 h1,h2,hnext s t2 c2 h3,z_b⟩,by simp only;omega⟩
   simp only[aL]
   rw[←fJ ints]
   exact(gF a7L)
 ·have hk':k=f.aO.length:=by omega
  subst hk'
  rw[jG]at ho
  cases o with
  |none =>
   rw[bK]at hos
   subst hos
   simp -dsimp -implicitDefEqProofs only[go_sem,↓reduceIte,Tryz.f122,b5,aQ,cV,fW]
   intro _
   exact⟨dX [],_,Shift.of (Sub.loose _ _ _) (Heap.le_refl _),[],t,c',rfl,rfl,hvl,hvs,ht0,ht,ho⟩
  |some m =>
   rw[aT]at hos
   simp -dsimp -implicitDefEqProofs only[go_sem,↓reduceIte,Tryz.f122,aY,aL,cV,fW]
   intro _
   have hmn:¬m=nb:=λe=>by rw[e,hb]at hos;cases hos
   exact⟨dX vs,_,yA (vs.map λs=>[ints s]) (h:=aR h nb (dO p sz t c')) (by rw[aE _ _ _ _ hmn,hos]) (Heap.le_refl _) _ aMP,vs,t,c',rfl,rfl,hvl,hvs,ht0,ht,ho⟩
@[go_sem] def aBX:List Nat:=[0,1,2,6,7,8,9,10,18,49,67]
@[go_sem] def aOH:List Nat:=[11,31]
@[go_sem] def aOI:Marks:=λid=>match id with|6=>([3],(.op 0 (.op 1 (.op 2 (.op 7 (.op 8 (.op 9 (.op 10 (.op 3 (.op 4 (.op 5 (.op 6 (.op 11 (.op 12 .nil))))))))))))),[])|8=>([11],(.op 0 (.op 1 (.op 2 (.op 3 (.op 4 (.op 5 (.op 6 (.op 7 (.op 8 (.op 9 (.op 10 (.op 11 (.op 12 .nil))))))))))))),[])|_=>([],.nil,[])
theorem a3U {p:aF} (hp:p.ok) {sz n:Nat} (hv:qF p sz n) (h:Heap) (nb st:Nat) (e:aB) (env:List (List Int)) (funcs:Int) (hb:h nb=some (dO p sz st 0)) (hst:st<=3000) (hn:3001<=n+st) (hok:e.ok p funcs env.length) (eP:0<=funcs) (hf:funcs<=p.aI.length) (henv:∀ s∈env,cG sz s) (hel:env.length<=412+st) (hk:e.aN=10) :
  fH Tryz.prog 188 [.op nb 4 0 0,.ip 5 [e.c] 0 0,dX env] h (RnQ h nb p sz st 0 ((kJ (λt e=>gR p sz n t e env) e.aK st).andThen λvs t=>gR p sz n t (p.out e.aX e.cF) vs)):=by
 obtain⟨f,F⟩:=lP hp hok hf (.inl hk)
 have f1:=F.lo
 have f2:=F.hi
 have f3:=F.pk
 have f4:=F.pk2
 have f5:=F.kids
 have f6:=F.params
 have f8:=F.outs
 have f9:=F.loop
 have hkok:=eA hok aA
 rw[aB.aU]
 refine gG 81 aBX aOH aOI Tryz.func188 ?_
 simp -dsimp -implicitDefEqProofs only[go_sem,↓reduceIte,Tryz.f188]
 refine⟨b6,?_⟩
 refine dJ aBX aOH aOI (λx:Nat×List (List Int)×Nat×Int×Option Nat=>[(0,.op nb 4 0 0),(1,.ip 5 [[I e.aN,I e.aX,I e.cF,I e.b7,eQ 5 aB.c e.aK]] 0 0),(2,dX env),(7,iH 1 x.2.1.length x.2.2.2.2),(8,I x.1)]) (λx=>c8 (aR h nb (dO p sz x.2.2.1 x.2.2.2.1)) (.row 1 ((x.2.1.map λs=>[ints s]).map (List.map .v))) x.2.2.2.2) (λx=>x.1<=e.aK.length/\x.2.1.length=x.1/\(∀ s∈x.2.1,cG sz s)/\st<=x.2.2.1/\x.2.2.1<=3000/\gZ (mW 0 (kJ (λt e=>gR p sz n t e env) (e.aK.take x.1) st)) x.2.1 x.2.2.1 x.2.2.2.1/\fM h x.2.1 x.2.2.2.2) (λx=>e.aK.length-x.1) (0,[],st,0,none) ⟨by simp[dM,cE,iH],by simp only[aQ];rw[qA hb];exact Heap.le_refl _,gM _,rfl,by simp,j4 _,hst,fI _ _ _,rfl⟩ ?_
 rintro⟨k,vs,t,c',o⟩ ⟨hk2,hvl,hvs,ht0,ht,ho,hos⟩
 simp only at hk2 hvl hvs ht0 ht ho hos ⊢
 rcases cQ k e.aK.length with hlt|hge
 ·have ek:e.aK[k]?=some e.aK[k]:=cP hlt
  have hnext:∀ (s:List Int) (t2:Nat) (c2:Int),gZ (mW c' (gR p sz n t e.aK[k] env)) s t2 c2->gZ (mW 0 (kJ (λt e=>gR p sz n t e env) (e.aK.take (k+1)) st)) (vs++[s]) t2 c2:=λs t2 c2 h3=>by
   rw[pD hlt,uO]
   exact ho.dA (h3.dA (fI _ _ _))
  have hall:∀ s,cG sz s->∀ x∈vs++[s],cG sz x:=λs hs=>sF hvs hs
  cases o with
  |none =>
   rw[bK]at hos
   subst hos
   simp -dsimp -implicitDefEqProofs only[go_sem,↓reduceIte,Tryz.f188,b5,aQ,hlt,ek]
   intro _
   refine aG.eH (hv.at ek (aR h nb (dO p sz t c')) nb t c' env funcs (aH _ _ _) ht aA (hkok _ (eF _)) eP hf henv aA) ?_
   rintro r h' ⟨s,t2,c2,rfl,rfl,hs,h1,h2,h3⟩
   simp -dsimp -implicitDefEqProofs only[go_sem,↓reduceIte,Tryz.f188]
   refine⟨b6,b6,b6,?_⟩
   intro b q_b
   obtain⟨gU,cN,cM,iV⟩:=c7 (show ¬b=nb from zH q_b)
   have z_b:h b=none:=zH q_b
   refine⟨(k+1,[s],t2,c2,some b),⟨rfl,by rw[IntWalk.i64_in _ aA];rfl⟩,(gF a7M),⟨by omega,by simp only[yZ]at hvl;subst hvl;rfl,λx hx=>hall s hs x hx,aD2 ht0 h1,h2,hnext s t2 c2 h3,z_b⟩,by simp only;omega⟩
  |some m =>
   rw[aT]at hos
   obtain⟨jI,dG,dF,iA⟩:=c7 (show ¬m=nb from λe=>by rw[e,hb]at hos;cases hos)
   simp -dsimp -implicitDefEqProofs only[go_sem,↓reduceIte,Tryz.f188,aY,aL,hlt,ek]
   intro _
   refine aG.eH (hv.at ek (aR (aR h nb (dO p sz t c')) m (.row 1 ((vs.map λs=>[ints s]).map (List.map .v)))) nb t c' env funcs aMK ht aA (hkok _ (eF _)) eP hf henv aA) ?_
   rintro r h' ⟨s,t2,c2,rfl,rfl,hs,h1,h2,h3⟩
   simp -dsimp -implicitDefEqProofs only[go_sem,↓reduceIte,Tryz.f188,aE,dG,dF]
   refine⟨b6,b6,b6,j4 _,by omega,by omega,?_⟩
   intro b q_b
   obtain⟨gU,cN,cM,iV⟩:=c7 (show ¬b=nb from zH q_b)
   obtain⟨xQ,l0,lY,xR⟩:=c7 (show ¬b=m from zH q_b)
   have z_b:h b=none:=zH q_b
   refine⟨(k+1,vs++[s],t2,c2,some b),⟨by rw[aY,k8];rfl,by rw[IntWalk.i64_in _ aA];rfl⟩,?_,⟨by omega,by rw[k8,hvl];rfl,hall s hs,aD2 ht0 h1,h2,hnext s t2 c2 h3,z_b⟩,by simp only;omega⟩
   simp only[aL]
   rw[←fJ ints]
   exact(gF a7L)
 have hk':k=e.aK.length:=by omega
 subst hk'
 rw[jG]at ho
 have gp:vs[e.cF.toNat]?=some (vs.getD e.cF.toNat [])∨e.aN=10:=by
  by_cases h10:e.aN=10
  ·exact .inr h10
  ·exact .inl (jP (by have:=f9 aA;omega))
 cases o with
 |none =>
  rw[bK]at hos
  subst hos
  simp -dsimp -implicitDefEqProofs only[go_sem,↓reduceIte,Tryz.f188,b5,aQ,cV,fW,dO,hk,F.get,F.out,aV.aU,aF.aU]
  intro _
  refine⟨f1,f2,f3,by omega,?_⟩
  refine aG.eH (fH.sub (.cons (.refl _) (.cons (.refl _) (.cons (Sub.loose _ _ _) .nil))) (hv.at F.out (aR h nb (dO p sz t c')) nb t c' [] e.aX (aH _ _ _) ht aA aRV f1 aA cK cK)) ?_
  rintro r h' ⟨s,t2,c2,rfl,rfl,hs,b1,b2,b3⟩
  simp -dsimp -implicitDefEqProofs only[go_sem,↓reduceIte,Tryz.f188]
  refine⟨_,aR h nb (dO p sz t2 c2),bJ qU,s,t2,c2,rfl,rfl,hs,by omega,b2,?_⟩
  exact ho.dA b3
 |some m =>
  rw[aT]at hos
  obtain⟨jI,dG,dF,iA⟩:=c7 (show ¬m=nb from λe=>by rw[e,hb]at hos;cases hos)
  simp -dsimp -implicitDefEqProofs only[go_sem,↓reduceIte,Tryz.f188,aY,aL,cV,fW,dO,aE,dG,dF,hk,F.get,F.out,aV.aU,aF.aU]
  intro _
  refine⟨f1,f2,f3,by omega,?_⟩
  refine aG.aZB rfl rfl iA aMP (by rw[aE _ _ _ _ jI];exact hos) ?_
  refine fH.mono (hv.at F.out (aR (aR h nb (dO p sz t c')) m .gone) nb t c' vs e.aX aMK ht aA aRV f1 aA hvs aA) ?_
  rintro r h' ⟨s,t2,c2,rfl,rfl,hs,b1,b2,b3⟩
  simp -dsimp -implicitDefEqProofs only[go_sem,↓reduceIte,Tryz.f188]
  refine⟨_,aR h nb (dO p sz t2 c2),bJ (gF bDD),s,t2,c2,rfl,rfl,hs,by omega,b2,?_⟩
  exact ho.dA b3
theorem a3V {p:aF} (hp:p.ok) {sz n:Nat} (hv:qF p sz n) (h:Heap) (nb st:Nat) (e:aB) (env:List (List Int)) (funcs:Int) (hb:h nb=some (dO p sz st 0)) (hst:st<=3000) (hn:3001<=n+st) (hok:e.ok p funcs env.length) (eP:0<=funcs) (hf:funcs<=p.aI.length) (henv:∀ s∈env,cG sz s) (hel:env.length<=412+st) (hk:e.aN=11) :
  fH Tryz.prog 188 [.op nb 4 0 0,.ip 5 [e.c] 0 0,dX env] h (RnQ h nb p sz st 0 ((kJ (λt e=>gR p sz n t e env) e.aK st).andThen λvs t=>(oV (λvs t=>kJ (λt e=>gR p sz n t e vs) (p.outs e.aX) t) e.b7.toNat vs t).andThen λvs t=>.ok (vs.getD e.cF.toNat [],t))):=by
 obtain⟨f,F⟩:=lP hp hok hf (.inr hk)
 have f1:=F.lo
 have f2:=F.hi
 have f3:=F.pk
 have f4:=F.pk2
 have f5:=F.kids
 have f6:=F.params
 have f8:=F.outs
 have f9:=F.loop
 have hkok:=eA hok aA
 rw[aB.aU]
 refine gG 81 aBX aOH aOI Tryz.func188 ?_
 simp -dsimp -implicitDefEqProofs only[go_sem,↓reduceIte,Tryz.f188]
 refine⟨b6,?_⟩
 refine dJ aBX aOH aOI (λx:Nat×List (List Int)×Nat×Int×Option Nat=>[(0,.op nb 4 0 0),(1,.ip 5 [[I e.aN,I e.aX,I e.cF,I e.b7,eQ 5 aB.c e.aK]] 0 0),(2,dX env),(7,iH 1 x.2.1.length x.2.2.2.2),(8,I x.1)]) (λx=>c8 (aR h nb (dO p sz x.2.2.1 x.2.2.2.1)) (.row 1 ((x.2.1.map λs=>[ints s]).map (List.map .v))) x.2.2.2.2) (λx=>x.1<=e.aK.length/\x.2.1.length=x.1/\(∀ s∈x.2.1,cG sz s)/\st<=x.2.2.1/\x.2.2.1<=3000/\gZ (mW 0 (kJ (λt e=>gR p sz n t e env) (e.aK.take x.1) st)) x.2.1 x.2.2.1 x.2.2.2.1/\fM h x.2.1 x.2.2.2.2) (λx=>e.aK.length-x.1) (0,[],st,0,none) ⟨by simp[dM,cE,iH],by simp only[aQ];rw[qA hb];exact Heap.le_refl _,gM _,rfl,by simp,j4 _,hst,fI _ _ _,rfl⟩ ?_
 rintro⟨k,vs,t,c',o⟩ ⟨hk2,hvl,hvs,ht0,ht,ho,hos⟩
 simp only at hk2 hvl hvs ht0 ht ho hos ⊢
 rcases cQ k e.aK.length with hlt|hge
 ·have ek:e.aK[k]?=some e.aK[k]:=cP hlt
  have hnext:∀ (s:List Int) (t2:Nat) (c2:Int),gZ (mW c' (gR p sz n t e.aK[k] env)) s t2 c2->gZ (mW 0 (kJ (λt e=>gR p sz n t e env) (e.aK.take (k+1)) st)) (vs++[s]) t2 c2:=λs t2 c2 h3=>by
   rw[pD hlt,uO]
   exact ho.dA (h3.dA (fI _ _ _))
  have hall:∀ s,cG sz s->∀ x∈vs++[s],cG sz x:=λs hs=>sF hvs hs
  cases o with
  |none =>
   rw[bK]at hos
   subst hos
   simp -dsimp -implicitDefEqProofs only[go_sem,↓reduceIte,Tryz.f188,b5,aQ,hlt,ek]
   intro _
   refine aG.eH (hv.at ek (aR h nb (dO p sz t c')) nb t c' env funcs (aH _ _ _) ht aA (hkok _ (eF _)) eP hf henv aA) ?_
   rintro r h' ⟨s,t2,c2,rfl,rfl,hs,h1,h2,h3⟩
   simp -dsimp -implicitDefEqProofs only[go_sem,↓reduceIte,Tryz.f188]
   refine⟨b6,b6,b6,?_⟩
   intro b q_b
   obtain⟨gU,cN,cM,iV⟩:=c7 (show ¬b=nb from zH q_b)
   have z_b:h b=none:=zH q_b
   refine⟨(k+1,[s],t2,c2,some b),⟨rfl,by rw[IntWalk.i64_in _ aA];rfl⟩,(gF a7M),⟨by omega,by simp only[yZ]at hvl;subst hvl;rfl,λx hx=>hall s hs x hx,aD2 ht0 h1,h2,hnext s t2 c2 h3,z_b⟩,by simp only;omega⟩
  |some m =>
   rw[aT]at hos
   obtain⟨jI,dG,dF,iA⟩:=c7 (show ¬m=nb from λe=>by rw[e,hb]at hos;cases hos)
   simp -dsimp -implicitDefEqProofs only[go_sem,↓reduceIte,Tryz.f188,aY,aL,hlt,ek]
   intro _
   refine aG.eH (hv.at ek (aR (aR h nb (dO p sz t c')) m (.row 1 ((vs.map λs=>[ints s]).map (List.map .v)))) nb t c' env funcs aMK ht aA (hkok _ (eF _)) eP hf henv aA) ?_
   rintro r h' ⟨s,t2,c2,rfl,rfl,hs,h1,h2,h3⟩
   simp -dsimp -implicitDefEqProofs only[go_sem,↓reduceIte,Tryz.f188,aE,dG,dF]
   refine⟨b6,b6,b6,j4 _,by omega,by omega,?_⟩
   intro b q_b
   obtain⟨gU,cN,cM,iV⟩:=c7 (show ¬b=nb from zH q_b)
   obtain⟨xQ,l0,lY,xR⟩:=c7 (show ¬b=m from zH q_b)
   have z_b:h b=none:=zH q_b
   refine⟨(k+1,vs++[s],t2,c2,some b),⟨by rw[aY,k8];rfl,by rw[IntWalk.i64_in _ aA];rfl⟩,?_,⟨by omega,by rw[k8,hvl];rfl,hall s hs,aD2 ht0 h1,h2,hnext s t2 c2 h3,z_b⟩,by simp only;omega⟩
   simp only[aL]
   rw[←fJ ints]
   exact(gF a7L)
 have hk':k=e.aK.length:=by omega
 subst hk'
 rw[jG]at ho
 have gp:vs[e.cF.toNat]?=some (vs.getD e.cF.toNat [])∨e.aN=10:=by
  by_cases h10:e.aN=10
  ·exact .inr h10
  ·exact .inl (jP (by have:=f9 aA;omega))
 have gp':vs[e.cF.toNat]?=some (vs.getD e.cF.toNat []):=gp.resolve_right aA
 have g9:=f9 hk
 cases o with
 |none =>
  exfalso
  rw[bK]at hos
  rw[hos]at hvl
  simp at hvl
  omega
 |some m =>
  rw[aT]at hos
  obtain⟨jI,dG,dF,iA⟩:=c7 (show ¬m=nb from λe=>by rw[e,hb]at hos;cases hos)
  simp -dsimp -implicitDefEqProofs only[go_sem,↓reduceIte,Tryz.f188,aY,aL,cV,fW,dO,aE,dG,dF,hk,F.get,F.out,aV.aU,aF.aU]
  intro _
  refine⟨f1,f2,?_⟩
  refine aCP.a26 m (by rw[aE _ _ _ _ jI];exact hos) (by simp[j5,dG,dF]) ?_
  refine dJ aBX aOH aOI (λx:Nat×List (List Int)×Nat×Int=>[(0,.op nb 4 0 0),(1,.ip 5 [[I 11,I e.aX,I e.cF,I e.b7,eQ 5 aB.c e.aK]] 0 0),(7,dX x.2.1),(9,.ip 3 (p.aI.map aV.c) e.aX.toNat 0),(10,I x.1)]) (λx=>aR h nb (dO p sz x.2.2.1 x.2.2.2)) (λx=>x.1<=e.b7.toNat/\x.2.1.length=f.aO.length/\(∀ s∈x.2.1,cG sz s)/\t<=x.2.2.1/\x.2.2.1<=3000/\gZ (mW c' (oV (λvs t=>kJ (λt e=>gR p sz n t e vs) (p.outs e.aX) t) x.1 vs t)) x.2.1 x.2.2.1 x.2.2.2) (λx=>e.b7.toNat-x.1) (0,vs,t,c') ⟨by simp[dM,cE,aC.gP,dG,dF,kC],(gF (by repeat'(first|exact lW _ _|refine oI (by simp only[gI,↓reduceIte,eq_self,if_true,dG,dF,dO,aF.aU]) ?_|refine kD wU ?_))),gM _,by simp only;omega,hvs,j4 _,ht,fI _ _ _⟩ ?_
  rintro⟨k,us,u,d⟩ ⟨hk1,hul,hus,ht1,ht2,hd⟩
  simp only at hk1 hul hus ht1 ht2 hd ⊢
  have gu:us[e.cF.toNat]?=some (us.getD e.cF.toNat []):=jP aA
  simp -dsimp -implicitDefEqProofs only[go_sem,↓reduceIte,Tryz.f188,dO,gu]
  refine⟨λhlt=>?_,λhge=>?_⟩
  ·refine aG.eH (fH.sub (.cons (.refl _) (.cons (Sub.ip (by rw[nI,F.get];rfl) (by simp[aV.aU])) (.cons (.refl _) .nil))) (aLI hv (aR h nb (dO p sz u d)) nb u d f us e.aX (aH _ _ _) ht2 aA aA (by rw[hul,g9.2.2];exact F.oks) f1 aA hus aA)) ?_
   rintro r h' ⟨l2,t2,c2,rfl,rfl,hl2,tM,b1,b2,b3⟩
   simp -dsimp -implicitDefEqProofs only[go_sem,↓reduceIte,Tryz.f188]
   refine⟨(k+1,l2,t2,c2),⟨rfl,by rw[IntWalk.i64_in _ aA];rfl⟩,by simp only[aJ];exact Heap.le_refl _,⟨by omega,hl2,tM,by simp only;omega,b2,?_⟩,by simp only;omega⟩
   simp only
   rw[vP]
   refine hd.dA ?_
   rw[F.eq]
   exact b3
  ·have hke:k=e.b7.toNat:=by omega
   refine⟨f3,by omega,_,_,bM _ _,us.getD e.cF.toNat [],u,d,rfl,rfl,gW hus aA,by omega,ht2,?_⟩
   refine ho.dA ?_
   rw[←hke]
   exact hd.dA (fI _ _ _)
theorem aVV {p:aF} {sz n:Nat} (hsz:1<=sz/\sz<=1048576) (h:Heap) (nb st:Nat) (c:Int) (e:aB) (env:List (List Int)) (hb:h nb=some (dO p sz st c)) (hst:st<=3000) (hs:¬c=0∨st=3000) :
  fH Tryz.prog 169 [.op nb 4 0 0,.ip 5 [e.c] 0 0,dX env] h (RnQ h nb p sz st c (gR p sz (n+1) st e env)):=by
 rw[aB.aU]
 have hb':=hb
 unfold dO at hb'
 refine gG 186 nH cR wP Tryz.func169 ?_
 simp -dsimp -implicitDefEqProofs only[go_sem,↓reduceIte,Tryz.f169,hb']
 refine⟨λhc=>?_,λhc=>?_⟩
 ·have hc':¬c=0:=by simpa using hc
  refine aG.eH (aTT h nb p sz st c c hb hsz.2) ?_
  rintro r h' ⟨rfl,rfl⟩
  simp -dsimp -implicitDefEqProofs only[go_sem,↓reduceIte,Tryz.f169]
  refine⟨_,_,bM _ _,_,st,c,rfl,by rw[if_neg hc'],eD j1,j4 _,hst,by rw[pT _ hc'];exact jJ _ _ hc'⟩
 ·have hc0:c=0:=by simpa using hc
  subst hc0
  have h3:st=3000:=by rcases hs with hs|hs;exact absurd rfl hs;exact hs
  subst h3
  try simp -dsimp -implicitDefEqProofs only[go_sem,↓reduceIte,Tryz.f169,hb']
  refine⟨λ_=>?_,λq=>absurd q cK⟩
  refine aG.eH (aTT h nb p sz 3000 0 7 hb hsz.2) ?_
  rintro r h' ⟨rfl,rfl⟩
  simp -dsimp -implicitDefEqProofs only[go_sem,↓reduceIte,Tryz.f169]
  refine⟨_,_,bM _ _,_,3000,7,rfl,rfl,eD j1,j4 _,hst,?_⟩
  rw[cJ,gR,if_pos rfl]
  exact jJ _ _ bU
theorem a9A {p:aF} (hp:p.ok) {sz n:Nat} (hsz:1<=sz/\sz<=1048576) (hv:qF p sz n) (h:Heap) (nb st:Nat) (e:aB) (env:List (List Int)) (funcs:Int) (hb:h nb=some (dO p sz st 0)) (hst:st<3000) (hn:3001<=n+1+st)
  (hok:e.ok p funcs env.length) (eP:0<=funcs) (hf:funcs<=p.aI.length) (henv:∀ s∈env,cG sz s) (hel:env.length<=412+st) (hk:e.aN=1) :
  fH Tryz.prog 169 [.op nb 4 0 0,.ip 5 [e.c] 0 0,dX env] h (RnQ h nb p sz st 0 (gR p sz (n+1) st e env)):=by
 have hb':=hb
 unfold dO at hb'
 have e3:((st:Int)=3000)=False:=eq_false aA
 have ew:IntKind.i64.wrap ((st:Int)+1)=((st+1:Nat):Int):=by rw[IntWalk.i64_in _ aA];rfl
 have hnode:=(aB.cS _ _ _ _).1 hok
 have h3:¬st=3000:=by omega
 have hnum:fZ e.aX:=((dI aA).1 hnode.1).2.2.2.1 hk
 rw[aB.aU]
 refine gG 186 nH cR wP Tryz.func169 ?_
 simp -dsimp -implicitDefEqProofs only[go_sem,↓reduceIte,Tryz.f169,hb',e3,ew,hk]
 first|refine aG.mk (lB e.aX sz hsz.2) ?_|refine aD.mk (lB e.aX sz hsz.2) ?_|refine aG.bC (lB e.aX sz hsz.2) ?_|refine aD.mk (aZ.dB (lB e.aX sz hsz.2)) ?_
 simp -dsimp -implicitDefEqProofs only[go_sem,↓reduceIte,Tryz.f169]
 refine⟨_,_,bM _ _,_,st+1,0,rfl,rfl,eD hnum,mZ _,hst,?_⟩
 rw[cJ,aOD h3 hk]
 exact j0 _ _
theorem a9B {p:aF} (hp:p.ok) {sz n:Nat} (hsz:1<=sz/\sz<=1048576) (hv:qF p sz n) (h:Heap) (nb st:Nat) (e:aB) (env:List (List Int)) (funcs:Int) (hb:h nb=some (dO p sz st 0)) (hst:st<3000) (hn:3001<=n+1+st)
  (hok:e.ok p funcs env.length) (eP:0<=funcs) (hf:funcs<=p.aI.length) (henv:∀ s∈env,cG sz s) (hel:env.length<=412+st) (hk:e.aN=2) :
  fH Tryz.prog 169 [.op nb 4 0 0,.ip 5 [e.c] 0 0,dX env] h (RnQ h nb p sz st 0 (gR p sz (n+1) st e env)):=by
 have hb':=hb
 unfold dO at hb'
 have e3:((st:Int)=3000)=False:=eq_false aA
 have ew:IntKind.i64.wrap ((st:Int)+1)=((st+1:Nat):Int):=by rw[IntWalk.i64_in _ aA];rfl
 have hnode:=(aB.cS _ _ _ _).1 hok
 have h3:¬st=3000:=by omega
 have hnum:=((dI aA).1 hnode.1).2.2.2.2.1 hk
 have hlt:e.aX.toNat<env.length:=by omega
 rw[aB.aU]
 refine gG 186 nH cR wP Tryz.func169 ?_
 simp -dsimp -implicitDefEqProofs only[go_sem,↓reduceIte,Tryz.f169,hb',e3,ew,hk,jP hlt]
 refine⟨hnum.1,by omega,_,_,bM _ _,_,st+1,0,rfl,rfl,gW henv hlt,mZ _,hst,?_⟩
 rw[cJ,aOE h3 hk]
 exact j0 _ _
theorem a9C {p:aF} (hp:p.ok) {sz n:Nat} (hsz:1<=sz/\sz<=1048576) (hv:qF p sz n) (h:Heap) (nb st:Nat) (e:aB) (env:List (List Int)) (funcs:Int) (hb:h nb=some (dO p sz st 0)) (hst:st<3000) (hn:3001<=n+1+st)
  (hok:e.ok p funcs env.length) (eP:0<=funcs) (hf:funcs<=p.aI.length) (henv:∀ s∈env,cG sz s) (hel:env.length<=412+st) (hk:e.aN=8) :
  fH Tryz.prog 169 [.op nb 4 0 0,.ip 5 [e.c] 0 0,dX env] h (RnQ h nb p sz st 0 (gR p sz (n+1) st e env)):=by
 have hb':=hb
 unfold dO at hb'
 have e3:((st:Int)=3000)=False:=eq_false aA
 have ew:IntKind.i64.wrap ((st:Int)+1)=((st+1:Nat):Int):=by rw[IntWalk.i64_in _ aA];rfl
 have hnode:=(aB.cS _ _ _ _).1 hok
 have h3:¬st=3000:=by omega
 have hlen:=dH hok aA
 rw[hk,show dK 8=3 from rfl]at hlen
 have g0:e.aK[Int.toNat 0]?=some (e.lO 0):=aB.fL aA
 have g1:e.aK[Int.toNat 1]?=some (e.lO 1):=aB.fL aA
 have g2:e.aK[Int.toNat 2]?=some (e.lO 2):=aB.fL aA
 have o0:=aB.dW hok (i:=0) aA
 have o1:=aB.dW hok (i:=1) aA
 have o2:=aB.dW hok (i:=2) aA
 rw[fR aA]at o0 o1 o2
 rw[aB.aU]
 refine gG 186 nH cR wP Tryz.func169 ?_
 simp -dsimp -implicitDefEqProofs only[go_sem,↓reduceIte,Tryz.f169,hb',e3,ew,hk,g0]
 refine⟨by omega,?_⟩
 refine aG.eH (hv.at g0 (aR h nb (dO p sz (st+1) 0)) nb (st+1) 0 env funcs (aH _ _ _) aA aA o0 eP hf henv aA) ?_
 rintro r h' ⟨s1,t1,c1,rfl,rfl,sO,a1,a2,a3⟩
 have gs:s1[Int.toNat 0]?=some (s1.getD 0 0):=dV nR
 simp -dsimp -implicitDefEqProofs only[go_sem,↓reduceIte,Tryz.f169,gs,g1,g2]
 refine⟨by rw[sO.1];omega,λhz=>⟨by omega,?_⟩,λhz=>⟨by omega,?_⟩⟩
 ·rw[aJ]
  refine aG.eH (hv.at g1 (aR h nb (dO p sz t1 c1)) nb t1 c1 env funcs (aH _ _ _) aA aA o1 eP hf henv aA) ?_
  rintro r h' ⟨s2,t2,c2,rfl,rfl,tM,b1,b2,b3⟩
  simp -dsimp -implicitDefEqProofs only[go_sem,↓reduceIte,Tryz.f169]
  refine⟨_,_,bM _ _,s2,t2,c2,rfl,by rw[aJ],tM,by omega,b2,?_⟩
  rw[aG2 h3 hk]
  refine a3.dA ?_
  rw[if_pos hz]
  exact b3
 ·rw[aJ]
  refine aG.eH (hv.at g2 (aR h nb (dO p sz t1 c1)) nb t1 c1 env funcs (aH _ _ _) aA aA o2 eP hf henv aA) ?_
  rintro r h' ⟨s2,t2,c2,rfl,rfl,tM,b1,b2,b3⟩
  simp -dsimp -implicitDefEqProofs only[go_sem,↓reduceIte,Tryz.f169]
  refine⟨_,_,bM _ _,s2,t2,c2,rfl,by rw[aJ],tM,by omega,b2,?_⟩
  rw[aG2 h3 hk]
  refine a3.dA ?_
  rw[if_neg hz]
  exact b3
theorem a9D {p:aF} (hp:p.ok) {sz n:Nat} (hsz:1<=sz/\sz<=1048576) (hv:qF p sz n) (h:Heap) (nb st:Nat) (e:aB) (env:List (List Int)) (funcs:Int) (hb:h nb=some (dO p sz st 0)) (hst:st<3000) (hn:3001<=n+1+st)
  (hok:e.ok p funcs env.length) (eP:0<=funcs) (hf:funcs<=p.aI.length) (henv:∀ s∈env,cG sz s) (hel:env.length<=412+st) (hk:e.aN=9) :
  fH Tryz.prog 169 [.op nb 4 0 0,.ip 5 [e.c] 0 0,dX env] h (RnQ h nb p sz st 0 (gR p sz (n+1) st e env)):=by
 have hb':=hb
 unfold dO at hb'
 have e3:((st:Int)=3000)=False:=eq_false aA
 have ew:IntKind.i64.wrap ((st:Int)+1)=((st+1:Nat):Int):=by rw[IntWalk.i64_in _ aA];rfl
 have hnode:=(aB.cS _ _ _ _).1 hok
 have h3:¬st=3000:=by omega
 have hlen:=dH hok aA
 rw[hk,show dK 9=2 from rfl]at hlen
 have g0:e.aK[Int.toNat 0]?=some (e.lO 0):=aB.fL aA
 have g1:e.aK[Int.toNat 1]?=some (e.lO 1):=aB.fL aA
 have o0:=aB.dW hok (i:=0) aA
 have o1:=aB.dW hok (i:=1) aA
 rw[fR aA]at o0
 rw[hk,show gL 9 1 (env.length:Int)=env.length+1 from rfl]at o1
 rw[aB.aU]
 refine gG 186 nH cR wP Tryz.func169 ?_
 simp -dsimp -implicitDefEqProofs only[go_sem,↓reduceIte,Tryz.f169,hb',e3,ew,hk,g0,g1]
 refine⟨by omega,?_⟩
 refine aG.eH (hv.at g0 (aR h nb (dO p sz (st+1) 0)) nb (st+1) 0 env funcs (aH _ _ _) aA aA o0 eP hf henv aA) ?_
 rintro r h' ⟨s1,t1,c1,rfl,rfl,sO,a1,a2,a3⟩
 simp -dsimp -implicitDefEqProofs only[go_sem,↓reduceIte,Tryz.f169,g0,g1]
 refine⟨by omega,?_⟩
 first|refine aG.mk (aLH env s1 aA) ?_|refine aD.mk (aLH env s1 aA) ?_|refine aG.bC (aLH env s1 aA) ?_|refine aD.mk (aZ.dB (aLH env s1 aA)) ?_
 simp -dsimp -implicitDefEqProofs only[go_sem,↓reduceIte,Tryz.f169]
 rw[aJ]
 refine aG.eH (hv.at g1 (aR h nb (dO p sz t1 c1)) nb t1 c1 (env++[s1]) funcs (aH _ _ _) aA aA aAO eP hf (sF henv sO) aW5) ?_
 rintro r h' ⟨s2,t2,c2,rfl,rfl,tM,b1,b2,b3⟩
 simp -dsimp -implicitDefEqProofs only[go_sem,↓reduceIte,Tryz.f169]
 refine⟨_,aR h nb (dO p sz t2 c2),bJ qU,s2,t2,c2,rfl,rfl,tM,by omega,b2,?_⟩
 rw[aOF h3 hk]
 exact a3.dA b3
theorem a3W {p:aF} (hp:p.ok) {sz n:Nat} (hsz:1<=sz/\sz<=1048576) (hv:qF p sz n) (h:Heap) (nb st:Nat) (e:aB) (env:List (List Int)) (funcs:Int) (hb:h nb=some (dO p sz st 0)) (hst:st<3000) (hn:3001<=n+1+st)
  (hok:e.ok p funcs env.length) (eP:0<=funcs) (hf:funcs<=p.aI.length) (henv:∀ s∈env,cG sz s) (hel:env.length<=412+st) (hk:e.aN=10) :
  fH Tryz.prog 169 [.op nb 4 0 0,.ip 5 [e.c] 0 0,dX env] h (RnQ h nb p sz st 0 (gR p sz (n+1) st e env)):=by
 have hb':=hb
 unfold dO at hb'
 have e3:((st:Int)=3000)=False:=eq_false aA
 have ew:IntKind.i64.wrap ((st:Int)+1)=((st+1:Nat):Int):=by rw[IntWalk.i64_in _ aA];rfl
 have hnode:=(aB.cS _ _ _ _).1 hok
 have h3:¬st=3000:=by omega
 have hcl:=a3U hp hv (aR h nb (dO p sz (st+1) 0)) nb (st+1) e env funcs (aH _ _ _) aA aA hok eP hf henv aA hk
 rw[aB.aU,hk]at hcl
 rw[aB.aU]
 refine gG 186 nH cR wP Tryz.func169 ?_
 simp -dsimp -implicitDefEqProofs only[go_sem,↓reduceIte,Tryz.f169,hb',e3,ew,hk]
 refine aG.eH hcl ?_
 rintro r h' ⟨s2,t2,c2,rfl,rfl,tM,b1,b2,b3⟩
 simp -dsimp -implicitDefEqProofs only[go_sem,↓reduceIte,Tryz.f169]
 refine⟨_,aR h nb (dO p sz t2 c2),bJ qU,s2,t2,c2,rfl,rfl,tM,by omega,b2,?_⟩
 rw[aC1 h3 hk]
 exact b3
theorem a3X {p:aF} (hp:p.ok) {sz n:Nat} (hsz:1<=sz/\sz<=1048576) (hv:qF p sz n) (h:Heap) (nb st:Nat) (e:aB) (env:List (List Int)) (funcs:Int) (hb:h nb=some (dO p sz st 0)) (hst:st<3000) (hn:3001<=n+1+st)
  (hok:e.ok p funcs env.length) (eP:0<=funcs) (hf:funcs<=p.aI.length) (henv:∀ s∈env,cG sz s) (hel:env.length<=412+st) (hk:e.aN=11) :
  fH Tryz.prog 169 [.op nb 4 0 0,.ip 5 [e.c] 0 0,dX env] h (RnQ h nb p sz st 0 (gR p sz (n+1) st e env)):=by
 have hb':=hb
 unfold dO at hb'
 have e3:((st:Int)=3000)=False:=eq_false aA
 have ew:IntKind.i64.wrap ((st:Int)+1)=((st+1:Nat):Int):=by rw[IntWalk.i64_in _ aA];rfl
 have hnode:=(aB.cS _ _ _ _).1 hok
 have h3:¬st=3000:=by omega
 have hcl:=a3V hp hv (aR h nb (dO p sz (st+1) 0)) nb (st+1) e env funcs (aH _ _ _) aA aA hok eP hf henv aA hk
 rw[aB.aU,hk]at hcl
 rw[aB.aU]
 refine gG 186 nH cR wP Tryz.func169 ?_
 simp -dsimp -implicitDefEqProofs only[go_sem,↓reduceIte,Tryz.f169,hb',e3,ew,hk]
 refine aG.eH hcl ?_
 rintro r h' ⟨s2,t2,c2,rfl,rfl,tM,b1,b2,b3⟩
 simp -dsimp -implicitDefEqProofs only[go_sem,↓reduceIte,Tryz.f169]
 refine⟨_,aR h nb (dO p sz t2 c2),bJ qU,s2,t2,c2,rfl,rfl,tM,by omega,b2,?_⟩
 rw[aC2 h3 hk]
 exact b3
theorem aZG {e:aB} (h:e.aK.length=1):e.aK=[e.lO 0]:=by
 have h0:=aB.aK8 (e:=e) (i:=0) aA
 rw[h0]
 apply aMH (by simp[h])
 intro i hi hi2
 match i,hi2 with
 |0,_=>rfl
theorem aZH {e:aB} (h:e.aK.length=2):e.aK=[e.lO 0,e.lO 1]:=by
 have h0:=aB.aK8 (e:=e) (i:=0) aA
 have h1:=aB.aK8 (e:=e) (i:=1) aA
 rw[h0,h1]
 apply aMH (by simp[h])
 intro i hi hi2
 match i,hi2 with
 |0,_=>rfl
 |1,_=>rfl
theorem a9E {p:aF} {sz n st:Nat} {e:aB} {env:List (List Int)} (h3:¬st=3000) (hk:e.aN=7) (hl:e.aK.length=1):gR p sz (n+1) st e env=(gR p sz n (st+1) (e.lO 0) env).andThen λv t=>.ok (mV v 1000002,t):=by
 rw[mX h3 aA,aZG hl,hk]
 simp only[kJ,Out.lG,Out.andThen_ok,opE]
 rfl
theorem yK {p:aF} {sz n st:Nat} {e:aB} {env:List (List Int)} (h3:¬st=3000) (hk:e.aN=3∨e.aN=4∨e.aN=5∨e.aN=6) (hl:e.aK.length=2):gR p sz (n+1) st e env=(gR p sz n (st+1) (e.lO 0) env).andThen λa t=>(gR p sz n t (e.lO 1) env).andThen λb t=>opE e.aN [a,b] t:=by
 rw[mX h3 aA,aZH hl]
 simp only[kJ,Out.lG,Out.andThen_ok]
theorem a9F {p:aF} (hp:p.ok) {sz n:Nat} (hsz:1<=sz/\sz<=1048576) (hv:qF p sz n) (h:Heap) (nb st:Nat) (e:aB) (env:List (List Int)) (funcs:Int) (hb:h nb=some (dO p sz st 0)) (hst:st<3000) (hn:3001<=n+1+st)
  (hok:e.ok p funcs env.length) (eP:0<=funcs) (hf:funcs<=p.aI.length) (henv:∀ s∈env,cG sz s) (hel:env.length<=412+st) (hk:e.aN=7) :
  fH Tryz.prog 169 [.op nb 4 0 0,.ip 5 [e.c] 0 0,dX env] h (RnQ h nb p sz st 0 (gR p sz (n+1) st e env)):=by
 have hb':=hb
 unfold dO at hb'
 have e3:((st:Int)=3000)=False:=eq_false aA
 have ew:IntKind.i64.wrap ((st:Int)+1)=((st+1:Nat):Int):=by rw[IntWalk.i64_in _ aA];rfl
 have hnode:=(aB.cS _ _ _ _).1 hok
 have h3:¬st=3000:=by omega
 have hlen:=dH hok aA
 rw[hk,show dK 7=1 from rfl]at hlen
 have g0:e.aK[Int.toNat 0]?=some (e.lO 0):=aB.fL aA
 have o0:=aB.dW hok (i:=0) aA
 rw[fR aA]at o0
 rw[aB.aU]
 refine gG 186 nH cR wP Tryz.func169 ?_
 simp -dsimp -implicitDefEqProofs only[go_sem,↓reduceIte,Tryz.f169,hb',e3,ew,hk,g0]
 refine⟨by omega,?_⟩
 refine aG.eH (hv.at g0 (aR h nb (dO p sz (st+1) 0)) nb (st+1) 0 env funcs (aH _ _ _) aA aA o0 eP hf henv aA) ?_
 rintro r h' ⟨s1,t1,c1,rfl,rfl,sO,a1,a2,a3⟩
 simp -dsimp -implicitDefEqProofs only[go_sem,↓reduceIte,Tryz.f169]
 first|refine aG.mk (qE s1 1000002 pH nR sO.2) ?_|refine aD.mk (qE s1 1000002 pH nR sO.2) ?_|refine aG.bC (qE s1 1000002 pH nR sO.2) ?_|refine aD.mk (aZ.dB (qE s1 1000002 pH nR sO.2)) ?_
 simp -dsimp -implicitDefEqProofs only[go_sem,↓reduceIte,Tryz.f169]
 refine⟨_,aR h nb (dO p sz t1 c1),bJ qU,_,t1,c1,rfl,rfl,mD _ sO,by omega,a2,?_⟩
 rw[a9E h3 hk aA]
 exact a3.dA (fI _ _ _)
theorem a9G {p:aF} (hp:p.ok) {sz n:Nat} (hsz:1<=sz/\sz<=1048576) (hv:qF p sz n) (h:Heap) (nb st:Nat) (e:aB) (env:List (List Int)) (funcs:Int) (hb:h nb=some (dO p sz st 0)) (hst:st<3000) (hn:3001<=n+1+st)
  (hok:e.ok p funcs env.length) (eP:0<=funcs) (hf:funcs<=p.aI.length) (henv:∀ s∈env,cG sz s) (hel:env.length<=412+st) (hk:e.aN=3) :
  fH Tryz.prog 169 [.op nb 4 0 0,.ip 5 [e.c] 0 0,dX env] h (RnQ h nb p sz st 0 (gR p sz (n+1) st e env)):=by
 have hb':=hb
 unfold dO at hb'
 have e3:((st:Int)=3000)=False:=eq_false aA
 have ew:IntKind.i64.wrap ((st:Int)+1)=((st+1:Nat):Int):=by rw[IntWalk.i64_in _ aA];rfl
 have hnode:=(aB.cS _ _ _ _).1 hok
 have h3:¬st=3000:=by omega
 have hlen:=dH hok aA
 rw[hk,show dK 3=2 from rfl]at hlen
 have g0:e.aK[Int.toNat 0]?=some (e.lO 0):=aB.fL aA
 have g1:e.aK[Int.toNat 1]?=some (e.lO 1):=aB.fL aA
 have o0:=aB.dW hok (i:=0) aA
 have o1:=aB.dW hok (i:=1) aA
 rw[fR aA]at o0 o1
 rw[aB.aU]
 refine gG 186 nH cR wP Tryz.func169 ?_
 simp -dsimp -implicitDefEqProofs only[go_sem,↓reduceIte,Tryz.f169,hb',e3,ew,hk,g0]
 refine⟨by omega,?_⟩
 refine aG.eH (hv.at g0 (aR h nb (dO p sz (st+1) 0)) nb (st+1) 0 env funcs (aH _ _ _) aA aA o0 eP hf henv aA) ?_
 rintro r h' ⟨s1,t1,c1,rfl,rfl,sO,a1,a2,a3⟩
 simp -dsimp -implicitDefEqProofs only[go_sem,↓reduceIte,Tryz.f169,g1]
 refine⟨by omega,?_⟩
 rw[aJ]
 refine aG.eH (hv.at g1 (aR h nb (dO p sz t1 c1)) nb t1 c1 env funcs (aH _ _ _) aA aA o1 eP hf henv aA) ?_
 rintro r h' ⟨s2,t2,c2,rfl,rfl,tM,b1,b2,b3⟩
 rw[aJ]
 simp -dsimp -implicitDefEqProofs only[go_sem,↓reduceIte,Tryz.f169,hk]
 first|refine aG.mk (xS s1 s2 uA nR sO.2 tM.2) ?_|refine aD.mk (xS s1 s2 uA nR sO.2 tM.2) ?_|refine aG.bC (xS s1 s2 uA nR sO.2 tM.2) ?_|refine aD.mk (aZ.dB (xS s1 s2 uA nR sO.2 tM.2)) ?_
 simp -dsimp -implicitDefEqProofs only[go_sem,↓reduceIte,Tryz.f169]
 refine⟨_,aR h nb (dO p sz t2 c2),bJ (Heap.le_refl _),_,t2,c2,rfl,rfl,yE sO tM,by omega,b2,?_⟩
 rw[yK h3 aA aA,hk]
 exact a3.dA (b3.dA (fI _ _ _))
theorem a9H {p:aF} (hp:p.ok) {sz n:Nat} (hsz:1<=sz/\sz<=1048576) (hv:qF p sz n) (h:Heap) (nb st:Nat) (e:aB) (env:List (List Int)) (funcs:Int) (hb:h nb=some (dO p sz st 0)) (hst:st<3000) (hn:3001<=n+1+st)
  (hok:e.ok p funcs env.length) (eP:0<=funcs) (hf:funcs<=p.aI.length) (henv:∀ s∈env,cG sz s) (hel:env.length<=412+st) (hk:e.aN=4) :
  fH Tryz.prog 169 [.op nb 4 0 0,.ip 5 [e.c] 0 0,dX env] h (RnQ h nb p sz st 0 (gR p sz (n+1) st e env)):=by
 have hb':=hb
 unfold dO at hb'
 have e3:((st:Int)=3000)=False:=eq_false aA
 have ew:IntKind.i64.wrap ((st:Int)+1)=((st+1:Nat):Int):=by rw[IntWalk.i64_in _ aA];rfl
 have hnode:=(aB.cS _ _ _ _).1 hok
 have h3:¬st=3000:=by omega
 have hlen:=dH hok aA
 rw[hk,show dK 4=2 from rfl]at hlen
 have g0:e.aK[Int.toNat 0]?=some (e.lO 0):=aB.fL aA
 have g1:e.aK[Int.toNat 1]?=some (e.lO 1):=aB.fL aA
 have o0:=aB.dW hok (i:=0) aA
 have o1:=aB.dW hok (i:=1) aA
 rw[fR aA]at o0 o1
 rw[aB.aU]
 refine gG 186 nH cR wP Tryz.func169 ?_
 simp -dsimp -implicitDefEqProofs only[go_sem,↓reduceIte,Tryz.f169,hb',e3,ew,hk,g0]
 refine⟨by omega,?_⟩
 refine aG.eH (hv.at g0 (aR h nb (dO p sz (st+1) 0)) nb (st+1) 0 env funcs (aH _ _ _) aA aA o0 eP hf henv aA) ?_
 rintro r h' ⟨s1,t1,c1,rfl,rfl,sO,a1,a2,a3⟩
 simp -dsimp -implicitDefEqProofs only[go_sem,↓reduceIte,Tryz.f169,g1]
 refine⟨by omega,?_⟩
 rw[aJ]
 refine aG.eH (hv.at g1 (aR h nb (dO p sz t1 c1)) nb t1 c1 env funcs (aH _ _ _) aA aA o1 eP hf henv aA) ?_
 rintro r h' ⟨s2,t2,c2,rfl,rfl,tM,b1,b2,b3⟩
 rw[aJ]
 simp -dsimp -implicitDefEqProofs only[go_sem,↓reduceIte,Tryz.f169,hk]
 first|refine aG.mk (aLF s1 s2 uA nR sO.2 tM.2) ?_|refine aD.mk (aLF s1 s2 uA nR sO.2 tM.2) ?_|refine aG.bC (aLF s1 s2 uA nR sO.2 tM.2) ?_|refine aD.mk (aZ.dB (aLF s1 s2 uA nR sO.2 tM.2)) ?_
 simp -dsimp -implicitDefEqProofs only[go_sem,↓reduceIte,Tryz.f169]
 refine⟨_,aR h nb (dO p sz t2 c2),bJ (Heap.le_refl _),_,t2,c2,rfl,rfl,aCX sO tM,by omega,b2,?_⟩
 rw[yK h3 aA aA,hk]
 exact a3.dA (b3.dA (fI _ _ _))
theorem a9I {p:aF} (hp:p.ok) {sz n:Nat} (hsz:1<=sz/\sz<=1048576) (hv:qF p sz n) (h:Heap) (nb st:Nat) (e:aB) (env:List (List Int)) (funcs:Int) (hb:h nb=some (dO p sz st 0)) (hst:st<3000) (hn:3001<=n+1+st)
  (hok:e.ok p funcs env.length) (eP:0<=funcs) (hf:funcs<=p.aI.length) (henv:∀ s∈env,cG sz s) (hel:env.length<=412+st) (hk:e.aN=5) :
  fH Tryz.prog 169 [.op nb 4 0 0,.ip 5 [e.c] 0 0,dX env] h (RnQ h nb p sz st 0 (gR p sz (n+1) st e env)):=by
 have hb':=hb
 unfold dO at hb'
 have e3:((st:Int)=3000)=False:=eq_false aA
 have ew:IntKind.i64.wrap ((st:Int)+1)=((st+1:Nat):Int):=by rw[IntWalk.i64_in _ aA];rfl
 have hnode:=(aB.cS _ _ _ _).1 hok
 have h3:¬st=3000:=by omega
 have hlen:=dH hok aA
 rw[hk,show dK 5=2 from rfl]at hlen
 have g0:e.aK[Int.toNat 0]?=some (e.lO 0):=aB.fL aA
 have g1:e.aK[Int.toNat 1]?=some (e.lO 1):=aB.fL aA
 have o0:=aB.dW hok (i:=0) aA
 have o1:=aB.dW hok (i:=1) aA
 rw[fR aA]at o0 o1
 rw[aB.aU]
 refine gG 186 nH cR wP Tryz.func169 ?_
 simp -dsimp -implicitDefEqProofs only[go_sem,↓reduceIte,Tryz.f169,hb',e3,ew,hk,g0]
 refine⟨by omega,?_⟩
 refine aG.eH (hv.at g0 (aR h nb (dO p sz (st+1) 0)) nb (st+1) 0 env funcs (aH _ _ _) aA aA o0 eP hf henv aA) ?_
 rintro r h' ⟨s1,t1,c1,rfl,rfl,sO,a1,a2,a3⟩
 simp -dsimp -implicitDefEqProofs only[go_sem,↓reduceIte,Tryz.f169,g1]
 refine⟨by omega,?_⟩
 rw[aJ]
 refine aG.eH (hv.at g1 (aR h nb (dO p sz t1 c1)) nb t1 c1 env funcs (aH _ _ _) aA aA o1 eP hf henv aA) ?_
 rintro r h' ⟨s2,t2,c2,rfl,rfl,tM,b1,b2,b3⟩
 rw[aJ]
 simp -dsimp -implicitDefEqProofs only[go_sem,↓reduceIte,Tryz.f169,hk]
 first|refine aG.mk (aLG s1 s2 uA nR sO.2 tM.2) ?_|refine aD.mk (aLG s1 s2 uA nR sO.2 tM.2) ?_|refine aG.bC (aLG s1 s2 uA nR sO.2 tM.2) ?_|refine aD.mk (aZ.dB (aLG s1 s2 uA nR sO.2 tM.2)) ?_
 simp -dsimp -implicitDefEqProofs only[go_sem,↓reduceIte,Tryz.f169]
 refine⟨_,aR h nb (dO p sz t2 c2),bJ (Heap.le_refl _),_,t2,c2,rfl,rfl,aCY _ sO,by omega,b2,?_⟩
 rw[yK h3 aA aA,hk]
 exact a3.dA (b3.dA (fI _ _ _))
theorem a9J {p:aF} (hp:p.ok) {sz n:Nat} (hsz:1<=sz/\sz<=1048576) (hv:qF p sz n) (h:Heap) (nb st:Nat) (e:aB) (env:List (List Int)) (funcs:Int) (hb:h nb=some (dO p sz st 0)) (hst:st<3000) (hn:3001<=n+1+st)
  (hok:e.ok p funcs env.length) (eP:0<=funcs) (hf:funcs<=p.aI.length) (henv:∀ s∈env,cG sz s) (hel:env.length<=412+st) (hk:e.aN=6) :
  fH Tryz.prog 169 [.op nb 4 0 0,.ip 5 [e.c] 0 0,dX env] h (RnQ h nb p sz st 0 (gR p sz (n+1) st e env)):=by
 have hb':=hb
 unfold dO at hb'
 have e3:((st:Int)=3000)=False:=eq_false aA
 have ew:IntKind.i64.wrap ((st:Int)+1)=((st+1:Nat):Int):=by rw[IntWalk.i64_in _ aA];rfl
 have hnode:=(aB.cS _ _ _ _).1 hok
 have h3:¬st=3000:=by omega
 have hlen:=dH hok aA
 rw[hk,show dK 6=2 from rfl]at hlen
 have g0:e.aK[Int.toNat 0]?=some (e.lO 0):=aB.fL aA
 have g1:e.aK[Int.toNat 1]?=some (e.lO 1):=aB.fL aA
 have o0:=aB.dW hok (i:=0) aA
 have o1:=aB.dW hok (i:=1) aA
 rw[fR aA]at o0 o1
 rw[aB.aU]
 refine gG 186 nH cR wP Tryz.func169 ?_
 simp -dsimp -implicitDefEqProofs only[go_sem,↓reduceIte,Tryz.f169,hb',e3,ew,hk,g0]
 refine⟨by omega,?_⟩
 refine aG.eH (hv.at g0 (aR h nb (dO p sz (st+1) 0)) nb (st+1) 0 env funcs (aH _ _ _) aA aA o0 eP hf henv aA) ?_
 rintro r h' ⟨s1,t1,c1,rfl,rfl,sO,a1,a2,a3⟩
 simp -dsimp -implicitDefEqProofs only[go_sem,↓reduceIte,Tryz.f169,g1]
 refine⟨by omega,?_⟩
 rw[aJ]
 refine aG.eH (hv.at g1 (aR h nb (dO p sz t1 c1)) nb t1 c1 env funcs (aH _ _ _) aA aA o1 eP hf henv aA) ?_
 rintro r h' ⟨s2,t2,c2,rfl,rfl,tM,b1,b2,b3⟩
 rw[aJ]
 have gs:s2[Int.toNat 0]?=some (s2.getD 0 0):=dV (by rw[tM.1];omega)
 simp -dsimp -implicitDefEqProofs only[go_sem,↓reduceIte,Tryz.f169,hk,dO,gs]
 refine⟨λhc=>?_,λhc=>?_⟩
 ·subst hc
  refine⟨by rw[tM.1];omega,λhz=>?_,λhz=>?_⟩
  ·refine aG.eH (aTT (aR h nb (dO p sz t2 0)) nb p sz t2 0 6 (aH _ _ _) hsz.2) ?_
   rintro r h' ⟨rfl,rfl⟩
   simp -dsimp -implicitDefEqProofs only[go_sem,↓reduceIte,Tryz.f169]
   refine⟨_,aR h nb (dO p sz t2 6),bJ qU,_,t2,6,rfl,rfl,eD j1,by omega,b2,?_⟩
   rw[yK h3 aA aA,hk]
   refine a3.dA (b3.dA ?_)
   have:opE 6 [s1,s2] t2=.error 6:=by rw[opE,if_neg bU,if_neg bU,if_neg bU,if_neg bU];exact if_pos hz
   rw[cJ,this]
   exact jJ _ _ bU
  ·refine aG.mk (a88 s1 s2 uA nR nR sO.2 tM.2) ?_
   simp -dsimp -implicitDefEqProofs only[go_sem,↓reduceIte,Tryz.f169]
   refine⟨_,aR h nb (dO p sz t2 0),bJ (Heap.le_refl _),_,t2,0,rfl,rfl,aCZ _ sO,by omega,b2,?_⟩
   rw[yK h3 aA aA,hk]
   refine a3.dA (b3.dA ?_)
   have:opE 6 [s1,s2] t2=.ok (nN s1 s2,t2):=by rw[opE,if_neg bU,if_neg bU,if_neg bU,if_neg bU];exact if_neg hz
   rw[cJ,this]
   exact j0 _ _
 ·refine aG.eH (aTT (aR h nb (dO p sz t2 c2)) nb p sz t2 c2 6 (aH _ _ _) hsz.2) ?_
  rintro r h' ⟨rfl,rfl⟩
  simp -dsimp -implicitDefEqProofs only[go_sem,↓reduceIte,Tryz.f169]
  refine⟨_,aR h nb (dO p sz t2 c2),bJ (by rw[aJ,if_neg hc];exact Heap.le_refl _),_,t2,c2,rfl,rfl,eD j1,by omega,b2,?_⟩
  rw[yK h3 aA aA,hk]
  exact a3.dA (b3.dA aAM)
theorem run {p:aF} (hp:p.ok) {sz:Nat} (hsz:1<=sz/\sz<=1048576):∀ n,qF p sz n
 |0=>λh nb st c e env funcs hb hst hn=>by omega
 |n+1=>λh nb st c e env funcs hb hst hn hok eP hf henv hel=>by
  have hv:=run hp hsz n
  by_cases hs:¬c=0∨st=3000
  ·exact aVV hsz h nb st c e env hb hst hs
  have hc:c=0:=aMF λq=>hs (.inl q)
  have h3:st<3000:=by
   rcases cQ st 3000 with h|h
   ·exact h
   ·exact absurd (.inr aA) hs
  subst hc
  rcases pR ((aB.cS _ _ _ _).1 hok).1 with hk|hk|hk|hk|hk|hk|hk|hk|hk|hk|hk
  ·exact a9A hp hsz hv h nb st e env funcs hb h3 hn hok eP hf henv hel hk
  ·exact a9B hp hsz hv h nb st e env funcs hb h3 hn hok eP hf henv hel hk
  ·exact a9G hp hsz hv h nb st e env funcs hb h3 hn hok eP hf henv hel hk
  ·exact a9H hp hsz hv h nb st e env funcs hb h3 hn hok eP hf henv hel hk
  ·exact a9I hp hsz hv h nb st e env funcs hb h3 hn hok eP hf henv hel hk
  ·exact a9J hp hsz hv h nb st e env funcs hb h3 hn hok eP hf henv hel hk
  ·exact a9F hp hsz hv h nb st e env funcs hb h3 hn hok eP hf henv hel hk
  ·exact a9C hp hsz hv h nb st e env funcs hb h3 hn hok eP hf henv hel hk
  ·exact a9D hp hsz hv h nb st e env funcs hb h3 hn hok eP hf henv hel hk
  ·exact a3W hp hsz hv h nb st e env funcs hb h3 hn hok eP hf henv hel hk
  ·exact a3X hp hsz hv h nb st e env funcs hb h3 hn hok eP hf henv hel hk
def lC {α β:Type} (R:α->β->Prop) (X:Out α) (Y:Out β):Prop:=match X,Y with
 | .ok (v,t),.ok (v',t')=>R v v'/\t=t'
 | .error c,.error c'=>c=c'
 | _,_=>False
theorem lC.bind {α β γ δ:Type} {R:α->β->Prop} {R':γ->δ->Prop} {P:α->Nat->Prop} {X:Out α} {Y:Out β} {F:α->Nat->Out γ} {G:β->Nat->Out δ} (hp:qZ P X) (h:lC R X Y) (hf:∀ v v' t,P v t->R v v'->lC R' (F v t) (G v' t)):lC R' (X.andThen F) (Y.andThen G):=by
 cases X with
 |ok p =>
  cases Y with
  |ok q =>
   obtain⟨v,t⟩:=p
   obtain⟨v',t'⟩:=q
   obtain⟨h1,rfl⟩:=h
   exact hf _ _ _ (hp v t rfl) h1
  |error c=>exact h.elim
 |error c =>
  cases Y with
  |ok q=>exact h.elim
  |error d=>exact h
theorem lC.pure {α β:Type} {R:α->β->Prop} {v:α} {v':β} {t:Nat} (h:R v v'):lC R (.ok (v,t)) (.ok (v',t)):=⟨h,rfl⟩
def sv (S:cD) (l:List Int):List (List Int):=l.map λk=>[S.val k]
def sR1 (r:Int×cD) (v:List Int):Prop:=v=[r.2.val r.1]
def sRL (r:List Int×cD) (vs:List (List Int)):Prop:=vs=sv r.2 r.1
theorem aHD {S S':cD} {l:List Int} (h:∀ x∈l,l8 S x) (e:S.ext S'):sv S' l=sv S l :=
 aUT λx hx=>by rw[e.val (h x hx).1 (h x hx).2]
theorem uS {ev:Nat->aB->cD->Out (Int×cD)} {ev':Nat->aB->Out (List Int)} {inp:Int}:∀ (l:List aB) (t:Nat) (S:cD),Good inp S t->t<=3000->(∀ e∈l,∀ u S',Good inp S' u->S.ext S'->lU S t S' u->qZ (zZ inp S' u) (ev u e S')/\lC sR1 (ev u e S') (ev' u e))->lC sRL (nO ev l t S) (kJ ev' l t)
 | [],t,S,hg,ht,_=>lC.pure rfl
 |e::l,t,S,hg,ht,h=>by
  obtain⟨h1,h2⟩:=h e u4 t S hg S.oX (.refl ht)
  refine lC.bind h1 h2 λr v u hr hv=>?_
  obtain⟨r1,r2,r3,r4⟩:=hr
  have hl:=λx hx u' S' a b c=>h x (rM _ hx) u' S' a (r2.trans b) (r4.trans c)
  refine lC.bind (gS l u r.2 r1 r4.2.2.2 λx hx u' S' a b c=>(hl x hx u' S' a b c).1) (uS l u r.2 r1 r4.2.2.2 hl) λq vs u' hq hvs=>lC.pure ?_
  rw[sR1]at hv
  rw[sRL]at hvs ⊢
  rw[hv,hvs,←hq.2.1.val r3.1 r3.2];rfl
theorem aJO {f:List Int->Nat->cD->Out (List Int×cD)} {g:List (List Int)->Nat->Out (List (List Int))} {inp:Int} {m:Nat} (h:∀ vs t S,Good inp S t->(vs.length=m/\∀ x∈vs,l8 S x)->t<=3000->qZ (wO inp S t m) (f vs t S)/\lC sRL (f vs t S) (g (sv S vs) t)) :
  ∀ (n:Nat) (vs:List Int) (t:Nat) (S:cD),Good inp S t->(vs.length=m/\∀ x∈vs,l8 S x)->t<=3000->lC sRL (pI f n vs t S) (oV g n (sv S vs) t)
 |0,vs,t,S,hg,hv,ht=>lC.pure rfl
 |n+1,vs,t,S,hg,hv,ht=>by
  obtain⟨h1,h2⟩:=h vs t S hg hv ht
  refine lC.bind h1 h2 λr w u hr hw=>?_
  rw[sRL]at hw
  rw[hw]
  exact aJO h n r.1 u r.2 hr.1 hr.2.2.1 hr.2.2.2.2.2.2
theorem aAB {S:cD} {l:List Int} {i:Nat} (hi:i<l.length):(sv S l).getD i []=[S.val (l.getD i 0)]:=by
 simp[sv,gA,cP hi]
theorem a3Y {k:Int} {vs:List Int} {S:cD} {t:Nat} (hk:k=3∨k=4∨k=5∨k=6∨k=7) (h1:1<=vs.length) (h2:¬k=7->2<=vs.length):lC sR1 (opR k vs S t) (opE k (sv S vs) t):=by
 have g0:=aAB (S:=S) (l:=vs) (i:=0) aA
 have pv:∀ c v,(S.put c v).val (S.dZ.length:Int)=v:=λc v=>by
  rw[cD.val,cD.put,gA,tX,zE (j4 _),zF];rfl
 unfold opR opE opV
 rcases hk with rfl|rfl|rfl|rfl|rfl
 all_goals simp only[reduceCtorEq,if_true,if_false,Int.reduceEq]
 ·refine lC.pure ?_
  have g1:=aAB (S:=S) (l:=vs) (i:=1) (h2 bU)
  rw[sR1,pv,g0,g1]
  rfl
 ·refine lC.pure ?_
  have g1:=aAB (S:=S) (l:=vs) (i:=1) (h2 bU)
  rw[sR1,pv,g0,g1]
  show[(_+_*1000002%1000003)%1000003]=[(_-S.val (vs.getD 1 0))%1000003]
  congr 1
  omega
 ·refine lC.pure ?_
  have g1:=aAB (S:=S) (l:=vs) (i:=1) (h2 bU)
  rw[sR1,pv,g0,g1]
  show[(0+_*_)%1000003]=[_*S.val (vs.getD 1 0)%1000003]
  rw[Int.zero_add];rfl
 ·have g1:=aAB (S:=S) (l:=vs) (i:=1) (h2 bU)
  rw[g0,g1,show opB 6 vs=vs.getD 1 0 from rfl,show[S.val (vs.getD 1 0)].getD 0 0=S.val (vs.getD 1 0)from rfl]
  by_cases h:S.val (vs.getD 1 0)=0
  ·rw[if_pos h,if_pos h];exact rfl
  ·rw[if_neg h,if_neg h]
   refine lC.pure ?_
   rw[sR1,pv];rfl
 ·refine lC.pure ?_
  rw[sR1,pv,g0]
  show[_*1000002%1000003]=[(0-S.val (vs.getD 0 0))%1000003]
  congr 1
  omega
theorem aOJ {p:aF} (hp:p.ok) {inp:Int}:∀ (n t:Nat) (e:aB) (env:List Int) (S:cD) (funcs:Int),e.ok p funcs env.length->funcs<=p.aI.length->Good inp S t->t<=3000->(∀ x∈env,l8 S x)->lC sR1 (dN p n t e env S) (gR p 1 n t e (sv S env))
 |0,t,e,env,S,funcs,_,_,_,_,_=>rfl
 |n+1,t,e,env,S,funcs,hok,hf,hg,ht,henv=>by
  have ih:=aOJ hp (inp:=inp) n
  have io:=pV hp (inp:=inp) n
  have hnode:=((aB.cS _ _ _ _).1 hok).1
  by_cases h3:t=3000
  ·rw[dN,gR,if_pos h3,if_pos h3];exact rfl
  have j9:=hg.later (mZ t)
  have hcap:=hg.cap
  have hgcap:=hg.vR
  have henvE:∀ {S'},S.ext S'->∀ x∈env,l8 S' x:=λe x hx=>(henv x hx).ext e
  have kidsS:¬e.aN=9->∀ x∈e.aK,∀ u S',Good inp S' u->S.ext S'->lU S (t+1) S' u->qZ (zZ inp S' u) (dN p n u x env S')/\lC sR1 (dN p n u x env S') (gR p 1 n u x (sv S env)):=λh9 x hx u S' a b c =>
   ⟨io u x env S' funcs (eA hok h9 x hx) hf a c.2.2.2 (henvE b),by
    have:=ih u x env S' funcs (eA hok h9 x hx) hf a c.2.2.2 (henvE b)
    rwa [aHD henv b]at this⟩
  rcases pR hnode with hk|hk|hk|hk|hk|hk|hk|hk|hk|hk|hk
  ·rw[aG4 h3 hk,aOD h3 hk]
   refine lC.pure ?_
   simp[sR1,cD.val,cD.put,l6,a1I]
  ·rw[aG5 h3 hk,aOE h3 hk]
   have hn:=((dI aA).1 hnode).2.2.2.2.1 hk
   exact lC.pure (aAB aA)
  iterate 5
   ·have hlen:=dH hok aA
    rw[hk]at hlen
    rw[lQ h3 aA,mX h3 aA]
    have hs:=kidsS aA
    refine lC.bind (gS _ _ S j9 aA λx hx u S' a b c=>(hs x hx u S' a b c).1) (uS _ _ S j9 aA hs) λr vs u hr hv=>?_
    obtain⟨r1,r2,r3,r4⟩:=hr
    rw[sRL]at hv
    rw[hv]
    exact a3Y aA aRY (λq=>by unfold dK at hlen;simp at hlen;omega)
  ·have hlen:=dH hok aA
   rw[hk,show dK 8=3 from rfl]at hlen
   have o0:=aB.dW hok (i:=0) aA
   have o1:=aB.dW hok (i:=1) aA
   have o2:=aB.dW hok (i:=2) aA
   rw[fR aA]at o0 o1 o2
   rw[vT h3 hk,aG2 h3 hk]
   refine lC.bind (io _ _ _ _ _ o0 hf j9 aA henv) (ih _ _ _ _ _ o0 hf j9 aA henv) λr v u hr hv=>?_
   obtain⟨r1,r2,r3,r4⟩:=hr
   have r4':=r4
   unfold lU at r4'
   rw[sR1]at hv
   subst hv
   rw[show[r.2.val r.1].getD 0 0=r.2.val r.1 from rfl]
   have go:∀ (b:Bool) (k:aB),k.ok p funcs env.length->lC sR1 (dN p n u k env (r.2.guard ⟨r.1,b⟩)) (gR p 1 n u k (sv S env)):=λb k hk=>by
    have he:r.2.ext (r.2.guard ⟨r.1,b⟩):=r.2.oB _
    have:=ih u k env _ _ hk hf (r1.guard (b:=b) r3 aA) aA (henvE (r2.trans he))
    rwa [aHD henv (r2.trans he)]at this
   by_cases hz:r.2.val r.1=0
   ·rw[if_pos hz,if_pos hz];exact go _ _ o1
   ·rw[if_neg hz,if_neg hz];exact go _ _ o2
  ·have hlen:=dH hok aA
   rw[hk,show dK 9=2 from rfl]at hlen
   have o0:=aB.dW hok (i:=0) aA
   have o1:=aB.dW hok (i:=1) aA
   rw[fR aA]at o0
   rw[hk,show gL 9 1 (env.length:Int)=env.length+1 from rfl]at o1
   rw[aG6 h3 hk,aOF h3 hk]
   refine lC.bind (io _ _ _ _ _ o0 hf j9 aA henv) (ih _ _ _ _ _ o0 hf j9 aA henv) λr v u hr hv=>?_
   obtain⟨r1,r2,r3,r4⟩:=hr
   rw[sR1]at hv
   subst hv
   have:=ih u (e.lO 1) (env++[r.1]) r.2 funcs aAO hf r1 r4.2.2.2 (λx hx=>by
    rcases mS.1 hx with hx|hx
    ·exact henvE r2 x hx
    ·rw[nQ.1 hx];exact r3)
   rwa [show sv r.2 (env++[r.1])=sv S env++[[r.2.val r.1]]by rw[←aHD henv r2,sv,zG];rfl]at this
  ·obtain⟨f,F⟩:=lP hp hok hf (.inl hk)
   have f2:=F.hi
   have f4:=F.pk2
   rw[yH h3 hk,aC1 h3 hk]
   have hs:=kidsS aA
   refine lC.bind (gS _ _ S j9 aA λx hx u S' a b c=>(hs x hx u S' a b c).1) (uS _ _ S j9 aA hs) λr vs u hr hv=>?_
   obtain⟨r1,r2,r3,r4⟩:=hr
   rw[sRL]at hv
   rw[hv]
   exact ih _ _ r.1 _ e.aX a5R aA r1 r4.2.2.2 r3.2
  ·obtain⟨f,F⟩:=lP hp hok hf (.inr hk)
   have f2:=F.hi
   have f4:=F.pk2
   have f9:=F.loop hk
   rw[yI h3 hk,aC2 h3 hk]
   have hs:=kidsS aA
   refine lC.bind (gS _ _ S j9 aA λx hx u S' a b c=>(hs x hx u S' a b c).1) (uS _ _ S j9 aA hs) λr vs u hr hv=>?_
   obtain⟨r1,r2,r3,r4⟩:=hr
   rw[sRL]at hv
   rw[hv]
   have hfl:∀ vs t S,Good inp S t->(vs.length=f.aO.length/\∀ x∈vs,l8 S x)->t<=3000->qZ (wO inp S t f.aO.length) (nO (λt e S=>dN p n t e vs S) (p.outs e.aX) t S)/\lC sRL (nO (λt e S=>dN p n t e vs S) (p.outs e.aX) t S) (kJ (λt e=>gR p 1 n t e (sv S vs)) (p.outs e.aX) t):=λvs w S' hg' hv hw=>by
    rw[F.eq]
    have hx2:∀ x∈f.aO,∀ u S'',Good inp S'' u->S'.ext S''->lU S' w S'' u->qZ (zZ inp S'' u) (dN p n u x vs S'')/\lC sR1 (dN p n u x vs S'') (gR p 1 n u x (sv S' vs)):=λx hx u S'' a b c =>
     ⟨io u x vs S'' e.aX aW7 aA a c.2.2.2 λy hy=>(hv.2 y hy).ext b,by
      have:=ih u x vs S'' e.aX aW7 aA a c.2.2.2 λy hy=>(hv.2 y hy).ext b
      rwa [aHD hv.2 b]at this⟩
    exact⟨gS _ _ S' hg' hw λx hx u S'' a b c=>(hx2 x hx u S'' a b c).1,uS _ _ S' hg' hw hx2⟩
   have wR:r.1.length=f.aO.length/\∀ x∈r.1,l8 r.2 x:=⟨by have:=r3.1;have:=F.kids;omega,r3.2⟩
   refine lC.bind (qD (inp:=inp) (m:=f.aO.length) (λvs t S a b c=>(hfl vs t S a b c).1) _ _ _ _ r1 wR r4.2.2.2) (aJO (inp:=inp) (m:=f.aO.length) (g:=λvs t=>kJ (λt e=>gR p 1 n t e vs) (p.outs e.aX) t) hfl _ _ _ _ r1 wR r4.2.2.2) λq vs2 v hq hvs=>?_
   refine lC.pure ?_
   rw[sRL]at hvs
   rw[hvs]
   exact aAB (by rw[hq.2.2.1.1];exact f4)
def inS (args:List Int):cD:=⟨(List.range args.length).map λi:Nat=>⟨1,0,0,(i:Int)⟩,args,[]⟩
def yY (args:List Int):List Int:=(List.range args.length).map λi:Nat=>(i:Int)
theorem aBY (args:List Int) (ha:gE args) (hl:args.length<=12):Good args.length (inS args) 0:=by
 refine⟨by simp[inS],ha,λi c hc=>?_,λg hg=>(by cases hg),by simpa[inS]using hl,j4 _⟩
 obtain⟨h1,h2⟩:=jQ.1 hc
 simp[inS]at h1 h2
 subst h2
 exact .inl ⟨rfl,rfl,rfl,by simp only;omega,by simp only;omega⟩
theorem aLJ (args:List Int):∀ x∈yY args,l8 (inS args) x:=λx hx=>by
 obtain⟨i,hi,rfl⟩:=rC.1 hx
 have:=aUS.1 hi
 exact⟨by omega,by simp[inS];omega⟩
theorem a9K (args:List Int):sv (inS args) (yY args)=args.map λn=>[n]:=by
 apply aMH
 ·simp[sv,yY]
 ·intro i h1 h2
  simp[sv,yY,inS,cD.val]
  simp at h2
  rw[cP h2];rfl
def aIM (p:aF) (f:Int) (args:List Int):Out (List Int×cD):=nO (λt e S=>dN p 3001 t e (yY args) S) (p.outs f) 0 (inS args)
theorem aLK {p:aF} (hp:p.ok) (f:Int) (hf:0<=f/\f<p.aI.length) (args:List Int) (ha:gE args) (hl:∀ F,p.aI[f.toNat]?=some F->(args.length:Int)=F.bB) :
  qZ (wO args.length (inS args) 0 (p.outs f).length) (aIM p f args)/\lC sRL (aIM p f args) (evF p 1 f (args.map λn=>[n])):=by
 obtain⟨F,ef,hF1,hF2,hF3,hF4⟩:=rG hp hf
 have hla:=hl F ef
 have hg:=aBY args ha aA
 have hin:=aLJ args
 have hel:(yY args).length=args.length:=by simp[yY]
 have hx2:∀ x∈p.outs f,∀ u S'',Good args.length S'' u->(inS args).ext S''->lU (inS args) 0 S'' u->qZ (zZ args.length S'' u) (dN p 3001 u x (yY args) S'')/\lC sR1 (dN p 3001 u x (yY args) S'') (gR p 1 3001 u x (args.map λn=>[n])):=λx hx u S'' a b c=>by
  have hxo:x.ok p f (yY args).length:=by rw[hel,hla];exact hF4 x (by rw[←hF3];exact hx)
  refine⟨pV hp _ u x _ S'' f hxo aA a c.2.2.2 λy hy=>(hin y hy).ext b,?_⟩
  have:=aOJ hp 3001 u x (yY args) S'' f hxo aA a c.2.2.2 λy hy=>(hin y hy).ext b
  rwa [aHD hin b,a9K]at this
 exact⟨gS _ _ _ hg aA λx hx u S'' a b c=>(hx2 x hx u S'' a b c).1,uS _ _ _ hg aA hx2⟩
end Go.Hl

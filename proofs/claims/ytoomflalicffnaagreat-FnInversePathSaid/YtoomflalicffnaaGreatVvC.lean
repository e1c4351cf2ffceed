/-
  Contracts of functions and laws of the layer over the walk.
-/
import Derived.Test.YtoomflalicffnaaGreatVvB
import Derived.Test.YtoomflalicffnaaGreatHlD
import Derived.Test.YtoomflalicffnaaGreatVvA
import Derived.Test.YtoomflalicffnaaGreatGn
namespace Go.Hl
set_option maxRecDepth 100000
open Go.Proofs
set_option linter.unusedVariables false
set_option linter.unusedSimpArgs false
theorem bBM {p:aF} (hp:p.ok) {sz n:Nat} (hv:sZ p sz n) (h:aB) (nb st:Nat) (e:aC) (env:List (List Int)) (funcs:Int) (hb:h nb=some (eH p sz st 0)) (hst:st<=3000) (hn:3001<=n+st) (hok:e.ok p funcs env.length) (gF:0<=funcs) (hf:funcs<=p.aK.length) (henv:∀ s∈env,aW sz s) (hel:env.length<=412+st) (hk:e.aS=10) :
  iD Tryz.prog 215 [.op nb 4 0 0,.ip 5 [e.c] 0 0,bL env] h (RnQ h nb p sz st 0 ((l3 (λt e=>iZ p sz n t e env) e.aN st).andThen λvs t=>iZ p sz n t (p.out e.bA e.cV) vs)):=by
 obtain⟨f,F⟩:=nS hp hok hf (.inl hk)
 have f1:=F.lo
 have f2:=F.hi
 have f3:=F.pk
 have f4:=F.pk2
 have f5:=F.kids
 have f6:=F.params
 have f8:=F.outs
 have f9:=F.loop
 have hkok:=fF hok aA
 rw[aC.aY]
 refine jU 81 aS1 aS2 aS3 Tryz.func215 ?_
 simp -dsimp -implicitDefEqProofs only[go_sem,↓reduceIte,Tryz.f215]
 refine⟨aX,?_⟩
 refine cM aS1 aS2 aS3 (λx:Nat×List (List Int)×Nat×Int×Option Nat=>[(0,.op nb 4 0 0),(1,.ip 5 [[I e.aS,I e.bA,I e.cV,I e.cH,gT 5 aC.c e.aN]] 0 0),(2,bL env),(7,fT 1 x.2.1.length x.2.2.2.2),(8,I x.1)]) (λx=>cQ (aT h nb (eH p sz x.2.2.1 x.2.2.2.1)) (.row 1 ((x.2.1.map λs=>[ints s]).map (List.map .v))) x.2.2.2.2) (λx=>x.1<=e.aN.length/\x.2.1.length=x.1/\(∀ s∈x.2.1,aW sz s)/\st<=x.2.2.1/\x.2.2.1<=3000/\jN (pL 0 (l3 (λt e=>iZ p sz n t e env) (e.aN.take x.1) st)) x.2.1 x.2.2.1 x.2.2.2.1/\eU h x.2.1 x.2.2.2.2) (λx=>e.aN.length-x.1) (0,[],st,0,none) ⟨by simp[cR,bZ,fT],by simp only[aM];rw[rA hb];exact aB.le_refl _,eM _,rfl,by simp,bY _,hst,gW _ _ _,rfl⟩ ?_
 rintro⟨k,vs,t,c',o⟩ ⟨hk2,hvl,hvs,ht0,ht,ho,hos⟩
 simp only at hk2 hvl hvs ht0 ht ho hos ⊢
 rcases bT k e.aN.length with hlt|hge
 ·have ek:e.aN[k]?=some e.aN[k]:=fC hlt
  have hnext:∀ (s:List Int) (t2:Nat) (c2:Int),jN (pL c' (iZ p sz n t e.aN[k] env)) s t2 c2->jN (pL 0 (l3 (λt e=>iZ p sz n t e env) (e.aN.take (k+1)) st)) (vs++[s]) t2 c2:=λs t2 c2 h3=>by
   rw[iW hlt,xN]
   exact ho.dU (h3.dU (gW _ _ _))
  have hall:∀ s,aW sz s->∀ x∈vs++[s],aW sz x:=λs hs=>u7 hvs hs
  cases o with
  |none =>
   rw[aZ]at hos
   subst hos
   simp -dsimp -implicitDefEqProofs only[go_sem,↓reduceIte,Tryz.f215,bD,aM,hlt,ek]
   intro _
   refine aH.fX (hv.at ek (aT h nb (eH p sz t c')) nb t c' env funcs (aI _ _ _) ht aA (hkok _ (lF _)) gF hf henv aA) ?_
   rintro r h' ⟨s,t2,c2,rfl,rfl,hs,h1,h2,h3⟩
   simp -dsimp -implicitDefEqProofs only[go_sem,↓reduceIte,Tryz.f215]
   refine⟨aX,aX,aX,?_⟩
   intro b y7
   obtain⟨mS,fW,fV,mT⟩:=cW (show ¬b=nb from pjx y7)
   have z_b:h b=none:=pjx y7
   refine⟨(k+1,[s],t2,c2,some b),⟨rfl,by rw[IntWalk.i64_in _ aA];rfl⟩,(lG bGW),⟨by omega,by simp only[rU]at hvl;subst hvl;rfl,λx hx=>hall s hs x hx,aDW ht0 h1,h2,hnext s t2 c2 h3,z_b⟩,by simp only;omega⟩
  |some m =>
   rw[aP]at hos
   obtain⟨rC,jJ,jI,nI⟩:=cW (show ¬m=nb from λe=>by rw[e,hb]at hos;cases hos)
   simp -dsimp -implicitDefEqProofs only[go_sem,↓reduceIte,Tryz.f215,aQ,aJ,hlt,ek]
   intro _
   refine aH.fX (hv.at ek (aT (aT h nb (eH p sz t c')) m (.row 1 ((vs.map λs=>[ints s]).map (List.map .v)))) nb t c' env funcs aRP ht aA (hkok _ (lF _)) gF hf henv aA) ?_
   rintro r h' ⟨s,t2,c2,rfl,rfl,hs,h1,h2,h3⟩
   simp -dsimp -implicitDefEqProofs only[go_sem,↓reduceIte,Tryz.f215,aD,jJ,jI]
   refine⟨aX,aX,aX,bY _,by omega,by omega,?_⟩
   intro b y7
   obtain⟨mS,fW,fV,mT⟩:=cW (show ¬b=nb from pjx y7)
   obtain⟨rZ,lM,lN,rD⟩:=cW (show ¬b=m from pjx y7)
   have z_b:h b=none:=pjx y7
   refine⟨(k+1,vs++[s],t2,c2,some b),⟨by rw[aQ,nT];rfl,by rw[IntWalk.i64_in _ aA];rfl⟩,?_,⟨by omega,by rw[nT,hvl];rfl,hall s hs,aDW ht0 h1,h2,hnext s t2 c2 h3,z_b⟩,by simp only;omega⟩
   simp only[aJ]
   rw[←dS ints]
   exact(lG bGV)
 have hk':k=e.aN.length:=by omega
 subst hk'
 rw[nM]at ho
 have gp:vs[e.cV.toNat]?=some (vs.getD e.cV.toNat [])∨e.aS=10:=by
  by_cases h10:e.aS=10
  ·exact .inr h10
  ·exact .inl (jZ (by have:=f9 aA;omega))
 cases o with
 |none =>
  rw[aZ]at hos
  subst hos
  simp -dsimp -implicitDefEqProofs only[go_sem,↓reduceIte,Tryz.f215,bD,aM,bV,cY,eH,hk,F.get,F.out,aV.aY,aF.aY]
  intro _
  refine⟨f1,f2,f3,by omega,?_⟩
  refine aH.fX (iD.sub (.cons (.refl _) (.cons (.refl _) (.cons (Sub.loose _ _ _) .nil))) (hv.at F.out (aT h nb (eH p sz t c')) nb t c' [] e.bA (aI _ _ _) ht aA aXT f1 aA eC eC)) ?_
  rintro r h' ⟨s,t2,c2,rfl,rfl,hs,b1,b2,b3⟩
  simp -dsimp -implicitDefEqProofs only[go_sem,↓reduceIte,Tryz.f215]
  refine⟨_,aT h nb (eH p sz t2 c2),cT tL,s,t2,c2,rfl,rfl,hs,by omega,b2,?_⟩
  exact ho.dU b3
 |some m =>
  rw[aP]at hos
  obtain⟨rC,jJ,jI,nI⟩:=cW (show ¬m=nb from λe=>by rw[e,hb]at hos;cases hos)
  simp -dsimp -implicitDefEqProofs only[go_sem,↓reduceIte,Tryz.f215,aQ,aJ,bV,cY,eH,aD,jJ,jI,hk,F.get,F.out,aV.aY,aF.aY]
  intro _
  refine⟨f1,f2,f3,by omega,?_⟩
  refine aH.a6I rfl rfl nI aX9 (by rw[aD _ _ _ _ rC];exact hos) ?_
  refine iD.mono (hv.at F.out (aT (aT h nb (eH p sz t c')) m .gone) nb t c' vs e.bA aRP ht aA aXT f1 aA hvs aA) ?_
  rintro r h' ⟨s,t2,c2,rfl,rfl,hs,b1,b2,b3⟩
  simp -dsimp -implicitDefEqProofs only[go_sem,↓reduceIte,Tryz.f215]
  refine⟨_,aT h nb (eH p sz t2 c2),cT (lG bMT),s,t2,c2,rfl,rfl,hs,by omega,b2,?_⟩
  exact ho.dU b3
theorem bBN {p:aF} (hp:p.ok) {sz n:Nat} (hv:sZ p sz n) (h:aB) (nb st:Nat) (e:aC) (env:List (List Int)) (funcs:Int) (hb:h nb=some (eH p sz st 0)) (hst:st<=3000) (hn:3001<=n+st) (hok:e.ok p funcs env.length) (gF:0<=funcs) (hf:funcs<=p.aK.length) (henv:∀ s∈env,aW sz s) (hel:env.length<=412+st) (hk:e.aS=11) :
  iD Tryz.prog 215 [.op nb 4 0 0,.ip 5 [e.c] 0 0,bL env] h (RnQ h nb p sz st 0 ((l3 (λt e=>iZ p sz n t e env) e.aN st).andThen λvs t=>(qM (λvs t=>l3 (λt e=>iZ p sz n t e vs) (p.outs e.bA) t) e.cH.toNat vs t).andThen λvs t=>.ok (vs.getD e.cV.toNat [],t))):=by
 obtain⟨f,F⟩:=nS hp hok hf (.inr hk)
 have f1:=F.lo
 have f2:=F.hi
 have f3:=F.pk
 have f4:=F.pk2
 have f5:=F.kids
 have f6:=F.params
 have f8:=F.outs
 have f9:=F.loop
 have hkok:=fF hok aA
 rw[aC.aY]
 refine jU 81 aS1 aS2 aS3 Tryz.func215 ?_
 simp -dsimp -implicitDefEqProofs only[go_sem,↓reduceIte,Tryz.f215]
 refine⟨aX,?_⟩
 refine cM aS1 aS2 aS3 (λx:Nat×List (List Int)×Nat×Int×Option Nat=>[(0,.op nb 4 0 0),(1,.ip 5 [[I e.aS,I e.bA,I e.cV,I e.cH,gT 5 aC.c e.aN]] 0 0),(2,bL env),(7,fT 1 x.2.1.length x.2.2.2.2),(8,I x.1)]) (λx=>cQ (aT h nb (eH p sz x.2.2.1 x.2.2.2.1)) (.row 1 ((x.2.1.map λs=>[ints s]).map (List.map .v))) x.2.2.2.2) (λx=>x.1<=e.aN.length/\x.2.1.length=x.1/\(∀ s∈x.2.1,aW sz s)/\st<=x.2.2.1/\x.2.2.1<=3000/\jN (pL 0 (l3 (λt e=>iZ p sz n t e env) (e.aN.take x.1) st)) x.2.1 x.2.2.1 x.2.2.2.1/\eU h x.2.1 x.2.2.2.2) (λx=>e.aN.length-x.1) (0,[],st,0,none) ⟨by simp[cR,bZ,fT],by simp only[aM];rw[rA hb];exact aB.le_refl _,eM _,rfl,by simp,bY _,hst,gW _ _ _,rfl⟩ ?_
 rintro⟨k,vs,t,c',o⟩ ⟨hk2,hvl,hvs,ht0,ht,ho,hos⟩
 simp only at hk2 hvl hvs ht0 ht ho hos ⊢
 rcases bT k e.aN.length with hlt|hge
 ·have ek:e.aN[k]?=some e.aN[k]:=fC hlt
  have hnext:∀ (s:List Int) (t2:Nat) (c2:Int),jN (pL c' (iZ p sz n t e.aN[k] env)) s t2 c2->jN (pL 0 (l3 (λt e=>iZ p sz n t e env) (e.aN.take (k+1)) st)) (vs++[s]) t2 c2:=λs t2 c2 h3=>by
   rw[iW hlt,xN]
   exact ho.dU (h3.dU (gW _ _ _))
  have hall:∀ s,aW sz s->∀ x∈vs++[s],aW sz x:=λs hs=>u7 hvs hs
  cases o with
  |none =>
   rw[aZ]at hos
   subst hos
   simp -dsimp -implicitDefEqProofs only[go_sem,↓reduceIte,Tryz.f215,bD,aM,hlt,ek]
   intro _
   refine aH.fX (hv.at ek (aT h nb (eH p sz t c')) nb t c' env funcs (aI _ _ _) ht aA (hkok _ (lF _)) gF hf henv aA) ?_
   rintro r h' ⟨s,t2,c2,rfl,rfl,hs,h1,h2,h3⟩
   simp -dsimp -implicitDefEqProofs only[go_sem,↓reduceIte,Tryz.f215]
   refine⟨aX,aX,aX,?_⟩
   intro b y7
   obtain⟨mS,fW,fV,mT⟩:=cW (show ¬b=nb from pjx y7)
   have z_b:h b=none:=pjx y7
   refine⟨(k+1,[s],t2,c2,some b),⟨rfl,by rw[IntWalk.i64_in _ aA];rfl⟩,(lG bGW),⟨by omega,by simp only[rU]at hvl;subst hvl;rfl,λx hx=>hall s hs x hx,aDW ht0 h1,h2,hnext s t2 c2 h3,z_b⟩,by simp only;omega⟩
  |some m =>
   rw[aP]at hos
   obtain⟨rC,jJ,jI,nI⟩:=cW (show ¬m=nb from λe=>by rw[e,hb]at hos;cases hos)
   simp -dsimp -implicitDefEqProofs only[go_sem,↓reduceIte,Tryz.f215,aQ,aJ,hlt,ek]
   intro _
   refine aH.fX (hv.at ek (aT (aT h nb (eH p sz t c')) m (.row 1 ((vs.map λs=>[ints s]).map (List.map .v)))) nb t c' env funcs aRP ht aA (hkok _ (lF _)) gF hf henv aA) ?_
   rintro r h' ⟨s,t2,c2,rfl,rfl,hs,h1,h2,h3⟩
   simp -dsimp -implicitDefEqProofs only[go_sem,↓reduceIte,Tryz.f215,aD,jJ,jI]
   refine⟨aX,aX,aX,bY _,by omega,by omega,?_⟩
   intro b y7
   obtain⟨mS,fW,fV,mT⟩:=cW (show ¬b=nb from pjx y7)
   obtain⟨rZ,lM,lN,rD⟩:=cW (show ¬b=m from pjx y7)
   have z_b:h b=none:=pjx y7
   refine⟨(k+1,vs++[s],t2,c2,some b),⟨by rw[aQ,nT];rfl,by rw[IntWalk.i64_in _ aA];rfl⟩,?_,⟨by omega,by rw[nT,hvl];rfl,hall s hs,aDW ht0 h1,h2,hnext s t2 c2 h3,z_b⟩,by simp only;omega⟩
   simp only[aJ]
   rw[←dS ints]
   exact(lG bGV)
 have hk':k=e.aN.length:=by omega
 subst hk'
 rw[nM]at ho
 have gp:vs[e.cV.toNat]?=some (vs.getD e.cV.toNat [])∨e.aS=10:=by
  by_cases h10:e.aS=10
  ·exact .inr h10
  ·exact .inl (jZ (by have:=f9 aA;omega))
 have gp':vs[e.cV.toNat]?=some (vs.getD e.cV.toNat []):=gp.resolve_right aA
 have g9:=f9 hk
 cases o with
 |none =>
  exfalso
  rw[aZ]at hos
  rw[hos]at hvl
  simp at hvl
  omega
 |some m =>
  rw[aP]at hos
  obtain⟨rC,jJ,jI,nI⟩:=cW (show ¬m=nb from λe=>by rw[e,hb]at hos;cases hos)
  simp -dsimp -implicitDefEqProofs only[go_sem,↓reduceIte,Tryz.f215,aQ,aJ,bV,cY,eH,aD,jJ,jI,hk,F.get,F.out,aV.aY,aF.aY]
  intro _
  refine⟨f1,f2,?_⟩
  refine aF5.a5U m (by rw[aD _ _ _ _ rC];exact hos) (by simp[jK,jJ,jI]) ?_
  refine cM aS1 aS2 aS3 (λx:Nat×List (List Int)×Nat×Int=>[(0,.op nb 4 0 0),(1,.ip 5 [[I 11,I e.bA,I e.cV,I e.cH,gT 5 aC.c e.aN]] 0 0),(7,bL x.2.1),(9,.ip 3 (p.aK.map aV.c) e.bA.toNat 0),(10,I x.1)]) (λx=>aT h nb (eH p sz x.2.2.1 x.2.2.2)) (λx=>x.1<=e.cH.toNat/\x.2.1.length=f.aU.length/\(∀ s∈x.2.1,aW sz s)/\t<=x.2.2.1/\x.2.2.1<=3000/\jN (pL c' (qM (λvs t=>l3 (λt e=>iZ p sz n t e vs) (p.outs e.bA) t) x.1 vs t)) x.2.1 x.2.2.1 x.2.2.2) (λx=>e.cH.toNat-x.1) (0,vs,t,c') ⟨by simp[cR,bZ,aE.fS,jJ,jI,hJ],(lG (by repeat'(first|exact nZ _ _|refine qS (by simp only[fN,↓reduceIte,eq_self,if_true,jJ,jI,eH,aF.aY]) ?_|refine l6 aAM ?_))),eM _,by simp only;omega,hvs,bY _,ht,gW _ _ _⟩ ?_
  rintro⟨k,us,u,d⟩ ⟨hk1,hul,hus,ht1,ht2,hd⟩
  simp only at hk1 hul hus ht1 ht2 hd ⊢
  have gu:us[e.cV.toNat]?=some (us.getD e.cV.toNat []):=jZ aA
  simp -dsimp -implicitDefEqProofs only[go_sem,↓reduceIte,Tryz.f215,eH,gu]
  refine⟨λhlt=>?_,λhge=>?_⟩
  ·refine aH.fX (iD.sub (.cons (.refl _) (.cons (Sub.ip (by rw[sO,F.get];rfl) aYD) (.cons (.refl _) .nil))) (aIP hv (aT h nb (eH p sz u d)) nb u d f us e.bA (aI _ _ _) ht2 aA aA (by rw[hul,g9.2.2];exact F.oks) f1 aA hus aA)) ?_
   rintro r h' ⟨l2,t2,c2,rfl,rfl,hl2,wO,b1,b2,b3⟩
   simp -dsimp -implicitDefEqProofs only[go_sem,↓reduceIte,Tryz.f215]
   refine⟨(k+1,l2,t2,c2),⟨rfl,by rw[IntWalk.i64_in _ aA];rfl⟩,by simp only[aL];exact aB.le_refl _,⟨by omega,hl2,wO,by simp only;omega,b2,?_⟩,by simp only;omega⟩
   simp only
   rw[yZ]
   refine hd.dU ?_
   rw[F.eq]
   exact b3
  ·have hke:k=e.cH.toNat:=by omega
   refine⟨f3,by omega,_,_,bO _ _,us.getD e.cV.toNat [],u,d,rfl,rfl,iH hus aA,by omega,ht2,?_⟩
   refine ho.dU ?_
   rw[←hke]
   exact hd.dU (gW _ _ _)
theorem a2T {p:aF} {sz n:Nat} (hsz:1<=sz/\sz<=1048576) (h:aB) (nb st:Nat) (c:Int) (e:aC) (env:List (List Int)) (hb:h nb=some (eH p sz st c)) (hst:st<=3000) (hs:¬c=0∨st=3000) :
  iD Tryz.prog 191 [.op nb 4 0 0,.ip 5 [e.c] 0 0,bL env] h (RnQ h nb p sz st c (iZ p sz (n+1) st e env)):=by
 rw[aC.aY]
 have hb':=hb
 unfold eH at hb'
 refine jU 186 p5 cU aAB Tryz.func191 ?_
 simp -dsimp -implicitDefEqProofs only[go_sem,↓reduceIte,Tryz.f191,hb']
 refine⟨λhc=>?_,λhc=>?_⟩
 ·have hc':¬c=0:=by simpa using hc
  refine aH.fX (aZU h nb p sz st c c hb hsz.2) ?_
  rintro r h' ⟨rfl,rfl⟩
  simp -dsimp -implicitDefEqProofs only[go_sem,↓reduceIte,Tryz.f191]
  refine⟨_,_,bO _ _,_,st,c,rfl,by rw[if_neg hc'],cS gZ,bY _,hst,by rw[sJ _ hc'];exact lB _ _ hc'⟩
 ·have hc0:c=0:=by simpa using hc
  subst hc0
  have h3:st=3000:=by rcases hs with hs|hs;exact absurd rfl hs;exact hs
  subst h3
  try simp -dsimp -implicitDefEqProofs only[go_sem,↓reduceIte,Tryz.f191,hb']
  refine⟨λ_=>?_,λq=>absurd q eC⟩
  refine aH.fX (aZU h nb p sz 3000 0 7 hb hsz.2) ?_
  rintro r h' ⟨rfl,rfl⟩
  simp -dsimp -implicitDefEqProofs only[go_sem,↓reduceIte,Tryz.f191]
  refine⟨_,_,bO _ _,_,3000,7,rfl,rfl,cS gZ,bY _,hst,?_⟩
  rw[cZ,iZ,if_pos rfl]
  exact lB _ _ b6
theorem bIC {p:aF} (hp:p.ok) {sz n:Nat} (hsz:1<=sz/\sz<=1048576) (hv:sZ p sz n) (h:aB) (nb st:Nat) (e:aC) (env:List (List Int)) (funcs:Int) (hb:h nb=some (eH p sz st 0)) (hst:st<3000) (hn:3001<=n+1+st)
  (hok:e.ok p funcs env.length) (gF:0<=funcs) (hf:funcs<=p.aK.length) (henv:∀ s∈env,aW sz s) (hel:env.length<=412+st) (hk:e.aS=1) :
  iD Tryz.prog 191 [.op nb 4 0 0,.ip 5 [e.c] 0 0,bL env] h (RnQ h nb p sz st 0 (iZ p sz (n+1) st e env)):=by
 have hb':=hb
 unfold eH at hb'
 have e3:((st:Int)=3000)=False:=eq_false aA
 have ew:IntKind.i64.wrap ((st:Int)+1)=((st+1:Nat):Int):=by rw[IntWalk.i64_in _ aA];rfl
 have hnode:=(aC.dK _ _ _ _).1 hok
 have h3:¬st=3000:=by omega
 have hnum:iE e.bA:=((dT aA).1 hnode.1).2.2.2.1 hk
 rw[aC.aY]
 refine jU 186 p5 cU aAB Tryz.func191 ?_
 simp -dsimp -implicitDefEqProofs only[go_sem,↓reduceIte,Tryz.f191,hb',e3,ew,hk]
 first|refine aH.mk (m6 e.bA sz hsz.2) ?_|refine aG.mk (m6 e.bA sz hsz.2) ?_|refine aH.bH (m6 e.bA sz hsz.2) ?_|refine aG.mk (bB.dI (m6 e.bA sz hsz.2)) ?_
 simp -dsimp -implicitDefEqProofs only[go_sem,↓reduceIte,Tryz.f191]
 refine⟨_,_,bO _ _,_,st+1,0,rfl,rfl,cS hnum,qD _,hst,?_⟩
 rw[cZ,aTE h3 hk]
 exact lR _ _
theorem bID {p:aF} (hp:p.ok) {sz n:Nat} (hsz:1<=sz/\sz<=1048576) (hv:sZ p sz n) (h:aB) (nb st:Nat) (e:aC) (env:List (List Int)) (funcs:Int) (hb:h nb=some (eH p sz st 0)) (hst:st<3000) (hn:3001<=n+1+st)
  (hok:e.ok p funcs env.length) (gF:0<=funcs) (hf:funcs<=p.aK.length) (henv:∀ s∈env,aW sz s) (hel:env.length<=412+st) (hk:e.aS=2) :
  iD Tryz.prog 191 [.op nb 4 0 0,.ip 5 [e.c] 0 0,bL env] h (RnQ h nb p sz st 0 (iZ p sz (n+1) st e env)):=by
 have hb':=hb
 unfold eH at hb'
 have e3:((st:Int)=3000)=False:=eq_false aA
 have ew:IntKind.i64.wrap ((st:Int)+1)=((st+1:Nat):Int):=by rw[IntWalk.i64_in _ aA];rfl
 have hnode:=(aC.dK _ _ _ _).1 hok
 have h3:¬st=3000:=by omega
 have hnum:=((dT aA).1 hnode.1).2.2.2.2.1 hk
 have hlt:e.bA.toNat<env.length:=by omega
 rw[aC.aY]
 refine jU 186 p5 cU aAB Tryz.func191 ?_
 simp -dsimp -implicitDefEqProofs only[go_sem,↓reduceIte,Tryz.f191,hb',e3,ew,hk,jZ hlt]
 refine⟨hnum.1,by omega,_,_,bO _ _,_,st+1,0,rfl,rfl,iH henv hlt,qD _,hst,?_⟩
 rw[cZ,aTF h3 hk]
 exact lR _ _
theorem bIE {p:aF} (hp:p.ok) {sz n:Nat} (hsz:1<=sz/\sz<=1048576) (hv:sZ p sz n) (h:aB) (nb st:Nat) (e:aC) (env:List (List Int)) (funcs:Int) (hb:h nb=some (eH p sz st 0)) (hst:st<3000) (hn:3001<=n+1+st)
  (hok:e.ok p funcs env.length) (gF:0<=funcs) (hf:funcs<=p.aK.length) (henv:∀ s∈env,aW sz s) (hel:env.length<=412+st) (hk:e.aS=8) :
  iD Tryz.prog 191 [.op nb 4 0 0,.ip 5 [e.c] 0 0,bL env] h (RnQ h nb p sz st 0 (iZ p sz (n+1) st e env)):=by
 have hb':=hb
 unfold eH at hb'
 have e3:((st:Int)=3000)=False:=eq_false aA
 have ew:IntKind.i64.wrap ((st:Int)+1)=((st+1:Nat):Int):=by rw[IntWalk.i64_in _ aA];rfl
 have hnode:=(aC.dK _ _ _ _).1 hok
 have h3:¬st=3000:=by omega
 have hlen:=eD hok aA
 rw[hk,show eO 8=3 from rfl]at hlen
 have g0:e.aN[Int.toNat 0]?=some (e.oE 0):=aC.iC aA
 have g1:e.aN[Int.toNat 1]?=some (e.oE 1):=aC.iC aA
 have g2:e.aN[Int.toNat 2]?=some (e.oE 2):=aC.iC aA
 have o0:=aC.eZ hok (i:=0) aA
 have o1:=aC.eZ hok (i:=1) aA
 have o2:=aC.eZ hok (i:=2) aA
 rw[iG aA]at o0 o1 o2
 rw[aC.aY]
 refine jU 186 p5 cU aAB Tryz.func191 ?_
 simp -dsimp -implicitDefEqProofs only[go_sem,↓reduceIte,Tryz.f191,hb',e3,ew,hk,g0]
 refine⟨by omega,?_⟩
 refine aH.fX (hv.at g0 (aT h nb (eH p sz (st+1) 0)) nb (st+1) 0 env funcs (aI _ _ _) aA aA o0 gF hf henv aA) ?_
 rintro r h' ⟨s1,t1,c1,rfl,rfl,vK,a1,a2,a3⟩
 have gs:s1[Int.toNat 0]?=some (s1.getD 0 0):=bW qE
 simp -dsimp -implicitDefEqProofs only[go_sem,↓reduceIte,Tryz.f191,gs,g1,g2]
 refine⟨by rw[vK.1];omega,λhz=>⟨by omega,?_⟩,λhz=>⟨by omega,?_⟩⟩
 ·rw[aL]
  refine aH.fX (hv.at g1 (aT h nb (eH p sz t1 c1)) nb t1 c1 env funcs (aI _ _ _) aA aA o1 gF hf henv aA) ?_
  rintro r h' ⟨s2,t2,c2,rfl,rfl,wO,b1,b2,b3⟩
  simp -dsimp -implicitDefEqProofs only[go_sem,↓reduceIte,Tryz.f191]
  refine⟨_,_,bO _ _,s2,t2,c2,rfl,by rw[aL],wO,by omega,b2,?_⟩
  rw[aK1 h3 hk]
  refine a3.dU ?_
  rw[if_pos hz]
  exact b3
 ·rw[aL]
  refine aH.fX (hv.at g2 (aT h nb (eH p sz t1 c1)) nb t1 c1 env funcs (aI _ _ _) aA aA o2 gF hf henv aA) ?_
  rintro r h' ⟨s2,t2,c2,rfl,rfl,wO,b1,b2,b3⟩
  simp -dsimp -implicitDefEqProofs only[go_sem,↓reduceIte,Tryz.f191]
  refine⟨_,_,bO _ _,s2,t2,c2,rfl,by rw[aL],wO,by omega,b2,?_⟩
  rw[aK1 h3 hk]
  refine a3.dU ?_
  rw[if_neg hz]
  exact b3
theorem bIF {p:aF} (hp:p.ok) {sz n:Nat} (hsz:1<=sz/\sz<=1048576) (hv:sZ p sz n) (h:aB) (nb st:Nat) (e:aC) (env:List (List Int)) (funcs:Int) (hb:h nb=some (eH p sz st 0)) (hst:st<3000) (hn:3001<=n+1+st)
  (hok:e.ok p funcs env.length) (gF:0<=funcs) (hf:funcs<=p.aK.length) (henv:∀ s∈env,aW sz s) (hel:env.length<=412+st) (hk:e.aS=9) :
  iD Tryz.prog 191 [.op nb 4 0 0,.ip 5 [e.c] 0 0,bL env] h (RnQ h nb p sz st 0 (iZ p sz (n+1) st e env)):=by
 have hb':=hb
 unfold eH at hb'
 have e3:((st:Int)=3000)=False:=eq_false aA
 have ew:IntKind.i64.wrap ((st:Int)+1)=((st+1:Nat):Int):=by rw[IntWalk.i64_in _ aA];rfl
 have hnode:=(aC.dK _ _ _ _).1 hok
 have h3:¬st=3000:=by omega
 have hlen:=eD hok aA
 rw[hk,show eO 9=2 from rfl]at hlen
 have g0:e.aN[Int.toNat 0]?=some (e.oE 0):=aC.iC aA
 have g1:e.aN[Int.toNat 1]?=some (e.oE 1):=aC.iC aA
 have o0:=aC.eZ hok (i:=0) aA
 have o1:=aC.eZ hok (i:=1) aA
 rw[iG aA]at o0
 rw[hk,show jE 9 1 (env.length:Int)=env.length+1 from rfl]at o1
 rw[aC.aY]
 refine jU 186 p5 cU aAB Tryz.func191 ?_
 simp -dsimp -implicitDefEqProofs only[go_sem,↓reduceIte,Tryz.f191,hb',e3,ew,hk,g0,g1]
 refine⟨by omega,?_⟩
 refine aH.fX (hv.at g0 (aT h nb (eH p sz (st+1) 0)) nb (st+1) 0 env funcs (aI _ _ _) aA aA o0 gF hf henv aA) ?_
 rintro r h' ⟨s1,t1,c1,rfl,rfl,vK,a1,a2,a3⟩
 simp -dsimp -implicitDefEqProofs only[go_sem,↓reduceIte,Tryz.f191,g0,g1]
 refine⟨by omega,?_⟩
 first|refine aH.mk (aPP env s1 aA) ?_|refine aG.mk (aPP env s1 aA) ?_|refine aH.bH (aPP env s1 aA) ?_|refine aG.mk (bB.dI (aPP env s1 aA)) ?_
 simp -dsimp -implicitDefEqProofs only[go_sem,↓reduceIte,Tryz.f191]
 rw[aL]
 refine aH.fX (hv.at g1 (aT h nb (eH p sz t1 c1)) nb t1 c1 (env++[s1]) funcs (aI _ _ _) aA aA aGY gF hf (u7 henv vK) a4Q) ?_
 rintro r h' ⟨s2,t2,c2,rfl,rfl,wO,b1,b2,b3⟩
 simp -dsimp -implicitDefEqProofs only[go_sem,↓reduceIte,Tryz.f191]
 refine⟨_,aT h nb (eH p sz t2 c2),cT tL,s2,t2,c2,rfl,rfl,wO,by omega,b2,?_⟩
 rw[aTG h3 hk]
 exact a3.dU b3
theorem bBO {p:aF} (hp:p.ok) {sz n:Nat} (hsz:1<=sz/\sz<=1048576) (hv:sZ p sz n) (h:aB) (nb st:Nat) (e:aC) (env:List (List Int)) (funcs:Int) (hb:h nb=some (eH p sz st 0)) (hst:st<3000) (hn:3001<=n+1+st)
  (hok:e.ok p funcs env.length) (gF:0<=funcs) (hf:funcs<=p.aK.length) (henv:∀ s∈env,aW sz s) (hel:env.length<=412+st) (hk:e.aS=10) :
  iD Tryz.prog 191 [.op nb 4 0 0,.ip 5 [e.c] 0 0,bL env] h (RnQ h nb p sz st 0 (iZ p sz (n+1) st e env)):=by
 have hb':=hb
 unfold eH at hb'
 have e3:((st:Int)=3000)=False:=eq_false aA
 have ew:IntKind.i64.wrap ((st:Int)+1)=((st+1:Nat):Int):=by rw[IntWalk.i64_in _ aA];rfl
 have hnode:=(aC.dK _ _ _ _).1 hok
 have h3:¬st=3000:=by omega
 have hcl:=bBM hp hv (aT h nb (eH p sz (st+1) 0)) nb (st+1) e env funcs (aI _ _ _) aA aA hok gF hf henv aA hk
 rw[aC.aY,hk]at hcl
 rw[aC.aY]
 refine jU 186 p5 cU aAB Tryz.func191 ?_
 simp -dsimp -implicitDefEqProofs only[go_sem,↓reduceIte,Tryz.f191,hb',e3,ew,hk]
 refine aH.fX hcl ?_
 rintro r h' ⟨s2,t2,c2,rfl,rfl,wO,b1,b2,b3⟩
 simp -dsimp -implicitDefEqProofs only[go_sem,↓reduceIte,Tryz.f191]
 refine⟨_,aT h nb (eH p sz t2 c2),cT tL,s2,t2,c2,rfl,rfl,wO,by omega,b2,?_⟩
 rw[aGD h3 hk]
 exact b3
theorem bBP {p:aF} (hp:p.ok) {sz n:Nat} (hsz:1<=sz/\sz<=1048576) (hv:sZ p sz n) (h:aB) (nb st:Nat) (e:aC) (env:List (List Int)) (funcs:Int) (hb:h nb=some (eH p sz st 0)) (hst:st<3000) (hn:3001<=n+1+st)
  (hok:e.ok p funcs env.length) (gF:0<=funcs) (hf:funcs<=p.aK.length) (henv:∀ s∈env,aW sz s) (hel:env.length<=412+st) (hk:e.aS=11) :
  iD Tryz.prog 191 [.op nb 4 0 0,.ip 5 [e.c] 0 0,bL env] h (RnQ h nb p sz st 0 (iZ p sz (n+1) st e env)):=by
 have hb':=hb
 unfold eH at hb'
 have e3:((st:Int)=3000)=False:=eq_false aA
 have ew:IntKind.i64.wrap ((st:Int)+1)=((st+1:Nat):Int):=by rw[IntWalk.i64_in _ aA];rfl
 have hnode:=(aC.dK _ _ _ _).1 hok
 have h3:¬st=3000:=by omega
 have hcl:=bBN hp hv (aT h nb (eH p sz (st+1) 0)) nb (st+1) e env funcs (aI _ _ _) aA aA hok gF hf henv aA hk
 rw[aC.aY,hk]at hcl
 rw[aC.aY]
 refine jU 186 p5 cU aAB Tryz.func191 ?_
 simp -dsimp -implicitDefEqProofs only[go_sem,↓reduceIte,Tryz.f191,hb',e3,ew,hk]
 refine aH.fX hcl ?_
 rintro r h' ⟨s2,t2,c2,rfl,rfl,wO,b1,b2,b3⟩
 simp -dsimp -implicitDefEqProofs only[go_sem,↓reduceIte,Tryz.f191]
 refine⟨_,aT h nb (eH p sz t2 c2),cT tL,s2,t2,c2,rfl,rfl,wO,by omega,b2,?_⟩
 rw[aGE h3 hk]
 exact b3
theorem a6L {e:aC} (h:e.aN.length=1):e.aN=[e.oE 0]:=by
 have h0:=aC.aPH (e:=e) (i:=0) aA
 rw[h0]
 apply tI (by simp[h])
 intro i hi hi2
 match i,hi2 with
 |0,_=>rfl
theorem a6N {e:aC} (h:e.aN.length=2):e.aN=[e.oE 0,e.oE 1]:=by
 have h0:=aC.aPH (e:=e) (i:=0) aA
 have h1:=aC.aPH (e:=e) (i:=1) aA
 rw[h0,h1]
 apply tI (by simp[h])
 intro i hi hi2
 match i,hi2 with
 |0,_=>rfl
 |1,_=>rfl
theorem bIG {p:aF} {sz n st:Nat} {e:aC} {env:List (List Int)} (h3:¬st=3000) (hk:e.aS=7) (hl:e.aN.length=1):iZ p sz (n+1) st e env=(iZ p sz n (st+1) (e.oE 0) env).andThen λv t=>.ok (eJ v 1000002,t):=by
 rw[pM h3 aA,a6L hl,hk]
 simp only[l3,Out.nF,Out.andThen_ok,opE]
 rfl
theorem aBW {p:aF} {sz n st:Nat} {e:aC} {env:List (List Int)} (h3:¬st=3000) (hk:e.aS=3∨e.aS=4∨e.aS=5∨e.aS=6) (hl:e.aN.length=2):iZ p sz (n+1) st e env=(iZ p sz n (st+1) (e.oE 0) env).andThen λa t=>(iZ p sz n t (e.oE 1) env).andThen λb t=>opE e.aS [a,b] t:=by
 rw[pM h3 aA,a6N hl]
 simp only[l3,Out.nF,Out.andThen_ok]
theorem bIH {p:aF} (hp:p.ok) {sz n:Nat} (hsz:1<=sz/\sz<=1048576) (hv:sZ p sz n) (h:aB) (nb st:Nat) (e:aC) (env:List (List Int)) (funcs:Int) (hb:h nb=some (eH p sz st 0)) (hst:st<3000) (hn:3001<=n+1+st)
  (hok:e.ok p funcs env.length) (gF:0<=funcs) (hf:funcs<=p.aK.length) (henv:∀ s∈env,aW sz s) (hel:env.length<=412+st) (hk:e.aS=7) :
  iD Tryz.prog 191 [.op nb 4 0 0,.ip 5 [e.c] 0 0,bL env] h (RnQ h nb p sz st 0 (iZ p sz (n+1) st e env)):=by
 have hb':=hb
 unfold eH at hb'
 have e3:((st:Int)=3000)=False:=eq_false aA
 have ew:IntKind.i64.wrap ((st:Int)+1)=((st+1:Nat):Int):=by rw[IntWalk.i64_in _ aA];rfl
 have hnode:=(aC.dK _ _ _ _).1 hok
 have h3:¬st=3000:=by omega
 have hlen:=eD hok aA
 rw[hk,show eO 7=1 from rfl]at hlen
 have g0:e.aN[Int.toNat 0]?=some (e.oE 0):=aC.iC aA
 have o0:=aC.eZ hok (i:=0) aA
 rw[iG aA]at o0
 rw[aC.aY]
 refine jU 186 p5 cU aAB Tryz.func191 ?_
 simp -dsimp -implicitDefEqProofs only[go_sem,↓reduceIte,Tryz.f191,hb',e3,ew,hk,g0]
 refine⟨by omega,?_⟩
 refine aH.fX (hv.at g0 (aT h nb (eH p sz (st+1) 0)) nb (st+1) 0 env funcs (aI _ _ _) aA aA o0 gF hf henv aA) ?_
 rintro r h' ⟨s1,t1,c1,rfl,rfl,vK,a1,a2,a3⟩
 simp -dsimp -implicitDefEqProofs only[go_sem,↓reduceIte,Tryz.f191]
 first|refine aH.mk (sY s1 1000002 nO qE vK.2) ?_|refine aG.mk (sY s1 1000002 nO qE vK.2) ?_|refine aH.bH (sY s1 1000002 nO qE vK.2) ?_|refine aG.mk (bB.dI (sY s1 1000002 nO qE vK.2)) ?_
 simp -dsimp -implicitDefEqProofs only[go_sem,↓reduceIte,Tryz.f191]
 refine⟨_,aT h nb (eH p sz t1 c1),cT tL,_,t1,c1,rfl,rfl,dM _ vK,by omega,a2,?_⟩
 rw[bIG h3 hk aA]
 exact a3.dU (gW _ _ _)
theorem bII {p:aF} (hp:p.ok) {sz n:Nat} (hsz:1<=sz/\sz<=1048576) (hv:sZ p sz n) (h:aB) (nb st:Nat) (e:aC) (env:List (List Int)) (funcs:Int) (hb:h nb=some (eH p sz st 0)) (hst:st<3000) (hn:3001<=n+1+st)
  (hok:e.ok p funcs env.length) (gF:0<=funcs) (hf:funcs<=p.aK.length) (henv:∀ s∈env,aW sz s) (hel:env.length<=412+st) (hk:e.aS=3) :
  iD Tryz.prog 191 [.op nb 4 0 0,.ip 5 [e.c] 0 0,bL env] h (RnQ h nb p sz st 0 (iZ p sz (n+1) st e env)):=by
 have hb':=hb
 unfold eH at hb'
 have e3:((st:Int)=3000)=False:=eq_false aA
 have ew:IntKind.i64.wrap ((st:Int)+1)=((st+1:Nat):Int):=by rw[IntWalk.i64_in _ aA];rfl
 have hnode:=(aC.dK _ _ _ _).1 hok
 have h3:¬st=3000:=by omega
 have hlen:=eD hok aA
 rw[hk,show eO 3=2 from rfl]at hlen
 have g0:e.aN[Int.toNat 0]?=some (e.oE 0):=aC.iC aA
 have g1:e.aN[Int.toNat 1]?=some (e.oE 1):=aC.iC aA
 have o0:=aC.eZ hok (i:=0) aA
 have o1:=aC.eZ hok (i:=1) aA
 rw[iG aA]at o0 o1
 rw[aC.aY]
 refine jU 186 p5 cU aAB Tryz.func191 ?_
 simp -dsimp -implicitDefEqProofs only[go_sem,↓reduceIte,Tryz.f191,hb',e3,ew,hk,g0]
 refine⟨by omega,?_⟩
 refine aH.fX (hv.at g0 (aT h nb (eH p sz (st+1) 0)) nb (st+1) 0 env funcs (aI _ _ _) aA aA o0 gF hf henv aA) ?_
 rintro r h' ⟨s1,t1,c1,rfl,rfl,vK,a1,a2,a3⟩
 simp -dsimp -implicitDefEqProofs only[go_sem,↓reduceIte,Tryz.f191,g1]
 refine⟨by omega,?_⟩
 rw[aL]
 refine aH.fX (hv.at g1 (aT h nb (eH p sz t1 c1)) nb t1 c1 env funcs (aI _ _ _) aA aA o1 gF hf henv aA) ?_
 rintro r h' ⟨s2,t2,c2,rfl,rfl,wO,b1,b2,b3⟩
 rw[aL]
 simp -dsimp -implicitDefEqProofs only[go_sem,↓reduceIte,Tryz.f191,hk]
 first|refine aH.mk (aBD s1 s2 xC qE vK.2 wO.2) ?_|refine aG.mk (aBD s1 s2 xC qE vK.2 wO.2) ?_|refine aH.bH (aBD s1 s2 xC qE vK.2 wO.2) ?_|refine aG.mk (bB.dI (aBD s1 s2 xC qE vK.2 wO.2)) ?_
 simp -dsimp -implicitDefEqProofs only[go_sem,↓reduceIte,Tryz.f191]
 refine⟨_,aT h nb (eH p sz t2 c2),cT (aB.le_refl _),_,t2,c2,rfl,rfl,lL vK wO,by omega,b2,?_⟩
 rw[aBW h3 aA aA,hk]
 exact a3.dU (b3.dU (gW _ _ _))
theorem bIJ {p:aF} (hp:p.ok) {sz n:Nat} (hsz:1<=sz/\sz<=1048576) (hv:sZ p sz n) (h:aB) (nb st:Nat) (e:aC) (env:List (List Int)) (funcs:Int) (hb:h nb=some (eH p sz st 0)) (hst:st<3000) (hn:3001<=n+1+st)
  (hok:e.ok p funcs env.length) (gF:0<=funcs) (hf:funcs<=p.aK.length) (henv:∀ s∈env,aW sz s) (hel:env.length<=412+st) (hk:e.aS=4) :
  iD Tryz.prog 191 [.op nb 4 0 0,.ip 5 [e.c] 0 0,bL env] h (RnQ h nb p sz st 0 (iZ p sz (n+1) st e env)):=by
 have hb':=hb
 unfold eH at hb'
 have e3:((st:Int)=3000)=False:=eq_false aA
 have ew:IntKind.i64.wrap ((st:Int)+1)=((st+1:Nat):Int):=by rw[IntWalk.i64_in _ aA];rfl
 have hnode:=(aC.dK _ _ _ _).1 hok
 have h3:¬st=3000:=by omega
 have hlen:=eD hok aA
 rw[hk,show eO 4=2 from rfl]at hlen
 have g0:e.aN[Int.toNat 0]?=some (e.oE 0):=aC.iC aA
 have g1:e.aN[Int.toNat 1]?=some (e.oE 1):=aC.iC aA
 have o0:=aC.eZ hok (i:=0) aA
 have o1:=aC.eZ hok (i:=1) aA
 rw[iG aA]at o0 o1
 rw[aC.aY]
 refine jU 186 p5 cU aAB Tryz.func191 ?_
 simp -dsimp -implicitDefEqProofs only[go_sem,↓reduceIte,Tryz.f191,hb',e3,ew,hk,g0]
 refine⟨by omega,?_⟩
 refine aH.fX (hv.at g0 (aT h nb (eH p sz (st+1) 0)) nb (st+1) 0 env funcs (aI _ _ _) aA aA o0 gF hf henv aA) ?_
 rintro r h' ⟨s1,t1,c1,rfl,rfl,vK,a1,a2,a3⟩
 simp -dsimp -implicitDefEqProofs only[go_sem,↓reduceIte,Tryz.f191,g1]
 refine⟨by omega,?_⟩
 rw[aL]
 refine aH.fX (hv.at g1 (aT h nb (eH p sz t1 c1)) nb t1 c1 env funcs (aI _ _ _) aA aA o1 gF hf henv aA) ?_
 rintro r h' ⟨s2,t2,c2,rfl,rfl,wO,b1,b2,b3⟩
 rw[aL]
 simp -dsimp -implicitDefEqProofs only[go_sem,↓reduceIte,Tryz.f191,hk]
 first|refine aH.mk (aPN s1 s2 xC qE vK.2 wO.2) ?_|refine aG.mk (aPN s1 s2 xC qE vK.2 wO.2) ?_|refine aH.bH (aPN s1 s2 xC qE vK.2 wO.2) ?_|refine aG.mk (bB.dI (aPN s1 s2 xC qE vK.2 wO.2)) ?_
 simp -dsimp -implicitDefEqProofs only[go_sem,↓reduceIte,Tryz.f191]
 refine⟨_,aT h nb (eH p sz t2 c2),cT (aB.le_refl _),_,t2,c2,rfl,rfl,jO vK wO,by omega,b2,?_⟩
 rw[aBW h3 aA aA,hk]
 exact a3.dU (b3.dU (gW _ _ _))
theorem bIK {p:aF} (hp:p.ok) {sz n:Nat} (hsz:1<=sz/\sz<=1048576) (hv:sZ p sz n) (h:aB) (nb st:Nat) (e:aC) (env:List (List Int)) (funcs:Int) (hb:h nb=some (eH p sz st 0)) (hst:st<3000) (hn:3001<=n+1+st)
  (hok:e.ok p funcs env.length) (gF:0<=funcs) (hf:funcs<=p.aK.length) (henv:∀ s∈env,aW sz s) (hel:env.length<=412+st) (hk:e.aS=5) :
  iD Tryz.prog 191 [.op nb 4 0 0,.ip 5 [e.c] 0 0,bL env] h (RnQ h nb p sz st 0 (iZ p sz (n+1) st e env)):=by
 have hb':=hb
 unfold eH at hb'
 have e3:((st:Int)=3000)=False:=eq_false aA
 have ew:IntKind.i64.wrap ((st:Int)+1)=((st+1:Nat):Int):=by rw[IntWalk.i64_in _ aA];rfl
 have hnode:=(aC.dK _ _ _ _).1 hok
 have h3:¬st=3000:=by omega
 have hlen:=eD hok aA
 rw[hk,show eO 5=2 from rfl]at hlen
 have g0:e.aN[Int.toNat 0]?=some (e.oE 0):=aC.iC aA
 have g1:e.aN[Int.toNat 1]?=some (e.oE 1):=aC.iC aA
 have o0:=aC.eZ hok (i:=0) aA
 have o1:=aC.eZ hok (i:=1) aA
 rw[iG aA]at o0 o1
 rw[aC.aY]
 refine jU 186 p5 cU aAB Tryz.func191 ?_
 simp -dsimp -implicitDefEqProofs only[go_sem,↓reduceIte,Tryz.f191,hb',e3,ew,hk,g0]
 refine⟨by omega,?_⟩
 refine aH.fX (hv.at g0 (aT h nb (eH p sz (st+1) 0)) nb (st+1) 0 env funcs (aI _ _ _) aA aA o0 gF hf henv aA) ?_
 rintro r h' ⟨s1,t1,c1,rfl,rfl,vK,a1,a2,a3⟩
 simp -dsimp -implicitDefEqProofs only[go_sem,↓reduceIte,Tryz.f191,g1]
 refine⟨by omega,?_⟩
 rw[aL]
 refine aH.fX (hv.at g1 (aT h nb (eH p sz t1 c1)) nb t1 c1 env funcs (aI _ _ _) aA aA o1 gF hf henv aA) ?_
 rintro r h' ⟨s2,t2,c2,rfl,rfl,wO,b1,b2,b3⟩
 rw[aL]
 simp -dsimp -implicitDefEqProofs only[go_sem,↓reduceIte,Tryz.f191,hk]
 first|refine aH.mk (aPO s1 s2 xC qE vK.2 wO.2) ?_|refine aG.mk (aPO s1 s2 xC qE vK.2 wO.2) ?_|refine aH.bH (aPO s1 s2 xC qE vK.2 wO.2) ?_|refine aG.mk (bB.dI (aPO s1 s2 xC qE vK.2 wO.2)) ?_
 simp -dsimp -implicitDefEqProofs only[go_sem,↓reduceIte,Tryz.f191]
 refine⟨_,aT h nb (eH p sz t2 c2),cT (aB.le_refl _),_,t2,c2,rfl,rfl,cF _ vK,by omega,b2,?_⟩
 rw[aBW h3 aA aA,hk]
 exact a3.dU (b3.dU (gW _ _ _))
theorem bIL {p:aF} (hp:p.ok) {sz n:Nat} (hsz:1<=sz/\sz<=1048576) (hv:sZ p sz n) (h:aB) (nb st:Nat) (e:aC) (env:List (List Int)) (funcs:Int) (hb:h nb=some (eH p sz st 0)) (hst:st<3000) (hn:3001<=n+1+st)
  (hok:e.ok p funcs env.length) (gF:0<=funcs) (hf:funcs<=p.aK.length) (henv:∀ s∈env,aW sz s) (hel:env.length<=412+st) (hk:e.aS=6) :
  iD Tryz.prog 191 [.op nb 4 0 0,.ip 5 [e.c] 0 0,bL env] h (RnQ h nb p sz st 0 (iZ p sz (n+1) st e env)):=by
 have hb':=hb
 unfold eH at hb'
 have e3:((st:Int)=3000)=False:=eq_false aA
 have ew:IntKind.i64.wrap ((st:Int)+1)=((st+1:Nat):Int):=by rw[IntWalk.i64_in _ aA];rfl
 have hnode:=(aC.dK _ _ _ _).1 hok
 have h3:¬st=3000:=by omega
 have hlen:=eD hok aA
 rw[hk,show eO 6=2 from rfl]at hlen
 have g0:e.aN[Int.toNat 0]?=some (e.oE 0):=aC.iC aA
 have g1:e.aN[Int.toNat 1]?=some (e.oE 1):=aC.iC aA
 have o0:=aC.eZ hok (i:=0) aA
 have o1:=aC.eZ hok (i:=1) aA
 rw[iG aA]at o0 o1
 rw[aC.aY]
 refine jU 186 p5 cU aAB Tryz.func191 ?_
 simp -dsimp -implicitDefEqProofs only[go_sem,↓reduceIte,Tryz.f191,hb',e3,ew,hk,g0]
 refine⟨by omega,?_⟩
 refine aH.fX (hv.at g0 (aT h nb (eH p sz (st+1) 0)) nb (st+1) 0 env funcs (aI _ _ _) aA aA o0 gF hf henv aA) ?_
 rintro r h' ⟨s1,t1,c1,rfl,rfl,vK,a1,a2,a3⟩
 simp -dsimp -implicitDefEqProofs only[go_sem,↓reduceIte,Tryz.f191,g1]
 refine⟨by omega,?_⟩
 rw[aL]
 refine aH.fX (hv.at g1 (aT h nb (eH p sz t1 c1)) nb t1 c1 env funcs (aI _ _ _) aA aA o1 gF hf henv aA) ?_
 rintro r h' ⟨s2,t2,c2,rfl,rfl,wO,b1,b2,b3⟩
 rw[aL]
 have gs:s2[Int.toNat 0]?=some (s2.getD 0 0):=bW (by rw[wO.1];omega)
 simp -dsimp -implicitDefEqProofs only[go_sem,↓reduceIte,Tryz.f191,hk,eH,gs]
 refine⟨λhc=>?_,λhc=>?_⟩
 ·subst hc
  refine⟨by rw[wO.1];omega,λhz=>?_,λhz=>?_⟩
  ·refine aH.fX (aZU (aT h nb (eH p sz t2 0)) nb p sz t2 0 6 (aI _ _ _) hsz.2) ?_
   rintro r h' ⟨rfl,rfl⟩
   simp -dsimp -implicitDefEqProofs only[go_sem,↓reduceIte,Tryz.f191]
   refine⟨_,aT h nb (eH p sz t2 6),cT tL,_,t2,6,rfl,rfl,cS gZ,by omega,b2,?_⟩
   rw[aBW h3 aA aA,hk]
   refine a3.dU (b3.dU ?_)
   have:opE 6 [s1,s2] t2=.error 6:=by rw[opE,if_neg b6,if_neg b6,if_neg b6,if_neg b6];exact if_pos hz
   rw[cZ,this]
   exact lB _ _ b6
  ·refine aH.mk (bIA s1 s2 xC qE qE vK.2 wO.2) ?_
   simp -dsimp -implicitDefEqProofs only[go_sem,↓reduceIte,Tryz.f191]
   refine⟨_,aT h nb (eH p sz t2 0),cT (aB.le_refl _),_,t2,0,rfl,rfl,k8 _ vK,by omega,b2,?_⟩
   rw[aBW h3 aA aA,hk]
   refine a3.dU (b3.dU ?_)
   have:opE 6 [s1,s2] t2=.ok (gG s1 s2,t2):=by rw[opE,if_neg b6,if_neg b6,if_neg b6,if_neg b6];exact if_neg hz
   rw[cZ,this]
   exact lR _ _
 ·refine aH.fX (aZU (aT h nb (eH p sz t2 c2)) nb p sz t2 c2 6 (aI _ _ _) hsz.2) ?_
  rintro r h' ⟨rfl,rfl⟩
  simp -dsimp -implicitDefEqProofs only[go_sem,↓reduceIte,Tryz.f191]
  refine⟨_,aT h nb (eH p sz t2 c2),cT (by rw[aL,if_neg hc];exact aB.le_refl _),_,t2,c2,rfl,rfl,cS gZ,by omega,b2,?_⟩
  rw[aBW h3 aA aA,hk]
  exact a3.dU (b3.dU aD3)
theorem run {p:aF} (hp:p.ok) {sz:Nat} (hsz:1<=sz/\sz<=1048576):∀ n,sZ p sz n
 |0=>λh nb st c e env funcs hb hst hn=>by omega
 |n+1=>λh nb st c e env funcs hb hst hn hok gF hf henv hel=>by
  have hv:=run hp hsz n
  by_cases hs:¬c=0∨st=3000
  ·exact a2T hsz h nb st c e env hb hst hs
  have hc:c=0:=a4H λq=>hs (.inl q)
  have h3:st<3000:=by
   rcases bT st 3000 with h|h
   ·exact h
   ·exact absurd (.inr aA) hs
  subst hc
  rcases sD ((aC.dK _ _ _ _).1 hok).1 with hk|hk|hk|hk|hk|hk|hk|hk|hk|hk|hk
  ·exact bIC hp hsz hv h nb st e env funcs hb h3 hn hok gF hf henv hel hk
  ·exact bID hp hsz hv h nb st e env funcs hb h3 hn hok gF hf henv hel hk
  ·exact bII hp hsz hv h nb st e env funcs hb h3 hn hok gF hf henv hel hk
  ·exact bIJ hp hsz hv h nb st e env funcs hb h3 hn hok gF hf henv hel hk
  ·exact bIK hp hsz hv h nb st e env funcs hb h3 hn hok gF hf henv hel hk
  ·exact bIL hp hsz hv h nb st e env funcs hb h3 hn hok gF hf henv hel hk
  ·exact bIH hp hsz hv h nb st e env funcs hb h3 hn hok gF hf henv hel hk
  ·exact bIE hp hsz hv h nb st e env funcs hb h3 hn hok gF hf henv hel hk
  ·exact bIF hp hsz hv h nb st e env funcs hb h3 hn hok gF hf henv hel hk
  ·exact bBO hp hsz hv h nb st e env funcs hb h3 hn hok gF hf henv hel hk
  ·exact bBP hp hsz hv h nb st e env funcs hb h3 hn hok gF hf henv hel hk
theorem aTK (l:List Int):fD ((l.map λn=>[I n]).map (List.map Cell.v))=l.map λn=>[I n]:=oD _
theorem mU {h h':aB} {n sz:Nat} {x r:aE} (es:List (List aE)) (h0:h n=none) (hl:(aT h n (.row sz (es.map (List.map .v)))).le h') (hb:jK n sz es.length x=true) (hr:x.fS n es=r):Shift x h' r h:=by
 subst hr
 refine(Shift.of (Sub.refl _) hl).trans ((Shift.fS (aI _ _ _) (by rw[gX];exact hb)).trans ?_)
 rw[oD]
 exact cT ((bM h0).2 ((bM h0).2 (aB.le_refl h)))
theorem aH.a6O {P:Program} {f:FuncId} {args args':List aE} {h:aB} {K:aE->aB->Prop} {t:Tag K} {r:aE} {n sz:Nat} {es:List (List aE)} (a:fR P f args' r) (hb:kK n sz es.length args=true) (he:mZ n es args=args') (k:K r (aT h n .gone)) :
  aH P f args (aT h n (.row sz (es.map (List.map .v)))) K t:=by
 refine aH.a5U n (aI _ _ _) (by rw[gX];exact hb) ?_
 rw[aL,oD,he]
 exact fR.call a k
theorem aIQ {h g:aB} {m b:Nat} (rows:List (List Int)) (s:List Int) (hm:h m=some (.row 1 ((s.map λn=>[I n]).map (List.map .v)))) (hb:h b=some (.row 1 ((rows.map λs=>[ints s]).map (List.map .v)++[[.v (.os m 1 0 s.length)]]))) (hne:¬b=m)
  (hg:g.le (aT (aT h m .gone) b (.row 1 (((rows++[s]).map λs=>[ints s]).map (List.map .v))))):g.wk h:=by
 have hat:∀ (es:List (List Cell)) i j x,iU es i j=some x->∃ e∈es,x∈e:=λes i j x hx=>by
  obtain⟨e,h1,h2⟩:=lC hx
  exact⟨e,s5 h1,s5 h2⟩
 have hw:=aB.aZV hm hb hne (λi j x hx=>by
  obtain⟨e,he,hxe⟩:=hat _ i j _ hx
  rcases nY.1 he with he|he
  ·obtain⟨e1,h1,rfl⟩:=lZ.1 he
   obtain⟨r,_,rfl⟩:=lZ.1 h1
   simp only[qR,w9,iO,Cell.v.injEq]at hxe
   subst hxe;rfl
  ·rw[iO.1 he]at hxe
   simp only[iO,Cell.v.injEq]at hxe
   subst hxe
   simp[jK])
 refine aB.wk.trans (aB.kH ?_) hw
 have:((rows.map λs=>[ints s]).map (List.map Cell.v)++[[Cell.v (.os m 1 0 s.length)]]).map (List.map (Cell.aAC m (fD ((s.map λn=>[I n]).map (List.map Cell.v)))))=((rows++[s]).map λs=>[ints s]).map (List.map .v):=by
  rw[aTK,mY,mY,mY]
  congr 1
  ·simp only[zZ]
   exact aCA λr _=>rfl
  ·simp only[qR,w9,Cell.aAC,aE.fS,if_true,aRI]
   rw[hJ aXW]
 rw[this]
 exact hg
theorem aIR {h g:aB} {b:Nat} {A:List (List Cell)} {x y:aE} (hb:h b=some (.row 1 (A++[[.v x]]))) (s:Sub x y) (hg:g.le (aT h b (.row 1 (A++[[.v y]])))):g.wk h :=
 aB.wk.trans (aB.kH hg) (aB.bHW (m:=b) (λq hq=>aD _ _ _ _ hq) hb (aI _ _ _) (nK.sub (.cons s .nil) A))
@[go_sem] def bO1:List Nat:=[6,15,16]
theorem vY (l:List Int) (hl:l.length<=1048576):fR Tryz.prog 95 [ints l] (bL (l.map λn=>[n])):=by
 refine mP 20 aY2 bO1 cG Tryz.func95 λh=>?_
 simp -dsimp -implicitDefEqProofs only[go_sem,↓reduceIte,Tryz.f95]
 refine⟨aX,λ_=>?_⟩
 refine aGA aY2 bO1 cG (λx:Nat×Option Nat=>[(3,fT 1 (l.take x.1).length x.2),(7,ints l),(8,I l.length),(9,I x.1)]) (λx=>cQ h (.row 1 ((((l.take x.1).map λn=>[n]).map λs=>[ints s]).map (List.map .v))) x.2) (λx=>x.1<=l.length/\eU h (l.take x.1) x.2) (λx=>l.length-x.1) (0,none) ⟨by simp[cR,bZ,fT],by simp only[aM];exact aB.kH (aB.le_refl _),eM _,by simp[eU]⟩ ?_
 rintro⟨k,o⟩ ⟨hk,hos⟩
 simp only at hk hos ⊢
 rcases bT k l.length with hlt|hge
 ·have ea:l[k]?=some l[k]:=fC hlt
  have hy:l.take (k+1)=l.take k++[l[k]]:=iW hlt
  have hlk:(l.take k).length=k:=by rw[nU];omega
  cases o with
  |none =>
   rw[aZ]at hos
   rw[hos]at hy ⊢
   simp -dsimp -implicitDefEqProofs only[go_sem,↓reduceIte,Tryz.f95,bD,aM,hlt,ea]
   refine⟨aX,aX,aX,aX,aX,λb hb=>⟨(k+1,some b),?_⟩⟩
   simp only[hy]
   refine⟨⟨rfl,by rw[IntWalk.i64_in _ aA];rfl⟩,aIR (A:=[]) (x:=.sl 1 [[I l[k]]] true) (y:=ints [l[k]]) (aI _ _ _) (Sub.loose _ _ _) tL,⟨by omega,hb⟩,by omega⟩
  |some n =>
   rw[aP]at hos
   simp -dsimp -implicitDefEqProofs only[go_sem,↓reduceIte,Tryz.f95,aQ,aJ,hlt,ea]
   refine⟨aX,aX,aX,aX,aX,bY _,by omega,by omega,λb hb=>⟨(k+1,some b),?_⟩⟩
   simp only[hy,aJ,aQ,aP]
   refine⟨⟨by rw[nT];rfl,by rw[IntWalk.i64_in _ aA];rfl⟩,aIR (x:=.sl 1 [[I l[k]]] true) (y:=ints [l[k]]) (aI _ _ _) (Sub.loose _ _ _) ?_,⟨by omega,hb.2⟩,by omega⟩
   have hl2:(l.take k).length=((l.take k).map λn=>[n]).length:=by rw[gX]
   rw[aL,mY,show((l.take k).map λn=>[n])++[l[k]].map (λn=>[n])=((l.take k).map λn=>[n])++[[l[k]]]from rfl,←dS ints,hl2]
   exact jL hos
 ·have hk':k=l.length:=by omega
  subst hk'
  rw[nM]at hos ⊢
  cases o with
  |none =>
   rw[aZ]at hos
   simp -dsimp -implicitDefEqProofs only[go_sem,↓reduceIte,Tryz.f95,bD,aM,bV,cY]
   subst hos
   exact Shift.of (Sub.loose _ _ _) (aB.le_refl _)
  |some n =>
   rw[aP]at hos
   simp -dsimp -implicitDefEqProofs only[go_sem,↓reduceIte,Tryz.f95,aQ,aJ,bV,cY]
   exact mI _ hos (aB.le_refl _) aX9
@[go_sem] def bFQ:List Nat:=[6,17]
theorem aPQ (l:List (List Int)) (hl:l.length<=1048576) (hne:∀ s∈l,0<s.length):fR Tryz.prog 103 [bL l] (ints (l.map λs=>s.getD 0 0)):=by
 have hc:(l.map λs=>s.getD 0 0).length=l.length:=gX _
 refine mP 21 aY2 bFQ cG Tryz.func103 λh=>?_
 simp -dsimp -implicitDefEqProofs only[go_sem,↓reduceIte,Tryz.f103]
 refine⟨aX,λ_=>?_⟩
 refine cM aY2 bFQ cG (λx:Nat×Option Nat=>[(7,bL l),(8,I l.length),(3,fT 1 ((l.map λs=>s.getD 0 0).take x.1).length x.2),(9,I x.1)]) (λx=>cQ h (.row 1 ((((l.map λs=>s.getD 0 0).take x.1).map λn=>[I n]).map (List.map .v))) x.2) (λx=>x.1<=l.length/\eU h ((l.map λs=>s.getD 0 0).take x.1) x.2) (λx=>l.length-x.1) (0,none) ⟨by simp[cR,bZ,fT],by simp only[aM];exact aB.le_refl _,eM _,by simp[eU]⟩ ?_
 rintro⟨k,o⟩ ⟨hk,hos⟩
 simp only at hk hos ⊢
 rcases bT k l.length with hlt|hge
 ·have ea:l[k]?=some l[k]:=fC hlt
  have h0:=hne _ (lF hlt)
  have e0:(l[k])[Int.toNat 0]?=some (l[k].getD 0 0):=bW h0
  have hy:(l.map λs=>s.getD 0 0).take (k+1)=(l.map λs=>s.getD 0 0).take k++[(l.map λs=>s.getD 0 0)[k]'aA]:=iW aA
  have hlk:((l.map λs=>s.getD 0 0).take k).length=k:=by rw[nU];omega
  rw[tJ]at hy
  cases o with
  |none =>
   rw[aZ]at hos
   rw[hos]at hy ⊢
   simp -dsimp -implicitDefEqProofs only[go_sem,↓reduceIte,Tryz.f103,bD,aM,hlt,ea,e0]
   repeat'(with_reducible first|intro _|refine And.intro ?_ ?_)
   all_goals try(first|omega|decide)
   rename_i b hb
   refine⟨(k+1,some b),?_⟩
   simp only[hy]
   refine⟨⟨rfl,?_⟩,aB.le_refl _,⟨by omega,hb⟩,by omega⟩
   rw[IntWalk.i64_in _ aA];rfl
  |some n =>
   rw[aP]at hos
   simp -dsimp -implicitDefEqProofs only[go_sem,↓reduceIte,Tryz.f103,aQ,aJ,hlt,ea,e0]
   repeat'(with_reducible first|intro _|refine And.intro ?_ ?_)
   all_goals try(first|omega|decide|exact bY _)
   rename_i b hb
   refine⟨(k+1,some b),?_⟩
   simp only[hy,aJ,aQ,aP]
   refine⟨⟨by rw[nT];rfl,?_⟩,?_,⟨by omega,hb.2⟩,by omega⟩
   ·rw[IntWalk.i64_in _ aA];rfl
   ·rw[←dS];exact jL hos
 ·have hk':k=l.length:=by omega
  subst hk'
  rw[hJ aA]at hos ⊢
  cases o with
  |none =>
   rw[aZ]at hos
   simp -dsimp -implicitDefEqProofs only[go_sem,↓reduceIte,Tryz.f103,bD,aM,bV,cY]
   rw[hos]
   exact Shift.of (Sub.loose _ _ _) (aB.le_refl _)
  |some n =>
   rw[aP]at hos
   simp -dsimp -implicitDefEqProofs only[go_sem,↓reduceIte,Tryz.f103,aQ,aJ,bV,cY]
   exact fU _ hos (aB.le_refl _) hc.symm
def s3 (X:Out (List (List Int))):List (List Int)×Int×Int:=match X with
 | .ok (vs,t)=>(vs,t,0)
 | .error c=>([],0,c)
theorem aTL {X:Out (List (List Int))} {l:List (List Int)} {t:Nat} {c:Int} (h:jN X l t c):s3 X=if c=0 then(l,(t:Int),0)else([],0,c):=by
 cases X with
 |ok p =>
  obtain⟨w,u⟩:=p
  obtain⟨rfl,rfl,rfl⟩:=h
  rfl
 |error d =>
  obtain⟨rfl,h⟩:=h
  rw[if_neg h];rfl
theorem aBE (l:List Int) (hl:l.length<=1048576):fR Tryz.prog 178 [ints l] (ints l):=aCP (bH1 l hl)
@[go_sem] def aZW:List Nat:=[0,1,2,3,4,8,9,10,11,12,13,15,33,39,40,41,42]
@[go_sem] def bFR:List Nat:=[4,38,48]
@[go_sem] def bFS:Marks:=λid=>match id with|4=>([3],(.op 0 (.op 1 (.op 2 (.op 3 (.op 4 (.op 5 (.op 6 .nil))))))),[])|11=>([4],(.op 0 (.op 1 (.op 2 (.op 3 (.op 4 (.op 5 (.op 6 (.op 7 .nil)))))))),[])|_=>([],.nil,[])
theorem aGG {p:aF} (hp:p.ok) {sz:Nat} (hsz:1<=sz/\sz<=1048576) (f:Int) (hf:0<=f/\f<p.aK.length) (args:List (List Int)) (ha:∀ s∈args,aW sz s) (hl:∀ F,p.aK[f.toNat]?=some F->(args.length:Int)=F.aR) :
  fR Tryz.prog 112 [.agg p.c,I f,bL args,I ((sz:Int)-1)] (.gK [bL (s3 (xP p sz f args)).1,I (s3 (xP p sz f args)).2.1,I (s3 (xP p sz f args)).2.2]):=by
 obtain⟨F,ef,hF1,hF2,hF3,hF4⟩:=pZ hp hf
 have hlF:=hl F ef
 rw[aF.aY]
 refine mP 56 aZW bFR bFS Tryz.func112 λh=>?_
 simp -dsimp -implicitDefEqProofs only[go_sem,↓reduceIte,Tryz.f112,ef,aV.aY]
 intro nb zb
 refine⟨hf.1,by omega,?_⟩
 refine aH.fX (y6 (value hp hsz 3001) (aT h nb (dJ p sz 0 0)) nb 0 0 F.aU args f (aI _ _ _) aA aA aA (by rw[hlF];exact hF4) hf.1 aA ha aA) ?_
 rintro r h' ⟨vs,t,c,rfl,rfl,hvl,hvs,a1,a2,a3⟩
 rw[cZ,←hF3]at a3
 rw[aTL (show jN (xP p sz f args) vs t c from a3)]
 rw[aL]
 have hBn:(aT h nb (dJ p sz t c)) nb=some (.row 4 [[.v (gT 3 aV.c p.aK),.v (I ((sz:Int)-1)),.v (I t),.v (I c)]]):=aI _ _ _
 have hBl:h.le (aT h nb (dJ p sz t c)):=aB.bM zb (aB.le_refl _)
 generalize aT h nb (dJ p sz t c)=hB at hBn hBl ⊢
 simp -dsimp -implicitDefEqProofs only[go_sem,↓reduceIte,Tryz.f112,hBn]
 refine⟨λhc=>?_,λhc=>?_⟩
 ·have hc':¬c=0:=by simpa using hc
  rw[if_neg hc']
  exact Shift.of (Sub.gK (.cons (Sub.nil 1 false) (.cons (.refl _) (.cons (.refl _) .nil)))) hBl
 ·have hc':c=0:=by simpa using hc
  subst hc'
  rw[if_pos rfl]
  refine⟨aX,λ_=>?_⟩
  refine cM aZW bFR bFS (λx:Nat×Option Nat=>[(11,.op nb 4 0 0),(13,fT 1 (vs.take x.1).length x.2),(39,bL vs),(40,I vs.length),(41,I x.1)]) (λx=>cQ hB (.row 1 (((vs.take x.1).map λs=>[ints s]).map (List.map .v))) x.2) (λx=>x.1<=vs.length/\eU hB (vs.take x.1) x.2) (λx=>vs.length-x.1) (0,none) ⟨by simp[cR,bZ,fT],by simp only[aM];exact aB.le_refl _,eM _,by simp[eU]⟩ ?_
  rintro⟨k,o⟩ ⟨hk,hos⟩
  simp only at hk hos ⊢
  rcases bT k vs.length with hlt|hge
  ·have ea:vs[k]?=some vs[k]:=fC hlt
   have hy:vs.take (k+1)=vs.take k++[vs[k]]:=iW hlt
   have hlk:(vs.take k).length=k:=by rw[nU];omega
   have hsk:=hvs _ (lF hlt)
   cases o with
   |none =>
    rw[aZ]at hos
    rw[hos]at hy ⊢
    simp -dsimp -implicitDefEqProofs only[go_sem,↓reduceIte,Tryz.f112,bD,aM,hlt,ea]
    first|refine aH.mk (aBE vs[k] tM) ?_|refine aG.mk (aBE vs[k] tM) ?_|refine aH.bH (aBE vs[k] tM) ?_|refine aG.mk (bB.dI (aBE vs[k] tM)) ?_
    simp -dsimp -implicitDefEqProofs only[go_sem,↓reduceIte,Tryz.f112]
    repeat'(with_reducible first|intro _|refine And.intro ?_ ?_)
    all_goals try(first|omega|decide)
    rename_i b hb
    refine⟨(k+1,some b),?_⟩
    simp only[hy]
    refine⟨⟨rfl,?_⟩,aB.le_refl _,⟨by omega,hb⟩,by omega⟩
    rw[IntWalk.i64_in _ aA];rfl
   |some n =>
    rw[aP]at hos
    simp -dsimp -implicitDefEqProofs only[go_sem,↓reduceIte,Tryz.f112,aQ,aJ,hlt,ea]
    first|refine aH.mk (aBE vs[k] tM) ?_|refine aG.mk (aBE vs[k] tM) ?_|refine aH.bH (aBE vs[k] tM) ?_|refine aG.mk (bB.dI (aBE vs[k] tM)) ?_
    simp -dsimp -implicitDefEqProofs only[go_sem,↓reduceIte,Tryz.f112]
    repeat'(with_reducible first|intro _|refine And.intro ?_ ?_)
    all_goals try(first|omega|decide|exact bY _)
    rename_i b hb
    refine⟨(k+1,some b),?_⟩
    simp only[hy,aJ,aQ,aP]
    refine⟨⟨by rw[nT];rfl,?_⟩,?_,⟨by omega,hb.2⟩,by omega⟩
    ·rw[IntWalk.i64_in _ aA];rfl
    ·rw[←dS];exact jL hos
  ·have hk':k=vs.length:=by omega
   subst hk'
   rw[nM]at hos ⊢
   cases o with
   |none =>
    rw[aZ]at hos
    subst hos
    simp -dsimp -implicitDefEqProofs only[go_sem,↓reduceIte,Tryz.f112,bD,aM,bV,hBn]
    exact Shift.of (Sub.gK (.cons (Sub.loose _ _ _) (.cons (.refl _) (.cons (.refl _) .nil)))) hBl
   |some n =>
    rw[aP]at hos
    obtain⟨aBF,iL,iM,rF⟩:=cW (show ¬n=nb from λe=>by rw[e,hBn]at hos;cases hos)
    simp -dsimp -implicitDefEqProofs only[go_sem,↓reduceIte,Tryz.f112,aQ,aJ,bV,aD,iL,iM,hBn]
    refine Shift.trans (mU (vs.map λs=>[ints s]) hos (aB.le_refl _) aRT ?_) (cT hBl)
    simp[aE.fS,mZ,hJ]
@[go_sem] def aZX:List Nat:=[0,1,4,5,7,10,11,12,13]
theorem bO2 (n i:Nat) (hn:n<=1048576) (hi:i<n):fR Tryz.prog 139 [I n,.sl 1 [[I i]] true] (ints ((List.replicate n 0).set i 1)):=by
 refine mP 27 aZX cU cG Tryz.func139 λh=>?_
 simp -dsimp -implicitDefEqProofs only[go_sem,↓reduceIte,Tryz.f139]
 refine⟨aX,by omega,by omega,by omega,λm hm=>?_⟩
 rw[vS]
 refine aDA aZX cU cG (λk:Nat=>[(5,.os m 1 0 n),(10,.sl 1 [[I i]] true),(11,I 1),(12,I k)]) m (λk=>.row 1 (((if k=0 then List.replicate n (0:Int)else(List.replicate n 0).set i 1).map λn=>[I n]).map (List.map .v))) (λk=>k<=1) (λk=>1-k) 0 ⟨by simp[cR,bZ],by rw[aI,if_pos rfl],eM _⟩ ?_
 intro k hk
 rcases bT k 1 with hlt|hge
 ·have:k=0:=by omega
  subst this
  have e1:(List.replicate n (0:Int))[i]?=some 0:=by rw[sQ,if_pos hi]
  rw[if_pos rfl]
  simp -dsimp -implicitDefEqProofs only[go_sem,↓reduceIte,Tryz.f139,aL,e1,aFR,r8]
  refine⟨λ_=>⟨aX,hi,hi,1,by decide,?_,by omega,by omega⟩,λq=>absurd b6 q⟩
  rw[if_neg b6,show(IntKind.i64.wrap (0+1)).tmod 1000003=1 by decide,←nL I]
  exact aB.le_refl _
 ·have:k=1:=by omega
  subst this
  rw[if_neg b6]
  simp -dsimp -implicitDefEqProofs only[go_sem,↓reduceIte,Tryz.f139,cY]
  refine⟨λq=>absurd q b6,λ_=>?_⟩
  rw[aL]
  exact fU ((List.replicate n 0).set i 1) hm (aB.le_refl _) (by rw[p7,aFR])
def jH (args dir:List Int):List (List Int):=List.zipWith (λa d=>[a,d]) args dir
theorem w2:IntKind.i64.wrap (1+1)=2:=by decide
theorem n0:Int.toNat 0=0:=rfl
theorem n1:Int.toNat 1=1:=rfl
theorem n2:Int.toNat 2=2:=rfl
theorem bVY (x:List aE):List.replicate 2 x=[x,x]:=rfl
@[go_sem] def aZY:List Nat:=[0,1,2,3,4,5,10,11,12,13,14,15,16,18,20,21,22,23,34]
@[go_sem] def bFT:List Nat:=[5,19,43]
theorem aGH {args dir:List Int} (hd:dir.length=args.length):(jH args dir).length=args.length:=by simp[jH,hd]
theorem aBX {args dir:List Int} (na:eI args) (nd:eI dir):∀ s∈jH args dir,aW 2 s:=λs hs=>by
 obtain⟨i,hi,rfl⟩:=aCE.1 hs
 simp only[jH,List.getElem_zipWith]
 refine⟨rfl,λx hx=>?_⟩
 simp only[pP,aXG,or_false]at hx
 rcases hx with rfl|rfl
 ·exact na _ (lF _)
 ·exact nd _ (lF _)
def a6P (X:List (List Int)×Int×Int):List Int×List Int×Int:=if X.2.2=0 then(X.1.map (·.getD 0 0),X.1.map (·.getD 1 0),0)else([],[],X.2.2)
def eV (n i:Nat):List Int:=(List.replicate n 0).set i 1
def aBG (p:aF) (f:Int) (args:List Int) (i:Nat):List Int:=(a6P (s3 (xP p 2 f (jH args (eV args.length i))))).2.1
def zA (S:Nat->List Int) (m i k:Nat):List (List Int):=(List.range m).map λr=>(List.range (if r<k then i+1 else i)).map λj=>(S j).getD r 0
theorem aE2 (S:Nat->List Int) (m i k:Nat):(zA S m i k).length=m:=by simp[zA]
theorem a2U (S:Nat->List Int) (m:Nat):zA S m 0 0=List.replicate m []:=by
 rw[zA]
 simp[List.map_const']
theorem a2V (S:Nat->List Int) (m i:Nat):zA S m i m=zA S m (i+1) 0:=by
 refine aCA λr hr=>?_
 rw[if_pos (aDZ.1 hr),if_neg (aRJ _)]
theorem a6Q (S:Nat->List Int) {m i k:Nat} (hk:k<m):(zA S m i k)[k]?=some ((List.range i).map λj=>(S j).getD k 0):=by
 rw[zA,sO,al8 hk]
 simp
theorem aTM (S:Nat->List Int) {m i k:Nat} (hk:k<m):zA S m i (k+1)=(zA S m i k).set k (((List.range i).map λj=>(S j).getD k 0)++[(S i).getD k 0]):=by
 apply List.ext_getElem?
 intro r
 rw[List.getElem?_set,aE2]
 rcases Nat.lt_trichotomy r k with h|h|h
 ·rw[if_neg aA]
  simp only[zA,sO]
  rcases bT r m with hr|hr
  ·rw[al8 hr]
   simp[h,Nat.lt_succ_of_lt h]
  ·rw[aJE (by simpa using hr)];rfl
 ·subst h
  rw[if_pos rfl,if_pos hk]
  simp only[zA,sO]
  rw[al8 hk]
  simp[aXH]
 ·rw[if_neg aA]
  simp only[zA,sO]
  rcases bT r m with hr|hr
  ·rw[al8 hr]
   have h1:¬r<k:=by omega
   have h2:¬r<k+1:=by omega
   simp[h1,h2]
  ·rw[aJE (by simpa using hr)];rfl
theorem aZZ {args:List Int}:∀ {l:List Int} {dir:List Int},dir.length=l.length->eR (l.map λn=>[n]) (jH l dir)
 | [],[],_=>trivial
 |a::l,d::dir,h=>⟨.inr ⟨a,[],[d],rfl,rfl⟩,aZZ (args:=args) (by simpa using h)⟩
 | [],_::_,h=>by simp at h
 | _::_,[],h=>by simp at h
theorem bBQ {p:aF} (hp:p.ok) {f:Int} (hf:0<=f/\f<p.aK.length) {args dir:List Int} (hd:dir.length=args.length) (na:eI args) (nd:eI dir) (hl:∀ F,p.aK[f.toNat]?=some F->(args.length:Int)=F.aR) {vs:List (List Int)} {t:Nat} (hok:xP p 1 f (args.map λn=>[n])=.ok (vs,t)) :
  ∃ ws,s3 (xP p 2 f (jH args dir))=(ws,(t:Int),0)/\ws.length=(p.outs f).length/\∀ s∈ws,aW 2 s:=by
 have h:=aTC p 0 1 f _ _ (aZZ (args:=args) hd)
 have hs:=aZM hp (sz:=2) aA f hf (jH args dir) (aBX na nd) (λF hF=>by rw[aGH hd];exact hl F hF)
 rw[hok]at h
 cases hX:xP p 2 f (jH args dir)with
 |ok q =>
  obtain⟨ws,u⟩:=q
  rw[hX]at h
  have:=h.2
  subst this
  have h2:=hs ws t hX
  exact⟨ws,rfl,h2.1,h2.2⟩
 |error c=>rw[hX]at h;exact h.elim
theorem aCQ:∀ k,OV.bF (List.replicate k [OV.nil 1])=[]
 |0=>by simp[OV.bF]
 |k+1=>by rw[aJC,nD,aCQ k,OV.eP,OV.iQ,OV.sV];rfl
structure bG where
 gB:Int
 fA:Int
 fB:Int
 bA:Int
def bG.c (x:bG):List aE:=[I x.gB,I x.fA,I x.fB,I x.bA]
theorem bG.aY (x:bG):x.c=[I x.gB,I x.fA,I x.fB,I x.bA]:=rfl
structure jA where
 a2W:Int
 bO3:Bool
def jA.c (x:jA):List aE:=[I x.a2W,.bool x.bO3]
structure dQ where
 code:List bG
 eT:List Int
 guards:List jA
def dQ.val (S:dQ) (k:Int):Int:=S.eT.getD k.toNat 0
def dQ.put (S:dQ) (c:bG) (v:Int):dQ:=⟨S.code++[c],S.eT++[v],S.guards⟩
def dQ.guard (S:dQ) (g:jA):dQ:=⟨S.code,S.eT,S.guards++[g]⟩
def sE (ev:Nat->aC->dQ->Out (Int×dQ)):List aC->Nat->dQ->Out (List Int×dQ)
 | [],t,S=>.ok (([],S),t)
 |e::l,t,S=>(ev t e S).andThen λr t=>(sE ev l t r.2).andThen λq t=>.ok ((r.1::q.1,q.2),t)
def tO (f:List Int->Nat->dQ->Out (List Int×dQ)):Nat->List Int->Nat->dQ->Out (List Int×dQ)
 |0,vs,t,S=>.ok ((vs,S),t)
 |n+1,vs,t,S=>(f vs t S).andThen λr t=>tO f n r.1 t r.2
def opV (k a b:Int):Option Int :=
 if k=3 then some ((a+b)%1000003)else if k=4 then some ((a-b)%1000003)else if k=5 then some (a*b%1000003)else if k=7 then some ((0-a)%1000003)
 else if b=0 then none else some (a*gJ b%1000003)
def opB (k:Int) (vs:List Int):Int:=if k=7 then 0 else vs.getD 1 0
def opR (k:Int) (vs:List Int) (S:dQ) (t:Nat):Out (Int×dQ):=match opV k (S.val (vs.getD 0 0)) (S.val (opB k vs))with
 |none=>.error 6
 |some v=>.ok (((S.eT.length:Int),S.put ⟨k,vs.getD 0 0,opB k vs,0⟩ v),t)
def fH (p:aF):Nat->Nat->aC->List Int->dQ->Out (Int×dQ)
 |0,_,_,_,_=>.error 7
 |n+1,t,e,env,S =>
  if t=3000 then .error 7
  else if e.aS=1 then .ok (((S.eT.length:Int),S.put ⟨2,0,0,e.bA⟩ e.bA),t+1)
  else if e.aS=2 then .ok ((env.getD e.bA.toNat 0,S),t+1)
  else if e.aS=8 then(fH p n (t+1) (e.oE 0) env S).andThen λr t =>
   if r.2.val r.1=0 then fH p n t (e.oE 1) env (r.2.guard ⟨r.1,true⟩)else fH p n t (e.oE 2) env (r.2.guard ⟨r.1,false⟩)
  else if e.aS=9 then(fH p n (t+1) (e.oE 0) env S).andThen λr t=>fH p n t (e.oE 1) (env++[r.1]) r.2
  else(sE (λt e S=>fH p n t e env S) e.aN (t+1) S).andThen λr t =>
   if e.aS=10 then fH p n t (p.out e.bA e.cV) r.1 r.2
   else if e.aS=11 then(tO (λvs t S=>sE (λt e S=>fH p n t e vs S) (p.outs e.bA) t S) e.cH.toNat r.1 t r.2).andThen λr t=>.ok ((r.1.getD e.cV.toNat 0,r.2),t)
   else opR e.aS r.1 r.2 t
theorem aNM (ev:Nat->aC->dQ->Out (Int×dQ)) (e:aC):∀ (l:List aC) (t:Nat) (S:dQ),sE ev (l++[e]) t S=(sE ev l t S).andThen λq t=>(ev t e q.2).andThen λr t=>.ok ((q.1++[r.1],r.2),t)
 | [],t,S=>rfl
 |x::l,t,S=>by
  simp only[aU9,sE,aNM ev e l,Out.nF,Out.andThen_ok]
theorem aDC (f:List Int->Nat->dQ->Out (List Int×dQ)):∀ (n:Nat) (vs:List Int) (t:Nat) (S:dQ),tO f (n+1) vs t S=(tO f n vs t S).andThen λr t=>f r.1 t r.2
 |0,vs,t,S=>by
  show(f vs t S).andThen (λr t=>.ok ((r.1,r.2),t))=f vs t S
  cases f vs t S with
  |ok p=>rfl
  |error c=>rfl
 |n+1,vs,t,S=>by
  rw[tO,show tO f (n+1) vs t S=(f vs t S).andThen λr t=>tO f n r.1 t r.2 from rfl,Out.nF]
  congr 1
  funext r t
  exact aDC f n r.1 t r.2
theorem a2X (f:List Int->Nat->dQ->Out (List Int×dQ)) {vs:List Int} {t:Nat} {S:dQ} {c:Int}:∀ (k:Nat) {n:Nat},k<=n->tO f k vs t S=.error c->tO f n vs t S=.error c:=by
 intro k n hkn h
 induction n with
 |zero => obtain rfl : k = 0 := by omega
          exact h
 |succ n ih =>
  rcases bT k (n+1)with h1|h1
  ·rw[aDC,ih aA];rfl
  ·obtain rfl:k=n+1:=by omega
   exact h
def bN (inp:Int) (i:Nat) (c:bG):Prop :=
 (c.gB=1/\c.fA=0/\c.fB=0/\0<=c.bA/\c.bA<inp)∨(c.gB=2/\c.fA=0/\c.fB=0/\iE c.bA)∨((c.gB=3∨c.gB=4∨c.gB=5∨c.gB=6)/\c.bA=0/\0<=c.fA/\c.fA<i/\0<=c.fB/\c.fB<i)∨(c.gB=7/\c.bA=0/\c.fB=0/\0<=c.fA/\c.fA<i)
structure Good (inp:Int) (S:dQ) (t:Nat):Prop where
 len:S.code.length=S.eT.length
 a6R:eI S.eT
 ins:∀ i c,S.code[i]?=some c->bN inp i c
 gds:∀ g∈S.guards,0<=g.a2W/\g.a2W<S.eT.length
 cap:S.eT.length<=12+t
 aAG:S.guards.length<=t
def dQ.ext (S S':dQ):Prop:=S.code <+: S'.code/\S.eT <+: S'.eT/\S.guards <+: S'.guards
theorem dQ.u9 (S:dQ):S.ext S:=⟨aMV _,aMV _,aMV _⟩
theorem dQ.ext.trans {a b c:dQ} (h:a.ext b) (k:b.ext c):a.ext c:=⟨h.1.trans k.1,h.2.1.trans k.2.1,h.2.2.trans k.2.2⟩
theorem dQ.aIS (S:dQ) (c:bG) (v:Int):S.ext (S.put c v):=⟨a4I _ _,a4I _ _,aMV _⟩
theorem dQ.sG (S:dQ) (g:jA):S.ext (S.guard g):=⟨aMV _,aMV _,a4I _ _⟩
theorem dQ.ext.val {S S':dQ} (h:S.ext S') {k:Int} (h0:0<=k) (hk:k<S.eT.length):S'.val k=S.val k:=by
 obtain⟨x,hx⟩:=h.2.1
 rw[dQ.val,dQ.val,←hx,e8,e8,uP aA]
theorem dQ.ext.len {S S':dQ} (h:S.ext S'):S.eT.length<=S'.eT.length:=h.2.1.length_le
def rR (S:dQ) (k:Int):Prop:=0<=k/\k<S.eT.length
theorem rR.ext {S S':dQ} {k:Int} (h:rR S k) (e:S.ext S'):rR S' k:=⟨h.1,by have:=h.2;have:=e.len;omega⟩
theorem Good.vZ {inp:Int} {S:dQ} {t u:Nat} (h:Good inp S t) (hu:t<=u):Good inp S u:=⟨h.len,h.a6R,h.ins,h.gds,by have:=h.cap;omega,by have:=h.aAG;omega⟩
theorem Good.put {inp:Int} {S:dQ} {t:Nat} {c:bG} {v:Int} (h:Good inp S t) (hc:bN inp S.eT.length c) (hv:iE v) (hcap:S.eT.length<12+t):Good inp (S.put c v) t:=by
 refine⟨by simp[dQ.put,h.len],λx hx=>?_,λi d hd=>?_,λg hg=>?_,by simp[dQ.put];omega,h.aAG⟩
 ·rcases nY.1 hx with hx|hx
  ·exact h.a6R x hx
  ·rw[iO.1 hx];exact hv
 ·rcases bT i S.code.length with hi|hi
  ·rw[dQ.put,uP hi]at hd;exact h.ins i d hd
  ·rw[dQ.put,yD hi]at hd
   have hd2:=iY.1 hd
   obtain⟨h1,h2⟩:=hd2
   have h3:i=S.eT.length:=by simp at h1;have:=h.len;omega
   simp at h2
   subst h2;rw[h3];exact hc
 ·have:=h.gds g hg
  simp only[dQ.put,nT,nN];omega
theorem Good.guard {inp:Int} {S:dQ} {t:Nat} {k:Int} {b:Bool} (h:Good inp S t) (hk:rR S k) (hcap:S.guards.length<t):Good inp (S.guard ⟨k,b⟩) t:=by
 refine⟨h.len,h.a6R,h.ins,λg hg=>?_,h.cap,by simp[dQ.guard];omega⟩
 rcases nY.1 hg with hg|hg
 ·exact h.gds g hg
 ·rw[iO.1 hg];exact hk
theorem bBR {k a b v:Int} (h:opV k a b=some v):iE v:=by
 unfold opV at h
 repeat'(split at h)
 all_goals first|(cases h;done)|(cases h;exact dY _)
def v5 {α:Type} (P:α->Nat->Prop) (X:Out α):Prop:=∀ v u,X=.ok (v,u)->P v u
theorem v5.then {α β:Type} {P:α->Nat->Prop} {Q:β->Nat->Prop} {X:Out α} {F:α->Nat->Out β} (h:v5 P X) (hf:∀ v t,P v t->v5 Q (F v t)):v5 Q (X.andThen F):=λw u hw=>by
 cases X with
 |ok p=>obtain⟨v,t⟩:=p;exact hf v t (h v t rfl) w u hw
 |error c=>cases hw
theorem v5.pure {α:Type} {P:α->Nat->Prop} {v:α} {t:Nat} (h:P v t):v5 P (.ok (v,t)):=λw u e=>by cases e;exact h
theorem v5.err {α:Type} {P:α->Nat->Prop} {c:Int}:v5 P (.error c:Out α):=λw u e=>by cases e
theorem v5.mono {α:Type} {P Q:α->Nat->Prop} {X:Out α} (h:v5 P X) (hq:∀ v u,P v u->Q v u):v5 Q X:=λv u e=>hq v u (h v u e)
def qA (S:dQ) (t:Nat) (S':dQ) (u:Nat):Prop:=S'.eT.length+t<=S.eT.length+u/\S'.guards.length+t<=S.guards.length+u/\t<=u/\u<=3000
theorem qA.refl {S:dQ} {t:Nat} (h:t<=3000):qA S t S t:=⟨bY _,bY _,bY _,h⟩
theorem qA.trans {A B C:dQ} {t u v:Nat} (h:qA A t B u) (k:qA B u C v):qA A t C v:=by
 unfold qA at *;omega
def aK7 (inp:Int) (S:dQ) (t:Nat) (r:Int×dQ) (u:Nat):Prop:=Good inp r.2 u/\S.ext r.2/\rR r.2 r.1/\qA S t r.2 u
def aCR (inp:Int) (S:dQ) (t n:Nat) (r:List Int×dQ) (u:Nat):Prop:=Good inp r.2 u/\S.ext r.2/\(r.1.length=n/\∀ x∈r.1,rR r.2 x)/\qA S t r.2 u
theorem lS {ev:Nat->aC->dQ->Out (Int×dQ)} {inp:Int}:∀ (l:List aC) (t:Nat) (S:dQ),Good inp S t->t<=3000->(∀ e∈l,∀ u S',Good inp S' u->S.ext S'->qA S t S' u->v5 (aK7 inp S' u) (ev u e S'))->v5 (aCR inp S t l.length) (sE ev l t S)
 | [],t,S,hg,ht,_=>v5.pure ⟨hg,S.u9,⟨rfl,by simp⟩,.refl ht⟩
 |e::l,t,S,hg,ht,h=>(h e aAL t S hg S.u9 (.refl ht)).then λr u hr=>by
  obtain⟨r1,r2,r3,r4⟩:=hr
  refine(lS l u r.2 r1 r4.2.2.2 λx hx u' S' a b c=>h x (wN _ hx) u' S' a (r2.trans b) (r4.trans c)).then λq u' hq=>?_
  obtain⟨q1,q2,⟨q3,q4⟩,q5⟩:=hq
  refine v5.pure ⟨q1,r2.trans q2,⟨by rw[aB9,q3];rfl,λx hx=>?_⟩,r4.trans q5⟩
  rcases pP.1 hx with rfl|hx
  ·exact r3.ext q2
  ·exact q4 x hx
theorem xU {f:List Int->Nat->dQ->Out (List Int×dQ)} {inp:Int} {m:Nat} (h:∀ vs t S,Good inp S t->(vs.length=m/\∀ x∈vs,rR S x)->t<=3000->v5 (aCR inp S t m) (f vs t S)) :
  ∀ (n:Nat) (vs:List Int) (t:Nat) (S:dQ),Good inp S t->(vs.length=m/\∀ x∈vs,rR S x)->t<=3000->v5 (aCR inp S t m) (tO f n vs t S)
 |0,vs,t,S,hg,hv,ht=>v5.pure ⟨hg,S.u9,hv,.refl ht⟩
 |n+1,vs,t,S,hg,hv,ht=>(h vs t S hg hv ht).then λr u hr=>by
  obtain⟨r1,r2,r3,r4⟩:=hr
  refine(xU h n r.1 u r.2 r1 r3 r4.2.2.2).mono λq u' hq=>?_
  obtain⟨q1,q2,q3,q4⟩:=hq
  exact⟨q1,r2.trans q2,q3,r4.trans q4⟩
theorem bIN {inp k:Int} {vs:List Int} {S:dQ} {t:Nat} {m:Nat} (hk:k=3∨k=4∨k=5∨k=6∨k=7) (hm:vs.length=m/\∀ x∈vs,rR S x) (hm1:1<=m) (hm2:¬k=7->2<=m) (hg:Good inp S (t+1)) (hcap:S.eT.length<12+(t+1)) (ht:t+1<=3000):v5 (λr u=>Good inp r.2 u/\S.ext r.2/\rR r.2 r.1/\u=t+1/\r.2.eT.length=S.eT.length+1/\r.2.guards=S.guards) (opR k vs S (t+1)):=by
 have at_:∀ i,i<m->rR S (vs.getD i 0):=λi hi=>by
  rw[e8,fC aA]
  exact hm.2 _ (lF _)
 unfold opR
 split
 ·exact v5.err
 ·rename_i v hv
  have h0:=at_ 0 aA
  refine v5.pure ⟨hg.put ?_ (bBR hv) hcap,S.aIS _ _,⟨by simp,by simp[dQ.put];omega⟩,rfl,by simp[dQ.put],rfl⟩
  unfold rR at h0
  by_cases h7:k=7
  ·subst h7
   exact .inr (.inr (.inr ⟨rfl,rfl,rfl,h0⟩))
  ·have h1:=at_ 1 (hm2 h7)
   unfold rR at h1
   have hb:opB k vs=vs.getD 1 0:=if_neg h7
   exact .inr (.inr (.inl ⟨by simp only;omega,rfl,h0.1,h0.2,by simp only[hb];exact h1.1,by simp only[hb];exact h1.2⟩))
theorem aPR {p:aF} {n st:Nat} {e:aC} {env:List Int} {S:dQ} (h3:¬st=3000) (hk:e.aS=1):fH p (n+1) st e env S=.ok (((S.eT.length:Int),S.put ⟨2,0,0,e.bA⟩ e.bA),st+1):=by rw[fH,if_neg h3,if_pos hk]
theorem aPS {p:aF} {n st:Nat} {e:aC} {env:List Int} {S:dQ} (h3:¬st=3000) (hk:e.aS=2):fH p (n+1) st e env S=.ok ((env.getD e.bA.toNat 0,S),st+1):=by rw[fH,if_neg h3,if_neg aA,if_pos hk]
theorem aBH {p:aF} {n st:Nat} {e:aC} {env:List Int} {S:dQ} (h3:¬st=3000) (hk:e.aS=8):fH p (n+1) st e env S=(fH p n (st+1) (e.oE 0) env S).andThen λr t =>
   if r.2.val r.1=0 then fH p n t (e.oE 1) env (r.2.guard ⟨r.1,true⟩)else fH p n t (e.oE 2) env (r.2.guard ⟨r.1,false⟩):=by rw[fH,if_neg h3,if_neg aA,if_neg aA,if_pos hk]
theorem aPT {p:aF} {n st:Nat} {e:aC} {env:List Int} {S:dQ} (h3:¬st=3000) (hk:e.aS=9):fH p (n+1) st e env S=(fH p n (st+1) (e.oE 0) env S).andThen λr t=>fH p n t (e.oE 1) (env++[r.1]) r.2:=by rw[fH,if_neg h3,if_neg aA,if_neg aA,if_neg aA,if_pos hk]
theorem aE3 {p:aF} {n st:Nat} {e:aC} {env:List Int} {S:dQ} (h3:¬st=3000) (hk:e.aS=10):fH p (n+1) st e env S=(sE (λt e S=>fH p n t e env S) e.aN (st+1) S).andThen λr t=>fH p n t (p.out e.bA e.cV) r.1 r.2:=by
 rw[fH,if_neg h3,if_neg aA,if_neg aA,if_neg aA,if_neg aA];simp only[if_pos hk]
theorem aE4 {p:aF} {n st:Nat} {e:aC} {env:List Int} {S:dQ} (h3:¬st=3000) (hk:e.aS=11):fH p (n+1) st e env S=(sE (λt e S=>fH p n t e env S) e.aN (st+1) S).andThen λr t=>(tO (λvs t S=>sE (λt e S=>fH p n t e vs S) (p.outs e.bA) t S) e.cH.toNat r.1 t r.2).andThen λr t=>.ok ((r.1.getD e.cV.toNat 0,r.2),t):=by
 have h:¬e.aS=10:=by omega
 rw[fH,if_neg h3,if_neg aA,if_neg aA,if_neg aA,if_neg aA];simp only[if_neg h,if_pos hk]
theorem oZ {p:aF} {n st:Nat} {e:aC} {env:List Int} {S:dQ} (h3:¬st=3000) (hk:e.aS=3∨e.aS=4∨e.aS=5∨e.aS=6∨e.aS=7):fH p (n+1) st e env S=(sE (λt e S=>fH p n t e env S) e.aN (st+1) S).andThen λr t=>opR e.aS r.1 r.2 t:=by
 have h:¬e.aS=10:=by omega
 have h2:¬e.aS=11:=by omega
 rw[fH,if_neg h3,if_neg aA,if_neg aA,if_neg aA,if_neg aA];simp only[if_neg h,if_neg h2]
theorem qA.step {S S':dQ} {t u:Nat} (h:qA S (t+1) S' u):qA S t S' u:=by unfold qA at *;omega
theorem v7 {p:aF} (hp:p.ok) {inp:Int}:∀ (n t:Nat) (e:aC) (env:List Int) (S:dQ) (funcs:Int),e.ok p funcs env.length->funcs<=p.aK.length->Good inp S t->t<=3000->(∀ x∈env,rR S x)->v5 (aK7 inp S t) (fH p n t e env S)
 |0,t,e,env,S,funcs,_,_,_,_,_=>v5.err
 |n+1,t,e,env,S,funcs,hok,hf,hg,ht,henv=>by
  have ih:=v7 hp (inp:=inp) n
  have hnode:=((aC.dK _ _ _ _).1 hok).1
  by_cases h3:t=3000
  ·rw[fH,if_pos h3];exact v5.err
  have pO:=hg.vZ (qD t)
  have hcap:=hg.cap
  have hgcap:=hg.aAG
  have henvE:∀ {S'},S.ext S'->∀ x∈env,rR S' x:=λe x hx=>(henv x hx).ext e
  rcases sD hnode with hk|hk|hk|hk|hk|hk|hk|hk|hk|hk|hk
  ·rw[aPR h3 hk]
   have hn:=((dT aA).1 hnode).2.2.2.1 hk
   exact v5.pure ⟨pO.put (.inr (.inl ⟨rfl,rfl,rfl,hn⟩)) hn aA,S.aIS _ _,⟨by simp,by simp[dQ.put];omega⟩,by simp[qA,dQ.put];omega⟩
  ·rw[aPS h3 hk]
   have hn:=((dT aA).1 hnode).2.2.2.2.1 hk
   refine v5.pure ⟨pO,S.u9,?_,by simp[qA];omega⟩
   simp only[e8]
   rw[fC aA]
   exact henv _ (lF _)
  iterate 5
   ·have hlen:=eD hok aA
    rw[hk]at hlen
    rw[oZ h3 aA]
    refine(lS _ _ S pO aA λx hx u S' a b c=>ih u x env S' funcs (fF hok aA x hx) hf a c.2.2.2 (henvE b)).then λr u hr=>?_
    obtain⟨r1,r2,r3,r4⟩:=hr
    obtain⟨u,rfl⟩:∃ w,u=w+1:=⟨u-1,by have:=r4.2.2.1;omega⟩
    unfold qA at r4
    refine(bIN (inp:=inp) aA r3 aRN (λq=>by unfold eO at hlen;simp at hlen;omega) r1 aA aA).mono λq v hq=>?_
    obtain⟨q1,q2,q3,rfl,q5,q6⟩:=hq
    exact⟨q1,r2.trans q2,q3,by unfold qA;rw[q5,q6];omega⟩
  ·have hlen:=eD hok aA
   rw[hk,show eO 8=3 from rfl]at hlen
   have o0:=aC.eZ hok (i:=0) aA
   have o1:=aC.eZ hok (i:=1) aA
   have o2:=aC.eZ hok (i:=2) aA
   rw[iG aA]at o0 o1 o2
   rw[aBH h3 hk]
   refine(ih _ _ _ _ _ o0 hf pO aA henv).then λr u hr=>?_
   obtain⟨r1,r2,r3,r4⟩:=hr
   have r4':=r4
   unfold qA at r4'
   have go:∀ (b:Bool) (k:aC),k.ok p funcs env.length->v5 (aK7 inp S t) (fH p n u k env (r.2.guard ⟨r.1,b⟩)):=λb k hk=>by
    have he:r.2.ext (r.2.guard ⟨r.1,b⟩):=r.2.sG _
    refine(ih u k env _ _ hk hf (r1.guard r3 aA) aA (henvE (r2.trans he))).mono λq v hq=>?_
    obtain⟨q1,q2,q3,q4⟩:=hq
    refine⟨q1,(r2.trans he).trans q2,q3,?_⟩
    unfold qA at q4 ⊢
    simp only[dQ.guard,nT,nN]at q4
    omega
   split
   ·exact go _ _ o1
   ·exact go _ _ o2
  ·have hlen:=eD hok aA
   rw[hk,show eO 9=2 from rfl]at hlen
   have o0:=aC.eZ hok (i:=0) aA
   have o1:=aC.eZ hok (i:=1) aA
   rw[iG aA]at o0
   rw[hk,show jE 9 1 (env.length:Int)=env.length+1 from rfl]at o1
   rw[aPT h3 hk]
   refine(ih _ _ _ _ _ o0 hf pO aA henv).then λr u hr=>?_
   obtain⟨r1,r2,r3,r4⟩:=hr
   refine(ih _ _ (env++[r.1]) _ _ aGY hf r1 r4.2.2.2 λx hx=>?_).mono λq v hq=>?_
   ·rcases nY.1 hx with hx|hx
    ·exact henvE r2 x hx
    ·rw[iO.1 hx];exact r3
   ·obtain⟨q1,q2,q3,q4⟩:=hq
    exact⟨q1,r2.trans q2,q3,(r4.trans q4).step⟩
  ·obtain⟨f,F⟩:=nS hp hok hf (.inl hk)
   have f2:=F.hi
   have f4:=F.pk2
   rw[aE3 h3 hk]
   refine(lS _ _ S pO aA λx hx u S' a b c=>ih u x env S' funcs (fF hok aA x hx) hf a c.2.2.2 (henvE b)).then λr u hr=>?_
   obtain⟨r1,r2,r3,r4⟩:=hr
   refine(ih _ _ r.1 _ e.bA bEG aA r1 r4.2.2.2 r3.2).mono λq v hq=>?_
   obtain⟨q1,q2,q3,q4⟩:=hq
   exact⟨q1,r2.trans q2,q3,(r4.trans q4).step⟩
  ·obtain⟨f,F⟩:=nS hp hok hf (.inr hk)
   have f2:=F.hi
   have f4:=F.pk2
   have f9:=F.loop hk
   rw[aE4 h3 hk]
   refine(lS _ _ S pO aA λx hx u S' a b c=>ih u x env S' funcs (fF hok aA x hx) hf a c.2.2.2 (henvE b)).then λr u hr=>?_
   obtain⟨r1,r2,r3,r4⟩:=hr
   refine(xU (inp:=inp) (m:=f.aU.length) (λvs w S' hg' hv hw=>?_) _ _ _ _ r1 ⟨by have:=r3.1;have:=F.kids;omega,r3.2⟩ r4.2.2.2).then λq v hq=>?_
   ·rw[F.eq]
    exact lS _ _ S' hg' hw λx hx u S'' a b c=>ih u x vs S'' e.bA a4S aA a c.2.2.2 λy hy=>(hv.2 y hy).ext b
   ·obtain⟨q1,q2,q3,q4⟩:=hq
    refine v5.pure ⟨q1,r2.trans q2,?_,(r4.trans q4).step⟩
    simp only[e8]
    rw[fC (by rw[q3.1];exact f4)]
    exact q3.2 _ (lF _)
def m7 {α β:Type} (R:α->β->Prop) (X:Out α) (Y:Out β):Prop:=match X,Y with
 | .ok (v,t),.ok (v',t')=>R v v'/\t=t'
 | .error c,.error c'=>c=c'
 | _,_=>False
theorem m7.bind {α β γ δ:Type} {R:α->β->Prop} {R':γ->δ->Prop} {P:α->Nat->Prop} {X:Out α} {Y:Out β} {F:α->Nat->Out γ} {G:β->Nat->Out δ} (hp:v5 P X) (h:m7 R X Y) (hf:∀ v v' t,P v t->R v v'->m7 R' (F v t) (G v' t)):m7 R' (X.andThen F) (Y.andThen G):=by
 cases X with
 |ok p =>
  cases Y with
  |ok q =>
   obtain⟨v,t⟩:=p
   obtain⟨v',t'⟩:=q
   obtain⟨h1,rfl⟩:=h
   exact hf _ _ _ (hp v t rfl) h1
  |error c=>exact h.elim
 |error c =>
  cases Y with
  |ok q=>exact h.elim
  |error d=>exact h
theorem m7.pure {α β:Type} {R:α->β->Prop} {v:α} {v':β} {t:Nat} (h:R v v'):m7 R (.ok (v,t)) (.ok (v',t)):=⟨h,rfl⟩
def sv (S:dQ) (l:List Int):List (List Int):=l.map λk=>[S.val k]
def sR1 (r:Int×dQ) (v:List Int):Prop:=v=[r.2.val r.1]
def sRL (r:List Int×dQ) (vs:List (List Int)):Prop:=vs=sv r.2 r.1
theorem aK8 {S S':dQ} {l:List Int} (h:∀ x∈l,rR S x) (e:S.ext S'):sv S' l=sv S l :=
 aCA λx hx=>by rw[e.val (h x hx).1 (h x hx).2]
theorem xV {ev:Nat->aC->dQ->Out (Int×dQ)} {ev':Nat->aC->Out (List Int)} {inp:Int}:∀ (l:List aC) (t:Nat) (S:dQ),Good inp S t->t<=3000->(∀ e∈l,∀ u S',Good inp S' u->S.ext S'->qA S t S' u->v5 (aK7 inp S' u) (ev u e S')/\m7 sR1 (ev u e S') (ev' u e))->m7 sRL (sE ev l t S) (l3 ev' l t)
 | [],t,S,hg,ht,_=>m7.pure rfl
 |e::l,t,S,hg,ht,h=>by
  obtain⟨h1,h2⟩:=h e aAL t S hg S.u9 (.refl ht)
  refine m7.bind h1 h2 λr v u hr hv=>?_
  obtain⟨r1,r2,r3,r4⟩:=hr
  have hl:=λx hx u' S' a b c=>h x (wN _ hx) u' S' a (r2.trans b) (r4.trans c)
  refine m7.bind (lS l u r.2 r1 r4.2.2.2 λx hx u' S' a b c=>(hl x hx u' S' a b c).1) (xV l u r.2 r1 r4.2.2.2 hl) λq vs u' hq hvs=>m7.pure ?_
  rw[sR1]at hv
  rw[sRL]at hvs ⊢
  rw[hv,hvs,←hq.2.1.val r3.1 r3.2];rfl
theorem aNN {f:List Int->Nat->dQ->Out (List Int×dQ)} {g:List (List Int)->Nat->Out (List (List Int))} {inp:Int} {m:Nat} (h:∀ vs t S,Good inp S t->(vs.length=m/\∀ x∈vs,rR S x)->t<=3000->v5 (aCR inp S t m) (f vs t S)/\m7 sRL (f vs t S) (g (sv S vs) t)) :
  ∀ (n:Nat) (vs:List Int) (t:Nat) (S:dQ),Good inp S t->(vs.length=m/\∀ x∈vs,rR S x)->t<=3000->m7 sRL (tO f n vs t S) (qM g n (sv S vs) t)
 |0,vs,t,S,hg,hv,ht=>m7.pure rfl
 |n+1,vs,t,S,hg,hv,ht=>by
  obtain⟨h1,h2⟩:=h vs t S hg hv ht
  refine m7.bind h1 h2 λr w u hr hw=>?_
  rw[sRL]at hw
  rw[hw]
  exact aNN h n r.1 u r.2 hr.1 hr.2.2.1 hr.2.2.2.2.2.2
theorem aDD {S:dQ} {l:List Int} {i:Nat} (hi:i<l.length):(sv S l).getD i []=[S.val (l.getD i 0)]:=by
 simp[sv,e8,fC hi]
theorem bBT {k:Int} {vs:List Int} {S:dQ} {t:Nat} (hk:k=3∨k=4∨k=5∨k=6∨k=7) (h1:1<=vs.length) (h2:¬k=7->2<=vs.length):m7 sR1 (opR k vs S t) (opE k (sv S vs) t):=by
 have g0:=aDD (S:=S) (l:=vs) (i:=0) aA
 have pv:∀ c v,(S.put c v).val (S.eT.length:Int)=v:=λc v=>by
  rw[dQ.val,dQ.put,e8,r8,yD (bY _),sP];rfl
 unfold opR opE opV
 rcases hk with rfl|rfl|rfl|rfl|rfl
 all_goals simp only[reduceCtorEq,if_true,if_false,Int.reduceEq]
 ·refine m7.pure ?_
  have g1:=aDD (S:=S) (l:=vs) (i:=1) (h2 b6)
  rw[sR1,pv,g0,g1]
  rfl
 ·refine m7.pure ?_
  have g1:=aDD (S:=S) (l:=vs) (i:=1) (h2 b6)
  rw[sR1,pv,g0,g1]
  show[(_+_*1000002%1000003)%1000003]=[(_-S.val (vs.getD 1 0))%1000003]
  congr 1
  omega
 ·refine m7.pure ?_
  have g1:=aDD (S:=S) (l:=vs) (i:=1) (h2 b6)
  rw[sR1,pv,g0,g1]
  show[(0+_*_)%1000003]=[_*S.val (vs.getD 1 0)%1000003]
  rw[aMW];rfl
 ·have g1:=aDD (S:=S) (l:=vs) (i:=1) (h2 b6)
  rw[g0,g1,show opB 6 vs=vs.getD 1 0 from rfl,show[S.val (vs.getD 1 0)].getD 0 0=S.val (vs.getD 1 0)from rfl]
  by_cases h:S.val (vs.getD 1 0)=0
  ·rw[if_pos h,if_pos h];exact rfl
  ·rw[if_neg h,if_neg h]
   refine m7.pure ?_
   rw[sR1,pv];rfl
 ·refine m7.pure ?_
  rw[sR1,pv,g0]
  show[_*1000002%1000003]=[(0-S.val (vs.getD 0 0))%1000003]
  congr 1
  omega
theorem aTN {p:aF} (hp:p.ok) {inp:Int}:∀ (n t:Nat) (e:aC) (env:List Int) (S:dQ) (funcs:Int),e.ok p funcs env.length->funcs<=p.aK.length->Good inp S t->t<=3000->(∀ x∈env,rR S x)->m7 sR1 (fH p n t e env S) (iZ p 1 n t e (sv S env))
 |0,t,e,env,S,funcs,_,_,_,_,_=>rfl
 |n+1,t,e,env,S,funcs,hok,hf,hg,ht,henv=>by
  have ih:=aTN hp (inp:=inp) n
  have io:=v7 hp (inp:=inp) n
  have hnode:=((aC.dK _ _ _ _).1 hok).1
  by_cases h3:t=3000
  ·rw[fH,iZ,if_pos h3,if_pos h3];exact rfl
  have pO:=hg.vZ (qD t)
  have hcap:=hg.cap
  have hgcap:=hg.aAG
  have henvE:∀ {S'},S.ext S'->∀ x∈env,rR S' x:=λe x hx=>(henv x hx).ext e
  have kidsS:¬e.aS=9->∀ x∈e.aN,∀ u S',Good inp S' u->S.ext S'->qA S (t+1) S' u->v5 (aK7 inp S' u) (fH p n u x env S')/\m7 sR1 (fH p n u x env S') (iZ p 1 n u x (sv S env)):=λh9 x hx u S' a b c =>
   ⟨io u x env S' funcs (fF hok h9 x hx) hf a c.2.2.2 (henvE b),by
    have:=ih u x env S' funcs (fF hok h9 x hx) hf a c.2.2.2 (henvE b)
    rwa [aK8 henv b]at this⟩
  rcases sD hnode with hk|hk|hk|hk|hk|hk|hk|hk|hk|hk|hk
  ·rw[aPR h3 hk,aTE h3 hk]
   refine m7.pure ?_
   simp[sR1,dQ.val,dQ.put,bX,aJC]
  ·rw[aPS h3 hk,aTF h3 hk]
   have hn:=((dT aA).1 hnode).2.2.2.2.1 hk
   exact m7.pure (aDD aA)
  iterate 5
   ·have hlen:=eD hok aA
    rw[hk]at hlen
    rw[oZ h3 aA,pM h3 aA]
    have hs:=kidsS aA
    refine m7.bind (lS _ _ S pO aA λx hx u S' a b c=>(hs x hx u S' a b c).1) (xV _ _ S pO aA hs) λr vs u hr hv=>?_
    obtain⟨r1,r2,r3,r4⟩:=hr
    rw[sRL]at hv
    rw[hv]
    exact bBT aA aRN (λq=>by unfold eO at hlen;simp at hlen;omega)
  ·have hlen:=eD hok aA
   rw[hk,show eO 8=3 from rfl]at hlen
   have o0:=aC.eZ hok (i:=0) aA
   have o1:=aC.eZ hok (i:=1) aA
   have o2:=aC.eZ hok (i:=2) aA
   rw[iG aA]at o0 o1 o2
   rw[aBH h3 hk,aK1 h3 hk]
   refine m7.bind (io _ _ _ _ _ o0 hf pO aA henv) (ih _ _ _ _ _ o0 hf pO aA henv) λr v u hr hv=>?_
   obtain⟨r1,r2,r3,r4⟩:=hr
   have r4':=r4
   unfold qA at r4'
   rw[sR1]at hv
   subst hv
   rw[show[r.2.val r.1].getD 0 0=r.2.val r.1 from rfl]
   have go:∀ (b:Bool) (k:aC),k.ok p funcs env.length->m7 sR1 (fH p n u k env (r.2.guard ⟨r.1,b⟩)) (iZ p 1 n u k (sv S env)):=λb k hk=>by
    have he:r.2.ext (r.2.guard ⟨r.1,b⟩):=r.2.sG _
    have:=ih u k env _ _ hk hf (r1.guard (b:=b) r3 aA) aA (henvE (r2.trans he))
    rwa [aK8 henv (r2.trans he)]at this
   by_cases hz:r.2.val r.1=0
   ·rw[if_pos hz,if_pos hz];exact go _ _ o1
   ·rw[if_neg hz,if_neg hz];exact go _ _ o2
  ·have hlen:=eD hok aA
   rw[hk,show eO 9=2 from rfl]at hlen
   have o0:=aC.eZ hok (i:=0) aA
   have o1:=aC.eZ hok (i:=1) aA
   rw[iG aA]at o0
   rw[hk,show jE 9 1 (env.length:Int)=env.length+1 from rfl]at o1
   rw[aPT h3 hk,aTG h3 hk]
   refine m7.bind (io _ _ _ _ _ o0 hf pO aA henv) (ih _ _ _ _ _ o0 hf pO aA henv) λr v u hr hv=>?_
   obtain⟨r1,r2,r3,r4⟩:=hr
   rw[sR1]at hv
   subst hv
   have:=ih u (e.oE 1) (env++[r.1]) r.2 funcs aGY hf r1 r4.2.2.2 (λx hx=>by
    rcases nY.1 hx with hx|hx
    ·exact henvE r2 x hx
    ·rw[iO.1 hx];exact r3)
   rwa [show sv r.2 (env++[r.1])=sv S env++[[r.2.val r.1]]by rw[←aK8 henv r2,sv,mY];rfl]at this
  ·obtain⟨f,F⟩:=nS hp hok hf (.inl hk)
   have f2:=F.hi
   have f4:=F.pk2
   rw[aE3 h3 hk,aGD h3 hk]
   have hs:=kidsS aA
   refine m7.bind (lS _ _ S pO aA λx hx u S' a b c=>(hs x hx u S' a b c).1) (xV _ _ S pO aA hs) λr vs u hr hv=>?_
   obtain⟨r1,r2,r3,r4⟩:=hr
   rw[sRL]at hv
   rw[hv]
   exact ih _ _ r.1 _ e.bA bEG aA r1 r4.2.2.2 r3.2
  ·obtain⟨f,F⟩:=nS hp hok hf (.inr hk)
   have f2:=F.hi
   have f4:=F.pk2
   have f9:=F.loop hk
   rw[aE4 h3 hk,aGE h3 hk]
   have hs:=kidsS aA
   refine m7.bind (lS _ _ S pO aA λx hx u S' a b c=>(hs x hx u S' a b c).1) (xV _ _ S pO aA hs) λr vs u hr hv=>?_
   obtain⟨r1,r2,r3,r4⟩:=hr
   rw[sRL]at hv
   rw[hv]
   have hfl:∀ vs t S,Good inp S t->(vs.length=f.aU.length/\∀ x∈vs,rR S x)->t<=3000->v5 (aCR inp S t f.aU.length) (sE (λt e S=>fH p n t e vs S) (p.outs e.bA) t S)/\m7 sRL (sE (λt e S=>fH p n t e vs S) (p.outs e.bA) t S) (l3 (λt e=>iZ p 1 n t e (sv S vs)) (p.outs e.bA) t):=λvs w S' hg' hv hw=>by
    rw[F.eq]
    have hx2:∀ x∈f.aU,∀ u S'',Good inp S'' u->S'.ext S''->qA S' w S'' u->v5 (aK7 inp S'' u) (fH p n u x vs S'')/\m7 sR1 (fH p n u x vs S'') (iZ p 1 n u x (sv S' vs)):=λx hx u S'' a b c =>
     ⟨io u x vs S'' e.bA a4S aA a c.2.2.2 λy hy=>(hv.2 y hy).ext b,by
      have:=ih u x vs S'' e.bA a4S aA a c.2.2.2 λy hy=>(hv.2 y hy).ext b
      rwa [aK8 hv.2 b]at this⟩
    exact⟨lS _ _ S' hg' hw λx hx u S'' a b c=>(hx2 x hx u S'' a b c).1,xV _ _ S' hg' hw hx2⟩
   have hv0:r.1.length=f.aU.length/\∀ x∈r.1,rR r.2 x:=⟨by have:=r3.1;have:=F.kids;omega,r3.2⟩
   refine m7.bind (xU (inp:=inp) (m:=f.aU.length) (λvs t S a b c=>(hfl vs t S a b c).1) _ _ _ _ r1 hv0 r4.2.2.2) (aNN (inp:=inp) (m:=f.aU.length) (g:=λvs t=>l3 (λt e=>iZ p 1 n t e vs) (p.outs e.bA) t) hfl _ _ _ _ r1 hv0 r4.2.2.2) λq vs2 v hq hvs=>?_
   refine m7.pure ?_
   rw[sRL]at hvs
   rw[hvs]
   exact aDD (by rw[hq.2.2.1.1];exact f4)
def inS (args:List Int):dQ:=⟨(List.range args.length).map λi:Nat=>⟨1,0,0,(i:Int)⟩,args,[]⟩
def inE (args:List Int):List Int:=(List.range args.length).map λi:Nat=>(i:Int)
theorem aK9 (args:List Int) (ha:eI args) (hl:args.length<=12):Good args.length (inS args) 0:=by
 refine⟨by simp[inS],ha,λi c hc=>?_,λg hg=>(by cases hg),by simpa[inS]using hl,bY _⟩
 obtain⟨h1,h2⟩:=iY.1 hc
 simp[inS]at h1 h2
 subst h2
 exact .inl ⟨rfl,rfl,rfl,by simp only;omega,by simp only;omega⟩
theorem aV5 (args:List Int):∀ x∈inE args,rR (inS args) x:=λx hx=>by
 obtain⟨i,hi,rfl⟩:=lZ.1 hx
 have:=aDZ.1 hi
 exact⟨by omega,by simp[inS];omega⟩
theorem bIO (args:List Int):sv (inS args) (inE args)=args.map λn=>[n]:=by
 apply tI
 ·simp[sv,inE]
 ·intro i h1 h2
  simp[sv,inE,inS,dQ.val]
  simp at h2
  rw[fC h2];rfl
def zB (p:aF) (f:Int) (args:List Int):Out (List Int×dQ):=sE (λt e S=>fH p 3001 t e (inE args) S) (p.outs f) 0 (inS args)
theorem aE5 {p:aF} (hp:p.ok) (f:Int) (hf:0<=f/\f<p.aK.length) (args:List Int) (ha:eI args) (hl:∀ F,p.aK[f.toNat]?=some F->(args.length:Int)=F.aR) :
  v5 (aCR args.length (inS args) 0 (p.outs f).length) (zB p f args)/\m7 sRL (zB p f args) (xP p 1 f (args.map λn=>[n])):=by
 obtain⟨F,ef,hF1,hF2,hF3,hF4⟩:=pZ hp hf
 have hla:=hl F ef
 have hg:=aK9 args ha aA
 have hin:=aV5 args
 have hel:(inE args).length=args.length:=by simp[inE]
 have hx2:∀ x∈p.outs f,∀ u S'',Good args.length S'' u->(inS args).ext S''->qA (inS args) 0 S'' u->v5 (aK7 args.length S'' u) (fH p 3001 u x (inE args) S'')/\m7 sR1 (fH p 3001 u x (inE args) S'') (iZ p 1 3001 u x (args.map λn=>[n])):=λx hx u S'' a b c=>by
  have hxo:x.ok p f (inE args).length:=by rw[hel,hla];exact hF4 x (by rw[←hF3];exact hx)
  refine⟨v7 hp _ u x _ S'' f hxo aA a c.2.2.2 λy hy=>(hin y hy).ext b,?_⟩
  have:=aTN hp 3001 u x (inE args) S'' f hxo aA a c.2.2.2 λy hy=>(hin y hy).ext b
  rwa [aK8 hin b,bIO]at this
 exact⟨lS _ _ _ hg aA λx hx u S'' a b c=>(hx2 x hx u S'' a b c).1,xV _ _ _ hg aA hx2⟩
def c8 (p:aF) (inp:Int) (S:dQ) (om og ov:Option Nat) (st:Nat) (c:Int):bU :=
 .row 8 [[.v (gT 3 aV.c p.aK),.v (I inp),.v (j7 4 S.code.length om),.v (j7 2 S.guards.length og),.v .bS,.v (j7 1 S.eT.length ov),.v (I st),.v (I c)]]
def aLA (h:aB) (sz:Nat) (rows:List (List Cell)):Option Nat->Prop
 |none=>rows=[]
 |some m=>rows≠[]/\h m=some (.row sz rows)
def rowsOf {α:Type} (c:α->List aE) (l:List α):List (List Cell):=(l.map c).map (List.map .v)
theorem r9 {α:Type} (c:α->List aE) (l:List α):(rowsOf c l).length=l.length:=by simp[rowsOf]
theorem v8 {α:Type} (c:α->List aE) (l:List α) (x:α):rowsOf c (l++[x])=rowsOf c l++[(c x).map .v]:=by simp[rowsOf]
theorem oG {α:Type} {c:α->List aE} {l:List α}:rowsOf c l=[]↔l=[]:=by simp[rowsOf]
structure xW (bx:dQ->Option Nat->Option Nat->Option Nat->bU) (h0:aB) (nb:Nat) (S:dQ) (om og ov:Option Nat) (h:aB):Prop where
 box:h nb=some (bx S om og ov)
 odd:∀ S om og ov,∃ sz cs,bx S om og ov=.row sz cs/\¬sz=1/\¬sz=2/\¬sz=4
 code:aLA h 4 (rowsOf bG.c S.code) om
 gds:aLA h 2 (rowsOf jA.c S.guards) og
 eT:aLA h 1 (rowsOf (λn=>[I n]) S.eT) ov
 fresh:∀ n,n=nb∨some n=om∨some n=og∨some n=ov->h0 n=none
 upto:∀ n,¬n=nb->¬some n=om->¬some n=og->¬some n=ov->h n=h0 n
def rG (bx:dQ->Option Nat->Option Nat->Option Nat->bU) (h0:aB) (nb:Nat) (S:dQ) (h:aB):Prop:=∃ om og ov,xW bx h0 nb S om og ov h
abbrev bFU (h0:aB) (nb:Nat) (p:aF) (inp:Int) (S:dQ) (st:Nat) (c:Int) (om og ov:Option Nat) (h:aB):Prop:=xW (λS om og ov=>c8 p inp S om og ov st c) h0 nb S om og ov h
abbrev jQ (h0:aB) (nb:Nat) (p:aF) (inp:Int) (S:dQ) (st:Nat) (c:Int) (h:aB):Prop:=rG (λS om og ov=>c8 p inp S om og ov st c) h0 nb S h
theorem aLB (p:aF) (inp:Int) (st:Nat) (c:Int):∀ S om og ov,∃ sz cs,c8 p inp S om og ov st c=.row sz cs/\¬sz=1/\¬sz=2/\¬sz=4:=λS om og ov=>⟨8,_,rfl,by decide,by decide,by decide⟩
theorem xW.kinds {h0 h:aB} {nb:Nat} {bx:dQ->Option Nat->Option Nat->Option Nat->bU} {S:dQ} {om og ov:Option Nat} (H:xW bx h0 nb S om og ov h) (n:Nat) :
  (n=nb->h n=some (bx S om og ov))/\(some n=om->h n=some (.row 4 (rowsOf bG.c S.code)))/\(some n=og->h n=some (.row 2 (rowsOf jA.c S.guards)))/\(some n=ov->h n=some (.row 1 (rowsOf (λn=>[I n]) S.eT))) :=
 ⟨λe=>e▸H.box,λe=>by have:=H.code;rw[←e]at this;exact this.2,λe=>by have:=H.gds;rw[←e]at this;exact this.2,λe=>by have:=H.eT;rw[←e]at this;exact this.2⟩
theorem xW.apart {h0 h:aB} {nb:Nat} {bx:dQ->Option Nat->Option Nat->Option Nat->bU} {S:dQ} {om og ov:Option Nat} (H:xW bx h0 nb S om og ov h) (n:Nat) :
  (n=nb->¬some n=om/\¬some n=og/\¬some n=ov)/\(some n=om->¬some n=og/\¬some n=ov)/\(some n=og->¬some n=ov)/\(h n=none->¬n=nb/\¬some n=om/\¬some n=og/\¬some n=ov):=by
 obtain⟨k1,k2,k3,k4⟩:=H.kinds n
 obtain⟨sz,cs,hB,o1,o2,o4⟩:=H.odd S om og ov
 rw[hB]at k1
 refine⟨λe=>⟨λq=>?_,λq=>?_,λq=>?_⟩,λe=>⟨λq=>?_,λq=>?_⟩,λe q=>?_,λe=>⟨λq=>?_,λq=>?_,λq=>?_,λq=>?_⟩⟩
 ·have:=(k1 e).symm.trans (k2 q);simp at this;exact o4 this.1
 ·have:=(k1 e).symm.trans (k3 q);simp at this;exact o2 this.1
 ·have:=(k1 e).symm.trans (k4 q);simp at this;exact o1 this.1
 ·have:=(k2 e).symm.trans (k3 q);simp at this
 ·have:=(k2 e).symm.trans (k4 q);simp at this
 ·have:=(k3 e).symm.trans (k4 q);simp at this
 ·have:=(k1 q);rw[e]at this;cases this
 ·have:=(k2 q);rw[e]at this;cases this
 ·have:=(k3 q);rw[e]at this;cases this
 ·have:=(k4 q);rw[e]at this;cases this
theorem xW.put {h0 h F:aB} {nb:Nat} {bx:dQ->Option Nat->Option Nat->Option Nat->bU} {S:dQ} {om og ov:Option Nat} (H:xW bx h0 nb S om og ov h) (x:bG) (v:Int) {b b2:Nat} (hb:h b=none) (sN:h b2=none) (hne:¬b2=b)
  (f1:F nb=some (bx (S.put x v) (some b) og (some b2))) (f2:F b=some (.row 4 (rowsOf bG.c (S.code++[x])))) (f3:F b2=some (.row 1 (rowsOf (λn=>[I n]) (S.eT++[v]))))
  (f4:∀ n,¬n=nb->¬n=b->¬n=b2->¬some n=om->¬some n=ov->F n=h n):∃ g:aB,g.le F/\rG bx h0 nb (S.put x v) g:=by
 have a1:=(H.apart nb).1 rfl
 have a2:=(H.apart b).2.2.2 hb
 have a3:=(H.apart b2).2.2.2 sN
 have g1:∀ n,some n=om∨some n=ov->h0 n=none:=λn hn=>H.fresh n (by rcases hn with hn|hn;exact .inr (.inl hn);exact .inr (.inr (.inr hn)))
 have g2:h0 b=none:=(H.upto b a2.1 a2.2.1 a2.2.2.1 a2.2.2.2).symm.trans hb
 have g3:h0 b2=none:=(H.upto b2 a3.1 a3.2.1 a3.2.2.1 a3.2.2.2).symm.trans sN
 have get:∀ n,¬some n=om->¬some n=ov->(λn=>if some n=om∨some n=ov then none else F n) n=F n:=λn h1 h2=>if_neg (by rintro(q|q);exact h1 q;exact h2 q)
 refine⟨λn=>if some n=om∨some n=ov then none else F n,λn=>?_,some b,og,some b2,⟨?_,H.odd,⟨by simp[rowsOf,dQ.put],?_⟩,?_,⟨by simp[rowsOf,dQ.put],?_⟩,λn hn=>?_,λn h1 h2 h3 h4=>?_⟩⟩
 ·by_cases e:some n=om∨some n=ov
  ·exact .inl (if_pos e)
  ·exact .inr (if_neg e)
 ·exact(get nb a1.1 a1.2.2).trans f1
 ·exact(get b a2.2.1 a2.2.2.2).trans f2
 ·have hg:=H.gds
  cases og with
  |none=>exact hg
  |some k =>
   have ak:=(H.apart k)
   have hk:=hg.2
   refine⟨hg.1,(get k (λq=>ak.2.1 q |>.1 rfl) (λq=>ak.2.2.1 rfl q)).trans ?_⟩
   rw[f4 k (λq=>(ak.1 q).2.1 rfl) (λq=>by rw[q,hb]at hk;cases hk) (λq=>by rw[q,sN]at hk;cases hk) (λq=>ak.2.1 q |>.1 rfl) (λq=>ak.2.2.1 rfl q)]
   exact hk
 ·exact(get b2 a3.2.1 a3.2.2.2).trans f3
 ·rcases hn with rfl|hn|hn|hn
  ·exact H.fresh _ (.inl rfl)
  ·obtain rfl:=gO hn;exact g2
  ·exact H.fresh n (.inr (.inr (.inl hn)))
  ·obtain rfl:=gO hn;exact g3
 ·have h2':¬n=b:=λq=>h2 (by rw[q])
  have h4':¬n=b2:=λq=>h4 (by rw[q])
  by_cases e:some n=om∨some n=ov
  ·exact(if_pos e).trans (g1 n e).symm
  ·have e1:¬some n=om:=λq=>e (.inl q)
   have e2:¬some n=ov:=λq=>e (.inr q)
   exact((get n e1 e2).trans (f4 n h1 h2' h4' e1 e2)).trans (H.upto n h1 e1 h3 e2)
@[go_sem] def bFV:List Nat:=[4,15,22]
@[go_sem] def bFW:Marks:=λid=>match id with|1=>([6,9,13,16,20,23],(.op 0 (.op 1 (.op 2 (.op 3 (.op 4 (.op 5 (.op 7 (.op 8 (.op 10 (.op 11 (.op 12 (.op 14 (.op 15 (.op 6 (.op 13 (.op 9 (.op 16 (.op 17 (.op 18 (.op 19 (.op 20 (.op 21 (.op 22 (.op 23 .nil)))))))))))))))))))))))),[(13,9)])|_=>([],.nil,[])
theorem aLC {h0 h:aB} {nb:Nat} {p:aF} {inp:Int} {S:dQ} {st:Nat} {c:Int} (H:jQ h0 nb p inp S st c h) (x:bG) (v:Int) (hl:S.code.length=S.eT.length) (hcap:S.eT.length<=1048576) :
  iD Tryz.prog 100 [.op nb 8 0 0,.agg x.c,I v] h λr h'=>r=I S.eT.length/\jQ h0 nb p inp (S.put x v) st c h':=by
 obtain⟨om,og,ov,H⟩:=H
 have hb:=H.box
 have hc:=H.code
 have hv:=H.eT
 unfold c8 at hb
 rw[bG.aY]
 cases om with
 |none =>
  have hc0:S.code=[]:=oG.1 hc
  cases ov with
  |some v =>
   have hv0:S.eT=[]:=bGU (by rw[←hl,hc0];rfl)
   exact absurd (by rw[hv0];rfl) hv.1
  |none =>
   have hv0:S.eT=[]:=oG.1 hv
   refine jU 35 bFA bFV bFW Tryz.func100 ?_
   simp -dsimp -implicitDefEqProofs only[go_sem,↓reduceIte,Tryz.f100,hb,nE]
   refine⟨by decide,by decide,by decide,by decide,by decide,λm hm=>?_⟩
   obtain⟨rC,jJ,jI,nI⟩:=cW (show ¬m=nb from λe=>by rw[e,hb]at hm;cases hm)
   refine⟨by rw[aD _ _ _ _ nI,hb];rfl,by decide,λw ⟨hwm,hw⟩=>?_⟩
   obtain⟨aV6,wW,wX,a6T⟩:=cW (show ¬w=nb from λe=>by rw[e,hb]at hw;cases hw)
   obtain⟨bFX,aTO,aTP,bFY⟩:=cW (show ¬w=m from hwm)
   try simp -dsimp -implicitDefEqProofs only[go_sem,↓reduceIte,Tryz.f100,hb,jJ,aTP,jI,wX,aTO,wW,aD]
   obtain⟨g,hg,hR⟩:=H.put x v hm hw bFX (F:=aT (aT (aT h m (.row 4 [x.c.map .v])) w (.row 1 [[.v (I v)]])) nb (c8 p inp (S.put x v) (some m) og (some w) st c)) (aI _ _ _)
    (by rw[aD _ _ _ _ rC,aD _ _ _ _ bFY,aI,hc0];rfl) (by rw[aD _ _ _ _ aV6,aI,hv0];rfl) (λn h1 h2 h3 _ _=>by rw[aD _ _ _ _ h1,aD _ _ _ _ h3,aD _ _ _ _ h2])
   refine⟨_,g,cT ?_,by rw[hv0];rfl,hR⟩
   rw[aL]
   unfold c8 at hg
   simp only[dQ.put,hc0,hv0,cN,bG.aY]at hg
   exact hg
 |some m =>
  cases ov with
  |none =>
   have hv0:S.eT=[]:=oG.1 hv
   have hc0:S.code=[]:=bGU (by rw[hl,hv0];rfl)
   exact absurd (by rw[hc0];rfl) hc.1
  |some w =>
   have hm:=hc.2
   have hw:=hv.2
   obtain⟨rC,jJ,jI,nI⟩:=cW (show ¬m=nb from λe=>by rw[e,hb]at hm;cases hm)
   obtain⟨aV6,wW,wX,a6T⟩:=cW (show ¬w=nb from λe=>by rw[e,hb]at hw;cases hw)
   obtain⟨bFX,aTO,aTP,bFY⟩:=cW (show ¬w=m from λe=>by rw[e,hm]at hw;cases hw)
   refine jU 35 bFA bFV bFW Tryz.func100 ?_
   simp -dsimp -implicitDefEqProofs only[go_sem,↓reduceIte,Tryz.f100,hb,cN,hm,hw,jJ,aTP,jI,wX,aTO,wW,aD]
   refine⟨by decide,by decide,by decide,by decide,by decide,by rw[r9];exact bY _,by omega,by omega,λb qP=>?_⟩
   obtain⟨mS,fW,fV,mT⟩:=cW (show ¬b=nb from λe=>by rw[e,hb]at qP;cases qP)
   obtain⟨rZ,lM,lN,rD⟩:=cW (show ¬b=m from λe=>by rw[e,hm]at qP;cases qP)
   obtain⟨bO6,bFZ,bF0,bZE⟩:=cW (show ¬b=w from λe=>by rw[e,hw]at qP;cases qP)
   refine⟨by rw[aD _ _ _ _ mT,aD _ _ _ _ nI,hb];rfl,by decide,?_⟩
   try simp -dsimp -implicitDefEqProofs only[go_sem,↓reduceIte,Tryz.f100,hb,hw,jJ,aTP,lN,jI,wX,fV,aTO,wW,bF0,lM,fW,bFZ,aD]
   refine⟨by rw[r9];exact bY _,by omega,by omega,λb2 ⟨bV0,bV1,sN⟩=>?_⟩
   obtain⟨bBU,bBV,bBW,bSP⟩:=cW (show ¬b2=nb from λe=>by rw[e,hb]at sN;cases sN)
   obtain⟨bV2,bIP,bIQ,bV3⟩:=cW (show ¬b2=m from bV1)
   obtain⟨bV4,bIR,bIS,bV5⟩:=cW (show ¬b2=w from λe=>by rw[e,hw]at sN;cases sN)
   obtain⟨bIT,bIU,bIV,bIW⟩:=cW (show ¬b2=b from bV0)
   simp -dsimp -implicitDefEqProofs only[go_sem,↓reduceIte,Tryz.f100,hb,hw,jJ,aTP,lN,bIQ,jI,wX,fV,bBW,aTO,wW,bF0,bIS,lM,fW,bFZ,bIV,bIP,bBV,bIR,bIU,aD]
   rw[hJ aX2,hJ aX2]
   obtain⟨g,hg,hR⟩:=H.put x v qP sN bIT (F:=aT (aT (aT (aT (aT h m .gone) b (.row 4 (rowsOf bG.c S.code++[x.c.map .v]))) w .gone) b2 (.row 1 (rowsOf (λn=>[I n]) S.eT++[[.v (I v)]]))) nb (c8 p inp (S.put x v) (some b) og (some b2) st c)) (aI _ _ _)
    (by rw[aD _ _ _ _ mS,aD _ _ _ _ bIW,aD _ _ _ _ bO6,aI,v8]) (by rw[aD _ _ _ _ bBU,aI,v8];rfl)
    (λn h1 h2 h3 h4 h5=>by rw[aD _ _ _ _ h1,aD _ _ _ _ h3,aD _ _ _ _ (λq=>h5 (by rw[q])),aD _ _ _ _ h2,aD _ _ _ _ (λq=>h4 (by rw[q]))])
   refine λ_=>⟨_,g,cT ?_,?_,hR⟩
   ·rw[aL]
    unfold c8 at hg
    simp only[dQ.put,cN,bG.aY,nT,nN]at hg
    exact hg
   ·rw[IntWalk.i64_in _ aA]
    congr 1
    omega
theorem xW.set {h0 h:aB} {nb:Nat} {p:aF} {inp:Int} {S:dQ} {st:Nat} {c:Int} {om og ov:Option Nat} (H:bFU h0 nb p inp S st c om og ov h) (st':Nat) (c':Int):bFU h0 nb p inp S st' c' om og ov (aT h nb (c8 p inp S om og ov st' c')):=by
 have a1:=(H.apart nb).1 rfl
 have hr:∀ (o:Option Nat) (sz:Nat) (rows:List (List Cell)),¬some nb=o->aLA h sz rows o->aLA (aT h nb (c8 p inp S om og ov st' c')) sz rows o:=λo sz rows hn ho=>by
  cases o with
  |none=>exact ho
  |some m=>exact⟨ho.1,(aD _ _ _ _ λq=>hn (by rw[q])).trans ho.2⟩
 exact⟨aI _ _ _,aLB _ _ _ _,hr _ _ _ a1.1 H.code,hr _ _ _ a1.2.1 H.gds,hr _ _ _ a1.2.2 H.eT,H.fresh,λn h1 h2 h3 h4=>(aD _ _ _ _ h1).trans (H.upto n h1 h2 h3 h4)⟩
theorem rG.aTQ {h0 h:aB} {nb:Nat} {bx:dQ->Option Nat->Option Nat->Option Nat->bU} {S:dQ} (H:rG bx h0 nb S h) {m:Nat} {o:bU} (hm:h m=none):rG bx (aT h0 m o) nb S (aT h m o):=by
 obtain⟨om,og,ov,H⟩:=H
 have a:=(H.apart m).2.2.2 hm
 have hr:∀ (q:Option Nat) (sz:Nat) (rows:List (List Cell)),¬some m=q->aLA h sz rows q->aLA (aT h m o) sz rows q:=λq sz rows hn ho=>by
  cases q with
  |none=>exact ho
  |some k=>exact⟨ho.1,(aD _ _ _ _ λe=>hn (by rw[e])).trans ho.2⟩
 refine⟨om,og,ov,(aD _ _ _ _ λe=>a.1 e.symm).trans H.box,H.odd,hr _ _ _ a.2.1 H.code,hr _ _ _ a.2.2.1 H.gds,hr _ _ _ a.2.2.2 H.eT,λn hn=>?_,λn h1 h2 h3 h4=>?_⟩
 ·have hnm:¬n=m:=λe=>by
   subst e
   rcases hn with hn|hn|hn|hn
   ·exact a.1 hn
   ·exact a.2.1 hn
   ·exact a.2.2.1 hn
   ·exact a.2.2.2 hn
  exact(aD _ _ _ _ hnm).trans (H.fresh n hn)
 ·by_cases e:n=m
  ·rw[e,aI,aI]
  ·rw[aD _ _ _ _ e,aD _ _ _ _ e];exact H.upto n h1 h2 h3 h4
theorem rG.base {h0 h:aB} {nb:Nat} {bx:dQ->Option Nat->Option Nat->Option Nat->bU} {S:dQ} {m:Nat} {o:bU} (H:rG bx (aT h0 m o) nb S h) (hm:h0 m=none):∃ g,h=aT g m o/\g m=none/\rG bx h0 nb S g:=by
 obtain⟨om,og,ov,H⟩:=H
 have hne:∀ n,(n=nb∨some n=om∨some n=og∨some n=ov)->¬n=m:=λn hn e=>by
  have:=H.fresh n hn
  rw[e,aI]at this;cases this
 have hmo:h m=some o:=(H.upto m (λe=>hne m (.inl e) rfl) (λe=>hne m (.inr (.inl e)) rfl) (λe=>hne m (.inr (.inr (.inl e))) rfl) (λe=>hne m (.inr (.inr (.inr e))) rfl)).trans (aI _ _ _)
 have get:∀ n,¬n=m->(λn=>if n=m then none else h n) n=h n:=λn hn=>if_neg hn
 have hr:∀ (q:Option Nat) (sz:Nat) (rows:List (List Cell)),(∀ n,some n=q->¬n=m)->aLA h sz rows q->aLA (λn=>if n=m then none else h n) sz rows q:=λq sz rows hn ho=>by
  cases q with
  |none=>exact ho
  |some k=>exact⟨ho.1,(get k (hn k rfl)).trans ho.2⟩
 refine⟨λn=>if n=m then none else h n,?_,if_pos rfl,om,og,ov,(get nb (hne nb (.inl rfl))).trans H.box,H.odd,hr _ _ _ (λn e=>hne n (.inr (.inl e))) H.code,hr _ _ _ (λn e=>hne n (.inr (.inr (.inl e)))) H.gds,hr _ _ _ (λn e=>hne n (.inr (.inr (.inr e)))) H.eT,λn hn=>?_,λn h1 h2 h3 h4=>?_⟩
 ·funext n
  by_cases e:n=m
  ·rw[e,aI,hmo]
  ·rw[aD _ _ _ _ e];exact(get n e).symm
 ·have:=H.fresh n hn
  rwa [aD _ _ _ _ (hne n hn)]at this
 ·by_cases e:n=m
  ·subst e;exact(if_pos rfl).trans hm.symm
  ·have:=H.upto n h1 h2 h3 h4
   rw[aD _ _ _ _ e]at this
   exact(get n e).trans this
theorem rG.none {h0 h:aB} {nb:Nat} {bx:dQ->Option Nat->Option Nat->Option Nat->bU} {S:dQ} (H:rG bx h0 nb S h) {m:Nat} (hm:h m=none):h0 m=none:=by
 obtain⟨om,og,ov,H⟩:=H
 have a:=(H.apart m).2.2.2 hm
 exact(H.upto m a.1 a.2.1 a.2.2.1 a.2.2.2).symm.trans hm
theorem xW.guard {h0 h F:aB} {nb:Nat} {bx:dQ->Option Nat->Option Nat->Option Nat->bU} {S:dQ} {om og ov:Option Nat} (H:xW bx h0 nb S om og ov h) (x:jA) {b:Nat} (hb:h b=none)
  (f1:F nb=some (bx (S.guard x) om (some b) ov)) (f2:F b=some (.row 2 (rowsOf jA.c (S.guards++[x]))))
  (f4:∀ n,¬n=nb->¬n=b->¬some n=og->F n=h n):∃ g:aB,g.le F/\xW bx h0 nb (S.guard x) om (some b) ov g:=by
 have a1:=(H.apart nb).1 rfl
 have a2:=(H.apart b).2.2.2 hb
 have g2:h0 b=none:=(H.upto b a2.1 a2.2.1 a2.2.2.1 a2.2.2.2).symm.trans hb
 have get:∀ n,¬some n=og->(λn=>if some n=og then none else F n) n=F n:=λn h1=>if_neg h1
 have hr:∀ (q:Option Nat) (sz:Nat) (rows:List (List Cell)),(∀ n,some n=q->¬n=nb/\¬n=b/\¬some n=og)->aLA h sz rows q->aLA (λn=>if some n=og then none else F n) sz rows q:=λq sz rows hn ho=>by
  cases q with
  |none=>exact ho
  |some k =>
   obtain⟨e1,e2,e3⟩:=hn k rfl
   exact⟨ho.1,((get k e3).trans (f4 k e1 e2 e3)).trans ho.2⟩
 refine⟨λn=>if some n=og then none else F n,λn=>?_,⟨?_,H.odd,hr _ _ _ (λn e=>⟨λq=>((H.apart n).1 q).1 e,λq=>a2.2.1 (by rw[←q];exact e),((H.apart n).2.1 e).1⟩) H.code,⟨by simp[rowsOf,dQ.guard],?_⟩,hr _ _ _ (λn e=>⟨λq=>((H.apart n).1 q).2.2 e,λq=>a2.2.2.2 (by rw[←q];exact e),λq=>(H.apart n).2.2.1 q e⟩) H.eT,λn hn=>?_,λn h1 h2 h3 h4=>?_⟩⟩
 ·by_cases e:some n=og
  ·exact .inl (if_pos e)
  ·exact .inr (if_neg e)
 ·exact(get nb a1.2.1).trans f1
 ·exact(get b a2.2.2.1).trans f2
 ·rcases hn with rfl|hn|hn|hn
  ·exact H.fresh _ (.inl rfl)
  ·exact H.fresh n (.inr (.inl hn))
  ·obtain rfl:=gO hn;exact g2
  ·exact H.fresh n (.inr (.inr (.inr hn)))
 ·have h3':¬n=b:=λq=>h3 (by rw[q])
  by_cases e:some n=og
  ·exact(if_pos e).trans (H.fresh n (.inr (.inr (.inl e)))).symm
  ·exact((get n e).trans (f4 n h1 h3' e)).trans (H.upto n h1 h2 e h4)
theorem aBI (a b:Int) (ha:iE a) (hb:iE b):fR Tryz.prog 230 [I a,I b] (I (a*b%1000003)):=by
 have h1:=num_mul ha hb
 unfold iE at ha hb
 refine gA 11 aCC cU cG Tryz.func230 λh=>?_
 simp -dsimp -implicitDefEqProofs only[go_sem,↓reduceIte,Tryz.f230]
 first|refine aH.mk (iJ a) ?_|refine aG.mk (iJ a) ?_|refine aH.bH (iJ a) ?_|refine aG.mk (bB.dI (iJ a)) ?_
 simp -dsimp -implicitDefEqProofs only[go_sem,↓reduceIte,Tryz.f230]
 first|refine aH.mk (iJ b) ?_|refine aG.mk (iJ b) ?_|refine aH.bH (iJ b) ?_|refine aG.mk (bB.dI (iJ b)) ?_
 simp -dsimp -implicitDefEqProofs only[go_sem,↓reduceIte,Tryz.f230]
 rw[aXF ha.1 aA,aXF hb.1 aA,aVZ h1.1 aA]
@[go_sem] def bBX:List Nat:=[0,1,2,3,6,7,9,10,15,20,25,30]
theorem a6U (x:bG) (a b:Int) (ha:iE a) (hb:iE b) (hk:x.gB=3∨x.gB=4∨x.gB=5∨x.gB=6∨x.gB=7):fR Tryz.prog 223 [.agg x.c,I a,I b] (.gK [I ((opV x.gB a b).getD 0),.bool (opV x.gB a b).isSome]):=by
 rw[bG.aY]
 have hni:iE (gJ b):=num_inv b
 refine gA 35 bBX aVU cG Tryz.func223 λh=>?_
 simp -dsimp -implicitDefEqProofs only[go_sem,↓reduceIte,Tryz.f223]
 refine⟨λq=>?_,λq=>⟨λq4=>?_,λq4=>⟨λq5=>?_,λq5=>⟨λq7=>?_,λq7=>⟨λqb=>?_,λqb=>?_⟩⟩⟩⟩⟩
 ·first|refine aH.mk (aPG a b) ?_|refine aG.mk (aPG a b) ?_|refine aH.bH (aPG a b) ?_|refine aG.mk (bB.dI (aPG a b)) ?_
  simp -dsimp -implicitDefEqProofs only[go_sem,↓reduceIte,Tryz.f223]
  unfold opV;rw[if_pos q];rfl
 ·first|refine aH.mk (minus a b) ?_|refine aG.mk (minus a b) ?_|refine aH.bH (minus a b) ?_|refine aG.mk (bB.dI (minus a b)) ?_
  simp -dsimp -implicitDefEqProofs only[go_sem,↓reduceIte,Tryz.f223]
  unfold opV;rw[if_neg q,if_pos q4];rfl
 ·first|refine aH.mk (aBI a b ha hb) ?_|refine aG.mk (aBI a b ha hb) ?_|refine aH.bH (aBI a b ha hb) ?_|refine aG.mk (bB.dI (aBI a b ha hb)) ?_
  simp -dsimp -implicitDefEqProofs only[go_sem,↓reduceIte,Tryz.f223]
  unfold opV;rw[if_neg q,if_neg q4,if_pos q5];rfl
 ·first|refine aH.mk (minus 0 a) ?_|refine aG.mk (minus 0 a) ?_|refine aH.bH (minus 0 a) ?_|refine aG.mk (bB.dI (minus 0 a)) ?_
  simp -dsimp -implicitDefEqProofs only[go_sem,↓reduceIte,Tryz.f223]
  unfold opV;rw[if_neg q,if_neg q4,if_neg q5,if_pos q7];rfl
 ·unfold opV;rw[if_neg q,if_neg q4,if_neg q5,if_neg q7,if_pos qb];rfl
 ·first|refine aH.mk (p0 b) ?_|refine aG.mk (p0 b) ?_|refine aH.bH (p0 b) ?_|refine aG.mk (bB.dI (p0 b)) ?_
  simp -dsimp -implicitDefEqProofs only[go_sem,↓reduceIte,Tryz.f223]
  first|refine aH.mk (aBI a (gJ b) ha hni) ?_|refine aG.mk (aBI a (gJ b) ha hni) ?_|refine aH.bH (aBI a (gJ b) ha hni) ?_|refine aG.mk (bB.dI (aBI a (gJ b) ha hni)) ?_
  simp -dsimp -implicitDefEqProofs only[go_sem,↓reduceIte,Tryz.f223]
  unfold opV;rw[if_neg q,if_neg q4,if_neg q5,if_neg q7,if_neg qb];rfl
theorem Good.val {inp:Int} {S:dQ} {t:Nat} (h:Good inp S t) (k:Int):iE (S.val k):=h.a6R.get _
theorem xW.row {h0 h:aB} {nb:Nat} {bx:dQ->Option Nat->Option Nat->Option Nat->bU} {S:dQ} {om og ov:Option Nat} (H:xW bx h0 nb S om og ov h) {k:Int} (hk:rR S k):∃ w,ov=some w/\h w=some (.row 1 (rowsOf (λn=>[I n]) S.eT))/\¬w=nb:=by
 have hv:=H.eT
 cases ov with
 |none=>have:=oG.1 hv;have h2:=hk.1;have h3:=hk.2;rw[this]at h3;simp at h3;omega
 |some w=>exact⟨w,rfl,hv.2,λe=>((H.apart w).1 e).2.2 rfl⟩
theorem aDE {S:dQ} {k:Int} (hk:rR S k):(rowsOf (λn=>[I n]) S.eT)[k.toNat]?=some [.v (I (S.val k))]:=by
 have h1:=hk.1
 have h2:=hk.2
 rw[rowsOf,sO,sO,fC aA,dQ.val,e8,fC aA];rfl
@[go_sem] def bBY:List Nat:=[0,1,2,6,7,8,9,16,43]
@[go_sem] def bO7:Marks:=λid=>match id with|4=>([0,4,6,8,12,14,16],(.op 1 (.op 2 (.op 3 (.op 5 (.op 9 (.op 10 (.op 11 (.op 13 (.op 0 (.op 4 (.op 6 (.op 7 (.op 8 (.op 12 (.op 14 (.op 15 (.op 16 (.op 17 (.op 18 (.op 19 (.op 20 (.op 21 (.op 22 .nil))))))))))))))))))))))),[])|_=>([],.nil,[])
theorem rH {h0 h:aB} {nb:Nat} {p:aF} {inp:Int} {S:dQ} {st:Nat} (H:jQ h0 nb p inp S st 0 h) (hg:Good inp S st) (hst:st<=3000) (k:Int) (vs:List Int) (hk:k=3∨k=4∨k=5∨k=6∨k=7) (h1:1<=vs.length) (h2:¬k=7->2<=vs.length) (hv:∀ x∈vs,rR S x) (hl:vs.length<=1048576) :
  iD Tryz.prog 204 [.op nb 8 0 0,I k,ints vs] h λr h'=>∃ j S' c',r=I j/\jQ h0 nb p inp S' st c' h'/\jN (opR k vs S st) (j,S') st c':=by
 obtain⟨om,og,ov,H⟩:=H
 have at_:∀ i,i<vs.length->rR S (vs.getD i 0):=λi hi=>by
  rw[e8,fC hi]
  exact hv _ (lF _)
 have i0:=at_ 0 aA
 have iB:rR S (opB k vs):=by
  unfold opB
  split
  ·have a:=i0.1;have b:=i0.2;exact⟨aFS _,by omega⟩
  ·exact at_ 1 (h2 kX)
 obtain⟨w,rfl,hw,dw⟩:=H.row i0
 have hb:=H.box
 unfold c8 at hb
 rw[cN]at hb
 have g0:vs[Int.toNat 0]?=some (vs.getD 0 0):=bW aA
 have r0:=aDE i0
 have rB:=aDE iB
 obtain⟨aV6,wW,wX,a6T⟩:=cW (show ¬w=nb from dw)
 have hva:=hg.val (vs.getD 0 0)
 have hvb:=hg.val (opB k vs)
 have hop:=a6U ⟨k,vs.getD 0 0,opB k vs,0⟩ _ _ hva hvb hk
 simp only[bG.aY]at hop
 have b0:=iB.1
 have b1:=i0.1
 have lw:=r9 (λn=>[I n]) S.eT
 have i0b:=i0.2
 have iBb:=iB.2
 refine jU 51 bBY cU bO7 Tryz.func204 ?_
 simp -dsimp -implicitDefEqProofs only[go_sem,↓reduceIte,Tryz.f204,hb,g0]
 refine⟨by omega,λn hn=>⟨λh7=>⟨by have:=h2 h7;omega,?_⟩,λh7=>?_⟩⟩
 ·obtain⟨aBF,iL,iM,rF⟩:=cW (show ¬n=nb from λe=>by rw[e,hb]at hn;cases hn)
  obtain⟨bO8,aTR,aTS,bO9⟩:=cW (show ¬n=w from λe=>by rw[e,hw]at hn;cases hn)
  have eB:opB k vs=vs.getD 1 0:=if_neg h7
  have g1:vs[Int.toNat 1]?=some (vs.getD 1 0):=bW (h2 h7)
  rw[eB]at rB hop b0 iBb
  simp -dsimp -implicitDefEqProofs only[go_sem,↓reduceIte,Tryz.f204,g1,hb,hw,r0,rB,iL,aTR,iM,wX,aTS,wW,aD]
  refine⟨b1,i0b,b0,iBb,?_⟩
  cases hv:opV k (S.val (vs.getD 0 0)) (S.val ((vs.getD 1 0)))with
  |none =>
   rw[hv]at hop
   first|refine aH.mk (hop) ?_|refine aG.mk (hop) ?_|refine aH.bH (hop) ?_|refine aG.mk (bB.dI (hop)) ?_
   simp -dsimp -implicitDefEqProofs only[go_sem,↓reduceIte,Tryz.f204]
   refine⟨λ_=>?_,λq=>absurd q eC⟩
   simp -dsimp -implicitDefEqProofs only[go_sem,↓reduceIte,Tryz.f204,hb,iL,aTR,iM,wX,aTS,wW,aD]
   refine⟨_,_,cT (?_:(aT h nb (c8 p inp S om og (some w) st 6)).le _),0,S,6,rfl,⟨_,_,_,H.set st 6⟩,by unfold opR;rw[eB,hv];exact lB _ _ b6⟩
   unfold c8
   rw[cN]
   exact(lG bMU)
  |some v =>
   rw[hv]at hop
   first|refine aH.mk (hop) ?_|refine aG.mk (hop) ?_|refine aH.bH (hop) ?_|refine aG.mk (bB.dI (hop)) ?_
   simp -dsimp -implicitDefEqProofs only[go_sem,↓reduceIte,Tryz.f204]
   refine⟨λq=>absurd q eC,λ_=>?_⟩
   simp only[aL]
   refine aH.fX (aLC (rG.aTQ ⟨om,og,some w,H⟩ hn) ⟨k,vs.getD 0 0,(vs.getD 1 0),0⟩ v hg.len (by have:=hg.cap;omega)) ?_
   rintro r h' ⟨rfl,hR⟩
   obtain⟨g,rfl,hgn,hR⟩:=hR.base (rG.none ⟨om,og,some w,H⟩ hn)
   simp -dsimp -implicitDefEqProofs only[go_sem,↓reduceIte,Tryz.f204]
   exact⟨_,g,cT (aB.bM hgn (aB.le_refl _)),_,_,0,rfl,hR,by unfold opR;rw[eB,hv];exact lR _ _⟩
 ·obtain⟨aBF,iL,iM,rF⟩:=cW (show ¬n=nb from λe=>by rw[e,hb]at hn;cases hn)
  obtain⟨bO8,aTR,aTS,bO9⟩:=cW (show ¬n=w from λe=>by rw[e,hw]at hn;cases hn)
  have eB:opB k vs=0:=if_pos h7
  rw[eB]at rB hop b0 iBb
  simp -dsimp -implicitDefEqProofs only[go_sem,↓reduceIte,Tryz.f204,hb,hw,r0,rB,iL,aTR,iM,wX,aTS,wW,aD]
  refine⟨b1,i0b,iBb,?_⟩
  cases hv:opV k (S.val (vs.getD 0 0)) (S.val (0))with
  |none =>
   rw[hv]at hop
   first|refine aH.mk (hop) ?_|refine aG.mk (hop) ?_|refine aH.bH (hop) ?_|refine aG.mk (bB.dI (hop)) ?_
   simp -dsimp -implicitDefEqProofs only[go_sem,↓reduceIte,Tryz.f204]
   refine⟨λ_=>?_,λq=>absurd q eC⟩
   simp -dsimp -implicitDefEqProofs only[go_sem,↓reduceIte,Tryz.f204,hb,iL,aTR,iM,wX,aTS,wW,aD]
   refine⟨_,_,cT (?_:(aT h nb (c8 p inp S om og (some w) st 6)).le _),0,S,6,rfl,⟨_,_,_,H.set st 6⟩,by unfold opR;rw[eB,hv];exact lB _ _ b6⟩
   unfold c8
   rw[cN]
   exact(lG bMU)
  |some v =>
   rw[hv]at hop
   first|refine aH.mk (hop) ?_|refine aG.mk (hop) ?_|refine aH.bH (hop) ?_|refine aG.mk (bB.dI (hop)) ?_
   simp -dsimp -implicitDefEqProofs only[go_sem,↓reduceIte,Tryz.f204]
   refine⟨λq=>absurd q eC,λ_=>?_⟩
   simp only[aL]
   refine aH.fX (aLC (rG.aTQ ⟨om,og,some w,H⟩ hn) ⟨k,vs.getD 0 0,0,0⟩ v hg.len (by have:=hg.cap;omega)) ?_
   rintro r h' ⟨rfl,hR⟩
   obtain⟨g,rfl,hgn,hR⟩:=hR.base (rG.none ⟨om,og,some w,H⟩ hn)
   simp -dsimp -implicitDefEqProofs only[go_sem,↓reduceIte,Tryz.f204]
   exact⟨_,g,cT (aB.bM hgn (aB.le_refl _)),_,_,0,rfl,hR,by unfold opR;rw[eB,hv];exact lR _ _⟩
theorem jN.ok {α:Type} {c:Int} {X:Out α} {v:α} {t:Nat} {c':Int} (h:jN (pL c X) v t c') (hc:c'=0):c=0/\X=.ok (v,t):=by
 have h0:=h.bOY hc
 subst h0
 rw[cZ]at h
 cases X with
 |ok q=>obtain⟨w,u⟩:=q;obtain⟨_,rfl,rfl⟩:=h;exact⟨rfl,rfl⟩
 |error d=>exact absurd (h.1.symm.trans hc) h.2
def aGI (h0:aB) (nb:Nat) (p:aF) (inp:Int) (st:Nat) (c:Int) (X:Out (Int×dQ)):aE->aB->Prop:=λr h'=>∃ k S' t c',r=I k/\jQ h0 nb p inp S' t c' h'/\st<=t/\t<=3000/\jN (pL c X) (k,S') t c'
def bF1 (h0:aB) (nb:Nat) (p:aF) (inp:Int) (st:Nat) (c:Int) (n:Nat) (X:Out (List Int×dQ)):aE->aB->Prop:=λr h'=>∃ l S' t c',r=ints l/\jQ h0 nb p inp S' t c' h'/\l.length=n/\st<=t/\t<=3000/\jN (pL c X) (l,S') t c'
@[go_sem] def o5:List Nat:=[0,1,2,4,6,7,8,9,10,15,20,32,33,42,49,62,85,100,128,130,131,150,162]
@[go_sem] def xX:List Nat:=[4,80,116]
@[go_sem] def xY:Marks:=λid=>match id with|22=>([6,13,15,16],(.op 0 (.op 1 (.op 2 (.op 3 (.op 4 (.op 5 (.op 7 (.op 8 (.op 9 (.op 10 (.op 11 (.op 12 (.op 6 (.op 13 (.op 14 (.op 15 (.op 16 (.op 17 .nil)))))))))))))))))),[])|28=>([5,16],(.op 0 (.op 1 (.op 2 (.op 3 (.op 4 (.op 6 (.op 7 (.op 11 (.op 12 (.op 15 (.op 5 (.op 8 (.op 9 (.op 10 (.op 13 (.op 14 (.op 16 (.op 17 .nil)))))))))))))))))),[])|33=>([5,12],(.op 0 (.op 1 (.op 2 (.op 3 (.op 4 (.op 6 (.op 7 (.op 11 (.op 5 (.op 8 (.op 9 (.op 10 (.op 12 (.op 13 .nil)))))))))))))),[])|_=>([],.nil,[])
def xZ (p:aF) (inp:Int) (n:Nat):Prop:=∀ (h0 h:aB) (nb st:Nat) (c:Int) (e:aC) (env:List Int) (S:dQ) (funcs:Int),jQ h0 nb p inp S st c h->st<=3000->3001<=n+st->e.ok p funcs env.length->0<=funcs->funcs<=p.aK.length->(c=0->Good inp S st/\∀ x∈env,rR S x)->env.length<=412+st ->
 iD Tryz.prog 173 [.op nb 8 0 0,.agg e.c,ints env] h (aGI h0 nb p inp st c (fH p n st e env S))
theorem o6 {p:aF} (hp:p.ok) {inp:Int} {n st:Nat} {S:dQ} {l:List aC} {env:List Int} {funcs:Int} (hg:Good inp S st) (hst:st<=3000) (henv:∀ x∈env,rR S x) (hok:∀ e∈l,e.ok p funcs env.length) (hf:funcs<=p.aK.length):v5 (aCR inp S st l.length) (sE (λt e S=>fH p n t e env S) l st S) :=
 lS l st S hg hst λx hx u S' a b c=>v7 hp n u x env S' funcs (hok x hx) hf a c.2.2.2 λy hy=>(henv y hy).ext b
theorem tW {p:aF} (hp:p.ok) {inp:Int} {n:Nat} (hv:xZ p inp n) (h0 h:aB) (nb st:Nat) (c:Int) (l:List aC) (env:List Int) (S:dQ) (funcs:Int) (hb:jQ h0 nb p inp S st c h) (hst:st<=3000) (hn:3001<=n+st)
  (hl:l.length<=1048576) (hok:∀ e∈l,e.ok p funcs env.length) (gF:0<=funcs) (hf:funcs<=p.aK.length) (hgo:c=0->Good inp S st/\∀ x∈env,rR S x) (hel:env.length<=412+st) :
  iD Tryz.prog 101 [.op nb 8 0 0,gT 5 aC.c l,ints env] h (bF1 h0 nb p inp st c l.length (sE (λt e S=>fH p n t e env S) l st S)):=by
 refine jU 26 aY5 aY1 cG Tryz.func101 ?_
 simp -dsimp -implicitDefEqProofs only[go_sem,↓reduceIte,Tryz.f101]
 refine⟨aX,λ_=>?_⟩
 refine cM aY5 aY1 cG (λx:Nat×List Int×Nat×Int×dQ×aB×Option Nat=>[(0,.op nb 8 0 0),(2,ints env),(7,fT 1 x.2.1.length x.2.2.2.2.2.2),(11,gT 5 aC.c l),(12,I l.length),(13,I x.1)]) (λx=>cQ x.2.2.2.2.2.1 (.row 1 ((x.2.1.map λn=>[I n]).map (List.map .v))) x.2.2.2.2.2.2) (λx=>x.1<=l.length/\x.2.1.length=x.1/\st<=x.2.2.1/\x.2.2.1<=3000/\jN (pL c (sE (λt e S=>fH p n t e env S) (l.take x.1) st S)) (x.2.1,x.2.2.2.2.1) x.2.2.1 x.2.2.2.1/\jQ h0 nb p inp x.2.2.2.2.1 x.2.2.1 x.2.2.2.1 x.2.2.2.2.2.1/\eU x.2.2.2.2.2.1 x.2.1 x.2.2.2.2.2.2) (λx=>l.length-x.1) (0,[],st,c,S,h,none) ⟨by simp[cR,bZ,fT],by simp only[aM];exact aB.le_refl _,eM _,rfl,bY _,hst,gW _ _ _,hb,rfl⟩ ?_
 rintro⟨k,vs,t,c',S1,g,o⟩ ⟨hk,hvl,ht0,ht,ho,hR,hos⟩
 simp only at hk hvl ht0 ht ho hR hos ⊢
 rcases bT k l.length with hlt|hge
 ·have ek:l[k]?=some l[k]:=fC hlt
  have hnext:∀ (j:Int) (S2:dQ) (t2:Nat) (c2:Int),jN (pL c' (fH p n t l[k] env S1)) (j,S2) t2 c2->jN (pL c (sE (λt e S=>fH p n t e env S) (l.take (k+1)) st S)) (vs++[j],S2) t2 c2:=λj S2 t2 c2 h3=>by
   rw[iW hlt,aNM]
   exact ho.dU (h3.dU (gW _ _ _))
  have bPA:c'=0->Good inp S1 t/\∀ x∈env,rR S1 x:=λhc=>by
   obtain⟨e1,e2⟩:=ho.ok hc
   obtain⟨a1,a2⟩:=hgo e1
   obtain⟨b1,b2,b3,b4⟩:=o6 hp (l:=l.take k) a1 hst a2 (λx hx=>hok x (aU7 hx)) hf _ _ e2
   exact⟨b1,λx hx=>(a2 x hx).ext b2⟩
  cases o with
  |none =>
   rw[aZ]at hos
   subst hos
   simp -dsimp -implicitDefEqProofs only[go_sem,↓reduceIte,Tryz.f101,bD,aM,hlt,ek,aC.aY]
   intro m9 z9
   rw[aL]
   have hvk:=hv (aT h0 m9 (.row 5 [l[k].c.map .v])) (aT g m9 (.row 5 [l[k].c.map .v])) nb t c' l[k] env S1 funcs (hR.aTQ z9) ht aA (hok _ (lF _)) gF hf bPA aA
   rw[aC.aY]at hvk
   refine aH.fX hvk ?_
   rintro r h' ⟨j,S2,t2,c2,rfl,hR2,h1,h2,h3⟩
   obtain⟨g2,rfl,hg2,hR2⟩:=hR2.base (hR.none z9)
   simp -dsimp -implicitDefEqProofs only[go_sem,↓reduceIte,Tryz.f101]
   refine⟨aX,aX,aX,λb ⟨hb9,sN⟩=>?_⟩
   refine⟨(k+1,[j],t2,c2,S2,g2,some b),⟨rfl,by rw[IntWalk.i64_in _ aA];rfl⟩,?_,⟨by omega,by simp only[rU]at hvl;subst hvl;rfl,aDW ht0 h1,h2,hnext j S2 t2 c2 h3,hR2,sN⟩,by simp only;omega⟩
   simp only[aJ]
   exact(lG (by repeat'(first|exact nZ _ _|refine qS (by simp only[fN,↓reduceIte,eq_self,if_true,hb9,hg2,qR,w9]) ?_|refine l6 aAM ?_)))
  |some m =>
   rw[aP]at hos
   simp -dsimp -implicitDefEqProofs only[go_sem,↓reduceIte,Tryz.f101,aQ,aJ,hlt,ek,aC.aY]
   intro m9 ⟨h9m,z9⟩
   rw[aL]
   obtain⟨aV2,aK5,aK6,bH8⟩:=cW (show ¬m9=m from h9m)
   have z9':(aT g m (.row 1 ((vs.map λn=>[I n]).map (List.map .v)))) m9=none:=by rw[aD _ _ _ _ aV2];exact z9
   have hRo:=hR.aTQ (o:=.row 1 ((vs.map λn=>[I n]).map (List.map .v))) hos
   have hvk:=hv _ _ nb t c' l[k] env S1 funcs (hRo.aTQ (o:=.row 5 [l[k].c.map .v]) z9') ht aA (hok _ (lF _)) gF hf bPA aA
   rw[aC.aY]at hvk
   refine aH.fX hvk ?_
   rintro r h' ⟨j,S2,t2,c2,rfl,hR2,h1,h2,h3⟩
   obtain⟨g1,rfl,pO,hR2⟩:=hR2.base (hRo.none z9')
   obtain⟨g2,rfl,hg2,hR2⟩:=hR2.base (hR.none hos)
   rw[aD _ _ _ _ aV2]at pO
   simp -dsimp -implicitDefEqProofs only[go_sem,↓reduceIte,Tryz.f101,aD,aK6,aK5]
   refine⟨aX,aX,aX,bY _,by omega,by omega,λb ⟨hb9,hbm,sN⟩=>?_⟩
   obtain⟨rZ,lM,lN,rD⟩:=cW (show ¬b=m from hbm)
   obtain⟨a6F,aK3,aK4,a6G⟩:=cW (show ¬b=m9 from hb9)
   refine⟨(k+1,vs++[j],t2,c2,S2,g2,some b),⟨by rw[aQ,nT];rfl,by rw[IntWalk.i64_in _ aA];rfl⟩,?_,⟨by omega,by rw[nT,hvl];rfl,aDW ht0 h1,h2,hnext j S2 t2 c2 h3,hR2,sN⟩,by simp only;omega⟩
   simp only[aJ]
   rw[←dS]
   exact(lG (by repeat'(first|exact nZ _ _|refine qS (by simp only[fN,↓reduceIte,eq_self,if_true,lM,aK3,lN,aK6,aK4,aK5]) ?_|refine l6 aAM ?_)))
 ·have hk':k=l.length:=by omega
  subst hk'
  rw[nM]at ho
  cases o with
  |none =>
   rw[aZ]at hos
   subst hos
   simp -dsimp -implicitDefEqProofs only[go_sem,↓reduceIte,Tryz.f101,bD,aM,bV]
   exact⟨ints [],_,Shift.of (Sub.loose _ _ _) (aB.le_refl _),[],S1,t,c',rfl,hR,hvl,ht0,ht,ho⟩
  |some m =>
   rw[aP]at hos
   simp -dsimp -implicitDefEqProofs only[go_sem,↓reduceIte,Tryz.f101,aQ,aJ,bV]
   exact⟨ints vs,g,fU vs hos (aB.le_refl _) rfl,vs,S1,t,c',rfl,hR,hvl,ht0,ht,ho⟩
end Go.Hl

/-
  Contracts of functions and laws of the layer over the walk.
-/
import Derived.Test.YtoomflalicffnaaGreatVvE
import Derived.Test.YtoomflalicffnaaGreatVvD
import Derived.Test.YtoomflalicffnaaGreatVvA
import Derived.Test.YtoomflalicffnaaGreatVvC
namespace Go.Hl
set_option maxRecDepth 100000
open Go.Proofs
set_option linter.unusedVariables false
set_option linter.unusedSimpArgs false
@[go_sem] def a7T:List Nat:=[0,1,2,3,8,9,10,11,12,13,31,41]
@[go_sem] def bP6:List Nat:=[32,37,50]
@[go_sem] def bP7:Marks:=λid=>match id with|4=>([4],(.op 0 (.op 1 (.op 2 (.op 3 (.op 4 (.op 5 (.op 6 .nil))))))),[])|_=>([],.nil,[])
theorem a0M {p:aF} (hp:p.ok) {sz:Nat} (hsz:1<=sz/\sz<=1048576) (f:Int) (hf:0<=f/\f<p.aK.length) (args:List (List Int)) (ha:∀ s∈args,aW sz s) (hl:∀ F,p.aK[f.toNat]?=some F->(args.length:Int)=F.aR) :
  fR Tryz.prog 69 [.ip 1 [p.c] 0 0,I f,bL args,I sz] (.gK [bL (s3 (xP p sz f args)).1,I (s3 (xP p sz f args)).2.2]):=by
 obtain⟨F,ef,hF1,hF2,hF3,hF4⟩:=pZ hp hf
 have hlF:=hl F ef
 rw[aF.aY]
 refine mP 53 a7T bP6 bP7 Tryz.func69 λh=>?_
 simp -dsimp -implicitDefEqProofs only[go_sem,↓reduceIte,Tryz.f69,ef]
 intro nb zb
 refine⟨hf.1,by omega,?_⟩
 refine aH.fX (iD.sub (.cons (.refl _) (.cons (Sub.ip a4T aYD) (.cons (.refl _) .nil))) (aIP (run hp hsz 3001) (aT h nb (eH p sz 0 0)) nb 0 0 F args f (aI _ _ _) aA aA aA (by rw[hlF];exact hF4) hf.1 aA ha aA)) ?_
 rintro r h' ⟨vs,t,c,rfl,rfl,hvl,hvs,a1,a2,a3⟩
 rw[cZ,←hF3]at a3
 have nX:=aTL (show jN (xP p sz f args) vs t c from a3)
 rw[aL]
 have hBn:(aT h nb (eH p sz t c)) nb=some (.row 4 [[.v (.ip 1 [p.c] 0 0),.v (I sz),.v (I t),.v (I c)]]):=aI _ _ _
 have hBl:h.le (aT h nb (eH p sz t c)):=aB.bM zb (aB.le_refl _)
 generalize aT h nb (eH p sz t c)=hB at hBn hBl ⊢
 simp -dsimp -implicitDefEqProofs only[go_sem,↓reduceIte,Tryz.f69,hBn]
 refine⟨λhc=>⟨aX,?_⟩,λhc=>⟨aX,?_⟩⟩
 ·rw[nX,if_neg hc]
  exact Shift.of (Sub.gK (.cons (Sub.loose _ _ _) (.cons (.refl _) .nil))) hBl
 subst hc
 rw[if_pos rfl]at nX
 refine cM a7T bP6 bP7 (λx:Nat×Option Nat=>[(10,.op nb 4 0 0),(11,bL vs),(12,fT 1 (vs.take x.1).length x.2),(13,I x.1)]) (λx=>cQ hB (.row 1 (((vs.take x.1).map λs=>[ints s]).map (List.map .v))) x.2) (λx=>x.1<=vs.length/\eU hB (vs.take x.1) x.2) (λx=>vs.length-x.1) (0,none) ⟨by simp[cR,bZ,fT],by simp only[aM];exact aB.le_refl _,eM _,by simp[eU]⟩ ?_
 rintro⟨k,o⟩ ⟨hk,hos⟩
 simp only at hk hos ⊢
 rcases bT k vs.length with hlt|hge
 ·have ea:vs[k]?=some vs[k]:=fC hlt
  have hy:vs.take (k+1)=vs.take k++[vs[k]]:=iW hlt
  have hlk:(vs.take k).length=k:=by rw[nU];omega
  have hsk:=hvs _ (lF hlt)
  cases o with
  |none =>
   rw[aZ]at hos
   rw[hos]at hy ⊢
   simp -dsimp -implicitDefEqProofs only[go_sem,↓reduceIte,Tryz.f69,bD,aM,hlt,ea]
   intro _
   first|refine aH.mk (wC vs[k] tM) ?_|refine aG.mk (wC vs[k] tM) ?_|refine aH.bH (wC vs[k] tM) ?_|refine aG.mk (bB.dI (wC vs[k] tM)) ?_
   simp -dsimp -implicitDefEqProofs only[go_sem,↓reduceIte,Tryz.f69]
   repeat'(with_reducible first|intro _|refine And.intro ?_ ?_)
   all_goals try(first|omega|decide)
   rename_i b hb
   refine⟨(k+1,some b),?_⟩
   simp only[hy]
   refine⟨⟨rfl,?_⟩,aB.le_refl _,⟨by omega,hb⟩,by omega⟩
   rw[IntWalk.i64_in _ aA];rfl
  |some n =>
   rw[aP]at hos
   simp -dsimp -implicitDefEqProofs only[go_sem,↓reduceIte,Tryz.f69,aQ,aJ,hlt,ea]
   intro _
   first|refine aH.mk (wC vs[k] tM) ?_|refine aG.mk (wC vs[k] tM) ?_|refine aH.bH (wC vs[k] tM) ?_|refine aG.mk (bB.dI (wC vs[k] tM)) ?_
   simp -dsimp -implicitDefEqProofs only[go_sem,↓reduceIte,Tryz.f69]
   repeat'(with_reducible first|intro _|refine And.intro ?_ ?_)
   all_goals try(first|omega|decide|exact bY _)
   rename_i b hb
   refine⟨(k+1,some b),?_⟩
   simp only[hy,aJ,aQ,aP]
   refine⟨⟨by rw[nT];rfl,?_⟩,?_,⟨by omega,hb.2⟩,by omega⟩
   ·rw[IntWalk.i64_in _ aA];rfl
   ·rw[←dS];exact jL hos
 ·have hk':k=vs.length:=by omega
  subst hk'
  rw[nM]at hos ⊢
  cases o with
  |none =>
   rw[aZ]at hos
   simp -dsimp -implicitDefEqProofs only[go_sem,↓reduceIte,Tryz.f69,bD,aM,bV,cY]
   intro _
   rw[nX,hos]
   exact Shift.of (Sub.gK (.cons (Sub.loose _ _ _) (.cons (.refl _) .nil))) hBl
  |some n =>
   rw[aP]at hos
   simp -dsimp -implicitDefEqProofs only[go_sem,↓reduceIte,Tryz.f69,aQ,aJ,bV,cY]
   intro _
   rw[nX]
   refine Shift.trans (mU (vs.map λs=>[ints s]) hos (aB.le_refl _) aRT ?_) (cT hBl)
   simp[aE.fS,mZ,hJ]
theorem aN1 (n:Int):yR Tryz.prog 51 [I n,I 2] (QS (OS (oP I) 1 [n,0])):=by
 refine yT 14 aPM cU cG Tryz.func51 λh=>?_
 simp -dsimp -implicitDefEqProofs only[go_sem,↓reduceIte,Tryz.f51,n0,n2,bVY]
 refine⟨aX,by decide,λm hm=>⟨λ_=>⟨by decide,?_⟩,λq=>absurd b6 q⟩⟩
 rw[aL]
 exact sK (c:=I) (l:=[n,0]) hm
theorem aIX (n i:Nat) (hn:n<=1048576) (hi:i<n):fR Tryz.prog 163 [I n,I i] (ints (eV n i)):=by
 have e1:(List.replicate n [aE.int .i64 0])[i]?=some [aE.int .i64 0]:=by rw[sQ,if_pos hi]
 refine mP 12 bE6 cU cG Tryz.func163 λh=>?_
 simp -dsimp -implicitDefEqProofs only[go_sem,↓reduceIte,Tryz.f163,e1,r8]
 refine⟨aX,bY _,by omega,by omega,λm hm=>⟨by omega,?_⟩⟩
 rw[aL,vS,nL I]
 exact fU (eV n i) hm (aB.le_refl _) (by simp[eV])
theorem fI.tG {h g:aB} {n:Nat} {o:bU} (w:fI h [(n,o)] g):h n=none/\g=aT h n o:=by
 refine⟨w.fresh n (by simp[bC]),?_⟩
 funext q
 rw[fN]
 split
 ·rename_i e;rw[e];exact w.oC (n,o) aAL
 ·rename_i e;exact w.upto q (by simp[bC,e])
@[go_sem] def a0N:List Nat:=[0,1,2,6,7,8,9,14,25]
@[go_sem] def bGC:List Nat:=[10,34]
theorem aFE (args dir:List Int) (hd:dir.length=args.length) (hal:args.length<=1048576):fR Tryz.prog 196 [ints args,ints dir,I 1] (bL (jH args dir)):=by
 have hc:=aGH hd
 refine mP 37 a0N bGC cG Tryz.func196 λh=>?_
 simp -dsimp -implicitDefEqProofs only[go_sem,↓reduceIte,Tryz.f196]
 refine⟨aX,?_⟩
 refine aGA a0N bGC cG (λx:Nat×Option Nat=>[(0,ints args),(1,ints dir),(2,I 1),(7,fT 1 ((jH args dir).take x.1).length x.2),(8,I x.1)]) (λx=>cQ h (.row 1 ((((jH args dir).take x.1).map λs=>[ints s]).map (List.map .v))) x.2) (λx=>x.1<=args.length/\eU h ((jH args dir).take x.1) x.2) (λx=>args.length-x.1) (0,none) ⟨by simp[cR,bZ,fT],by simp only[aM];exact aB.kH (aB.le_refl _),eM _,by simp[eU]⟩ ?_
 rintro⟨k,o⟩ ⟨hk,hos⟩
 simp only at hk hos ⊢
 rcases bT k args.length with hlt|hge
 ·have ea:args[k]?=some args[k]:=fC hlt
  have ed:dir[k]?=some (dir[k]'aA):=fC aA
  have hy:(jH args dir).take (k+1)=(jH args dir).take k++[(jH args dir)[k]'aA]:=iW aA
  have hv:(jH args dir)[k]'aA=[args[k],dir[k]'aA]:=by simp[jH]
  have hlk:((jH args dir).take k).length=k:=by rw[nU];omega
  rw[hv]at hy
  cases o with
  |none =>
   rw[aZ]at hos
   rw[hos]at hy ⊢
   simp -dsimp -implicitDefEqProofs only[go_sem,↓reduceIte,Tryz.f196,bD,aM,hlt,ea,ed,w2]
   intro _
   refine aH.wn0 (aN1 args[k]) ?_
   rintro r l g ⟨y,oy,rfl,rfl⟩ wn
   rcases oy.aA9 with⟨_,q⟩|⟨m,rfl⟩
   ·cases q
   rw[OV.jG]
   rw[OV.eK,gL,fP]at wn
   obtain⟨z_m,rfl⟩:=wn.tG
   simp -dsimp -implicitDefEqProofs only[go_sem,↓reduceIte,Tryz.f196,ea,ed,w2,n0,n1,n2,aL]
   refine⟨λ_=>⟨by omega,by decide,aX,aX,aX,?_⟩,λq=>absurd b6 q⟩
   intro b y7
   obtain⟨rZ,lM,lN,rD⟩:=cW (show ¬b=m from pjx y7)
   have z_b:h b=none:=pjx y7
   refine⟨(k+1,some b),?_⟩
   simp only[hy]
   refine⟨⟨rfl,by rw[IntWalk.i64_in _ aA];rfl⟩,aIQ (m:=m) (b:=b) [] [args[k],dir[k]'aA] (by rw[aD _ _ _ _ rD,aI];rfl) (by rw[aI];rfl) rZ (by simp only[aJ];exact(lG bMV)),⟨by omega,z_b⟩,by omega⟩
  |some n =>
   rw[aP]at hos
   simp -dsimp -implicitDefEqProofs only[go_sem,↓reduceIte,Tryz.f196,aQ,aJ,hlt,ea,ed,w2]
   intro _
   refine aH.wn1 (aN1 args[k]) hos ?_
   rintro r l g ⟨y,oy,rfl,rfl⟩ wn g_n
   rcases oy.aA9 with⟨_,q⟩|⟨m,rfl⟩
   ·cases q
   rw[OV.jG]
   rw[OV.eK,gL,fP]at wn
   obtain⟨z_m,rfl⟩:=wn.tG
   obtain⟨aHI,lJ,lI,aAE⟩:=cW (show ¬n=m from λe=>by rw[e,aI]at g_n;cases g_n)
   simp -dsimp -implicitDefEqProofs only[go_sem,↓reduceIte,Tryz.f196,ea,ed,w2,n0,n1,n2,aL,aD,lJ,lI]
   refine⟨λ_=>⟨by omega,by decide,aX,aX,aX,bY _,by omega,by omega,?_⟩,λq=>absurd b6 q⟩
   intro b y7
   obtain⟨aHJ,m8,nA,aHK⟩:=cW (show ¬b=n from pjx y7)
   obtain⟨rZ,lM,lN,rD⟩:=cW (show ¬b=m from pjx y7)
   have z_b:h b=none:=pjx y7
   refine⟨(k+1,some b),?_⟩
   simp only[hy,aJ,aQ,aP]
   refine⟨⟨by rw[nT];rfl,by rw[IntWalk.i64_in _ aA];rfl⟩,aIQ (m:=m) (b:=b) ((jH args dir).take k) [args[k],dir[k]'aA] (by simp only[fN,lM,m8,lN,lI,nA,lJ,↓reduceIte];rfl) ?_ rZ (lG (by repeat'(first|exact nZ _ _|refine qS (by simp only[fN,↓reduceIte,eq_self,if_true,lM,m8,lN,lI,nA,lJ]) ?_|refine l6 aAM ?_))),⟨by omega,z_b⟩,by omega⟩
   rw[aI,hJ eC]
   rfl
 ·have hk':k=args.length:=by omega
  subst hk'
  rw[hJ aA]at hos ⊢
  cases o with
  |none =>
   rw[aZ]at hos
   simp -dsimp -implicitDefEqProofs only[go_sem,↓reduceIte,Tryz.f196,bD,aM,bV,cY]
   intro _
   rw[hos]
   exact Shift.of (Sub.loose _ _ _) (aB.le_refl _)
  |some n =>
   rw[aP]at hos
   simp -dsimp -implicitDefEqProofs only[go_sem,↓reduceIte,Tryz.f196,aQ,aJ,bV,cY]
   intro _
   exact mI _ hos (aB.le_refl _) rfl
@[go_sem] def bCN:List Nat:=[0,1,2,3,4,10,11]
theorem aWN {p:aF} (hp:p.ok) (f:Int) (hf:0<=f/\f<p.aK.length) (args dir:List Int) (hd:dir.length=args.length) (hal:args.length<=1048576) (na:eI args) (nd:eI dir) (hl:∀ F,p.aK[f.toNat]?=some F->(args.length:Int)=F.aR) :
  fR Tryz.prog 162 [.ip 1 [p.c] 0 0,I f,ints args,ints dir,I 1] (.gK [bL (s3 (xP p 2 f (jH args dir))).1,I (s3 (xP p 2 f (jH args dir))).2.2]):=by
 have nX:=a0M hp (sz:=2) b6 f hf (jH args dir) (aBX na nd) (λF hF=>by rw[aGH hd];exact hl F hF)
 rw[show(((2:Nat):Int))=2 from rfl,aF.aY]at nX
 rw[aF.aY]
 refine gA 23 bCN cU cG Tryz.func162 λh=>?_
 simp -dsimp -implicitDefEqProofs only[go_sem,↓reduceIte,Tryz.f162,w2]
 first|refine aH.mk (aFE args dir hd hal) ?_|refine aG.mk (aFE args dir hd hal) ?_|refine aH.bH (aFE args dir hd hal) ?_|refine aG.mk (bB.dI (aFE args dir hd hal)) ?_
 simp -dsimp -implicitDefEqProofs only[go_sem,↓reduceIte,Tryz.f162]
 rw[w2]
 first|refine aH.mk (nX) ?_|refine aG.mk (nX) ?_|refine aH.bH (nX) ?_|refine aG.mk (bB.dI (nX)) ?_
 simp -dsimp -implicitDefEqProofs only[go_sem,↓reduceIte,Tryz.f162]
@[go_sem] def aDK:List Nat:=[0,1,2,6,7,8,10,11,12,13,14,15,28,42,60,79]
@[go_sem] def aWO:List Nat:=[32,33,45,75,80]
@[go_sem] def aWP:Marks:=λid=>match id with|15=>([5,13,15],(.op 0 (.op 1 (.op 2 (.op 3 (.op 4 (.op 6 (.op 7 (.op 8 (.op 9 (.op 10 (.op 11 (.op 12 (.op 5 (.op 13 (.op 14 (.op 15 .nil)))))))))))))))),[])|_=>([],.nil,[])
theorem aUC {p:aF} (hp:p.ok) (f:Int) (hf:0<=f/\f<p.aK.length) (args:List Int) (hal:args.length<=12) (na:eI args) (hl:∀ F,p.aK[f.toNat]?=some F->(args.length:Int)=F.aR) {vs:List (List Int)} {t:Nat} (hok:xP p 1 f (args.map λn=>[n])=.ok (vs,t)) :
  yR Tryz.prog 88 [.ip 1 [p.c] 0 0,I f,ints args] (QS (OS (oL I) 1 (zA (aBG p f args) (p.outs f).length args.length 0)) (λy=>.gK [y,I 0])):=by
 obtain⟨F,ef,hF1,hF2,hF3,hF4⟩:=pZ hp hf
 have hm:1<=(p.outs f).length/\(p.outs f).length<=12:=by rw[hF3];exact hF1
 have hse:=aZM hp (sz:=1) b6 f hf (args.map λn=>[n]) (λs hs=>by
  obtain⟨n,hn,rfl⟩:=lZ.1 hs
  refine⟨rfl,λx hx=>?_⟩
  rw[iO.1 hx]
  exact na n hn) (λF hF=>by rw[gX];exact hl F hF) vs t hok
 have hvM:=hse.1
 generalize hM:(p.outs f).length=M at *
 have nX:=a0L hp f hf args na hal hl
 rw[hok,show aBM (.ok (vs,t))=(vs.map (·.getD 0 0),(t:Int),0)from rfl,aF.aY]at nX
 rw[aF.aY]
 refine yT 83 aDK aWO aWP Tryz.func88 λh=>?_
 simp -dsimp -implicitDefEqProofs only[go_sem,↓reduceIte,Tryz.f88]
 refine aH.mk nX ?_
 simp -dsimp -implicitDefEqProofs only[go_sem,↓reduceIte,Tryz.f88]
 refine⟨aX,λn0_ hn0=>?_⟩
 refine cM aDK aWO aWP (λx:Nat×Nat=>[(0,.ip 1 [[gT 3 aV.c p.aK]] 0 0),(1,I f),(2,ints args),(8,ints (vs.map λs=>s.getD 0 0)),(10,I 0),(11,.os x.2 1 0 x.1),(12,I x.1)]) (λx=>aT h x.2 (.row 1 (List.replicate x.1 [Cell.v (.sl 1 [] true)]))) (λx=>x.1<=M/\h x.2=none) (λx=>M-x.1) (0,n0_) ⟨by simp[cR,bZ],aB.le_refl _,eM _,hn0⟩ ?_
 rintro⟨k,b⟩ ⟨hk,hb⟩
 simp only at hk hb ⊢
 rcases bT k M with hlt|hge
 ·simp -dsimp -implicitDefEqProofs only[go_sem,↓reduceIte,Tryz.f88,hlt,aFR,hvM]
  intro _
  refine⟨aX,aX,aX,aX,bY _,by omega,by omega,λb2 sN=>⟨(k+1,b2),⟨rfl,by rw[IntWalk.i64_in _ aA];rfl⟩,?_,⟨by omega,sN.2⟩,by simp only;omega⟩⟩
  rw[hJ (by rw[aFR];exact bY _),←a4J]
  exact jL hb
 have hk':k=M:=by omega
 subst hk'
 simp -dsimp -implicitDefEqProofs only[go_sem,↓reduceIte,Tryz.f88,bV,cY,hvM]
 intro _
 have hcell:List.replicate k [Cell.v (.sl 1 [] true)]=OV.cells (List.replicate k [OV.nil 1]):=by simp[OV.cells,OV.val]
 rw[hcell]
 generalize hS:aBG p f args=S at *
 refine cM aDK aWO aWP (λx:Nat×List (List OV)×aB=>[(0,.ip 1 [[gT 3 aV.c p.aK]] 0 0),(1,I f),(2,ints args),(10,I 0),(11,.os b 1 0 k),(13,I x.1)]) (λx=>x.2.2) (λx=>x.1<=args.length/\OR (oL I) (zA S k x.1 0) x.2.1/\fI h (OV.b5 [OV.sl b 1 x.2.1]) x.2.2) (λx=>args.length-x.1) (0,List.replicate k [OV.nil 1],aT h b (.row 1 (OV.cells (List.replicate k [OV.nil 1])))) ⟨by simp[cR,bZ],aB.le_refl _,eM _,by simp only;rw[a2U];exact OR.bOJ ⟨_,rfl,OS.nil⟩ _,?_⟩ ?_
 ·simp only
  rw[OV.eP,OV.iQ,dR,OV.eK]
  rw[aCQ]
  exact fI.one hb
 rintro⟨i,es,g⟩ ⟨hi,hes,hnw⟩
 simp only at hi hes hnw ⊢
 have hgb:g b=some (.row 1 (OV.cells es)):=hnw.aYZ []
 have hel:es.length=k:=by rw[←hes.length,aE2]
 rcases bT i args.length with hlt|hge
 ·have hun:eI (eV args.length i):=λx hx=>by
   rcases s6 hx with hx|rfl
   ·rw[(aGW.1 hx).2];exact gZ
   ·unfold iE;omega
  obtain⟨us,hu1,hu2,hu3⟩:=bBQ hp hf (dir:=eV args.length i) (by simp[eV]) na hun hl hok
  have hdi:=aWN hp f hf args (eV args.length i) (by simp[eV]) aA na hun hl
  have hSi:S i=us.map λs=>s.getD 1 0:=by rw[←hS,aBG,hu1];rfl
  rw[hu1,aF.aY]at hdi
  have hul:us.length=k:=by rw[hu2];exact hM
  simp -dsimp -implicitDefEqProofs only[go_sem,↓reduceIte,Tryz.f88,hlt]
  intro _
  refine⟨aX,λ_=>?_⟩
  first|refine aH.mk (aIX args.length i aA hlt) ?_|refine aG.mk (aIX args.length i aA hlt) ?_|refine aH.bH (aIX args.length i aA hlt) ?_|refine aG.mk (bB.dI (aIX args.length i aA hlt)) ?_
  simp -dsimp -implicitDefEqProofs only[go_sem,↓reduceIte,Tryz.f88]
  refine aH.mk hdi ?_
  simp -dsimp -implicitDefEqProofs only[go_sem,↓reduceIte,Tryz.f88]
  refine cM aDK aWO aWP (λx:Nat×List (List OV)×aB=>[(0,.ip 1 [[gT 3 aV.c p.aK]] 0 0),(1,I f),(2,ints args),(10,I 0),(11,.os b 1 0 k),(13,I i),(14,bL us),(15,I x.1)]) (λx=>x.2.2) (λx=>x.1<=k/\OR (oL I) (zA S k i x.1) x.2.1/\fI h (OV.b5 [OV.sl b 1 x.2.1]) x.2.2) (λx=>k-x.1) (0,es,g) ⟨by simp[cR,bZ],aB.le_refl _,eM _,hes,hnw⟩ ?_
  rintro⟨j,es,g⟩ ⟨hj,hes,hnw⟩
  simp only at hj hes hnw ⊢
  have hgb:g b=some (.row 1 (OV.cells es)):=hnw.aYZ []
  have hel:es.length=k:=by rw[←hes.length,aE2]
  rcases bT j k with iV|aBC
  ·have eu:us[j]?=some us[j]:=fC aA
   have h0:=hu3 _ (lF (by omega:j<us.length))
   have h0l:=h0.1
   have e1:(us[j])[Int.toNat 1]?=some (us[j].getD 1 0):=bW (by rw[h0.1];decide)
   have eS:us[j].getD 1 0=(S i).getD j 0:=by
    rw[hSi];simp[e8,sO,eu]
   rw[eS]at e1
   obtain⟨e,he,y,rfl,hy⟩:=hes.bA0 j _ (a6Q S iV)
   have hcg:=aGB he
   have hyl:((List.range i).map λn=>(S n).getD j 0).length=i:=by simp
   rcases hy.aA9 with⟨rfl,h0⟩|⟨n,rfl⟩
   ·simp -dsimp -implicitDefEqProofs only[go_sem,↓reduceIte,Tryz.f88,iV,eu,e1,hgb,hcg,OV.aYX,cP,hel,hul]
    intro _
    refine⟨by omega,aX,aX,aX,λm hm=>?_⟩
    obtain⟨rD,lN,lM,rZ⟩:=cW (show ¬m=b from λe=>by rw[e,hgb]at hm;cases hm)
    simp -dsimp -implicitDefEqProofs only[go_sem,↓reduceIte,Tryz.f88,aD,lN,lM,hgb,cP,hel,iV,hcg]
    obtain⟨g3,w1,w2⟩:=hnw.bFP (c:=I) (x:=(S i).getD j 0) (F:=aT (aT g m (.row 1 [[.v (I ((S i).getD j 0))]])) b (.row 1 ((OV.cells es).set j [.v (.os m 1 0 1)]))) he hy hm (λq _=>by rw[h0];rfl)
    refine⟨(j+1,_,g3),by rw[IntWalk.i64_in _ aA];rfl,w1,⟨by omega,?_,w2⟩,by simp only;omega⟩
    simp only
    rw[aTM S iV]
    exact hes.set j _ _ ⟨_,rfl,OS.mk (wU _)⟩
   ·obtain⟨hgn,aHK⟩:=hnw.bFO he
    have nA:(n=b)=False:=eq_false aHK
    have m8:(b=n)=False:=eq_false (iK aHK)
    simp -dsimp -implicitDefEqProofs only[go_sem,↓reduceIte,Tryz.f88,iV,eu,e1,hgb,hcg,OV.jG,cP,hel,hgn,hul]
    rw[aXL]
    intro _
    refine⟨by omega,aX,aX,aX,bY _,by omega,by omega,λm hm=>?_⟩
    obtain⟨rD,lN,lM,rZ⟩:=cW (show ¬m=b from λe=>by rw[e,hgb]at hm;cases hm)
    obtain⟨aAE,lI,lJ,aHI⟩:=cW (show ¬m=n from λe=>by rw[e,hgn]at hm;cases hm)
    simp -dsimp -implicitDefEqProofs only[go_sem,↓reduceIte,Tryz.f88,aD,lN,lI,lM,m8,lJ,nA,hgb,cP,hel,iV,hcg]
    have hgr:=dS I ((List.range i).map λn=>(S n).getD j 0) ((S i).getD j 0)
    rw[hyl]at hgr
    rw[hgr]
    obtain⟨g3,w1,w2⟩:=hnw.bFP (c:=I) (x:=(S i).getD j 0) (F:=aT (aT (aT g n .gone) m (.row 1 (((((List.range i).map λn=>(S n).getD j 0)++[(S i).getD j 0]).map λn=>[I n]).map (List.map .v)))) b (.row 1 ((OV.cells es).set j [.v (.os m 1 0 (i+1))]))) he hy hm (λq hq=>by
     rw[hyl]
     have hqn:=hq n _ _ rfl
     simp only[fN,if_neg hqn])
    refine⟨(j+1,_,g3),by rw[IntWalk.i64_in _ aA];rfl,w1,⟨by omega,?_,w2⟩,by simp only;omega⟩
    simp only
    rw[aTM S iV]
    exact hes.set j _ _ ⟨_,rfl,OS.mk (wU _)⟩
  ·have hj':j=k:=by omega
   subst hj'
   simp -dsimp -implicitDefEqProofs only[go_sem,↓reduceIte,Tryz.f88,bV,cY,hul]
   intro _
   exact⟨(i+1,es,g),by rw[IntWalk.i64_in _ aA];rfl,aB.le_refl _,⟨by omega,by simp only;rw[←a2V];exact hes,hnw⟩,by simp only;omega⟩
 ·have hi':i=args.length:=by omega
  subst hi'
  simp -dsimp -implicitDefEqProofs only[go_sem,↓reduceIte,Tryz.f88,bV,cY]
  intro _
  rw[OV.eP,OV.iQ,dR]at hnw
  exact⟨_,g,_,bO _ _,⟨OV.sl b 1 es,OS.mk hes,by rw[OV.wV,hel],rfl⟩,hnw⟩
@[go_sem] def bCO:List Nat:=[0,1,4,7,16]
structure aUD (p:aF) (f:Int) (start L:List Int) (F:dQ) (u:Nat):Prop where
 ok:(⟨start.length,F.code,F.guards,L⟩:rI).ok
 ins:∀ i c,F.code[i]?=some c->bN start.length i c
 one:1<=F.code.length
 cap:F.code.length<=3200
 outs:∀ r∈L,0<=r/\r<F.code.length
 lo:1<=L.length
 ll:L.length=(p.outs f).length
 ev:∀ sz X,1<=sz->St start sz X->xP p sz f X=.ok (L.map λr=>fM sz X F.code r.toNat,u)
 nz:∀ sz X,1<=sz->St start sz X->∀ (i:Nat) (c:bG),F.code[i]?=some c->c.gB=6->¬(fM sz X F.code c.fB.toNat).getD 0 0=0
theorem a7U {p:aF} (hp:p.ok) {f:Int} (hf:0<=f/\f<p.aK.length) {args:List Int} (na:eI args) (h12:args.length<=12) (hl:∀ G,p.aK[f.toNat]?=some G->(args.length:Int)=G.aR) {L:List Int} {F:dQ} {u:Nat} (hX:zB p f args=.ok ((L,F),u)):aUD p f args L F u:=by
 obtain⟨G,eG,hO1,hO2,hO3,hO4⟩:=pZ hp hf
 obtain⟨q1,q2,q3,q4⟩:=(aE5 hp f hf args na hl).1 _ _ hX
 simp only at q1 q2 q3 q4
 have hcl:=q1.len
 have hcap:=q1.cap
 have hgc:=q1.aAG
 have hu:=q4.2.2.2
 have hL1:1<=L.length:=by rw[q3.1,hO3];omega
 have h1:∀ x∈L,0<=x/\x<(F.code.length:Int):=λx hx=>by
  have:=q3.2 x hx
  unfold rR at this
  omega
 have hone:1<=F.code.length:=by
  have:=h1 (L.getD 0 0) (by rw[e8,fC hL1];exact lF _)
  omega
 have hsim:a60 args.length F λ_=>True:=⟨q1.ins,λ_ _ _ _=>⟨λ_=>⟨trivial,trivial⟩,λ_=>trivial⟩,λ_ _=>trivial,λ_ _ _ _=>trivial⟩
 have hb:∀ sz X,1<=sz->St args sz X->_:=λsz X hsz hX'=>aNQ hp hsz hf na hl hX hsim (args:=X) hX'.1.2 hX'.1.1 (λi hi _=>hX'.2 i hi)
 refine⟨⟨by simp only;omega,⟨by simp only;omega,by simp only;omega,hL1,by simp only;rw[q3.1,hO3];omega⟩,λk hk=>?_,λg hg=>?_,λr hr=>by have:=h1 r hr;simp only;omega⟩,q1.ins,hone,by omega,h1,hL1,q3.1,λsz X hsz hX'=>(hb sz X hsz hX').1,λsz X hsz hX' i c ec h6=>?_⟩
 ·have hk':k<F.code.length:=hk
  have hc:=q1.ins k _ (fC hk')
  show aTW F.code[k] k args.length
  unfold bN iE at hc
  unfold aTW iE
  omega
 ·have:=q1.gds g hg
  simp only
  omega
 ·have hc:=q1.ins i c ec
  have hi:=(iY.1 ec).1
  have hd:=(hb sz X hsz hX').2
  unfold bN at hc
  rw[hd.1 c.fB.toNat aA trivial]
  exact hd.2 i c ec h6
theorem a7V {L:List Int} {i:Nat} (hi:i<L.length):L.getD i 0∈L:=by
 rw[e8,fC hi];exact lF _
def aF.par (p:aF) (f:Int):Int:=((p.aK[f.toNat]?).map (·.aR)).getD 0
noncomputable def jT (p:aF) (f:Int) (P:Int->Int->Bool):Int:=if p.ok then if 0<=f/\f<=(p.aK.length:Int)-1 then if P (p.par f) (p.outs f).length=true then 0 else 2 else 2 else 1
theorem aLP {p:aF} {f:Int} (h1:p.ok) (h2:0<=f/\f<=(p.aK.length:Int)-1):∃ F,p.aK[f.toNat]?=some F/\p.par f=F.aR/\p.outs f=F.aU/\∀ P:Int->Int->Bool,jT p f P=if P F.aR F.aU.length=true then 0 else 2:=by
 have ef:p.aK[f.toNat]?=some (p.aK[f.toNat]'aA):=fC aA
 have e1:p.par f=(p.aK[f.toNat]'aA).aR:=by rw[aF.par,ef];rfl
 have e2:p.outs f=(p.aK[f.toNat]'aA).aU:=by rw[aF.outs,ef];rfl
 exact⟨_,ef,e1,e2,λP=>by rw[jT,if_pos h1,if_pos h2,e1,e2]⟩
@[go_sem] def aQF:List Nat:=[0,1,2,3,6,7,30]
@[go_sem] def a7W:Marks:=λid=>match id with|2=>([16,17],(.op 0 (.op 1 (.op 2 (.op 3 (.op 4 (.op 5 (.op 6 (.op 7 (.op 8 (.op 9 (.op 10 (.op 11 (.op 12 (.op 13 (.op 14 (.op 15 (.op 16 (.op 17 (.op 18 (.op 19 .nil)))))))))))))))))))),[])|_=>([],.nil,[])
theorem a7X (p:aF) (f:Int) (hps:p.s<=4194304) {g:Nat} {P:Int->Int->Bool} (hP:∀ a b,fR Tryz.prog g [I a,I b] (.bool (P a b))):fR Tryz.prog 164 [.agg p.c,I f,.fn (.func g) [] []] (I (jT p f P)):=by
 have hif:=aKZ p f hps
 by_cases h1:p.ok
 ·by_cases h2:0<=f/\f<=(p.aK.length:Int)-1
  ·obtain⟨F,ef,e1,e2,e3⟩:=aLP h1 h2
   have hq:=hP F.aR F.aU.length
   rw[if_pos h1,if_pos h2]at hif
   simp only[aF.aY]at hif ⊢
   refine gA 32 aQF aVU a7W Tryz.func164 λh=>?_
   simp -dsimp -implicitDefEqProofs only[go_sem,↓reduceIte,Tryz.f164]
   first|refine aH.mk (hif) ?_|refine aG.mk (hif) ?_|refine aH.bH (hif) ?_|refine aG.mk (bB.dI (hif)) ?_
   simp -dsimp -implicitDefEqProofs only[go_sem,↓reduceIte,Tryz.f164,ef,aV.aY]
   refine⟨by omega,by omega,by omega,by omega,λ_=>aH.mk hq ?_⟩
   simp -dsimp -implicitDefEqProofs only[go_sem,↓reduceIte,Tryz.f164]
   rw[e3]
   exact⟨λq=>by rw[if_neg (by rw[q];decide)],λq=>by rw[if_pos q]⟩
  ·rw[if_pos h1,if_neg h2]at hif
   have e:jT p f P=2:=by rw[jT,if_pos h1,if_neg h2]
   simp only[aF.aY]at hif ⊢
   refine gA 32 aQF aVU a7W Tryz.func164 λh=>?_
   simp -dsimp -implicitDefEqProofs only[go_sem,↓reduceIte,Tryz.f164]
   first|refine aH.mk (hif) ?_|refine aG.mk (hif) ?_|refine aH.bH (hif) ?_|refine aG.mk (bB.dI (hif)) ?_
   simp -dsimp -implicitDefEqProofs only[go_sem,↓reduceIte,Tryz.f164]
   rw[e]
 ·rw[if_neg h1]at hif
  have e:jT p f P=1:=by rw[jT,if_neg h1]
  simp only[aF.aY]at hif ⊢
  refine gA 32 aQF aVU a7W Tryz.func164 λh=>?_
  simp -dsimp -implicitDefEqProofs only[go_sem,↓reduceIte,Tryz.f164]
  first|refine aH.mk (hif) ?_|refine aG.mk (hif) ?_|refine aH.bH (hif) ?_|refine aG.mk (bB.dI (hif)) ?_
  simp -dsimp -implicitDefEqProofs only[go_sem,↓reduceIte,Tryz.f164]
  rw[e]
theorem aIY (n:Int):fR Tryz.prog 94 [I n] (.bool (decide (0<=n/\n<=12))):=by
 refine gA 5 aBA cU cG Tryz.func94 λh=>?_
 simp -dsimp -implicitDefEqProofs only[go_sem,↓reduceIte,Tryz.f94]
 first|refine aH.mk (within n 0 12) ?_|refine aG.mk (within n 0 12) ?_|refine aH.bH (within n 0 12) ?_|refine aG.mk (bB.dI (within n 0 12)) ?_
 simp -dsimp -implicitDefEqProofs only[go_sem,↓reduceIte,Tryz.f94]
theorem aDL {p:aF} {f:Int} {P:Int->Int->Bool} (h:jT p f P=0):p.ok/\(0<=f/\f<p.aK.length)/\∃ F,p.aK[f.toNat]?=some F/\p.par f=F.aR/\p.outs f=F.aU/\P F.aR F.aU.length=true:=by
 by_cases h1:p.ok
 ·by_cases h2:0<=f/\f<=(p.aK.length:Int)-1
  ·obtain⟨F,ef,e1,e2,e3⟩:=aLP h1 h2
   rw[e3]at h
   refine⟨h1,by omega,F,ef,e1,e2,?_⟩
   by_cases e:P F.aR F.aU.length=true
   ·exact e
   ·rw[if_neg e]at h;cases h
  ·rw[jT,if_pos h1,if_neg h2]at h;cases h
 ·rw[jT,if_neg h1]at h;cases h
@[go_sem] def bWJ:List Nat:=[0,1,2,3,4,8,9,11,16,18,19,20,21,32,36]
theorem aH.bGD {P:Program} {f:FuncId} {args args':List aE} {R:OV->Prop} {d:aE} {g:aB} {K:aE->aB->Prop} {t:Tag K} (a:yR P f args' (QS R)) (hd:∀ y,R y->y.pX=d) (hs:∀ y,R y->y.sol=true) (hv:mA g args args') (k:K d g):aH P f args g K t :=
 aH.fX (aSW (r:=d) g (a.bHU hv (QS.gY hs λ_ h=>h)) λr' h' ⟨l,⟨y,hy,e1,e2⟩,n⟩=>by
  subst e1 e2
  exact⟨_,n,λE w v R rx=>hd y hy▸fG.aCN R y n.oC (λp hp=>dH.2 ⟨p.2,hp⟩) v rx⟩) λr h' ⟨e1,e2⟩=>by subst e1 e2;exact k
theorem aH.bP8 {P:Program} {f:FuncId} {args args':List aE} {l:List Int} {g:aB} {K:aE->aB->Prop} {t:Tag K} (a:yR P f args' (QS (OS (oP I) 1 l))) (hv:mA g args args') (k:K (ints l) g):aH P f args g K t :=
 aH.bGD a (λy hy=>OS.pX (c:=λn=>[I n]) (λ_ _ q=>aC6 q) hy) (λy hy=>OS.sol (λ_ _ q=>aO0 (λ_=>rfl) q) hy) hv k
def oI (n:Nat) (s:List Int):List OV:=[OV.sl n 1 (s.map λx=>[.v (I x)])]
theorem a0O (n:Nat) (s:List Int):((oI n s).map λc=>Cell.v c.val)=[.v (.os n 1 0 s.length)]:=by rw[oI,aRL,OV.jG]
theorem bP9 (n:Nat) (s:List Int):oL I s (oI n s):=⟨_,rfl,OS.mk (wU s)⟩
theorem bJJ {g:aB} {n:Nat} (s:List Int) (h:g n=none):fI g (OV.b5 (oI n s)) (aT g n (mH s)):=by
 rw[oI,OV.eP,OV.iQ,dR,OV.eK,gL,fP];exact fI.one h
abbrev LLx:=Option Nat×List (List OV)×aB
def LLG (h:aB) (L:List (List Int)) (x:LLx):Prop:=OR (oL I) L x.2.1/\fI h (OV.bF x.2.1) x.2.2/\aAA x.2.2 x.2.1 x.1
def LLH (x:LLx):aB:=cQ x.2.2 (.row 1 (OV.cells x.2.1)) x.1
theorem LLG.init (h:aB):LLG h [] (none,[],h):=⟨trivial,fI.nil h,rfl⟩
theorem LLG.len {h:aB} {L:List (List Int)} {x:LLx} (H:LLG h L x):x.2.1.length=L.length:=H.1.length.symm
theorem LLG.nil {h g:aB} {L:List (List Int)} {es:List (List OV)} (H:LLG h L (none,es,g)):L=[]/\es=[]/\h=g:=by
 obtain⟨h1,h2,h3⟩:=H
 have e:es=[]:=h3
 subst e
 cases L with
 |cons s L=>exact h1.elim
 |nil=>exact⟨rfl,rfl,funext λq=>(h2.upto q (by simp[OV.bF,bC])).symm⟩
theorem LLG.snoc {h g:aB} {L:List (List Int)} {o:Option Nat} {es:List (List OV)} (H:LLG h L (o,es,g)) {m b:Nat} (s:List Int) (hm:g m=none) (hb:g b=none) (hbm:¬b=m):LLG h (L++[s]) (some b,es++[oI m s],aT g m (mH s)) :=
 ⟨OR.append H.1 ⟨bP9 m s,trivial⟩,H.2.1.snoc (bJJ s hm),by show aT g m (mH s) b=none;rw[aD _ _ _ _ hbm];exact hb⟩
theorem LLH.snoc {es:List (List OV)} {g:aB} {m b:Nat} {s:List Int}:LLH (some b,es++[oI m s],aT g m (mH s))=aT (aT g m (mH s)) b (.row 1 (OV.cells es++[[.v (.os m 1 0 s.length)]])):=by
 rw[LLH,aJ,jM,a0O]
theorem LLG.done {h:aB} {L:List (List Int)} {x:LLx} (H:LLG h L x):∃ y:OV,OS (oL I) 1 L y/\y.val=fT 1 L.length x.1/\fI h y.rows (LLH x):=by
 obtain⟨o,es,g⟩:=x
 refine⟨gov 1 es o,aO3 H.1 H.2.2,?_,aID H.2.1 H.2.2⟩
 cases o with
 |none =>
  have:=H.nil
  rw[aSZ,OV.aYX,bD]
 |some n=>rw[aKR,OV.wV,aQ,H.len]
theorem a0P (x:List Int) (e:List OV) (h:oL I x e):e.map OV.pX=[ints x]:=bIM h
theorem x9 {L:List (List Int)} {y:OV} (h:OS (oL I) 1 L y):y.pX=bL L:=OS.pX (c:=λs=>[ints s]) a0P h
theorem bCP (x:List Int) (e:List OV) (h:oL I x e):OV.tE e=true:=by
 obtain⟨y,rfl,hy⟩:=h
 rw[OV.tE,OS.sol (λ_ _ q=>aO0 (λ_=>rfl) q) hy];rfl
theorem a3B {L:List (List Int)} {y:OV} (h:OS (oL I) 1 L y):y.sol=true:=OS.sol bCP h
theorem aH.bJK {P:Program} {f:FuncId} {args args':List aE} {L:List (List Int)} {g:aB} {K:aE->aB->Prop} {t:Tag K} (a:yR P f args' (QS (OS (oL I) 1 L))) (hv:mA g args args') (k:K (bL L) g):aH P f args g K t :=
 aH.bGD a (λy hy=>x9 hy) (λy hy=>a3B hy) hv k
theorem bJL {P:Program} {f:FuncId} {args:List aE} {L:List (List Int)} (a:yR P f args (QS (OS (oL I) 1 L))):fR P f args (bL L):=QS.dI a λy hy=>x9 hy
theorem bCQ {P:Program} {f:FuncId} {args:List aE} {L:List (List Int)} {c:Int} (a:yR P f args (QS (OS (oL I) 1 L) (λy=>.gK [y,I c]))):fR P f args (.gK [bL L,I c]):=QS.bAY a (λy hy=>x9 hy) (aA7 [] [I c])
theorem bCR {g:aB} {n m b:Nat} {o r X:bU} (hn:g n=none) (hmn:¬m=n):(aT (aT g m r) b X).le (aT (aT (aT (aT g n o) m r) n .gone) b X):=λq=>by
 by_cases e:q=b
 ·rw[e,aI,aI];exact .inr rfl
 rw[aD _ _ _ _ e,aD _ _ _ _ e]
 by_cases e2:q=n
 ·rw[e2,aD _ _ _ _ (iK hmn)];exact .inl hn
 rw[aD _ _ _ _ e2]
 by_cases e3:q=m
 ·rw[e3,aI,aI];exact .inr rfl
 ·rw[aD _ _ _ _ e3,aD _ _ _ _ e3,aD _ _ _ _ e2];exact .inr rfl
theorem LLG.fin {h g F:aB} {L:List (List Int)} {o:Option Nat} {es:List (List OV)} (H:LLG h L (o,es,g)) {m b sz:Nat} {s:List Int} (hs:s.length=sz) (hm:g m=none) (hb:g b=none) (hbm:¬b=m) (hF:(aT (aT g m (mH s)) b (.row 1 (OV.cells es++[[.v (.os m 1 0 sz)]]))).le F) :
  ∃ x:LLx,x.1=some b/\LLG h (L++[s]) x/\(LLH x).le F:=by
 subst hs
 exact⟨_,rfl,H.snoc s hm hb hbm,by rw[LLH.snoc];exact hF⟩
theorem aQG {g F:aB} {n m b:Nat} {r X:bU} (hn:g n=none) (hmn:¬m=n) (hbn:¬b=n) (hF:∀ q,¬q=n->F q=aT (aT g m r) b X q):(aT (aT g m r) b X).le F:=λq=>by
 by_cases e:q=n
 ·rw[e,aD _ _ _ _ (iK hbn),aD _ _ _ _ (iK hmn)];exact .inl hn
 ·exact .inr (hF q e).symm
@[go_sem] def a7Y:List Nat:=[0,1,4,5,7,8,10,11,12,13]
@[go_sem] def bQA:List Nat:=[9,24]
theorem aN2 (l:List Int) {sz:Nat} (hl:l.length<=1048576) (hsz:1<=sz/\sz<=1048576):yR Tryz.prog 59 [ints l,I ((sz:Int)-1)] (QS (OS (oL I) 1 (sI l sz))):=by
 have hel:(sI l sz).length=l.length:=by simp[sI]
 have e1:IntKind.i64.wrap ((sz:Int)-1+1)=(sz:Int):=by rw[IntWalk.i64_in _ aA];omega
 have e2:=y5 (x:=[aE.int .i64 0]) hsz.1
 refine yT 28 a7Y bQA cG Tryz.func59 λh=>?_
 simp -dsimp -implicitDefEqProofs only[go_sem,↓reduceIte,Tryz.f59]
 refine⟨aX,λ_=>?_⟩
 refine cM a7Y bQA cG (λx:Nat×LLx=>[(1,I ((sz:Int)-1)),(5,fT 1 x.1 x.2.1),(10,ints l),(11,I l.length),(12,I x.1)]) (λx=>LLH x.2) (λx=>x.1<=l.length/\LLG h ((sI l sz).take x.1) x.2) (λx=>l.length-x.1) (0,none,[],h) ⟨by simp[cR,bZ,fT],aB.le_refl _,eM _,LLG.init _⟩ ?_
 rintro⟨k,op,es,g⟩ ⟨hk,H⟩
 simp only at hk H ⊢
 rcases bT k l.length with hlt|hge
 ·have ea:l[k]?=some l[k]:=fC hlt
  have hy:(sI l sz).take (k+1)=(sI l sz).take k++[bX l[k] sz]:=by
   rw[iW aA];simp[sI]
  have hlk:((sI l sz).take k).length=k:=by rw[nU];omega
  have zI:=H.len
  simp only[hlk]at zI
  cases op with
  |none =>
   obtain⟨h1,rfl,rfl⟩:=H.nil
   simp -dsimp -implicitDefEqProofs only[go_sem,↓reduceIte,Tryz.f59,hlt,ea,e1,e2,bD,LLH,aM,r8]
   refine⟨aX,bY _,by omega,by omega,λm zm=>⟨by omega,?_⟩⟩
   rw[aL,show Int.toNat 0=0 from rfl,xR]
   obtain rfl:k=0:=by rw[←hlk,h1];rfl
   refine⟨aX,aX,aX,λb ⟨b1,_,b2⟩=>?_⟩
   obtain⟨x',e',H',L'⟩:=H.fin (m:=m) (b:=b) (s:=bX l[0] sz) (gE _ _) zm b2 b1 (aB.le_refl _)
   refine⟨(1,x'),⟨by simp only[e'];rfl,IntWalk.i64_in _ aA⟩,L',⟨hlt,by simp only;rw[hy];exact H'⟩,by simp only;omega⟩
  |some n =>
   simp -dsimp -implicitDefEqProofs only[go_sem,↓reduceIte,Tryz.f59,hlt,ea,e1,e2,aQ,LLH,aJ,r8,cP,zI]
   refine⟨aX,bY _,by omega,by omega,λm ⟨m1,zm⟩=>⟨by omega,aX,aX,aX,?_⟩⟩
   obtain⟨aAE,lI,lJ,aHI⟩:=cW (show ¬m=n from m1)
   rw[aL,show Int.toNat 0=0 from rfl,xR]
   simp -dsimp -implicitDefEqProofs only[go_sem,↓reduceIte,Tryz.f59,lI,lJ,aD,cP,zI]
   refine⟨bY _,by omega,by omega,λb ⟨b1,_,b2⟩=>?_⟩
   rw[show List.take k (OV.cells es)=OV.cells es from zI▸eQ es]
   obtain⟨x',e',H',L'⟩:=H.fin (m:=m) (b:=b) (s:=bX l[k] sz) (gE _ _) zm b2 b1 (bCR H.2.2 aAE)
   refine⟨(k+1,x'),⟨by simp only[e'];rfl,IntWalk.i64_in _ aA⟩,L',⟨hlt,by simp only;rw[hy];exact H'⟩,by simp only;omega⟩
 ·have hk':k=l.length:=by omega
  subst hk'
  simp -dsimp -implicitDefEqProofs only[go_sem,↓reduceIte,Tryz.f59,bV,cY]
  rw[hJ aA]at H
  obtain⟨y,hy,hv,hw⟩:=H.done
  rw[hel]at hv
  exact⟨_,_,_,bO _ _,⟨y,hy,hv.symm,rfl⟩,hw⟩
@[go_sem] def b1Q:Marks:=λid=>match id with|5=>([12],(.op 0 (.op 1 (.op 2 (.op 3 (.op 4 (.op 5 (.op 6 (.op 7 (.op 8 (.op 9 (.op 10 (.op 11 (.op 12 .nil))))))))))))),[])|_=>([],.nil,[])
@[go_sem] def bCS:List Nat:=[0,2,5]
theorem a0Q {l:List (List Int)} {sz n:Nat} (h:c7 sz n l) (hn:1<=n):fR Tryz.prog 114 [bL l] (I ((sz:Int)-1)):=by
 have h0:=h.get (i:=0) aA
 have h1:=h.1
 have e0:l[Int.toNat 0]?=some (l.getD 0 []):=h0.1
 have l0:=h0.2.1
 refine gA 11 bCS cU cG Tryz.func114 λh=>?_
 simp -dsimp -implicitDefEqProofs only[go_sem,↓reduceIte,Tryz.f114,e0,l0]
 exact λ_=>⟨λq=>by omega,λ_=>⟨by omega,λ_=>IntWalk.i64_in _ aA⟩⟩
@[go_sem] def bS8:List Nat:=[0,1,2,3,6,7,8,10,11,12,13,14,26,29,30,31,32]
@[go_sem] def bZU:List Nat:=[3,28,48]
@[go_sem] def bZV:Marks:=λid=>match id with|1=>([],(.op 0 (.op 1 (.op 2 (.op 3 (.op 4 (.op 5 (.op 6 (.op 7 (.op 8 (.op 9 (.op 10 (.op 11 (.op 12 .nil))))))))))))),[])|_=>([],.nil,[])
@[go_sem] def bWK:List Nat:=[0,1,2,3,4,8,9,10,11,12,17,18,19,28]
abbrev zJ (l:List (List (List Int))):aE:=gT 1 (λs=>[bL s]) l
@[go_sem] def a0R:List Nat:=[0,1,4,5,7,9,10,11,12]
@[go_sem] def bGE:List Nat:=[8,20]
theorem a7Z (rg:List (List Int)) (L:List Int) (hr:∀ r∈L,0<=r/\r<rg.length) (hl:L.length<=1048576):fR Tryz.prog 140 [bL rg,ints L] (bL (L.map λr=>rg.getD r.toNat [])):=by
 refine mP 24 a0R bGE cG Tryz.func140 λh=>?_
 simp -dsimp -implicitDefEqProofs only[go_sem,↓reduceIte,Tryz.f140]
 refine⟨aX,λ_=>?_⟩
 refine cM a0R bGE cG (λx:Nat×Option Nat=>[(0,bL rg),(5,fT 1 ((L.map λr=>rg.getD r.toNat []).take x.1).length x.2),(9,ints L),(10,I L.length),(11,I x.1)]) (λx=>cQ h (.row 1 ((((L.map λr=>rg.getD r.toNat []).take x.1).map λs=>[ints s]).map (List.map .v))) x.2) (λx=>x.1<=L.length/\eU h ((L.map λr=>rg.getD r.toNat []).take x.1) x.2) (λx=>L.length-x.1) (0,none) ⟨by simp[cR,bZ,fT],by simp only[aM];exact aB.le_refl _,eM _,by simp[eU]⟩ ?_
 rintro⟨k,o⟩ ⟨hk,hos⟩
 simp only at hk hos ⊢
 rcases bT k L.length with hlt|hge
 ·have ea:L[k]?=some L[k]:=fC hlt
  have hr0:=hr _ (lF hlt)
  have eg:rg[L[k].toNat]?=some (rg.getD L[k].toNat []):=jZ aA
  have hy:(L.map λr=>rg.getD r.toNat []).take (k+1)=(L.map λr=>rg.getD r.toNat []).take k++[rg.getD L[k].toNat []]:=by
   rw[iW (by rw[gX];exact hlt),tJ]
  have hlk:((L.map λr=>rg.getD r.toNat []).take k).length=k:=by rw[nU,gX];omega
  generalize rg.getD L[k].toNat []=s at *
  cases o with
  |none =>
   rw[aZ]at hos
   rw[hos]at hy ⊢
   simp -dsimp -implicitDefEqProofs only[go_sem,↓reduceIte,Tryz.f140,bD,aM,hlt,ea,eg]
   refine⟨hr0.1,hr0.2,?_⟩
   repeat'(with_reducible first|intro _|refine And.intro ?_ ?_)
   all_goals try(first|omega|decide)
   rename_i b hb
   refine⟨(k+1,some b),?_⟩
   simp only[hy]
   refine⟨⟨rfl,?_⟩,aB.le_refl _,⟨by omega,hb⟩,by omega⟩
   rw[IntWalk.i64_in _ aA];rfl
  |some n =>
   rw[aP]at hos
   simp -dsimp -implicitDefEqProofs only[go_sem,↓reduceIte,Tryz.f140,aQ,aJ,hlt,ea,eg]
   refine⟨hr0.1,hr0.2,?_⟩
   repeat'(with_reducible first|intro _|refine And.intro ?_ ?_)
   all_goals try(first|omega|decide|exact bY _)
   rename_i b hb
   refine⟨(k+1,some b),?_⟩
   simp only[hy,aJ,aQ,aP]
   refine⟨⟨by rw[nT];rfl,?_⟩,?_,⟨by omega,hb.2⟩,by omega⟩
   ·rw[IntWalk.i64_in _ aA];rfl
   ·rw[←dS];exact jL hos
 ·have hk':k=L.length:=by omega
  subst hk'
  rw[hJ aXW]at hos ⊢
  cases o with
  |none =>
   rw[aZ]at hos
   simp -dsimp -implicitDefEqProofs only[go_sem,↓reduceIte,Tryz.f140,bD,aM,bV,cY]
   rw[hos]
   exact Shift.of (Sub.loose _ _ _) (aB.le_refl _)
  |some n =>
   rw[aP]at hos
   simp -dsimp -implicitDefEqProofs only[go_sem,↓reduceIte,Tryz.f140,aQ,aJ,bV,cY]
   exact mI _ hos (aB.le_refl _) (gX _).symm
def aH1 (code:List bG) (L:List Int) (rg:List (List Int)) (sz inp o:Nat):List (List Int):=byK code (nW code rg (rV L (eV L.length o) (List.replicate code.length (x8 sz)) L.length) code.length 0) sz inp code.length
def yA (code:List bG) (L:List Int) (rg:List (List Int)) (sz inp:Nat):List (List (List Int)):=(List.range L.length).map λo=>aH1 code L rg sz inp o
@[go_sem] def aWQ:List Nat:=[0,1,2,3,6,7,8,9,10,11,12,13,23,34,39,40,41]
@[go_sem] def bJM:List Nat:=[3,36,51,55]
@[go_sem] def bJN:Marks:=λid=>match id with|1=>([8,9],(.op 0 (.op 1 (.op 2 (.op 3 (.op 4 (.op 5 (.op 6 (.op 7 (.op 8 (.op 9 (.op 10 .nil))))))))))),[])|4=>([0],(.op 1 (.op 2 (.op 3 (.op 0 (.op 4 (.op 5 (.op 6 (.op 7 (.op 8 (.op 9 .nil)))))))))),[])|11=>([1,2,5,13],(.op 0 (.op 3 (.op 4 (.op 7 (.op 8 (.op 1 (.op 2 (.op 5 (.op 6 (.op 9 (.op 10 (.op 11 (.op 12 (.op 13 (.op 14 .nil))))))))))))))),[])|_=>([],.nil,[])
theorem a70 {p:aF} (hp:p.ok) (hps:p.s<=4194304) {sz:Nat} (hsz:1<=sz/\sz<=1048576) (f:Int) (hf:0<=f/\f<p.aK.length) {start L:List Int} {F:dQ} {u:Nat} (ns:eI start) (hs:1<=start.length/\start.length<=12) (hl:∀ F,p.aK[f.toNat]?=some F->(start.length:Int)=F.aR) (hr:zB p f start=.ok ((L,F),u)) (T:aUD p f start L F u) {X:List (List Int)} (hX:St start sz X) :
  fR Tryz.prog 58 [.agg p.c,I f,bL X] (.gK [bL (L.map λr=>fM sz X F.code r.toNat),zJ (yA F.code L (l4 sz X F.code F.code.length) sz start.length),I 0]):=by
 have hfi:=aPQ X (by rw[hX.1.1];omega) (λs hs'=>by rw[(hX.1.2 s hs').1];exact hsz.1)
 have hfe:X.map (·.getD 0 0)=start:=by
  apply tI
  ·rw[gX,hX.1.1]
  ·intro i a b
   have:=hX.2 i b
   rw[gX]at a
   have h1:X[i]=X.getD i []:=by rw[e8,fC a];rfl
   have h2:start[i]=start.getD i 0:=by rw[e8,fC b];rfl
   rw[tJ,h1,h2];exact this
 rw[hfe]at hfi
 have hrc:=a6Z hp hps f hf start ns aA hl
 rw[show rJ p f start=(⟨start.length,F.code,F.guards,L⟩,0)by rw[rJ,hr]]at hrc
 have ho:=a0Q hX.1 hs.1
 have hrg:=a24 ⟨start.length,F.code,F.guards,L⟩ hsz T.ins T.cap X hX.1.2 (by rw[hX.1.1]) (T.nz sz X hsz.1 hX)
 have hsr:c7 sz F.code.length (l4 sz X F.code F.code.length):=⟨oH _ _ _ _,λs hs'=>by
  obtain⟨i,hi,rfl⟩:=aCE.1 hs'
  rw[oH]at hi
  have h:=l5 (sz:=sz) T.ins hX.1.2 (by rw[hX.1.1]) i hi
  rwa [fM,e8,fC (by rw[oH];exact hi)]at h⟩
 have bQB:L.length<=100:=by
  have:=T.ok.lens
  simp only at this
  omega
 simp only[aF.aY,rI.aY]at hrc hrg ⊢
 refine mP 63 aWQ bJM bJN Tryz.func58 λh=>?_
 simp -dsimp -implicitDefEqProofs only[go_sem,↓reduceIte,Tryz.f58]
 first|refine aH.mk (hfi) ?_|refine aG.mk (hfi) ?_|refine aH.bH (hfi) ?_|refine aG.mk (bB.dI (hfi)) ?_
 simp -dsimp -implicitDefEqProofs only[go_sem,↓reduceIte,Tryz.f58]
 first|refine aH.mk (hrc) ?_|refine aG.mk (hrc) ?_|refine aH.bH (hrc) ?_|refine aG.mk (bB.dI (hrc)) ?_
 simp -dsimp -implicitDefEqProofs only[go_sem,↓reduceIte,Tryz.f58]
 refine λn zn=>?_
 try simp -dsimp -implicitDefEqProofs only[go_sem,↓reduceIte,Tryz.f58,aL]
 first|refine aH.mk (ho) ?_|refine aG.mk (ho) ?_|refine aH.bH (ho) ?_|refine aG.mk (bB.dI (ho)) ?_
 simp -dsimp -implicitDefEqProofs only[go_sem,↓reduceIte,Tryz.f58]
 first|refine aH.mk (hrg) ?_|refine aG.mk (hrg) ?_|refine aH.bH (hrg) ?_|refine aG.mk (bB.dI (hrg)) ?_
 simp -dsimp -implicitDefEqProofs only[go_sem,↓reduceIte,Tryz.f58]
 refine⟨aX,λ_=>?_⟩
 rw[aL]
 generalize hgB:aT h n (.row 4 [[.v (I start.length),.v (gT 4 bG.c F.code),.v (gT 2 jA.c F.guards),.v (ints L)]])=hB
 have hBn:hB n=some (.row 4 [[.v (I start.length),.v (gT 4 bG.c F.code),.v (gT 2 jA.c F.guards),.v (ints L)]]):=by rw[←hgB,aI]
 have hBl:h.le hB:=by rw[←hgB];exact aB.bM zn (aB.le_refl _)
 generalize hgr:l4 sz X F.code F.code.length=rg at *
 have hsl:(yA F.code L rg sz start.length).length=L.length:=by simp[yA]
 have hpk:=a7Z rg L (λr hr'=>by have:=T.outs r hr';rw[hsr.1];exact this) aA
 have hpe:(L.map λr=>rg.getD r.toNat [])=L.map λr=>fM sz X F.code r.toNat:=aCA λr _=>by rw[fM,hgr]
 rw[hpe]at hpk
 refine cM aWQ bJM bJN (λx:Nat×Option Nat=>[(2,bL X),(9,.op n 4 0 0),(11,bL rg),(12,fT 1 ((yA F.code L rg sz start.length).take x.1).length x.2),(39,I L.length),(40,I x.1)]) (λx=>cQ hB (.row 1 ((((yA F.code L rg sz start.length).take x.1).map λs=>[bL s]).map (List.map .v))) x.2) (λx=>x.1<=L.length/\eU hB ((yA F.code L rg sz start.length).take x.1) x.2) (λx=>L.length-x.1) (0,none) ⟨by simp[cR,bZ,fT],by simp only[aM];exact aB.le_refl _,eM _,by simp[eU]⟩ ?_
 rintro⟨k,o⟩ ⟨hk,hos⟩
 simp only at hk hos ⊢
 rcases bT k L.length with hlt|hge
 ·have hy:(yA F.code L rg sz start.length).take (k+1)=(yA F.code L rg sz start.length).take k++[aH1 F.code L rg sz start.length k]:=by
   rw[iW aA];simp[yA]
  have hlk:((yA F.code L rg sz start.length).take k).length=k:=by rw[nU];omega
  have hu:=bO2 L.length k aA hlt
  have had:=a7B ⟨start.length,F.code,F.guards,L⟩ hsz T.ins ⟨T.one,T.cap⟩ rg hsr (eV L.length k) (by simp[eV]) (oJ _ _) bQB T.outs
  have hA0:=vB (sz:=sz) hsz.1 T.outs (oJ L.length k) L.length (bY _)
  have hA:=rK hsz T.ins hsr hA0 F.code.length 0 rfl
  have hby:=a7F ⟨start.length,F.code,F.guards,L⟩ hsz rfl hs.2 T.ins ⟨T.one,T.cap⟩ _ hA
  have heB:aH1 F.code L rg sz start.length k=byK F.code (nW F.code rg (rV L (eV L.length k) (List.replicate F.code.length (x8 sz)) L.length) F.code.length 0) sz start.length F.code.length:=rfl
  simp only[rI.aY]at had hby
  rw[←heB]at hby
  generalize aH1 F.code L rg sz start.length k=s at *
  cases o with
  |none =>
   rw[aZ]at hos
   rw[hos]at hy ⊢
   simp -dsimp -implicitDefEqProofs only[go_sem,↓reduceIte,Tryz.f58,bD,aM,hlt,hBn]
   refine⟨by decide,by decide,?_⟩
   first|refine aH.mk (hu) ?_|refine aG.mk (hu) ?_|refine aH.bH (hu) ?_|refine aG.mk (bB.dI (hu)) ?_
   simp -dsimp -implicitDefEqProofs only[go_sem,↓reduceIte,Tryz.f58]
   first|refine aH.mk (had) ?_|refine aG.mk (had) ?_|refine aH.bH (had) ?_|refine aG.mk (bB.dI (had)) ?_
   simp -dsimp -implicitDefEqProofs only[go_sem,↓reduceIte,Tryz.f58]
   first|refine aH.mk (hby) ?_|refine aG.mk (hby) ?_|refine aH.bH (hby) ?_|refine aG.mk (bB.dI (hby)) ?_
   simp -dsimp -implicitDefEqProofs only[go_sem,↓reduceIte,Tryz.f58]
   repeat'(with_reducible first|intro _|refine And.intro ?_ ?_)
   all_goals try(first|omega|decide)
   rename_i b hb
   refine⟨(k+1,some b),?_⟩
   simp only[hy]
   refine⟨⟨rfl,?_⟩,aB.le_refl _,⟨by omega,hb⟩,by omega⟩
   rw[IntWalk.i64_in _ aA];rfl
  |some m =>
   rw[aP]at hos
   obtain⟨aAE,lI,lJ,aHI⟩:=cW (show ¬m=n from λe=>by rw[e,hBn]at hos;cases hos)
   simp -dsimp -implicitDefEqProofs only[go_sem,↓reduceIte,Tryz.f58,aQ,aJ,hlt,lI,lJ,aD,hBn]
   refine⟨by decide,by decide,?_⟩
   first|refine aH.mk (hu) ?_|refine aG.mk (hu) ?_|refine aH.bH (hu) ?_|refine aG.mk (bB.dI (hu)) ?_
   simp -dsimp -implicitDefEqProofs only[go_sem,↓reduceIte,Tryz.f58]
   first|refine aH.mk (had) ?_|refine aG.mk (had) ?_|refine aH.bH (had) ?_|refine aG.mk (bB.dI (had)) ?_
   simp -dsimp -implicitDefEqProofs only[go_sem,↓reduceIte,Tryz.f58]
   first|refine aH.mk (hby) ?_|refine aG.mk (hby) ?_|refine aH.bH (hby) ?_|refine aG.mk (bB.dI (hby)) ?_
   simp -dsimp -implicitDefEqProofs only[go_sem,↓reduceIte,Tryz.f58]
   repeat'(with_reducible first|intro _|refine And.intro ?_ ?_)
   all_goals try(first|omega|decide|exact bY _)
   rename_i b hb
   refine⟨(k+1,some b),?_⟩
   simp only[hy,aJ,aQ,aP]
   refine⟨⟨by rw[nT];rfl,?_⟩,?_,⟨by omega,hb.2⟩,by omega⟩
   ·rw[IntWalk.i64_in _ aA];rfl
   ·rw[←dS];exact jL hos
 ·have hk':k=L.length:=by omega
  subst hk'
  rw[hJ aA]at hos ⊢
  cases o with
  |none =>
   rw[aZ]at hos
   simp -dsimp -implicitDefEqProofs only[go_sem,↓reduceIte,Tryz.f58,bD,aM,bV,cY,hBn]
   first|refine aH.mk (hpk) ?_|refine aG.mk (hpk) ?_|refine aH.bH (hpk) ?_|refine aG.mk (bB.dI (hpk)) ?_
   simp -dsimp -implicitDefEqProofs only[go_sem,↓reduceIte,Tryz.f58]
   rw[hos]
   exact Shift.of (Sub.gK (.cons (.refl _) (.cons (Sub.loose _ _ _) (.cons (.refl _) .nil)))) hBl
  |some m =>
   rw[aP]at hos
   obtain⟨aAE,lI,lJ,aHI⟩:=cW (show ¬m=n from λe=>by rw[e,hBn]at hos;cases hos)
   simp -dsimp -implicitDefEqProofs only[go_sem,↓reduceIte,Tryz.f58,aQ,aJ,bV,cY,lI,lJ,aD,hBn]
   first|refine aH.mk (hpk) ?_|refine aG.mk (hpk) ?_|refine aH.bH (hpk) ?_|refine aG.mk (bB.dI (hpk)) ?_
   simp -dsimp -implicitDefEqProofs only[go_sem,↓reduceIte,Tryz.f58]
   refine Shift.trans (mU ((yA F.code L rg sz start.length).map λs=>[bL s]) hos (aB.le_refl _) aRT ?_) (cT hBl)
   simp[aE.fS,mZ,hJ]
theorem a71 {h:aB} {n:Nat} {l:List Int} {k:Nat} (hk:k=l.length) (hn:h n=some (mH l)):View h (.os n 1 0 k) (ints l):=by
 have h1:=View.ovD (h:=h) (d:=ints l) (OV.sl n 1 (l.map λx=>[.v (I x)])) (OS.pX (c:=λn=>[I n]) (R:=oP I) (λ_ _ q=>aC6 q) (OS.mk (wU l))) (λp hp=>by
  rw[OV.eK,gL,fP,iO]at hp
  rw[hp];exact hn)
 rw[OV.jG]at h1
 rwa [hk]
theorem LLG.keep {h:aB} {L:List (List Int)} {x:LLx} (H:LLG h L x) {q:Nat} {o:bU} (hq:h q=some o):LLH x q=some o:=by
 obtain⟨op,es,g⟩:=x
 have h1:g q=some o:=H.2.1.keep hq
 cases op with
 |none=>exact h1
 |some n =>
  have h2:g n=none:=H.2.2
  have h3:¬q=n:=λe=>by rw[e,h2]at h1;cases h1
  rw[LLH,aJ,aD _ _ _ _ h3];exact h1
theorem bJO {h g:aB} {Z:List (List Int)} {n sz b:Nat} {es:List (List OV)} (hes:OR (oL I) Z es) (hnw:fI h (OV.b5 [OV.sl b 1 es]) g) (hZ:c7 sz n Z) (hsz:1<=sz) {k:Nat} (hk:k<n) :
  ∃ m,es[k]?=some (oI m (Z.getD k []))/\(OV.cells es)[k]?=some [.v (.os m 1 0 sz)]/\g m=some (mH (Z.getD k []))/\¬m=b:=by
 have hz:=hZ.get hk
 obtain⟨e,he,y,rfl,hy⟩:=hes.bA0 k _ hz.1
 rcases hy.aA9 with⟨rfl,h0⟩|⟨m,rfl⟩
 ·have:=hz.2.1
  rw[h0]at this;simp at this;omega
 ·have hr:=hnw.bFO he
  refine⟨m,he,?_,hr.1,hr.2⟩
  have:=aGB he
  rw[this,aRL,OV.jG,hz.2.1]
theorem yB {code:List bG} {L:List Int} {rg:List (List Int)} {sz inp i:Nat} (hsz:1<=sz/\sz<=1048576) (hins:∀ i c,code[i]?=some c->bN inp i c) (hsr:c7 sz code.length rg) (ho:∀ r∈L,0<=r/\r<code.length):c7 sz inp (aH1 code L rg sz inp i) :=
 zE hins (rK hsz hins hsr (vB hsz.1 ho (oJ L.length i) L.length (bY _)) code.length 0 rfl) code.length (bY _)
theorem pU {sz:Nat} {X:List (List Int)} {code:List bG} {inp:Nat} (hins:∀ i c,code[i]?=some c->bN inp i c) (hX:c7 sz inp X):c7 sz code.length (l4 sz X code code.length):=⟨oH _ _ _ _,λs hs'=>by
 obtain⟨i,hi,rfl⟩:=aCE.1 hs'
 rw[oH]at hi
 have h:=l5 (sz:=sz) hins hX.2 (by rw[hX.1]) i hi
 rwa [fM,e8,fC (by rw[oH];exact hi)]at h⟩
@[go_sem] def bWL:List Nat:=[0,1,2,3,4,5,10,11,12,13,14,16,17,18,19,20,21,22,23,24,33,44,55,60,61,62,64,65,66,67,74,75,76,77]
@[go_sem] def b1R:List Nat:=[5,30,63,100]
theorem bGF:∀ {l:List Int} {X:List (List Int)},X.length=l.length->(∀ s∈X,1<=s.length)->(∀ i,i<l.length->(X.getD i []).getD 0 0=l.getD i 0)->eR (l.map λn=>[n]) X
 | [],[],_,_,_=>trivial
 |a::l,[]::X,_,h,_=>by have:=h [] aAL;simp at this
 |a::l,(b::s)::X,hl,h,h0=>by
  have h1:=h0 0 eC
  simp at h1
  subst h1
  exact⟨.inr ⟨b,[],s,rfl,rfl⟩,bGF aRV (λs hs=>h s (wN _ hs)) λi hi=>by simpa using h0 (i+1) vL⟩
 | [],_::_,h,_,_=>by simp at h
 | _::_,[],h,_,_=>by simp at h
theorem aI0 {p:aF} (hp:p.ok) {f:Int} (hf:0<=f/\f<p.aK.length) {start:List Int} (ns:eI start) (hl:∀ F,p.aK[f.toNat]?=some F->(start.length:Int)=F.aR) {c:Int} (h:zB p f start=.error c) :
  xP p 1 f (start.map λn=>[n])=.error c/\∀ sz X,1<=sz->St start sz X->xP p sz f X=.error c:=by
 have h1:=(aE5 hp f hf start ns hl).2
 rw[h]at h1
 cases hX:xP p 1 f (start.map λn=>[n])with
 |ok q=>rw[hX]at h1;exact h1.elim
 |error d =>
  rw[hX]at h1
  have h2:c=d:=h1
  subst h2
  refine⟨rfl,λsz X hsz hX'=>?_⟩
  have h3:=aTC p 0 (sz-1) f _ _ (bGF hX'.1.1 (λs hs=>by rw[(hX'.1.2 s hs).1];exact hsz) hX'.2)
  rw[Nat.sub_add_cancel hsz,hX]at h3
  cases hY:xP p sz f X with
  |ok q=>rw[hY]at h3;exact h3.elim
  |error d =>
   rw[hY]at h3
   have h4:c=d:=h3
   rw[h4]
def vJ (m a b:Int):Bool:=decide (1<=a/\a<=m) && decide (b=a)
theorem a72 (p:aF) (hps:p.s<=4194304) (f:Int):fR Tryz.prog 161 [.ip 1 [p.c] 0 0,I f] (I (if p.ok then if 0<=f/\f<=(p.aK.length:Int)-1 then 0 else 2 else 1)):=by
 have hok:=bOW p hps
 have hl:=p.aNI
 rw[aF.aY]at hok ⊢
 refine gA 17 bCO cU cG Tryz.func161 λh=>?_
 simp -dsimp -implicitDefEqProofs only[go_sem,↓reduceIte,Tryz.f161]
 refine aH.mk hok ?_
 simp -dsimp -implicitDefEqProofs only[go_sem,↓reduceIte,Tryz.f161]
 rw[IntWalk.i64_in ((p.aK.length:Int)-1) aA]
 refine⟨λq=>by rw[if_neg q],λq _=>?_⟩
 first|refine aH.mk (fJ f 0 ((p.aK.length:Int)-1)) ?_|refine aG.mk (fJ f 0 ((p.aK.length:Int)-1)) ?_|refine aH.bH (fJ f 0 ((p.aK.length:Int)-1)) ?_|refine aG.mk (bB.dI (fJ f 0 ((p.aK.length:Int)-1))) ?_
 simp -dsimp -implicitDefEqProofs only[go_sem,↓reduceIte,Tryz.f161]
 refine⟨λh=>by rw[if_pos q,if_neg h],λh=>by rw[if_pos q,if_pos h]⟩
@[go_sem] def aQH:List Nat:=[0,1,2,6,7,45]
@[go_sem] def a73:Marks:=λid=>match id with|2=>([12,23],(.op 0 (.op 1 (.op 2 (.op 3 (.op 4 (.op 5 (.op 6 (.op 7 (.op 8 (.op 9 (.op 10 (.op 11 (.op 12 (.op 13 (.op 14 (.op 15 (.op 16 (.op 17 (.op 18 (.op 19 (.op 20 (.op 21 (.op 22 (.op 24 (.op 25 (.op 26 (.op 27 (.op 28 (.op 29 (.op 30 (.op 31 (.op 23 (.op 32 (.op 33 (.op 34 .nil))))))))))))))))))))))))))))))))))),[])|_=>([],.nil,[])
theorem bJP (p:aF) (hps:p.s<=4194304) (f m:Int):fR Tryz.prog 106 [.ip 1 [p.c] 0 0,I f,I m] (I (jT p f (vJ m))):=by
 have hif:=a72 p hps f
 by_cases h1:p.ok
 ·by_cases h2:0<=f/\f<=(p.aK.length:Int)-1
  ·obtain⟨F,ef,e1,e2,e3⟩:=aLP h1 h2
   rw[if_pos h1,if_pos h2]at hif
   simp only[aF.aY]at hif ⊢
   rw[e3]
   refine gA 47 aQH cU a73 Tryz.func106 λh=>?_
   simp -dsimp -implicitDefEqProofs only[go_sem,↓reduceIte,Tryz.f106]
   first|refine aH.mk (hif) ?_|refine aG.mk (hif) ?_|refine aH.bH (hif) ?_|refine aG.mk (bB.dI (hif)) ?_
   simp -dsimp -implicitDefEqProofs only[go_sem,↓reduceIte,Tryz.f106,ef,aV.aY]
   refine⟨h2.1,by omega,?_⟩
   first|refine aH.mk (fJ F.aR 1 m) ?_|refine aG.mk (fJ F.aR 1 m) ?_|refine aH.bH (fJ F.aR 1 m) ?_|refine aG.mk (bB.dI (fJ F.aR 1 m)) ?_
   simp -dsimp -implicitDefEqProofs only[go_sem,↓reduceIte,Tryz.f106,ef,aV.aY]
   refine⟨λq=>⟨h2.1,by omega,h2.1,by omega,λ_=>⟨λq2=>?_,λq2=>?_⟩⟩,λq=>?_⟩
   ·rw[vJ,decide_eq_false q2,Bool.and_false];rfl
   ·rw[vJ,decide_eq_true q2,decide_eq_true q];rfl
   ·rw[vJ,decide_eq_false q,a9X];rfl
  ·rw[if_pos h1,if_neg h2]at hif
   have e:jT p f (vJ m)=2:=by rw[jT,if_pos h1,if_neg h2]
   simp only[aF.aY]at hif ⊢
   refine gA 47 aQH cU a73 Tryz.func106 λh=>?_
   simp -dsimp -implicitDefEqProofs only[go_sem,↓reduceIte,Tryz.f106]
   first|refine aH.mk (hif) ?_|refine aG.mk (hif) ?_|refine aH.bH (hif) ?_|refine aG.mk (bB.dI (hif)) ?_
   simp -dsimp -implicitDefEqProofs only[go_sem,↓reduceIte,Tryz.f106]
   rw[e]
 ·rw[if_neg h1]at hif
  have e:jT p f (vJ m)=1:=by rw[jT,if_neg h1]
  simp only[aF.aY]at hif ⊢
  refine gA 47 aQH cU a73 Tryz.func106 λh=>?_
  simp -dsimp -implicitDefEqProofs only[go_sem,↓reduceIte,Tryz.f106]
  first|refine aH.mk (hif) ?_|refine aG.mk (hif) ?_|refine aH.bH (hif) ?_|refine aG.mk (bB.dI (hif)) ?_
  simp -dsimp -implicitDefEqProofs only[go_sem,↓reduceIte,Tryz.f106]
  rw[e]
theorem oM (l:List Int) (n:Int):fR Tryz.prog 48 [ints l,I n] (.bool (decide ((l.length:Int)=n/\eI l))):=by
 refine gA 13 aCC cU cG Tryz.func48 λh=>?_
 simp -dsimp -implicitDefEqProofs only[go_sem,↓reduceIte,Tryz.f48]
 refine λ_=>⟨λh=>?_,λh=>(decide_eq_false λz=>h z.1).symm⟩
 first|refine aH.mk (yW l) ?_|refine aG.mk (yW l) ?_|refine aH.bH (yW l) ?_|refine aG.mk (bB.dI (yW l)) ?_
 simp -dsimp -implicitDefEqProofs only[go_sem,↓reduceIte,Tryz.f48]
 by_cases hn:eI l
 ·rw[decide_eq_true hn,decide_eq_true ⟨h,hn⟩]
 ·rw[decide_eq_false hn,decide_eq_false λz=>hn z.2]
@[go_sem] def bWM:List Nat:=[0,1,2,3,8,9,32]
@[go_sem] def bQC:List Nat:=[7,22]
theorem bCT (Y:List (List Int)) {sz k:Nat} (hY:∀ s∈Y,aW sz s) (hk:1<=k/\k<=sz) (hsz:sz<=1048576) (hl:Y.length<=1048576):yR Tryz.prog 53 [bL Y,I k] (QS (OS (oL I) 1 (Y.map λs=>s.take k))):=by
 have hel:(Y.map λs=>s.take k).length=Y.length:=gX _
 refine yT 25 aHW bQC cG Tryz.func53 λh=>?_
 simp -dsimp -implicitDefEqProofs only[go_sem,↓reduceIte,Tryz.f53]
 refine⟨aX,?_⟩
 refine cM aHW bQC cG (λx:Nat×LLx=>[(0,bL Y),(1,I k),(5,fT 1 x.1 x.2.1),(6,I x.1)]) (λx=>LLH x.2) (λx=>x.1<=Y.length/\LLG h ((Y.map λs=>s.take k).take x.1) x.2) (λx=>Y.length-x.1) (0,none,[],h) ⟨by simp[cR,bZ,fT],aB.le_refl _,eM _,LLG.init _⟩ ?_
 rintro⟨j,op,es,g⟩ ⟨hj,H⟩
 simp only at hj H ⊢
 rcases bT j Y.length with hlt|hge
 ·have ea:Y[j]?=some Y[j]:=fC hlt
  have hs:=hY _ (lF hlt)
  have hsl:=hs.1
  have hy:(Y.map λs=>s.take k).take (j+1)=(Y.map λs=>s.take k).take j++[Y[j].take k]:=by
   rw[iW aA,tJ]
  have hlk:((Y.map λs=>s.take k).take j).length=j:=by rw[nU];omega
  have zI:=H.len
  simp only[hlk]at zI
  have hown:=aVY (Y[j].take k) (by rw[nU];omega)
  have hc:(Y[j].take k).length=k:=by rw[nU];omega
  cases op with
  |none =>
   obtain⟨h1,rfl,rfl⟩:=H.nil
   obtain rfl:j=0:=by rw[←hlk,h1];rfl
   simp -dsimp -implicitDefEqProofs only[go_sem,↓reduceIte,Tryz.f53,hlt,ea,bD,LLH,aM,hsl]
   rw[←List.map_take]
   refine λ_=>⟨by omega,hk.2,?_⟩
   refine aH.wn0 (hown) ?_
   rintro r_ l_ g ⟨y_,oy_,rfl,rfl⟩ wn_
   rcases oy_.aA9 with⟨_,q_⟩|⟨m,rfl⟩
   ·rw[q_]at hc;simp at hc;omega
   rw[OV.jG]
   rw[OV.eK,gL,fP]at wn_
   obtain⟨zm,rfl⟩:=wn_.tG
   simp -dsimp -implicitDefEqProofs only[go_sem,↓reduceIte,Tryz.f53,hc,bD]
   refine⟨aX,aX,aX,λb ⟨b1,b2⟩=>?_⟩
   obtain⟨x',e',H',L'⟩:=H.fin (m:=m) (b:=b) (s:=Y[0].take k) (hc) zm b2 b1 (aB.le_refl _)
   refine⟨(1,x'),⟨by simp only[e'];rfl,IntWalk.i64_in _ aA⟩,L',⟨hlt,by simp only;rw[hy];exact H'⟩,by simp only;omega⟩
  |some n =>
   simp -dsimp -implicitDefEqProofs only[go_sem,↓reduceIte,Tryz.f53,hlt,ea,aQ,LLH,aJ,cP,zI,hsl]
   rw[←List.map_take]
   refine λ_=>⟨by omega,hk.2,?_⟩
   refine aH.wn1 (hown) H.2.2 ?_
   rintro r_ l_ g' ⟨y_,oy_,rfl,rfl⟩ wn_ zn
   rcases oy_.aA9 with⟨_,q_⟩|⟨m,rfl⟩
   ·rw[q_]at hc;simp at hc;omega
   rw[OV.jG]
   rw[OV.eK,gL,fP]at wn_
   obtain⟨zm,rfl⟩:=wn_.tG
   obtain⟨aAE,lI,lJ,aHI⟩:=cW (show ¬m=n from λe=>by rw[e,aI]at zn;cases zn)
   simp -dsimp -implicitDefEqProofs only[go_sem,↓reduceIte,Tryz.f53,hc,lI,lJ,aD,cP,zI,aQ]
   refine⟨aX,aX,aX,bY _,by omega,by omega,λb ⟨bn,bm,bz⟩=>?_⟩
   rw[show List.take j (OV.cells es)=OV.cells es from zI▸eQ es]
   refine⟨(j+1,some b,es++[oI m (Y[j].take k)],aT g m (mH (Y[j].take k))),⟨rfl,IntWalk.i64_in _ aA⟩,?_,⟨hlt,by simp only;rw[hy];exact H.snoc (Y[j].take k) zm bz bm⟩,by simp only;omega⟩
   show(LLH (some b,es++[oI m (Y[j].take k)],aT g m (mH (Y[j].take k)))).le _
   rw[LLH.snoc,show List.length (Y[j].take k)=_ from hc]
   exact aQG H.2.2 aAE bn (λq hq=>by simp only[fN,if_neg hq];(repeat' split) <;> first|rfl|contradiction)
 ·have hk':j=Y.length:=by omega
  subst hk'
  simp -dsimp -implicitDefEqProofs only[go_sem,↓reduceIte,Tryz.f53,bV,cY]
  intro _
  rw[hJ aA]at H
  obtain⟨y,hy,hv,hw⟩:=H.done
  rw[hel]at hv
  exact⟨_,_,_,bO _ _,⟨y,hy,hv.symm,rfl⟩,hw⟩
@[go_sem] def bS9:List Nat:=[0,1,2,6,7,8,9,10,11,19,31,39,52,59,65,78,91,104]
@[go_sem] def bZW:List Nat:=[12,29,40,115]
@[go_sem] def bZX:Marks:=λid=>match id with|10=>([2,4,7,9],(.op 0 (.op 1 (.op 5 (.op 6 (.op 2 (.op 3 (.op 4 (.op 7 (.op 8 (.op 9 (.op 10 (.op 11 .nil)))))))))))),[])|16=>([2,4,7,9],(.op 0 (.op 1 (.op 5 (.op 6 (.op 2 (.op 3 (.op 4 (.op 7 (.op 8 (.op 9 (.op 10 (.op 11 .nil)))))))))))),[])|18=>([2,4,7,9],(.op 0 (.op 1 (.op 5 (.op 6 (.op 2 (.op 3 (.op 4 (.op 7 (.op 8 (.op 9 (.op 10 (.op 11 .nil)))))))))))),[])|20=>([2,4,7,9],(.op 0 (.op 1 (.op 5 (.op 6 (.op 2 (.op 3 (.op 4 (.op 7 (.op 8 (.op 9 (.op 10 (.op 11 .nil)))))))))))),[])|_=>([],.nil,[])
@[go_sem] def bWN:List Nat:=[0,1,2,3,8,9,11,12,13,14,15,30,41,67,78,85,101,117,145,163]
@[go_sem] def b1S:List Nat:=[23,65,76,83,99,115,143,154,156,178]
@[go_sem] def b1T:Marks:=λid=>match id with|8=>([3,5,12,14,19,24],(.op 0 (.op 1 (.op 2 (.op 6 (.op 7 (.op 8 (.op 9 (.op 10 (.op 11 (.op 17 (.op 18 (.op 3 (.op 4 (.op 5 (.op 12 (.op 13 (.op 14 (.op 15 (.op 16 (.op 19 (.op 20 (.op 21 (.op 22 (.op 23 (.op 24 (.op 25 .nil)))))))))))))))))))))))))),[])|14=>([3,5,8,10,13],(.op 0 (.op 1 (.op 2 (.op 6 (.op 7 (.op 3 (.op 4 (.op 5 (.op 8 (.op 9 (.op 10 (.op 11 (.op 12 (.op 13 (.op 14 .nil))))))))))))))),[])|16=>([3,5,8,10,13],(.op 0 (.op 1 (.op 2 (.op 6 (.op 7 (.op 3 (.op 4 (.op 5 (.op 8 (.op 9 (.op 10 (.op 11 (.op 12 (.op 13 (.op 14 .nil))))))))))))))),[])|18=>([3,5,8,14,19,21,25],(.op 0 (.op 1 (.op 2 (.op 6 (.op 7 (.op 12 (.op 13 (.op 17 (.op 18 (.op 3 (.op 4 (.op 5 (.op 8 (.op 9 (.op 10 (.op 11 (.op 14 (.op 15 (.op 16 (.op 19 (.op 20 (.op 21 (.op 22 (.op 23 (.op 24 (.op 25 (.op 26 .nil))))))))))))))))))))))))))),[])|_=>([],.nil,[])
theorem fI.bQD {h g:aB} {b k m:Nat} {es:List (List OV)} {l:List Int} (l':List Int) (X:fI h (OV.b5 [OV.sl b 1 es]) g) (hk:es[k]?=some (oI m l)) (hl:l'.length=l.length):fI h (OV.b5 [OV.sl b 1 (es.set k (oI m l'))]) (aT g m (mH l'))/\OV.cells (es.set k (oI m l'))=OV.cells es:=by
 obtain⟨hlt,he⟩:=iY.1 hk
 obtain⟨A,B,rfl,rfl⟩:∃ A B,es=A++oI m l::B/\k=A.length:=⟨es.take k,es.drop (k+1),by rw[←he,List.getElem_cons_drop,bGT],by rw[nU];omega⟩
 have hset:(A++oI m l::B).set A.length (oI m l')=A++oI m l'::B:=by rw[List.set_append_right _ _ (bY _),sP];rfl
 have hrw:∀ s,OV.b5 [OV.sl b 1 (A++oI m s::B)]=((b,bU.row 1 (OV.cells (A++oI m s::B)))::OV.bF A)++(m,mH s)::OV.bF B:=λs=>by
  rw[OV.eP,OV.iQ,dR,OV.eK,OV.lK,nD,oI,OV.eP,OV.iQ,dR,OV.eK,gL,fP];rfl
 have hce:OV.cells (A++oI m l'::B)=OV.cells (A++oI m l::B):=by
  have h1:∀ s,OV.cells (A++oI m s::B)=OV.cells A++[.v (.os m 1 0 s.length)]::OV.cells B:=λs=>by
   rw[q0,show oI m s::B=[oI m s]++B from rfl,q0,kZ,a0O];rfl
  rw[h1,h1,hl]
 rw[hset]
 refine⟨?_,hce⟩
 rw[hrw]at X ⊢
 rw[hce]
 exact((X.perm List.perm_middle).set).perm List.perm_middle.symm
theorem a3D (n:Int) {sz:Nat} (hs:1<=sz/\sz<=1048576):yR Tryz.prog 51 [I n,I sz] (QS (OS (oP I) 1 (bX n sz))):=by
 have e2:=y5 (x:=[aE.int .i64 0]) hs.1
 refine yT 14 aPM cU cG Tryz.func51 λh=>?_
 simp -dsimp -implicitDefEqProofs only[go_sem,↓reduceIte,Tryz.f51,r8,e2]
 refine⟨aX,bY _,by omega,by omega,λm hm=>⟨λ_=>⟨by omega,?_⟩,λq=>absurd q aA⟩⟩
 rw[aL,show Int.toNat 0=0 from rfl,xR]
 have:=sK (c:=I) (l:=bX n sz) (sz:=1) hm
 rwa [gE]at this
theorem a3E {h g:aB} {b len:Nat} {es:List (List OV)} {L:List (List Int)} (hes:OR (oL I) L es) (hnw:fI h (OV.b5 [OV.sl b 1 es]) g) (hl:len=L.length):View g (.os b 1 0 len) (bL L):=by
 have h1:=View.ovD (h:=g) (d:=bL L) (OV.sl b 1 es) (x9 (OS.mk hes)) (by
  have:=hnw.oC
  rw[OV.eP,OV.iQ,dR]at this
  exact this)
 rw[OV.wV,←hes.length]at h1
 rwa [hl]
@[go_sem] def bWO:List Nat:=[0,1,2,3,8,9,12,13,14,15,16,18,28,35,50,68]
@[go_sem] def b1U:List Nat:=[29,31,46]
@[go_sem] def b1V:Marks:=λid=>match id with|16=>([3,18],(.op 0 (.op 1 (.op 2 (.op 4 (.op 5 (.op 6 (.op 7 (.op 8 (.op 9 (.op 10 (.op 11 (.op 12 (.op 13 (.op 14 (.op 15 (.op 16 (.op 3 (.op 17 (.op 18 .nil))))))))))))))))))),[])|_=>([],.nil,[])
def jB {α:Type} (c:α->aE) (s:List α):bU:=.row 1 ((s.map λx=>[c x]).map (List.map .v))
def gU {α:Type} (w:Nat) (a:Nat->α):List α:=(List.range w).map a
def vC (w:Nat) (N:List Nat):List (List Cell):=(N.map λn=>[aE.os n 1 0 w]).map (List.map .v)
theorem cO {α:Type} (w:Nat) (a:Nat->α):(gU w a).length=w:=by simp[gU]
theorem fE {α:Type} {w:Nat} (a:Nat->α) {k:Nat} (h:k<w):(gU w a)[k]?=some (a k):=by rw[gU,sO,al8 h];rfl
theorem eY {α:Type} {w:Nat} {a b:Nat->α} (h:∀ k,k<w->a k=b k):gU w a=gU w b:=aCA λk hk=>h k (aDZ.1 hk)
theorem aI1 {α:Type} {w:Nat} (a:Nat->α) (k:Nat) (v:α):(gU w a).set k v=gU w λq=>if q=k then v else a q:=by
 apply tI
 ·simp[gU]
 ·intro i h1 h2
  rw[aD1]
  simp only[gU,tJ,aMX]
  by_cases e:k=i
  ·rw[if_pos e,if_pos e.symm]
  ·rw[if_neg e,if_neg (iK e)]
theorem dN {w:Nat} {N:List Nat} {k n:Nat} (h:N[k]?=some n):(vC w N)[k]?=some [.v (.os n 1 0 w)]:=by rw[vC,sO,sO,h];rfl
theorem eE (w:Nat) (N:List Nat):(vC w N).length=N.length:=by simp[vC]
theorem aN4 (w:Nat) (N:List Nat) (n:Nat):vC w (N++[n])=vC w N++[[.v (.os n 1 0 w)]]:=by simp[vC]
theorem aBN (w:Nat) (N:List Nat) (k n:Nat):(vC w N).set k [.v (.os n 1 0 w)]=vC w (N.set k n):=by simp[vC,aJF]
structure OM {α:Type} (c:α->aE) (h:aB) (b w:Nat) (N:List Nat) (A:Nat->Nat->α) (g:aB):Prop where
 nodup:N.Nodup
 out:∀ n∈N,¬n=b/\h n=none
 get:∀ k n,N[k]?=some n->g n=some (jB c (gU w (A k)))
 bk:g b=some (.row 1 (vC w N))
 keep:∀ q o,h q=some o->g q=some o
 bn:h b=none
theorem OM.le {α:Type} {c:α->aE} {h g:aB} {b w:Nat} {N:List Nat} {A:Nat->Nat->α} (H:OM c h b w N A g):h.le g:=λq=>by
 cases e:h q with
 |none=>exact .inl rfl
 |some o=>exact .inr (H.keep q o e).symm
theorem OM.apart {α:Type} {c:α->aE} {h g:aB} {b w:Nat} {N:List Nat} {A:Nat->Nat->α} (H:OM c h b w N A g) {i j n m:Nat} (hi:N[i]?=some n) (hj:N[j]?=some m) (hne:¬i=j):¬n=m:=λe=>hne ((aXK (iY.1 hi).1 H.nodup).1 (by rw[hi,hj,e]))
theorem OM.free {α:Type} {c:α->aE} {h g:aB} {b w:Nat} {N:List Nat} {A:Nat->Nat->α} (H:OM c h b w N A g) {n:Nat} (hn:g n=none):¬n=b/\n∉N/\h n=none:=by
 refine⟨(λe=>by rw[e,H.bk]at hn;cases hn),λe=>?_,?_⟩
 ·obtain⟨k,hk,ek⟩:=aCE.1 e
  have:=H.get k n (by rw[fC hk,ek])
  rw[this]at hn;cases hn
 ·cases hq:h n with
  |none=>rfl
  |some o=>rw[H.keep n o hq]at hn;cases hn
theorem OM.set {α:Type} {c:α->aE} {h g:aB} {b w:Nat} {N:List Nat} {A B:Nat->Nat->α} (H:OM c h b w N A g) {r n:Nat} (hr:N[r]?=some n) (hB:∀ i,¬i=r->∀ k,k<w->B i k=A i k):OM c h b w N B (aT g n (jB c (gU w (B r)))):=by
 have ho:=H.out n (s5 hr)
 refine⟨H.nodup,H.out,λk m hk=>?_,?_,λq o hq=>?_,H.bn⟩
 ·by_cases e:k=r
  ·subst e
   rw[hr]at hk
   cases hk
   rw[aI]
  ·have hne:¬m=n:=λq=>by
    subst q
    have hkl:k<N.length:=(iY.1 hk).1
    exact e ((aXK hkl H.nodup).1 (hk.trans hr.symm))
   rw[aD _ _ _ _ hne,H.get k m hk,eY (hB k e)]
 ·rw[aD _ _ _ _ (iK ho.1)];exact H.bk
 ·rw[aD _ _ _ _ (λe=>by rw[e,ho.2]at hq;cases hq)];exact H.keep q o hq
theorem OM.congr {α:Type} {c:α->aE} {h g:aB} {b w:Nat} {N:List Nat} {A B:Nat->Nat->α} (H:OM c h b w N A g) (hB:∀ i,i<N.length->∀ k,k<w->B i k=A i k):OM c h b w N B g :=
 ⟨H.nodup,H.out,λk n hk=>by rw[H.get k n hk,eY (hB k (iY.1 hk).1)],H.bk,H.keep,H.bn⟩
theorem OM.more {α:Type} {c:α->aE} {h g F:aB} {b b2 w n:Nat} {N:List Nat} {A:Nat->Nat->α} (H:OM c h b w N A g) (hn:g n=none) (hb:g b2=none) (hnb:¬n=b2) (h1:F n=some (jB c (gU w (A N.length)))) (h2:F b2=some (.row 1 (vC w (N++[n])))) (h3:∀ q,¬q=n->¬q=b2->¬q=b->∀ o,g q=some o->F q=some o):OM c h b2 w (N++[n]) A F:=by
 obtain⟨f1,f2,f3⟩:=H.free hn
 obtain⟨e1,e2,e3⟩:=H.free hb
 refine⟨?_,λm hm=>?_,λk m hk=>?_,h2,λq o hq=>?_,e3⟩
 ·rw[xB]
  exact⟨H.nodup,by simp,λx hx y hy e=>by rw[iO.1 hy]at e;exact f2 (e▸hx)⟩
 ·rcases nY.1 hm with hm|hm
  ·exact⟨λe=>e2 (e▸hm),(H.out m hm).2⟩
  ·rw[iO.1 hm];exact⟨hnb,f3⟩
 ·rcases bT k N.length with hl|hl
  ·rw[uP hl]at hk
   have hmem:=s5 hk
   exact h3 m (λe=>f2 (e▸hmem)) (λe=>e2 (e▸hmem)) (H.out m hmem).1 _ (H.get k m hk)
  ·rw[yD hl]at hk
   have h2:k-N.length=0:=by
    rcases a16 (k-N.length)with q|q
    ·exact q
    ·rw[aJE (by rw[nN];exact q)]at hk;cases hk
   rw[h2]at hk
   cases hk
   rw[show k=N.length by omega];exact h1
 ·exact h3 q (λe=>by rw[e,f3]at hq;cases hq) (λe=>by rw[e,e3]at hq;cases hq) (λe=>by rw[e,H.bn]at hq;cases hq) o (H.keep q o hq)
theorem OM.one {α:Type} {c:α->aE} {h F:aB} {b w n:Nat} {A:Nat->Nat->α} (hn:h n=none) (hb:h b=none) (hnb:¬n=b) (h1:F n=some (jB c (gU w (A 0)))) (h2:F b=some (.row 1 (vC w [n]))) (h3:∀ q o,h q=some o->F q=some o):OM c h b w [n] A F :=
 ⟨by simp,λm hm=>(by rw[iO.1 hm];exact⟨hnb,hn⟩),λk m hk=>(by
  cases k with
  |zero=>cases hk;exact h1
  |succ k=>cases hk),h2,h3,hb⟩
theorem aN5 {N:List Nat} (h:N.Nodup) {c r nc nr:Nat} (hc:N[c]?=some nc) (hr:N[r]?=some nr):((N.set c nr).set r nc).Nodup:=by
 obtain⟨c1,c2⟩:=iY.1 hc
 obtain⟨r1,r2⟩:=iY.1 hr
 rw[a4K,a4L]at h ⊢
 have hx:∀ i (hi:i<N.length) j (hj:j<N.length),N[i]=N[j]->i=j:=λi hi j hj e=>by
  rcases Nat.lt_trichotomy i j with q|q|q
  ·exact absurd e (h i j hi hj q)
  ·exact q
  ·exact absurd e.symm (h j i hj hi q)
 intro i j hi hj hij e
 simp only[p7]at hi hj
 rw[aD1,aD1,aD1,aD1]at e
 subst c2 r2
 split at e <;> split at e <;> (try split at e) <;> (try split at e) <;> first|omega|(have:=hx _ _ _ _ e;omega)
theorem OM.swap {α:Type} {c:α->aE} {h g:aB} {b w:Nat} {N:List Nat} {A:Nat->Nat->α} (H:OM c h b w N A g) {i j ni nj:Nat} (hi:N[i]?=some ni) (hj:N[j]?=some nj):OM c h b w ((N.set i nj).set j ni) (nG A i j) (aT g b (.row 1 (vC w ((N.set i nj).set j ni)))):=by
 have hil:=(iY.1 hi).1
 have hjl:=(iY.1 hj).1
 have hmem:∀ m,m∈(N.set i nj).set j ni->m∈N:=λm hm=>by
  rcases s6 hm with hm|rfl
  ·rcases s6 hm with hm|rfl
   ·exact hm
   ·exact s5 hj
  ·exact s5 hi
 refine⟨aN5 H.nodup hi hj,λm hm=>H.out m (hmem m hm),λk m hk=>?_,aI _ _ _,λq o hq=>?_,H.bn⟩
 ·rw[aD _ _ _ _ (H.out m (hmem m (s5 hk))).1]
  by_cases e1:k=j
  ·subst e1
   rw[nH (by rw[p7];exact hjl)]at hk
   cases hk
   rw[H.get i _ hi]
   congr 2
   refine eY λq _=>?_
   unfold nG
   by_cases e2:k=i
   ·rw[if_pos e2,e2]
   ·rw[if_neg e2,if_pos rfl]
  ·rw[mG (iK e1)]at hk
   by_cases e2:k=i
   ·subst e2
    rw[nH hil]at hk
    cases hk
    rw[H.get j _ hj]
    congr 2
    refine eY λq _=>?_
    rw[nG,if_pos rfl]
   ·rw[mG (iK e2)]at hk
    rw[H.get k _ hk]
    congr 2
    refine eY λq _=>?_
    rw[nG,if_neg e2,if_neg e1]
 ·rw[aD _ _ _ _ (λe=>by rw[e,H.bn]at hq;cases hq)];exact H.keep q o hq
theorem bCU (l:List (List Int)) (hl:l.length<=1048576):yR Tryz.prog 170 [bL l] (QS (OS (oP ints) 1 l)):=by
 refine yT 8 a5V a5W cG Tryz.func170 λh=>?_
 simp -dsimp -implicitDefEqProofs only[go_sem,↓reduceIte,Tryz.f170]
 repeat'(with_reducible first|intro _|refine And.intro ?_ ?_)
 all_goals try(first|exact aO1 kX|exact aO2 kX|exact sK kX|omega)
theorem aUE {α:Type} {F:Ops α} {n:Nat} {M:Nat->Nat->α} {c:Nat} (h:uO F n M c=none):∀ d,uO F n M (c+d)=none
 |0=>h
 |d+1=>by rw[←aU6,uO,aUE h d]
theorem aUF {α:Type} {F:Ops α} {n:Nat} {M A:Nat->Nat->α} {c:Nat} (hc:c<n) (h:uO F n M c=some A) (hp:rS F.z A c n (n-c)=n):uO F n M n=none:=by
 have h1:uO F n M (c+1)=none:=by rw[uO,h];simp only[if_pos hp]
 have:=aUE h1 (n-(c+1))
 rwa [show c+1+(n-(c+1))=n by omega]at this
theorem a74 {α:Type} {F:Ops α} {n:Nat} {M A:Nat->Nat->α} {c r:Nat} (h:uO F n M c=some A) (hr:r<n) (hp:rS F.z A c n (n-c)=r):uO F n M (c+1)=some (gsF F (nG A c r) c):=by
 rw[uO,h]
 simp only[hp]
 rw[if_neg aA]
def aUG (n:Nat) (M:Nat->Nat->List Int):List (List Int)×Bool:=match uO o8 n M n with
 |some A=>(gU n λi=>A i n,true)
 |none=>([],false)
theorem OM.app {α:Type} {c:α->aE} {h g:aB} {b b2 w m n k:Nat} {N:List Nat} {A:Nat->Nat->α} (H:OM c h b w N A g) (hN:N.length=k) (zm:g m=none) (hn:g n=none) (hb:g b2=none) (hnb:¬n=b2) (hnm:¬n=m) {X Y:bU}:OM c h b2 w (N++[n]) A (aT (aT (aT (aT (aT g m X) m Y) n (.row 1 (((gU w (A k)).map λx=>[c x]).map (List.map .v)))) b .gone) b2 (.row 1 (List.take k (vC w N)++[[.v (.os n 1 0 w)]]))):=by
 have aWD:¬n=b:=λe=>by rw[e,H.bk]at hn;cases hn
 refine OM.more H hn hb hnb ?_ ?_ λq q1 q2 q3 o ho=>?_
 ·rw[aD _ _ _ _ hnb,aD _ _ _ _ aWD,aI,hN];rfl
 ·rw[aI,aN4,hJ (by rw[eE,hN];exact bY _)]
 ·have q4:¬q=m:=λe=>by rw[e,zm]at ho;cases ho
  rw[aD _ _ _ _ q2,aD _ _ _ _ q3,aD _ _ _ _ q1,aD _ _ _ _ q4,aD _ _ _ _ q4];exact ho
@[go_sem] def aBO:List Nat:=[0,1,4,5,6,7,8,9,10,11,12,13,14,15,16,17,19,23,24,25,26,42,43,44,61,66,92,93,94,112,113,114,118,130,131,132,161,162,163,164]
@[go_sem] def aUH:List Nat:=[37,39,160,172]
@[go_sem] def aUI:Marks:=λid=>match id with|5=>([2,8,10],(.op 0 (.op 1 (.op 3 (.op 4 (.op 5 (.op 6 (.op 7 (.op 2 (.op 8 (.op 9 (.op 10 (.op 11 .nil)))))))))))),[])|15=>([7,11,13,15],(.op 0 (.op 1 (.op 2 (.op 3 (.op 4 (.op 5 (.op 6 (.op 8 (.op 9 (.op 10 (.op 7 (.op 11 (.op 12 (.op 13 (.op 14 (.op 15 .nil)))))))))))))))),[])|20=>([3,8,11,15],(.op 0 (.op 1 (.op 2 (.op 4 (.op 5 (.op 6 (.op 7 (.op 9 (.op 12 (.op 3 (.op 8 (.op 10 (.op 11 (.op 13 (.op 14 (.op 15 .nil)))))))))))))))),[])|30=>([3,8,11,16,19,23],(.op 0 (.op 1 (.op 2 (.op 4 (.op 5 (.op 6 (.op 7 (.op 9 (.op 12 (.op 13 (.op 14 (.op 15 (.op 17 (.op 3 (.op 8 (.op 10 (.op 11 (.op 16 (.op 18 (.op 19 (.op 20 (.op 21 (.op 22 (.op 23 .nil)))))))))))))))))))))))),[])|_=>([],.nil,[])
set_option maxHeartbeats 4000000 in
theorem solved {n sz:Nat} (hn:1<=n/\n<=12) (hsz:1<=sz/\sz<=1048576) {a:List (List (List Int))} {b:List (List Int)} (hal:a.length=n) (ha:∀ i,i<n->c7 sz n (a.getD i [])) (hb:c7 sz n b) {M:Nat->Nat->List Int} (hM:M=vI n (λi k=>(a.getD i []).getD k []) λi=>b.getD i []) :
  fR Tryz.prog 98 [zJ a,bL b] (.gK [bL (aUG n M).1,.bool (aUG n M).2]):=by
 have hMok:okM (aW sz) n M:=λi hi k hk=>by
  rw[hM];unfold vI
  split
  ·exact((ha i hi).get kX).2
  ·exact(hb.get hi).2
 have hrow:∀ i,i<n->gU (n+1) (M i)=a.getD i []++[b.getD i []]:=λi hi=>by
  rw[hM]
  apply tI
  ·rw[cO,nT,(ha i hi).1];rfl
  ·intro k h1 h2
   rw[cO]at h1
   simp only[gU,tJ,aMX,vI]
   rcases bT k n with h3|h3
   ·rw[if_pos h3,a4M (by rw[(ha i hi).1];exact h3),e8,fC (by rw[(ha i hi).1];exact h3)];rfl
   ·rw[if_neg aA]
    have:k=n:=by omega
    subst this
    rw[a4N (by rw[(ha i hi).1];exact bY _)]
    simp[(ha i hi).1]
 refine mP 176 aBO aUH aUI Tryz.func98 λh=>?_
 simp -dsimp -implicitDefEqProofs only[go_sem,↓reduceIte,Tryz.f98,hal]
 refine λ_=>⟨by decide,λb0 hb0 _=>?_⟩
 refine cM aBO aUH aUI (λx:Nat×Nat×List Nat×aB=>[(0,zJ a),(1,bL b),(6,I n),(7,.os x.2.1 1 0 x.1),(23,zJ a),(24,I n),(25,I x.1)]) (λx=>x.2.2.2) (λx=>x.1<=n/\x.2.2.1.length=x.1/\OM ints h x.2.1 (n+1) x.2.2.1 M x.2.2.2) (λx=>n-x.1) (0,b0,[],aT h b0 (.row 1 [])) ⟨by simp[cR,bZ],aB.le_refl _,eM _,rfl,⟨by simp,by simp,by simp,aI _ _ _,λq o hq=>(aD _ _ _ _ (λe=>by rw[e,hb0]at hq;cases hq)).trans hq,hb0⟩⟩ ?_
 rintro⟨k,bb,N,g⟩ ⟨hk,hN,H⟩
 simp only at hk hN H ⊢
 rcases bT k n with hlt|hge
 ·have ea:a[k]?=some (a.getD k []):=by rw[e8,fC aA];rfl
  have eb:=hb.get hlt
  have har:=(ha k hlt).1
  have hcl:=bCU (a.getD k []) aA
  have hr:=hrow k hlt
  have hgb:=H.bk
  simp -dsimp -implicitDefEqProofs only[go_sem,↓reduceIte,Tryz.f98,hlt,ea,hal,eb.1,hb.1]
  refine⟨aX,aX,aH.wn0 hcl ?_⟩
  rintro r l g2 ⟨y,oy,rfl,rfl⟩ wn
  rcases oy.aA9 with⟨_,q⟩|⟨m,rfl⟩
  ·rw[q]at har;simp at har;omega
  rw[OV.jG]
  rw[OV.eK,gL,fP]at wn
  obtain⟨zm,rfl⟩:=wn.tG
  obtain⟨bJQ,aQI,aQJ,bJR⟩:=cW (show ¬m=bb from λe=>by rw[e,hgb]at zm;cases zm)
  simp -dsimp -implicitDefEqProofs only[go_sem,↓reduceIte,Tryz.f98,har,eb.1,hb.1,hlt,aQI,aQJ,aD,hgb,eE,hN]
  have bWP:List.take n (List.map (List.map Cell.v) (List.map (λs=>[ints s]) (a.getD k [])))++[[Cell.v (ints (b.getD k []))]]=((gU (n+1) (M k)).map λs=>[ints s]).map (List.map .v):=by rw[hr,←dS ints,har]
  refine⟨aX,bY _,by omega,by omega,λm2 ⟨m3,zm2⟩=>⟨aX,aX,aX,?_⟩⟩
  obtain⟨a75,aLQ,aLR,bJT⟩:=cW (show ¬m2=m from m3)
  obtain⟨bCV,aQK,aQL,bCW⟩:=cW (show ¬m2=bb from λe=>by rw[e,hgb]at zm2;cases zm2)
  rw[bWP]
  simp -dsimp -implicitDefEqProofs only[go_sem,↓reduceIte,Tryz.f98,aQI,aLR,aQJ,aQL,aLQ,aQK,aD,hgb,eE,hN]
  refine⟨bY _,by omega,by omega,λb' ⟨b1,b2,_,b4⟩=>?_⟩
  have HF:=OM.app (X:=.row 1 (((a.getD k []).map λs=>[ints s]).map (List.map .v))) (Y:=.gone) H hN zm zm2 b4 (iK b1) a75
  generalize hF:aT (aT _ bb bU.gone) b' _=F at HF ⊢
  exact⟨(k+1,b',N++[m2],F),⟨rfl,IntWalk.i64_in _ aA⟩,aB.le_refl _,⟨hlt,by simp[hN],HF⟩,by simp only;omega⟩
 ·obtain rfl:k=n:=by omega
  simp -dsimp -implicitDefEqProofs only[go_sem,↓reduceIte,Tryz.f98,bV,cY]
  refine cM aBO aUH aUI (λx:Nat×(Nat->Nat->List Int)×List Nat×aB=>[(6,I k),(7,.os bb 1 0 k),(42,I k),(43,I x.1)]) (λx=>x.2.2.2) (λx=>x.1<=k/\x.2.2.1.length=k/\uO o8 k M x.1=some x.2.1/\okM (aW sz) k x.2.1/\OM ints h bb (k+1) x.2.2.1 x.2.1 x.2.2.2) (λx=>k-x.1) (0,M,N,g) ⟨by simp[cR,bZ],aB.le_refl _,eM _,hN,rfl,hMok,H⟩ ?_
  rintro⟨c,A,N,g⟩ ⟨hc,hN,hgj,hA,H⟩
  simp only at hc hN hgj hA H ⊢
  have hgb:=H.bk
  rcases bT c k with hlt|hge
  ·simp -dsimp -implicitDefEqProofs only[go_sem,↓reduceIte,Tryz.f98,hlt]
   refine u3 aBO aUH aUI (λr:Nat=>[(6,I k),(7,.os bb 1 0 k),(10,I c),(11,I r),(42,I k),(43,I c)]) (λr=>r<=k/\c<=r/\rS o8.z A c k (k-r)=rS o8.z A c k (k-c)) (λr=>k-r) c ⟨by simp[cR,bZ],by omega,bY _,rfl⟩ ?_
   rintro r ⟨hr,hcr,hpv⟩
   rcases bT r k with hrk|hrk
   ·obtain⟨nr,hnr⟩:∃ nr,N[r]?=some nr:=⟨_,fC aA⟩
    obtain⟨nc,hnc⟩:∃ nc,N[c]?=some nc:=⟨_,fC aA⟩
    have hpr:rS o8.z A c k (k-r)=if o8.z (A r c)=true then rS o8.z A c k (k-(r+1))else r:=by
     rw[show k-r=(k-(r+1))+1 by omega,rS,show k-(k-(r+1)+1)=r by omega]
    have hgr:=H.get r nr hnr
    have hAr:=hA r hrk c aA
    have e0:(A r c)[Int.toNat 0]?=some ((A r c).getD 0 0):=bW (l:=A r c) (i:=0) (by rw[hAr.1];exact hsz.1)
    have e0l:=hAr.1
    have bQE:c=r->nc=nr:=λe=>by rw[e,hnr]at hnc;exact(gO hnc).symm
    have hx1:(N.set c nr)[r]?=some nr:=by
     by_cases e:c=r
     ·rw[e,nH aA]
     ·rw[mG e];exact hnr
    have hx2:((N.set c nr).set r nc)[c]?=some nr:=by
     by_cases e:c=r
     ·rw[bQE e,←e,nH (by rw[p7];omega)]
     ·rw[mG (iK e),nH aA]
    obtain⟨bTA,bCX,bCY,bTB⟩:=cW (show ¬nr=bb from(H.out nr (s5 hnr)).1)
    simp -dsimp -implicitDefEqProofs only[go_sem,↓reduceIte,Tryz.f98,hrk,hgb,dN hnr,eE,hN,hgr,jB,cO,fE (A r) (show c<k+1 by omega),e0,e0l,dN hnc,aBN,dN hx1,dN hx2,p7,bCX,bCY,aD]
    refine⟨by omega,by omega,λq=>⟨r+1,IntWalk.i64_in _ aA,⟨hrk,by omega,?_⟩,by omega⟩,λq=>⟨λe=>absurd e aA,λ_=>⟨hlt,?_⟩⟩⟩
    ·rw[←hpv,hpr,if_pos (show o8.z (A r c)=true from decide_eq_true q)]
    rw[hpr,if_neg (show ¬o8.z (A r c)=true from λe=>q (of_decide_eq_true e))]at hpv
    have hgo:=a74 hgj hrk hpv.symm
    have HS:=H.swap hnc hnr
    have hN2:((N.set c nr).set r nc).length=k:=by simp[hN]
    have hB:okM (aW sz) k (nG A c r):=aWK hlt hrk hA
    refine⟨hlt,hlt,by omega,hlt,λ_=>?_⟩
    rw[aL]
    generalize b1W:(N.set c nr).set r nc=N2 at *
    generalize aT g bb (.row 1 (vC (k+1) N2))=G at HS ⊢
    have hd0:A r c=nG A c r c c:=by rw[nG,if_pos rfl]
    rw[hd0]
    have hdz:¬(nG A c r c c).getD 0 0=0:=by rw[←hd0];exact q
    generalize nG A c r=B at *
    clear hx1 bQE hgr hAr e0 e0l hpr hpv hgb H hgj hA hnr hnc hd0 q
    refine cM aBO aUH aUI (λx:Nat×aB=>[(6,I k),(7,.os bb 1 0 k),(10,I c),(12,ints (B c c)),(42,I k),(43,I c),(92,I ((k:Int)+1)),(93,I x.1)]) (λx=>x.2) (λx=>x.1<=k+1/\OM ints h bb (k+1) N2 (λi j=>if i=c/\j<x.1 then gG (B c j) (B c c)else B i j) x.2) (λx=>k+1-x.1) (0,G) ⟨by simp[cR,bZ],aB.le_refl _,eM _,HS.congr λi _ j _=>by simp⟩ ?_
    ·rintro⟨q,G⟩ ⟨hq,H⟩
     simp only at hq H ⊢
     have hgb:=H.bk
     have hgc:G nr=some (jB ints (gU (k+1) λj=>if j<q then gG (B c j) (B c c)else B c j)):=by have:=H.get c nr hx2;simpa using this
     rcases bT q (k+1)with iV|aBC
     ·have hqn:((q:Nat):Int)<(k:Int)+1:=by omega
      have hBq:=hB c hlt q aA
      have hBc:=hB c hlt c aA
      have ecq:(gU (k+1) λj=>if j<q then gG (B c j) (B c c)else B c j)[q]?=some (B c q):=by rw[fE _ iV,if_neg (bV q)]
      simp -dsimp -implicitDefEqProofs only[go_sem,↓reduceIte,Tryz.f98,hqn,hgb,dN hx2,eE,hN2,hgc,jB,cO,ecq]
      refine⟨hlt,hlt,by omega,?_⟩
      first|refine aH.mk (quotient (B c q) (B c c) aYH aG0 aG0 hBq.2 hBc.2) ?_|refine aG.mk (quotient (B c q) (B c c) aYH aG0 aG0 hBq.2 hBc.2) ?_|refine aH.bH (quotient (B c q) (B c c) aYH aG0 aG0 hBq.2 hBc.2) ?_|refine aG.mk (bB.dI (quotient (B c q) (B c c) aYH aG0 aG0 hBq.2 hBc.2)) ?_
      simp -dsimp -implicitDefEqProofs only[go_sem,↓reduceIte,Tryz.f98,hgb,dN hx2,eE,hN2,hgc,jB,cO,ecq]
      have h3:(gU (k+1) λj=>if j<q then gG (B c j) (B c c)else B c j).set q (gG (B c q) (B c c))=gU (k+1) λj=>if j<q+1 then gG (B c j) (B c c)else B c j:=by
       rw[aI1]
       refine eY λj _=>?_
       by_cases e:j=q
       ·rw[if_pos e,if_pos aA,e]
       ·rw[if_neg e]
        by_cases e2:j<q
        ·rw[if_pos e2,if_pos aA]
        ·rw[if_neg e2,if_neg aA]
      rw[nL ints,h3]
      have HF:=H.set (B:=λi j=>if i=c/\j<q+1 then gG (B c j) (B c c)else B i j) hx2 λi hi j _=>by simp[hi]
      have hrf:gU (k+1) ((λi j=>if i=c/\j<q+1 then gG (B c j) (B c c)else B i j) c)=gU (k+1) λj=>if j<q+1 then gG (B c j) (B c c)else B c j:=eY λj _=>by simp
      rw[hrf]at HF
      exact⟨iV,(q+1,aT G nr (jB ints (gU (k+1) λj=>if j<q+1 then gG (B c j) (B c c)else B c j))),IntWalk.i64_in _ aA,aB.le_refl _,⟨iV,HF⟩,by simp only;omega⟩
     ·obtain rfl:q=k+1:=by omega
      simp -dsimp -implicitDefEqProofs only[go_sem,↓reduceIte,Tryz.f98,show ¬(((k+1:Nat):Int)<(k:Int)+1)by omega]
      have HD:=H.congr (B:=λi j=>if i=c then gG (B c j) (B c c)else B i j) λi _ j hj=>by simp[hj]
      have hD:∀ j,j<k+1->aW sz (gG (B c j) (B c c)):=λj hj=>k8 _ (hB c hlt j aA)
      clear H hgc hgb HS aBC hq
      generalize hDe:(λj=>gG (B c j) (B c c))=D
      refine cM aBO aUH aUI (λx:Nat×aB=>[(6,I k),(7,.os bb 1 0 k),(10,I c),(42,I k),(43,I c),(112,I k),(113,I x.1)]) (λx=>x.2) (λx=>x.1<=k/\OM ints h bb (k+1) N2 (λi j=>if i=c then D j else if i<x.1 then kD (B i j) (mulL (B i c) (D j))else B i j) x.2) (λx=>k-x.1) (0,G) ⟨by simp[cR,bZ],aB.le_refl _,eM _,HD.congr λi _ j _=>by simp[←hDe]⟩ ?_
      rintro⟨i,G⟩ ⟨hi,H⟩
      simp only at hi H ⊢
      have hgb:=H.bk
      rcases bT i k with aH2|bQF
      ·obtain⟨ni,hni⟩:∃ ni,N2[i]?=some ni:=⟨_,fC aA⟩
       have hBi:=hB i aH2
       by_cases hic:i=c
       ·have HC:OM ints h bb (k+1) N2 (λi' j=>if i'=c then D j else if i'<i+1 then kD (B i' j) (mulL (B i' c) (D j))else B i' j) G:=H.congr λi' _ j _=>by
         by_cases e:i'=c
         ·rw[if_pos e,if_pos e]
         ·rw[if_neg e,if_neg e]
          by_cases e2:i'<i
          ·rw[if_pos e2,if_pos aA]
          ·rw[if_neg e2,if_neg aA]
        simp -dsimp -implicitDefEqProofs only[go_sem,↓reduceIte,Tryz.f98,aH2]
        exact⟨λ_=>⟨(i+1,G),IntWalk.i64_in _ aA,aB.le_refl _,⟨aH2,HC⟩,by simp only;omega⟩,λq=>absurd hic q⟩
       have hii:¬((i:Nat):Int)=(c:Int):=by omega
       have hgi:G ni=some (jB ints (gU (k+1) (B i))):=by
        have:=H.get i ni hni
        rw[this]
        exact congrArg (λr=>some (jB ints r)) (eY λj _=>by rw[if_neg hic,if_neg (bV i)])
       simp -dsimp -implicitDefEqProofs only[go_sem,↓reduceIte,Tryz.f98,aH2,hii,hgb,dN hni,eE,hN2,hgi,jB,cO,fE (B i) (show c<k+1 by omega)]
       refine⟨by omega,λ_=>?_⟩
       refine cM aBO aUH aUI (λx:Nat×aB=>[(6,I k),(7,.os bb 1 0 k),(10,I c),(14,I i),(15,ints (B i c)),(42,I k),(43,I c),(112,I k),(113,I i),(130,I ((k:Int)+1)),(131,I x.1)]) (λx=>x.2) (λx=>x.1<=k+1/\OM ints h bb (k+1) N2 (λi' j=>if i'=c then D j else if i'<i∨i'=i/\j<x.1 then kD (B i' j) (mulL (B i' c) (D j))else B i' j) x.2) (λx=>k+1-x.1) (0,G) ⟨by simp[cR,bZ],aB.le_refl _,eM _,H.congr λi' _ j _=>by simp⟩ ?_
       clear H hgb hgi
       rintro⟨q,G⟩ ⟨hq,H⟩
       simp only at hq H ⊢
       have hgb:=H.bk
       rcases bT q (k+1)with bCZ|b1X
       ·have hqn:((q:Nat):Int)<(k:Int)+1:=by omega
        have hgi:G ni=some (jB ints (gU (k+1) λj=>if j<q then kD (B i j) (mulL (B i c) (D j))else B i j)):=by
         rw[H.get i ni hni]
         exact congrArg (λr=>some (jB ints r)) (eY λj _=>by rw[if_neg hic];simp)
        have hgc:G nr=some (jB ints (gU (k+1) D)):=by
         rw[H.get c nr hx2]
         exact congrArg (λr=>some (jB ints r)) (eY λj _=>by rw[if_pos rfl])
        have eiq:(gU (k+1) λj=>if j<q then kD (B i j) (mulL (B i c) (D j))else B i j)[q]?=some (B i q):=by rw[fE _ bCZ,if_neg (bV q)]
        have hDq:aW sz (D q):=by rw[←hDe];exact hD q bCZ
        have hiq:=hBi q aA
        have hicv:=hBi c aA
        simp -dsimp -implicitDefEqProofs only[go_sem,↓reduceIte,Tryz.f98,hqn,hgb,dN hx2,dN hni,eE,hN2,hgc,hgi,jB,cO,eiq,fE D bCZ]
        refine⟨aH2,aH2,hlt,by omega,by omega,?_⟩
        have hpm:=cF (D q) hicv
        first|refine aH.mk (product (B i c) (D q) aYC aYB hicv.2 hDq.2) ?_|refine aG.mk (product (B i c) (D q) aYC aYB hicv.2 hDq.2) ?_|refine aH.bH (product (B i c) (D q) aYC aYB hicv.2 hDq.2) ?_|refine aG.mk (bB.dI (product (B i c) (D q) aYC aYB hicv.2 hDq.2)) ?_
        simp -dsimp -implicitDefEqProofs only[go_sem,↓reduceIte,Tryz.f98,hgb,dN hni,eE,hN2,hgi,jB,cO,eiq]
        first|refine aH.mk (reduced (B i q) (mulL (B i c) (D q)) aYF aYG hiq.2 hpm.2) ?_|refine aG.mk (reduced (B i q) (mulL (B i c) (D q)) aYF aYG hiq.2 hpm.2) ?_|refine aH.bH (reduced (B i q) (mulL (B i c) (D q)) aYF aYG hiq.2 hpm.2) ?_|refine aG.mk (bB.dI (reduced (B i q) (mulL (B i c) (D q)) aYF aYG hiq.2 hpm.2)) ?_
        simp -dsimp -implicitDefEqProofs only[go_sem,↓reduceIte,Tryz.f98,hgb,dN hni,eE,hN2,hgi,jB,cO,eiq]
        have h3:(gU (k+1) λj=>if j<q then kD (B i j) (mulL (B i c) (D j))else B i j).set q (kD (B i q) (mulL (B i c) (D q)))=gU (k+1) λj=>if j<q+1 then kD (B i j) (mulL (B i c) (D j))else B i j:=by
         rw[aI1]
         refine eY λj _=>?_
         by_cases e:j=q
         ·rw[if_pos e,if_pos aA,e]
         ·rw[if_neg e]
          by_cases e2:j<q
          ·rw[if_pos e2,if_pos aA]
          ·rw[if_neg e2,if_neg aA]
        rw[nL ints,h3]
        have HF:=H.set (B:=λi' j=>if i'=c then D j else if i'<i∨i'=i/\j<q+1 then kD (B i' j) (mulL (B i' c) (D j))else B i' j) hni λi' hi' j _=>by simp[hi']
        have hrf:gU (k+1) ((λi' j=>if i'=c then D j else if i'<i∨i'=i/\j<q+1 then kD (B i' j) (mulL (B i' c) (D j))else B i' j) i)=gU (k+1) λj=>if j<q+1 then kD (B i j) (mulL (B i c) (D j))else B i j:=eY λj _=>by simp[hic]
        rw[hrf]at HF
        refine⟨by omega,(q+1,aT G ni (jB ints (gU (k+1) λj=>if j<q+1 then kD (B i j) (mulL (B i c) (D j))else B i j))),IntWalk.i64_in _ aA,aB.le_refl _,⟨bCZ,HF⟩,by simp only;omega⟩
       ·obtain rfl:q=k+1:=by omega
        simp -dsimp -implicitDefEqProofs only[go_sem,↓reduceIte,Tryz.f98,show ¬(((k+1:Nat):Int)<(k:Int)+1)by omega]
        exact⟨(i+1,G),IntWalk.i64_in _ aA,aB.le_refl _,⟨aH2,H.congr λi' _ j hj=>by
         by_cases e:i'=c
         ·rw[if_pos e,if_pos e]
         ·rw[if_neg e,if_neg e]
          by_cases e2:i'<i+1
          ·rw[if_pos e2,if_pos aA]
          ·rw[if_neg e2,if_neg aA]⟩,by simp only;omega⟩
      ·obtain rfl:i=k:=by omega
       simp -dsimp -implicitDefEqProofs only[go_sem,↓reduceIte,Tryz.f98,bV,cY]
       refine⟨(c+1,gsF o8 B c,N2,G),IntWalk.i64_in _ aA,aB.le_refl _,⟨hlt,hN2,hgo,aWL (wB sz) hlt hB (decide_eq_false hdz),H.congr λi' hi' j _=>?_⟩,by simp only;omega⟩
       rw[hN2]at hi'
       show gsF o8 B c i' j=_
       unfold gsF
       by_cases e:i'=c
       ·rw[if_pos e,if_pos e,←hDe];rfl
       ·rw[if_neg e,if_neg e,if_pos hi',←hDe];rfl
   ·obtain rfl:r=k:=by omega
    simp -dsimp -implicitDefEqProofs only[go_sem,↓reduceIte,Tryz.f98,bV,cY]
    rw[sP,rS]at hpv
    have hno:=aUF aA hgj hpv.symm
    rw[aUG,hno]
    exact Shift.of (Sub.gK (.cons (Sub.nil 1 false) (.cons (.refl _) .nil))) H.le
  ·obtain rfl:c=k:=by omega
   simp -dsimp -implicitDefEqProofs only[go_sem,↓reduceIte,Tryz.f98,bV,cY,hgb,eE,hN]
   refine⟨aX,λ_=>?_⟩
   have hxl:(gU c λi=>A i c).length=c:=cO _ _
   have vK:aUG c M=(gU c λi=>A i c,true):=by rw[aUG,hgj]
   rw[vK]
   refine cM aBO aUH aUI (λx:Nat×Option Nat=>[(6,I c),(17,fT 1 ((gU c λi=>A i c).take x.1).length x.2),(161,.os bb 1 0 c),(162,I c),(163,I x.1)]) (λx=>cQ g (.row 1 ((((gU c λi=>A i c).take x.1).map λs=>[ints s]).map (List.map .v))) x.2) (λx=>x.1<=c/\eU g ((gU c λi=>A i c).take x.1) x.2) (λx=>c-x.1) (0,none) ⟨by simp[cR,bZ,fT],by simp only[aM];exact aB.le_refl _,eM _,by simp[eU]⟩ ?_
   rintro⟨k,o⟩ ⟨hk,hos⟩
   simp only at hk hos ⊢
   rcases bT k c with hlt|hge
   ·obtain⟨nk,hnk⟩:∃ nk,N[k]?=some nk:=⟨_,fC aA⟩
    have hgk:=H.get k nk hnk
    have hy:(gU c λi=>A i c).take (k+1)=(gU c λi=>A i c).take k++[A k c]:=by
     rw[iW aA];simp[gU]
    have hlk:((gU c λi=>A i c).take k).length=k:=by rw[nU];omega
    cases o with
    |none =>
     rw[aZ]at hos
     rw[hos]at hy ⊢
     simp -dsimp -implicitDefEqProofs only[go_sem,↓reduceIte,Tryz.f98,bD,aM,hlt,hgb,dN hnk,eE,hN,hgk,jB,cO,fE (A k) (sR c)]
     repeat'(with_reducible first|intro _|refine And.intro ?_ ?_)
     all_goals try(first|omega|decide)
     rename_i b hb
     refine⟨(k+1,some b),?_⟩
     simp only[hy]
     refine⟨⟨rfl,?_⟩,aB.le_refl _,⟨by omega,hb⟩,by omega⟩
     rw[IntWalk.i64_in _ aA];rfl
    |some m =>
     rw[aP]at hos
     obtain⟨bJR,aQJ,aQI,bJQ⟩:=cW (show ¬bb=m from λe=>by rw[←e,hgb]at hos;cases hos)
     obtain⟨bJU,aWR,aWS,bJV⟩:=cW (show ¬nk=m from λe=>by rw[←e,hgk]at hos;cases hos)
     simp -dsimp -implicitDefEqProofs only[go_sem,↓reduceIte,Tryz.f98,aQ,aJ,hlt,hgb,dN hnk,eE,hN,hgk,jB,cO,fE (A k) (sR c),aQJ,aQI,aWR,aWS,aD]
     repeat'(with_reducible first|intro _|refine And.intro ?_ ?_)
     all_goals try(first|omega|decide|exact bY _)
     rename_i b hb
     refine⟨(k+1,some b),?_⟩
     simp only[hy,aJ,aQ,aP]
     refine⟨⟨by rw[nT];rfl,?_⟩,?_,⟨by omega,hb.2⟩,by omega⟩
     ·rw[IntWalk.i64_in _ aA];rfl
     ·rw[←dS];exact jL hos
   ·have hk':k=c:=by omega
    subst hk'
    rw[hJ aA]at hos ⊢
    cases o with
    |none =>
     rw[aZ]at hos
     simp -dsimp -implicitDefEqProofs only[go_sem,↓reduceIte,Tryz.f98,bD,aM,bV,cY]
     rw[hos]
     exact Shift.of (Sub.gK (.cons (Sub.loose _ _ _) (.cons (.refl _) .nil))) H.le
    |some m =>
     rw[aP]at hos
     simp -dsimp -implicitDefEqProofs only[go_sem,↓reduceIte,Tryz.f98,aQ,aJ,bV,cY]
     refine Shift.trans (mU ((gU k λi=>A i k).map λs=>[ints s]) hos (aB.le_refl _) aRT ?_) (cT H.le)
     simp[aE.fS,mZ,hJ]
theorem OM.bWQ {α:Type} {c:α->aE} {h g:aB} {b b2 w n k:Nat} {N:List Nat} {A:Nat->Nat->α} (H:OM c h b w N A g) (hN:N.length=k) (hn:g n=none) (hb:g b2=none) (hnb:¬n=b2):OM c h b2 w (N++[n]) A (aT (aT (aT g n (.row 1 (((gU w (A k)).map λx=>[c x]).map (List.map .v)))) b .gone) b2 (.row 1 (List.take k (vC w N)++[[.v (.os n 1 0 w)]]))):=by
 have aWD:¬n=b:=λe=>by rw[e,H.bk]at hn;cases hn
 refine OM.more H hn hb hnb ?_ ?_ λq q1 q2 q3 o ho=>?_
 ·rw[aD _ _ _ _ hnb,aD _ _ _ _ aWD,aI,hN];rfl
 ·rw[aI,aN4,hJ (by rw[eE,hN];exact bY _)]
 ·rw[aD _ _ _ _ q2,aD _ _ _ _ q3,aD _ _ _ _ q1];exact ho
theorem a0S {α:Type} {w x:Nat} (f a:Nat->α):(gU w λk=>if k<x then f k else a k).set x (f x)=gU w λk=>if k<x+1 then f k else a k:=by
 rw[aI1]
 refine eY λj _=>?_
 by_cases e:j=x
 ·rw[if_pos e,if_pos aA,e]
 ·rw[if_neg e]
  by_cases e2:j<x
  ·rw[if_pos e2,if_pos aA]
  ·rw[if_neg e2,if_neg aA]
@[go_sem] def bGG:List Nat:=[18]
theorem a0T {n w:Nat} (hn:n<=1048576) (hw:1<=w/\w<=1048576) {L:List (List Int)} (hL:L.length=n) (hLw:∀ i,i<n->(L.getD i []).length=w) (h:aB):iD Tryz.prog 147 [bL L] h λr h'=>∃ b N,r=.os b 1 0 n/\N.length=n/\OM I h b w N (λi k=>(L.getD i []).getD k 0) h':=by
 refine jU 21 bE5 bGG cG Tryz.func147 ?_
 simp -dsimp -implicitDefEqProofs only[go_sem,↓reduceIte,Tryz.f147,hL]
 refine⟨by decide,λb0 hb0=>?_⟩
 refine cM bE5 bGG cG (λx:Nat×Nat×List Nat×aB=>[(0,bL L),(3,.os x.2.1 1 0 x.1),(4,I x.1)]) (λx=>x.2.2.2) (λx=>x.1<=n/\x.2.2.1.length=x.1/\OM I h x.2.1 w x.2.2.1 (λi k=>(L.getD i []).getD k 0) x.2.2.2) (λx=>n-x.1) (0,b0,[],aT h b0 (.row 1 [])) ⟨by simp[cR,bZ],aB.le_refl _,eM _,rfl,⟨by simp,by simp,by simp,aI _ _ _,λq o hq=>(aD _ _ _ _ (λe=>by rw[e,hb0]at hq;cases hq)).trans hq,hb0⟩⟩ ?_
 rintro⟨k,bb,N,g⟩ ⟨hk,hN,H⟩
 simp only at hk hN H ⊢
 rcases bT k n with hlt|hge
 ·have ea:L[k]?=some (L.getD k []):=by rw[e8,fC aA];rfl
  have hlw:=hLw k hlt
  have hgb:=H.bk
  have hr:gU w (λj=>(L.getD k []).getD j 0)=L.getD k []:=by
   apply tI
   ·rw[cO,hlw]
   ·intro j h1 h2
    simp only[gU,tJ,aMX]
    rw[e8,fC h2];rfl
  simp -dsimp -implicitDefEqProofs only[go_sem,↓reduceIte,Tryz.f147,hlt,ea,hL]
  intro _
  refine aH.wn0 (aVY (L.getD k []) aA) ?_
  rintro r l g2 ⟨y,oy,rfl,rfl⟩ wn
  rcases oy.aA9 with⟨_,q⟩|⟨m2,rfl⟩
  ·rw[q]at hlw;simp at hlw;omega
  rw[OV.jG]
  rw[OV.eK,gL,fP]at wn
  obtain⟨zm2,rfl⟩:=wn.tG
  obtain⟨bCV,aQK,aQL,bCW⟩:=cW (show ¬m2=bb from λe=>by rw[e,hgb]at zm2;cases zm2)
  rw[←hr]
  simp -dsimp -implicitDefEqProofs only[go_sem,↓reduceIte,Tryz.f147,aQL,aQK,aD,hgb,eE,hN,cO]
  refine⟨by decide,by decide,by decide,bY _,by omega,by omega,λb' ⟨b1,b4⟩=>?_⟩
  have HF:=OM.bWQ H hN zm2 b4 (iK b1)
  generalize hF:aT (aT _ bb bU.gone) b' _=F at HF ⊢
  exact⟨(k+1,b',N++[m2],F),⟨rfl,IntWalk.i64_in _ aA⟩,aB.le_refl _,⟨hlt,by simp[hN],HF⟩,by simp only;omega⟩
 ·obtain rfl:k=n:=by omega
  simp -dsimp -implicitDefEqProofs only[go_sem,↓reduceIte,Tryz.f147,bV,cY,hL]
  exact λ_=>⟨_,g,bO _ _,bb,N,rfl,hN,H⟩
@[go_sem] def a0U:List Nat:=[0,1,2,6,10]
@[go_sem] def bGH:Marks:=λid=>match id with|3=>([5,10,14],(.op 0 (.op 1 (.op 2 (.op 3 (.op 4 (.op 6 (.op 7 (.op 8 (.op 9 (.op 5 (.op 10 (.op 11 (.op 12 (.op 13 (.op 14 .nil))))))))))))))),[])|_=>([],.nil,[])
theorem aUJ {w m m2:Nat} (hw:w<=1048576) {a b:Nat->Int} {by_:Int} (ha:∀ k,k<w->iE (a k)) (hb:∀ k,k<w->iE (b k)) (hy:iE by_) {g:aB} (hm:g m=some (jB I (gU w a))) (hm2:g m2=some (jB I (gU w b))) (hne:¬m=m2):iD Tryz.prog 148 [.os m 1 0 w,.os m2 1 0 w,I by_] g λ_ h'=>h'=aT g m (jB I (gU w λk=>gM.tk (a k) by_ (b k))):=by
 obtain⟨bJT,aLR,aLQ,a75⟩:=cW (show ¬m=m2 from hne)
 refine aHV 27 a0U cU bGH Tryz.func148 ?_
 simp -dsimp -implicitDefEqProofs only[go_sem,↓reduceIte,Tryz.f148,hm,hm2]
 refine cM a0U cU bGH (λx:Nat=>[(0,.os m 1 0 w),(1,.os m2 1 0 w),(2,I by_),(6,I x)]) (λx=>aT g m (jB I (gU w λk=>if k<x then gM.tk (a k) by_ (b k)else a k))) (λx=>x<=w) (λx=>w-x) 0 ⟨by simp[cR,bZ],by simp only[aRJ,if_false];rw[rA hm];exact aB.le_refl _,eM _⟩ ?_
 intro x hx
 rcases bT x w with hlt|hge
 ·have e1:(gU w λk=>if k<x then gM.tk (a k) by_ (b k)else a k)[x]?=some (a x):=by rw[fE _ hlt,if_neg (bV x)]
  simp -dsimp -implicitDefEqProofs only[go_sem,↓reduceIte,Tryz.f148,hlt,aLR,aLQ,aD,hm2,jB,cO,e1,fE b hlt]
  intro _
  have hax:=ha x hlt
  have hbx:=hb x hlt
  first|refine aH.mk (bE by_ (b x) hy hbx) ?_|refine aG.mk (bE by_ (b x) hy hbx) ?_|refine aH.bH (bE by_ (b x) hy hbx) ?_|refine aG.mk (bB.dI (bE by_ (b x) hy hbx)) ?_
  simp -dsimp -implicitDefEqProofs only[go_sem,↓reduceIte,Tryz.f148,aLR,aLQ,aD,hm2,jB,cO,e1]
  first|refine aH.mk (rE (a x) (by_*b x%1000003) hax (dY _)) ?_|refine aG.mk (rE (a x) (by_*b x%1000003) hax (dY _)) ?_|refine aH.bH (rE (a x) (by_*b x%1000003) hax (dY _)) ?_|refine aG.mk (bB.dI (rE (a x) (by_*b x%1000003) hax (dY _))) ?_
  simp -dsimp -implicitDefEqProofs only[go_sem,↓reduceIte,Tryz.f148,aLR,aLQ,aD,hm2,jB,cO,e1]
  refine⟨hlt,x+1,IntWalk.i64_in _ aA,?_,hlt,by omega⟩
  have h3:=a0S (w:=w) (x:=x) (λk=>gM.tk (a k) by_ (b k)) a
  rw[aL,nL I,show(a x-by_*b x%1000003)%1000003=gM.tk (a x) by_ (b x)from rfl,h3]
  exact aB.le_refl _
 ·obtain rfl:x=w:=by omega
  simp -dsimp -implicitDefEqProofs only[go_sem,↓reduceIte,Tryz.f148,bV,cY]
  refine λ_=>⟨_,aB.le_refl _,?_⟩
  rw[eY (λk hk=>if_pos hk)]
@[go_sem] def bZZ:List Nat:=[4,14,25]
@[go_sem] def bZ0:Marks:=λid=>match id with|1=>([5,8,12],(.op 0 (.op 1 (.op 2 (.op 3 (.op 4 (.op 6 (.op 7 (.op 5 (.op 8 (.op 9 (.op 10 (.op 11 (.op 12 .nil))))))))))))),[])|_=>([],.nil,[])
theorem aQN (a:Int) (ha:iE a):fR Tryz.prog 90 [I a] (I ((0-a)%1000003)):=by
 unfold iE at ha
 refine gA 6 aBA cU cG Tryz.func90 λh=>?_
 simp -dsimp -implicitDefEqProofs only[go_sem,↓reduceIte,Tryz.f90]
 rw[IntWalk.i64_in _ aA]
 first|refine aH.mk (cX (0-a)) ?_|refine aG.mk (cX (0-a)) ?_|refine aH.bH (cX (0-a)) ?_|refine aG.mk (bB.dI (cX (0-a))) ?_
 simp -dsimp -implicitDefEqProofs only[go_sem,↓reduceIte,Tryz.f90]
@[go_sem] def bTC:List Nat:=[0,2,3,4,6,8]
@[go_sem] def bTD:List Nat:=[0,1,2,6,7,8,13,18]
@[go_sem] def bTE:List Nat:=[0,1,2,6,7,8,9,10,11,12,13,17,18,31,40,62,94,111,133]
@[go_sem] def bZ1:List Nat:=[89,130]
@[go_sem] def bZ2:Marks:=λid=>match id with|3=>([10],(.op 0 (.op 1 (.op 2 (.op 3 (.op 4 (.op 5 (.op 6 (.op 7 (.op 8 (.op 9 (.op 10 (.op 11 .nil)))))))))))),[])|18=>([7,10,11],(.op 0 (.op 1 (.op 2 (.op 3 (.op 4 (.op 5 (.op 6 (.op 8 (.op 9 (.op 7 (.op 10 (.op 11 (.op 12 .nil))))))))))))),[])|25=>([9,12,16,19,20,21],(.op 0 (.op 1 (.op 2 (.op 3 (.op 4 (.op 5 (.op 6 (.op 7 (.op 8 (.op 10 (.op 13 (.op 14 (.op 15 (.op 17 (.op 9 (.op 11 (.op 12 (.op 16 (.op 18 (.op 19 (.op 20 (.op 21 (.op 22 .nil))))))))))))))))))))))),[])|_=>([],.nil,[])
def aUK (n:Nat) (M:Nat->Nat->Int):Int:=match dtF n M n with
 |some (_,d)=>d
 |none=>0
theorem aUL {n:Nat} {M:Nat->Nat->Int} {c:Nat} (h:dtF n M c=none):∀ d,dtF n M (c+d)=none
 |0=>h
 |d+1=>by rw[←aU6,dtF,aUL h d]
theorem a76 {n:Nat} {M A:Nat->Nat->Int} {c:Nat} {d:Int} (hc:c<n) (h:dtF n M c=some (A,d)) (hp:rS gM.z A c n (n-c)=n):aUK n M=0:=by
 have h1:dtF n M (c+1)=none:=by rw[dtF,h];simp only[if_pos hp]
 have:=aUL h1 (n-(c+1))
 rw[show c+1+(n-(c+1))=n by omega]at this
 rw[aUK,this]
theorem bJW {n:Nat} {M A:Nat->Nat->Int} {c r:Nat} {d:Int} (h:dtF n M c=some (A,d)) (hr:r<n) (hp:rS gM.z A c n (n-c)=r):dtF n M (c+1)=some (λi k=>if c<i then gM.tk (nG A c r i k) (nG A c r i c*gJ (nG A c r c c)%1000003) (nG A c r c k)else nG A c r i k,(if c<r then(0-d)%1000003 else d)*nG A c r c c%1000003):=by
 rw[dtF,h]
 simp only[hp]
 rw[if_neg aA]
structure bQG (T:Prop):Prop where
 get:T
theorem bJX {T G:Prop} (m:bQG T->G) (t:T):G:=m ⟨t⟩
@[go_sem] def aLS:List Nat:=[0,2,3,4,5,6,7,8,14,31,37,40,72]
@[go_sem] def a77:Marks:=λid=>match id with|20=>([3,7,11,14,18,21,24],(.op 0 (.op 1 (.op 2 (.op 4 (.op 5 (.op 6 (.op 8 (.op 9 (.op 10 (.op 12 (.op 15 (.op 16 (.op 17 (.op 19 (.op 3 (.op 7 (.op 11 (.op 13 (.op 14 (.op 18 (.op 20 (.op 21 (.op 22 (.op 23 (.op 24 .nil))))))))))))))))))))))))),[])|_=>([],.nil,[])
set_option maxHeartbeats 4000000 in
theorem bJY {n:Nat} (hn:1<=n/\n<=12) {L:List (List Int)} (hL:L.length=n) (hLw:∀ i,i<n->(L.getD i []).length=n) (hLn:∀ i,i<n->eI (L.getD i [])):fR Tryz.prog 72 [bL L] (I (aUK n λi k=>(L.getD i []).getD k 0)):=by
 refine mP 101 aLS cU a77 Tryz.func72 λh=>?_
 simp -dsimp -implicitDefEqProofs only[go_sem,↓reduceIte,Tryz.f72]
 refine aH.fX (a0T aA aA hL hLw h) ?_
 rintro r g ⟨b,N,rfl,hN,H⟩
 obtain⟨M,hM⟩:∃ M:Nat->Nat->Int,M=λi k=>(L.getD i []).getD k 0:=⟨_,rfl⟩
 have hMn:∀ i,i<n->∀ k,k<n->iE (M i k):=λi hi k hk=>by rw[hM];exact(hLn i hi).get k
 rw[←hM]at H ⊢
 simp -dsimp -implicitDefEqProofs only[go_sem,↓reduceIte,Tryz.f72]
 refine cM aLS cU a77 (λx:Nat×(Nat->Nat->Int)×Int×List Nat×aB=>[(3,.os b 1 0 n),(4,I x.2.2.1),(5,I x.1)]) (λx=>x.2.2.2.2) (λx=>x.1<=n/\x.2.2.2.1.length=n/\dtF n M x.1=some (x.2.1,x.2.2.1)/\iE x.2.2.1/\(∀ i,i<n->∀ k,k<n->iE (x.2.1 i k))/\OM I h b n x.2.2.2.1 x.2.1 x.2.2.2.2) (λx=>n-x.1) (0,M,1,N,g) ⟨by simp[cR,bZ],aB.le_refl _,eM _,hN,rfl,(by decide:iE 1),hMn,H⟩ ?_
 clear H hN hMn
 rintro⟨c,A,d,N,g⟩ ⟨hc,hN,hdt,hd,hA,H⟩
 simp only at hc hN hdt hd hA H ⊢
 have hgb:=H.bk
 rcases bT c n with hlt|hge
 ·simp -dsimp -implicitDefEqProofs only[go_sem,↓reduceIte,Tryz.f72,hlt]
  intro _
  refine u3 aLS cU a77 (λr:Nat=>[(3,.os b 1 0 n),(4,I d),(5,I c),(6,I r)]) (λr=>r<=n/\c<=r/\rS gM.z A c n (n-r)=rS gM.z A c n (n-c)) (λr=>n-r) c ⟨by simp[cR,bZ],by omega,bY _,rfl⟩ ?_
  rintro r ⟨hr,hcr,hpv⟩
  rcases bT r n with hrk|hrk
  ·obtain⟨nr,hnr⟩:∃ nr,N[r]?=some nr:=⟨_,fC aA⟩
   obtain⟨nc,hnc⟩:∃ nc,N[c]?=some nc:=⟨_,fC aA⟩
   have hpr:rS gM.z A c n (n-r)=if gM.z (A r c)=true then rS gM.z A c n (n-(r+1))else r:=by
    rw[show n-r=(n-(r+1))+1 by omega,rS,show n-(n-(r+1)+1)=r by omega]
   have hgr:=H.get r nr hnr
   simp -dsimp -implicitDefEqProofs only[go_sem,↓reduceIte,Tryz.f72,hrk,hgb,dN hnr,eE,hN,hgr,jB,cO,fE (A r) hlt]
   refine λ_=>⟨hlt,λq=>⟨r+1,IntWalk.i64_in _ aA,⟨hrk,by omega,?_⟩,by omega⟩,λq _=>⟨λe=>absurd e aA,λ_=>?_⟩⟩
   ·rw[←hpv,hpr,if_pos (show gM.z (A r c)=true from decide_eq_true q)]
   rw[hpr,if_neg (show ¬gM.z (A r c)=true from λe=>q (of_decide_eq_true e))]at hpv
   have hgo:=bJW hdt hrk hpv.symm
   have hB:∀ i,i<n->∀ k,k<n->iE (nG A c r i k):=λi hi k hk=>hA (if i=c then r else if i=r then c else i) (by split;exact hrk;split;exact hlt;exact hi) k hk
   have hcc:nG A c r c c=A r c:=by rw[nG,if_pos rfl]
   have hArc:=hA r hrk c hlt
   have ek1:IntKind.i64.wrap ((c:Int)+1)=(c:Int)+1:=IntWalk.i64_in _ aA
   apply bJX
   case m =>
    intro key
    refine⟨λq1=>⟨hlt,?_⟩,λq1=>⟨hlt,?_⟩⟩
    ·have HS:=H.swap hnc hnr
     rw[List.set_comm _ _ (show c≠r by omega)]at HS
     have hx1:(N.set r nc)[c]?=some nc:=by rw[mG aA];exact hnc
     have hx2:((N.set r nc).set c nr)[c]?=some nr:=by rw[nH (by rw[p7];omega)]
     obtain⟨a78,aLT,aLU,bJZ⟩:=cW (show ¬nr=b from(H.out nr (s5 hnr)).1)
     simp -dsimp -implicitDefEqProofs only[go_sem,↓reduceIte,Tryz.f72,hrk,hgb,dN hnr,dN hnc,eE,hN,aBN,dN hx1,dN hx2,p7,aLT,aLU,aD,hlt]
     first|refine aH.mk (aQN d hd) ?_|refine aG.mk (aQN d hd) ?_|refine aH.bH (aQN d hd) ?_|refine aG.mk (bB.dI (aQN d hd)) ?_
     simp -dsimp -implicitDefEqProofs only[go_sem,↓reduceIte,Tryz.f72,dN hx2,eE,p7,hN,aLT,aLU,aD,hgr,jB,cO,fE (A r) hlt]
     refine⟨hlt,hlt,?_⟩
     first|refine aH.mk (bE ((0-d)%1000003) (A r c) (dY _) hArc) ?_|refine aG.mk (bE ((0-d)%1000003) (A r c) (dY _) hArc) ?_|refine aH.bH (bE ((0-d)%1000003) (A r c) (dY _) hArc) ?_|refine aG.mk (bB.dI (bE ((0-d)%1000003) (A r c) (dY _) hArc)) ?_
     simp -dsimp -implicitDefEqProofs only[go_sem,↓reduceIte,Tryz.f72]
     rw[aL]
     refine cM aLS cU a77 (λx:Nat×List Nat×aB=>[(3,.os b 1 0 n),(4,I ((if c<r then(0-d)%1000003 else d)*nG A c r c c%1000003)),(5,I c),(8,I x.1)]) (λx=>x.2.2) (λx=>c<x.1/\x.1<=n/\x.2.1.length=n/\OM I h b n x.2.1 (λi k=>if c<i/\i<x.1 then gM.tk (nG A c r i k) (nG A c r i c*gJ (nG A c r c c)%1000003) (nG A c r c k)else nG A c r i k) x.2.2) (λx=>n-x.1) (c+1,(N.set r nc).set c nr,aT g b (.row 1 (vC n ((N.set r nc).set c nr)))) ⟨by simp[cR,bZ,if_pos q1,hcc,ek1],aB.le_refl _,sR c,hlt,by simp[hN],HS.congr λi _ k _=>by rw[if_neg aA]⟩ key.get
    ·have q2:c=r:=by omega
     subst q2
     simp -dsimp -implicitDefEqProofs only[go_sem,↓reduceIte,Tryz.f72,hgb,dN hnr,dN hnc,eE,hN,hgr,jB,cO,fE (A c) hlt]
     refine⟨hlt,?_⟩
     first|refine aH.mk (bE d (A c c) hd hArc) ?_|refine aG.mk (bE d (A c c) hd hArc) ?_|refine aH.bH (bE d (A c c) hd hArc) ?_|refine aG.mk (bB.dI (bE d (A c c) hd hArc)) ?_
     simp -dsimp -implicitDefEqProofs only[go_sem,↓reduceIte,Tryz.f72]
     refine cM aLS cU a77 (λx:Nat×List Nat×aB=>[(3,.os b 1 0 n),(4,I ((if c<c then(0-d)%1000003 else d)*nG A c c c c%1000003)),(5,I c),(8,I x.1)]) (λx=>x.2.2) (λx=>c<x.1/\x.1<=n/\x.2.1.length=n/\OM I h b n x.2.1 (λi k=>if c<i/\i<x.1 then gM.tk (nG A c c i k) (nG A c c i c*gJ (nG A c c c c)%1000003) (nG A c c c k)else nG A c c i k) x.2.2) (λx=>n-x.1) (c+1,N,g) ⟨by simp[cR,bZ,hcc,ek1],aB.le_refl _,sR c,hlt,hN,H.congr λi _ k _=>by rw[if_neg aA,nG];by_cases e:i=c <;> simp[e]⟩ key.get
   case t =>
    have hd2:iE ((if c<r then(0-d)%1000003 else d)*nG A c r c c%1000003):=dY _
    have hE:∀ i,i<n->∀ k,k<n->iE (if c<i then gM.tk (nG A c r i k) (nG A c r i c*gJ (nG A c r c c)%1000003) (nG A c r c k)else nG A c r i k):=λi hi k hk=>by
     split
     ·exact dY _
     ·exact hB i hi k hk
    clear hpv hpr hnr hnc hgr H hgb hN hdt hcr hr q hcc hArc
    generalize hB':nG A c r=B at *
    generalize (if c<r then(0-d)%1000003 else d)*B c c%1000003=d2 at *
    rintro⟨i,N,G⟩ ⟨hi1,hi2,hN,H⟩
    simp only at hi1 hi2 hN H ⊢
    have hgb:=H.bk
    rcases bT i n with iV|aBC
    ·obtain⟨ni,hni⟩:∃ ni,N[i]?=some ni:=⟨_,fC aA⟩
     obtain⟨nc,hnc⟩:∃ nc,N[c]?=some nc:=⟨_,fC aA⟩
     have hgi:G ni=some (jB I (gU n (B i))):=by
      rw[H.get i ni hni]
      exact congrArg (λr=>some (jB I r)) (eY λk _=>by rw[if_neg aA])
     have hgc:G nc=some (jB I (gU n (B c))):=by
      rw[H.get c nc hnc]
      exact congrArg (λr=>some (jB I r)) (eY λk _=>by rw[if_neg aA])
     simp -dsimp -implicitDefEqProofs only[go_sem,↓reduceIte,Tryz.f72,iV,hgb,dN hni,dN hnc,eE,hN,hgi,hgc,jB,cO,fE (B i) hlt,fE (B c) hlt]
     refine λ_=>⟨hlt,hlt,hlt,hlt,?_⟩
     first|refine aH.mk (tF (B c c)) ?_|refine aG.mk (tF (B c c)) ?_|refine aH.bH (tF (B c c)) ?_|refine aG.mk (bB.dI (tF (B c c))) ?_
     simp -dsimp -implicitDefEqProofs only[go_sem,↓reduceIte,Tryz.f72,iV,hgb,dN hni,dN hnc,eE,hN,hgi,hgc,jB,cO,fE (B i) hlt,fE (B c) hlt]
     first|refine aH.mk (bE (B i c) (gJ (B c c)) (hB i iV c hlt) (num_inv _)) ?_|refine aG.mk (bE (B i c) (gJ (B c c)) (hB i iV c hlt) (num_inv _)) ?_|refine aH.bH (bE (B i c) (gJ (B c c)) (hB i iV c hlt) (num_inv _)) ?_|refine aG.mk (bB.dI (bE (B i c) (gJ (B c c)) (hB i iV c hlt) (num_inv _))) ?_
     simp -dsimp -implicitDefEqProofs only[go_sem,↓reduceIte,Tryz.f72,iV,hgb,dN hni,dN hnc,eE,hN,hgi,hgc,jB,cO,fE (B i) hlt,fE (B c) hlt]
     refine aH.fX (aUJ aA (hB i iV) (hB c hlt) (dY _) hgi hgc (H.apart hni hnc aA)) ?_
     rintro r_ h' rfl
     have HF:=H.set (B:=λi' k=>if c<i'/\i'<i+1 then gM.tk (B i' k) (B i' c*gJ (B c c)%1000003) (B c k)else B i' k) hni λi' hi' k _=>by
      by_cases e:c<i'/\i'<i
      ·rw[if_pos e,if_pos aA]
      ·rw[if_neg e,if_neg aA]
     have hrf:gU n ((λi' k=>if c<i'/\i'<i+1 then gM.tk (B i' k) (B i' c*gJ (B c c)%1000003) (B c k)else B i' k) i)=gU n λk=>gM.tk (B i k) (B i c*gJ (B c c)%1000003) (B c k):=eY λk _=>if_pos ⟨hi1,sR i⟩
     rw[hrf]at HF
     simp -dsimp -implicitDefEqProofs only[go_sem,↓reduceIte,Tryz.f72]
     exact⟨(i+1,N,aT G ni (jB I (gU n λk=>gM.tk (B i k) (B i c*gJ (B c c)%1000003) (B c k)))),IntWalk.i64_in _ aA,aB.le_refl _,⟨by omega,iV,hN,HF⟩,by simp only;omega⟩
    ·obtain rfl:i=n:=by omega
     simp -dsimp -implicitDefEqProofs only[go_sem,↓reduceIte,Tryz.f72,bV,cY,hgb,eE,hN]
     refine λ_=>⟨(c+1,(λi k=>if c<i then gM.tk (B i k) (B i c*gJ (B c c)%1000003) (B c k)else B i k),d2,N,G),⟨rfl,IntWalk.i64_in _ aA⟩,aB.le_refl _,⟨by omega,hN,hgo,hd2,hE,H.congr λi' hi' k _=>?_⟩,by simp only;omega⟩
     rw[hN]at hi'
     show(if c<i' then gM.tk (B i' k) (B i' c*gJ (B c c)%1000003) (B c k)else B i' k)=_
     by_cases e:c<i'
     ·rw[if_pos e,if_pos ⟨e,hi'⟩]
     ·rw[if_neg e,if_neg λz=>e z.1]
  ·obtain rfl:r=n:=by omega
   rw[sP,rS]at hpv
   simp -dsimp -implicitDefEqProofs only[go_sem,↓reduceIte,Tryz.f72,bV,cY]
   rw[a76 aA hdt hpv.symm]
   exact λ_ _=>Shift.of (Sub.refl _) H.le
 ·obtain rfl:c=n:=by omega
  simp -dsimp -implicitDefEqProofs only[go_sem,↓reduceIte,Tryz.f72,bV,cY]
  rw[aUK,hdt]
  exact λ_=>Shift.of (Sub.refl _) H.le
structure OMW {α:Type} (c:α->aE) (h:aB) (b n:Nat) (P:Nat->Nat) (R:Nat->List α) (g:aB):Prop where
 inj:∀ i j,i<n->j<n->P i=P j->i=j
 out:∀ i,i<n->¬P i=b/\h (P i)=none
 get:∀ i,i<n->g (P i)=some (jB c (R i))
 bk:g b=some (.row 1 (gU n λi=>[Cell.v (.os (P i) 1 0 (R i).length)]))
 keep:∀ q o,h q=some o->g q=some o
 bn:h b=none
theorem OM.toW {α:Type} {c:α->aE} {h g:aB} {b w n:Nat} {N:List Nat} {A:Nat->Nat->α} (H:OM c h b w N A g) (hN:N.length=n):OMW c h b n (λi=>N.getD i 0) (λi=>gU w (A i)) g:=by
 have hg:∀ i,i<n->N[i]?=some (N.getD i 0):=λi hi=>by rw[e8,fC aA];rfl
 refine⟨λi j hi hj e=>(aXK aA H.nodup).1 (by rw[hg i hi,hg j hj,e]),λi hi=>H.out _ (s5 (hg i hi)),λi hi=>H.get i _ (hg i hi),?_,H.keep,H.bn⟩
 rw[H.bk]
 congr 2
 apply tI
 ·simp[vC,gU,hN]
 ·intro i h1 h2
  rw[cO]at h2
  simp only[vC,gU,tJ,aMX,qR,w9,gX,aXL]
  rw[e8,fC aA];rfl
theorem OMW.toM {α:Type} {c:α->aE} {h g:aB} {b w n:Nat} {P:Nat->Nat} {R:Nat->List α} {A:Nat->Nat->α} (H:OMW c h b n P R g) (hR:∀ i,i<n->R i=gU w (A i)):OM c h b w (gU n P) A g:=by
 have hm:∀ i m,(gU n P)[i]?=some m->i<n/\m=P i:=λi m e=>by
  have h1:=(iY.1 e).1
  rw[cO]at h1
  rw[fE P h1]at e
  exact⟨h1,(gO e).symm⟩
 refine⟨?_,λm hmm=>?_,λi m e=>?_,?_,H.keep,H.bn⟩
 ·rw[a4K,a4L]
  intro i j hi hj hij e
  rw[cO]at hi hj
  simp only[gU,tJ,aMX]at e
  have:=H.inj i j hi hj e
  omega
 ·obtain⟨i,hi,e⟩:=aCE.1 hmm
  have:=hm i m (by rw[fC hi,e])
  rw[this.2];exact H.out i this.1
 ·obtain⟨h1,rfl⟩:=hm i m e
  rw[H.get i h1,hR i h1]
 ·rw[H.bk]
  congr 2
  apply tI
  ·simp[vC,gU]
  ·intro i h1 h2
   rw[cO]at h1
   simp only[vC,gU,tJ,aMX,qR,w9]
   rw[hR i h1,cO]
theorem OMW.put {α:Type} {c:α->aE} {h g F:aB} {b n i m:Nat} {P:Nat->Nat} {R:Nat->List α} (H:OMW c h b n P R g) (hi:i<n) (hm:g m=none) (l:List α) (h1:F m=some (jB c l)) (h2:F b=some (.row 1 ((gU n λi=>[Cell.v (.os (P i) 1 0 (R i).length)]).set i [Cell.v (.os m 1 0 l.length)]))) (h3:∀ q,¬q=m->¬q=b->¬q=P i->∀ o,g q=some o->F q=some o):OMW c h b n (λk=>if k=i then m else P k) (λk=>if k=i then l else R k) F:=by
 have hmP:∀ k,k<n->¬P k=m:=λk hk e=>by have:=H.get k hk;rw[e,hm]at this;cases this
 have hmb:¬m=b:=λe=>by rw[e,H.bk]at hm;cases hm
 have hmh:h m=none:=by
  cases hq:h m with
  |none=>rfl
  |some o=>rw[H.keep m o hq]at hm;cases hm
 refine⟨λj k hj hk e=>?_,λk hk=>?_,λk hk=>?_,?_,λq o hq=>?_,H.bn⟩
 ·by_cases e1:j=i
  ·by_cases e2:k=i
   ·rw[e1,e2]
   ·simp only[if_pos e1,if_neg e2]at e
    exact absurd e.symm (hmP k hk)
  ·by_cases e2:k=i
   ·simp only[if_neg e1,if_pos e2]at e
    exact absurd e (hmP j hj)
   ·simp only[if_neg e1,if_neg e2]at e
    exact H.inj j k hj hk e
 ·by_cases e:k=i
  ·simp only[if_pos e];exact⟨hmb,hmh⟩
  ·simp only[if_neg e];exact H.out k hk
 ·by_cases e:k=i
  ·simp only[if_pos e];exact h1
  ·simp only[if_neg e]
   exact h3 _ (hmP k hk) (H.out k hk).1 (λq=>e (H.inj k i hk hi q)) _ (H.get k hk)
 ·rw[h2,aI1]
  congr 2
  refine eY λk _=>?_
  by_cases e:k=i
  ·rw[if_pos e,if_pos e,if_pos e]
  ·rw[if_neg e,if_neg e,if_neg e]
 ·exact h3 q (λe=>by rw[e,hmh]at hq;cases hq) (λe=>by rw[e,H.bn]at hq;cases hq) (λe=>by rw[e,(H.out i hi).2]at hq;cases hq) o (H.keep q o hq)
theorem a3F {X:List Nat} (h:X.Nodup) {m:Nat} (hm:m∉X) (i:Nat):(X.set i m).Nodup:=by
 rw[a4K,a4L]at h ⊢
 intro a b ha hb hab e
 simp only[p7]at ha hb
 rw[aD1,aD1]at e
 by_cases e1:i=a
 ·rw[if_pos e1,if_neg aA]at e
  exact hm (e▸lF _)
 ·rw[if_neg e1]at e
  by_cases e2:i=b
  ·rw[if_pos e2]at e
   exact hm (e▸lF _)
  ·rw[if_neg e2]at e
   exact h a b ha hb hab e
theorem OM.bQH {α:Type} {c:α->aE} {h g F:aB} {b w i j ni nj m:Nat} {N:List Nat} {A B:Nat->Nat->α} (H:OM c h b w N A g) (hi:N[i]?=some ni) (hj:N[j]?=some nj) (hm:g m=none) (h1:F m=some (jB c (gU w (B i)))) (h2:F b=some (.row 1 (vC w ((N.set j ni).set i m)))) (h3:∀ q,¬q=m->¬q=b->F q=g q) (hB:∀ k,¬k=i->∀ q,q<w->B k q=if k=j then A i q else A k q):OM c h b w ((N.set j ni).set i m) B F:=by
 obtain⟨f1,f2,f3⟩:=H.free hm
 have hil:=(iY.1 hi).1
 have hjl:=(iY.1 hj).1
 have hsw:(N.set j ni).set i m=((N.set i nj).set j ni).set i m:=by
  apply tI
  ·simp
  ·intro k q1 q2
   simp only[aD1]
   split
   ·rfl
   ·split <;> rfl
 have hnd:=aN5 H.nodup hi hj
 have hmem:∀ x,x∈((N.set i nj).set j ni).set i m->x∈N∨x=m:=λx hx=>by
  rcases s6 hx with hx|rfl
  ·rcases s6 hx with hx|rfl
   ·rcases s6 hx with hx|rfl
    ·exact .inl hx
    ·exact .inl (s5 hj)
   ·exact .inl (s5 hi)
  ·exact .inr rfl
 have hmN:m∉(N.set i nj).set j ni:=λhx=>by
  rcases s6 hx with hx|e
  ·rcases s6 hx with hx|e
   ·exact f2 hx
   ·exact f2 (e▸s5 hj)
  ·exact f2 (e▸s5 hi)
 rw[hsw]at h2 ⊢
 refine⟨?_,λx hx=>?_,λk x hk=>?_,h2,λq o hq=>?_,H.bn⟩
 ·exact a3F hnd hmN i
 ·rcases hmem x hx with hx|rfl
  ·exact H.out x hx
  ·exact⟨f1,f3⟩
 ·by_cases e:k=i
  ·subst e
   rw[nH (by simpa using hil)]at hk
   cases hk
   exact h1
  ·rw[mG (iK e)]at hk
   have hxm:¬x=m:=λq=>hmN (q▸s5 hk)
   have hxN:x∈N:=by
    rcases hmem x (s5 (by rw[mG (iK e)];exact hk))with q|q
    ·exact q
    ·exact absurd q hxm
   rw[h3 x hxm (H.out x hxN).1]
   by_cases e2:k=j
   ·subst e2
    rw[nH (by simpa using hjl)]at hk
    cases hk
    rw[H.get i _ hi]
    exact congrArg (λr=>some (jB c r)) (eY λq hq=>by rw[hB k e q hq,if_pos rfl])
   ·rw[mG (iK e2),mG (iK e)]at hk
    rw[H.get k _ hk]
    exact congrArg (λr=>some (jB c r)) (eY λq hq=>by rw[hB k e q hq,if_neg e2])
 ·rw[h3 q (λe=>by rw[e,f3]at hq;cases hq) (λe=>by rw[e,H.bn]at hq;cases hq)]
  exact H.keep q o hq
theorem a3G (a:List Int) (m:Int) (hm:iE m) (hl:a.length<=1048576) (ha:eI a):yR Tryz.prog 131 [ints a,I m] (QS (OS (oP I) 1 (eJ a m))):=by
 have hc:=qV a m
 refine yT 24 aHW aNE cG Tryz.func131 λh=>?_
 simp -dsimp -implicitDefEqProofs only[go_sem,↓reduceIte,Tryz.f131]
 refine⟨aX,?_⟩
 refine cM aHW aNE cG (λx:Nat×Option Nat=>[(0,ints a),(1,I m),(5,fT 1 ((eJ a m).take x.1).length x.2),(6,I x.1)]) (λx=>cQ h (.row 1 ((((eJ a m).take x.1).map λn=>[I n]).map (List.map .v))) x.2) (λx=>x.1<=a.length/\eU h ((eJ a m).take x.1) x.2) (λx=>a.length-x.1) (0,none) ⟨by simp[cR,bZ,fT],by simp only[aM];exact aB.le_refl _,eM _,by simp[eU]⟩ ?_
 rintro⟨k,o⟩ ⟨hk,hos⟩
 simp only at hk hos ⊢
 rcases bT k a.length with hlt|hge
 ·have ea:a[k]?=some a[k]:=fC hlt
  have hy:(eJ a m).take (k+1)=(eJ a m).take k++[(eJ a m)[k]'aA]:=iW aA
  have hv:(eJ a m)[k]'aA=a[k]*m%1000003:=by simp[eJ]
  have hlk:((eJ a m).take k).length=k:=by rw[nU];omega
  rw[hv]at hy
  cases o with
  |none =>
   rw[aZ]at hos
   rw[hos]at hy ⊢
   simp -dsimp -implicitDefEqProofs only[go_sem,↓reduceIte,Tryz.f131,bD,aM,hlt,ea]
   intro _
   first|refine aH.mk (bE a[k] m (ha _ (lF hlt)) hm) ?_|refine aG.mk (bE a[k] m (ha _ (lF hlt)) hm) ?_|refine aH.bH (bE a[k] m (ha _ (lF hlt)) hm) ?_|refine aG.mk (bB.dI (bE a[k] m (ha _ (lF hlt)) hm)) ?_
   simp -dsimp -implicitDefEqProofs only[go_sem,↓reduceIte,Tryz.f131]
   repeat'(with_reducible first|intro _|refine And.intro ?_ ?_)
   all_goals try(first|omega|decide)
   rename_i b hb
   refine⟨(k+1,some b),?_⟩
   simp only[hy]
   refine⟨⟨rfl,?_⟩,aB.le_refl _,⟨by omega,hb⟩,by omega⟩
   rw[IntWalk.i64_in _ aA];rfl
  |some n =>
   rw[aP]at hos
   simp -dsimp -implicitDefEqProofs only[go_sem,↓reduceIte,Tryz.f131,aQ,aJ,hlt,ea]
   intro _
   first|refine aH.mk (bE a[k] m (ha _ (lF hlt)) hm) ?_|refine aG.mk (bE a[k] m (ha _ (lF hlt)) hm) ?_|refine aH.bH (bE a[k] m (ha _ (lF hlt)) hm) ?_|refine aG.mk (bB.dI (bE a[k] m (ha _ (lF hlt)) hm)) ?_
   simp -dsimp -implicitDefEqProofs only[go_sem,↓reduceIte,Tryz.f131]
   repeat'(with_reducible first|intro _|refine And.intro ?_ ?_)
   all_goals try(first|omega|decide|exact bY _)
   rename_i b hb
   refine⟨(k+1,some b),?_⟩
   simp only[hy,aJ,aQ,aP]
   refine⟨⟨by rw[nT];rfl,?_⟩,?_,⟨by omega,hb.2⟩,by omega⟩
   ·rw[IntWalk.i64_in _ aA];rfl
   ·rw[←dS];exact jL hos
 ·have hk':k=a.length:=by omega
  subst hk'
  rw[hJ aA]at hos ⊢
  simp -dsimp -implicitDefEqProofs only[go_sem,↓reduceIte,Tryz.f131,bV,cY]
  intro _
  obtain⟨y,hy,hv,hw⟩:=grown (c:=I) (sz:=1) hos
  exact⟨_,_,_,bO _ _,⟨y,hy,hv.symm,rfl⟩,hw⟩
end Go.Hl

/-
  Contracts of functions and laws of the layer over the walk.
-/
import Derived.Test.YtoomflalicffnaaGreatVvC
import Derived.Test.YtoomflalicffnaaGreatVvB
import Derived.Test.YtoomflalicffnaaGreatHlD
import Derived.Test.YtoomflalicffnaaGreatVvA
import Derived.Lib.ItoaNum
namespace Go.Hl
set_option maxRecDepth 100000
open Go.Proofs
set_option linter.unusedVariables false
set_option linter.unusedSimpArgs false
theorem a6V {p:aF} {inp:Int} {n:Nat} {h0 h:aB} {nb st:Nat} {c:Int} {e:aC} {env:List Int} {S:dQ} (hR:jQ h0 nb p inp S st c h) (hst:st<=3000) (hs:¬c=0∨st=3000) :
  iD Tryz.prog 173 [.op nb 8 0 0,.agg e.c,ints env] h (aGI h0 nb p inp st c (fH p (n+1) st e env S)):=by
 obtain⟨om,og,ov,H⟩:=hR
 have hb:=H.box
 unfold c8 at hb
 rw[aC.aY]
 refine jU 190 o5 xX xY Tryz.func173 ?_
 simp -dsimp -implicitDefEqProofs only[go_sem,↓reduceIte,Tryz.f173,hb]
 refine⟨λhc=>?_,λhc=>?_⟩
 ·exact⟨_,_,bO _ _,0,S,st,c,rfl,⟨_,_,_,H⟩,bY _,hst,by rw[sJ _ hc];exact lB _ _ hc⟩
 ·subst hc
  have h3:st=3000:=by rcases hs with hs|hs;exact absurd rfl hs;exact hs
  subst h3
  try simp -dsimp -implicitDefEqProofs only[go_sem,↓reduceIte,Tryz.f173,hb]
  refine⟨λ_=>?_,λq=>absurd q eC⟩
  refine⟨_,_,bO _ _,0,S,3000,7,rfl,⟨_,_,_,H.set 3000 7⟩,bY _,hst,?_⟩
  rw[cZ,fH,if_pos rfl]
  exact lB _ _ b6
theorem aZ1 (l:List Int) (hl:l.length<=1048576):fR Tryz.prog 203 [ints l] (.sl 1 (l.map λn=>[I n]) true):=by
 refine gA 9 aBA cU cG Tryz.func203 λh=>?_
 simp -dsimp -implicitDefEqProofs only[go_sem,↓reduceIte,Tryz.f203]
 repeat'(with_reducible first|intro _|refine And.intro ?_ ?_)
 all_goals try omega
 rw[hJ aXW]
theorem bPB {p:aF} (hp:p.ok) {inp:Int} {n:Nat} (hv:xZ p inp n) {h0 h:aB} {nb st:Nat} {e:aC} {env:List Int} {S:dQ} {funcs:Int} (hR:jQ h0 nb p inp S st 0 h) (hst:st<3000) (hn:3001<=n+1+st)
  (hok:e.ok p funcs env.length) (gF:0<=funcs) (hf:funcs<=p.aK.length) (hg:Good inp S st) (henv:∀ x∈env,rR S x) (hel:env.length<=412+st) (hk:e.aS=1) :
  iD Tryz.prog 173 [.op nb 8 0 0,.agg e.c,ints env] h (aGI h0 nb p inp st 0 (fH p (n+1) st e env S)):=by
 obtain⟨om,og,ov,H⟩:=hR
 rw[aC.aY]
 have hb:=H.box
 unfold c8 at hb
 have e3:((st:Int)=3000)=False:=eq_false aA
 have ew:IntKind.i64.wrap ((st:Int)+1)=((st+1:Nat):Int):=by rw[IntWalk.i64_in _ aA];rfl
 have hnode:=(aC.dK _ _ _ _).1 hok
 have h3:¬st=3000:=by omega
 have hcap:=hg.cap
 have hgcap:=hg.aAG
 have pO:=hg.vZ (qD st)
 have hR1:jQ h0 nb p inp S (st+1) 0 (aT h nb (c8 p inp S om og ov (st+1) 0)):=⟨_,_,_,H.set (st+1) 0⟩
 refine jU 190 o5 xX xY Tryz.func173 ?_
 simp -dsimp -implicitDefEqProofs only[go_sem,↓reduceIte,Tryz.f173,hb,e3,ew,hk]
 refine aH.fX (aLC hR1 ⟨2,0,0,e.bA⟩ e.bA hg.len aA) ?_
 rintro r h' ⟨rfl,hR2⟩
 simp -dsimp -implicitDefEqProofs only[go_sem,↓reduceIte,Tryz.f173]
 refine⟨_,_,bO _ _,_,_,st+1,0,rfl,hR2,qD _,hst,?_⟩
 rw[cZ,aPR h3 hk]
 exact lR _ _
theorem bPC {p:aF} (hp:p.ok) {inp:Int} {n:Nat} (hv:xZ p inp n) {h0 h:aB} {nb st:Nat} {e:aC} {env:List Int} {S:dQ} {funcs:Int} (hR:jQ h0 nb p inp S st 0 h) (hst:st<3000) (hn:3001<=n+1+st)
  (hok:e.ok p funcs env.length) (gF:0<=funcs) (hf:funcs<=p.aK.length) (hg:Good inp S st) (henv:∀ x∈env,rR S x) (hel:env.length<=412+st) (hk:e.aS=2) :
  iD Tryz.prog 173 [.op nb 8 0 0,.agg e.c,ints env] h (aGI h0 nb p inp st 0 (fH p (n+1) st e env S)):=by
 obtain⟨om,og,ov,H⟩:=hR
 rw[aC.aY]
 have hb:=H.box
 unfold c8 at hb
 have e3:((st:Int)=3000)=False:=eq_false aA
 have ew:IntKind.i64.wrap ((st:Int)+1)=((st+1:Nat):Int):=by rw[IntWalk.i64_in _ aA];rfl
 have hnode:=(aC.dK _ _ _ _).1 hok
 have h3:¬st=3000:=by omega
 have hcap:=hg.cap
 have hgcap:=hg.aAG
 have pO:=hg.vZ (qD st)
 have hR1:jQ h0 nb p inp S (st+1) 0 (aT h nb (c8 p inp S om og ov (st+1) 0)):=⟨_,_,_,H.set (st+1) 0⟩
 have hnum:=((dT aA).1 hnode.1).2.2.2.2.1 hk
 have hlt:e.bA.toNat<env.length:=by omega
 refine jU 190 o5 xX xY Tryz.func173 ?_
 simp -dsimp -implicitDefEqProofs only[go_sem,↓reduceIte,Tryz.f173,hb,e3,ew,hk,bW hlt]
 refine⟨hnum.1,by omega,_,_,bO _ _,_,S,st+1,0,rfl,hR1,qD _,hst,?_⟩
 rw[cZ,aPS h3 hk]
 exact lR _ _
theorem bPD {p:aF} (hp:p.ok) {inp:Int} {n:Nat} (hv:xZ p inp n) {h0 h:aB} {nb st:Nat} {e:aC} {env:List Int} {S:dQ} {funcs:Int} (hR:jQ h0 nb p inp S st 0 h) (hst:st<3000) (hn:3001<=n+1+st)
  (hok:e.ok p funcs env.length) (gF:0<=funcs) (hf:funcs<=p.aK.length) (hg:Good inp S st) (henv:∀ x∈env,rR S x) (hel:env.length<=412+st) (hk:e.aS=9) :
  iD Tryz.prog 173 [.op nb 8 0 0,.agg e.c,ints env] h (aGI h0 nb p inp st 0 (fH p (n+1) st e env S)):=by
 obtain⟨om,og,ov,H⟩:=hR
 rw[aC.aY]
 have hb:=H.box
 unfold c8 at hb
 have e3:((st:Int)=3000)=False:=eq_false aA
 have ew:IntKind.i64.wrap ((st:Int)+1)=((st+1:Nat):Int):=by rw[IntWalk.i64_in _ aA];rfl
 have hnode:=(aC.dK _ _ _ _).1 hok
 have h3:¬st=3000:=by omega
 have hcap:=hg.cap
 have hgcap:=hg.aAG
 have pO:=hg.vZ (qD st)
 have hR1:jQ h0 nb p inp S (st+1) 0 (aT h nb (c8 p inp S om og ov (st+1) 0)):=⟨_,_,_,H.set (st+1) 0⟩
 have hlen:=eD hok aA
 rw[hk,show eO 9=2 from rfl]at hlen
 have g0:e.aN[Int.toNat 0]?=some (e.oE 0):=aC.iC aA
 have g1:e.aN[Int.toNat 1]?=some (e.oE 1):=aC.iC aA
 have o0:=aC.eZ hok (i:=0) aA
 have o1:=aC.eZ hok (i:=1) aA
 rw[iG aA]at o0
 rw[hk,show jE 9 1 (env.length:Int)=env.length+1 from rfl]at o1
 refine jU 190 o5 xX xY Tryz.func173 ?_
 simp -dsimp -implicitDefEqProofs only[go_sem,↓reduceIte,Tryz.f173,hb,e3,ew,hk,g0,g1,aC.ld5]
 refine⟨by omega,by omega,?_⟩
 first|refine aH.mk (aZ1 env aA) ?_|refine aG.mk (aZ1 env aA) ?_|refine aH.bH (aZ1 env aA) ?_|refine aG.mk (bB.dI (aZ1 env aA)) ?_
 simp -dsimp -implicitDefEqProofs only[go_sem,↓reduceIte,Tryz.f173]
 refine aH.fX (hv _ _ nb (st+1) 0 (e.oE 0) env S funcs hR1 aA aA o0 gF hf (λ_=>⟨pO,henv⟩) aA) ?_
 rintro r h' ⟨k1,S1,t1,c1,rfl,hR2,a1,a2,a3⟩
 simp -dsimp -implicitDefEqProofs only[go_sem,↓reduceIte,Tryz.f173]
 refine⟨aX,aX,aX,by omega,by omega,λm hm=>?_⟩
 obtain⟨nI,jI,jJ,rC⟩:=cW (show ¬nb=m from λe=>by obtain⟨_,_,_,H2⟩:=hR2;have:=H2.box;rw[e,hm]at this;cases this)
 have hrow:env.map (λn=>[I n])++[[aE.int .i64 k1]]=(env++[k1]).map λn=>[I n]:=by rw[mY];rfl
 rw[hrow]
 refine aH.aZO nI (by rw[gX,nT];rfl) hm ?_
 refine iD.mono (hv _ _ nb t1 c1 (e.oE 1) (env++[k1]) S1 funcs (hR2.aTQ (o:=.gone) hm) aA aA aGY gF hf (λhc=>?_) a4Q) ?_
 ·obtain⟨_,e2⟩:=a3.ok hc
  obtain⟨b1,b2,b3,b4⟩:=v7 hp n (st+1) (e.oE 0) env S funcs o0 hf pO aA henv _ _ e2
  refine⟨b1,λx hx=>?_⟩
  rcases nY.1 hx with hx|hx
  ·exact(henv x hx).ext b2
  ·rw[iO.1 hx];exact b3
 rintro r h2 ⟨k2,S2,t2,c2,rfl,hR3,b1,b2,b3⟩
 obtain⟨g,rfl,hgm,hR3⟩:=hR3.base (hR2.none hm)
 simp -dsimp -implicitDefEqProofs only[go_sem,↓reduceIte,Tryz.f173]
 refine⟨_,g,cT (aB.bM hgm (aB.le_refl _)),k2,S2,t2,c2,rfl,hR3,by omega,b2,?_⟩
 rw[aPT h3 hk]
 exact a3.dU b3
theorem bPE {p:aF} (hp:p.ok) {inp:Int} {n:Nat} (hv:xZ p inp n) {h0 h:aB} {nb st:Nat} {e:aC} {env:List Int} {S:dQ} {funcs:Int} (hR:jQ h0 nb p inp S st 0 h) (hst:st<3000) (hn:3001<=n+1+st)
  (hok:e.ok p funcs env.length) (gF:0<=funcs) (hf:funcs<=p.aK.length) (hg:Good inp S st) (henv:∀ x∈env,rR S x) (hel:env.length<=412+st) (hk:e.aS=8) :
  iD Tryz.prog 173 [.op nb 8 0 0,.agg e.c,ints env] h (aGI h0 nb p inp st 0 (fH p (n+1) st e env S)):=by
 obtain⟨om,og,ov,H⟩:=hR
 rw[aC.aY]
 have hb:=H.box
 unfold c8 at hb
 have e3:((st:Int)=3000)=False:=eq_false aA
 have ew:IntKind.i64.wrap ((st:Int)+1)=((st+1:Nat):Int):=by rw[IntWalk.i64_in _ aA];rfl
 have hnode:=(aC.dK _ _ _ _).1 hok
 have h3:¬st=3000:=by omega
 have hcap:=hg.cap
 have hgcap:=hg.aAG
 have pO:=hg.vZ (qD st)
 have hR1:jQ h0 nb p inp S (st+1) 0 (aT h nb (c8 p inp S om og ov (st+1) 0)):=⟨_,_,_,H.set (st+1) 0⟩
 have hlen:=eD hok aA
 rw[hk,show eO 8=3 from rfl]at hlen
 have g0:e.aN[Int.toNat 0]?=some (e.oE 0):=aC.iC aA
 have g1:e.aN[Int.toNat 1]?=some (e.oE 1):=aC.iC aA
 have g2:e.aN[Int.toNat 2]?=some (e.oE 2):=aC.iC aA
 have o0:=aC.eZ hok (i:=0) aA
 have o1:=aC.eZ hok (i:=1) aA
 have o2:=aC.eZ hok (i:=2) aA
 rw[iG aA]at o0 o1 o2
 refine jU 190 o5 xX xY Tryz.func173 ?_
 simp -dsimp -implicitDefEqProofs only[go_sem,↓reduceIte,Tryz.f173,hb,e3,ew,hk,g0,aC.ld5]
 refine⟨by omega,?_⟩
 refine aH.fX (hv _ _ nb (st+1) 0 (e.oE 0) env S funcs hR1 aA aA o0 gF hf (λ_=>⟨pO,henv⟩) aA) ?_
 rintro r h' ⟨k1,S1,t1,c1,rfl,⟨om1,og1,ov1,H1⟩,a1,a2,a3⟩
 have qP:=H1.box
 unfold c8 at qP
 simp -dsimp -implicitDefEqProofs only[go_sem,↓reduceIte,Tryz.f173,qP]
 refine⟨λhc=>?_,λhc=>?_⟩
 ·refine⟨_,_,bO _ _,0,S1,t1,c1,rfl,⟨_,_,_,H1⟩,by omega,a2,?_⟩
  rw[aBH h3 hk]
  exact a3.dU aD3
 subst hc
 obtain⟨_,e2⟩:=a3.ok rfl
 obtain⟨q1,q2,q3,q4⟩:=v7 hp n (st+1) (e.oE 0) env S funcs o0 hf pO aA henv _ _ e2
 unfold qA at q4
 simp only at q1 q2 q3 q4
 obtain⟨w,rfl,hw,dw⟩:=H1.row q3
 have rk:=aDE q3
 have k0:=q3.1
 have k2:=q3.2
 have lw:=r9 (λn=>[I n]) S1.eT
 have hgc:=q1.aAG
 rw[cN]at qP
 try simp -dsimp -implicitDefEqProofs only[go_sem,↓reduceIte,Tryz.f173,qP,hw,rk,cN]
 refine⟨k0,by omega,?_⟩
 have hgd:=H1.gds
 cases og1 with
 |none =>
  have hg0:S1.guards=[]:=oG.1 hgd
  rw[nE]
  simp -dsimp -implicitDefEqProofs only[go_sem,↓reduceIte,Tryz.f173,qP]
  refine⟨by decide,by decide,by decide,λb sN=>?_⟩
  obtain⟨mS,fW,fV,mT⟩:=cW (show ¬b=nb from λe=>by rw[e,qP]at sN;cases sN)
  simp -dsimp -implicitDefEqProofs only[go_sem,↓reduceIte,Tryz.f173,qP,fW,fV,aD,g1,g2,aC.ld5]
  refine⟨λhz=>⟨by omega,?_⟩,λhz=>⟨by omega,?_⟩⟩
  ·rw[decide_eq_true hz]
   obtain⟨g,hgl,hG⟩:=H1.guard ⟨k1,true⟩ sN (F:=aT (aT h' b (.row 2 [[.v (I k1),.v (.bool true)]])) nb (c8 p inp (S1.guard ⟨k1,true⟩) om1 (some b) (some w) t1 0)) (aI _ _ _) (by rw[aD _ _ _ _ mS,aI,hg0];rfl) (λn h1 h2 _=>by rw[aD _ _ _ _ h1,aD _ _ _ _ h2])
   unfold c8 at hgl
   simp only[dQ.guard,hg0,cN,dZ,nN]at hgl
   refine aH.wk (aB.kH hgl) ?_
   have hgG:=q1.guard (b:=true) q3 aA
   have heG:=q2.trans (S1.sG ⟨k1,true⟩)
   refine aH.fX (hv h0 g nb t1 0 (e.oE 1) env (S1.guard ⟨k1,true⟩) funcs ⟨_,_,_,hG⟩ aA aA o1 gF hf (λ_=>⟨hgG,λx hx=>(henv x hx).ext heG⟩) aA) ?_
   rintro r h2 ⟨k2,S2,t2,c2,rfl,hR3,b1,b2,b3⟩
   simp -dsimp -implicitDefEqProofs only[go_sem,↓reduceIte,Tryz.f173]
   refine⟨_,_,bO _ _,k2,S2,t2,c2,rfl,hR3,by omega,b2,?_⟩
   rw[aBH h3 hk]
   refine a3.dU ?_
   rw[if_pos hz]
   exact b3
  ·rw[decide_eq_false hz]
   obtain⟨g,hgl,hG⟩:=H1.guard ⟨k1,false⟩ sN (F:=aT (aT h' b (.row 2 [[.v (I k1),.v (.bool false)]])) nb (c8 p inp (S1.guard ⟨k1,false⟩) om1 (some b) (some w) t1 0)) (aI _ _ _) (by rw[aD _ _ _ _ mS,aI,hg0];rfl) (λn h1 h2 _=>by rw[aD _ _ _ _ h1,aD _ _ _ _ h2])
   unfold c8 at hgl
   simp only[dQ.guard,hg0,cN,dZ,nN]at hgl
   refine aH.wk (aB.kH hgl) ?_
   have hgG:=q1.guard (b:=false) q3 aA
   have heG:=q2.trans (S1.sG ⟨k1,false⟩)
   refine aH.fX (hv h0 g nb t1 0 (e.oE 2) env (S1.guard ⟨k1,false⟩) funcs ⟨_,_,_,hG⟩ aA aA o2 gF hf (λ_=>⟨hgG,λx hx=>(henv x hx).ext heG⟩) aA) ?_
   rintro r h2 ⟨k2,S2,t2,c2,rfl,hR3,b1,b2,b3⟩
   simp -dsimp -implicitDefEqProofs only[go_sem,↓reduceIte,Tryz.f173]
   refine⟨_,_,bO _ _,k2,S2,t2,c2,rfl,hR3,by omega,b2,?_⟩
   rw[aBH h3 hk]
   refine a3.dU ?_
   rw[if_neg hz]
   exact b3
 |some gm =>
  have hgm:=hgd.2
  obtain⟨bSQ,bBZ,bB0,bSR⟩:=cW (show ¬gm=nb from λe=>by rw[e,qP]at hgm;cases hgm)
  rw[cN]
  simp -dsimp -implicitDefEqProofs only[go_sem,↓reduceIte,Tryz.f173,qP,hgm,r9]
  refine⟨by decide,by decide,by decide,bY _,by omega,by omega,λb sN=>?_⟩
  obtain⟨mS,fW,fV,mT⟩:=cW (show ¬b=nb from λe=>by rw[e,qP]at sN;cases sN)
  obtain⟨bV7,bIY,bIZ,bV8⟩:=cW (show ¬b=gm from λe=>by rw[e,hgm]at sN;cases sN)
  simp -dsimp -implicitDefEqProofs only[go_sem,↓reduceIte,Tryz.f173,qP,fW,bIY,fV,bB0,bIZ,bBZ,aD,g1,g2,aC.ld5]
  refine⟨λhz=>⟨by omega,?_⟩,λhz=>⟨by omega,?_⟩⟩
  ·rw[decide_eq_true hz,hJ aX2]
   obtain⟨g,hgl,hG⟩:=H1.guard ⟨k1,true⟩ sN (F:=aT (aT (aT h' gm .gone) b (.row 2 (rowsOf jA.c S1.guards++[[.v (I k1),.v (.bool true)]]))) nb (c8 p inp (S1.guard ⟨k1,true⟩) om1 (some b) (some w) t1 0)) (aI _ _ _) (by rw[aD _ _ _ _ mS,aI,v8];rfl) (λn h1 h2 h3=>by rw[aD _ _ _ _ h1,aD _ _ _ _ h2,aD _ _ _ _ (λq=>h3 (by rw[q]))])
   unfold c8 at hgl
   simp only[dQ.guard,cN,nT,nN]at hgl
   refine aH.wk (aB.kH hgl) ?_
   have hgG:=q1.guard (b:=true) q3 aA
   have heG:=q2.trans (S1.sG ⟨k1,true⟩)
   refine aH.fX (hv h0 g nb t1 0 (e.oE 1) env (S1.guard ⟨k1,true⟩) funcs ⟨_,_,_,hG⟩ aA aA o1 gF hf (λ_=>⟨hgG,λx hx=>(henv x hx).ext heG⟩) aA) ?_
   rintro r h2 ⟨k2,S2,t2,c2,rfl,hR3,b1,b2,b3⟩
   simp -dsimp -implicitDefEqProofs only[go_sem,↓reduceIte,Tryz.f173]
   refine⟨_,_,bO _ _,k2,S2,t2,c2,rfl,hR3,by omega,b2,?_⟩
   rw[aBH h3 hk]
   refine a3.dU ?_
   rw[if_pos hz]
   exact b3
  ·rw[decide_eq_false hz,hJ aX2]
   obtain⟨g,hgl,hG⟩:=H1.guard ⟨k1,false⟩ sN (F:=aT (aT (aT h' gm .gone) b (.row 2 (rowsOf jA.c S1.guards++[[.v (I k1),.v (.bool false)]]))) nb (c8 p inp (S1.guard ⟨k1,false⟩) om1 (some b) (some w) t1 0)) (aI _ _ _) (by rw[aD _ _ _ _ mS,aI,v8];rfl) (λn h1 h2 h3=>by rw[aD _ _ _ _ h1,aD _ _ _ _ h2,aD _ _ _ _ (λq=>h3 (by rw[q]))])
   unfold c8 at hgl
   simp only[dQ.guard,cN,nT,nN]at hgl
   refine aH.wk (aB.kH hgl) ?_
   have hgG:=q1.guard (b:=false) q3 aA
   have heG:=q2.trans (S1.sG ⟨k1,false⟩)
   refine aH.fX (hv h0 g nb t1 0 (e.oE 2) env (S1.guard ⟨k1,false⟩) funcs ⟨_,_,_,hG⟩ aA aA o2 gF hf (λ_=>⟨hgG,λx hx=>(henv x hx).ext heG⟩) aA) ?_
   rintro r h2 ⟨k2,S2,t2,c2,rfl,hR3,b1,b2,b3⟩
   simp -dsimp -implicitDefEqProofs only[go_sem,↓reduceIte,Tryz.f173]
   refine⟨_,_,bO _ _,k2,S2,t2,c2,rfl,hR3,by omega,b2,?_⟩
   rw[aBH h3 hk]
   refine a3.dU ?_
   rw[if_neg hz]
   exact b3
theorem bPF {p:aF} (hp:p.ok) {inp:Int} {n:Nat} (hv:xZ p inp n) {h0 h:aB} {nb st:Nat} {e:aC} {env:List Int} {S:dQ} {funcs:Int} (hR:jQ h0 nb p inp S st 0 h) (hst:st<3000) (hn:3001<=n+1+st)
  (hok:e.ok p funcs env.length) (gF:0<=funcs) (hf:funcs<=p.aK.length) (hg:Good inp S st) (henv:∀ x∈env,rR S x) (hel:env.length<=412+st) (hk:e.aS=3) :
  iD Tryz.prog 173 [.op nb 8 0 0,.agg e.c,ints env] h (aGI h0 nb p inp st 0 (fH p (n+1) st e env S)):=by
 obtain⟨om,og,ov,H⟩:=hR
 rw[aC.aY]
 have hb:=H.box
 unfold c8 at hb
 have e3:((st:Int)=3000)=False:=eq_false aA
 have ew:IntKind.i64.wrap ((st:Int)+1)=((st+1:Nat):Int):=by rw[IntWalk.i64_in _ aA];rfl
 have hnode:=(aC.dK _ _ _ _).1 hok
 have h3:¬st=3000:=by omega
 have hcap:=hg.cap
 have hgcap:=hg.aAG
 have pO:=hg.vZ (qD st)
 have hR1:jQ h0 nb p inp S (st+1) 0 (aT h nb (c8 p inp S om og ov (st+1) 0)):=⟨_,_,_,H.set (st+1) 0⟩
 have hlen:=eD hok aA
 rw[hk,show eO 3=2 from rfl]at hlen
 have hkl:e.aN.length<=1048576:=by omega
 refine jU 190 o5 xX xY Tryz.func173 ?_
 simp -dsimp -implicitDefEqProofs only[go_sem,↓reduceIte,Tryz.f173,hb,e3,ew,hk]
 refine aH.fX (tW hp hv h0 _ nb (st+1) 0 e.aN env S funcs hR1 aA aA hkl (fF hok aA) gF hf (λ_=>⟨pO,henv⟩) aA) ?_
 rintro r h' ⟨vs,S1,t1,c1,rfl,⟨om1,og1,ov1,H1⟩,hvl,a1,a2,a3⟩
 have qP:=H1.box
 unfold c8 at qP
 simp -dsimp -implicitDefEqProofs only[go_sem,↓reduceIte,Tryz.f173,qP]
 refine⟨λhc=>?_,λhc=>?_⟩
 ·refine⟨_,_,bO _ _,0,S1,t1,c1,rfl,⟨_,_,_,H1⟩,by omega,a2,?_⟩
  rw[oZ h3 aA]
  exact a3.dU aD3
 subst hc
 obtain⟨_,e2⟩:=a3.ok rfl
 obtain⟨q1,q2,q3,q4⟩:=o6 hp pO aA henv (fF hok aA) hf _ _ e2
 simp only at q1 q2 q3
 try simp -dsimp -implicitDefEqProofs only[go_sem,↓reduceIte,Tryz.f173,hk]
 refine aH.fX (rH ⟨_,_,_,H1⟩ q1 a2 3 vs b6 aA aA q3.2 aA) ?_
 rintro r h2 ⟨k2,S2,c2,rfl,hR3,b3⟩
 simp -dsimp -implicitDefEqProofs only[go_sem,↓reduceIte,Tryz.f173]
 refine⟨_,_,bO _ _,k2,S2,t1,c2,rfl,hR3,by omega,a2,?_⟩
 rw[oZ h3 aA]
 refine a3.dU ?_
 rw[cZ,hk]
 exact b3
theorem bPG {p:aF} (hp:p.ok) {inp:Int} {n:Nat} (hv:xZ p inp n) {h0 h:aB} {nb st:Nat} {e:aC} {env:List Int} {S:dQ} {funcs:Int} (hR:jQ h0 nb p inp S st 0 h) (hst:st<3000) (hn:3001<=n+1+st)
  (hok:e.ok p funcs env.length) (gF:0<=funcs) (hf:funcs<=p.aK.length) (hg:Good inp S st) (henv:∀ x∈env,rR S x) (hel:env.length<=412+st) (hk:e.aS=4) :
  iD Tryz.prog 173 [.op nb 8 0 0,.agg e.c,ints env] h (aGI h0 nb p inp st 0 (fH p (n+1) st e env S)):=by
 obtain⟨om,og,ov,H⟩:=hR
 rw[aC.aY]
 have hb:=H.box
 unfold c8 at hb
 have e3:((st:Int)=3000)=False:=eq_false aA
 have ew:IntKind.i64.wrap ((st:Int)+1)=((st+1:Nat):Int):=by rw[IntWalk.i64_in _ aA];rfl
 have hnode:=(aC.dK _ _ _ _).1 hok
 have h3:¬st=3000:=by omega
 have hcap:=hg.cap
 have hgcap:=hg.aAG
 have pO:=hg.vZ (qD st)
 have hR1:jQ h0 nb p inp S (st+1) 0 (aT h nb (c8 p inp S om og ov (st+1) 0)):=⟨_,_,_,H.set (st+1) 0⟩
 have hlen:=eD hok aA
 rw[hk,show eO 4=2 from rfl]at hlen
 have hkl:e.aN.length<=1048576:=by omega
 refine jU 190 o5 xX xY Tryz.func173 ?_
 simp -dsimp -implicitDefEqProofs only[go_sem,↓reduceIte,Tryz.f173,hb,e3,ew,hk]
 refine aH.fX (tW hp hv h0 _ nb (st+1) 0 e.aN env S funcs hR1 aA aA hkl (fF hok aA) gF hf (λ_=>⟨pO,henv⟩) aA) ?_
 rintro r h' ⟨vs,S1,t1,c1,rfl,⟨om1,og1,ov1,H1⟩,hvl,a1,a2,a3⟩
 have qP:=H1.box
 unfold c8 at qP
 simp -dsimp -implicitDefEqProofs only[go_sem,↓reduceIte,Tryz.f173,qP]
 refine⟨λhc=>?_,λhc=>?_⟩
 ·refine⟨_,_,bO _ _,0,S1,t1,c1,rfl,⟨_,_,_,H1⟩,by omega,a2,?_⟩
  rw[oZ h3 aA]
  exact a3.dU aD3
 subst hc
 obtain⟨_,e2⟩:=a3.ok rfl
 obtain⟨q1,q2,q3,q4⟩:=o6 hp pO aA henv (fF hok aA) hf _ _ e2
 simp only at q1 q2 q3
 try simp -dsimp -implicitDefEqProofs only[go_sem,↓reduceIte,Tryz.f173,hk]
 refine aH.fX (rH ⟨_,_,_,H1⟩ q1 a2 4 vs b6 aA aA q3.2 aA) ?_
 rintro r h2 ⟨k2,S2,c2,rfl,hR3,b3⟩
 simp -dsimp -implicitDefEqProofs only[go_sem,↓reduceIte,Tryz.f173]
 refine⟨_,_,bO _ _,k2,S2,t1,c2,rfl,hR3,by omega,a2,?_⟩
 rw[oZ h3 aA]
 refine a3.dU ?_
 rw[cZ,hk]
 exact b3
theorem bPH {p:aF} (hp:p.ok) {inp:Int} {n:Nat} (hv:xZ p inp n) {h0 h:aB} {nb st:Nat} {e:aC} {env:List Int} {S:dQ} {funcs:Int} (hR:jQ h0 nb p inp S st 0 h) (hst:st<3000) (hn:3001<=n+1+st)
  (hok:e.ok p funcs env.length) (gF:0<=funcs) (hf:funcs<=p.aK.length) (hg:Good inp S st) (henv:∀ x∈env,rR S x) (hel:env.length<=412+st) (hk:e.aS=5) :
  iD Tryz.prog 173 [.op nb 8 0 0,.agg e.c,ints env] h (aGI h0 nb p inp st 0 (fH p (n+1) st e env S)):=by
 obtain⟨om,og,ov,H⟩:=hR
 rw[aC.aY]
 have hb:=H.box
 unfold c8 at hb
 have e3:((st:Int)=3000)=False:=eq_false aA
 have ew:IntKind.i64.wrap ((st:Int)+1)=((st+1:Nat):Int):=by rw[IntWalk.i64_in _ aA];rfl
 have hnode:=(aC.dK _ _ _ _).1 hok
 have h3:¬st=3000:=by omega
 have hcap:=hg.cap
 have hgcap:=hg.aAG
 have pO:=hg.vZ (qD st)
 have hR1:jQ h0 nb p inp S (st+1) 0 (aT h nb (c8 p inp S om og ov (st+1) 0)):=⟨_,_,_,H.set (st+1) 0⟩
 have hlen:=eD hok aA
 rw[hk,show eO 5=2 from rfl]at hlen
 have hkl:e.aN.length<=1048576:=by omega
 refine jU 190 o5 xX xY Tryz.func173 ?_
 simp -dsimp -implicitDefEqProofs only[go_sem,↓reduceIte,Tryz.f173,hb,e3,ew,hk]
 refine aH.fX (tW hp hv h0 _ nb (st+1) 0 e.aN env S funcs hR1 aA aA hkl (fF hok aA) gF hf (λ_=>⟨pO,henv⟩) aA) ?_
 rintro r h' ⟨vs,S1,t1,c1,rfl,⟨om1,og1,ov1,H1⟩,hvl,a1,a2,a3⟩
 have qP:=H1.box
 unfold c8 at qP
 simp -dsimp -implicitDefEqProofs only[go_sem,↓reduceIte,Tryz.f173,qP]
 refine⟨λhc=>?_,λhc=>?_⟩
 ·refine⟨_,_,bO _ _,0,S1,t1,c1,rfl,⟨_,_,_,H1⟩,by omega,a2,?_⟩
  rw[oZ h3 aA]
  exact a3.dU aD3
 subst hc
 obtain⟨_,e2⟩:=a3.ok rfl
 obtain⟨q1,q2,q3,q4⟩:=o6 hp pO aA henv (fF hok aA) hf _ _ e2
 simp only at q1 q2 q3
 try simp -dsimp -implicitDefEqProofs only[go_sem,↓reduceIte,Tryz.f173,hk]
 refine aH.fX (rH ⟨_,_,_,H1⟩ q1 a2 5 vs b6 aA aA q3.2 aA) ?_
 rintro r h2 ⟨k2,S2,c2,rfl,hR3,b3⟩
 simp -dsimp -implicitDefEqProofs only[go_sem,↓reduceIte,Tryz.f173]
 refine⟨_,_,bO _ _,k2,S2,t1,c2,rfl,hR3,by omega,a2,?_⟩
 rw[oZ h3 aA]
 refine a3.dU ?_
 rw[cZ,hk]
 exact b3
theorem bPI {p:aF} (hp:p.ok) {inp:Int} {n:Nat} (hv:xZ p inp n) {h0 h:aB} {nb st:Nat} {e:aC} {env:List Int} {S:dQ} {funcs:Int} (hR:jQ h0 nb p inp S st 0 h) (hst:st<3000) (hn:3001<=n+1+st)
  (hok:e.ok p funcs env.length) (gF:0<=funcs) (hf:funcs<=p.aK.length) (hg:Good inp S st) (henv:∀ x∈env,rR S x) (hel:env.length<=412+st) (hk:e.aS=6) :
  iD Tryz.prog 173 [.op nb 8 0 0,.agg e.c,ints env] h (aGI h0 nb p inp st 0 (fH p (n+1) st e env S)):=by
 obtain⟨om,og,ov,H⟩:=hR
 rw[aC.aY]
 have hb:=H.box
 unfold c8 at hb
 have e3:((st:Int)=3000)=False:=eq_false aA
 have ew:IntKind.i64.wrap ((st:Int)+1)=((st+1:Nat):Int):=by rw[IntWalk.i64_in _ aA];rfl
 have hnode:=(aC.dK _ _ _ _).1 hok
 have h3:¬st=3000:=by omega
 have hcap:=hg.cap
 have hgcap:=hg.aAG
 have pO:=hg.vZ (qD st)
 have hR1:jQ h0 nb p inp S (st+1) 0 (aT h nb (c8 p inp S om og ov (st+1) 0)):=⟨_,_,_,H.set (st+1) 0⟩
 have hlen:=eD hok aA
 rw[hk,show eO 6=2 from rfl]at hlen
 have hkl:e.aN.length<=1048576:=by omega
 refine jU 190 o5 xX xY Tryz.func173 ?_
 simp -dsimp -implicitDefEqProofs only[go_sem,↓reduceIte,Tryz.f173,hb,e3,ew,hk]
 refine aH.fX (tW hp hv h0 _ nb (st+1) 0 e.aN env S funcs hR1 aA aA hkl (fF hok aA) gF hf (λ_=>⟨pO,henv⟩) aA) ?_
 rintro r h' ⟨vs,S1,t1,c1,rfl,⟨om1,og1,ov1,H1⟩,hvl,a1,a2,a3⟩
 have qP:=H1.box
 unfold c8 at qP
 simp -dsimp -implicitDefEqProofs only[go_sem,↓reduceIte,Tryz.f173,qP]
 refine⟨λhc=>?_,λhc=>?_⟩
 ·refine⟨_,_,bO _ _,0,S1,t1,c1,rfl,⟨_,_,_,H1⟩,by omega,a2,?_⟩
  rw[oZ h3 aA]
  exact a3.dU aD3
 subst hc
 obtain⟨_,e2⟩:=a3.ok rfl
 obtain⟨q1,q2,q3,q4⟩:=o6 hp pO aA henv (fF hok aA) hf _ _ e2
 simp only at q1 q2 q3
 try simp -dsimp -implicitDefEqProofs only[go_sem,↓reduceIte,Tryz.f173,hk]
 refine aH.fX (rH ⟨_,_,_,H1⟩ q1 a2 6 vs b6 aA aA q3.2 aA) ?_
 rintro r h2 ⟨k2,S2,c2,rfl,hR3,b3⟩
 simp -dsimp -implicitDefEqProofs only[go_sem,↓reduceIte,Tryz.f173]
 refine⟨_,_,bO _ _,k2,S2,t1,c2,rfl,hR3,by omega,a2,?_⟩
 rw[oZ h3 aA]
 refine a3.dU ?_
 rw[cZ,hk]
 exact b3
theorem bPJ {p:aF} (hp:p.ok) {inp:Int} {n:Nat} (hv:xZ p inp n) {h0 h:aB} {nb st:Nat} {e:aC} {env:List Int} {S:dQ} {funcs:Int} (hR:jQ h0 nb p inp S st 0 h) (hst:st<3000) (hn:3001<=n+1+st)
  (hok:e.ok p funcs env.length) (gF:0<=funcs) (hf:funcs<=p.aK.length) (hg:Good inp S st) (henv:∀ x∈env,rR S x) (hel:env.length<=412+st) (hk:e.aS=7) :
  iD Tryz.prog 173 [.op nb 8 0 0,.agg e.c,ints env] h (aGI h0 nb p inp st 0 (fH p (n+1) st e env S)):=by
 obtain⟨om,og,ov,H⟩:=hR
 rw[aC.aY]
 have hb:=H.box
 unfold c8 at hb
 have e3:((st:Int)=3000)=False:=eq_false aA
 have ew:IntKind.i64.wrap ((st:Int)+1)=((st+1:Nat):Int):=by rw[IntWalk.i64_in _ aA];rfl
 have hnode:=(aC.dK _ _ _ _).1 hok
 have h3:¬st=3000:=by omega
 have hcap:=hg.cap
 have hgcap:=hg.aAG
 have pO:=hg.vZ (qD st)
 have hR1:jQ h0 nb p inp S (st+1) 0 (aT h nb (c8 p inp S om og ov (st+1) 0)):=⟨_,_,_,H.set (st+1) 0⟩
 have hlen:=eD hok aA
 rw[hk,show eO 7=1 from rfl]at hlen
 have hkl:e.aN.length<=1048576:=by omega
 refine jU 190 o5 xX xY Tryz.func173 ?_
 simp -dsimp -implicitDefEqProofs only[go_sem,↓reduceIte,Tryz.f173,hb,e3,ew,hk]
 refine aH.fX (tW hp hv h0 _ nb (st+1) 0 e.aN env S funcs hR1 aA aA hkl (fF hok aA) gF hf (λ_=>⟨pO,henv⟩) aA) ?_
 rintro r h' ⟨vs,S1,t1,c1,rfl,⟨om1,og1,ov1,H1⟩,hvl,a1,a2,a3⟩
 have qP:=H1.box
 unfold c8 at qP
 simp -dsimp -implicitDefEqProofs only[go_sem,↓reduceIte,Tryz.f173,qP]
 refine⟨λhc=>?_,λhc=>?_⟩
 ·refine⟨_,_,bO _ _,0,S1,t1,c1,rfl,⟨_,_,_,H1⟩,by omega,a2,?_⟩
  rw[oZ h3 aA]
  exact a3.dU aD3
 subst hc
 obtain⟨_,e2⟩:=a3.ok rfl
 obtain⟨q1,q2,q3,q4⟩:=o6 hp pO aA henv (fF hok aA) hf _ _ e2
 simp only at q1 q2 q3
 try simp -dsimp -implicitDefEqProofs only[go_sem,↓reduceIte,Tryz.f173,hk]
 refine aH.fX (rH ⟨_,_,_,H1⟩ q1 a2 7 vs b6 aA aA q3.2 aA) ?_
 rintro r h2 ⟨k2,S2,c2,rfl,hR3,b3⟩
 simp -dsimp -implicitDefEqProofs only[go_sem,↓reduceIte,Tryz.f173]
 refine⟨_,_,bO _ _,k2,S2,t1,c2,rfl,hR3,by omega,a2,?_⟩
 rw[oZ h3 aA]
 refine a3.dU ?_
 rw[cZ,hk]
 exact b3
theorem bI0 {p:aF} (hp:p.ok) {inp:Int} {n:Nat} (hv:xZ p inp n) {h0 h:aB} {nb st:Nat} {e:aC} {env:List Int} {S:dQ} {funcs:Int} (hR:jQ h0 nb p inp S st 0 h) (hst:st<3000) (hn:3001<=n+1+st)
  (hok:e.ok p funcs env.length) (gF:0<=funcs) (hf:funcs<=p.aK.length) (hg:Good inp S st) (henv:∀ x∈env,rR S x) (hel:env.length<=412+st) (hk:e.aS=10) :
  iD Tryz.prog 173 [.op nb 8 0 0,.agg e.c,ints env] h (aGI h0 nb p inp st 0 (fH p (n+1) st e env S)):=by
 obtain⟨om,og,ov,H⟩:=hR
 rw[aC.aY]
 have hb:=H.box
 unfold c8 at hb
 have e3:((st:Int)=3000)=False:=eq_false aA
 have ew:IntKind.i64.wrap ((st:Int)+1)=((st+1:Nat):Int):=by rw[IntWalk.i64_in _ aA];rfl
 have hnode:=(aC.dK _ _ _ _).1 hok
 have h3:¬st=3000:=by omega
 have hcap:=hg.cap
 have hgcap:=hg.aAG
 have pO:=hg.vZ (qD st)
 have hR1:jQ h0 nb p inp S (st+1) 0 (aT h nb (c8 p inp S om og ov (st+1) 0)):=⟨_,_,_,H.set (st+1) 0⟩
 obtain⟨f,F⟩:=nS hp hok hf (.inl hk)
 have hkl:e.aN.length<=1048576:=by have:=F.kids;have:=F.params;omega
 refine jU 190 o5 xX xY Tryz.func173 ?_
 simp -dsimp -implicitDefEqProofs only[go_sem,↓reduceIte,Tryz.f173,hb,e3,ew,hk]
 refine aH.fX (tW hp hv h0 _ nb (st+1) 0 e.aN env S funcs hR1 aA aA hkl (fF hok aA) gF hf (λ_=>⟨pO,henv⟩) aA) ?_
 rintro r h' ⟨vs,S1,t1,c1,rfl,⟨om1,og1,ov1,H1⟩,hvl,a1,a2,a3⟩
 have qP:=H1.box
 unfold c8 at qP
 simp -dsimp -implicitDefEqProofs only[go_sem,↓reduceIte,Tryz.f173,qP]
 refine⟨λhc=>?_,λhc=>?_⟩
 ·refine⟨_,_,bO _ _,0,S1,t1,c1,rfl,⟨_,_,_,H1⟩,by omega,a2,?_⟩
  rw[aE3 h3 hk]
  exact a3.dU aD3
 subst hc
 obtain⟨_,e2⟩:=a3.ok rfl
 obtain⟨q1,q2,q3,q4⟩:=o6 hp pO aA henv (fF hok aA) hf _ _ e2
 simp only at q1 q2 q3
 try simp -dsimp -implicitDefEqProofs only[go_sem,↓reduceIte,Tryz.f173,hk,qP,F.get,F.out,aV.aY,aC.ld5]
 have f1:=F.lo
 have f2:=F.hi
 have f3:=F.pk
 have f4:=F.pk2
 have f5:=F.kids
 have f6:=F.params
 refine⟨f1,f2,f3,by omega,?_⟩
 refine aH.fX (hv h0 _ nb t1 0 (p.out e.bA e.cV) vs S1 e.bA ⟨_,_,_,H1⟩ aA aA aXT f1 aA (λ_=>⟨q1,q3.2⟩) aA) ?_
 rintro r h2 ⟨k2,S2,t2,c2,rfl,hR3,b1,b2,b3⟩
 simp -dsimp -implicitDefEqProofs only[go_sem,↓reduceIte,Tryz.f173]
 refine⟨_,_,bO _ _,k2,S2,t2,c2,rfl,hR3,by omega,b2,?_⟩
 rw[aE3 h3 hk]
 exact a3.dU b3
theorem bI1 {p:aF} (hp:p.ok) {inp:Int} {n:Nat} (hv:xZ p inp n) {h0 h:aB} {nb st:Nat} {e:aC} {env:List Int} {S:dQ} {funcs:Int} (hR:jQ h0 nb p inp S st 0 h) (hst:st<3000) (hn:3001<=n+1+st)
  (hok:e.ok p funcs env.length) (gF:0<=funcs) (hf:funcs<=p.aK.length) (hg:Good inp S st) (henv:∀ x∈env,rR S x) (hel:env.length<=412+st) (hk:e.aS=11) :
  iD Tryz.prog 173 [.op nb 8 0 0,.agg e.c,ints env] h (aGI h0 nb p inp st 0 (fH p (n+1) st e env S)):=by
 obtain⟨om,og,ov,H⟩:=hR
 rw[aC.aY]
 have hb:=H.box
 unfold c8 at hb
 have e3:((st:Int)=3000)=False:=eq_false aA
 have ew:IntKind.i64.wrap ((st:Int)+1)=((st+1:Nat):Int):=by rw[IntWalk.i64_in _ aA];rfl
 have hnode:=(aC.dK _ _ _ _).1 hok
 have h3:¬st=3000:=by omega
 have hcap:=hg.cap
 have hgcap:=hg.aAG
 have pO:=hg.vZ (qD st)
 have hR1:jQ h0 nb p inp S (st+1) 0 (aT h nb (c8 p inp S om og ov (st+1) 0)):=⟨_,_,_,H.set (st+1) 0⟩
 obtain⟨f,F⟩:=nS hp hok hf (.inr hk)
 have hkl:e.aN.length<=1048576:=by have:=F.kids;have:=F.params;omega
 have f1:=F.lo
 have f2:=F.hi
 have f3:=F.pk
 have f4:=F.pk2
 have f5:=F.kids
 have f6:=F.params
 have f7:=F.loop hk
 have f8:=F.outs
 refine jU 190 o5 xX xY Tryz.func173 ?_
 simp -dsimp -implicitDefEqProofs only[go_sem,↓reduceIte,Tryz.f173,hb,e3,ew,hk]
 refine aH.fX (tW hp hv h0 _ nb (st+1) 0 e.aN env S funcs hR1 aA aA hkl (fF hok aA) gF hf (λ_=>⟨pO,henv⟩) aA) ?_
 rintro r h' ⟨vs,S1,t1,c1,rfl,⟨om1,og1,ov1,H1⟩,hvl,a1,a2,a3⟩
 have qP:=H1.box
 unfold c8 at qP
 simp -dsimp -implicitDefEqProofs only[go_sem,↓reduceIte,Tryz.f173,qP]
 refine⟨λhc=>?_,λhc=>?_⟩
 ·refine⟨_,_,bO _ _,0,S1,t1,c1,rfl,⟨_,_,_,H1⟩,by omega,a2,?_⟩
  rw[aE4 h3 hk]
  exact a3.dU aD3
 subst hc
 obtain⟨_,e2⟩:=a3.ok rfl
 obtain⟨q1,q2,q3,q4⟩:=o6 hp pO aA henv (fF hok aA) hf _ _ e2
 simp only at q1 q2 q3
 try simp -dsimp -implicitDefEqProofs only[go_sem,↓reduceIte,Tryz.f173,hk]
 have hiter:∀ (k:Nat) (us:List Int) (S2:dQ) (t:Nat) (c:Int),jN (tO (λvs t S=>sE (λt e S=>fH p n t e vs S) (p.outs e.bA) t S) k vs t1 S1) (us,S2) t c->k<=e.cH.toNat->(¬c=0∨k=e.cH.toNat)->jN (pL 0 (fH p (n+1) st e env S)) (us.getD e.cV.toNat 0,S2) t c:=λk us S2 t c ho hk1 hor=>by
  rw[aE4 h3 hk]
  refine a3.dU ?_
  rw[cZ]
  refine jN.then (v:=(us,S2)) (t:=t) (c:=c) ?_ (gW _ _ _)
  rcases hor with hc|rfl
  ·have:=ho.err hc
   rw[a2X _ k hk1 this]
   exact lB _ _ hc
  ·exact ho
 have hfl:∀ us t S2,Good inp S2 t->(us.length=f.aU.length/\∀ x∈us,rR S2 x)->t<=3000->v5 (aCR inp S2 t f.aU.length) (sE (λt e S=>fH p n t e us S) (p.outs e.bA) t S2):=λus w S2 hg' hv' hw=>by
  rw[F.eq]
  exact o6 hp hg' hw hv'.2 (funcs:=e.bA) (λx hx=>by rw[hv'.1,f7.2.2];exact F.oks x hx) aA
 refine cM o5 xX xY (λx:Nat×List Int×Nat×Int×dQ×aB=>[(0,.op nb 8 0 0),(4,.ip 5 [[I 11,I e.bA,I e.cV,I e.cH,gT 5 aC.c e.aN]] 0 0),(9,ints x.2.1),(10,I x.1)]) (λx=>x.2.2.2.2.2) (λx=>x.1<=e.cH.toNat/\x.2.1.length=f.aU.length/\t1<=x.2.2.1/\x.2.2.1<=3000/\jN (tO (λvs t S=>sE (λt e S=>fH p n t e vs S) (p.outs e.bA) t S) x.1 vs t1 S1) (x.2.1,x.2.2.2.2.1) x.2.2.1 x.2.2.2.1/\jQ h0 nb p inp x.2.2.2.2.1 x.2.2.1 x.2.2.2.1 x.2.2.2.2.2) (λx=>e.cH.toNat-x.1) (0,vs,t1,0,S1,h') ⟨by simp[cR,bZ],aB.le_refl _,eM _,by simp only;omega,bY _,a2,lR _ _,⟨_,_,_,H1⟩⟩ ?_
 rintro⟨k,us,t,c,S2,g⟩ ⟨hk1,hul,ht0,ht,ho,⟨om2,og2,ov2,H2⟩⟩
 simp only at hk1 hul ht0 ht ho H2 ⊢
 have sN:=H2.box
 unfold c8 at sN
 have gp:us[e.cV.toNat]?=some (us.getD e.cV.toNat 0):=bW aA
 simp -dsimp -implicitDefEqProofs only[go_sem,↓reduceIte,Tryz.f173,sN,F.get,aV.aY,gp]
 refine⟨λhlt=>⟨λhc=>⟨f1,f2,?_⟩,λhc=>?_⟩,λhge=>?_⟩
 ·subst hc
  obtain⟨_,e3⟩:=jN.ok (c:=0) (by rw[cZ];exact ho) rfl
  obtain⟨w1,w2,w3,w4⟩:=xU hfl k vs t1 S1 q1 ⟨by omega,q3.2⟩ a2 _ _ e3
  simp only at w1 w2 w3
  refine aH.fX (tW hp hv h0 _ nb t 0 f.aU us S2 e.bA ⟨_,_,_,H2⟩ ht aA aA (by rw[hul,f7.2.2];exact F.oks) f1 aA (λ_=>⟨w1,w3.2⟩) aA) ?_
  rintro r h2 ⟨l2,S3,t2,c2,rfl,hR3,hl2,b1,b2,b3⟩
  simp -dsimp -implicitDefEqProofs only[go_sem,↓reduceIte,Tryz.f173]
  refine⟨(k+1,l2,t2,c2,S3,h2),⟨rfl,by rw[IntWalk.i64_in _ aA];rfl⟩,aB.le_refl _,⟨by omega,hl2,by simp only;omega,b2,?_,hR3⟩,by simp only;omega⟩
  simp only
  rw[aDC]
  refine ho.then ?_
  rw[F.eq]
  exact b3
 ·exact⟨f3,by omega,_,_,bO _ _,_,S2,t,c,rfl,⟨_,_,_,H2⟩,by omega,ht,hiter k us S2 t c ho hk1 (.inl hc)⟩
 ·exact⟨f3,by omega,_,_,bO _ _,_,S2,t,c,rfl,⟨_,_,_,H2⟩,by omega,ht,hiter k us S2 t c ho hk1 (.inr aA)⟩
theorem reg {p:aF} (hp:p.ok) {inp:Int}:∀ n,xZ p inp n
 |0=>λh0 h nb st c e env S funcs hb hst hn=>by omega
 |n+1=>λh0 h nb st c e env S funcs hb hst hn hok gF hf hgo hel=>by
  have hv:=reg hp (inp:=inp) n
  by_cases hs:¬c=0∨st=3000
  ·exact a6V hb hst hs
  have hc:c=0:=a4H λq=>hs (.inl q)
  have h3:st<3000:=by
   rcases bT st 3000 with h|h
   ·exact h
   ·exact absurd (.inr aA) hs
  subst hc
  obtain⟨hg,henv⟩:=hgo rfl
  rcases sD ((aC.dK _ _ _ _).1 hok).1 with hk|hk|hk|hk|hk|hk|hk|hk|hk|hk|hk
  ·exact bPB hp hv hb h3 hn hok gF hf hg henv hel hk
  ·exact bPC hp hv hb h3 hn hok gF hf hg henv hel hk
  ·exact bPF hp hv hb h3 hn hok gF hf hg henv hel hk
  ·exact bPG hp hv hb h3 hn hok gF hf hg henv hel hk
  ·exact bPH hp hv hb h3 hn hok gF hf hg henv hel hk
  ·exact bPI hp hv hb h3 hn hok gF hf hg henv hel hk
  ·exact bPJ hp hv hb h3 hn hok gF hf hg henv hel hk
  ·exact bPE hp hv hb h3 hn hok gF hf hg henv hel hk
  ·exact bPD hp hv hb h3 hn hok gF hf hg henv hel hk
  ·exact bI0 hp hv hb h3 hn hok gF hf hg henv hel hk
  ·exact bI1 hp hv hb h3 hn hok gF hf hg henv hel hk
structure rI where
 p6:Int
 bR:List bG
 v9:List jA
 aU:List Int
def rI.c (x:rI):List aE:=[I x.p6,gT 4 bG.c x.bR,gT 2 jA.c x.v9,ints x.aU]
theorem rI.aY (x:rI):x.c=[I x.p6,gT 4 bG.c x.bR,gT 2 jA.c x.v9,ints x.aU]:=rfl
def rJ (p:aF) (f:Int) (args:List Int):rI×Int:=match zB p f args with
 | .ok ((l,S),_)=>(⟨args.length,S.code,S.guards,l⟩,0)
 | .error c=>(⟨0,[],[],[]⟩,c)
theorem xW.seal {bx:dQ->Option Nat->Option Nat->Option Nat->bU} {h0 h F hh:aB} {nb:Nat} {inp:Int} {S:dQ} {om og ov:Option Nat} (H:xW bx h0 nb S om og ov h) (l:List Int) (d:Int)
  (hF:∀ n,some n=om∨some n=og->F n=h n) (hl:hh.le F) (hn:∀ n,some n=om∨some n=og->hh n=none) :
  Shift (.gK [.agg [I inp,j7 4 S.code.length om,j7 2 S.guards.length og,ints l],I d]) F (.gK [.agg [I inp,gT 4 bG.c S.code,gT 2 jA.c S.guards,ints l],I d]) hh:=by
 have hc:=H.code
 have hg:=H.gds
 have ap:=H.apart
 cases om with
 |none =>
  have hc0:S.code=[]:=oG.1 hc
  cases og with
  |none =>
   have hg0:S.guards=[]:=oG.1 hg
   rw[hc0,hg0]
   exact Shift.of (Sub.gK (.cons (Sub.agg (.cons (.refl _) (.cons (Sub.nil _ _) (.cons (Sub.nil _ _) (.cons (.refl _) .nil))))) (.cons (.refl _) .nil))) hl
  |some g =>
   have hgF:=(hF g (.inr rfl)).trans hg.2
   rw[hc0]
   refine Shift.trans (Shift.of (Sub.gK (.cons (Sub.agg (.cons (.refl _) (.cons (Sub.nil 4 false) (.cons (.refl _) (.cons (.refl _) .nil))))) (.cons (.refl _) .nil))) (aB.le_refl F)) ?_
   refine mU (n:=g) (sz:=2) (S.guards.map jA.c) (hn g (.inr rfl)) ?_ a4V ?_
   ·intro q
    by_cases e:q=g
    ·subst e;right;rw[aI];exact hgF.symm
    ·rw[aD _ _ _ _ e];exact hl q
   ·simp[aE.fS,mZ,j7,hJ]
 |some m =>
  have hmF:=(hF m (.inl rfl)).trans hc.2
  cases og with
  |none =>
   have hg0:S.guards=[]:=oG.1 hg
   rw[hg0]
   refine Shift.trans (Shift.of (Sub.gK (.cons (Sub.agg (.cons (.refl _) (.cons (.refl _) (.cons (Sub.nil 2 false) (.cons (.refl _) .nil))))) (.cons (.refl _) .nil))) (aB.le_refl F)) ?_
   refine mU (n:=m) (sz:=4) (S.code.map bG.c) (hn m (.inl rfl)) ?_ a4V ?_
   ·intro q
    by_cases e:q=m
    ·subst e;right;rw[aI];exact hmF.symm
    ·rw[aD _ _ _ _ e];exact hl q
   ·simp[aE.fS,mZ,j7,hJ]
  |some g =>
   have hgF:=(hF g (.inr rfl)).trans hg.2
   have hne:¬g=m:=λe=>((ap g).2.1 (by rw[e])).1 rfl
   refine Shift.trans (b:=.gK [.agg [I inp,j7 4 S.code.length (some m),gT 2 jA.c S.guards,ints l],I d]) (h2:=aT hh m (.row 4 (rowsOf bG.c S.code))) ?_ ?_
   ·refine mU (n:=g) (sz:=2) (S.guards.map jA.c) (by rw[aD _ _ _ _ hne];exact hn g (.inr rfl)) ?_ (by simp[jK,kK,j7];exact λe=>hne e.symm) ?_
    ·intro q
     by_cases e:q=g
     ·subst e;right;rw[aI];exact hgF.symm
     ·rw[aD _ _ _ _ e]
      by_cases e2:q=m
      ·subst e2;right;rw[aI];exact hmF.symm
      ·rw[aD _ _ _ _ e2];exact hl q
    ·have hne':¬m=g:=λe=>hne e.symm
     simp[aE.fS,mZ,j7,hJ,hne']
   ·refine mU (n:=m) (sz:=4) (S.code.map bG.c) (hn m (.inl rfl)) (aB.le_refl _) a4V ?_
    simp[aE.fS,mZ,j7,hJ]
theorem xW.keep {h0 h:aB} {nb:Nat} {bx:dQ->Option Nat->Option Nat->Option Nat->bU} {S:dQ} {om og ov:Option Nat} (H:xW bx h0 nb S om og ov h) {n:Nat} {o:bU} (hn:h0 n=some o):h n=some o/\¬n=nb/\¬some n=om/\¬some n=og/\¬some n=ov:=by
 have hne:∀ q,¬(q=nb∨some q=om∨some q=og∨some q=ov)∨h0 q=.none:=λq=>by
  by_cases e:q=nb∨some q=om∨some q=og∨some q=ov
  ·exact .inr (H.fresh q e)
  ·exact .inl e
 have h1:¬(n=nb∨some n=om∨some n=og∨some n=ov):=by
  rcases hne n with e|e
  ·exact e
  ·rw[hn]at e;cases e
 have e1:¬n=nb:=λe=>h1 (.inl e)
 have e2:¬some n=om:=λe=>h1 (.inr (.inl e))
 have e3:¬some n=og:=λe=>h1 (.inr (.inr (.inl e)))
 have e4:¬some n=ov:=λe=>h1 (.inr (.inr (.inr e)))
 exact⟨(H.upto n e1 e2 e3 e4).trans hn,e1,e2,e3,e4⟩
theorem xW.le {h0 h:aB} {nb:Nat} {bx:dQ->Option Nat->Option Nat->Option Nat->bU} {S:dQ} {om og ov:Option Nat} (H:xW bx h0 nb S om og ov h):h0.le h:=λq=>by
 cases e:h0 q with
 |none=>exact .inl rfl
 |some o=>right;exact(H.keep e).1.symm
theorem aV7 {h0:aB} {nb:Nat} (p:aF) (inp:Int) (hn:h0 nb=none):jQ h0 nb p inp ⟨[],[],[]⟩ 0 0 (aT h0 nb (c8 p inp ⟨[],[],[]⟩ none none none 0 0)) :=
 ⟨none,none,none,aI _ _ _,aLB _ _ _ _,rfl,rfl,rfl,λn h=>(by rcases h with rfl|h|h|h;exact hn;cases h;cases h;cases h),λn h1 _ _ _=>aD _ _ _ _ h1⟩
def aHY (args:List Int) (k:Nat):dQ:=⟨(List.range k).map λi:Nat=>⟨1,0,0,(i:Int)⟩,args.take k,[]⟩
def aPU (k:Nat):List Int:=(List.range k).map λi:Nat=>(i:Int)
theorem a6X (args:List Int):aHY args args.length=inS args:=by rw[aHY,nM];rfl
theorem aNO {args:List Int} {k:Nat} (hk:k<args.length):aHY args (k+1)=(aHY args k).put ⟨1,0,0,(k:Int)⟩ args[k]:=by
 rw[aHY,aHY,dQ.put,aXH,mY,iW hk];rfl
theorem a2Y (k:Nat):aPU (k+1)=aPU k++[(k:Int)]:=by rw[aPU,aPU,aXH,mY];rfl
@[go_sem] def a6Y:List Nat:=[0,1,2,3,6,7,8,9,10,11,12,28,30,44,45,46,47,77]
@[go_sem] def bPK:List Nat:=[3,43,57]
@[go_sem] def bPL:Marks:=λid=>match id with|6=>([9],(.op 0 (.op 1 (.op 2 (.op 3 (.op 4 (.op 5 (.op 6 (.op 7 (.op 8 (.op 9 (.op 10 .nil))))))))))),[])|15=>([4,5],(.op 0 (.op 1 (.op 2 (.op 3 (.op 4 (.op 5 (.op 6 .nil))))))),[(4,5)])|_=>([],.nil,[])
theorem a6Z {p:aF} (hp:p.ok) (hps:p.s<=4194304) (f:Int) (hf:0<=f/\f<p.aK.length) (args:List Int) (ha:eI args) (bV9:args.length<=12) (hl:∀ F,p.aK[f.toNat]?=some F->(args.length:Int)=F.aR) :
  fR Tryz.prog 29 [.agg p.c,I f,ints args] (.gK [.agg (rJ p f args).1.c,I (rJ p f args).2]):=by
 have hif:=aKZ p f hps
 obtain⟨F,ef,hF1,hF2,hF3,hF4⟩:=pZ hp hf
 have hla:=hl F ef
 rw[if_pos hp,if_pos aA]at hif
 simp only[aF.aY]at hif ⊢
 have han:=dX args F.aR
 rw[decide_eq_true (show(args.length:Int)=F.aR/\eI args from⟨hla,ha⟩)]at han
 refine mP 87 a6Y bPK bPL Tryz.func29 λh=>?_
 simp -dsimp -implicitDefEqProofs only[go_sem,↓reduceIte,Tryz.f29,ef,aV.aY]
 intro n6 z6
 try simp -dsimp -implicitDefEqProofs only[go_sem,↓reduceIte,Tryz.f29,ef,aV.aY]
 first|refine aH.mk (hif) ?_|refine aG.mk (hif) ?_|refine aH.bH (hif) ?_|refine aG.mk (bB.dI (hif)) ?_
 simp -dsimp -implicitDefEqProofs only[go_sem,↓reduceIte,Tryz.f29,ef,aV.aY]
 refine⟨hf.1,hf.2,?_⟩
 first|refine aH.mk (han) ?_|refine aG.mk (han) ?_|refine aH.bH (han) ?_|refine aG.mk (bB.dI (han)) ?_
 simp -dsimp -implicitDefEqProofs only[go_sem,↓reduceIte,Tryz.f29,ef,aV.aY]
 refine⟨hf.1,hf.2,λnb ⟨hb6,zb⟩=>⟨aX,λ_=>?_⟩⟩
 obtain⟨bB2,aZ2,aZ3,bSS⟩:=cW (show ¬nb=n6 from hb6)
 generalize hh6:aT h n6 (.row 4 [[.v (.int .i64 0),.v .bS,.v .bS,.v .bS]])=h6
 have zb6:h6 nb=none:=by rw[←hh6,aD _ _ _ _ bB2];exact zb
 have hin:=aV7 (h0:=h6) p F.aR zb6
 refine cM a6Y bPK bPL (λx:Nat×aB×Option Nat=>[(1,I f),(3,.ip 1 [[gT 3 aV.c p.aK]] 0 0),(6,.op n6 4 0 0),(9,.op nb 8 0 0),(10,fT 1 x.1 x.2.2),(44,ints args),(45,I args.length),(46,I x.1)]) (λx=>cQ x.2.1 (.row 1 (((aPU x.1).map λn=>[I n]).map (List.map .v))) x.2.2) (λx=>x.1<=args.length/\jQ h6 nb p F.aR (aHY args x.1) 0 0 x.2.1/\eU x.2.1 (aPU x.1) x.2.2) (λx=>args.length-x.1) (0,aT h6 nb (c8 p F.aR ⟨[],[],[]⟩ none none none 0 0),none) ⟨by simp[cR,bZ,fT],aB.le_refl _,eM _,hin,rfl⟩ ?_
 rintro⟨k,g,o⟩ ⟨hk,hR,hos⟩
 simp only at hk hR hos ⊢
 have hel:(aPU k).length=k:=by simp[aPU]
 rcases bT k args.length with hlt|hge
 ·have ek:args[k]?=some args[k]:=fC hlt
  have hsl:(aHY args k).code.length=(aHY args k).eT.length:=by simp[aHY];omega
  have hvl:(aHY args k).eT.length=k:=by simp[aHY];omega
  have hy:=a2Y k
  cases o with
  |none =>
   rw[aZ]at hos
   have k0:k=0:=by rw[←hel,hos];rfl
   subst k0
   simp -dsimp -implicitDefEqProofs only[go_sem,↓reduceIte,Tryz.f29,bD,aM,hlt,ek]
   refine aH.fX (aLC hR ⟨1,0,0,((0:Nat):Int)⟩ args[0] hsl aA) ?_
   rintro r h' ⟨rfl,hR2⟩
   simp -dsimp -implicitDefEqProofs only[go_sem,↓reduceIte,Tryz.f29]
   refine⟨aX,aX,aX,λb sN=>⟨(1,h',some b),⟨rfl,by rw[IntWalk.i64_in _ aA];rfl⟩,?_,⟨hlt,by rw[aNO hlt];exact hR2,sN⟩,by simp only;omega⟩⟩
   rw[hvl]
   exact aB.le_refl _
  |some m =>
   rw[aP]at hos
   simp -dsimp -implicitDefEqProofs only[go_sem,↓reduceIte,Tryz.f29,aQ,aJ,hlt,ek]
   refine aH.fX (aLC (hR.aTQ hos) ⟨1,0,0,(k:Int)⟩ args[k] hsl aA) ?_
   rintro r h' ⟨rfl,hR2⟩
   obtain⟨g2,rfl,hg2,hR2⟩:=hR2.base (hR.none hos)
   simp -dsimp -implicitDefEqProofs only[go_sem,↓reduceIte,Tryz.f29]
   refine⟨aX,aX,aX,Nat.le_of_eq hel.symm,by omega,by omega,λb ⟨hbm,sN⟩=>⟨(k+1,g2,some b),⟨rfl,by rw[IntWalk.i64_in _ aA];rfl⟩,?_,⟨hlt,by rw[aNO hlt];exact hR2,sN⟩,by simp only;omega⟩⟩
   simp only[aJ]
   rw[hvl,hy,←dS (λn=>I n),hel]
   exact jL hg2
 ·have hk':k=args.length:=by omega
  subst hk'
  rw[a6X]at hR
  have hg0:=aK9 args ha bV9
  rw[hla]at hg0
  have hie:aPU args.length=inE args:=rfl
  have hall:∀ {h0 g:aB},jQ h0 nb p F.aR (inS args) 0 0 g->iD Tryz.prog 101 [.op nb 8 0 0,gT 5 aC.c F.aU,ints (inE args)] g (bF1 h0 nb p F.aR 0 0 F.aU.length (sE (λt e S=>fH p 3001 t e (inE args) S) F.aU 0 (inS args))):=λhR =>
   tW hp (reg hp 3001) _ _ nb 0 0 F.aU (inE args) (inS args) f hR aA aA aA (λx hx=>by rw[←hie,hel,hla];exact hF4 x hx) hf.1 aA (λ_=>⟨hg0,aV5 args⟩) (by rw[←hie,hel];omega)
  cases o with
  |none =>
   rw[aZ,hie]at hos
   simp -dsimp -implicitDefEqProofs only[go_sem,↓reduceIte,Tryz.f29,bD,aM,bV,cY,ef,aV.aY]
   refine⟨hf.1,hf.2,aH.fX (iD.sub (.cons (.refl _) (.cons (.refl _) (.cons (by rw[hos];exact Sub.loose _ _ _) .nil))) (hall hR)) ?_⟩
   rintro r h2 ⟨l,S2,t2,c2,rfl,⟨om,og,ov,H2⟩,hll,a1,a2,a3⟩
   have sN:=H2.box
   unfold c8 at sN
   have hz:=H2.keep (n:=n6) (by rw[←hh6,aI])
   have hz1:=hz.1
   simp -dsimp -implicitDefEqProofs only[go_sem,↓reduceIte,Tryz.f29,sN,hz1,aZ2,aZ3,aD]
   generalize hE:h2=h2H at *
   have hle:h.le h2H:=by
    have h1:=H2.le
    rw[←hh6]at h1
    intro q
    by_cases e:q=n6
    ·subst e;exact .inl z6
    ·have:=h1 q
     rwa [aD _ _ _ _ e]at this
   have hfr:∀ n,some n=om∨some n=og->h n=none/\¬n=n6/\¬n=nb:=λn hn=>by
    have h1:=H2.fresh n bED
    have h3:¬n=n6:=λe=>by rw[←hh6,e,aI]at h1;cases h1
    refine⟨by rwa [←hh6,aD _ _ _ _ h3]at h1,h3,λe=>?_⟩
    rcases hn with hn|hn
    ·exact((H2.apart n).1 e).1 hn
    ·exact((H2.apart n).1 e).2.1 hn
   refine⟨λhc=>?_,λhc=>⟨by rw[oW,oW];rfl,?_⟩⟩
   ·have e2:rJ p f args=(⟨0,[],[],[]⟩,c2):=by
     rw[cZ]at a3
     rw[rJ,zB,hF3,a3.err hc]
    rw[e2]
    exact Shift.of (Sub.gK (.cons (Sub.agg (.cons (.refl _) (.cons (Sub.nil 4 false) (.cons (Sub.nil 2 false) (.cons (Sub.nil 1 false) .nil))))) (.cons (.refl _) .nil))) (aB.bM z6 (aB.bM zb (hle)))
   ·obtain⟨_,e1⟩:=a3.ok hc
    have e2:rJ p f args=(⟨args.length,S2.code,S2.guards,l⟩,0):=by
     rw[rJ,zB,hF3,e1]
    rw[e2,rI.aY,hla]
    refine H2.seal l 0 (λn hn=>?_) (aB.bM z6 (aB.bM zb (hle))) (λn hn=>(hfr n hn).1)
    obtain⟨v1,v2,v3⟩:=hfr n hn
    rw[aD _ _ _ _ v2,aD _ _ _ _ v3]
  |some m =>
   rw[aP]at hos
   simp -dsimp -implicitDefEqProofs only[go_sem,↓reduceIte,Tryz.f29,aQ,aJ,bV,cY,ef,aV.aY]
   obtain⟨nI,jI,jJ,rC⟩:=cW (show ¬nb=m from λe=>by obtain⟨_,_,_,H1⟩:=hR;have:=H1.box;rw[e,hos]at this;cases this)
   refine⟨hf.1,hf.2,aH.a6I rfl rfl nI (by rw[gX];exact hel.symm) hos ?_⟩
   refine iD.mono (hall (hR.aTQ (o:=.gone) hos)) ?_
   rintro r h2 ⟨l,S2,t2,c2,rfl,hR2,hll,a1,a2,a3⟩
   obtain⟨g3,rfl,hg3,⟨om,og,ov,H2⟩⟩:=hR2.base (hR.none hos)
   have sN:=H2.box
   unfold c8 at sN
   have hz:=H2.keep (n:=n6) (by rw[←hh6,aI])
   have hz1:=hz.1
   obtain⟨bI2,bI3,bI4,bWB⟩:=cW (show ¬n6=m from λe=>by rw[e,hg3]at hz1;cases hz1)
   simp -dsimp -implicitDefEqProofs only[go_sem,↓reduceIte,Tryz.f29,sN,hz1,aZ2,jI,aZ3,bI3,jJ,bI4,aD]
   have hgo:∀ n,some n=om∨some n=og->¬n=m:=λn hn e=>by
    have:=(H2.apart n).2.2.2 (by rw[e];exact hg3)
    rcases hn with hn|hn
    ·exact this.2.1 hn
    ·exact this.2.2.1 hn
   have hhm:h m=none:=by
    have h1:=hR.none hos
    rw[←hh6,aD _ _ _ _ (λe=>bI2 e.symm)]at h1
    exact h1
   generalize hE:g3=h2H at *
   have hle:h.le h2H:=by
    have h1:=H2.le
    rw[←hh6]at h1
    intro q
    by_cases e:q=n6
    ·subst e;exact .inl z6
    ·have:=h1 q
     rwa [aD _ _ _ _ e]at this
   have hfr:∀ n,some n=om∨some n=og->h n=none/\¬n=n6/\¬n=nb:=λn hn=>by
    have h1:=H2.fresh n bED
    have h3:¬n=n6:=λe=>by rw[←hh6,e,aI]at h1;cases h1
    refine⟨by rwa [←hh6,aD _ _ _ _ h3]at h1,h3,λe=>?_⟩
    rcases hn with hn|hn
    ·exact((H2.apart n).1 e).1 hn
    ·exact((H2.apart n).1 e).2.1 hn
   refine⟨λhc=>?_,λhc=>⟨by rw[oW,oW];rfl,?_⟩⟩
   ·have e2:rJ p f args=(⟨0,[],[],[]⟩,c2):=by
     rw[cZ]at a3
     rw[rJ,zB,hF3,a3.err hc]
    rw[e2]
    exact Shift.of (Sub.gK (.cons (Sub.agg (.cons (.refl _) (.cons (Sub.nil 4 false) (.cons (Sub.nil 2 false) (.cons (Sub.nil 1 false) .nil))))) (.cons (.refl _) .nil))) (aB.bM z6 (aB.bM zb (aB.bM hhm hle)))
   ·obtain⟨_,e1⟩:=a3.ok hc
    have e2:rJ p f args=(⟨args.length,S2.code,S2.guards,l⟩,0):=by
     rw[rJ,zB,hF3,e1]
    rw[e2,rI.aY,hla]
    refine H2.seal l 0 (λn hn=>?_) (aB.bM z6 (aB.bM zb (aB.bM hhm hle))) (λn hn=>(hfr n hn).1)
    obtain⟨v1,v2,v3⟩:=hfr n hn
    rw[aD _ _ _ _ v2,aD _ _ _ _ v3,aD _ _ _ _ (hgo n hn)]
def opW (k:Int) (a b:List Int):List Int:=if k=3 then iA a b else if k=4 then kD a b else if k=5 then mulL a b else if k=7 then eJ a 1000002 else gG a b
def opS (sz:Nat) (args rs:List (List Int)) (c:bG):List Int:=if c.gB=1 then args.getD c.bA.toNat []else if c.gB=2 then bX c.bA sz else opW c.gB (rs.getD c.fA.toNat []) (rs.getD c.fB.toNat [])
def l4 (sz:Nat) (args:List (List Int)) (code:List bG):Nat->List (List Int)
 |0=>[]
 |k+1=>l4 sz args code k++[opS sz args (l4 sz args code k) (code.getD k ⟨0,0,0,0⟩)]
theorem oH (sz:Nat) (args:List (List Int)) (code:List bG):∀ k,(l4 sz args code k).length=k
 |0=>rfl
 |k+1=>by rw[l4,nT,oH sz args code k];rfl
theorem x6 (sz:Nat) (args:List (List Int)) (code:List bG) {r k:Nat} (hr:r<k):∀ n,k<=n->(l4 sz args code n).getD r []=(l4 sz args code k).getD r []
 |0,h=>by omega
 |n+1,h=>by
  rcases bT n k with h1|h1
  ·have:k=n+1:=by omega
   rw[this]
  ·rw[←x6 sz args code hr n h1,l4,e8,uP (by rw[oH];omega),e8]
def fM (sz:Nat) (args:List (List Int)) (code:List bG) (r:Nat):List Int:=(l4 sz args code code.length).getD r []
theorem aV8 {sz:Nat} {args:List (List Int)} {code:List bG} {k:Nat} {c:bG} (e:code[k]?=some c):fM sz args code k=opS sz args (l4 sz args code k) c:=by
 have h:=(iY.1 e).1
 rw[fM,x6 sz args code (sR k) code.length h,l4,e8,yD (by rw[oH];exact bY _),oH,sP,e8,e];rfl
theorem zC {sz:Nat} {args:List (List Int)} {code:List bG} {k:Nat} {c:bG} (e:code[k]?=some c) (h1:c.gB=1):fM sz args code k=args.getD c.bA.toNat []:=by rw[aV8 e,opS,if_pos h1]
theorem tX {sz:Nat} {args:List (List Int)} {code:List bG} {k:Nat} {c:bG} (e:code[k]?=some c) (h1:c.gB=2):fM sz args code k=bX c.bA sz:=by rw[aV8 e,opS,if_neg aA,if_pos h1]
theorem zD {sz:Nat} {args:List (List Int)} {code:List bG} {inp:Int} {k:Nat} {c:bG} (e:code[k]?=some c) (hi:bN inp k c) (h1:¬c.gB=1) (h2:¬c.gB=2):fM sz args code k=opW c.gB (fM sz args code c.fA.toNat) (fM sz args code c.fB.toNat):=by
 have h:=(iY.1 e).1
 unfold bN at hi
 rw[aV8 e,opS,if_neg h1,if_neg h2,fM,fM,x6 sz args code (k:=k) aA code.length aA,x6 sz args code (k:=k) aA code.length aA]
theorem bB3 {sz:Nat} (k:Int) {a b:List Int} (ha:aW sz a) (hb:aW sz b):aW sz (opW k a b):=by
 unfold opW
 repeat' split
 ·exact lL ha hb
 ·exact jO ha hb
 ·exact cF _ ha
 ·exact dM _ ha
 ·exact k8 _ ha
theorem l5 {sz:Nat} {args:List (List Int)} {code:List bG} {inp:Int} (hi:∀ i c,code[i]?=some c->bN inp i c) (ha:∀ s∈args,aW sz s) (hl:(args.length:Int)=inp) (k:Nat) (hk:k<code.length):aW sz (fM sz args code k):=by
 induction k using Nat.strongRecOn with
 |ind k ih =>
  have e:=fC hk
  have hc:=hi k _ e
  generalize code[k]=c at e hc
  by_cases h1:c.gB=1
  ·rw[zC e h1]
   unfold bN at hc
   exact iH ha aA
  by_cases h2:c.gB=2
  ·rw[tX e h2]
   have hn:iE c.bA:=by rcases hc with q|q|q|q <;> first|exact q.2.2.2|(have:=q.1;omega)
   exact cS hn
  ·rw[zD e hc h1 h2]
   unfold bN at hc
   exact bB3 _ (ih _ aA aA) (ih _ aA aA)
theorem bI5 {sz:Nat} (hsz:1<=sz) {k:Int} {a b:List Int} (ha:a.length=sz) (hb:b.length=sz) {v:Int} (h:opV k (a.getD 0 0) (b.getD 0 0)=some v):(opW k a b).getD 0 0=v:=by
 obtain⟨x,a',rfl⟩:∃ x a',a=x::a':=by
  cases a with
  |nil=>simp at ha;omega
  |cons x a'=>exact⟨x,a',rfl⟩
 obtain⟨y,b',rfl⟩:∃ x a',b=x::a':=by
  cases b with
  |nil=>simp at hb;omega
  |cons x a'=>exact⟨x,a',rfl⟩
 have g:∀ (z:Int) (l:List Int),(z::l).getD 0 0=z:=λ_ _=>rfl
 rw[g,g]at h
 unfold opV at h
 unfold opW
 by_cases h3:k=3
 ·rw[if_pos h3]at h ⊢
  rw[←gO h];rfl
 rw[if_neg h3]at h ⊢
 by_cases h4:k=4
 ·rw[if_pos h4]at h ⊢
  rw[←gO h]
  show(x+y*1000002%1000003)%1000003=_
  omega
 rw[if_neg h4]at h ⊢
 by_cases h5:k=5
 ·rw[if_pos h5]at h ⊢
  obtain⟨t,e⟩:=aBT x a' (y::b')
  rw[e,←gO h];rfl
 rw[if_neg h5]at h ⊢
 by_cases h7:k=7
 ·rw[if_pos h7]at h ⊢
  rw[←gO h]
  show x*1000002%1000003=_
  omega
 rw[if_neg h7]at h ⊢
 by_cases hy:y=0
 ·rw[if_pos hy]at h;cases h
 ·rw[if_neg hy]at h
  obtain⟨t,e⟩:=xO x a' (y::b') a'.length
  rw[gG,aB9,e,←gO h];rfl
theorem then_ok {α β:Type} {x:Out α} {f:α->Nat->Out β} {w:β} {u:Nat} (h:x.andThen f=.ok (w,u)):∃ v t,x=.ok (v,t)/\f v t=.ok (w,u):=by
 cases x with
 |ok p=>obtain⟨v,t⟩:=p;exact⟨v,t,rfl,h⟩
 |error c=>cases h
structure a60 (inp:Int) (F:dQ) (N:Nat->Prop):Prop where
 ins:∀ i c,F.code[i]?=some c->bN inp i c
 ops:∀ (i:Nat) (c:bG),F.code[i]?=some c->N i->(3<=c.gB/\c.gB<=6->N c.fA.toNat/\N c.fB.toNat)/\(c.gB=7->N c.fA.toNat)
 gds:∀ g∈F.guards,N g.a2W.toNat
 div:∀ (i:Nat) (c:bG),F.code[i]?=some c->c.gB=6->N c.fB.toNat
def HD (rg:Nat->List Int) (N:Nat->Prop) (S:dQ):Prop:=(∀ i,i<S.eT.length->N i->(rg i).getD 0 0=S.eT.getD i 0)/\∀ (i:Nat) (c:bG),S.code[i]?=some c->c.gB=6->¬S.val c.fB=0
def a2Z (rg:Nat->List Int) (F:dQ) (N:Nat->Prop) (X:Out (Int×dQ)) (Y:Out (List Int)):Prop:=∀ r S' u,X=.ok ((r,S'),u)->S'.ext F->Y=.ok (rg r.toNat,u)/\HD rg N S'
def bB4 (rg:Nat->List Int) (F:dQ) (N:Nat->Prop) (X:Out (List Int×dQ)) (Y:Out (List (List Int))):Prop:=∀ r S' u,X=.ok ((r,S'),u)->S'.ext F->Y=.ok (r.map λk=>rg k.toNat,u)/\HD rg N S'
theorem x7 {rg:Nat->List Int} {F:dQ} {N:Nat->Prop} {ev:Nat->aC->dQ->Out (Int×dQ)} {ev':Nat->aC->Out (List Int)} {inp:Int}:∀ (l:List aC) (t:Nat) (S:dQ),Good inp S t->t<=3000->HD rg N S->(∀ e∈l,∀ u S',Good inp S' u->S.ext S'->qA S t S' u->v5 (aK7 inp S' u) (ev u e S')/\(HD rg N S'->a2Z rg F N (ev u e S') (ev' u e)))->bB4 rg F N (sE ev l t S) (l3 ev' l t)
 | [],t,S,hg,ht,hd,_=>λr S' u h _=>by
  cases h
  exact⟨rfl,hd⟩
 |e::l,t,S,hg,ht,hd,h=>λr S' u hx he=>by
  obtain⟨h1,h2⟩:=h e aAL t S hg S.u9 (.refl ht)
  rw[sE]at hx
  obtain⟨⟨r1,S1⟩,t1,e1,hx⟩:=then_ok hx
  obtain⟨q1,q2,q3,q4⟩:=h1 _ _ e1
  simp only at hx q1 q2 q3 q4
  obtain⟨⟨rs,S2⟩,t2,e2,hx⟩:=then_ok hx
  cases hx
  have hl:=λx hx u' S' a b c=>h x (wN _ hx) u' S' a (q2.trans b) (q4.trans c)
  have hk:=lS l t1 S1 q1 q4.2.2.2 (λx hx u' S' a b c=>(hl x hx u' S' a b c).1) _ _ e2
  obtain⟨a1,a2⟩:=h2 hd r1 S1 t1 e1 (hk.2.1.trans he)
  obtain⟨b1,b2⟩:=x7 l t1 S1 q1 q4.2.2.2 a2 hl rs _ _ e2 he
  rw[l3,a1,Out.andThen_ok,b1]
  exact⟨rfl,b2⟩
theorem aNP {rg:Nat->List Int} {F:dQ} {N:Nat->Prop} {f:List Int->Nat->dQ->Out (List Int×dQ)} {g:List (List Int)->Nat->Out (List (List Int))} {inp:Int} {m:Nat} (h:∀ vs t S,Good inp S t->(vs.length=m/\∀ x∈vs,rR S x)->t<=3000->v5 (aCR inp S t m) (f vs t S)/\(HD rg N S->bB4 rg F N (f vs t S) (g (vs.map λk=>rg k.toNat) t))) :
  ∀ (n:Nat) (vs:List Int) (t:Nat) (S:dQ),Good inp S t->(vs.length=m/\∀ x∈vs,rR S x)->t<=3000->HD rg N S->bB4 rg F N (tO f n vs t S) (qM g n (vs.map λk=>rg k.toNat) t)
 |0,vs,t,S,hg,hv,ht,hd=>λr S' u hx _=>by
  cases hx
  exact⟨rfl,hd⟩
 |n+1,vs,t,S,hg,hv,ht,hd=>λr S' u hx he=>by
  obtain⟨h1,h2⟩:=h vs t S hg hv ht
  rw[tO]at hx
  obtain⟨⟨r1,S1⟩,t1,e1,hx⟩:=then_ok hx
  obtain⟨q1,q2,q3,q4⟩:=h1 _ _ e1
  simp only at hx q1 q2 q3 q4
  have hk:=xU (λvs t S a b c=>(h vs t S a b c).1) n r1 t1 S1 q1 q3 q4.2.2.2 _ _ hx
  obtain⟨a1,a2⟩:=h2 hd r1 S1 t1 e1 (hk.2.1.trans he)
  obtain⟨b1,b2⟩:=aNP h n r1 t1 S1 q1 q3 q4.2.2.2 a2 r S' u hx he
  rw[qM,a1,Out.andThen_ok,b1]
  exact⟨rfl,b2⟩
theorem a61 {S F:dQ} {inp:Int} {t:Nat} {c:bG} {v:Int} (hg:Good inp S t) (he:(S.put c v).ext F):F.code[S.eT.length]?=some c:=by
 obtain⟨x,hx⟩:=he.1
 rw[←hx,dQ.put,aOJ,yD (by rw[hg.len];exact bY _),hg.len,sP];rfl
theorem HD.put {rg:Nat->List Int} {N:Nat->Prop} {S:dQ} (h:HD rg N S) {inp:Int} {t:Nat} (hg:Good inp S t) {c:bG} {v:Int} (hv:N S.eT.length->(rg S.eT.length).getD 0 0=v) (hz:c.gB=6->¬S.val c.fB=0/\rR S c.fB):HD rg N (S.put c v):=by
 refine⟨λi hi hn=>?_,λi d hd h6=>?_⟩
 ·rw[dQ.put,nT,nN]at hi
  show _=(S.eT++[v]).getD i 0
  rw[e8 (l:=S.eT++[v])]
  rcases bT i S.eT.length with h1|h1
  ·rw[uP h1,←e8];exact h.1 i h1 hn
  ·obtain rfl:i=S.eT.length:=by omega
   rw[yD (bY _),sP];exact hv hn
 ·have hx:=S.aIS c v
  rcases bT i S.code.length with h1|h1
  ·rw[dQ.put,uP h1]at hd
   have hin:=hg.ins i d hd
   have hl:=hg.len
   unfold bN at hin
   rw[hx.val aA aA]
   exact h.2 i d hd h6
  ·rw[dQ.put,yD h1]at hd
   obtain⟨h2,h3⟩:=iY.1 hd
   simp at h2 h3
   subst h3
   rw[hx.val (hz h6).2.1 (hz h6).2.2]
   exact(hz h6).1
theorem vA {rg:Nat->List Int} {l:List Int} {i:Nat} (hi:i<l.length):(l.map λk=>rg k.toNat).getD i []=rg (l.getD i 0).toNat:=by
 simp[e8,fC hi]
theorem bB5 {sz:Nat} (hsz:1<=sz) {args:List (List Int)} {inp:Int} {F:dQ} {N:Nat->Prop} (C:a60 inp F N) (ha:∀ s∈args,aW sz s) (hl:(args.length:Int)=inp) {k:Int} {vs:List Int} {S:dQ} {t m:Nat} (hk:k=3∨k=4∨k=5∨k=6∨k=7) (hm:vs.length=m/\∀ x∈vs,rR S x) (hm1:1<=m) (hm2:¬k=7->2<=m) (hg:Good inp S t) (hd:HD (fM sz args F.code) N S):a2Z (fM sz args F.code) F N (opR k vs S t) (opE k (vs.map λk=>fM sz args F.code k.toNat) t):=λr S' u hx he=>by
 have at_:∀ i,i<m->rR S (vs.getD i 0):=λi hi=>by
  rw[e8,fC aA]
  exact hm.2 _ (lF _)
 unfold opR at hx
 split at hx
 ·cases hx
 rename_i v hv
 cases hx
 have ec:=a61 hg he
 have hin:=C.ins _ _ ec
 have hrs:=λi (hi:i<F.code.length)=>l5 (sz:=sz) C.ins ha hl i hi
 have hF:S.eT.length<F.code.length:=(iY.1 ec).1
 have e0:=zD (sz:=sz) (args:=args) ec hin (by simp only;omega) (by simp only;omega)
 simp only at e0
 have i0:=at_ 0 aA
 have iB:0<=opB k vs/\opB k vs<S.eT.length:=by
  unfold opB
  split
  ·unfold rR at i0;omega
  ·rename_i h7
   exact at_ 1 (hm2 h7)
 have s0:=hrs (vs.getD 0 0).toNat (by unfold rR at i0;omega)
 have s1:=hrs (opB k vs).toNat aA
 have hN:N S.eT.length->N (vs.getD 0 0).toNat/\(¬k=7->N (opB k vs).toNat):=λhn=>by
  have ho:=C.ops _ _ ec hn
  simp only at ho
  by_cases h7:k=7
  ·exact⟨ho.2 h7,λq=>absurd h7 q⟩
  ·have h36:=ho.1 aA
   exact⟨h36.1,λ_=>h36.2⟩
 have hd0:∀ x:Int,0<=x/\x<S.eT.length->N x.toNat->(fM sz args F.code x.toNat).getD 0 0=S.val x:=λx hx hn=>hd.1 x.toNat aA hn
 have hzz:k=6->¬S.val (opB k vs)=0:=λq q2=>by
  rw[q2,q,opV,if_neg b6,if_neg b6,if_neg b6,if_neg b6,if_pos rfl]at hv
  cases hv
 refine⟨?_,hd.put hg (λhn=>?_) (λq=>⟨hzz q,iB⟩)⟩
 ·rw[r8,e0]
  have g0:=vA (rg:=fM sz args F.code) (l:=vs) (i:=0) aA
  unfold opE opW
  rcases hk with rfl|rfl|rfl|rfl|rfl
  all_goals simp only[reduceCtorEq,if_true,if_false,Int.reduceEq]
  ·rw[g0,vA (rg:=fM sz args F.code) (i:=1) aX3];rfl
  ·rw[g0,vA (rg:=fM sz args F.code) (i:=1) aX3];rfl
  ·rw[g0,vA (rg:=fM sz args F.code) (i:=1) aX3];rfl
  ·have hdv:=C.div _ _ ec rfl
   have e6:=hd0 _ iB hdv
   rw[show opB 6 vs=vs.getD 1 0 from rfl]at e6
   rw[g0,vA (rg:=fM sz args F.code) (i:=1) aX3,e6]
   rw[show opB 6 vs=vs.getD 1 0 from rfl]at hv
   have hz:¬S.val (vs.getD 1 0)=0:=λq=>by
    rw[opV,if_neg b6,if_neg b6,if_neg b6,if_neg b6,if_pos q]at hv
    cases hv
   rw[if_neg hz];rfl
  ·rw[g0]
 ·obtain⟨n0,n1⟩:=hN hn
  rw[e0]
  refine bI5 hsz s0.1 s1.1 ?_
  rw[hd0 _ i0 n0]
  by_cases h7:k=7
  ·subst h7
   rw[←hv];rfl
  ·rw[hd0 _ iB (n1 h7)];exact hv
theorem aTT {p:aF} (hp:p.ok) {sz:Nat} (hsz:1<=sz) {args:List (List Int)} {inp:Int} {F:dQ} {N:Nat->Prop} (C:a60 inp F N) (ha:∀ s∈args,aW sz s) (hl:(args.length:Int)=inp):∀ (n t:Nat) (e:aC) (env:List Int) (S:dQ) (funcs:Int),e.ok p funcs env.length->funcs<=p.aK.length->Good inp S t->t<=3000->(∀ x∈env,rR S x)->HD (fM sz args F.code) N S->a2Z (fM sz args F.code) F N (fH p n t e env S) (iZ p sz n t e (env.map λk=>fM sz args F.code k.toNat))
 |0,t,e,env,S,funcs,_,_,_,_,_,_=>λr S' u hx _=>by rw[fH]at hx;cases hx
 |n+1,t,e,env,S,funcs,hok,hf,hg,ht,henv,hd=>by
  have ih:=aTT hp hsz C ha hl n
  have io:=v7 hp (inp:=inp) n
  have hnode:=((aC.dK _ _ _ _).1 hok).1
  by_cases h3:t=3000
  ·intro r S' u hx _
   rw[fH,if_pos h3]at hx;cases hx
  have pO:=hg.vZ (qD t)
  have hcap:=hg.cap
  have hgcap:=hg.aAG
  have henvE:∀ {S'},S.ext S'->∀ x∈env,rR S' x:=λe x hx=>(henv x hx).ext e
  have kidsS:¬e.aS=9->∀ x∈e.aN,∀ u S',Good inp S' u->S.ext S'->qA S (t+1) S' u->v5 (aK7 inp S' u) (fH p n u x env S')/\(HD (fM sz args F.code) N S'->a2Z (fM sz args F.code) F N (fH p n u x env S') (iZ p sz n u x (env.map λk=>fM sz args F.code k.toNat))):=λh9 x hx u S' a b c =>
   ⟨io u x env S' funcs (fF hok h9 x hx) hf a c.2.2.2 (henvE b),λhd'=>ih u x env S' funcs (fF hok h9 x hx) hf a c.2.2.2 (henvE b) hd'⟩
  intro r S' u hx he
  rcases sD hnode with hk|hk|hk|hk|hk|hk|hk|hk|hk|hk|hk
  ·rw[aPR h3 hk]at hx
   rw[aTE h3 hk]
   cases hx
   have ec:=a61 hg he
   have er:=tX (sz:=sz) (args:=args) ec rfl
   rw[r8,er]
   refine⟨rfl,hd.put hg (λ_=>?_) (λq=>absurd (show(2:Int)=6 from q) b6)⟩
   rw[er]
   obtain⟨w,rfl⟩:∃ w,sz=w+1:=⟨sz-1,by omega⟩
   simp[bX,aJC]
  ·rw[aPS h3 hk]at hx
   rw[aTF h3 hk]
   cases hx
   have hn:=((dT aA).1 hnode).2.2.2.2.1 hk
   exact⟨by rw[vA aA],hd⟩
  iterate 5
   ·have hlen:=eD hok aA
    rw[hk]at hlen
    rw[oZ h3 aA]at hx
    rw[pM h3 aA]
    have hs:=kidsS aA
    obtain⟨⟨rs,S1⟩,t1,e1,hx⟩:=then_ok hx
    simp only at hx
    have hrk:=lS _ _ S pO aA (λx hx u S' a b c=>(hs x hx u S' a b c).1) _ _ e1
    obtain⟨r1,r2,r3,r4⟩:=hrk
    have hex:S1.ext S':=by
     have hx2:=hx
     unfold opR at hx2
     split at hx2
     ·cases hx2
     ·cases hx2;exact S1.aIS _ _
    obtain⟨a1,a2⟩:=x7 _ _ S pO aA hd hs _ _ _ e1 (hex.trans he)
    rw[a1,Out.andThen_ok]
    exact bB5 hsz C ha hl aA r3 aRN (λq=>by unfold eO at hlen;simp at hlen;omega) r1 a2 _ _ _ hx he
  ·have hlen:=eD hok aA
   rw[hk,show eO 8=3 from rfl]at hlen
   have o0:=aC.eZ hok (i:=0) aA
   have o1:=aC.eZ hok (i:=1) aA
   have o2:=aC.eZ hok (i:=2) aA
   rw[iG aA]at o0 o1 o2
   rw[aBH h3 hk]at hx
   rw[aK1 h3 hk]
   obtain⟨⟨rr,S1⟩,t1,e1,hx⟩:=then_ok hx
   simp only at hx
   obtain⟨r1,r2,r3,r4⟩:=io _ _ _ _ _ o0 hf pO aA henv _ _ e1
   simp only at r1 r2 r3 r4
   have r4':=r4
   unfold qA at r4'
   have go:∀ (b:Bool) (k:aC),k.ok p funcs env.length->fH p n t1 k env (S1.guard ⟨rr,b⟩)=.ok ((r,S'),u)->(S1.ext F/\N rr.toNat)/\(HD (fM sz args F.code) N S1->iZ p sz n t1 k (env.map λk=>fM sz args F.code k.toNat)=.ok (fM sz args F.code r.toNat,u)/\HD (fM sz args F.code) N S'):=λb k hk hq=>by
    have hx1:S1.ext (S1.guard ⟨rr,b⟩):=S1.sG _
    have hgd:=r1.guard (b:=b) r3 aA
    obtain⟨q1,q2,q3,q4⟩:=io t1 k env _ _ hk hf hgd aA (henvE (r2.trans hx1)) _ _ hq
    simp only at q2
    refine⟨⟨hx1.trans (q2.trans he),?_⟩,λhdd=>ih t1 k env _ _ hk hf hgd aA (henvE (r2.trans hx1)) hdd _ _ _ hq he⟩
    have hm:(⟨rr,b⟩:jA)∈F.guards:=by
     have h1:(⟨rr,b⟩:jA)∈(S1.guard ⟨rr,b⟩).guards:=by simp[dQ.guard]
     exact(q2.trans he).2.2.subset h1
    exact C.gds _ hm
   by_cases hz:S1.val rr=0
   ·rw[if_pos hz]at hx
    obtain⟨⟨g1,g2⟩,g3⟩:=go _ _ o1 hx
    obtain⟨a1,a2⟩:=ih _ _ _ _ _ o0 hf pO aA henv hd _ _ _ e1 g1
    rw[a1,Out.andThen_ok,if_pos bEH]
    exact g3 a2
   ·rw[if_neg hz]at hx
    obtain⟨⟨g1,g2⟩,g3⟩:=go _ _ o2 hx
    obtain⟨a1,a2⟩:=ih _ _ _ _ _ o0 hf pO aA henv hd _ _ _ e1 g1
    rw[a1,Out.andThen_ok,if_neg bEH]
    exact g3 a2
  ·have hlen:=eD hok aA
   rw[hk,show eO 9=2 from rfl]at hlen
   have o0:=aC.eZ hok (i:=0) aA
   have o1:=aC.eZ hok (i:=1) aA
   rw[iG aA]at o0
   rw[hk,show jE 9 1 (env.length:Int)=env.length+1 from rfl]at o1
   rw[aPT h3 hk]at hx
   rw[aTG h3 hk]
   obtain⟨⟨rr,S1⟩,t1,e1,hx⟩:=then_ok hx
   simp only at hx
   obtain⟨r1,r2,r3,r4⟩:=io _ _ _ _ _ o0 hf pO aA henv _ _ e1
   simp only at r1 r2 r3 r4
   have bPM:∀ x∈env++[rr],rR S1 x:=λx hx=>by
    rcases nY.1 hx with hx|hx
    ·exact henvE r2 x hx
    ·rw[iO.1 hx];exact r3
   obtain⟨q1,q2,q3,q4⟩:=io t1 (e.oE 1) (env++[rr]) S1 funcs aGY hf r1 r4.2.2.2 bPM _ _ hx
   obtain⟨a1,a2⟩:=ih _ _ _ _ _ o0 hf pO aA henv hd _ _ _ e1 (q2.trans he)
   rw[a1,Out.andThen_ok]
   have:=ih t1 (e.oE 1) (env++[rr]) S1 funcs aGY hf r1 r4.2.2.2 bPM a2 _ _ _ hx he
   rwa [mY]at this
  ·obtain⟨f,Fc⟩:=nS hp hok hf (.inl hk)
   have f2:=Fc.hi
   have f4:=Fc.pk2
   rw[aE3 h3 hk]at hx
   rw[aGD h3 hk]
   have hs:=kidsS aA
   obtain⟨⟨rs,S1⟩,t1,e1,hx⟩:=then_ok hx
   simp only at hx
   obtain⟨r1,r2,r3,r4⟩:=lS _ _ S pO aA (λx hx u S' a b c=>(hs x hx u S' a b c).1) _ _ e1
   simp only at r1 r2 r3 r4
   have hco:(p.out e.bA e.cV).ok p e.bA rs.length:=by rw[r3.1,Fc.kids];exact Fc.oks _ (s5 Fc.out)
   obtain⟨q1,q2,q3,q4⟩:=io t1 _ rs S1 e.bA hco aA r1 r4.2.2.2 r3.2 _ _ hx
   obtain⟨a1,a2⟩:=x7 _ _ S pO aA hd hs _ _ _ e1 (q2.trans he)
   rw[a1,Out.andThen_ok]
   exact ih t1 _ rs S1 e.bA hco aA r1 r4.2.2.2 r3.2 a2 _ _ _ hx he
  ·obtain⟨f,Fc⟩:=nS hp hok hf (.inr hk)
   have f2:=Fc.hi
   have f4:=Fc.pk2
   have f9:=Fc.loop hk
   rw[aE4 h3 hk]at hx
   rw[aGE h3 hk]
   have hs:=kidsS aA
   obtain⟨⟨rs,S1⟩,t1,e1,hx⟩:=then_ok hx
   simp only at hx
   obtain⟨r1,r2,r3,r4⟩:=lS _ _ S pO aA (λx hx u S' a b c=>(hs x hx u S' a b c).1) _ _ e1
   simp only at r1 r2 r3 r4
   obtain⟨⟨rs2,S2⟩,t2,e2,hx⟩:=then_ok hx
   cases hx
   have hfl:∀ vs t S,Good inp S t->(vs.length=f.aU.length/\∀ x∈vs,rR S x)->t<=3000->v5 (aCR inp S t f.aU.length) (sE (λt e S=>fH p n t e vs S) (p.outs e.bA) t S)/\(HD (fM sz args F.code) N S->bB4 (fM sz args F.code) F N (sE (λt e S=>fH p n t e vs S) (p.outs e.bA) t S) (l3 (λt e=>iZ p sz n t e (vs.map λk=>fM sz args F.code k.toNat)) (p.outs e.bA) t)):=λvs w S' hg' hv hw=>by
    rw[Fc.eq]
    have hx2:∀ x∈f.aU,∀ u S'',Good inp S'' u->S'.ext S''->qA S' w S'' u->v5 (aK7 inp S'' u) (fH p n u x vs S'')/\(HD (fM sz args F.code) N S''->a2Z (fM sz args F.code) F N (fH p n u x vs S'') (iZ p sz n u x (vs.map λk=>fM sz args F.code k.toNat))):=λx hx u S'' a b c =>
     ⟨io u x vs S'' e.bA (by rw[hv.1,f9.2.2];exact Fc.oks x hx) aA a c.2.2.2 λy hy=>(hv.2 y hy).ext b,λhdd=>ih u x vs S'' e.bA (by rw[hv.1,f9.2.2];exact Fc.oks x hx) aA a c.2.2.2 (λy hy=>(hv.2 y hy).ext b) hdd⟩
    exact⟨lS _ _ S' hg' hw λx hx u S'' a b c=>(hx2 x hx u S'' a b c).1,λhdd=>x7 _ _ S' hg' hw hdd hx2⟩
   have hv0:rs.length=f.aU.length/\∀ x∈rs,rR S1 x:=⟨by have:=r3.1;have:=Fc.kids;omega,r3.2⟩
   have hk2:=xU (inp:=inp) (m:=f.aU.length) (λvs t S a b c=>(hfl vs t S a b c).1) _ _ _ _ r1 hv0 r4.2.2.2 _ _ e2
   obtain⟨a1,a2⟩:=x7 _ _ S pO aA hd hs _ _ _ e1 (hk2.2.1.trans he)
   rw[a1,Out.andThen_ok]
   obtain⟨b1,b2⟩:=aNP (inp:=inp) (m:=f.aU.length) (g:=λvs t=>l3 (λt e=>iZ p sz n t e vs) (p.outs e.bA) t) hfl _ _ _ _ r1 hv0 r4.2.2.2 a2 _ _ _ e2 he
   rw[b1,Out.andThen_ok]
   exact⟨by rw[vA (by have:=hk2.2.2.1.1;simp only at this;omega)],b2⟩
theorem aNQ {p:aF} (hp:p.ok) {sz:Nat} (hsz:1<=sz) {f:Int} (hf:0<=f/\f<p.aK.length) {mJ:List Int} (ha0:eI mJ) (hl0:∀ G,p.aK[f.toNat]?=some G->(mJ.length:Int)=G.aR) {L:List Int} {F:dQ} {u:Nat} (hX:zB p f mJ=.ok ((L,F),u)) {N:Nat->Prop} (C:a60 mJ.length F N) {args:List (List Int)} (ha:∀ s∈args,aW sz s) (hl:args.length=mJ.length) (hd:∀ i,i<mJ.length->N i->(args.getD i []).getD 0 0=mJ.getD i 0) :
  xP p sz f args=.ok (L.map λk=>fM sz args F.code k.toNat,u)/\HD (fM sz args F.code) N F:=by
 obtain⟨G,ef,hF1,hF2,hF3,hF4⟩:=pZ hp hf
 have hla:=hl0 G ef
 have hg:=aK9 mJ ha0 aA
 have hin:=aV5 mJ
 have hel:(inE mJ).length=mJ.length:=by simp[inE]
 obtain⟨q1,q2,q3,q4⟩:=(aE5 hp f hf mJ ha0 hl0).1 _ _ hX
 simp only at q1 q2 q3 q4
 have hcode:∀ i,i<mJ.length->F.code[i]?=some ⟨1,0,0,(i:Int)⟩:=λi hi=>by
  obtain⟨x,hx⟩:=q2.1
  rw[←hx,uP (by simp[inS];exact hi)]
  simp[inS,hi]
 have hrg:∀ i,i<mJ.length->fM sz args F.code i=args.getD i []:=λi hi=>by
  rw[zC (hcode i hi) rfl,r8]
 have hd0:HD (fM sz args F.code) N (inS mJ):=⟨λi hi hn=>by
  have hi':i<mJ.length:=hi
  rw[hrg i hi'];exact hd i hi' hn,λi c hc h6=>by
  obtain⟨h1,h2⟩:=iY.1 hc
  simp[inS]at h1 h2
  subst h2
  simp at h6⟩
 have hmap:(inE mJ).map (λk=>fM sz args F.code k.toNat)=args:=by
  apply tI
  ·rw[gX,hel,hl]
  ·intro i h1 h2
   rw[tJ]
   have e1:(inE mJ)[i]'(by rw[hel];omega)=(i:Int):=by simp[inE]
   rw[e1,r8,hrg i aA,e8,fC h2];rfl
 have hx2:∀ x∈p.outs f,∀ u S'',Good mJ.length S'' u->(inS mJ).ext S''->qA (inS mJ) 0 S'' u->v5 (aK7 mJ.length S'' u) (fH p 3001 u x (inE mJ) S'')/\(HD (fM sz args F.code) N S''->a2Z (fM sz args F.code) F N (fH p 3001 u x (inE mJ) S'') (iZ p sz 3001 u x args)):=λx hx u S'' a b c=>by
  have hxo:x.ok p f (inE mJ).length:=by rw[hel,hla];exact hF4 x (by rw[←hF3];exact hx)
  refine⟨v7 hp _ u x _ S'' f hxo aA a c.2.2.2 λy hy=>(hin y hy).ext b,λhdd=>?_⟩
  have:=aTT hp hsz C ha aA 3001 u x (inE mJ) S'' f hxo aA a c.2.2.2 (λy hy=>(hin y hy).ext b) hdd
  rwa [hmap]at this
 exact x7 _ _ _ hg aA hd0 hx2 _ _ _ hX F.u9
theorem aNR {a d:List Int} {i:Nat} (h1:i<a.length) (h2:i<d.length):(jH a d).getD i []=[a.getD i 0,d.getD i 0]:=by
 rw[jH,e8,e8,e8,aXI,fC h1,fC h2];rfl
theorem aGJ {n i k:Nat} (h:¬i=k):(eV n i).getD k 0=0:=by
 rw[eV,e8,mG h,sQ]
 split <;> rfl
theorem uN (n i:Nat):(eV n i).length=n:=by simp[eV]
theorem oJ (n i:Nat):eI (eV n i):=λx hx=>by
 rcases s6 hx with hx|rfl
 ·rw[(aGW.1 hx).2];unfold iE;omega
 ·unfold iE;omega
def jW (c:List Int) (a:Nat) (sd:Int):bU:=.row 3 [[.v (.sl 1 (c.map λn=>[.int .u8 n]) false),.v (I a),.v (.int .u64 sd)]]
theorem bI6 (x:Int):(0:Int)<=((BitVec.ofInt 64 x &&& BitVec.ofInt 64 255).toNat:Int)/\((BitVec.ofInt 64 x &&& BitVec.ofInt 64 255).toNat:Int)<=255:=by
 have h:(BitVec.ofInt 64 x &&& BitVec.ofInt 64 255).toNat<=255:=by
  rw[BitVec.toNat_and]
  exact aDW Nat.and_le_right b6
 omega
@[go_sem] def aZ4:List Nat:=[0,2,3,13,53]
@[go_sem] def bF3:Marks:=λid=>match id with|2=>([3,7],(.op 0 (.op 1 (.op 2 (.op 4 (.op 5 (.op 6 (.op 3 (.op 7 (.op 8 (.op 9 .nil)))))))))),[])|3=>([3,7,9],(.op 0 (.op 1 (.op 2 (.op 4 (.op 5 (.op 6 (.op 3 (.op 7 (.op 8 (.op 9 (.op 10 (.op 11 .nil)))))))))))),[])|6=>([3,7],(.op 0 (.op 1 (.op 2 (.op 4 (.op 5 (.op 6 (.op 3 (.op 7 (.op 8 (.op 9 .nil)))))))))),[])|_=>([],.nil,[])
theorem bF4 {ns:Nat} {c:List Int} (hc:∀ x∈c,InB x) (hl:c.length<=4096) {a:Nat} (ha:a<=1000000000) {sd:Int} {g:aB} (hg:g ns=some (jW c a sd)) :
  iD Tryz.prog 155 [.op ns 3 0 0] g λr h'=>∃ x sd',r=I x/\0<=x/\x<=255/\h'=aT g ns (jW c (a+1) sd'):=by
 have w1:IntKind.i64.wrap ((a:Int)+1)=((a+1:Nat):Int):=by rw[IntWalk.i64_in _ aA];omega
 unfold jW at hg
 rcases bT a c.length with hlt|hge
 ·have ea:c[a]?=some c[a]:=fC hlt
  obtain⟨b0,b1⟩:=hc _ (lF hlt)
  generalize c[a]=x at ea b0 b1
  have w2:IntKind.i64.wrap x=x:=IntWalk.i64_in _ aA
  have c1:(a<c.length)=True:=eq_true hlt
  have c2:(a+1<=c.length)=True:=eq_true hlt
  refine aHV 62 aZ4 cU bF3 Tryz.func155 ?_
  simp -dsimp -implicitDefEqProofs only[go_sem,↓reduceIte,Tryz.f155,hg,w1,dA,dB,dC,dD,dF,dZ,dR,fQ,ea,c1,c2,w2]
  rw[aL]
  exact⟨_,aB.le_refl _,x,_,rfl,b0,b1,rfl⟩
 ·have c1:(a<c.length)=False:=eq_false aA
  have c2:(a+1<=c.length)=False:=eq_false aA
  refine aHV 62 aZ4 cU bF3 Tryz.func155 ?_
  simp -dsimp -implicitDefEqProofs only[go_sem,↓reduceIte,Tryz.f155,hg,w1,dA,dB,dC,dD,dF,dZ,dR,fQ,c1,c2]
  rw[aL]
  generalize (IntKind.u64.wrap _:Int)=sd2
  obtain⟨b0,b1⟩:=bI6 (sd2.fdiv (2 ^ min (Int.toNat 40) 64))
  refine⟨_,aB.le_refl _,_,sd2,rfl,?_,?_,rfl⟩
  ·rw[show IntKind.u64.bits=64 from rfl,IntWalk.u64_in _ aA,IntWalk.i64_in _ aA];exact b0
  ·rw[show IntKind.u64.bits=64 from rfl,IntWalk.u64_in _ aA,IntWalk.i64_in _ aA];exact b1
@[go_sem] def a63:List Nat:=[0,1,4,5,7,11]
theorem r5 {ns:Nat} {c:List Int} (hc:∀ x∈c,InB x) (hl:c.length<=4096) {a:Nat} (ha:a<=900000000) {sd:Int} (n:Int) (hn:n<=100000) {g:aB} (hg:g ns=some (jW c a sd)) :
  iD Tryz.prog 81 [.op ns 3 0 0,I n] g λr h'=>∃ x a' sd',r=I x/\0<=x/\(1<=n->x<n)/\(n<=1->x=0)/\(a<=a'/\a'<=a+2)/\h'=aT g ns (jW c a' sd'):=by
 by_cases h1:n<=1
 ·refine aHV 20 a63 cU cG Tryz.func81 ?_
  simp -dsimp -implicitDefEqProofs only[go_sem,↓reduceIte,Tryz.f81,h1]
  exact⟨g,aB.le_refl _,0,a,sd,rfl,aFS _,λh=>by omega,rfl,by omega,(rA hg).symm⟩
 ·refine aHV 20 a63 cU cG Tryz.func81 ?_
  simp -dsimp -implicitDefEqProofs only[go_sem,↓reduceIte,Tryz.f81,h1]
  refine aH.fX (bF4 hc hl aA hg) ?_
  rintro r_ h' ⟨x,sd',rfl,x0,x1,rfl⟩
  simp -dsimp -implicitDefEqProofs only[go_sem,↓reduceIte,Tryz.f81]
  refine⟨λh2=>?_,λh2=>?_⟩
  ·refine aH.fX (bF4 hc hl (a:=a+1) aA (aI ..)) ?_
   rintro r_ h' ⟨y,sd2,rfl,y0,y1,rfl⟩
   simp -dsimp -implicitDefEqProofs only[go_sem,↓reduceIte,Tryz.f81]
   have e1:IntKind.i64.wrap (IntKind.i64.wrap (x*256)+y)=x*256+y:=by rw[IntWalk.i64_in (x*256) aA,IntWalk.i64_in _ aA]
   have e2:(x*256+y).tmod n=(x*256+y)%n:=uR aA
   have e3:=Int.emod_nonneg (x*256+y) (show n≠0 by omega)
   have e4:=Int.emod_lt_of_pos (x*256+y) (show 0<n by omega)
   rw[e1,e2,aL]
   exact⟨by omega,_,aB.le_refl _,_,a+1+1,sd2,rfl,e3,λ_=>e4,λq=>absurd q h1,by omega,rfl⟩
  ·have e2:x.tmod n=x%n:=uR x0
   have e3:=Int.emod_nonneg x (show n≠0 by omega)
   have e4:=Int.emod_lt_of_pos x (show 0<n by omega)
   rw[e2]
   exact⟨by omega,_,aB.le_refl _,_,a+1,sd',rfl,e3,λ_=>e4,λq=>absurd q h1,by omega,rfl⟩
theorem a64 {ns:Nat} {c:List Int} (hc:∀ x∈c,InB x) (hl:c.length<=4096) {a:Nat} (ha:a<=900000000) {sd:Int} (n:Int) (hn:n<=100000) {g:aB} (hg:g ns=some (jW c a sd)) :
  iD Tryz.prog 153 [.op ns 3 0 0,I n] g λr h'=>∃ x a' sd',r=.bool x/\(a<=a'/\a'<=a+2)/\h'=aT g ns (jW c a' sd'):=by
 refine aHV 9 aCC cU cG Tryz.func153 ?_
 simp -dsimp -implicitDefEqProofs only[go_sem,↓reduceIte,Tryz.f153]
 refine aH.fX (r5 hc hl ha n hn hg) ?_
 rintro r_ h' ⟨x,a',sd',rfl,-,-,-,ha',rfl⟩
 simp -dsimp -implicitDefEqProofs only[go_sem,↓reduceIte,Tryz.f153]
 exact⟨_,aB.le_refl _,_,a',sd',rfl,ha',rfl⟩
theorem bPN {ns:Nat} {c:List Int} (hc:∀ x∈c,InB x) (hl:c.length<=4096) {a:Nat} (ha:a<=900000000) {sd:Int} (l:List (List UInt8)) (bz:Bool) (h1:1<=l.length) (h2:l.length<=1000) {g:aB} (hg:g ns=some (jW c a sd)) :
  iD Tryz.prog 151 [.op ns 3 0 0,.sl 1 (l.map λs=>[.str s]) bz] g λr h'=>∃ x a' sd',r=.str x/\x∈l/\(a<=a'/\a'<=a+2)/\h'=aT g ns (jW c a' sd'):=by
 refine aHV 12 aCC cU cG Tryz.func151 ?_
 simp -dsimp -implicitDefEqProofs only[go_sem,↓reduceIte,Tryz.f151]
 intro _
 refine aH.fX (r5 hc hl ha l.length aA hg) ?_
 rintro r_ h' ⟨x,a',sd',rfl,x0,x1,-,ha',rfl⟩
 have x1:=x1 aA
 obtain⟨k,rfl⟩:∃ k:Nat,x=k:=⟨x.toNat,by omega⟩
 have ek:l[k]?=some l[k]:=fC aA
 simp -dsimp -implicitDefEqProofs only[go_sem,↓reduceIte,Tryz.f151,ek]
 exact⟨by omega,_,aB.le_refl _,_,a',sd',rfl,lF _,ha',rfl⟩
@[go_sem] def bB6:List Nat:=[0,2,4,5,10]
theorem bI7 {ns:Nat} {c:List Int} (hc:∀ x∈c,InB x) (hl:c.length<=4096) {a:Nat} (ha:a<=850000000) {sd:Int} {g:aB} (hg:g ns=some (jW c a sd)) :
  iD Tryz.prog 156 [.op ns 3 0 0] g λr h'=>∃ x a' sd',r=I x/\iE x/\(a<=a'/\a'<=a+8)/\h'=aT g ns (jW c a' sd'):=by
 refine aHV 25 bB6 cU cG Tryz.func156 ?_
 simp -dsimp -implicitDefEqProofs only[go_sem,↓reduceIte,Tryz.f156]
 refine aH.fX (r5 hc hl aA 6 aA hg) ?_
 rintro r_ h' ⟨x,a1,sd1,rfl,x0,x1,-,ha1,rfl⟩
 simp -dsimp -implicitDefEqProofs only[go_sem,↓reduceIte,Tryz.f156]
 refine⟨λe0=>?_,λe0=>⟨λe1=>?_,λe1=>?_⟩⟩
 ·refine aH.fX (r5 hc hl aA 3 aA (aI ..)) ?_
  rintro r_ h' ⟨y,a2,sd2,rfl,y0,y1,-,ha2,rfl⟩
  have y1:=y1 aA
  simp -dsimp -implicitDefEqProofs only[go_sem,↓reduceIte,Tryz.f156]
  rw[aL]
  exact⟨_,aB.le_refl _,_,a2,sd2,rfl,by rw[IntWalk.i64_in _ aA];unfold iE;omega,by omega,rfl⟩
 ·refine aH.fX (r5 hc hl aA 256 aA (aI ..)) ?_
  rintro r_ h' ⟨y,a2,sd2,rfl,y0,y1,-,ha2,rfl⟩
  have y1:=y1 aA
  simp -dsimp -implicitDefEqProofs only[go_sem,↓reduceIte,Tryz.f156]
  refine aH.fX (r5 hc hl aA 256 aA (aI ..)) ?_
  rintro r_ h' ⟨z,a3,sd3,rfl,z0,z1,-,ha3,rfl⟩
  have z1:=z1 aA
  simp -dsimp -implicitDefEqProofs only[go_sem,↓reduceIte,Tryz.f156]
  refine aH.fX (r5 hc hl aA 256 aA (aI ..)) ?_
  rintro r_ h' ⟨u,a4,sd4,rfl,u0,u1,-,ha4,rfl⟩
  have u1:=u1 aA
  simp -dsimp -implicitDefEqProofs only[go_sem,↓reduceIte,Tryz.f156]
  simp only[aL]
  refine⟨_,aB.le_refl _,_,a4,sd4,rfl,?_,by omega,rfl⟩
  rw[IntWalk.i64_in (y*65536) aA,IntWalk.i64_in (z*256) aA,IntWalk.i64_in (y*65536+z*256) aA,IntWalk.i64_in _ aA,uR aA]
  unfold iE;omega
 ·refine aH.fX (r5 hc hl aA 7 aA (aI ..)) ?_
  rintro r_ h' ⟨y,a2,sd2,rfl,y0,y1,-,ha2,rfl⟩
  have y1:=y1 aA
  simp -dsimp -implicitDefEqProofs only[go_sem,↓reduceIte,Tryz.f156]
  rw[aL]
  exact⟨_,aB.le_refl _,_,a2,sd2,rfl,by unfold iE;omega,by omega,rfl⟩
theorem bB8 {n:Int} (h0:0<=n) (h:n<10):Go.Lib.itoa n=[UInt8.ofNat (48+n).toNat]:=by
 unfold Go.Lib.itoa
 rw[if_neg aA,Go.Lib.decDigits,dif_pos aA,show(48+n).toNat=48+n.toNat from by omega]
theorem bB9 {n:Int} (h:10<=n):Go.Lib.itoa n=Go.Lib.itoa (n / 10)++[UInt8.ofNat (48+n%10).toNat]:=by
 unfold Go.Lib.itoa
 rw[if_neg aA,if_neg aA,Go.Lib.decDigits,dif_neg aA,show(48+n%10).toNat=48+n.toNat%10 from by omega,show(n / 10).toNat=n.toNat / 10 from by omega]
theorem aAD {u k:Nat} (h:u<10 ^ k) (hk:1<=k):(Go.Lib.decDigits u).length<=k:=by
 induction k generalizing u with
 |zero=>omega
 |succ k ih =>
  rw[Go.Lib.decDigits]
  split
  ·simp
  ·rename_i hu
   rcases a16 k with e|e
   ·subst e;simp at h;omega
   ·have:=ih (u:=u / 10) (by rw[aJK]at h;omega) e
    simp;omega
theorem aV9 {n:Int} (h0:-9223372036854775808<=n) (h1:n<=9223372036854775807):(Go.Lib.itoa n).length<=21:=by
 unfold Go.Lib.itoa
 split
 ·have:=aAD (u:=n.natAbs) (k:=20) aA aA
  simp;omega
 ·have:=aAD (u:=n.toNat) (k:=20) aA aA
  omega
theorem bCA {u:Nat} (h:u<10):Go.Lib.decDigits u=[UInt8.ofNat (48+u)]:=by rw[Go.Lib.decDigits,dif_pos h]
theorem a65 (n:Int) (h:0<=n):Go.Lib.itoa n=Go.Lib.decDigits n.toNat:=by rw[Go.Lib.itoa,if_neg aA]
theorem aE6 {α:Type} (f:α->Nat) (l:List α) (x:α):rX f (l++[x])=rX f l+1+f x:=by
 simp only[tD,nT,mY,List.sum_append,aB9,rU,qR,w9,aJG,List.sum_nil];omega
theorem a22 (k n i c:Int) (l:List aC):(aC.mk k n i c l).s=rX aC.s l:=by rw[aC.aDB];rfl
theorem a66 (k n:Int):(aC.mk k n 0 0 []).o [.v (I k),.v (I n),.v (I 0),.v (I 0),.nil 5]:=(aC.u5 _ _).2 ⟨.nil 5,rfl,OS.nil⟩
theorem aTU (k n:Int):Sub (.agg [I k,I n,I 0,I 0,.bS]) (.agg ([.v (I k),.v (I n),.v (I 0),.v (I 0),.nil 5].map OV.val)):=Sub.agg (.cons (.refl _) (.cons (.refl _) (.cons (.refl _) (.cons (.refl _) (.cons (Sub.nil 5 true) .nil)))))
theorem aNS (k n:Int):OV.b5 [.v (I k),.v (I n),.v (I 0),.v (I 0),.nil 5]=[]:=by simp only[OV.eP,OV.iQ,OV.aA6,OV.sV,dR]
def vH (k n c d:Int) (v:aE):bU:=.row 5 [[.v (I k),.v (I n),.v (I c),.v (I d),.v v]]
@[go_sem] def bPO:List Nat:=[8,17]
@[go_sem] def bPP:Marks:=λid=>match id with|3=>([],(.op 0 (.op 1 (.op 2 (.op 3 (.op 4 (.op 5 (.op 6 (.op 7 (.op 8 (.op 9 (.op 10 .nil))))))))))),[])|_=>([],.nil,[])
theorem aIU (m:Nat):∀ n:Int,0<=n->n<m->n<=1000002->fR Tryz.prog 152 [I n] (.str (Go.Lib.itoa n)):=by
 induction m with
 |zero=>intro n a b;omega
 |succ m ih =>
 intro n h0 hm hn
 refine gA 20 a5V bPO bPP Tryz.func152 λh=>?_
 simp -dsimp -implicitDefEqProofs only[go_sem,↓reduceIte,Tryz.f152]
 repeat'(with_reducible first|intro _|refine And.intro ?_ ?_)
 all_goals try omega
 ·rw[bB8 h0 kX,IntWalk.i64_in (48+n) aA,IntWalk.u8_in (48+n) aA]
 ·rw[aXE aA,IntWalk.i64_in (n / 10) aA]
  first|refine aH.mk (ih (n / 10) aA aA aA) ?_|refine aG.mk (ih (n / 10) aA aA aA) ?_|refine aH.bH (ih (n / 10) aA aA aA) ?_|refine aG.mk (bB.dI (ih (n / 10) aA aA aA)) ?_
  simp -dsimp -implicitDefEqProofs only[go_sem,↓reduceIte,Tryz.f152]
  repeat'(with_reducible first|intro _|refine And.intro ?_ ?_)
  all_goals try(first|omega|decide)
  ·have:=aV9 (n:=n / 10) aA aA
   omega
  ·rw[bB9 (n:=n) aA,uR aA,IntWalk.i64_in (48+n%10) aA,IntWalk.u8_in (48+n%10) aA]
def lE (ns np:Nat) (L:Int) (pl:Bool):bU:=.row 4 [[.v (.op ns 3 0 0),.v (.op np 1 0 0),.v (I L),.v (.bool pl)]]
def mL (L:Int):Nat:=(L-1).toNat
def aBJ (p:aF) (np:Nat) (B:aB):Prop:=∃ es o,OR aV.o p.aK es/\B np=some (.row 1 [[.v (j7 3 p.aK.length o)]])/\(o=none->p.aK=[])/\∀ m,o=some m->B m=some (.row 3 (OV.cells es))
theorem aBJ.le {p:aF} {np:Nat} {B B':aB} (h:aBJ p np B) (hl:B.le B'):aBJ p np B':=by
 obtain⟨es,o,h1,h2,h3,h4⟩:=h
 exact⟨es,o,h1,aB.aVQ hl h2,h3,λm e=>aB.aVQ hl (h4 m e)⟩
@[go_sem] def bCB:List Nat:=[0,1,4,14]
theorem aZ5 {ns ng np:Nat} {c:List Int} {pl:Bool} (hc:∀ x∈c,InB x) (hl:c.length<=4096) (hne:¬ns=ng) (vars:Int) (hv:vars<=1000) {B:aB} {a:Nat} {sd L:Int} (hB1:B ns=none) (hB2:B ng=none) (ha:a<=800001000) :
  iD Tryz.prog 192 [.op ng 4 0 0,I vars] (aT (aT B ns (jW c a sd)) ng (lE ns np L pl)) λr h'=>∃ k n a' sd',r=.agg [I k,I n,I 0,I 0,.bS]/\((k=1/\iE n)∨(k=2/\0<=n/\n<vars))/\(a<=a'/\a'<=a+10)/\h'=aT (aT B ns (jW c a' sd')) ng (lE ns np L pl):=by
 obtain⟨tP,bI,bJ,lH⟩:=cW (show ¬ns=ng from hne)
 have hg:(aT (aT B ns (jW c a sd)) ng (lE ns np L pl)) ng=some (lE ns np L pl):=aI ..
 unfold lE at hg
 refine aHV 28 bCB cU cG Tryz.func192 ?_
 simp -dsimp -implicitDefEqProofs only[go_sem,↓reduceIte,Tryz.f192]
 intro n4 q4
 have a4:¬n4=ng:=by grind
 have b4:¬n4=ns:=by grind
 have z4:B n4=none:=by grind
 obtain⟨bCC,aBY,aBZ,bST⟩:=cW (show ¬n4=ng from a4)
 obtain⟨aE7,aB0,aB1,a92⟩:=cW (show ¬n4=ns from b4)
 simp -dsimp -implicitDefEqProofs only[go_sem,↓reduceIte,Tryz.f192,aBY,aB0,aBZ,bJ,aB1,bI,aD,aO,lE,dA,dB,dC,dD,dF,dZ,dR,fQ]
 have hle:∀ X Y Z,(aT (aT B ns X) ng Y).le (aT (aT (aT B ns X) ng Y) n4 Z):=λX Y Z=>aB.bM (by rw[aD _ _ _ _ bCC,aD _ _ _ _ aE7];exact z4) (aB.le_refl _)
 refine⟨λhp=>?_,λhp=>?_⟩
 ·refine aH.fX (a64 (a:=a) (sd:=sd) hc hl aA 4 aA aXR) ?_
  rintro r_ h' ⟨b,a1,sd1,rfl,ha1,rfl⟩
  simp only[cE aE7,cE lH,aL]
  cases b
  ·simp -dsimp -implicitDefEqProofs only[go_sem,↓reduceIte,Tryz.f192,aBY,aB0,aBZ,bJ,aB1,bI,aD,aO,dA,dB,dC,dD,dF,dZ,dR,fQ]
   refine aH.fX (r5 (a:=a1) (sd:=sd1) hc hl aA vars aA aXR) ?_
   rintro r_ h' ⟨x,a2,sd2,rfl,x0,x1,-,ha2,rfl⟩
   simp only[cE aE7,cE lH,aL]
   simp -dsimp -implicitDefEqProofs only[go_sem,↓reduceIte,Tryz.f192,aBY,aB0,aBZ,bJ,aB1,bI,aD,aO,aL,dA,dB,dC,dD,dF,dZ,dR,fQ]
   exact⟨_,hle _ _ _,2,x,a2,sd2,rfl,.inr ⟨rfl,x0,x1 aA⟩,by omega,rfl⟩
  ·simp -dsimp -implicitDefEqProofs only[go_sem,↓reduceIte,Tryz.f192,aBY,aB0,aBZ,bJ,aB1,bI,aD,aO,dA,dB,dC,dD,dF,dZ,dR,fQ]
   refine aH.fX (bI7 (a:=a1) (sd:=sd1) hc hl aA aXR) ?_
   rintro r_ h' ⟨x,a2,sd2,rfl,hx,ha2,rfl⟩
   simp only[cE aE7,cE lH,aL]
   simp -dsimp -implicitDefEqProofs only[go_sem,↓reduceIte,Tryz.f192,aBY,aB0,aBZ,bJ,aB1,bI,aD,aO,aL,dA,dB,dC,dD,dF,dZ,dR,fQ]
   exact⟨_,hle _ _ _,1,x,a2,sd2,rfl,.inl ⟨rfl,hx⟩,by omega,rfl⟩
 ·refine aH.fX (bI7 (a:=a) (sd:=sd) hc hl aA aXR) ?_
  rintro r_ h' ⟨x,a2,sd2,rfl,hx,ha2,rfl⟩
  simp only[cE aE7,cE lH,aL]
  simp -dsimp -implicitDefEqProofs only[go_sem,↓reduceIte,Tryz.f192,aBY,aB0,aBZ,bJ,aB1,bI,aD,aO,aL,dA,dB,dC,dD,dF,dZ,dR,fQ]
  exact⟨_,hle _ _ _,1,x,a2,sd2,rfl,.inl ⟨rfl,hx⟩,by omega,rfl⟩
theorem Shift.own {h h':aB} (e:List OV) (ho:qO h' (OV.b5 e)) (hl:h.le (iX h' (bC (OV.b5 e)))):Shift (.agg (e.map OV.val)) h' (.agg (e.map OV.pX)) h:=λE w v R rx =>
 ⟨E,(Ev.iX _).forget hl,(R.iX _).forget hl,(fG.aSX R e v ho (λp hp=>dH.2 ⟨p.2,hp⟩) rx).pV λb hb=>oU.le hl hb⟩
def mH (l:List Int):bU:=.row 1 ((l.map λn=>[I n]).map (List.map .v))
theorem a23 (l:List Int) (x:Int):mH (l++[x])=.row 1 (((l.map λn=>[I n]).map (List.map Cell.v))++[[.v (I x)]]):=by simp[mH]
@[go_sem] def a67:List Nat:=[0,1,4,5,6,10]
@[go_sem] def bPQ:List Nat:=[7,16]
theorem aTV {ns:Nat} {c:List Int} (hc:∀ x∈c,InB x) (hl:c.length<=4096) (size:Int) (hsz:size<=1000) {B:aB} (hB:B ns=none) {a:Nat} (ha:a<=800000000) {sd:Int} :
  iD Tryz.prog 82 [.op ns 3 0 0,I size] (aT B ns (jW c a sd)) λr h'=>∃ l a' sd',l.length=size.toNat/\eI l/\r=ints l/\(a<=a'/\a'<=a+8*size.toNat)/\h'=aT B ns (jW c a' sd'):=by
 refine jU 19 a67 bPQ cG Tryz.func82 ?_
 simp -dsimp -implicitDefEqProofs only[go_sem,↓reduceIte,Tryz.f82]
 refine⟨by decide,?_⟩
 refine cM a67 bPQ cG (λx:List Int×Option Nat×Nat×Int=>[(0,.op ns 3 0 0),(1,I size),(5,fT 1 x.1.length x.2.1),(6,I x.1.length)]) (λx=>aT (cQ B (mH x.1) x.2.1) ns (jW c x.2.2.1 x.2.2.2)) (λx=>(x.1.length<=size.toNat/\eI x.1)/\eU B x.1 x.2.1/\(∀ m,x.2.1=some m->¬m=ns)/\(a<=x.2.2.1/\x.2.2.1<=a+8*x.1.length)) (λx=>size.toNat-x.1.length) ([],none,a,sd) ⟨by simp[cR,bZ,fT],aB.le_refl _,⟨eM _,λx hx=>by cases hx⟩,rfl,(λm e=>by cases e),by simp⟩ ?_
 rintro⟨l,o,a1,sd1⟩ ⟨⟨hll,hnl⟩,hos,hon,ha1⟩
 simp only at hll hnl hos hon ha1 ⊢
 simp -dsimp -implicitDefEqProofs only[go_sem,↓reduceIte,Tryz.f82]
 refine⟨λhlt=>?_,λhge=>?_⟩
 ·refine aH.fX (bI7 (a:=a1) (sd:=sd1) hc hl aA (aI ..)) ?_
  rintro r_ h' ⟨x,a2,sd2,rfl,hx,ha2,rfl⟩
  rw[aL]
  simp -dsimp -implicitDefEqProofs only[go_sem,↓reduceIte,Tryz.f82]
  refine⟨by decide,by decide,?_⟩
  have hnx:eI (l++[x]):=λy hy=>by
   rcases nY.1 hy with hy|hy
   ·exact hnl y hy
   ·rw[iO.1 hy];exact hx
  have hstep:(l++[x]).length=l.length+1:=by simp
  cases o with
  |none =>
   rw[aZ]at hos
   subst hos
   simp -dsimp -implicitDefEqProofs only[go_sem,↓reduceIte,Tryz.f82,bD,aM]
   refine⟨by decide,λn ⟨d1,z1⟩=>⟨([x],some n,a2,sd2),⟨rfl,IntWalk.i64_in _ aA⟩,?_,⟨⟨by simp only[nN];omega,hnx⟩,z1,λm e=>by cases e;exact d1,by show a<=a2/\a2<=a+8*1;simp only[rU]at ha1;omega⟩,by simp only[nN,rU]at hlt ⊢;omega⟩⟩
   simp only[aJ]
   rw[cE d1]
   exact aB.le_refl _
  |some m0 =>
   rw[aP]at hos
   have k1:=hon m0 rfl
   obtain⟨aB2,iS,iT,yE⟩:=cW (show ¬m0=ns from k1)
   simp -dsimp -implicitDefEqProofs only[go_sem,↓reduceIte,Tryz.f82,aQ,aJ,iS,iT,aD,aO,mH]
   refine⟨by decide,bY _,by omega,by omega,λb hb=>?_⟩
   have b1:¬b=ns:=by grind
   have b2:¬b=m0:=by grind
   have b3:B b=none:=by grind
   refine⟨(l++[x],some b,a2,sd2),⟨by rw[hstep];rfl,by rw[hstep,IntWalk.i64_in _ aA];rfl⟩,?_,⟨⟨by rw[hstep];omega,hnx⟩,b3,λm e=>by cases e;exact b1,by show a<=a2/\a2<=a+8*(l++[x]).length;rw[hstep];omega⟩,by show size.toNat-(l++[x]).length<_;rw[hstep];omega⟩
   simp only[aJ]
   have hr:=a23 l x
   unfold mH at hr
   rw[hJ eC,hr]
   intro q_
   simp only[aO]
   grind
 ·have he:l.length=size.toNat:=by omega
  cases o with
  |none =>
   rw[aZ]at hos
   subst hos
   exact⟨ints [],_,Shift.of (Sub.loose _ _ _) (aB.le_refl _),[],a1,sd1,he,hnl,rfl,by omega,rfl⟩
  |some m0 =>
   rw[aP]at hos
   have k1:=hon m0 rfl
   exact⟨ints l,aT B ns (jW c a1 sd1),fU l (by rw[aD _ _ _ _ k1];exact hos) (by rw[aJ,cE k1];exact aB.le_refl _) rfl,l,a1,sd1,he,hnl,rfl,by omega,rfl⟩
theorem aE8 {args dir:List Int} (hd:dir.length=args.length):(jH args dir).length=args.length:=by simp[jH,hd]
@[go_sem] def bSU:List Nat:=[0,1,4,5,6,7,9,10,11,12]
@[go_sem] def bZK:List Nat:=[8,22,23]
@[go_sem] def bSV:List Nat:=[0,1,2,4,11,17]
@[go_sem] def bWD:List Nat:=[0,1,4,10]
@[go_sem] def bSW:List Nat:=[0,1,2,3,4,9,14,19,24,30]
@[go_sem] def bSX:List Nat:=[0,1,2,3,4,9,14,20]
@[go_sem] def bWE:List Nat:=[0,1,2,3,4,10]
def aTW (x:bG) (k inp:Int):Prop :=
 (x.gB=1/\x.fA=0/\x.fB=0/\0<=x.bA/\x.bA<=inp-1)∨(x.gB=2/\x.fA=0/\x.fB=0/\iE x.bA) ∨
 ((3<=x.gB/\x.gB<=6)/\x.bA=0/\(0<=x.fA/\x.fA<=k-1)/\(0<=x.fB/\x.fB<=k-1))∨(x.gB=7/\x.bA=0/\x.fB=0/\0<=x.fA/\x.fA<=k-1)
instance (x:bG) (k inp:Int):Decidable (aTW x k inp):=by unfold aTW iE;infer_instance
def aWA (s:Int) (l:List Int):Prop:=∀ r∈l,0<=r/\r<=s-1
instance (s:Int) (l:List Int):Decidable (aWA s l):=by unfold aWA;infer_instance
def a68 (s:Int) (l:List jA):Prop:=∀ g∈l,0<=g.a2W/\g.a2W<=s-1
instance (s:Int) (l:List jA):Decidable (a68 s l):=by unfold a68;infer_instance
def aPV (inp:Int) (l:List bG):Prop:=∀ (k:Nat) (h:k<l.length),aTW l[k] k inp
instance (inp:Int) (l:List bG):Decidable (aPV inp l):=by unfold aPV;infer_instance
structure rI.ok (t:rI):Prop where
 inp:0<=t.p6/\t.p6<=12
 lens:t.bR.length<=3200/\t.v9.length<=3200/\1<=t.aU.length/\t.aU.length<=12
 code:aPV t.p6 t.bR
 gds:a68 t.bR.length t.v9
 outs:aWA t.bR.length t.aU
@[go_sem] def bSY:List Nat:=[0,1,2,3,4,6,8,9,27,42,64]
@[go_sem] def bSZ:List Nat:=[0,1,3]
@[go_sem] def bS0:List Nat:=[0,1,2,3,4,5,7,30,35,36,37,38,46,49,50,51,52,60]
theorem Shift.bPR {x y:aE} {h h':aB} (s:Shift x h' y h) (n:Int):Shift (.gK [x,I n]) h' (.gK [y,I n]) h:=λE w v R r=>by
 cases r with
 |gK _ vs hl hr =>
  match vs,hl with
  | [v0,v1],_ =>
   obtain⟨E',ev,R',r'⟩:=s E w v0 R (hr 0 x v0 rfl rfl)
   have h1:=hr 1 (I n) v1 rfl rfl
   cases h1
   refine⟨E',ev,R',.gK _ _ rfl λi z u hz hu=>?_⟩
   match i with
   |0=>cases hz;cases hu;exact r'
   |1=>cases hz;cases hu;exact .int _ _
   |i+2=>cases hz
def gH (l:List (List Int)):bU:=.row 1 ((l.map λs=>[ints s]).map (List.map .v))
theorem aWB (l:List (List Int)) (s:List Int):gH (l++[s])=.row 1 (((l.map λs=>[ints s]).map (List.map Cell.v))++[[.v (ints s)]]):=by simp[gH]
theorem qB (l:List (List Int)) {k:Nat} (h:l.length=k) (s:List Int):bU.row 1 (List.take k ((l.map λs=>[ints s]).map (List.map Cell.v))++[[.v (aE.sl 1 (s.map λn=>[I n]) false)]])=gH (l++[s]):=by
 rw[aWB,hJ (by simp[h])]
@[go_sem] def bS1:List Nat:=[0,1,2,4,6,9,10,11,12,13,20]
@[go_sem] def bCD:List Nat:=[0,1,3,4]
theorem a69 (n:Int) {sz:Nat} (hsz:1<=sz/\sz<=1048576):fR Tryz.prog 187 [I n,.ip 1 [[I ((sz:Int)-1)]] 0 0] (ints (bX n sz)):=by
 have e1:IntKind.i64.wrap ((sz:Int)-1+1)=(sz:Int):=by rw[IntWalk.i64_in _ aA];omega
 have e2:=y5 (x:=[aE.int .i64 0]) hsz.1
 refine mP 12 bCD cU cG Tryz.func187 λh=>?_
 simp -dsimp -implicitDefEqProofs only[go_sem,↓reduceIte,Tryz.f187,e1,r8,e2]
 refine⟨aX,by omega,by omega,by omega,λm hm=>⟨by omega,?_⟩⟩
 rw[aL,show Int.toNat 0=0 from rfl,xR]
 exact fU _ hm (aB.le_refl _) (gE n sz).symm
@[go_sem] def aZ6:List Nat:=[0,1,2,3,5,6,7,8,9,11,12,16,17,18,19,27,28,35,48,61,74,82,91]
@[go_sem] def bF6:List Nat:=[3,5,13,105]
@[go_sem] def bF7:Marks:=λid=>match id with|11=>([2,4,7,9],(.op 0 (.op 1 (.op 5 (.op 6 (.op 2 (.op 3 (.op 4 (.op 7 (.op 8 (.op 9 (.op 10 (.op 11 .nil)))))))))))),[])|13=>([2,4,7,9],(.op 0 (.op 1 (.op 5 (.op 6 (.op 2 (.op 3 (.op 4 (.op 7 (.op 8 (.op 9 (.op 10 (.op 11 .nil)))))))))))),[])|15=>([2,4,7,9],(.op 0 (.op 1 (.op 5 (.op 6 (.op 2 (.op 3 (.op 4 (.op 7 (.op 8 (.op 9 (.op 10 (.op 11 .nil)))))))))))),[])|21=>([2,4,7,9],(.op 0 (.op 1 (.op 5 (.op 6 (.op 2 (.op 3 (.op 4 (.op 7 (.op 8 (.op 9 (.op 10 (.op 11 .nil)))))))))))),[])|_=>([],.nil,[])
theorem a24 (t:rI) {sz:Nat} (hsz:1<=sz/\sz<=1048576) (hins:∀ i c,t.bR[i]?=some c->bN t.p6 i c) (hcl:t.bR.length<=3200) (args:List (List Int)) (ha:∀ s∈args,aW sz s) (hal:(args.length:Int)=t.p6)
  (hdiv:∀ (i:Nat) (c:bG),t.bR[i]?=some c->c.gB=6->¬(fM sz args t.bR c.fB.toNat).getD 0 0=0):fR Tryz.prog 137 [.agg t.c,bL args,I ((sz:Int)-1)] (.gK [bL (l4 sz args t.bR t.bR.length),I 0]):=by
 rw[rI.aY]
 refine mP 109 aZ6 bF6 bF7 Tryz.func137 λh=>?_
 simp -dsimp -implicitDefEqProofs only[go_sem,↓reduceIte,Tryz.f137]
 refine⟨by decide,λ_=>?_⟩
 refine cM aZ6 bF6 bF7 (λx:Nat×Option Nat=>[(1,bL args),(8,fT 1 x.1 x.2),(9,.fn (.func 187) [] [.ip 1 [[I ((sz:Int)-1)]] 0 0]),(16,gT 4 bG.c t.bR),(17,I t.bR.length),(18,I x.1)]) (λx=>cQ h (gH (l4 sz args t.bR x.1)) x.2) (λx=>x.1<=t.bR.length/\eU h (l4 sz args t.bR x.1) x.2) (λx=>t.bR.length-x.1) (0,none) ⟨by simp[cR,bZ,fT],aB.le_refl _,eM _,rfl⟩ ?_
 rintro⟨k,o⟩ ⟨hk,hos⟩
 simp only at hk hos ⊢
 have hml:=oH sz args t.bR k
 rcases bT k t.bR.length with hlt|hge
 ·have ek:t.bR[k]?=some t.bR[k]:=fC hlt
  have hin:=hins k _ ek
  have hdk:=hdiv k _ ek
  have hst:l4 sz args t.bR (k+1)=l4 sz args t.bR k++[opS sz args (l4 sz args t.bR k) t.bR[k]]:=by
   rw[l4,show t.bR.getD k ⟨0,0,0,0⟩=t.bR[k]by rw[e8,ek];rfl]
  generalize hc:t.bR[k]=c at *
  have hconst:=a69 c.bA hsz
  generalize hR:l4 sz args t.bR k=R at *
  have hgR:∀ i:Int,0<=i/\i<k->R[i.toNat]?=some (R.getD i.toNat [])/\aW sz (R.getD i.toNat []):=λi hi=>by
   refine⟨jZ aA,?_⟩
   have h1:=l5 (sz:=sz) hins ha hal i.toNat aA
   rwa [fM,x6 sz args t.bR (k:=k) aA _ aA,hR]at h1
  cases o with
  |none =>
   rw[aZ]at hos
   subst hos
   obtain rfl:k=0:=hml.symm
   simp -dsimp -implicitDefEqProofs only[go_sem,↓reduceIte,Tryz.f137,bD,aM,hlt,ek,bG.aY]
   intro m hm
   rw[aL]
   first|refine aH.mk (hconst) ?_|refine aG.mk (hconst) ?_|refine aH.bH (hconst) ?_|refine aG.mk (bB.dI (hconst)) ?_
   simp -dsimp -implicitDefEqProofs only[go_sem,↓reduceIte,Tryz.f137]
   have hnext:∀ (g:aB) (b:Nat) (s:List Int),s=opS sz args [] c->h b=none->(aT h b (gH [s])).le g->∃ x':Nat×Option Nat,(aE.os b 1 0 1=fT 1 x'.1 x'.2/\IntKind.i64.wrap (((0:Nat):Int)+1)=(x'.1:Int))/\(cQ h (gH (l4 sz args t.bR x'.1)) x'.2).le g/\(x'.1<=t.bR.length/\eU h (l4 sz args t.bR x'.1) x'.2)/\t.bR.length-x'.1<t.bR.length-0:=λg b s e z l=>by
    subst e
    exact⟨(1,some b),⟨rfl,IntWalk.i64_in _ aA⟩,by simp only[aJ,hst];exact l,⟨hlt,z⟩,by simp only;omega⟩
   rcases(show c.gB=1∨c.gB=2 by unfold bN at hin;omega)with h1|h1
   ·have hn:0<=c.bA/\c.bA<args.length:=by unfold bN at hin;omega
    have ea:args[c.bA.toNat]?=some (args.getD c.bA.toNat []):=jZ aA
    simp -dsimp -implicitDefEqProofs only[go_sem,↓reduceIte,Tryz.f137,h1,ea]
    refine⟨hn.1,hn.2,by decide,by decide,by decide,λb ⟨b1,b2⟩=>hnext _ b _ (by rw[opS,if_pos h1]) b2 (aB.pY (aB.bM hm (aB.le_refl _)))⟩
   ·simp -dsimp -implicitDefEqProofs only[go_sem,↓reduceIte,Tryz.f137,h1]
    refine⟨by decide,by decide,by decide,λb ⟨b1,b2⟩=>hnext _ b _ (by rw[opS,if_neg aA,if_pos h1]) b2 (aB.pY (aB.bM hm (aB.le_refl _)))⟩
  |some n =>
   rw[aP]at hos
   simp -dsimp -implicitDefEqProofs only[go_sem,↓reduceIte,Tryz.f137,aQ,aJ,hlt,ek,bG.aY]
   refine λm ⟨dm,zm⟩=>?_
   obtain⟨aAE,lI,lJ,aHI⟩:=cW (show ¬m=n from dm)
   rw[aL]
   first|refine aH.mk (hconst) ?_|refine aG.mk (hconst) ?_|refine aH.bH (hconst) ?_|refine aG.mk (bB.dI (hconst)) ?_
   simp -dsimp -implicitDefEqProofs only[go_sem,↓reduceIte,Tryz.f137]
   have hnext:∀ (g:aB) (b:Nat) (s:List Int),s=opS sz args R c->h b=none->(aT h b (gH (R++[s]))).le g->∃ x':Nat×Option Nat,(aE.os b 1 0 (k+1)=fT 1 x'.1 x'.2/\IntKind.i64.wrap ((k:Int)+1)=(x'.1:Int))/\(cQ h (gH (l4 sz args t.bR x'.1)) x'.2).le g/\(x'.1<=t.bR.length/\eU h (l4 sz args t.bR x'.1) x'.2)/\t.bR.length-x'.1<t.bR.length-k:=λg b s e z l=>by
    subst e
    exact⟨(k+1,some b),⟨rfl,IntWalk.i64_in _ aA⟩,by simp only[aJ,hst];exact l,⟨hlt,z⟩,by simp only;omega⟩
   have aWC:∀ X Y,h.le (aT (aT (aT h n X) m Y) n .gone):=λX Y q=>by
    by_cases e1:q=n
    ·subst e1;exact .inl hos
    by_cases e2:q=m
    ·subst e2;exact .inl zm
    rw[aD _ _ _ _ e1,aD _ _ _ _ e2,aD _ _ _ _ e1];exact .inr rfl
   rcases(show c.gB=1∨c.gB=2∨c.gB=3∨c.gB=4∨c.gB=5∨c.gB=6∨c.gB=7 by unfold bN at hin;omega)with h1|h1|h1|h1|h1|h1|h1
   ·have hn:0<=c.bA/\c.bA<args.length:=by unfold bN at hin;omega
    have ea:args[c.bA.toNat]?=some (args.getD c.bA.toNat []):=jZ aA
    simp -dsimp -implicitDefEqProofs only[go_sem,↓reduceIte,Tryz.f137,h1,ea,lI,lJ,aD,gH]
    refine⟨hn.1,hn.2,by decide,by decide,by decide,by omega,by omega,by omega,λb ⟨b1,b2,b3⟩=>hnext _ b _ (by rw[opS,if_pos h1]) b3 ?_⟩
    rw[qB R hml]
    exact aB.pY (aWC _ _)
   ·simp -dsimp -implicitDefEqProofs only[go_sem,↓reduceIte,Tryz.f137,h1,lI,lJ,aD,gH]
    refine⟨by decide,by decide,by decide,by omega,by omega,by omega,λb ⟨b1,b2,b3⟩=>hnext _ b _ (by rw[opS,if_neg aA,if_pos h1]) b3 ?_⟩
    rw[qB R hml]
    exact aB.pY (aWC _ _)
   ·have na:=hgR c.fA aD6
    have nb:=hgR c.fB aD6
    have i0:(0<=c.fA/\c.fA<k)/\0<=c.fB/\c.fB<k:=by unfold bN at hin;omega
    have hop:3<=c.gB->opS sz args R c=opW c.gB (R.getD c.fA.toNat []) (R.getD c.fB.toNat []):=λq=>by rw[opS,if_neg aA,if_neg aA]
    have hcall:=aCP (added (R.getD c.fA.toNat []) (R.getD c.fB.toNat []) aYA aM2 (sM na.2.2) (sM nb.2.2))
    simp -dsimp -implicitDefEqProofs only[go_sem,↓reduceIte,Tryz.f137,h1,gH,na.1,nb.1,lI,lJ,aD]
    refine⟨by omega,by omega,by omega,by omega,aG.mk hcall ?_⟩
    simp -dsimp -implicitDefEqProofs only[go_sem,↓reduceIte,Tryz.f137,h1,gH,lI,lJ,aD]
    refine⟨by decide,by decide,by decide,by omega,by omega,by omega,λb ⟨b1,b2,b3⟩=>hnext _ b _ aRS b3 ?_⟩
    rw[qB R hml]
    exact aB.pY (aWC _ _)
   ·have na:=hgR c.fA aD6
    have nb:=hgR c.fB aD6
    have i0:(0<=c.fA/\c.fA<k)/\0<=c.fB/\c.fB<k:=by unfold bN at hin;omega
    have hop:3<=c.gB->opS sz args R c=opW c.gB (R.getD c.fA.toNat []) (R.getD c.fB.toNat []):=λq=>by rw[opS,if_neg aA,if_neg aA]
    have hcall:=reduced (R.getD c.fA.toNat []) (R.getD c.fB.toNat []) aYA aM2 na.2.2 nb.2.2
    simp -dsimp -implicitDefEqProofs only[go_sem,↓reduceIte,Tryz.f137,h1,gH,na.1,nb.1,lI,lJ,aD]
    refine⟨by omega,by omega,by omega,by omega,aG.mk hcall ?_⟩
    simp -dsimp -implicitDefEqProofs only[go_sem,↓reduceIte,Tryz.f137,h1,gH,lI,lJ,aD]
    refine⟨by decide,by decide,by decide,by omega,by omega,by omega,λb ⟨b1,b2,b3⟩=>hnext _ b _ aRS b3 ?_⟩
    rw[qB R hml]
    exact aB.pY (aWC _ _)
   ·have na:=hgR c.fA aD6
    have nb:=hgR c.fB aD6
    have i0:(0<=c.fA/\c.fA<k)/\0<=c.fB/\c.fB<k:=by unfold bN at hin;omega
    have hop:3<=c.gB->opS sz args R c=opW c.gB (R.getD c.fA.toNat []) (R.getD c.fB.toNat []):=λq=>by rw[opS,if_neg aA,if_neg aA]
    have hcall:=product (R.getD c.fA.toNat []) (R.getD c.fB.toNat []) aYA aM2 na.2.2 nb.2.2
    simp -dsimp -implicitDefEqProofs only[go_sem,↓reduceIte,Tryz.f137,h1,gH,na.1,nb.1,lI,lJ,aD]
    refine⟨by omega,by omega,by omega,by omega,aG.mk hcall ?_⟩
    simp -dsimp -implicitDefEqProofs only[go_sem,↓reduceIte,Tryz.f137,h1,gH,lI,lJ,aD]
    refine⟨by decide,by decide,by decide,by omega,by omega,by omega,λb ⟨b1,b2,b3⟩=>hnext _ b _ aRS b3 ?_⟩
    rw[qB R hml]
    exact aB.pY (aWC _ _)
   ·have na:=hgR c.fA aD6
    have nb:=hgR c.fB aD6
    have i0:(0<=c.fA/\c.fA<k)/\0<=c.fB/\c.fB<k:=by unfold bN at hin;omega
    have hop:3<=c.gB->opS sz args R c=opW c.gB (R.getD c.fA.toNat []) (R.getD c.fB.toNat []):=λq=>by rw[opS,if_neg aA,if_neg aA]
    have hcall:=quotient (R.getD c.fA.toNat []) (R.getD c.fB.toNat []) aYA aM2 aM2 na.2.2 nb.2.2
    have hz:¬(R.getD c.fB.toNat []).getD 0 0=0:=by
     have h2:=hdk h1
     rwa [fM,x6 sz args t.bR (k:=k) aA _ aA,hR]at h2
    have gz:(R.getD c.fB.toNat [])[Int.toNat 0]?=some ((R.getD c.fB.toNat []).getD 0 0):=bW (by rw[nb.2.1];exact hsz.1)
    have lz:=nb.2.1
    simp -dsimp -implicitDefEqProofs only[go_sem,↓reduceIte,Tryz.f137,h1,gH,na.1,nb.1,gz,hz,lI,lJ,aD]
    refine⟨by omega,by omega,by rw[lz];omega,by omega,by omega,by omega,by omega,aG.mk hcall ?_⟩
    simp -dsimp -implicitDefEqProofs only[go_sem,↓reduceIte,Tryz.f137,h1,gH,lI,lJ,aD]
    refine⟨by decide,by decide,by decide,by omega,by omega,by omega,λb ⟨b1,b2,b3⟩=>hnext _ b _ aRS b3 ?_⟩
    rw[qB R hml]
    exact aB.pY (aWC _ _)
   ·have na:=hgR c.fA aD6
    have hop:3<=c.gB->opS sz args R c=opW c.gB (R.getD c.fA.toNat []) (R.getD c.fB.toNat []):=λq=>by rw[opS,if_neg aA,if_neg aA]
    have i0:0<=c.fA/\c.fA<k:=by unfold bN at hin;omega
    have hcall:=scaled (R.getD c.fA.toNat []) 1000002 nO aM2 na.2.2
    simp -dsimp -implicitDefEqProofs only[go_sem,↓reduceIte,Tryz.f137,h1,gH,na.1,lI,lJ,aD]
    refine⟨by omega,by omega,aH.mk hcall ?_⟩
    simp -dsimp -implicitDefEqProofs only[go_sem,↓reduceIte,Tryz.f137,h1,gH,lI,lJ,aD]
    refine⟨by decide,by decide,by decide,by omega,by omega,by omega,λb ⟨b1,b2,b3⟩=>hnext _ b _ aRS b3 ?_⟩
    rw[qB R hml]
    exact aB.pY (aWC _ _)
 ·have hk':k=t.bR.length:=by omega
  subst hk'
  cases o with
  |none =>
   rw[aZ]at hos
   simp -dsimp -implicitDefEqProofs only[go_sem,↓reduceIte,Tryz.f137,bD,aM,bV,cY]
   rw[hos]
   exact Shift.of (Sub.gK (.cons (Sub.loose _ _ _) (.cons (.refl _) .nil))) (aB.le_refl _)
  |some n =>
   rw[aP]at hos
   simp -dsimp -implicitDefEqProofs only[go_sem,↓reduceIte,Tryz.f137,aQ,aJ,bV,cY]
   have h1:=mI (l4 sz args t.bR t.bR.length) hos (aB.le_refl _) hml.symm
   exact h1.bPR 0
end Go.Hl

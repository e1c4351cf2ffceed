/-
  Contracts of functions and laws of the layer over the walk.
-/
import Derived.Test.YtchbdakgjlnbgaaGreatDoorVvF
import Derived.Test.YtchbdakgjlnbgaaGreatDoorVvE
import Derived.Test.YtchbdakgjlnbgaaGreatDoorVvB
import Derived.Test.YtchbdakgjlnbgaaGreatDoorVvD
namespace Go.Hl
set_option maxRecDepth 100000
open Go.Proofs
set_option linter.unusedVariables false
set_option linter.unusedSimpArgs false
def c6 (p:aL) (inp:Int) (S:eP) (om og ov:Option Nat):bQ :=
 .row 6 [[.v (.ip 1 [[dA 3 aX.c p.aJ]] 0 0),.v (I inp),.v (j3 4 S.code.length om),.v (j3 2 S.guards.length og),.v .aU,.v (j3 1 S.iM.length ov)]]
theorem a5E (p:aL) (inp:Int):∀ S om og ov,∃ sz cs,c6 p inp S om og ov=.row sz cs/\¬sz=1/\¬sz=2/\¬sz=4:=λS om og ov=>⟨6,_,rfl,by decide,by decide,by decide⟩
@[go_sem] def bTY:List Nat:=[4,14,25]
@[go_sem] def bTZ:Marks:=λid=>match id with|1=>([5,8,12],(.op 0 (.op 1 (.op 2 (.op 3 (.op 4 (.op 6 (.op 7 (.op 5 (.op 8 (.op 9 (.op 10 (.op 11 (.op 12 .nil))))))))))))),[])|_=>([],.nil,[])
theorem aH7 {h0 h:Heap} {nb:Nat} {p:aL} {inp:Int} {S:eP} (H:eM (c6 p inp) h0 nb S h) (x:cK) (v:Int) (hl:S.code.length=S.iM.length) (hcap:S.iM.length<=1048576) :
  gV Tryz.prog 249 [.op nb 6 0 0,.agg x.c,I v] h λr h'=>r=I S.iM.length/\eM (c6 p inp) h0 nb (S.put x v) h':=by
 obtain⟨om,og,ov,H⟩:=H
 have hb:=H.box
 have hc:=H.code
 have hv:=H.iM
 unfold c6 at hb
 rw[cK.aO]
 cases om with
 |none =>
  have r8:S.code=[]:=jZ.1 hc
  cases ov with
  |some v =>
   have hv0:S.iM=[]:=aR2 (by rw[←hl,r8];rfl)
   exact absurd (by rw[hv0];rfl) hv.1
  |none =>
   have hv0:S.iM=[]:=jZ.1 hv
   refine mK 36 bCP bTY bTZ Tryz.func249 ?_
   simp -dsimp -implicitDefEqProofs only[go_sem,↓reduceIte,Tryz.f249,hb,bI]
   refine⟨by decide,by decide,by decide,λm hm=>?_⟩
   obtain⟨nJ,fD,fC,kZ⟩:=cB (show ¬m=nb from λe=>by rw[e,hb]at hm;cases hm)
   simp -dsimp -implicitDefEqProofs only[go_sem,↓reduceIte,Tryz.f249,hb,bI,fD,fC,aE]
   refine⟨by decide,by decide,by decide,λw ⟨hwb,hwm,hw⟩=>?_⟩
   obtain⟨aOI,p1,p2,a0W⟩:=cB (show ¬w=nb from hwb)
   obtain⟨a44,aCN,aCO,bBG⟩:=cB (show ¬w=m from hwm)
   try simp -dsimp -implicitDefEqProofs only[go_sem,↓reduceIte,Tryz.f249,hb,fD,aCO,fC,p2,aCN,p1,aE]
   obtain⟨g,hg,hR⟩:=H.put x v hm hw a44 (F:=bL (bL (bL h m (.row 4 [x.c.map .v])) w (.row 1 [[.v (I v)]])) nb (c6 p inp (S.put x v) (some m) og (some w))) (bB _ _ _)
    bRP (by rw[aE _ _ _ _ aOI,bB,hv0];rfl) (λn h1 h2 h3 _ _=>by rw[aE _ _ _ _ h1,aE _ _ _ _ h3,aE _ _ _ _ h2])
   refine⟨_,g,eZ (Heap.le_trans hg ?_),by rw[hv0];rfl,hR⟩
   unfold c6
   simp only[eP.put,r8,hv0,aZ,cK.aO,pR,aB9,nE,xL]
   exact(jU (by repeat'(first|exact hZ _ _|refine jV (by simp only[fU,↓reduceIte,eq_self,if_true,fD,aCO,fC,p2,aCN,p1]) ?_|refine fZ p9 ?_)))
 |some m =>
  cases ov with
  |none =>
   have hv0:S.iM=[]:=jZ.1 hv
   have r8:S.code=[]:=aR2 (by rw[hl,hv0];rfl)
   exact absurd (by rw[r8];rfl) hc.1
  |some w =>
   have hm:=hc.2
   have hw:=hv.2
   obtain⟨nJ,fD,fC,kZ⟩:=cB (show ¬m=nb from λe=>by rw[e,hb]at hm;cases hm)
   obtain⟨aOI,p1,p2,a0W⟩:=cB (show ¬w=nb from λe=>by rw[e,hb]at hw;cases hw)
   obtain⟨a44,aCN,aCO,bBG⟩:=cB (show ¬w=m from λe=>by rw[e,hm]at hw;cases hw)
   refine mK 36 bCP bTY bTZ Tryz.func249 ?_
   simp -dsimp -implicitDefEqProofs only[go_sem,↓reduceIte,Tryz.f249,hb,aZ,hm,hw,fD,aCO,fC,p2,aCN,p1,aE]
   refine⟨by decide,by decide,by decide,by rw[jW];exact eV _,by omega,by omega,λb oF=>?_⟩
   obtain⟨rJ,lE,lD,qZ⟩:=cB (show ¬b=nb from λe=>by rw[e,hb]at oF;cases oF)
   obtain⟨aQB,aAG,aAH,aQC⟩:=cB (show ¬b=m from λe=>by rw[e,hm]at oF;cases oF)
   obtain⟨bRG,aU1,aU2,b33⟩:=cB (show ¬b=w from λe=>by rw[e,hw]at oF;cases oF)
   simp -dsimp -implicitDefEqProofs only[go_sem,↓reduceIte,Tryz.f249,hb,hw,fD,aCO,aAH,fC,p2,lD,aCN,p1,aU2,aAG,lE,aU1,aE]
   rw[aZ]
   simp -dsimp -implicitDefEqProofs only[go_sem,↓reduceIte,Tryz.f249,hb,hw,fD,aCO,aAH,fC,p2,lD,aCN,p1,aU2,aAG,lE,aU1,aE]
   refine⟨by decide,by decide,by decide,by rw[jW];exact eV _,by omega,by omega,λb2 ⟨b9B,bW9,bXA,mL⟩=>?_⟩
   obtain⟨bBJ,aRH,aRI,bPT⟩:=cB (show ¬b2=nb from b9B)
   obtain⟨bXB,a0X,a0Y,bXC⟩:=cB (show ¬b2=m from bXA)
   obtain⟨bXD,a0Z,a00,bXE⟩:=cB (show ¬b2=w from λe=>by rw[e,hw]at mL;cases mL)
   obtain⟨a92,a01,a02,bHU⟩:=cB (show ¬b2=b from bW9)
   simp -dsimp -implicitDefEqProofs only[go_sem,↓reduceIte,Tryz.f249,hb,hw,fD,aCO,aAH,a0Y,fC,p2,lD,aRI,aCN,p1,aU2,a00,aAG,lE,aU1,a02,a0X,aRH,a0Z,a01,aE]
   rw[gX aPC,gX aPC]
   obtain⟨g,hg,hR⟩:=H.put x v oF mL a92 (F:=bL (bL (bL (bL (bL h m .gone) b (.row 4 (rowsOf cK.c S.code++[x.c.map .v]))) w .gone) b2 (.row 1 (rowsOf (λn=>[I n]) S.iM++[[.v (I v)]]))) nb (c6 p inp (S.put x v) (some b) og (some b2))) (bB _ _ _)
    bRF bRY
    (λn h1 h2 h3 h4 h5=>by rw[aE _ _ _ _ h1,aE _ _ _ _ h3,aE _ _ _ _ (λq=>h5 zT),aE _ _ _ _ h2,aE _ _ _ _ (λq=>h4 zT)])
   refine λ_=>⟨_,g,eZ (Heap.le_trans hg ?_),?_,hR⟩
   ·unfold c6
    simp only[eP.put,aZ,cK.aO,tN,aB9,nE,xL]
    exact(jU (by repeat'(first|exact hZ _ _|refine jV (by simp only[fU,↓reduceIte,eq_self,if_true,fD,aCO,aAH,a0Y,fC,p2,lD,aRI,aCN,p1,aU2,a00,aAG,lE,aU1,a02,a0X,aRH,a0Z,a01]) ?_|refine fZ p9 ?_)))
   ·rw[IntWalk.i64_in _ aA]
    congr 1
    omega
theorem a08 (a:Int) (ha:oI a):fQ Tryz.prog 282 [I a] (I ((0-a)%1000003)):=by
 unfold oI at ha
 refine eG 6 aN4 cD bS Tryz.func282 λh=>?_
 simp -dsimp -implicitDefEqProofs only[go_sem,↓reduceIte,Tryz.f282]
 rw[IntWalk.i64_in _ aA]
 first|refine aH.mk (dP (0-a)) ?_|refine aG.mk (dP (0-a)) ?_|refine aH.cN (dP (0-a)) ?_|refine aG.mk (cG.fO (dP (0-a))) ?_
 simp -dsimp -implicitDefEqProofs only[go_sem,↓reduceIte,Tryz.f282]
@[go_sem] def bP1:List Nat:=[0,2,3,4,6,8]
theorem bD5 (k:Int) (hk:k=3∨k=4∨k=5∨k=6):fQ Tryz.prog 284 [I k] (I k):=by
 refine eG 10 bP1 cD bS Tryz.func284 λh=>?_
 simp -dsimp -implicitDefEqProofs only[go_sem,↓reduceIte,Tryz.f284]
 refine⟨λq=>by rw[q],λq=>⟨λq4=>by rw[q4],λq4=>⟨λq5=>by rw[q5],λq5=>?_⟩⟩⟩
 rw[show k=6 by omega]
@[go_sem] def bP2:List Nat:=[0,1,2,6,7,8,13,18]
theorem lX (k a b v:Int) (ha:oI a) (hb:oI b) (hk:k=3∨k=4∨k=5∨k=6) (hv:opV k a b=some v):fQ Tryz.prog 285 [I k,I a,I b] (I v):=by
 have hni:oI (xN b):=num_inv b
 refine eG 27 bP2 cD bS Tryz.func285 λh=>?_
 simp -dsimp -implicitDefEqProofs only[go_sem,↓reduceIte,Tryz.f285]
 refine⟨λq=>?_,λq=>⟨λq4=>?_,λq4=>⟨λq5=>?_,λq5=>?_⟩⟩⟩
 ·first|refine aH.mk (j6 a b) ?_|refine aG.mk (j6 a b) ?_|refine aH.cN (j6 a b) ?_|refine aG.mk (cG.fO (j6 a b)) ?_
  simp -dsimp -implicitDefEqProofs only[go_sem,↓reduceIte,Tryz.f285]
  unfold opV at hv;rw[if_pos q]at hv;rw[eN hv]
 ·first|refine aH.mk (zK a b ha hb) ?_|refine aG.mk (zK a b ha hb) ?_|refine aH.cN (zK a b ha hb) ?_|refine aG.mk (cG.fO (zK a b ha hb)) ?_
  simp -dsimp -implicitDefEqProofs only[go_sem,↓reduceIte,Tryz.f285]
  unfold opV at hv;rw[if_neg q,if_pos q4]at hv;rw[eN hv]
 ·first|refine aH.mk (c8 a b ha hb) ?_|refine aG.mk (c8 a b ha hb) ?_|refine aH.cN (c8 a b ha hb) ?_|refine aG.mk (cG.fO (c8 a b ha hb)) ?_
  simp -dsimp -implicitDefEqProofs only[go_sem,↓reduceIte,Tryz.f285]
  unfold opV at hv;rw[if_neg q,if_neg q4,if_pos q5]at hv;rw[eN hv]
 ·first|refine aH.mk (aH0 b) ?_|refine aG.mk (aH0 b) ?_|refine aH.cN (aH0 b) ?_|refine aG.mk (cG.fO (aH0 b)) ?_
  simp -dsimp -implicitDefEqProofs only[go_sem,↓reduceIte,Tryz.f285]
  first|refine aH.mk (c8 a (xN b) ha hni) ?_|refine aG.mk (c8 a (xN b) ha hni) ?_|refine aH.cN (c8 a (xN b) ha hni) ?_|refine aG.mk (cG.fO (c8 a (xN b) ha hni)) ?_
  simp -dsimp -implicitDefEqProofs only[go_sem,↓reduceIte,Tryz.f285]
  unfold opV at hv
  rw[if_neg q,if_neg q4,if_neg q5,if_neg aA]at hv
  by_cases hz:b=0
  ·rw[if_pos hz]at hv;cases hv
  ·rw[if_neg hz]at hv;rw[eN hv]
@[go_sem] def xD:List Nat:=[0,1,2,6,7,8,9,10,11,12,13,17,18,31,40,62,94,111,133]
@[go_sem] def aH8:List Nat:=[89,130]
@[go_sem] def aH9:Marks:=λid=>match id with|3=>([10],(.op 0 (.op 1 (.op 2 (.op 3 (.op 4 (.op 5 (.op 6 (.op 7 (.op 8 (.op 9 (.op 10 (.op 11 .nil)))))))))))),[])|18=>([7,10,11],(.op 0 (.op 1 (.op 2 (.op 3 (.op 4 (.op 5 (.op 6 (.op 8 (.op 9 (.op 7 (.op 10 (.op 11 (.op 12 .nil))))))))))))),[])|25=>([9,12,16,19,20,21],(.op 0 (.op 1 (.op 2 (.op 3 (.op 4 (.op 5 (.op 6 (.op 7 (.op 8 (.op 10 (.op 13 (.op 14 (.op 15 (.op 17 (.op 9 (.op 11 (.op 12 (.op 16 (.op 18 (.op 19 (.op 20 (.op 21 (.op 22 .nil))))))))))))))))))))))),[])|_=>([],.nil,[])
def xE (p:aL) (inp:Int) (n:Nat):Prop:=∀ (h0 h:Heap) (nb st:Nat) (e:aB) (env:List Int) (S:eP) (funcs:Int) (k:Int) (S':eP) (t:Nat),eM (c6 p inp) h0 nb S h->st<=3000->e.ok p funcs env.length->0<=funcs->funcs<=p.aJ.length->Good inp S st->(∀ x∈env,rZ S x)->env.length<=412+st->fT p n st e env S=.ok ((k,S'),t) ->
 gV Tryz.prog 263 [.op nb 6 0 0,.ip 5 [e.c] 0 0,ints env] h λr h'=>r=I k/\eM (c6 p inp) h0 nb S' h'
theorem j7 {α β:Type} {X:Out α} {F:α->Nat->Out β} {v:β} {t:Nat} (h:X.andThen F=.ok (v,t)):∃ w u,X=.ok (w,u)/\F w u=.ok (v,t):=by
 cases X with
 |ok q=>exact⟨q.1,q.2,rfl,h⟩
 |error c=>cases h
theorem a5F (ev:Nat->aB->eP->Out (Int×eP)) (b:List aB):∀ (a:List aB) (t:Nat) (S:eP),pI ev (a++b) t S=(pI ev a t S).andThen λq t=>(pI ev b t q.2).andThen λr t=>.ok ((q.1++r.1,r.2),t)
 | [],t,S=>by
  show pI ev b t S=(pI ev b t S).andThen λr t=>.ok (([]++r.1,r.2),t)
  cases pI ev b t S with
  |ok q=>rfl
  |error c=>rfl
 |x::a,t,S=>by
  simp only[tE,pI,a5F ev b a,Out.oQ,Out.andThen_ok]
theorem pK {ev:Nat->aB->eP->Out (Int×eP)} {l:List aB} {st:Nat} {S:eP} {v:List Int×eP} {t:Nat} (h:pI ev l st S=.ok (v,t)) {k:Nat} (hk:k<l.length) {vs:List Int} {S1:eP} {t1:Nat} (h1:pI ev (l.take k) st S=.ok ((vs,S1),t1)) :
  ∃ j S2 t2,ev t1 l[k] S1=.ok ((j,S2),t2)/\pI ev (l.take (k+1)) st S=.ok ((vs++[j],S2),t2):=by
 have e:l=l.take k++(l[k]::l.drop (k+1)):=by rw[←bA3 hk,aR1]
 rw[e,a5F,h1]at h
 have h':(pI ev (l[k]::l.drop (k+1)) t1 S1).andThen (λr t=>.ok ((vs++r.1,r.2),t))=.ok (v,t):=h
 obtain⟨w,u,h2,_⟩:=j7 h'
 obtain⟨r,u2,h3,_⟩:=j7 h2
 refine⟨r.1,r.2,u2,h3,?_⟩
 rw[kF hk,aOH,h1]
 show(ev t1 l[k] S1).andThen _=_
 rw[h3];rfl
theorem a5G {p:aL} (hp:p.ok) {inp:Int} {n:Nat} (hv:xE p inp n) (h0 h:Heap) (nb st:Nat) (f:aX) (env:List Int) (S:eP) (funcs:Int) (l:List Int) (S':eP) (t:Nat) (hb:eM (c6 p inp) h0 nb S h) (hst:st<=3000)
  (hl:f.bG.length<=1048576) (hok:∀ e∈f.bG,e.ok p funcs env.length) (gZ:0<=funcs) (hf:funcs<=p.aJ.length) (hg:Good inp S st) (henv:∀ x∈env,rZ S x) (hel:env.length<=412+st) (hr:pI (λt e S=>fT p n t e env S) f.bG st S=.ok ((l,S'),t)) :
  gV Tryz.prog 250 [.op nb 6 0 0,.ip 3 [f.c] 0 0,ints env] h λr h'=>r=ints l/\eM (c6 p inp) h0 nb S' h':=by
 rw[aX.aO]
 refine mK 32 bCN bCO bS Tryz.func250 ?_
 simp -dsimp -implicitDefEqProofs only[go_sem,↓reduceIte,Tryz.f250]
 refine⟨by decide,?_⟩
 refine cY bCN bCO bS (λx:Nat×List Int×eP×Nat×Heap×Option Nat=>[(0,.op nb 6 0 0),(1,.ip 3 [f.c] 0 0),(2,ints env),(7,nW 1 x.2.1.length x.2.2.2.2.2),(8,I x.1)]) (λx=>dG x.2.2.2.2.1 (.row 1 ((x.2.1.map λn=>[I n]).map (List.map .v))) x.2.2.2.2.2) (λx=>x.1<=f.bG.length/\x.2.1.length=x.1/\pI (λt e S=>fT p n t e env S) (f.bG.take x.1) st S=.ok ((x.2.1,x.2.2.1),x.2.2.2.1)/\eM (c6 p inp) h0 nb x.2.2.1 x.2.2.2.2.1/\lK x.2.2.2.2.1 x.2.1 x.2.2.2.2.2) (λx=>f.bG.length-x.1) (0,[],S,st,h,none) ⟨by simp[eE,dJ,nW,aX.aO],Heap.le_refl _,iF _,rfl,rfl,hb,rfl⟩ ?_
 rintro⟨k,vs,S1,t1,g,o⟩ ⟨hk,hvl,hs,hR,hos⟩
 simp only at hk hvl hs hR hos ⊢
 rw[aX.aO]
 rcases cX k f.bG.length with hlt|hge
 ·have ek:f.bG[k]?=some f.bG[k]:=cJ hlt
  obtain⟨j,S2,t2,hj,nA⟩:=pK hr hlt hs
  obtain⟨b1,b2,b3,b4⟩:=jL hp (l:=f.bG.take k) hg hst henv (λx hx=>hok x (aYV hx)) hf _ _ hs
  simp only at b1 b2 b3
  have hsub:b8 [.op nb 6 0 0,.ip 5 (f.bG.map aB.c) k 0,ints env] [.op nb 6 0 0,.ip 5 [f.bG[k].c] 0 0,ints env]:=.cons (.refl _) (.cons (Sub.ip (b9 hlt) bF) (.cons (.refl _) .nil))
  cases o with
  |none =>
   rw[cZ]at hos
   subst hos
   simp -dsimp -implicitDefEqProofs only[go_sem,↓reduceIte,Tryz.f250,dK,aN,hlt,ek]
   refine λ_=>aH.jP (gV.sub hsub (hv h0 g nb t1 f.bG[k] env S1 funcs j S2 t2 hR b4.2.2.2 (hok _ (dX _)) gZ hf b1 (λx hx=>(henv x hx).ext b2) bBZ hj)) ?_
   rintro r h' ⟨rfl,qM⟩
   simp -dsimp -implicitDefEqProofs only[go_sem,↓reduceIte,Tryz.f250]
   refine⟨cI,cI,cI,λb mL=>?_⟩
   refine⟨(k+1,[j],S2,t2,h',some b),⟨rfl,by rw[IntWalk.i64_in _ aA];rfl⟩,Heap.le_refl _,⟨by omega,by simp only[al7]at hvl;subst hvl;rfl,nA,qM,mL⟩,by simp only;omega⟩
  |some m =>
   rw[bY]at hos
   simp -dsimp -implicitDefEqProofs only[go_sem,↓reduceIte,Tryz.f250,bU,aK,hlt,ek]
   refine λ_=>aH.jP (gV.sub hsub (hv _ _ nb t1 f.bG[k] env S1 funcs j S2 t2 (hR.over hos) b4.2.2.2 (hok _ (dX _)) gZ hf b1 (λx hx=>(henv x hx).ext b2) bBZ hj)) ?_
   rintro r h' ⟨rfl,qM⟩
   obtain⟨g2,rfl,hg2,qM⟩:=qM.base (hR.none hos)
   simp -dsimp -implicitDefEqProofs only[go_sem,↓reduceIte,Tryz.f250]
   refine⟨cI,cI,cI,eV _,by omega,by omega,λb ⟨hbm,mL⟩=>?_⟩
   obtain⟨aQB,aAG,aAH,aQC⟩:=cB (show ¬b=m from hbm)
   refine⟨(k+1,vs++[j],S2,t2,g2,some b),⟨by rw[bU,tN];rfl,by rw[IntWalk.i64_in _ aA];rfl⟩,?_,⟨by omega,by rw[tN,hvl];rfl,nA,qM,mL⟩,by simp only;omega⟩
   simp only[aK]
   rw[←jE]
   exact pC hg2
 ·have hk':k=f.bG.length:=by omega
  subst hk'
  rw[eJ,hr]at hs
  obtain⟨rfl,rfl⟩:=oH (oH (Except.ok.inj hs)).1
  cases o with
  |none =>
   rw[cZ]at hos
   subst hos
   simp -dsimp -implicitDefEqProofs only[go_sem,↓reduceIte,Tryz.f250,dK,aN,cO,eK]
   exact λ_=>⟨ints [],_,Shift.of (Sub.loose _ _ _) (Heap.le_refl _),rfl,hR⟩
  |some m =>
   rw[bY]at hos
   simp -dsimp -implicitDefEqProofs only[go_sem,↓reduceIte,Tryz.f250,bU,aK,cO,eK]
   exact λ_=>⟨ints l,g,mW l hos (Heap.le_refl _) rfl,rfl,hR⟩
theorem eO.single {h g:Heap} {m:Nat} {o:bQ} (w:eO h [(m,o)] g):h m=none/\g=bL h m o:=by
 refine⟨w.fresh m aSK,?_⟩
 funext q
 by_cases e:q=m
 ·subst e;rw[bB];exact w.gH (q,o) bF
 ·rw[aE _ _ _ _ e];exact w.upto q (by simpa[cF]using e)
theorem bP3 {p:aL} (hp:p.ok) {inp:Int} {n:Nat} (hv:xE p inp n) {h0 h:Heap} {nb st:Nat} {e:aB} {env:List Int} {S:eP} {funcs:Int} {k:Int} {S':eP} {t:Nat} (hR:eM (c6 p inp) h0 nb S h) (hst:st<3000)
  (hok:e.ok p funcs env.length) (gZ:0<=funcs) (hf:funcs<=p.aJ.length) (hg:Good inp S st) (henv:∀ x∈env,rZ S x) (hel:env.length<=412+st) (hr:fT p (n+1) st e env S=.ok ((k,S'),t)) (hk:e.bH=1) :
  gV Tryz.prog 263 [.op nb 6 0 0,.ip 5 [e.c] 0 0,ints env] h λr h'=>r=I k/\eM (c6 p inp) h0 nb S' h':=by
 rw[aB.aO]
 have hnode:=(aB.fK _ _ _ _).1 hok
 have h3:¬st=3000:=by omega
 have hcap:=hg.cap
 have hgcap:=hg.vM
 have pE:=hg.later (nB st)
 rw[a0R h3 hk]at hr
 cases hr
 refine mK 183 xD aH8 aH9 Tryz.func263 ?_
 simp -dsimp -implicitDefEqProofs only[go_sem,↓reduceIte,Tryz.f263,hk]
 refine aH.jP (aH7 hR ⟨2,0,0,e.bZ⟩ e.bZ hg.len aA) ?_
 rintro r h' ⟨rfl,qM⟩
 simp -dsimp -implicitDefEqProofs only[go_sem,↓reduceIte,Tryz.f263]
 exact⟨_,_,cE _ _,rfl,qM⟩
theorem bP4 {p:aL} (hp:p.ok) {inp:Int} {n:Nat} (hv:xE p inp n) {h0 h:Heap} {nb st:Nat} {e:aB} {env:List Int} {S:eP} {funcs:Int} {k:Int} {S':eP} {t:Nat} (hR:eM (c6 p inp) h0 nb S h) (hst:st<3000)
  (hok:e.ok p funcs env.length) (gZ:0<=funcs) (hf:funcs<=p.aJ.length) (hg:Good inp S st) (henv:∀ x∈env,rZ S x) (hel:env.length<=412+st) (hr:fT p (n+1) st e env S=.ok ((k,S'),t)) (hk:e.bH=2) :
  gV Tryz.prog 263 [.op nb 6 0 0,.ip 5 [e.c] 0 0,ints env] h λr h'=>r=I k/\eM (c6 p inp) h0 nb S' h':=by
 rw[aB.aO]
 have hnode:=(aB.fK _ _ _ _).1 hok
 have h3:¬st=3000:=by omega
 have hcap:=hg.cap
 have hgcap:=hg.vM
 have pE:=hg.later (nB st)
 rw[a0S h3 hk]at hr
 cases hr
 have hnum:=((iG aA).1 hnode.1).2.2.2.2.1 hk
 have hlt:e.bZ.toNat<env.length:=by omega
 refine mK 183 xD aH8 aH9 Tryz.func263 ?_
 simp -dsimp -implicitDefEqProofs only[go_sem,↓reduceIte,Tryz.f263,hk,gA hlt]
 exact⟨hnum.1,by omega,_,_,cE _ _,rfl,hR⟩
theorem bP5 {p:aL} (hp:p.ok) {inp:Int} {n:Nat} (hv:xE p inp n) {h0 h:Heap} {nb st:Nat} {e:aB} {env:List Int} {S:eP} {funcs:Int} {k:Int} {S':eP} {t:Nat} (hR:eM (c6 p inp) h0 nb S h) (hst:st<3000)
  (hok:e.ok p funcs env.length) (gZ:0<=funcs) (hf:funcs<=p.aJ.length) (hg:Good inp S st) (henv:∀ x∈env,rZ S x) (hel:env.length<=412+st) (hr:fT p (n+1) st e env S=.ok ((k,S'),t)) (hk:e.bH=9) :
  gV Tryz.prog 263 [.op nb 6 0 0,.ip 5 [e.c] 0 0,ints env] h λr h'=>r=I k/\eM (c6 p inp) h0 nb S' h':=by
 rw[aB.aO]
 have hnode:=(aB.fK _ _ _ _).1 hok
 have h3:¬st=3000:=by omega
 have hcap:=hg.cap
 have hgcap:=hg.vM
 have pE:=hg.later (nB st)
 have hlen:=gT hok aA
 rw[hk,show jO 9=2 from rfl]at hlen
 have g0:e.aP[Int.toNat 0]?=some (e.tL 0):=aB.kW aA
 have g1:e.aP[Int.toNat 1]?=some (e.tL 1):=aB.kW aA
 have o0:=aB.jY hok (i:=0) aA
 have o1:=aB.jY hok (i:=1) aA
 rw[mV aA]at o0
 rw[hk,show p8 9 1 (env.length:Int)=env.length+1 from rfl]at o1
 rw[a0T h3 hk]at hr
 obtain⟨⟨k1,S1⟩,t1,e1,e2⟩:=j7 hr
 obtain⟨b1,b2,b3,b4⟩:=tW hp n (st+1) (e.tL 0) env S funcs o0 hf pE aA henv _ _ e1
 simp only at b1 b2 b3
 have hsub:∀ (i:Nat),i<e.aP.length->b8 [.op nb 6 0 0,.ip 5 (e.aP.map aB.c) i 0,ints env] [.op nb 6 0 0,.ip 5 [(e.tL i).c] 0 0,ints env]:=λi hi=>by
  rw[aB.aBV hi]
  exact .cons (.refl _) (.cons (Sub.ip (b9 hi) bF) (.cons (.refl _) .nil))
 refine mK 183 xD aH8 aH9 Tryz.func263 ?_
 simp -dsimp -implicitDefEqProofs only[go_sem,↓reduceIte,Tryz.f263,hk]
 refine⟨by omega,aH.jP (gV.sub (hsub 0 aA) (hv h0 _ nb (st+1) (e.tL 0) env S funcs k1 S1 t1 hR aA o0 gZ hf pE henv aA e1)) ?_⟩
 rintro r h' ⟨rfl,qM⟩
 simp -dsimp -implicitDefEqProofs only[go_sem,↓reduceIte,Tryz.f263]
 refine⟨by omega,by decide,by decide,aH.wn0 (l6 env aA) ?_⟩
 rintro r l g ⟨y,oy,rfl,rfl⟩ wn
 have aZJ:∀ x∈env++[k1],rZ S1 x:=λx hx=>by
  rcases rF.1 hx with hx|hx
  ·exact(henv x hx).ext b2
  ·rw[vP.1 hx];exact b3
 have hfin:∀ {h1 g1:Heap},eM (c6 p inp) h1 nb S1 g1->gV Tryz.prog 263 [.op nb 6 0 0,.ip 5 (e.aP.map aB.c) 1 0,ints (env++[k1])] g1 λr h'=>r=I k/\eM (c6 p inp) h1 nb S' h':=λxP =>
  gV.sub (.cons (.refl _) (.cons (by rw[aB.aBV (show 1<e.aP.length by omega)];exact Sub.ip (b9 aA) bF) (.cons (.refl _) .nil))) (hv _ _ nb t1 (e.tL 1) (env++[k1]) S1 funcs k S' t xP b4.2.2.2 a2Y gZ hf b1 aZJ (by rw[tN];have:=b4.2.2.1;show env.length+1<=_;omega) e2)
 rcases oy.aC8 with⟨rfl,rfl⟩|⟨m,rfl⟩
 ·rw[OV.kG]at wn
  have hgh:g=h':=funext λq=>wn.upto q aSK
  subst hgh
  simp -dsimp -implicitDefEqProofs only[go_sem,↓reduceIte,Tryz.f263,OV.val]
  refine⟨by decide,λb mL=>?_⟩
  obtain⟨qZ,lD,lE,rJ⟩:=cB (show ¬nb=b from λe=>by obtain⟨_,_,_,H2⟩:=qM;have:=H2.box;rw[e,mL]at this;cases this)
  refine aH.aP9 (x:=.ip 5 (e.aP.map aB.c) 1 0) (es:=[[I k1]]) (len:=1) rfl rfl qZ rfl mL ?_
  refine gV.mono (hfin (qM.over (o:=.gone) mL)) ?_
  rintro r h2 ⟨rfl,xP⟩
  obtain⟨g3,rfl,hg3,xP⟩:=xP.base (qM.none mL)
  simp -dsimp -implicitDefEqProofs only[go_sem,↓reduceIte,Tryz.f263]
  exact⟨_,g3,eZ (Heap.aW hg3 (Heap.le_refl _)),rfl,xP⟩
 ·rw[OV.fF,wS,sG]at wn
  obtain⟨hm,rfl⟩:=wn.single
  simp -dsimp -implicitDefEqProofs only[go_sem,↓reduceIte,Tryz.f263,OV.val]
  refine⟨by decide,eV _,by omega,by omega,λb ⟨hbm,mL⟩=>?_⟩
  obtain⟨aQB,aAG,aAH,aQC⟩:=cB (show ¬b=m from hbm)
  obtain⟨qZ,lD,lE,rJ⟩:=cB (show ¬nb=b from λe=>by obtain⟨_,_,_,H2⟩:=qM;have:=H2.box;rw[e,mL]at this;cases this)
  have hb3:(bL h' m .gone) b=none:=by rw[aE _ _ _ _ hbm];exact mL
  rw[aF,gX bF,show(env.map λx=>[I x]).map (List.map Cell.v)++[[Cell.v (aC.int .i64 k1)]]=((env++[k1]).map λn=>[I n]).map (List.map .v)by simp]
  refine aH.aP9 (x:=.ip 5 (e.aP.map aB.c) 1 0) (es:=(env++[k1]).map λn=>[I n]) (len:=env.length+1) rfl rfl qZ bF hb3 ?_
  refine gV.mono (hfin ((qM.over (o:=.gone) hm).over (o:=.gone) hb3)) ?_
  rintro r h2 ⟨rfl,xP⟩
  obtain⟨g3,rfl,hg3,xP⟩:=xP.base ((qM.over (o:=.gone) hm).none hb3)
  obtain⟨g4,rfl,hg4,xP⟩:=xP.base (qM.none hm)
  rw[aE _ _ _ _ hbm]at hg3
  simp -dsimp -implicitDefEqProofs only[go_sem,↓reduceIte,Tryz.f263]
  exact⟨_,g4,eZ (Heap.aW hg3 (Heap.aW hg4 (Heap.le_refl _))),rfl,xP⟩
theorem bP6 {p:aL} (hp:p.ok) {inp:Int} {n:Nat} (hv:xE p inp n) {h0 h:Heap} {nb st:Nat} {e:aB} {env:List Int} {S:eP} {funcs:Int} {k:Int} {S':eP} {t:Nat} (hR:eM (c6 p inp) h0 nb S h) (hst:st<3000)
  (hok:e.ok p funcs env.length) (gZ:0<=funcs) (hf:funcs<=p.aJ.length) (hg:Good inp S st) (henv:∀ x∈env,rZ S x) (hel:env.length<=412+st) (hr:fT p (n+1) st e env S=.ok ((k,S'),t)) (hk:e.bH=7) :
  gV Tryz.prog 263 [.op nb 6 0 0,.ip 5 [e.c] 0 0,ints env] h λr h'=>r=I k/\eM (c6 p inp) h0 nb S' h':=by
 rw[aB.aO]
 have hnode:=(aB.fK _ _ _ _).1 hok
 have h3:¬st=3000:=by omega
 have hcap:=hg.cap
 have hgcap:=hg.vM
 have pE:=hg.later (nB st)
 have hlen:=gT hok aA
 rw[hk,show jO 7=1 from rfl]at hlen
 have o0:=iR hok aA
 rw[oD h3 aA]at hr
 obtain⟨⟨vs,S1⟩,t1,e1,e2⟩:=j7 hr
 obtain⟨b1,b2,b3,b4⟩:=jL hp pE aA henv o0 hf _ _ e1
 simp only at b1 b2 b3
 obtain⟨j,S2,t2,hj,nA⟩:=pK e1 (k:=0) aA (vs:=[]) (S1:=S) (t1:=st+1) rfl
 rw[gX aA,e1]at nA
 obtain⟨rfl,rfl⟩:=oH (oH (Except.ok.inj nA)).1
 obtain rfl:=(oH (Except.ok.inj nA)).2
 have hsub:b8 [.op nb 6 0 0,.ip 5 (e.aP.map aB.c) 0 0,ints env] [.op nb 6 0 0,.ip 5 [e.aP[0].c] 0 0,ints env]:=.cons (.refl _) (.cons (Sub.ip (b9 aA) bF) (.cons (.refl _) .nil))
 have hj0:rZ S1 j:=b3.2 j bF
 have hvj:=b1.val j
 refine mK 183 xD aH8 aH9 Tryz.func263 ?_
 simp -dsimp -implicitDefEqProofs only[go_sem,↓reduceIte,Tryz.f263,hk]
 refine⟨by omega,aH.jP (gV.sub hsub (hv h0 _ nb (st+1) e.aP[0] env S funcs j S1 t1 hR aA (o0 _ (dX _)) gZ hf pE henv aA hj)) ?_⟩
 rintro r h' ⟨rfl,⟨om,og,ov,H1⟩⟩
 obtain⟨w,rfl,hw,dw⟩:=H1.row hj0
 have oF:=H1.box
 unfold c6 at oF
 rw[aZ]at oF
 have rk:=k8 hj0
 have k0:=hj0.1
 have k2:=hj0.2
 have lw:=jW (λn=>[I n]) S1.iM
 simp -dsimp -implicitDefEqProofs only[go_sem,↓reduceIte,Tryz.f263,oF,hw,rk]
 refine⟨k0,by omega,?_⟩
 first|refine aH.mk (a08 (S1.val j) hvj) ?_|refine aG.mk (a08 (S1.val j) hvj) ?_|refine aH.cN (a08 (S1.val j) hvj) ?_|refine aG.mk (cG.fO (a08 (S1.val j) hvj)) ?_
 simp -dsimp -implicitDefEqProofs only[go_sem,↓reduceIte,Tryz.f263]
 have e3:opR 7 [j] S1 t1=.ok (((S1.iM.length:Int),S1.put ⟨7,j,0,0⟩ ((0-S1.val j)%1000003)),t1):=rfl
 rw[hk]at e2
 have e4:=e3.symm.trans e2
 have e5:=(oH (oH (Except.ok.inj e4)).1)
 unfold sP at b4
 simp only at b4
 refine aH.jP (aH7 ⟨om,og,some w,H1⟩ ⟨7,j,0,0⟩ ((0-S1.val j)%1000003) b1.len a23) ?_
 rintro r h2 ⟨rfl,qM⟩
 simp -dsimp -implicitDefEqProofs only[go_sem,↓reduceIte,Tryz.f263]
 rw[e5.2]at qM
 exact⟨_,_,cE _ _,by rw[e5.1],qM⟩
theorem bP7 {p:aL} (hp:p.ok) {inp:Int} {n:Nat} (hv:xE p inp n) {h0 h:Heap} {nb st:Nat} {e:aB} {env:List Int} {S:eP} {funcs:Int} {k:Int} {S':eP} {t:Nat} (hR:eM (c6 p inp) h0 nb S h) (hst:st<3000)
  (hok:e.ok p funcs env.length) (gZ:0<=funcs) (hf:funcs<=p.aJ.length) (hg:Good inp S st) (henv:∀ x∈env,rZ S x) (hel:env.length<=412+st) (hr:fT p (n+1) st e env S=.ok ((k,S'),t)) (hk:e.bH=3) :
  gV Tryz.prog 263 [.op nb 6 0 0,.ip 5 [e.c] 0 0,ints env] h λr h'=>r=I k/\eM (c6 p inp) h0 nb S' h':=by
 rw[aB.aO]
 have hnode:=(aB.fK _ _ _ _).1 hok
 have h3:¬st=3000:=by omega
 have hcap:=hg.cap
 have hgcap:=hg.vM
 have pE:=hg.later (nB st)
 have hlen:=gT hok aA
 rw[hk,show jO 3=2 from rfl]at hlen
 have o0:=iR hok aA
 rw[oD h3 aA]at hr
 obtain⟨⟨vs,S1⟩,t1,e1,e2⟩:=j7 hr
 obtain⟨b1,b2,b3,b4⟩:=jL hp pE aA henv o0 hf _ _ e1
 simp only at b1 b2 b3
 obtain⟨j0,S0,t0,hj0,hs0⟩:=pK e1 (k:=0) aA (vs:=[]) (S1:=S) (t1:=st+1) rfl
 obtain⟨c1,c2,c3,c4⟩:=tW hp n (st+1) e.aP[0] env S funcs (o0 _ (dX _)) hf pE aA henv _ _ hj0
 simp only at c1 c2 c3
 obtain⟨j1,S2,t2,hj1,uB⟩:=pK e1 (k:=1) aA hs0
 rw[gX aA,e1]at uB
 obtain⟨rfl,rfl⟩:=oH (oH (Except.ok.inj uB)).1
 obtain rfl:=(oH (Except.ok.inj uB)).2
 have hsub:∀ (i:Nat) (hi:i<e.aP.length),b8 [.op nb 6 0 0,.ip 5 (e.aP.map aB.c) i 0,ints env] [.op nb 6 0 0,.ip 5 [e.aP[i].c] 0 0,ints env]:=λi hi=>.cons (.refl _) (.cons (Sub.ip (b9 hi) bF) (.cons (.refl _) .nil))
 have i0:rZ S1 j0:=b3.2 j0 bF
 have i1:rZ S1 j1:=b3.2 j1 bF
 have hv0:=b1.val j0
 have hv1:=b1.val j1
 refine mK 183 xD aH8 aH9 Tryz.func263 ?_
 simp -dsimp -implicitDefEqProofs only[go_sem,↓reduceIte,Tryz.f263,hk]
 refine⟨by omega,aH.jP (gV.sub (hsub 0 aA) (hv h0 _ nb (st+1) e.aP[0] env S funcs j0 S0 t0 hR aA (o0 _ (dX _)) gZ hf pE henv aA hj0)) ?_⟩
 rintro r h' ⟨rfl,hR1⟩
 simp -dsimp -implicitDefEqProofs only[go_sem,↓reduceIte,Tryz.f263]
 refine⟨by omega,aH.jP (gV.sub (hsub 1 aA) (hv h0 _ nb t0 e.aP[1] env S0 funcs j1 S1 t1 hR1 c4.2.2.2 (o0 _ (dX _)) gZ hf c1 (λx hx=>(henv x hx).ext c2) bBY hj1)) ?_⟩
 rintro r h2 ⟨rfl,⟨om,og,ov,H1⟩⟩
 obtain⟨w,rfl,hw,dw⟩:=H1.row i0
 have oF:=H1.box
 unfold c6 at oF
 rw[aZ]at oF
 have rk0:=k8 i0
 have rk1:=k8 i1
 have k0:=i0.1
 have k1:=i0.2
 have k2:=i1.1
 have k3:=i1.2
 have lw:=jW (λn=>[I n]) S1.iM
 have hop:=bD5 3 dQ
 try simp -dsimp -implicitDefEqProofs only[go_sem,↓reduceIte,Tryz.f263,hk]
 first|refine aH.mk (hop) ?_|refine aG.mk (hop) ?_|refine aH.cN (hop) ?_|refine aG.mk (cG.fO (hop)) ?_
 simp -dsimp -implicitDefEqProofs only[go_sem,↓reduceIte,Tryz.f263]
 try simp -dsimp -implicitDefEqProofs only[go_sem,↓reduceIte,Tryz.f263,oF,hw,rk0,rk1]
 refine⟨k0,by omega,k2,by omega,?_⟩
 rw[hk]at e2
 cases hv:opV 3 (S1.val j0) (S1.val j1)with
 |none =>
  have e3:opR 3 [j0,j1] S1 t1=.error 6:=by
   unfold opR
   rw[show([j0,j1].getD 0 0)=j0 from rfl,show opB 3 [j0,j1]=j1 from rfl,hv]
  have e4:=e3.symm.trans e2
  cases e4
 |some v =>
  have e3:opR 3 [j0,j1] S1 t1=.ok (((S1.iM.length:Int),S1.put ⟨3,j0,j1,0⟩ v),t1):=by
   unfold opR
   rw[show([j0,j1].getD 0 0)=j0 from rfl,show opB 3 [j0,j1]=j1 from rfl,hv]
  have e4:=e3.symm.trans e2
  have e5:=(oH (oH (Except.ok.inj e4)).1)
  first|refine aH.mk (lX 3 (S1.val j0) (S1.val j1) v hv0 hv1 dQ hv) ?_|refine aG.mk (lX 3 (S1.val j0) (S1.val j1) v hv0 hv1 dQ hv) ?_|refine aH.cN (lX 3 (S1.val j0) (S1.val j1) v hv0 hv1 dQ hv) ?_|refine aG.mk (cG.fO (lX 3 (S1.val j0) (S1.val j1) v hv0 hv1 dQ hv)) ?_
  simp -dsimp -implicitDefEqProofs only[go_sem,↓reduceIte,Tryz.f263]
  unfold sP at b4
  simp only at b4
  refine aH.jP (aH7 ⟨om,og,some w,H1⟩ ⟨3,j0,j1,0⟩ v b1.len a23) ?_
  rintro r h3 ⟨rfl,qM⟩
  simp -dsimp -implicitDefEqProofs only[go_sem,↓reduceIte,Tryz.f263]
  rw[e5.2]at qM
  exact⟨_,_,cE _ _,by rw[e5.1],qM⟩
theorem bP8 {p:aL} (hp:p.ok) {inp:Int} {n:Nat} (hv:xE p inp n) {h0 h:Heap} {nb st:Nat} {e:aB} {env:List Int} {S:eP} {funcs:Int} {k:Int} {S':eP} {t:Nat} (hR:eM (c6 p inp) h0 nb S h) (hst:st<3000)
  (hok:e.ok p funcs env.length) (gZ:0<=funcs) (hf:funcs<=p.aJ.length) (hg:Good inp S st) (henv:∀ x∈env,rZ S x) (hel:env.length<=412+st) (hr:fT p (n+1) st e env S=.ok ((k,S'),t)) (hk:e.bH=4) :
  gV Tryz.prog 263 [.op nb 6 0 0,.ip 5 [e.c] 0 0,ints env] h λr h'=>r=I k/\eM (c6 p inp) h0 nb S' h':=by
 rw[aB.aO]
 have hnode:=(aB.fK _ _ _ _).1 hok
 have h3:¬st=3000:=by omega
 have hcap:=hg.cap
 have hgcap:=hg.vM
 have pE:=hg.later (nB st)
 have hlen:=gT hok aA
 rw[hk,show jO 4=2 from rfl]at hlen
 have o0:=iR hok aA
 rw[oD h3 aA]at hr
 obtain⟨⟨vs,S1⟩,t1,e1,e2⟩:=j7 hr
 obtain⟨b1,b2,b3,b4⟩:=jL hp pE aA henv o0 hf _ _ e1
 simp only at b1 b2 b3
 obtain⟨j0,S0,t0,hj0,hs0⟩:=pK e1 (k:=0) aA (vs:=[]) (S1:=S) (t1:=st+1) rfl
 obtain⟨c1,c2,c3,c4⟩:=tW hp n (st+1) e.aP[0] env S funcs (o0 _ (dX _)) hf pE aA henv _ _ hj0
 simp only at c1 c2 c3
 obtain⟨j1,S2,t2,hj1,uB⟩:=pK e1 (k:=1) aA hs0
 rw[gX aA,e1]at uB
 obtain⟨rfl,rfl⟩:=oH (oH (Except.ok.inj uB)).1
 obtain rfl:=(oH (Except.ok.inj uB)).2
 have hsub:∀ (i:Nat) (hi:i<e.aP.length),b8 [.op nb 6 0 0,.ip 5 (e.aP.map aB.c) i 0,ints env] [.op nb 6 0 0,.ip 5 [e.aP[i].c] 0 0,ints env]:=λi hi=>.cons (.refl _) (.cons (Sub.ip (b9 hi) bF) (.cons (.refl _) .nil))
 have i0:rZ S1 j0:=b3.2 j0 bF
 have i1:rZ S1 j1:=b3.2 j1 bF
 have hv0:=b1.val j0
 have hv1:=b1.val j1
 refine mK 183 xD aH8 aH9 Tryz.func263 ?_
 simp -dsimp -implicitDefEqProofs only[go_sem,↓reduceIte,Tryz.f263,hk]
 refine⟨by omega,aH.jP (gV.sub (hsub 0 aA) (hv h0 _ nb (st+1) e.aP[0] env S funcs j0 S0 t0 hR aA (o0 _ (dX _)) gZ hf pE henv aA hj0)) ?_⟩
 rintro r h' ⟨rfl,hR1⟩
 simp -dsimp -implicitDefEqProofs only[go_sem,↓reduceIte,Tryz.f263]
 refine⟨by omega,aH.jP (gV.sub (hsub 1 aA) (hv h0 _ nb t0 e.aP[1] env S0 funcs j1 S1 t1 hR1 c4.2.2.2 (o0 _ (dX _)) gZ hf c1 (λx hx=>(henv x hx).ext c2) bBY hj1)) ?_⟩
 rintro r h2 ⟨rfl,⟨om,og,ov,H1⟩⟩
 obtain⟨w,rfl,hw,dw⟩:=H1.row i0
 have oF:=H1.box
 unfold c6 at oF
 rw[aZ]at oF
 have rk0:=k8 i0
 have rk1:=k8 i1
 have k0:=i0.1
 have k1:=i0.2
 have k2:=i1.1
 have k3:=i1.2
 have lw:=jW (λn=>[I n]) S1.iM
 have hop:=bD5 4 dQ
 try simp -dsimp -implicitDefEqProofs only[go_sem,↓reduceIte,Tryz.f263,hk]
 first|refine aH.mk (hop) ?_|refine aG.mk (hop) ?_|refine aH.cN (hop) ?_|refine aG.mk (cG.fO (hop)) ?_
 simp -dsimp -implicitDefEqProofs only[go_sem,↓reduceIte,Tryz.f263]
 try simp -dsimp -implicitDefEqProofs only[go_sem,↓reduceIte,Tryz.f263,oF,hw,rk0,rk1]
 refine⟨k0,by omega,k2,by omega,?_⟩
 rw[hk]at e2
 cases hv:opV 4 (S1.val j0) (S1.val j1)with
 |none =>
  have e3:opR 4 [j0,j1] S1 t1=.error 6:=by
   unfold opR
   rw[show([j0,j1].getD 0 0)=j0 from rfl,show opB 4 [j0,j1]=j1 from rfl,hv]
  have e4:=e3.symm.trans e2
  cases e4
 |some v =>
  have e3:opR 4 [j0,j1] S1 t1=.ok (((S1.iM.length:Int),S1.put ⟨4,j0,j1,0⟩ v),t1):=by
   unfold opR
   rw[show([j0,j1].getD 0 0)=j0 from rfl,show opB 4 [j0,j1]=j1 from rfl,hv]
  have e4:=e3.symm.trans e2
  have e5:=(oH (oH (Except.ok.inj e4)).1)
  first|refine aH.mk (lX 4 (S1.val j0) (S1.val j1) v hv0 hv1 dQ hv) ?_|refine aG.mk (lX 4 (S1.val j0) (S1.val j1) v hv0 hv1 dQ hv) ?_|refine aH.cN (lX 4 (S1.val j0) (S1.val j1) v hv0 hv1 dQ hv) ?_|refine aG.mk (cG.fO (lX 4 (S1.val j0) (S1.val j1) v hv0 hv1 dQ hv)) ?_
  simp -dsimp -implicitDefEqProofs only[go_sem,↓reduceIte,Tryz.f263]
  unfold sP at b4
  simp only at b4
  refine aH.jP (aH7 ⟨om,og,some w,H1⟩ ⟨4,j0,j1,0⟩ v b1.len a23) ?_
  rintro r h3 ⟨rfl,qM⟩
  simp -dsimp -implicitDefEqProofs only[go_sem,↓reduceIte,Tryz.f263]
  rw[e5.2]at qM
  exact⟨_,_,cE _ _,by rw[e5.1],qM⟩
theorem bP9 {p:aL} (hp:p.ok) {inp:Int} {n:Nat} (hv:xE p inp n) {h0 h:Heap} {nb st:Nat} {e:aB} {env:List Int} {S:eP} {funcs:Int} {k:Int} {S':eP} {t:Nat} (hR:eM (c6 p inp) h0 nb S h) (hst:st<3000)
  (hok:e.ok p funcs env.length) (gZ:0<=funcs) (hf:funcs<=p.aJ.length) (hg:Good inp S st) (henv:∀ x∈env,rZ S x) (hel:env.length<=412+st) (hr:fT p (n+1) st e env S=.ok ((k,S'),t)) (hk:e.bH=5) :
  gV Tryz.prog 263 [.op nb 6 0 0,.ip 5 [e.c] 0 0,ints env] h λr h'=>r=I k/\eM (c6 p inp) h0 nb S' h':=by
 rw[aB.aO]
 have hnode:=(aB.fK _ _ _ _).1 hok
 have h3:¬st=3000:=by omega
 have hcap:=hg.cap
 have hgcap:=hg.vM
 have pE:=hg.later (nB st)
 have hlen:=gT hok aA
 rw[hk,show jO 5=2 from rfl]at hlen
 have o0:=iR hok aA
 rw[oD h3 aA]at hr
 obtain⟨⟨vs,S1⟩,t1,e1,e2⟩:=j7 hr
 obtain⟨b1,b2,b3,b4⟩:=jL hp pE aA henv o0 hf _ _ e1
 simp only at b1 b2 b3
 obtain⟨j0,S0,t0,hj0,hs0⟩:=pK e1 (k:=0) aA (vs:=[]) (S1:=S) (t1:=st+1) rfl
 obtain⟨c1,c2,c3,c4⟩:=tW hp n (st+1) e.aP[0] env S funcs (o0 _ (dX _)) hf pE aA henv _ _ hj0
 simp only at c1 c2 c3
 obtain⟨j1,S2,t2,hj1,uB⟩:=pK e1 (k:=1) aA hs0
 rw[gX aA,e1]at uB
 obtain⟨rfl,rfl⟩:=oH (oH (Except.ok.inj uB)).1
 obtain rfl:=(oH (Except.ok.inj uB)).2
 have hsub:∀ (i:Nat) (hi:i<e.aP.length),b8 [.op nb 6 0 0,.ip 5 (e.aP.map aB.c) i 0,ints env] [.op nb 6 0 0,.ip 5 [e.aP[i].c] 0 0,ints env]:=λi hi=>.cons (.refl _) (.cons (Sub.ip (b9 hi) bF) (.cons (.refl _) .nil))
 have i0:rZ S1 j0:=b3.2 j0 bF
 have i1:rZ S1 j1:=b3.2 j1 bF
 have hv0:=b1.val j0
 have hv1:=b1.val j1
 refine mK 183 xD aH8 aH9 Tryz.func263 ?_
 simp -dsimp -implicitDefEqProofs only[go_sem,↓reduceIte,Tryz.f263,hk]
 refine⟨by omega,aH.jP (gV.sub (hsub 0 aA) (hv h0 _ nb (st+1) e.aP[0] env S funcs j0 S0 t0 hR aA (o0 _ (dX _)) gZ hf pE henv aA hj0)) ?_⟩
 rintro r h' ⟨rfl,hR1⟩
 simp -dsimp -implicitDefEqProofs only[go_sem,↓reduceIte,Tryz.f263]
 refine⟨by omega,aH.jP (gV.sub (hsub 1 aA) (hv h0 _ nb t0 e.aP[1] env S0 funcs j1 S1 t1 hR1 c4.2.2.2 (o0 _ (dX _)) gZ hf c1 (λx hx=>(henv x hx).ext c2) bBY hj1)) ?_⟩
 rintro r h2 ⟨rfl,⟨om,og,ov,H1⟩⟩
 obtain⟨w,rfl,hw,dw⟩:=H1.row i0
 have oF:=H1.box
 unfold c6 at oF
 rw[aZ]at oF
 have rk0:=k8 i0
 have rk1:=k8 i1
 have k0:=i0.1
 have k1:=i0.2
 have k2:=i1.1
 have k3:=i1.2
 have lw:=jW (λn=>[I n]) S1.iM
 have hop:=bD5 5 dQ
 try simp -dsimp -implicitDefEqProofs only[go_sem,↓reduceIte,Tryz.f263,hk]
 first|refine aH.mk (hop) ?_|refine aG.mk (hop) ?_|refine aH.cN (hop) ?_|refine aG.mk (cG.fO (hop)) ?_
 simp -dsimp -implicitDefEqProofs only[go_sem,↓reduceIte,Tryz.f263]
 try simp -dsimp -implicitDefEqProofs only[go_sem,↓reduceIte,Tryz.f263,oF,hw,rk0,rk1]
 refine⟨k0,by omega,k2,by omega,?_⟩
 rw[hk]at e2
 cases hv:opV 5 (S1.val j0) (S1.val j1)with
 |none =>
  have e3:opR 5 [j0,j1] S1 t1=.error 6:=by
   unfold opR
   rw[show([j0,j1].getD 0 0)=j0 from rfl,show opB 5 [j0,j1]=j1 from rfl,hv]
  have e4:=e3.symm.trans e2
  cases e4
 |some v =>
  have e3:opR 5 [j0,j1] S1 t1=.ok (((S1.iM.length:Int),S1.put ⟨5,j0,j1,0⟩ v),t1):=by
   unfold opR
   rw[show([j0,j1].getD 0 0)=j0 from rfl,show opB 5 [j0,j1]=j1 from rfl,hv]
  have e4:=e3.symm.trans e2
  have e5:=(oH (oH (Except.ok.inj e4)).1)
  first|refine aH.mk (lX 5 (S1.val j0) (S1.val j1) v hv0 hv1 dQ hv) ?_|refine aG.mk (lX 5 (S1.val j0) (S1.val j1) v hv0 hv1 dQ hv) ?_|refine aH.cN (lX 5 (S1.val j0) (S1.val j1) v hv0 hv1 dQ hv) ?_|refine aG.mk (cG.fO (lX 5 (S1.val j0) (S1.val j1) v hv0 hv1 dQ hv)) ?_
  simp -dsimp -implicitDefEqProofs only[go_sem,↓reduceIte,Tryz.f263]
  unfold sP at b4
  simp only at b4
  refine aH.jP (aH7 ⟨om,og,some w,H1⟩ ⟨5,j0,j1,0⟩ v b1.len a23) ?_
  rintro r h3 ⟨rfl,qM⟩
  simp -dsimp -implicitDefEqProofs only[go_sem,↓reduceIte,Tryz.f263]
  rw[e5.2]at qM
  exact⟨_,_,cE _ _,by rw[e5.1],qM⟩
theorem bQA {p:aL} (hp:p.ok) {inp:Int} {n:Nat} (hv:xE p inp n) {h0 h:Heap} {nb st:Nat} {e:aB} {env:List Int} {S:eP} {funcs:Int} {k:Int} {S':eP} {t:Nat} (hR:eM (c6 p inp) h0 nb S h) (hst:st<3000)
  (hok:e.ok p funcs env.length) (gZ:0<=funcs) (hf:funcs<=p.aJ.length) (hg:Good inp S st) (henv:∀ x∈env,rZ S x) (hel:env.length<=412+st) (hr:fT p (n+1) st e env S=.ok ((k,S'),t)) (hk:e.bH=6) :
  gV Tryz.prog 263 [.op nb 6 0 0,.ip 5 [e.c] 0 0,ints env] h λr h'=>r=I k/\eM (c6 p inp) h0 nb S' h':=by
 rw[aB.aO]
 have hnode:=(aB.fK _ _ _ _).1 hok
 have h3:¬st=3000:=by omega
 have hcap:=hg.cap
 have hgcap:=hg.vM
 have pE:=hg.later (nB st)
 have hlen:=gT hok aA
 rw[hk,show jO 6=2 from rfl]at hlen
 have o0:=iR hok aA
 rw[oD h3 aA]at hr
 obtain⟨⟨vs,S1⟩,t1,e1,e2⟩:=j7 hr
 obtain⟨b1,b2,b3,b4⟩:=jL hp pE aA henv o0 hf _ _ e1
 simp only at b1 b2 b3
 obtain⟨j0,S0,t0,hj0,hs0⟩:=pK e1 (k:=0) aA (vs:=[]) (S1:=S) (t1:=st+1) rfl
 obtain⟨c1,c2,c3,c4⟩:=tW hp n (st+1) e.aP[0] env S funcs (o0 _ (dX _)) hf pE aA henv _ _ hj0
 simp only at c1 c2 c3
 obtain⟨j1,S2,t2,hj1,uB⟩:=pK e1 (k:=1) aA hs0
 rw[gX aA,e1]at uB
 obtain⟨rfl,rfl⟩:=oH (oH (Except.ok.inj uB)).1
 obtain rfl:=(oH (Except.ok.inj uB)).2
 have hsub:∀ (i:Nat) (hi:i<e.aP.length),b8 [.op nb 6 0 0,.ip 5 (e.aP.map aB.c) i 0,ints env] [.op nb 6 0 0,.ip 5 [e.aP[i].c] 0 0,ints env]:=λi hi=>.cons (.refl _) (.cons (Sub.ip (b9 hi) bF) (.cons (.refl _) .nil))
 have i0:rZ S1 j0:=b3.2 j0 bF
 have i1:rZ S1 j1:=b3.2 j1 bF
 have hv0:=b1.val j0
 have hv1:=b1.val j1
 refine mK 183 xD aH8 aH9 Tryz.func263 ?_
 simp -dsimp -implicitDefEqProofs only[go_sem,↓reduceIte,Tryz.f263,hk]
 refine⟨by omega,aH.jP (gV.sub (hsub 0 aA) (hv h0 _ nb (st+1) e.aP[0] env S funcs j0 S0 t0 hR aA (o0 _ (dX _)) gZ hf pE henv aA hj0)) ?_⟩
 rintro r h' ⟨rfl,hR1⟩
 simp -dsimp -implicitDefEqProofs only[go_sem,↓reduceIte,Tryz.f263]
 refine⟨by omega,aH.jP (gV.sub (hsub 1 aA) (hv h0 _ nb t0 e.aP[1] env S0 funcs j1 S1 t1 hR1 c4.2.2.2 (o0 _ (dX _)) gZ hf c1 (λx hx=>(henv x hx).ext c2) bBY hj1)) ?_⟩
 rintro r h2 ⟨rfl,⟨om,og,ov,H1⟩⟩
 obtain⟨w,rfl,hw,dw⟩:=H1.row i0
 have oF:=H1.box
 unfold c6 at oF
 rw[aZ]at oF
 have rk0:=k8 i0
 have rk1:=k8 i1
 have k0:=i0.1
 have k1:=i0.2
 have k2:=i1.1
 have k3:=i1.2
 have lw:=jW (λn=>[I n]) S1.iM
 have hop:=bD5 6 dQ
 try simp -dsimp -implicitDefEqProofs only[go_sem,↓reduceIte,Tryz.f263,hk]
 first|refine aH.mk (hop) ?_|refine aG.mk (hop) ?_|refine aH.cN (hop) ?_|refine aG.mk (cG.fO (hop)) ?_
 simp -dsimp -implicitDefEqProofs only[go_sem,↓reduceIte,Tryz.f263]
 try simp -dsimp -implicitDefEqProofs only[go_sem,↓reduceIte,Tryz.f263,oF,hw,rk0,rk1]
 refine⟨k0,by omega,k2,by omega,?_⟩
 rw[hk]at e2
 cases hv:opV 6 (S1.val j0) (S1.val j1)with
 |none =>
  have e3:opR 6 [j0,j1] S1 t1=.error 6:=by
   unfold opR
   rw[show([j0,j1].getD 0 0)=j0 from rfl,show opB 6 [j0,j1]=j1 from rfl,hv]
  have e4:=e3.symm.trans e2
  cases e4
 |some v =>
  have e3:opR 6 [j0,j1] S1 t1=.ok (((S1.iM.length:Int),S1.put ⟨6,j0,j1,0⟩ v),t1):=by
   unfold opR
   rw[show([j0,j1].getD 0 0)=j0 from rfl,show opB 6 [j0,j1]=j1 from rfl,hv]
  have e4:=e3.symm.trans e2
  have e5:=(oH (oH (Except.ok.inj e4)).1)
  first|refine aH.mk (lX 6 (S1.val j0) (S1.val j1) v hv0 hv1 dQ hv) ?_|refine aG.mk (lX 6 (S1.val j0) (S1.val j1) v hv0 hv1 dQ hv) ?_|refine aH.cN (lX 6 (S1.val j0) (S1.val j1) v hv0 hv1 dQ hv) ?_|refine aG.mk (cG.fO (lX 6 (S1.val j0) (S1.val j1) v hv0 hv1 dQ hv)) ?_
  simp -dsimp -implicitDefEqProofs only[go_sem,↓reduceIte,Tryz.f263]
  unfold sP at b4
  simp only at b4
  refine aH.jP (aH7 ⟨om,og,some w,H1⟩ ⟨6,j0,j1,0⟩ v b1.len a23) ?_
  rintro r h3 ⟨rfl,qM⟩
  simp -dsimp -implicitDefEqProofs only[go_sem,↓reduceIte,Tryz.f263]
  rw[e5.2]at qM
  exact⟨_,_,cE _ _,by rw[e5.1],qM⟩
theorem bQB {p:aL} (hp:p.ok) {inp:Int} {n:Nat} (hv:xE p inp n) {h0 h:Heap} {nb st:Nat} {e:aB} {env:List Int} {S:eP} {funcs:Int} {k:Int} {S':eP} {t:Nat} (hR:eM (c6 p inp) h0 nb S h) (hst:st<3000)
  (hok:e.ok p funcs env.length) (gZ:0<=funcs) (hf:funcs<=p.aJ.length) (hg:Good inp S st) (henv:∀ x∈env,rZ S x) (hel:env.length<=412+st) (hr:fT p (n+1) st e env S=.ok ((k,S'),t)) (hk:e.bH=8) :
  gV Tryz.prog 263 [.op nb 6 0 0,.ip 5 [e.c] 0 0,ints env] h λr h'=>r=I k/\eM (c6 p inp) h0 nb S' h':=by
 rw[aB.aO]
 have hnode:=(aB.fK _ _ _ _).1 hok
 have h3:¬st=3000:=by omega
 have hcap:=hg.cap
 have hgcap:=hg.vM
 have pE:=hg.later (nB st)
 have hlen:=gT hok aA
 rw[hk,show jO 8=3 from rfl]at hlen
 have o0:=iR hok aA
 rw[aH5 h3 hk]at hr
 obtain⟨⟨k1,S1⟩,t1,e1,e2⟩:=j7 hr
 rw[aB.aBV (show 0<e.aP.length by omega)]at e1
 obtain⟨q1,q2,q3,q4⟩:=tW hp n (st+1) e.aP[0] env S funcs (o0 _ (dX _)) hf pE aA henv _ _ e1
 unfold sP at q4
 simp only at q1 q2 q3 q4 e2
 have hsub:∀ (i:Nat) (hi:i<e.aP.length),b8 [.op nb 6 0 0,.ip 5 (e.aP.map aB.c) i 0,ints env] [.op nb 6 0 0,.ip 5 [e.aP[i].c] 0 0,ints env]:=λi hi=>.cons (.refl _) (.cons (Sub.ip (b9 hi) bF) (.cons (.refl _) .nil))
 refine mK 183 xD aH8 aH9 Tryz.func263 ?_
 simp -dsimp -implicitDefEqProofs only[go_sem,↓reduceIte,Tryz.f263,hk]
 refine⟨by omega,aH.jP (gV.sub (hsub 0 aA) (hv h0 _ nb (st+1) e.aP[0] env S funcs k1 S1 t1 hR aA (o0 _ (dX _)) gZ hf pE henv aA e1)) ?_⟩
 rintro r h' ⟨rfl,⟨om1,og1,ov1,H1⟩⟩
 obtain⟨w,rfl,hw,dw⟩:=H1.row q3
 have oF:=H1.box
 unfold c6 at oF
 rw[aZ]at oF
 have rk:=k8 q3
 have k0:=q3.1
 have k2:=q3.2
 have lw:=jW (λn=>[I n]) S1.iM
 have hgc:=q1.vM
 simp -dsimp -implicitDefEqProofs only[go_sem,↓reduceIte,Tryz.f263,oF,hw,rk]
 refine⟨k0,by omega,?_⟩
 have hgd:=H1.gds
 cases og1 with
 |none =>
  have hg0:S1.guards=[]:=jZ.1 hgd
  rw[bI]
  simp -dsimp -implicitDefEqProofs only[go_sem,↓reduceIte,Tryz.f263,oF]
  refine⟨by decide,by decide,by decide,λb mL=>?_⟩
  obtain⟨rJ,lE,lD,qZ⟩:=cB (show ¬b=nb from λe=>by rw[e,oF]at mL;cases mL)
  simp -dsimp -implicitDefEqProofs only[go_sem,↓reduceIte,Tryz.f263,oF,lE,lD,aE]
  refine⟨λhz=>⟨by omega,?_⟩,λhz=>⟨by omega,?_⟩⟩
  ·rw[decide_eq_true hz]
   obtain⟨g,hgl,hG⟩:=H1.guard ⟨k1,true⟩ mL (F:=bL (bL h' b (.row 2 [[.v (I k1),.v (.bool true)]])) nb (c6 p inp (S1.guard ⟨k1,true⟩) om1 (some b) (some w))) (bB _ _ _) bBP (λn h1 h2 _=>by rw[aE _ _ _ _ h1,aE _ _ _ _ h2])
   unfold c6 at hgl
   simp only[eP.guard,hg0,aZ,pR,aB9]at hgl
   refine aH.wk (Heap.iU hgl) ?_
   have hgG:=q1.guard (b:=true) q3 aA
   have heG:=q2.trans (S1.qL ⟨k1,true⟩)
   rw[if_pos hz,aB.aBV (show 1<e.aP.length by omega)]at e2
   refine aH.jP (gV.sub (hsub 1 aA) (hv h0 g nb t1 e.aP[1] env (S1.guard ⟨k1,true⟩) funcs k S' t ⟨_,_,_,hG⟩ aA (o0 _ (dX _)) gZ hf hgG (λx hx=>(henv x hx).ext heG) aA e2)) ?_
   rintro r h2 ⟨rfl,xP⟩
   simp -dsimp -implicitDefEqProofs only[go_sem,↓reduceIte,Tryz.f263]
   exact⟨_,_,cE _ _,rfl,xP⟩
  ·rw[decide_eq_false hz]
   obtain⟨g,hgl,hG⟩:=H1.guard ⟨k1,false⟩ mL (F:=bL (bL h' b (.row 2 [[.v (I k1),.v (.bool false)]])) nb (c6 p inp (S1.guard ⟨k1,false⟩) om1 (some b) (some w))) (bB _ _ _) bBP (λn h1 h2 _=>by rw[aE _ _ _ _ h1,aE _ _ _ _ h2])
   unfold c6 at hgl
   simp only[eP.guard,hg0,aZ,pR,aB9]at hgl
   refine aH.wk (Heap.iU hgl) ?_
   have hgG:=q1.guard (b:=false) q3 aA
   have heG:=q2.trans (S1.qL ⟨k1,false⟩)
   rw[if_neg hz,aB.aBV (show 2<e.aP.length by omega)]at e2
   refine aH.jP (gV.sub (hsub 2 aA) (hv h0 g nb t1 e.aP[2] env (S1.guard ⟨k1,false⟩) funcs k S' t ⟨_,_,_,hG⟩ aA (o0 _ (dX _)) gZ hf hgG (λx hx=>(henv x hx).ext heG) aA e2)) ?_
   rintro r h2 ⟨rfl,xP⟩
   simp -dsimp -implicitDefEqProofs only[go_sem,↓reduceIte,Tryz.f263]
   exact⟨_,_,cE _ _,rfl,xP⟩
 |some gm =>
  have hgm:=hgd.2
  obtain⟨bPW,a04,a05,bPX⟩:=cB (show ¬gm=nb from λe=>by rw[e,oF]at hgm;cases hgm)
  rw[aZ]
  simp -dsimp -implicitDefEqProofs only[go_sem,↓reduceIte,Tryz.f263,oF,hgm,jW]
  refine⟨by decide,by decide,by decide,eV _,by omega,by omega,λb mL=>?_⟩
  obtain⟨rJ,lE,lD,qZ⟩:=cB (show ¬b=nb from λe=>by rw[e,oF]at mL;cases mL)
  obtain⟨bXH,a96,a97,bXI⟩:=cB (show ¬b=gm from λe=>by rw[e,hgm]at mL;cases mL)
  simp -dsimp -implicitDefEqProofs only[go_sem,↓reduceIte,Tryz.f263,oF,lE,a96,lD,a05,a97,a04,aE]
  refine⟨λhz=>⟨by omega,?_⟩,λhz=>⟨by omega,?_⟩⟩
  ·rw[decide_eq_true hz,gX aPC]
   obtain⟨g,hgl,hG⟩:=H1.guard ⟨k1,true⟩ mL (F:=bL (bL (bL h' gm .gone) b (.row 2 (rowsOf fS.c S1.guards++[[.v (I k1),.v (.bool true)]]))) nb (c6 p inp (S1.guard ⟨k1,true⟩) om1 (some b) (some w))) (bB _ _ _) bBK (λn h1 h2 h3=>by rw[aE _ _ _ _ h1,aE _ _ _ _ h2,aE _ _ _ _ (λq=>h3 zT)])
   unfold c6 at hgl
   simp only[eP.guard,aZ,tN,aB9]at hgl
   refine aH.wk (Heap.iU hgl) ?_
   have hgG:=q1.guard (b:=true) q3 aA
   have heG:=q2.trans (S1.qL ⟨k1,true⟩)
   rw[if_pos hz,aB.aBV (show 1<e.aP.length by omega)]at e2
   refine aH.jP (gV.sub (hsub 1 aA) (hv h0 g nb t1 e.aP[1] env (S1.guard ⟨k1,true⟩) funcs k S' t ⟨_,_,_,hG⟩ aA (o0 _ (dX _)) gZ hf hgG (λx hx=>(henv x hx).ext heG) aA e2)) ?_
   rintro r h2 ⟨rfl,xP⟩
   simp -dsimp -implicitDefEqProofs only[go_sem,↓reduceIte,Tryz.f263]
   exact⟨_,_,cE _ _,rfl,xP⟩
  ·rw[decide_eq_false hz,gX aPC]
   obtain⟨g,hgl,hG⟩:=H1.guard ⟨k1,false⟩ mL (F:=bL (bL (bL h' gm .gone) b (.row 2 (rowsOf fS.c S1.guards++[[.v (I k1),.v (.bool false)]]))) nb (c6 p inp (S1.guard ⟨k1,false⟩) om1 (some b) (some w))) (bB _ _ _) bBK (λn h1 h2 h3=>by rw[aE _ _ _ _ h1,aE _ _ _ _ h2,aE _ _ _ _ (λq=>h3 zT)])
   unfold c6 at hgl
   simp only[eP.guard,aZ,tN,aB9]at hgl
   refine aH.wk (Heap.iU hgl) ?_
   have hgG:=q1.guard (b:=false) q3 aA
   have heG:=q2.trans (S1.qL ⟨k1,false⟩)
   rw[if_neg hz,aB.aBV (show 2<e.aP.length by omega)]at e2
   refine aH.jP (gV.sub (hsub 2 aA) (hv h0 g nb t1 e.aP[2] env (S1.guard ⟨k1,false⟩) funcs k S' t ⟨_,_,_,hG⟩ aA (o0 _ (dX _)) gZ hf hgG (λx hx=>(henv x hx).ext heG) aA e2)) ?_
   rintro r h2 ⟨rfl,xP⟩
   simp -dsimp -implicitDefEqProofs only[go_sem,↓reduceIte,Tryz.f263]
   exact⟨_,_,cE _ _,rfl,xP⟩
def bQC (l:List Int):Option Nat->aC
 |none=>ints l
 |some m=>.os m 1 0 l.length
theorem aYH (l:List Int):bQC l none=ints l:=rfl
theorem aYI (l:List Int) (m:Nat):bQC l (some m)=.os m 1 0 l.length:=rfl
theorem bAG {f:List Int->Nat->eP->Out (List Int×eP)} {N:Nat} {vs:List Int} {t:Nat} {S:eP} {v:List Int×eP} {u:Nat} (h:xB f N vs t S=.ok (v,u)) {k:Nat} (hk:k<N) {us:List Int} {S1:eP} {t1:Nat} (h1:xB f k vs t S=.ok ((us,S1),t1)) :
  ∃ l S2 t2,f us t1 S1=.ok ((l,S2),t2)/\xB f (k+1) vs t S=.ok ((l,S2),t2):=by
 have h2:=aFP f k vs t S
 rw[h1]at h2
 have h3:xB f (k+1) vs t S=f us t1 S1:=h2
 cases hf:f us t1 S1 with
 |ok q=>exact⟨q.1.1,q.1.2,q.2,rfl,h3.trans hf⟩
 |error c =>
  have:=aX7 f (k+1) (n:=N) hk (h3.trans hf)
  rw[h]at this;cases this
theorem a5H {p:aL} (hp:p.ok) {inp:Int} {n:Nat} (hv:xE p inp n) {h0 h:Heap} {nb st:Nat} {e:aB} {env:List Int} {S:eP} {funcs:Int} {k:Int} {S':eP} {t:Nat} (hR:eM (c6 p inp) h0 nb S h) (hst:st<3000)
  (hok:e.ok p funcs env.length) (gZ:0<=funcs) (hf:funcs<=p.aJ.length) (hg:Good inp S st) (henv:∀ x∈env,rZ S x) (hel:env.length<=412+st) (hr:fT p (n+1) st e env S=.ok ((k,S'),t)) (hk:e.bH=10∨e.bH=11) :
  gV Tryz.prog 283 [.op nb 6 0 0,.ip 5 [e.c] 0 0,ints env] h λr h'=>r=I k/\eM (c6 p inp) h0 nb S' h':=by
 have h3:¬st=3000:=by omega
 have pE:=hg.later (nB st)
 obtain⟨f,F⟩:=aAS hp hok hf hk
 have hkl:e.aP.length<=1048576:=by have:=F.kids;have:=F.params;omega
 have f1:=F.lo
 have f2:=F.hi
 have f3:=F.pk
 have f4:=F.pk2
 have f5:=F.kids
 have f6:=F.params
 have f8:=F.outs
 have o0:=iR hok aA
 have hseq:∃ vs S1 t1,pI (λt e S=>fT p n t e env S) e.aP (st+1) S=.ok ((vs,S1),t1):=by
  rcases hk with hk|hk
  ·rw[aIQ h3 hk]at hr
   obtain⟨w,u,h1,_⟩:=j7 hr
   exact⟨w.1,w.2,u,h1⟩
  ·rw[aIR h3 hk]at hr
   obtain⟨w,u,h1,_⟩:=j7 hr
   exact⟨w.1,w.2,u,h1⟩
 obtain⟨ws,Sw,tw,hs0⟩:=hseq
 obtain⟨q1,q2,q3,q4⟩:=jL hp pE aA henv o0 hf _ _ hs0
 simp only at q1 q2 q3
 have q5:=q4.2.2.1
 have q6:=q4.2.2.2
 rw[aB.aO]
 refine mK 81 aPY aPZ aP0 Tryz.func283 ?_
 simp -dsimp -implicitDefEqProofs only[go_sem,↓reduceIte,Tryz.f283]
 refine⟨by decide,?_⟩
 refine cY aPY aPZ aP0 (λx:Nat×List Int×eP×Nat×Heap×Option Nat=>[(0,.op nb 6 0 0),(1,.ip 5 [e.c] 0 0),(2,ints env),(7,nW 1 x.2.1.length x.2.2.2.2.2),(8,I x.1)]) (λx=>dG x.2.2.2.2.1 (.row 1 ((x.2.1.map λn=>[I n]).map (List.map .v))) x.2.2.2.2.2) (λx=>x.1<=e.aP.length/\x.2.1.length=x.1/\pI (λt e S=>fT p n t e env S) (e.aP.take x.1) (st+1) S=.ok ((x.2.1,x.2.2.1),x.2.2.2.1)/\eM (c6 p inp) h0 nb x.2.2.1 x.2.2.2.2.1/\lK x.2.2.2.2.1 x.2.1 x.2.2.2.2.2) (λx=>e.aP.length-x.1) (0,[],S,st+1,h,none) ⟨by simp[eE,dJ,nW,aB.aO],Heap.le_refl _,iF _,rfl,rfl,hR,rfl⟩ ?_
 rintro⟨i,vs,S1,t1,g,o⟩ ⟨hi,hvl,hs,hR,hos⟩
 simp only at hi hvl hs hR hos ⊢
 rw[aB.aO]
 rcases cX i e.aP.length with hlt|hge
 ·have ek:e.aP[i]?=some e.aP[i]:=cJ hlt
  obtain⟨j,S2,t2,hj,nA⟩:=pK hs0 hlt hs
  obtain⟨b1,b2,b3,b4⟩:=jL hp (l:=e.aP.take i) pE aA henv (λx hx=>o0 x (aYV hx)) hf _ _ hs
  simp only at b1 b2 b3
  have hsub:b8 [.op nb 6 0 0,.ip 5 (e.aP.map aB.c) i 0,ints env] [.op nb 6 0 0,.ip 5 [e.aP[i].c] 0 0,ints env]:=.cons (.refl _) (.cons (Sub.ip (b9 hlt) bF) (.cons (.refl _) .nil))
  cases o with
  |none =>
   rw[cZ]at hos
   subst hos
   simp -dsimp -implicitDefEqProofs only[go_sem,↓reduceIte,Tryz.f283,dK,aN,hlt,ek]
   refine λ_=>aH.jP (gV.sub hsub (hv h0 g nb t1 e.aP[i] env S1 funcs j S2 t2 hR b4.2.2.2 (o0 _ (dX _)) gZ hf b1 (λx hx=>(henv x hx).ext b2) bBZ hj)) ?_
   rintro r h' ⟨rfl,qM⟩
   simp -dsimp -implicitDefEqProofs only[go_sem,↓reduceIte,Tryz.f283]
   refine⟨cI,cI,cI,λb mL=>?_⟩
   refine⟨(i+1,[j],S2,t2,h',some b),⟨rfl,by rw[IntWalk.i64_in _ aA];rfl⟩,Heap.le_refl _,⟨by omega,by simp only[al7]at hvl;subst hvl;rfl,nA,qM,mL⟩,by simp only;omega⟩
  |some m =>
   rw[bY]at hos
   simp -dsimp -implicitDefEqProofs only[go_sem,↓reduceIte,Tryz.f283,bU,aK,hlt,ek]
   refine λ_=>aH.jP (gV.sub hsub (hv _ _ nb t1 e.aP[i] env S1 funcs j S2 t2 (hR.over hos) b4.2.2.2 (o0 _ (dX _)) gZ hf b1 (λx hx=>(henv x hx).ext b2) bBZ hj)) ?_
   rintro r h' ⟨rfl,qM⟩
   obtain⟨g2,rfl,hg2,qM⟩:=qM.base (hR.none hos)
   simp -dsimp -implicitDefEqProofs only[go_sem,↓reduceIte,Tryz.f283]
   refine⟨cI,cI,cI,eV _,by omega,by omega,λb ⟨hbm,mL⟩=>?_⟩
   obtain⟨aQB,aAG,aAH,aQC⟩:=cB (show ¬b=m from hbm)
   refine⟨(i+1,vs++[j],S2,t2,g2,some b),⟨by rw[bU,tN];rfl,by rw[IntWalk.i64_in _ aA];rfl⟩,?_,⟨by omega,by rw[tN,hvl];rfl,nA,qM,mL⟩,by simp only;omega⟩
   simp only[aK]
   rw[←jE]
   exact pC hg2
 ·have hi':i=e.aP.length:=by omega
  subst hi'
  rw[eJ,hs0]at hs
  obtain⟨rfl,rfl⟩:=oH (oH (Except.ok.inj hs)).1
  obtain rfl:=(oH (Except.ok.inj hs)).2
  obtain⟨om,og,ov,H⟩:=hR
  have hb:=H.box
  unfold c6 at hb
  have hR:eM (c6 p inp) h0 nb Sw g:=⟨om,og,ov,H⟩
  have hsubp:∀ x,b8 [.op nb 6 0 0,.ip 5 (f.bG.map aB.c) e.dR.toNat 0,x] [.op nb 6 0 0,.ip 5 [(p.out e.bZ e.dR).c] 0 0,x]:=λx=>.cons (.refl _) (.cons (Sub.ip (by rw[s6,F.out];rfl) bF) (.cons (.refl _) .nil))
  rcases hk with hk|hk
  ·rw[aIQ h3 hk,hs0]at hr
   have hr':fT p n tw (p.out e.bZ e.dR) ws Sw=.ok ((k,S'),t):=hr
   have hfin:∀ {h1 g1:Heap},eM (c6 p inp) h1 nb Sw g1->gV Tryz.prog 263 [.op nb 6 0 0,.ip 5 (f.bG.map aB.c) e.dR.toNat 0,ints ws] g1 λr h'=>r=I k/\eM (c6 p inp) h1 nb S' h':=λxP =>
    gV.sub (hsubp _) (hv _ _ nb tw (p.out e.bZ e.dR) ws Sw e.bZ k S' t xP aA bBI f1 aA q1 q3.2 aA hr')
   cases o with
   |none =>
    rw[cZ]at hos
    subst hos
    simp -dsimp -implicitDefEqProofs only[go_sem,↓reduceIte,Tryz.f283,dK,aN,cO,eK,hb,F.get,aX.aO,hk]
    refine λ_=>⟨f1,f2,f3,by omega,?_⟩
    refine aH.jP (gV.sub (.cons (.refl _) (.cons (.refl _) (.cons (Sub.loose _ _ _) .nil))) (hfin hR)) ?_
    rintro r h' ⟨rfl,qM⟩
    simp -dsimp -implicitDefEqProofs only[go_sem,↓reduceIte,Tryz.f283]
    exact⟨_,_,cE _ _,rfl,qM⟩
   |some m =>
    rw[bY]at hos
    obtain⟨kZ,fC,fD,nJ⟩:=cB (show ¬nb=m from λq=>by rw[q,hos]at hb;cases hb)
    simp -dsimp -implicitDefEqProofs only[go_sem,↓reduceIte,Tryz.f283,bU,aK,cO,eK,hb,fC,fD,aE,F.get,aX.aO,hk]
    refine λ_=>⟨f1,f2,f3,by omega,?_⟩
    refine aH.aP9 (es:=ws.map λn=>[I n]) rfl rfl kZ bF hos ?_
    refine gV.mono (hfin (hR.over (o:=.gone) hos)) ?_
    rintro r h2 ⟨rfl,xP⟩
    obtain⟨g3,rfl,hg3,xP⟩:=xP.base (hR.none hos)
    simp -dsimp -implicitDefEqProofs only[go_sem,↓reduceIte,Tryz.f283]
    exact⟨_,g3,eZ (Heap.aW hg3 (Heap.le_refl _)),rfl,xP⟩
  ·have f7:=F.loop hk
   rw[aIR h3 hk,hs0]at hr
   obtain⟨w0,u0,h9,hr⟩:=j7 hr
   cases h9
   obtain⟨w,u,hit,hr2⟩:=j7 hr
   obtain⟨e1,rfl⟩:=oH (Except.ok.inj hr2)
   obtain⟨rfl,rfl⟩:=oH e1
   obtain⟨us0,S'⟩:=w
   simp only at hit hr2 e1 ⊢
   have hfl:∀ us t S2,Good inp S2 t->(us.length=f.bG.length/\∀ x∈us,rZ S2 x)->t<=3000->okQ (aMW inp S2 t f.bG.length) (pI (λt e S=>fT p n t e us S) (p.outs e.bZ) t S2):=λus w S2 hg' hv' hw=>by
    rw[F.eq]
    exact jL hp hg' hw hv'.2 (funcs:=e.bZ) (λx hx=>by rw[hv'.1,f7.2.2];exact F.oks x hx) aA
   obtain⟨m,rfl⟩:∃ m,o=some m:=by
    cases o with
    |none=>rw[cZ]at hos;rw[hos]at hvl;simp at hvl;omega
    |some m=>exact⟨m,rfl⟩
   rw[bY]at hos
   obtain⟨kZ,fC,fD,nJ⟩:=cB (show ¬nb=m from λq=>by rw[q,hos]at hb;cases hb)
   simp -dsimp -implicitDefEqProofs only[go_sem,↓reduceIte,Tryz.f283,bU,aK,cO,eK,hb,fC,fD,aE,F.get,aX.aO,hk]
   refine λ_=>⟨f1,f2,?_⟩
   refine cY aPY aPZ aP0 (λx:Nat×List Int×eP×Nat×Heap×Option Nat=>[(0,.op nb 6 0 0),(1,.ip 5 [e.c] 0 0),(7,bQC x.2.1 x.2.2.2.2.2),(9,.ip 3 (p.aJ.map aX.c) e.bZ.toNat 0),(10,I x.1)]) (λx=>dG x.2.2.2.2.1 (.row 1 ((x.2.1.map λn=>[I n]).map (List.map .v))) x.2.2.2.2.2) (λx=>x.1<=e.dB.toNat/\x.2.1.length=f.bG.length/\xB (λvs t S=>pI (λt e S=>fT p n t e vs S) (p.outs e.bZ) t S) x.1 ws tw Sw=.ok ((x.2.1,x.2.2.1),x.2.2.2.1)/\eM (c6 p inp) h0 nb x.2.2.1 x.2.2.2.2.1/\∀ q,x.2.2.2.2.2=some q->x.2.2.2.2.1 q=none) (λx=>e.dB.toNat-x.1) (0,ws,Sw,tw,g,some m) ⟨by simp[eE,dJ,bQC,aB.aO,hvl,hk],Heap.le_refl _,iF _,by simp only;omega,rfl,hR,λq e=>by cases e;exact hos⟩ ?_
   clear hR hos H hb
   rintro⟨i,us,S2,t2,g,o⟩ ⟨hi,hul,hs,hR,hos⟩
   simp only at hi hul hs hR hos ⊢
   obtain⟨w1,w2,w3,w4⟩:=aH4 hfl i ws tw Sw q1 ⟨by omega,q3.2⟩ q6 _ _ hs
   simp only at w1 w2 w3
   rw[aB.aO]
   rcases cX i e.dB.toNat with hlt|hge
   ·obtain⟨l2,S3,t3,hf3,hs3⟩:=bAG hit hlt hs
    rw[F.eq]at hf3
    have hou:∀ {h1 g1:Heap},eM (c6 p inp) h1 nb S2 g1->gV Tryz.prog 250 [.op nb 6 0 0,.ip 3 (p.aJ.map aX.c) e.bZ.toNat 0,ints us] g1 λr h'=>r=ints l2/\eM (c6 p inp) h1 nb S3 h':=λxP =>
     gV.sub (.cons (.refl _) (.cons (Sub.ip (by rw[s6,F.get];rfl) bF) (.cons (.refl _) .nil))) (a5G hp hv _ _ nb t2 f us S2 e.bZ l2 S3 t3 xP w4.2.2.2 aA (by rw[hul,f7.2.2];exact F.oks) f1 aA w1 w3.2 aA hf3)
    obtain⟨v1,v2,v3,v4⟩:=hfl us t2 S2 w1 w3 w4.2.2.2 (l2,S3) t3 (by rw[F.eq];exact hf3)
    simp only at v3
    cases o with
    |none =>
     simp -dsimp -implicitDefEqProofs only[go_sem,↓reduceIte,Tryz.f283,aYH,aN]
     refine⟨λhq=>aH.jP (hou hR) ?_,λhq=>by omega⟩
     rintro r h' ⟨rfl,qM⟩
     simp -dsimp -implicitDefEqProofs only[go_sem,↓reduceIte,Tryz.f283]
     exact⟨(i+1,l2,S3,t3,h',none),⟨rfl,by rw[IntWalk.i64_in _ aA];rfl⟩,Heap.le_refl _,⟨by omega,v3.1,hs3,qM,λq e=>by cases e⟩,by simp only;omega⟩
    |some b =>
     have mL:=hos b rfl
     obtain⟨qZ,lD,lE,rJ⟩:=cB (show ¬nb=b from λq=>by obtain⟨_,_,_,H2⟩:=hR;have:=H2.box;rw[q,mL]at this;cases this)
     simp -dsimp -implicitDefEqProofs only[go_sem,↓reduceIte,Tryz.f283,aYI,aK]
     refine⟨λhq=>aH.aP9 (es:=us.map λn=>[I n]) rfl rfl qZ bF mL ?_,λhq=>by omega⟩
     refine gV.mono (hou (hR.over (o:=.gone) mL)) ?_
     rintro r h2 ⟨rfl,xP⟩
     obtain⟨g3,rfl,hg3,xP⟩:=xP.base (hR.none mL)
     simp -dsimp -implicitDefEqProofs only[go_sem,↓reduceIte,Tryz.f283]
     exact⟨(i+1,l2,S3,t3,g3,none),⟨rfl,by rw[IntWalk.i64_in _ aA];rfl⟩,Heap.aW hg3 (Heap.le_refl _),⟨by omega,v3.1,hs3,xP,λq e=>by cases e⟩,by simp only;omega⟩
   ·have hi':i=e.dB.toNat:=by omega
    subst hi'
    rw[hit]at hs
    obtain⟨rfl,rfl⟩:=oH (oH (Except.ok.inj hs)).1
    have gp:us0[e.dR.toNat]?=some (us0.getD e.dR.toNat 0):=gA aA
    cases o with
    |none =>
     simp -dsimp -implicitDefEqProofs only[go_sem,↓reduceIte,Tryz.f283,aYH,aN,gp]
     exact⟨λq=>by omega,λ_=>⟨f3,by omega,_,_,cE _ _,rfl,hR⟩⟩
    |some b =>
     have mL:=hos b rfl
     simp -dsimp -implicitDefEqProofs only[go_sem,↓reduceIte,Tryz.f283,aYI,aK,gp]
     exact⟨λq=>by omega,λ_=>⟨f3,by omega,_,_,eZ (Heap.aW mL (Heap.le_refl _)),rfl,hR⟩⟩
theorem bK3 {p:aL} (hp:p.ok) {inp:Int} {n:Nat} (hv:xE p inp n) {h0 h:Heap} {nb st:Nat} {e:aB} {env:List Int} {S:eP} {funcs:Int} {k:Int} {S':eP} {t:Nat} (hR:eM (c6 p inp) h0 nb S h) (hst:st<3000)
  (hok:e.ok p funcs env.length) (gZ:0<=funcs) (hf:funcs<=p.aJ.length) (hg:Good inp S st) (henv:∀ x∈env,rZ S x) (hel:env.length<=412+st) (hr:fT p (n+1) st e env S=.ok ((k,S'),t)) (hk:e.bH=10) :
  gV Tryz.prog 263 [.op nb 6 0 0,.ip 5 [e.c] 0 0,ints env] h λr h'=>r=I k/\eM (c6 p inp) h0 nb S' h':=by
 rw[aB.aO]
 have hnode:=(aB.fK _ _ _ _).1 hok
 have h3:¬st=3000:=by omega
 have hcap:=hg.cap
 have hgcap:=hg.vM
 have pE:=hg.later (nB st)
 have hc:=a5H hp hv hR hst hok gZ hf hg henv hel hr (Or.inl hk)
 rw[aB.aO,hk]at hc
 refine mK 183 xD aH8 aH9 Tryz.func263 ?_
 simp -dsimp -implicitDefEqProofs only[go_sem,↓reduceIte,Tryz.f263,hk]
 refine aH.jP hc ?_
 rintro r h' ⟨rfl,qM⟩
 simp -dsimp -implicitDefEqProofs only[go_sem,↓reduceIte,Tryz.f263]
 exact⟨_,_,cE _ _,rfl,qM⟩
theorem bK4 {p:aL} (hp:p.ok) {inp:Int} {n:Nat} (hv:xE p inp n) {h0 h:Heap} {nb st:Nat} {e:aB} {env:List Int} {S:eP} {funcs:Int} {k:Int} {S':eP} {t:Nat} (hR:eM (c6 p inp) h0 nb S h) (hst:st<3000)
  (hok:e.ok p funcs env.length) (gZ:0<=funcs) (hf:funcs<=p.aJ.length) (hg:Good inp S st) (henv:∀ x∈env,rZ S x) (hel:env.length<=412+st) (hr:fT p (n+1) st e env S=.ok ((k,S'),t)) (hk:e.bH=11) :
  gV Tryz.prog 263 [.op nb 6 0 0,.ip 5 [e.c] 0 0,ints env] h λr h'=>r=I k/\eM (c6 p inp) h0 nb S' h':=by
 rw[aB.aO]
 have hnode:=(aB.fK _ _ _ _).1 hok
 have h3:¬st=3000:=by omega
 have hcap:=hg.cap
 have hgcap:=hg.vM
 have pE:=hg.later (nB st)
 have hc:=a5H hp hv hR hst hok gZ hf hg henv hel hr (Or.inr hk)
 rw[aB.aO,hk]at hc
 refine mK 183 xD aH8 aH9 Tryz.func263 ?_
 simp -dsimp -implicitDefEqProofs only[go_sem,↓reduceIte,Tryz.f263,hk]
 refine aH.jP hc ?_
 rintro r h' ⟨rfl,qM⟩
 simp -dsimp -implicitDefEqProofs only[go_sem,↓reduceIte,Tryz.f263]
 exact⟨_,_,cE _ _,rfl,qM⟩
theorem bT0 {p:aL} (hp:p.ok) {inp:Int}:∀ n,xE p inp n
 |0=>λh0 h nb st e env S funcs k S' t hR hst hok gZ hf hg henv hel hr=>by rw[fT]at hr;cases hr
 |n+1=>λh0 h nb st e env S funcs k S' t hR hst hok gZ hf hg henv hel hr=>by
  have hv:=bT0 hp (inp:=inp) n
  by_cases h3:st=3000
  ·rw[fT,if_pos h3]at hr;cases hr
  have h3':st<3000:=by omega
  rcases aD5 ((aB.fK _ _ _ _).1 hok).1 with hk|hk|hk|hk|hk|hk|hk|hk|hk|hk|hk
  ·exact bP3 hp hv hR h3' hok gZ hf hg henv hel hr hk
  ·exact bP4 hp hv hR h3' hok gZ hf hg henv hel hr hk
  ·exact bP7 hp hv hR h3' hok gZ hf hg henv hel hr hk
  ·exact bP8 hp hv hR h3' hok gZ hf hg henv hel hr hk
  ·exact bP9 hp hv hR h3' hok gZ hf hg henv hel hr hk
  ·exact bQA hp hv hR h3' hok gZ hf hg henv hel hr hk
  ·exact bP6 hp hv hR h3' hok gZ hf hg henv hel hr hk
  ·exact bQB hp hv hR h3' hok gZ hf hg henv hel hr hk
  ·exact bP5 hp hv hR h3' hok gZ hf hg henv hel hr hk
  ·exact bK3 hp hv hR h3' hok gZ hf hg henv hel hr hk
  ·exact bK4 hp hv hR h3' hok gZ hf hg henv hel hr hk
theorem aB6.bT1 {bx:eP->Option Nat->Option Nat->Option Nat->bQ} {h0 h F hh:Heap} {nb:Nat} {inp:Int} {S:eP} {om og ov:Option Nat} (H:aB6 bx h0 nb S om og ov h) (l:List Int)
  (hF:∀ n,some n=om∨some n=og->F n=h n) (hl:hh.le F) (hn:∀ n,some n=om∨some n=og->hh n=none) :
  Shift (.agg [I inp,j3 4 S.code.length om,j3 2 S.guards.length og,ints l]) F (.agg [I inp,dA 4 cK.c S.code,dA 2 fS.c S.guards,ints l]) hh:=by
 have hc:=H.code
 have hg:=H.gds
 have ap:=H.apart
 cases om with
 |none =>
  have r8:S.code=[]:=jZ.1 hc
  cases og with
  |none =>
   have hg0:S.guards=[]:=jZ.1 hg
   rw[r8,hg0]
   exact Shift.of (Sub.agg (.cons (.refl _) (.cons (Sub.nil _ _) (.cons (Sub.nil _ _) (.cons (.refl _) .nil))))) hl
  |some g =>
   have hgF:=(hF g (.inr rfl)).trans hg.2
   rw[r8]
   refine Shift.trans (Shift.of (Sub.agg (.cons (.refl _) (.cons (Sub.nil 4 false) (.cons (.refl _) (.cons (.refl _) .nil))))) (Heap.le_refl F)) ?_
   refine oT (n:=g) (sz:=2) (S.guards.map fS.c) (hn g (.inr rfl)) ?_ aW4 ?_
   ·intro q
    by_cases e:q=g
    ·subst e;right;rw[bB];exact hgF.symm
    ·rw[aE _ _ _ _ e];exact hl q
   ·simp[aC.iE,oZ,j3,gX]
 |some m =>
  have hmF:=(hF m (.inl rfl)).trans hc.2
  cases og with
  |none =>
   have hg0:S.guards=[]:=jZ.1 hg
   rw[hg0]
   refine Shift.trans (Shift.of (Sub.agg (.cons (.refl _) (.cons (.refl _) (.cons (Sub.nil 2 false) (.cons (.refl _) .nil))))) (Heap.le_refl F)) ?_
   refine oT (n:=m) (sz:=4) (S.code.map cK.c) (hn m (.inl rfl)) ?_ aW4 ?_
   ·intro q
    by_cases e:q=m
    ·subst e;right;rw[bB];exact hmF.symm
    ·rw[aE _ _ _ _ e];exact hl q
   ·simp[aC.iE,oZ,j3,gX]
  |some g =>
   have hgF:=(hF g (.inr rfl)).trans hg.2
   have hne:¬g=m:=λe=>((ap g).2.1 iX).1 rfl
   refine Shift.trans (b:=.agg [I inp,j3 4 S.code.length (some m),dA 2 fS.c S.guards,ints l]) (h2:=bL hh m (.row 4 (rowsOf cK.c S.code))) ?_ ?_
   ·refine oT (n:=g) (sz:=2) (S.guards.map fS.c) (by rw[aE _ _ _ _ hne];exact hn g (.inr rfl)) ?_ bRX ?_
    ·intro q
     by_cases e:q=g
     ·subst e;right;rw[bB];exact hgF.symm
     ·rw[aE _ _ _ _ e]
      by_cases e2:q=m
      ·subst e2;right;rw[bB];exact hmF.symm
      ·rw[aE _ _ _ _ e2];exact hl q
    ·have hne':¬m=g:=λe=>hne e.symm
     simp[aC.iE,oZ,j3,gX,hne']
   ·refine oT (n:=m) (sz:=4) (S.code.map cK.c) (hn m (.inl rfl)) (Heap.le_refl _) aW4 ?_
    simp[aC.iE,oZ,j3,gX]
@[go_sem] def bD6:List Nat:=[0,1,2,6,7,8,9,23]
@[go_sem] def bT2:List Nat:=[19,35]
theorem a5I {h0:Heap} {nb:Nat} (p:aL) (inp:Int) (hn:h0 nb=none):eM (c6 p inp) h0 nb ⟨[],[],[]⟩ (bL h0 nb (c6 p inp ⟨[],[],[]⟩ none none none)) :=
 ⟨none,none,none,bB _ _ _,a5E _ _,rfl,rfl,rfl,λn h=>bRR,λn h1 _ _ _=>aE _ _ _ _ h1⟩
theorem bGB {p:aL} (hp:p.ok) (f:Int) (hf:0<=f/\f<p.aJ.length) (args:List Int) (ha:rH args) (bXM:args.length<=12) (hl:∀ F,p.aJ[f.toNat]?=some F->(args.length:Int)=F.bN) {l:List Int} {S':eP} {t:Nat} (hr:aWN p f args=.ok ((l,S'),t)) :
  fQ Tryz.prog 227 [.ip 1 [p.c] 0 0,I f,ints args] (.agg (sZ.c ⟨args.length,S'.code,S'.guards,l⟩)):=by
 obtain⟨F,ef,hF1,hF2,hF3,hF4⟩:=aIM hp hf
 have hla:=hl F ef
 simp only[aL.aO]
 refine aB4 54 bD6 bT2 bS Tryz.func227 λh=>?_
 simp -dsimp -implicitDefEqProofs only[go_sem,↓reduceIte,Tryz.f227,ef,aX.aO]
 intro n6 z6
 try simp -dsimp -implicitDefEqProofs only[go_sem,↓reduceIte,Tryz.f227,ef,aX.aO]
 refine λnb ⟨hb6,zb⟩ _=>⟨by decide,?_⟩
 obtain⟨wM,lA,lB,aIJ⟩:=cB (show ¬nb=n6 from hb6)
 rw[aF]
 generalize hh6:bL h n6 (.row 4 [[.v (.int .i64 0),.v .aU,.v .aU,.v .aU]])=h6
 have zb6:h6 nb=none:=by rw[←hh6,aE _ _ _ _ wM];exact zb
 have hin:=a5I (h0:=h6) p args.length zb6
 refine cY bD6 bT2 bS (λx:Nat×Heap×Option Nat=>[(0,.ip 1 [[dA 3 aX.c p.aJ]] 0 0),(1,I f),(2,ints args),(6,.op n6 4 0 0),(7,.op nb 6 0 0),(8,nW 1 x.1 x.2.2),(9,I x.1)]) (λx=>dG x.2.1 (.row 1 (((aMY x.1).map λn=>[I n]).map (List.map .v))) x.2.2) (λx=>x.1<=args.length/\eM (c6 p args.length) h6 nb (aGE args x.1) x.2.1/\lK x.2.1 (aMY x.1) x.2.2) (λx=>args.length-x.1) (0,bL h6 nb (c6 p args.length ⟨[],[],[]⟩ none none none),none) ⟨by simp[eE,dJ,nW],Heap.le_refl _,iF _,hin,rfl⟩ ?_
 rintro⟨k,g,o⟩ ⟨hk,hR,hos⟩
 simp only at hk hR hos ⊢
 have hel:(aMY k).length=k:=by simp[aMY]
 rcases cX k args.length with hlt|hge
 ·have ek:args[k]?=some args[k]:=cJ hlt
  have hsl:(aGE args k).code.length=(aGE args k).iM.length:=by simp[aGE];omega
  have hvl:(aGE args k).iM.length=k:=by simp[aGE];omega
  have hy:=aX9 k
  cases o with
  |none =>
   rw[cZ]at hos
   have k0:k=0:=by rw[←hel,hos];rfl
   subst k0
   simp -dsimp -implicitDefEqProofs only[go_sem,↓reduceIte,Tryz.f227,dK,aN,hlt,ek]
   refine λ_=>aH.jP (aH7 hR ⟨1,0,0,((0:Nat):Int)⟩ args[0] hsl aA) ?_
   rintro r h' ⟨rfl,qM⟩
   simp -dsimp -implicitDefEqProofs only[go_sem,↓reduceIte,Tryz.f227]
   refine⟨cI,cI,cI,λb mL=>⟨(1,h',some b),⟨rfl,by rw[IntWalk.i64_in _ aA];rfl⟩,?_,⟨hlt,by rw[aIU hlt];exact qM,mL⟩,by simp only;omega⟩⟩
   rw[hvl]
   exact Heap.le_refl _
  |some m =>
   rw[bY]at hos
   simp -dsimp -implicitDefEqProofs only[go_sem,↓reduceIte,Tryz.f227,bU,aK,hlt,ek]
   refine λ_=>aH.jP (aH7 (hR.over hos) ⟨1,0,0,(k:Int)⟩ args[k] hsl aA) ?_
   rintro r h' ⟨rfl,qM⟩
   obtain⟨g2,rfl,hg2,qM⟩:=qM.base (hR.none hos)
   simp -dsimp -implicitDefEqProofs only[go_sem,↓reduceIte,Tryz.f227]
   refine⟨cI,cI,cI,Nat.le_of_eq hel.symm,by omega,by omega,λb ⟨hbm,mL⟩=>⟨(k+1,g2,some b),⟨rfl,by rw[IntWalk.i64_in _ aA];rfl⟩,?_,⟨hlt,by rw[aIU hlt];exact qM,mL⟩,by simp only;omega⟩⟩
   simp only[aK]
   rw[hvl,hy,←jE (λn=>I n),hel]
   exact pC hg2
 ·have hk':k=args.length:=by omega
  subst hk'
  rw[a48]at hR
  have hg0:=aUX args ha bXM
  have hie:aMY args.length=inE args:=rfl
  have hr':pI (λt e S=>fT p 3001 t e (inE args) S) F.bG 0 (inS args)=.ok ((l,S'),t):=by rw[←hF3];exact hr
  have hall:∀ {h0 g:Heap},eM (c6 p args.length) h0 nb (inS args) g->gV Tryz.prog 250 [.op nb 6 0 0,.ip 3 (p.aJ.map aX.c) f.toNat 0,ints (inE args)] g (λr h'=>r=ints l/\eM (c6 p args.length) h0 nb S' h'):=λhR =>
   gV.sub (.cons (.refl _) (.cons (Sub.ip (by rw[s6,ef];rfl) bF) (.cons (.refl _) .nil))) (a5G hp (bT0 hp 3001) _ _ nb 0 F (inE args) (inS args) f l S' t hR aA aA (λx hx=>by rw[←hie,hel,hla];exact hF4 x hx) hf.1 aA hg0 (a90 args) (by rw[←hie,hel];omega) hr')
  cases o with
  |none =>
   rw[cZ,hie]at hos
   simp -dsimp -implicitDefEqProofs only[go_sem,↓reduceIte,Tryz.f227,dK,aN,cO,eK,ef,aX.aO]
   refine λ_=>⟨hf.1,hf.2,aH.jP (gV.sub (.cons (.refl _) (.cons (.refl _) (.cons (by rw[hos];exact Sub.loose _ _ _) .nil))) (hall hR)) ?_⟩
   rintro r h2 ⟨rfl,om,og,ov,H2⟩
   have mL:=H2.box
   unfold c6 at mL
   have hz:=H2.keep (n:=n6) bB0
   have hz1:=hz.1
   simp -dsimp -implicitDefEqProofs only[go_sem,↓reduceIte,Tryz.f227,mL,hz1,lA,lB,aE]
   generalize hE:h2=h2H at *
   have hle:h.le h2H:=by
    have h1:=H2.le
    rw[←hh6]at h1
    intro q
    by_cases e:q=n6
    ·subst e;exact .inl z6
    ·have:=h1 q
     rwa [aE _ _ _ _ e]at this
   have hfr:∀ n,some n=om∨some n=og->h n=none/\¬n=n6/\¬n=nb:=λn hn=>by
    have h1:=H2.fresh n bBE
    have h3:¬n=n6:=λe=>by rw[←hh6,e,bB]at h1;cases h1
    refine⟨by rwa [←hh6,aE _ _ _ _ h3]at h1,h3,λe=>?_⟩
    rcases hn with hn|hn
    ·exact((H2.apart n).1 e).1 hn
    ·exact((H2.apart n).1 e).2.1 hn
   refine⟨by rw[fY,fY];rfl,?_⟩
   rw[sZ.aO]
   refine H2.bT1 l (λn hn=>?_) (Heap.aW z6 (Heap.aW zb (hle))) (λn hn=>(hfr n hn).1)
   obtain⟨v1,v2,v3⟩:=hfr n hn
   rw[aE _ _ _ _ v2,aE _ _ _ _ v3]
  |some m =>
   rw[bY]at hos
   simp -dsimp -implicitDefEqProofs only[go_sem,↓reduceIte,Tryz.f227,bU,aK,cO,eK,ef,aX.aO]
   obtain⟨kZ,fC,fD,nJ⟩:=cB (show ¬nb=m from λe=>by obtain⟨_,_,_,H1⟩:=hR;have:=H1.box;rw[e,hos]at this;cases this)
   refine λ_=>⟨hf.1,hf.2,aH.aP9 rfl rfl kZ (by rw[lM];exact hel.symm) hos ?_⟩
   refine gV.mono (hall (hR.over (o:=.gone) hos)) ?_
   rintro r h2 ⟨rfl,qM⟩
   obtain⟨g3,rfl,hg3,⟨om,og,ov,H2⟩⟩:=qM.base (hR.none hos)
   have mL:=H2.box
   unfold c6 at mL
   have hz:=H2.keep (n:=n6) bB0
   have hz1:=hz.1
   obtain⟨a99,bAA,bAB,bXO⟩:=cB (show ¬n6=m from λe=>by rw[e,hg3]at hz1;cases hz1)
   simp -dsimp -implicitDefEqProofs only[go_sem,↓reduceIte,Tryz.f227,mL,hz1,lA,fC,lB,bAA,fD,bAB,aE]
   have hgo:∀ n,some n=om∨some n=og->¬n=m:=λn hn e=>by
    have:=(H2.apart n).2.2.2 (by rw[e];exact hg3)
    rcases hn with hn|hn
    ·exact this.2.1 hn
    ·exact this.2.2.1 hn
   have hhm:h m=none:=by
    have h1:=hR.none hos
    rw[←hh6,aE _ _ _ _ (λe=>a99 e.symm)]at h1
    exact h1
   generalize hE:g3=h2H at *
   have hle:h.le h2H:=by
    have h1:=H2.le
    rw[←hh6]at h1
    intro q
    by_cases e:q=n6
    ·subst e;exact .inl z6
    ·have:=h1 q
     rwa [aE _ _ _ _ e]at this
   have hfr:∀ n,some n=om∨some n=og->h n=none/\¬n=n6/\¬n=nb:=λn hn=>by
    have h1:=H2.fresh n bBE
    have h3:¬n=n6:=λe=>by rw[←hh6,e,bB]at h1;cases h1
    refine⟨by rwa [←hh6,aE _ _ _ _ h3]at h1,h3,λe=>?_⟩
    rcases hn with hn|hn
    ·exact((H2.apart n).1 e).1 hn
    ·exact((H2.apart n).1 e).2.1 hn
   refine⟨by rw[fY,fY];rfl,?_⟩
   rw[sZ.aO]
   refine H2.bT1 l (λn hn=>?_) (Heap.aW z6 (Heap.aW zb (Heap.aW hhm hle))) (λn hn=>(hfr n hn).1)
   obtain⟨v1,v2,v3⟩:=hfr n hn
   rw[aE _ _ _ _ v2,aE _ _ _ _ v3,aE _ _ _ _ (hgo n hn)]
def aOP (a b:List Int) (out:List Bool) (c:cK):Bool:=if c.xK=1 then decide (c.bZ<a.length/\¬a.getD c.bZ.toNat 0=b.getD c.bZ.toNat 0)else if c.xK=2 then false else if c.xK=7 then out.getD c.fA.toNat false else(out.getD c.fA.toNat false || out.getD c.fB.toNat false)
def yV (a b:List Int) (code:List cK):Nat->List Bool
 |0=>[]
 |k+1=>yV a b code k++[aOP a b (yV a b code k) (code.getD k ⟨0,0,0,0⟩)]
theorem aEA (a b:List Int) (code:List cK):∀ k,(yV a b code k).length=k
 |0=>rfl
 |k+1=>by rw[yV,tN,aEA a b code k];rfl
theorem aM1 (a b:List Int) (code:List cK) {r k:Nat} (hr:r<k):∀ n,k<=n->(yV a b code n).getD r false=(yV a b code k).getD r false
 |0,h=>by omega
 |n+1,h=>by
  rcases cX n k with h1|h1
  ·have:k=n+1:=by omega
   rw[this]
  ·rw[←aM1 a b code hr n h1,yV,jH,aJG (by rw[aEA];omega),jH]
theorem bQD (a b:List Int) (code:List cK) {k n:Nat} (h:k<n):(yV a b code n).getD k false=aOP a b (yV a b code k) (code.getD k ⟨0,0,0,0⟩):=by
 rw[aM1 a b code (Nat.lt_succ_self k) n h,yV,jH,aGJ (by rw[aEA];exact eV _),aEA,aIY];rfl
def bQE (a b:List Int) (c:cK):Prop:=c.xK=1/\c.bZ<a.length/\¬a.getD c.bZ.toNat 0=b.getD c.bZ.toNat 0
theorem bK5 {a b:List Int} {out:List Bool} {inp:Int} {i:Nat} {c:cK} (h:kU inp i c):aOP a b out c=true↔bQE a b c∨∃ x∈opsOf c,out.getD x.toNat false=true:=by
 unfold aOP bQE opsOf
 unfold kU at h
 by_cases h1:c.xK=1
 ·rw[if_pos h1,if_neg aA,if_neg aA];simp[h1]
 rw[if_neg h1]
 by_cases h2:c.xK=2
 ·rw[if_pos h2,if_neg aA,if_neg aA];simp[h1]
 rw[if_neg h2]
 by_cases h7:c.xK=7
 ·rw[if_pos h7,if_neg aA,if_pos h7];simp[h1]
 ·rw[if_neg h7,if_pos aA];simp[h1]
theorem aOQ (b:List Bool) (i:Nat) (v:Bool) (r:Nat) (hi:i<b.length):(b.set i v).getD r false=if i=r then v else b.getD r false:=by
 rw[jH,List.getElem?_set]
 by_cases e:i=r
 ·subst e;rw[if_pos rfl,if_pos rfl,if_pos hi];rfl
 ·rw[if_neg e,if_neg e,jH]
theorem aYJ (r:Nat):∀ (l:List Int) (b:List Bool),(∀ x∈l,0<=x/\x<b.length)->((aBW l b).getD r false=true↔b.getD r false=true∨(r:Int)∈l)
 | [],b,_=>by simp[aBW]
 |x::l,b,h=>by
  have hx:=h x p6
  rw[show aBW (x::l) b=aBW l (b.set x.toNat true)from rfl,aYJ r l _ (λy hy=>by rw[aA6];exact h y (tF _ hy)),aOQ _ _ _ _ aA,s7]
  by_cases e:x.toNat=r
  ·rw[if_pos e];simp[show(r:Int)=x by omega]
  ·rw[if_neg e];simp[show ¬(r:Int)=x by omega]
theorem aYK (k r:Nat):∀ (l:List Int) (b:List Bool),(∀ x∈l,0<=x/\x<(k:Int))->k<b.length->((x9 k l b).getD r false=true↔b.getD r false=true∨((r:Int)∈l/\b.getD k false=true))
 | [],b,_,_=>by simp[x9]
 |x::l,b,h,hk=>by
  have hx:=h x p6
  rw[show x9 k (x::l) b=x9 k l (b.set x.toNat (b.getD x.toNat false || b.getD k false))from rfl,aYK k r l _ (λy hy=>h y (tF _ hy)) (by rw[aA6];exact hk),aOQ _ _ _ _ aA,aOQ _ _ _ _ aA,s7,if_neg (show ¬x.toNat=k by omega)]
  by_cases e:x.toNat=r
  ·rw[if_pos e]
   subst e
   simp[show((x.toNat:Nat):Int)=x by omega]
   exact λ_ h=>.inr h
  ·rw[if_neg e];simp[show ¬(r:Int)=x by omega]
def bQF (a b:List Int) (code:List cK) (k:Nat) (v:List Bool):Prop:=(∃ r c,k<=r/\code[r]?=some c/\v.getD r false=true/\bQE a b c)∨∃ r,r<k/\v.getD r false=true/\(yV a b code code.length).getD r false=true
theorem bGC {a b:List Int} {code:List cK} {inp:Int} (hi:∀ i c,code[i]?=some c->kU inp i c) {k:Nat} (hk:k<code.length) {v:List Bool} (hv:v.length=code.length):bQF a b code (k+1) v↔bQF a b code k (x9 k (a5A code k) v):=by
 have ek:code[k]?=some code[k]:=cJ hk
 have hok:=hi k _ ek
 have hlt:=bK0 hok
 have hg:∀ r,(x9 k (a5A code k) v).getD r false=true↔v.getD r false=true∨((r:Int)∈opsOf code[k]/\v.getD k false=true):=λr=>by
  rw[a5B hk];exact aYK k r _ _ hlt aA
 have hm:(yV a b code code.length).getD k false=true↔bQE a b code[k]∨∃ x∈opsOf code[k],(yV a b code code.length).getD x.toNat false=true:=by
  rw[bQD a b code hk,show code.getD k ⟨0,0,0,0⟩=code[k]by rw[jH,ek];rfl,bK5 hok]
  refine or_congr Iff.rfl ⟨?_,?_⟩
  ·rintro⟨x,hx,e⟩
   exact⟨x,hx,by rw[aM1 a b code (k:=k) (by have:=hlt x hx;omega) _ aA];exact e⟩
  ·rintro⟨x,hx,e⟩
   exact⟨x,hx,by rwa [aM1 a b code (k:=k) (by have:=hlt x hx;omega) _ aA]at e⟩
 constructor
 ·rintro(⟨r,c,h1,h2,h3,h4⟩|⟨r,h1,h2,h3⟩)
  ·exact .inl ⟨r,c,by omega,h2,(hg r).2 (.inl h3),h4⟩
  ·rcases cX r k with h5|h5
   ·exact .inr ⟨r,h5,(hg r).2 (.inl h2),h3⟩
   ·obtain rfl:r=k:=by omega
    rcases hm.1 h3 with h6|⟨x,hx,h6⟩
    ·exact .inl ⟨r,_,eV _,ek,(hg r).2 (.inl h2),h6⟩
    ·have:=hlt x hx
     exact .inr ⟨x.toNat,by omega,(hg _).2 (.inr ⟨by rw[show((x.toNat:Nat):Int)=x by omega];exact hx,h2⟩),h6⟩
 ·rintro(⟨r,c,h1,h2,h3,h4⟩|⟨r,h1,h2,h3⟩)
  ·have h5:v.getD r false=true:=by
    rcases(hg r).1 h3 with h|⟨h,_⟩
    ·exact h
    ·have:=hlt _ h;omega
   rcases cX k r with h6|h6
   ·exact .inl ⟨r,c,by omega,h2,h5,h4⟩
   ·obtain rfl:r=k:=by omega
    rw[ek]at h2
    obtain rfl:=eN h2
    exact .inr ⟨r,by omega,h5,hm.2 (.inl h4)⟩
  ·rcases(hg r).1 h2 with h|⟨h,h5⟩
   ·exact .inr ⟨r,by omega,h,h3⟩
   ·exact .inr ⟨k,by omega,h5,hm.2 (.inr ⟨_,h,by rw[aA7];exact h3⟩)⟩
theorem aU5 {a b:List Int} {code:List cK} {inp:Int} (hi:∀ i c,code[i]?=some c->kU inp i c):∀ (k:Nat) (v:List Bool),k<=code.length->v.length=code.length->(bQF a b code k v↔bQF a b code 0 (aMZ code k v))
 |0,v,_,_=>Iff.rfl
 |k+1,v,hk,hv=>by
  rw[bGC hi hk hv,aMZ]
  exact aU5 hi k _ aA (by rw[aOL];exact hv)
theorem bQG {t:sZ} {sh:Int} {a b:List Int} (ha:(a.length:Int)=sh) {inp:Int} (hi:∀ i c,t.cU[i]?=some c->kU inp i c) (he:∀ x∈r6 t,0<=x/\x<(t.cU.length:Int)) :
  (∃ r,aBX t sh a b r)↔∃ e∈r6 t,(yV a b t.cU t.cU.length).getD e.toNat false=true:=by
 have h:=aU5 (a:=a) (b:=b) hi t.cU.length (aBW (r6 t) (List.replicate t.cU.length false)) (eV _) (by rw[aOK,aRY])
 have hm:∀ r,(aBW (r6 t) (List.replicate t.cU.length false)).getD r false=true↔(r:Int)∈r6 t:=λr=>by
  rw[aYJ r _ _ (λx hx=>by rw[aRY];exact he x hx)]
  constructor
  ·rintro(h|h)
   ·rw[jH,List.getElem?_replicate]at h;split at h <;> cases h
   ·exact h
  ·exact .inr
 constructor
 ·rintro⟨r,h1,c,h2,h3,h4,h5⟩
  rcases h.2 (.inl ⟨r,c,iF _,h2,by rw[jH];show(yA t.cU (r6 t))[r]?.getD false=true;rw[h1];rfl,h3,by omega,h5⟩)with⟨r2,c2,h6,h7,_⟩|⟨r2,h6,h7,h8⟩
  ·have:=(oG.1 h7).1;omega
  ·exact⟨r2,(hm r2).1 h7,by rw[aA7];exact h8⟩
 ·rintro⟨e,h1,h2⟩
  have:=he e h1
  rcases h.1 (.inr ⟨e.toNat,by omega,(hm _).2 (by rw[show((e.toNat:Nat):Int)=e by omega];exact h1),h2⟩)with⟨r2,c2,h6,h7,h8,h9,h10,h11⟩|⟨r2,h6,_⟩
  ·refine⟨r2,?_,c2,h7,h9,by omega,h11⟩
   have hl:=(oG.1 h7).1
   have h12:(yA t.cU (r6 t)).getD r2 false=true:=h8
   rw[a06 (b:=yA t.cU (r6 t)) (k:=r2) (by rw[aYB];exact hl),h12]
  ·omega
theorem aA1 (l:List Bool) (x:Bool):aFR (l++[x])=.row 1 (((l.map λx=>[aC.bool x]).map (List.map Cell.v))++[[.v (.bool x)]]):=by simp[aFR]
theorem a09 {a b:List Int} {out:List Bool} {c:cK} (h:c.xK=1):aOP a b out c=decide (c.bZ<a.length/\¬a.getD c.bZ.toNat 0=b.getD c.bZ.toNat 0):=if_pos h
theorem bK6 {a b:List Int} {out:List Bool} {c:cK} (h:c.xK=2):aOP a b out c=false:=by rw[aOP,if_neg aA,if_pos h]
theorem bXT {a b:List Int} {out:List Bool} {c:cK} (h:c.xK=7):aOP a b out c=out.getD c.fA.toNat false:=by rw[aOP,if_neg aA,if_neg aA,if_pos h]
theorem bD7 {a b:List Int} {out:List Bool} {c:cK} (h1:¬c.xK=1) (h2:¬c.xK=2) (h7:¬c.xK=7):aOP a b out c=(out.getD c.fA.toNat false || out.getD c.fB.toNat false):=by rw[aOP,if_neg h1,if_neg h2,if_neg h7]
@[go_sem] def bD8:List Nat:=[0,1,2,6,7,8,9,17,28,44,67,72]
@[go_sem] def bT3:List Nat:=[10,42,65,70,80]
@[go_sem] def bT4:Marks:=λid=>match id with|9=>([2,9,14,20],(.op 0 (.op 1 (.op 3 (.op 4 (.op 2 (.op 5 (.op 6 (.op 7 (.op 8 (.op 12 (.op 13 (.op 9 (.op 10 (.op 11 (.op 14 (.op 15 (.op 16 (.op 17 (.op 18 (.op 19 (.op 20 (.op 21 .nil)))))))))))))))))))))),[])|_=>([],.nil,[])
theorem bK7 (t:sZ) (a b:List Int) {inp:Int} (hc:t.cU.length<=1048576) (hab:a.length=b.length) (hi:∀ i c,t.cU[i]?=some c->kU inp i c) {h:Heap} {nb:Nat} (hnb:h nb=some (.row 4 [t.c.map .v])):gV Tryz.prog 228 [.op nb 4 0 0,ints a,ints b] h λr h'=>r=dA 1 (λb=>[.bool b]) (yV a b t.cU t.cU.length)/\h'=h:=by
 rw[sZ.aO]at hnb
 simp only[nE,xL]at hnb
 refine mK 83 bD8 bT3 bT4 Tryz.func228 ?_
 simp -dsimp -implicitDefEqProofs only[go_sem,↓reduceIte,Tryz.f228,hnb]
 refine⟨by decide,?_⟩
 refine cY bD8 bT3 bT4 (λx:Nat×Option Nat=>[(0,.op nb 4 0 0),(1,ints a),(2,ints b),(7,nW 1 x.1 x.2),(8,I x.1)]) (λx=>dG h (aFR (yV a b t.cU x.1)) x.2) (λx=>x.1<=t.cU.length/\lK h (yV a b t.cU x.1) x.2) (λx=>t.cU.length-x.1) (0,none) ⟨by simp[eE,dJ,nW],Heap.le_refl _,iF _,rfl⟩ ?_
 rintro⟨k,o⟩ ⟨hk,hos⟩
 simp only at hk hos ⊢
 have hml:=aEA a b t.cU k
 rcases cX k t.cU.length with hlt|hge
 ·have ek:t.cU[k]?=some t.cU[k]:=cJ hlt
  have hins:=hi k _ ek
  have hst:yV a b t.cU (k+1)=yV a b t.cU k++[aOP a b (yV a b t.cU k) t.cU[k]]:=by
   rw[yV,show t.cU.getD k ⟨0,0,0,0⟩=t.cU[k]by rw[jH,ek];rfl]
  generalize hM:yV a b t.cU k=M at *
  have hnext:∀ (g:Heap) (n1:Nat),h n1=none->(bL h n1 (aFR (M++[aOP a b M t.cU[k]]))).le g->∃ x':Nat×Option Nat,(.os n1 1 0 (k+1)=nW 1 x'.1 x'.2/\IntKind.i64.wrap ((k:Int)+1)=(x'.1:Int))/\(dG h (aFR (yV a b t.cU x'.1)) x'.2).le g/\(x'.1<=t.cU.length/\lK h (yV a b t.cU x'.1) x'.2)/\t.cU.length-x'.1<t.cU.length-k:=λg n1 h1 h2 =>
   ⟨(k+1,some n1),⟨rfl,by rw[IntWalk.i64_in _ aA];rfl⟩,by simp only[aK];rw[hst];exact h2,⟨hlt,h1⟩,by simp only;omega⟩
  cases o with
  |none =>
   rw[cZ]at hos
   have k0:k=0:=by rw[←hml,hos];rfl
   subst k0
   subst hos
   rcases(show t.cU[0].xK=1∨t.cU[0].xK=2 by unfold kU at hins;omega)with h1|h1
   ·by_cases hn:t.cU[0].bZ<a.length
    ·have pa:a[t.cU[0].bZ.toNat]?=some (a.getD t.cU[0].bZ.toNat 0):=gA bBS
     have pb:b[t.cU[0].bZ.toNat]?=some (b.getD t.cU[0].bZ.toNat 0):=gA bBS
     simp -dsimp -implicitDefEqProofs only[go_sem,↓reduceIte,Tryz.f228,dK,aN,hnb,hlt,ek,cK.aO,h1,hn,pa,pb]
     have n0:0<=t.cU[0].bZ:=by unfold kU at hins;omega
     refine λ_ n zn=>⟨n0,n0,by omega,cI,cI,cI,λn1 ⟨d1,_,z1⟩=>hnext _ n1 z1 ?_⟩
     rw[a09 h1,bA5,decide_eq_true hn,Bool.true_and,decide_not]
     exact Heap.b5 (Heap.aW zn (Heap.aW zn (Heap.le_refl _)))
    ·simp -dsimp -implicitDefEqProofs only[go_sem,↓reduceIte,Tryz.f228,dK,aN,hnb,hlt,ek,cK.aO,h1,hn]
     refine λ_ n zn=>⟨cI,cI,cI,λn1 ⟨d1,_,z1⟩=>hnext _ n1 z1 ?_⟩
     rw[a09 h1,bA5,decide_eq_false hn,bM4]
     exact Heap.b5 (Heap.aW zn (Heap.aW zn (Heap.le_refl _)))
   ·simp -dsimp -implicitDefEqProofs only[go_sem,↓reduceIte,Tryz.f228,dK,aN,hnb,hlt,ek,cK.aO,h1]
    refine λ_ n zn=>⟨cI,cI,cI,λn1 ⟨d1,_,z1⟩=>hnext _ n1 z1 ?_⟩
    rw[bK6 h1]
    exact Heap.b5 (Heap.aW zn (Heap.aW zn (Heap.le_refl _)))
  |some m =>
   rw[bY]at hos
   by_cases h1:t.cU[k].xK=1
   ·by_cases hn:t.cU[k].bZ<a.length
    ·have pa:a[t.cU[k].bZ.toNat]?=some (a.getD t.cU[k].bZ.toNat 0):=gA bBS
     have pb:b[t.cU[k].bZ.toNat]?=some (b.getD t.cU[k].bZ.toNat 0):=gA bBS
     have n0:0<=t.cU[k].bZ:=by unfold kU at hins;omega
     unfold aFR
     obtain⟨kZ,fC,fD,nJ⟩:=cB (show ¬nb=m from λq=>by rw[q,hos]at hnb;cases hnb)
     simp -dsimp -implicitDefEqProofs only[go_sem,↓reduceIte,Tryz.f228,bU,aK,hnb,fC,fD,aE,hlt,ek,cK.aO,h1,hn,pa,pb]
     refine λ_ n ⟨dn,zn⟩=>?_
     obtain⟨bD9,aM2,aM3,bEA⟩:=cB (show ¬n=m from dn)
     simp -dsimp -implicitDefEqProofs only[go_sem,↓reduceIte,Tryz.f228,aM2,aM3,aE,h1,hn,pa,pb]
     refine⟨n0,n0,by omega,cI,cI,cI,by omega,by omega,by omega,λb1 ⟨d1,_,dm,z1⟩=>hnext _ b1 z1 ?_⟩
     rw[aA1,a09 h1,bA5,decide_eq_true hn,Bool.true_and,decide_not,gX oX]
     exact Heap.b5 (Heap.aW hos (Heap.aW zn (Heap.aW zn (Heap.aW hos (Heap.le_refl _)))))
    ·unfold aFR
     obtain⟨kZ,fC,fD,nJ⟩:=cB (show ¬nb=m from λq=>by rw[q,hos]at hnb;cases hnb)
     simp -dsimp -implicitDefEqProofs only[go_sem,↓reduceIte,Tryz.f228,bU,aK,hnb,fC,fD,aE,hlt,ek,cK.aO,h1,hn]
     refine λ_ n ⟨dn,zn⟩=>?_
     obtain⟨bD9,aM2,aM3,bEA⟩:=cB (show ¬n=m from dn)
     simp -dsimp -implicitDefEqProofs only[go_sem,↓reduceIte,Tryz.f228,aM2,aM3,aE,h1,hn]
     refine⟨cI,cI,cI,by omega,by omega,by omega,λb1 ⟨d1,_,dm,z1⟩=>hnext _ b1 z1 ?_⟩
     rw[aA1,a09 h1,bA5,decide_eq_false hn,bM4,gX oX]
     exact Heap.b5 (Heap.aW hos (Heap.aW zn (Heap.aW zn (Heap.aW hos (Heap.le_refl _)))))
   by_cases h2:t.cU[k].xK=2
   ·unfold aFR
    obtain⟨kZ,fC,fD,nJ⟩:=cB (show ¬nb=m from λq=>by rw[q,hos]at hnb;cases hnb)
    simp -dsimp -implicitDefEqProofs only[go_sem,↓reduceIte,Tryz.f228,bU,aK,hnb,fC,fD,aE,hlt,ek,cK.aO,h2]
    refine λ_ n ⟨dn,zn⟩=>?_
    obtain⟨bD9,aM2,aM3,bEA⟩:=cB (show ¬n=m from dn)
    simp -dsimp -implicitDefEqProofs only[go_sem,↓reduceIte,Tryz.f228,aM2,aM3,aE,h2]
    refine⟨cI,cI,cI,by omega,by omega,by omega,λb1 ⟨d1,_,dm,z1⟩=>hnext _ b1 z1 ?_⟩
    rw[aA1,bK6 h2,gX oX]
    exact Heap.b5 (Heap.aW hos (Heap.aW zn (Heap.aW zn (Heap.aW hos (Heap.le_refl _)))))
   have n0:0<=t.cU[k].fA/\t.cU[k].fA<k:=by unfold kU at hins;omega
   have ga:=a06 (b:=M) (k:=t.cU[k].fA.toNat) aA
   by_cases h7:t.cU[k].xK=7
   ·unfold aFR
    obtain⟨kZ,fC,fD,nJ⟩:=cB (show ¬nb=m from λq=>by rw[q,hos]at hnb;cases hnb)
    simp -dsimp -implicitDefEqProofs only[go_sem,↓reduceIte,Tryz.f228,bU,aK,hnb,fC,fD,aE,hlt,ek,cK.aO,h7,ga]
    refine λ_ n ⟨dn,zn⟩=>?_
    obtain⟨bD9,aM2,aM3,bEA⟩:=cB (show ¬n=m from dn)
    simp -dsimp -implicitDefEqProofs only[go_sem,↓reduceIte,Tryz.f228,aM2,aM3,aE,h7,ga]
    refine⟨n0.1,n0.2,cI,cI,cI,by omega,by omega,by omega,λb1 ⟨d1,_,dm,z1⟩=>hnext _ b1 z1 ?_⟩
    rw[aA1,bXT h7,gX oX]
    exact Heap.b5 (Heap.aW hos (Heap.aW zn (Heap.aW zn (Heap.aW hos (Heap.le_refl _)))))
   ·have n1:0<=t.cU[k].fB/\t.cU[k].fB<k:=by unfold kU at hins;omega
    have gb:=a06 (b:=M) (k:=t.cU[k].fB.toNat) aA
    unfold aFR
    obtain⟨kZ,fC,fD,nJ⟩:=cB (show ¬nb=m from λq=>by rw[q,hos]at hnb;cases hnb)
    simp -dsimp -implicitDefEqProofs only[go_sem,↓reduceIte,Tryz.f228,bU,aK,hnb,fC,fD,aE,hlt,ek,cK.aO,h1,h2,h7,ga,gb]
    refine λ_ n ⟨dn,zn⟩=>?_
    obtain⟨bD9,aM2,aM3,bEA⟩:=cB (show ¬n=m from dn)
    simp -dsimp -implicitDefEqProofs only[go_sem,↓reduceIte,Tryz.f228,aM2,aM3,aE,h1,h2,h7,ga,gb]
    refine⟨n0.1,n0.2,λhq=>?_,λhq=>?_⟩
    ·refine⟨n1.1,n1.2,cI,cI,cI,by omega,by omega,by omega,λb1 ⟨d1,_,dm,z1⟩=>hnext _ b1 z1 ?_⟩
     rw[aA1,bD7 h1 h2 h7,hq,tG,gX oX]
     exact Heap.b5 (Heap.aW hos (Heap.aW zn (Heap.aW zn (Heap.aW hos (Heap.le_refl _)))))
    ·refine⟨cI,cI,cI,by omega,by omega,by omega,λb1 ⟨d1,_,dm,z1⟩=>hnext _ b1 z1 ?_⟩
     rw[aA1,bD7 h1 h2 h7,hq,q8,gX oX]
     exact Heap.b5 (Heap.aW hos (Heap.aW zn (Heap.aW zn (Heap.aW hos (Heap.le_refl _)))))
 ·have hk':k=t.cU.length:=by omega
  subst hk'
  cases o with
  |none =>
   rw[cZ]at hos
   rw[hos]
   simp -dsimp -implicitDefEqProofs only[go_sem,↓reduceIte,Tryz.f228,dK,aN,hnb,cO,eK]
   exact λ_=>⟨_,h,Shift.of (Sub.loose _ _ _) (Heap.le_refl _),rfl,rfl⟩
  |some m =>
   rw[bY]at hos
   obtain⟨kZ,fC,fD,nJ⟩:=cB (show ¬nb=m from λq=>by rw[q,hos]at hnb;cases hnb)
   simp -dsimp -implicitDefEqProofs only[go_sem,↓reduceIte,Tryz.f228,bU,aK,hnb,fC,fD,aE,cO,eK]
   exact λ_=>⟨_,h,sK ((yV a b t.cU t.cU.length).map λx=>[.bool x]) hos (Heap.le_refl _) _ (by rw[lM,hml]),rfl,rfl⟩
theorem bGD {j:dF} {k:Nat} {point:List Int} {l:List Int} {S:eP} (hR:pJ j.bR j.bO (eD j k)=(⟨(eD j k).length,S.code,S.guards,l⟩,0)) (hpl:(j.c7.length:Int)=j.aQ) {inp:Int} (hi:∀ i c,S.code[i]?=some c->kU inp i c)
  (he:∀ x∈r6 ⟨(eD j k).length,S.code,S.guards,l⟩,0<=x/\x<(S.code.length:Int)) :
  a07 j k point↔∀ e∈r6 ⟨(eD j k).length,S.code,S.guards,l⟩,¬(yV j.c7 point S.code S.code.length).getD e.toNat false=true:=by
 rw[a07,hR]
 have h:=bQG (t:=⟨(eD j k).length,S.code,S.guards,l⟩) (b:=point) hpl hi he
 constructor
 ·rintro⟨_,h1⟩ e h2 h3
  exact h1 (h.2 ⟨e,h2,h3⟩)
 ·intro h1
  refine⟨rfl,λh2=>?_⟩
  obtain⟨e,h3,h4⟩:=h.1 h2
  exact h1 e h3 h4
@[go_sem] def aM4:List Nat:=[0,1,2,6,7,10,11,12,13,14,41,63,68,79,84,104]
@[go_sem] def a5J:Marks:=λid=>match id with|1=>([11],(.op 0 (.op 1 (.op 2 (.op 3 (.op 4 (.op 5 (.op 6 (.op 7 (.op 8 (.op 9 (.op 10 (.op 11 (.op 12 .nil))))))))))))),[])|2=>([8],(.op 0 (.op 1 (.op 2 (.op 3 (.op 4 (.op 5 (.op 6 (.op 7 (.op 8 (.op 9 (.op 10 (.op 11 (.op 12 (.op 13 (.op 14 (.op 15 .nil)))))))))))))))),[])|5=>([8,9,10],(.op 0 (.op 1 (.op 2 (.op 3 (.op 4 (.op 5 (.op 6 (.op 7 (.alt 8 (.op 9 (.op 10 .nil)) 9 (.op 8 (.op 10 .nil))))))))))),[])|_=>([],.nil,[])
theorem bK8 {j:dF} (hj:j.ok) {k:Nat} (hk:k<j.aV.length) (point:List Int) (hpt:(point.length:Int)=j.aQ):fQ Tryz.prog 197 [.ip 5 [j.c] 0 0,I k,ints point] (.bool (decide (a07 j k point))):=by
 obtain⟨t1,t2,t3,t4,t5,t6,t7,t8⟩:=aKZ hj hk
 obtain⟨F,eF,hf,hF,ok⟩:=aIP hj
 obtain⟨F2,eF2,hO1,hO2,hO3,hO4⟩:=aIM hj.1 hf
 have hargs:fQ Tryz.prog 225 [ints j.c7,ints (j.aV.getD k [])] (ints (eD j k)):=bPZ j.c7 (j.aV.getD k []) aA aA
 have hev:=bP0 hj.1 j.bO hf (eD j k) t2 t4 t3
 have hok:=(aRG hj.1 j.bO hf (eD j k) t2 t3).1
 have hsim:=(aRG hj.1 j.bO hf (eD j k) t2 t3).2
 have her:=bDQ j.bR 1 j.bO ((eD j k).map λn=>[n])
 have hrec:=λl S' t=>bGB (l:=l) (S':=S') (t:=t) hj.1 j.bO hf (eD j k) t2 t4 t3
 rw[aL.aO]at hev
 simp only[aL.aO]at hrec
 simp only[dF.aO]
 refine eG 105 aM4 cD a5J Tryz.func197 λh=>?_
 simp -dsimp -implicitDefEqProofs only[go_sem,↓reduceIte,Tryz.f197,t1]
 refine⟨hk,?_⟩
 refine aH.mk hargs ?_
 simp -dsimp -implicitDefEqProofs only[go_sem,↓reduceIte,Tryz.f197]
 refine aH.mk (hev.sub (.cons (Sub.eA rfl rfl rfl) (.cons (.refl _) (.cons (.refl _) .nil)))) ?_
 simp -dsimp -implicitDefEqProofs only[go_sem,↓reduceIte,Tryz.f197]
 cases hX:aWN j.bR j.bO (eD j k)with
 |error c =>
  rw[hX]at hsim
  cases hY:evF j.bR 1 j.bO ((eD j k).map λn=>[n])with
  |ok q=>rw[hY]at hsim;exact hsim.elim
  |error d =>
   have hd:¬d=0:=by rcases her d hY with rfl|rfl <;> decide
   rw[hY]at hsim
   have h1:c=d:=hsim
   rw[aYG]
   refine⟨λ_=>?_,λq=>absurd q hd⟩
   exact(decide_eq_false λz=>hd (by have:=z.1;rw[pJ,hX]at this;exact h1.symm.trans this)).symm
 |ok q =>
  obtain⟨⟨l,S⟩,t⟩:=q
  rw[hX]at hsim
  cases hY:evF j.bR 1 j.bO ((eD j k).map λn=>[n])with
  |error d=>rw[hY]at hsim;exact hsim.elim
  |ok q2 =>
  obtain⟨vs,t'⟩:=q2
  obtain⟨g1,g2,⟨g3,g4⟩,g5⟩:=hok _ _ hX
  simp only at g1 g2 g3 g4 g5
  unfold sP at g5
  have g6:=g1.cap
  have g7:=g1.vM
  have g8:=g1.len
  have hR:pJ j.bR j.bO (eD j k)=(⟨(eD j k).length,S.code,S.guards,l⟩,0):=by rw[pJ,hX]
  have l0:l[Int.toNat 0]?=some (l.getD 0 0):=gA aYW
  have hpl:(j.c7.length:Int)=j.aQ:=ok.2.1.1
  have hends:∀ x∈r6 ⟨(eD j k).length,S.code,S.guards,l⟩,0<=x/\x<(S.code.length:Int):=λx hx=>by
   rw[r6,zN]at hx
   rcases rF.1 hx with hx|hx
   ·rcases rF.1 hx with hx|hx
    ·rw[vP.1 hx]
     show 0<=l.getD 0 0/\l.getD 0 0<(S.code.length:Int)
     rw[jH,cJ aYW]
     have:=g4 _ (dX (h:=(by rw[g3,hO3];omega:0<l.length)))
     unfold rZ at this
     rw[g8];exact this
    ·obtain⟨gg,hgg,rfl⟩:=yC.1 hx
     rw[g8];exact g1.gds gg hgg
   ·obtain⟨cc,hcc,rfl⟩:=yC.1 hx
    obtain⟨h1,h2⟩:=a6T.1 hcc
    obtain⟨q,hq,rfl⟩:=aR3.1 h1
    have h3:=g1.ins q S.code[q] (cJ hq)
    have h4:(S.code[q]).xK=6:=by simpa using h2
    show 0<=(S.code[q]).fB/\(S.code[q]).fB<(S.code.length:Int)
    have hq':q<S.code.length:=hq
    unfold kU at h3
    omega
  have hst:=bGD (point:=point) hR hpl g1.ins hends
  have hmv:=λ(h:Heap) (nb:Nat)=>bK7 ⟨(eD j k).length,S.code,S.guards,l⟩ j.c7 point (by simp only;omega) aA g1.ins (h:=h) (nb:=nb)
  have hml:=aEA j.c7 point S.code S.code.length
  simp only[sZ.aO]at hmv
  have m0:l.getD 0 0∈r6 ⟨(eD j k).length,S.code,S.guards,l⟩:=by rw[r6,zN];exact aF7 _ (aF7 _ p6)
  have mG:∀ g∈S.guards,g.aQQ∈r6 ⟨(eD j k).length,S.code,S.guards,l⟩:=λg hg=>by rw[r6,zN];exact aF7 _ (aA5 _ (yC.2 ⟨g,hg,rfl⟩))
  have mC:∀ c∈S.code,c.xK=6->c.fB∈r6 ⟨(eD j k).length,S.code,S.guards,l⟩:=λc hc h6=>by rw[r6];exact aA5 _ (yC.2 ⟨c,a6T.2 ⟨hc,by simpa using h6⟩,rfl⟩)
  generalize yV j.c7 point S.code S.code.length=M at *
  have gM:∀ x∈r6 ⟨(eD j k).length,S.code,S.guards,l⟩,M[x.toNat]?=some (M.getD x.toNat false):=λx hx=>a06 (by have:=hends x hx;omega)
  have bT5:=hrec l S t hX
  simp only[sZ.aO]at bT5
  rw[show aYG (.ok (vs,t'))=(vs.map (·.getD 0 0),(t':Int),0)from rfl]
  refine⟨λq=>absurd rfl q,λ_=>?_⟩
  have bT6:=bT5.sub (.cons (Sub.eA (sz:=5) (es:=[[dA 3 aX.c j.bR.aJ,I j.bO,I j.aQ,dA 1 (λn=>[I n]) j.c7,dA 1 (λx=>[dA 1 (λn=>[I n]) x]) j.aV]]) (i:=0) (off:=0) (sz':=1) (e':=[dA 3 aX.c j.bR.aJ]) rfl rfl rfl) (.cons (.refl _) (.cons (.refl _) .nil)))
  refine⟨?_,λn hn=>?_⟩
  ·refine aH.mk bT6 ?_
   simp -dsimp -implicitDefEqProofs only[go_sem,↓reduceIte,Tryz.f197]
   intro n hn
   rw[aF]
   generalize hh7:bL h n (.row 4 [[.v (I (eD j k).length),.v (dA 4 cK.c S.code),.v (dA 2 fS.c S.guards),.v (ints l)]])=h7
   have h7n:h7 n=some (.row 4 [[.v (I (eD j k).length),.v (dA 4 cK.c S.code),.v (dA 2 fS.c S.guards),.v (ints l)]]):=by rw[←hh7,bB]
   have aOO:h.le h7:=by rw[←hh7];exact Heap.aW hn (Heap.le_refl _)
   refine aH.jP (hmv h7 n h7n) ?_
   rintro r h' ⟨rfl,rfl⟩
   simp -dsimp -implicitDefEqProofs only[go_sem,↓reduceIte,Tryz.f197,h7n,l0,gM _ m0]
   have e0:=hends _ m0
   refine⟨by rw[g3,hO3];omega,e0.1,by rw[hml];exact e0.2,λhq=>?_,λhq=>?_⟩
   ·exact⟨(decide_eq_false λz=>hst.1 z _ m0 hq).symm,aOO⟩
   refine cY aM4 cD a5J (λi:Nat=>[(11,.op n 4 0 0),(12,dA 1 (λb=>[.bool b]) M),(13,I i)]) (λ_=>h') (λi=>i<=S.guards.length/\∀ g∈S.guards.take i,M.getD g.aQQ.toNat false=false) (λi=>S.guards.length-i) 0 ⟨by simp[eE,dJ],Heap.le_refl _,iF _,by simp⟩ ?_
   rintro i ⟨hi,hall⟩
   rcases cX i S.guards.length with hlt|hge
   ·have eg:S.guards[i]?=some S.guards[i]:=cJ hlt
    have mg:=mG _ (dX hlt)
    have eg2:=hends _ mg
    simp -dsimp -implicitDefEqProofs only[go_sem,↓reduceIte,Tryz.f197,h7n,hlt,eg,fS.aO,gM _ mg]
    refine λ_=>⟨eg2.1,by rw[hml];exact eg2.2,λhq=>?_,λhq=>?_⟩
    ·exact⟨(decide_eq_false λz=>hst.1 z _ mg hq).symm,aOO⟩
    ·exact⟨i+1,by rw[IntWalk.i64_in _ aA];rfl,⟨hlt,mN hlt hall hq⟩,by omega⟩
   have hi':i=S.guards.length:=by omega
   subst hi'
   rw[eJ]at hall
   simp -dsimp -implicitDefEqProofs only[go_sem,↓reduceIte,Tryz.f197,h7n,cO,eK]
   refine λ_=>?_
   refine cY aM4 cD a5J (λi:Nat=>[(11,.op n 4 0 0),(12,dA 1 (λb=>[.bool b]) M),(14,I i)]) (λ_=>h') (λi=>i<=S.code.length/\∀ c∈S.code.take i,c.xK=6->M.getD c.fB.toNat false=false) (λi=>S.code.length-i) 0 ⟨by simp[eE,dJ],Heap.le_refl _,iF _,by simp⟩ ?_
   rintro i ⟨hi,a1A⟩
   rcases cX i S.code.length with hlt|hge
   ·have eg:S.code[i]?=some S.code[i]:=cJ hlt
    by_cases h6:S.code[i].xK=6
    ·have mg:=mC _ (dX hlt) h6
     have eg2:=hends _ mg
     simp -dsimp -implicitDefEqProofs only[go_sem,↓reduceIte,Tryz.f197,h7n,hlt,eg,cK.aO,h6,gM _ mg]
     refine λ_=>⟨eg2.1,by rw[hml];exact eg2.2,λhq=>?_,λhq=>?_⟩
     ·exact⟨(decide_eq_false λz=>hst.1 z _ mg hq).symm,aOO⟩
     ·exact⟨i+1,by rw[IntWalk.i64_in _ aA];rfl,⟨hlt,mN hlt a1A λ_=>hq⟩,by omega⟩
    ·simp -dsimp -implicitDefEqProofs only[go_sem,↓reduceIte,Tryz.f197,h7n,hlt,eg,cK.aO,h6]
     exact λ_=>⟨i+1,by rw[IntWalk.i64_in _ aA];rfl,⟨hlt,mN hlt a1A λq=>absurd q h6⟩,by omega⟩
   have hi':i=S.code.length:=by omega
   subst hi'
   rw[eJ]at a1A
   simp -dsimp -implicitDefEqProofs only[go_sem,↓reduceIte,Tryz.f197,h7n,cO,eK]
   refine λ_=>⟨(decide_eq_true (hst.2 λe he=>?_)).symm,aOO⟩
   rw[r6,zN]at he
   rcases rF.1 he with he|he
   ·rcases rF.1 he with he|he
    ·rw[vP.1 he]
     have hq':M.getD (l.getD 0 0).toNat false=false:=hq
     show ¬M.getD (l.getD 0 0).toNat false=true
     rw[hq'];simp
    ·obtain⟨gg,hgg,rfl⟩:=yC.1 he
     rw[hall gg hgg];simp
   ·obtain⟨cc,hcc,rfl⟩:=yC.1 he
    obtain⟨h1,h2⟩:=a6T.1 hcc
    rw[a1A cc h1 (by simpa using h2)];simp
  ·refine aH.mk bT6 ?_
   simp -dsimp -implicitDefEqProofs only[go_sem,↓reduceIte,Tryz.f197]
   rw[aF]
   generalize hh7:bL h n (.row 4 [[.v (I (eD j k).length),.v (dA 4 cK.c S.code),.v (dA 2 fS.c S.guards),.v (ints l)]])=h7
   have h7n:h7 n=some (.row 4 [[.v (I (eD j k).length),.v (dA 4 cK.c S.code),.v (dA 2 fS.c S.guards),.v (ints l)]]):=by rw[←hh7,bB]
   have aOO:h.le h7:=by rw[←hh7];exact Heap.aW hn (Heap.le_refl _)
   refine aH.jP (hmv h7 n h7n) ?_
   rintro r h' ⟨rfl,rfl⟩
   simp -dsimp -implicitDefEqProofs only[go_sem,↓reduceIte,Tryz.f197,h7n,l0,gM _ m0]
   have e0:=hends _ m0
   refine⟨by rw[g3,hO3];omega,e0.1,by rw[hml];exact e0.2,λhq=>?_,λhq=>?_⟩
   ·exact⟨(decide_eq_false λz=>hst.1 z _ m0 hq).symm,aOO⟩
   refine cY aM4 cD a5J (λi:Nat=>[(11,.op n 4 0 0),(12,dA 1 (λb=>[.bool b]) M),(13,I i)]) (λ_=>h') (λi=>i<=S.guards.length/\∀ g∈S.guards.take i,M.getD g.aQQ.toNat false=false) (λi=>S.guards.length-i) 0 ⟨by simp[eE,dJ],Heap.le_refl _,iF _,by simp⟩ ?_
   rintro i ⟨hi,hall⟩
   rcases cX i S.guards.length with hlt|hge
   ·have eg:S.guards[i]?=some S.guards[i]:=cJ hlt
    have mg:=mG _ (dX hlt)
    have eg2:=hends _ mg
    simp -dsimp -implicitDefEqProofs only[go_sem,↓reduceIte,Tryz.f197,h7n,hlt,eg,fS.aO,gM _ mg]
    refine λ_=>⟨eg2.1,by rw[hml];exact eg2.2,λhq=>?_,λhq=>?_⟩
    ·exact⟨(decide_eq_false λz=>hst.1 z _ mg hq).symm,aOO⟩
    ·exact⟨i+1,by rw[IntWalk.i64_in _ aA];rfl,⟨hlt,mN hlt hall hq⟩,by omega⟩
   have hi':i=S.guards.length:=by omega
   subst hi'
   rw[eJ]at hall
   simp -dsimp -implicitDefEqProofs only[go_sem,↓reduceIte,Tryz.f197,h7n,cO,eK]
   refine λ_=>?_
   refine cY aM4 cD a5J (λi:Nat=>[(11,.op n 4 0 0),(12,dA 1 (λb=>[.bool b]) M),(14,I i)]) (λ_=>h') (λi=>i<=S.code.length/\∀ c∈S.code.take i,c.xK=6->M.getD c.fB.toNat false=false) (λi=>S.code.length-i) 0 ⟨by simp[eE,dJ],Heap.le_refl _,iF _,by simp⟩ ?_
   rintro i ⟨hi,a1A⟩
   rcases cX i S.code.length with hlt|hge
   ·have eg:S.code[i]?=some S.code[i]:=cJ hlt
    by_cases h6:S.code[i].xK=6
    ·have mg:=mC _ (dX hlt) h6
     have eg2:=hends _ mg
     simp -dsimp -implicitDefEqProofs only[go_sem,↓reduceIte,Tryz.f197,h7n,hlt,eg,cK.aO,h6,gM _ mg]
     refine λ_=>⟨eg2.1,by rw[hml];exact eg2.2,λhq=>?_,λhq=>?_⟩
     ·exact⟨(decide_eq_false λz=>hst.1 z _ mg hq).symm,aOO⟩
     ·exact⟨i+1,by rw[IntWalk.i64_in _ aA];rfl,⟨hlt,mN hlt a1A λ_=>hq⟩,by omega⟩
    ·simp -dsimp -implicitDefEqProofs only[go_sem,↓reduceIte,Tryz.f197,h7n,hlt,eg,cK.aO,h6]
     exact λ_=>⟨i+1,by rw[IntWalk.i64_in _ aA];rfl,⟨hlt,mN hlt a1A λq=>absurd q h6⟩,by omega⟩
   have hi':i=S.code.length:=by omega
   subst hi'
   rw[eJ]at a1A
   simp -dsimp -implicitDefEqProofs only[go_sem,↓reduceIte,Tryz.f197,h7n,cO,eK]
   refine λ_=>⟨(decide_eq_true (hst.2 λe he=>?_)).symm,aOO⟩
   rw[r6,zN]at he
   rcases rF.1 he with he|he
   ·rcases rF.1 he with he|he
    ·rw[vP.1 he]
     have hq':M.getD (l.getD 0 0).toNat false=false:=hq
     show ¬M.getD (l.getD 0 0).toNat false=true
     rw[hq'];simp
    ·obtain⟨gg,hgg,rfl⟩:=yC.1 he
     rw[hall gg hgg];simp
   ·obtain⟨cc,hcc,rfl⟩:=yC.1 he
    obtain⟨h1,h2⟩:=a6T.1 hcc
    rw[a1A cc h1 (by simpa using h2)];simp
def mX (st:Nat->Prop) [DecidablePred st] (s:aI):Nat->aI
 |0=>s
 |k+1=>if st k then mX st s k else j8 (mX st s k) k
theorem aA2 (st:Nat->Prop) [DecidablePred st] (s:aI):∀ k,(mX st s k).bC=s.bC
 |0=>rfl
 |k+1=>by
  rw[mX];split
  ·exact aA2 st s k
  ·exact aA2 st s k
theorem aOR (st:Nat->Prop) [DecidablePred st] (s:aI):∀ k,(mX st s k).aT.length=s.aT.length/\(mX st s k).bW.length=s.bW.length/\(mX st s k).cQ.length=s.cQ.length/\(mX st s k).cC.length=s.cC.length
 |0=>⟨rfl,rfl,rfl,rfl⟩
 |k+1=>by
  have h:=aOR st s k
  rw[mX];split
  ·exact h
  ·simp only[j8,aA6];exact h
theorem aBY (st:Nat->Prop) [DecidablePred st] (s:aI):∀ k i,k<=i->(mX st s k).aT[i]?=s.aT[i]?/\(mX st s k).bW[i]?=s.bW[i]?
 |0,i,_=>⟨rfl,rfl⟩
 |k+1,i,h=>by
  have h1:=aBY st s k i aA
  rw[mX];split
  ·exact h1
  ·simp only[j8]
   rw[a19 aA,a19 aA];exact h1
def aFT (st:Nat->Prop) (s:aI) (k:Nat):Prop:=¬st k/\s.aT[k]?=some 50
theorem aFU (st:Nat->Prop) [DecidablePred st] (s:aI) (hs:∀ x∈s.aT,0<=x/\x<=50):∀ k,(∀ i,i<k->¬aFT st s i)->∀ x∈(mX st s k).aT,0<=x/\x<=50
 |0,_=>hs
 |k+1,h=>by
  have h1:=aFU st s hs k λi hi=>h i aA
  rw[mX];split
  ·exact h1
  ·rename_i hk
   intro x hx
   simp only[j8]at hx
   rcases bE3 hx with hx|hx
   ·exact h1 x hx
   ·subst hx
    rw[aA7,jH,(aBY st s k k (eV _)).1]
    have hn:=h k aA
    cases e:s.aT[k]? with
    |none=>simp
    |some y =>
     have hy:=hs y (vJ e)
     have:¬y=50:=λq=>hn ⟨hk,by rw[e,q]⟩
     simp only[a6R];omega
def xF (s:aI) (pt:List Int):aI:={ s with bC:={ s.bC with c7:=pt } }
theorem aQE (st:Nat->Prop) [DecidablePred st] (s:aI) (pt:List Int):∀ k,mX st (xF s pt) k=xF (mX st s k) pt
 |0=>rfl
 |k+1=>by
  rw[mX,mX,aQE st s pt k];split <;> rfl
def j2 (s:aI) (pt:List Int) (k:Nat):Prop:=s.bW[k]?=some true/\a07 s.bC k pt
noncomputable instance (s:aI) (pt:List Int):DecidablePred (j2 s pt):=λ_=>Classical.propDecidable _
def aFV (s:aI) (pt:List Int):Prop:=(pt.length:Int)=s.bC.aQ/\rH pt
noncomputable instance (s:aI) (pt:List Int):Decidable (aFV s pt):=Classical.propDecidable _
def aAD (s:aI) (pt:List Int):Prop:=∃ k,k<s.aT.length/\aFT (j2 s pt) s k
noncomputable instance (s:aI) (pt:List Int):Decidable (aAD s pt):=Classical.propDecidable _
noncomputable def aDE (s:aI) (pt:List Int):aI:=xF (mX (j2 s pt) s s.aT.length) pt
noncomputable def aAU (s:aI) (pt:List Int):aI×Int:=if s.ok then(if aFV s pt then(if aAD s pt then(iH,3)else(aDE s pt,0))else(iH,2))else(iH,1)
theorem bGE {s:aI} {pt:List Int} (h:¬s.ok):aAU s pt=(iH,1):=if_neg h
theorem aYL {s:aI} {pt:List Int} (h0:s.ok) (h:¬aFV s pt):aAU s pt=(iH,2):=by rw[aAU,if_pos h0,if_neg h]
theorem aOS {s:aI} {pt:List Int} (h0:s.ok) (h:aFV s pt) (h2:aAD s pt):aAU s pt=(iH,3):=by rw[aAU,if_pos h0,if_pos h,if_pos h2]
theorem aU6 {s:aI} {pt:List Int} (h0:s.ok) (h:aFV s pt) (h2:¬aAD s pt):aAU s pt=(aDE s pt,0):=by rw[aAU,if_pos h0,if_pos h,if_neg h2]
theorem eO.bLA {h g g2:Heap} (e1:List OV) {e2:List OV} {y y':OV} (x:eO h (OV.cA (e1++y::e2)) g) (z:eO g y'.rows g2):∃ g3,g3.le g2/\eO h (OV.cA (e1++y'::e2)) g3:=by
 have w:=x.append z
 rw[OV.lG,OV.b7]at w
 have w2:=w.perm (b:=y.rows++(OV.cA e1++(y'.rows++OV.cA e2))) (by
  classical
  rw[List.perm_iff_count]
  intro q
  simp only[List.count_append]
  omega)
 have w3:=w2.drop
 refine⟨pA g2 (cF y.rows),aTG _ _,?_⟩
 rw[OV.lG,OV.b7];exact w3
theorem aU7 {st:Nat->Prop} [DecidablePred st] (s:aI) (k:Nat) (h:¬st k):j8 (mX st s k) k=mX st s (k+1):=by rw[mX,if_neg h]
theorem aU8 {st:Nat->Prop} [DecidablePred st] (s:aI) (k:Nat) (h:st k):mX st s k=mX st s (k+1):=by rw[mX,if_pos h]
theorem qN {st:Nat->Prop} {s:aI} {k:Nat} (h:∀ i,i<k->¬aFT st s i) (hk:¬aFT st s k):∀ i,i<k+1->¬aFT st s i:=λi hi=>by
 rcases aI2.1 hi with hi|rfl
 ·exact h i hi
 ·exact hk
def bT7 (s:aI) (pt:List Int) (r:aC) (e':List OV):Prop :=
 (¬aFV s pt/\r=I 2)∨(aFV s pt/\aAD s pt/\r=I 3)∨(aFV s pt/\¬aAD s pt/\r=I 0/\(aDE s pt).o e')
@[go_sem] def bEB:List Nat:=[0,1,4,5,11,18,35,43]
set_option maxHeartbeats 2000000 in
theorem bQH (s:aI) (pt:List Int) (h0 g:Heap) (nb:Nat) (e:List OV) (oe:s.o e) (hnb:g nb=none) (wn:eO h0 (OV.cA e) g) (hs:s.s<=1048576) (hp0:pt.length<=1048576) (hy:s.ok) :
  gV Tryz.prog 162 [.op nb 9 0 0,dA 1 (λn=>[I n]) pt] (bL g nb (.row 9 (OV.cells [e]))) (aN2 h0 nb 9 (bT7 s pt)):=by
 have hs':=s.gB
 have nA:=s.bC.gB
 simp only[gI]at hs' nA
 have bQI:=aI.aAZ hy
 have l1:=hy.2.1
 have hvw:=View.box (sz:=9) (aI.qG oe) hnb wn.gH
 have hpo:=aT2 s.bC pt
 refine zY 53 bEB cD bS Tryz.func162 ?_
 simp -dsimp -implicitDefEqProofs only[go_sem,↓reduceIte,Tryz.f162]
 refine aH.aF3 hpo (dS.cons (hvw.sub (Sub.eA rfl rfl rfl)) (dS.cons (View.same _ _) dS.nil)) rfl ?_
 simp -dsimp -implicitDefEqProofs only[go_sem,↓reduceIte,Tryz.f162]
 refine⟨λhp=>⟨_,Heap.le_refl _,_,g,.inl ⟨by simpa[aFV]using hp,rfl⟩,rfl,hnb,wn⟩,λhp=>?_⟩
 have hp':aFV s pt:=by simpa[aFV]using hp
 refine cY bEB cD bS (λx:Nat×List OV×Heap=>[(0,.op nb 9 0 0),(1,dA 1 (λn=>[I n]) pt),(5,I x.1)]) (λx=>bL x.2.2 nb (.row 9 (OV.cells [x.2.1]))) (λx=>x.1<=s.aT.length/\(∀ i,i<x.1->¬aFT (j2 s pt) s i)/\(mX (j2 s pt) s x.1).o x.2.1/\x.2.2 nb=none/\eO h0 (OV.cA x.2.1) x.2.2) (λx=>s.aT.length-x.1) (0,e,g) ⟨by simp[eE,dJ],Heap.le_refl _,iF _,λi q=>absurd q (a2J i),oe,hnb,wn⟩ ?_
 clear oe hnb wn hvw
 rintro⟨k,e,g⟩ ⟨hk,hns,oe,hnb,wn⟩
 simp only at hk hns oe hnb wn ⊢
 have hJ:=aA2 (j2 s pt) s k
 have hL:=aOR (j2 s pt) s k
 have hT:=aBY (j2 s pt) s k k (eV _)
 have hS:=aFU (j2 s pt) s bQI k hns
 have hN:=aU7 (st:=j2 s pt) s k
 have hY:=aU8 (st:=j2 s pt) s k
 generalize hm:mX (j2 s pt) s k=m at *
 have xJ:=oe
 obtain⟨fX,gR,hP,w7,zI,w8,w9,rfl,fL,fV,fJ,fH,fP,fM,fN⟩:=xJ
 rcases cX k s.aT.length with hlt|hge
 ·have ks:k<m.aT.length:=by omega
  have kn:k<m.bW.length:=by omega
  rcases fH.aC8 with⟨rfl,h5⟩|⟨n5,rfl⟩
  ·rw[h5]at ks;simp at ks
  rcases fP.aC8 with⟨rfl,h6⟩|⟨n6,rfl⟩
  ·rw[h6]at kn;simp at kn
  have g5:=wn.aL8 [fX,.v (.int .i64 m.bC.bO),.v (.int .i64 m.bC.aQ),gR,hP] (c:=I)
  have g6:=wn.aL8 ([fX,.v (.int .i64 m.bC.bO),.v (.int .i64 m.bC.aQ),gR,hP]++[OV.sl n5 1 (m.aT.map λx=>[.v (I x)])]) (c:=.bool)
  obtain⟨aRA,rA,q9,aLJ⟩:=cB (show ¬n5=nb from fE g5 hnb)
  obtain⟨aIJ,lB,lA,wM⟩:=cB (show ¬n6=nb from fE g6 hnb)
  have hv5:=OV.kY I n5 1 m.aT
  have hv6:=OV.kY aC.bool n6 1 m.bW
  have gs:m.aT[k]?=some m.aT[k]:=cJ ks
  have gk:m.bW[k]?=some m.bW[k]:=cJ kn
  have hvw:=View.box (sz:=9) (aI.qG oe) hnb wn.gH
  have hkt:k<s.bC.aV.length:=by omega
  have hstl:fQ Tryz.prog 197 [.ip 5 [m.bC.c] 0 0,I k,dA 1 (λn=>[I n]) pt] (.bool (decide (a07 s.bC k pt))):=by rw[hJ];exact bK8 hy.1 hkt pt hp'.1
  have hR:([[.v fX.val,.v (I m.bC.bO),.v (I m.bC.aQ),.v gR.val,.v hP.val,.v (.os n5 1 0 m.aT.length),.v (.os n6 1 0 m.bW.length),.v w8.val,.v w9.val]]:List (List Cell))=OV.cells [[fX,.v (I m.bC.bO),.v (I m.bC.aQ),gR,hP,OV.sl n5 1 (m.aT.map λx=>[.v (I x)]),OV.sl n6 1 (m.bW.map λx=>[.v (.bool x)]),w8,w9]]:=by simp only[cP,aS,aY,OV.aR,hv5,hv6]
  have hsk:m.aT[k]?=some s.aT[k]:=hT.1.trans (cJ hlt)
  have hs5:m.aT[k]=s.aT[k]:=eN (gs.symm.trans hsk)
  have hb5:=hS _ (dX ks)
  have hkk:s.bW[k]?=some m.bW[k]:=hT.2.symm.trans gk
  have nst:50<=m.aT[k]->¬j2 s pt k->aAD s pt:=λh1 h2=>⟨k,hlt,h2,by rw[←hT.1,gs];congr 1;omega⟩
  have nns:¬50<=m.aT[k]->¬aFT (j2 s pt) s k:=λh1 q=>by
   have:=q.2
   rw[←hT.1,gs]at this
   have:=eN this
   omega
  have bEC:50<=m.aT[k]->¬j2 s pt k->∃ g_1:Heap,g_1.le (bL g nb (.row 9 (OV.cells [[fX,.v (I m.bC.bO),.v (I m.bC.aQ),gR,hP,OV.sl n5 1 (m.aT.map λx=>[.v (I x)]),OV.sl n6 1 (m.bW.map λx=>[.v (.bool x)]),w8,w9]])))/\aN2 h0 nb 9 (bT7 s pt) (I 3) g_1:=λh1 h2=>⟨_,Heap.le_refl _,_,g,.inr (.inl ⟨hp',nst h1 h2,rfl⟩),rfl,hnb,wn⟩
  have hfg:=λ(h1:¬j2 s pt k)=>aX1 m k h0 g nb _ oe hnb wn (by rw[hJ];omega) (by rw[hJ];exact⟨by omega,by omega⟩) hS
  simp -dsimp -implicitDefEqProofs only[go_sem,↓reduceIte,Tryz.f162,OV.aM,OV.aD,OV.aR,aF,aE,fL.flat,fL.one,fV.flat,fV.one,fJ.flat,fJ.one,fH.flat,fH.one,fP.flat,fP.one,fM.flat,fM.one,fN.flat,fN.one,q9,rA,lA,lB,cP,aS,aY,gs,gk,hv5,hv6,g5,g6,Int.ofNat_lt,hlt]
  rw[hR]
  refine λ_=>⟨λ_=>⟨kn,λhk1=>?_,λhk0=>?_⟩,λq=>?_⟩
  ·refine aH.aF3 hstl (dS.cons (hvw.sub (Sub.eA rfl rfl rfl)) (dS.cons (View.same _ _) (dS.cons (View.same _ _) dS.nil))) rfl ?_
   simp -dsimp -implicitDefEqProofs only[go_sem,↓reduceIte,Tryz.f162,OV.aM,OV.aD,OV.aR,aF,aE,fL.flat,fL.one,fV.flat,fV.one,fJ.flat,fJ.one,fH.flat,fH.one,fP.flat,fP.one,fM.flat,fM.one,fN.flat,fN.one,q9,rA,lA,lB,cP,aS,aY,gs,gk,hv5,hv6,g5,g6,Int.ofNat_lt,hlt]
   rw[hR]
   refine⟨λhu=>?_,λhu=>?_⟩
   ·have hst:j2 s pt k:=⟨hkk.trans (by rw[hk1]),hu⟩
    exact⟨(k+1,_,g),IntWalk.i64_in _ aA,Heap.le_refl _,⟨hlt,qN hns λq=>q.1 hst,hY hst▸oe,hnb,wn⟩,by simp only;omega⟩
   ·have aOT:¬j2 s pt k:=λq=>hu q.2
    refine⟨ks,λh50=>bEC h50 aOT,λh50=>?_⟩
    refine aH.jP (hfg aOT) ?_
    clear hfg bEC oe wn hvw hR fL fV fJ fM fN hv5 hv6 g5 g6
    rintro r h' ⟨e2,g2,oe2,rfl,aMS,p5⟩
    simp -dsimp -implicitDefEqProofs only[go_sem,↓reduceIte,Tryz.f162,OV.aM,OV.aD,OV.aR,aF,aE]
    exact⟨(k+1,e2,g2),IntWalk.i64_in _ aA,Heap.le_refl _,⟨hlt,qN hns (nns h50),hN aOT▸oe2,aMS,p5⟩,by simp only;omega⟩
  ·have aOT:¬j2 s pt k:=λq=>by have:=q.1;rw[hkk]at this;have:=eN this;simp_all
   refine⟨ks,λh50=>bEC h50 aOT,λh50=>?_⟩
   refine aH.jP (hfg aOT) ?_
   clear hfg bEC oe wn hvw hR fL fV fJ fM fN hv5 hv6 g5 g6
   rintro r h' ⟨e2,g2,oe2,rfl,aMS,p5⟩
   simp -dsimp -implicitDefEqProofs only[go_sem,↓reduceIte,Tryz.f162,OV.aM,OV.aD,OV.aR,aF,aE]
   exact⟨(k+1,e2,g2),IntWalk.i64_in _ aA,Heap.le_refl _,⟨hlt,qN hns (nns h50),hN aOT▸oe2,aMS,p5⟩,by simp only;omega⟩
  ·omega
 ·have hk':k=s.aT.length:=by omega
  have hstuck:¬aAD s pt:=λ⟨i,h1,h2⟩=>hns i aA h2
  have hmv:aDE s pt=xF m pt:=by rw[aDE,←hk',hm]
  have hml:m.aT.length=k:=by omega
  rcases fH.aC8 with⟨rfl,h5⟩|⟨n5,rfl⟩
  ·simp -dsimp -implicitDefEqProofs only[go_sem,↓reduceIte,Tryz.f162,OV.aM,OV.aD,OV.aR,aF,aE,fL.flat,fL.one,fV.flat,fV.one,fJ.flat,fJ.one,fH.flat,fH.one,fP.flat,fP.one,fM.flat,fM.one,fN.flat,fN.one,cP,aS,aY,OV.nV,a2J,false_imp_iff,true_and]
   refine aH.wn1 (l6 pt hp0) hnb ?_
   rintro r_ l_ g3 ⟨yn,oyn,rfl,rfl⟩ wp bKH
   simp -dsimp -implicitDefEqProofs only[go_sem,↓reduceIte,Tryz.f162,OV.aM,OV.aD,OV.aR,aF,aE,fL.flat,fL.one,fV.flat,fV.one,fJ.flat,fJ.one,fH.flat,fH.one,fP.flat,fP.one,fM.flat,fM.one,fN.flat,fN.one,cP,aS,aY,oyn.flat,oyn.one]
   obtain⟨g4,a4X,wn4⟩:=wn.bLA [fX,.v (I m.bC.bO),.v (I m.bC.aQ)] (y':=yn) wp
   refine⟨_,Heap.b5 a4X,[fX,.v (I m.bC.bO),.v (I m.bC.aQ),yn,hP,.nil 1,zI,w8,w9],g4,.inr (.inr ⟨hp',hstuck,rfl,?_⟩),?_,Heap.le_none a4X bKH,wn4⟩
   ·rw[hmv]
    exact⟨fX,yn,hP,_,zI,w8,w9,rfl,fL,oyn,fJ,fH,fP,fM,fN⟩
   ·simp only[cP,aS,aY,OV.aR,OV.nV]
  ·have hv5:=OV.kY I n5 1 m.aT
   simp -dsimp -implicitDefEqProofs only[go_sem,↓reduceIte,Tryz.f162,OV.aM,OV.aD,OV.aR,aF,aE,fL.flat,fL.one,fV.flat,fV.one,fJ.flat,fJ.one,fH.flat,fH.one,fP.flat,fP.one,fM.flat,fM.one,fN.flat,fN.one,cP,aS,aY,hv5,hml,cO,false_imp_iff,true_and]
   intro _
   refine aH.wn1 (l6 pt hp0) hnb ?_
   rintro r_ l_ g3 ⟨yn,oyn,rfl,rfl⟩ wp bKH
   simp -dsimp -implicitDefEqProofs only[go_sem,↓reduceIte,Tryz.f162,OV.aM,OV.aD,OV.aR,aF,aE,fL.flat,fL.one,fV.flat,fV.one,fJ.flat,fJ.one,fH.flat,fH.one,fP.flat,fP.one,fM.flat,fM.one,fN.flat,fN.one,cP,aS,aY,oyn.flat,oyn.one]
   obtain⟨g4,a4X,wn4⟩:=wn.bLA [fX,.v (I m.bC.bO),.v (I m.bC.aQ)] (y':=yn) wp
   refine⟨_,Heap.b5 a4X,[fX,.v (I m.bC.bO),.v (I m.bC.aQ),yn,hP,OV.sl n5 1 (m.aT.map λx=>[.v (I x)]),zI,w8,w9],g4,.inr (.inr ⟨hp',hstuck,rfl,?_⟩),?_,Heap.le_none a4X bKH,wn4⟩
   ·rw[hmv]
    exact⟨fX,yn,hP,_,zI,w8,w9,rfl,fL,oyn,fJ,fH,fP,fM,fN⟩
   ·simp only[cP,aS,aY,OV.aR,OV.nV,hv5,hml]
end Go.Hl

/-
  Contracts of functions and laws of the layer over the walk.
-/
import Derived.Test.YtchbdakgjlnbgaaGreatDoorVvE
import Derived.Test.YtchbdakgjlnbgaaGreatDoorHlD
import Derived.Test.YtchbdakgjlnbgaaGreatDoorVvD
namespace Go.Hl
set_option maxRecDepth 100000
open Go.Proofs
set_option linter.unusedVariables false
set_option linter.unusedSimpArgs false
def eL (p:aL) (inp:Int) (S:eP) (om og ov:Option Nat) (st:Nat) (c:Int):bQ :=
 .row 8 [[.v (dA 3 aX.c p.aJ),.v (I inp),.v (j3 4 S.code.length om),.v (j3 2 S.guards.length og),.v .aU,.v (j3 1 S.iM.length ov),.v (I st),.v (I c)]]
def aUY (h:Heap) (sz:Nat) (rows:List (List Cell)):Option Nat->Prop
 |none=>rows=[]
 |some m=>rows≠[]/\h m=some (.row sz rows)
def rowsOf {α:Type} (c:α->List aC) (l:List α):List (List Cell):=(l.map c).map (List.map .v)
theorem jW {α:Type} (c:α->List aC) (l:List α):(rowsOf c l).length=l.length:=by simp[rowsOf]
theorem aGT {α:Type} (c:α->List aC) (l:List α) (x:α):rowsOf c (l++[x])=rowsOf c l++[(c x).map .v]:=by simp[rowsOf]
theorem jZ {α:Type} {c:α->List aC} {l:List α}:rowsOf c l=[]↔l=[]:=by simp[rowsOf]
structure aB6 (bx:eP->Option Nat->Option Nat->Option Nat->bQ) (h0:Heap) (nb:Nat) (S:eP) (om og ov:Option Nat) (h:Heap):Prop where
 box:h nb=some (bx S om og ov)
 odd:∀ S om og ov,∃ sz cs,bx S om og ov=.row sz cs/\¬sz=1/\¬sz=2/\¬sz=4
 code:aUY h 4 (rowsOf cK.c S.code) om
 gds:aUY h 2 (rowsOf fS.c S.guards) og
 iM:aUY h 1 (rowsOf (λn=>[I n]) S.iM) ov
 fresh:∀ n,n=nb∨some n=om∨some n=og∨some n=ov->h0 n=none
 upto:∀ n,¬n=nb->¬some n=om->¬some n=og->¬some n=ov->h n=h0 n
def eM (bx:eP->Option Nat->Option Nat->Option Nat->bQ) (h0:Heap) (nb:Nat) (S:eP) (h:Heap):Prop:=∃ om og ov,aB6 bx h0 nb S om og ov h
abbrev bTP (h0:Heap) (nb:Nat) (p:aL) (inp:Int) (S:eP) (st:Nat) (c:Int) (om og ov:Option Nat) (h:Heap):Prop:=aB6 (λS om og ov=>eL p inp S om og ov st c) h0 nb S om og ov h
abbrev k9 (h0:Heap) (nb:Nat) (p:aL) (inp:Int) (S:eP) (st:Nat) (c:Int) (h:Heap):Prop:=eM (λS om og ov=>eL p inp S om og ov st c) h0 nb S h
theorem aUZ (p:aL) (inp:Int) (st:Nat) (c:Int):∀ S om og ov,∃ sz cs,eL p inp S om og ov st c=.row sz cs/\¬sz=1/\¬sz=2/\¬sz=4:=λS om og ov=>⟨8,_,rfl,by decide,by decide,by decide⟩
theorem aB6.kinds {h0 h:Heap} {nb:Nat} {bx:eP->Option Nat->Option Nat->Option Nat->bQ} {S:eP} {om og ov:Option Nat} (H:aB6 bx h0 nb S om og ov h) (n:Nat) :
  (n=nb->h n=some (bx S om og ov))/\(some n=om->h n=some (.row 4 (rowsOf cK.c S.code)))/\(some n=og->h n=some (.row 2 (rowsOf fS.c S.guards)))/\(some n=ov->h n=some (.row 1 (rowsOf (λn=>[I n]) S.iM))) :=
 ⟨λe=>e▸H.box,λe=>by have:=H.code;rw[←e]at this;exact this.2,λe=>by have:=H.gds;rw[←e]at this;exact this.2,λe=>by have:=H.iM;rw[←e]at this;exact this.2⟩
theorem aB6.apart {h0 h:Heap} {nb:Nat} {bx:eP->Option Nat->Option Nat->Option Nat->bQ} {S:eP} {om og ov:Option Nat} (H:aB6 bx h0 nb S om og ov h) (n:Nat) :
  (n=nb->¬some n=om/\¬some n=og/\¬some n=ov)/\(some n=om->¬some n=og/\¬some n=ov)/\(some n=og->¬some n=ov)/\(h n=none->¬n=nb/\¬some n=om/\¬some n=og/\¬some n=ov):=by
 obtain⟨k1,k2,k3,k4⟩:=H.kinds n
 obtain⟨sz,cs,hB,o1,o2,o4⟩:=H.odd S om og ov
 rw[hB]at k1
 refine⟨λe=>⟨λq=>?_,λq=>?_,λq=>?_⟩,λe=>⟨λq=>?_,λq=>?_⟩,λe q=>?_,λe=>⟨λq=>?_,λq=>?_,λq=>?_,λq=>?_⟩⟩
 ·have:=(k1 e).symm.trans (k2 q);simp at this;exact o4 this.1
 ·have:=(k1 e).symm.trans (k3 q);simp at this;exact o2 this.1
 ·have:=(k1 e).symm.trans (k4 q);simp at this;exact o1 this.1
 ·have:=(k2 e).symm.trans (k3 q);simp at this
 ·have:=(k2 e).symm.trans (k4 q);simp at this
 ·have:=(k3 e).symm.trans (k4 q);simp at this
 ·have:=(k1 q);rw[e]at this;cases this
 ·have:=(k2 q);rw[e]at this;cases this
 ·have:=(k3 q);rw[e]at this;cases this
 ·have:=(k4 q);rw[e]at this;cases this
theorem aB6.put {h0 h F:Heap} {nb:Nat} {bx:eP->Option Nat->Option Nat->Option Nat->bQ} {S:eP} {om og ov:Option Nat} (H:aB6 bx h0 nb S om og ov h) (x:cK) (v:Int) {b b2:Nat} (hb:h b=none) (mL:h b2=none) (hne:¬b2=b)
  (f1:F nb=some (bx (S.put x v) (some b) og (some b2))) (f2:F b=some (.row 4 (rowsOf cK.c (S.code++[x])))) (f3:F b2=some (.row 1 (rowsOf (λn=>[I n]) (S.iM++[v]))))
  (f4:∀ n,¬n=nb->¬n=b->¬n=b2->¬some n=om->¬some n=ov->F n=h n):∃ g:Heap,g.le F/\eM bx h0 nb (S.put x v) g:=by
 have a1:=(H.apart nb).1 rfl
 have a2:=(H.apart b).2.2.2 hb
 have a3:=(H.apart b2).2.2.2 mL
 have g1:∀ n,some n=om∨some n=ov->h0 n=none:=λn hn=>H.fresh n (by rcases hn with hn|hn;exact .inr (.inl hn);exact .inr (.inr (.inr hn)))
 have g2:h0 b=none:=(H.upto b a2.1 a2.2.1 a2.2.2.1 a2.2.2.2).symm.trans hb
 have g3:h0 b2=none:=(H.upto b2 a3.1 a3.2.1 a3.2.2.1 a3.2.2.2).symm.trans mL
 have get:∀ n,¬some n=om->¬some n=ov->(λn=>if some n=om∨some n=ov then none else F n) n=F n:=λn h1 h2=>if_neg (by rintro(q|q);exact h1 q;exact h2 q)
 refine⟨λn=>if some n=om∨some n=ov then none else F n,λn=>?_,some b,og,some b2,⟨?_,H.odd,⟨by simp[rowsOf,eP.put],?_⟩,?_,⟨by simp[rowsOf,eP.put],?_⟩,λn hn=>?_,λn h1 h2 h3 h4=>?_⟩⟩
 ·by_cases e:some n=om∨some n=ov
  ·exact .inl (if_pos e)
  ·exact .inr (if_neg e)
 ·exact(get nb a1.1 a1.2.2).trans f1
 ·exact(get b a2.2.1 a2.2.2.2).trans f2
 ·have hg:=H.gds
  cases og with
  |none=>exact hg
  |some k =>
   have ak:=(H.apart k)
   have hk:=hg.2
   refine⟨hg.1,(get k (λq=>ak.2.1 q |>.1 rfl) (λq=>ak.2.2.1 rfl q)).trans ?_⟩
   rw[f4 k (λq=>(ak.1 q).2.1 rfl) (λq=>by rw[q,hb]at hk;cases hk) (λq=>by rw[q,mL]at hk;cases hk) (λq=>ak.2.1 q |>.1 rfl) (λq=>ak.2.2.1 rfl q)]
   exact hk
 ·exact(get b2 a3.2.1 a3.2.2.2).trans f3
 ·rcases hn with rfl|hn|hn|hn
  ·exact H.fresh _ (.inl rfl)
  ·obtain rfl:=eN hn;exact g2
  ·exact H.fresh n (.inr (.inr (.inl hn)))
  ·obtain rfl:=eN hn;exact g3
 ·have h2':¬n=b:=λq=>h2 zT
  have h4':¬n=b2:=λq=>h4 zT
  by_cases e:some n=om∨some n=ov
  ·exact(if_pos e).trans (g1 n e).symm
  ·have e1:¬some n=om:=λq=>e (.inl q)
   have e2:¬some n=ov:=λq=>e (.inr q)
   exact((get n e1 e2).trans (f4 n h1 h2' h4' e1 e2)).trans (H.upto n h1 e1 h3 e2)
@[go_sem] def bTQ:List Nat:=[4,15,22]
@[go_sem] def bTR:Marks:=λid=>match id with|1=>([6,9,13,16,20,23],(.op 0 (.op 1 (.op 2 (.op 3 (.op 4 (.op 5 (.op 7 (.op 8 (.op 10 (.op 11 (.op 12 (.op 14 (.op 15 (.op 6 (.op 13 (.op 9 (.op 16 (.op 17 (.op 18 (.op 19 (.op 20 (.op 21 (.op 22 (.op 23 .nil)))))))))))))))))))))))),[(13,9)])|_=>([],.nil,[])
theorem aU0 {h0 h:Heap} {nb:Nat} {p:aL} {inp:Int} {S:eP} {st:Nat} {c:Int} (H:k9 h0 nb p inp S st c h) (x:cK) (v:Int) (hl:S.code.length=S.iM.length) (hcap:S.iM.length<=1048576) :
  gV Tryz.prog 241 [.op nb 8 0 0,.agg x.c,I v] h λr h'=>r=I S.iM.length/\k9 h0 nb p inp (S.put x v) st c h':=by
 obtain⟨om,og,ov,H⟩:=H
 have hb:=H.box
 have hc:=H.code
 have hv:=H.iM
 unfold eL at hb
 rw[cK.aO]
 cases om with
 |none =>
  have r8:S.code=[]:=jZ.1 hc
  cases ov with
  |some v =>
   have hv0:S.iM=[]:=aR2 (by rw[←hl,r8];rfl)
   exact absurd (by rw[hv0];rfl) hv.1
  |none =>
   have hv0:S.iM=[]:=jZ.1 hv
   refine mK 35 bCP bTQ bTR Tryz.func241 ?_
   simp -dsimp -implicitDefEqProofs only[go_sem,↓reduceIte,Tryz.f241,hb,bI]
   refine⟨by decide,by decide,by decide,by decide,by decide,λm hm=>?_⟩
   obtain⟨nJ,fD,fC,kZ⟩:=cB (show ¬m=nb from λe=>by rw[e,hb]at hm;cases hm)
   refine⟨by rw[aE _ _ _ _ kZ,hb];rfl,by decide,λw ⟨hwm,hw⟩=>?_⟩
   obtain⟨aOI,p1,p2,a0W⟩:=cB (show ¬w=nb from λe=>by rw[e,hb]at hw;cases hw)
   obtain⟨a44,aCN,aCO,bBG⟩:=cB (show ¬w=m from hwm)
   try simp -dsimp -implicitDefEqProofs only[go_sem,↓reduceIte,Tryz.f241,hb,fD,aCO,fC,p2,aCN,p1,aE]
   obtain⟨g,hg,hR⟩:=H.put x v hm hw a44 (F:=bL (bL (bL h m (.row 4 [x.c.map .v])) w (.row 1 [[.v (I v)]])) nb (eL p inp (S.put x v) (some m) og (some w) st c)) (bB _ _ _)
    bRP (by rw[aE _ _ _ _ aOI,bB,hv0];rfl) (λn h1 h2 h3 _ _=>by rw[aE _ _ _ _ h1,aE _ _ _ _ h3,aE _ _ _ _ h2])
   refine⟨_,g,eZ ?_,by rw[hv0];rfl,hR⟩
   rw[aF]
   unfold eL at hg
   simp only[eP.put,r8,hv0,aZ,cK.aO]at hg
   exact hg
 |some m =>
  cases ov with
  |none =>
   have hv0:S.iM=[]:=jZ.1 hv
   have r8:S.code=[]:=aR2 (by rw[hl,hv0];rfl)
   exact absurd (by rw[r8];rfl) hc.1
  |some w =>
   have hm:=hc.2
   have hw:=hv.2
   obtain⟨nJ,fD,fC,kZ⟩:=cB (show ¬m=nb from λe=>by rw[e,hb]at hm;cases hm)
   obtain⟨aOI,p1,p2,a0W⟩:=cB (show ¬w=nb from λe=>by rw[e,hb]at hw;cases hw)
   obtain⟨a44,aCN,aCO,bBG⟩:=cB (show ¬w=m from λe=>by rw[e,hm]at hw;cases hw)
   refine mK 35 bCP bTQ bTR Tryz.func241 ?_
   simp -dsimp -implicitDefEqProofs only[go_sem,↓reduceIte,Tryz.f241,hb,aZ,hm,hw,fD,aCO,fC,p2,aCN,p1,aE]
   refine⟨by decide,by decide,by decide,by decide,by decide,by rw[jW];exact eV _,by omega,by omega,λb oF=>?_⟩
   obtain⟨rJ,lE,lD,qZ⟩:=cB (show ¬b=nb from λe=>by rw[e,hb]at oF;cases oF)
   obtain⟨aQB,aAG,aAH,aQC⟩:=cB (show ¬b=m from λe=>by rw[e,hm]at oF;cases oF)
   obtain⟨bRG,aU1,aU2,b33⟩:=cB (show ¬b=w from λe=>by rw[e,hw]at oF;cases oF)
   refine⟨by rw[aE _ _ _ _ qZ,aE _ _ _ _ kZ,hb];rfl,by decide,?_⟩
   try simp -dsimp -implicitDefEqProofs only[go_sem,↓reduceIte,Tryz.f241,hb,hw,fD,aCO,aAH,fC,p2,lD,aCN,p1,aU2,aAG,lE,aU1,aE]
   refine⟨by rw[jW];exact eV _,by omega,by omega,λb2 ⟨bW9,bXA,mL⟩=>?_⟩
   obtain⟨bBJ,aRH,aRI,bPT⟩:=cB (show ¬b2=nb from λe=>by rw[e,hb]at mL;cases mL)
   obtain⟨bXB,a0X,a0Y,bXC⟩:=cB (show ¬b2=m from bXA)
   obtain⟨bXD,a0Z,a00,bXE⟩:=cB (show ¬b2=w from λe=>by rw[e,hw]at mL;cases mL)
   obtain⟨a92,a01,a02,bHU⟩:=cB (show ¬b2=b from bW9)
   simp -dsimp -implicitDefEqProofs only[go_sem,↓reduceIte,Tryz.f241,hb,hw,fD,aCO,aAH,a0Y,fC,p2,lD,aRI,aCN,p1,aU2,a00,aAG,lE,aU1,a02,a0X,aRH,a0Z,a01,aE]
   rw[gX aPC,gX aPC]
   obtain⟨g,hg,hR⟩:=H.put x v oF mL a92 (F:=bL (bL (bL (bL (bL h m .gone) b (.row 4 (rowsOf cK.c S.code++[x.c.map .v]))) w .gone) b2 (.row 1 (rowsOf (λn=>[I n]) S.iM++[[.v (I v)]]))) nb (eL p inp (S.put x v) (some b) og (some b2) st c)) (bB _ _ _)
    bRF bRY
    (λn h1 h2 h3 h4 h5=>by rw[aE _ _ _ _ h1,aE _ _ _ _ h3,aE _ _ _ _ (λq=>h5 zT),aE _ _ _ _ h2,aE _ _ _ _ (λq=>h4 zT)])
   refine λ_=>⟨_,g,eZ ?_,?_,hR⟩
   ·rw[aF]
    unfold eL at hg
    simp only[eP.put,aZ,cK.aO,tN,aB9]at hg
    exact hg
   ·rw[IntWalk.i64_in _ aA]
    congr 1
    omega
theorem aB6.set {h0 h:Heap} {nb:Nat} {p:aL} {inp:Int} {S:eP} {st:Nat} {c:Int} {om og ov:Option Nat} (H:bTP h0 nb p inp S st c om og ov h) (st':Nat) (c':Int):bTP h0 nb p inp S st' c' om og ov (bL h nb (eL p inp S om og ov st' c')):=by
 have a1:=(H.apart nb).1 rfl
 have hr:∀ (o:Option Nat) (sz:Nat) (rows:List (List Cell)),¬some nb=o->aUY h sz rows o->aUY (bL h nb (eL p inp S om og ov st' c')) sz rows o:=λo sz rows hn ho=>by
  cases o with
  |none=>exact ho
  |some m=>exact⟨ho.1,(aE _ _ _ _ λq=>hn zT).trans ho.2⟩
 exact⟨bB _ _ _,aUZ _ _ _ _,hr _ _ _ a1.1 H.code,hr _ _ _ a1.2.1 H.gds,hr _ _ _ a1.2.2 H.iM,H.fresh,λn h1 h2 h3 h4=>(aE _ _ _ _ h1).trans (H.upto n h1 h2 h3 h4)⟩
theorem eM.over {h0 h:Heap} {nb:Nat} {bx:eP->Option Nat->Option Nat->Option Nat->bQ} {S:eP} (H:eM bx h0 nb S h) {m:Nat} {o:bQ} (hm:h m=none):eM bx (bL h0 m o) nb S (bL h m o):=by
 obtain⟨om,og,ov,H⟩:=H
 have a:=(H.apart m).2.2.2 hm
 have hr:∀ (q:Option Nat) (sz:Nat) (rows:List (List Cell)),¬some m=q->aUY h sz rows q->aUY (bL h m o) sz rows q:=λq sz rows hn ho=>by
  cases q with
  |none=>exact ho
  |some k=>exact⟨ho.1,(aE _ _ _ _ λe=>hn iX).trans ho.2⟩
 refine⟨om,og,ov,(aE _ _ _ _ λe=>a.1 e.symm).trans H.box,H.odd,hr _ _ _ a.2.1 H.code,hr _ _ _ a.2.2.1 H.gds,hr _ _ _ a.2.2.2 H.iM,λn hn=>?_,λn h1 h2 h3 h4=>?_⟩
 ·have hnm:¬n=m:=λe=>by
   subst e
   rcases hn with hn|hn|hn|hn
   ·exact a.1 hn
   ·exact a.2.1 hn
   ·exact a.2.2.1 hn
   ·exact a.2.2.2 hn
  exact(aE _ _ _ _ hnm).trans (H.fresh n hn)
 ·by_cases e:n=m
  ·rw[e,bB,bB]
  ·rw[aE _ _ _ _ e,aE _ _ _ _ e];exact H.upto n h1 h2 h3 h4
theorem eM.base {h0 h:Heap} {nb:Nat} {bx:eP->Option Nat->Option Nat->Option Nat->bQ} {S:eP} {m:Nat} {o:bQ} (H:eM bx (bL h0 m o) nb S h) (hm:h0 m=none):∃ g,h=bL g m o/\g m=none/\eM bx h0 nb S g:=by
 obtain⟨om,og,ov,H⟩:=H
 have hne:∀ n,(n=nb∨some n=om∨some n=og∨some n=ov)->¬n=m:=λn hn e=>by
  have:=H.fresh n hn
  rw[e,bB]at this;cases this
 have hmo:h m=some o:=(H.upto m (λe=>hne m (.inl e) rfl) (λe=>hne m (.inr (.inl e)) rfl) (λe=>hne m (.inr (.inr (.inl e))) rfl) (λe=>hne m (.inr (.inr (.inr e))) rfl)).trans (bB _ _ _)
 have get:∀ n,¬n=m->(λn=>if n=m then none else h n) n=h n:=λn hn=>if_neg hn
 have hr:∀ (q:Option Nat) (sz:Nat) (rows:List (List Cell)),(∀ n,some n=q->¬n=m)->aUY h sz rows q->aUY (λn=>if n=m then none else h n) sz rows q:=λq sz rows hn ho=>by
  cases q with
  |none=>exact ho
  |some k=>exact⟨ho.1,(get k (hn k rfl)).trans ho.2⟩
 refine⟨λn=>if n=m then none else h n,?_,if_pos rfl,om,og,ov,(get nb (hne nb (.inl rfl))).trans H.box,H.odd,hr _ _ _ (λn e=>hne n (.inr (.inl e))) H.code,hr _ _ _ (λn e=>hne n (.inr (.inr (.inl e)))) H.gds,hr _ _ _ (λn e=>hne n (.inr (.inr (.inr e)))) H.iM,λn hn=>?_,λn h1 h2 h3 h4=>?_⟩
 ·funext n
  by_cases e:n=m
  ·rw[e,bB,hmo]
  ·rw[aE _ _ _ _ e];exact(get n e).symm
 ·have:=H.fresh n hn
  rwa [aE _ _ _ _ (hne n hn)]at this
 ·by_cases e:n=m
  ·subst e;exact(if_pos rfl).trans hm.symm
  ·have:=H.upto n h1 h2 h3 h4
   rw[aE _ _ _ _ e]at this
   exact(get n e).trans this
theorem eM.none {h0 h:Heap} {nb:Nat} {bx:eP->Option Nat->Option Nat->Option Nat->bQ} {S:eP} (H:eM bx h0 nb S h) {m:Nat} (hm:h m=none):h0 m=none:=by
 obtain⟨om,og,ov,H⟩:=H
 have a:=(H.apart m).2.2.2 hm
 exact(H.upto m a.1 a.2.1 a.2.2.1 a.2.2.2).symm.trans hm
theorem aB6.guard {h0 h F:Heap} {nb:Nat} {bx:eP->Option Nat->Option Nat->Option Nat->bQ} {S:eP} {om og ov:Option Nat} (H:aB6 bx h0 nb S om og ov h) (x:fS) {b:Nat} (hb:h b=none)
  (f1:F nb=some (bx (S.guard x) om (some b) ov)) (f2:F b=some (.row 2 (rowsOf fS.c (S.guards++[x]))))
  (f4:∀ n,¬n=nb->¬n=b->¬some n=og->F n=h n):∃ g:Heap,g.le F/\aB6 bx h0 nb (S.guard x) om (some b) ov g:=by
 have a1:=(H.apart nb).1 rfl
 have a2:=(H.apart b).2.2.2 hb
 have g2:h0 b=none:=(H.upto b a2.1 a2.2.1 a2.2.2.1 a2.2.2.2).symm.trans hb
 have get:∀ n,¬some n=og->(λn=>if some n=og then none else F n) n=F n:=λn h1=>if_neg h1
 have hr:∀ (q:Option Nat) (sz:Nat) (rows:List (List Cell)),(∀ n,some n=q->¬n=nb/\¬n=b/\¬some n=og)->aUY h sz rows q->aUY (λn=>if some n=og then none else F n) sz rows q:=λq sz rows hn ho=>by
  cases q with
  |none=>exact ho
  |some k =>
   obtain⟨e1,e2,e3⟩:=hn k rfl
   exact⟨ho.1,((get k e3).trans (f4 k e1 e2 e3)).trans ho.2⟩
 refine⟨λn=>if some n=og then none else F n,λn=>?_,⟨?_,H.odd,hr _ _ _ (λn e=>⟨λq=>((H.apart n).1 q).1 e,λq=>a2.2.1 (by rw[←q];exact e),((H.apart n).2.1 e).1⟩) H.code,⟨by simp[rowsOf,eP.guard],?_⟩,hr _ _ _ (λn e=>⟨λq=>((H.apart n).1 q).2.2 e,λq=>a2.2.2.2 (by rw[←q];exact e),λq=>(H.apart n).2.2.1 q e⟩) H.iM,λn hn=>?_,λn h1 h2 h3 h4=>?_⟩⟩
 ·by_cases e:some n=og
  ·exact .inl (if_pos e)
  ·exact .inr (if_neg e)
 ·exact(get nb a1.2.1).trans f1
 ·exact(get b a2.2.2.1).trans f2
 ·rcases hn with rfl|hn|hn|hn
  ·exact H.fresh _ (.inl rfl)
  ·exact H.fresh n (.inr (.inl hn))
  ·obtain rfl:=eN hn;exact g2
  ·exact H.fresh n (.inr (.inr (.inr hn)))
 ·have h3':¬n=b:=λq=>h3 zT
  by_cases e:some n=og
  ·exact(if_pos e).trans (H.fresh n (.inr (.inr (.inl e)))).symm
  ·exact((get n e).trans (f4 n h1 h3' e)).trans (H.upto n h1 h2 e h4)
theorem aH6 (a b:Int) (ha:oI a) (hb:oI b):fQ Tryz.prog 294 [I a,I b] (I (a*b%1000003)):=by
 have h1:=num_mul ha hb
 unfold oI at ha hb
 refine eG 11 aHN cD bS Tryz.func294 λh=>?_
 simp -dsimp -implicitDefEqProofs only[go_sem,↓reduceIte,Tryz.f294]
 first|refine aH.mk (j9 a) ?_|refine aG.mk (j9 a) ?_|refine aH.cN (j9 a) ?_|refine aG.mk (cG.fO (j9 a)) ?_
 simp -dsimp -implicitDefEqProofs only[go_sem,↓reduceIte,Tryz.f294]
 first|refine aH.mk (j9 b) ?_|refine aG.mk (j9 b) ?_|refine aH.cN (j9 b) ?_|refine aG.mk (cG.fO (j9 b)) ?_
 simp -dsimp -implicitDefEqProofs only[go_sem,↓reduceIte,Tryz.f294]
 rw[bA4 ha.1 aA,bA4 hb.1 aA,bPD h1.1 aA]
@[go_sem] def bPU:List Nat:=[0,1,2,3,6,7,9,10,15,20,25,30]
theorem bKX (x:cK) (a b:Int) (ha:oI a) (hb:oI b) (hk:x.xK=3∨x.xK=4∨x.xK=5∨x.xK=6∨x.xK=7):fQ Tryz.prog 287 [.agg x.c,I a,I b] (.iJ [I ((opV x.xK a b).getD 0),.bool (opV x.xK a b).isSome]):=by
 rw[cK.aO]
 have hni:oI (xN b):=num_inv b
 refine eG 35 bPU bJB bS Tryz.func287 λh=>?_
 simp -dsimp -implicitDefEqProofs only[go_sem,↓reduceIte,Tryz.f287]
 refine⟨λq=>?_,λq=>⟨λq4=>?_,λq4=>⟨λq5=>?_,λq5=>⟨λq7=>?_,λq7=>⟨λqb=>?_,λqb=>?_⟩⟩⟩⟩⟩
 ·first|refine aH.mk (a4Z a b) ?_|refine aG.mk (a4Z a b) ?_|refine aH.cN (a4Z a b) ?_|refine aG.mk (cG.fO (a4Z a b)) ?_
  simp -dsimp -implicitDefEqProofs only[go_sem,↓reduceIte,Tryz.f287]
  unfold opV;rw[if_pos q];rfl
 ·first|refine aH.mk (minus a b) ?_|refine aG.mk (minus a b) ?_|refine aH.cN (minus a b) ?_|refine aG.mk (cG.fO (minus a b)) ?_
  simp -dsimp -implicitDefEqProofs only[go_sem,↓reduceIte,Tryz.f287]
  unfold opV;rw[if_neg q,if_pos q4];rfl
 ·first|refine aH.mk (aH6 a b ha hb) ?_|refine aG.mk (aH6 a b ha hb) ?_|refine aH.cN (aH6 a b ha hb) ?_|refine aG.mk (cG.fO (aH6 a b ha hb)) ?_
  simp -dsimp -implicitDefEqProofs only[go_sem,↓reduceIte,Tryz.f287]
  unfold opV;rw[if_neg q,if_neg q4,if_pos q5];rfl
 ·first|refine aH.mk (minus 0 a) ?_|refine aG.mk (minus 0 a) ?_|refine aH.cN (minus 0 a) ?_|refine aG.mk (cG.fO (minus 0 a)) ?_
  simp -dsimp -implicitDefEqProofs only[go_sem,↓reduceIte,Tryz.f287]
  unfold opV;rw[if_neg q,if_neg q4,if_neg q5,if_pos q7];rfl
 ·unfold opV;rw[if_neg q,if_neg q4,if_neg q5,if_neg q7,if_pos qb];rfl
 ·first|refine aH.mk (aRC b) ?_|refine aG.mk (aRC b) ?_|refine aH.cN (aRC b) ?_|refine aG.mk (cG.fO (aRC b)) ?_
  simp -dsimp -implicitDefEqProofs only[go_sem,↓reduceIte,Tryz.f287]
  first|refine aH.mk (aH6 a (xN b) ha hni) ?_|refine aG.mk (aH6 a (xN b) ha hni) ?_|refine aH.cN (aH6 a (xN b) ha hni) ?_|refine aG.mk (cG.fO (aH6 a (xN b) ha hni)) ?_
  simp -dsimp -implicitDefEqProofs only[go_sem,↓reduceIte,Tryz.f287]
  unfold opV;rw[if_neg q,if_neg q4,if_neg q5,if_neg q7,if_neg qb];rfl
theorem Good.val {inp:Int} {S:eP} {t:Nat} (h:Good inp S t) (k:Int):oI (S.val k):=h.bPP.get _
theorem aB6.row {h0 h:Heap} {nb:Nat} {bx:eP->Option Nat->Option Nat->Option Nat->bQ} {S:eP} {om og ov:Option Nat} (H:aB6 bx h0 nb S om og ov h) {k:Int} (hk:rZ S k):∃ w,ov=some w/\h w=some (.row 1 (rowsOf (λn=>[I n]) S.iM))/\¬w=nb:=by
 have hv:=H.iM
 cases ov with
 |none=>have:=jZ.1 hv;have h2:=hk.1;have h3:=hk.2;rw[this]at h3;simp at h3;omega
 |some w=>exact⟨w,rfl,hv.2,λe=>((H.apart w).1 e).2.2 rfl⟩
theorem k8 {S:eP} {k:Int} (hk:rZ S k):(rowsOf (λn=>[I n]) S.iM)[k.toNat]?=some [.v (I (S.val k))]:=by
 have h1:=hk.1
 have h2:=hk.2
 rw[rowsOf,s6,s6,cJ aA,eP.val,jH,cJ aA];rfl
@[go_sem] def bPV:List Nat:=[0,1,2,6,7,8,9,16,43]
@[go_sem] def b34:Marks:=λid=>match id with|4=>([0,4,6,8,12,14,16],(.op 1 (.op 2 (.op 3 (.op 5 (.op 9 (.op 10 (.op 11 (.op 13 (.op 0 (.op 4 (.op 6 (.op 7 (.op 8 (.op 12 (.op 14 (.op 15 (.op 16 (.op 17 (.op 18 (.op 19 (.op 20 (.op 21 (.op 22 .nil))))))))))))))))))))))),[])|_=>([],.nil,[])
theorem xC {h0 h:Heap} {nb:Nat} {p:aL} {inp:Int} {S:eP} {st:Nat} (H:k9 h0 nb p inp S st 0 h) (hg:Good inp S st) (hst:st<=3000) (k:Int) (vs:List Int) (hk:k=3∨k=4∨k=5∨k=6∨k=7) (h1:1<=vs.length) (h2:¬k=7->2<=vs.length) (hv:∀ x∈vs,rZ S x) (hl:vs.length<=1048576) :
  gV Tryz.prog 272 [.op nb 8 0 0,I k,ints vs] h λr h'=>∃ j S' c',r=I j/\k9 h0 nb p inp S' st c' h'/\oO (opR k vs S st) (j,S') st c':=by
 obtain⟨om,og,ov,H⟩:=H
 have at_:∀ i,i<vs.length->rZ S (vs.getD i 0):=λi hi=>by
  rw[jH,cJ hi]
  exact hv _ (dX _)
 have i0:=at_ 0 aA
 have iB:rZ S (opB k vs):=by
  unfold opB
  split
  ·have a:=i0.1;have b:=i0.2;exact⟨Int.le_refl _,by omega⟩
  ·exact at_ 1 (h2 fI)
 obtain⟨w,rfl,hw,dw⟩:=H.row i0
 have hb:=H.box
 unfold eL at hb
 rw[aZ]at hb
 have g0:vs[Int.toNat 0]?=some (vs.getD 0 0):=gA aA
 have r0:=k8 i0
 have rB:=k8 iB
 obtain⟨aOI,p1,p2,a0W⟩:=cB (show ¬w=nb from dw)
 have hva:=hg.val (vs.getD 0 0)
 have hvb:=hg.val (opB k vs)
 have hop:=bKX ⟨k,vs.getD 0 0,opB k vs,0⟩ _ _ hva hvb hk
 simp only[cK.aO]at hop
 have b0:=iB.1
 have b1:=i0.1
 have lw:=jW (λn=>[I n]) S.iM
 have i0b:=i0.2
 have iBb:=iB.2
 refine mK 51 bPV cD b34 Tryz.func272 ?_
 simp -dsimp -implicitDefEqProofs only[go_sem,↓reduceIte,Tryz.f272,hb,g0]
 refine⟨by omega,λn hn=>⟨λh7=>⟨by have:=h2 h7;omega,?_⟩,λh7=>?_⟩⟩
 ·obtain⟨a94,aC0,aC1,a95⟩:=cB (show ¬n=nb from λe=>by rw[e,hb]at hn;cases hn)
  obtain⟨b35,a45,a47,b36⟩:=cB (show ¬n=w from λe=>by rw[e,hw]at hn;cases hn)
  have eB:opB k vs=vs.getD 1 0:=if_neg h7
  have g1:vs[Int.toNat 1]?=some (vs.getD 1 0):=gA (h2 h7)
  rw[eB]at rB hop b0 iBb
  simp -dsimp -implicitDefEqProofs only[go_sem,↓reduceIte,Tryz.f272,g1,hb,hw,r0,rB,aC0,a45,aC1,p2,a47,p1,aE]
  refine⟨b1,i0b,b0,iBb,?_⟩
  cases hv:opV k (S.val (vs.getD 0 0)) (S.val ((vs.getD 1 0)))with
  |none =>
   rw[hv]at hop
   first|refine aH.mk (hop) ?_|refine aG.mk (hop) ?_|refine aH.cN (hop) ?_|refine aG.mk (cG.fO (hop)) ?_
   simp -dsimp -implicitDefEqProofs only[go_sem,↓reduceIte,Tryz.f272]
   refine⟨λ_=>?_,λq=>absurd q bF⟩
   simp -dsimp -implicitDefEqProofs only[go_sem,↓reduceIte,Tryz.f272,hb,aC0,a45,aC1,p2,a47,p1,aE]
   refine⟨_,_,eZ (?_:(bL h nb (eL p inp S om og (some w) st 6)).le _),0,S,6,rfl,⟨_,_,_,H.set st 6⟩,by unfold opR;rw[eB,hv];exact tH _ _ dQ⟩
   unfold eL
   rw[aZ]
   exact(jU (by repeat'(first|exact hZ _ _|refine jV bRQ ?_|refine fZ p9 ?_)))
  |some v =>
   rw[hv]at hop
   first|refine aH.mk (hop) ?_|refine aG.mk (hop) ?_|refine aH.cN (hop) ?_|refine aG.mk (cG.fO (hop)) ?_
   simp -dsimp -implicitDefEqProofs only[go_sem,↓reduceIte,Tryz.f272]
   refine⟨λq=>absurd q bF,λ_=>?_⟩
   simp only[aF]
   refine aH.jP (aU0 (eM.over ⟨om,og,some w,H⟩ hn) ⟨k,vs.getD 0 0,(vs.getD 1 0),0⟩ v hg.len (by have:=hg.cap;omega)) ?_
   rintro r h' ⟨rfl,hR⟩
   obtain⟨g,rfl,hgn,hR⟩:=hR.base (eM.none ⟨om,og,some w,H⟩ hn)
   simp -dsimp -implicitDefEqProofs only[go_sem,↓reduceIte,Tryz.f272]
   exact⟨_,g,eZ (Heap.aW hgn (Heap.le_refl _)),_,_,0,rfl,hR,by unfold opR;rw[eB,hv];exact aAR _ _⟩
 ·obtain⟨a94,aC0,aC1,a95⟩:=cB (show ¬n=nb from λe=>by rw[e,hb]at hn;cases hn)
  obtain⟨b35,a45,a47,b36⟩:=cB (show ¬n=w from λe=>by rw[e,hw]at hn;cases hn)
  have eB:opB k vs=0:=if_pos h7
  rw[eB]at rB hop b0 iBb
  simp -dsimp -implicitDefEqProofs only[go_sem,↓reduceIte,Tryz.f272,hb,hw,r0,rB,aC0,a45,aC1,p2,a47,p1,aE]
  refine⟨b1,i0b,iBb,?_⟩
  cases hv:opV k (S.val (vs.getD 0 0)) (S.val (0))with
  |none =>
   rw[hv]at hop
   first|refine aH.mk (hop) ?_|refine aG.mk (hop) ?_|refine aH.cN (hop) ?_|refine aG.mk (cG.fO (hop)) ?_
   simp -dsimp -implicitDefEqProofs only[go_sem,↓reduceIte,Tryz.f272]
   refine⟨λ_=>?_,λq=>absurd q bF⟩
   simp -dsimp -implicitDefEqProofs only[go_sem,↓reduceIte,Tryz.f272,hb,aC0,a45,aC1,p2,a47,p1,aE]
   refine⟨_,_,eZ (?_:(bL h nb (eL p inp S om og (some w) st 6)).le _),0,S,6,rfl,⟨_,_,_,H.set st 6⟩,by unfold opR;rw[eB,hv];exact tH _ _ dQ⟩
   unfold eL
   rw[aZ]
   exact(jU (by repeat'(first|exact hZ _ _|refine jV bRQ ?_|refine fZ p9 ?_)))
  |some v =>
   rw[hv]at hop
   first|refine aH.mk (hop) ?_|refine aG.mk (hop) ?_|refine aH.cN (hop) ?_|refine aG.mk (cG.fO (hop)) ?_
   simp -dsimp -implicitDefEqProofs only[go_sem,↓reduceIte,Tryz.f272]
   refine⟨λq=>absurd q bF,λ_=>?_⟩
   simp only[aF]
   refine aH.jP (aU0 (eM.over ⟨om,og,some w,H⟩ hn) ⟨k,vs.getD 0 0,0,0⟩ v hg.len (by have:=hg.cap;omega)) ?_
   rintro r h' ⟨rfl,hR⟩
   obtain⟨g,rfl,hgn,hR⟩:=hR.base (eM.none ⟨om,og,some w,H⟩ hn)
   simp -dsimp -implicitDefEqProofs only[go_sem,↓reduceIte,Tryz.f272]
   exact⟨_,g,eZ (Heap.aW hgn (Heap.le_refl _)),_,_,0,rfl,hR,by unfold opR;rw[eB,hv];exact aAR _ _⟩
theorem oO.ok {α:Type} {c:Int} {X:Out α} {v:α} {t:Nat} {c':Int} (h:oO (yT c X) v t c') (hc:c'=0):c=0/\X=.ok (v,t):=by
 have h0:=h.b3R hc
 subst h0
 rw[gS]at h
 cases X with
 |ok q=>obtain⟨w,u⟩:=q;obtain⟨_,rfl,rfl⟩:=h;exact⟨rfl,rfl⟩
 |error d=>exact absurd (h.1.symm.trans hc) h.2
def aOJ (h0:Heap) (nb:Nat) (p:aL) (inp:Int) (st:Nat) (c:Int) (X:Out (Int×eP)):aC->Heap->Prop:=λr h'=>∃ k S' t c',r=I k/\k9 h0 nb p inp S' t c' h'/\st<=t/\t<=3000/\oO (yT c X) (k,S') t c'
def bTS (h0:Heap) (nb:Nat) (p:aL) (inp:Int) (st:Nat) (c:Int) (n:Nat) (X:Out (List Int×eP)):aC->Heap->Prop:=λr h'=>∃ l S' t c',r=ints l/\k9 h0 nb p inp S' t c' h'/\l.length=n/\st<=t/\t<=3000/\oO (yT c X) (l,S') t c'
@[go_sem] def sQ:List Nat:=[0,1,2,4,6,7,8,9,10,15,20,32,33,42,49,62,85,100,128,130,131,150,162]
@[go_sem] def aD7:List Nat:=[4,80,116]
@[go_sem] def aD8:Marks:=λid=>match id with|22=>([6,13,15,16],(.op 0 (.op 1 (.op 2 (.op 3 (.op 4 (.op 5 (.op 7 (.op 8 (.op 9 (.op 10 (.op 11 (.op 12 (.op 6 (.op 13 (.op 14 (.op 15 (.op 16 (.op 17 .nil)))))))))))))))))),[])|28=>([5,16],(.op 0 (.op 1 (.op 2 (.op 3 (.op 4 (.op 6 (.op 7 (.op 11 (.op 12 (.op 15 (.op 5 (.op 8 (.op 9 (.op 10 (.op 13 (.op 14 (.op 16 (.op 17 .nil)))))))))))))))))),[])|33=>([5,12],(.op 0 (.op 1 (.op 2 (.op 3 (.op 4 (.op 6 (.op 7 (.op 11 (.op 5 (.op 8 (.op 9 (.op 10 (.op 12 (.op 13 .nil)))))))))))))),[])|_=>([],.nil,[])
def aD9 (p:aL) (inp:Int) (n:Nat):Prop:=∀ (h0 h:Heap) (nb st:Nat) (c:Int) (e:aB) (env:List Int) (S:eP) (funcs:Int),k9 h0 nb p inp S st c h->st<=3000->3001<=n+st->e.ok p funcs env.length->0<=funcs->funcs<=p.aJ.length->(c=0->Good inp S st/\∀ x∈env,rZ S x)->env.length<=412+st ->
 gV Tryz.prog 260 [.op nb 8 0 0,.agg e.c,ints env] h (aOJ h0 nb p inp st c (fT p n st e env S))
theorem jL {p:aL} (hp:p.ok) {inp:Int} {n st:Nat} {S:eP} {l:List aB} {env:List Int} {funcs:Int} (hg:Good inp S st) (hst:st<=3000) (henv:∀ x∈env,rZ S x) (hok:∀ e∈l,e.ok p funcs env.length) (hf:funcs<=p.aJ.length):okQ (aMW inp S st l.length) (pI (λt e S=>fT p n t e env S) l st S) :=
 tV l st S hg hst λx hx u S' a b c=>tW hp n u x env S' funcs (hok x hx) hf a c.2.2.2 λy hy=>(henv y hy).ext b
@[go_sem] def bD0:List Nat:=[0,1,2,6,7,9,11,12,13,14]
@[go_sem] def bTT:List Nat:=[10,22]
theorem aAT {p:aL} (hp:p.ok) {inp:Int} {n:Nat} (hv:aD9 p inp n) (h0 h:Heap) (nb st:Nat) (c:Int) (l:List aB) (env:List Int) (S:eP) (funcs:Int) (hb:k9 h0 nb p inp S st c h) (hst:st<=3000) (hn:3001<=n+st)
  (hl:l.length<=1048576) (hok:∀ e∈l,e.ok p funcs env.length) (gZ:0<=funcs) (hf:funcs<=p.aJ.length) (hgo:c=0->Good inp S st/\∀ x∈env,rZ S x) (hel:env.length<=412+st) :
  gV Tryz.prog 242 [.op nb 8 0 0,dA 5 aB.c l,ints env] h (bTS h0 nb p inp st c l.length (pI (λt e S=>fT p n t e env S) l st S)):=by
 refine mK 26 bD0 bTT bS Tryz.func242 ?_
 simp -dsimp -implicitDefEqProofs only[go_sem,↓reduceIte,Tryz.f242]
 refine⟨cI,λ_=>?_⟩
 refine cY bD0 bTT bS (λx:Nat×List Int×Nat×Int×eP×Heap×Option Nat=>[(0,.op nb 8 0 0),(2,ints env),(7,nW 1 x.2.1.length x.2.2.2.2.2.2),(11,dA 5 aB.c l),(12,I l.length),(13,I x.1)]) (λx=>dG x.2.2.2.2.2.1 (.row 1 ((x.2.1.map λn=>[I n]).map (List.map .v))) x.2.2.2.2.2.2) (λx=>x.1<=l.length/\x.2.1.length=x.1/\st<=x.2.2.1/\x.2.2.1<=3000/\oO (yT c (pI (λt e S=>fT p n t e env S) (l.take x.1) st S)) (x.2.1,x.2.2.2.2.1) x.2.2.1 x.2.2.2.1/\k9 h0 nb p inp x.2.2.2.2.1 x.2.2.1 x.2.2.2.1 x.2.2.2.2.2.1/\lK x.2.2.2.2.2.1 x.2.1 x.2.2.2.2.2.2) (λx=>l.length-x.1) (0,[],st,c,S,h,none) ⟨by simp[eE,dJ,nW],by simp only[aN];exact Heap.le_refl _,iF _,rfl,eV _,hst,k7 _ _ _,hb,rfl⟩ ?_
 rintro⟨k,vs,t,c',S1,g,o⟩ ⟨hk,hvl,ht0,ht,ho,hR,hos⟩
 simp only at hk hvl ht0 ht ho hR hos ⊢
 rcases cX k l.length with hlt|hge
 ·have ek:l[k]?=some l[k]:=cJ hlt
  have hnext:∀ (j:Int) (S2:eP) (t2:Nat) (c2:Int),oO (yT c' (fT p n t l[k] env S1)) (j,S2) t2 c2->oO (yT c (pI (λt e S=>fT p n t e env S) (l.take (k+1)) st S)) (vs++[j],S2) t2 c2:=λj S2 t2 c2 h3=>by
   rw[kF hlt,aOH]
   exact ho.iI (h3.iI (k7 _ _ _))
  have b37:c'=0->Good inp S1 t/\∀ x∈env,rZ S1 x:=λhc=>by
   obtain⟨e1,e2⟩:=ho.ok hc
   obtain⟨a1,a2⟩:=hgo e1
   obtain⟨b1,b2,b3,b4⟩:=jL hp (l:=l.take k) a1 hst a2 (λx hx=>hok x (aYV hx)) hf _ _ e2
   exact⟨b1,λx hx=>(a2 x hx).ext b2⟩
  cases o with
  |none =>
   rw[cZ]at hos
   subst hos
   simp -dsimp -implicitDefEqProofs only[go_sem,↓reduceIte,Tryz.f242,dK,aN,hlt,ek,aB.aO]
   intro m9 z9
   rw[aF]
   have hvk:=hv (bL h0 m9 (.row 5 [l[k].c.map .v])) (bL g m9 (.row 5 [l[k].c.map .v])) nb t c' l[k] env S1 funcs (hR.over z9) ht aA (hok _ (dX _)) gZ hf b37 aA
   rw[aB.aO]at hvk
   refine aH.jP hvk ?_
   rintro r h' ⟨j,S2,t2,c2,rfl,qM,h1,h2,h3⟩
   obtain⟨g2,rfl,hg2,qM⟩:=qM.base (hR.none z9)
   simp -dsimp -implicitDefEqProofs only[go_sem,↓reduceIte,Tryz.f242]
   refine⟨cI,cI,cI,λb ⟨hb9,mL⟩=>?_⟩
   refine⟨(k+1,[j],t2,c2,S2,g2,some b),⟨rfl,by rw[IntWalk.i64_in _ aA];rfl⟩,?_,⟨by omega,by simp only[al7]at hvl;subst hvl;rfl,aIX ht0 h1,h2,hnext j S2 t2 c2 h3,qM,mL⟩,by simp only;omega⟩
   simp only[aK]
   exact(jU (by repeat'(first|exact hZ _ _|refine jV (by simp only[fU,↓reduceIte,eq_self,if_true,hb9,hg2,nE,xL]) ?_|refine fZ p9 ?_)))
  |some m =>
   rw[bY]at hos
   simp -dsimp -implicitDefEqProofs only[go_sem,↓reduceIte,Tryz.f242,bU,aK,hlt,ek,aB.aO]
   intro m9 ⟨h9m,z9⟩
   rw[aF]
   obtain⟨a03,aGV,aGU,bKY⟩:=cB (show ¬m9=m from h9m)
   have z9':(bL g m (.row 1 ((vs.map λn=>[I n]).map (List.map .v)))) m9=none:=by rw[aE _ _ _ _ a03];exact z9
   have hRo:=hR.over (o:=.row 1 ((vs.map λn=>[I n]).map (List.map .v))) hos
   have hvk:=hv _ _ nb t c' l[k] env S1 funcs (hRo.over (o:=.row 5 [l[k].c.map .v]) z9') ht aA (hok _ (dX _)) gZ hf b37 aA
   rw[aB.aO]at hvk
   refine aH.jP hvk ?_
   rintro r h' ⟨j,S2,t2,c2,rfl,qM,h1,h2,h3⟩
   obtain⟨g1,rfl,pE,qM⟩:=qM.base (hRo.none z9')
   obtain⟨g2,rfl,hg2,qM⟩:=qM.base (hR.none hos)
   rw[aE _ _ _ _ a03]at pE
   simp -dsimp -implicitDefEqProofs only[go_sem,↓reduceIte,Tryz.f242,aE,aGU,aGV]
   refine⟨cI,cI,cI,eV _,by omega,by omega,λb ⟨hb9,hbm,mL⟩=>?_⟩
   obtain⟨aQB,aAG,aAH,aQC⟩:=cB (show ¬b=m from hbm)
   obtain⟨b87,bXF,bXG,b88⟩:=cB (show ¬b=m9 from hb9)
   refine⟨(k+1,vs++[j],t2,c2,S2,g2,some b),⟨by rw[bU,tN];rfl,by rw[IntWalk.i64_in _ aA];rfl⟩,?_,⟨by omega,by rw[tN,hvl];rfl,aIX ht0 h1,h2,hnext j S2 t2 c2 h3,qM,mL⟩,by simp only;omega⟩
   simp only[aK]
   rw[←jE]
   exact(jU (by repeat'(first|exact hZ _ _|refine jV (by simp only[fU,↓reduceIte,eq_self,if_true,aAG,bXF,aAH,aGU,bXG,aGV]) ?_|refine fZ p9 ?_)))
 ·have hk':k=l.length:=by omega
  subst hk'
  rw[eJ]at ho
  cases o with
  |none =>
   rw[cZ]at hos
   subst hos
   simp -dsimp -implicitDefEqProofs only[go_sem,↓reduceIte,Tryz.f242,dK,aN,cO]
   exact⟨ints [],_,Shift.of (Sub.loose _ _ _) (Heap.le_refl _),[],S1,t,c',rfl,hR,hvl,ht0,ht,ho⟩
  |some m =>
   rw[bY]at hos
   simp -dsimp -implicitDefEqProofs only[go_sem,↓reduceIte,Tryz.f242,bU,aK,cO]
   exact⟨ints vs,g,mW vs hos (Heap.le_refl _) rfl,vs,S1,t,c',rfl,hR,hvl,ht0,ht,ho⟩
theorem bKZ {p:aL} {inp:Int} {n:Nat} {h0 h:Heap} {nb st:Nat} {c:Int} {e:aB} {env:List Int} {S:eP} (hR:k9 h0 nb p inp S st c h) (hst:st<=3000) (hs:¬c=0∨st=3000) :
  gV Tryz.prog 260 [.op nb 8 0 0,.agg e.c,ints env] h (aOJ h0 nb p inp st c (fT p (n+1) st e env S)):=by
 obtain⟨om,og,ov,H⟩:=hR
 have hb:=H.box
 unfold eL at hb
 rw[aB.aO]
 refine mK 190 sQ aD7 aD8 Tryz.func260 ?_
 simp -dsimp -implicitDefEqProofs only[go_sem,↓reduceIte,Tryz.f260,hb]
 refine⟨λhc=>?_,λhc=>?_⟩
 ·exact⟨_,_,cE _ _,0,S,st,c,rfl,⟨_,_,_,H⟩,eV _,hst,by rw[aCA _ hc];exact tH _ _ hc⟩
 ·subst hc
  have h3:st=3000:=by rcases hs with hs|hs;exact absurd rfl hs;exact hs
  subst h3
  try simp -dsimp -implicitDefEqProofs only[go_sem,↓reduceIte,Tryz.f260,hb]
  refine⟨λ_=>?_,λq=>absurd q bF⟩
  refine⟨_,_,cE _ _,0,S,3000,7,rfl,⟨_,_,_,H.set 3000 7⟩,eV _,hst,?_⟩
  rw[gS,fT,if_pos rfl]
  exact tH _ _ dQ
theorem bD1 (l:List Int) (hl:l.length<=1048576):fQ Tryz.prog 271 [ints l] (.sl 1 (l.map λn=>[I n]) true):=by
 refine eG 9 aN4 cD bS Tryz.func271 λh=>?_
 simp -dsimp -implicitDefEqProofs only[go_sem,↓reduceIte,Tryz.f271]
 repeat'(with_reducible first|intro _|refine And.intro ?_ ?_)
 all_goals try omega
 rw[gX (by rw[lM];exact eV _)]
theorem b39 {p:aL} (hp:p.ok) {inp:Int} {n:Nat} (hv:aD9 p inp n) {h0 h:Heap} {nb st:Nat} {e:aB} {env:List Int} {S:eP} {funcs:Int} (hR:k9 h0 nb p inp S st 0 h) (hst:st<3000) (hn:3001<=n+1+st)
  (hok:e.ok p funcs env.length) (gZ:0<=funcs) (hf:funcs<=p.aJ.length) (hg:Good inp S st) (henv:∀ x∈env,rZ S x) (hel:env.length<=412+st) (hk:e.bH=1) :
  gV Tryz.prog 260 [.op nb 8 0 0,.agg e.c,ints env] h (aOJ h0 nb p inp st 0 (fT p (n+1) st e env S)):=by
 obtain⟨om,og,ov,H⟩:=hR
 rw[aB.aO]
 have hb:=H.box
 unfold eL at hb
 have e3:((st:Int)=3000)=False:=eq_false aA
 have ew:IntKind.i64.wrap ((st:Int)+1)=((st+1:Nat):Int):=by rw[IntWalk.i64_in _ aA];rfl
 have hnode:=(aB.fK _ _ _ _).1 hok
 have h3:¬st=3000:=by omega
 have hcap:=hg.cap
 have hgcap:=hg.vM
 have pE:=hg.later (nB st)
 have hR1:k9 h0 nb p inp S (st+1) 0 (bL h nb (eL p inp S om og ov (st+1) 0)):=⟨_,_,_,H.set (st+1) 0⟩
 refine mK 190 sQ aD7 aD8 Tryz.func260 ?_
 simp -dsimp -implicitDefEqProofs only[go_sem,↓reduceIte,Tryz.f260,hb,e3,ew,hk]
 refine aH.jP (aU0 hR1 ⟨2,0,0,e.bZ⟩ e.bZ hg.len aA) ?_
 rintro r h' ⟨rfl,qM⟩
 simp -dsimp -implicitDefEqProofs only[go_sem,↓reduceIte,Tryz.f260]
 refine⟨_,_,cE _ _,_,_,st+1,0,rfl,qM,nB _,hst,?_⟩
 rw[gS,a0R h3 hk]
 exact aAR _ _
theorem b4A {p:aL} (hp:p.ok) {inp:Int} {n:Nat} (hv:aD9 p inp n) {h0 h:Heap} {nb st:Nat} {e:aB} {env:List Int} {S:eP} {funcs:Int} (hR:k9 h0 nb p inp S st 0 h) (hst:st<3000) (hn:3001<=n+1+st)
  (hok:e.ok p funcs env.length) (gZ:0<=funcs) (hf:funcs<=p.aJ.length) (hg:Good inp S st) (henv:∀ x∈env,rZ S x) (hel:env.length<=412+st) (hk:e.bH=2) :
  gV Tryz.prog 260 [.op nb 8 0 0,.agg e.c,ints env] h (aOJ h0 nb p inp st 0 (fT p (n+1) st e env S)):=by
 obtain⟨om,og,ov,H⟩:=hR
 rw[aB.aO]
 have hb:=H.box
 unfold eL at hb
 have e3:((st:Int)=3000)=False:=eq_false aA
 have ew:IntKind.i64.wrap ((st:Int)+1)=((st+1:Nat):Int):=by rw[IntWalk.i64_in _ aA];rfl
 have hnode:=(aB.fK _ _ _ _).1 hok
 have h3:¬st=3000:=by omega
 have hcap:=hg.cap
 have hgcap:=hg.vM
 have pE:=hg.later (nB st)
 have hR1:k9 h0 nb p inp S (st+1) 0 (bL h nb (eL p inp S om og ov (st+1) 0)):=⟨_,_,_,H.set (st+1) 0⟩
 have hnum:=((iG aA).1 hnode.1).2.2.2.2.1 hk
 have hlt:e.bZ.toNat<env.length:=by omega
 refine mK 190 sQ aD7 aD8 Tryz.func260 ?_
 simp -dsimp -implicitDefEqProofs only[go_sem,↓reduceIte,Tryz.f260,hb,e3,ew,hk,gA hlt]
 refine⟨hnum.1,by omega,_,_,cE _ _,_,S,st+1,0,rfl,hR1,nB _,hst,?_⟩
 rw[gS,a0S h3 hk]
 exact aAR _ _
theorem b4B {p:aL} (hp:p.ok) {inp:Int} {n:Nat} (hv:aD9 p inp n) {h0 h:Heap} {nb st:Nat} {e:aB} {env:List Int} {S:eP} {funcs:Int} (hR:k9 h0 nb p inp S st 0 h) (hst:st<3000) (hn:3001<=n+1+st)
  (hok:e.ok p funcs env.length) (gZ:0<=funcs) (hf:funcs<=p.aJ.length) (hg:Good inp S st) (henv:∀ x∈env,rZ S x) (hel:env.length<=412+st) (hk:e.bH=9) :
  gV Tryz.prog 260 [.op nb 8 0 0,.agg e.c,ints env] h (aOJ h0 nb p inp st 0 (fT p (n+1) st e env S)):=by
 obtain⟨om,og,ov,H⟩:=hR
 rw[aB.aO]
 have hb:=H.box
 unfold eL at hb
 have e3:((st:Int)=3000)=False:=eq_false aA
 have ew:IntKind.i64.wrap ((st:Int)+1)=((st+1:Nat):Int):=by rw[IntWalk.i64_in _ aA];rfl
 have hnode:=(aB.fK _ _ _ _).1 hok
 have h3:¬st=3000:=by omega
 have hcap:=hg.cap
 have hgcap:=hg.vM
 have pE:=hg.later (nB st)
 have hR1:k9 h0 nb p inp S (st+1) 0 (bL h nb (eL p inp S om og ov (st+1) 0)):=⟨_,_,_,H.set (st+1) 0⟩
 have hlen:=gT hok aA
 rw[hk,show jO 9=2 from rfl]at hlen
 have g0:e.aP[Int.toNat 0]?=some (e.tL 0):=aB.kW aA
 have g1:e.aP[Int.toNat 1]?=some (e.tL 1):=aB.kW aA
 have o0:=aB.jY hok (i:=0) aA
 have o1:=aB.jY hok (i:=1) aA
 rw[mV aA]at o0
 rw[hk,show p8 9 1 (env.length:Int)=env.length+1 from rfl]at o1
 refine mK 190 sQ aD7 aD8 Tryz.func260 ?_
 simp -dsimp -implicitDefEqProofs only[go_sem,↓reduceIte,Tryz.f260,hb,e3,ew,hk,g0,g1,aB.ld5]
 refine⟨by omega,by omega,?_⟩
 first|refine aH.mk (bD1 env aA) ?_|refine aG.mk (bD1 env aA) ?_|refine aH.cN (bD1 env aA) ?_|refine aG.mk (cG.fO (bD1 env aA)) ?_
 simp -dsimp -implicitDefEqProofs only[go_sem,↓reduceIte,Tryz.f260]
 refine aH.jP (hv _ _ nb (st+1) 0 (e.tL 0) env S funcs hR1 aA aA o0 gZ hf (λ_=>⟨pE,henv⟩) aA) ?_
 rintro r h' ⟨k1,S1,t1,c1,rfl,qM,a1,a2,a3⟩
 simp -dsimp -implicitDefEqProofs only[go_sem,↓reduceIte,Tryz.f260]
 refine⟨cI,cI,cI,by omega,by omega,λm hm=>?_⟩
 obtain⟨kZ,fC,fD,nJ⟩:=cB (show ¬nb=m from λe=>by obtain⟨_,_,_,H2⟩:=qM;have:=H2.box;rw[e,hm]at this;cases this)
 have hrow:env.map (λn=>[I n])++[[aC.int .i64 k1]]=(env++[k1]).map λn=>[I n]:=by rw[xX];rfl
 rw[hrow]
 refine aH.bPH kZ (by rw[lM,tN];rfl) hm ?_
 refine gV.mono (hv _ _ nb t1 c1 (e.tL 1) (env++[k1]) S1 funcs (qM.over (o:=.gone) hm) aA aA a2Y gZ hf (λhc=>?_) bRW) ?_
 ·obtain⟨_,e2⟩:=a3.ok hc
  obtain⟨b1,b2,b3,b4⟩:=tW hp n (st+1) (e.tL 0) env S funcs o0 hf pE aA henv _ _ e2
  refine⟨b1,λx hx=>?_⟩
  rcases rF.1 hx with hx|hx
  ·exact(henv x hx).ext b2
  ·rw[vP.1 hx];exact b3
 rintro r h2 ⟨k2,S2,t2,c2,rfl,xP,b1,b2,b3⟩
 obtain⟨g,rfl,hgm,xP⟩:=xP.base (qM.none hm)
 simp -dsimp -implicitDefEqProofs only[go_sem,↓reduceIte,Tryz.f260]
 refine⟨_,g,eZ (Heap.aW hgm (Heap.le_refl _)),k2,S2,t2,c2,rfl,xP,by omega,b2,?_⟩
 rw[a0T h3 hk]
 exact a3.iI b3
theorem b4C {p:aL} (hp:p.ok) {inp:Int} {n:Nat} (hv:aD9 p inp n) {h0 h:Heap} {nb st:Nat} {e:aB} {env:List Int} {S:eP} {funcs:Int} (hR:k9 h0 nb p inp S st 0 h) (hst:st<3000) (hn:3001<=n+1+st)
  (hok:e.ok p funcs env.length) (gZ:0<=funcs) (hf:funcs<=p.aJ.length) (hg:Good inp S st) (henv:∀ x∈env,rZ S x) (hel:env.length<=412+st) (hk:e.bH=8) :
  gV Tryz.prog 260 [.op nb 8 0 0,.agg e.c,ints env] h (aOJ h0 nb p inp st 0 (fT p (n+1) st e env S)):=by
 obtain⟨om,og,ov,H⟩:=hR
 rw[aB.aO]
 have hb:=H.box
 unfold eL at hb
 have e3:((st:Int)=3000)=False:=eq_false aA
 have ew:IntKind.i64.wrap ((st:Int)+1)=((st+1:Nat):Int):=by rw[IntWalk.i64_in _ aA];rfl
 have hnode:=(aB.fK _ _ _ _).1 hok
 have h3:¬st=3000:=by omega
 have hcap:=hg.cap
 have hgcap:=hg.vM
 have pE:=hg.later (nB st)
 have hR1:k9 h0 nb p inp S (st+1) 0 (bL h nb (eL p inp S om og ov (st+1) 0)):=⟨_,_,_,H.set (st+1) 0⟩
 have hlen:=gT hok aA
 rw[hk,show jO 8=3 from rfl]at hlen
 have g0:e.aP[Int.toNat 0]?=some (e.tL 0):=aB.kW aA
 have g1:e.aP[Int.toNat 1]?=some (e.tL 1):=aB.kW aA
 have g2:e.aP[Int.toNat 2]?=some (e.tL 2):=aB.kW aA
 have o0:=aB.jY hok (i:=0) aA
 have o1:=aB.jY hok (i:=1) aA
 have o2:=aB.jY hok (i:=2) aA
 rw[mV aA]at o0 o1 o2
 refine mK 190 sQ aD7 aD8 Tryz.func260 ?_
 simp -dsimp -implicitDefEqProofs only[go_sem,↓reduceIte,Tryz.f260,hb,e3,ew,hk,g0,aB.ld5]
 refine⟨by omega,?_⟩
 refine aH.jP (hv _ _ nb (st+1) 0 (e.tL 0) env S funcs hR1 aA aA o0 gZ hf (λ_=>⟨pE,henv⟩) aA) ?_
 rintro r h' ⟨k1,S1,t1,c1,rfl,⟨om1,og1,ov1,H1⟩,a1,a2,a3⟩
 have oF:=H1.box
 unfold eL at oF
 simp -dsimp -implicitDefEqProofs only[go_sem,↓reduceIte,Tryz.f260,oF]
 refine⟨λhc=>?_,λhc=>?_⟩
 ·refine⟨_,_,cE _ _,0,S1,t1,c1,rfl,⟨_,_,_,H1⟩,by omega,a2,?_⟩
  rw[aH5 h3 hk]
  exact a3.iI aLK
 subst hc
 obtain⟨_,e2⟩:=a3.ok rfl
 obtain⟨q1,q2,q3,q4⟩:=tW hp n (st+1) (e.tL 0) env S funcs o0 hf pE aA henv _ _ e2
 unfold sP at q4
 simp only at q1 q2 q3 q4
 obtain⟨w,rfl,hw,dw⟩:=H1.row q3
 have rk:=k8 q3
 have k0:=q3.1
 have k2:=q3.2
 have lw:=jW (λn=>[I n]) S1.iM
 have hgc:=q1.vM
 rw[aZ]at oF
 try simp -dsimp -implicitDefEqProofs only[go_sem,↓reduceIte,Tryz.f260,oF,hw,rk,aZ]
 refine⟨k0,by omega,?_⟩
 have hgd:=H1.gds
 cases og1 with
 |none =>
  have hg0:S1.guards=[]:=jZ.1 hgd
  rw[bI]
  simp -dsimp -implicitDefEqProofs only[go_sem,↓reduceIte,Tryz.f260,oF]
  refine⟨by decide,by decide,by decide,λb mL=>?_⟩
  obtain⟨rJ,lE,lD,qZ⟩:=cB (show ¬b=nb from λe=>by rw[e,oF]at mL;cases mL)
  simp -dsimp -implicitDefEqProofs only[go_sem,↓reduceIte,Tryz.f260,oF,lE,lD,aE,g1,g2,aB.ld5]
  refine⟨λhz=>⟨by omega,?_⟩,λhz=>⟨by omega,?_⟩⟩
  ·rw[decide_eq_true hz]
   obtain⟨g,hgl,hG⟩:=H1.guard ⟨k1,true⟩ mL (F:=bL (bL h' b (.row 2 [[.v (I k1),.v (.bool true)]])) nb (eL p inp (S1.guard ⟨k1,true⟩) om1 (some b) (some w) t1 0)) (bB _ _ _) bBP (λn h1 h2 _=>by rw[aE _ _ _ _ h1,aE _ _ _ _ h2])
   unfold eL at hgl
   simp only[eP.guard,hg0,aZ,pR,aB9]at hgl
   refine aH.wk (Heap.iU hgl) ?_
   have hgG:=q1.guard (b:=true) q3 aA
   have heG:=q2.trans (S1.qL ⟨k1,true⟩)
   refine aH.jP (hv h0 g nb t1 0 (e.tL 1) env (S1.guard ⟨k1,true⟩) funcs ⟨_,_,_,hG⟩ aA aA o1 gZ hf (λ_=>⟨hgG,λx hx=>(henv x hx).ext heG⟩) aA) ?_
   rintro r h2 ⟨k2,S2,t2,c2,rfl,xP,b1,b2,b3⟩
   simp -dsimp -implicitDefEqProofs only[go_sem,↓reduceIte,Tryz.f260]
   refine⟨_,_,cE _ _,k2,S2,t2,c2,rfl,xP,by omega,b2,?_⟩
   rw[aH5 h3 hk]
   refine a3.iI ?_
   rw[if_pos hz]
   exact b3
  ·rw[decide_eq_false hz]
   obtain⟨g,hgl,hG⟩:=H1.guard ⟨k1,false⟩ mL (F:=bL (bL h' b (.row 2 [[.v (I k1),.v (.bool false)]])) nb (eL p inp (S1.guard ⟨k1,false⟩) om1 (some b) (some w) t1 0)) (bB _ _ _) bBP (λn h1 h2 _=>by rw[aE _ _ _ _ h1,aE _ _ _ _ h2])
   unfold eL at hgl
   simp only[eP.guard,hg0,aZ,pR,aB9]at hgl
   refine aH.wk (Heap.iU hgl) ?_
   have hgG:=q1.guard (b:=false) q3 aA
   have heG:=q2.trans (S1.qL ⟨k1,false⟩)
   refine aH.jP (hv h0 g nb t1 0 (e.tL 2) env (S1.guard ⟨k1,false⟩) funcs ⟨_,_,_,hG⟩ aA aA o2 gZ hf (λ_=>⟨hgG,λx hx=>(henv x hx).ext heG⟩) aA) ?_
   rintro r h2 ⟨k2,S2,t2,c2,rfl,xP,b1,b2,b3⟩
   simp -dsimp -implicitDefEqProofs only[go_sem,↓reduceIte,Tryz.f260]
   refine⟨_,_,cE _ _,k2,S2,t2,c2,rfl,xP,by omega,b2,?_⟩
   rw[aH5 h3 hk]
   refine a3.iI ?_
   rw[if_neg hz]
   exact b3
 |some gm =>
  have hgm:=hgd.2
  obtain⟨bPW,a04,a05,bPX⟩:=cB (show ¬gm=nb from λe=>by rw[e,oF]at hgm;cases hgm)
  rw[aZ]
  simp -dsimp -implicitDefEqProofs only[go_sem,↓reduceIte,Tryz.f260,oF,hgm,jW]
  refine⟨by decide,by decide,by decide,eV _,by omega,by omega,λb mL=>?_⟩
  obtain⟨rJ,lE,lD,qZ⟩:=cB (show ¬b=nb from λe=>by rw[e,oF]at mL;cases mL)
  obtain⟨bXH,a96,a97,bXI⟩:=cB (show ¬b=gm from λe=>by rw[e,hgm]at mL;cases mL)
  simp -dsimp -implicitDefEqProofs only[go_sem,↓reduceIte,Tryz.f260,oF,lE,a96,lD,a05,a97,a04,aE,g1,g2,aB.ld5]
  refine⟨λhz=>⟨by omega,?_⟩,λhz=>⟨by omega,?_⟩⟩
  ·rw[decide_eq_true hz,gX aPC]
   obtain⟨g,hgl,hG⟩:=H1.guard ⟨k1,true⟩ mL (F:=bL (bL (bL h' gm .gone) b (.row 2 (rowsOf fS.c S1.guards++[[.v (I k1),.v (.bool true)]]))) nb (eL p inp (S1.guard ⟨k1,true⟩) om1 (some b) (some w) t1 0)) (bB _ _ _) bBK (λn h1 h2 h3=>by rw[aE _ _ _ _ h1,aE _ _ _ _ h2,aE _ _ _ _ (λq=>h3 zT)])
   unfold eL at hgl
   simp only[eP.guard,aZ,tN,aB9]at hgl
   refine aH.wk (Heap.iU hgl) ?_
   have hgG:=q1.guard (b:=true) q3 aA
   have heG:=q2.trans (S1.qL ⟨k1,true⟩)
   refine aH.jP (hv h0 g nb t1 0 (e.tL 1) env (S1.guard ⟨k1,true⟩) funcs ⟨_,_,_,hG⟩ aA aA o1 gZ hf (λ_=>⟨hgG,λx hx=>(henv x hx).ext heG⟩) aA) ?_
   rintro r h2 ⟨k2,S2,t2,c2,rfl,xP,b1,b2,b3⟩
   simp -dsimp -implicitDefEqProofs only[go_sem,↓reduceIte,Tryz.f260]
   refine⟨_,_,cE _ _,k2,S2,t2,c2,rfl,xP,by omega,b2,?_⟩
   rw[aH5 h3 hk]
   refine a3.iI ?_
   rw[if_pos hz]
   exact b3
  ·rw[decide_eq_false hz,gX aPC]
   obtain⟨g,hgl,hG⟩:=H1.guard ⟨k1,false⟩ mL (F:=bL (bL (bL h' gm .gone) b (.row 2 (rowsOf fS.c S1.guards++[[.v (I k1),.v (.bool false)]]))) nb (eL p inp (S1.guard ⟨k1,false⟩) om1 (some b) (some w) t1 0)) (bB _ _ _) bBK (λn h1 h2 h3=>by rw[aE _ _ _ _ h1,aE _ _ _ _ h2,aE _ _ _ _ (λq=>h3 zT)])
   unfold eL at hgl
   simp only[eP.guard,aZ,tN,aB9]at hgl
   refine aH.wk (Heap.iU hgl) ?_
   have hgG:=q1.guard (b:=false) q3 aA
   have heG:=q2.trans (S1.qL ⟨k1,false⟩)
   refine aH.jP (hv h0 g nb t1 0 (e.tL 2) env (S1.guard ⟨k1,false⟩) funcs ⟨_,_,_,hG⟩ aA aA o2 gZ hf (λ_=>⟨hgG,λx hx=>(henv x hx).ext heG⟩) aA) ?_
   rintro r h2 ⟨k2,S2,t2,c2,rfl,xP,b1,b2,b3⟩
   simp -dsimp -implicitDefEqProofs only[go_sem,↓reduceIte,Tryz.f260]
   refine⟨_,_,cE _ _,k2,S2,t2,c2,rfl,xP,by omega,b2,?_⟩
   rw[aH5 h3 hk]
   refine a3.iI ?_
   rw[if_neg hz]
   exact b3
theorem b4D {p:aL} (hp:p.ok) {inp:Int} {n:Nat} (hv:aD9 p inp n) {h0 h:Heap} {nb st:Nat} {e:aB} {env:List Int} {S:eP} {funcs:Int} (hR:k9 h0 nb p inp S st 0 h) (hst:st<3000) (hn:3001<=n+1+st)
  (hok:e.ok p funcs env.length) (gZ:0<=funcs) (hf:funcs<=p.aJ.length) (hg:Good inp S st) (henv:∀ x∈env,rZ S x) (hel:env.length<=412+st) (hk:e.bH=3) :
  gV Tryz.prog 260 [.op nb 8 0 0,.agg e.c,ints env] h (aOJ h0 nb p inp st 0 (fT p (n+1) st e env S)):=by
 obtain⟨om,og,ov,H⟩:=hR
 rw[aB.aO]
 have hb:=H.box
 unfold eL at hb
 have e3:((st:Int)=3000)=False:=eq_false aA
 have ew:IntKind.i64.wrap ((st:Int)+1)=((st+1:Nat):Int):=by rw[IntWalk.i64_in _ aA];rfl
 have hnode:=(aB.fK _ _ _ _).1 hok
 have h3:¬st=3000:=by omega
 have hcap:=hg.cap
 have hgcap:=hg.vM
 have pE:=hg.later (nB st)
 have hR1:k9 h0 nb p inp S (st+1) 0 (bL h nb (eL p inp S om og ov (st+1) 0)):=⟨_,_,_,H.set (st+1) 0⟩
 have hlen:=gT hok aA
 rw[hk,show jO 3=2 from rfl]at hlen
 have hkl:e.aP.length<=1048576:=by omega
 refine mK 190 sQ aD7 aD8 Tryz.func260 ?_
 simp -dsimp -implicitDefEqProofs only[go_sem,↓reduceIte,Tryz.f260,hb,e3,ew,hk]
 refine aH.jP (aAT hp hv h0 _ nb (st+1) 0 e.aP env S funcs hR1 aA aA hkl (iR hok aA) gZ hf (λ_=>⟨pE,henv⟩) aA) ?_
 rintro r h' ⟨vs,S1,t1,c1,rfl,⟨om1,og1,ov1,H1⟩,hvl,a1,a2,a3⟩
 have oF:=H1.box
 unfold eL at oF
 simp -dsimp -implicitDefEqProofs only[go_sem,↓reduceIte,Tryz.f260,oF]
 refine⟨λhc=>?_,λhc=>?_⟩
 ·refine⟨_,_,cE _ _,0,S1,t1,c1,rfl,⟨_,_,_,H1⟩,by omega,a2,?_⟩
  rw[oD h3 aA]
  exact a3.iI aLK
 subst hc
 obtain⟨_,e2⟩:=a3.ok rfl
 obtain⟨q1,q2,q3,q4⟩:=jL hp pE aA henv (iR hok aA) hf _ _ e2
 simp only at q1 q2 q3
 try simp -dsimp -implicitDefEqProofs only[go_sem,↓reduceIte,Tryz.f260,hk]
 refine aH.jP (xC ⟨_,_,_,H1⟩ q1 a2 3 vs dQ aA aA q3.2 aA) ?_
 rintro r h2 ⟨k2,S2,c2,rfl,xP,b3⟩
 simp -dsimp -implicitDefEqProofs only[go_sem,↓reduceIte,Tryz.f260]
 refine⟨_,_,cE _ _,k2,S2,t1,c2,rfl,xP,by omega,a2,?_⟩
 rw[oD h3 aA]
 refine a3.iI ?_
 rw[gS,hk]
 exact b3
theorem b4E {p:aL} (hp:p.ok) {inp:Int} {n:Nat} (hv:aD9 p inp n) {h0 h:Heap} {nb st:Nat} {e:aB} {env:List Int} {S:eP} {funcs:Int} (hR:k9 h0 nb p inp S st 0 h) (hst:st<3000) (hn:3001<=n+1+st)
  (hok:e.ok p funcs env.length) (gZ:0<=funcs) (hf:funcs<=p.aJ.length) (hg:Good inp S st) (henv:∀ x∈env,rZ S x) (hel:env.length<=412+st) (hk:e.bH=4) :
  gV Tryz.prog 260 [.op nb 8 0 0,.agg e.c,ints env] h (aOJ h0 nb p inp st 0 (fT p (n+1) st e env S)):=by
 obtain⟨om,og,ov,H⟩:=hR
 rw[aB.aO]
 have hb:=H.box
 unfold eL at hb
 have e3:((st:Int)=3000)=False:=eq_false aA
 have ew:IntKind.i64.wrap ((st:Int)+1)=((st+1:Nat):Int):=by rw[IntWalk.i64_in _ aA];rfl
 have hnode:=(aB.fK _ _ _ _).1 hok
 have h3:¬st=3000:=by omega
 have hcap:=hg.cap
 have hgcap:=hg.vM
 have pE:=hg.later (nB st)
 have hR1:k9 h0 nb p inp S (st+1) 0 (bL h nb (eL p inp S om og ov (st+1) 0)):=⟨_,_,_,H.set (st+1) 0⟩
 have hlen:=gT hok aA
 rw[hk,show jO 4=2 from rfl]at hlen
 have hkl:e.aP.length<=1048576:=by omega
 refine mK 190 sQ aD7 aD8 Tryz.func260 ?_
 simp -dsimp -implicitDefEqProofs only[go_sem,↓reduceIte,Tryz.f260,hb,e3,ew,hk]
 refine aH.jP (aAT hp hv h0 _ nb (st+1) 0 e.aP env S funcs hR1 aA aA hkl (iR hok aA) gZ hf (λ_=>⟨pE,henv⟩) aA) ?_
 rintro r h' ⟨vs,S1,t1,c1,rfl,⟨om1,og1,ov1,H1⟩,hvl,a1,a2,a3⟩
 have oF:=H1.box
 unfold eL at oF
 simp -dsimp -implicitDefEqProofs only[go_sem,↓reduceIte,Tryz.f260,oF]
 refine⟨λhc=>?_,λhc=>?_⟩
 ·refine⟨_,_,cE _ _,0,S1,t1,c1,rfl,⟨_,_,_,H1⟩,by omega,a2,?_⟩
  rw[oD h3 aA]
  exact a3.iI aLK
 subst hc
 obtain⟨_,e2⟩:=a3.ok rfl
 obtain⟨q1,q2,q3,q4⟩:=jL hp pE aA henv (iR hok aA) hf _ _ e2
 simp only at q1 q2 q3
 try simp -dsimp -implicitDefEqProofs only[go_sem,↓reduceIte,Tryz.f260,hk]
 refine aH.jP (xC ⟨_,_,_,H1⟩ q1 a2 4 vs dQ aA aA q3.2 aA) ?_
 rintro r h2 ⟨k2,S2,c2,rfl,xP,b3⟩
 simp -dsimp -implicitDefEqProofs only[go_sem,↓reduceIte,Tryz.f260]
 refine⟨_,_,cE _ _,k2,S2,t1,c2,rfl,xP,by omega,a2,?_⟩
 rw[oD h3 aA]
 refine a3.iI ?_
 rw[gS,hk]
 exact b3
theorem b4F {p:aL} (hp:p.ok) {inp:Int} {n:Nat} (hv:aD9 p inp n) {h0 h:Heap} {nb st:Nat} {e:aB} {env:List Int} {S:eP} {funcs:Int} (hR:k9 h0 nb p inp S st 0 h) (hst:st<3000) (hn:3001<=n+1+st)
  (hok:e.ok p funcs env.length) (gZ:0<=funcs) (hf:funcs<=p.aJ.length) (hg:Good inp S st) (henv:∀ x∈env,rZ S x) (hel:env.length<=412+st) (hk:e.bH=5) :
  gV Tryz.prog 260 [.op nb 8 0 0,.agg e.c,ints env] h (aOJ h0 nb p inp st 0 (fT p (n+1) st e env S)):=by
 obtain⟨om,og,ov,H⟩:=hR
 rw[aB.aO]
 have hb:=H.box
 unfold eL at hb
 have e3:((st:Int)=3000)=False:=eq_false aA
 have ew:IntKind.i64.wrap ((st:Int)+1)=((st+1:Nat):Int):=by rw[IntWalk.i64_in _ aA];rfl
 have hnode:=(aB.fK _ _ _ _).1 hok
 have h3:¬st=3000:=by omega
 have hcap:=hg.cap
 have hgcap:=hg.vM
 have pE:=hg.later (nB st)
 have hR1:k9 h0 nb p inp S (st+1) 0 (bL h nb (eL p inp S om og ov (st+1) 0)):=⟨_,_,_,H.set (st+1) 0⟩
 have hlen:=gT hok aA
 rw[hk,show jO 5=2 from rfl]at hlen
 have hkl:e.aP.length<=1048576:=by omega
 refine mK 190 sQ aD7 aD8 Tryz.func260 ?_
 simp -dsimp -implicitDefEqProofs only[go_sem,↓reduceIte,Tryz.f260,hb,e3,ew,hk]
 refine aH.jP (aAT hp hv h0 _ nb (st+1) 0 e.aP env S funcs hR1 aA aA hkl (iR hok aA) gZ hf (λ_=>⟨pE,henv⟩) aA) ?_
 rintro r h' ⟨vs,S1,t1,c1,rfl,⟨om1,og1,ov1,H1⟩,hvl,a1,a2,a3⟩
 have oF:=H1.box
 unfold eL at oF
 simp -dsimp -implicitDefEqProofs only[go_sem,↓reduceIte,Tryz.f260,oF]
 refine⟨λhc=>?_,λhc=>?_⟩
 ·refine⟨_,_,cE _ _,0,S1,t1,c1,rfl,⟨_,_,_,H1⟩,by omega,a2,?_⟩
  rw[oD h3 aA]
  exact a3.iI aLK
 subst hc
 obtain⟨_,e2⟩:=a3.ok rfl
 obtain⟨q1,q2,q3,q4⟩:=jL hp pE aA henv (iR hok aA) hf _ _ e2
 simp only at q1 q2 q3
 try simp -dsimp -implicitDefEqProofs only[go_sem,↓reduceIte,Tryz.f260,hk]
 refine aH.jP (xC ⟨_,_,_,H1⟩ q1 a2 5 vs dQ aA aA q3.2 aA) ?_
 rintro r h2 ⟨k2,S2,c2,rfl,xP,b3⟩
 simp -dsimp -implicitDefEqProofs only[go_sem,↓reduceIte,Tryz.f260]
 refine⟨_,_,cE _ _,k2,S2,t1,c2,rfl,xP,by omega,a2,?_⟩
 rw[oD h3 aA]
 refine a3.iI ?_
 rw[gS,hk]
 exact b3
theorem b4G {p:aL} (hp:p.ok) {inp:Int} {n:Nat} (hv:aD9 p inp n) {h0 h:Heap} {nb st:Nat} {e:aB} {env:List Int} {S:eP} {funcs:Int} (hR:k9 h0 nb p inp S st 0 h) (hst:st<3000) (hn:3001<=n+1+st)
  (hok:e.ok p funcs env.length) (gZ:0<=funcs) (hf:funcs<=p.aJ.length) (hg:Good inp S st) (henv:∀ x∈env,rZ S x) (hel:env.length<=412+st) (hk:e.bH=6) :
  gV Tryz.prog 260 [.op nb 8 0 0,.agg e.c,ints env] h (aOJ h0 nb p inp st 0 (fT p (n+1) st e env S)):=by
 obtain⟨om,og,ov,H⟩:=hR
 rw[aB.aO]
 have hb:=H.box
 unfold eL at hb
 have e3:((st:Int)=3000)=False:=eq_false aA
 have ew:IntKind.i64.wrap ((st:Int)+1)=((st+1:Nat):Int):=by rw[IntWalk.i64_in _ aA];rfl
 have hnode:=(aB.fK _ _ _ _).1 hok
 have h3:¬st=3000:=by omega
 have hcap:=hg.cap
 have hgcap:=hg.vM
 have pE:=hg.later (nB st)
 have hR1:k9 h0 nb p inp S (st+1) 0 (bL h nb (eL p inp S om og ov (st+1) 0)):=⟨_,_,_,H.set (st+1) 0⟩
 have hlen:=gT hok aA
 rw[hk,show jO 6=2 from rfl]at hlen
 have hkl:e.aP.length<=1048576:=by omega
 refine mK 190 sQ aD7 aD8 Tryz.func260 ?_
 simp -dsimp -implicitDefEqProofs only[go_sem,↓reduceIte,Tryz.f260,hb,e3,ew,hk]
 refine aH.jP (aAT hp hv h0 _ nb (st+1) 0 e.aP env S funcs hR1 aA aA hkl (iR hok aA) gZ hf (λ_=>⟨pE,henv⟩) aA) ?_
 rintro r h' ⟨vs,S1,t1,c1,rfl,⟨om1,og1,ov1,H1⟩,hvl,a1,a2,a3⟩
 have oF:=H1.box
 unfold eL at oF
 simp -dsimp -implicitDefEqProofs only[go_sem,↓reduceIte,Tryz.f260,oF]
 refine⟨λhc=>?_,λhc=>?_⟩
 ·refine⟨_,_,cE _ _,0,S1,t1,c1,rfl,⟨_,_,_,H1⟩,by omega,a2,?_⟩
  rw[oD h3 aA]
  exact a3.iI aLK
 subst hc
 obtain⟨_,e2⟩:=a3.ok rfl
 obtain⟨q1,q2,q3,q4⟩:=jL hp pE aA henv (iR hok aA) hf _ _ e2
 simp only at q1 q2 q3
 try simp -dsimp -implicitDefEqProofs only[go_sem,↓reduceIte,Tryz.f260,hk]
 refine aH.jP (xC ⟨_,_,_,H1⟩ q1 a2 6 vs dQ aA aA q3.2 aA) ?_
 rintro r h2 ⟨k2,S2,c2,rfl,xP,b3⟩
 simp -dsimp -implicitDefEqProofs only[go_sem,↓reduceIte,Tryz.f260]
 refine⟨_,_,cE _ _,k2,S2,t1,c2,rfl,xP,by omega,a2,?_⟩
 rw[oD h3 aA]
 refine a3.iI ?_
 rw[gS,hk]
 exact b3
theorem b4H {p:aL} (hp:p.ok) {inp:Int} {n:Nat} (hv:aD9 p inp n) {h0 h:Heap} {nb st:Nat} {e:aB} {env:List Int} {S:eP} {funcs:Int} (hR:k9 h0 nb p inp S st 0 h) (hst:st<3000) (hn:3001<=n+1+st)
  (hok:e.ok p funcs env.length) (gZ:0<=funcs) (hf:funcs<=p.aJ.length) (hg:Good inp S st) (henv:∀ x∈env,rZ S x) (hel:env.length<=412+st) (hk:e.bH=7) :
  gV Tryz.prog 260 [.op nb 8 0 0,.agg e.c,ints env] h (aOJ h0 nb p inp st 0 (fT p (n+1) st e env S)):=by
 obtain⟨om,og,ov,H⟩:=hR
 rw[aB.aO]
 have hb:=H.box
 unfold eL at hb
 have e3:((st:Int)=3000)=False:=eq_false aA
 have ew:IntKind.i64.wrap ((st:Int)+1)=((st+1:Nat):Int):=by rw[IntWalk.i64_in _ aA];rfl
 have hnode:=(aB.fK _ _ _ _).1 hok
 have h3:¬st=3000:=by omega
 have hcap:=hg.cap
 have hgcap:=hg.vM
 have pE:=hg.later (nB st)
 have hR1:k9 h0 nb p inp S (st+1) 0 (bL h nb (eL p inp S om og ov (st+1) 0)):=⟨_,_,_,H.set (st+1) 0⟩
 have hlen:=gT hok aA
 rw[hk,show jO 7=1 from rfl]at hlen
 have hkl:e.aP.length<=1048576:=by omega
 refine mK 190 sQ aD7 aD8 Tryz.func260 ?_
 simp -dsimp -implicitDefEqProofs only[go_sem,↓reduceIte,Tryz.f260,hb,e3,ew,hk]
 refine aH.jP (aAT hp hv h0 _ nb (st+1) 0 e.aP env S funcs hR1 aA aA hkl (iR hok aA) gZ hf (λ_=>⟨pE,henv⟩) aA) ?_
 rintro r h' ⟨vs,S1,t1,c1,rfl,⟨om1,og1,ov1,H1⟩,hvl,a1,a2,a3⟩
 have oF:=H1.box
 unfold eL at oF
 simp -dsimp -implicitDefEqProofs only[go_sem,↓reduceIte,Tryz.f260,oF]
 refine⟨λhc=>?_,λhc=>?_⟩
 ·refine⟨_,_,cE _ _,0,S1,t1,c1,rfl,⟨_,_,_,H1⟩,by omega,a2,?_⟩
  rw[oD h3 aA]
  exact a3.iI aLK
 subst hc
 obtain⟨_,e2⟩:=a3.ok rfl
 obtain⟨q1,q2,q3,q4⟩:=jL hp pE aA henv (iR hok aA) hf _ _ e2
 simp only at q1 q2 q3
 try simp -dsimp -implicitDefEqProofs only[go_sem,↓reduceIte,Tryz.f260,hk]
 refine aH.jP (xC ⟨_,_,_,H1⟩ q1 a2 7 vs dQ aA aA q3.2 aA) ?_
 rintro r h2 ⟨k2,S2,c2,rfl,xP,b3⟩
 simp -dsimp -implicitDefEqProofs only[go_sem,↓reduceIte,Tryz.f260]
 refine⟨_,_,cE _ _,k2,S2,t1,c2,rfl,xP,by omega,a2,?_⟩
 rw[oD h3 aA]
 refine a3.iI ?_
 rw[gS,hk]
 exact b3
theorem bXJ {p:aL} (hp:p.ok) {inp:Int} {n:Nat} (hv:aD9 p inp n) {h0 h:Heap} {nb st:Nat} {e:aB} {env:List Int} {S:eP} {funcs:Int} (hR:k9 h0 nb p inp S st 0 h) (hst:st<3000) (hn:3001<=n+1+st)
  (hok:e.ok p funcs env.length) (gZ:0<=funcs) (hf:funcs<=p.aJ.length) (hg:Good inp S st) (henv:∀ x∈env,rZ S x) (hel:env.length<=412+st) (hk:e.bH=10) :
  gV Tryz.prog 260 [.op nb 8 0 0,.agg e.c,ints env] h (aOJ h0 nb p inp st 0 (fT p (n+1) st e env S)):=by
 obtain⟨om,og,ov,H⟩:=hR
 rw[aB.aO]
 have hb:=H.box
 unfold eL at hb
 have e3:((st:Int)=3000)=False:=eq_false aA
 have ew:IntKind.i64.wrap ((st:Int)+1)=((st+1:Nat):Int):=by rw[IntWalk.i64_in _ aA];rfl
 have hnode:=(aB.fK _ _ _ _).1 hok
 have h3:¬st=3000:=by omega
 have hcap:=hg.cap
 have hgcap:=hg.vM
 have pE:=hg.later (nB st)
 have hR1:k9 h0 nb p inp S (st+1) 0 (bL h nb (eL p inp S om og ov (st+1) 0)):=⟨_,_,_,H.set (st+1) 0⟩
 obtain⟨f,F⟩:=aAS hp hok hf (.inl hk)
 have hkl:e.aP.length<=1048576:=by have:=F.kids;have:=F.params;omega
 refine mK 190 sQ aD7 aD8 Tryz.func260 ?_
 simp -dsimp -implicitDefEqProofs only[go_sem,↓reduceIte,Tryz.f260,hb,e3,ew,hk]
 refine aH.jP (aAT hp hv h0 _ nb (st+1) 0 e.aP env S funcs hR1 aA aA hkl (iR hok aA) gZ hf (λ_=>⟨pE,henv⟩) aA) ?_
 rintro r h' ⟨vs,S1,t1,c1,rfl,⟨om1,og1,ov1,H1⟩,hvl,a1,a2,a3⟩
 have oF:=H1.box
 unfold eL at oF
 simp -dsimp -implicitDefEqProofs only[go_sem,↓reduceIte,Tryz.f260,oF]
 refine⟨λhc=>?_,λhc=>?_⟩
 ·refine⟨_,_,cE _ _,0,S1,t1,c1,rfl,⟨_,_,_,H1⟩,by omega,a2,?_⟩
  rw[aIQ h3 hk]
  exact a3.iI aLK
 subst hc
 obtain⟨_,e2⟩:=a3.ok rfl
 obtain⟨q1,q2,q3,q4⟩:=jL hp pE aA henv (iR hok aA) hf _ _ e2
 simp only at q1 q2 q3
 try simp -dsimp -implicitDefEqProofs only[go_sem,↓reduceIte,Tryz.f260,hk,oF,F.get,F.out,aX.aO,aB.ld5]
 have f1:=F.lo
 have f2:=F.hi
 have f3:=F.pk
 have f4:=F.pk2
 have f5:=F.kids
 have f6:=F.params
 refine⟨f1,f2,f3,by omega,?_⟩
 refine aH.jP (hv h0 _ nb t1 0 (p.out e.bZ e.dR) vs S1 e.bZ ⟨_,_,_,H1⟩ aA aA bBI f1 aA (λ_=>⟨q1,q3.2⟩) aA) ?_
 rintro r h2 ⟨k2,S2,t2,c2,rfl,xP,b1,b2,b3⟩
 simp -dsimp -implicitDefEqProofs only[go_sem,↓reduceIte,Tryz.f260]
 refine⟨_,_,cE _ _,k2,S2,t2,c2,rfl,xP,by omega,b2,?_⟩
 rw[aIQ h3 hk]
 exact a3.iI b3
theorem bXK {p:aL} (hp:p.ok) {inp:Int} {n:Nat} (hv:aD9 p inp n) {h0 h:Heap} {nb st:Nat} {e:aB} {env:List Int} {S:eP} {funcs:Int} (hR:k9 h0 nb p inp S st 0 h) (hst:st<3000) (hn:3001<=n+1+st)
  (hok:e.ok p funcs env.length) (gZ:0<=funcs) (hf:funcs<=p.aJ.length) (hg:Good inp S st) (henv:∀ x∈env,rZ S x) (hel:env.length<=412+st) (hk:e.bH=11) :
  gV Tryz.prog 260 [.op nb 8 0 0,.agg e.c,ints env] h (aOJ h0 nb p inp st 0 (fT p (n+1) st e env S)):=by
 obtain⟨om,og,ov,H⟩:=hR
 rw[aB.aO]
 have hb:=H.box
 unfold eL at hb
 have e3:((st:Int)=3000)=False:=eq_false aA
 have ew:IntKind.i64.wrap ((st:Int)+1)=((st+1:Nat):Int):=by rw[IntWalk.i64_in _ aA];rfl
 have hnode:=(aB.fK _ _ _ _).1 hok
 have h3:¬st=3000:=by omega
 have hcap:=hg.cap
 have hgcap:=hg.vM
 have pE:=hg.later (nB st)
 have hR1:k9 h0 nb p inp S (st+1) 0 (bL h nb (eL p inp S om og ov (st+1) 0)):=⟨_,_,_,H.set (st+1) 0⟩
 obtain⟨f,F⟩:=aAS hp hok hf (.inr hk)
 have hkl:e.aP.length<=1048576:=by have:=F.kids;have:=F.params;omega
 have f1:=F.lo
 have f2:=F.hi
 have f3:=F.pk
 have f4:=F.pk2
 have f5:=F.kids
 have f6:=F.params
 have f7:=F.loop hk
 have f8:=F.outs
 refine mK 190 sQ aD7 aD8 Tryz.func260 ?_
 simp -dsimp -implicitDefEqProofs only[go_sem,↓reduceIte,Tryz.f260,hb,e3,ew,hk]
 refine aH.jP (aAT hp hv h0 _ nb (st+1) 0 e.aP env S funcs hR1 aA aA hkl (iR hok aA) gZ hf (λ_=>⟨pE,henv⟩) aA) ?_
 rintro r h' ⟨vs,S1,t1,c1,rfl,⟨om1,og1,ov1,H1⟩,hvl,a1,a2,a3⟩
 have oF:=H1.box
 unfold eL at oF
 simp -dsimp -implicitDefEqProofs only[go_sem,↓reduceIte,Tryz.f260,oF]
 refine⟨λhc=>?_,λhc=>?_⟩
 ·refine⟨_,_,cE _ _,0,S1,t1,c1,rfl,⟨_,_,_,H1⟩,by omega,a2,?_⟩
  rw[aIR h3 hk]
  exact a3.iI aLK
 subst hc
 obtain⟨_,e2⟩:=a3.ok rfl
 obtain⟨q1,q2,q3,q4⟩:=jL hp pE aA henv (iR hok aA) hf _ _ e2
 simp only at q1 q2 q3
 try simp -dsimp -implicitDefEqProofs only[go_sem,↓reduceIte,Tryz.f260,hk]
 have hiter:∀ (k:Nat) (us:List Int) (S2:eP) (t:Nat) (c:Int),oO (xB (λvs t S=>pI (λt e S=>fT p n t e vs S) (p.outs e.bZ) t S) k vs t1 S1) (us,S2) t c->k<=e.dB.toNat->(¬c=0∨k=e.dB.toNat)->oO (yT 0 (fT p (n+1) st e env S)) (us.getD e.dR.toNat 0,S2) t c:=λk us S2 t c ho hk1 hor=>by
  rw[aIR h3 hk]
  refine a3.iI ?_
  rw[gS]
  refine oO.then (v:=(us,S2)) (t:=t) (c:=c) ?_ (k7 _ _ _)
  rcases hor with hc|rfl
  ·have:=ho.err hc
   rw[aX7 _ k hk1 this]
   exact tH _ _ hc
  ·exact ho
 have hfl:∀ us t S2,Good inp S2 t->(us.length=f.bG.length/\∀ x∈us,rZ S2 x)->t<=3000->okQ (aMW inp S2 t f.bG.length) (pI (λt e S=>fT p n t e us S) (p.outs e.bZ) t S2):=λus w S2 hg' hv' hw=>by
  rw[F.eq]
  exact jL hp hg' hw hv'.2 (funcs:=e.bZ) (λx hx=>by rw[hv'.1,f7.2.2];exact F.oks x hx) aA
 refine cY sQ aD7 aD8 (λx:Nat×List Int×Nat×Int×eP×Heap=>[(0,.op nb 8 0 0),(4,.ip 5 [[I 11,I e.bZ,I e.dR,I e.dB,dA 5 aB.c e.aP]] 0 0),(9,ints x.2.1),(10,I x.1)]) (λx=>x.2.2.2.2.2) (λx=>x.1<=e.dB.toNat/\x.2.1.length=f.bG.length/\t1<=x.2.2.1/\x.2.2.1<=3000/\oO (xB (λvs t S=>pI (λt e S=>fT p n t e vs S) (p.outs e.bZ) t S) x.1 vs t1 S1) (x.2.1,x.2.2.2.2.1) x.2.2.1 x.2.2.2.1/\k9 h0 nb p inp x.2.2.2.2.1 x.2.2.1 x.2.2.2.1 x.2.2.2.2.2) (λx=>e.dB.toNat-x.1) (0,vs,t1,0,S1,h') ⟨by simp[eE,dJ],Heap.le_refl _,iF _,by simp only;omega,eV _,a2,aAR _ _,⟨_,_,_,H1⟩⟩ ?_
 rintro⟨k,us,t,c,S2,g⟩ ⟨hk1,hul,ht0,ht,ho,⟨om2,og2,ov2,H2⟩⟩
 simp only at hk1 hul ht0 ht ho H2 ⊢
 have mL:=H2.box
 unfold eL at mL
 have gp:us[e.dR.toNat]?=some (us.getD e.dR.toNat 0):=gA aA
 simp -dsimp -implicitDefEqProofs only[go_sem,↓reduceIte,Tryz.f260,mL,F.get,aX.aO,gp]
 refine⟨λhlt=>⟨λhc=>⟨f1,f2,?_⟩,λhc=>?_⟩,λhge=>?_⟩
 ·subst hc
  obtain⟨_,e3⟩:=oO.ok (c:=0) (by rw[gS];exact ho) rfl
  obtain⟨w1,w2,w3,w4⟩:=aH4 hfl k vs t1 S1 q1 ⟨by omega,q3.2⟩ a2 _ _ e3
  simp only at w1 w2 w3
  refine aH.jP (aAT hp hv h0 _ nb t 0 f.bG us S2 e.bZ ⟨_,_,_,H2⟩ ht aA aA (by rw[hul,f7.2.2];exact F.oks) f1 aA (λ_=>⟨w1,w3.2⟩) aA) ?_
  rintro r h2 ⟨l2,S3,t2,c2,rfl,xP,hl2,b1,b2,b3⟩
  simp -dsimp -implicitDefEqProofs only[go_sem,↓reduceIte,Tryz.f260]
  refine⟨(k+1,l2,t2,c2,S3,h2),⟨rfl,by rw[IntWalk.i64_in _ aA];rfl⟩,Heap.le_refl _,⟨by omega,hl2,by simp only;omega,b2,?_,xP⟩,by simp only;omega⟩
  simp only
  rw[aFP]
  refine ho.then ?_
  rw[F.eq]
  exact b3
 ·exact⟨f3,by omega,_,_,cE _ _,_,S2,t,c,rfl,⟨_,_,_,H2⟩,by omega,ht,hiter k us S2 t c ho hk1 (.inl hc)⟩
 ·exact⟨f3,by omega,_,_,cE _ _,_,S2,t,c,rfl,⟨_,_,_,H2⟩,by omega,ht,hiter k us S2 t c ho hk1 (.inr aA)⟩
theorem reg {p:aL} (hp:p.ok) {inp:Int}:∀ n,aD9 p inp n
 |0=>λh0 h nb st c e env S funcs hb hst hn=>by omega
 |n+1=>λh0 h nb st c e env S funcs hb hst hn hok gZ hf hgo hel=>by
  have hv:=reg hp (inp:=inp) n
  by_cases hs:¬c=0∨st=3000
  ·exact bKZ hb hst hs
  have hc:c=0:=bM7 λq=>hs (.inl q)
  have h3:st<3000:=by
   rcases cX st 3000 with h|h
   ·exact h
   ·exact absurd (.inr aA) hs
  subst hc
  obtain⟨hg,henv⟩:=hgo rfl
  rcases aD5 ((aB.fK _ _ _ _).1 hok).1 with hk|hk|hk|hk|hk|hk|hk|hk|hk|hk|hk
  ·exact b39 hp hv hb h3 hn hok gZ hf hg henv hel hk
  ·exact b4A hp hv hb h3 hn hok gZ hf hg henv hel hk
  ·exact b4D hp hv hb h3 hn hok gZ hf hg henv hel hk
  ·exact b4E hp hv hb h3 hn hok gZ hf hg henv hel hk
  ·exact b4F hp hv hb h3 hn hok gZ hf hg henv hel hk
  ·exact b4G hp hv hb h3 hn hok gZ hf hg henv hel hk
  ·exact b4H hp hv hb h3 hn hok gZ hf hg henv hel hk
  ·exact b4C hp hv hb h3 hn hok gZ hf hg henv hel hk
  ·exact b4B hp hv hb h3 hn hok gZ hf hg henv hel hk
  ·exact bXJ hp hv hb h3 hn hok gZ hf hg henv hel hk
  ·exact bXK hp hv hb h3 hn hok gZ hf hg henv hel hk
structure sZ where
 aIS:Int
 cU:List cK
 aIT:List fS
 bG:List Int
def sZ.c (x:sZ):List aC:=[I x.aIS,dA 4 cK.c x.cU,dA 2 fS.c x.aIT,ints x.bG]
theorem sZ.aO (x:sZ):x.c=[I x.aIS,dA 4 cK.c x.cU,dA 2 fS.c x.aIT,ints x.bG]:=rfl
def pJ (p:aL) (f:Int) (args:List Int):sZ×Int:=match aWN p f args with
 | .ok ((l,S),_)=>(⟨args.length,S.code,S.guards,l⟩,0)
 | .error c=>(⟨0,[],[],[]⟩,c)
theorem aB6.seal {bx:eP->Option Nat->Option Nat->Option Nat->bQ} {h0 h F hh:Heap} {nb:Nat} {inp:Int} {S:eP} {om og ov:Option Nat} (H:aB6 bx h0 nb S om og ov h) (l:List Int) (d:Int)
  (hF:∀ n,some n=om∨some n=og->F n=h n) (hl:hh.le F) (hn:∀ n,some n=om∨some n=og->hh n=none) :
  Shift (.iJ [.agg [I inp,j3 4 S.code.length om,j3 2 S.guards.length og,ints l],I d]) F (.iJ [.agg [I inp,dA 4 cK.c S.code,dA 2 fS.c S.guards,ints l],I d]) hh:=by
 have hc:=H.code
 have hg:=H.gds
 have ap:=H.apart
 cases om with
 |none =>
  have r8:S.code=[]:=jZ.1 hc
  cases og with
  |none =>
   have hg0:S.guards=[]:=jZ.1 hg
   rw[r8,hg0]
   exact Shift.of (Sub.iJ (.cons (Sub.agg (.cons (.refl _) (.cons (Sub.nil _ _) (.cons (Sub.nil _ _) (.cons (.refl _) .nil))))) (.cons (.refl _) .nil))) hl
  |some g =>
   have hgF:=(hF g (.inr rfl)).trans hg.2
   rw[r8]
   refine Shift.trans (Shift.of (Sub.iJ (.cons (Sub.agg (.cons (.refl _) (.cons (Sub.nil 4 false) (.cons (.refl _) (.cons (.refl _) .nil))))) (.cons (.refl _) .nil))) (Heap.le_refl F)) ?_
   refine oT (n:=g) (sz:=2) (S.guards.map fS.c) (hn g (.inr rfl)) ?_ aW4 ?_
   ·intro q
    by_cases e:q=g
    ·subst e;right;rw[bB];exact hgF.symm
    ·rw[aE _ _ _ _ e];exact hl q
   ·simp[aC.iE,oZ,j3,gX]
 |some m =>
  have hmF:=(hF m (.inl rfl)).trans hc.2
  cases og with
  |none =>
   have hg0:S.guards=[]:=jZ.1 hg
   rw[hg0]
   refine Shift.trans (Shift.of (Sub.iJ (.cons (Sub.agg (.cons (.refl _) (.cons (.refl _) (.cons (Sub.nil 2 false) (.cons (.refl _) .nil))))) (.cons (.refl _) .nil))) (Heap.le_refl F)) ?_
   refine oT (n:=m) (sz:=4) (S.code.map cK.c) (hn m (.inl rfl)) ?_ aW4 ?_
   ·intro q
    by_cases e:q=m
    ·subst e;right;rw[bB];exact hmF.symm
    ·rw[aE _ _ _ _ e];exact hl q
   ·simp[aC.iE,oZ,j3,gX]
  |some g =>
   have hgF:=(hF g (.inr rfl)).trans hg.2
   have hne:¬g=m:=λe=>((ap g).2.1 iX).1 rfl
   refine Shift.trans (b:=.iJ [.agg [I inp,j3 4 S.code.length (some m),dA 2 fS.c S.guards,ints l],I d]) (h2:=bL hh m (.row 4 (rowsOf cK.c S.code))) ?_ ?_
   ·refine oT (n:=g) (sz:=2) (S.guards.map fS.c) (by rw[aE _ _ _ _ hne];exact hn g (.inr rfl)) ?_ bRX ?_
    ·intro q
     by_cases e:q=g
     ·subst e;right;rw[bB];exact hgF.symm
     ·rw[aE _ _ _ _ e]
      by_cases e2:q=m
      ·subst e2;right;rw[bB];exact hmF.symm
      ·rw[aE _ _ _ _ e2];exact hl q
    ·have hne':¬m=g:=λe=>hne e.symm
     simp[aC.iE,oZ,j3,gX,hne']
   ·refine oT (n:=m) (sz:=4) (S.code.map cK.c) (hn m (.inl rfl)) (Heap.le_refl _) aW4 ?_
    simp[aC.iE,oZ,j3,gX]
theorem aB6.keep {h0 h:Heap} {nb:Nat} {bx:eP->Option Nat->Option Nat->Option Nat->bQ} {S:eP} {om og ov:Option Nat} (H:aB6 bx h0 nb S om og ov h) {n:Nat} {o:bQ} (hn:h0 n=some o):h n=some o/\¬n=nb/\¬some n=om/\¬some n=og/\¬some n=ov:=by
 have hne:∀ q,¬(q=nb∨some q=om∨some q=og∨some q=ov)∨h0 q=.none:=λq=>by
  by_cases e:q=nb∨some q=om∨some q=og∨some q=ov
  ·exact .inr (H.fresh q e)
  ·exact .inl e
 have h1:¬(n=nb∨some n=om∨some n=og∨some n=ov):=by
  rcases hne n with e|e
  ·exact e
  ·rw[hn]at e;cases e
 have e1:¬n=nb:=λe=>h1 (.inl e)
 have e2:¬some n=om:=λe=>h1 (.inr (.inl e))
 have e3:¬some n=og:=λe=>h1 (.inr (.inr (.inl e)))
 have e4:¬some n=ov:=λe=>h1 (.inr (.inr (.inr e)))
 exact⟨(H.upto n e1 e2 e3 e4).trans hn,e1,e2,e3,e4⟩
theorem aB6.le {h0 h:Heap} {nb:Nat} {bx:eP->Option Nat->Option Nat->Option Nat->bQ} {S:eP} {om og ov:Option Nat} (H:aB6 bx h0 nb S om og ov h):h0.le h:=λq=>by
 cases e:h0 q with
 |none=>exact .inl rfl
 |some o=>right;exact(H.keep e).1.symm
theorem a98 {h0:Heap} {nb:Nat} (p:aL) (inp:Int) (hn:h0 nb=none):k9 h0 nb p inp ⟨[],[],[]⟩ 0 0 (bL h0 nb (eL p inp ⟨[],[],[]⟩ none none none 0 0)) :=
 ⟨none,none,none,bB _ _ _,aUZ _ _ _ _,rfl,rfl,rfl,λn h=>bRR,λn h1 _ _ _=>aE _ _ _ _ h1⟩
def aGE (args:List Int) (k:Nat):eP:=⟨(List.range k).map λi:Nat=>⟨1,0,0,(i:Int)⟩,args.take k,[]⟩
def aMY (k:Nat):List Int:=(List.range k).map λi:Nat=>(i:Int)
theorem a48 (args:List Int):aGE args args.length=inS args:=by rw[aGE,eJ];rfl
theorem aIU {args:List Int} {k:Nat} (hk:k<args.length):aGE args (k+1)=(aGE args k).put ⟨1,0,0,(k:Int)⟩ args[k]:=by
 rw[aGE,aGE,eP.put,List.range_succ,xX,kF hk];rfl
theorem aX9 (k:Nat):aMY (k+1)=aMY k++[(k:Int)]:=by rw[aMY,aMY,List.range_succ,xX];rfl
@[go_sem] def bD2:List Nat:=[0,1,2,3,6,7,8,9,10,11,12,28,30,44,45,46,47,77]
@[go_sem] def bTV:List Nat:=[3,43,57]
@[go_sem] def bTW:Marks:=λid=>match id with|6=>([9],(.op 0 (.op 1 (.op 2 (.op 3 (.op 4 (.op 5 (.op 6 (.op 7 (.op 8 (.op 9 (.op 10 .nil))))))))))),[])|15=>([4,5],(.op 0 (.op 1 (.op 2 (.op 3 (.op 4 (.op 5 (.op 6 .nil))))))),[(4,5)])|_=>([],.nil,[])
theorem bXL {p:aL} (hp:p.ok) (hps:p.s<=4194304) (f:Int) (hf:0<=f/\f<p.aJ.length) (args:List Int) (ha:rH args) (bXM:args.length<=12) (hl:∀ F,p.aJ[f.toNat]?=some F->(args.length:Int)=F.bN) :
  fQ Tryz.prog 215 [.agg p.c,I f,ints args] (.iJ [.agg (pJ p f args).1.c,I (pJ p f args).2]):=by
 have hif:=bJX p f hps
 obtain⟨F,ef,hF1,hF2,hF3,hF4⟩:=aIM hp hf
 have hla:=hl F ef
 rw[if_pos hp,if_pos aA]at hif
 simp only[aL.aO]at hif ⊢
 have han:=gE args F.bN
 rw[decide_eq_true (show(args.length:Int)=F.bN/\rH args from⟨hla,ha⟩)]at han
 refine aB4 87 bD2 bTV bTW Tryz.func215 λh=>?_
 simp -dsimp -implicitDefEqProofs only[go_sem,↓reduceIte,Tryz.f215,ef,aX.aO]
 intro n6 z6
 try simp -dsimp -implicitDefEqProofs only[go_sem,↓reduceIte,Tryz.f215,ef,aX.aO]
 first|refine aH.mk (hif) ?_|refine aG.mk (hif) ?_|refine aH.cN (hif) ?_|refine aG.mk (cG.fO (hif)) ?_
 simp -dsimp -implicitDefEqProofs only[go_sem,↓reduceIte,Tryz.f215,ef,aX.aO]
 refine⟨hf.1,hf.2,?_⟩
 first|refine aH.mk (han) ?_|refine aG.mk (han) ?_|refine aH.cN (han) ?_|refine aG.mk (cG.fO (han)) ?_
 simp -dsimp -implicitDefEqProofs only[go_sem,↓reduceIte,Tryz.f215,ef,aX.aO]
 refine⟨hf.1,hf.2,λnb ⟨hb6,zb⟩=>⟨cI,λ_=>?_⟩⟩
 obtain⟨wM,lA,lB,aIJ⟩:=cB (show ¬nb=n6 from hb6)
 generalize hh6:bL h n6 (.row 4 [[.v (.int .i64 0),.v .aU,.v .aU,.v .aU]])=h6
 have zb6:h6 nb=none:=by rw[←hh6,aE _ _ _ _ wM];exact zb
 have hin:=a98 (h0:=h6) p F.bN zb6
 refine cY bD2 bTV bTW (λx:Nat×Heap×Option Nat=>[(1,I f),(3,.ip 1 [[dA 3 aX.c p.aJ]] 0 0),(6,.op n6 4 0 0),(9,.op nb 8 0 0),(10,nW 1 x.1 x.2.2),(44,ints args),(45,I args.length),(46,I x.1)]) (λx=>dG x.2.1 (.row 1 (((aMY x.1).map λn=>[I n]).map (List.map .v))) x.2.2) (λx=>x.1<=args.length/\k9 h6 nb p F.bN (aGE args x.1) 0 0 x.2.1/\lK x.2.1 (aMY x.1) x.2.2) (λx=>args.length-x.1) (0,bL h6 nb (eL p F.bN ⟨[],[],[]⟩ none none none 0 0),none) ⟨by simp[eE,dJ,nW],Heap.le_refl _,iF _,hin,rfl⟩ ?_
 rintro⟨k,g,o⟩ ⟨hk,hR,hos⟩
 simp only at hk hR hos ⊢
 have hel:(aMY k).length=k:=by simp[aMY]
 rcases cX k args.length with hlt|hge
 ·have ek:args[k]?=some args[k]:=cJ hlt
  have hsl:(aGE args k).code.length=(aGE args k).iM.length:=by simp[aGE];omega
  have hvl:(aGE args k).iM.length=k:=by simp[aGE];omega
  have hy:=aX9 k
  cases o with
  |none =>
   rw[cZ]at hos
   have k0:k=0:=by rw[←hel,hos];rfl
   subst k0
   simp -dsimp -implicitDefEqProofs only[go_sem,↓reduceIte,Tryz.f215,dK,aN,hlt,ek]
   refine aH.jP (aU0 hR ⟨1,0,0,((0:Nat):Int)⟩ args[0] hsl aA) ?_
   rintro r h' ⟨rfl,qM⟩
   simp -dsimp -implicitDefEqProofs only[go_sem,↓reduceIte,Tryz.f215]
   refine⟨cI,cI,cI,λb mL=>⟨(1,h',some b),⟨rfl,by rw[IntWalk.i64_in _ aA];rfl⟩,?_,⟨hlt,by rw[aIU hlt];exact qM,mL⟩,by simp only;omega⟩⟩
   rw[hvl]
   exact Heap.le_refl _
  |some m =>
   rw[bY]at hos
   simp -dsimp -implicitDefEqProofs only[go_sem,↓reduceIte,Tryz.f215,bU,aK,hlt,ek]
   refine aH.jP (aU0 (hR.over hos) ⟨1,0,0,(k:Int)⟩ args[k] hsl aA) ?_
   rintro r h' ⟨rfl,qM⟩
   obtain⟨g2,rfl,hg2,qM⟩:=qM.base (hR.none hos)
   simp -dsimp -implicitDefEqProofs only[go_sem,↓reduceIte,Tryz.f215]
   refine⟨cI,cI,cI,Nat.le_of_eq hel.symm,by omega,by omega,λb ⟨hbm,mL⟩=>⟨(k+1,g2,some b),⟨rfl,by rw[IntWalk.i64_in _ aA];rfl⟩,?_,⟨hlt,by rw[aIU hlt];exact qM,mL⟩,by simp only;omega⟩⟩
   simp only[aK]
   rw[hvl,hy,←jE (λn=>I n),hel]
   exact pC hg2
 ·have hk':k=args.length:=by omega
  subst hk'
  rw[a48]at hR
  have hg0:=aUX args ha bXM
  rw[hla]at hg0
  have hie:aMY args.length=inE args:=rfl
  have hall:∀ {h0 g:Heap},k9 h0 nb p F.bN (inS args) 0 0 g->gV Tryz.prog 242 [.op nb 8 0 0,dA 5 aB.c F.bG,ints (inE args)] g (bTS h0 nb p F.bN 0 0 F.bG.length (pI (λt e S=>fT p 3001 t e (inE args) S) F.bG 0 (inS args))):=λhR =>
   aAT hp (reg hp 3001) _ _ nb 0 0 F.bG (inE args) (inS args) f hR aA aA aA (λx hx=>by rw[←hie,hel,hla];exact hF4 x hx) hf.1 aA (λ_=>⟨hg0,a90 args⟩) (by rw[←hie,hel];omega)
  cases o with
  |none =>
   rw[cZ,hie]at hos
   simp -dsimp -implicitDefEqProofs only[go_sem,↓reduceIte,Tryz.f215,dK,aN,cO,eK,ef,aX.aO]
   refine⟨hf.1,hf.2,aH.jP (gV.sub (.cons (.refl _) (.cons (.refl _) (.cons (by rw[hos];exact Sub.loose _ _ _) .nil))) (hall hR)) ?_⟩
   rintro r h2 ⟨l,S2,t2,c2,rfl,⟨om,og,ov,H2⟩,hll,a1,a2,a3⟩
   have mL:=H2.box
   unfold eL at mL
   have hz:=H2.keep (n:=n6) bB0
   have hz1:=hz.1
   simp -dsimp -implicitDefEqProofs only[go_sem,↓reduceIte,Tryz.f215,mL,hz1,lA,lB,aE]
   generalize hE:h2=h2H at *
   have hle:h.le h2H:=by
    have h1:=H2.le
    rw[←hh6]at h1
    intro q
    by_cases e:q=n6
    ·subst e;exact .inl z6
    ·have:=h1 q
     rwa [aE _ _ _ _ e]at this
   have hfr:∀ n,some n=om∨some n=og->h n=none/\¬n=n6/\¬n=nb:=λn hn=>by
    have h1:=H2.fresh n bBE
    have h3:¬n=n6:=λe=>by rw[←hh6,e,bB]at h1;cases h1
    refine⟨by rwa [←hh6,aE _ _ _ _ h3]at h1,h3,λe=>?_⟩
    rcases hn with hn|hn
    ·exact((H2.apart n).1 e).1 hn
    ·exact((H2.apart n).1 e).2.1 hn
   refine⟨λhc=>?_,λhc=>⟨by rw[fY,fY];rfl,?_⟩⟩
   ·have e2:pJ p f args=(⟨0,[],[],[]⟩,c2):=by
     rw[gS]at a3
     rw[pJ,aWN,hF3,a3.err hc]
    rw[e2]
    exact Shift.of (Sub.iJ (.cons (Sub.agg (.cons (.refl _) (.cons (Sub.nil 4 false) (.cons (Sub.nil 2 false) (.cons (Sub.nil 1 false) .nil))))) (.cons (.refl _) .nil))) (Heap.aW z6 (Heap.aW zb (hle)))
   ·obtain⟨_,e1⟩:=a3.ok hc
    have e2:pJ p f args=(⟨args.length,S2.code,S2.guards,l⟩,0):=by
     rw[pJ,aWN,hF3,e1]
    rw[e2,sZ.aO,hla]
    refine H2.seal l 0 (λn hn=>?_) (Heap.aW z6 (Heap.aW zb (hle))) (λn hn=>(hfr n hn).1)
    obtain⟨v1,v2,v3⟩:=hfr n hn
    rw[aE _ _ _ _ v2,aE _ _ _ _ v3]
  |some m =>
   rw[bY]at hos
   simp -dsimp -implicitDefEqProofs only[go_sem,↓reduceIte,Tryz.f215,bU,aK,cO,eK,ef,aX.aO]
   obtain⟨kZ,fC,fD,nJ⟩:=cB (show ¬nb=m from λe=>by obtain⟨_,_,_,H1⟩:=hR;have:=H1.box;rw[e,hos]at this;cases this)
   refine⟨hf.1,hf.2,aH.aP9 rfl rfl kZ (by rw[lM];exact hel.symm) hos ?_⟩
   refine gV.mono (hall (hR.over (o:=.gone) hos)) ?_
   rintro r h2 ⟨l,S2,t2,c2,rfl,qM,hll,a1,a2,a3⟩
   obtain⟨g3,rfl,hg3,⟨om,og,ov,H2⟩⟩:=qM.base (hR.none hos)
   have mL:=H2.box
   unfold eL at mL
   have hz:=H2.keep (n:=n6) bB0
   have hz1:=hz.1
   obtain⟨a99,bAA,bAB,bXO⟩:=cB (show ¬n6=m from λe=>by rw[e,hg3]at hz1;cases hz1)
   simp -dsimp -implicitDefEqProofs only[go_sem,↓reduceIte,Tryz.f215,mL,hz1,lA,fC,lB,bAA,fD,bAB,aE]
   have hgo:∀ n,some n=om∨some n=og->¬n=m:=λn hn e=>by
    have:=(H2.apart n).2.2.2 (by rw[e];exact hg3)
    rcases hn with hn|hn
    ·exact this.2.1 hn
    ·exact this.2.2.1 hn
   have hhm:h m=none:=by
    have h1:=hR.none hos
    rw[←hh6,aE _ _ _ _ (λe=>a99 e.symm)]at h1
    exact h1
   generalize hE:g3=h2H at *
   have hle:h.le h2H:=by
    have h1:=H2.le
    rw[←hh6]at h1
    intro q
    by_cases e:q=n6
    ·subst e;exact .inl z6
    ·have:=h1 q
     rwa [aE _ _ _ _ e]at this
   have hfr:∀ n,some n=om∨some n=og->h n=none/\¬n=n6/\¬n=nb:=λn hn=>by
    have h1:=H2.fresh n bBE
    have h3:¬n=n6:=λe=>by rw[←hh6,e,bB]at h1;cases h1
    refine⟨by rwa [←hh6,aE _ _ _ _ h3]at h1,h3,λe=>?_⟩
    rcases hn with hn|hn
    ·exact((H2.apart n).1 e).1 hn
    ·exact((H2.apart n).1 e).2.1 hn
   refine⟨λhc=>?_,λhc=>⟨by rw[fY,fY];rfl,?_⟩⟩
   ·have e2:pJ p f args=(⟨0,[],[],[]⟩,c2):=by
     rw[gS]at a3
     rw[pJ,aWN,hF3,a3.err hc]
    rw[e2]
    exact Shift.of (Sub.iJ (.cons (Sub.agg (.cons (.refl _) (.cons (Sub.nil 4 false) (.cons (Sub.nil 2 false) (.cons (Sub.nil 1 false) .nil))))) (.cons (.refl _) .nil))) (Heap.aW z6 (Heap.aW zb (Heap.aW hhm hle)))
   ·obtain⟨_,e1⟩:=a3.ok hc
    have e2:pJ p f args=(⟨args.length,S2.code,S2.guards,l⟩,0):=by
     rw[pJ,aWN,hF3,e1]
    rw[e2,sZ.aO,hla]
    refine H2.seal l 0 (λn hn=>?_) (Heap.aW z6 (Heap.aW zb (Heap.aW hhm hle))) (λn hn=>(hfr n hn).1)
    obtain⟨v1,v2,v3⟩:=hfr n hn
    rw[aE _ _ _ _ v2,aE _ _ _ _ v3,aE _ _ _ _ (hgo n hn)]
def opsOf (c:cK):List Int:=if 3<=c.xK/\c.xK<=6 then[c.fA,c.fB]else if c.xK=7 then[c.fA]else[]
def aBW (l:List Int) (b:List Bool):List Bool:=l.foldl (λb r=>b.set r.toNat true) b
def x9 (k:Nat) (l:List Int) (b:List Bool):List Bool:=l.foldl (λb r=>b.set r.toNat (b.getD r.toNat false || b.getD k false)) b
def a5A (code:List cK) (k:Nat):List Int:=((code[k]?).map opsOf).getD []
def aMZ (code:List cK):Nat->List Bool->List Bool
 |0,b=>b
 |k+1,b=>aMZ code k (x9 k (a5A code k) b)
def yA (code:List cK) (ends:List Int):List Bool:=aMZ code code.length (aBW ends (List.replicate code.length false))
theorem aOK (l:List Int):∀ b,(aBW l b).length=b.length:=by
 induction l with
 |nil=>intro b;rfl
 |cons x l ih=>intro b;rw[aBW,bHD];exact(ih _).trans bF
theorem aOL (k:Nat) (l:List Int):∀ b,(x9 k l b).length=b.length:=by
 induction l with
 |nil=>intro b;rfl
 |cons x l ih=>intro b;rw[x9,bHD];exact(ih _).trans bF
theorem aYA (code:List cK):∀ k b,(aMZ code k b).length=b.length
 |0,b=>rfl
 |k+1,b=>by rw[aMZ,aYA code k,aOL]
theorem aYB (code:List cK) (ends:List Int):(yA code ends).length=code.length:=by rw[yA,aYA,aOK,aRY]
theorem bAC (l:List Int) (x:Int) (b:List Bool):aBW (l++[x]) b=(aBW l b).set x.toNat true:=by rw[aBW,List.foldl_append];rfl
theorem aU3 (k:Nat) (l:List Int) (x:Int) (b:List Bool):x9 k (l++[x]) b=(x9 k l b).set x.toNat ((x9 k l b).getD x.toNat false || (x9 k l b).getD k false):=by rw[x9,List.foldl_append];rfl
@[go_sem] def bPY:List Nat:=[0,1,2,3,12]
@[go_sem] def b4I:List Nat:=[1,11,18]
theorem operands (x:cK):fQ Tryz.prog 244 [.agg x.c] (ints (opsOf x)):=by
 rw[cK.aO]
 refine aB4 19 bPY b4I bS Tryz.func244 λh=>?_
 simp -dsimp -implicitDefEqProofs only[go_sem,↓reduceIte,Tryz.f244]
 first|refine aH.mk (within x.xK 3 6) ?_|refine aG.mk (within x.xK 3 6) ?_|refine aH.cN (within x.xK 3 6) ?_|refine aG.mk (cG.fO (within x.xK 3 6)) ?_
 simp -dsimp -implicitDefEqProofs only[go_sem,↓reduceIte,Tryz.f244]
 unfold opsOf
 refine⟨λq=>⟨by decide,by decide,?_⟩,λq=>⟨λq7=>⟨by decide,by decide,?_⟩,λq7=>?_⟩⟩
 ·rw[if_pos q];exact Shift.of (Sub.loose _ _ _) (Heap.le_refl _)
 ·rw[if_neg q,if_pos q7];exact Shift.of (Sub.loose _ _ _) (Heap.le_refl _)
 ·rw[if_neg q,if_neg q7];exact Shift.of (Sub.nil _ _) (Heap.le_refl _)
theorem bK0 {inp:Int} {i:Nat} {c:cK} (h:kU inp i c):∀ x∈opsOf c,0<=x/\x<i:=λx hx=>by
 unfold opsOf at hx
 unfold kU at h
 split at hx
 ·simp only[s7,List.not_mem_nil,or_false]at hx
  rcases hx with rfl|rfl <;> omega
 ·split at hx
  ·simp only[s7,List.not_mem_nil,or_false]at hx
   subst hx;omega
  ·cases hx
theorem a5B {code:List cK} {k:Nat} (h:k<code.length):a5A code k=opsOf code[k]:=by rw[a5A,cJ h];rfl
theorem bGA (c:cK):(opsOf c).length<=2:=by unfold opsOf;split;exact eV 2;split;exact nB 1;exact iF 2
def aFR (b:List Bool):bQ:=.row 1 ((b.map λx=>[.bool x]).map (List.map .v))
theorem aU4 (b:List Bool) (k:Nat) (x:Bool):((b.map λx=>[aC.bool x]).map (List.map Cell.v)).set k [.v (.bool x)]=((b.set k x).map λx=>[aC.bool x]).map (List.map .v):=by rw[a2D,a2D];rfl
theorem a06 {b:List Bool} {k:Nat} (h:k<b.length):b[k]?=some (b.getD k false):=by rw[jH,cJ h];rfl
@[go_sem] def aRJ:List Nat:=[0,1,2,4,5,7,8,10,15,16,17,18,30,38,39,40,41]
theorem needed (t:sZ) (ends:List Int) (hc:t.cU.length<=1048576) (hl:ends.length<=1048576) (hr:∀ x∈ends,0<=x/\x<t.cU.length) (hi:∀ i c,t.cU[i]?=some c->kU t.aIS i c):fQ Tryz.prog 217 [.agg t.c,ints ends] (dA 1 (λb=>[.bool b]) (yA t.cU ends)):=by
 rw[sZ.aO]
 refine aB4 59 aRJ aAO bS Tryz.func217 λh=>?_
 simp -dsimp -implicitDefEqProofs only[go_sem,↓reduceIte,Tryz.f217]
 refine λ_=>⟨by decide,eV _,by omega,by omega,λn hn _=>?_⟩
 have hrep:(List.map (List.map Cell.v) (List.replicate t.cU.length [aC.bool false]))=((List.replicate t.cU.length false).map λx=>[aC.bool x]).map (List.map .v):=by simp
 rw[hrep]
 refine a7G aRJ aAO bS (λk:Nat=>[(2,.ip 4 [[I t.aIS,dA 4 cK.c t.cU,dA 2 fS.c t.aIT,ints t.bG]] 0 0),(5,.os n 1 0 t.cU.length),(15,ints ends),(16,I ends.length),(17,I k)]) n (λk=>aFR (aBW (ends.take k) (List.replicate t.cU.length false))) (λk=>k<=ends.length) (λk=>ends.length-k) 0 ⟨by simp[eE,dJ],by rw[bB];rfl,iF _⟩ ?_
 intro k hk
 have hbl:=aOK (ends.take k) (List.replicate t.cU.length false)
 rw[aRY]at hbl
 rcases cX k ends.length with hlt|hge
 ·have ek:ends[k]?=some ends[k]:=cJ hlt
  have hx:=hr ends[k] (dX hlt)
  have eb:=a06 (b:=aBW (ends.take k) (List.replicate t.cU.length false)) (k:=ends[k].toNat) aA
  unfold aFR
  simp -dsimp -implicitDefEqProofs only[go_sem,↓reduceIte,Tryz.f217,hlt,ek,aF,eb]
  refine⟨hx.1,hx.2,k+1,by rw[IntWalk.i64_in _ aA];rfl,?_,by omega,by omega⟩
  rw[kF hlt,bAC,aU4]
  exact Heap.le_refl _
 ·have hk':k=ends.length:=by omega
  subst hk'
  rw[eJ]at hbl ⊢
  generalize hB:aBW ends (List.replicate t.cU.length false)=B0 at *
  unfold aFR
  simp -dsimp -implicitDefEqProofs only[go_sem,↓reduceIte,Tryz.f217,cO,eK]
  intro _
  rw[aF]
  refine a7G aRJ aAO bS (λx:Nat×List Bool=>[(2,.ip 4 [[I t.aIS,dA 4 cK.c t.cU,dA 2 fS.c t.aIT,ints t.bG]] 0 0),(5,.os n 1 0 t.cU.length),(8,I ((x.1:Int)-1))]) n (λx=>aFR x.2) (λx=>x.1<=t.cU.length/\x.2.length=t.cU.length/\aMZ t.cU x.1 x.2=aMZ t.cU t.cU.length B0) (λx=>x.1) (t.cU.length,B0) ⟨by simp[eE,dJ];exact IntWalk.i64_in _ aA,by rw[bB];rfl,eV _,hbl,rfl⟩ ?_
  rintro⟨k,B⟩ ⟨hk,hBl,hT⟩
  simp only at hk hBl hT ⊢
  cases k with
  |zero =>
   unfold aFR
   simp -dsimp -implicitDefEqProofs only[go_sem,↓reduceIte,Tryz.f217]
   refine⟨λq=>absurd q aA,λ_=>?_⟩
   rw[aF,show yA t.cU ends=B by rw[yA,hB];exact hT.symm]
   exact sK (B.map λx=>[.bool x]) hn (Heap.le_refl _) _ (by rw[lM,hBl])
  |succ k =>
   have ec:t.cU[k]?=some t.cU[k]:=cJ hk
   have e1:((k+1:Nat):Int)-1=k:=by omega
   have hop:=operands t.cU[k]
   have hlt:=bK0 (hi k t.cU[k] ec)
   have hol:=bGA t.cU[k]
   rw[cK.aO]at hop
   rw[e1]
   unfold aFR
   simp -dsimp -implicitDefEqProofs only[go_sem,↓reduceIte,Tryz.f217,ec,cK.aO]
   refine⟨hk,?_⟩
   first|refine aH.mk (hop) ?_|refine aG.mk (hop) ?_|refine aH.cN (hop) ?_|refine aG.mk (cG.fO (hop)) ?_
   simp -dsimp -implicitDefEqProofs only[go_sem,↓reduceIte,Tryz.f217]
   intro _
   rw[aF]
   rw[aMZ,a5B hk]at hT
   generalize opsOf t.cU[k]=ops at *
   refine a7G aRJ aAO bS (λi:Nat=>[(2,.ip 4 [[I t.aIS,dA 4 cK.c t.cU,dA 2 fS.c t.aIT,ints t.bG]] 0 0),(5,.os n 1 0 t.cU.length),(8,I (k:Int)),(38,ints ops),(39,I ops.length),(40,I i)]) n (λi=>aFR (x9 k (ops.take i) B)) (λi=>i<=ops.length) (λi=>ops.length-i) 0 ⟨by simp[eE,dJ],by rw[bB];rfl,iF _⟩ ?_
   intro i hi2
   have hsl:=aOL k (ops.take i) B
   rcases cX i ops.length with aHS|bOO
   ·have eo:ops[i]?=some ops[i]:=cJ aHS
    have hx:=hlt ops[i] (dX aHS)
    have eb:=a06 (b:=x9 k (ops.take i) B) (k:=ops[i].toNat) aA
    have ek:=a06 (b:=x9 k (ops.take i) B) (k:=k) aA
    unfold aFR
    simp -dsimp -implicitDefEqProofs only[go_sem,↓reduceIte,Tryz.f217,aHS,eo,aF,eb,ek]
    refine⟨hx.1,by omega,λhb=>⟨hk,hx.1,by omega,i+1,by rw[IntWalk.i64_in _ aA];rfl,?_,by omega,by omega⟩,λhb=>⟨hx.1,by omega,i+1,by rw[IntWalk.i64_in _ aA];rfl,?_,by omega,by omega⟩⟩
    ·rw[kF aHS,aU3,aU4,hb,tG]
     exact Heap.le_refl _
    ·rw[kF aHS,aU3,aU4,hb,q8]
     exact Heap.le_refl _
   ·have hk2:i=ops.length:=by omega
    subst hk2
    rw[eJ]at hsl ⊢
    unfold aFR
    simp -dsimp -implicitDefEqProofs only[go_sem,↓reduceIte,Tryz.f217,cO,eK]
    refine⟨(k,x9 k ops B),IntWalk.i64_in _ aA,by rw[aF,aF];exact Heap.le_refl _,⟨by simp only;omega,hsl.trans hBl,hT⟩,by simp only;omega⟩
def aOM (code:List cK):List Int:=(code.filter λc=>c.xK=6).map cK.fB
def zN (x:Int) (l:List fS):List Int:=[x]++l.map fS.aQQ
def r6 (t:sZ):List Int:=zN (t.bG.getD 0 0) t.aIT++aOM t.cU
theorem bAD (x:Int) (l:List fS) (g:fS):zN x (l++[g])=zN x l++[g.aQQ]:=by simp[zN]
theorem aYC (x:Int) (l:List fS):(zN x l).length=l.length+1:=by simp[zN]
theorem aYD (l:List cK) (c:cK):aOM (l++[c])=if c.xK=6 then aOM l++[c.fB]else aOM l:=by
 rw[aOM,List.filter_append,xX]
 by_cases h:c.xK=6
 ·rw[if_pos h];simp[aOM,h]
 ·rw[if_neg h];simp[aOM,h]
theorem a5C (l:List cK):(aOM l).length<=l.length:=by rw[aOM,lM];exact List.length_filter_le _ _
def aBX (t:sZ) (sh:Int) (a b:List Int) (r:Nat):Prop:=(yA t.cU (r6 t))[r]?=some true/\∃ c,t.cU[r]?=some c/\c.xK=1/\c.bZ<sh/\¬a.getD c.bZ.toNat 0=b.getD c.bZ.toNat 0
def bK1 (l:List Int):Option Nat->aC
 |none=>.sl 1 (l.map λn=>[I n]) true
 |some m=>.os m 1 0 l.length
theorem aON (l:List Int):bK1 l none=.sl 1 (l.map λn=>[I n]) true:=rfl
theorem yU (l:List Int) (m:Nat):bK1 l (some m)=.os m 1 0 l.length:=rfl
def bK2 (h:Heap) (o:Option Nat):Prop:=∀ m,o=some m->h m=none
def a07 (j:dF) (k:Nat) (point:List Int):Prop:=(pJ j.bR j.bO (eD j k)).2=0/\¬∃ r,aBX (pJ j.bR j.bO (eD j k)).1 j.aQ j.c7 point r
noncomputable instance (j:dF) (k:Nat) (point:List Int):Decidable (a07 j k point):=Classical.propDecidable _
theorem aM0 (l:List Int) (x:Int):((l++[x]).map λn=>[I n]).map (List.map Cell.v)=((l.map λn=>[I n]).map (List.map .v))++[[.v (I x)]]:=by simp
@[go_sem] def aIV:List Nat:=[0,1,2,3,6,7,8,9,11,13,14,15,16,29,36,37,38,39,49,50,51,52,57,66,67,68,69,104]
@[go_sem] def aYE:List Nat:=[3,34,45,61]
@[go_sem] def aYF:Marks:=λid=>match id with|1=>([11,12],(.op 0 (.op 1 (.op 2 (.op 3 (.op 4 (.op 5 (.op 6 (.op 7 (.op 8 (.op 9 (.op 10 (.op 11 (.op 12 (.op 13 .nil)))))))))))))),[])|20=>([3,8,17,22],(.op 0 (.op 1 (.op 2 (.op 3 (.op 4 (.op 5 (.op 6 (.op 7 (.op 9 (.op 10 (.op 8 (.op 11 (.op 12 (.op 13 (.op 14 (.op 15 (.op 16 (.op 20 (.op 21 (.op 17 (.op 18 (.op 19 (.op 22 (.op 23 (.op 24 (.op 25 (.op 26 .nil))))))))))))))))))))))))))),[])|_=>([],.nil,[])
theorem bAE {j:dF} (hj:j.ok) (hps:j.bR.s<=4194304) {k:Nat} (hk:k<j.aV.length) (point:List Int) (hpt:(point.length:Int)=j.aQ):fQ Tryz.prog 177 [.agg j.c,I k,ints point] (.bool (decide (a07 j k point))):=by
 obtain⟨t1,t2,t3,t4,t5,t6,t7,t8⟩:=aKZ hj hk
 obtain⟨F,eF,hf,hF,ok⟩:=aIP hj
 obtain⟨F2,eF2,hO1,hO2,hO3,hO4⟩:=aIM hj.1 hf
 have hargs:=b31 hj hk
 have hrec:=bXL hj.1 hps j.bO hf (eD j k) t2 (by have:=t3 F2 eF2;omega) t3
 have hok:=(aRG hj.1 j.bO hf (eD j k) t2 t3).1
 rw[aL.aO]at hrec
 simp only[dF.aO]at hargs ⊢
 have hsim:=(aRG hj.1 j.bO hf (eD j k) t2 t3).2
 have herr:=bDQ j.bR 1 j.bO ((eD j k).map λn=>[n])
 cases hX:aWN j.bR j.bO (eD j k)with
 |error c =>
  have hR:pJ j.bR j.bO (eD j k)=(⟨0,[],[],[]⟩,c):=by rw[pJ,hX]
  have hc:¬c=0:=λe=>by
   rw[hX]at hsim
   cases hY:evF j.bR 1 j.bO ((eD j k).map λn=>[n])with
   |ok q=>rw[hY]at hsim;exact hsim.elim
   |error d =>
    rw[hY]at hsim
    have h1:c=d:=hsim
    rcases herr d hY with h2|h2 <;> omega
  rw[hR]at hrec
  simp only[sZ.aO]at hrec
  refine eG 106 aIV aYE aYF Tryz.func177 λh=>?_
  simp -dsimp -implicitDefEqProofs only[go_sem,↓reduceIte,Tryz.f177]
  first|refine aH.mk (hargs) ?_|refine aG.mk (hargs) ?_|refine aH.cN (hargs) ?_|refine aG.mk (cG.fO (hargs)) ?_
  simp -dsimp -implicitDefEqProofs only[go_sem,↓reduceIte,Tryz.f177]
  first|refine aH.mk (hrec) ?_|refine aG.mk (hrec) ?_|refine aH.cN (hrec) ?_|refine aG.mk (cG.fO (hrec)) ?_
  simp -dsimp -implicitDefEqProofs only[go_sem,↓reduceIte,Tryz.f177]
  intro n hn
  refine⟨λ_=>⟨(decide_eq_false λz=>hc (by have:=z.1;rw[hR]at this;exact this)).symm,Heap.aW hn (Heap.aW hn (Heap.le_refl _))⟩,λq=>absurd q hc⟩
 |ok q =>
  obtain⟨⟨l,S⟩,t⟩:=q
  obtain⟨g1,g2,⟨g3,g4⟩,g5⟩:=hok _ _ hX
  simp only at g1 g2 g3 g4 g5
  unfold sP at g5
  have g6:=g1.cap
  have g7:=g1.vM
  have g8:=g1.len
  have hR:pJ j.bR j.bO (eD j k)=(⟨(eD j k).length,S.code,S.guards,l⟩,0):=by rw[pJ,hX]
  have hu:a07 j k point↔¬∃ r,aBX ⟨(eD j k).length,S.code,S.guards,l⟩ j.aQ j.c7 point r:=by rw[a07,hR];simp
  rw[hR]at hrec
  simp only[sZ.aO]at hrec
  have l0:l[Int.toNat 0]?=some (l.getD 0 0):=gA aYW
  refine eG 106 aIV aYE aYF Tryz.func177 λh=>?_
  simp -dsimp -implicitDefEqProofs only[go_sem,↓reduceIte,Tryz.f177]
  first|refine aH.mk (hargs) ?_|refine aG.mk (hargs) ?_|refine aH.cN (hargs) ?_|refine aG.mk (cG.fO (hargs)) ?_
  simp -dsimp -implicitDefEqProofs only[go_sem,↓reduceIte,Tryz.f177]
  first|refine aH.mk (hrec) ?_|refine aG.mk (hrec) ?_|refine aH.cN (hrec) ?_|refine aG.mk (cG.fO (hrec)) ?_
  simp -dsimp -implicitDefEqProofs only[go_sem,↓reduceIte,Tryz.f177]
  intro n hn
  try simp -dsimp -implicitDefEqProofs only[go_sem,↓reduceIte,Tryz.f177,aF,l0]
  refine⟨by rw[g3,hO3];omega,by decide,by decide,λ_=>?_⟩
  generalize hh7:bL h n (.row 4 [[.v (I (eD j k).length),.v (dA 4 cK.c S.code),.v (dA 2 fS.c S.guards),.v (ints l)]])=h7
  have h7n:h7 n=some (.row 4 [[.v (I (eD j k).length),.v (dA 4 cK.c S.code),.v (dA 2 fS.c S.guards),.v (ints l)]]):=by rw[←hh7,bB]
  have aOO:h.le h7:=by rw[←hh7];exact Heap.aW hn (Heap.le_refl _)
  refine cY aIV aYE aYF (λx:Nat×List Int×Option Nat=>[(2,ints point),(3,.ip 5 [[dA 3 aX.c j.bR.aJ,I j.bO,I j.aQ,dA 1 (λn=>[I n]) j.c7,dA 1 (λx=>[dA 1 (λn=>[I n]) x]) j.aV]] 0 0),(7,.op n 4 0 0),(9,bK1 x.2.1 x.2.2),(36,dA 2 fS.c S.guards),(37,I S.guards.length),(38,I x.1)]) (λx=>dG h7 (.row 1 ((x.2.1.map λn=>[I n]).map (List.map .v))) x.2.2) (λx=>x.1<=S.guards.length/\x.2.1=zN (l.getD 0 0) (S.guards.take x.1)/\bK2 h7 x.2.2) (λx=>S.guards.length-x.1) (0,[l.getD 0 0],none) ⟨by simp[eE,dJ,bK1],Heap.le_refl _,iF _,rfl,λm e=>by cases e⟩ ?_
  rintro⟨i,L,o⟩ ⟨hi,hL,ho⟩
  simp only at hi hL ho ⊢
  rcases cX i S.guards.length with hlt|hge
  ·have ei:S.guards[i]?=some S.guards[i]:=cJ hlt
   have hy:L++[S.guards[i].aQQ]=zN (l.getD 0 0) (S.guards.take (i+1)):=by
    rw[kF hlt,bAD,hL]
   have hLl:L.length<=i+1:=by rw[hL,aYC,pN];omega
   cases o with
   |none =>
    simp -dsimp -implicitDefEqProofs only[go_sem,↓reduceIte,Tryz.f177,aON,aN,hlt,ei,fS.aO]
    intro m9 z9
    refine⟨by decide,by decide,by decide,by omega,by omega,λb ⟨hb9,_,hb7⟩=>⟨(i+1,L++[S.guards[i].aQQ],some b),⟨by rw[yU,tN];rfl,by rw[IntWalk.i64_in _ aA];rfl⟩,?_,⟨by omega,hy,λq e=>by cases e;exact hb7⟩,by simp only;omega⟩⟩
    simp only[aK]
    rw[aM0]
    simp only[xX,nE,xL]at *
    exact(jU (by repeat'(first|exact hZ _ _|refine jV bRU ?_|refine fZ p9 ?_)))
   |some m =>
    have hm:=ho m rfl
    simp -dsimp -implicitDefEqProofs only[go_sem,↓reduceIte,Tryz.f177,yU,aK,hlt,ei,fS.aO]
    intro m9 ⟨h9m,z9⟩
    obtain⟨a03,aGV,aGU,bKY⟩:=cB (show ¬m9=m from h9m)
    simp -dsimp -implicitDefEqProofs only[go_sem,↓reduceIte,Tryz.f177,aGU,aGV,aE]
    refine⟨by decide,by decide,by decide,eV _,by omega,by omega,λb ⟨hb9,_,hbm,hb7⟩=>⟨(i+1,L++[S.guards[i].aQQ],some b),⟨by rw[yU,tN];rfl,by rw[IntWalk.i64_in _ aA];rfl⟩,?_,⟨by omega,hy,λq e=>by cases e;exact hb7⟩,by simp only;omega⟩⟩
    simp only[aK]
    rw[aM0,gX bF]
    exact(jU (by repeat'(first|exact hZ _ _|refine jV bRK ?_|refine fZ p9 ?_)))
  ·have hi':i=S.guards.length:=by omega
   subst hi'
   rw[eJ]at hL
   have hgl:=aYC (l.getD 0 0) S.guards
   have hon:∀ (R:bQ) (o:Option Nat),bK2 h7 o->dG h7 R o n=some (.row 4 [[.v (I (eD j k).length),.v (dA 4 cK.c S.code),.v (dA 2 fS.c S.guards),.v (ints l)]]):=λR o ho=>by
    cases o with
    |none=>exact h7n
    |some m=>rw[aK,aE _ _ _ _ (λe=>by have:=ho m rfl;rw[←e,h7n]at this;cases this)];exact h7n
   have hn1:=hon (.row 1 ((L.map λn=>[I n]).map (List.map .v))) o ho
   simp -dsimp -implicitDefEqProofs only[go_sem,↓reduceIte,Tryz.f177,hn1,cO,eK]
   intro _
   clear hi hn1
   refine cY aIV aYE aYF (λx:Nat×List Int×Option Nat=>[(2,ints point),(3,.ip 5 [[dA 3 aX.c j.bR.aJ,I j.bO,I j.aQ,dA 1 (λn=>[I n]) j.c7,dA 1 (λx=>[dA 1 (λn=>[I n]) x]) j.aV]] 0 0),(7,.op n 4 0 0),(9,bK1 x.2.1 x.2.2),(49,dA 4 cK.c S.code),(50,I S.code.length),(51,I x.1)]) (λx=>dG h7 (.row 1 ((x.2.1.map λn=>[I n]).map (List.map .v))) x.2.2) (λx=>x.1<=S.code.length/\x.2.1=zN (l.getD 0 0) S.guards++aOM (S.code.take x.1)/\bK2 h7 x.2.2) (λx=>S.code.length-x.1) (0,L,o) ⟨by simp[eE,dJ],Heap.le_refl _,iF _,by simp only[bM0];rw[hL];simp[aOM],ho⟩ ?_
   rintro⟨i,L,o⟩ ⟨hi,hL,ho⟩
   simp only at hi hL ho ⊢
   rcases cX i S.code.length with hlt|hge
   ·have ei:S.code[i]?=some S.code[i]:=cJ hlt
    have hdl:=a5C (S.code.take i)
    have hLl:L.length<=i+S.guards.length+1:=by rw[hL,tN,hgl];rw[pN]at hdl;omega
    have hy6:S.code[i].xK=6->L++[S.code[i].fB]=zN (l.getD 0 0) S.guards++aOM (S.code.take (i+1)):=λh6=>by
     rw[kF hlt,aYD,if_pos h6,hL,oW]
    have hn6:¬S.code[i].xK=6->L=zN (l.getD 0 0) S.guards++aOM (S.code.take (i+1)):=λh6=>by
     rw[kF hlt,aYD,if_neg h6,hL]
    cases o with
    |none =>
     simp -dsimp -implicitDefEqProofs only[go_sem,↓reduceIte,Tryz.f177,aON,aN,hlt,ei,cK.aO]
     intro m9 z9
     refine⟨λh6=>?_,λh6=>?_⟩
     ·have hy:=hy6 h6
      refine⟨by decide,by decide,by decide,by omega,by omega,λb ⟨hb9,_,hb7⟩=>⟨(i+1,L++[S.code[i].fB],some b),⟨by rw[yU,tN];rfl,by rw[IntWalk.i64_in _ aA];rfl⟩,?_,⟨by omega,hy,λq e=>by cases e;exact hb7⟩,by simp only;omega⟩⟩
      simp only[aK]
      rw[aM0]
      simp only[xX,nE,xL]at *
      exact(jU (by repeat'(first|exact hZ _ _|refine jV bRU ?_|refine fZ p9 ?_)))
     ·exact⟨(i+1,L,none),⟨rfl,by rw[IntWalk.i64_in _ aA];rfl⟩,Heap.aW z9 (Heap.aW z9 (Heap.le_refl _)),⟨by omega,hn6 h6,λq e=>by cases e⟩,by simp only;omega⟩
    |some m =>
     have hm:=ho m rfl
     simp -dsimp -implicitDefEqProofs only[go_sem,↓reduceIte,Tryz.f177,yU,aK,hlt,ei,cK.aO]
     intro m9 ⟨h9m,z9⟩
     obtain⟨a03,aGV,aGU,bKY⟩:=cB (show ¬m9=m from h9m)
     simp -dsimp -implicitDefEqProofs only[go_sem,↓reduceIte,Tryz.f177,aGU,aGV,aE]
     refine⟨λh6=>?_,λh6=>?_⟩
     ·have hy:=hy6 h6
      refine⟨by decide,by decide,by decide,eV _,by omega,by omega,λb ⟨hb9,_,hbm,hb7⟩=>⟨(i+1,L++[S.code[i].fB],some b),⟨by rw[yU,tN];rfl,by rw[IntWalk.i64_in _ aA];rfl⟩,?_,⟨by omega,hy,λq e=>by cases e;exact hb7⟩,by simp only;omega⟩⟩
      simp only[aK]
      rw[aM0,gX bF]
      exact(jU (by repeat'(first|exact hZ _ _|refine jV bRK ?_|refine fZ p9 ?_)))
     ·exact⟨(i+1,L,some m),⟨rfl,by rw[IntWalk.i64_in _ aA];rfl⟩,(jU (by repeat'(first|exact hZ _ _|refine jV (by simp only[fU,↓reduceIte,eq_self,if_true,z9,aGU,aGV]) ?_|refine fZ p9 ?_))),⟨by omega,hn6 h6,ho⟩,by simp only;omega⟩
   ·have hi':i=S.code.length:=by omega
    subst hi'
    rw[eJ]at hL
    have hdl:=a5C S.code
    have hLl:L.length<=S.code.length+S.guards.length+1:=by rw[hL,tN,hgl];omega
    have hrange:∀ x∈L,0<=x/\x<(S.code.length:Int):=λx hx=>by
     rw[hL,zN]at hx
     rcases rF.1 hx with hx|hx
     ·rcases rF.1 hx with hx|hx
      ·rw[vP.1 hx,jH,cJ aYW]
       have:=g4 _ (dX (h:=(by rw[g3,hO3];omega:0<l.length)))
       unfold rZ at this
       rw[g8];exact this
      ·obtain⟨gg,hgg,rfl⟩:=yC.1 hx
       rw[g8];exact g1.gds gg hgg
     ·obtain⟨cc,hcc,rfl⟩:=yC.1 hx
      obtain⟨h1,h2⟩:=a6T.1 hcc
      obtain⟨q,hq,rfl⟩:=aR3.1 h1
      have h3:=g1.ins q _ (cJ hq)
      have h4:S.code[q].xK=6:=by simpa using h2
      unfold kU at h3
      omega
    have hneed:=needed ⟨(eD j k).length,S.code,S.guards,l⟩ L (by simp only;omega) aA hrange g1.ins
    have hends:L=r6 ⟨(eD j k).length,S.code,S.guards,l⟩:=hL
    rw[hends]at hneed
    rw[←hends]at hneed
    simp only[sZ.aO]at hneed
    have hnl:(yA S.code L).length=S.code.length:=aYB _ _
    have hn1:=hon (.row 1 ((L.map λn=>[I n]).map (List.map .v))) o ho
    simp -dsimp -implicitDefEqProofs only[go_sem,↓reduceIte,Tryz.f177,hn1,cO,eK]
    cases o with
    |none =>
     rw[aON,aN]
     refine aH.mk (hneed.sub (.cons (.refl _) (.cons (Sub.loose _ _ _) .nil))) ?_
     simp -dsimp -implicitDefEqProofs only[go_sem,↓reduceIte,Tryz.f177,h7n]
     intro _
     have h9n:=h7n
     have bAF:=aOO
     generalize h7=H9 at *
     have hz9:∀ {q:Nat},H9 q=none->h q=none:=λ{q} e=>by
      rcases bAF q with h1|h1
      ·exact h1
      ·rw[h1,e]
     refine cY aIV aYE aYF (λi:Nat=>[(2,ints point),(3,.ip 5 [[dA 3 aX.c j.bR.aJ,I j.bO,I j.aQ,dA 1 (λn=>[I n]) j.c7,dA 1 (λx=>[dA 1 (λn=>[I n]) x]) j.aV]] 0 0),(7,.op n 4 0 0),(66,dA 1 (λb=>[.bool b]) (yA S.code L)),(67,I (yA S.code L).length),(68,I i)]) (λ_=>H9) (λi=>i<=S.code.length/\∀ r,r<i->¬aBX ⟨(eD j k).length,S.code,S.guards,l⟩ j.aQ j.c7 point r) (λi=>S.code.length-i) 0 ⟨by simp[eE,dJ],Heap.le_refl _,iF _,λr q=>absurd q (a2J r)⟩ ?_
     rintro i ⟨hi,hbad⟩
     rcases cX i S.code.length with hlt|hge
     ·have ei:S.code[i]?=some S.code[i]:=cJ hlt
      have en:=a06 (b:=yA S.code L) (k:=i) aA
      have hins:=g1.ins i _ ei
      have nx:¬aBX ⟨(eD j k).length,S.code,S.guards,l⟩ j.aQ j.c7 point i->∀ r,r<i+1->¬aBX ⟨(eD j k).length,S.code,S.guards,l⟩ j.aQ j.c7 point r:=λq r hr=>by
       rcases aI2.1 hr with hr|rfl
       ·exact hbad r hr
       ·exact q
      have bi:aBX ⟨(eD j k).length,S.code,S.guards,l⟩ j.aQ j.c7 point i↔((yA S.code L).getD i false=true/\S.code[i].xK=1/\S.code[i].bZ<j.aQ/\¬j.c7.getD S.code[i].bZ.toNat 0=point.getD S.code[i].bZ.toNat 0):=by
       rw[aBX]
       simp only
       rw[←hends,en,ei]
       simp
      by_cases hq:S.code[i].xK=1/\S.code[i].bZ<j.aQ
      ·have hnum:0<=S.code[i].bZ:=by unfold kU at hins;omega
       have hpl:(j.c7.length:Int)=j.aQ:=ok.2.1.1
       have pj:j.c7[S.code[i].bZ.toNat]?=some (j.c7.getD S.code[i].bZ.toNat 0):=gA aA
       have pp:point[S.code[i].bZ.toNat]?=some (point.getD S.code[i].bZ.toNat 0):=gA aA
       simp -dsimp -implicitDefEqProofs only[go_sem,↓reduceIte,Tryz.f177,hnl,hlt,ei,en,h9n,cK.aO,pj,pp]
       intro m9 z9
       refine⟨λhb=>⟨λh1=>⟨λhs=>⟨hnum,by omega,hnum,by omega,λhd=>⟨(decide_eq_false λz=>?_).symm,Heap.aW (hz9 z9) (Heap.aW (hz9 z9) bAF)⟩,λhd=>?_⟩,λhs=>absurd hq.2 hs⟩,λh1=>absurd hq.1 h1⟩,λhb=>?_⟩
       ·exact(hu.1 z) ⟨i,bi.2 ⟨hb,h1,hs,hd⟩⟩
       ·exact⟨i+1,by rw[IntWalk.i64_in _ aA];rfl,Heap.aW z9 (Heap.aW z9 (Heap.le_refl _)),⟨hlt,nx λz=>(bi.1 z).2.2.2 hd⟩,by omega⟩
       ·exact⟨i+1,by rw[IntWalk.i64_in _ aA];rfl,Heap.aW z9 (Heap.aW z9 (Heap.le_refl _)),⟨hlt,nx λz=>by have:=(bi.1 z).1;rw[hb]at this;cases this⟩,by omega⟩
      ·simp -dsimp -implicitDefEqProofs only[go_sem,↓reduceIte,Tryz.f177,hnl,hlt,ei,en,h9n,cK.aO]
       intro m9 z9
       have hno:¬aBX ⟨(eD j k).length,S.code,S.guards,l⟩ j.aQ j.c7 point i:=λz=>hq ⟨(bi.1 z).2.1,(bi.1 z).2.2.1⟩
       refine⟨λhb=>⟨λh1=>⟨λhs=>absurd ⟨h1,hs⟩ hq,λhs=>?_⟩,λh1=>?_⟩,λhb=>?_⟩
       all_goals exact⟨i+1,by rw[IntWalk.i64_in _ aA];rfl,Heap.aW z9 (Heap.aW z9 (Heap.le_refl _)),⟨hlt,nx hno⟩,by omega⟩
     ·have hi':i=S.code.length:=by omega
      subst hi'
      simp -dsimp -implicitDefEqProofs only[go_sem,↓reduceIte,Tryz.f177,hnl,cO,eK]
      refine⟨(decide_eq_true (hu.2 λ⟨r,hr⟩=>?_)).symm,bAF⟩
      obtain⟨_,c,hc,_⟩:=hr
      exact hbad r (oG.1 hc).1 ⟨by assumption,c,hc,by assumption⟩
    |some m =>
     have hm:=ho m rfl
     rw[yU,aK]
     refine aH.b3X (es:=L.map λn=>[I n]) hneed (by simp[lZ,lY]) (by simp[oZ,aC.iE,gX]) ?_
     simp -dsimp -implicitDefEqProofs only[go_sem,↓reduceIte,Tryz.f177,h7n]
     intro _
     have dnm:¬n=m:=λe=>by rw[←e,h7n]at hm;cases hm
     have h9n:(bL h7 m .gone) n=some (.row 4 [[.v (I (eD j k).length),.v (dA 4 cK.c S.code),.v (dA 2 fS.c S.guards),.v (ints l)]]):=by rw[aE _ _ _ _ dnm];exact h7n
     have hmh:h m=none:=by
      have:=aOO m
      rcases this with e|e
      ·exact e
      ·rw[hm]at e;exact e
     have bAF:h.le (bL h7 m .gone):=Heap.aW hmh aOO
     generalize bL h7 m .gone=H9 at *
     have hz9:∀ {q:Nat},H9 q=none->h q=none:=λ{q} e=>by
      rcases bAF q with h1|h1
      ·exact h1
      ·rw[h1,e]
     refine cY aIV aYE aYF (λi:Nat=>[(2,ints point),(3,.ip 5 [[dA 3 aX.c j.bR.aJ,I j.bO,I j.aQ,dA 1 (λn=>[I n]) j.c7,dA 1 (λx=>[dA 1 (λn=>[I n]) x]) j.aV]] 0 0),(7,.op n 4 0 0),(66,dA 1 (λb=>[.bool b]) (yA S.code L)),(67,I (yA S.code L).length),(68,I i)]) (λ_=>H9) (λi=>i<=S.code.length/\∀ r,r<i->¬aBX ⟨(eD j k).length,S.code,S.guards,l⟩ j.aQ j.c7 point r) (λi=>S.code.length-i) 0 ⟨by simp[eE,dJ],Heap.le_refl _,iF _,λr q=>absurd q (a2J r)⟩ ?_
     rintro i ⟨hi,hbad⟩
     rcases cX i S.code.length with hlt|hge
     ·have ei:S.code[i]?=some S.code[i]:=cJ hlt
      have en:=a06 (b:=yA S.code L) (k:=i) aA
      have hins:=g1.ins i _ ei
      have nx:¬aBX ⟨(eD j k).length,S.code,S.guards,l⟩ j.aQ j.c7 point i->∀ r,r<i+1->¬aBX ⟨(eD j k).length,S.code,S.guards,l⟩ j.aQ j.c7 point r:=λq r hr=>by
       rcases aI2.1 hr with hr|rfl
       ·exact hbad r hr
       ·exact q
      have bi:aBX ⟨(eD j k).length,S.code,S.guards,l⟩ j.aQ j.c7 point i↔((yA S.code L).getD i false=true/\S.code[i].xK=1/\S.code[i].bZ<j.aQ/\¬j.c7.getD S.code[i].bZ.toNat 0=point.getD S.code[i].bZ.toNat 0):=by
       rw[aBX]
       simp only
       rw[←hends,en,ei]
       simp
      by_cases hq:S.code[i].xK=1/\S.code[i].bZ<j.aQ
      ·have hnum:0<=S.code[i].bZ:=by unfold kU at hins;omega
       have hpl:(j.c7.length:Int)=j.aQ:=ok.2.1.1
       have pj:j.c7[S.code[i].bZ.toNat]?=some (j.c7.getD S.code[i].bZ.toNat 0):=gA aA
       have pp:point[S.code[i].bZ.toNat]?=some (point.getD S.code[i].bZ.toNat 0):=gA aA
       simp -dsimp -implicitDefEqProofs only[go_sem,↓reduceIte,Tryz.f177,hnl,hlt,ei,en,h9n,cK.aO,pj,pp]
       intro m9 z9
       refine⟨λhb=>⟨λh1=>⟨λhs=>⟨hnum,by omega,hnum,by omega,λhd=>⟨(decide_eq_false λz=>?_).symm,Heap.aW (hz9 z9) (Heap.aW (hz9 z9) bAF)⟩,λhd=>?_⟩,λhs=>absurd hq.2 hs⟩,λh1=>absurd hq.1 h1⟩,λhb=>?_⟩
       ·exact(hu.1 z) ⟨i,bi.2 ⟨hb,h1,hs,hd⟩⟩
       ·exact⟨i+1,by rw[IntWalk.i64_in _ aA];rfl,Heap.aW z9 (Heap.aW z9 (Heap.le_refl _)),⟨hlt,nx λz=>(bi.1 z).2.2.2 hd⟩,by omega⟩
       ·exact⟨i+1,by rw[IntWalk.i64_in _ aA];rfl,Heap.aW z9 (Heap.aW z9 (Heap.le_refl _)),⟨hlt,nx λz=>by have:=(bi.1 z).1;rw[hb]at this;cases this⟩,by omega⟩
      ·simp -dsimp -implicitDefEqProofs only[go_sem,↓reduceIte,Tryz.f177,hnl,hlt,ei,en,h9n,cK.aO]
       intro m9 z9
       have hno:¬aBX ⟨(eD j k).length,S.code,S.guards,l⟩ j.aQ j.c7 point i:=λz=>hq ⟨(bi.1 z).2.1,(bi.1 z).2.2.1⟩
       refine⟨λhb=>⟨λh1=>⟨λhs=>absurd ⟨h1,hs⟩ hq,λhs=>?_⟩,λh1=>?_⟩,λhb=>?_⟩
       all_goals exact⟨i+1,by rw[IntWalk.i64_in _ aA];rfl,Heap.aW z9 (Heap.aW z9 (Heap.le_refl _)),⟨hlt,nx hno⟩,by omega⟩
     ·have hi':i=S.code.length:=by omega
      subst hi'
      simp -dsimp -implicitDefEqProofs only[go_sem,↓reduceIte,Tryz.f177,hnl,cO,eK]
      refine⟨(decide_eq_true (hu.2 λ⟨r,hr⟩=>?_)).symm,bAF⟩
      obtain⟨_,c,hc,_⟩:=hr
      exact hbad r (oG.1 hc).1 ⟨by assumption,c,hc,by assumption⟩
def aYG (X:Out (List (List Int))):List Int×Int×Int:=match X with
 | .ok (vs,t)=>(vs.map (·.getD 0 0),t,0)
 | .error c=>([],0,c)
theorem a5D {X:Out (List (List Int))} {l:List (List Int)} {t:Nat} {c:Int} (h:oO X l t c):aYG X=if c=0 then(l.map (·.getD 0 0),(t:Int),0)else([],0,c):=by
 cases X with
 |ok p =>
  obtain⟨w,u⟩:=p
  obtain⟨rfl,rfl,rfl⟩:=h
  rfl
 |error d =>
  obtain⟨rfl,h⟩:=h
  rw[if_neg h];rfl
theorem bPZ (a b:List Int) (ha:a.length<=1000) (hb:b.length<=1000):fQ Tryz.prog 225 [ints a,ints b] (ints (a++b)):=by
 refine aB4 9 aHN cD bS Tryz.func225 λh=>?_
 simp -dsimp -implicitDefEqProofs only[go_sem,↓reduceIte,Tryz.f225]
 refine aH.wn0 (l6 a aA) ?_
 rintro r l g ⟨y,oy,rfl,rfl⟩ wn
 rcases oy.aC8 with⟨rfl,ha0⟩|⟨n,rfl⟩
 ·subst ha0
  simp -dsimp -implicitDefEqProofs only[go_sem,↓reduceIte,Tryz.f225,OV.nV]
  refine⟨cI,λe=>?_,λ_=>⟨by omega,by omega,λn hn=>(mW b hn (Heap.le_refl _) rfl).trans (eZ wn.le)⟩⟩
  have:b=[]:=by simpa using e
  subst this
  exact Shift.of (Sub.loose _ _ _) wn.le
 ·rw[OV.kY]
  have gn:g n=some (.row 1 ((a.map λn=>[I n]).map (List.map .v))):=by
   rw[OV.fF]at wn
   rw[←sG]
   exact wn.gH (n,_) p6
  simp -dsimp -implicitDefEqProofs only[go_sem,↓reduceIte,Tryz.f225,gn]
  refine⟨cI,eV _,by omega,by omega,λm hm=>?_⟩
  rw[gX bF,←xX,←xX]
  exact mW (a++b) (Heap.le_none wn.le hm) (Heap.b5 (Heap.aW (wn.fresh n (by rw[OV.fF];simp[cF])) wn.le)) (by rw[tN])
@[go_sem] def aRL:List Nat:=[0,1,2,6,7,8,9,10,11,12,13,14,22,46,56]
@[go_sem] def bD3:List Nat:=[18,30,31,47,52,66]
@[go_sem] def bD4:Marks:=λid=>match id with|9=>([4],(.op 0 (.op 1 (.op 2 (.op 3 (.op 4 (.op 5 (.op 6 (.op 7 .nil)))))))),[])|15=>([4],(.op 0 (.op 1 (.op 2 (.op 3 (.op 4 (.op 5 (.op 6 (.op 7 .nil)))))))),[])|_=>([],.nil,[])
theorem bP0 {p:aL} (hp:p.ok) (f:Int) (hf:0<=f/\f<p.aJ.length) (args:List Int) (na:rH args) (hal:args.length<=12) (hl:∀ F,p.aJ[f.toNat]?=some F->(args.length:Int)=F.bN) :
  fQ Tryz.prog 226 [.ip 1 [p.c] 0 0,I f,ints args] (.iJ [ints (aYG (evF p 1 f (args.map λn=>[n]))).1,I (aYG (evF p 1 f (args.map λn=>[n]))).2.1,I (aYG (evF p 1 f (args.map λn=>[n]))).2.2]):=by
 obtain⟨F,ef,hF1,hF2,hF3,hF4⟩:=aIM hp hf
 have hlF:=hl F ef
 rw[aL.aO]
 refine aB4 73 aRL bD3 bD4 Tryz.func226 λh=>?_
 simp -dsimp -implicitDefEqProofs only[go_sem,↓reduceIte,Tryz.f226]
 intro nb zb
 refine⟨cI,?_⟩
 have hbd:bQ.row 4 [[Cell.v (.ip 1 [[dA 3 aX.c p.aJ]] 0 0),Cell.v (I 1),Cell.v (I 0),Cell.v (I 0)]]=fR p 1 0 0:=rfl
 rw[hbd]
 have hB0:(bL h nb (fR p 1 0 0)) nb=some (fR p 1 0 0):=bB _ _ _
 have hBl:h.le (bL h nb (fR p 1 0 0)):=Heap.aW zb (Heap.le_refl _)
 generalize hgB:bL h nb (fR p 1 0 0)=hB at hB0 hBl ⊢
 refine a7F aRL bD3 bD4 (λx:Nat×Option Nat=>[(0,.ip 1 [[dA 3 aX.c p.aJ]] 0 0),(1,I f),(2,ints args),(9,.op nb 4 0 0),(10,nW 1 (args.take x.1).length x.2),(11,I x.1)]) (λx=>dG hB (.row 1 ((((args.take x.1).map λn=>[n]).map λs=>[ints s]).map (List.map .v))) x.2) (λx=>x.1<=args.length/\lK hB (args.take x.1) x.2) (λx=>args.length-x.1) (0,none) ⟨by simp[eE,dJ,nW],by simp only[aN];exact Heap.iU (Heap.le_refl _),iF _,by simp[lK]⟩ ?_
 rintro⟨k,o⟩ ⟨hk,hos⟩
 simp only at hk hos ⊢
 rcases cX k args.length with hlt|hge
 ·have ea:args[k]?=some args[k]:=cJ hlt
  have hy:args.take (k+1)=args.take k++[args[k]]:=kF hlt
  have hlk:(args.take k).length=k:=by rw[pN];omega
  cases o with
  |none =>
   rw[cZ]at hos
   rw[hos]at hy ⊢
   simp -dsimp -implicitDefEqProofs only[go_sem,↓reduceIte,Tryz.f226,dK,aN,hlt,ea]
   intro _
   refine⟨cI,cI,cI,cI,cI,λb hb=>⟨(k+1,some b),?_⟩⟩
   simp only[hy]
   refine⟨⟨rfl,by rw[IntWalk.i64_in _ aA];rfl⟩,bDY (A:=[]) (x:=.sl 1 [[I args[k]]] true) (y:=ints [args[k]]) (bB _ _ _) (Sub.loose _ _ _) aSG,⟨by omega,hb⟩,by omega⟩
  |some n =>
   rw[bY]at hos
   simp -dsimp -implicitDefEqProofs only[go_sem,↓reduceIte,Tryz.f226,bU,aK,hlt,ea]
   intro _
   refine⟨cI,cI,cI,cI,cI,eV _,by omega,by omega,λb hb=>⟨(k+1,some b),?_⟩⟩
   simp only[hy,aK,bU,bY]
   refine⟨⟨by rw[tN];rfl,by rw[IntWalk.i64_in _ aA];rfl⟩,bDY (x:=.sl 1 [[I args[k]]] true) (y:=ints [args[k]]) (bB _ _ _) (Sub.loose _ _ _) ?_,⟨by omega,hb.2⟩,by omega⟩
   have hl2:(args.take k).length=((args.take k).map λn=>[n]).length:=by rw[lM]
   rw[aF,xX,show((args.take k).map λn=>[n])++[args[k]].map (λn=>[n])=((args.take k).map λn=>[n])++[[args[k]]]from rfl,←jE ints,hl2]
   exact pC hos
 have hk':k=args.length:=by omega
 subst hk'
 rw[eJ]at hos ⊢
 have hserA:∀ s∈args.map (λn=>[n]),iA 1 s:=λs hs=>by
  obtain⟨n,hn,rfl⟩:=yC.1 hs
  refine⟨rfl,λx hx=>?_⟩
  rw[vP.1 hx]
  exact na n hn
 have hlA:((args.map λn=>[n]).length:Int)=F.bN:=by rw[lM];exact hlF
 have hnbB:∀ {m:Nat},hB m=none->¬nb=m:=λhm e=>by rw[←e,hB0]at hm;cases hm
 cases o with
 |none =>
  rw[cZ]at hos
  subst hos
  simp -dsimp -implicitDefEqProofs only[go_sem,↓reduceIte,Tryz.f226,dK,aN,cO,eK,ef]
  refine⟨hf.1,by omega,?_⟩
  have ho:=a0O (run hp (by decide:1<=1/\1<=1048576) 3001) hB nb 0 0 F [] f hB0 aA aA aA (by rw[lM]at hlA;rw[show(([]:List (List Int)).length:Int)=F.bN from hlA];exact hF4) hf.1 aA bF bF
  refine aH.jP (gV.sub (.cons (.refl _) (.cons (Sub.ip (by rw[s6,ef];rfl) (by simp[aX.aO])) (.cons (Sub.loose _ _ _) .nil))) ho) ?_
  rintro r h' ⟨vs,t,c,rfl,rfl,hvl,hvs,a1,a2,a3⟩
  have hCl:h.le (bL hB nb (fR p 1 t c)):=Heap.aW zb hBl
  have hCn:(bL hB nb (fR p 1 t c)) nb=some (.row 4 [[.v (.ip 1 [p.c] 0 0),.v (I 1),.v (I t),.v (I c)]]):=bB _ _ _
  generalize bL hB nb (fR p 1 t c)=hC at hCn hCl ⊢
  rw[gS,←hF3]at a3
  simp -dsimp -implicitDefEqProofs only[go_sem,↓reduceIte,Tryz.f226,hCn]
  have hev:=a5D (show oO (evF p 1 f _) vs t c from a3)
  refine⟨λhc=>⟨cI,?_⟩,λhc=>⟨cI,?_⟩⟩
  ·try simp only[xL]
   rw[hev,if_neg hc]
   exact Shift.of (Sub.iJ (.cons (Sub.loose _ _ _) (.cons (.refl _) (.cons (.refl _) .nil)))) hCl
  subst hc
  rw[if_pos rfl]at hev
  have hcv:(vs.map λs=>s.getD 0 0).length=vs.length:=lM _
  refine cY aRL bD3 bD4 (λx:Nat×Option Nat=>[(9,.op nb 4 0 0),(12,pQ vs),(13,nW 1 ((vs.map λs=>s.getD 0 0).take x.1).length x.2),(14,I x.1)]) (λx=>dG hC (.row 1 ((((vs.map λs=>s.getD 0 0).take x.1).map λn=>[I n]).map (List.map .v))) x.2) (λx=>x.1<=vs.length/\lK hC ((vs.map λs=>s.getD 0 0).take x.1) x.2) (λx=>vs.length-x.1) (0,none) ⟨by simp[eE,dJ,nW],by simp only[aN];exact Heap.le_refl _,iF _,by simp[lK]⟩ ?_
  rintro⟨k,o⟩ ⟨hk,hos⟩
  simp only at hk hos ⊢
  rcases cX k vs.length with hlt|hge
  ·have ea:vs[k]?=some vs[k]:=cJ hlt
   have h0:=hvs _ (dX hlt)
   have e0:(vs[k])[Int.toNat 0]?=some (vs[k].getD 0 0):=gA (by rw[h0.1];decide)
   have h0l:=h0.1
   have hy:(vs.map λs=>s.getD 0 0).take (k+1)=(vs.map λs=>s.getD 0 0).take k++[(vs.map λs=>s.getD 0 0)[k]'aA]:=kF aA
   have hlk:((vs.map λs=>s.getD 0 0).take k).length=k:=by rw[pN];omega
   rw[List.getElem_map]at hy
   cases o with
   |none =>
    rw[cZ]at hos
    rw[hos]at hy ⊢
    simp -dsimp -implicitDefEqProofs only[go_sem,↓reduceIte,Tryz.f226,dK,aN,hlt,ea,e0]
    repeat'(with_reducible first|intro _|refine And.intro ?_ ?_)
    all_goals try(first|omega|decide)
    rename_i b hb
    refine⟨(k+1,some b),?_⟩
    simp only[hy]
    refine⟨⟨rfl,?_⟩,Heap.le_refl _,⟨by omega,hb⟩,by omega⟩
    rw[IntWalk.i64_in _ aA];rfl
   |some n =>
    rw[bY]at hos
    simp -dsimp -implicitDefEqProofs only[go_sem,↓reduceIte,Tryz.f226,bU,aK,hlt,ea,e0]
    repeat'(with_reducible first|intro _|refine And.intro ?_ ?_)
    all_goals try(first|omega|decide|exact eV _)
    rename_i b hb
    refine⟨(k+1,some b),?_⟩
    simp only[hy,aK,bU,bY]
    refine⟨⟨by rw[tN];rfl,?_⟩,?_,⟨by omega,hb.2⟩,by omega⟩
    ·rw[IntWalk.i64_in _ aA];rfl
    ·rw[←jE];exact pC hos
  ·have hk':k=vs.length:=by omega
   subst hk'
   rw[gX aA]at hos ⊢
   cases o with
   |none =>
    rw[cZ]at hos
    simp -dsimp -implicitDefEqProofs only[go_sem,↓reduceIte,Tryz.f226,dK,aN,cO,eK,hCn]
    intro _
    try simp only[xL]
    rw[hev,hos]
    exact Shift.of (Sub.iJ (.cons (Sub.loose _ _ _) (.cons (.refl _) (.cons (.refl _) .nil)))) hCl
   |some n =>
    rw[bY]at hos
    obtain⟨a94,aC0,aC1,a95⟩:=cB (show ¬n=nb from λe=>by rw[e,hCn]at hos;cases hos)
    simp -dsimp -implicitDefEqProofs only[go_sem,↓reduceIte,Tryz.f226,bU,aK,cO,eK,aE,aC0,aC1,hCn]
    intro _
    try simp only[xL]
    rw[hev]
    refine Shift.trans (oT ((vs.map λs=>s.getD 0 0).map λn=>[I n]) hos (Heap.le_refl _) (by simp[lY,lZ]) ?_) (eZ hCl)
    simp[aC.iE,oZ,gX]
 |some n =>
  rw[bY]at hos
  simp -dsimp -implicitDefEqProofs only[go_sem,↓reduceIte,Tryz.f226,bU,aK,cO,eK,ef]
  intro _
  refine⟨hf.1,by omega,?_⟩
  have hnn:=hnbB hos
  refine aH.aP9 rfl rfl hnn (by rw[lM,lM]) hos ?_
  have ho:=a0O (run hp (by decide:1<=1/\1<=1048576) 3001) (bL hB n .gone) nb 0 0 F (args.map λn=>[n]) f (by rw[aE _ _ _ _ hnn];exact hB0) aA aA aA (by rw[hlA];exact hF4) hf.1 aA hserA (by rw[lM];omega)
  refine gV.mono (gV.sub (.cons (.refl _) (.cons (Sub.ip (by rw[s6,ef];rfl) (by simp[aX.aO])) (.cons (.refl _) .nil))) ho) ?_
  rintro r h' ⟨vs,t,c,rfl,rfl,hvl,hvs,a1,a2,a3⟩
  have hhn:h n=none:=by rw[←hgB,aE _ _ _ _ (iW hnn)]at hos;exact hos
  have hCl:h.le (bL (bL hB n .gone) nb (fR p 1 t c)):=Heap.aW zb (Heap.aW hhn hBl)
  have hCn:(bL (bL hB n .gone) nb (fR p 1 t c)) nb=some (.row 4 [[.v (.ip 1 [p.c] 0 0),.v (I 1),.v (I t),.v (I c)]]):=bB _ _ _
  generalize bL (bL hB n .gone) nb (fR p 1 t c)=hC at hCn hCl ⊢
  rw[gS,←hF3]at a3
  simp -dsimp -implicitDefEqProofs only[go_sem,↓reduceIte,Tryz.f226,hCn]
  have hev:=a5D (show oO (evF p 1 f _) vs t c from a3)
  refine⟨λhc=>⟨cI,?_⟩,λhc=>⟨cI,?_⟩⟩
  ·try simp only[xL]
   rw[hev,if_neg hc]
   exact Shift.of (Sub.iJ (.cons (Sub.loose _ _ _) (.cons (.refl _) (.cons (.refl _) .nil)))) hCl
  subst hc
  rw[if_pos rfl]at hev
  have hcv:(vs.map λs=>s.getD 0 0).length=vs.length:=lM _
  refine cY aRL bD3 bD4 (λx:Nat×Option Nat=>[(9,.op nb 4 0 0),(12,pQ vs),(13,nW 1 ((vs.map λs=>s.getD 0 0).take x.1).length x.2),(14,I x.1)]) (λx=>dG hC (.row 1 ((((vs.map λs=>s.getD 0 0).take x.1).map λn=>[I n]).map (List.map .v))) x.2) (λx=>x.1<=vs.length/\lK hC ((vs.map λs=>s.getD 0 0).take x.1) x.2) (λx=>vs.length-x.1) (0,none) ⟨by simp[eE,dJ,nW],by simp only[aN];exact Heap.le_refl _,iF _,by simp[lK]⟩ ?_
  rintro⟨k,o⟩ ⟨hk,hos⟩
  simp only at hk hos ⊢
  rcases cX k vs.length with hlt|hge
  ·have ea:vs[k]?=some vs[k]:=cJ hlt
   have h0:=hvs _ (dX hlt)
   have e0:(vs[k])[Int.toNat 0]?=some (vs[k].getD 0 0):=gA (by rw[h0.1];decide)
   have h0l:=h0.1
   have hy:(vs.map λs=>s.getD 0 0).take (k+1)=(vs.map λs=>s.getD 0 0).take k++[(vs.map λs=>s.getD 0 0)[k]'aA]:=kF aA
   have hlk:((vs.map λs=>s.getD 0 0).take k).length=k:=by rw[pN];omega
   rw[List.getElem_map]at hy
   cases o with
   |none =>
    rw[cZ]at hos
    rw[hos]at hy ⊢
    simp -dsimp -implicitDefEqProofs only[go_sem,↓reduceIte,Tryz.f226,dK,aN,hlt,ea,e0]
    repeat'(with_reducible first|intro _|refine And.intro ?_ ?_)
    all_goals try(first|omega|decide)
    rename_i b hb
    refine⟨(k+1,some b),?_⟩
    simp only[hy]
    refine⟨⟨rfl,?_⟩,Heap.le_refl _,⟨by omega,hb⟩,by omega⟩
    rw[IntWalk.i64_in _ aA];rfl
   |some n =>
    rw[bY]at hos
    simp -dsimp -implicitDefEqProofs only[go_sem,↓reduceIte,Tryz.f226,bU,aK,hlt,ea,e0]
    repeat'(with_reducible first|intro _|refine And.intro ?_ ?_)
    all_goals try(first|omega|decide|exact eV _)
    rename_i b hb
    refine⟨(k+1,some b),?_⟩
    simp only[hy,aK,bU,bY]
    refine⟨⟨by rw[tN];rfl,?_⟩,?_,⟨by omega,hb.2⟩,by omega⟩
    ·rw[IntWalk.i64_in _ aA];rfl
    ·rw[←jE];exact pC hos
  ·have hk':k=vs.length:=by omega
   subst hk'
   rw[gX aA]at hos ⊢
   cases o with
   |none =>
    rw[cZ]at hos
    simp -dsimp -implicitDefEqProofs only[go_sem,↓reduceIte,Tryz.f226,dK,aN,cO,eK,hCn]
    intro _
    try simp only[xL]
    rw[hev,hos]
    exact Shift.of (Sub.iJ (.cons (Sub.loose _ _ _) (.cons (.refl _) (.cons (.refl _) .nil)))) hCl
   |some n =>
    rw[bY]at hos
    obtain⟨a94,aC0,aC1,a95⟩:=cB (show ¬n=nb from λe=>by rw[e,hCn]at hos;cases hos)
    simp -dsimp -implicitDefEqProofs only[go_sem,↓reduceIte,Tryz.f226,bU,aK,cO,eK,aE,aC0,aC1,hCn]
    intro _
    try simp only[xL]
    rw[hev]
    refine Shift.trans (oT ((vs.map λs=>s.getD 0 0).map λn=>[I n]) hos (Heap.le_refl _) (by simp[lY,lZ]) ?_) (eZ hCl)
    simp[aC.iE,oZ,gX]
end Go.Hl

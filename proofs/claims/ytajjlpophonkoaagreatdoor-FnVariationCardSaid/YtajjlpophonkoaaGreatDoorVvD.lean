/-
  Contracts of functions and laws of the layer over the walk.
-/
import Derived.Test.YtajjlpophonkoaaGreatDoorVvC
import Derived.Test.YtajjlpophonkoaaGreatDoorHlD
import Derived.Test.YtajjlpophonkoaaGreatDoorVvB
import Derived.Test.YtajjlpophonkoaaGreatDoorVvA
namespace Go.Hl
set_option maxRecDepth 100000
open Go.Proofs
set_option linter.unusedVariables false
set_option linter.unusedSimpArgs false
def dQ (p:aC) (inp:Int) (S:dS) (om og ov:Option Nat) (st:Nat) (c:Int):bE :=
 .row 8 [[.v (fN 3 aU.c p.aD),.v (I inp),.v (gW 4 S.code.length om),.v (gW 2 S.guards.length og),.v .bD,.v (gW 1 S.jE.length ov),.v (I st),.v (I c)]]
def aQ8 (h:aE) (sz:Nat) (rows:List (List Cell)):Option Nat->Prop
 |none=>rows=[]
 |some m=>rows≠[]/\h m=some (.row sz rows)
def rowsOf {α:Type} (c:α->List aH) (l:List α):List (List Cell):=(l.map c).map (List.map .v)
theorem vA {α:Type} (c:α->List aH) (l:List α):(rowsOf c l).length=l.length:=by simp[rowsOf]
theorem zX {α:Type} (c:α->List aH) (l:List α) (x:α):rowsOf c (l++[x])=rowsOf c l++[(c x).map .v]:=by simp[rowsOf]
theorem qO {α:Type} {c:α->List aH} {l:List α}:rowsOf c l=[]↔l=[]:=by simp[rowsOf]
structure aBJ (bx:dS->Option Nat->Option Nat->Option Nat->bE) (h0:aE) (nb:Nat) (S:dS) (om og ov:Option Nat) (h:aE):Prop where
 box:h nb=some (bx S om og ov)
 odd:∀ S om og ov,∃ sz cs,bx S om og ov=.row sz cs/\¬sz=1/\¬sz=2/\¬sz=4
 code:aQ8 h 4 (rowsOf bO.c S.code) om
 gds:aQ8 h 2 (rowsOf j8.c S.guards) og
 jE:aQ8 h 1 (rowsOf (λn=>[I n]) S.jE) ov
 fresh:∀ n,n=nb∨some n=om∨some n=og∨some n=ov->h0 n=none
 upto:∀ n,¬n=nb->¬some n=om->¬some n=og->¬some n=ov->h n=h0 n
def uI (bx:dS->Option Nat->Option Nat->Option Nat->bE) (h0:aE) (nb:Nat) (S:dS) (h:aE):Prop:=∃ om og ov,aBJ bx h0 nb S om og ov h
abbrev bQU (h0:aE) (nb:Nat) (p:aC) (inp:Int) (S:dS) (st:Nat) (c:Int) (om og ov:Option Nat) (h:aE):Prop:=aBJ (λS om og ov=>dQ p inp S om og ov st c) h0 nb S om og ov h
abbrev lC (h0:aE) (nb:Nat) (p:aC) (inp:Int) (S:dS) (st:Nat) (c:Int) (h:aE):Prop:=uI (λS om og ov=>dQ p inp S om og ov st c) h0 nb S h
theorem aQ9 (p:aC) (inp:Int) (st:Nat) (c:Int):∀ S om og ov,∃ sz cs,dQ p inp S om og ov st c=.row sz cs/\¬sz=1/\¬sz=2/\¬sz=4:=λS om og ov=>⟨8,_,rfl,by decide,by decide,by decide⟩
theorem aBJ.kinds {h0 h:aE} {nb:Nat} {bx:dS->Option Nat->Option Nat->Option Nat->bE} {S:dS} {om og ov:Option Nat} (H:aBJ bx h0 nb S om og ov h) (n:Nat) :
  (n=nb->h n=some (bx S om og ov))/\(some n=om->h n=some (.row 4 (rowsOf bO.c S.code)))/\(some n=og->h n=some (.row 2 (rowsOf j8.c S.guards)))/\(some n=ov->h n=some (.row 1 (rowsOf (λn=>[I n]) S.jE))) :=
 ⟨λe=>e▸H.box,λe=>by have:=H.code;rw[←e]at this;exact this.2,λe=>by have:=H.gds;rw[←e]at this;exact this.2,λe=>by have:=H.jE;rw[←e]at this;exact this.2⟩
theorem aBJ.apart {h0 h:aE} {nb:Nat} {bx:dS->Option Nat->Option Nat->Option Nat->bE} {S:dS} {om og ov:Option Nat} (H:aBJ bx h0 nb S om og ov h) (n:Nat) :
  (n=nb->¬some n=om/\¬some n=og/\¬some n=ov)/\(some n=om->¬some n=og/\¬some n=ov)/\(some n=og->¬some n=ov)/\(h n=none->¬n=nb/\¬some n=om/\¬some n=og/\¬some n=ov):=by
 obtain⟨k1,k2,k3,k4⟩:=H.kinds n
 obtain⟨sz,cs,hB,o1,o2,o4⟩:=H.odd S om og ov
 rw[hB]at k1
 refine⟨λe=>⟨λq=>?_,λq=>?_,λq=>?_⟩,λe=>⟨λq=>?_,λq=>?_⟩,λe q=>?_,λe=>⟨λq=>?_,λq=>?_,λq=>?_,λq=>?_⟩⟩
 ·have:=(k1 e).symm.trans (k2 q);simp at this;exact o4 this.1
 ·have:=(k1 e).symm.trans (k3 q);simp at this;exact o2 this.1
 ·have:=(k1 e).symm.trans (k4 q);simp at this;exact o1 this.1
 ·have:=(k2 e).symm.trans (k3 q);simp at this
 ·have:=(k2 e).symm.trans (k4 q);simp at this
 ·have:=(k3 e).symm.trans (k4 q);simp at this
 ·have:=(k1 q);rw[e]at this;cases this
 ·have:=(k2 q);rw[e]at this;cases this
 ·have:=(k3 q);rw[e]at this;cases this
 ·have:=(k4 q);rw[e]at this;cases this
theorem aBJ.put {h0 h F:aE} {nb:Nat} {bx:dS->Option Nat->Option Nat->Option Nat->bE} {S:dS} {om og ov:Option Nat} (H:aBJ bx h0 nb S om og ov h) (x:bO) (v:Int) {b b2:Nat} (hb:h b=none) (hb2:h b2=none) (hne:¬b2=b)
  (f1:F nb=some (bx (S.put x v) (some b) og (some b2))) (f2:F b=some (.row 4 (rowsOf bO.c (S.code++[x])))) (f3:F b2=some (.row 1 (rowsOf (λn=>[I n]) (S.jE++[v]))))
  (f4:∀ n,¬n=nb->¬n=b->¬n=b2->¬some n=om->¬some n=ov->F n=h n):∃ g:aE,g.le F/\uI bx h0 nb (S.put x v) g:=by
 have a1:=(H.apart nb).1 rfl
 have a2:=(H.apart b).2.2.2 hb
 have a3:=(H.apart b2).2.2.2 hb2
 have g1:∀ n,some n=om∨some n=ov->h0 n=none:=λn hn=>H.fresh n (by rcases hn with hn|hn;exact .inr (.inl hn);exact .inr (.inr (.inr hn)))
 have g2:h0 b=none:=(H.upto b a2.1 a2.2.1 a2.2.2.1 a2.2.2.2).symm.trans hb
 have g3:h0 b2=none:=(H.upto b2 a3.1 a3.2.1 a3.2.2.1 a3.2.2.2).symm.trans hb2
 have get:∀ n,¬some n=om->¬some n=ov->(λn=>if some n=om∨some n=ov then none else F n) n=F n:=λn h1 h2=>if_neg (by rintro(q|q);exact h1 q;exact h2 q)
 refine⟨λn=>if some n=om∨some n=ov then none else F n,λn=>?_,some b,og,some b2,⟨?_,H.odd,⟨by simp[rowsOf,dS.put],?_⟩,?_,⟨by simp[rowsOf,dS.put],?_⟩,λn hn=>?_,λn h1 h2 h3 h4=>?_⟩⟩
 ·by_cases e:some n=om∨some n=ov
  ·exact .inl (if_pos e)
  ·exact .inr (if_neg e)
 ·exact(get nb a1.1 a1.2.2).trans f1
 ·exact(get b a2.2.1 a2.2.2.2).trans f2
 ·have hg:=H.gds
  cases og with
  |none=>exact hg
  |some k =>
   have ak:=(H.apart k)
   have hk:=hg.2
   refine⟨hg.1,(get k (λq=>ak.2.1 q |>.1 rfl) (λq=>ak.2.2.1 rfl q)).trans ?_⟩
   rw[f4 k (λq=>(ak.1 q).2.1 rfl) (λq=>by rw[q,hb]at hk;cases hk) (λq=>by rw[q,hb2]at hk;cases hk) (λq=>ak.2.1 q |>.1 rfl) (λq=>ak.2.2.1 rfl q)]
   exact hk
 ·exact(get b2 a3.2.1 a3.2.2.2).trans f3
 ·rcases hn with rfl|hn|hn|hn
  ·exact H.fresh _ (.inl rfl)
  ·obtain rfl:=gV hn;exact g2
  ·exact H.fresh n (.inr (.inr (.inl hn)))
  ·obtain rfl:=gV hn;exact g3
 ·have h2':¬n=b:=λq=>h2 (by rw[q])
  have h4':¬n=b2:=λq=>h4 (by rw[q])
  by_cases e:some n=om∨some n=ov
  ·exact(if_pos e).trans (g1 n e).symm
  ·have e1:¬some n=om:=λq=>e (.inl q)
   have e2:¬some n=ov:=λq=>e (.inr q)
   exact((get n e1 e2).trans (f4 n h1 h2' h4' e1 e2)).trans (H.upto n h1 e1 h3 e2)
@[go_sem] def bGI:List Nat:=[0,1,2,4,6]
@[go_sem] def b1H:List Nat:=[4,15,22]
@[go_sem] def b1I:Marks:=λid=>match id with|1=>([6,9,13,16,20,23],(.op 0 (.op 1 (.op 2 (.op 3 (.op 4 (.op 5 (.op 7 (.op 8 (.op 10 (.op 11 (.op 12 (.op 14 (.op 15 (.op 6 (.op 13 (.op 9 (.op 16 (.op 17 (.op 18 (.op 19 (.op 20 (.op 21 (.op 22 (.op 23 .nil)))))))))))))))))))))))),[(13,9)])|_=>([],.nil,[])
theorem aRA {h0 h:aE} {nb:Nat} {p:aC} {inp:Int} {S:dS} {st:Nat} {c:Int} (H:lC h0 nb p inp S st c h) (x:bO) (v:Int) (hl:S.code.length=S.jE.length) (hcap:S.jE.length<=1048576) :
  jC Tryz.prog 62 [.op nb 8 0 0,.agg x.c,I v] h λr h'=>r=I S.jE.length/\lC h0 nb p inp (S.put x v) st c h':=by
 obtain⟨om,og,ov,H⟩:=H
 have hb:=H.box
 have hc:=H.code
 have hv:=H.jE
 unfold dQ at hb
 rw[bO.aS]
 cases om with
 |none =>
  have hc0:S.code=[]:=qO.1 hc
  cases ov with
  |some v =>
   have hv0:S.jE=[]:=aYT (by rw[←hl,hc0];rfl)
   exact absurd (by rw[hv0];rfl) hv.1
  |none =>
   have hv0:S.jE=[]:=qO.1 hv
   refine lU 35 bGI b1H b1I Tryz.func62 ?_
   simp -dsimp -implicitDefEqProofs only[go_sem,↓reduceIte,Tryz.f62,hb,b5]
   refine⟨by decide,by decide,by decide,by decide,by decide,λm hm=>?_⟩
   obtain⟨mB,cY,cX,kM⟩:=bB (show ¬m=nb from λe=>by rw[e,hb]at hm;cases hm)
   refine⟨by rw[aI _ _ _ _ kM,hb];rfl,by decide,λw ⟨hwm,hw⟩=>?_⟩
   obtain⟨a4F,aAT,aAU,bGJ⟩:=bB (show ¬w=nb from λe=>by rw[e,hb]at hw;cases hw)
   obtain⟨bQV,a0X,a0Y,bQW⟩:=bB (show ¬w=m from hwm)
   try simp -dsimp -implicitDefEqProofs only[go_sem,↓reduceIte,Tryz.f62,hb,cY,a0Y,cX,aAU,a0X,aAT,aI]
   obtain⟨g,hg,hR⟩:=H.put x v hm hw bQV (F:=aR (aR (aR h m (.row 4 [x.c.map .v])) w (.row 1 [[.v (I v)]])) nb (dQ p inp (S.put x v) (some m) og (some w) st c)) (aM _ _ _)
    (by rw[aI _ _ _ _ mB,aI _ _ _ _ bQW,aM,hc0];rfl) (by rw[aI _ _ _ _ a4F,aM,hv0];rfl) (λn h1 h2 h3 _ _=>by rw[aI _ _ _ _ h1,aI _ _ _ _ h3,aI _ _ _ _ h2])
   refine⟨_,g,bG ?_,by rw[hv0];rfl,hR⟩
   rw[aO]
   unfold dQ at hg
   simp only[dS.put,hc0,hv0,aY,bO.aS]at hg
   exact hg
 |some m =>
  cases ov with
  |none =>
   have hv0:S.jE=[]:=qO.1 hv
   have hc0:S.code=[]:=aYT (by rw[hl,hv0];rfl)
   exact absurd (by rw[hc0];rfl) hc.1
  |some w =>
   have hm:=hc.2
   have hw:=hv.2
   obtain⟨mB,cY,cX,kM⟩:=bB (show ¬m=nb from λe=>by rw[e,hb]at hm;cases hm)
   obtain⟨a4F,aAT,aAU,bGJ⟩:=bB (show ¬w=nb from λe=>by rw[e,hb]at hw;cases hw)
   obtain⟨bQV,a0X,a0Y,bQW⟩:=bB (show ¬w=m from λe=>by rw[e,hm]at hw;cases hw)
   refine lU 35 bGI b1H b1I Tryz.func62 ?_
   simp -dsimp -implicitDefEqProofs only[go_sem,↓reduceIte,Tryz.f62,hb,aY,hm,hw,cY,a0Y,cX,aAU,a0X,aAT,aI]
   refine⟨by decide,by decide,by decide,by decide,by decide,by rw[vA];exact iH _,by omega,by omega,λb xM=>?_⟩
   obtain⟨mY,dP,dO,kY⟩:=bB (show ¬b=nb from λe=>by rw[e,hb]at xM;cases xM)
   obtain⟨sG,fI,fJ,rT⟩:=bB (show ¬b=m from λe=>by rw[e,hm]at xM;cases xM)
   obtain⟨b1J,bQX,bQY,cCQ⟩:=bB (show ¬b=w from λe=>by rw[e,hw]at xM;cases xM)
   refine⟨by rw[aI _ _ _ _ kY,aI _ _ _ _ kM,hb];rfl,by decide,?_⟩
   try simp -dsimp -implicitDefEqProofs only[go_sem,↓reduceIte,Tryz.f62,hb,hw,cY,a0Y,fJ,cX,aAU,dO,a0X,aAT,bQY,fI,dP,bQX,aI]
   refine⟨by rw[vA];exact iH _,by omega,by omega,λb2 ⟨b85,b86,hb2⟩=>?_⟩
   obtain⟨a8S,aWK,aWL,bL8⟩:=bB (show ¬b2=nb from λe=>by rw[e,hb]at hb2;cases hb2)
   obtain⟨bUB,a4G,a4H,bUC⟩:=bB (show ¬b2=m from b86)
   obtain⟨b87,bUD,bUE,b88⟩:=bB (show ¬b2=w from λe=>by rw[e,hw]at hb2;cases hb2)
   obtain⟨bGK,a4I,a4J,bGL⟩:=bB (show ¬b2=b from b85)
   simp -dsimp -implicitDefEqProofs only[go_sem,↓reduceIte,Tryz.f62,hb,hw,cY,a0Y,fJ,a4H,cX,aAU,dO,aWL,a0X,aAT,bQY,bUE,fI,dP,bQX,a4J,a4G,aWK,bUD,a4I,aI]
   rw[pQ a6X,pQ a6X]
   obtain⟨g,hg,hR⟩:=H.put x v xM hb2 bGK (F:=aR (aR (aR (aR (aR h m .gone) b (.row 4 (rowsOf bO.c S.code++[x.c.map .v]))) w .gone) b2 (.row 1 (rowsOf (λn=>[I n]) S.jE++[[.v (I v)]]))) nb (dQ p inp (S.put x v) (some b) og (some b2) st c)) (aM _ _ _)
    (by rw[aI _ _ _ _ mY,aI _ _ _ _ bGL,aI _ _ _ _ b1J,aM,zX]) (by rw[aI _ _ _ _ a8S,aM,zX];rfl)
    (λn h1 h2 h3 h4 h5=>by rw[aI _ _ _ _ h1,aI _ _ _ _ h3,aI _ _ _ _ (λq=>h5 (by rw[q])),aI _ _ _ _ h2,aI _ _ _ _ (λq=>h4 (by rw[q]))])
   refine λ_=>⟨_,g,bG ?_,?_,hR⟩
   ·rw[aO]
    unfold dQ at hg
    simp only[dS.put,aY,bO.aS,mV,u4]at hg
    exact hg
   ·rw[IntWalk.i64_in _ aA]
    congr 1
    omega
theorem aBJ.set {h0 h:aE} {nb:Nat} {p:aC} {inp:Int} {S:dS} {st:Nat} {c:Int} {om og ov:Option Nat} (H:bQU h0 nb p inp S st c om og ov h) (st':Nat) (c':Int):bQU h0 nb p inp S st' c' om og ov (aR h nb (dQ p inp S om og ov st' c')):=by
 have a1:=(H.apart nb).1 rfl
 have hr:∀ (o:Option Nat) (sz:Nat) (rows:List (List Cell)),¬some nb=o->aQ8 h sz rows o->aQ8 (aR h nb (dQ p inp S om og ov st' c')) sz rows o:=λo sz rows hn ho=>by
  cases o with
  |none=>exact ho
  |some m=>exact⟨ho.1,(aI _ _ _ _ λq=>hn (by rw[q])).trans ho.2⟩
 exact⟨aM _ _ _,aQ9 _ _ _ _,hr _ _ _ a1.1 H.code,hr _ _ _ a1.2.1 H.gds,hr _ _ _ a1.2.2 H.jE,H.fresh,λn h1 h2 h3 h4=>(aI _ _ _ _ h1).trans (H.upto n h1 h2 h3 h4)⟩
theorem uI.over {h0 h:aE} {nb:Nat} {bx:dS->Option Nat->Option Nat->Option Nat->bE} {S:dS} (H:uI bx h0 nb S h) {m:Nat} {o:bE} (hm:h m=none):uI bx (aR h0 m o) nb S (aR h m o):=by
 obtain⟨om,og,ov,H⟩:=H
 have a:=(H.apart m).2.2.2 hm
 have hr:∀ (q:Option Nat) (sz:Nat) (rows:List (List Cell)),¬some m=q->aQ8 h sz rows q->aQ8 (aR h m o) sz rows q:=λq sz rows hn ho=>by
  cases q with
  |none=>exact ho
  |some k=>exact⟨ho.1,(aI _ _ _ _ λe=>hn (by rw[e])).trans ho.2⟩
 refine⟨om,og,ov,(aI _ _ _ _ λe=>a.1 e.symm).trans H.box,H.odd,hr _ _ _ a.2.1 H.code,hr _ _ _ a.2.2.1 H.gds,hr _ _ _ a.2.2.2 H.jE,λn hn=>?_,λn h1 h2 h3 h4=>?_⟩
 ·have hnm:¬n=m:=λe=>by
   subst e
   rcases hn with hn|hn|hn|hn
   ·exact a.1 hn
   ·exact a.2.1 hn
   ·exact a.2.2.1 hn
   ·exact a.2.2.2 hn
  exact(aI _ _ _ _ hnm).trans (H.fresh n hn)
 ·by_cases e:n=m
  ·rw[e,aM,aM]
  ·rw[aI _ _ _ _ e,aI _ _ _ _ e];exact H.upto n h1 h2 h3 h4
theorem uI.base {h0 h:aE} {nb:Nat} {bx:dS->Option Nat->Option Nat->Option Nat->bE} {S:dS} {m:Nat} {o:bE} (H:uI bx (aR h0 m o) nb S h) (hm:h0 m=none):∃ g,h=aR g m o/\g m=none/\uI bx h0 nb S g:=by
 obtain⟨om,og,ov,H⟩:=H
 have hne:∀ n,(n=nb∨some n=om∨some n=og∨some n=ov)->¬n=m:=λn hn e=>by
  have:=H.fresh n hn
  rw[e,aM]at this;cases this
 have hmo:h m=some o:=(H.upto m (λe=>hne m (.inl e) rfl) (λe=>hne m (.inr (.inl e)) rfl) (λe=>hne m (.inr (.inr (.inl e))) rfl) (λe=>hne m (.inr (.inr (.inr e))) rfl)).trans (aM _ _ _)
 have get:∀ n,¬n=m->(λn=>if n=m then none else h n) n=h n:=λn hn=>if_neg hn
 have hr:∀ (q:Option Nat) (sz:Nat) (rows:List (List Cell)),(∀ n,some n=q->¬n=m)->aQ8 h sz rows q->aQ8 (λn=>if n=m then none else h n) sz rows q:=λq sz rows hn ho=>by
  cases q with
  |none=>exact ho
  |some k=>exact⟨ho.1,(get k (hn k rfl)).trans ho.2⟩
 refine⟨λn=>if n=m then none else h n,?_,if_pos rfl,om,og,ov,(get nb (hne nb (.inl rfl))).trans H.box,H.odd,hr _ _ _ (λn e=>hne n (.inr (.inl e))) H.code,hr _ _ _ (λn e=>hne n (.inr (.inr (.inl e)))) H.gds,hr _ _ _ (λn e=>hne n (.inr (.inr (.inr e)))) H.jE,λn hn=>?_,λn h1 h2 h3 h4=>?_⟩
 ·funext n
  by_cases e:n=m
  ·rw[e,aM,hmo]
  ·rw[aI _ _ _ _ e];exact(get n e).symm
 ·have:=H.fresh n hn
  rwa [aI _ _ _ _ (hne n hn)]at this
 ·by_cases e:n=m
  ·subst e;exact(if_pos rfl).trans hm.symm
  ·have:=H.upto n h1 h2 h3 h4
   rw[aI _ _ _ _ e]at this
   exact(get n e).trans this
theorem uI.none {h0 h:aE} {nb:Nat} {bx:dS->Option Nat->Option Nat->Option Nat->bE} {S:dS} (H:uI bx h0 nb S h) {m:Nat} (hm:h m=none):h0 m=none:=by
 obtain⟨om,og,ov,H⟩:=H
 have a:=(H.apart m).2.2.2 hm
 exact(H.upto m a.1 a.2.1 a.2.2.1 a.2.2.2).symm.trans hm
theorem aBJ.guard {h0 h F:aE} {nb:Nat} {bx:dS->Option Nat->Option Nat->Option Nat->bE} {S:dS} {om og ov:Option Nat} (H:aBJ bx h0 nb S om og ov h) (x:j8) {b:Nat} (hb:h b=none)
  (f1:F nb=some (bx (S.guard x) om (some b) ov)) (f2:F b=some (.row 2 (rowsOf j8.c (S.guards++[x]))))
  (f4:∀ n,¬n=nb->¬n=b->¬some n=og->F n=h n):∃ g:aE,g.le F/\aBJ bx h0 nb (S.guard x) om (some b) ov g:=by
 have a1:=(H.apart nb).1 rfl
 have a2:=(H.apart b).2.2.2 hb
 have g2:h0 b=none:=(H.upto b a2.1 a2.2.1 a2.2.2.1 a2.2.2.2).symm.trans hb
 have get:∀ n,¬some n=og->(λn=>if some n=og then none else F n) n=F n:=λn h1=>if_neg h1
 have hr:∀ (q:Option Nat) (sz:Nat) (rows:List (List Cell)),(∀ n,some n=q->¬n=nb/\¬n=b/\¬some n=og)->aQ8 h sz rows q->aQ8 (λn=>if some n=og then none else F n) sz rows q:=λq sz rows hn ho=>by
  cases q with
  |none=>exact ho
  |some k =>
   obtain⟨e1,e2,e3⟩:=hn k rfl
   exact⟨ho.1,((get k e3).trans (f4 k e1 e2 e3)).trans ho.2⟩
 refine⟨λn=>if some n=og then none else F n,λn=>?_,⟨?_,H.odd,hr _ _ _ (λn e=>⟨λq=>((H.apart n).1 q).1 e,λq=>a2.2.1 (by rw[←q];exact e),((H.apart n).2.1 e).1⟩) H.code,⟨by simp[rowsOf,dS.guard],?_⟩,hr _ _ _ (λn e=>⟨λq=>((H.apart n).1 q).2.2 e,λq=>a2.2.2.2 (by rw[←q];exact e),λq=>(H.apart n).2.2.1 q e⟩) H.jE,λn hn=>?_,λn h1 h2 h3 h4=>?_⟩⟩
 ·by_cases e:some n=og
  ·exact .inl (if_pos e)
  ·exact .inr (if_neg e)
 ·exact(get nb a1.2.1).trans f1
 ·exact(get b a2.2.2.1).trans f2
 ·rcases hn with rfl|hn|hn|hn
  ·exact H.fresh _ (.inl rfl)
  ·exact H.fresh n (.inr (.inl hn))
  ·obtain rfl:=gV hn;exact g2
  ·exact H.fresh n (.inr (.inr (.inr hn)))
 ·have h3':¬n=b:=λq=>h3 (by rw[q])
  by_cases e:some n=og
  ·exact(if_pos e).trans (H.fresh n (.inr (.inr (.inl e)))).symm
  ·exact((get n e).trans (f4 n h1 h3' e)).trans (H.upto n h1 h2 e h4)
theorem aE9 (a b:Int) (ha:oU a) (hb:oU b):fM Tryz.prog 209 [I a,I b] (I (a*b%1000003)):=by
 have h1:=num_mul ha hb
 unfold oU at ha hb
 refine gX 11 aE0 dC cK Tryz.func209 λh=>?_
 simp -dsimp -implicitDefEqProofs only[go_sem,↓reduceIte,Tryz.f209]
 first|refine aJ.mk (j6 a) ?_|refine aF.mk (j6 a) ?_|refine aJ.bA (j6 a) ?_|refine aF.mk (aX.cU (j6 a)) ?_
 simp -dsimp -implicitDefEqProofs only[go_sem,↓reduceIte,Tryz.f209]
 first|refine aJ.mk (j6 b) ?_|refine aF.mk (j6 b) ?_|refine aJ.bA (j6 b) ?_|refine aF.mk (aX.cU (j6 b)) ?_
 simp -dsimp -implicitDefEqProofs only[go_sem,↓reduceIte,Tryz.f209]
 rw[a6A ha.1 aA,a6A hb.1 aA,a0N h1.1 aA]
@[go_sem] def bL9:List Nat:=[0,1,2,3,6,7,9,10,15,20,25,30]
theorem bGM (x:bO) (a b:Int) (ha:oU a) (hb:oU b) (hk:x.lB=3∨x.lB=4∨x.lB=5∨x.lB=6∨x.lB=7):fM Tryz.prog 193 [.agg x.c,I a,I b] (.jO [I ((opV x.lB a b).getD 0),.bool (opV x.lB a b).isSome]):=by
 rw[bO.aS]
 have hni:oU (nV b):=num_inv b
 refine gX 35 bL9 a0C cK Tryz.func193 λh=>?_
 simp -dsimp -implicitDefEqProofs only[go_sem,↓reduceIte,Tryz.f193]
 refine⟨λq=>?_,λq=>⟨λq4=>?_,λq4=>⟨λq5=>?_,λq5=>⟨λq7=>?_,λq7=>⟨λqb=>?_,λqb=>?_⟩⟩⟩⟩⟩
 ·first|refine aJ.mk (aWB a b) ?_|refine aF.mk (aWB a b) ?_|refine aJ.bA (aWB a b) ?_|refine aF.mk (aX.cU (aWB a b)) ?_
  simp -dsimp -implicitDefEqProofs only[go_sem,↓reduceIte,Tryz.f193]
  unfold opV;rw[if_pos q];rfl
 ·first|refine aJ.mk (minus a b) ?_|refine aF.mk (minus a b) ?_|refine aJ.bA (minus a b) ?_|refine aF.mk (aX.cU (minus a b)) ?_
  simp -dsimp -implicitDefEqProofs only[go_sem,↓reduceIte,Tryz.f193]
  unfold opV;rw[if_neg q,if_pos q4];rfl
 ·first|refine aJ.mk (aE9 a b ha hb) ?_|refine aF.mk (aE9 a b ha hb) ?_|refine aJ.bA (aE9 a b ha hb) ?_|refine aF.mk (aX.cU (aE9 a b ha hb)) ?_
  simp -dsimp -implicitDefEqProofs only[go_sem,↓reduceIte,Tryz.f193]
  unfold opV;rw[if_neg q,if_neg q4,if_pos q5];rfl
 ·first|refine aJ.mk (minus 0 a) ?_|refine aF.mk (minus 0 a) ?_|refine aJ.bA (minus 0 a) ?_|refine aF.mk (aX.cU (minus 0 a)) ?_
  simp -dsimp -implicitDefEqProofs only[go_sem,↓reduceIte,Tryz.f193]
  unfold opV;rw[if_neg q,if_neg q4,if_neg q5,if_pos q7];rfl
 ·unfold opV;rw[if_neg q,if_neg q4,if_neg q5,if_neg q7,if_pos qb];rfl
 ·first|refine aJ.mk (sQ b) ?_|refine aF.mk (sQ b) ?_|refine aJ.bA (sQ b) ?_|refine aF.mk (aX.cU (sQ b)) ?_
  simp -dsimp -implicitDefEqProofs only[go_sem,↓reduceIte,Tryz.f193]
  first|refine aJ.mk (aE9 a (nV b) ha hni) ?_|refine aF.mk (aE9 a (nV b) ha hni) ?_|refine aJ.bA (aE9 a (nV b) ha hni) ?_|refine aF.mk (aX.cU (aE9 a (nV b) ha hni)) ?_
  simp -dsimp -implicitDefEqProofs only[go_sem,↓reduceIte,Tryz.f193]
  unfold opV;rw[if_neg q,if_neg q4,if_neg q5,if_neg q7,if_neg qb];rfl
theorem Good.val {inp:Int} {S:dS} {t:Nat} (h:Good inp S t) (k:Int):oU (S.val k):=h.bGG.get _
theorem aBJ.row {h0 h:aE} {nb:Nat} {bx:dS->Option Nat->Option Nat->Option Nat->bE} {S:dS} {om og ov:Option Nat} (H:aBJ bx h0 nb S om og ov h) {k:Int} (hk:rQ S k):∃ w,ov=some w/\h w=some (.row 1 (rowsOf (λn=>[I n]) S.jE))/\¬w=nb:=by
 have hv:=H.jE
 cases ov with
 |none=>have:=qO.1 hv;have h2:=hk.1;have h3:=hk.2;rw[this]at h3;simp at h3;omega
 |some w=>exact⟨w,rfl,hv.2,λe=>((H.apart w).1 e).2.2 rfl⟩
theorem aIA {S:dS} {k:Int} (hk:rQ S k):(rowsOf (λn=>[I n]) S.jE)[k.toNat]?=some [.v (I (S.val k))]:=by
 have h1:=hk.1
 have h2:=hk.2
 rw[rowsOf,nE,nE,cM aA,dS.val,dI,cM aA];rfl
@[go_sem] def bMA:List Nat:=[0,1,2,6,7,8,9,16,43]
@[go_sem] def b1K:Marks:=λid=>match id with|4=>([0,4,6,8,12,14,16],(.op 1 (.op 2 (.op 3 (.op 5 (.op 9 (.op 10 (.op 11 (.op 13 (.op 0 (.op 4 (.op 6 (.op 7 (.op 8 (.op 12 (.op 14 (.op 15 (.op 16 (.op 17 (.op 18 (.op 19 (.op 20 (.op 21 (.op 22 .nil))))))))))))))))))))))),[])|_=>([],.nil,[])
theorem uJ {h0 h:aE} {nb:Nat} {p:aC} {inp:Int} {S:dS} {st:Nat} (H:lC h0 nb p inp S st 0 h) (hg:Good inp S st) (hst:st<=3000) (k:Int) (vs:List Int) (hk:k=3∨k=4∨k=5∨k=6∨k=7) (h1:1<=vs.length) (h2:¬k=7->2<=vs.length) (hv:∀ x∈vs,rQ S x) (hl:vs.length<=1048576) :
  jC Tryz.prog 170 [.op nb 8 0 0,I k,ints vs] h λr h'=>∃ j S' c',r=I j/\lC h0 nb p inp S' st c' h'/\kW (opR k vs S st) (j,S') st c':=by
 obtain⟨om,og,ov,H⟩:=H
 have at_:∀ i,i<vs.length->rQ S (vs.getD i 0):=λi hi=>by
  rw[dI,cM hi]
  exact hv _ (eI _)
 have i0:=at_ 0 aA
 have iB:rQ S (opB k vs):=by
  unfold opB
  split
  ·have a:=i0.1;have b:=i0.2;exact⟨aLJ _,by omega⟩
  ·exact at_ 1 (h2 lF)
 obtain⟨w,rfl,hw,dw⟩:=H.row i0
 have hb:=H.box
 unfold dQ at hb
 rw[aY]at hb
 have g0:vs[Int.toNat 0]?=some (vs.getD 0 0):=cI aA
 have r0:=aIA i0
 have rB:=aIA iB
 obtain⟨a4F,aAT,aAU,bGJ⟩:=bB (show ¬w=nb from dw)
 have hva:=hg.val (vs.getD 0 0)
 have hvb:=hg.val (opB k vs)
 have hop:=bGM ⟨k,vs.getD 0 0,opB k vs,0⟩ _ _ hva hvb hk
 simp only[bO.aS]at hop
 have b0:=iB.1
 have b1:=i0.1
 have lw:=vA (λn=>[I n]) S.jE
 have i0b:=i0.2
 have iBb:=iB.2
 refine lU 51 bMA dC b1K Tryz.func170 ?_
 simp -dsimp -implicitDefEqProofs only[go_sem,↓reduceIte,Tryz.f170,hb,g0]
 refine⟨by omega,λn hn=>⟨λh7=>⟨by have:=h2 h7;omega,?_⟩,λh7=>?_⟩⟩
 ·obtain⟨wR,fK,fL,p6⟩:=bB (show ¬n=nb from λe=>by rw[e,hb]at hn;cases hn)
  obtain⟨b1L,a0Z,a00,b1M⟩:=bB (show ¬n=w from λe=>by rw[e,hw]at hn;cases hn)
  have eB:opB k vs=vs.getD 1 0:=if_neg h7
  have g1:vs[Int.toNat 1]?=some (vs.getD 1 0):=cI (h2 h7)
  rw[eB]at rB hop b0 iBb
  simp -dsimp -implicitDefEqProofs only[go_sem,↓reduceIte,Tryz.f170,g1,hb,hw,r0,rB,fK,a0Z,fL,aAU,a00,aAT,aI]
  refine⟨b1,i0b,b0,iBb,?_⟩
  cases hv:opV k (S.val (vs.getD 0 0)) (S.val ((vs.getD 1 0)))with
  |none =>
   rw[hv]at hop
   first|refine aJ.mk (hop) ?_|refine aF.mk (hop) ?_|refine aJ.bA (hop) ?_|refine aF.mk (aX.cU (hop)) ?_
   simp -dsimp -implicitDefEqProofs only[go_sem,↓reduceIte,Tryz.f170]
   refine⟨λ_=>?_,λq=>absurd q cT⟩
   simp -dsimp -implicitDefEqProofs only[go_sem,↓reduceIte,Tryz.f170,hb,fK,a0Z,fL,aAU,a00,aAT,aI]
   refine⟨_,_,bG (?_:(aR h nb (dQ p inp S om og (some w) st 6)).le _),0,S,6,rfl,⟨_,_,_,H.set st 6⟩,by unfold opR;rw[eB,hv];exact mW _ _ cE⟩
   unfold dQ
   rw[aY]
   exact(o6 bO9)
  |some v =>
   rw[hv]at hop
   first|refine aJ.mk (hop) ?_|refine aF.mk (hop) ?_|refine aJ.bA (hop) ?_|refine aF.mk (aX.cU (hop)) ?_
   simp -dsimp -implicitDefEqProofs only[go_sem,↓reduceIte,Tryz.f170]
   refine⟨λq=>absurd q cT,λ_=>?_⟩
   simp only[aO]
   refine aJ.gS (aRA (uI.over ⟨om,og,some w,H⟩ hn) ⟨k,vs.getD 0 0,(vs.getD 1 0),0⟩ v hg.len (by have:=hg.cap;omega)) ?_
   rintro r h' ⟨rfl,hR⟩
   obtain⟨g,rfl,hgn,hR⟩:=hR.base (uI.none ⟨om,og,some w,H⟩ hn)
   simp -dsimp -implicitDefEqProofs only[go_sem,↓reduceIte,Tryz.f170]
   exact⟨_,g,bG (aE.bP hgn (aE.le_refl _)),_,_,0,rfl,hR,by unfold opR;rw[eB,hv];exact nN _ _⟩
 ·obtain⟨wR,fK,fL,p6⟩:=bB (show ¬n=nb from λe=>by rw[e,hb]at hn;cases hn)
  obtain⟨b1L,a0Z,a00,b1M⟩:=bB (show ¬n=w from λe=>by rw[e,hw]at hn;cases hn)
  have eB:opB k vs=0:=if_pos h7
  rw[eB]at rB hop b0 iBb
  simp -dsimp -implicitDefEqProofs only[go_sem,↓reduceIte,Tryz.f170,hb,hw,r0,rB,fK,a0Z,fL,aAU,a00,aAT,aI]
  refine⟨b1,i0b,iBb,?_⟩
  cases hv:opV k (S.val (vs.getD 0 0)) (S.val (0))with
  |none =>
   rw[hv]at hop
   first|refine aJ.mk (hop) ?_|refine aF.mk (hop) ?_|refine aJ.bA (hop) ?_|refine aF.mk (aX.cU (hop)) ?_
   simp -dsimp -implicitDefEqProofs only[go_sem,↓reduceIte,Tryz.f170]
   refine⟨λ_=>?_,λq=>absurd q cT⟩
   simp -dsimp -implicitDefEqProofs only[go_sem,↓reduceIte,Tryz.f170,hb,fK,a0Z,fL,aAU,a00,aAT,aI]
   refine⟨_,_,bG (?_:(aR h nb (dQ p inp S om og (some w) st 6)).le _),0,S,6,rfl,⟨_,_,_,H.set st 6⟩,by unfold opR;rw[eB,hv];exact mW _ _ cE⟩
   unfold dQ
   rw[aY]
   exact(o6 bO9)
  |some v =>
   rw[hv]at hop
   first|refine aJ.mk (hop) ?_|refine aF.mk (hop) ?_|refine aJ.bA (hop) ?_|refine aF.mk (aX.cU (hop)) ?_
   simp -dsimp -implicitDefEqProofs only[go_sem,↓reduceIte,Tryz.f170]
   refine⟨λq=>absurd q cT,λ_=>?_⟩
   simp only[aO]
   refine aJ.gS (aRA (uI.over ⟨om,og,some w,H⟩ hn) ⟨k,vs.getD 0 0,0,0⟩ v hg.len (by have:=hg.cap;omega)) ?_
   rintro r h' ⟨rfl,hR⟩
   obtain⟨g,rfl,hgn,hR⟩:=hR.base (uI.none ⟨om,og,some w,H⟩ hn)
   simp -dsimp -implicitDefEqProofs only[go_sem,↓reduceIte,Tryz.f170]
   exact⟨_,g,bG (aE.bP hgn (aE.le_refl _)),_,_,0,rfl,hR,by unfold opR;rw[eB,hv];exact nN _ _⟩
theorem kW.ok {α:Type} {c:Int} {X:Out α} {v:α} {t:Nat} {c':Int} (h:kW (r6 c X) v t c') (hc:c'=0):c=0/\X=.ok (v,t):=by
 have h0:=h.b06 hc
 subst h0
 rw[dF]at h
 cases X with
 |ok q=>obtain⟨w,u⟩:=q;obtain⟨_,rfl,rfl⟩:=h;exact⟨rfl,rfl⟩
 |error d=>exact absurd (h.1.symm.trans hc) h.2
def aMA (h0:aE) (nb:Nat) (p:aC) (inp:Int) (st:Nat) (c:Int) (X:Out (Int×dS)):aH->aE->Prop:=λr h'=>∃ k S' t c',r=I k/\lC h0 nb p inp S' t c' h'/\st<=t/\t<=3000/\kW (r6 c X) (k,S') t c'
def bQZ (h0:aE) (nb:Nat) (p:aC) (inp:Int) (st:Nat) (c:Int) (n:Nat) (X:Out (List Int×dS)):aH->aE->Prop:=λr h'=>∃ l S' t c',r=ints l/\lC h0 nb p inp S' t c' h'/\l.length=n/\st<=t/\t<=3000/\kW (r6 c X) (l,S') t c'
@[go_sem] def rH:List Nat:=[0,1,2,4,6,7,8,9,10,15,20,32,33,42,49,62,85,100,128,130,131,150,162]
@[go_sem] def aBK:List Nat:=[4,80,116]
@[go_sem] def aBL:Marks:=λid=>match id with|22=>([6,13,15,16],(.op 0 (.op 1 (.op 2 (.op 3 (.op 4 (.op 5 (.op 7 (.op 8 (.op 9 (.op 10 (.op 11 (.op 12 (.op 6 (.op 13 (.op 14 (.op 15 (.op 16 (.op 17 .nil)))))))))))))))))),[])|28=>([5,16],(.op 0 (.op 1 (.op 2 (.op 3 (.op 4 (.op 6 (.op 7 (.op 11 (.op 12 (.op 15 (.op 5 (.op 8 (.op 9 (.op 10 (.op 13 (.op 14 (.op 16 (.op 17 .nil)))))))))))))))))),[])|33=>([5,12],(.op 0 (.op 1 (.op 2 (.op 3 (.op 4 (.op 6 (.op 7 (.op 11 (.op 5 (.op 8 (.op 9 (.op 10 (.op 12 (.op 13 .nil)))))))))))))),[])|_=>([],.nil,[])
def aBM (p:aC) (inp:Int) (n:Nat):Prop:=∀ (h0 h:aE) (nb st:Nat) (c:Int) (e:aB) (env:List Int) (S:dS) (funcs:Int),lC h0 nb p inp S st c h->st<=3000->3001<=n+st->e.ok p funcs env.length->0<=funcs->funcs<=p.aD.length->(c=0->Good inp S st/\∀ x∈env,rQ S x)->env.length<=412+st ->
 jC Tryz.prog 125 [.op nb 8 0 0,.agg e.c,ints env] h (aMA h0 nb p inp st c (fH p n st e env S))
theorem rI {p:aC} (hp:p.ok) {inp:Int} {n st:Nat} {S:dS} {l:List aB} {env:List Int} {funcs:Int} (hg:Good inp S st) (hst:st<=3000) (henv:∀ x∈env,rQ S x) (hok:∀ e∈l,e.ok p funcs env.length) (hf:funcs<=p.aD.length):wS (aDX inp S st l.length) (tA (λt e S=>fH p n t e env S) l st S) :=
 kR l st S hg hst λx hx u S' a b c=>vS hp n u x env S' funcs (hok x hx) hf a c.2.2.2 λy hy=>(henv y hy).ext b
theorem xN {p:aC} (hp:p.ok) {inp:Int} {n:Nat} (hv:aBM p inp n) (h0 h:aE) (nb st:Nat) (c:Int) (l:List aB) (env:List Int) (S:dS) (funcs:Int) (hb:lC h0 nb p inp S st c h) (hst:st<=3000) (hn:3001<=n+st)
  (hl:l.length<=1048576) (hok:∀ e∈l,e.ok p funcs env.length) (iC:0<=funcs) (hf:funcs<=p.aD.length) (hgo:c=0->Good inp S st/\∀ x∈env,rQ S x) (hel:env.length<=412+st) :
  jC Tryz.prog 63 [.op nb 8 0 0,fN 5 aB.c l,ints env] h (bQZ h0 nb p inp st c l.length (tA (λt e S=>fH p n t e env S) l st S)):=by
 refine lU 26 a7S a7T cK Tryz.func63 ?_
 simp -dsimp -implicitDefEqProofs only[go_sem,↓reduceIte,Tryz.f63]
 refine⟨bN,λ_=>?_⟩
 refine cZ a7S a7T cK (λx:Nat×List Int×Nat×Int×dS×aE×Option Nat=>[(0,.op nb 8 0 0),(2,ints env),(7,iO 1 x.2.1.length x.2.2.2.2.2.2),(11,fN 5 aB.c l),(12,I l.length),(13,I x.1)]) (λx=>bY x.2.2.2.2.2.1 (.row 1 ((x.2.1.map λn=>[I n]).map (List.map .v))) x.2.2.2.2.2.2) (λx=>x.1<=l.length/\x.2.1.length=x.1/\st<=x.2.2.1/\x.2.2.1<=3000/\kW (r6 c (tA (λt e S=>fH p n t e env S) (l.take x.1) st S)) (x.2.1,x.2.2.2.2.1) x.2.2.1 x.2.2.2.1/\lC h0 nb p inp x.2.2.2.2.1 x.2.2.1 x.2.2.2.1 x.2.2.2.2.2.1/\fT x.2.2.2.2.2.1 x.2.1 x.2.2.2.2.2.2) (λx=>l.length-x.1) (0,[],st,c,S,h,none) ⟨by simp[c4,b7,iO],by simp only[aQ];exact aE.le_refl _,fE _,rfl,iH _,hst,jK _ _ _,hb,rfl⟩ ?_
 rintro⟨k,vs,t,c',S1,g,o⟩ ⟨hk,hvl,ht0,ht,ho,hR,hos⟩
 simp only at hk hvl ht0 ht ho hR hos ⊢
 rcases bZ k l.length with hlt|hge
 ·have ek:l[k]?=some l[k]:=cM hlt
  have hnext:∀ (j:Int) (S2:dS) (t2:Nat) (c2:Int),kW (r6 c' (fH p n t l[k] env S1)) (j,S2) t2 c2->kW (r6 c (tA (λt e S=>fH p n t e env S) (l.take (k+1)) st S)) (vs++[j],S2) t2 c2:=λj S2 t2 c2 h3=>by
   rw[jU hlt,aT5]
   exact ho.eN (h3.eN (jK _ _ _))
  have b1N:c'=0->Good inp S1 t/\∀ x∈env,rQ S1 x:=λhc=>by
   obtain⟨e1,e2⟩:=ho.ok hc
   obtain⟨a1,a2⟩:=hgo e1
   obtain⟨b1,b2,b3,b4⟩:=rI hp (l:=l.take k) a1 hst a2 (λx hx=>hok x (bAZ hx)) hf _ _ e2
   exact⟨b1,λx hx=>(a2 x hx).ext b2⟩
  cases o with
  |none =>
   rw[aZ]at hos
   subst hos
   simp -dsimp -implicitDefEqProofs only[go_sem,↓reduceIte,Tryz.f63,bM,aQ,hlt,ek,aB.aS]
   intro m9 z9
   rw[aO]
   have hvk:=hv (aR h0 m9 (.row 5 [l[k].c.map .v])) (aR g m9 (.row 5 [l[k].c.map .v])) nb t c' l[k] env S1 funcs (hR.over z9) ht aA (hok _ (eI _)) iC hf b1N aA
   rw[aB.aS]at hvk
   refine aJ.gS hvk ?_
   rintro r h' ⟨j,S2,t2,c2,rfl,hR2,h1,h2,h3⟩
   obtain⟨g2,rfl,hg2,hR2⟩:=hR2.base (hR.none z9)
   simp -dsimp -implicitDefEqProofs only[go_sem,↓reduceIte,Tryz.f63]
   refine⟨bN,bN,bN,λb ⟨hb9,hb2⟩=>?_⟩
   refine⟨(k+1,[j],t2,c2,S2,g2,some b),⟨rfl,by rw[IntWalk.i64_in _ aA];rfl⟩,?_,⟨by omega,by simp only[al3]at hvl;subst hvl;rfl,aLG ht0 h1,h2,hnext j S2 t2 c2 h3,hR2,hb2⟩,by simp only;omega⟩
   simp only[aK]
   exact(o6 (by repeat'(first|exact tY _ _|refine xD (by simp only[iS,↓reduceIte,eq_self,if_true,hb9,hg2,nZ,sX]) ?_|refine qY aI2 ?_)))
  |some m =>
   rw[aV]at hos
   simp -dsimp -implicitDefEqProofs only[go_sem,↓reduceIte,Tryz.f63,bC,aK,hlt,ek,aB.aS]
   intro m9 ⟨h9m,z9⟩
   rw[aO]
   obtain⟨a4A,aQ2,aQ3,bTT⟩:=bB (show ¬m9=m from h9m)
   have z9':(aR g m (.row 1 ((vs.map λn=>[I n]).map (List.map .v)))) m9=none:=by rw[aI _ _ _ _ a4A];exact z9
   have hRo:=hR.over (o:=.row 1 ((vs.map λn=>[I n]).map (List.map .v))) hos
   have hvk:=hv _ _ nb t c' l[k] env S1 funcs (hRo.over (o:=.row 5 [l[k].c.map .v]) z9') ht aA (hok _ (eI _)) iC hf b1N aA
   rw[aB.aS]at hvk
   refine aJ.gS hvk ?_
   rintro r h' ⟨j,S2,t2,c2,rfl,hR2,h1,h2,h3⟩
   obtain⟨g1,rfl,o7,hR2⟩:=hR2.base (hRo.none z9')
   obtain⟨g2,rfl,hg2,hR2⟩:=hR2.base (hR.none hos)
   rw[aI _ _ _ _ a4A]at o7
   simp -dsimp -implicitDefEqProofs only[go_sem,↓reduceIte,Tryz.f63,aI,aQ3,aQ2]
   refine⟨bN,bN,bN,iH _,by omega,by omega,λb ⟨hb9,hbm,hb2⟩=>?_⟩
   obtain⟨sG,fI,fJ,rT⟩:=bB (show ¬b=m from hbm)
   obtain⟨bF5,aQ0,aQ1,bF6⟩:=bB (show ¬b=m9 from hb9)
   refine⟨(k+1,vs++[j],t2,c2,S2,g2,some b),⟨by rw[bC,mV];rfl,by rw[IntWalk.i64_in _ aA];rfl⟩,?_,⟨by omega,by rw[mV,hvl];rfl,aLG ht0 h1,h2,hnext j S2 t2 c2 h3,hR2,hb2⟩,by simp only;omega⟩
   simp only[aK]
   rw[←jD]
   exact(o6 (by repeat'(first|exact tY _ _|refine xD (by simp only[iS,↓reduceIte,eq_self,if_true,fI,aQ0,fJ,aQ3,aQ1,aQ2]) ?_|refine qY aI2 ?_)))
 ·have hk':k=l.length:=by omega
  subst hk'
  rw[mR]at ho
  cases o with
  |none =>
   rw[aZ]at hos
   subst hos
   simp -dsimp -implicitDefEqProofs only[go_sem,↓reduceIte,Tryz.f63,bM,aQ,bX]
   exact⟨ints [],_,Shift.of (Sub.loose _ _ _) (aE.le_refl _),[],S1,t,c',rfl,hR,hvl,ht0,ht,ho⟩
  |some m =>
   rw[aV]at hos
   simp -dsimp -implicitDefEqProofs only[go_sem,↓reduceIte,Tryz.f63,bC,aK,bX]
   exact⟨ints vs,g,jZ vs hos (aE.le_refl _) rfl,vs,S1,t,c',rfl,hR,hvl,ht0,ht,ho⟩
theorem bGN {p:aC} {inp:Int} {n:Nat} {h0 h:aE} {nb st:Nat} {c:Int} {e:aB} {env:List Int} {S:dS} (hR:lC h0 nb p inp S st c h) (hst:st<=3000) (hs:¬c=0∨st=3000) :
  jC Tryz.prog 125 [.op nb 8 0 0,.agg e.c,ints env] h (aMA h0 nb p inp st c (fH p (n+1) st e env S)):=by
 obtain⟨om,og,ov,H⟩:=hR
 have hb:=H.box
 unfold dQ at hb
 rw[aB.aS]
 refine lU 190 rH aBK aBL Tryz.func125 ?_
 simp -dsimp -implicitDefEqProofs only[go_sem,↓reduceIte,Tryz.f125,hb]
 refine⟨λhc=>?_,λhc=>?_⟩
 ·exact⟨_,_,bQ _ _,0,S,st,c,rfl,⟨_,_,_,H⟩,iH _,hst,by rw[vO _ hc];exact mW _ _ hc⟩
 ·subst hc
  have h3:st=3000:=by rcases hs with hs|hs;exact absurd rfl hs;exact hs
  subst h3
  try simp -dsimp -implicitDefEqProofs only[go_sem,↓reduceIte,Tryz.f125,hb]
  refine⟨λ_=>?_,λq=>absurd q cT⟩
  refine⟨_,_,bQ _ _,0,S,3000,7,rfl,⟨_,_,_,H.set 3000 7⟩,iH _,hst,?_⟩
  rw[dF,fH,if_pos rfl]
  exact mW _ _ cE
theorem lD (l:List Int) (hl:l.length<=1048576):fM Tryz.prog 158 [ints l] (.sl 1 (l.map λn=>[I n]) true):=by
 refine gX 9 aD2 dC cK Tryz.func158 λh=>?_
 simp -dsimp -implicitDefEqProofs only[go_sem,↓reduceIte,Tryz.f158]
 repeat'(with_reducible first|intro _|refine And.intro ?_ ?_)
 all_goals try omega
 rw[pQ aOY]
theorem b1O {p:aC} (hp:p.ok) {inp:Int} {n:Nat} (hv:aBM p inp n) {h0 h:aE} {nb st:Nat} {e:aB} {env:List Int} {S:dS} {funcs:Int} (hR:lC h0 nb p inp S st 0 h) (hst:st<3000) (hn:3001<=n+1+st)
  (hok:e.ok p funcs env.length) (iC:0<=funcs) (hf:funcs<=p.aD.length) (hg:Good inp S st) (henv:∀ x∈env,rQ S x) (hel:env.length<=412+st) (hk:e.aP=1) :
  jC Tryz.prog 125 [.op nb 8 0 0,.agg e.c,ints env] h (aMA h0 nb p inp st 0 (fH p (n+1) st e env S)):=by
 obtain⟨om,og,ov,H⟩:=hR
 rw[aB.aS]
 have hb:=H.box
 unfold dQ at hb
 have e3:((st:Int)=3000)=False:=eq_false aA
 have ew:IntKind.i64.wrap ((st:Int)+1)=((st+1:Nat):Int):=by rw[IntWalk.i64_in _ aA];rfl
 have hnode:=(aB.cN _ _ _ _).1 hok
 have h3:¬st=3000:=by omega
 have hcap:=hg.cap
 have hgcap:=hg.aCZ
 have o7:=hg.later (r7 st)
 have hR1:lC h0 nb p inp S (st+1) 0 (aR h nb (dQ p inp S om og ov (st+1) 0)):=⟨_,_,_,H.set (st+1) 0⟩
 refine lU 190 rH aBK aBL Tryz.func125 ?_
 simp -dsimp -implicitDefEqProofs only[go_sem,↓reduceIte,Tryz.f125,hb,e3,ew,hk]
 refine aJ.gS (aRA hR1 ⟨2,0,0,e.aW⟩ e.aW hg.len aA) ?_
 rintro r h' ⟨rfl,hR2⟩
 simp -dsimp -implicitDefEqProofs only[go_sem,↓reduceIte,Tryz.f125]
 refine⟨_,_,bQ _ _,_,_,st+1,0,rfl,hR2,r7 _,hst,?_⟩
 rw[dF,aQ4 h3 hk]
 exact nN _ _
theorem b1P {p:aC} (hp:p.ok) {inp:Int} {n:Nat} (hv:aBM p inp n) {h0 h:aE} {nb st:Nat} {e:aB} {env:List Int} {S:dS} {funcs:Int} (hR:lC h0 nb p inp S st 0 h) (hst:st<3000) (hn:3001<=n+1+st)
  (hok:e.ok p funcs env.length) (iC:0<=funcs) (hf:funcs<=p.aD.length) (hg:Good inp S st) (henv:∀ x∈env,rQ S x) (hel:env.length<=412+st) (hk:e.aP=2) :
  jC Tryz.prog 125 [.op nb 8 0 0,.agg e.c,ints env] h (aMA h0 nb p inp st 0 (fH p (n+1) st e env S)):=by
 obtain⟨om,og,ov,H⟩:=hR
 rw[aB.aS]
 have hb:=H.box
 unfold dQ at hb
 have e3:((st:Int)=3000)=False:=eq_false aA
 have ew:IntKind.i64.wrap ((st:Int)+1)=((st+1:Nat):Int):=by rw[IntWalk.i64_in _ aA];rfl
 have hnode:=(aB.cN _ _ _ _).1 hok
 have h3:¬st=3000:=by omega
 have hcap:=hg.cap
 have hgcap:=hg.aCZ
 have o7:=hg.later (r7 st)
 have hR1:lC h0 nb p inp S (st+1) 0 (aR h nb (dQ p inp S om og ov (st+1) 0)):=⟨_,_,_,H.set (st+1) 0⟩
 have hnum:=((dA aA).1 hnode.1).2.2.2.2.1 hk
 have hlt:e.aW.toNat<env.length:=by omega
 refine lU 190 rH aBK aBL Tryz.func125 ?_
 simp -dsimp -implicitDefEqProofs only[go_sem,↓reduceIte,Tryz.f125,hb,e3,ew,hk,cI hlt]
 refine⟨hnum.1,by omega,_,_,bQ _ _,_,S,st+1,0,rfl,hR1,r7 _,hst,?_⟩
 rw[dF,aQ5 h3 hk]
 exact nN _ _
theorem b1Q {p:aC} (hp:p.ok) {inp:Int} {n:Nat} (hv:aBM p inp n) {h0 h:aE} {nb st:Nat} {e:aB} {env:List Int} {S:dS} {funcs:Int} (hR:lC h0 nb p inp S st 0 h) (hst:st<3000) (hn:3001<=n+1+st)
  (hok:e.ok p funcs env.length) (iC:0<=funcs) (hf:funcs<=p.aD.length) (hg:Good inp S st) (henv:∀ x∈env,rQ S x) (hel:env.length<=412+st) (hk:e.aP=9) :
  jC Tryz.prog 125 [.op nb 8 0 0,.agg e.c,ints env] h (aMA h0 nb p inp st 0 (fH p (n+1) st e env S)):=by
 obtain⟨om,og,ov,H⟩:=hR
 rw[aB.aS]
 have hb:=H.box
 unfold dQ at hb
 have e3:((st:Int)=3000)=False:=eq_false aA
 have ew:IntKind.i64.wrap ((st:Int)+1)=((st+1:Nat):Int):=by rw[IntWalk.i64_in _ aA];rfl
 have hnode:=(aB.cN _ _ _ _).1 hok
 have h3:¬st=3000:=by omega
 have hcap:=hg.cap
 have hgcap:=hg.aCZ
 have o7:=hg.later (r7 st)
 have hR1:lC h0 nb p inp S (st+1) 0 (aR h nb (dQ p inp S om og ov (st+1) 0)):=⟨_,_,_,H.set (st+1) 0⟩
 have hlen:=cQ hok aA
 rw[hk,show dD 9=2 from rfl]at hlen
 have g0:e.aL[Int.toNat 0]?=some (e.fZ 0):=aB.fV aA
 have g1:e.aL[Int.toNat 1]?=some (e.fZ 1):=aB.fV aA
 have o0:=aB.dX hok (i:=0) aA
 have o1:=aB.dX hok (i:=1) aA
 rw[gQ aA]at o0
 rw[hk,show jV 9 1 (env.length:Int)=env.length+1 from rfl]at o1
 refine lU 190 rH aBK aBL Tryz.func125 ?_
 simp -dsimp -implicitDefEqProofs only[go_sem,↓reduceIte,Tryz.f125,hb,e3,ew,hk,g0,g1,aB.ld5]
 refine⟨by omega,by omega,?_⟩
 first|refine aJ.mk (lD env aA) ?_|refine aF.mk (lD env aA) ?_|refine aJ.bA (lD env aA) ?_|refine aF.mk (aX.cU (lD env aA)) ?_
 simp -dsimp -implicitDefEqProofs only[go_sem,↓reduceIte,Tryz.f125]
 refine aJ.gS (hv _ _ nb (st+1) 0 (e.fZ 0) env S funcs hR1 aA aA o0 iC hf (λ_=>⟨o7,henv⟩) aA) ?_
 rintro r h' ⟨k1,S1,t1,c1,rfl,hR2,a1,a2,a3⟩
 simp -dsimp -implicitDefEqProofs only[go_sem,↓reduceIte,Tryz.f125]
 refine⟨bN,bN,bN,by omega,by omega,λm hm=>?_⟩
 obtain⟨kM,cX,cY,mB⟩:=bB (show ¬nb=m from λe=>by obtain⟨_,_,_,H2⟩:=hR2;have:=H2.box;rw[e,hm]at this;cases this)
 have hrow:env.map (λn=>[I n])++[[aH.int .i64 k1]]=(env++[k1]).map λn=>[I n]:=by rw[kS];rfl
 rw[hrow]
 refine aJ.a8F kM (by rw[nG,mV];rfl) hm ?_
 refine jC.mono (hv _ _ nb t1 c1 (e.fZ 1) (env++[k1]) S1 funcs (hR2.over (o:=.gone) hm) aA aA aDS iC hf (λhc=>?_) bDS) ?_
 ·obtain⟨_,e2⟩:=a3.ok hc
  obtain⟨b1,b2,b3,b4⟩:=vS hp n (st+1) (e.fZ 0) env S funcs o0 hf o7 aA henv _ _ e2
  refine⟨b1,λx hx=>?_⟩
  rcases pJ.1 hx with hx|hx
  ·exact(henv x hx).ext b2
  ·rw[jF.1 hx];exact b3
 rintro r h2 ⟨k2,S2,t2,c2,rfl,hR3,b1,b2,b3⟩
 obtain⟨g,rfl,hgm,hR3⟩:=hR3.base (hR2.none hm)
 simp -dsimp -implicitDefEqProofs only[go_sem,↓reduceIte,Tryz.f125]
 refine⟨_,g,bG (aE.bP hgm (aE.le_refl _)),k2,S2,t2,c2,rfl,hR3,by omega,b2,?_⟩
 rw[aQ6 h3 hk]
 exact a3.eN b3
theorem b1R {p:aC} (hp:p.ok) {inp:Int} {n:Nat} (hv:aBM p inp n) {h0 h:aE} {nb st:Nat} {e:aB} {env:List Int} {S:dS} {funcs:Int} (hR:lC h0 nb p inp S st 0 h) (hst:st<3000) (hn:3001<=n+1+st)
  (hok:e.ok p funcs env.length) (iC:0<=funcs) (hf:funcs<=p.aD.length) (hg:Good inp S st) (henv:∀ x∈env,rQ S x) (hel:env.length<=412+st) (hk:e.aP=8) :
  jC Tryz.prog 125 [.op nb 8 0 0,.agg e.c,ints env] h (aMA h0 nb p inp st 0 (fH p (n+1) st e env S)):=by
 obtain⟨om,og,ov,H⟩:=hR
 rw[aB.aS]
 have hb:=H.box
 unfold dQ at hb
 have e3:((st:Int)=3000)=False:=eq_false aA
 have ew:IntKind.i64.wrap ((st:Int)+1)=((st+1:Nat):Int):=by rw[IntWalk.i64_in _ aA];rfl
 have hnode:=(aB.cN _ _ _ _).1 hok
 have h3:¬st=3000:=by omega
 have hcap:=hg.cap
 have hgcap:=hg.aCZ
 have o7:=hg.later (r7 st)
 have hR1:lC h0 nb p inp S (st+1) 0 (aR h nb (dQ p inp S om og ov (st+1) 0)):=⟨_,_,_,H.set (st+1) 0⟩
 have hlen:=cQ hok aA
 rw[hk,show dD 8=3 from rfl]at hlen
 have g0:e.aL[Int.toNat 0]?=some (e.fZ 0):=aB.fV aA
 have g1:e.aL[Int.toNat 1]?=some (e.fZ 1):=aB.fV aA
 have g2:e.aL[Int.toNat 2]?=some (e.fZ 2):=aB.fV aA
 have o0:=aB.dX hok (i:=0) aA
 have o1:=aB.dX hok (i:=1) aA
 have o2:=aB.dX hok (i:=2) aA
 rw[gQ aA]at o0 o1 o2
 refine lU 190 rH aBK aBL Tryz.func125 ?_
 simp -dsimp -implicitDefEqProofs only[go_sem,↓reduceIte,Tryz.f125,hb,e3,ew,hk,g0,aB.ld5]
 refine⟨by omega,?_⟩
 refine aJ.gS (hv _ _ nb (st+1) 0 (e.fZ 0) env S funcs hR1 aA aA o0 iC hf (λ_=>⟨o7,henv⟩) aA) ?_
 rintro r h' ⟨k1,S1,t1,c1,rfl,⟨om1,og1,ov1,H1⟩,a1,a2,a3⟩
 have xM:=H1.box
 unfold dQ at xM
 simp -dsimp -implicitDefEqProofs only[go_sem,↓reduceIte,Tryz.f125,xM]
 refine⟨λhc=>?_,λhc=>?_⟩
 ·refine⟨_,_,bQ _ _,0,S1,t1,c1,rfl,⟨_,_,_,H1⟩,by omega,a2,?_⟩
  rw[aC0 h3 hk]
  exact a3.eN aI4
 subst hc
 obtain⟨_,e2⟩:=a3.ok rfl
 obtain⟨q1,q2,q3,q4⟩:=vS hp n (st+1) (e.fZ 0) env S funcs o0 hf o7 aA henv _ _ e2
 unfold pP at q4
 simp only at q1 q2 q3 q4
 obtain⟨w,rfl,hw,dw⟩:=H1.row q3
 have rk:=aIA q3
 have k0:=q3.1
 have k2:=q3.2
 have lw:=vA (λn=>[I n]) S1.jE
 have hgc:=q1.aCZ
 rw[aY]at xM
 try simp -dsimp -implicitDefEqProofs only[go_sem,↓reduceIte,Tryz.f125,xM,hw,rk,aY]
 refine⟨k0,by omega,?_⟩
 have hgd:=H1.gds
 cases og1 with
 |none =>
  have hg0:S1.guards=[]:=qO.1 hgd
  rw[b5]
  simp -dsimp -implicitDefEqProofs only[go_sem,↓reduceIte,Tryz.f125,xM]
  refine⟨by decide,by decide,by decide,λb hb2=>?_⟩
  obtain⟨mY,dP,dO,kY⟩:=bB (show ¬b=nb from λe=>by rw[e,xM]at hb2;cases hb2)
  simp -dsimp -implicitDefEqProofs only[go_sem,↓reduceIte,Tryz.f125,xM,dP,dO,aI,g1,g2,aB.ld5]
  refine⟨λhz=>⟨by omega,?_⟩,λhz=>⟨by omega,?_⟩⟩
  ·rw[decide_eq_true hz]
   obtain⟨g,hgl,hG⟩:=H1.guard ⟨k1,true⟩ hb2 (F:=aR (aR h' b (.row 2 [[.v (I k1),.v (.bool true)]])) nb (dQ p inp (S1.guard ⟨k1,true⟩) om1 (some b) (some w) t1 0)) (aM _ _ _) (by rw[aI _ _ _ _ mY,aM,hg0];rfl) (λn h1 h2 _=>by rw[aI _ _ _ _ h1,aI _ _ _ _ h2])
   unfold dQ at hgl
   simp only[dS.guard,hg0,aY,lW,u4]at hgl
   refine aJ.wk (aE.kE hgl) ?_
   have hgG:=q1.guard (b:=true) q3 aA
   have heG:=q2.trans (S1.tN ⟨k1,true⟩)
   refine aJ.gS (hv h0 g nb t1 0 (e.fZ 1) env (S1.guard ⟨k1,true⟩) funcs ⟨_,_,_,hG⟩ aA aA o1 iC hf (λ_=>⟨hgG,λx hx=>(henv x hx).ext heG⟩) aA) ?_
   rintro r h2 ⟨k2,S2,t2,c2,rfl,hR3,b1,b2,b3⟩
   simp -dsimp -implicitDefEqProofs only[go_sem,↓reduceIte,Tryz.f125]
   refine⟨_,_,bQ _ _,k2,S2,t2,c2,rfl,hR3,by omega,b2,?_⟩
   rw[aC0 h3 hk]
   refine a3.eN ?_
   rw[if_pos hz]
   exact b3
  ·rw[decide_eq_false hz]
   obtain⟨g,hgl,hG⟩:=H1.guard ⟨k1,false⟩ hb2 (F:=aR (aR h' b (.row 2 [[.v (I k1),.v (.bool false)]])) nb (dQ p inp (S1.guard ⟨k1,false⟩) om1 (some b) (some w) t1 0)) (aM _ _ _) (by rw[aI _ _ _ _ mY,aM,hg0];rfl) (λn h1 h2 _=>by rw[aI _ _ _ _ h1,aI _ _ _ _ h2])
   unfold dQ at hgl
   simp only[dS.guard,hg0,aY,lW,u4]at hgl
   refine aJ.wk (aE.kE hgl) ?_
   have hgG:=q1.guard (b:=false) q3 aA
   have heG:=q2.trans (S1.tN ⟨k1,false⟩)
   refine aJ.gS (hv h0 g nb t1 0 (e.fZ 2) env (S1.guard ⟨k1,false⟩) funcs ⟨_,_,_,hG⟩ aA aA o2 iC hf (λ_=>⟨hgG,λx hx=>(henv x hx).ext heG⟩) aA) ?_
   rintro r h2 ⟨k2,S2,t2,c2,rfl,hR3,b1,b2,b3⟩
   simp -dsimp -implicitDefEqProofs only[go_sem,↓reduceIte,Tryz.f125]
   refine⟨_,_,bQ _ _,k2,S2,t2,c2,rfl,hR3,by omega,b2,?_⟩
   rw[aC0 h3 hk]
   refine a3.eN ?_
   rw[if_neg hz]
   exact b3
 |some gm =>
  have hgm:=hgd.2
  obtain⟨b48,bMB,bMC,b49⟩:=bB (show ¬gm=nb from λe=>by rw[e,xM]at hgm;cases hgm)
  rw[aY]
  simp -dsimp -implicitDefEqProofs only[go_sem,↓reduceIte,Tryz.f125,xM,hgm,vA]
  refine⟨by decide,by decide,by decide,iH _,by omega,by omega,λb hb2=>?_⟩
  obtain⟨mY,dP,dO,kY⟩:=bB (show ¬b=nb from λe=>by rw[e,xM]at hb2;cases hb2)
  obtain⟨b9A,bUG,bUH,b9B⟩:=bB (show ¬b=gm from λe=>by rw[e,hgm]at hb2;cases hb2)
  simp -dsimp -implicitDefEqProofs only[go_sem,↓reduceIte,Tryz.f125,xM,dP,bUG,dO,bMC,bUH,bMB,aI,g1,g2,aB.ld5]
  refine⟨λhz=>⟨by omega,?_⟩,λhz=>⟨by omega,?_⟩⟩
  ·rw[decide_eq_true hz,pQ a6X]
   obtain⟨g,hgl,hG⟩:=H1.guard ⟨k1,true⟩ hb2 (F:=aR (aR (aR h' gm .gone) b (.row 2 (rowsOf j8.c S1.guards++[[.v (I k1),.v (.bool true)]]))) nb (dQ p inp (S1.guard ⟨k1,true⟩) om1 (some b) (some w) t1 0)) (aM _ _ _) (by rw[aI _ _ _ _ mY,aM,zX];rfl) (λn h1 h2 h3=>by rw[aI _ _ _ _ h1,aI _ _ _ _ h2,aI _ _ _ _ (λq=>h3 (by rw[q]))])
   unfold dQ at hgl
   simp only[dS.guard,aY,mV,u4]at hgl
   refine aJ.wk (aE.kE hgl) ?_
   have hgG:=q1.guard (b:=true) q3 aA
   have heG:=q2.trans (S1.tN ⟨k1,true⟩)
   refine aJ.gS (hv h0 g nb t1 0 (e.fZ 1) env (S1.guard ⟨k1,true⟩) funcs ⟨_,_,_,hG⟩ aA aA o1 iC hf (λ_=>⟨hgG,λx hx=>(henv x hx).ext heG⟩) aA) ?_
   rintro r h2 ⟨k2,S2,t2,c2,rfl,hR3,b1,b2,b3⟩
   simp -dsimp -implicitDefEqProofs only[go_sem,↓reduceIte,Tryz.f125]
   refine⟨_,_,bQ _ _,k2,S2,t2,c2,rfl,hR3,by omega,b2,?_⟩
   rw[aC0 h3 hk]
   refine a3.eN ?_
   rw[if_pos hz]
   exact b3
  ·rw[decide_eq_false hz,pQ a6X]
   obtain⟨g,hgl,hG⟩:=H1.guard ⟨k1,false⟩ hb2 (F:=aR (aR (aR h' gm .gone) b (.row 2 (rowsOf j8.c S1.guards++[[.v (I k1),.v (.bool false)]]))) nb (dQ p inp (S1.guard ⟨k1,false⟩) om1 (some b) (some w) t1 0)) (aM _ _ _) (by rw[aI _ _ _ _ mY,aM,zX];rfl) (λn h1 h2 h3=>by rw[aI _ _ _ _ h1,aI _ _ _ _ h2,aI _ _ _ _ (λq=>h3 (by rw[q]))])
   unfold dQ at hgl
   simp only[dS.guard,aY,mV,u4]at hgl
   refine aJ.wk (aE.kE hgl) ?_
   have hgG:=q1.guard (b:=false) q3 aA
   have heG:=q2.trans (S1.tN ⟨k1,false⟩)
   refine aJ.gS (hv h0 g nb t1 0 (e.fZ 2) env (S1.guard ⟨k1,false⟩) funcs ⟨_,_,_,hG⟩ aA aA o2 iC hf (λ_=>⟨hgG,λx hx=>(henv x hx).ext heG⟩) aA) ?_
   rintro r h2 ⟨k2,S2,t2,c2,rfl,hR3,b1,b2,b3⟩
   simp -dsimp -implicitDefEqProofs only[go_sem,↓reduceIte,Tryz.f125]
   refine⟨_,_,bQ _ _,k2,S2,t2,c2,rfl,hR3,by omega,b2,?_⟩
   rw[aC0 h3 hk]
   refine a3.eN ?_
   rw[if_neg hz]
   exact b3
def nJ (k:Int) (l:List aB):aB:=.mk k 0 0 0 l
mutual
def qI:aB->List Int->Int->aB
 | .mk k n pi co kids,v,c=>if k=2 then .mk 2 (v.getD n.toNat 0) 0 0 []else .mk k n pi co (if k=9 then plT kids v c else plL kids v c)
def plL:List aB->List Int->Int->List aB
 | [],_,_=>[]
 |x::l,v,c=>qI x v c::plL l v c
def plT:List aB->List Int->Int->List aB
 | [],_,_=>[]
 |x::l,v,c=>qI x v c::plL l (v++[c]) (c+1)
end
theorem aKJ (v:List Int) (c:Int):∀ l:List aB,plL l v c=l.map λx=>qI x v c
 | []=>rfl
 |x::l=>by rw[plL,aKJ v c l];rfl
def slN (outs:Int->Int) (nf k n pi co:Int) (v s:List Int) (c:Int) (q d m:List aB):aB :=
 if k=1 then .mk 1 0 0 0 []
 else if k=2 then .mk 2 (s.getD n.toNat 0) 0 0 []
 else if k=3∨k=4∨k=7 then nJ k d
 else if k=5 then nJ 3 [nJ 5 [d.getD 0 dE,q.getD 1 dE],nJ 5 [q.getD 0 dE,d.getD 1 dE]]
 else if k=6 then nJ 6 [nJ 4 [d.getD 0 dE,nJ 5 [nJ 6 [q.getD 0 dE,q.getD 1 dE],d.getD 1 dE]],q.getD 1 dE]
 else if k=8 then nJ 8 [q.getD 0 dE,d.getD 1 dE,d.getD 2 dE]
 else if k=9 then nJ 9 [q.getD 0 dE,nJ 9 [m.getD 0 dE,m.getD 1 dE]]
 else .mk k (nf+n) (pi+outs n) co (q++d)
mutual
def rU (outs:Int->Int) (nf:Int):aB->List Int->List Int->Int->aB
 | .mk k n pi co kids,v,s,c=>slN outs nf k n pi co v s c (plL kids v c) (slL outs nf kids v s c) (slT outs nf kids v s c)
def slL (outs:Int->Int) (nf:Int):List aB->List Int->List Int->Int->List aB
 | [],_,_,_=>[]
 |x::l,v,s,c=>rU outs nf x v s c::slL outs nf l v s c
def slT (outs:Int->Int) (nf:Int):List aB->List Int->List Int->Int->List aB
 | [],_,_,_=>[]
 |x::l,v,s,c=>rU outs nf x v s (c+1)::slL outs nf l (v++[c]) (s++[c+1]) (c+2)
end
theorem aWM (outs:Int->Int) (nf:Int) (v s:List Int) (c:Int):∀ l:List aB,slL outs nf l v s c=l.map λx=>rU outs nf x v s c
 | []=>rfl
 |x::l=>by rw[slL,aWM outs nf v s c l];rfl
def vR (n:Nat):List Int:=(List.range n).map λi:Nat=>(i:Int)
def sR (n:Nat):List Int:=(List.range n).map λi:Nat=>((n+i:Nat):Int)
abbrev oN (p:aC) (g:Int):Int:=((p.outs g).length:Int)
theorem pE (outs:Int->Int) (nf:Int) (e:aB) (v s:List Int) (c:Int):rU outs nf e v s c=slN outs nf e.aP e.aW e.bR e.bI v s c (e.aL.map λx=>qI x v c) (e.aL.map λx=>rU outs nf x v s c) (slT outs nf e.aL v s c):=by
 cases e with
 |mk k n pi co kids=>rw[rU,aKJ,aWM];rfl
theorem wU {e:aB} {φ:aB->aB} {i:Nat} (hi:i<e.aL.length):(e.aL.map φ).getD i dE=φ (e.fZ i):=by
 rw[dI,nE,aB.fV hi];rfl
theorem qC {e:aB} (h:e.aL.length=2) (φ:aB->aB):e.aL.map φ=[φ (e.fZ 0),φ (e.fZ 1)]:=by
 obtain⟨k,n,pi,co,kids⟩:=e
 match kids,h with
 | [a,b],_=>rfl
theorem aWN {e:aB} (h:e.aL.length=1) (φ:aB->aB):e.aL.map φ=[φ (e.fZ 0)]:=by
 obtain⟨k,n,pi,co,kids⟩:=e
 match kids,h with
 | [a],_=>rfl
theorem aEC (n:Nat):(vR n).length=n:=by rw[vR,nG,List.length_range]
theorem aWO (n:Nat):(sR n).length=n:=by rw[sR,nG,List.length_range]
def NoS (s:aH):Prop:=s.flat=true/\∀ m es k,s.eM m es=s/\gA m 1 k s=true
theorem oM (l:List Int):NoS (ints l):=⟨rfl,λ_ _ _=>⟨rfl,rfl⟩⟩
theorem bMD:NoS .bD:=⟨rfl,λ_ _ _=>⟨rfl,rfl⟩⟩
theorem a4K (e:aB) (v:List Int) (c:Int):qI e v c=if e.aP=2 then .mk 2 (v.getD e.aW.toNat 0) 0 0 []else .mk e.aP e.aW e.bR e.bI (if e.aP=9 then plT e.aL v c else e.aL.map λx=>qI x v c):=by
 cases e with
 |mk k n pi co kids=>rw[qI,aKJ];rfl
theorem aWP (e:aB) (h:e.aL.length=2) (v:List Int) (c:Int):plT e.aL v c=[qI (e.fZ 0) v c,qI (e.fZ 1) (v++[c]) (c+1)]:=by
 cases e with
 |mk k n pi co kids =>
  match kids,h with
  | [a,b],_=>rfl
def rJ (l:List aB):bE:=.row 5 ((l.map aB.c).map (List.map .v))
theorem bBU (l:List aB) (x:aB):bE.row 5 (List.take l.length ((l.map aB.c).map (List.map Cell.v))++[x.c.map .v])=rJ (l++[x]):=by
 rw[pQ cT];simp[rJ]
theorem oO (l:List aB) (x:aB) {k:Nat} (h:l.length=k):bE.row 5 (List.take k ((l.map aB.c).map (List.map Cell.v))++[[.v (I x.aP),.v (I x.aW),.v (I x.bR),.v (I x.bI),.v (fN 5 aB.c x.aL)]])=rJ (l++[x]):=by
 rw[←bBU,h,aB.aS];rfl
theorem aBN (x:aB):bE.row 5 [[.v (I x.aP),.v (I x.aW),.v (I x.bR),.v (I x.bI),.v (fN 5 aB.c x.aL)]]=rJ [x]:=oO [] x rfl
theorem aBO {α:Type} {l:List α} {k:Nat} (h:l.take k=[]) (hk:k<l.length):k=0:=by
 have h1:=congrArg List.length h
 rw[jT,al3]at h1
 omega
theorem a01 {h H:aE} {n len:Nat} {l:List aB} (hn:h n=none) (hl:len=l.length) (hH:(aR h n (rJ l)).le H):Shift (.os n 5 0 len) H (fN 5 aB.c l) h :=
 aBD (l.map aB.c) hn hH len (by rw[nG];exact hl)
theorem a02 {b nb n:Nat} {h:aE} {X Y A:bE} (q:(if b=nb then some X else if b=nb then some Y else if b=n then some A else h b)=none):¬b=nb/\¬b=n/\h b=none:=by grind
theorem a8T {h:aE} {nb m:Nat} {X Y R:bE} (hb:h nb=none):(aR h m R).le (aR (aR (aR h nb X) nb Y) m R):=aE.rD sA
theorem a8U {h:aE} {n nb m:Nat} {A X Y R:bE} (hn:h n=none) (hb:h nb=none):(aR h m R).le (aR (aR (aR (aR (aR h n A) nb X) nb Y) n .gone) m R):=λq=>by
 simp only[aG]
 grind
theorem a03 (φ:aB->aB) {l:List aB} {k:Nat} (h:k<l.length):(l.take (k+1)).map φ=(l.take k).map φ++[φ l[k]]:=by
 rw[jU h,kS];rfl
theorem aT7 (k n:Int):Sub (.agg [I k,I n,I 0,I 0,.bD]) (.agg (aB.mk k n 0 0 []).c):=by
 rw[aB.aS]
 exact Sub.agg (.cons (.refl _) (.cons (.refl _) (.cons (.refl _) (.cons (.refl _) (.cons (Sub.nil 5 false) .nil)))))
theorem bME (n:Int):fM Tryz.prog 155 [I n] (.agg (aB.mk 1 n 0 0 []).c):=by
 refine iN 5 aD2 dC cK Tryz.func155 λh=>?_
 simp -dsimp -implicitDefEqProofs only[go_sem,↓reduceIte,Tryz.f155]
 exact λm hm=>Shift.of (aT7 1 n) aY4
theorem aT8 (n:Int):fM Tryz.prog 156 [I n] (.agg (aB.mk 2 n 0 0 []).c):=by
 refine iN 5 aD2 dC cK Tryz.func156 λh=>?_
 simp -dsimp -implicitDefEqProofs only[go_sem,↓reduceIte,Tryz.f156]
 exact λm hm=>Shift.of (aT7 2 n) aY4
theorem aBP (k:Int) (l:List aB):fM Tryz.prog 157 [I k,.sl 5 (l.map aB.c) true] (.agg (nJ k l).c):=by
 rw[nJ,aB.aS]
 refine iN 8 aE0 dC cK Tryz.func157 λh=>?_
 simp -dsimp -implicitDefEqProofs only[go_sem,↓reduceIte,Tryz.f157]
 exact λm hm=>Shift.of (Sub.agg (.cons (.refl _) (.cons (.refl _) (.cons (.refl _) (.cons (.refl _) (.cons (Sub.loose _ _ _) .nil)))))) aY4
abbrev scI (c:Int) (v:List Int) (s:aH):aH:=.agg [I c,ints v,s]
def a04 (p:aC) (funcs:Int) (x:aB):Prop:=∀ (v:List Int) (c:Int) (s:aH),NoS s->x.ok p funcs v.length->v.length+x.s<=1000000->(0<=c/\c+2*x.s<=1000000)->fM Tryz.prog 152 [.agg p.c,.agg x.c,scI c v s] (.agg (qI x v c).c)
@[go_sem] def aN5:List Nat:=[0,1,2,3,5,6,7,9,10,11,12,13]
@[go_sem] def a8V:List Nat:=[3,5,21]
theorem a4L {p:aC} {funcs:Int} (l:List aB) (hv:∀ x∈l,a04 p funcs x) (v:List Int) (c:Int) (s:aH) (hs:NoS s) (hok:∀ x∈l,x.ok p funcs v.length) (hb:∀ x∈l,v.length+x.s<=1000000/\c+2*x.s<=1000000) (hc:0<=c) (hl:l.length<=1000000) :
  fM Tryz.prog 112 [.agg p.c,fN 5 aB.c l,scI c v s] (fN 5 aB.c (l.map λx=>qI x v c)):=by
 have hv':=λk (h:k<l.length)=>hv l[k] (eI h) v c s hs (hok _ (eI h)) (hb _ (eI h)).1 ⟨hc,(hb _ (eI h)).2⟩
 rw[aC.aS]at hv' ⊢
 refine iN 25 aN5 a8V cK Tryz.func112 λh=>?_
 simp -dsimp -implicitDefEqProofs only[go_sem,↓reduceIte,Tryz.f112]
 refine⟨hs.1,λ_=>?_⟩
 refine cZ aN5 a8V cK (λx:Nat×Option Nat=>[(3,.ip 1 [[fN 3 aU.c p.aD]] 0 0),(5,.ip 3 [[I c,ints v,s]] 0 0),(7,gW 5 x.1 x.2),(10,fN 5 aB.c l),(11,I l.length),(12,I x.1)]) (λx=>bY h (rJ ((l.take x.1).map λx=>qI x v c)) x.2) (λx=>x.1<=l.length/\fT h (l.take x.1) x.2) (λx=>l.length-x.1) (0,none) ⟨by simp[c4,b7,gW],by simp only[aQ];exact aE.le_refl _,fE _,by simp[fT]⟩ ?_
 rintro⟨k,o⟩ ⟨hk,hos⟩
 simp only at hk hos ⊢
 rcases bZ k l.length with hlt|hge
 ·have ea:l[k]?=some l[k]:=cM hlt
  have hx:=hv' k hlt
  have aBQ:(l.take k).length=k:=by rw[jT];omega
  have hlk:((l.take k).map λx=>qI x v c).length=k:=by rw[nG,aBQ]
  have hy:=a03 (λx=>qI x v c) hlt
  simp only[aB.aS]at hx
  cases o with
  |none =>
   rw[aZ]at hos
   simp -dsimp -implicitDefEqProofs only[go_sem,↓reduceIte,Tryz.f112,b5,aQ,hlt,ea,aB.aS]
   intro nb qb
   first|refine aJ.mk (hx) ?_|refine aF.mk (hx) ?_|refine aJ.bA (hx) ?_|refine aF.mk (aX.cU (hx)) ?_
   simp -dsimp -implicitDefEqProofs only[go_sem,↓reduceIte,Tryz.f112]
   obtain rfl:=aBO hos hlt
   refine⟨by decide,by decide,by decide,λm qm=>⟨(0+1,some m),⟨rfl,IntWalk.i64_in _ aA⟩,?_,⟨hlt,qm.2.2⟩,by omega⟩⟩
   rw[aBN (qI l[0] v c),hy]
   exact a8T qb
  |some n =>
   rw[aV]at hos
   simp -dsimp -implicitDefEqProofs only[go_sem,↓reduceIte,Tryz.f112,aY,aK,hlt,ea,aB.aS]
   intro nb qb
   obtain⟨p6,fL,fK,wR⟩:=bB (show ¬nb=n from qb.1)
   first|refine aJ.mk (hx) ?_|refine aF.mk (hx) ?_|refine aJ.bA (hx) ?_|refine aF.mk (aX.cU (hx)) ?_
   simp -dsimp -implicitDefEqProofs only[go_sem,↓reduceIte,Tryz.f112]
   rw[rJ]
   simp -dsimp -implicitDefEqProofs only[go_sem,↓reduceIte,Tryz.f112,fL,fK,aI,aG]
   refine⟨by decide,by decide,by decide,by omega,by omega,by omega,λm qm=>⟨(k+1,some m),⟨rfl,IntWalk.i64_in _ aA⟩,?_,⟨hlt,(a02 qm).2.2⟩,by omega⟩⟩
   rw[oO _ (qI l[k] v c) hlk,hy]
   exact a8U hos qb.2
 ·have hk':k=l.length:=by omega
  subst hk'
  rw[mR]at hos ⊢
  cases o with
  |none =>
   rw[aZ]at hos
   simp -dsimp -implicitDefEqProofs only[go_sem,↓reduceIte,Tryz.f112,b5,aQ,bX,dB]
   rw[hos]
   exact Shift.of (Sub.nil 5 false) (aE.le_refl _)
  |some n =>
   rw[aV]at hos
   simp -dsimp -implicitDefEqProofs only[go_sem,↓reduceIte,Tryz.f112,aY,aK,bX,dB]
   exact a01 hos aTF (aE.le_refl _)
theorem aRD {p:aC} {funcs:Int} (l:List aB) (hv:∀ x∈l,a04 p funcs x) (v:List Int) (c:Int) (s:aH) (hs:NoS s) (hok:∀ x∈l,x.ok p funcs v.length) (hb:∀ x∈l,v.length+x.s<=1000000/\c+2*x.s<=1000000) (hc:0<=c) (hl:l.length<=1000000) {h:aE} :
  jC Tryz.prog 112 [.agg p.c,fN 5 aB.c l,scI c v s] h λr h'=>∃ o,fT h l o/\r=gW 5 l.length o/\h'=bY h (rJ (l.map λx=>qI x v c)) o:=by
 have hv':=λk (h:k<l.length)=>hv l[k] (eI h) v c s hs (hok _ (eI h)) (hb _ (eI h)).1 ⟨hc,(hb _ (eI h)).2⟩
 rw[aC.aS]at hv' ⊢
 refine lU 25 aN5 a8V cK Tryz.func112 ?_
 simp -dsimp -implicitDefEqProofs only[go_sem,↓reduceIte,Tryz.f112]
 refine⟨hs.1,λ_=>?_⟩
 refine cZ aN5 a8V cK (λx:Nat×Option Nat=>[(3,.ip 1 [[fN 3 aU.c p.aD]] 0 0),(5,.ip 3 [[I c,ints v,s]] 0 0),(7,gW 5 x.1 x.2),(10,fN 5 aB.c l),(11,I l.length),(12,I x.1)]) (λx=>bY h (rJ ((l.take x.1).map λx=>qI x v c)) x.2) (λx=>x.1<=l.length/\fT h (l.take x.1) x.2) (λx=>l.length-x.1) (0,none) ⟨by simp[c4,b7,gW],by simp only[aQ];exact aE.le_refl _,fE _,by simp[fT]⟩ ?_
 rintro⟨k,o⟩ ⟨hk,hos⟩
 simp only at hk hos ⊢
 rcases bZ k l.length with hlt|hge
 ·have ea:l[k]?=some l[k]:=cM hlt
  have hx:=hv' k hlt
  have aBQ:(l.take k).length=k:=by rw[jT];omega
  have hlk:((l.take k).map λx=>qI x v c).length=k:=by rw[nG,aBQ]
  have hy:=a03 (λx=>qI x v c) hlt
  simp only[aB.aS]at hx
  cases o with
  |none =>
   rw[aZ]at hos
   simp -dsimp -implicitDefEqProofs only[go_sem,↓reduceIte,Tryz.f112,b5,aQ,hlt,ea,aB.aS]
   intro nb qb
   first|refine aJ.mk (hx) ?_|refine aF.mk (hx) ?_|refine aJ.bA (hx) ?_|refine aF.mk (aX.cU (hx)) ?_
   simp -dsimp -implicitDefEqProofs only[go_sem,↓reduceIte,Tryz.f112]
   obtain rfl:=aBO hos hlt
   refine⟨by decide,by decide,by decide,λm qm=>⟨(0+1,some m),⟨rfl,IntWalk.i64_in _ aA⟩,?_,⟨hlt,qm.2.2⟩,by omega⟩⟩
   rw[aBN (qI l[0] v c),hy]
   exact a8T qb
  |some n =>
   rw[aV]at hos
   simp -dsimp -implicitDefEqProofs only[go_sem,↓reduceIte,Tryz.f112,aY,aK,hlt,ea,aB.aS]
   intro nb qb
   obtain⟨p6,fL,fK,wR⟩:=bB (show ¬nb=n from qb.1)
   first|refine aJ.mk (hx) ?_|refine aF.mk (hx) ?_|refine aJ.bA (hx) ?_|refine aF.mk (aX.cU (hx)) ?_
   simp -dsimp -implicitDefEqProofs only[go_sem,↓reduceIte,Tryz.f112]
   rw[rJ]
   simp -dsimp -implicitDefEqProofs only[go_sem,↓reduceIte,Tryz.f112,fL,fK,aI,aG]
   refine⟨by decide,by decide,by decide,by omega,by omega,by omega,λm qm=>⟨(k+1,some m),⟨rfl,IntWalk.i64_in _ aA⟩,?_,⟨hlt,(a02 qm).2.2⟩,by omega⟩⟩
   rw[oO _ (qI l[k] v c) hlk,hy]
   exact a8U hos qb.2
 ·have hk':k=l.length:=by omega
  subst hk'
  rw[mR]at hos ⊢
  cases o with
  |none =>
   rw[aZ]at hos
   simp -dsimp -implicitDefEqProofs only[go_sem,↓reduceIte,Tryz.f112,b5,aQ,bX,dB]
   exact⟨_,_,bQ _ _,none,hos,rfl,rfl⟩
  |some n =>
   rw[aV]at hos
   simp -dsimp -implicitDefEqProofs only[go_sem,↓reduceIte,Tryz.f112,aY,aK,bX,dB]
   exact⟨_,_,bQ _ _,some n,hos,rfl,rfl⟩
theorem gD {e:aB} {i:Nat} (hi:i<e.aL.length):e.fZ i∈e.aL:=by rw[aB.jN hi];exact eI _
theorem kB {e x:aB} (hx:x∈e.aL):x.s+1<=e.s:=by
 have h1:=vN aB.s hx
 have h2:=e.u9
 rw[l8]at h2
 have h3:=bDI hx
 omega
theorem lN (e:aB):e.aL.length<=e.s:=by
 have h2:=e.u9
 rw[l8]at h2
 omega
theorem aJ.a8W {P:Program} {f:FuncId} {args args':List aH} {h:aE} {K:aH->aE->Prop} {t:Tag K} {r:aH} {n sz:Nat} {es:List (List aH)} (a:fM P f args' r) (hn:h n=some (.row sz (es.map (List.map .v)))) (hb:jG n sz es.length args=true) (he:lX n es args=args') (k:K r (aR h n .gone)):aJ P f args h K t:=by
 refine aJ.a3C n hn (by rw[nG];exact hb) ?_
 rw[kJ,he]
 exact fM.call a k
theorem aBR (v:List Int) (c:Int):List.map (λn=>[I n]) v++[[aH.int IntKind.i64 c]]=(v++[c]).map λn=>[I n]:=by rw[kS];rfl
@[go_sem] def aWQ:List Nat:=[0,1,2,3,4,5,6,7,8,10,11,20]
@[go_sem] def bGQ:List Nat:=[3,4,5,30,47]
@[go_sem] def bGR:Marks:=λid=>match id with|5=>([5,9,11,12],(.op 0 (.op 1 (.op 2 (.op 3 (.op 4 (.op 6 (.op 7 (.op 8 (.alt 5 (.alt 9 (.op 10 (.op 11 (.op 12 .nil))) 11 (.op 9 (.op 10 (.op 12 .nil)))) 11 (.op 5 (.op 9 (.op 10 (.op 12 .nil))))))))))))),[])|6=>([6,12,13,15,16],(.op 0 (.op 1 (.op 2 (.op 3 (.op 4 (.op 5 (.op 7 (.op 8 (.op 9 (.op 10 (.op 11 (.op 12 (.op 6 (.op 13 (.op 14 (.op 15 (.op 16 .nil))))))))))))))))),[(12,6)])|_=>([],.nil,[])
theorem a05 {p:aC} {funcs:Int} (e:aB) (hkids:∀ x∈e.aL,a04 p funcs x):a04 p funcs e:=by
 intro v c s hs hok hv hc
 rw[a4K]
 have hnode:=((aB.cN _ _ _ _).1 hok).1
 have hsl:=lN e
 by_cases h2:e.aP=2
 ·have hnum:=((dA aA).1 hnode).2.2.2.2.1 h2
  rw[if_pos h2,aB.aS e,aC.aS]
  have ev:v[e.aW.toNat]?=some (v.getD e.aW.toNat 0):=cI aA
  refine iN 57 aWQ bGQ bGR Tryz.func152 λh=>?_
  simp -dsimp -implicitDefEqProofs only[go_sem,↓reduceIte,Tryz.f152,h2,ev]
  refine⟨hs.1,λb hb=>⟨hnum.1,by omega,?_⟩⟩
  have hx:=aT8 (v.getD e.aW.toNat 0)
  rw[aB.aS]at hx ⊢
  first|refine aJ.mk (hx) ?_|refine aF.mk (hx) ?_|refine aJ.bA (hx) ?_|refine aF.mk (aX.cU (hx)) ?_
  simp -dsimp -implicitDefEqProofs only[go_sem,↓reduceIte,Tryz.f152]
  exact bG sA
 rw[if_neg h2]
 by_cases h9:e.aP=9
 ·have hlen:=cQ hok aA
  rw[h9,show dD 9=2 from rfl]at hlen
  have g0:e.aL[Int.toNat 0]?=some (e.fZ 0):=aB.fV aA
  have g1:e.aL[Int.toNat 1]?=some (e.fZ 1):=aB.fV aA
  have o0:=aB.dX hok (i:=0) aA
  have o1:=aB.dX hok (i:=1) aA
  rw[gQ aA]at o0
  rw[h9,show jV 9 1 (v.length:Int)=v.length+1 from rfl]at o1
  have s0:=kB (gD (e:=e) (i:=0) aA)
  have s1:=kB (gD (e:=e) (i:=1) aA)
  have q0:=hkids _ (gD (e:=e) (i:=0) aA) v c s hs o0 aA aA
  have q1:=hkids _ (gD (e:=e) (i:=1) aA) (v++[c]) (c+1) .bD bMD aDS aY3 aA
  rw[if_pos h9,aWP e aA]
  rw[aC.aS]at q0 q1 ⊢
  rw[aB.aS e]
  have w1:IntKind.i64.wrap (c+1)=c+1:=IntWalk.i64_in _ aA
  refine iN 57 aWQ bGQ bGR Tryz.func152 λh=>?_
  simp -dsimp -implicitDefEqProofs only[go_sem,↓reduceIte,Tryz.f152,h9,w1]
  refine⟨hs.1,λb hb=>?_⟩
  simp only[aB.aS (e.fZ 0),aB.aS (qI (e.fZ 0) v c)]at q0
  simp only[aB.aS (e.fZ 1),aB.aS (qI (e.fZ 1) (v++[c]) (c+1))]at q1
  have hnx:=aBP 9 [qI (e.fZ 0) v c,qI (e.fZ 1) (v++[c]) (c+1)]
  simp only[nZ,sX,aB.aS (qI (e.fZ 0) v c),aB.aS (qI (e.fZ 1) (v++[c]) (c+1)),aB.aS (nJ _ _)]at hnx
  have hz:=((dA aA).1 hnode)
  rw[h9,hz.2.1,hz.2.2.1,hz.2.2.2.2.2 aA aA]
  rw[aB.aS (.mk _ _ _ _ _)]
  have E:∃ n m:Nat,True:=⟨0,0,trivial⟩
  refine⟨by decide,by decide,?_,λn hn=>?_⟩
  ·first|refine aJ.mk (lD v aA) ?_|refine aF.mk (lD v aA) ?_|refine aJ.bA (lD v aA) ?_|refine aF.mk (aX.cU (lD v aA)) ?_
   simp -dsimp -implicitDefEqProofs only[go_sem,↓reduceIte,Tryz.f152]
   refine⟨⟨by decide,by omega,by omega,λm hm n hn=>⟨by omega,?_⟩⟩,λn hn=>⟨by decide,by omega,by omega,λm hm=>?_⟩⟩
   ·have F:(¬m=b/\¬n=b/\¬m=n)/\h m=none/\h n=none:=by clear hkids hok hnode hv hc q0 q1 hnx;grind
    obtain⟨⟨F1,F2,F3⟩,F4,F5⟩:=F
    obtain⟨rT,fJ,fI,sG⟩:=bB (show ¬m=b from F1)
    obtain⟨aDY,dN,dM,yO⟩:=bB (show ¬n=b from F2)
    obtain⟨wY,gT,gU,aG1⟩:=bB (show ¬m=n from F3)
    rw[aBR]
    simp -dsimp -implicitDefEqProofs only[go_sem,↓reduceIte,Tryz.f152,gT,fJ,gU,dN,fI,dM,aG,g0,aB.aS (e.fZ 0)]
    first|refine⟨by omega,by omega,?_⟩|refine⟨by omega,?_⟩
    simp -dsimp -implicitDefEqProofs only[go_sem,↓reduceIte,Tryz.f152,gT,fJ,gU,dN,fI,dM,aG,g1,aB.aS (e.fZ 1)]
    first|refine aJ.mk (q0) ?_|refine aF.mk (q0) ?_|refine aJ.bA (q0) ?_|refine aF.mk (aX.cU (q0)) ?_
    simp -dsimp -implicitDefEqProofs only[go_sem,↓reduceIte,Tryz.f152,gT,fJ,gU,dN,fI,dM,aG]
    refine aJ.a8W (n:=m) (sz:=1) (es:=(v++[c]).map λn=>[I n]) q1 bDP a63 bDV ?_
    simp -dsimp -implicitDefEqProofs only[go_sem,↓reduceIte,Tryz.f152,gT,fJ,gU,dN,fI,dM,aG]
    refine⟨by decide,by decide,?_⟩
    first|refine aJ.mk (hnx) ?_|refine aF.mk (hnx) ?_|refine aJ.bA (hnx) ?_|refine aF.mk (aX.cU (hnx)) ?_
    simp -dsimp -implicitDefEqProofs only[go_sem,↓reduceIte,Tryz.f152,gT,fJ,gU,dN,fI,dM,aG]
    exact bG bDO
   ·have F:(¬m=b/\¬n=b/\¬m=n)/\h m=none/\h n=none:=by clear hkids hok hnode hv hc q0 q1 hnx;grind
    obtain⟨⟨F1,F2,F3⟩,F4,F5⟩:=F
    obtain⟨rT,fJ,fI,sG⟩:=bB (show ¬m=b from F1)
    obtain⟨aDY,dN,dM,yO⟩:=bB (show ¬n=b from F2)
    obtain⟨wY,gT,gU,aG1⟩:=bB (show ¬m=n from F3)
    rw[aBR]
    simp -dsimp -implicitDefEqProofs only[go_sem,↓reduceIte,Tryz.f152,gT,fJ,gU,dN,fI,dM,aG,g0,aB.aS (e.fZ 0)]
    first|refine⟨by omega,by omega,?_⟩|refine⟨by omega,?_⟩
    simp -dsimp -implicitDefEqProofs only[go_sem,↓reduceIte,Tryz.f152,gT,fJ,gU,dN,fI,dM,aG,g1,aB.aS (e.fZ 1)]
    first|refine aJ.mk (q0) ?_|refine aF.mk (q0) ?_|refine aJ.bA (q0) ?_|refine aF.mk (aX.cU (q0)) ?_
    simp -dsimp -implicitDefEqProofs only[go_sem,↓reduceIte,Tryz.f152,gT,fJ,gU,dN,fI,dM,aG]
    refine aJ.a8W (n:=m) (sz:=1) (es:=(v++[c]).map λn=>[I n]) q1 bDP a63 bDV ?_
    simp -dsimp -implicitDefEqProofs only[go_sem,↓reduceIte,Tryz.f152,gT,fJ,gU,dN,fI,dM,aG]
    refine⟨by decide,by decide,?_⟩
    first|refine aJ.mk (hnx) ?_|refine aF.mk (hnx) ?_|refine aJ.bA (hnx) ?_|refine aF.mk (aX.cU (hnx)) ?_
    simp -dsimp -implicitDefEqProofs only[go_sem,↓reduceIte,Tryz.f152,gT,fJ,gU,dN,fI,dM,aG]
    exact bG bDO
  ·first|refine aJ.mk (lD v aA) ?_|refine aF.mk (lD v aA) ?_|refine aJ.bA (lD v aA) ?_|refine aF.mk (aX.cU (lD v aA)) ?_
   simp -dsimp -implicitDefEqProofs only[go_sem,↓reduceIte,Tryz.f152]
   refine⟨by decide,by omega,by omega,λm hm=>?_⟩
   ·have F:(¬m=b/\¬n=b/\¬m=n)/\h m=none/\h n=none:=by clear hkids hok hnode hv hc q0 q1 hnx;grind
    obtain⟨⟨F1,F2,F3⟩,F4,F5⟩:=F
    obtain⟨rT,fJ,fI,sG⟩:=bB (show ¬m=b from F1)
    obtain⟨aDY,dN,dM,yO⟩:=bB (show ¬n=b from F2)
    obtain⟨wY,gT,gU,aG1⟩:=bB (show ¬m=n from F3)
    rw[aBR]
    simp -dsimp -implicitDefEqProofs only[go_sem,↓reduceIte,Tryz.f152,gT,fJ,gU,dN,fI,dM,aG,g0,aB.aS (e.fZ 0)]
    first|refine⟨by omega,by omega,?_⟩|refine⟨by omega,?_⟩
    simp -dsimp -implicitDefEqProofs only[go_sem,↓reduceIte,Tryz.f152,gT,fJ,gU,dN,fI,dM,aG,g1,aB.aS (e.fZ 1)]
    first|refine aJ.mk (q0) ?_|refine aF.mk (q0) ?_|refine aJ.bA (q0) ?_|refine aF.mk (aX.cU (q0)) ?_
    simp -dsimp -implicitDefEqProofs only[go_sem,↓reduceIte,Tryz.f152,gT,fJ,gU,dN,fI,dM,aG]
    refine aJ.a8W (n:=m) (sz:=1) (es:=(v++[c]).map λn=>[I n]) q1 bDP a63 bDV ?_
    simp -dsimp -implicitDefEqProofs only[go_sem,↓reduceIte,Tryz.f152,gT,fJ,gU,dN,fI,dM,aG]
    refine⟨by decide,by decide,?_⟩
    first|refine aJ.mk (hnx) ?_|refine aF.mk (hnx) ?_|refine aJ.bA (hnx) ?_|refine aF.mk (aX.cU (hnx)) ?_
    simp -dsimp -implicitDefEqProofs only[go_sem,↓reduceIte,Tryz.f152,gT,fJ,gU,dN,fI,dM,aG]
    exact bG bDO
 ·rw[if_neg h9]
  have q:=a4L e.aL hkids v c s hs (cO hok h9) (λx hx=>by have:=kB hx;omega) hc.1 aA
  rw[aC.aS]at q ⊢
  rw[aB.aS e]
  refine iN 57 aWQ bGQ bGR Tryz.func152 λh=>?_
  simp -dsimp -implicitDefEqProofs only[go_sem,↓reduceIte,Tryz.f152,h2,h9]
  refine⟨hs.1,λb hb m hm=>?_⟩
  first|refine aJ.mk (q) ?_|refine aF.mk (q) ?_|refine aJ.bA (q) ?_|refine aF.mk (aX.cU (q)) ?_
  simp -dsimp -implicitDefEqProofs only[go_sem,↓reduceIte,Tryz.f152]
  obtain⟨rT,fJ,fI,sG⟩:=bB (show ¬m=b from hm.1)
  simp -dsimp -implicitDefEqProofs only[go_sem,↓reduceIte,Tryz.f152,aG,fJ,fI]
  rw[aB.aS (.mk _ _ _ _ _)]
  exact bG (by clear hkids hok hnode hv hc q;intro q_;simp only[aG];grind)
theorem uK {p:aC} {funcs:Int} (e:aB):a04 p funcs e :=
 a05 e λx hx=>uK x
termination_by SizeOf.sizeOf e
decreasing_by exact aB.wQ hx
def aBS (p:aC) (funcs:Int) (x:aB):Prop:=∀ (v s:List Int) (c:Int),s.length=v.length->x.ok p funcs v.length->v.length+x.s<=1000000->(0<=c/\c+2*x.s<=1000000)->fM Tryz.prog 113 [.agg p.c,.agg x.c,scI c v (ints s)] (.agg (rU (oN p) p.aD.length x v s c).c)
theorem yP {p:aC} {x:aB} {v s:List Int} {c:Int} {k:Nat} (hk:k<x.aL.length) {y:aB} (hh:fM Tryz.prog 152 [.agg p.c,.agg (x.fZ k).c,scI c v (ints s)] (.agg y.c)):fM Tryz.prog 153 [I k,.ip 1 [p.c] 0 0,.ip 5 [x.c] 0 0,.ip 3 [[I c,ints v,ints s]] 0 0] (.agg y.c):=by
 have g:=aB.fV hk
 simp only[aC.aS,aB.aS]at hh ⊢
 refine iN 14 bQF dC bQG Tryz.func153 λh=>?_
 simp -dsimp -implicitDefEqProofs only[go_sem,↓reduceIte,Tryz.f153,g,aB.aS]
 refine λb hb=>⟨by omega,?_⟩
 first|refine aJ.mk (hh) ?_|refine aF.mk (hh) ?_|refine aJ.bA (hh) ?_|refine aF.mk (aX.cU (hh)) ?_
 simp -dsimp -implicitDefEqProofs only[go_sem,↓reduceIte,Tryz.f153]
 exact bG sA
theorem yQ {p:aC} {x:aB} {v s:List Int} {c:Int} {k:Nat} (hk:k<x.aL.length) {y:aB} (hh:fM Tryz.prog 113 [.agg p.c,.agg (x.fZ k).c,scI c v (ints s)] (.agg y.c)):fM Tryz.prog 154 [I k,.ip 1 [p.c] 0 0,.ip 5 [x.c] 0 0,.ip 3 [[I c,ints v,ints s]] 0 0] (.agg y.c):=by
 have g:=aB.fV hk
 simp only[aC.aS,aB.aS]at hh ⊢
 refine iN 14 bQF dC bQG Tryz.func154 λh=>?_
 simp -dsimp -implicitDefEqProofs only[go_sem,↓reduceIte,Tryz.f154,g,aB.aS]
 refine λb hb=>⟨by omega,?_⟩
 first|refine aJ.mk (hh) ?_|refine aF.mk (hh) ?_|refine aJ.bA (hh) ?_|refine aF.mk (aX.cU (hh)) ?_
 simp -dsimp -implicitDefEqProofs only[go_sem,↓reduceIte,Tryz.f154]
 exact bG sA
@[go_sem] def uL:List Nat:=[0,1,2,3,4,5,6,7,8,9,10,11,12,16,17,20,29,40,56,76,82,92,171,172,173]
@[go_sem] def aFA:List Nat:=[3,4,5,38,46,52,54,64,68,70,74,80,90,110,118,137,139,180]
@[go_sem] def aFB:Marks:=λid=>match id with|10=>([3,5,7,8],(.op 0 (.op 1 (.op 2 (.op 4 (.op 3 (.op 5 (.op 6 (.op 7 (.op 8 .nil))))))))),[])|21=>([5,9,12,17,19,20],(.op 0 (.op 1 (.op 2 (.op 3 (.op 4 (.op 6 (.op 7 (.op 8 (.op 10 (.op 11 (.op 13 (.op 14 (.op 15 (.op 16 (.alt 5 (.alt 9 (.alt 12 (.alt 17 (.op 18 (.op 19 (.op 20 .nil))) 19 (.op 17 (.op 18 (.op 20 .nil)))) 19 (.op 12 (.op 17 (.op 18 (.op 20 .nil))))) 19 (.op 9 (.op 12 (.op 17 (.op 18 (.op 20 .nil)))))) 19 (.op 5 (.op 9 (.op 12 (.op 17 (.op 18 (.op 20 .nil))))))))))))))))))))),[])|22=>([1,7,8,14,15,17,19,20],(.op 0 (.op 2 (.op 3 (.op 4 (.op 5 (.op 6 (.op 9 (.op 10 (.op 11 (.op 12 (.op 13 (.op 7 (.op 14 (.op 1 (.op 8 (.op 15 (.op 16 (.op 17 (.op 18 (.op 19 (.op 20 .nil))))))))))))))))))))),[(7,1),(14,1),(14,8)])|25=>([1,10,13],(.op 0 (.op 2 (.op 3 (.op 4 (.op 5 (.op 6 (.op 7 (.op 8 (.op 9 (.op 1 (.op 10 (.op 11 (.op 12 (.op 13 .nil)))))))))))))),[(1,10)])|30=>([1,4,6,8],(.op 0 (.op 2 (.op 3 (.op 1 (.op 4 (.op 5 (.op 6 (.op 7 (.op 8 .nil))))))))),[(1,4)])|_=>([],.nil,[])
theorem bMF {p:aC} {funcs:Int} (e:aB) (hk:e.aP=1) (ih:∀ x∈e.aL,aBS p funcs x):aBS p funcs e:=by
 intro v s c hls hok hv hc
 have hnode:=((aB.cN _ _ _ _).1 hok).1
 rw[pE,slN,if_pos hk]
 have hx:=bME 0
 simp only[aC.aS,aB.aS]at hx ⊢
 refine iN 185 uL aFA aFB Tryz.func113 λh=>?_
 simp -dsimp -implicitDefEqProofs only[go_sem,↓reduceIte,Tryz.f113,hk]
 intro b hb
 first|refine aJ.mk (hx) ?_|refine aF.mk (hx) ?_|refine aJ.bA (hx) ?_|refine aF.mk (aX.cU (hx)) ?_
 simp -dsimp -implicitDefEqProofs only[go_sem,↓reduceIte,Tryz.f113]
 exact bG sA
theorem bMG {p:aC} {funcs:Int} (e:aB) (hk:e.aP=2) (ih:∀ x∈e.aL,aBS p funcs x):aBS p funcs e:=by
 intro v s c hls hok hv hc
 have hnode:=((aB.cN _ _ _ _).1 hok).1
 rw[pE,slN,if_neg aA,if_pos hk]
 have hnum:=((dA aA).1 hnode).2.2.2.2.1 hk
 have ev:s[e.aW.toNat]?=some (s.getD e.aW.toNat 0):=cI aA
 have hx:=aT8 (s.getD e.aW.toNat 0)
 simp only[aC.aS,aB.aS]at hx ⊢
 refine iN 185 uL aFA aFB Tryz.func113 λh=>?_
 simp -dsimp -implicitDefEqProofs only[go_sem,↓reduceIte,Tryz.f113,hk,ev]
 refine λb hb=>⟨hnum.1,by omega,?_⟩
 first|refine aJ.mk (hx) ?_|refine aF.mk (hx) ?_|refine aJ.bA (hx) ?_|refine aF.mk (aX.cU (hx)) ?_
 simp -dsimp -implicitDefEqProofs only[go_sem,↓reduceIte,Tryz.f113]
 exact bG sA
theorem bMH {p:aC} {funcs:Int} (e:aB) (hk:e.aP=7) (ih:∀ x∈e.aL,aBS p funcs x):aBS p funcs e:=by
 intro v s c hls hok hv hc
 have hnode:=((aB.cN _ _ _ _).1 hok).1
 have hlen:=cQ hok aA
 rw[hk,show dD 7=1 from rfl]at hlen
 have hsl:=lN e
 have m0:=gD (e:=e) (i:=0) aA
 have s0:=kB m0
 have o0:=cO hok aA _ m0
 have v0:=yP (k:=0) (c:=c) (s:=s) aA (uK (p:=p) (funcs:=funcs) (e.fZ 0) v c (ints s) (oM s) o0 aA aA)
 have d0:=yQ (k:=0) aA (ih _ m0 v s c hls o0 aA aA)
 rw[pE,slN,if_neg aA,if_neg aA,if_pos aA,aWN aA,hk]
 have hx:=aBP 7 [rU (oN p) p.aD.length (e.fZ 0) v s c]
 simp only[aC.aS,aB.aS,nZ,sX,hk]at hx d0 ⊢
 refine iN 185 uL aFA aFB Tryz.func113 λh=>?_
 simp -dsimp -implicitDefEqProofs only[go_sem,↓reduceIte,Tryz.f113,hk]
 intro b hb
 first|refine aJ.mk (d0) ?_|refine aF.mk (d0) ?_|refine aJ.bA (d0) ?_|refine aF.mk (aX.cU (d0)) ?_
 simp -dsimp -implicitDefEqProofs only[go_sem,↓reduceIte,Tryz.f113]
 refine⟨by decide,by decide,?_⟩
 first|refine aJ.mk (hx) ?_|refine aF.mk (hx) ?_|refine aJ.bA (hx) ?_|refine aF.mk (aX.cU (hx)) ?_
 simp -dsimp -implicitDefEqProofs only[go_sem,↓reduceIte,Tryz.f113]
 exact bG sA
theorem bMI {p:aC} {funcs:Int} (e:aB) (hk:e.aP=3∨e.aP=4) (ih:∀ x∈e.aL,aBS p funcs x):aBS p funcs e:=by
 intro v s c hls hok hv hc
 have hnode:=((aB.cN _ _ _ _).1 hok).1
 have hlen:=cQ hok aA
 rw[show dD e.aP=2 by rcases hk with h|h <;> rw[h] <;> rfl]at hlen
 have hsl:=lN e
 have m0:=gD (e:=e) (i:=0) aA
 have s0:=kB m0
 have o0:=cO hok aA _ m0
 have v0:=yP (k:=0) (c:=c) (s:=s) aA (uK (p:=p) (funcs:=funcs) (e.fZ 0) v c (ints s) (oM s) o0 aA aA)
 have d0:=yQ (k:=0) aA (ih _ m0 v s c hls o0 aA aA)
 have m1:=gD (e:=e) (i:=1) aA
 have s1:=kB m1
 have o1:=cO hok aA _ m1
 have v1:=yP (k:=1) (c:=c) (s:=s) aA (uK (p:=p) (funcs:=funcs) (e.fZ 1) v c (ints s) (oM s) o1 aA aA)
 have d1:=yQ (k:=1) aA (ih _ m1 v s c hls o1 aA aA)
 rw[pE,slN,if_neg aA,if_neg aA,if_pos aA,qC aA]
 have hx:=aBP e.aP [rU (oN p) p.aD.length (e.fZ 0) v s c,rU (oN p) p.aD.length (e.fZ 1) v s c]
 simp only[aC.aS,aB.aS,nZ,sX]at hx d0 d1 ⊢
 rcases hk with hk|hk
 all_goals
  simp only[hk]at hx d0 d1 ⊢
  refine iN 185 uL aFA aFB Tryz.func113 λh=>?_
  simp -dsimp -implicitDefEqProofs only[go_sem,↓reduceIte,Tryz.f113,hk]
  intro b hb
  first|refine aJ.mk (d0) ?_|refine aF.mk (d0) ?_|refine aJ.bA (d0) ?_|refine aF.mk (aX.cU (d0)) ?_
  simp -dsimp -implicitDefEqProofs only[go_sem,↓reduceIte,Tryz.f113]
  first|refine aJ.mk (d1) ?_|refine aF.mk (d1) ?_|refine aJ.bA (d1) ?_|refine aF.mk (aX.cU (d1)) ?_
  simp -dsimp -implicitDefEqProofs only[go_sem,↓reduceIte,Tryz.f113]
  refine⟨by decide,by decide,?_⟩
  first|refine aJ.mk (hx) ?_|refine aF.mk (hx) ?_|refine aJ.bA (hx) ?_|refine aF.mk (aX.cU (hx)) ?_
  simp -dsimp -implicitDefEqProofs only[go_sem,↓reduceIte,Tryz.f113]
  exact bG sA
theorem bMJ {p:aC} {funcs:Int} (e:aB) (hk:e.aP=5) (ih:∀ x∈e.aL,aBS p funcs x):aBS p funcs e:=by
 intro v s c hls hok hv hc
 have hnode:=((aB.cN _ _ _ _).1 hok).1
 have hlen:=cQ hok aA
 rw[hk,show dD 5=2 from rfl]at hlen
 have hsl:=lN e
 have m0:=gD (e:=e) (i:=0) aA
 have s0:=kB m0
 have o0:=cO hok aA _ m0
 have v0:=yP (k:=0) (c:=c) (s:=s) aA (uK (p:=p) (funcs:=funcs) (e.fZ 0) v c (ints s) (oM s) o0 aA aA)
 have d0:=yQ (k:=0) aA (ih _ m0 v s c hls o0 aA aA)
 have m1:=gD (e:=e) (i:=1) aA
 have s1:=kB m1
 have o1:=cO hok aA _ m1
 have v1:=yP (k:=1) (c:=c) (s:=s) aA (uK (p:=p) (funcs:=funcs) (e.fZ 1) v c (ints s) (oM s) o1 aA aA)
 have d1:=yQ (k:=1) aA (ih _ m1 v s c hls o1 aA aA)
 rw[pE,slN,if_neg aA,if_neg aA,if_neg aA,if_pos hk,qC aA,qC aA]
 simp only[aIZ,aI0]
 generalize qI (e.fZ 0) v c=a0 at *
 generalize qI (e.fZ 1) v c=a1 at *
 generalize rU (oN p) p.aD.length (e.fZ 0) v s c=b0 at *
 generalize rU (oN p) p.aD.length (e.fZ 1) v s c=b1 at *
 have hx:=aBP 5 [b0,a1]
 have hy:=aBP 5 [a0,b1]
 have hz:=aBP 3 [nJ 5 [b0,a1],nJ 5 [a0,b1]]
 simp only[aC.aS,aB.aS,nZ,sX,hk]at hx hy hz d0 d1 v0 v1 ⊢
 refine iN 185 uL aFA aFB Tryz.func113 λh=>?_
 simp -dsimp -implicitDefEqProofs only[go_sem,↓reduceIte,Tryz.f113,hk]
 intro b hb
 first|refine aJ.mk (d0) ?_|refine aF.mk (d0) ?_|refine aJ.bA (d0) ?_|refine aF.mk (aX.cU (d0)) ?_
 simp -dsimp -implicitDefEqProofs only[go_sem,↓reduceIte,Tryz.f113]
 first|refine aJ.mk (v1) ?_|refine aF.mk (v1) ?_|refine aJ.bA (v1) ?_|refine aF.mk (aX.cU (v1)) ?_
 simp -dsimp -implicitDefEqProofs only[go_sem,↓reduceIte,Tryz.f113]
 refine⟨by decide,by decide,?_⟩
 first|refine aJ.mk (hx) ?_|refine aF.mk (hx) ?_|refine aJ.bA (hx) ?_|refine aF.mk (aX.cU (hx)) ?_
 simp -dsimp -implicitDefEqProofs only[go_sem,↓reduceIte,Tryz.f113]
 first|refine aJ.mk (v0) ?_|refine aF.mk (v0) ?_|refine aJ.bA (v0) ?_|refine aF.mk (aX.cU (v0)) ?_
 simp -dsimp -implicitDefEqProofs only[go_sem,↓reduceIte,Tryz.f113]
 first|refine aJ.mk (d1) ?_|refine aF.mk (d1) ?_|refine aJ.bA (d1) ?_|refine aF.mk (aX.cU (d1)) ?_
 simp -dsimp -implicitDefEqProofs only[go_sem,↓reduceIte,Tryz.f113]
 refine⟨by decide,by decide,?_⟩
 first|refine aJ.mk (hy) ?_|refine aF.mk (hy) ?_|refine aJ.bA (hy) ?_|refine aF.mk (aX.cU (hy)) ?_
 simp -dsimp -implicitDefEqProofs only[go_sem,↓reduceIte,Tryz.f113]
 refine⟨by decide,by decide,?_⟩
 first|refine aJ.mk (hz) ?_|refine aF.mk (hz) ?_|refine aJ.bA (hz) ?_|refine aF.mk (aX.cU (hz)) ?_
 simp -dsimp -implicitDefEqProofs only[go_sem,↓reduceIte,Tryz.f113]
 exact bG sA
theorem bMK {p:aC} {funcs:Int} (e:aB) (hk:e.aP=6) (ih:∀ x∈e.aL,aBS p funcs x):aBS p funcs e:=by
 intro v s c hls hok hv hc
 have hnode:=((aB.cN _ _ _ _).1 hok).1
 have hlen:=cQ hok aA
 rw[hk,show dD 6=2 from rfl]at hlen
 have hsl:=lN e
 have m0:=gD (e:=e) (i:=0) aA
 have s0:=kB m0
 have o0:=cO hok aA _ m0
 have v0:=yP (k:=0) (c:=c) (s:=s) aA (uK (p:=p) (funcs:=funcs) (e.fZ 0) v c (ints s) (oM s) o0 aA aA)
 have d0:=yQ (k:=0) aA (ih _ m0 v s c hls o0 aA aA)
 have m1:=gD (e:=e) (i:=1) aA
 have s1:=kB m1
 have o1:=cO hok aA _ m1
 have v1:=yP (k:=1) (c:=c) (s:=s) aA (uK (p:=p) (funcs:=funcs) (e.fZ 1) v c (ints s) (oM s) o1 aA aA)
 have d1:=yQ (k:=1) aA (ih _ m1 v s c hls o1 aA aA)
 rw[pE,slN,if_neg aA,if_neg aA,if_neg aA,if_neg aA,if_pos hk,qC aA,qC aA]
 simp only[aIZ,aI0]
 generalize qI (e.fZ 0) v c=a0 at *
 generalize qI (e.fZ 1) v c=a1 at *
 generalize rU (oN p) p.aD.length (e.fZ 0) v s c=b0 at *
 generalize rU (oN p) p.aD.length (e.fZ 1) v s c=b1 at *
 have h1:=aBP 6 [a0,a1]
 have h2:=aBP 5 [nJ 6 [a0,a1],b1]
 have h3:=aBP 4 [b0,nJ 5 [nJ 6 [a0,a1],b1]]
 have h4:=aBP 6 [nJ 4 [b0,nJ 5 [nJ 6 [a0,a1],b1]],a1]
 simp only[aC.aS,aB.aS,nZ,sX,hk]at h1 h2 h3 h4 d0 d1 v0 v1 ⊢
 refine iN 185 uL aFA aFB Tryz.func113 λh=>?_
 simp -dsimp -implicitDefEqProofs only[go_sem,↓reduceIte,Tryz.f113,hk]
 intro b hb
 first|refine aJ.mk (d0) ?_|refine aF.mk (d0) ?_|refine aJ.bA (d0) ?_|refine aF.mk (aX.cU (d0)) ?_
 simp -dsimp -implicitDefEqProofs only[go_sem,↓reduceIte,Tryz.f113]
 first|refine aJ.mk (v0) ?_|refine aF.mk (v0) ?_|refine aJ.bA (v0) ?_|refine aF.mk (aX.cU (v0)) ?_
 simp -dsimp -implicitDefEqProofs only[go_sem,↓reduceIte,Tryz.f113]
 first|refine aJ.mk (v1) ?_|refine aF.mk (v1) ?_|refine aJ.bA (v1) ?_|refine aF.mk (aX.cU (v1)) ?_
 simp -dsimp -implicitDefEqProofs only[go_sem,↓reduceIte,Tryz.f113]
 refine⟨by decide,by decide,?_⟩
 first|refine aJ.mk (h1) ?_|refine aF.mk (h1) ?_|refine aJ.bA (h1) ?_|refine aF.mk (aX.cU (h1)) ?_
 simp -dsimp -implicitDefEqProofs only[go_sem,↓reduceIte,Tryz.f113]
 first|refine aJ.mk (d1) ?_|refine aF.mk (d1) ?_|refine aJ.bA (d1) ?_|refine aF.mk (aX.cU (d1)) ?_
 simp -dsimp -implicitDefEqProofs only[go_sem,↓reduceIte,Tryz.f113]
 refine⟨by decide,by decide,?_⟩
 first|refine aJ.mk (h2) ?_|refine aF.mk (h2) ?_|refine aJ.bA (h2) ?_|refine aF.mk (aX.cU (h2)) ?_
 simp -dsimp -implicitDefEqProofs only[go_sem,↓reduceIte,Tryz.f113]
 refine⟨by decide,by decide,?_⟩
 first|refine aJ.mk (h3) ?_|refine aF.mk (h3) ?_|refine aJ.bA (h3) ?_|refine aF.mk (aX.cU (h3)) ?_
 simp -dsimp -implicitDefEqProofs only[go_sem,↓reduceIte,Tryz.f113]
 first|refine aJ.mk (v1) ?_|refine aF.mk (v1) ?_|refine aJ.bA (v1) ?_|refine aF.mk (aX.cU (v1)) ?_
 simp -dsimp -implicitDefEqProofs only[go_sem,↓reduceIte,Tryz.f113]
 refine⟨by decide,by decide,?_⟩
 first|refine aJ.mk (h4) ?_|refine aF.mk (h4) ?_|refine aJ.bA (h4) ?_|refine aF.mk (aX.cU (h4)) ?_
 simp -dsimp -implicitDefEqProofs only[go_sem,↓reduceIte,Tryz.f113]
 exact bG sA
theorem bML {p:aC} {funcs:Int} (e:aB) (hk:e.aP=8) (ih:∀ x∈e.aL,aBS p funcs x):aBS p funcs e:=by
 intro v s c hls hok hv hc
 have hnode:=((aB.cN _ _ _ _).1 hok).1
 have hlen:=cQ hok aA
 rw[hk,show dD 8=3 from rfl]at hlen
 have hsl:=lN e
 have m0:=gD (e:=e) (i:=0) aA
 have s0:=kB m0
 have o0:=cO hok aA _ m0
 have v0:=yP (k:=0) (c:=c) (s:=s) aA (uK (p:=p) (funcs:=funcs) (e.fZ 0) v c (ints s) (oM s) o0 aA aA)
 have d0:=yQ (k:=0) aA (ih _ m0 v s c hls o0 aA aA)
 have m1:=gD (e:=e) (i:=1) aA
 have s1:=kB m1
 have o1:=cO hok aA _ m1
 have v1:=yP (k:=1) (c:=c) (s:=s) aA (uK (p:=p) (funcs:=funcs) (e.fZ 1) v c (ints s) (oM s) o1 aA aA)
 have d1:=yQ (k:=1) aA (ih _ m1 v s c hls o1 aA aA)
 have m2:=gD (e:=e) (i:=2) aA
 have s2:=kB m2
 have o2:=cO hok aA _ m2
 have v2:=yP (k:=2) (c:=c) (s:=s) aA (uK (p:=p) (funcs:=funcs) (e.fZ 2) v c (ints s) (oM s) o2 aA aA)
 have d2:=yQ (k:=2) aA (ih _ m2 v s c hls o2 aA aA)
 rw[pE,slN,if_neg aA,if_neg aA,if_neg aA,if_neg aA,if_neg aA,if_pos hk,wU aA,wU aA,wU aA]
 generalize qI (e.fZ 0) v c=a0 at *
 generalize rU (oN p) p.aD.length (e.fZ 1) v s c=b1 at *
 generalize rU (oN p) p.aD.length (e.fZ 2) v s c=b2 at *
 have hx:=aBP 8 [a0,b1,b2]
 simp only[aC.aS,aB.aS,nZ,sX,hk]at hx d1 d2 v0 ⊢
 refine iN 185 uL aFA aFB Tryz.func113 λh=>?_
 simp -dsimp -implicitDefEqProofs only[go_sem,↓reduceIte,Tryz.f113,hk]
 intro b hb
 first|refine aJ.mk (v0) ?_|refine aF.mk (v0) ?_|refine aJ.bA (v0) ?_|refine aF.mk (aX.cU (v0)) ?_
 simp -dsimp -implicitDefEqProofs only[go_sem,↓reduceIte,Tryz.f113]
 first|refine aJ.mk (d1) ?_|refine aF.mk (d1) ?_|refine aJ.bA (d1) ?_|refine aF.mk (aX.cU (d1)) ?_
 simp -dsimp -implicitDefEqProofs only[go_sem,↓reduceIte,Tryz.f113]
 first|refine aJ.mk (d2) ?_|refine aF.mk (d2) ?_|refine aJ.bA (d2) ?_|refine aF.mk (aX.cU (d2)) ?_
 simp -dsimp -implicitDefEqProofs only[go_sem,↓reduceIte,Tryz.f113]
 refine⟨by decide,by decide,?_⟩
 first|refine aJ.mk (hx) ?_|refine aF.mk (hx) ?_|refine aJ.bA (hx) ?_|refine aF.mk (aX.cU (hx)) ?_
 simp -dsimp -implicitDefEqProofs only[go_sem,↓reduceIte,Tryz.f113]
 exact bG sA
theorem a8X (e:aB) (h:e.aL.length=2) (outs:Int->Int) (nf:Int) (v s:List Int) (c:Int):slT outs nf e.aL v s c=[rU outs nf (e.fZ 0) v s (c+1),rU outs nf (e.fZ 1) (v++[c]) (s++[c+1]) (c+2)]:=by
 cases e with
 |mk k n pi co kids =>
  match kids,h with
  | [a,b],_=>rfl
theorem aJ.aRE {P:Program} {f:FuncId} {args args':List aH} {h:aE} {K:aH->aE->Prop} {t:Tag K} {r:aH} {n1 n2 sz1 sz2:Nat} {es1 es2:List (List aH)} (a:fM P f args' r) (hn1:h n1=some (.row sz1 (es1.map (List.map .v)))) (hn2:h n2=some (.row sz2 (es2.map (List.map .v)))) (hne:¬n2=n1) (xM:jG n1 sz1 es1.length args=true) (hb2:jG n2 sz2 es2.length (lX n1 es1 args)=true) (he:lX n2 es2 (lX n1 es1 args)=args') (k:K r (aR (aR h n1 .gone) n2 .gone)):aJ P f args h K t:=by
 refine aJ.a3C n1 hn1 (by rw[nG];exact xM) ?_
 rw[kJ]
 exact aJ.a8W (t:=()) a (by rw[aI _ _ _ _ hne];exact hn2) hb2 he k
set_option maxHeartbeats 1000000 in
theorem bMM {p:aC} {funcs:Int} (e:aB) (hk:e.aP=9) (ih:∀ x∈e.aL,aBS p funcs x):aBS p funcs e:=by
 intro v s c hls hok hv hc
 have hnode:=((aB.cN _ _ _ _).1 hok).1
 have hlen:=cQ hok aA
 rw[hk,show dD 9=2 from rfl]at hlen
 have hsl:=lN e
 have g0:e.aL[Int.toNat 0]?=some (e.fZ 0):=aB.fV aA
 have g1:e.aL[Int.toNat 1]?=some (e.fZ 1):=aB.fV aA
 have m0:=gD (e:=e) (i:=0) aA
 have m1:=gD (e:=e) (i:=1) aA
 have s0:=kB m0
 have s1:=kB m1
 have o0:=aB.dX hok (i:=0) aA
 have o1:=aB.dX hok (i:=1) aA
 rw[gQ aA]at o0
 rw[hk,show jV 9 1 (v.length:Int)=v.length+1 from rfl]at o1
 have v0:=yP (k:=0) (c:=c) (s:=s) aA (uK (p:=p) (funcs:=funcs) (e.fZ 0) v c (ints s) (oM s) o0 aA aA)
 have q0:=ih _ m0 v s (c+1) hls o0 aA aA
 have q1:=ih _ m1 (v++[c]) (s++[c+1]) (c+2) bDT aDS aY3 aA
 rw[pE,slN,if_neg aA,if_neg aA,if_neg aA,if_neg aA,if_neg aA,if_neg aA,if_pos hk,qC aA,a8X e aA]
 simp only[aIZ,aI0]
 generalize qI (e.fZ 0) v c=a0 at *
 generalize rU (oN p) p.aD.length (e.fZ 0) v s (c+1)=b0 at *
 generalize rU (oN p) p.aD.length (e.fZ 1) (v++[c]) (s++[c+1]) (c+2)=b1 at *
 have h1:=aBP 9 [b0,b1]
 have h2:=aBP 9 [a0,nJ 9 [b0,b1]]
 simp only[aC.aS,aB.aS,nZ,sX,hk]at h1 h2 v0 q0 q1 ⊢
 have w1:IntKind.i64.wrap (c+1)=c+1:=IntWalk.i64_in _ aA
 have w2:IntKind.i64.wrap (c+2)=c+2:=IntWalk.i64_in _ aA
 refine iN 185 uL aFA aFB Tryz.func113 λh=>?_
 simp -dsimp -implicitDefEqProofs only[go_sem,↓reduceIte,Tryz.f113,hk,w1,w2]
 refine λb hb nm hnm=>⟨by decide,by decide,by decide,by decide,?_,λn hn=>?_⟩
 ·first|refine aJ.mk (lD v aA) ?_|refine aF.mk (lD v aA) ?_|refine aJ.bA (lD v aA) ?_|refine aF.mk (aX.cU (lD v aA)) ?_
  simp -dsimp -implicitDefEqProofs only[go_sem,↓reduceIte,Tryz.f113]
  refine⟨⟨by decide,by omega,by omega,λm1 hm1=>?_⟩,λn hn=>⟨by decide,by omega,by omega,λm1 hm1=>?_⟩⟩
  ·refine⟨?_,λn hn=>?_⟩
   ·first|refine aJ.mk (lD s aA) ?_|refine aF.mk (lD s aA) ?_|refine aJ.bA (lD s aA) ?_|refine aF.mk (aX.cU (lD s aA)) ?_
    simp -dsimp -implicitDefEqProofs only[go_sem,↓reduceIte,Tryz.f113]
    refine⟨⟨by decide,by omega,by omega,λm2 hm2 n hn=>?_⟩,λn hn=>⟨by decide,by omega,by omega,λm2 hm2=>?_⟩⟩
    ·have F:(¬nm=b/\¬n=b/\¬n=nm/\¬m1=b/\¬m1=nm/\¬m1=n/\¬m2=b/\¬m2=nm/\¬m2=n/\¬m2=m1)/\h nm=none/\h n=none/\h m1=none/\h m2=none:=by clear ih hok hnode hv hc v0 q0 q1 h1 h2;grind
     obtain⟨⟨F1,F2,F3,F4,F5,F6,F7,F8,F9,F10⟩,G1,G2,G3,G4⟩:=F
     obtain⟨aWR,gJ,gI,aWS⟩:=bB (show ¬nm=b from F1)
     obtain⟨aDY,dN,dM,yO⟩:=bB (show ¬n=b from F2)
     obtain⟨aWT,gL,gK,aWU⟩:=bB (show ¬n=nm from F3)
     obtain⟨aIB,eK,eJ,aIC⟩:=bB (show ¬m1=b from F4)
     obtain⟨aN6,eY,eT,aN7⟩:=bB (show ¬m1=nm from F5)
     obtain⟨aWV,gO,gM,aWW⟩:=bB (show ¬m1=n from F6)
     obtain⟨aC1,dK,dJ,aC2⟩:=bB (show ¬m2=b from F7)
     obtain⟨aN8,eZ,eX,aN9⟩:=bB (show ¬m2=nm from F8)
     obtain⟨aWX,gP,gN,aWY⟩:=bB (show ¬m2=n from F9)
     obtain⟨aC3,c8,c7,aC4⟩:=bB (show ¬m2=m1 from F10)
     rw[aBR,aBR]
     simp -dsimp -implicitDefEqProofs only[go_sem,↓reduceIte,Tryz.f113,gI,dM,eJ,dJ,gJ,gK,eT,eX,dN,gL,gM,gN,eK,eY,gO,c7,dK,eZ,gP,c8,aG,g0,aB.aS (e.fZ 0)]
     refine⟨by omega,by omega,?_⟩
     simp -dsimp -implicitDefEqProofs only[go_sem,↓reduceIte,Tryz.f113,gI,dM,eJ,dJ,gJ,gK,eT,eX,dN,gL,gM,gN,eK,eY,gO,c7,dK,eZ,gP,c8,aG,g1,aB.aS (e.fZ 1)]
     first|refine aJ.mk (v0) ?_|refine aF.mk (v0) ?_|refine aJ.bA (v0) ?_|refine aF.mk (aX.cU (v0)) ?_
     simp -dsimp -implicitDefEqProofs only[go_sem,↓reduceIte,Tryz.f113,gI,dM,eJ,dJ,gJ,gK,eT,eX,dN,gL,gM,gN,eK,eY,gO,c7,dK,eZ,gP,c8,aG]
     first|refine aJ.mk (q0) ?_|refine aF.mk (q0) ?_|refine aJ.bA (q0) ?_|refine aF.mk (aX.cU (q0)) ?_
     simp -dsimp -implicitDefEqProofs only[go_sem,↓reduceIte,Tryz.f113,gI,dM,eJ,dJ,gJ,gK,eT,eX,dN,gL,gM,gN,eK,eY,gO,c7,dK,eZ,gP,c8,aG]
     refine aJ.aRE (n1:=m1) (n2:=m2) (sz1:=1) (sz2:=1) (es1:=(v++[c]).map λn=>[I n]) (es2:=(s++[c+1]).map λn=>[I n]) q1 aGS aGS F10 aY8 aY1 aY2 ?_
     simp -dsimp -implicitDefEqProofs only[go_sem,↓reduceIte,Tryz.f113,gI,dM,eJ,dJ,gJ,gK,eT,eX,dN,gL,gM,gN,eK,eY,gO,c7,dK,eZ,gP,c8,aG]
     refine⟨by decide,by decide,?_⟩
     first|refine aJ.mk (h1) ?_|refine aF.mk (h1) ?_|refine aJ.bA (h1) ?_|refine aF.mk (aX.cU (h1)) ?_
     simp -dsimp -implicitDefEqProofs only[go_sem,↓reduceIte,Tryz.f113,gI,dM,eJ,dJ,gJ,gK,eT,eX,dN,gL,gM,gN,eK,eY,gO,c7,dK,eZ,gP,c8,aG]
     refine⟨by decide,by decide,?_⟩
     first|refine aJ.mk (h2) ?_|refine aF.mk (h2) ?_|refine aJ.bA (h2) ?_|refine aF.mk (aX.cU (h2)) ?_
     simp -dsimp -implicitDefEqProofs only[go_sem,↓reduceIte,Tryz.f113,gI,dM,eJ,dJ,gJ,gK,eT,eX,dN,gL,gM,gN,eK,eY,gO,c7,dK,eZ,gP,c8,aG]
     exact bG aY0
    ·have F:(¬nm=b/\¬n=b/\¬n=nm/\¬m1=b/\¬m1=nm/\¬m1=n/\¬m2=b/\¬m2=nm/\¬m2=n/\¬m2=m1)/\h nm=none/\h n=none/\h m1=none/\h m2=none:=by clear ih hok hnode hv hc v0 q0 q1 h1 h2;grind
     obtain⟨⟨F1,F2,F3,F4,F5,F6,F7,F8,F9,F10⟩,G1,G2,G3,G4⟩:=F
     obtain⟨aWR,gJ,gI,aWS⟩:=bB (show ¬nm=b from F1)
     obtain⟨aDY,dN,dM,yO⟩:=bB (show ¬n=b from F2)
     obtain⟨aWT,gL,gK,aWU⟩:=bB (show ¬n=nm from F3)
     obtain⟨aIB,eK,eJ,aIC⟩:=bB (show ¬m1=b from F4)
     obtain⟨aN6,eY,eT,aN7⟩:=bB (show ¬m1=nm from F5)
     obtain⟨aWV,gO,gM,aWW⟩:=bB (show ¬m1=n from F6)
     obtain⟨aC1,dK,dJ,aC2⟩:=bB (show ¬m2=b from F7)
     obtain⟨aN8,eZ,eX,aN9⟩:=bB (show ¬m2=nm from F8)
     obtain⟨aWX,gP,gN,aWY⟩:=bB (show ¬m2=n from F9)
     obtain⟨aC3,c8,c7,aC4⟩:=bB (show ¬m2=m1 from F10)
     rw[aBR,aBR]
     simp -dsimp -implicitDefEqProofs only[go_sem,↓reduceIte,Tryz.f113,gI,dM,eJ,dJ,gJ,gK,eT,eX,dN,gL,gM,gN,eK,eY,gO,c7,dK,eZ,gP,c8,aG,g0,aB.aS (e.fZ 0)]
     refine⟨by omega,by omega,?_⟩
     simp -dsimp -implicitDefEqProofs only[go_sem,↓reduceIte,Tryz.f113,gI,dM,eJ,dJ,gJ,gK,eT,eX,dN,gL,gM,gN,eK,eY,gO,c7,dK,eZ,gP,c8,aG,g1,aB.aS (e.fZ 1)]
     first|refine aJ.mk (v0) ?_|refine aF.mk (v0) ?_|refine aJ.bA (v0) ?_|refine aF.mk (aX.cU (v0)) ?_
     simp -dsimp -implicitDefEqProofs only[go_sem,↓reduceIte,Tryz.f113,gI,dM,eJ,dJ,gJ,gK,eT,eX,dN,gL,gM,gN,eK,eY,gO,c7,dK,eZ,gP,c8,aG]
     first|refine aJ.mk (q0) ?_|refine aF.mk (q0) ?_|refine aJ.bA (q0) ?_|refine aF.mk (aX.cU (q0)) ?_
     simp -dsimp -implicitDefEqProofs only[go_sem,↓reduceIte,Tryz.f113,gI,dM,eJ,dJ,gJ,gK,eT,eX,dN,gL,gM,gN,eK,eY,gO,c7,dK,eZ,gP,c8,aG]
     refine aJ.aRE (n1:=m1) (n2:=m2) (sz1:=1) (sz2:=1) (es1:=(v++[c]).map λn=>[I n]) (es2:=(s++[c+1]).map λn=>[I n]) q1 aGS aGS F10 aY8 aY1 aY2 ?_
     simp -dsimp -implicitDefEqProofs only[go_sem,↓reduceIte,Tryz.f113,gI,dM,eJ,dJ,gJ,gK,eT,eX,dN,gL,gM,gN,eK,eY,gO,c7,dK,eZ,gP,c8,aG]
     refine⟨by decide,by decide,?_⟩
     first|refine aJ.mk (h1) ?_|refine aF.mk (h1) ?_|refine aJ.bA (h1) ?_|refine aF.mk (aX.cU (h1)) ?_
     simp -dsimp -implicitDefEqProofs only[go_sem,↓reduceIte,Tryz.f113,gI,dM,eJ,dJ,gJ,gK,eT,eX,dN,gL,gM,gN,eK,eY,gO,c7,dK,eZ,gP,c8,aG]
     refine⟨by decide,by decide,?_⟩
     first|refine aJ.mk (h2) ?_|refine aF.mk (h2) ?_|refine aJ.bA (h2) ?_|refine aF.mk (aX.cU (h2)) ?_
     simp -dsimp -implicitDefEqProofs only[go_sem,↓reduceIte,Tryz.f113,gI,dM,eJ,dJ,gJ,gK,eT,eX,dN,gL,gM,gN,eK,eY,gO,c7,dK,eZ,gP,c8,aG]
     exact bG aY0
   ·first|refine aJ.mk (lD s aA) ?_|refine aF.mk (lD s aA) ?_|refine aJ.bA (lD s aA) ?_|refine aF.mk (aX.cU (lD s aA)) ?_
    simp -dsimp -implicitDefEqProofs only[go_sem,↓reduceIte,Tryz.f113]
    refine⟨by decide,by omega,by omega,λm2 hm2=>?_⟩
    ·have F:(¬nm=b/\¬n=b/\¬n=nm/\¬m1=b/\¬m1=nm/\¬m1=n/\¬m2=b/\¬m2=nm/\¬m2=n/\¬m2=m1)/\h nm=none/\h n=none/\h m1=none/\h m2=none:=by clear ih hok hnode hv hc v0 q0 q1 h1 h2;grind
     obtain⟨⟨F1,F2,F3,F4,F5,F6,F7,F8,F9,F10⟩,G1,G2,G3,G4⟩:=F
     obtain⟨aWR,gJ,gI,aWS⟩:=bB (show ¬nm=b from F1)
     obtain⟨aDY,dN,dM,yO⟩:=bB (show ¬n=b from F2)
     obtain⟨aWT,gL,gK,aWU⟩:=bB (show ¬n=nm from F3)
     obtain⟨aIB,eK,eJ,aIC⟩:=bB (show ¬m1=b from F4)
     obtain⟨aN6,eY,eT,aN7⟩:=bB (show ¬m1=nm from F5)
     obtain⟨aWV,gO,gM,aWW⟩:=bB (show ¬m1=n from F6)
     obtain⟨aC1,dK,dJ,aC2⟩:=bB (show ¬m2=b from F7)
     obtain⟨aN8,eZ,eX,aN9⟩:=bB (show ¬m2=nm from F8)
     obtain⟨aWX,gP,gN,aWY⟩:=bB (show ¬m2=n from F9)
     obtain⟨aC3,c8,c7,aC4⟩:=bB (show ¬m2=m1 from F10)
     rw[aBR,aBR]
     simp -dsimp -implicitDefEqProofs only[go_sem,↓reduceIte,Tryz.f113,gI,dM,eJ,dJ,gJ,gK,eT,eX,dN,gL,gM,gN,eK,eY,gO,c7,dK,eZ,gP,c8,aG,g0,aB.aS (e.fZ 0)]
     refine⟨by omega,by omega,?_⟩
     simp -dsimp -implicitDefEqProofs only[go_sem,↓reduceIte,Tryz.f113,gI,dM,eJ,dJ,gJ,gK,eT,eX,dN,gL,gM,gN,eK,eY,gO,c7,dK,eZ,gP,c8,aG,g1,aB.aS (e.fZ 1)]
     first|refine aJ.mk (v0) ?_|refine aF.mk (v0) ?_|refine aJ.bA (v0) ?_|refine aF.mk (aX.cU (v0)) ?_
     simp -dsimp -implicitDefEqProofs only[go_sem,↓reduceIte,Tryz.f113,gI,dM,eJ,dJ,gJ,gK,eT,eX,dN,gL,gM,gN,eK,eY,gO,c7,dK,eZ,gP,c8,aG]
     first|refine aJ.mk (q0) ?_|refine aF.mk (q0) ?_|refine aJ.bA (q0) ?_|refine aF.mk (aX.cU (q0)) ?_
     simp -dsimp -implicitDefEqProofs only[go_sem,↓reduceIte,Tryz.f113,gI,dM,eJ,dJ,gJ,gK,eT,eX,dN,gL,gM,gN,eK,eY,gO,c7,dK,eZ,gP,c8,aG]
     refine aJ.aRE (n1:=m1) (n2:=m2) (sz1:=1) (sz2:=1) (es1:=(v++[c]).map λn=>[I n]) (es2:=(s++[c+1]).map λn=>[I n]) q1 aGS aGS F10 aY8 aY1 aY2 ?_
     simp -dsimp -implicitDefEqProofs only[go_sem,↓reduceIte,Tryz.f113,gI,dM,eJ,dJ,gJ,gK,eT,eX,dN,gL,gM,gN,eK,eY,gO,c7,dK,eZ,gP,c8,aG]
     refine⟨by decide,by decide,?_⟩
     first|refine aJ.mk (h1) ?_|refine aF.mk (h1) ?_|refine aJ.bA (h1) ?_|refine aF.mk (aX.cU (h1)) ?_
     simp -dsimp -implicitDefEqProofs only[go_sem,↓reduceIte,Tryz.f113,gI,dM,eJ,dJ,gJ,gK,eT,eX,dN,gL,gM,gN,eK,eY,gO,c7,dK,eZ,gP,c8,aG]
     refine⟨by decide,by decide,?_⟩
     first|refine aJ.mk (h2) ?_|refine aF.mk (h2) ?_|refine aJ.bA (h2) ?_|refine aF.mk (aX.cU (h2)) ?_
     simp -dsimp -implicitDefEqProofs only[go_sem,↓reduceIte,Tryz.f113,gI,dM,eJ,dJ,gJ,gK,eT,eX,dN,gL,gM,gN,eK,eY,gO,c7,dK,eZ,gP,c8,aG]
     exact bG aY0
  ·first|refine aJ.mk (lD s aA) ?_|refine aF.mk (lD s aA) ?_|refine aJ.bA (lD s aA) ?_|refine aF.mk (aX.cU (lD s aA)) ?_
   simp -dsimp -implicitDefEqProofs only[go_sem,↓reduceIte,Tryz.f113]
   refine⟨by decide,by omega,by omega,λm2 hm2=>?_⟩
   ·have F:(¬nm=b/\¬n=b/\¬n=nm/\¬m1=b/\¬m1=nm/\¬m1=n/\¬m2=b/\¬m2=nm/\¬m2=n/\¬m2=m1)/\h nm=none/\h n=none/\h m1=none/\h m2=none:=by clear ih hok hnode hv hc v0 q0 q1 h1 h2;grind
    obtain⟨⟨F1,F2,F3,F4,F5,F6,F7,F8,F9,F10⟩,G1,G2,G3,G4⟩:=F
    obtain⟨aWR,gJ,gI,aWS⟩:=bB (show ¬nm=b from F1)
    obtain⟨aDY,dN,dM,yO⟩:=bB (show ¬n=b from F2)
    obtain⟨aWT,gL,gK,aWU⟩:=bB (show ¬n=nm from F3)
    obtain⟨aIB,eK,eJ,aIC⟩:=bB (show ¬m1=b from F4)
    obtain⟨aN6,eY,eT,aN7⟩:=bB (show ¬m1=nm from F5)
    obtain⟨aWV,gO,gM,aWW⟩:=bB (show ¬m1=n from F6)
    obtain⟨aC1,dK,dJ,aC2⟩:=bB (show ¬m2=b from F7)
    obtain⟨aN8,eZ,eX,aN9⟩:=bB (show ¬m2=nm from F8)
    obtain⟨aWX,gP,gN,aWY⟩:=bB (show ¬m2=n from F9)
    obtain⟨aC3,c8,c7,aC4⟩:=bB (show ¬m2=m1 from F10)
    rw[aBR,aBR]
    simp -dsimp -implicitDefEqProofs only[go_sem,↓reduceIte,Tryz.f113,gI,dM,eJ,dJ,gJ,gK,eT,eX,dN,gL,gM,gN,eK,eY,gO,c7,dK,eZ,gP,c8,aG,g0,aB.aS (e.fZ 0)]
    refine⟨by omega,by omega,?_⟩
    simp -dsimp -implicitDefEqProofs only[go_sem,↓reduceIte,Tryz.f113,gI,dM,eJ,dJ,gJ,gK,eT,eX,dN,gL,gM,gN,eK,eY,gO,c7,dK,eZ,gP,c8,aG,g1,aB.aS (e.fZ 1)]
    first|refine aJ.mk (v0) ?_|refine aF.mk (v0) ?_|refine aJ.bA (v0) ?_|refine aF.mk (aX.cU (v0)) ?_
    simp -dsimp -implicitDefEqProofs only[go_sem,↓reduceIte,Tryz.f113,gI,dM,eJ,dJ,gJ,gK,eT,eX,dN,gL,gM,gN,eK,eY,gO,c7,dK,eZ,gP,c8,aG]
    first|refine aJ.mk (q0) ?_|refine aF.mk (q0) ?_|refine aJ.bA (q0) ?_|refine aF.mk (aX.cU (q0)) ?_
    simp -dsimp -implicitDefEqProofs only[go_sem,↓reduceIte,Tryz.f113,gI,dM,eJ,dJ,gJ,gK,eT,eX,dN,gL,gM,gN,eK,eY,gO,c7,dK,eZ,gP,c8,aG]
    refine aJ.aRE (n1:=m1) (n2:=m2) (sz1:=1) (sz2:=1) (es1:=(v++[c]).map λn=>[I n]) (es2:=(s++[c+1]).map λn=>[I n]) q1 aGS aGS F10 aY8 aY1 aY2 ?_
    simp -dsimp -implicitDefEqProofs only[go_sem,↓reduceIte,Tryz.f113,gI,dM,eJ,dJ,gJ,gK,eT,eX,dN,gL,gM,gN,eK,eY,gO,c7,dK,eZ,gP,c8,aG]
    refine⟨by decide,by decide,?_⟩
    first|refine aJ.mk (h1) ?_|refine aF.mk (h1) ?_|refine aJ.bA (h1) ?_|refine aF.mk (aX.cU (h1)) ?_
    simp -dsimp -implicitDefEqProofs only[go_sem,↓reduceIte,Tryz.f113,gI,dM,eJ,dJ,gJ,gK,eT,eX,dN,gL,gM,gN,eK,eY,gO,c7,dK,eZ,gP,c8,aG]
    refine⟨by decide,by decide,?_⟩
    first|refine aJ.mk (h2) ?_|refine aF.mk (h2) ?_|refine aJ.bA (h2) ?_|refine aF.mk (aX.cU (h2)) ?_
    simp -dsimp -implicitDefEqProofs only[go_sem,↓reduceIte,Tryz.f113,gI,dM,eJ,dJ,gJ,gK,eT,eX,dN,gL,gM,gN,eK,eY,gO,c7,dK,eZ,gP,c8,aG]
    exact bG aY0
 ·first|refine aJ.mk (lD v aA) ?_|refine aF.mk (lD v aA) ?_|refine aJ.bA (lD v aA) ?_|refine aF.mk (aX.cU (lD v aA)) ?_
  simp -dsimp -implicitDefEqProofs only[go_sem,↓reduceIte,Tryz.f113]
  refine⟨by decide,by omega,by omega,λm1 hm1=>?_⟩
  first|refine aJ.mk (lD s aA) ?_|refine aF.mk (lD s aA) ?_|refine aJ.bA (lD s aA) ?_|refine aF.mk (aX.cU (lD s aA)) ?_
  simp -dsimp -implicitDefEqProofs only[go_sem,↓reduceIte,Tryz.f113]
  refine⟨by decide,by omega,by omega,λm2 hm2=>?_⟩
  ·have F:(¬nm=b/\¬n=b/\¬n=nm/\¬m1=b/\¬m1=nm/\¬m1=n/\¬m2=b/\¬m2=nm/\¬m2=n/\¬m2=m1)/\h nm=none/\h n=none/\h m1=none/\h m2=none:=by clear ih hok hnode hv hc v0 q0 q1 h1 h2;grind
   obtain⟨⟨F1,F2,F3,F4,F5,F6,F7,F8,F9,F10⟩,G1,G2,G3,G4⟩:=F
   obtain⟨aWR,gJ,gI,aWS⟩:=bB (show ¬nm=b from F1)
   obtain⟨aDY,dN,dM,yO⟩:=bB (show ¬n=b from F2)
   obtain⟨aWT,gL,gK,aWU⟩:=bB (show ¬n=nm from F3)
   obtain⟨aIB,eK,eJ,aIC⟩:=bB (show ¬m1=b from F4)
   obtain⟨aN6,eY,eT,aN7⟩:=bB (show ¬m1=nm from F5)
   obtain⟨aWV,gO,gM,aWW⟩:=bB (show ¬m1=n from F6)
   obtain⟨aC1,dK,dJ,aC2⟩:=bB (show ¬m2=b from F7)
   obtain⟨aN8,eZ,eX,aN9⟩:=bB (show ¬m2=nm from F8)
   obtain⟨aWX,gP,gN,aWY⟩:=bB (show ¬m2=n from F9)
   obtain⟨aC3,c8,c7,aC4⟩:=bB (show ¬m2=m1 from F10)
   rw[aBR,aBR]
   simp -dsimp -implicitDefEqProofs only[go_sem,↓reduceIte,Tryz.f113,gI,dM,eJ,dJ,gJ,gK,eT,eX,dN,gL,gM,gN,eK,eY,gO,c7,dK,eZ,gP,c8,aG,g0,aB.aS (e.fZ 0)]
   refine⟨by omega,by omega,?_⟩
   simp -dsimp -implicitDefEqProofs only[go_sem,↓reduceIte,Tryz.f113,gI,dM,eJ,dJ,gJ,gK,eT,eX,dN,gL,gM,gN,eK,eY,gO,c7,dK,eZ,gP,c8,aG,g1,aB.aS (e.fZ 1)]
   first|refine aJ.mk (v0) ?_|refine aF.mk (v0) ?_|refine aJ.bA (v0) ?_|refine aF.mk (aX.cU (v0)) ?_
   simp -dsimp -implicitDefEqProofs only[go_sem,↓reduceIte,Tryz.f113,gI,dM,eJ,dJ,gJ,gK,eT,eX,dN,gL,gM,gN,eK,eY,gO,c7,dK,eZ,gP,c8,aG]
   first|refine aJ.mk (q0) ?_|refine aF.mk (q0) ?_|refine aJ.bA (q0) ?_|refine aF.mk (aX.cU (q0)) ?_
   simp -dsimp -implicitDefEqProofs only[go_sem,↓reduceIte,Tryz.f113,gI,dM,eJ,dJ,gJ,gK,eT,eX,dN,gL,gM,gN,eK,eY,gO,c7,dK,eZ,gP,c8,aG]
   refine aJ.aRE (n1:=m1) (n2:=m2) (sz1:=1) (sz2:=1) (es1:=(v++[c]).map λn=>[I n]) (es2:=(s++[c+1]).map λn=>[I n]) q1 aGS aGS F10 aY8 aY1 aY2 ?_
   simp -dsimp -implicitDefEqProofs only[go_sem,↓reduceIte,Tryz.f113,gI,dM,eJ,dJ,gJ,gK,eT,eX,dN,gL,gM,gN,eK,eY,gO,c7,dK,eZ,gP,c8,aG]
   refine⟨by decide,by decide,?_⟩
   first|refine aJ.mk (h1) ?_|refine aF.mk (h1) ?_|refine aJ.bA (h1) ?_|refine aF.mk (aX.cU (h1)) ?_
   simp -dsimp -implicitDefEqProofs only[go_sem,↓reduceIte,Tryz.f113,gI,dM,eJ,dJ,gJ,gK,eT,eX,dN,gL,gM,gN,eK,eY,gO,c7,dK,eZ,gP,c8,aG]
   refine⟨by decide,by decide,?_⟩
   first|refine aJ.mk (h2) ?_|refine aF.mk (h2) ?_|refine aJ.bA (h2) ?_|refine aF.mk (aX.cU (h2)) ?_
   simp -dsimp -implicitDefEqProofs only[go_sem,↓reduceIte,Tryz.f113,gI,dM,eJ,dJ,gJ,gK,eT,eX,dN,gL,gM,gN,eK,eY,gO,c7,dK,eZ,gP,c8,aG]
   exact bG aY0
theorem b1T {p:aC} (hp:p.ok) {inp:Int} {n:Nat} (hv:aBM p inp n) {h0 h:aE} {nb st:Nat} {e:aB} {env:List Int} {S:dS} {funcs:Int} (hR:lC h0 nb p inp S st 0 h) (hst:st<3000) (hn:3001<=n+1+st)
  (hok:e.ok p funcs env.length) (iC:0<=funcs) (hf:funcs<=p.aD.length) (hg:Good inp S st) (henv:∀ x∈env,rQ S x) (hel:env.length<=412+st) (hk:e.aP=3) :
  jC Tryz.prog 125 [.op nb 8 0 0,.agg e.c,ints env] h (aMA h0 nb p inp st 0 (fH p (n+1) st e env S)):=by
 obtain⟨om,og,ov,H⟩:=hR
 rw[aB.aS]
 have hb:=H.box
 unfold dQ at hb
 have e3:((st:Int)=3000)=False:=eq_false aA
 have ew:IntKind.i64.wrap ((st:Int)+1)=((st+1:Nat):Int):=by rw[IntWalk.i64_in _ aA];rfl
 have hnode:=(aB.cN _ _ _ _).1 hok
 have h3:¬st=3000:=by omega
 have hcap:=hg.cap
 have hgcap:=hg.aCZ
 have o7:=hg.later (r7 st)
 have hR1:lC h0 nb p inp S (st+1) 0 (aR h nb (dQ p inp S om og ov (st+1) 0)):=⟨_,_,_,H.set (st+1) 0⟩
 have hlen:=cQ hok aA
 rw[hk,show dD 3=2 from rfl]at hlen
 have hkl:e.aL.length<=1048576:=by omega
 refine lU 190 rH aBK aBL Tryz.func125 ?_
 simp -dsimp -implicitDefEqProofs only[go_sem,↓reduceIte,Tryz.f125,hb,e3,ew,hk]
 refine aJ.gS (xN hp hv h0 _ nb (st+1) 0 e.aL env S funcs hR1 aA aA hkl (cO hok aA) iC hf (λ_=>⟨o7,henv⟩) aA) ?_
 rintro r h' ⟨vs,S1,t1,c1,rfl,⟨om1,og1,ov1,H1⟩,hvl,a1,a2,a3⟩
 have xM:=H1.box
 unfold dQ at xM
 simp -dsimp -implicitDefEqProofs only[go_sem,↓reduceIte,Tryz.f125,xM]
 refine⟨λhc=>?_,λhc=>?_⟩
 ·refine⟨_,_,bQ _ _,0,S1,t1,c1,rfl,⟨_,_,_,H1⟩,by omega,a2,?_⟩
  rw[qB h3 aA]
  exact a3.eN aI4
 subst hc
 obtain⟨_,e2⟩:=a3.ok rfl
 obtain⟨q1,q2,q3,q4⟩:=rI hp o7 aA henv (cO hok aA) hf _ _ e2
 simp only at q1 q2 q3
 try simp -dsimp -implicitDefEqProofs only[go_sem,↓reduceIte,Tryz.f125,hk]
 refine aJ.gS (uJ ⟨_,_,_,H1⟩ q1 a2 3 vs cE aA aA q3.2 aA) ?_
 rintro r h2 ⟨k2,S2,c2,rfl,hR3,b3⟩
 simp -dsimp -implicitDefEqProofs only[go_sem,↓reduceIte,Tryz.f125]
 refine⟨_,_,bQ _ _,k2,S2,t1,c2,rfl,hR3,by omega,a2,?_⟩
 rw[qB h3 aA]
 refine a3.eN ?_
 rw[dF,hk]
 exact b3
theorem b1U {p:aC} (hp:p.ok) {inp:Int} {n:Nat} (hv:aBM p inp n) {h0 h:aE} {nb st:Nat} {e:aB} {env:List Int} {S:dS} {funcs:Int} (hR:lC h0 nb p inp S st 0 h) (hst:st<3000) (hn:3001<=n+1+st)
  (hok:e.ok p funcs env.length) (iC:0<=funcs) (hf:funcs<=p.aD.length) (hg:Good inp S st) (henv:∀ x∈env,rQ S x) (hel:env.length<=412+st) (hk:e.aP=4) :
  jC Tryz.prog 125 [.op nb 8 0 0,.agg e.c,ints env] h (aMA h0 nb p inp st 0 (fH p (n+1) st e env S)):=by
 obtain⟨om,og,ov,H⟩:=hR
 rw[aB.aS]
 have hb:=H.box
 unfold dQ at hb
 have e3:((st:Int)=3000)=False:=eq_false aA
 have ew:IntKind.i64.wrap ((st:Int)+1)=((st+1:Nat):Int):=by rw[IntWalk.i64_in _ aA];rfl
 have hnode:=(aB.cN _ _ _ _).1 hok
 have h3:¬st=3000:=by omega
 have hcap:=hg.cap
 have hgcap:=hg.aCZ
 have o7:=hg.later (r7 st)
 have hR1:lC h0 nb p inp S (st+1) 0 (aR h nb (dQ p inp S om og ov (st+1) 0)):=⟨_,_,_,H.set (st+1) 0⟩
 have hlen:=cQ hok aA
 rw[hk,show dD 4=2 from rfl]at hlen
 have hkl:e.aL.length<=1048576:=by omega
 refine lU 190 rH aBK aBL Tryz.func125 ?_
 simp -dsimp -implicitDefEqProofs only[go_sem,↓reduceIte,Tryz.f125,hb,e3,ew,hk]
 refine aJ.gS (xN hp hv h0 _ nb (st+1) 0 e.aL env S funcs hR1 aA aA hkl (cO hok aA) iC hf (λ_=>⟨o7,henv⟩) aA) ?_
 rintro r h' ⟨vs,S1,t1,c1,rfl,⟨om1,og1,ov1,H1⟩,hvl,a1,a2,a3⟩
 have xM:=H1.box
 unfold dQ at xM
 simp -dsimp -implicitDefEqProofs only[go_sem,↓reduceIte,Tryz.f125,xM]
 refine⟨λhc=>?_,λhc=>?_⟩
 ·refine⟨_,_,bQ _ _,0,S1,t1,c1,rfl,⟨_,_,_,H1⟩,by omega,a2,?_⟩
  rw[qB h3 aA]
  exact a3.eN aI4
 subst hc
 obtain⟨_,e2⟩:=a3.ok rfl
 obtain⟨q1,q2,q3,q4⟩:=rI hp o7 aA henv (cO hok aA) hf _ _ e2
 simp only at q1 q2 q3
 try simp -dsimp -implicitDefEqProofs only[go_sem,↓reduceIte,Tryz.f125,hk]
 refine aJ.gS (uJ ⟨_,_,_,H1⟩ q1 a2 4 vs cE aA aA q3.2 aA) ?_
 rintro r h2 ⟨k2,S2,c2,rfl,hR3,b3⟩
 simp -dsimp -implicitDefEqProofs only[go_sem,↓reduceIte,Tryz.f125]
 refine⟨_,_,bQ _ _,k2,S2,t1,c2,rfl,hR3,by omega,a2,?_⟩
 rw[qB h3 aA]
 refine a3.eN ?_
 rw[dF,hk]
 exact b3
theorem b1V {p:aC} (hp:p.ok) {inp:Int} {n:Nat} (hv:aBM p inp n) {h0 h:aE} {nb st:Nat} {e:aB} {env:List Int} {S:dS} {funcs:Int} (hR:lC h0 nb p inp S st 0 h) (hst:st<3000) (hn:3001<=n+1+st)
  (hok:e.ok p funcs env.length) (iC:0<=funcs) (hf:funcs<=p.aD.length) (hg:Good inp S st) (henv:∀ x∈env,rQ S x) (hel:env.length<=412+st) (hk:e.aP=5) :
  jC Tryz.prog 125 [.op nb 8 0 0,.agg e.c,ints env] h (aMA h0 nb p inp st 0 (fH p (n+1) st e env S)):=by
 obtain⟨om,og,ov,H⟩:=hR
 rw[aB.aS]
 have hb:=H.box
 unfold dQ at hb
 have e3:((st:Int)=3000)=False:=eq_false aA
 have ew:IntKind.i64.wrap ((st:Int)+1)=((st+1:Nat):Int):=by rw[IntWalk.i64_in _ aA];rfl
 have hnode:=(aB.cN _ _ _ _).1 hok
 have h3:¬st=3000:=by omega
 have hcap:=hg.cap
 have hgcap:=hg.aCZ
 have o7:=hg.later (r7 st)
 have hR1:lC h0 nb p inp S (st+1) 0 (aR h nb (dQ p inp S om og ov (st+1) 0)):=⟨_,_,_,H.set (st+1) 0⟩
 have hlen:=cQ hok aA
 rw[hk,show dD 5=2 from rfl]at hlen
 have hkl:e.aL.length<=1048576:=by omega
 refine lU 190 rH aBK aBL Tryz.func125 ?_
 simp -dsimp -implicitDefEqProofs only[go_sem,↓reduceIte,Tryz.f125,hb,e3,ew,hk]
 refine aJ.gS (xN hp hv h0 _ nb (st+1) 0 e.aL env S funcs hR1 aA aA hkl (cO hok aA) iC hf (λ_=>⟨o7,henv⟩) aA) ?_
 rintro r h' ⟨vs,S1,t1,c1,rfl,⟨om1,og1,ov1,H1⟩,hvl,a1,a2,a3⟩
 have xM:=H1.box
 unfold dQ at xM
 simp -dsimp -implicitDefEqProofs only[go_sem,↓reduceIte,Tryz.f125,xM]
 refine⟨λhc=>?_,λhc=>?_⟩
 ·refine⟨_,_,bQ _ _,0,S1,t1,c1,rfl,⟨_,_,_,H1⟩,by omega,a2,?_⟩
  rw[qB h3 aA]
  exact a3.eN aI4
 subst hc
 obtain⟨_,e2⟩:=a3.ok rfl
 obtain⟨q1,q2,q3,q4⟩:=rI hp o7 aA henv (cO hok aA) hf _ _ e2
 simp only at q1 q2 q3
 try simp -dsimp -implicitDefEqProofs only[go_sem,↓reduceIte,Tryz.f125,hk]
 refine aJ.gS (uJ ⟨_,_,_,H1⟩ q1 a2 5 vs cE aA aA q3.2 aA) ?_
 rintro r h2 ⟨k2,S2,c2,rfl,hR3,b3⟩
 simp -dsimp -implicitDefEqProofs only[go_sem,↓reduceIte,Tryz.f125]
 refine⟨_,_,bQ _ _,k2,S2,t1,c2,rfl,hR3,by omega,a2,?_⟩
 rw[qB h3 aA]
 refine a3.eN ?_
 rw[dF,hk]
 exact b3
theorem b1W {p:aC} (hp:p.ok) {inp:Int} {n:Nat} (hv:aBM p inp n) {h0 h:aE} {nb st:Nat} {e:aB} {env:List Int} {S:dS} {funcs:Int} (hR:lC h0 nb p inp S st 0 h) (hst:st<3000) (hn:3001<=n+1+st)
  (hok:e.ok p funcs env.length) (iC:0<=funcs) (hf:funcs<=p.aD.length) (hg:Good inp S st) (henv:∀ x∈env,rQ S x) (hel:env.length<=412+st) (hk:e.aP=6) :
  jC Tryz.prog 125 [.op nb 8 0 0,.agg e.c,ints env] h (aMA h0 nb p inp st 0 (fH p (n+1) st e env S)):=by
 obtain⟨om,og,ov,H⟩:=hR
 rw[aB.aS]
 have hb:=H.box
 unfold dQ at hb
 have e3:((st:Int)=3000)=False:=eq_false aA
 have ew:IntKind.i64.wrap ((st:Int)+1)=((st+1:Nat):Int):=by rw[IntWalk.i64_in _ aA];rfl
 have hnode:=(aB.cN _ _ _ _).1 hok
 have h3:¬st=3000:=by omega
 have hcap:=hg.cap
 have hgcap:=hg.aCZ
 have o7:=hg.later (r7 st)
 have hR1:lC h0 nb p inp S (st+1) 0 (aR h nb (dQ p inp S om og ov (st+1) 0)):=⟨_,_,_,H.set (st+1) 0⟩
 have hlen:=cQ hok aA
 rw[hk,show dD 6=2 from rfl]at hlen
 have hkl:e.aL.length<=1048576:=by omega
 refine lU 190 rH aBK aBL Tryz.func125 ?_
 simp -dsimp -implicitDefEqProofs only[go_sem,↓reduceIte,Tryz.f125,hb,e3,ew,hk]
 refine aJ.gS (xN hp hv h0 _ nb (st+1) 0 e.aL env S funcs hR1 aA aA hkl (cO hok aA) iC hf (λ_=>⟨o7,henv⟩) aA) ?_
 rintro r h' ⟨vs,S1,t1,c1,rfl,⟨om1,og1,ov1,H1⟩,hvl,a1,a2,a3⟩
 have xM:=H1.box
 unfold dQ at xM
 simp -dsimp -implicitDefEqProofs only[go_sem,↓reduceIte,Tryz.f125,xM]
 refine⟨λhc=>?_,λhc=>?_⟩
 ·refine⟨_,_,bQ _ _,0,S1,t1,c1,rfl,⟨_,_,_,H1⟩,by omega,a2,?_⟩
  rw[qB h3 aA]
  exact a3.eN aI4
 subst hc
 obtain⟨_,e2⟩:=a3.ok rfl
 obtain⟨q1,q2,q3,q4⟩:=rI hp o7 aA henv (cO hok aA) hf _ _ e2
 simp only at q1 q2 q3
 try simp -dsimp -implicitDefEqProofs only[go_sem,↓reduceIte,Tryz.f125,hk]
 refine aJ.gS (uJ ⟨_,_,_,H1⟩ q1 a2 6 vs cE aA aA q3.2 aA) ?_
 rintro r h2 ⟨k2,S2,c2,rfl,hR3,b3⟩
 simp -dsimp -implicitDefEqProofs only[go_sem,↓reduceIte,Tryz.f125]
 refine⟨_,_,bQ _ _,k2,S2,t1,c2,rfl,hR3,by omega,a2,?_⟩
 rw[qB h3 aA]
 refine a3.eN ?_
 rw[dF,hk]
 exact b3
theorem b1X {p:aC} (hp:p.ok) {inp:Int} {n:Nat} (hv:aBM p inp n) {h0 h:aE} {nb st:Nat} {e:aB} {env:List Int} {S:dS} {funcs:Int} (hR:lC h0 nb p inp S st 0 h) (hst:st<3000) (hn:3001<=n+1+st)
  (hok:e.ok p funcs env.length) (iC:0<=funcs) (hf:funcs<=p.aD.length) (hg:Good inp S st) (henv:∀ x∈env,rQ S x) (hel:env.length<=412+st) (hk:e.aP=7) :
  jC Tryz.prog 125 [.op nb 8 0 0,.agg e.c,ints env] h (aMA h0 nb p inp st 0 (fH p (n+1) st e env S)):=by
 obtain⟨om,og,ov,H⟩:=hR
 rw[aB.aS]
 have hb:=H.box
 unfold dQ at hb
 have e3:((st:Int)=3000)=False:=eq_false aA
 have ew:IntKind.i64.wrap ((st:Int)+1)=((st+1:Nat):Int):=by rw[IntWalk.i64_in _ aA];rfl
 have hnode:=(aB.cN _ _ _ _).1 hok
 have h3:¬st=3000:=by omega
 have hcap:=hg.cap
 have hgcap:=hg.aCZ
 have o7:=hg.later (r7 st)
 have hR1:lC h0 nb p inp S (st+1) 0 (aR h nb (dQ p inp S om og ov (st+1) 0)):=⟨_,_,_,H.set (st+1) 0⟩
 have hlen:=cQ hok aA
 rw[hk,show dD 7=1 from rfl]at hlen
 have hkl:e.aL.length<=1048576:=by omega
 refine lU 190 rH aBK aBL Tryz.func125 ?_
 simp -dsimp -implicitDefEqProofs only[go_sem,↓reduceIte,Tryz.f125,hb,e3,ew,hk]
 refine aJ.gS (xN hp hv h0 _ nb (st+1) 0 e.aL env S funcs hR1 aA aA hkl (cO hok aA) iC hf (λ_=>⟨o7,henv⟩) aA) ?_
 rintro r h' ⟨vs,S1,t1,c1,rfl,⟨om1,og1,ov1,H1⟩,hvl,a1,a2,a3⟩
 have xM:=H1.box
 unfold dQ at xM
 simp -dsimp -implicitDefEqProofs only[go_sem,↓reduceIte,Tryz.f125,xM]
 refine⟨λhc=>?_,λhc=>?_⟩
 ·refine⟨_,_,bQ _ _,0,S1,t1,c1,rfl,⟨_,_,_,H1⟩,by omega,a2,?_⟩
  rw[qB h3 aA]
  exact a3.eN aI4
 subst hc
 obtain⟨_,e2⟩:=a3.ok rfl
 obtain⟨q1,q2,q3,q4⟩:=rI hp o7 aA henv (cO hok aA) hf _ _ e2
 simp only at q1 q2 q3
 try simp -dsimp -implicitDefEqProofs only[go_sem,↓reduceIte,Tryz.f125,hk]
 refine aJ.gS (uJ ⟨_,_,_,H1⟩ q1 a2 7 vs cE aA aA q3.2 aA) ?_
 rintro r h2 ⟨k2,S2,c2,rfl,hR3,b3⟩
 simp -dsimp -implicitDefEqProofs only[go_sem,↓reduceIte,Tryz.f125]
 refine⟨_,_,bQ _ _,k2,S2,t1,c2,rfl,hR3,by omega,a2,?_⟩
 rw[qB h3 aA]
 refine a3.eN ?_
 rw[dF,hk]
 exact b3
theorem bUJ {p:aC} (hp:p.ok) {inp:Int} {n:Nat} (hv:aBM p inp n) {h0 h:aE} {nb st:Nat} {e:aB} {env:List Int} {S:dS} {funcs:Int} (hR:lC h0 nb p inp S st 0 h) (hst:st<3000) (hn:3001<=n+1+st)
  (hok:e.ok p funcs env.length) (iC:0<=funcs) (hf:funcs<=p.aD.length) (hg:Good inp S st) (henv:∀ x∈env,rQ S x) (hel:env.length<=412+st) (hk:e.aP=10) :
  jC Tryz.prog 125 [.op nb 8 0 0,.agg e.c,ints env] h (aMA h0 nb p inp st 0 (fH p (n+1) st e env S)):=by
 obtain⟨om,og,ov,H⟩:=hR
 rw[aB.aS]
 have hb:=H.box
 unfold dQ at hb
 have e3:((st:Int)=3000)=False:=eq_false aA
 have ew:IntKind.i64.wrap ((st:Int)+1)=((st+1:Nat):Int):=by rw[IntWalk.i64_in _ aA];rfl
 have hnode:=(aB.cN _ _ _ _).1 hok
 have h3:¬st=3000:=by omega
 have hcap:=hg.cap
 have hgcap:=hg.aCZ
 have o7:=hg.later (r7 st)
 have hR1:lC h0 nb p inp S (st+1) 0 (aR h nb (dQ p inp S om og ov (st+1) 0)):=⟨_,_,_,H.set (st+1) 0⟩
 obtain⟨f,F⟩:=nD hp hok hf (.inl hk)
 have hkl:e.aL.length<=1048576:=by have:=F.kids;have:=F.params;omega
 refine lU 190 rH aBK aBL Tryz.func125 ?_
 simp -dsimp -implicitDefEqProofs only[go_sem,↓reduceIte,Tryz.f125,hb,e3,ew,hk]
 refine aJ.gS (xN hp hv h0 _ nb (st+1) 0 e.aL env S funcs hR1 aA aA hkl (cO hok aA) iC hf (λ_=>⟨o7,henv⟩) aA) ?_
 rintro r h' ⟨vs,S1,t1,c1,rfl,⟨om1,og1,ov1,H1⟩,hvl,a1,a2,a3⟩
 have xM:=H1.box
 unfold dQ at xM
 simp -dsimp -implicitDefEqProofs only[go_sem,↓reduceIte,Tryz.f125,xM]
 refine⟨λhc=>?_,λhc=>?_⟩
 ·refine⟨_,_,bQ _ _,0,S1,t1,c1,rfl,⟨_,_,_,H1⟩,by omega,a2,?_⟩
  rw[aF3 h3 hk]
  exact a3.eN aI4
 subst hc
 obtain⟨_,e2⟩:=a3.ok rfl
 obtain⟨q1,q2,q3,q4⟩:=rI hp o7 aA henv (cO hok aA) hf _ _ e2
 simp only at q1 q2 q3
 try simp -dsimp -implicitDefEqProofs only[go_sem,↓reduceIte,Tryz.f125,hk,xM,F.get,F.out,aU.aS,aB.ld5]
 have f1:=F.lo
 have f2:=F.hi
 have f3:=F.pk
 have f4:=F.pk2
 have f5:=F.kids
 have f6:=F.params
 refine⟨f1,f2,f3,by omega,?_⟩
 refine aJ.gS (hv h0 _ nb t1 0 (p.out e.aW e.bR) vs S1 e.aW ⟨_,_,_,H1⟩ aA aA a6M f1 aA (λ_=>⟨q1,q3.2⟩) aA) ?_
 rintro r h2 ⟨k2,S2,t2,c2,rfl,hR3,b1,b2,b3⟩
 simp -dsimp -implicitDefEqProofs only[go_sem,↓reduceIte,Tryz.f125]
 refine⟨_,_,bQ _ _,k2,S2,t2,c2,rfl,hR3,by omega,b2,?_⟩
 rw[aF3 h3 hk]
 exact a3.eN b3
theorem bUK {p:aC} (hp:p.ok) {inp:Int} {n:Nat} (hv:aBM p inp n) {h0 h:aE} {nb st:Nat} {e:aB} {env:List Int} {S:dS} {funcs:Int} (hR:lC h0 nb p inp S st 0 h) (hst:st<3000) (hn:3001<=n+1+st)
  (hok:e.ok p funcs env.length) (iC:0<=funcs) (hf:funcs<=p.aD.length) (hg:Good inp S st) (henv:∀ x∈env,rQ S x) (hel:env.length<=412+st) (hk:e.aP=11) :
  jC Tryz.prog 125 [.op nb 8 0 0,.agg e.c,ints env] h (aMA h0 nb p inp st 0 (fH p (n+1) st e env S)):=by
 obtain⟨om,og,ov,H⟩:=hR
 rw[aB.aS]
 have hb:=H.box
 unfold dQ at hb
 have e3:((st:Int)=3000)=False:=eq_false aA
 have ew:IntKind.i64.wrap ((st:Int)+1)=((st+1:Nat):Int):=by rw[IntWalk.i64_in _ aA];rfl
 have hnode:=(aB.cN _ _ _ _).1 hok
 have h3:¬st=3000:=by omega
 have hcap:=hg.cap
 have hgcap:=hg.aCZ
 have o7:=hg.later (r7 st)
 have hR1:lC h0 nb p inp S (st+1) 0 (aR h nb (dQ p inp S om og ov (st+1) 0)):=⟨_,_,_,H.set (st+1) 0⟩
 obtain⟨f,F⟩:=nD hp hok hf (.inr hk)
 have hkl:e.aL.length<=1048576:=by have:=F.kids;have:=F.params;omega
 have f1:=F.lo
 have f2:=F.hi
 have f3:=F.pk
 have f4:=F.pk2
 have f5:=F.kids
 have f6:=F.params
 have f7:=F.loop hk
 have f8:=F.outs
 refine lU 190 rH aBK aBL Tryz.func125 ?_
 simp -dsimp -implicitDefEqProofs only[go_sem,↓reduceIte,Tryz.f125,hb,e3,ew,hk]
 refine aJ.gS (xN hp hv h0 _ nb (st+1) 0 e.aL env S funcs hR1 aA aA hkl (cO hok aA) iC hf (λ_=>⟨o7,henv⟩) aA) ?_
 rintro r h' ⟨vs,S1,t1,c1,rfl,⟨om1,og1,ov1,H1⟩,hvl,a1,a2,a3⟩
 have xM:=H1.box
 unfold dQ at xM
 simp -dsimp -implicitDefEqProofs only[go_sem,↓reduceIte,Tryz.f125,xM]
 refine⟨λhc=>?_,λhc=>?_⟩
 ·refine⟨_,_,bQ _ _,0,S1,t1,c1,rfl,⟨_,_,_,H1⟩,by omega,a2,?_⟩
  rw[aF4 h3 hk]
  exact a3.eN aI4
 subst hc
 obtain⟨_,e2⟩:=a3.ok rfl
 obtain⟨q1,q2,q3,q4⟩:=rI hp o7 aA henv (cO hok aA) hf _ _ e2
 simp only at q1 q2 q3
 try simp -dsimp -implicitDefEqProofs only[go_sem,↓reduceIte,Tryz.f125,hk]
 have hiter:∀ (k:Nat) (us:List Int) (S2:dS) (t:Nat) (c:Int),kW (uZ (λvs t S=>tA (λt e S=>fH p n t e vs S) (p.outs e.aW) t S) k vs t1 S1) (us,S2) t c->k<=e.bI.toNat->(¬c=0∨k=e.bI.toNat)->kW (r6 0 (fH p (n+1) st e env S)) (us.getD e.bR.toNat 0,S2) t c:=λk us S2 t c ho hk1 hor=>by
  rw[aF4 h3 hk]
  refine a3.eN ?_
  rw[dF]
  refine kW.then (v:=(us,S2)) (t:=t) (c:=c) ?_ (jK _ _ _)
  rcases hor with hc|rfl
  ·have:=ho.err hc
   rw[bBS _ k hk1 this]
   exact mW _ _ hc
  ·exact ho
 have hfl:∀ us t S2,Good inp S2 t->(us.length=f.aN.length/\∀ x∈us,rQ S2 x)->t<=3000->wS (aDX inp S2 t f.aN.length) (tA (λt e S=>fH p n t e us S) (p.outs e.aW) t S2):=λus w S2 hg' hv' hw=>by
  rw[F.eq]
  exact rI hp hg' hw hv'.2 (funcs:=e.aW) (λx hx=>by rw[hv'.1,f7.2.2];exact F.oks x hx) aA
 refine cZ rH aBK aBL (λx:Nat×List Int×Nat×Int×dS×aE=>[(0,.op nb 8 0 0),(4,.ip 5 [[I 11,I e.aW,I e.bR,I e.bI,fN 5 aB.c e.aL]] 0 0),(9,ints x.2.1),(10,I x.1)]) (λx=>x.2.2.2.2.2) (λx=>x.1<=e.bI.toNat/\x.2.1.length=f.aN.length/\t1<=x.2.2.1/\x.2.2.1<=3000/\kW (uZ (λvs t S=>tA (λt e S=>fH p n t e vs S) (p.outs e.aW) t S) x.1 vs t1 S1) (x.2.1,x.2.2.2.2.1) x.2.2.1 x.2.2.2.1/\lC h0 nb p inp x.2.2.2.2.1 x.2.2.1 x.2.2.2.1 x.2.2.2.2.2) (λx=>e.bI.toNat-x.1) (0,vs,t1,0,S1,h') ⟨by simp[c4,b7],aE.le_refl _,fE _,by simp only;omega,iH _,a2,nN _ _,⟨_,_,_,H1⟩⟩ ?_
 rintro⟨k,us,t,c,S2,g⟩ ⟨hk1,hul,ht0,ht,ho,⟨om2,og2,ov2,H2⟩⟩
 simp only at hk1 hul ht0 ht ho H2 ⊢
 have hb2:=H2.box
 unfold dQ at hb2
 have gp:us[e.bR.toNat]?=some (us.getD e.bR.toNat 0):=cI aA
 simp -dsimp -implicitDefEqProofs only[go_sem,↓reduceIte,Tryz.f125,hb2,F.get,aU.aS,gp]
 refine⟨λhlt=>⟨λhc=>⟨f1,f2,?_⟩,λhc=>?_⟩,λhge=>?_⟩
 ·subst hc
  obtain⟨_,e3⟩:=kW.ok (c:=0) (by rw[dF];exact ho) rfl
  obtain⟨w1,w2,w3,w4⟩:=wA hfl k vs t1 S1 q1 ⟨by omega,q3.2⟩ a2 _ _ e3
  simp only at w1 w2 w3
  refine aJ.gS (xN hp hv h0 _ nb t 0 f.aN us S2 e.aW ⟨_,_,_,H2⟩ ht aA aA (by rw[hul,f7.2.2];exact F.oks) f1 aA (λ_=>⟨w1,w3.2⟩) aA) ?_
  rintro r h2 ⟨l2,S3,t2,c2,rfl,hR3,hl2,b1,b2,b3⟩
  simp -dsimp -implicitDefEqProofs only[go_sem,↓reduceIte,Tryz.f125]
  refine⟨(k+1,l2,t2,c2,S3,h2),⟨rfl,by rw[IntWalk.i64_in _ aA];rfl⟩,aE.le_refl _,⟨by omega,hl2,by simp only;omega,b2,?_,hR3⟩,by simp only;omega⟩
  simp only
  rw[aH7]
  refine ho.then ?_
  rw[F.eq]
  exact b3
 ·exact⟨f3,by omega,_,_,bQ _ _,_,S2,t,c,rfl,⟨_,_,_,H2⟩,by omega,ht,hiter k us S2 t c ho hk1 (.inl hc)⟩
 ·exact⟨f3,by omega,_,_,bQ _ _,_,S2,t,c,rfl,⟨_,_,_,H2⟩,by omega,ht,hiter k us S2 t c ho hk1 (.inr aA)⟩
theorem reg {p:aC} (hp:p.ok) {inp:Int}:∀ n,aBM p inp n
 |0=>λh0 h nb st c e env S funcs hb hst hn=>by omega
 |n+1=>λh0 h nb st c e env S funcs hb hst hn hok iC hf hgo hel=>by
  have hv:=reg hp (inp:=inp) n
  by_cases hs:¬c=0∨st=3000
  ·exact bGN hb hst hs
  have hc:c=0:=bDC λq=>hs (.inl q)
  have h3:st<3000:=by
   rcases bZ st 3000 with h|h
   ·exact h
   ·exact absurd (.inr aA) hs
  subst hc
  obtain⟨hg,henv⟩:=hgo rfl
  rcases rE ((aB.cN _ _ _ _).1 hok).1 with hk|hk|hk|hk|hk|hk|hk|hk|hk|hk|hk
  ·exact b1O hp hv hb h3 hn hok iC hf hg henv hel hk
  ·exact b1P hp hv hb h3 hn hok iC hf hg henv hel hk
  ·exact b1T hp hv hb h3 hn hok iC hf hg henv hel hk
  ·exact b1U hp hv hb h3 hn hok iC hf hg henv hel hk
  ·exact b1V hp hv hb h3 hn hok iC hf hg henv hel hk
  ·exact b1W hp hv hb h3 hn hok iC hf hg henv hel hk
  ·exact b1X hp hv hb h3 hn hok iC hf hg henv hel hk
  ·exact b1R hp hv hb h3 hn hok iC hf hg henv hel hk
  ·exact b1Q hp hv hb h3 hn hok iC hf hg henv hel hk
  ·exact bUJ hp hv hb h3 hn hok iC hf hg henv hel hk
  ·exact bUK hp hv hb h3 hn hok iC hf hg henv hel hk
end Go.Hl

/-
  Contracts of functions and laws of the layer over the walk.
-/
import Derived.Test.YtajjlpophonkoaaGreatDoorVvC
import Derived.Test.YtajjlpophonkoaaGreatDoorHlD
import Derived.Test.YtajjlpophonkoaaGreatDoorVvB
import Derived.Test.YtajjlpophonkoaaGreatDoorVvA
import Derived.Test.YtajjlpophonkoaaGreatDoorDGb
namespace Go.Hl
set_option maxRecDepth 100000
open Go.Proofs
set_option linter.unusedVariables false
set_option linter.unusedSimpArgs false
def cO (p:aF) (inp:Int) (S:cD) (om og ov:Option Nat) (st:Nat) (c:Int):bW :=
 .row 8 [[.v (eQ 3 aV.c p.aI),.v (I inp),.v (gK 4 S.code.length om),.v (gK 2 S.guards.length og),.v .aW,.v (gK 1 S.dZ.length ov),.v (I st),.v (I c)]]
def oZ (h:Heap) (sz:Nat) (rows:List (List Cell)):Option Nat->Prop
 |none=>rows=[]
 |some m=>rows≠[]/\h m=some (.row sz rows)
def rowsOf {α:Type} (c:α->List aC) (l:List α):List (List Cell):=(l.map c).map (List.map .v)
theorem iJ {α:Type} (c:α->List aC) (l:List α):(rowsOf c l).length=l.length:=by simp[rowsOf]
theorem wV {α:Type} (c:α->List aC) (l:List α) (x:α):rowsOf c (l++[x])=rowsOf c l++[(c x).map .v]:=by simp[rowsOf]
theorem eN {α:Type} {c:α->List aC} {l:List α}:rowsOf c l=[]↔l=[]:=by simp[rowsOf]
structure iW (bx:cD->Option Nat->Option Nat->Option Nat->bW) (h0:Heap) (nb:Nat) (S:cD) (om og ov:Option Nat) (h:Heap):Prop where
 box:h nb=some (bx S om og ov)
 odd:∀ S om og ov,∃ sz cs,bx S om og ov=.row sz cs/\¬sz=1/\¬sz=2/\¬sz=4
 code:oZ h 4 (rowsOf aP.c S.code) om
 yG:oZ h 2 (rowsOf bL.c S.guards) og
 dZ:oZ h 1 (rowsOf (λn=>[I n]) S.dZ) ov
 fresh:∀ n,n=nb∨some n=om∨some n=og∨some n=ov->h0 n=none
 upto:∀ n,¬n=nb->¬some n=om->¬some n=og->¬some n=ov->h n=h0 n
def lK (bx:cD->Option Nat->Option Nat->Option Nat->bW) (h0:Heap) (nb:Nat) (S:cD) (h:Heap):Prop:=∃ om og ov,iW bx h0 nb S om og ov h
abbrev a6V (h0:Heap) (nb:Nat) (p:aF) (inp:Int) (S:cD) (st:Nat) (c:Int) (om og ov:Option Nat) (h:Heap):Prop:=iW (λS om og ov=>cO p inp S om og ov st c) h0 nb S om og ov h
abbrev gY (h0:Heap) (nb:Nat) (p:aF) (inp:Int) (S:cD) (st:Nat) (c:Int) (h:Heap):Prop:=lK (λS om og ov=>cO p inp S om og ov st c) h0 nb S h
theorem aHE (p:aF) (inp:Int) (st:Nat) (c:Int):∀ S om og ov,∃ sz cs,cO p inp S om og ov st c=.row sz cs/\¬sz=1/\¬sz=2/\¬sz=4:=λS om og ov=>⟨8,_,rfl,by decide,by decide,by decide⟩
theorem iW.kinds {h0 h:Heap} {nb:Nat} {bx:cD->Option Nat->Option Nat->Option Nat->bW} {S:cD} {om og ov:Option Nat} (H:iW bx h0 nb S om og ov h) (n:Nat) :
  (n=nb->h n=some (bx S om og ov))/\(some n=om->h n=some (.row 4 (rowsOf aP.c S.code)))/\(some n=og->h n=some (.row 2 (rowsOf bL.c S.guards)))/\(some n=ov->h n=some (.row 1 (rowsOf (λn=>[I n]) S.dZ))) :=
 ⟨λe=>e▸H.box,λe=>by have:=H.code;rw[←e]at this;exact this.2,λe=>by have:=H.yG;rw[←e]at this;exact this.2,λe=>by have:=H.dZ;rw[←e]at this;exact this.2⟩
theorem iW.apart {h0 h:Heap} {nb:Nat} {bx:cD->Option Nat->Option Nat->Option Nat->bW} {S:cD} {om og ov:Option Nat} (H:iW bx h0 nb S om og ov h) (n:Nat) :
  (n=nb->¬some n=om/\¬some n=og/\¬some n=ov)/\(some n=om->¬some n=og/\¬some n=ov)/\(some n=og->¬some n=ov)/\(h n=none->¬n=nb/\¬some n=om/\¬some n=og/\¬some n=ov):=by
 obtain⟨k1,k2,k3,k4⟩:=H.kinds n
 obtain⟨sz,cs,hB,o1,o2,o4⟩:=H.odd S om og ov
 rw[hB]at k1
 refine⟨λe=>⟨λq=>?_,λq=>?_,λq=>?_⟩,λe=>⟨λq=>?_,λq=>?_⟩,λe q=>?_,λe=>⟨λq=>?_,λq=>?_,λq=>?_,λq=>?_⟩⟩
 ·have:=(k1 e).symm.trans (k2 q);simp at this;exact o4 this.1
 ·have:=(k1 e).symm.trans (k3 q);simp at this;exact o2 this.1
 ·have:=(k1 e).symm.trans (k4 q);simp at this;exact o1 this.1
 ·have:=(k2 e).symm.trans (k3 q);simp at this
 ·have:=(k2 e).symm.trans (k4 q);simp at this
 ·have:=(k3 e).symm.trans (k4 q);simp at this
 ·have:=(k1 q);rw[e]at this;cases this
 ·have:=(k2 q);rw[e]at this;cases this
 ·have:=(k3 q);rw[e]at this;cases this
 ·have:=(k4 q);rw[e]at this;cases this
theorem iW.put {h0 h F:Heap} {nb:Nat} {bx:cD->Option Nat->Option Nat->Option Nat->bW} {S:cD} {om og ov:Option Nat} (H:iW bx h0 nb S om og ov h) (x:aP) (v:Int) {b b2:Nat} (hb:h b=none) (lR:h b2=none) (hne:¬b2=b)
  (f1:F nb=some (bx (S.put x v) (some b) og (some b2))) (f2:F b=some (.row 4 (rowsOf aP.c (S.code++[x])))) (f3:F b2=some (.row 1 (rowsOf (λn=>[I n]) (S.dZ++[v]))))
  (f4:∀ n,¬n=nb->¬n=b->¬n=b2->¬some n=om->¬some n=ov->F n=h n):∃ g:Heap,g.le F/\lK bx h0 nb (S.put x v) g:=by
 have a1:=(H.apart nb).1 rfl
 have a2:=(H.apart b).2.2.2 hb
 have a3:=(H.apart b2).2.2.2 lR
 have g1:∀ n,some n=om∨some n=ov->h0 n=none:=λn hn=>H.fresh n (by rcases hn with hn|hn;exact .inr (.inl hn);exact .inr (.inr (.inr hn)))
 have g2:h0 b=none:=(H.upto b a2.1 a2.2.1 a2.2.2.1 a2.2.2.2).symm.trans hb
 have g3:h0 b2=none:=(H.upto b2 a3.1 a3.2.1 a3.2.2.1 a3.2.2.2).symm.trans lR
 have get:∀ n,¬some n=om->¬some n=ov->(λn=>if some n=om∨some n=ov then none else F n) n=F n:=λn h1 h2=>if_neg (by rintro(q|q);exact h1 q;exact h2 q)
 refine⟨λn=>if some n=om∨some n=ov then none else F n,λn=>?_,some b,og,some b2,⟨?_,H.odd,⟨by simp[rowsOf,cD.put],?_⟩,?_,⟨by simp[rowsOf,cD.put],?_⟩,λn hn=>?_,λn h1 h2 h3 h4=>?_⟩⟩
 ·by_cases e:some n=om∨some n=ov
  ·exact .inl (if_pos e)
  ·exact .inr (if_neg e)
 ·exact(get nb a1.1 a1.2.2).trans f1
 ·exact(get b a2.2.1 a2.2.2.2).trans f2
 ·have hg:=H.yG
  cases og with
  |none=>exact hg
  |some k =>
   have ak:=(H.apart k)
   have hk:=hg.2
   refine⟨hg.1,(get k (λq=>ak.2.1 q |>.1 rfl) (λq=>ak.2.2.1 rfl q)).trans ?_⟩
   rw[f4 k (λq=>(ak.1 q).2.1 rfl) (λq=>by rw[q,hb]at hk;cases hk) (λq=>by rw[q,lR]at hk;cases hk) (λq=>ak.2.1 q |>.1 rfl) (λq=>ak.2.2.1 rfl q)]
   exact hk
 ·exact(get b2 a3.2.1 a3.2.2.2).trans f3
 ·rcases hn with rfl|hn|hn|hn
  ·exact H.fresh _ (.inl rfl)
  ·obtain rfl:=eO hn;exact g2
  ·exact H.fresh n (.inr (.inr (.inl hn)))
  ·obtain rfl:=eO hn;exact g3
 ·have h2':¬n=b:=λq=>h2 rO
  have h4':¬n=b2:=λq=>h4 rO
  by_cases e:some n=om∨some n=ov
  ·exact(if_pos e).trans (g1 n e).symm
  ·have e1:¬some n=om:=λq=>e (.inl q)
   have e2:¬some n=ov:=λq=>e (.inr q)
   exact((get n e1 e2).trans (f4 n h1 h2' h4' e1 e2)).trans (H.upto n h1 e1 h3 e2)
@[go_sem] def aZJ:List Nat:=[0,1,2,4,6]
@[go_sem] def bFM:List Nat:=[4,15,22]
@[go_sem] def bFN:Marks:=λid=>match id with|1=>([6,9,13,16,20,23],(.op 0 (.op 1 (.op 2 (.op 3 (.op 4 (.op 5 (.op 7 (.op 8 (.op 10 (.op 11 (.op 12 (.op 14 (.op 15 (.op 6 (.op 13 (.op 9 (.op 16 (.op 17 (.op 18 (.op 19 (.op 20 (.op 21 (.op 22 (.op 23 .nil)))))))))))))))))))))))),[(13,9)])|_=>([],.nil,[])
theorem aHF {h0 h:Heap} {nb:Nat} {p:aF} {inp:Int} {S:cD} {st:Nat} {c:Int} (H:gY h0 nb p inp S st c h) (x:aP) (v:Int) (hl:S.code.length=S.dZ.length) (hcap:S.dZ.length<=1048576) :
  fH Tryz.prog 62 [.op nb 8 0 0,.agg x.c,I v] h λr h'=>r=I S.dZ.length/\gY h0 nb p inp (S.put x v) st c h':=by
 obtain⟨om,og,ov,H⟩:=H
 have hb:=H.box
 have hc:=H.code
 have hv:=H.dZ
 unfold cO at hb
 rw[aP.aU]
 cases om with
 |none =>
  have hc0:S.code=[]:=eN.1 hc
  cases ov with
  |some v =>
   have wR:S.dZ=[]:=a7K (by rw[←hl,hc0];rfl)
   exact absurd (by rw[wR];rfl) hv.1
  |none =>
   have wR:S.dZ=[]:=eN.1 hv
   refine gG 35 aZJ bFM bFN Tryz.func62 ?_
   simp -dsimp -implicitDefEqProofs only[go_sem,↓reduceIte,Tryz.f62,hb,gJ]
   refine⟨by decide,by decide,by decide,by decide,by decide,λm hm=>?_⟩
   obtain⟨jI,dG,dF,iA⟩:=c7 (show ¬m=nb from λe=>by rw[e,hb]at hm;cases hm)
   refine⟨by rw[aE _ _ _ _ iA,hb];rfl,by decide,λw ⟨hwm,hw⟩=>?_⟩
   obtain⟨aQR,tR,tS,aZK⟩:=c7 (show ¬w=nb from λe=>by rw[e,hb]at hw;cases hw)
   obtain⟨a6W,aOK,aOL,a6X⟩:=c7 (show ¬w=m from hwm)
   try simp -dsimp -implicitDefEqProofs only[go_sem,↓reduceIte,Tryz.f62,hb,dG,aOL,dF,tS,aOK,tR,aE]
   obtain⟨g,hg,hR⟩:=H.put x v hm hw a6W (F:=aR (aR (aR h m (.row 4 [x.c.map .v])) w (.row 1 [[.v (I v)]])) nb (cO p inp (S.put x v) (some m) og (some w) st c)) (aH _ _ _)
    (by rw[aE _ _ _ _ jI,aE _ _ _ _ a6X,aH,hc0];rfl) (by rw[aE _ _ _ _ aQR,aH,wR];rfl) (λn h1 h2 h3 _ _=>by rw[aE _ _ _ _ h1,aE _ _ _ _ h3,aE _ _ _ _ h2])
   refine⟨_,g,bJ ?_,by rw[wR];rfl,hR⟩
   rw[aJ]
   unfold cO at hg
   simp only[cD.put,hc0,wR,bD,aP.aU]at hg
   exact hg
 |some m =>
  cases ov with
  |none =>
   have wR:S.dZ=[]:=eN.1 hv
   have hc0:S.code=[]:=a7K (by rw[hl,wR];rfl)
   exact absurd (by rw[hc0];rfl) hc.1
  |some w =>
   have hm:=hc.2
   have hw:=hv.2
   obtain⟨jI,dG,dF,iA⟩:=c7 (show ¬m=nb from λe=>by rw[e,hb]at hm;cases hm)
   obtain⟨aQR,tR,tS,aZK⟩:=c7 (show ¬w=nb from λe=>by rw[e,hb]at hw;cases hw)
   obtain⟨a6W,aOK,aOL,a6X⟩:=c7 (show ¬w=m from λe=>by rw[e,hm]at hw;cases hw)
   refine gG 35 aZJ bFM bFN Tryz.func62 ?_
   simp -dsimp -implicitDefEqProofs only[go_sem,↓reduceIte,Tryz.f62,hb,bD,hm,hw,dG,aOL,dF,tS,aOK,tR,aE]
   refine⟨by decide,by decide,by decide,by decide,by decide,by rw[iJ];exact j4 _,by omega,by omega,λb iS=>?_⟩
   obtain⟨gU,cN,cM,iV⟩:=c7 (show ¬b=nb from λe=>by rw[e,hb]at iS;cases iS)
   obtain⟨xQ,l0,lY,xR⟩:=c7 (show ¬b=m from λe=>by rw[e,hm]at iS;cases iS)
   obtain⟨bFO,a6Y,a6Z,bN5⟩:=c7 (show ¬b=w from λe=>by rw[e,hw]at iS;cases iS)
   refine⟨by rw[aE _ _ _ _ iV,aE _ _ _ _ iA,hb];rfl,by decide,?_⟩
   try simp -dsimp -implicitDefEqProofs only[go_sem,↓reduceIte,Tryz.f62,hb,hw,dG,aOL,lY,dF,tS,cM,aOK,tR,a6Z,l0,cN,a6Y,aE]
   refine⟨by rw[iJ];exact j4 _,by omega,by omega,λb2 ⟨bLC,bLD,lR⟩=>?_⟩
   obtain⟨a3Z,a30,a32,bIS⟩:=c7 (show ¬b2=nb from λe=>by rw[e,hb]at lR;cases lR)
   obtain⟨bLE,a9L,a9M,bLF⟩:=c7 (show ¬b2=m from bLD)
   obtain⟨bLG,a9N,a9O,bLH⟩:=c7 (show ¬b2=w from λe=>by rw[e,hw]at lR;cases lR)
   obtain⟨a9P,a9Q,a9R,a9S⟩:=c7 (show ¬b2=b from bLC)
   simp -dsimp -implicitDefEqProofs only[go_sem,↓reduceIte,Tryz.f62,hb,hw,dG,aOL,lY,a9M,dF,tS,cM,a32,aOK,tR,a6Z,a9O,l0,cN,a6Y,a9R,a9L,a30,a9N,a9Q,aE]
   rw[kC y5,kC y5]
   obtain⟨g,hg,hR⟩:=H.put x v iS lR a9P (F:=aR (aR (aR (aR (aR h m .gone) b (.row 4 (rowsOf aP.c S.code++[x.c.map .v]))) w .gone) b2 (.row 1 (rowsOf (λn=>[I n]) S.dZ++[[.v (I v)]]))) nb (cO p inp (S.put x v) (some b) og (some b2) st c)) (aH _ _ _)
    (by rw[aE _ _ _ _ gU,aE _ _ _ _ a9S,aE _ _ _ _ bFO,aH,wV]) (by rw[aE _ _ _ _ a3Z,aH,wV];rfl)
    (λn h1 h2 h3 h4 h5=>by rw[aE _ _ _ _ h1,aE _ _ _ _ h3,aE _ _ _ _ (λq=>h5 rO),aE _ _ _ _ h2,aE _ _ _ _ (λq=>h4 rO)])
   refine λ_=>⟨_,g,bJ ?_,?_,hR⟩
   ·rw[aJ]
    unfold cO at hg
    simp only[cD.put,bD,aP.aU,k8,lV]at hg
    exact hg
   ·rw[IntWalk.i64_in _ aA]
    congr 1
    omega
theorem iW.set {h0 h:Heap} {nb:Nat} {p:aF} {inp:Int} {S:cD} {st:Nat} {c:Int} {om og ov:Option Nat} (H:a6V h0 nb p inp S st c om og ov h) (st':Nat) (c':Int):a6V h0 nb p inp S st' c' om og ov (aR h nb (cO p inp S om og ov st' c')):=by
 have a1:=(H.apart nb).1 rfl
 have hr:∀ (o:Option Nat) (sz:Nat) (rows:List (List Cell)),¬some nb=o->oZ h sz rows o->oZ (aR h nb (cO p inp S om og ov st' c')) sz rows o:=λo sz rows hn ho=>by
  cases o with
  |none=>exact ho
  |some m=>exact⟨ho.1,(aE _ _ _ _ λq=>hn rO).trans ho.2⟩
 exact⟨aH _ _ _,aHE _ _ _ _,hr _ _ _ a1.1 H.code,hr _ _ _ a1.2.1 H.yG,hr _ _ _ a1.2.2 H.dZ,H.fresh,λn h1 h2 h3 h4=>(aE _ _ _ _ h1).trans (H.upto n h1 h2 h3 h4)⟩
theorem lK.over {h0 h:Heap} {nb:Nat} {bx:cD->Option Nat->Option Nat->Option Nat->bW} {S:cD} (H:lK bx h0 nb S h) {m:Nat} {o:bW} (hm:h m=none):lK bx (aR h0 m o) nb S (aR h m o):=by
 obtain⟨om,og,ov,H⟩:=H
 have a:=(H.apart m).2.2.2 hm
 have hr:∀ (q:Option Nat) (sz:Nat) (rows:List (List Cell)),¬some m=q->oZ h sz rows q->oZ (aR h m o) sz rows q:=λq sz rows hn ho=>by
  cases q with
  |none=>exact ho
  |some k=>exact⟨ho.1,(aE _ _ _ _ λe=>hn (by rw[e])).trans ho.2⟩
 refine⟨om,og,ov,(aE _ _ _ _ λe=>a.1 e.symm).trans H.box,H.odd,hr _ _ _ a.2.1 H.code,hr _ _ _ a.2.2.1 H.yG,hr _ _ _ a.2.2.2 H.dZ,λn hn=>?_,λn h1 h2 h3 h4=>?_⟩
 ·have hnm:¬n=m:=λe=>by
   subst e
   rcases hn with hn|hn|hn|hn
   ·exact a.1 hn
   ·exact a.2.1 hn
   ·exact a.2.2.1 hn
   ·exact a.2.2.2 hn
  exact(aE _ _ _ _ hnm).trans (H.fresh n hn)
 ·by_cases e:n=m
  ·rw[e,aH,aH]
  ·rw[aE _ _ _ _ e,aE _ _ _ _ e];exact H.upto n h1 h2 h3 h4
theorem lK.base {h0 h:Heap} {nb:Nat} {bx:cD->Option Nat->Option Nat->Option Nat->bW} {S:cD} {m:Nat} {o:bW} (H:lK bx (aR h0 m o) nb S h) (hm:h0 m=none):∃ g,h=aR g m o/\g m=none/\lK bx h0 nb S g:=by
 obtain⟨om,og,ov,H⟩:=H
 have hne:∀ n,(n=nb∨some n=om∨some n=og∨some n=ov)->¬n=m:=λn hn e=>by
  have:=H.fresh n hn
  rw[e,aH]at this;cases this
 have hmo:h m=some o:=(H.upto m (λe=>hne m (.inl e) rfl) (λe=>hne m (.inr (.inl e)) rfl) (λe=>hne m (.inr (.inr (.inl e))) rfl) (λe=>hne m (.inr (.inr (.inr e))) rfl)).trans (aH _ _ _)
 have get:∀ n,¬n=m->(λn=>if n=m then none else h n) n=h n:=λn hn=>if_neg hn
 have hr:∀ (q:Option Nat) (sz:Nat) (rows:List (List Cell)),(∀ n,some n=q->¬n=m)->oZ h sz rows q->oZ (λn=>if n=m then none else h n) sz rows q:=λq sz rows hn ho=>by
  cases q with
  |none=>exact ho
  |some k=>exact⟨ho.1,(get k (hn k rfl)).trans ho.2⟩
 refine⟨λn=>if n=m then none else h n,?_,if_pos rfl,om,og,ov,(get nb (hne nb (.inl rfl))).trans H.box,H.odd,hr _ _ _ (λn e=>hne n (.inr (.inl e))) H.code,hr _ _ _ (λn e=>hne n (.inr (.inr (.inl e)))) H.yG,hr _ _ _ (λn e=>hne n (.inr (.inr (.inr e)))) H.dZ,λn hn=>?_,λn h1 h2 h3 h4=>?_⟩
 ·funext n
  by_cases e:n=m
  ·rw[e,aH,hmo]
  ·rw[aE _ _ _ _ e];exact(get n e).symm
 ·have:=H.fresh n hn
  rwa [aE _ _ _ _ (hne n hn)]at this
 ·by_cases e:n=m
  ·subst e;exact(if_pos rfl).trans hm.symm
  ·have:=H.upto n h1 h2 h3 h4
   rw[aE _ _ _ _ e]at this
   exact(get n e).trans this
theorem lK.none {h0 h:Heap} {nb:Nat} {bx:cD->Option Nat->Option Nat->Option Nat->bW} {S:cD} (H:lK bx h0 nb S h) {m:Nat} (hm:h m=none):h0 m=none:=by
 obtain⟨om,og,ov,H⟩:=H
 have a:=(H.apart m).2.2.2 hm
 exact(H.upto m a.1 a.2.1 a.2.2.1 a.2.2.2).symm.trans hm
theorem iW.guard {h0 h F:Heap} {nb:Nat} {bx:cD->Option Nat->Option Nat->Option Nat->bW} {S:cD} {om og ov:Option Nat} (H:iW bx h0 nb S om og ov h) (x:bL) {b:Nat} (hb:h b=none)
  (f1:F nb=some (bx (S.guard x) om (some b) ov)) (f2:F b=some (.row 2 (rowsOf bL.c (S.guards++[x]))))
  (f4:∀ n,¬n=nb->¬n=b->¬some n=og->F n=h n):∃ g:Heap,g.le F/\iW bx h0 nb (S.guard x) om (some b) ov g:=by
 have a1:=(H.apart nb).1 rfl
 have a2:=(H.apart b).2.2.2 hb
 have g2:h0 b=none:=(H.upto b a2.1 a2.2.1 a2.2.2.1 a2.2.2.2).symm.trans hb
 have get:∀ n,¬some n=og->(λn=>if some n=og then none else F n) n=F n:=λn h1=>if_neg h1
 have hr:∀ (q:Option Nat) (sz:Nat) (rows:List (List Cell)),(∀ n,some n=q->¬n=nb/\¬n=b/\¬some n=og)->oZ h sz rows q->oZ (λn=>if some n=og then none else F n) sz rows q:=λq sz rows hn ho=>by
  cases q with
  |none=>exact ho
  |some k =>
   obtain⟨e1,e2,e3⟩:=hn k rfl
   exact⟨ho.1,((get k e3).trans (f4 k e1 e2 e3)).trans ho.2⟩
 refine⟨λn=>if some n=og then none else F n,λn=>?_,⟨?_,H.odd,hr _ _ _ (λn e=>⟨λq=>((H.apart n).1 q).1 e,λq=>a2.2.1 (by rw[←q];exact e),((H.apart n).2.1 e).1⟩) H.code,⟨by simp[rowsOf,cD.guard],?_⟩,hr _ _ _ (λn e=>⟨λq=>((H.apart n).1 q).2.2 e,λq=>a2.2.2.2 (by rw[←q];exact e),λq=>(H.apart n).2.2.1 q e⟩) H.dZ,λn hn=>?_,λn h1 h2 h3 h4=>?_⟩⟩
 ·by_cases e:some n=og
  ·exact .inl (if_pos e)
  ·exact .inr (if_neg e)
 ·exact(get nb a1.2.1).trans f1
 ·exact(get b a2.2.2.1).trans f2
 ·rcases hn with rfl|hn|hn|hn
  ·exact H.fresh _ (.inl rfl)
  ·exact H.fresh n (.inr (.inl hn))
  ·obtain rfl:=eO hn;exact g2
  ·exact H.fresh n (.inr (.inr (.inr hn)))
 ·have h3':¬n=b:=λq=>h3 rO
  by_cases e:some n=og
  ·exact(if_pos e).trans (H.fresh n (.inr (.inr (.inl e)))).symm
  ·exact((get n e).trans (f4 n h1 h3' e)).trans (H.upto n h1 h2 e h4)
def cD.lL (S:cD) (c:aP):cD:=⟨S.code++[c],S.dZ,S.guards⟩
theorem iW.base {h0 h:Heap} {nb:Nat} {bx:cD->Option Nat->Option Nat->Option Nat->bW} {S:cD} {om og ov:Option Nat} {m:Nat} {o:bW} (H:iW bx (aR h0 m o) nb S om og ov h) (hm:h0 m=none):∃ g,h=aR g m o/\g m=none/\iW bx h0 nb S om og ov g:=by
 have hne:∀ n,(n=nb∨some n=om∨some n=og∨some n=ov)->¬n=m:=λn hn e=>by
  have:=H.fresh n hn
  rw[e,aH]at this;cases this
 have hmo:h m=some o:=(H.upto m (λe=>hne m (.inl e) rfl) (λe=>hne m (.inr (.inl e)) rfl) (λe=>hne m (.inr (.inr (.inl e))) rfl) (λe=>hne m (.inr (.inr (.inr e))) rfl)).trans (aH _ _ _)
 have get:∀ n,¬n=m->(λn=>if n=m then none else h n) n=h n:=λn hn=>if_neg hn
 have hr:∀ (q:Option Nat) (sz:Nat) (rows:List (List Cell)),(∀ n,some n=q->¬n=m)->oZ h sz rows q->oZ (λn=>if n=m then none else h n) sz rows q:=λq sz rows hn ho=>by
  cases q with
  |none=>exact ho
  |some k=>exact⟨ho.1,(get k (hn k rfl)).trans ho.2⟩
 refine⟨λn=>if n=m then none else h n,?_,if_pos rfl,(get nb (hne nb (.inl rfl))).trans H.box,H.odd,hr _ _ _ (λn e=>hne n (.inr (.inl e))) H.code,hr _ _ _ (λn e=>hne n (.inr (.inr (.inl e)))) H.yG,hr _ _ _ (λn e=>hne n (.inr (.inr (.inr e)))) H.dZ,λn hn=>?_,λn h1 h2 h3 h4=>?_⟩
 ·funext n
  by_cases e:n=m
  ·rw[e,aH,hmo]
  ·rw[aE _ _ _ _ e];exact(get n e).symm
 ·have:=H.fresh n hn
  rwa [aE _ _ _ _ (hne n hn)]at this
 ·by_cases e:n=m
  ·subst e;exact(if_pos rfl).trans hm.symm
  ·have:=H.upto n h1 h2 h3 h4
   rw[aE _ _ _ _ e]at this
   exact(get n e).trans this
theorem iW.move {h0 h F:Heap} {nb:Nat} {bx bx':cD->Option Nat->Option Nat->Option Nat->bW} {S S':cD} {om og ov om' og' ov':Option Nat} (H:iW bx h0 nb S om og ov h)
  (odd':∀ S om og ov,∃ sz cs,bx' S om og ov=.row sz cs/\¬sz=1/\¬sz=2/\¬sz=4)
  (f1:F nb=some (bx' S' om' og' ov')) (c1:oZ F 4 (rowsOf aP.c S'.code) om') (c2:oZ F 2 (rowsOf bL.c S'.guards) og') (c3:oZ F 1 (rowsOf (λn=>[I n]) S'.dZ) ov')
  (nw:∀ n,(some n=om'∨some n=og'∨some n=ov')->(some n=om∨some n=og∨some n=ov)∨h n=none)
  (f4:∀ n,¬n=nb->¬(some n=om∨some n=og∨some n=ov)->¬(some n=om'∨some n=og'∨some n=ov')->F n=h n):∃ g:Heap,g.le F/\iW bx' h0 nb S' om' og' ov' g:=by
 have a1:=(H.apart nb).1 rfl
 have gN:∀ n,(some n=om'∨some n=og'∨some n=ov')->(λn=>if (some n=om∨some n=og∨some n=ov)/\¬(some n=om'∨some n=og'∨some n=ov')then none else F n) n=F n:=λn hn=>if_neg λq=>q.2 hn
 have gO:∀ n,¬(some n=om∨some n=og∨some n=ov)->(λn=>if (some n=om∨some n=og∨some n=ov)/\¬(some n=om'∨some n=og'∨some n=ov')then none else F n) n=F n:=λn hn=>if_neg λq=>hn q.1
 have hr:∀ (q:Option Nat) (sz:Nat) (rows:List (List Cell)),(∀ n,some n=q->some n=om'∨some n=og'∨some n=ov')->oZ F sz rows q->oZ (λn=>if (some n=om∨some n=og∨some n=ov)/\¬(some n=om'∨some n=og'∨some n=ov')then none else F n) sz rows q:=λq sz rows hn ho=>by
  cases q with
  |none=>exact ho
  |some k=>exact⟨ho.1,(gN k (hn k rfl)).trans ho.2⟩
 have hO:∀ n,(some n=om∨some n=og∨some n=ov)->h0 n=none:=λn hn=>H.fresh n (.inr hn)
 refine⟨λn=>if (some n=om∨some n=og∨some n=ov)/\¬(some n=om'∨some n=og'∨some n=ov')then none else F n,λn=>?_,⟨?_,odd',hr _ _ _ (λn e=>.inl e) c1,hr _ _ _ (λn e=>.inr (.inl e)) c2,hr _ _ _ (λn e=>.inr (.inr e)) c3,λn hn=>?_,λn h1 h2 h3 h4=>?_⟩⟩
 ·by_cases e:(some n=om∨some n=og∨some n=ov)/\¬(some n=om'∨some n=og'∨some n=ov')
  ·exact .inl (if_pos e)
  ·exact .inr (if_neg e)
 ·exact(gO nb (by rintro(q|q|q);exact a1.1 q;exact a1.2.1 q;exact a1.2.2 q)).trans f1
 ·rcases hn with rfl|hn
  ·exact H.fresh _ (.inl rfl)
  ·rcases nw n hn with q|q
   ·exact hO n q
   ·exact lK.none ⟨om,og,ov,H⟩ q
 ·have hN:¬(some n=om'∨some n=og'∨some n=ov'):=by rintro(q|q|q);exact h2 q;exact h3 q;exact h4 q
  by_cases e:some n=om∨some n=og∨some n=ov
  ·exact(if_pos ⟨e,hN⟩).trans (hO n e).symm
  ·exact((gO n e).trans (f4 n h1 e hN)).trans (H.upto n h1 (λq=>e (.inl q)) (λq=>e (.inr (.inl q))) (λq=>e (.inr (.inr q))))
theorem iW.re {h0 h:Heap} {nb:Nat} {bx bx':cD->Option Nat->Option Nat->Option Nat->bW} {S:cD} {om og ov:Option Nat} (H:iW bx h0 nb S om og ov h) (odd':∀ S om og ov,∃ sz cs,bx' S om og ov=.row sz cs/\¬sz=1/\¬sz=2/\¬sz=4):iW bx' h0 nb S om og ov (aR h nb (bx' S om og ov)):=by
 have a1:=(H.apart nb).1 rfl
 have hr:∀ (o:Option Nat) (sz:Nat) (rows:List (List Cell)),¬some nb=o->oZ h sz rows o->oZ (aR h nb (bx' S om og ov)) sz rows o:=λo sz rows hn ho=>by
  cases o with
  |none=>exact ho
  |some m=>exact⟨ho.1,(aE _ _ _ _ λq=>hn rO).trans ho.2⟩
 exact⟨aH _ _ _,odd',hr _ _ _ a1.1 H.code,hr _ _ _ a1.2.1 H.yG,hr _ _ _ a1.2.2 H.dZ,H.fresh,λn h1 h2 h3 h4=>(aE _ _ _ _ h1).trans (H.upto n h1 h2 h3 h4)⟩
theorem lK.le {h0 h:Heap} {nb:Nat} {bx:cD->Option Nat->Option Nat->Option Nat->bW} {S:cD} (H:lK bx h0 nb S h):h0.le h:=λn=>by
 obtain⟨om,og,ov,H⟩:=H
 by_cases e:n=nb∨some n=om∨some n=og∨some n=ov
 ·exact .inl (H.fresh n e)
 ·exact .inr (H.upto n (λq=>e (.inl q)) (λq=>e (.inr (.inl q))) (λq=>e (.inr (.inr (.inl q)))) (λq=>e (.inr (.inr (.inr q))))).symm
theorem iW.a33 {h0 h F:Heap} {nb:Nat} {bx bx':cD->Option Nat->Option Nat->Option Nat->bW} {S:cD} {om og ov:Option Nat} (H:iW bx h0 nb S om og ov h) (x:bL) {b:Nat} (hb:h b=none)
  (odd':∀ S om og ov,∃ sz cs,bx' S om og ov=.row sz cs/\¬sz=1/\¬sz=2/\¬sz=4)
  (f1:F nb=some (bx' (S.guard x) om (some b) ov)) (f2:F b=some (.row 2 (rowsOf bL.c (S.guards++[x]))))
  (f4:∀ n,¬n=nb->¬n=b->¬some n=og->F n=h n):∃ g:Heap,g.le F/\iW bx' h0 nb (S.guard x) om (some b) ov g:=by
 have keep:∀ (q:Option Nat) (sz:Nat) (rows:List (List Cell)),(∀ k,some k=q->¬k=nb/\¬some k=og)->oZ h sz rows q->oZ F sz rows q:=λq sz rows hn ho=>by
  cases q with
  |none=>exact ho
  |some k=>exact⟨ho.1,(f4 k (hn k rfl).1 (λe=>by rw[←e,ho.2]at hb;cases hb) (hn k rfl).2).trans ho.2⟩
 refine H.move odd' f1 (keep om 4 _ (λk e=>⟨λq=>((H.apart k).1 q).1 e,((H.apart k).2.1 e).1⟩) H.code) ⟨by simp[rowsOf,cD.guard],f2⟩ (keep ov 1 _ (λk e=>⟨λq=>((H.apart k).1 q).2.2 e,λq=>(H.apart k).2.2.1 q e⟩) H.dZ) (λn hn=>?_) λn h1 hO hN=>f4 n h1 (λe=>hN (.inr (.inl (by rw[e])))) (λe=>hO (.inr (.inl e)))
 rcases hn with q|q|q
 ·exact .inl (.inl q)
 ·obtain rfl:=eO q;exact .inr hb
 ·exact .inl (.inr (.inr q))
theorem iW.lL {h0 h F:Heap} {nb:Nat} {bx bx':cD->Option Nat->Option Nat->Option Nat->bW} {S:cD} {om og ov:Option Nat} (H:iW bx h0 nb S om og ov h) (x:aP) {b:Nat} (hb:h b=none)
  (odd':∀ S om og ov,∃ sz cs,bx' S om og ov=.row sz cs/\¬sz=1/\¬sz=2/\¬sz=4)
  (f1:F nb=some (bx' (S.lL x) (some b) og ov)) (f2:F b=some (.row 4 (rowsOf aP.c (S.code++[x]))))
  (f4:∀ n,¬n=nb->¬n=b->¬some n=om->F n=h n):∃ g:Heap,g.le F/\iW bx' h0 nb (S.lL x) (some b) og ov g:=by
 have keep:∀ (q:Option Nat) (sz:Nat) (rows:List (List Cell)),(∀ k,some k=q->¬k=nb/\¬some k=om)->oZ h sz rows q->oZ F sz rows q:=λq sz rows hn ho=>by
  cases q with
  |none=>exact ho
  |some k=>exact⟨ho.1,(f4 k (hn k rfl).1 (λe=>by rw[←e,ho.2]at hb;cases hb) (hn k rfl).2).trans ho.2⟩
 refine H.move odd' f1 ⟨by simp[rowsOf,cD.lL],f2⟩ (keep og 2 _ (λk e=>⟨λq=>((H.apart k).1 q).2.1 e,λq=>((H.apart k).2.1 q).1 e⟩) H.yG) (keep ov 1 _ (λk e=>⟨λq=>((H.apart k).1 q).2.2 e,λq=>((H.apart k).2.1 q).2 e⟩) H.dZ) (λn hn=>?_) λn h1 hO hN=>f4 n h1 (λe=>hN (.inl (by rw[e]))) (λe=>hO (.inl e))
 rcases hn with q|q|q
 ·obtain rfl:=eO q;exact .inr hb
 ·exact .inl (.inr (.inl q))
 ·exact .inl (.inr (.inr q))
theorem iW.bLI {h0 h F:Heap} {nb:Nat} {bx bx':cD->Option Nat->Option Nat->Option Nat->bW} {S:cD} {om og ov:Option Nat} (H:iW bx h0 nb S om og ov h) (l:List Int) {b:Nat} (hb:h b=none) (hl:¬l=[])
  (odd':∀ S om og ov,∃ sz cs,bx' S om og ov=.row sz cs/\¬sz=1/\¬sz=2/\¬sz=4)
  (f1:F nb=some (bx' ⟨S.code,l,S.guards⟩ om og (some b))) (f2:F b=some (.row 1 (rowsOf (λn=>[I n]) l)))
  (f4:∀ n,¬n=nb->¬n=b->¬some n=ov->F n=h n):∃ g:Heap,g.le F/\iW bx' h0 nb ⟨S.code,l,S.guards⟩ om og (some b) g:=by
 have keep:∀ (q:Option Nat) (sz:Nat) (rows:List (List Cell)),(∀ k,some k=q->¬k=nb/\¬some k=ov)->oZ h sz rows q->oZ F sz rows q:=λq sz rows hn ho=>by
  cases q with
  |none=>exact ho
  |some k=>exact⟨ho.1,(f4 k (hn k rfl).1 (λe=>by rw[←e,ho.2]at hb;cases hb) (hn k rfl).2).trans ho.2⟩
 refine H.move odd' f1 (keep om 4 _ (λk e=>⟨λq=>((H.apart k).1 q).1 e,((H.apart k).2.1 e).2⟩) H.code) (keep og 2 _ (λk e=>⟨λq=>((H.apart k).1 q).2.1 e,(H.apart k).2.2.1 e⟩) H.yG) ⟨λq=>hl (eN.1 q),f2⟩ (λn hn=>?_) λn h1 hO hN=>f4 n h1 (λe=>hN (.inr (.inr (by rw[e])))) (λe=>hO (.inr (.inr e)))
 rcases hn with q|q|q
 ·exact .inl (.inl q)
 ·exact .inl (.inr (.inl q))
 ·obtain rfl:=eO q;exact .inr hb
def eI (inp:Int) (b e:Bool) (S:cD) (om og ov:Option Nat):bW :=
 .row 6 [[.v (I inp),.v (gK 4 S.code.length om),.v (gK 2 S.guards.length og),.v (gK 1 S.dZ.length ov),.v (.bool b),.v (.bool e)]]
theorem fN (inp:Int) (b e:Bool):∀ S om og ov,∃ sz cs,eI inp b e S om og ov=.row sz cs/\¬sz=1/\¬sz=2/\¬sz=4:=λS om og ov=>⟨6,_,rfl,by decide,by decide,by decide⟩
def pQ.r (S:pQ):cD:=⟨S.code,S.outs,S.guards⟩
abbrev o8 (h0:Heap) (nb:Nat) (S:pQ) (h:Heap):Prop:=lK (eI S.inp (decide (1<=S.cX)) (decide (S.cX=3))) h0 nb S.r h
@[go_sem] def a9T:List Nat:=[0]
theorem fU:eX Tryz.prog 74 [] (.sl 1 (qY.map λs=>[.str s]) true):=by
 refine eJ 2 a9T aGH cC Tryz.func74 λh=>?_
 simp -dsimp -implicitDefEqProofs only[go_sem,↓reduceIte,Tryz.f74]
 exact⟨by decide,by decide,rfl⟩
@[go_sem] def aAC:List Nat:=[0,1,4,5,6,7,8,9,10,11,12,49,54,70,81,108,122,134,141]
@[go_sem] def aQS:List Nat:=[100,154]
@[go_sem] def aQT:Marks:=λid=>match id with|13=>([5,13,17],(.op 0 (.op 1 (.op 2 (.op 3 (.op 4 (.op 6 (.op 7 (.op 8 (.op 9 (.op 10 (.op 11 (.op 12 (.op 5 (.op 13 (.op 14 (.op 15 (.op 16 (.op 17 .nil)))))))))))))))))),[])|20=>([10,12],(.op 0 (.op 1 (.op 2 (.op 3 (.op 4 (.op 5 (.op 6 (.op 7 (.op 8 (.op 9 (.op 10 (.op 11 (.op 12 .nil))))))))))))),[])|26=>([5,6,8,12],(.op 0 (.op 1 (.op 2 (.op 3 (.op 4 (.op 5 (.op 6 (.op 7 (.op 8 (.op 9 (.op 10 (.op 11 (.op 12 .nil))))))))))))),[])|_=>([],.nil,[])
theorem aJP {h0 h:Heap} {nb:Nat} {S:pQ} (H:o8 h0 nb S h) (s:List UInt8) (hs:s.length<=50000) (w r:List UInt8) (has:Bool) (hc:Go.Lib.cut s [32]=(w,r,has)) (hbad:has=false∨kN 100000 999999999 r=none∨kN 100000 999999999 r=some []) :
  fH Tryz.prog 79 [.op nb 6 0 0,.str s] h λr h'=>r=.bool false/\h0.le h':=by
 have hcut:=aQF s [32] aA
 have hcl:=s4 s [32]
 rw[hc]at hcut hcl
 simp only at hcut hcl
 have hle:h0.le h:=H.le
 obtain⟨om,og,ov,H⟩:=H
 have hb:=H.box
 unfold eI at hb
 have hrl:=uN r 100000 999999999 aA aA aA
 refine gG 163 aAC aQS aQT Tryz.func79 ?_
 simp -dsimp -implicitDefEqProofs only[go_sem,↓reduceIte,Tryz.f79,hb]
 first|refine aG.mk (hcut) ?_|refine aD.mk (hcut) ?_|refine aG.bC (hcut) ?_|refine aD.mk (aZ.dB (hcut)) ?_
 simp -dsimp -implicitDefEqProofs only[go_sem,↓reduceIte,Tryz.f79]
 first|refine aG.mk (hrl) ?_|refine aD.mk (hrl) ?_|refine aG.bC (hrl) ?_|refine aD.mk (aZ.dB (hrl)) ?_
 simp -dsimp -implicitDefEqProofs only[go_sem,↓reduceIte,Tryz.f79]
 simp -dsimp -implicitDefEqProofs only[go_sem,↓reduceIte,Tryz.f79,hb]
 refine⟨λh1=>⟨λh2 _=>⟨λh3=>?_,λ_=>⟨_,h,bJ (Heap.le_refl _),rfl,hle⟩⟩,λ_=>⟨_,h,bJ (Heap.le_refl _),rfl,hle⟩⟩,λ_=>⟨_,h,bJ (Heap.le_refl _),rfl,hle⟩⟩
 rcases hbad with q|q|q
 ·rw[h1]at q;cases q
 ·rw[q]at h2;cases h2
 ·rw[q]at h3;exact absurd rfl h3
theorem aVX {h0 h:Heap} {nb:Nat} {S:pQ} (H:o8 h0 nb S h) (s:List UInt8) (hs:s.length<=50000) (w r:List UInt8) (hc:Go.Lib.cut s [32]=(w,r,true)) (n:List Int) (hn:¬n=[]) (hr:kN 100000 999999999 r=some n) (hbad:S.cX=3∨(1<=S.cX↔w=oU)) :
  fH Tryz.prog 79 [.op nb 6 0 0,.str s] h λr h'=>r=.bool false/\h0.le h':=by
 have hcut:=aQF s [32] aA
 have hcl:=s4 s [32]
 rw[hc]at hcut hcl
 simp only at hcut hcl
 have hle:h0.le h:=H.le
 obtain⟨om,og,ov,H⟩:=H
 have hb:=H.box
 unfold eI at hb
 have hrl:=uN r 100000 999999999 aA aA aA
 rw[hr]at hrl
 simp only[aD5,aFB]at hrl
 refine gG 163 aAC aQS aQT Tryz.func79 ?_
 simp -dsimp -implicitDefEqProofs only[go_sem,↓reduceIte,Tryz.f79,hb]
 first|refine aG.mk (hcut) ?_|refine aD.mk (hcut) ?_|refine aG.bC (hcut) ?_|refine aD.mk (aZ.dB (hcut)) ?_
 simp -dsimp -implicitDefEqProofs only[go_sem,↓reduceIte,Tryz.f79]
 first|refine aG.mk (hrl) ?_|refine aD.mk (hrl) ?_|refine aG.bC (hrl) ?_|refine aD.mk (aZ.dB (hrl)) ?_
 simp -dsimp -implicitDefEqProofs only[go_sem,↓reduceIte,Tryz.f79]
 simp -dsimp -implicitDefEqProofs only[go_sem,↓reduceIte,Tryz.f79,hb]
 refine λ_=>⟨λ_=>⟨λh3=>⟨λ_=>⟨_,h,bJ (Heap.le_refl _),rfl,hle⟩,λh4=>?_⟩,λ_=>⟨_,h,bJ (Heap.le_refl _),rfl,hle⟩⟩,λ_=>⟨_,h,bJ (Heap.le_refl _),rfl,hle⟩⟩
 exfalso
 rcases hbad with q|q
 ·exact h3 q
 ·have e:decide (1<=S.cX)=decide (w=[116,97,112,101]):=decide_eq_decide.2 q
  rw[e]at h4
  simp at h4
theorem aQU {h0 h:Heap} {nb:Nat} {S:pQ} (H:o8 h0 nb S h) (s:List UInt8) (hs:s.length<=50000) (r:List UInt8) (hc:Go.Lib.cut s [32]=(oU,r,true)) (n:List Int) (hn:¬n=[]) (hr:kN 100000 999999999 r=some n) (h0s:S.cX=0) :
  fH Tryz.prog 79 [.op nb 6 0 0,.str s] h λr h'=>r=.bool (decide (n.length=1))/\o8 h0 nb { S with inp:=n.getD 0 0,cX:=1 } h':=by
 have hcut:=aQF s [32] aA
 have hcl:=s4 s [32]
 rw[hc]at hcut hcl
 simp only at hcut hcl
 have hle:h0.le h:=H.le
 obtain⟨om,og,ov,H⟩:=H
 have hb:=H.box
 unfold eI at hb
 have hrl:=uN r 100000 999999999 aA aA aA
 rw[hr]at hrl
 simp only[aD5,aFB]at hrl
 have hop:=aGS qY true oU bU
 rw[show Go.Lib.idxOfS (qY.map λs=>(⟨s.toArray⟩:ByteArray)) ⟨oU.toArray⟩=-1 by decide]at hop
 have hl:0<n.length:=aJ5.2 hn
 have ea:n[Int.toNat 0]?=some (n.getD 0 0):=by
  show n[0]?=_
  rw[gA,cP hl];rfl
 have ht:(oU=[116,97,112,101])=True:=eq_true rfl
 refine gG 163 aAC aQS aQT Tryz.func79 ?_
 simp -dsimp -implicitDefEqProofs only[go_sem,↓reduceIte,Tryz.f79,hb]
 first|refine aG.mk (hcut) ?_|refine aD.mk (hcut) ?_|refine aG.bC (hcut) ?_|refine aD.mk (aZ.dB (hcut)) ?_
 simp -dsimp -implicitDefEqProofs only[go_sem,↓reduceIte,Tryz.f79]
 first|refine aG.mk (hrl) ?_|refine aD.mk (hrl) ?_|refine aG.bC (hrl) ?_|refine aD.mk (aZ.dB (hrl)) ?_
 simp -dsimp -implicitDefEqProofs only[go_sem,↓reduceIte,Tryz.f79]
 simp -dsimp -implicitDefEqProofs only[go_sem,↓reduceIte,Tryz.f79,hb,h0s,ht,decide_true]
 refine λ_=>⟨λh3=>?_,λh3=>absurd h3 aA⟩
 refine⟨λq=>absurd q bU,λ_=>?_⟩
 first|refine aG.mk (fU) ?_|refine aD.mk (fU) ?_|refine aG.bC (fU) ?_|refine aD.mk (aZ.dB (fU)) ?_
 simp -dsimp -implicitDefEqProofs only[go_sem,↓reduceIte,Tryz.f79]
 refine aG.mk hop ?_
 simp -dsimp -implicitDefEqProofs only[go_sem,↓reduceIte,Tryz.f79,hb,h0s,ht,ea]
 refine⟨by omega,λ_=>?_⟩
 rw[aJ]
 exact⟨_,_,bJ (Heap.le_refl _),congrArg aC.bool (decide_eq_decide.2 aA),om,og,ov,H.re (bx':=eI (n.getD 0 0) true false) (fN _ _ _)⟩
theorem aOM {h0 h:Heap} {nb:Nat} {S:pQ} (H:o8 h0 nb S h) (s:List UInt8) (hs:s.length<=50000) (w r:List UInt8) (hw:w=s5∨w=sD) (hc:Go.Lib.cut s [32]=(w,r,true)) (n:List Int) (hn:¬n=[]) (hr:kN 100000 999999999 r=some n) (h1s:S.cX=1∨S.cX=2) (hcap:S.guards.length<=1048576) :
  fH Tryz.prog 79 [.op nb 6 0 0,.str s] h λr h'=>r=.bool (decide (n.length=1))/\o8 h0 nb { S with guards:=S.guards++[⟨n.getD 0 0,decide (w=s5)⟩],cX:=2 } h':=by
 have hcut:=aQF s [32] aA
 have hcl:=s4 s [32]
 rw[hc]at hcut hcl
 simp only at hcut hcl
 have hle:h0.le h:=H.le
 obtain⟨om,og,ov,H⟩:=H
 have hb:=H.box
 unfold eI at hb
 have hrl:=uN r 100000 999999999 aA aA aA
 rw[hr]at hrl
 simp only[aD5,aFB]at hrl
 have hop:=aGS qY true w bU
 rw[show Go.Lib.idxOfS (qY.map λs=>(⟨s.toArray⟩:ByteArray)) ⟨w.toArray⟩=-1 by rcases hw with rfl|rfl <;> decide]at hop
 have hl:0<n.length:=aJ5.2 hn
 have ea:n[Int.toNat 0]?=some (n.getD 0 0):=by
  show n[0]?=_
  rw[gA,cP hl];rfl
 have w1:¬w=[116,97,112,101]:=by rcases hw with rfl|rfl <;> decide
 have w2:¬w=[111,117,116]:=by rcases hw with rfl|rfl <;> decide
 have s1:decide (1<=S.cX)=true:=decide_eq_true aA
 have s3:decide (S.cX=3)=false:=decide_eq_false aA
 rw[s1,s3]at hb H
 have hgd:=H.yG
 have hcap':S.r.guards.length<=1048576:=hcap
 refine gG 163 aAC aQS aQT Tryz.func79 ?_
 simp -dsimp -implicitDefEqProofs only[go_sem,↓reduceIte,Tryz.f79,hb]
 first|refine aG.mk (hcut) ?_|refine aD.mk (hcut) ?_|refine aG.bC (hcut) ?_|refine aD.mk (aZ.dB (hcut)) ?_
 simp -dsimp -implicitDefEqProofs only[go_sem,↓reduceIte,Tryz.f79]
 first|refine aG.mk (hrl) ?_|refine aD.mk (hrl) ?_|refine aG.bC (hrl) ?_|refine aD.mk (aZ.dB (hrl)) ?_
 simp -dsimp -implicitDefEqProofs only[go_sem,↓reduceIte,Tryz.f79]
 simp -dsimp -implicitDefEqProofs only[go_sem,↓reduceIte,Tryz.f79,hb,w1,w2,decide_false]
 refine λ_=>⟨λh3=>⟨λq=>absurd q bU,λ_=>?_⟩,λh3=>absurd h3 aA⟩
 first|refine aG.mk (fU) ?_|refine aD.mk (fU) ?_|refine aG.bC (fU) ?_|refine aD.mk (aZ.dB (fU)) ?_
 simp -dsimp -implicitDefEqProofs only[go_sem,↓reduceIte,Tryz.f79]
 refine aG.mk hop ?_
 by_cases hz:w=s5
 ·have z1:(w=[122,101,114,111])=True:=eq_true hz
  rw[decide_eq_true hz]
  cases og with
  |none =>
   have hg0:S.guards=[]:=eN.1 hgd
   simp -dsimp -implicitDefEqProofs only[go_sem,↓reduceIte,Tryz.f79,hb,w1,w2,z1,ea,gJ,decide_true,decide_false]
   refine⟨by omega,by decide,by decide,by decide,λm hm=>?_⟩
   obtain⟨jI,dG,dF,iA⟩:=c7 (show ¬m=nb from λe=>by rw[e,hb]at hm;cases hm)
   simp -dsimp -implicitDefEqProofs only[go_sem,↓reduceIte,Tryz.f79,hb,dG,dF,aE]
   obtain⟨g,hg,hR⟩:=H.a33 ⟨n.getD 0 0,true⟩ hm (fN S.inp true false) (F:=aR (aR h m (.row 2 [[.v (I (n.getD 0 0)),.v (.bool true)]])) nb (eI S.inp true false (S.r.guard ⟨n.getD 0 0,true⟩) om (some m) ov)) (aH _ _ _)
    a5P (λk h1 h2 _=>by rw[aE _ _ _ _ h1,aE _ _ _ _ h2])
   refine λ_=>⟨_,g,bJ ?_,congrArg aC.bool (decide_eq_decide.2 aA),om,some m,ov,hR⟩
   have qN:(S.r.guard ⟨n.getD 0 0,true⟩).guards.length=1:=by show(S.guards++[_]).length=1;rw[hg0];rfl
   unfold eI at hg
   simp only[qN,bD]at hg
   exact hg
  |some m =>
   have hm:=hgd.2
   obtain⟨jI,dG,dF,iA⟩:=c7 (show ¬m=nb from λe=>by rw[e,hb]at hm;cases hm)
   simp -dsimp -implicitDefEqProofs only[go_sem,↓reduceIte,Tryz.f79,hb,hm,w1,w2,z1,ea,bD,decide_true,decide_false,dG,dF,aE]
   refine⟨by omega,by decide,by decide,by decide,by rw[iJ];exact j4 _,by omega,by omega,λb iS=>?_⟩
   obtain⟨gU,cN,cM,iV⟩:=c7 (show ¬b=nb from λe=>by rw[e,hb]at iS;cases iS)
   obtain⟨xQ,l0,lY,xR⟩:=c7 (show ¬b=m from λe=>by rw[e,hm]at iS;cases iS)
   simp -dsimp -implicitDefEqProofs only[go_sem,↓reduceIte,Tryz.f79,hb,hm,dG,lY,dF,cM,l0,cN,aE]
   rw[kC y5]
   obtain⟨g,hg,hR⟩:=H.a33 ⟨n.getD 0 0,true⟩ iS (fN S.inp true false) (F:=aR (aR (aR h m .gone) b (.row 2 (rowsOf bL.c S.r.guards++[[.v (I (n.getD 0 0)),.v (.bool true)]]))) nb (eI S.inp true false (S.r.guard ⟨n.getD 0 0,true⟩) om (some b) ov)) (aH _ _ _)
    aDC (λk h1 h2 h3=>by rw[aE _ _ _ _ h1,aE _ _ _ _ h2,aE _ _ _ _ (λq=>h3 rO)])
   refine λ_=>⟨_,g,bJ ?_,congrArg aC.bool (decide_eq_decide.2 aA),om,some b,ov,hR⟩
   have qN:(S.r.guard ⟨n.getD 0 0,true⟩).guards.length=S.r.guards.length+1:=by show(S.guards++[_]).length=_;rw[k8];rfl
   unfold eI at hg
   simp only[qN,bD]at hg
   exact hg
 ·have z1:(w=[122,101,114,111])=False:=eq_false hz
  have z2:(w=[111,116,104,101,114])=True:=eq_true (hw.resolve_left hz)
  rw[decide_eq_false hz]
  cases og with
  |none =>
   have hg0:S.guards=[]:=eN.1 hgd
   simp -dsimp -implicitDefEqProofs only[go_sem,↓reduceIte,Tryz.f79,hb,w1,w2,z1,z2,ea,gJ,decide_true,decide_false]
   refine⟨by omega,by decide,by decide,by decide,λm hm=>?_⟩
   obtain⟨jI,dG,dF,iA⟩:=c7 (show ¬m=nb from λe=>by rw[e,hb]at hm;cases hm)
   simp -dsimp -implicitDefEqProofs only[go_sem,↓reduceIte,Tryz.f79,hb,dG,dF,aE]
   obtain⟨g,hg,hR⟩:=H.a33 ⟨n.getD 0 0,false⟩ hm (fN S.inp true false) (F:=aR (aR h m (.row 2 [[.v (I (n.getD 0 0)),.v (.bool false)]])) nb (eI S.inp true false (S.r.guard ⟨n.getD 0 0,false⟩) om (some m) ov)) (aH _ _ _)
    a5P (λk h1 h2 _=>by rw[aE _ _ _ _ h1,aE _ _ _ _ h2])
   refine λ_=>⟨_,g,bJ ?_,congrArg aC.bool (decide_eq_decide.2 aA),om,some m,ov,hR⟩
   have qN:(S.r.guard ⟨n.getD 0 0,false⟩).guards.length=1:=by show(S.guards++[_]).length=1;rw[hg0];rfl
   unfold eI at hg
   simp only[qN,bD]at hg
   exact hg
  |some m =>
   have hm:=hgd.2
   obtain⟨jI,dG,dF,iA⟩:=c7 (show ¬m=nb from λe=>by rw[e,hb]at hm;cases hm)
   simp -dsimp -implicitDefEqProofs only[go_sem,↓reduceIte,Tryz.f79,hb,hm,w1,w2,z1,z2,ea,bD,decide_true,decide_false,dG,dF,aE]
   refine⟨by omega,by decide,by decide,by decide,by rw[iJ];exact j4 _,by omega,by omega,λb iS=>?_⟩
   obtain⟨gU,cN,cM,iV⟩:=c7 (show ¬b=nb from λe=>by rw[e,hb]at iS;cases iS)
   obtain⟨xQ,l0,lY,xR⟩:=c7 (show ¬b=m from λe=>by rw[e,hm]at iS;cases iS)
   simp -dsimp -implicitDefEqProofs only[go_sem,↓reduceIte,Tryz.f79,hb,hm,dG,lY,dF,cM,l0,cN,aE]
   rw[kC y5]
   obtain⟨g,hg,hR⟩:=H.a33 ⟨n.getD 0 0,false⟩ iS (fN S.inp true false) (F:=aR (aR (aR h m .gone) b (.row 2 (rowsOf bL.c S.r.guards++[[.v (I (n.getD 0 0)),.v (.bool false)]]))) nb (eI S.inp true false (S.r.guard ⟨n.getD 0 0,false⟩) om (some b) ov)) (aH _ _ _)
    aDC (λk h1 h2 h3=>by rw[aE _ _ _ _ h1,aE _ _ _ _ h2,aE _ _ _ _ (λq=>h3 rO)])
   refine λ_=>⟨_,g,bJ ?_,congrArg aC.bool (decide_eq_decide.2 aA),om,some b,ov,hR⟩
   have qN:(S.r.guard ⟨n.getD 0 0,false⟩).guards.length=S.r.guards.length+1:=by show(S.guards++[_]).length=_;rw[k8];rfl
   unfold eI at hg
   simp only[qN,bD]at hg
   exact hg
theorem aZL {h0 h:Heap} {nb:Nat} {S:pQ} (H:o8 h0 nb S h) (s:List UInt8) (hs:s.length<=50000) (w r:List UInt8) (hw:1<=oD w/\oD w<=7) (hc:Go.Lib.cut s [32]=(w,r,true)) (n:List Int) (hn:¬n=[]) (hr:kN 100000 999999999 r=some n) (h1s:S.cX=1) (hg0:S.guards=[]) (hcap:S.code.length<=1048576) :
  fH Tryz.prog 79 [.op nb 6 0 0,.str s] h λr h'=>∃ x,(∀ y,jM (oD w) n=some y->x=y)/\r=.bool (jM (oD w) n).isSome/\o8 h0 nb { S with code:=S.code++[x] } h':=by
 have hcut:=aQF s [32] aA
 have hcl:=s4 s [32]
 rw[hc]at hcut hcl
 simp only at hcut hcl
 have hle:h0.le h:=H.le
 obtain⟨om,og,ov,H⟩:=H
 have hb:=H.box
 unfold eI at hb
 have hrl:=uN r 100000 999999999 aA aA aA
 rw[hr]at hrl
 simp only[aD5,aFB]at hrl
 have hop:=aGS qY true w bU
 rw[show Go.Lib.idxOfS (qY.map λs=>(⟨s.toArray⟩:ByteArray)) ⟨w.toArray⟩=oD w-1 by rw[oD];omega]at hop
 have hl:0<n.length:=aJ5.2 hn
 have ea:n[Int.toNat 0]?=some (n.getD 0 0):=by
  show n[0]?=_
  rw[gA,cP hl];rfl
 have hne:∀ v,oD v=0->¬w=v:=λv hv e=>by rw[e,hv]at hw;omega
 have w1:¬w=[116,97,112,101]:=hne _ bU
 have w2:¬w=[111,117,116]:=hne _ bU
 have w3:¬w=[122,101,114,111]:=hne _ bU
 have w4:¬w=[111,116,104,101,114]:=hne _ bU
 have s1:decide (1<=S.cX)=true:=decide_eq_true aA
 have s3:decide (S.cX=3)=false:=decide_eq_false aA
 rw[s1,s3]at hb H
 have hgd:=H.yG
 have hcd:=H.code
 have hcap':S.r.code.length<=1048576:=hcap
 obtain rfl:og=none:=by
  cases og with
  |none=>rfl
  |some m=>exact absurd (by show rowsOf bL.c S.guards=[];rw[hg0];rfl) hgd.1
 have fin:∀ {x:aP} {om:Option Nat} {g:Heap},iW (eI S.inp true false) h0 nb (S.r.lL x) om none ov g->o8 h0 nb { S with code:=S.code++[x] } g:=λ{x om g} hR=>by
  refine⟨om,none,ov,?_⟩
  show iW (eI S.inp (decide (1<=S.cX)) (decide (S.cX=3))) h0 nb _ _ _ _ g
  rw[s1,s3];exact hR
 generalize oD w=K at *
 refine gG 163 aAC aQS aQT Tryz.func79 ?_
 simp -dsimp -implicitDefEqProofs only[go_sem,↓reduceIte,Tryz.f79,hb]
 first|refine aG.mk (hcut) ?_|refine aD.mk (hcut) ?_|refine aG.bC (hcut) ?_|refine aD.mk (aZ.dB (hcut)) ?_
 simp -dsimp -implicitDefEqProofs only[go_sem,↓reduceIte,Tryz.f79]
 first|refine aG.mk (hrl) ?_|refine aD.mk (hrl) ?_|refine aG.bC (hrl) ?_|refine aD.mk (aZ.dB (hrl)) ?_
 simp -dsimp -implicitDefEqProofs only[go_sem,↓reduceIte,Tryz.f79]
 simp -dsimp -implicitDefEqProofs only[go_sem,↓reduceIte,Tryz.f79,hb,w1,w2,decide_false]
 refine λ_=>⟨λh3=>⟨λq=>absurd q bU,λ_=>?_⟩,λh3=>absurd h3 aA⟩
 first|refine aG.mk (fU) ?_|refine aD.mk (fU) ?_|refine aG.bC (fU) ?_|refine aD.mk (aZ.dB (fU)) ?_
 simp -dsimp -implicitDefEqProofs only[go_sem,↓reduceIte,Tryz.f79]
 refine aG.mk hop ?_
 simp -dsimp -implicitDefEqProofs only[go_sem,↓reduceIte,Tryz.f79,hb,w1,w2,w3,w4,ea,gJ,decide_false]
 rw[IntWalk.i64_in (K-1+1) aA,show K-1+1=K by omega]
 refine⟨λ_=>⟨λq=>absurd q bU,λ_ n2 z2=>?_⟩,λq=>absurd q aA⟩
 obtain⟨a34,gB,gC,aTV⟩:=c7 (show ¬n2=nb from λe=>by rw[e,hb]at z2;cases z2)
 by_cases k7:K=7
 ·have k1:¬K=1:=by omega
  have k2:¬K=2:=by omega
  have e:jM K n=if n.length=1 then some ⟨K,n.getD 0 0,0,0⟩else none:=by rw[jM,if_neg aA,if_pos k7]
  have he1:∀ y,jM K n=some y->(⟨7,n.getD 0 0,0,0⟩:aP)=y:=λy hy=>by rw[e,k7]at hy;split at hy <;> cases hy;rfl
  have he2:aC.bool (decide ((n.length:Int)=1))=.bool (jM K n).isSome:=by rw[e];split <;> rename_i q <;> simp[q];omega
  simp -dsimp -implicitDefEqProofs only[go_sem,↓reduceIte,Tryz.f79,hb,ea,k1,k2,k7,gB,gC,aE,aJ]
  refine⟨by omega,?_⟩
  cases om with
  |none =>
   have hc0:S.code=[]:=eN.1 hcd
   rw[gJ]
   simp -dsimp -implicitDefEqProofs only[go_sem,↓reduceIte,Tryz.f79,hb,ea,k1,k2,k7,gB,gC,aE,aJ]
   refine⟨by decide,by decide,by decide,λb ⟨lR,iS⟩=>?_⟩
   obtain⟨gU,cN,cM,iV⟩:=c7 (show ¬b=nb from λe=>by rw[e,hb]at iS;cases iS)
   obtain⟨aAD,lZ,lX,aAE⟩:=c7 (show ¬b=n2 from lR)
   simp -dsimp -implicitDefEqProofs only[go_sem,↓reduceIte,Tryz.f79,hb,gB,lX,gC,cM,lZ,cN,aE,aJ]
   obtain⟨g,hg,hR⟩:=H.lL ⟨7,n.getD 0 0,0,0⟩ iS (fN S.inp true false) (F:=aR (aR h b (.row 4 [[.v (.int .i64 7),.v (.int .i64 (n.getD 0 0)),.v (.int .i64 0),.v (.int .i64 0)]])) nb (eI S.inp true false (S.r.lL ⟨7,n.getD 0 0,0,0⟩) (some b) none ov)) (aH _ _ _)
    aRQ (λk h1 h2 _=>by rw[aE _ _ _ _ h1,aE _ _ _ _ h2])
   have qN:(S.r.lL ⟨7,n.getD 0 0,0,0⟩).code.length=1:=by show(S.code++[_]).length=1;rw[hc0];rfl
   unfold eI at hg
   simp only[qN,bD]at hg
   simp only[cD.lL]at hg
   refine λ_=>⟨_,g,bJ (Heap.le_trans hg ?_),?_⟩
   ·exact(gF a1P)
   ·refine⟨⟨7,n.getD 0 0,0,0⟩,λy hy=>?_,?_,fin hR⟩
    ·exact he1 y hy
    ·exact he2
  |some m =>
   have hm:=hcd.2
   obtain⟨jI,dG,dF,iA⟩:=c7 (show ¬m=nb from λe=>by rw[e,hb]at hm;cases hm)
   obtain⟨aQV,qK,qJ,aQW⟩:=c7 (show ¬m=n2 from λe=>by rw[e,z2]at hm;cases hm)
   simp -dsimp -implicitDefEqProofs only[go_sem,↓reduceIte,Tryz.f79,hb,hm,ea,k1,k2,k7,bD,gB,qJ,gC,dF,qK,dG,aE,aJ]
   refine⟨by decide,by decide,by decide,by rw[iJ];exact j4 _,by omega,by omega,λb ⟨lR,iS⟩=>?_⟩
   obtain⟨gU,cN,cM,iV⟩:=c7 (show ¬b=nb from λe=>by rw[e,hb]at iS;cases iS)
   obtain⟨aAD,lZ,lX,aAE⟩:=c7 (show ¬b=n2 from lR)
   obtain⟨xQ,l0,lY,xR⟩:=c7 (show ¬b=m from λe=>by rw[e,hm]at iS;cases iS)
   simp -dsimp -implicitDefEqProofs only[go_sem,↓reduceIte,Tryz.f79,hb,hm,gB,qJ,lX,gC,dF,cM,qK,dG,lY,lZ,cN,l0,aE,aJ]
   rw[kC y5]
   obtain⟨g,hg,hR⟩:=H.lL ⟨7,n.getD 0 0,0,0⟩ iS (fN S.inp true false) (F:=aR (aR (aR h m .gone) b (.row 4 (rowsOf aP.c S.r.code++[[.v (.int .i64 7),.v (.int .i64 (n.getD 0 0)),.v (.int .i64 0),.v (.int .i64 0)]]))) nb (eI S.inp true false (S.r.lL ⟨7,n.getD 0 0,0,0⟩) (some b) none ov)) (aH _ _ _)
    aDC (λk h1 h2 h3=>by rw[aE _ _ _ _ h1,aE _ _ _ _ h2,aE _ _ _ _ (λq=>h3 rO)])
   have qN:(S.r.lL ⟨7,n.getD 0 0,0,0⟩).code.length=S.r.code.length+1:=by show(S.code++[_]).length=_;rw[k8];rfl
   unfold eI at hg
   simp only[qN,bD]at hg
   simp only[cD.lL]at hg
   refine λ_=>⟨_,g,bJ (Heap.le_trans hg ?_),?_⟩
   ·exact(gF a1O)
   ·refine⟨⟨7,n.getD 0 0,0,0⟩,λy hy=>?_,?_,fin hR⟩
    ·exact he1 y hy
    ·exact he2
 ·by_cases k2:K<=2
  ·have e:jM K n=if n.length=1 then some ⟨K,0,0,n.getD 0 0⟩else none:=by rw[jM,if_pos k2]
   have he1:∀ y,jM K n=some y->(⟨K,0,0,n.getD 0 0⟩:aP)=y:=λy hy=>by rw[e]at hy;split at hy <;> cases hy;rfl
   have he2:aC.bool (decide ((n.length:Int)=1))=.bool (jM K n).isSome:=by rw[e];split <;> rename_i q <;> simp[q];omega
   rcases(by omega:K=1∨K=2)with k1|k1
   ·subst k1
    simp -dsimp -implicitDefEqProofs only[go_sem,↓reduceIte,Tryz.f79,hb,ea,gB,gC,aE,aJ]
    refine⟨by omega,?_⟩
    cases om with
    |none =>
     have hc0:S.code=[]:=eN.1 hcd
     rw[gJ]
     simp -dsimp -implicitDefEqProofs only[go_sem,↓reduceIte,Tryz.f79,hb,ea,gB,gC,aE,aJ]
     refine⟨by decide,by decide,by decide,λb ⟨lR,iS⟩=>?_⟩
     obtain⟨gU,cN,cM,iV⟩:=c7 (show ¬b=nb from λe=>by rw[e,hb]at iS;cases iS)
     obtain⟨aAD,lZ,lX,aAE⟩:=c7 (show ¬b=n2 from lR)
     simp -dsimp -implicitDefEqProofs only[go_sem,↓reduceIte,Tryz.f79,hb,gB,lX,gC,cM,lZ,cN,aE,aJ]
     obtain⟨g,hg,hR⟩:=H.lL ⟨1,0,0,n.getD 0 0⟩ iS (fN S.inp true false) (F:=aR (aR h b (.row 4 [[.v (.int .i64 1),.v (.int .i64 0),.v (.int .i64 0),.v (.int .i64 (n.getD 0 0))]])) nb (eI S.inp true false (S.r.lL ⟨1,0,0,n.getD 0 0⟩) (some b) none ov)) (aH _ _ _)
      aRQ (λk h1 h2 _=>by rw[aE _ _ _ _ h1,aE _ _ _ _ h2])
     have qN:(S.r.lL ⟨1,0,0,n.getD 0 0⟩).code.length=1:=by show(S.code++[_]).length=1;rw[hc0];rfl
     unfold eI at hg
     simp only[qN,bD]at hg
     simp only[cD.lL]at hg
     refine λ_=>⟨_,g,bJ (Heap.le_trans hg ?_),?_⟩
     ·exact(gF a1P)
     ·refine⟨⟨1,0,0,n.getD 0 0⟩,λy hy=>?_,?_,fin hR⟩
      ·exact he1 y hy
      ·exact he2
    |some m =>
     have hm:=hcd.2
     obtain⟨jI,dG,dF,iA⟩:=c7 (show ¬m=nb from λe=>by rw[e,hb]at hm;cases hm)
     obtain⟨aQV,qK,qJ,aQW⟩:=c7 (show ¬m=n2 from λe=>by rw[e,z2]at hm;cases hm)
     simp -dsimp -implicitDefEqProofs only[go_sem,↓reduceIte,Tryz.f79,hb,hm,ea,bD,gB,qJ,gC,dF,qK,dG,aE,aJ]
     refine⟨by decide,by decide,by decide,by rw[iJ];exact j4 _,by omega,by omega,λb ⟨lR,iS⟩=>?_⟩
     obtain⟨gU,cN,cM,iV⟩:=c7 (show ¬b=nb from λe=>by rw[e,hb]at iS;cases iS)
     obtain⟨aAD,lZ,lX,aAE⟩:=c7 (show ¬b=n2 from lR)
     obtain⟨xQ,l0,lY,xR⟩:=c7 (show ¬b=m from λe=>by rw[e,hm]at iS;cases iS)
     simp -dsimp -implicitDefEqProofs only[go_sem,↓reduceIte,Tryz.f79,hb,hm,gB,qJ,lX,gC,dF,cM,qK,dG,lY,lZ,cN,l0,aE,aJ]
     rw[kC y5]
     obtain⟨g,hg,hR⟩:=H.lL ⟨1,0,0,n.getD 0 0⟩ iS (fN S.inp true false) (F:=aR (aR (aR h m .gone) b (.row 4 (rowsOf aP.c S.r.code++[[.v (.int .i64 1),.v (.int .i64 0),.v (.int .i64 0),.v (.int .i64 (n.getD 0 0))]]))) nb (eI S.inp true false (S.r.lL ⟨1,0,0,n.getD 0 0⟩) (some b) none ov)) (aH _ _ _)
      aDC (λk h1 h2 h3=>by rw[aE _ _ _ _ h1,aE _ _ _ _ h2,aE _ _ _ _ (λq=>h3 rO)])
     have qN:(S.r.lL ⟨1,0,0,n.getD 0 0⟩).code.length=S.r.code.length+1:=by show(S.code++[_]).length=_;rw[k8];rfl
     unfold eI at hg
     simp only[qN,bD]at hg
     simp only[cD.lL]at hg
     refine λ_=>⟨_,g,bJ (Heap.le_trans hg ?_),?_⟩
     ·exact(gF a1O)
     ·refine⟨⟨1,0,0,n.getD 0 0⟩,λy hy=>?_,?_,fin hR⟩
      ·exact he1 y hy
      ·exact he2
   ·subst k1
    simp -dsimp -implicitDefEqProofs only[go_sem,↓reduceIte,Tryz.f79,hb,ea,gB,gC,aE,aJ]
    refine⟨by omega,?_⟩
    cases om with
    |none =>
     have hc0:S.code=[]:=eN.1 hcd
     rw[gJ]
     simp -dsimp -implicitDefEqProofs only[go_sem,↓reduceIte,Tryz.f79,hb,ea,gB,gC,aE,aJ]
     refine⟨by decide,by decide,by decide,λb ⟨lR,iS⟩=>?_⟩
     obtain⟨gU,cN,cM,iV⟩:=c7 (show ¬b=nb from λe=>by rw[e,hb]at iS;cases iS)
     obtain⟨aAD,lZ,lX,aAE⟩:=c7 (show ¬b=n2 from lR)
     simp -dsimp -implicitDefEqProofs only[go_sem,↓reduceIte,Tryz.f79,hb,gB,lX,gC,cM,lZ,cN,aE,aJ]
     obtain⟨g,hg,hR⟩:=H.lL ⟨2,0,0,n.getD 0 0⟩ iS (fN S.inp true false) (F:=aR (aR h b (.row 4 [[.v (.int .i64 2),.v (.int .i64 0),.v (.int .i64 0),.v (.int .i64 (n.getD 0 0))]])) nb (eI S.inp true false (S.r.lL ⟨2,0,0,n.getD 0 0⟩) (some b) none ov)) (aH _ _ _)
      aRQ (λk h1 h2 _=>by rw[aE _ _ _ _ h1,aE _ _ _ _ h2])
     have qN:(S.r.lL ⟨2,0,0,n.getD 0 0⟩).code.length=1:=by show(S.code++[_]).length=1;rw[hc0];rfl
     unfold eI at hg
     simp only[qN,bD]at hg
     simp only[cD.lL]at hg
     refine λ_=>⟨_,g,bJ (Heap.le_trans hg ?_),?_⟩
     ·exact(gF a1P)
     ·refine⟨⟨2,0,0,n.getD 0 0⟩,λy hy=>?_,?_,fin hR⟩
      ·exact he1 y hy
      ·exact he2
    |some m =>
     have hm:=hcd.2
     obtain⟨jI,dG,dF,iA⟩:=c7 (show ¬m=nb from λe=>by rw[e,hb]at hm;cases hm)
     obtain⟨aQV,qK,qJ,aQW⟩:=c7 (show ¬m=n2 from λe=>by rw[e,z2]at hm;cases hm)
     simp -dsimp -implicitDefEqProofs only[go_sem,↓reduceIte,Tryz.f79,hb,hm,ea,bD,gB,qJ,gC,dF,qK,dG,aE,aJ]
     refine⟨by decide,by decide,by decide,by rw[iJ];exact j4 _,by omega,by omega,λb ⟨lR,iS⟩=>?_⟩
     obtain⟨gU,cN,cM,iV⟩:=c7 (show ¬b=nb from λe=>by rw[e,hb]at iS;cases iS)
     obtain⟨aAD,lZ,lX,aAE⟩:=c7 (show ¬b=n2 from lR)
     obtain⟨xQ,l0,lY,xR⟩:=c7 (show ¬b=m from λe=>by rw[e,hm]at iS;cases iS)
     simp -dsimp -implicitDefEqProofs only[go_sem,↓reduceIte,Tryz.f79,hb,hm,gB,qJ,lX,gC,dF,cM,qK,dG,lY,lZ,cN,l0,aE,aJ]
     rw[kC y5]
     obtain⟨g,hg,hR⟩:=H.lL ⟨2,0,0,n.getD 0 0⟩ iS (fN S.inp true false) (F:=aR (aR (aR h m .gone) b (.row 4 (rowsOf aP.c S.r.code++[[.v (.int .i64 2),.v (.int .i64 0),.v (.int .i64 0),.v (.int .i64 (n.getD 0 0))]]))) nb (eI S.inp true false (S.r.lL ⟨2,0,0,n.getD 0 0⟩) (some b) none ov)) (aH _ _ _)
      aDC (λk h1 h2 h3=>by rw[aE _ _ _ _ h1,aE _ _ _ _ h2,aE _ _ _ _ (λq=>h3 rO)])
     have qN:(S.r.lL ⟨2,0,0,n.getD 0 0⟩).code.length=S.r.code.length+1:=by show(S.code++[_]).length=_;rw[k8];rfl
     unfold eI at hg
     simp only[qN,bD]at hg
     simp only[cD.lL]at hg
     refine λ_=>⟨_,g,bJ (Heap.le_trans hg ?_),?_⟩
     ·exact(gF a1O)
     ·refine⟨⟨2,0,0,n.getD 0 0⟩,λy hy=>?_,?_,fin hR⟩
      ·exact he1 y hy
      ·exact he2
  ·have k1:¬K=1:=by omega
   have k3:¬K=2:=by omega
   have e:jM K n=if n.length=2 then some ⟨K,n.getD 0 0,n.getD 1 0,0⟩else none:=by rw[jM,if_neg k2,if_neg k7]
   have he1:∀ y,jM K n=some y->(⟨K,n.getD 0 0,n.getD (n.length-1) 0,0⟩:aP)=y:=λy hy=>by
    rw[e]at hy
    split at hy
    ·rename_i q;cases hy;rw[q]
    ·cases hy
   have he2:aC.bool (decide ((n.length:Int)=2))=.bool (jM K n).isSome:=by rw[e];split <;> rename_i q <;> simp[q];omega
   have eb:n[Int.toNat ((n.length:Int)-1)]?=some (n.getD (n.length-1) 0):=by
    rw[show Int.toNat ((n.length:Int)-1)=n.length-1 by omega,gA,cP aA];rfl
   have ew:IntKind.i64.wrap ((n.length:Int)-1)=(n.length:Int)-1:=IntWalk.i64_in _ aA
   simp -dsimp -implicitDefEqProofs only[go_sem,↓reduceIte,Tryz.f79,hb,ea,eb,ew,k1,k3,k7,gB,gC,aE,aJ]
   refine⟨by omega,by omega,by omega,?_⟩
   cases om with
   |none =>
    have hc0:S.code=[]:=eN.1 hcd
    rw[gJ]
    simp -dsimp -implicitDefEqProofs only[go_sem,↓reduceIte,Tryz.f79,hb,ea,eb,ew,gB,gC,aE,aJ]
    refine⟨by decide,by decide,by decide,λb ⟨lR,iS⟩=>?_⟩
    obtain⟨gU,cN,cM,iV⟩:=c7 (show ¬b=nb from λe=>by rw[e,hb]at iS;cases iS)
    obtain⟨aAD,lZ,lX,aAE⟩:=c7 (show ¬b=n2 from lR)
    simp -dsimp -implicitDefEqProofs only[go_sem,↓reduceIte,Tryz.f79,hb,gB,lX,gC,cM,lZ,cN,aE,aJ]
    obtain⟨g,hg,hR⟩:=H.lL ⟨K,n.getD 0 0,n.getD (n.length-1) 0,0⟩ iS (fN S.inp true false) (F:=aR (aR h b (.row 4 [[.v (.int .i64 K),.v (.int .i64 (n.getD 0 0)),.v (.int .i64 (n.getD (n.length-1) 0)),.v (.int .i64 0)]])) nb (eI S.inp true false (S.r.lL ⟨K,n.getD 0 0,n.getD (n.length-1) 0,0⟩) (some b) none ov)) (aH _ _ _)
     aRQ (λk h1 h2 _=>by rw[aE _ _ _ _ h1,aE _ _ _ _ h2])
    have qN:(S.r.lL ⟨K,n.getD 0 0,n.getD (n.length-1) 0,0⟩).code.length=1:=by show(S.code++[_]).length=1;rw[hc0];rfl
    unfold eI at hg
    simp only[qN,bD]at hg
    simp only[cD.lL]at hg
    refine λ_=>⟨_,g,bJ (Heap.le_trans hg ?_),?_⟩
    ·exact(gF a1P)
    ·refine⟨⟨K,n.getD 0 0,n.getD (n.length-1) 0,0⟩,λy hy=>?_,?_,fin hR⟩
     ·exact he1 y hy
     ·exact he2
   |some m =>
    have hm:=hcd.2
    obtain⟨jI,dG,dF,iA⟩:=c7 (show ¬m=nb from λe=>by rw[e,hb]at hm;cases hm)
    obtain⟨aQV,qK,qJ,aQW⟩:=c7 (show ¬m=n2 from λe=>by rw[e,z2]at hm;cases hm)
    simp -dsimp -implicitDefEqProofs only[go_sem,↓reduceIte,Tryz.f79,hb,hm,ea,eb,ew,bD,gB,qJ,gC,dF,qK,dG,aE,aJ]
    refine⟨by decide,by decide,by decide,by rw[iJ];exact j4 _,by omega,by omega,λb ⟨lR,iS⟩=>?_⟩
    obtain⟨gU,cN,cM,iV⟩:=c7 (show ¬b=nb from λe=>by rw[e,hb]at iS;cases iS)
    obtain⟨aAD,lZ,lX,aAE⟩:=c7 (show ¬b=n2 from lR)
    obtain⟨xQ,l0,lY,xR⟩:=c7 (show ¬b=m from λe=>by rw[e,hm]at iS;cases iS)
    simp -dsimp -implicitDefEqProofs only[go_sem,↓reduceIte,Tryz.f79,hb,hm,gB,qJ,lX,gC,dF,cM,qK,dG,lY,lZ,cN,l0,aE,aJ]
    rw[kC y5]
    obtain⟨g,hg,hR⟩:=H.lL ⟨K,n.getD 0 0,n.getD (n.length-1) 0,0⟩ iS (fN S.inp true false) (F:=aR (aR (aR h m .gone) b (.row 4 (rowsOf aP.c S.r.code++[[.v (.int .i64 K),.v (.int .i64 (n.getD 0 0)),.v (.int .i64 (n.getD (n.length-1) 0)),.v (.int .i64 0)]]))) nb (eI S.inp true false (S.r.lL ⟨K,n.getD 0 0,n.getD (n.length-1) 0,0⟩) (some b) none ov)) (aH _ _ _)
     aDC (λk h1 h2 h3=>by rw[aE _ _ _ _ h1,aE _ _ _ _ h2,aE _ _ _ _ (λq=>h3 rO)])
    have qN:(S.r.lL ⟨K,n.getD 0 0,n.getD (n.length-1) 0,0⟩).code.length=S.r.code.length+1:=by show(S.code++[_]).length=_;rw[k8];rfl
    unfold eI at hg
    simp only[qN,bD]at hg
    simp only[cD.lL]at hg
    refine λ_=>⟨_,g,bJ (Heap.le_trans hg ?_),?_⟩
    ·exact(gF a1O)
    ·refine⟨⟨K,n.getD 0 0,n.getD (n.length-1) 0,0⟩,λy hy=>?_,?_,fin hR⟩
     ·exact he1 y hy
     ·exact he2
theorem aVY {h0 h:Heap} {nb:Nat} {S:pQ} (H:o8 h0 nb S h) (s:List UInt8) (hs:s.length<=50000) (r:List UInt8) (hc:Go.Lib.cut s [32]=(aBP,r,true)) (n:List Int) (hn:¬n=[]) (hr:kN 100000 999999999 r=some n) (h1s:S.cX=1∨S.cX=2) :
  fH Tryz.prog 79 [.op nb 6 0 0,.str s] h λr h'=>r=.bool true/\o8 h0 nb { S with outs:=n,cX:=3 } h':=by
 have hcut:=aQF s [32] aA
 have hcl:=s4 s [32]
 rw[hc]at hcut hcl
 simp only at hcut hcl
 have hle:h0.le h:=H.le
 obtain⟨om,og,ov,H⟩:=H
 have hb:=H.box
 unfold eI at hb
 have hrl:=aJG r 100000 999999999 aA aA aA
 rw[hr]at hrl
 simp only[aD5,aFB]at hrl
 have hop:=aGS qY true aBP bU
 rw[show Go.Lib.idxOfS (qY.map λs=>(⟨s.toArray⟩:ByteArray)) ⟨aBP.toArray⟩=-1 by decide]at hop
 have hl:0<n.length:=aJ5.2 hn
 have s1:decide (1<=S.cX)=true:=decide_eq_true aA
 have s3:decide (S.cX=3)=false:=decide_eq_false aA
 rw[s1,s3]at hb H
 refine gG 163 aAC aQS aQT Tryz.func79 ?_
 simp -dsimp -implicitDefEqProofs only[go_sem,↓reduceIte,Tryz.f79,hb]
 first|refine aG.mk (hcut) ?_|refine aD.mk (hcut) ?_|refine aG.bC (hcut) ?_|refine aD.mk (aZ.dB (hcut)) ?_
 simp -dsimp -implicitDefEqProofs only[go_sem,↓reduceIte,Tryz.f79]
 refine aG.wn0 hrl ?_
 rintro r_ l_ g ⟨y,oy,rfl,rfl⟩ wn
 obtain⟨o,ho,hv,hg⟩:=a2T oy wn
 cases o with
 |none=>exact absurd ho hn
 |some k =>
  rw[aT]at ho
  rw[aY]at hv
  rw[aL]at hg
  subst hg
  obtain⟨a9U,aZM,aZN,bLJ⟩:=c7 (show ¬k=nb from λe=>by rw[e,hb]at ho;cases ho)
  have w1:¬aBP=[116,97,112,101]:=by decide
  have w2:(aBP=[111,117,116])=True:=eq_true rfl
  simp -dsimp -implicitDefEqProofs only[go_sem,↓reduceIte,Tryz.f79,hb,hv,aZM,aZN,aE,w1,w2,decide_false,decide_true]
  refine λ_=>⟨λh3=>⟨λq=>absurd q bU,λ_=>?_⟩,λh3=>absurd h3 aA⟩
  first|refine aG.mk (fU) ?_|refine aD.mk (fU) ?_|refine aG.bC (fU) ?_|refine aD.mk (aZ.dB (fU)) ?_
  simp -dsimp -implicitDefEqProofs only[go_sem,↓reduceIte,Tryz.f79]
  refine aG.mk hop ?_
  simp -dsimp -implicitDefEqProofs only[go_sem,↓reduceIte,Tryz.f79,hb,hv,aZM,aZN,aE,w1,w2,decide_false,decide_true]
  rw[aJ]
  obtain⟨g,hg,hR⟩:=H.bLI n ho hn (fN S.inp true true) (F:=aR (aR h k (.row 1 ((n.map λx=>[I x]).map (List.map .v)))) nb (eI S.inp true true ⟨S.code,n,S.guards⟩ om og (some k))) (aH _ _ _) (by rw[aE _ _ _ _ a9U,aH];rfl) (λj h1 h2 _=>by rw[aE _ _ _ _ h1,aE _ _ _ _ h2])
  exact⟨_,g,bJ hg,rfl,om,og,some k,hR⟩
theorem aZO {h0 h:Heap} {nb:Nat} {S:pQ} (H:o8 h0 nb S h) (s:List UInt8) (hs:s.length<=50000) (w r:List UInt8) (hw:¬w=oU/\¬w=aBP/\¬w=s5/\¬w=sD) (hc:Go.Lib.cut s [32]=(w,r,true)) (n:List Int) (hn:¬n=[]) (hr:kN 100000 999999999 r=some n) (h1s:S.cX=1∨S.cX=2) (hno:oD w=0∨¬S.guards=[]) :
  fH Tryz.prog 79 [.op nb 6 0 0,.str s] h λr h'=>r=.bool false/\h0.le h':=by
 have hcut:=aQF s [32] aA
 have hcl:=s4 s [32]
 rw[hc]at hcut hcl
 simp only at hcut hcl
 have hle:h0.le h:=H.le
 obtain⟨om,og,ov,H⟩:=H
 have hb:=H.box
 unfold eI at hb
 have hrl:=uN r 100000 999999999 aA aA aA
 rw[hr]at hrl
 simp only[aD5,aFB]at hrl
 have hl:0<n.length:=aJ5.2 hn
 have hop:=aGS qY true w bU
 rw[show Go.Lib.idxOfS (qY.map λs=>(⟨s.toArray⟩:ByteArray)) ⟨w.toArray⟩=oD w-1 by rw[oD];omega]at hop
 have hK:0<=oD w/\oD w<=7:=by rcases aGT w with q|q <;> omega
 obtain⟨w1,w2,w3,w4⟩:=hw
 unfold oU at w1;unfold aBP at w2;unfold s5 at w3;unfold sD at w4
 have s1:decide (1<=S.cX)=true:=decide_eq_true aA
 have s3:decide (S.cX=3)=false:=decide_eq_false aA
 rw[s1,s3]at hb H
 have hgd:=H.yG
 generalize oD w=K at *
 refine gG 163 aAC aQS aQT Tryz.func79 ?_
 simp -dsimp -implicitDefEqProofs only[go_sem,↓reduceIte,Tryz.f79,hb]
 first|refine aG.mk (hcut) ?_|refine aD.mk (hcut) ?_|refine aG.bC (hcut) ?_|refine aD.mk (aZ.dB (hcut)) ?_
 simp -dsimp -implicitDefEqProofs only[go_sem,↓reduceIte,Tryz.f79]
 first|refine aG.mk (hrl) ?_|refine aD.mk (hrl) ?_|refine aG.bC (hrl) ?_|refine aD.mk (aZ.dB (hrl)) ?_
 simp -dsimp -implicitDefEqProofs only[go_sem,↓reduceIte,Tryz.f79]
 simp -dsimp -implicitDefEqProofs only[go_sem,↓reduceIte,Tryz.f79,hb,w1,w2,decide_false]
 refine λ_=>⟨λh3=>⟨λq=>absurd q bU,λ_=>?_⟩,λh3=>absurd h3 aA⟩
 first|refine aG.mk (fU) ?_|refine aD.mk (fU) ?_|refine aG.bC (fU) ?_|refine aD.mk (aZ.dB (fU)) ?_
 simp -dsimp -implicitDefEqProofs only[go_sem,↓reduceIte,Tryz.f79]
 refine aG.mk hop ?_
 cases og with
 |none =>
  have hg0:S.guards=[]:=eN.1 hgd
  have hK0:K=0:=hno.resolve_right λq=>q hg0
  have e0:IntKind.i64.wrap ((0:Int)-1+1)=0:=rfl
  simp -dsimp -implicitDefEqProofs only[go_sem,↓reduceIte,Tryz.f79,hb,w1,w2,w3,w4,gJ,decide_false,hK0,e0]
  exact⟨_,h,bJ (Heap.le_refl _),rfl,hle⟩
 |some m =>
  have hg0:¬S.guards=[]:=λq=>hgd.1 (by show rowsOf bL.c S.guards=[];rw[q];rfl)
  have hgl:0<S.r.guards.length:=aJ5.2 hg0
  simp -dsimp -implicitDefEqProofs only[go_sem,↓reduceIte,Tryz.f79,hb,w1,w2,w3,w4,bD,decide_false]
  rw[IntWalk.i64_in (K-1+1) aA,show K-1+1=K by omega]
  refine⟨λ_ _=>⟨λ_=>⟨_,h,bJ (Heap.le_refl _),rfl,hle⟩,λq=>absurd hgl aA⟩,λ_=>⟨_,h,bJ (Heap.le_refl _),rfl,hle⟩⟩
theorem aVZ {w:List UInt8} {n:List Int} {S:pQ} (hf:S.fit) (h:S.cX=3∨(1<=S.cX↔w=oU)):oA w n S=none:=by
 obtain⟨f0,f1,f2,f3⟩:=hf
 unfold oA
 by_cases ht:w=oU
 ·rw[if_pos ht,if_neg]
  rintro⟨q,_⟩
  rcases h with h|h
  ·omega
  ·have:=h.2 ht;omega
 ·rw[if_neg ht]
  have hs:S.cX=3∨S.cX=0:=by
   rcases h with h|h
   ·exact .inl h
   ·right
    have:¬1<=S.cX:=λq=>ht (h.1 q)
    omega
  have h12:¬(S.cX=1∨S.cX=2):=by omega
  have h1:¬S.cX=1:=by omega
  have A1:¬(n.length=1/\(S.cX=1∨S.cX=2)):=λq=>h12 q.2
  have h2:¬S.cX=2:=by omega
  simp only[A1,h12,↓reduceIte]
  repeat' split
  all_goals first
   |rfl
   |exact absurd jH h1
   |(exfalso;simp_all)
theorem bFQ {h0 h:Heap} {nb:Nat} {S:pQ} (H:o8 h0 nb S h) (hf:S.fit) (s:List UInt8) (hs:s.length<=50000) (hc1:S.code.length<=1048576) (hc2:S.guards.length<=1048576) :
  fH Tryz.prog 79 [.op nb 6 0 0,.str s] h λr h'=>r=.bool (kO s S).isSome/\h0.le h'/\∀ S',kO s S=some S'->o8 h0 nb S' h':=by
 have no:kO s S=none->∀ (r:aC) (h':Heap),(r=.bool false/\h0.le h')->r=.bool (kO s S).isSome/\h0.le h'/\∀ S',kO s S=some S'->o8 h0 nb S' h':=λe r h' q=>⟨by rw[e];exact q.1,q.2,λS' z=>by rw[e]at z;cases z⟩
 rcases aYT s hs with⟨w,r,hc,hw,⟨h1,h2⟩|⟨n,hn,h1,h2⟩⟩|⟨h1,h2⟩
 ·exact(aJP H s hs w r true hc (.inr h2)).mono (no (by rw[kO,h1]))
 ·have e:kO s S=oA w n S:=by simp only[kO,h1];rw[if_neg hn,hw]
  have off:=aVZ (w:=w) (n:=n) hf
  have yes:∀ (c:Prop) [Decidable c] (S2:pQ),kO s S=(if c then some S2 else none)->∀ (r:aC) (h':Heap),(r=.bool (decide c)/\o8 h0 nb S2 h')->r=.bool (kO s S).isSome/\h0.le h'/\∀ S',kO s S=some S'->o8 h0 nb S' h':=λc _ S2 z r h' q=>by
   rw[z]
   refine⟨q.1.trans ?_,q.2.le,λS' y=>?_⟩
   ·split <;> simp[*]
   ·split at y
    ·cases y;exact q.2
    ·cases y
  by_cases ho:S.cX=3∨(1<=S.cX↔w=oU)
  ·exact(aVX H s hs w r hc n hn h2 ho).mono (no (e.trans (off ho)))
  ·obtain⟨f0,f1,f2,f3⟩:=hf
   have bPJ:¬S.cX=3:=λq=>ho (.inl q)
   by_cases ht:w=oU
   ·subst ht
    have h0s:S.cX=0:=by
     have:¬1<=S.cX:=λq=>ho (.inr ⟨λ_=>rfl,λ_=>q⟩)
     omega
    refine(aQU H s hs r hc n hn h2 h0s).mono (yes _ _ ?_)
    rw[e,oA,if_pos rfl]
    by_cases q:n.length=1
    ·rw[if_pos ⟨h0s,q⟩,if_pos q]
    ·rw[if_neg λz=>q z.2,if_neg q]
   ·have h1s:S.cX=1∨S.cX=2:=by
     have:1<=S.cX:=aMF λq=>ho (.inr ⟨λz=>absurd z q,λz=>absurd z ht⟩)
     omega
    by_cases hz:w=s5∨w=sD
    ·refine(aOM H s hs w r hz hc n hn h2 h1s hc2).mono (yes _ _ ?_)
     rw[e,oA,if_neg ht,if_pos hz]
     by_cases q:n.length=1
     ·rw[if_pos ⟨q,h1s⟩,if_pos q]
     ·rw[if_neg λz=>q z.1,if_neg q]
    ·by_cases hou:w=aBP
     ·subst hou
      refine(aVY H s hs r hc n hn h2 h1s).mono λr h' q=>yes True _ ?_ r h' ⟨q.1,q.2⟩
      rw[e,oA,if_neg ht,if_neg hz,if_pos rfl,if_pos h1s,if_pos trivial]
     ·have e2:oA w n S=if oD w=0 then none else match jM (oD w) n with|none=>none|some x=>if S.cX=1 then some { S with code:=S.code++[x] } else none:=by
       rw[oA,if_neg ht,if_neg hz,if_neg hou]
       rfl
      by_cases hno:oD w=0∨¬S.guards=[]
      ·refine(aZO H s hs w r ⟨ht,hou,λq=>hz (.inl q),λq=>hz (.inr q)⟩ hc n hn h2 h1s hno).mono (no ?_)
       rw[e,e2]
       rcases hno with q|q
       ·rw[if_pos q]
       ·split
        ·rfl
        ·cases jM (oD w) n with
         |none=>rfl
         |some x=>exact if_neg λz=>q (f2 aA)
      ·have hop:1<=oD w/\oD w<=7:=by
        rcases aGT w with q|q
        ·exact absurd (.inl q.1) hno
        ·exact⟨q.1,q.2.1⟩
       have hg0:S.guards=[]:=aMF λq=>hno (.inr q)
       have h1:S.cX=1:=by
        rcases h1s with q|q
        ·exact q
        ·exact absurd hg0 (f3 q)
       refine(aZL H s hs w r hop hc n hn h2 h1 hg0 hc1).mono λr h' q=>?_
       obtain⟨x,hx,hr,hT⟩:=q
       rw[e]
       cases hi:jM (oD w) n with
       |none =>
        have e3:oA w n S=none:=by rw[e2,if_neg aA,hi]
        rw[e3]
        exact⟨by rw[hr,hi];rfl,hT.le,λS' z=>by cases z⟩
       |some y =>
        have e3:oA w n S=some { S with code:=S.code++[y] }:=by rw[e2,if_neg aA,hi];exact if_pos h1
        rw[hx y hi]at hT
        rw[e3]
        exact⟨by rw[hr,hi];rfl,hT.le,λS' z=>by cases z;exact hT⟩
 ·rcases hcu:Go.Lib.cut s [32]with⟨w,r,has⟩
  rw[hcu]at h1
  refine(aJP H s hs w r has hcu (.inl h1)).mono (no ?_)
  simp only[kO,h2,↓reduceIte]
def kE (x:aP) (k inp:Int):Prop :=
 (x.lT=1/\x.fA=0/\x.fB=0/\0<=x.aX/\x.aX<=inp-1)∨(x.lT=2/\x.fA=0/\x.fB=0/\fZ x.aX) ∨
 ((3<=x.lT/\x.lT<=6)/\x.aX=0/\(0<=x.fA/\x.fA<=k-1)/\(0<=x.fB/\x.fB<=k-1))∨(x.lT=7/\x.aX=0/\x.fB=0/\0<=x.fA/\x.fA<=k-1)
instance (x:aP) (k inp:Int):Decidable (kE x k inp):=by unfold kE fZ;infer_instance
def aLL (s:Int) (l:List Int):Prop:=∀ r∈l,0<=r/\r<=s-1
instance (s:Int) (l:List Int):Decidable (aLL s l):=by unfold aLL;infer_instance
def aTW (s:Int) (l:List bL):Prop:=∀ g∈l,0<=g.oT/\g.oT<=s-1
instance (s:Int) (l:List bL):Decidable (aTW s l):=by unfold aTW;infer_instance
def yL (inp:Int) (l:List aP):Prop:=∀ (k:Nat) (h:k<l.length),kE l[k] k inp
instance (inp:Int) (l:List aP):Decidable (yL inp l):=by unfold yL;infer_instance
structure cW.ok (t:cW):Prop where
 inp:0<=t.cB/\t.cB<=12
 lens:t.aS.length<=3200/\t.bX.length<=3200/\1<=t.aO.length/\t.aO.length<=12
 code:yL t.cB t.aS
 yG:aTW t.aS.length t.bX
 outs:aLL t.aS.length t.aO
theorem cW.cS (t:cW):t.ok↔(0<=t.cB/\t.cB<=12)/\(t.aS.length<=3200/\t.bX.length<=3200/\1<=t.aO.length/\t.aO.length<=12)/\yL t.cB t.aS/\aTW t.aS.length t.bX/\aLL t.aS.length t.aO :=
 ⟨λ⟨a,b,c,d,e⟩=>⟨a,b,c,d,e⟩,λ⟨a,b,c,d,e⟩=>⟨a,b,c,d,e⟩⟩
instance (t:cW):Decidable t.ok:=decidable_of_iff _ t.cS.symm
@[go_sem] def a9V:List Nat:=[0,1,2,3,4,6,8,9,27,42,64]
theorem a35 (t:cW) (x:aP) (k:Int) (hk:0<=k/\k<=3200) (hi:0<=t.cB/\t.cB<=12):eX Tryz.prog 69 [.agg t.c,.agg x.c,I k] (.bool (decide (kE x k t.cB))):=by
 rw[aP.aU,cW.aU]
 have ek:IntKind.i64.wrap (k-1)=k-1:=IntWalk.i64_in _ aA
 have ei:IntKind.i64.wrap (t.cB-1)=t.cB-1:=IntWalk.i64_in _ aA
 refine eJ 81 a9V aBG cC Tryz.func69 λh=>?_
 simp -dsimp -implicitDefEqProofs only[go_sem,↓reduceIte,Tryz.f69,ek,ei]
 repeat'(with_reducible first|intro _|refine And.intro ?_ ?_)
 all_goals first
  |exact(decide_eq_false tZ).symm
  |skip
   first|refine aG.mk (within x.aX 0 (t.cB-1)) ?_|refine aD.mk (within x.aX 0 (t.cB-1)) ?_|refine aG.bC (within x.aX 0 (t.cB-1)) ?_|refine aD.mk (aZ.dB (within x.aX 0 (t.cB-1))) ?_
   simp -dsimp -implicitDefEqProofs only[go_sem,↓reduceIte,Tryz.f69]
   exact decide_eq_decide.2 tZ
  |skip
   first|refine aG.mk (lA x.aX) ?_|refine aD.mk (lA x.aX) ?_|refine aG.bC (lA x.aX) ?_|refine aD.mk (aZ.dB (lA x.aX)) ?_
   simp -dsimp -implicitDefEqProofs only[go_sem,↓reduceIte,Tryz.f69]
   exact decide_eq_decide.2 tZ
  |skip
   first|refine aG.mk (within x.fA 0 (k-1)) ?_|refine aD.mk (within x.fA 0 (k-1)) ?_|refine aG.bC (within x.fA 0 (k-1)) ?_|refine aD.mk (aZ.dB (within x.fA 0 (k-1))) ?_
   simp -dsimp -implicitDefEqProofs only[go_sem,↓reduceIte,Tryz.f69]
   exact decide_eq_decide.2 tZ
  |skip
   first|refine aG.mk (within x.fA 0 (k-1)) ?_|refine aD.mk (within x.fA 0 (k-1)) ?_|refine aG.bC (within x.fA 0 (k-1)) ?_|refine aD.mk (aZ.dB (within x.fA 0 (k-1))) ?_
   simp -dsimp -implicitDefEqProofs only[go_sem,↓reduceIte,Tryz.f69]
   refine⟨λq=>?_,λq=>(decide_eq_false tZ).symm⟩
   rw[ek]
   first|refine aG.mk (within x.fB 0 (k-1)) ?_|refine aD.mk (within x.fB 0 (k-1)) ?_|refine aG.bC (within x.fB 0 (k-1)) ?_|refine aD.mk (aZ.dB (within x.fB 0 (k-1))) ?_
   simp -dsimp -implicitDefEqProofs only[go_sem,↓reduceIte,Tryz.f69]
   first
   |exact decide_eq_decide.2 tZ
   |exact⟨λq=>decide_eq_decide.2 tZ,λq=>(decide_eq_false tZ).symm⟩
  |skip
   first|refine aG.mk (within x.fA 0 (k-1)) ?_|refine aD.mk (within x.fA 0 (k-1)) ?_|refine aG.bC (within x.fA 0 (k-1)) ?_|refine aD.mk (aZ.dB (within x.fA 0 (k-1))) ?_
   simp -dsimp -implicitDefEqProofs only[go_sem,↓reduceIte,Tryz.f69]
   refine⟨λq=>?_,λq=>(decide_eq_false tZ).symm⟩
   first
   |exact decide_eq_decide.2 tZ
   |exact⟨λq=>decide_eq_decide.2 tZ,λq=>(decide_eq_false tZ).symm⟩
  |skip
   first|refine aG.mk (within x.fA 0 (k-1)) ?_|refine aD.mk (within x.fA 0 (k-1)) ?_|refine aG.bC (within x.fA 0 (k-1)) ?_|refine aD.mk (aZ.dB (within x.fA 0 (k-1))) ?_
   simp -dsimp -implicitDefEqProofs only[go_sem,↓reduceIte,Tryz.f69]
   refine⟨λq=>?_,λq=>(decide_eq_false tZ).symm⟩
   rw[ek]
   first|refine aG.mk (within x.fB 0 (k-1)) ?_|refine aD.mk (within x.fB 0 (k-1)) ?_|refine aG.bC (within x.fB 0 (k-1)) ?_|refine aD.mk (aZ.dB (within x.fB 0 (k-1))) ?_
   simp -dsimp -implicitDefEqProofs only[go_sem,↓reduceIte,Tryz.f69]
   trace_state
   sorry
theorem aJQ:∀ (c:List aC),OV.dD (c.map .v)=[]
 | []=>OV.sV
 |x::c=>by rw[qH,OV.p7,OV.xK,aJQ c];rfl
theorem aHG:∀ (l:List (List aC)),OV.cT (l.map (List.map .v))=[]
 | []=>rfl
 |x::l=>by rw[qH,OV.cT,aJQ,aHG l];rfl
theorem a36 (l:List (List aC)):OV.cells (l.map (List.map .v))=l.map (List.map Cell.v):=by simp[OV.cells,OV.val]
def oY (nz:OV) (sz:Nat) (es:List (List aC)):Option Nat->OV
 |none=>nz
 |some n=>.sl n sz (es.map (List.map .v))
theorem a38 (nz:OV) (hz:nz.rows=[]) (sz:Nat) (es:List (List aC)) (o:Option Nat):(oY nz sz es o).rows=o.toList.map λn=>(n,.row sz (es.map (List.map Cell.v))):=by
 cases o with
 |none=>exact hz
 |some n=>show(OV.sl n sz (es.map (List.map .v))).rows=_;rw[OV.rF,aHG,a36];rfl
theorem aTX {α:Type} {R:α->List OV->Prop} {c:α->List aC} (hR:∀ x,R x ((c x).map .v)):∀ l:List α,OR R l ((l.map c).map (List.map .v))
 | []=>trivial
 |x::l=>⟨hR x,aTX hR l⟩
theorem aZP {α:Type} {R:α->List OV->Prop} {c:α->List aC} (hR:∀ x,R x ((c x).map .v)) {h:Heap} {sz:Nat} {l:List α} {o:Option Nat} (ho:oZ h sz (rowsOf c l) o):OS R sz l (oY (.nil sz) sz (l.map c) o):=by
 cases o with
 |none=>have:l=[]:=eN.1 ho;subst this;exact OS.nil
 |some n=>exact OS.mk (aTX hR l)
theorem aQX {α:Type} {c:α->List aC} {h:Heap} {sz:Nat} {l:List α} {o:Option Nat} (ho:oZ h sz (rowsOf c l) o):Sub (gK sz l.length o) (oY (.nil sz) sz (l.map c) o).val:=by
 cases o with
 |none=>exact Sub.nil sz true
 |some n=>rw[bD];show Sub _ (aC.os n sz 0 ((l.map c).map (List.map OV.v)).length);simp only[iG];exact Sub.refl _
theorem a9W {α:Type} {c:α->List aC} {sz:Nat} {l:List α} {o:Option Nat}:(oY (.v .aW) sz (l.map c) o).val=gK sz l.length o:=by
 cases o with
 |none=>rfl
 |some n=>rw[bD];show aC.os n sz 0 ((l.map c).map (List.map OV.v)).length=_;simp only[iG]
theorem aQY {α:Type} {c:α->List aC} {h:Heap} {sz:Nat} {l:List α} {o:Option Nat} (ho:oZ h sz (rowsOf c l) o):Sub (oY (.v .aW) sz (l.map c) o).oG (eQ sz c l):=by
 cases o with
 |none=>have:l=[]:=eN.1 ho;subst this;exact Sub.nil sz false
 |some n =>
  have e:(oY (.v .aW) sz (l.map c) (some n)).oG=eQ sz c l:=by
   show(OV.sl n sz ((l.map c).map (List.map .v))).oG=_
   rw[OV.oG,OV.kM,aDB,aDB]
   refine congrArg (aC.sl sz · false) (aUT λa _=>?_)
   show((c a).map OV.v).map OV.oG=c a
   rw[aDB]
   exact List.map_id'' (λ_=>rfl) _
  rw[e];exact Sub.refl _
def cD.t (S:cD) (inp:Int):cW:=⟨inp,S.code,S.guards,S.dZ⟩
def aIN (nz:Nat->OV) (inp:Int) (S:cD) (om og ov:Option Nat):List OV:=[.v (I inp),oY (nz 4) 4 (S.code.map aP.c) om,oY (nz 2) 2 (S.guards.map bL.c) og,oY (nz 1) 1 (S.dZ.map λn=>[I n]) ov]
theorem aC4 (nz:Nat->OV) (hz:∀ k,(nz k).rows=[]) (inp:Int) (S:cD) (om og ov:Option Nat) :
  OV.dD (aIN nz inp S om og ov)=(om.toList.map λn=>(n,bW.row 4 (rowsOf aP.c S.code)))++((og.toList.map λn=>(n,.row 2 (rowsOf bL.c S.guards)))++(ov.toList.map λn=>(n,.row 1 (rowsOf (λn=>[I n]) S.dZ)))):=by
 simp only[aIN,OV.p7,OV.sV,OV.xK,a38 _ (hz _),eC,eV,rowsOf]
theorem uT {α β:Type} {f:α->β} {o:Option α} {x:β} (h:x∈o.toList.map f):∃ n,some n=o/\x=f n:=by
 cases o with
 |none=>simp at h
 |some n=>exact⟨n,rfl,by simpa using h⟩
theorem iW.r8 {h0 h:Heap} {nb:Nat} {bx:cD->Option Nat->Option Nat->Option Nat->bW} {S:cD} {om og ov:Option Nat} (H:iW bx h0 nb S om og ov h) (nz:Nat->OV) (hz:∀ k,(nz k).rows=[]) (inp:Int) :
  sM h (OV.dD (aIN nz inp S om og ov))/\(∀ n∈bR (OV.dD (aIN nz inp S om og ov)),some n=om∨some n=og∨some n=ov):=by
 rw[aC4 nz hz]
 constructor
 ·intro p hp
  rcases mS.1 hp with q|q
  ·obtain⟨n,e,rfl⟩:=uT q;exact(H.kinds n).2.1 e
  ·rcases mS.1 q with q|q
   ·obtain⟨n,e,rfl⟩:=uT q;exact(H.kinds n).2.2.1 e
   ·obtain⟨n,e,rfl⟩:=uT q;exact(H.kinds n).2.2.2 e
 ·intro n hn
  obtain⟨p,hp,rfl⟩:=rC.1 hn
  rcases mS.1 hp with q|q
  ·obtain⟨n,e,rfl⟩:=uT q;exact .inl e
  ·rcases mS.1 q with q|q
   ·obtain⟨n,e,rfl⟩:=uT q;exact .inr (.inl e)
   ·obtain⟨n,e,rfl⟩:=uT q;exact .inr (.inr e)
theorem iW.new {h0 h:Heap} {nb:Nat} {bx:cD->Option Nat->Option Nat->Option Nat->bW} {S:cD} {om og ov:Option Nat} (H:iW bx h0 nb S om og ov h) (inp:Int) :
  fY h0 (OV.dD (aIN OV.nil inp S om og ov)) (λn=>if n=nb then none else h n):=by
 obtain⟨h1,h2⟩:=H.r8 OV.nil OV.l5 inp
 have a:=H.apart
 have hne:∀ n,(some n=om∨some n=og∨some n=ov)->¬n=nb:=λn hn e=>by
  have:=(a n).1 e
  rcases hn with q|q|q
  ·exact this.1 q
  ·exact this.2.1 q
  ·exact this.2.2 q
 refine⟨?_,λn hn=>H.fresh n (.inr (h2 n hn)),λp hp=>(if_neg (hne _ (h2 _ (List.mem_map_of_mem hp)))).trans (h1 p hp),λn hn=>?_⟩
 ·rw[aC4 OV.nil OV.l5]
  have x1:∀ m g,om=some m->og=some g->¬m=g:=λm g e1 e2 q=>((a m).2.1 e1.symm).1 (by rw[e2,q])
  have x2:∀ m g,om=some m->ov=some g->¬m=g:=λm g e1 e2 q=>((a m).2.1 e1.symm).2 (by rw[e2,q])
  have x3:∀ m g,og=some m->ov=some g->¬m=g:=λm g e1 e2 q=>(a m).2.2.1 e1.symm (by rw[e2,q])
  cases om <;> cases og <;> cases ov <;> simp_all [bR]
 ·by_cases e:n=nb
  ·show(if n=nb then none else h n)=_
   rw[if_pos e,H.fresh n (.inl e)]
  ·show(if n=nb then none else h n)=_
   rw[if_neg e]
   have hm:∀ (o:Option Nat),(o=om∨o=og∨o=ov)->some n=o->False:=λo ho q=>hn (by
    rw[aC4 OV.nil OV.l5]
    rcases ho with rfl|rfl|rfl <;> simp[bR,←q])
   exact H.upto n e (λq=>hm om (.inl rfl) q) (λq=>hm og (.inr (.inl rfl)) q) (λq=>hm ov (.inr (.inr rfl)) q)
theorem iW.own {h0 h:Heap} {nb:Nat} {bx:cD->Option Nat->Option Nat->Option Nat->bW} {S:cD} {om og ov:Option Nat} (H:iW bx h0 nb S om og ov h) (inp:Int) :
  ∃ r1 g l,Shift (.eW [.agg [I inp,gK 4 S.code.length om,gK 2 S.guards.length og,gK 1 S.dZ.length ov],I 0,I 0]) h r1 g/\QA (S.t inp).o (λy=>.eW [y,I 0,I 0]) r1 l/\fY h0 l g:=by
 refine⟨.eW [.agg ((aIN OV.nil inp S om og ov).map OV.val),I 0,I 0],λn=>if n=nb then none else h n,_,Shift.of (Sub.eW (.cons (Sub.agg ?_) (.cons (.refl _) (.cons (.refl _) .nil)))) λn=>?_,⟨aIN OV.nil inp S om og ov,?_,rfl,rfl⟩,H.new inp⟩
 ·exact .cons (.refl _) (.cons (aQX H.code) (.cons (aQX H.yG) (.cons (aQX H.dZ) .nil)))
 ·by_cases e:n=nb
  ·exact .inl (if_pos e)
  ·exact .inr (if_neg e)
 ·exact⟨_,_,_,rfl,aZP (R:=aP.o) (c:=aP.c) (λ_=>rfl) H.code,aZP (R:=bL.o) (c:=bL.c) (λ_=>rfl) H.yG,aZP (R:=oP I) (c:=λn=>[I n]) (λ_=>rfl) H.dZ⟩
theorem aV0 (k:Nat):(OV.v .aW).rows=[]:=OV.xK _
theorem iW.view {h0 h:Heap} {nb:Nat} {bx:cD->Option Nat->Option Nat->Option Nat->bW} {S:cD} {om og ov:Option Nat} (H:iW bx h0 nb S om og ov h) (inp:Int) :
  View h (.agg [I inp,gK 4 S.code.length om,gK 2 S.guards.length og,gK 1 S.dZ.length ov]) (.agg (S.t inp).c):=by
 have:=View.agg (aIN (λ_=>.v .aW) inp S om og ov) (H.r8 _ aV0 inp).1
 rw[show(aIN (λ_=>.v .aW) inp S om og ov).map OV.val=[I inp,gK 4 S.code.length om,gK 2 S.guards.length og,gK 1 S.dZ.length ov]by simp only[aIN,qH,x4,a9W];rfl]at this
 refine this.sub (Sub.agg ?_)
 rw[cW.aU]
 exact .cons (.refl _) (.cons (aQY H.code) (.cons (aQY H.yG) (.cons (aQY H.dZ) .nil)))
def aDZ:cW:=⟨0,[],[],[]⟩
def goT:List (List UInt8)->Nat->pQ->pQ ⊕ Nat
 | [],_,S=>.inl S
 |s::l,i,S=>match kO s S with|none=>.inr i|some S'=>goT l (i+1) S'
theorem a39 (i:Nat) (S:pQ):goT [] i S=.inl S:=rfl
theorem a4A {l:List (List UInt8)} {k i:Nat} {S:pQ} (hk:k<l.length) (h:kO l[k] S=none):goT (l.drop k) i S=.inr i:=by
 rw[List.drop_eq_getElem_cons hk,goT,h]
theorem a9X {l:List (List UInt8)} {k i:Nat} {S S':pQ} (hk:k<l.length) (h:kO l[k] S=some S'):goT (l.drop k) i S=goT (l.drop (k+1)) (i+1) S':=by
 rw[List.drop_eq_getElem_cons hk,goT,h]
def a9Y (e:List UInt8) (n:Nat):pQ ⊕ Nat->cW×Int×Int
 | .inr i=>(aDZ,(i:Int)+1,5)
 | .inl S=>if ¬e=[]∨¬S.cX=3 then(aDZ,(n:Int)+1,5)else if (S.r.t S.inp).ok then(S.r.t S.inp,0,0)else(aDZ,0,1)
def kW (t:List UInt8):cW×Int×Int:=if 50000<t.length then(aDZ,0,2)else
 a9Y ((l7 10 t).getD ((l7 10 t).length-1) []) ((l7 10 t).length-1) (goT ((l7 10 t).take ((l7 10 t).length-1)) 0 pQ.none)
def pQ.small (S:pQ) (k:Nat):Prop:=S.code.length<=k/\S.guards.length<=k/\S.outs.length<=60000
theorem pQ.aQZ:pQ.none.small 0:=⟨j4 _,j4 _,gM _⟩
theorem aQ0 {hi:Int} {ps:List (List UInt8)} {l:List Int} (h:nM hi ps=some l):l.length=ps.length:=by
 rw[nM]at h
 split at h
 ·rw[←eO h,iG]
 ·cases h
theorem aON {s:List UInt8} {S S':pQ} {k:Nat} (hs:s.length<=50000) (h:S.small k) (e:kO s S=some S'):S'.small (k+1):=by
 obtain⟨h1,h2,h3⟩:=h
 unfold kO at e
 split at e
 ·cases e
 ·rename_i n hn
  have hl:=aQ0 hn
  have hl2:=(aBN 32 s).1
  rw[List.length_tail]at hl
  split at e
  ·cases e
  ·unfold oA at e
   repeat'(split at e)
   all_goals first
    |(cases e;done)
    |(cases e;refine⟨?_,?_,?_⟩ <;> simp only[k8,lV] <;> omega)
theorem a4B:a6J aDZ.o [.int .i64 0,.aW,.aW,.aW]:=⟨_,⟨.nil 4,.nil 2,.nil 1,rfl,OS.nil,OS.nil,OS.nil⟩,rfl,by
 exact Sub.agg (.cons (.refl _) (.cons (Sub.nil 4 true) (.cons (Sub.nil 2 true) (.cons (Sub.nil 1 true) .nil))))⟩
theorem xT {h h':Heap} {a b:Int} {r:cW×Int×Int} (hr:r=(aDZ,a,b)) (hl:h.le h'):∃ r1 g l,Shift (.eW [.agg [.int .i64 0,.aW,.aW,.aW],I a,I b]) h' r1 g/\QA r.1.o (λy=>.eW [y,I r.2.1,I r.2.2]) r1 l/\fY h l g:=by
 subst hr
 exact aYH a4B (sA [] [_,_]) hl
theorem aZQ {h0 h F:Heap} {nb:Nat} {bx:cD->Option Nat->Option Nat->Option Nat->bW} {S:cD} {om og ov:Option Nat} {inp:Int} {r:cW×Int×Int} (hr:r=(S.t inp,0,0)) (H:iW bx h0 nb S om og ov h) (hl:h.le F) :
  ∃ r1 g l,Shift (.eW [.agg [I inp,gK 4 S.code.length om,gK 2 S.guards.length og,gK 1 S.dZ.length ov],I 0,I 0]) F r1 g/\QA r.1.o (λy=>.eW [y,I r.2.1,I r.2.2]) r1 l/\fY h0 l g:=by
 subst hr
 obtain⟨r1,g,l,h1,h2,h3⟩:=H.own inp
 exact⟨r1,g,l,Shift.trans (Shift.of (Sub.refl _) hl) h1,h2,h3⟩
@[go_sem] def a9Z:List Nat:=[0,1,3]
theorem aQ1 (r c:Int) (hc:0<=c/\c<=3200) (n:Nat) {h0:Heap} (hn:h0 n=some (.row 1 [[.v (I c)]])):aZ Tryz.prog 71 [I r,.op n 1 0 0] (.bool (!decide (0<=r/\r<=c-1))) h0:=by
 have hg (h:Heap) (hle:h0.le h):=Heap.zR hle hn
 have e1:IntKind.i64.wrap (c-1)=c-1:=IntWalk.i64_in _ aA
 refine aBC 9 a9Z cR cC Tryz.func71 λh hle=>?_
 simp -dsimp -implicitDefEqProofs only[go_sem,↓reduceIte,Tryz.f71]
 have hn':=hg h hle
 simp -dsimp -implicitDefEqProofs only[go_sem,↓reduceIte,Tryz.f71,hn',e1]
 first|refine aG.mk (within r 0 (c-1)) ?_|refine aD.mk (within r 0 (c-1)) ?_|refine aG.bC (within r 0 (c-1)) ?_|refine aD.mk (aZ.dB (within r 0 (c-1))) ?_
 simp -dsimp -implicitDefEqProofs only[go_sem,↓reduceIte,Tryz.f71]
@[go_sem] def aQ2:List Nat:=[0,1,2,3,4,5,7,30,35,36,37,38,46,49,50,51,52,60]
theorem yM (t:cW) (hc:t.aS.length<=1048576) (hg:t.bX.length<=1048576) (ho:t.aO.length<=1048576):eX Tryz.prog 25 [.agg t.c] (.bool (decide t.ok)):=by
 have no:¬t.ok->false=decide t.ok:=λq=>(decide_eq_false q).symm
 rw[cW.aU]
 refine eJ 67 aQ2 aGH cC Tryz.func25 λh=>?_
 simp -dsimp -implicitDefEqProofs only[go_sem,↓reduceIte,Tryz.f25]
 first|refine aG.mk (within t.cB 0 12) ?_|refine aD.mk (within t.cB 0 12) ?_|refine aG.bC (within t.cB 0 12) ?_|refine aD.mk (aZ.dB (within t.cB 0 12)) ?_
 simp -dsimp -implicitDefEqProofs only[go_sem,↓reduceIte,Tryz.f25]
 repeat'(with_reducible first|intro _|refine And.intro ?_ ?_)
 ·first|refine aG.mk (within t.aO.length 1 12) ?_|refine aD.mk (within t.aO.length 1 12) ?_|refine aG.bC (within t.aO.length 1 12) ?_|refine aD.mk (aZ.dB (within t.aO.length 1 12)) ?_
  simp -dsimp -implicitDefEqProofs only[go_sem,↓reduceIte,Tryz.f25]
  repeat'(with_reducible first|intro _|refine And.intro ?_ ?_)
  ·exact no λq=>by have:=q.lens;omega
  rename_i n hn _
  have e1:IntKind.i64.wrap ((t.aS.length:Int)-1)=t.aS.length-1:=IntWalk.i64_in _ aA
  rw[aJ]
  refine dJ aQ2 aGH cC (λk:Nat=>[(1,.ip 4 [[I t.cB,eQ 4 aP.c t.aS,eQ 2 bL.c t.bX,ints t.aO]] 0 0),(3,.op n 1 0 0),(35,eQ 4 aP.c t.aS),(36,I t.aS.length),(37,I k)]) (λ_=>aR h n (.row 1 [[.v (I t.aS.length)]])) (λk=>k<=t.aS.length/\∀ (j:Nat) (hj:j<t.aS.length),j<k->kE t.aS[j] j t.cB) (λk=>t.aS.length-k) 0 aAP ?_
  intro k ⟨hk,hp⟩
  rcases cQ k t.aS.length with hlt|hge
  ·have ea:t.aS[k]?=some t.aS[k]:=cP hlt
   have hins:=a35 t t.aS[k] k aA aA
   rw[aP.aU,cW.aU]at hins
   simp -dsimp -implicitDefEqProofs only[go_sem,↓reduceIte,Tryz.f25,ea,aP.aU]
   repeat'(with_reducible first|intro _|refine And.intro ?_ ?_)
   all_goals try omega
   rename_i b hbb
   have hle:∀ X,(aR h n (.row 1 [[.v (I t.aS.length)]])).le (aR (aR h n (.row 1 [[.v (I t.aS.length)]])) b X):=λX=>Heap.bA (by rw[aE _ _ _ _ hbb.1];exact hbb.2) (Heap.le_refl _)
   have a90:∀ X,h.le (aR (aR h n (.row 1 [[.v (I t.aS.length)]])) b X):=λX=>Heap.le_trans (Heap.bA hn (Heap.le_refl _)) (hle X)
   rw[aJ]
   first|refine aG.mk (hins) ?_|refine aD.mk (hins) ?_|refine aG.bC (hins) ?_|refine aD.mk (aZ.dB (hins)) ?_
   simp -dsimp -implicitDefEqProofs only[go_sem,↓reduceIte,Tryz.f25]
   refine⟨λhq=>⟨no λq=>hq (q.code k hlt),a90 _⟩,λhq=>⟨k+1,IntWalk.i64_in _ aA,hle _,⟨by omega,?_⟩,by omega⟩⟩
   intro j hj hjk
   rcases aFA.1 hjk with z|rfl
   ·exact hp j hj z
   ·exact hq
  have hk':k=t.aS.length:=by omega
  subst hk'
  have hcode:yL t.cB t.aS:=λj hj=>hp j hj hj
  simp -dsimp -implicitDefEqProofs only[go_sem,↓reduceIte,Tryz.f25,cV]
  intro _
  refine dJ aQ2 aGH cC (λk:Nat=>[(1,.ip 4 [[I t.cB,eQ 4 aP.c t.aS,eQ 2 bL.c t.bX,ints t.aO]] 0 0),(3,.op n 1 0 0),(49,eQ 2 bL.c t.bX),(50,I t.bX.length),(51,I k)]) (λ_=>aR h n (.row 1 [[.v (I t.aS.length)]])) (λk=>k<=t.bX.length/\∀ g∈t.bX.take k,0<=g.oT/\g.oT<=(t.aS.length:Int)-1) (λk=>t.bX.length-k) 0 aAP ?_
  intro k ⟨hk2,hp2⟩
  rcases cQ k t.bX.length with hlt|hge
  ·have ea:t.bX[k]?=some t.bX[k]:=cP hlt
   have hins:=within t.bX[k].oT 0 (t.aS.length-1)
   simp -dsimp -implicitDefEqProofs only[go_sem,↓reduceIte,Tryz.f25,ea,bL.aU]
   repeat'(with_reducible first|intro _|refine And.intro ?_ ?_)
   all_goals try omega
   rename_i b hbb
   have hle:∀ X,(aR h n (.row 1 [[.v (I t.aS.length)]])).le (aR (aR h n (.row 1 [[.v (I t.aS.length)]])) b X):=λX=>Heap.bA (by rw[aE _ _ _ _ hbb.1];exact hbb.2) (Heap.le_refl _)
   have a90:∀ X,h.le (aR (aR h n (.row 1 [[.v (I t.aS.length)]])) b X):=λX=>Heap.le_trans (Heap.bA hn (Heap.le_refl _)) (hle X)
   obtain⟨bN6,bFR,bFS,bN7⟩:=c7 (show ¬b=n from hbb.1)
   rw[aJ]
   simp -dsimp -implicitDefEqProofs only[go_sem,↓reduceIte,Tryz.f25,bFR,bFS,aE,e1]
   first|refine aG.mk (hins) ?_|refine aD.mk (hins) ?_|refine aG.bC (hins) ?_|refine aD.mk (aZ.dB (hins)) ?_
   simp -dsimp -implicitDefEqProofs only[go_sem,↓reduceIte,Tryz.f25]
   refine⟨λhq=>⟨no λq=>hq (q.yG _ (eF hlt)),a90 _⟩,λhq=>⟨k+1,IntWalk.i64_in _ aA,hle _,⟨by omega,oS hlt hp2 hq⟩,by omega⟩⟩
  have hk':k=t.bX.length:=by omega
  subst hk'
  rw[jG]at hp2
  simp -dsimp -implicitDefEqProofs only[go_sem,↓reduceIte,Tryz.f25,cV]
  refine aG.bC (p9 t.aO (λr=>!decide (0<=r/\r<=(t.aS.length:Int)-1)) 71 [.op n 1 0 0] λr _=>aQ1 r t.aS.length aA n (by simp[aM])) ?_
  simp -dsimp -implicitDefEqProofs only[go_sem,↓reduceIte,Tryz.f25]
  refine⟨?_,Heap.bA hn (Heap.le_refl _)⟩
  rw[aS1,decide_eq_decide]
  exact⟨λq=>⟨by omega,by omega,hcode,hp2,q⟩,λq=>q.outs⟩
 all_goals exact no λq=>by have:=q.lens;have:=q.inp;omega
theorem aBZ {t:List UInt8} (h:50000<t.length):kW t=(aDZ,0,2):=by rw[kW,if_pos h]
theorem a4C {h:Heap} {nb:Nat} (hn:h nb=none):o8 h nb pQ.none (aR h nb (.row 6 [[.v (I 0),.v .aW,.v .aW,.v .aW,.v (.bool false),.v (.bool false)]])) :=
 ⟨none,none,none,aH _ _ _,fN _ _ _,rfl,rfl,rfl,λn hn2=>by rcases hn2 with rfl|hn2;exact hn;simp at hn2,λn h1 _ _ _=>aE _ _ _ _ h1⟩
@[go_sem] def aQ3:List Nat:=[0,2,3,4,5,6,7,8,9,12,23,24,25,26,33,38,54]
theorem aV1 (t:List UInt8) (ht:t.length<=1048576):FnN Tryz.prog 27 [.str t] (QA (kW t).1.o (λy=>.eW [y,I (kW t).2.1,I (kW t).2.2])):=by
 by_cases hlen:50000<t.length
 ·have hR:=aBZ hlen
  have c0:((t.length:Int) > 50000)=True:=eq_true aA
  refine aIH 66 aQ3 cR cC Tryz.func27 λh=>?_
  simp -dsimp -implicitDefEqProofs only[go_sem,↓reduceIte,Tryz.f27,c0]
  intro n2 z2 _
  rw[aJ]
  exact xT hR (by repeat'(first|exact Heap.le_refl _|refine Heap.nG ?_|refine Heap.bA (by first|assumption|(rw[aE _ _ _ _ jH];assumption)|(rw[aE _ _ _ _ jH,aE _ _ _ _ jH];assumption)|(rw[aE _ _ _ _ jH,aE _ _ _ _ jH,aE _ _ _ _ jH];assumption)) ?_))
 ·have hsp:=aYQ t 10 aA
  have hsl:=aBN 10 t
  have hne:=aQC 10 t
  have hR:kW t=a9Y ((l7 10 t).getD ((l7 10 t).length-1) []) ((l7 10 t).length-1) (goT ((l7 10 t).take ((l7 10 t).length-1)) 0 pQ.none):=by rw[kW,if_neg hlen]
  generalize l7 10 t=ls at *
  obtain⟨L,hL⟩:∃ L,ls.length=L+1:=⟨ls.length-1,by have:=aJ5.2 hne;omega⟩
  have hLt:L<ls.length:=by omega
  have eL:ls[L]?=some ls[L]:=cP hLt
  have eLt:ls[Int.toNat (L:Int)]?=some ls[L]:=eL
  rw[hL,Nat.add_sub_cancel,gA,eL,aD5]at hR
  have htl:(ls.take L).length=L:=by rw[qI];omega
  have ew:IntKind.i64.wrap (((L+1:Nat):Int)-1)=L:=by rw[IntWalk.i64_in _ aA];omega
  have bFT:∀ s∈ls.take L,s.length<=50000:=λs hs=>by have:=hsl.2 s (aJ4 hs);omega
  have c0:((t.length:Int) > 50000)=False:=eq_false aA
  refine aIH 66 aQ3 cR cC Tryz.func27 λh=>?_
  simp -dsimp -implicitDefEqProofs only[go_sem,↓reduceIte,Tryz.f27,c0]
  intro n2 z2
  try simp -dsimp -implicitDefEqProofs only[go_sem,↓reduceIte,Tryz.f27]
  intro _
  first|refine aG.mk (hsp) ?_|refine aD.mk (hsp) ?_|refine aG.bC (hsp) ?_|refine aD.mk (aZ.dB (hsp)) ?_
  simp -dsimp -implicitDefEqProofs only[go_sem,↓reduceIte,Tryz.f27]
  simp -dsimp -implicitDefEqProofs only[go_sem,↓reduceIte,Tryz.f27,hL,ew]
  intro nb bFU
  obtain⟨aTV,gC,gB,a34⟩:=c7 (show ¬nb=n2 from zH bFU)
  have bLL:h nb=none:=zH bFU
  rw[←List.map_take]
  generalize ls.take L=lt at *
  have hz:aR h n2 (.row 4 [[.v (I 0),.v .aW,.v .aW,.v .aW]]) nb=none:=by rw[aE _ _ _ _ aTV];exact bLL
  refine λ_=>⟨by omega,by omega,?_⟩
  intro _
  refine dJ aQ3 cR cC (λx:Nat×pQ×Heap=>[(2,.op n2 4 0 0),(5,eQ 1 (λs=>[.str s]) ls),(6,.op nb 6 0 0),(7,I L),(23,.sl 1 (lt.map λs=>[.str s]) false),(24,I L),(25,I x.1)]) (λx=>x.2.2) (λx=>x.1<=L/\o8 (aR h n2 (.row 4 [[.v (I 0),.v .aW,.v .aW,.v .aW]])) nb x.2.1 x.2.2/\x.2.1.fit/\x.2.1.small x.1/\goT lt 0 pQ.none=goT (lt.drop x.1) x.1 x.2.1) (λx=>L-x.1) (0,pQ.none,aR (aR h n2 (.row 4 [[.v (I 0),.v .aW,.v .aW,.v .aW]])) nb (.row 6 [[.v (I 0),.v .aW,.v .aW,.v .aW,.v (.bool false),.v (.bool false)]])) ⟨by simp[dM,cE,htl],Heap.le_refl _,gM _,a4C hz,pQ.aYU,pQ.aQZ,rfl⟩ ?_
  rintro⟨k,S,g⟩ ⟨hk,hT,hfit,hsm,hgo⟩
  simp only at hk hT hfit hsm hgo ⊢
  rcases cQ k L with hlt|hge
  ·have hkl:k<lt.length:=by omega
   have ea:lt[k]?=some lt[k]:=cP hkl
   have hll:=bFT _ (eF hkl)
   simp -dsimp -implicitDefEqProofs only[go_sem,↓reduceIte,Tryz.f27,ea]
   refine⟨λ_=>⟨hkl,aG.eH (bFQ hT hfit lt[k] hll (by have:=hsm.1;omega) (by have:=hsm.2.1;omega)) ?_⟩,λq=>absurd hlt q⟩
   rintro r_ h' ⟨rfl,hle,hS⟩
   have lR:h' n2=some (.row 4 [[.v (I 0),.v .aW,.v .aW,.v .aW]]):=Heap.zR hle (aH ..)
   cases e:kO lt[k] S with
   |none =>
    simp -dsimp -implicitDefEqProofs only[go_sem,↓reduceIte,Tryz.f27,lR,a1L]
    rw[IntWalk.i64_in ((k:Int)+1) aA]
    exact xT (by rw[hR,hgo,a4A hkl e];rfl) (Heap.bA z2 (Heap.le_trans (Heap.bA z2 (Heap.le_refl _)) hle))
   |some S' =>
    simp -dsimp -implicitDefEqProofs only[go_sem,↓reduceIte,Tryz.f27,lR,aFB]
    exact⟨(k+1,S',h'),IntWalk.i64_in _ aA,Heap.le_refl _,⟨by omega,hS S' e,aVK hfit e,aON hll hsm e,hgo.trans (a9X hkl e)⟩,by simp only;omega⟩
  ·have hk':k=L:=by omega
   rw[hgo,hk',List.drop_of_length_le aA,a39]at hR
   have hle:=hT.le
   obtain⟨om,og,ov,H⟩:=hT
   have hb:=H.box
   unfold eI at hb
   have hkn:¬k<L:=by omega
   have lR:g n2=some (.row 4 [[.v (I 0),.v .aW,.v .aW,.v .aW]]):=Heap.zR hle (aH ..)
   have hhle:∀ X,h.le (aR g n2 X):=λX=>Heap.bA z2 (Heap.le_trans (Heap.bA z2 (Heap.le_refl _)) hle)
   by_cases hE:ls[L]=[]/\S.cX=3
   ·have e1:(ls[L]=[])=True:=eq_true hE.1
    have e3:decide (S.cX=3)=true:=decide_eq_true hE.2
    simp -dsimp -implicitDefEqProofs only[go_sem,↓reduceIte,Tryz.f27,hb,lR,eL,eLt,e1,e3,hkn]
    refine⟨hLt,aG.a6G (yM (S.r.t S.inp) (by have:=hsm.1;show S.code.length<=_;omega) (by have:=hsm.2.1;show S.guards.length<=_;omega) (by have:=hsm.2.2;show S.outs.length<=_;omega)) (qX.cons (H.view S.inp) qX.nil) rfl ?_⟩
    have bFV:¬(¬ls[L]=[]∨¬S.cX=3):=by rintro(z|z);exact z hE.1;exact z hE.2
    simp -dsimp -implicitDefEqProofs only[go_sem,↓reduceIte,Tryz.f27,hb,lR,mB,aQA,Bool.and_self]
    repeat'(with_reducible first|intro _|refine And.intro ?_ ?_)
    all_goals first
     |skip
      rename_i hq
      exact xT (hR.trans ((if_neg bFV).trans (if_neg hq))) (hhle _)
     |skip
      rename_i hq
      obtain⟨g2,rfl,bLM,HB⟩:=H.base z2
      rw[aJ]
      exact aZQ (S:=S.r) (inp:=S.inp) (hR.trans ((if_neg bFV).trans (if_pos hq))) HB (Heap.bA bLM (Heap.le_refl _))
   ·have hR2:kW t=(aDZ,(L:Int)+1,5):=hR.trans (if_pos (by
     by_cases z:ls[L]=[]
     ·exact .inr λw=>hE ⟨z,w⟩
     ·exact .inl z))
    simp -dsimp -implicitDefEqProofs only[go_sem,↓reduceIte,Tryz.f27,hb,lR,eL,eLt,hkn]
    rw[IntWalk.i64_in ((L:Int)+1) aA]
    exact⟨hLt,λz=>⟨λw=>xT hR2 (hhle _),λw=>absurd ⟨z,w⟩ hE⟩,λz=>xT hR2 (hhle _)⟩
def lnT (w:List UInt8) (l:List Int):List UInt8:=w++eU l
def iD (c:aP):List Int:=if c.lT<=2 then[c.aX]else if c.lT=7 then[c.fA]else[c.fA,c.fB]
def lnI (c:aP):List UInt8:=lnT (jZ c.lT) (iD c)
def lnG (g:bL):List UInt8:=lnT (if g.wL then s5 else sD) [g.oT]
def aD9 (t:cW):List (List UInt8):=lnT oU [t.cB]::(t.aS.map lnI++(t.bX.map lnG++[lnT aBP t.aO]))
def rH (t:cW):List UInt8:=((aD9 t).map (·++[10])).flatten
theorem aOO:∀ l:List (List UInt8),(∀ s∈l,(10:UInt8)∉s)->l7 10 ((l.map (·++[10])).flatten)=l++[[]]
 | [],_=>rfl
 |s::l,h=>by
  rw[qH,aWS,aH1,aRK,vL _ _ (h s cK),aOO l λx hx=>h x (by simp[hx])];rfl
theorem aOP:∀ {l:List Int},(∀ n∈l,0<=n)->(10:UInt8)∉eU l
 | [],_=>by simp[eU]
 |n::l,hl=>λq=>by
  rw[eU,aE9]at q
  rcases oH.1 q with q|q
  ·cases q
  ·rcases mS.1 q with q|q
   ·exact aS5 (hl n cK) bU q
   ·exact aOP (λm hm=>hl m (by simp[hm])) q
theorem aLM {w:List UInt8} (hw:(10:UInt8)∉w) {l:List Int} (hl:∀ n∈l,0<=n):(10:UInt8)∉lnT w l:=λq=>by
 rcases mS.1 q with q|q
 ·exact hw q
 ·exact aOP hl q
theorem aB0 {w:List UInt8} {l:List Int} (hw:(32:UInt8)∉w) (hl:¬l=[]) (hr:aYG 999999999 l) (S:pQ):kO (lnT w l) S=oA w l S:=by
 rw[kO,lnT,aVG hw λn hn=>(hr n hn).1,List.tail_cons,(aNV (hi:=999999999) bU).2 ⟨rfl,hr⟩]
 simp only[List.headD_cons]
 rw[if_neg hl]
theorem a60 {k:Int} (h:1<=k/\k<=7):oD (jZ k)=k/\(32:UInt8)∉jZ k/\(10:UInt8)∉jZ k/\¬jZ k=oU/\¬jZ k=s5/\¬jZ k=sD/\¬jZ k=aBP:=by
 obtain rfl|rfl|rfl|rfl|rfl|rfl|rfl:k=1∨k=2∨k=3∨k=4∨k=5∨k=6∨k=7:=by omega
 all_goals exact⟨by decide,by decide,by decide,by decide,by decide,by decide,by decide⟩
theorem aHH {c:aP} {k inp:Int} (h:kE c k inp):1<=c.lT/\c.lT<=7:=by unfold kE at h;omega
theorem aB1 {c:aP} {k inp:Int} (h:kE c k inp) (hk:k<=3200) (hi:inp<=12):aYG 999999999 (iD c)/\¬iD c=[]/\jM c.lT (iD c)=some c:=by
 unfold kE fZ at h
 obtain⟨op,a,b,n⟩:=c
 simp only at h
 rcases h with⟨rfl,rfl,rfl,h1,h2⟩|⟨rfl,rfl,rfl,h1⟩|⟨⟨h0,h1⟩,rfl,h2,h3⟩|⟨rfl,rfl,rfl,h1⟩
 ·refine⟨λx hx=>?_,by simp[iD],by simp[iD,jM]⟩
  simp[iD]at hx;omega
 ·refine⟨λx hx=>?_,by simp[iD],by simp[iD,jM]⟩
  simp[iD]at hx;omega
 ·have e:iD ⟨op,a,b,0⟩=[a,b]:=by rw[iD,if_neg (show ¬op<=2 by omega),if_neg (show ¬op=7 by omega)]
  rw[e]
  refine⟨λx hx=>?_,by simp,?_⟩
  ·simp at hx;omega
  ·simp only
   rw[jM,if_neg (show ¬op<=2 by omega),if_neg (show ¬op=7 by omega)];rfl
 ·refine⟨λx hx=>?_,by simp[iD],by simp[iD,jM]⟩
  simp[iD]at hx;omega
theorem aZS {c:aP} {k inp:Int} (h:kE c k inp) (hk:k<=3200) (hi:inp<=12) {S:pQ} (hs:S.cX=1):kO (lnI c) S=some { S with code:=S.code++[c] }:=by
 obtain⟨o1,o2,o3,o4,o5,o6,o7⟩:=a60 (aHH h)
 obtain⟨n1,n2,n3⟩:=aB1 h hk hi
 have h1:=aHH h
 rw[lnI,aB0 o2 n2 n1,oA,if_neg o4,if_neg (by rintro(q|q);exact o5 q;exact o6 q),if_neg o7,o1,if_neg aA,n3]
 simp only
 rw[if_pos hs]
theorem aOQ (inp:Int) (hi:inp<=12) (rest:List (List UInt8)):∀ (cs:List aP) (i:Nat) (S:pQ),S.cX=1->(∀ c∈cs,∃ k,k<=3200/\kE c k inp)->goT (cs.map lnI++rest) i S=goT rest (i+cs.length) { S with code:=S.code++cs }
 | [],i,S,_,_=>by simp
 |c::cs,i,S,hs,h=>by
  obtain⟨k,hk,hc⟩:=h c cK
  rw[qH,aE9,goT,aZS hc hk hi hs]
  simp only
  rw[aOQ inp hi rest cs (i+1) { S with code:=S.code++[c] } hs λx hx=>h x (by simp[hx])]
  simp only[aH1,aRK,al3]
  rw[show i+1+cs.length=i+(cs.length+1)by omega]
theorem aZT {g:bL} (hg:0<=g.oT/\g.oT<=3200) {S:pQ} (hs:S.cX=1∨S.cX=2):kO (lnG g) S=some { S with guards:=S.guards++[g],cX:=2 }:=by
 obtain⟨r,z⟩:=g
 have hr:aYG 999999999 [r]:=λn hn=>by simp at hn;simp only at hg;omega
 cases z
 ·show kO (lnT sD [r]) S=_
  rw[aB0 bU cK hr,oA,if_neg bU,if_pos (.inr rfl),if_pos ⟨rfl,hs⟩];rfl
 ·show kO (lnT s5 [r]) S=_
  rw[aB0 bU cK hr,oA,if_neg bU,if_pos (.inl rfl),if_pos ⟨rfl,hs⟩];rfl
theorem aTY (rest:List (List UInt8)):∀ (gs:List bL) (i:Nat) (S:pQ),(S.cX=1∨S.cX=2)->(∀ g∈gs,0<=g.oT/\g.oT<=3200)->∃ s,(s=1∨s=2)/\goT (gs.map lnG++rest) i S=goT rest (i+gs.length) { S with guards:=S.guards++gs,cX:=s }
 | [],i,S,hs,_=>⟨S.cX,hs,by simp⟩
 |g::gs,i,S,hs,h=>by
  obtain⟨s,hs',e⟩:=aTY rest gs (i+1) { S with guards:=S.guards++[g],cX:=2 } (.inr rfl) λx hx=>h x (by simp[hx])
  refine⟨s,hs',?_⟩
  rw[qH,aE9,goT,aZT (h g cK) hs]
  simp only at e ⊢
  rw[e]
  simp only[aH1,aRK,al3]
  rw[show i+1+gs.length=i+(gs.length+1)by omega]
theorem a92 {t:cW} (ht:t.ok):∀ s∈aD9 t,(10:UInt8)∉s:=λs hs=>by
 rw[aD9]at hs
 rcases oH.1 hs with rfl|hs
 ·exact aLM bU λn hn=>by simp at hn;have:=ht.inp;omega
 rcases mS.1 hs with hs|hs
 ·obtain⟨c,hc,rfl⟩:=rC.1 hs
  obtain⟨k,hk,rfl⟩:=aAK.1 hc
  have hl:=ht.lens
  have ho:=ht.code k hk
  exact aLM (a60 (aHH ho)).2.2.1 λn hn=>((aB1 ho aA ht.inp.2).1 n hn).1
 rcases mS.1 hs with hs|hs
 ·obtain⟨g,hg,rfl⟩:=rC.1 hs
  refine aLM ?_ λn hn=>?_
  ·cases g.wL <;> decide
  ·simp at hn;have:=ht.yG g hg;omega
 ·rw[nQ.1 hs]
  exact aLM bU λn hn=>(ht.outs n hn).1
theorem aQ4 {t:cW} (ht:t.ok) (hl:(rH t).length<=50000):kW (rH t)=(t,0,0):=by
 have h0:=ht.lens
 have h1:=ht.inp
 have hne:¬t.aO=[]:=λq=>by rw[q]at h0;simp at h0
 rw[kW,if_neg aA,rH,aOO _ (a92 ht)]
 have e1:((aD9 t++[[]]).getD ((aD9 t++[[]]).length-1) []:List UInt8)=[]:=by
  simp[gA]
 have e2:(aD9 t++[[]]).take ((aD9 t++[[]]).length-1)=aD9 t:=by simp
 rw[e1,e2,aD9,goT,aB0 bU cK (λn hn=>by simp at hn;omega),oA,if_pos rfl,if_pos ⟨rfl,rfl⟩]
 simp only
 rw[aOQ t.cB h1.2 _ _ _ _ rfl λc hc=>by
  obtain⟨k,hk,rfl⟩:=aAK.1 hc
  exact⟨k,by omega,ht.code k hk⟩]
 simp only
 obtain⟨s,hs,e⟩:=aTY [lnT aBP t.aO] t.bX (0+1+t.aS.length) ⟨[t.cB].getD 0 0,pQ.none.code++t.aS,pQ.none.guards,pQ.none.outs,1⟩ (.inl rfl) λg hg=>by have:=ht.yG g hg;omega
 rw[e,goT,aB0 bU hne (λn hn=>by have:=ht.outs n hn;omega),oA,if_neg bU,if_neg bU,if_pos rfl,if_pos hs]
 simp only[goT,a9Y]
 have et:cD.t (pQ.r ⟨[t.cB].getD 0 0,pQ.none.code++t.aS,pQ.none.guards++t.bX,t.aO,3⟩) ([t.cB].getD 0 0)=t:=rfl
 rw[if_neg cK,et,if_pos ht]
@[go_sem] def aQ5:List Nat:=[0,1,2,3,4,5,6,37,42,55,60,73]
@[go_sem] def a94:List Nat:=[2,3]
@[go_sem] def a95:Marks:=λid=>match id with|6=>([],(.op 0 (.op 1 (.op 2 (.op 3 (.op 4 (.op 5 (.op 6 (.op 7 (.op 8 (.op 9 (.op 10 .nil))))))))))),[])|11=>([],(.op 0 (.op 1 (.op 2 (.op 3 (.op 4 (.op 5 (.op 6 (.op 7 (.op 8 (.op 9 (.op 10 .nil))))))))))),[])|_=>([],.nil,[])
theorem aZU (t:cW) (hc:t.aS.length<=1048576) (hg:t.bX.length<=1048576) (ho:t.aO.length<=1048576):eX Tryz.prog 28 [.agg t.c,.agg t.c] (.bool true):=by
 have hs:=aGU t.aO t.aO
 rw[decide_eq_true rfl]at hs
 rw[cW.aU]
 refine eJ 74 aQ5 a94 a95 Tryz.func28 λh=>?_
 simp -dsimp -implicitDefEqProofs only[go_sem,↓reduceIte,Tryz.f28]
 intro _ _ _ _
 first|refine aG.mk (hs) ?_|refine aD.mk (hs) ?_|refine aG.bC (hs) ?_|refine aD.mk (aZ.dB (hs)) ?_
 simp -dsimp -implicitDefEqProofs only[go_sem,↓reduceIte,Tryz.f28]
 refine dJ aQ5 a94 a95 (λk:Nat=>[(2,.ip 4 [[I t.cB,eQ 4 aP.c t.aS,eQ 2 bL.c t.bX,ints t.aO]] 0 0),(3,.ip 4 [[I t.cB,eQ 4 aP.c t.aS,eQ 2 bL.c t.bX,ints t.aO]] 0 0),(5,I k)]) (λ_=>h) (λk=>k<=t.aS.length) (λk=>t.aS.length-k) 0 ⟨by simp[dM,cE],Heap.le_refl _,gM _⟩ ?_
 intro k hk
 rcases cQ k t.aS.length with hlt|hge
 ·have ea:t.aS[k]?=some t.aS[k]:=cP hlt
  simp -dsimp -implicitDefEqProofs only[go_sem,↓reduceIte,Tryz.f28,hlt,ea,aP.aU]
  exact λ_=>⟨by kernel_rfl,k+1,IntWalk.i64_in _ aA,hlt,by omega⟩
 ·obtain rfl:k=t.aS.length:=by omega
  simp -dsimp -implicitDefEqProofs only[go_sem,↓reduceIte,Tryz.f28,cV,fW]
  intro _
  refine dJ aQ5 a94 a95 (λk:Nat=>[(2,.ip 4 [[I t.cB,eQ 4 aP.c t.aS,eQ 2 bL.c t.bX,ints t.aO]] 0 0),(3,.ip 4 [[I t.cB,eQ 4 aP.c t.aS,eQ 2 bL.c t.bX,ints t.aO]] 0 0),(6,I k)]) (λ_=>h) (λk=>k<=t.bX.length) (λk=>t.bX.length-k) 0 ⟨by simp[dM,cE],Heap.le_refl _,gM _⟩ ?_
  intro k hk
  rcases cQ k t.bX.length with hlt|hge
  ·have ea:t.bX[k]?=some t.bX[k]:=cP hlt
   simp -dsimp -implicitDefEqProofs only[go_sem,↓reduceIte,Tryz.f28,hlt,ea,bL.aU]
   exact λ_=>⟨by kernel_rfl,k+1,IntWalk.i64_in _ aA,hlt,by omega⟩
  ·obtain rfl:k=t.bX.length:=by omega
   simp -dsimp -implicitDefEqProofs only[go_sem,↓reduceIte,Tryz.f28,cV,fW]
@[go_sem] def bFW:List Nat:=[8,18]
theorem aLN (l:List Int) (hl:l.length<=1000000) (hn:∀ n∈l,fZ n):eX Tryz.prog 77 [eQ 1 (λn=>[I n]) l,.str [32]] (.str (Go.Lib.join (l.map Go.Lib.itoa) [32])):=by
 refine eJ 24 aSY bFW cC Tryz.func77 λh=>?_
 simp -dsimp -implicitDefEqProofs only[go_sem,↓reduceIte,Tryz.f77]
 repeat'(with_reducible first|intro _|refine And.intro ?_ ?_)
 all_goals try(first|omega|decide)
 refine dJ aSY bFW cC (λx:Nat×Option Nat=>[(1,.str [32]),(5,iH 1 (l.take x.1).length x.2),(9,eQ 1 (λn=>[I n]) l),(10,I l.length),(11,I x.1)]) (λx=>c8 h (.row 1 (((l.take x.1).map λn=>[.str (Go.Lib.itoa n)]).map (List.map .v))) x.2) (λx=>x.1<=l.length/\fM h (l.take x.1) x.2) (λx=>l.length-x.1) (0,none) (by simp[dM,cE,Heap.le_refl,iH,c8,fM]) ?_
 rintro⟨k,o⟩ ⟨hk,ho⟩
 simp only at hk ho ⊢
 rcases cQ k l.length with hlt|hge
 ·have ea:l[k]?=some l[k]:=cP hlt
  have hnk:=hn _ (eF hlt)
  have hy:l.take (k+1)=l.take k++[l[k]]:=pD hlt
  have hlk:(l.take k).length<=l.length:=by rw[qI];omega
  cases o with
  |none =>
   rw[bK]at ho
   rw[ho]at hy ⊢
   simp -dsimp -implicitDefEqProofs only[go_sem,↓reduceIte,Tryz.f77,b5,aQ,ea]
   repeat'(with_reducible first|intro _|refine And.intro ?_ ?_)
   all_goals try omega
   first|refine aG.mk (decimal l[k] hnk) ?_|refine aD.mk (decimal l[k] hnk) ?_|refine aG.bC (decimal l[k] hnk) ?_|refine aD.mk (aZ.dB (decimal l[k] hnk)) ?_
   simp -dsimp -implicitDefEqProofs only[go_sem,↓reduceIte,Tryz.f77]
   repeat'(with_reducible first|intro _|refine And.intro ?_ ?_)
   all_goals try(first|omega|decide)
   rename_i n hn
   refine⟨(k+1,some n),?_⟩
   simp only[hy]
   refine⟨⟨rfl,?_⟩,Heap.le_refl _,⟨by omega,hn⟩,by omega⟩
   rw[IntWalk.i64_in _ aA];rfl
  |some n =>
   rw[aT]at ho
   simp -dsimp -implicitDefEqProofs only[go_sem,↓reduceIte,Tryz.f77,aY,aL,ea]
   repeat'(with_reducible first|intro _|refine And.intro ?_ ?_)
   all_goals try omega
   first|refine aG.mk (decimal l[k] hnk) ?_|refine aD.mk (decimal l[k] hnk) ?_|refine aG.bC (decimal l[k] hnk) ?_|refine aD.mk (aZ.dB (decimal l[k] hnk)) ?_
   simp -dsimp -implicitDefEqProofs only[go_sem,↓reduceIte,Tryz.f77]
   repeat'(with_reducible first|intro _|refine And.intro ?_ ?_)
   all_goals try(first|omega|decide|exact j4 _)
   rename_i b hb
   refine⟨(k+1,some b),?_⟩
   simp only[hy,aL,aY,aT]
   refine⟨⟨by rw[k8];rfl,?_⟩,?_,⟨by omega,hb.2⟩,by omega⟩
   ·rw[IntWalk.i64_in _ aA];rfl
   ·rw[←fJ];exact mU ho
 ·have hk':k=l.length:=by omega
  subst hk'
  rw[jG]at ho ⊢
  simp -dsimp -implicitDefEqProofs only[go_sem,↓reduceIte,Tryz.f77,cV]
  have hj:=bFA (l.map Go.Lib.itoa) [32] rN (by have:=aCW l hn;omega)
  rw[show eQ 1 (λs:List UInt8=>[aC.str s]) (l.map Go.Lib.itoa)=eQ 1 (λn=>[aC.str (Go.Lib.itoa n)]) l from by simp[eQ,Function.comp_def]]at hj
  obtain⟨y,h1,h2,h3⟩:=grown (c:=λn=>aC.str (Go.Lib.itoa n)) (sz:=1) ho
  rw[←h2]
  refine aG.a6G hj (qX.cons (View.ovD y (OS.oG (c:=λn=>[aC.str (Go.Lib.itoa n)]) (λ_ _ q=>aGE q) h1) h3.r8) (qX.cons (View.same _ _) qX.nil)) rfl ?_
  simp -dsimp -implicitDefEqProofs only[go_sem,↓reduceIte,Tryz.f77]
  exact h3.le
open Go.Lib
def bAA (l:List UInt8) (b:Nat) (S:Nat->Prop) (w:World):Prop :=
 ∃ p v,(p=.pointer none∨p=.pointer (some ⟨b,0,none⟩))/\w.heap[b]?=some (.cells #[p,v] 122 (0,0))/\w.ownsRowF 0 5 1 v l.length (byteCells l)/\v.ownBlock≠some b/\(∀ g,v.ownBlock=some g->S g)/\(l=[]->v=.slice none 0 0)
theorem aTZ (l:List UInt8):a63 (bAA l):=λb S w0 w hq hb ha=>by
 obtain⟨p,v,hp,hc,ho,hn,hs,hl⟩:=hq
 refine⟨p,v,hp,(ha b hb).trans hc,⟨ho.1,?_⟩,hn,hs,hl⟩
 rcases ho.2 with q|⟨g,cap,cur,fz,rfl,h1,h2,h3⟩
 ·exact .inl q
 ·exact .inr ⟨g,cap,cur,fz,rfl,h1,(ha g (hs g (by simp[Value.ownBlock]))).trans h2,h3⟩
abbrev bld (l:List UInt8):bW:=.abs (bAA l)
theorem aV2 {h:Heap} {n:Nat} (hn:h n=some (.raw 122 #[.pointer none,.slice none 0 0])):(aR h n (bld [])).wk h :=
 Heap.a99 hn λb S w hb hc=>⟨_,_,.inl rfl,hc,⟨rfl,.inl ⟨rfl,rfl⟩⟩,by simp[Value.ownBlock],λg hg=>by simp[Value.ownBlock]at hg,λ_=>rfl⟩
theorem bAB {l':List UInt8} {b:Nat} {S:Nat->Prop} {w w':World} {v v':Value} (hS:S b) (hs:∀ g,v.ownBlock=some g->S g) (hb':w'.heap[b]?=some (.cells #[.pointer (some ⟨b,0,none⟩),v'] 122 (0,0)))
  (ho':w'.ownsRowF 0 5 1 v' l'.length (byteCells l')) (hne:v'.ownBlock≠some b) (hnew:∀ g,v'.ownBlock=some g->v.ownBlock=some g∨w.heap.size<=g) (F:aOR w w' b v.ownBlock) (hl':l'=[]->v'=.slice none 0 0) :
  ∃ S':Nat->Prop,S' b/\bAA l' b S' w'/\aOS w w' S S':=by
 refine⟨λc=>c=b∨v'.ownBlock=some c,.inl rfl,⟨_,v',.inr rfl,hb',ho',hne,λg hg=>.inr hg,hl'⟩,λc hc=>?_,λc hc=>?_,F.size,λc hc hn=>F.block c hc (λe=>hn (e▸hS)) (λe=>hn (hs c e)),F.shape,F.os,F.out⟩
 ·rcases hc with rfl|hc
  ·exact .inl hS
  ·exact(hnew c hc).imp (hs c) id
 ·rcases hc with rfl|hc
  ·exact(aH0.1 hb').1
  ·exact(ho'.lt c hc).2
theorem aZ1 {P:Program} {f:FuncId} {n:Nat} {h:Heap} {l l':List UInt8} {xs:List aC} {r:aC} (hc:eT P f=true) (hn:h n=some (bld l))
  (H:∀ (E:Env) (g:Heap) (b:Nat) (w:World) (vs:List Value) (p v:Value),cU E g w xs vs->(p=.pointer none∨p=.pointer (some ⟨b,0,none⟩))->w.heap[b]?=some (.cells #[p,v] 122 (0,0))->w.ownsRowF 0 5 1 v l.length (byteCells l)->v.ownBlock≠some b->(l=[]->v=.slice none 0 0) ->
   Calls P f (Value.pointer (some ⟨b,0,none⟩)::vs).toArray w λe w'=>∃ u,e=.returned u/\(∀ E' h' w',dU E' h' w' r u)/\∃ v',w'.heap[b]?=some (.cells #[.pointer (some ⟨b,0,none⟩),v'] 122 (0,0)) /\
    w'.ownsRowF 0 5 1 v' l'.length (byteCells l')/\v'.ownBlock≠some b/\(∀ g,v'.ownBlock=some g->v.ownBlock=some g∨w.heap.size<=g)/\aOR w w' b v.ownBlock/\(l'=[]->v'=.slice none 0 0)) :
  fH P f (.op n 2 0 0::xs) h λr' h'=>r'=r/\h'=aR h n (bld l') :=
 aZZ hc (aTZ l) hn λE g b S w vs rl hq hS hlt=>by
  obtain⟨p,v,hp,hb,ho,hne,hs,hl⟩:=hq
  refine(H E g b w vs p v rl hp hb ho hne hl).mono ?_
  rintro e w' ⟨u,rfl,hu,v',h1,h2,h3,h4,h5,h6⟩
  obtain⟨S',a1,a2,a3⟩:=bAB hS hs h1 h2 h3 h4 h5 h6
  exact⟨u,S',rfl,hu,a1,a2,a3⟩
theorem cU.bLO {E:Env} {h:Heap} {w:World} {xs:List aC} {vs:List Value} (r:cU E h w xs vs):dU E h w (.eW xs) (.tuple vs.toArray):=.eW _ _ r.length r.get
theorem writeString (l s:List UInt8) (hlen:l.length+s.length<=140737488355328) {n:Nat} {h:Heap} (hn:h n=some (bld l)):fH Tryz.prog 72 [.op n 2 0 0,.str s] h λr h'=>r=.eW [I s.length,.gX]/\h'=aR h n (bld (l++s)) :=
 aZ1 xM hn λE g b w vs p v rl hp hb ho hne hl=>by
  match vs,rl with
  | [v1],rl =>
   obtain⟨r1,_⟩:=rl
   obtain⟨rfl,h1⟩:=jO r1
   refine(bFY b l s w p v hp hb ho hne hlen).mono ?_
   rintro e w' ⟨rfl,v',h1,h2,h3,h4,h5,h6⟩
   exact⟨_,rfl,λE' h' w'=>cU.bLO (xs:=[_,_]) (vs:=[_,_]) ⟨.int _ _,.gX,trivial⟩,v',h1,h2,h3,h4,h5,λq=>h6 q (hl (List.append_eq_nil_iff.1 q).1)⟩
@[go_sem] def bPL:List Nat:=[13]
theorem pS (l:List UInt8) (c:UInt8) (hlen:l.length+1<=140737488355328) {n:Nat} {h:Heap} (hn:h n=some (bld l)):fH Tryz.prog 75 [.op n 2 0 0,.int .u8 c.toNat] h λr h'=>r=.gX/\h'=aR h n (bld (l++[c])) :=
 aZ1 xM hn λE g b w vs p v rl hp hb ho hne hl=>by
  match vs,rl with
  | [v1],rl =>
   obtain⟨r1,_⟩:=rl
   rw[fS r1]
   refine(bFZ b l c w p v hp hb ho hne hlen).mono ?_
   rintro e w' ⟨rfl,v',h1,h2,h3,h4,h5,h6⟩
   exact⟨_,rfl,λE' h' w'=>.gX,v',h1,h2,h3,h4,h5,λq=>by simp at q⟩
@[go_sem] def bPM:Marks:=λid=>match id with|1=>([],(.op 0 (.op 1 (.op 2 (.op 3 (.op 4 (.op 5 (.op 6 (.op 7 (.op 8 (.op 9 (.op 10 (.op 11 .nil)))))))))))),[])|_=>([],.nil,[])
theorem aIP (l:List UInt8) (hlen:l.length<=maxLen) {n:Nat} {h:Heap} (hn:h n=some (bld l)):fH Tryz.prog 76 [.op n 2 0 0] h λr h'=>r=.str l/\h'=aR h n (.abs λ_ _ _=>True) :=
 aZZ xM (aTZ l) hn λE g b S w vs rl hq hS hlt=>by
  match vs,rl with
  | [],_ =>
   obtain⟨p,v,hp,hb,ho,hne,hs,hl⟩:=hq
   have mk:∀ w':World,aOR w w' b v.ownBlock->aOS w w' S S:=λw' F=>⟨λc hc=>.inl hc,λc hc=>aUM (hlt c hc) F.size,F.size,λc hc hn=>F.block c hc (λe=>hn (e▸hS)) (λe=>hn (hs c e)),F.shape,F.os,F.out⟩
   by_cases h0:l=[]
   ·subst h0
    obtain rfl:=hl rfl
    refine(aQ6 b w p hb).mono ?_
    rintro e w' ⟨rfl,rfl⟩
    exact⟨_,S,rfl,λ_ _ _=>.str [] (gM _),hS,trivial,mk _ ⟨j4 _,λ_ _ _ _=>rfl,λ_ _=>rfl,rfl,rfl⟩⟩
   ·refine(a98 b l w p v hb ho h0).mono ?_
    rintro e w' ⟨rfl,F⟩
    exact⟨_,S,rfl,λ_ _ _=>.str l hlen,hS,trivial,mk _ F⟩
structure aQ7 (p:aF) (funcs:Int) (e:aB) (vars:Int):Prop where
 ok:e.ok p funcs vars
 vars:vars+e.s<=1000000
 f0:0<=funcs
 f1:funcs<=p.aI.length
theorem aQ7.lO {p:aF} {funcs vars:Int} {e:aB} (h:aQ7 p funcs e vars) {k:Nat} (hk:k<e.aK.length):∃ v,aQ7 p funcs e.aK[k] v:=by
 have h1:=((aB.cS _ _ _ _).1 h.ok).2 k hk
 have h2:=aB.aFD (eF hk)
 have h3:=h.vars
 refine⟨_,h1,?_,h.f0,h.f1⟩
 unfold gL;split <;> omega
theorem tT {g:Heap} {nb b:Nat} {X Y R:bW} (hne:¬b=nb) (hb:g b=none):(aR g nb Y).le (aR (aR (aR g nb X) b R) nb Y):=λq=>by
 by_cases e:q=nb
 ·subst e;right;rw[aH,aH]
 ·by_cases e2:q=b
  ·subst e2;left;rw[aE _ _ _ _ e];exact hb
  ·right;rw[aE _ _ _ _ e,aE _ _ _ _ e,aE _ _ _ _ e2,aE _ _ _ _ e]
end Go.Hl

/-
  Contracts of functions and laws of the layer over the walk.
-/
import Derived.Test.YtajjlpophonkoaaGreatDoorVvA
import Derived.Test.YtajjlpophonkoaaGreatDoorHlD
namespace Go.Hl
set_option maxRecDepth 100000
open Go.Proofs
set_option linter.unusedVariables false
set_option linter.unusedSimpArgs false
set_option maxHeartbeats 8000000 in
theorem aG0 (p:aF) (e:aB) (vars funcs:Int) (hv:0<=vars) (hv2:vars+e.s<=4294967296) (eP:0<=funcs) (hf:funcs<=p.aI.length) (hps:p.s<=4294967296)
  (hc:∀ y∈e.aK,∀ vars:Int,0<=vars->vars+y.s<=4294967296->eX Tryz.prog 151 [.agg [eQ 3 aV.c p.aI,I funcs],.agg y.c,I vars] (.bool (decide (y.ok p funcs vars)))) (hk:¬(e.aN=10∨e.aN=11)) :
  eX Tryz.prog 151 [.agg [eQ 3 aV.c p.aI,I funcs],.agg e.c,I vars] (.bool (decide (e.ok p funcs vars))):=by
 have hok:=aB.cS p funcs e vars
 have hl:=p.aJJ
 have e1:IntKind.i64.wrap (funcs-1)=funcs-1:=IntWalk.i64_in _ aA
 have e2:IntKind.i64.wrap (vars-1)=vars-1:=IntWalk.i64_in _ aA
 simp only[aB.aU]
 have no1 (hk:¬(e.aN=10∨e.aN=11)) (q:¬(dK e.aN=e.aK.length/\e.cF=0/\e.b7=0/\(e.aN=1->fZ e.aX)/\(e.aN=2->0<=e.aX/\e.aX<=vars-1)/\(e.aN≠1->e.aN≠2->e.aX=0))):false=decide (e.ok p funcs vars) :=
  (decide_eq_false λz=>q ((dI hk).1 (hok.1 z).1)).symm
 have bFD (hk:¬(e.aN=10∨e.aN=11)) (q:dK e.aN=e.aK.length/\e.cF=0/\e.b7=0/\(e.aN=1->fZ e.aX)/\(e.aN=2->0<=e.aX/\e.aX<=vars-1)/\(e.aN≠1->e.aN≠2->e.aX=0)):kV p e vars funcs:=(dI hk).2 q
 refine eJ 177 s7 aBG cC Tryz.func151 λh=>?_
 simp(maxSteps:=1000000) -dsimp -implicitDefEqProofs only[go_sem,↓reduceIte,Tryz.f151,e1,e2]
 repeat'(with_reducible first|intro _|refine And.intro ?_ ?_)
 all_goals try omega
 all_goals try(refine no1 aA ?_;simp only[dK];grind)
 ·first|refine aG.mk (lA e.aX) ?_|refine aD.mk (lA e.aX) ?_|refine aG.bC (lA e.aX) ?_|refine aD.mk (aZ.dB (lA e.aX)) ?_
  simp(maxSteps:=1000000) -dsimp -implicitDefEqProofs only[go_sem,↓reduceIte,Tryz.f151]
  rw[decide_eq_decide,hok,dI hk]
  have:e.aK.length=0:=by omega
  constructor
  ·intro q
   exact⟨by simp only[dK];grind,λk hk=>by omega⟩
  ·intro q
   grind
 ·first|refine aG.mk (within e.aX 0 (vars-1)) ?_|refine aD.mk (within e.aX 0 (vars-1)) ?_|refine aG.bC (within e.aX 0 (vars-1)) ?_|refine aD.mk (aZ.dB (within e.aX 0 (vars-1))) ?_
  simp(maxSteps:=1000000) -dsimp -implicitDefEqProofs only[go_sem,↓reduceIte,Tryz.f151]
  rw[decide_eq_decide,hok,dI hk]
  have:e.aK.length=0:=by omega
  constructor
  ·intro q
   exact⟨by simp only[dK];grind,λk hk=>by omega⟩
  ·intro q
   grind
 all_goals
  have hn:=bFD hk (by simp only[dK];grind)
  clear no1 bFD
  refine dJ s7 aBG cC (λk:Nat=>[(2,I vars),(3,.ip 2 [[eQ 3 aV.c p.aI,I funcs]] 0 0),(4,.ip 5 [e.c] 0 0),(154,eQ 5 aB.c e.aK),(155,I e.aK.length),(156,I k)]) (λ_=>h) (λk=>k<=e.aK.length/\∀ (j:Nat) (hj:j<e.aK.length),j<k->e.aK[j].ok p funcs (gL e.aN j vars)) (λk=>e.aK.length-k) 0 (by refine⟨by simp[dM,cE,aB.aU],by repeat'(with_reducible first|exact Heap.le_refl _|refine(bA iI).2 ?_),by simp⟩) ?_
  intro k ⟨hk,hp⟩
  simp only[aB.aU]
  rcases cQ k e.aK.length with hlt|hge
  ·have sO:=aB.aFD (eF hlt)
   have nx (q:e.aK[k].ok p funcs (gL e.aN k vars)):∀ (j:Nat) (hj:j<e.aK.length),j<k+1->e.aK[j].ok p funcs (gL e.aN j vars):=by
    intro j hj hjk
    rcases aFA.1 hjk with h1|rfl
    ·exact hp j hj h1
    ·exact q
   have no (q:¬e.aK[k].ok p funcs (gL e.aN k vars)):false=decide (e.ok p funcs vars):=(decide_eq_false λz=>q ((hok.1 z).2 k hlt)).symm
   have ea:e.aK[k]?=some e.aK[k]:=cP hlt
   rcases Decidable.em (e.aN=9/\k=1)with e9|e9
   ·have em:gL e.aN k vars=vars+1:=if_pos e9
    rw[em]at nx no
    have hcy:=hc e.aK[k] (eF hlt) (vars+1) aA aA
    simp only[aB.aU]at hcy
    simp(maxSteps:=1000000) -dsimp -implicitDefEqProofs only[go_sem,↓reduceIte,Tryz.f151,ea,aB.aU,aJ]
    repeat'(with_reducible first|intro _|refine And.intro ?_ ?_)
    all_goals try omega
    all_goals try simp(disch:=omega) only[IntWalk.i64_in]
    all_goals(first|refine aG.mk (hcy) ?_|refine aD.mk (hcy) ?_)
    all_goals simp(maxSteps:=1000000) -dsimp -implicitDefEqProofs only[go_sem,↓reduceIte,Tryz.f151]
    all_goals repeat'(with_reducible first|intro _|refine And.intro ?_ ?_)
    all_goals first|exact no jH|exact Heap.le_refl _|skip
    all_goals try(exact(bA jH).2 (Heap.le_refl _))
    all_goals
     refine⟨k+1,?_⟩
     repeat'(with_reducible refine And.intro ?_ ?_)
     all_goals try(rw[IntWalk.i64_in _ aA];first|rfl|omega)
     all_goals try omega
     all_goals try(repeat'(with_reducible first|exact Heap.le_refl _|refine(bA iI).2 ?_))
     all_goals try(simp only[aB.aU];done)
     exact nx jH
   ·have em:gL e.aN k vars=vars:=if_neg e9
    rw[em]at nx no
    have hcy:=hc e.aK[k] (eF hlt) vars aA aA
    simp only[aB.aU]at hcy
    simp(maxSteps:=1000000) -dsimp -implicitDefEqProofs only[go_sem,↓reduceIte,Tryz.f151,ea,aB.aU,aJ]
    repeat'(with_reducible first|intro _|refine And.intro ?_ ?_)
    all_goals try omega
    all_goals(first|refine aG.mk (hcy) ?_|refine aD.mk (hcy) ?_)
    all_goals simp(maxSteps:=1000000) -dsimp -implicitDefEqProofs only[go_sem,↓reduceIte,Tryz.f151]
    all_goals repeat'(with_reducible first|intro _|refine And.intro ?_ ?_)
    all_goals first|exact no jH|exact Heap.le_refl _|skip
    all_goals try(exact(bA jH).2 (Heap.le_refl _))
    all_goals
     refine⟨k+1,?_⟩
     repeat'(with_reducible refine And.intro ?_ ?_)
     all_goals try(rw[IntWalk.i64_in _ aA];first|rfl|omega)
     all_goals try omega
     all_goals try(repeat'(with_reducible first|exact Heap.le_refl _|refine(bA iI).2 ?_))
     all_goals try(simp only[aB.aU];done)
     exact nx jH
  ·have hk':k=e.aK.length:=by omega
   subst hk'
   simp(maxSteps:=1000000) -dsimp -implicitDefEqProofs only[go_sem,↓reduceIte,Tryz.f151,cV]
   exact(decide_eq_true (hok.2 ⟨hn,λj hj=>hp j hj hj⟩)).symm
theorem aBS {p:aF} {e:aB} {vars funcs:Int} {f:aV} (hk:e.aN=10∨e.aN=11) (ef:p.aI[e.aX.toNat]?=some f)
  (q:¬(0<=e.cF/\e.cF<=(f.aO.length:Int)-1/\(e.aK.length:Int)=f.bB/\(e.aN=10->e.b7=0)/\(e.aN=11->0<=e.b7/\e.b7<=8/\(f.aO.length:Int)=f.bB))):false=decide (e.ok p funcs vars) :=
 (decide_eq_false λz=>q ((qB hk ef).1 ((aB.cS _ _ _ _).1 z).1).2.2).symm
theorem aN5 {p:aF} {e:aB} {vars funcs:Int} (hk:e.aN=10∨e.aN=11) (q:¬(0<=e.aX/\e.aX<=funcs-1)):false=decide (e.ok p funcs vars) :=
 (decide_eq_false λz=>aBR hk q ((aB.cS _ _ _ _).1 z).1).symm
set_option maxHeartbeats 8000000 in
theorem aN6 (p:aF) (e:aB) (vars funcs:Int) (hv:0<=vars) (hv2:vars+e.s<=4294967296) (eP:0<=funcs) (hf:funcs<=p.aI.length) (hps:p.s<=4294967296)
  (hc:∀ y∈e.aK,∀ vars:Int,0<=vars->vars+y.s<=4294967296->eX Tryz.prog 151 [.agg [eQ 3 aV.c p.aI,I funcs],.agg y.c,I vars] (.bool (decide (y.ok p funcs vars)))) (hk:e.aN=10) :
  eX Tryz.prog 151 [.agg [eQ 3 aV.c p.aI,I funcs],.agg e.c,I vars] (.bool (decide (e.ok p funcs vars))):=by
 have hl:=p.aJJ
 have e1:IntKind.i64.wrap (funcs-1)=funcs-1:=IntWalk.i64_in _ aA
 simp only[aB.aU]
 by_cases hr:0<=e.aX/\e.aX<=funcs-1
 ·obtain⟨f,ef⟩:∃ f,p.aI[e.aX.toNat]?=some f:=⟨_,cP aA⟩
  have hfs:=aF.aGY (al6 ef)
  have hos:=f.aGZ
  have e3:IntKind.i64.wrap ((f.aO.length:Int)-1)=f.aO.length-1:=IntWalk.i64_in _ aA
  refine eJ 177 s7 aBG cC Tryz.func151 λh=>?_
  simp -dsimp -implicitDefEqProofs only[go_sem,↓reduceIte,Tryz.f151,e1,e3,hk]
  repeat'(with_reducible first|intro _|refine And.intro ?_ ?_)
  all_goals try omega
  all_goals(first|refine aG.mk (within e.aX 0 (funcs-1)) ?_|refine aD.mk (within e.aX 0 (funcs-1)) ?_)
  all_goals simp -dsimp -implicitDefEqProofs only[go_sem,↓reduceIte,Tryz.f151,ef,aV.aU,aJ,hk,e3]
  all_goals repeat'(with_reducible first|intro _|refine And.intro ?_ ?_)
  all_goals try omega
  all_goals try(refine aBS aA ef ?_;omega)
  all_goals try(repeat'(with_reducible first|exact Heap.le_refl _|refine(bA iI).2 ?_))
  all_goals(first|refine aG.mk (within e.cF 0 (f.aO.length-1)) ?_|refine aD.mk (within e.cF 0 (f.aO.length-1)) ?_)
  all_goals simp -dsimp -implicitDefEqProofs only[go_sem,↓reduceIte,Tryz.f151,ef,aV.aU,aJ,hk]
  all_goals repeat'(with_reducible first|intro _|refine And.intro ?_ ?_)
  all_goals try omega
  all_goals try(refine aBS aA ef ?_;omega)
  all_goals try(repeat'(with_reducible first|exact Heap.le_refl _|refine(bA iI).2 ?_))
  all_goals
   have hn:kV p e vars funcs:=(qB aA ef).2 aA
   have hok:=aB.cS p funcs e vars
   clear hr hfs hos ef
   refine dJ s7 aBG cC (λk:Nat=>[(2,I vars),(3,.ip 2 [[eQ 3 aV.c p.aI,I funcs]] 0 0),(4,.ip 5 [e.c] 0 0),(154,eQ 5 aB.c e.aK),(155,I e.aK.length),(156,I k)]) (λ_=>h) (λk=>k<=e.aK.length/\∀ (j:Nat) (hj:j<e.aK.length),j<k->e.aK[j].ok p funcs vars) (λk=>e.aK.length-k) 0 bDC ?_
   intro k ⟨hk',hp⟩
   simp only[aB.aU]
   rcases cQ k e.aK.length with hlt|hge
   ·have sO:=aB.aFD (eF hlt)
    have nx (q:e.aK[k].ok p funcs vars):∀ (j:Nat) (hj:j<e.aK.length),j<k+1->e.aK[j].ok p funcs vars:=by
     intro j hj hjk
     rcases aFA.1 hjk with h1|rfl
     ·exact hp j hj h1
     ·exact q
    have no (q:¬e.aK[k].ok p funcs vars):false=decide (e.ok p funcs vars):=(decide_eq_false λz=>q bDF).symm
    have ea:e.aK[k]?=some e.aK[k]:=cP hlt
    have hcy:=hc e.aK[k] (eF hlt) vars aA aA
    simp only[aB.aU]at hcy
    simp -dsimp -implicitDefEqProofs only[go_sem,↓reduceIte,Tryz.f151,ea,aB.aU,aJ,hk]
    repeat'(with_reducible first|intro _|refine And.intro ?_ ?_)
    all_goals try omega
    first|refine aG.mk (hcy) ?_|refine aD.mk (hcy) ?_|refine aG.bC (hcy) ?_|refine aD.mk (aZ.dB (hcy)) ?_
    simp -dsimp -implicitDefEqProofs only[go_sem,↓reduceIte,Tryz.f151]
    repeat'(with_reducible first|intro _|refine And.intro ?_ ?_)
    all_goals first|exact no jH|skip
    all_goals try(repeat'(with_reducible first|exact Heap.le_refl _|refine(bA iI).2 ?_))
    refine⟨k+1,?_⟩
    repeat'(with_reducible refine And.intro ?_ ?_)
    all_goals try(rw[IntWalk.i64_in _ aA];first|rfl|omega)
    all_goals try omega
    all_goals try(repeat'(with_reducible first|exact Heap.le_refl _|refine(bA iI).2 ?_))
    all_goals try(simp only[aB.aU,hk];done)
    exact nx jH
   ·have hk'':k=e.aK.length:=by omega
    subst hk''
    simp -dsimp -implicitDefEqProofs only[go_sem,↓reduceIte,Tryz.f151,cV]
    exact(decide_eq_true (hok.2 ⟨hn,λj hj=>by rw[show gL e.aN j vars=vars from if_neg aA];exact hp j hj hj⟩)).symm
 ·refine eJ 177 s7 aBG cC Tryz.func151 λh=>?_
  simp -dsimp -implicitDefEqProofs only[go_sem,↓reduceIte,Tryz.f151,e1,hk]
  repeat'(with_reducible first|intro _|refine And.intro ?_ ?_)
  all_goals try omega
  all_goals(first|refine aG.mk (within e.aX 0 (funcs-1)) ?_|refine aD.mk (within e.aX 0 (funcs-1)) ?_)
  all_goals simp -dsimp -implicitDefEqProofs only[go_sem,↓reduceIte,Tryz.f151]
  all_goals repeat'(with_reducible first|intro _|refine And.intro ?_ ?_)
  all_goals try omega
  all_goals exact aN5 aA hr
set_option maxHeartbeats 8000000 in
theorem aN7 (p:aF) (e:aB) (vars funcs:Int) (hv:0<=vars) (hv2:vars+e.s<=4294967296) (eP:0<=funcs) (hf:funcs<=p.aI.length) (hps:p.s<=4294967296)
  (hc:∀ y∈e.aK,∀ vars:Int,0<=vars->vars+y.s<=4294967296->eX Tryz.prog 151 [.agg [eQ 3 aV.c p.aI,I funcs],.agg y.c,I vars] (.bool (decide (y.ok p funcs vars)))) (hk:e.aN=11) :
  eX Tryz.prog 151 [.agg [eQ 3 aV.c p.aI,I funcs],.agg e.c,I vars] (.bool (decide (e.ok p funcs vars))):=by
 have hl:=p.aJJ
 have e1:IntKind.i64.wrap (funcs-1)=funcs-1:=IntWalk.i64_in _ aA
 simp only[aB.aU]
 by_cases hr:0<=e.aX/\e.aX<=funcs-1
 ·obtain⟨f,ef⟩:∃ f,p.aI[e.aX.toNat]?=some f:=⟨_,cP aA⟩
  have hfs:=aF.aGY (al6 ef)
  have hos:=f.aGZ
  have e3:IntKind.i64.wrap ((f.aO.length:Int)-1)=f.aO.length-1:=IntWalk.i64_in _ aA
  refine eJ 177 s7 aBG cC Tryz.func151 λh=>?_
  simp -dsimp -implicitDefEqProofs only[go_sem,↓reduceIte,Tryz.f151,e1,e3,hk]
  repeat'(with_reducible first|intro _|refine And.intro ?_ ?_)
  all_goals try omega
  all_goals(first|refine aG.mk (within e.aX 0 (funcs-1)) ?_|refine aD.mk (within e.aX 0 (funcs-1)) ?_)
  all_goals simp -dsimp -implicitDefEqProofs only[go_sem,↓reduceIte,Tryz.f151,ef,aV.aU,aJ,hk,e3]
  all_goals repeat'(with_reducible first|intro _|refine And.intro ?_ ?_)
  all_goals try omega
  all_goals try(refine aBS aA ef ?_;omega)
  all_goals try(repeat'(with_reducible first|exact Heap.le_refl _|refine(bA iI).2 ?_))
  all_goals(first|refine aG.mk (within e.cF 0 (f.aO.length-1)) ?_|refine aD.mk (within e.cF 0 (f.aO.length-1)) ?_)
  all_goals simp -dsimp -implicitDefEqProofs only[go_sem,↓reduceIte,Tryz.f151,ef,aV.aU,aJ,hk]
  all_goals repeat'(with_reducible first|intro _|refine And.intro ?_ ?_)
  all_goals try omega
  all_goals try(refine aBS aA ef ?_;omega)
  all_goals try(repeat'(with_reducible first|exact Heap.le_refl _|refine(bA iI).2 ?_))
  all_goals(first|refine aG.mk (within e.b7 0 8) ?_|refine aD.mk (within e.b7 0 8) ?_)
  all_goals simp -dsimp -implicitDefEqProofs only[go_sem,↓reduceIte,Tryz.f151,aJ,hk]
  all_goals repeat'(with_reducible first|intro _|refine And.intro ?_ ?_)
  all_goals try(refine aBS aA ef ?_;omega)
  all_goals try(repeat'(with_reducible first|exact Heap.le_refl _|refine(bA iI).2 ?_))
  all_goals
   have hn:kV p e vars funcs:=(qB aA ef).2 aA
   have hok:=aB.cS p funcs e vars
   clear hr hfs hos ef
   refine dJ s7 aBG cC (λk:Nat=>[(2,I vars),(3,.ip 2 [[eQ 3 aV.c p.aI,I funcs]] 0 0),(4,.ip 5 [e.c] 0 0),(154,eQ 5 aB.c e.aK),(155,I e.aK.length),(156,I k)]) (λ_=>h) (λk=>k<=e.aK.length/\∀ (j:Nat) (hj:j<e.aK.length),j<k->e.aK[j].ok p funcs vars) (λk=>e.aK.length-k) 0 bDC ?_
   intro k ⟨hk',hp⟩
   simp only[aB.aU]
   rcases cQ k e.aK.length with hlt|hge
   ·have sO:=aB.aFD (eF hlt)
    have nx (q:e.aK[k].ok p funcs vars):∀ (j:Nat) (hj:j<e.aK.length),j<k+1->e.aK[j].ok p funcs vars:=by
     intro j hj hjk
     rcases aFA.1 hjk with h1|rfl
     ·exact hp j hj h1
     ·exact q
    have no (q:¬e.aK[k].ok p funcs vars):false=decide (e.ok p funcs vars):=(decide_eq_false λz=>q bDF).symm
    have ea:e.aK[k]?=some e.aK[k]:=cP hlt
    have hcy:=hc e.aK[k] (eF hlt) vars aA aA
    simp only[aB.aU]at hcy
    simp -dsimp -implicitDefEqProofs only[go_sem,↓reduceIte,Tryz.f151,ea,aB.aU,aJ,hk]
    repeat'(with_reducible first|intro _|refine And.intro ?_ ?_)
    all_goals try omega
    first|refine aG.mk (hcy) ?_|refine aD.mk (hcy) ?_|refine aG.bC (hcy) ?_|refine aD.mk (aZ.dB (hcy)) ?_
    simp -dsimp -implicitDefEqProofs only[go_sem,↓reduceIte,Tryz.f151]
    repeat'(with_reducible first|intro _|refine And.intro ?_ ?_)
    all_goals first|exact no jH|skip
    all_goals try(repeat'(with_reducible first|exact Heap.le_refl _|refine(bA iI).2 ?_))
    refine⟨k+1,?_⟩
    repeat'(with_reducible refine And.intro ?_ ?_)
    all_goals try(rw[IntWalk.i64_in _ aA];first|rfl|omega)
    all_goals try omega
    all_goals try(repeat'(with_reducible first|exact Heap.le_refl _|refine(bA iI).2 ?_))
    all_goals try(simp only[aB.aU,hk];done)
    exact nx jH
   ·have hk'':k=e.aK.length:=by omega
    subst hk''
    simp -dsimp -implicitDefEqProofs only[go_sem,↓reduceIte,Tryz.f151,cV]
    exact(decide_eq_true (hok.2 ⟨hn,λj hj=>by rw[show gL e.aN j vars=vars from if_neg aA];exact hp j hj hj⟩)).symm
 ·refine eJ 177 s7 aBG cC Tryz.func151 λh=>?_
  simp -dsimp -implicitDefEqProofs only[go_sem,↓reduceIte,Tryz.f151,e1,hk]
  repeat'(with_reducible first|intro _|refine And.intro ?_ ?_)
  all_goals try omega
  all_goals(first|refine aG.mk (within e.aX 0 (funcs-1)) ?_|refine aD.mk (within e.aX 0 (funcs-1)) ?_)
  all_goals simp -dsimp -implicitDefEqProofs only[go_sem,↓reduceIte,Tryz.f151]
  all_goals repeat'(with_reducible first|intro _|refine And.intro ?_ ?_)
  all_goals try omega
  all_goals exact aN5 aA hr
theorem aBT (p:aF) (e:aB) (vars funcs:Int) (hv:0<=vars) (hv2:vars+e.s<=4294967296) (eP:0<=funcs) (hf:funcs<=p.aI.length) (hps:p.s<=4294967296) :
  eX Tryz.prog 151 [.agg [eQ 3 aV.c p.aI,I funcs],.agg e.c,I vars] (.bool (decide (e.ok p funcs vars))):=by
 by_cases h1:e.aN=10
 ·exact aN6 p e vars funcs hv hv2 eP hf hps (λy hy vars hv hv2=>aBT p y vars funcs hv hv2 eP hf hps) h1
 ·by_cases h2:e.aN=11
  ·exact aN7 p e vars funcs hv hv2 eP hf hps (λy hy vars hv hv2=>aBT p y vars funcs hv hv2 eP hf hps) h2
  ·exact aG0 p e vars funcs hv hv2 eP hf hps (λy hy vars hv hv2=>aBT p y vars funcs hv hv2 eP hf hps) (λq=>q.elim h1 h2)
termination_by SizeOf.sizeOf e
decreasing_by all_goals exact aB.aCU hy
def kI (p:aF) (e:aB) (vars funcs:Int):Prop:=(0<=vars/\vars<=412)/\(0<=funcs/\funcs<=p.aI.length)/\(e.s:Int)+1<=400/\(e.d:Int)<=60/\e.ok p funcs vars
noncomputable instance (p:aF) (e:aB) (vars funcs:Int):Decidable (kI p e vars funcs):=Classical.propDecidable _
def xP (p:aF) (k:Nat) (f:aV):Prop:=yX f.jX/\(0<=f.bB/\f.bB<=12)/\(1<=(f.aO.length:Int)/\(f.aO.length:Int)<=12)/\(∀ g∈p.aI.take k,g.jX≠f.jX)/\(pE aB.s f.aO:Int)<=400/\∀ e∈f.aO,kI p e f.bB k
noncomputable instance (p:aF) (k:Nat) (f:aV):Decidable (xP p k f):=Classical.propDecidable _
def aF.ok (p:aF):Prop:=(p.aI.length:Int)<=16/\∀ (k:Nat) (f:aV),p.aI[k]?=some f->xP p k f
noncomputable instance (p:aF):Decidable p.ok:=Classical.propDecidable _
theorem aER (n:Int):eX Tryz.prog 182 [I n] (.bool (decide (0<=n/\n<=412))):=by
 refine eJ 5 aBF cR cC Tryz.func182 λh=>?_
 simp -dsimp -implicitDefEqProofs only[go_sem,↓reduceIte,Tryz.f182]
 first|refine aG.mk (eY n 0 412) ?_|refine aD.mk (eY n 0 412) ?_|refine aG.bC (eY n 0 412) ?_|refine aD.mk (aZ.dB (eY n 0 412)) ?_
 simp -dsimp -implicitDefEqProofs only[go_sem,↓reduceIte,Tryz.f182]
theorem aES (n:Int):eX Tryz.prog 149 [I n] (.bool (decide (0<=n/\n<=412))):=by
 refine eJ 5 aBF cR cC Tryz.func149 λh=>?_
 simp -dsimp -implicitDefEqProofs only[go_sem,↓reduceIte,Tryz.f149]
 first|refine aG.mk (within n 0 412) ?_|refine aD.mk (within n 0 412) ?_|refine aG.bC (within n 0 412) ?_|refine aD.mk (aZ.dB (within n 0 412)) ?_
 simp -dsimp -implicitDefEqProofs only[go_sem,↓reduceIte,Tryz.f149]
theorem aG1 {left:Int} {n:Nat}:0<=lft left n↔(n:Int)<=left:=by
 unfold lft;split <;> omega
@[go_sem] def a29:List Nat:=[0,1,2,3,8]
theorem aTF (p:aF) (e:aB) (vars funcs:Int) (hs:e.s<=4294966296) (hps:p.s<=4294967296):eX Tryz.prog 161 [.ip 1 [p.c] 0 0,.ip 5 [e.c] 0 0,I vars,I funcs] (.bool (decide (kI p e vars funcs))):=by
 simp only[aF.aU]
 refine eJ 37 a29 cR cC Tryz.func161 λh=>?_
 simp -dsimp -implicitDefEqProofs only[go_sem,↓reduceIte,Tryz.f161]
 first|refine aG.mk (aER vars) ?_|refine aD.mk (aER vars) ?_|refine aG.bC (aER vars) ?_|refine aD.mk (aZ.dB (aER vars)) ?_
 simp -dsimp -implicitDefEqProofs only[go_sem,↓reduceIte,Tryz.f161]
 repeat'(with_reducible first|intro _|refine And.intro ?_ ?_)
 all_goals try(first|(simp[kI, *];done)|omega|(grind[kI])|(simp[kI];omega))
 first|refine aG.mk (eY funcs 0 p.aI.length) ?_|refine aD.mk (eY funcs 0 p.aI.length) ?_|refine aG.bC (eY funcs 0 p.aI.length) ?_|refine aD.mk (aZ.dB (eY funcs 0 p.aI.length)) ?_
 simp -dsimp -implicitDefEqProofs only[go_sem,↓reduceIte,Tryz.f161]
 repeat'(with_reducible first|intro _|refine And.intro ?_ ?_)
 all_goals try(first|(simp[kI, *];done)|omega|(grind[kI])|(simp[kI];omega))
 first|refine aD.mk ((aBQ e 400 aA aA aA).sub sK) ?_|refine aG.mk ((aBQ e 400 aA aA aA).sub sK) ?_
 simp -dsimp -implicitDefEqProofs only[go_sem,↓reduceIte,Tryz.f161]
 repeat'(with_reducible first|intro _|refine And.intro ?_ ?_)
 ·have hle:((e.s+1:Nat):Int)<=400:=aG1.1 jH
  first|refine aD.mk ((aGX e aA).sub sK) ?_|refine aG.mk ((aGX e aA).sub sK) ?_
  simp -dsimp -implicitDefEqProofs only[go_sem,↓reduceIte,Tryz.f161]
  repeat'(with_reducible first|intro _|refine And.intro ?_ ?_)
  ·first|refine aD.mk ((aK5 p e vars funcs aA aA aA aA hps).sub sK) ?_|refine aG.mk ((aK5 p e vars funcs aA aA aA aA hps).sub sK) ?_
   simp -dsimp -implicitDefEqProofs only[go_sem,↓reduceIte,Tryz.f161]
   rw[decide_eq_decide]
   exact⟨λq=>⟨by omega,by omega,by omega,by omega,q⟩,λq=>q.2.2.2.2⟩
  ·exact(decide_eq_false λq=>by have:=q.2.2.2.1;omega).symm
 ·rename_i hn
  exact(decide_eq_false λq=>hn (aG1.2 (by have:=q.2.2.1;omega))).symm
@[go_sem] def a3A:List Nat:=[0,1,2,3,4,5,8]
@[go_sem] def bFE:List Nat:=[4,5]
theorem aVM (p:aF) (e:aB) (vars funcs:Int) (hs:e.s<=4294966296) (hps:p.s<=4294967296):eX Tryz.prog 110 [.agg p.c,.agg e.c,I vars,I funcs] (.bool (decide (kI p e vars funcs))):=by
 have h1:=aGV e aA
 have h2:=aJI e aA
 simp only[aB.aU]at h1 h2
 simp only[aF.aU,aB.aU]
 refine eJ 36 a3A bFE cC Tryz.func110 λh=>?_
 simp -dsimp -implicitDefEqProofs only[go_sem,↓reduceIte,Tryz.f110]
 first|refine aG.mk (aES vars) ?_|refine aD.mk (aES vars) ?_|refine aG.bC (aES vars) ?_|refine aD.mk (aZ.dB (aES vars)) ?_
 simp -dsimp -implicitDefEqProofs only[go_sem,↓reduceIte,Tryz.f110]
 repeat'(with_reducible first|intro _|refine And.intro ?_ ?_)
 all_goals try(first|(simp[kI, *];done)|omega|(grind[kI])|(simp[kI];omega))
 first|refine aG.mk (within funcs 0 p.aI.length) ?_|refine aD.mk (within funcs 0 p.aI.length) ?_|refine aG.bC (within funcs 0 p.aI.length) ?_|refine aD.mk (aZ.dB (within funcs 0 p.aI.length)) ?_
 simp -dsimp -implicitDefEqProofs only[go_sem,↓reduceIte,Tryz.f110]
 repeat'(with_reducible first|intro _|refine And.intro ?_ ?_)
 all_goals try(first|(simp[kI, *];done)|omega|(grind[kI])|(simp[kI];omega))
 first|refine aG.mk (h1) ?_|refine aD.mk (h1) ?_|refine aG.bC (h1) ?_|refine aD.mk (aZ.dB (h1)) ?_
 simp -dsimp -implicitDefEqProofs only[go_sem,↓reduceIte,Tryz.f110]
 repeat'(with_reducible first|intro _|refine And.intro ?_ ?_)
 ·first|refine aG.mk (h2) ?_|refine aD.mk (h2) ?_|refine aG.bC (h2) ?_|refine aD.mk (aZ.dB (h2)) ?_
  simp -dsimp -implicitDefEqProofs only[go_sem,↓reduceIte,Tryz.f110]
  repeat'(with_reducible first|intro _|refine And.intro ?_ ?_)
  ·have h3:=aBT p e vars funcs aA aA aA aA hps
   simp only[aB.aU]at h3
   first|refine aG.mk (h3) ?_|refine aD.mk (h3) ?_|refine aG.bC (h3) ?_|refine aD.mk (aZ.dB (h3)) ?_
   simp -dsimp -implicitDefEqProofs only[go_sem,↓reduceIte,Tryz.f110]
   rw[decide_eq_decide]
   exact⟨λq=>⟨by omega,by omega,by omega,by omega,q⟩,λq=>q.2.2.2.2⟩
  ·exact(decide_eq_false λq=>by have:=q.2.2.2.1;omega).symm
 ·exact(decide_eq_false λq=>by have:=q.2.2.1;omega).symm
@[go_sem] def aK6:List Nat:=[0,1,4,5,6,7,8,37,40,55,62,90]
@[go_sem] def aYY:Marks:=λid=>match id with|7=>([],(.op 0 (.op 1 (.op 2 (.op 3 (.op 4 (.op 5 (.op 6 (.op 7 (.op 8 (.op 9 (.op 10 (.op 11 (.op 12 .nil))))))))))))),[])|14=>([],(.op 0 (.op 1 (.op 2 (.op 3 (.op 4 (.op 5 (.op 6 (.op 7 (.op 8 (.op 9 (.op 10 (.op 11 (.op 12 (.op 13 (.op 14 (.op 15 (.op 16 (.op 17 .nil)))))))))))))))))),[])|_=>([],.nil,[])
theorem aTG (p:aF) (k:Nat) (f:aV) (ef:p.aI[k]?=some f) (hps:p.s<=4194304):eX Tryz.prog 115 [.ip 1 [p.c] 0 0,I k] (.bool (decide (xP p k f))):=by
 have hk:k<p.aI.length:=(jQ.1 ef).1
 have hfs:=aF.aGY (al6 ef)
 have hl:=p.aJJ
 have hos:=f.aGZ
 simp only[aF.aU]
 have no (q:¬(yX f.jX/\(0<=f.bB/\f.bB<=12)/\(1<=(f.aO.length:Int)/\(f.aO.length:Int)<=12))):false=decide (xP p k f):=(decide_eq_false λz=>q ⟨z.1,z.2.1,z.2.2.1⟩).symm
 refine eJ 91 aK6 cR aYY Tryz.func115 λh=>?_
 simp -dsimp -implicitDefEqProofs only[go_sem,↓reduceIte,Tryz.f115,ef,aV.aU,tX]
 repeat'(with_reducible first|intro _|refine And.intro ?_ ?_)
 all_goals try omega
 first|refine aG.mk (vN f.jX) ?_|refine aD.mk (vN f.jX) ?_|refine aG.bC (vN f.jX) ?_|refine aD.mk (aZ.dB (vN f.jX)) ?_
 simp -dsimp -implicitDefEqProofs only[go_sem,↓reduceIte,Tryz.f115,ef,aV.aU]
 repeat'(with_reducible first|intro _|refine And.intro ?_ ?_)
 ·first|refine aG.mk (eY f.bB 0 12) ?_|refine aD.mk (eY f.bB 0 12) ?_|refine aG.bC (eY f.bB 0 12) ?_|refine aD.mk (aZ.dB (eY f.bB 0 12)) ?_
  simp -dsimp -implicitDefEqProofs only[go_sem,↓reduceIte,Tryz.f115,ef,aV.aU]
  repeat'(with_reducible first|intro _|refine And.intro ?_ ?_)
  ·first|refine aG.mk (eY f.aO.length 1 12) ?_|refine aD.mk (eY f.aO.length 1 12) ?_|refine aG.bC (eY f.aO.length 1 12) ?_|refine aD.mk (aZ.dB (eY f.aO.length 1 12)) ?_
   simp -dsimp -implicitDefEqProofs only[go_sem,↓reduceIte,Tryz.f115,ef,aV.aU]
   repeat'(with_reducible first|intro _|refine And.intro ?_ ?_)
   ·exact no λz=>by simp_all
   ·rename_i q1 q2 q3
    refine dJ aK6 cR aYY (λj:Nat=>[(0,.ip 1 [p.c] 0 0),(1,I k),(5,.ip 3 (p.aI.map aV.c) k 0),(6,I j)]) (λ_=>h) (λj=>j<=k/\∀ g∈p.aI.take j,g.jX≠f.jX) (λj=>k-j) 0 a1Q ?_
    intro j ⟨hj,hp⟩
    simp only[aF.aU]
    rcases cQ j k with hlt|hge
    ·have eg:p.aI[j]?=some p.aI[j]:=cP aA
     simp -dsimp -implicitDefEqProofs only[go_sem,↓reduceIte,Tryz.f115,ef,eg,aV.aU,tX]
     repeat'(with_reducible first|intro _|refine And.intro ?_ ?_)
     all_goals try omega
     ·rename_i he
      refine(decide_eq_false λz=>z.2.2.2.1 p.aI[j] ?_ he).symm
      exact List.mem_take_iff_getElem.2 ⟨j,by omega,rfl⟩
     ·rename_i he
      refine⟨j+1,?_⟩
      repeat'(with_reducible refine And.intro ?_ ?_)
      all_goals try(rw[IntWalk.i64_in _ aA];first|rfl|omega)
      all_goals try omega
      all_goals try(repeat'(with_reducible first|exact Heap.le_refl _|refine(bA iI).2 ?_))
      all_goals try(simp only[aF.aU];done)
      exact oS (P:=λg:aV=>g.jX≠f.jX) aA hp he
    ·have hj':j=k:=by omega
     rw[hj']at hp
     simp -dsimp -implicitDefEqProofs only[go_sem,↓reduceIte,Tryz.f115,hj',fW]
     have part (i:Nat) (hi:i<f.aO.length):i+((f.aO.take i).map aB.s).sum+f.aO[i].s+1<=pE aB.s f.aO:=by
      have h1:=j8 aB.s f.aO i hi
      have h2:=sW aB.s f.aO (i+1)
      rw[oQ];omega
     have hszs:pE aB.s f.aO<=f.s:=by rw[f.xN];omega
     refine dJ aK6 cR aYY (λi:Nat=>[(0,.ip 1 [p.c] 0 0),(1,I k),(5,.ip 3 (p.aI.map aV.c) k 0),(7,I (400-(i+((f.aO.take i).map aB.s).sum:Nat))),(8,I i)]) (λ_=>h) (λi=>i<=f.aO.length/\i+((f.aO.take i).map aB.s).sum<=400/\∀ e∈f.aO.take i,kI p e f.bB k) (λi=>f.aO.length-i) 0 a1Q ?_
     intro i ⟨hi,hsum,hall⟩
     simp only[aF.aU]
     rcases cQ i f.aO.length with hlt|hge
     ·have h1:=j8 aB.s f.aO i hlt
      have hpt:=part i hlt
      have hout:=aV.a6O (eF hlt)
      simp -dsimp -implicitDefEqProofs only[go_sem,↓reduceIte,Tryz.f115,ef,aV.aU,tX]
      repeat'(with_reducible first|intro _|refine And.intro ?_ ?_)
      all_goals try omega
      first|refine aD.mk ((aBQ f.aO[i] (400-(i+((f.aO.take i).map aB.s).sum:Nat)) aA aA aA).sub sK) ?_|refine aG.mk ((aBQ f.aO[i] (400-(i+((f.aO.take i).map aB.s).sum:Nat)) aA aA aA).sub sK) ?_
      simp -dsimp -implicitDefEqProofs only[go_sem,↓reduceIte,Tryz.f115,ef,aV.aU]
      rcases aJC (400-(i+((f.aO.take i).map aB.s).sum:Nat)) (f.aO[i].s+1)with⟨e,hl1⟩|⟨e,hl1⟩
      ·simp -dsimp -implicitDefEqProofs only[go_sem,↓reduceIte,Tryz.f115,e]
       repeat'(with_reducible first|intro _|refine And.intro ?_ ?_)
       all_goals try omega
       all_goals exact(decide_eq_false λz=>by have:=z.2.2.2.2.1;omega).symm
      ·simp -dsimp -implicitDefEqProofs only[go_sem,↓reduceIte,Tryz.f115,e]
       repeat'(with_reducible first|intro _|refine And.intro ?_ ?_)
       all_goals try omega
       first|refine aD.mk ((aTF p f.aO[i] f.bB k aA aA).sub sK) ?_|refine aG.mk ((aTF p f.aO[i] f.bB k aA aA).sub sK) ?_
       simp -dsimp -implicitDefEqProofs only[go_sem,↓reduceIte,Tryz.f115,ef,aV.aU]
       repeat'(with_reducible first|intro _|refine And.intro ?_ ?_)
       ·rename_i hn
        exact(decide_eq_false λz=>hn (z.2.2.2.2.2 _ (eF hlt))).symm
       ·rename_i hn
        refine⟨i+1,?_⟩
        repeat'(with_reducible refine And.intro ?_ ?_)
        all_goals try(rw[IntWalk.i64_in _ aA];first|rfl|omega)
        all_goals try omega
        all_goals try(repeat'(with_reducible first|exact Heap.le_refl _|refine(bA iI).2 ?_))
        all_goals try(simp only[aF.aU];done)
        exact oS (P:=λe=>kI p e f.bB k) hlt hall hn
     ·have hi':i=f.aO.length:=by omega
      subst hi'
      rw[jG]at hsum hall
      simp -dsimp -implicitDefEqProofs only[go_sem,↓reduceIte,Tryz.f115,ef,aV.aU,cV]
      exact λ_=>(decide_eq_true ⟨by assumption,q1,q3,hp,by rw[oQ];omega,hall⟩).symm
  ·exact no λz=>by simp_all
 ·exact no λz=>by simp_all
@[go_sem] def aYZ:List Nat:=[0,2,3,9,16,22]
theorem bFF (p:aF) (hps:p.s<=4194304):eX Tryz.prog 52 [.ip 1 [p.c] 0 0] (.bool (decide p.ok)):=by
 simp only[aF.aU]
 refine eJ 23 aYZ cR cC Tryz.func52 λh=>?_
 simp -dsimp -implicitDefEqProofs only[go_sem,↓reduceIte,Tryz.f52]
 repeat'(with_reducible first|intro _|refine And.intro ?_ ?_)
 ·exact(decide_eq_false λz=>by have:=z.1;omega).symm
 refine dJ aYZ cR cC (λk:Nat=>[(0,.ip 1 [p.c] 0 0),(3,I k)]) (λ_=>h) (λk=>k<=p.aI.length/\∀ (j:Nat) (f:aV),j<k->p.aI[j]?=some f->xP p j f) (λk=>p.aI.length-k) 0 a1Q ?_
 intro k ⟨hk,hp⟩
 simp only[aF.aU]
 rcases cQ k p.aI.length with hlt|hge
 ·have eg:p.aI[k]?=some p.aI[k]:=cP aA
  simp -dsimp -implicitDefEqProofs only[go_sem,↓reduceIte,Tryz.f52]
  repeat'(with_reducible first|intro _|refine And.intro ?_ ?_)
  all_goals try omega
  first|refine aD.mk ((aTG p k p.aI[k] eg hps).sub sK) ?_|refine aG.mk ((aTG p k p.aI[k] eg hps).sub sK) ?_
  simp -dsimp -implicitDefEqProofs only[go_sem,↓reduceIte,Tryz.f52]
  repeat'(with_reducible first|intro _|refine And.intro ?_ ?_)
  ·rename_i hn
   exact(decide_eq_false λz=>hn (z.2 k _ eg)).symm
  ·rename_i hn
   refine⟨k+1,?_⟩
   repeat'(with_reducible refine And.intro ?_ ?_)
   all_goals try(rw[IntWalk.i64_in _ aA];first|rfl|omega)
   all_goals try omega
   all_goals try(repeat'(with_reducible first|exact Heap.le_refl _|refine(bA iI).2 ?_))
   all_goals try(simp only[aF.aU];done)
   intro j f hj ej
   rcases aFA.1 hj with h1|rfl
   ·exact hp j f h1 ej
   ·rw[eg]at ej;obtain rfl:=eO ej;exact hn
 ·have hk':k=p.aI.length:=by omega
  subst hk'
  simp -dsimp -implicitDefEqProofs only[go_sem,↓reduceIte,Tryz.f52,cV]
  exact λ_=>(decide_eq_true ⟨by omega,λj f ej=>hp j f (jQ.1 ej).1 ej⟩).symm
theorem aQI (a:List aV) (p:aV->Bool) (g:FuncId) (cap:List aC) {h0:Heap} (hc:∀ x∈a,aZ Tryz.prog g ([(.agg (aV.c x))]++cap) (.bool (p x)) h0):aZ Tryz.prog 114 [(eQ 3 aV.c a),.fn (.func g) [] cap] (I (idxOf p a)) h0:=by
 refine aBC 19 aVB cR cC Tryz.func114 λh hle=>?_
 simp -dsimp -implicitDefEqProofs only[go_sem,↓reduceIte,Tryz.f114,Tryz.f114]
 intro _
 refine dJ aVB cR cC (λk:Nat=>[(0,(eQ 3 aV.c a)),(1,.fn (.func g) [] cap),(7,I a.length),(8,I k)]) (λ_=>h) (λk=>k<=a.length/\∀ x∈a.take k,p x=false) (λk=>a.length-k) 0 aAP ?_
 intro k ⟨hk,hp⟩
 rcases cQ k a.length with hlt|hge
 ·have ea:a[k]?=some a[k]:=cP hlt
  simp -dsimp -implicitDefEqProofs only[go_sem,↓reduceIte,Tryz.f114,Tryz.f114,ea,aV.aU]
  repeat'(with_reducible first|intro _|refine And.intro ?_ ?_)
  all_goals try omega
  have hx:=hc a[k] (eF hlt)
  simp only[aV.aU]at hx
  refine aG.bC (hx.mono hle) ?_
  cases hpk:p a[k]with
  |true =>
   simp -dsimp -implicitDefEqProofs only[go_sem,↓reduceIte,Tryz.f114,Tryz.f114]
   repeat'(with_reducible first|intro _|refine And.intro ?_ ?_)
   all_goals first|exact(pO hlt hp hpk).symm|rfl|(rw[pO hlt hp hpk])
  |false =>
   simp -dsimp -implicitDefEqProofs only[go_sem,↓reduceIte,Tryz.f114,Tryz.f114]
   refine⟨k+1,?_⟩
   repeat'(with_reducible refine And.intro ?_ ?_)
   all_goals try(rw[IntWalk.i64_in _ aA];first|rfl|omega)
   all_goals try omega
   exact oS (P:=λx=>p x=false) hlt hp hpk
 ·have hk':k=a.length:=by omega
  subst hk'
  rw[jG]at hp
  simp -dsimp -implicitDefEqProofs only[go_sem,↓reduceIte,Tryz.f114,Tryz.f114,cV]
  all_goals first|exact(pN hp).symm|rw[pN hp]
theorem aQJ (a:List aV) (p:aV->Bool) (g:FuncId) (cap:List aC) {h0:Heap} (hc:∀ x∈a,aZ Tryz.prog g ([(.agg (aV.c x))]++cap) (.bool (p x)) h0):aZ Tryz.prog 50 [(eQ 3 aV.c a),.fn (.func g) [] cap] (.bool (a.any p)) h0:=by
 refine aBC 9 yW cR cC Tryz.func50 λh hle=>?_
 simp -dsimp -implicitDefEqProofs only[go_sem,↓reduceIte,Tryz.f50,Tryz.f50]
 refine aG.bC ((aQI a p g cap hc).mono hle) ?_
 simp -dsimp -implicitDefEqProofs only[go_sem,↓reduceIte,Tryz.f50,Tryz.f50]
 all_goals first|done|exact mC|rw[mC]
theorem aIL (g f:aV) (n:Nat) {h0:Heap} (hn:h0 n=some (.row 3 [f.c.map .v])):aZ Tryz.prog 109 [.agg g.c,.op n 3 0 0] (.bool (decide (g.jX=f.jX))) h0:=by
 simp only[aV.aU]
 have hg (h:Heap) (hle:h0.le h):=Heap.zR hle hn
 refine aBC 9 a6I aKR cC Tryz.func109 λh hle=>?_
 simp -dsimp -implicitDefEqProofs only[go_sem,↓reduceIte,Tryz.f109]
 have hn':=hg h hle
 simp only[aV.aU]at hn'
 simp -dsimp -implicitDefEqProofs only[go_sem,↓reduceIte,Tryz.f109,hn']
@[go_sem] def aQK:List Nat:=[0,1,2,3,4,5,7,11,13,14,15,16,31,42,44,45,46,47,56,63]
theorem aK7 (p:aF) (hps:p.s<=4194304):eX Tryz.prog 47 [.agg p.c] (.bool (decide p.ok)):=by
 simp only[aF.aU]
 refine eJ 65 aQK aGH cC Tryz.func47 λh=>?_
 simp -dsimp -implicitDefEqProofs only[go_sem,↓reduceIte,Tryz.f47]
 repeat'(with_reducible first|intro _|refine And.intro ?_ ?_)
 ·exact(decide_eq_false λz=>by have:=z.1;omega).symm
 refine dJ aQK aGH cC (λk:Nat=>[(1,.ip 1 [p.c] 0 0),(13,eQ 3 aV.c p.aI),(14,I p.aI.length),(15,I k)]) (λ_=>h) (λk=>k<=p.aI.length/\∀ (j:Nat) (f:aV),j<k->p.aI[j]?=some f->xP p j f) (λk=>p.aI.length-k) 0 a1Q ?_
 intro k ⟨hk,hp⟩
 simp only[aF.aU]
 rcases cQ k p.aI.length with hlt|hge
 ·obtain⟨f,eg⟩:∃ f,p.aI[k]?=some f:=⟨_,cP hlt⟩
  have hfs:=aF.aGY (al6 eg)
  have hos:=f.aGZ
  have no (q:¬xP p k f):false=decide p.ok:=(decide_eq_false λz=>q (z.2 k f eg)).symm
  simp -dsimp -implicitDefEqProofs only[go_sem,↓reduceIte,Tryz.f47,eg,aV.aU,aJ]
  repeat'(with_reducible first|intro _|refine And.intro ?_ ?_)
  all_goals try omega
  rename_i n hn
  first|refine aG.mk (aKZ f.jX) ?_|refine aD.mk (aKZ f.jX) ?_|refine aG.bC (aKZ f.jX) ?_|refine aD.mk (aZ.dB (aKZ f.jX)) ?_
  simp -dsimp -implicitDefEqProofs only[go_sem,↓reduceIte,Tryz.f47,aM,aJ]
  repeat'(with_reducible first|intro _|refine And.intro ?_ ?_)
  all_goals try(repeat'(with_reducible first|exact Heap.le_refl _|refine(bA iI).2 ?_))
  all_goals try omega
  all_goals try(rename_i hnm;exact no λz=>hnm z.1)
  rename_i hnm
  rw[←List.map_take]
  refine aG.bC (aQJ (p.aI.take k) (λg=>decide (g.jX=f.jX)) 109 [.op n 3 0 0] λg _=>aIL g f n (by simp[aM,aV.aU])) ?_
  simp -dsimp -implicitDefEqProofs only[go_sem,↓reduceIte,Tryz.f47,aM,aJ]
  repeat'(with_reducible first|intro _|refine And.intro ?_ ?_)
  all_goals try(repeat'(with_reducible first|exact Heap.le_refl _|refine(bA iI).2 ?_))
  ·rename_i q
   refine no λz=>?_
   obtain⟨g,j9,hg2⟩:=aW0.1 q
   exact z.2.2.2.1 g j9 (by simpa using hg2)
  rename_i hnd
  have hnd':∀ g∈p.aI.take k,g.jX≠f.jX:=λg hg=>by
   have:=aW2.1 hnd g hg
   simpa using this
  first|refine aG.mk (within f.bB 0 12) ?_|refine aD.mk (within f.bB 0 12) ?_|refine aG.bC (within f.bB 0 12) ?_|refine aD.mk (aZ.dB (within f.bB 0 12)) ?_
  simp -dsimp -implicitDefEqProofs only[go_sem,↓reduceIte,Tryz.f47,aM,aJ]
  repeat'(with_reducible first|intro _|refine And.intro ?_ ?_)
  all_goals try(repeat'(with_reducible first|exact Heap.le_refl _|refine(bA iI).2 ?_))
  ·first|refine aG.mk (within f.aO.length 1 12) ?_|refine aD.mk (within f.aO.length 1 12) ?_|refine aG.bC (within f.aO.length 1 12) ?_|refine aD.mk (aZ.dB (within f.aO.length 1 12)) ?_
   simp -dsimp -implicitDefEqProofs only[go_sem,↓reduceIte,Tryz.f47,aM,aJ]
   repeat'(with_reducible first|intro _|refine And.intro ?_ ?_)
   all_goals try(repeat'(with_reducible first|exact Heap.le_refl _|refine(bA iI).2 ?_))
   ·rename_i q
    exact no λz=>q z.2.2.1
   ·rename_i q1 q2 q3 q4
    have part (i:Nat) (hi:i<f.aO.length):i+((f.aO.take i).map aB.s).sum+f.aO[i].s+1<=pE aB.s f.aO:=by
     have h1:=j8 aB.s f.aO i hi
     have h2:=sW aB.s f.aO (i+1)
     rw[oQ];omega
    have hszs:pE aB.s f.aO<=f.s:=by rw[f.xN];omega
    refine dJ aQK aGH cC (λi:Nat=>[(1,.ip 1 [p.c] 0 0),(3,I k),(4,.op n 3 0 0),(5,I ((i+((f.aO.take i).map aB.s).sum:Nat):Int)),(13,eQ 3 aV.c p.aI),(14,I p.aI.length),(15,I k),(44,eQ 5 aB.c f.aO),(45,I f.aO.length),(46,I i)]) (λ_=>aR h n (.row 3 [f.c.map .v])) (λi=>i<=f.aO.length/\∀ e∈f.aO.take i,kI p e f.bB k) (λi=>f.aO.length-i) 0 (by refine⟨by simp[dM,cE,aF.aU],by simp[aV.aU,Heap.le_refl],by simp⟩) ?_
    intro i ⟨hi,hall⟩
    simp only[aF.aU,aV.aU,qH,x4]
    rcases cQ i f.aO.length with vO|aVN
    ·have h1:=j8 aB.s f.aO i vO
     have hpt:=part i vO
     have hout:=aV.a6O (eF vO)
     have ee:f.aO[i]?=some f.aO[i]:=cP vO
     have hv:=aVM p f.aO[i] f.bB k aA aA
     have hz:=aGV f.aO[i] aA
     simp only[aB.aU,aF.aU]at hv hz
     simp -dsimp -implicitDefEqProofs only[go_sem,↓reduceIte,Tryz.f47,ee,aB.aU,aJ]
     repeat'(with_reducible first|intro _|refine And.intro ?_ ?_)
     all_goals try omega
     rename_i m hm
     have hmn:(n=m)=False:=eq_false λe=>hm.1 e.symm
     have a8V:(m=n)=False:=eq_false hm.1
     simp -dsimp -implicitDefEqProofs only[go_sem,↓reduceIte,Tryz.f47,aM,hmn,a8V]
     first|refine aG.mk (hv) ?_|refine aD.mk (hv) ?_|refine aG.bC (hv) ?_|refine aD.mk (aZ.dB (hv)) ?_
     simp -dsimp -implicitDefEqProofs only[go_sem,↓reduceIte,Tryz.f47,aM,hmn,a8V]
     repeat'(with_reducible first|intro _|refine And.intro ?_ ?_)
     ·rename_i hne
      exact no λz=>hne (z.2.2.2.2.2 _ (eF vO))
     ·all_goals try(repeat'(with_reducible first|exact Heap.le_refl _|refine(bA iI).2 ?_))
     ·rename_i hne
      first|refine aG.mk (hz) ?_|refine aD.mk (hz) ?_|refine aG.bC (hz) ?_|refine aD.mk (aZ.dB (hz)) ?_
      simp -dsimp -implicitDefEqProofs only[go_sem,↓reduceIte,Tryz.f47,aM,hmn,a8V]
      refine⟨i+1,?_⟩
      repeat'(with_reducible refine And.intro ?_ ?_)
      all_goals try(rw[IntWalk.i64_in _ aA];first|rfl|omega)
      all_goals try omega
      all_goals try(repeat'(with_reducible first|exact Heap.le_refl _|refine(bA iI).2 ?_))
      all_goals try(simp only[aF.aU];done)
      exact oS (P:=λe=>kI p e f.bB k) vO hall hne
    ·have hi':i=f.aO.length:=by omega
     subst hi'
     rw[jG]at hall ⊢
     simp -dsimp -implicitDefEqProofs only[go_sem,↓reduceIte,Tryz.f47,cV]
     have hss:pE aB.s f.aO=f.aO.length+(f.aO.map aB.s).sum:=oQ _ _
     repeat'(with_reducible first|intro _|refine And.intro ?_ ?_)
     all_goals try(repeat'(with_reducible first|exact Heap.le_refl _|refine(bA iI).2 ?_))
     ·rename_i q
      exact no λz=>by have:=z.2.2.2.2.1;omega
     ·rename_i q
      have hfk:xP p k f:=⟨hnm,q1,q3,hnd',by omega,hall⟩
      refine⟨k+1,?_⟩
      repeat'(with_reducible refine And.intro ?_ ?_)
      all_goals try(rw[IntWalk.i64_in _ aA];first|rfl|omega)
      all_goals try omega
      all_goals try(repeat'(with_reducible first|exact Heap.le_refl _|refine(bA iI).2 ?_))
      intro j f' hj ej
      rcases aFA.1 hj with h1|rfl
      ·exact hp j f' h1 ej
      ·rw[eg]at ej;obtain rfl:=eO ej;exact hfk
  ·rename_i q
   exact no λz=>q z.2.1
 ·have hk':k=p.aI.length:=by omega
  subst hk'
  simp -dsimp -implicitDefEqProofs only[go_sem,↓reduceIte,Tryz.f47,cV]
  exact(decide_eq_true ⟨by omega,λj f ej=>hp j f (jQ.1 ej).1 ej⟩).symm
@[go_sem] def a8W:List Nat:=[0,1,2,4,5,9]
theorem aY0 (p:aF) (f:Int) (hps:p.s<=4194304):eX Tryz.prog 60 [.agg p.c,I f] (I (if p.ok then if 0<=f/\f<=(p.aI.length:Int)-1 then 0 else 2 else 1)):=by
 have hv:=aK7 p hps
 simp only[aF.aU]at hv ⊢
 refine eJ 17 a8W aKR cC Tryz.func60 λh=>?_
 simp -dsimp -implicitDefEqProofs only[go_sem,↓reduceIte,Tryz.f60]
 first|refine aG.mk (hv) ?_|refine aD.mk (hv) ?_|refine aG.bC (hv) ?_|refine aD.mk (aZ.dB (hv)) ?_
 simp -dsimp -implicitDefEqProofs only[go_sem,↓reduceIte,Tryz.f60]
 repeat'(with_reducible first|intro _|refine And.intro ?_ ?_)
 ·rename_i hn
  rw[if_neg hn]
 ·rename_i hn _
  rw[if_pos hn]
  all_goals try simp(disch:=omega) only[IntWalk.i64_in]
  first|refine aG.mk (within f 0 (p.aI.length-1)) ?_|refine aD.mk (within f 0 (p.aI.length-1)) ?_|refine aG.bC (within f 0 (p.aI.length-1)) ?_|refine aD.mk (aZ.dB (within f 0 (p.aI.length-1))) ?_
  simp -dsimp -implicitDefEqProofs only[go_sem,↓reduceIte,Tryz.f60]
  repeat'(with_reducible first|intro _|refine And.intro ?_ ?_)
  ·rename_i q
   rw[if_neg q]
  ·rename_i q
   rw[if_pos q]
@[go_sem] def bFG:List Nat:=[5]
theorem a8X (l:List Int) (hl:l.length<=1048576):FnN Tryz.prog 137 [eQ 1 (λn=>[I n]) l] (QS (OS (oP I) 1 l)):=by
 refine aIH 8 a6H bFG cC Tryz.func137 λh=>?_
 simp -dsimp -implicitDefEqProofs only[go_sem,↓reduceIte,Tryz.f137]
 repeat'(with_reducible first|intro _|refine And.intro ?_ ?_)
 all_goals try(first|exact a2Q jH|exact a2R jH|exact aBD jH|omega)
@[go_sem] def bK5:List Nat:=[0,1,2,3,5,9,10,11,12]
@[go_sem] def bO8:List Nat:=[19]
@[go_sem] def bO9:Marks:=λid=>match id with|6=>([1,2,3,5,7],(.op 0 (.op 1 (.op 2 (.op 3 (.op 4 (.op 5 (.op 6 (.op 7 .nil)))))))),[(1,3)])|_=>([],.nil,[])
@[go_sem] def bIR:List Nat:=[0,2,3,4,28]
@[go_sem] def bN2:List Nat:=[40]
@[go_sem] def bN3:Marks:=λid=>match id with|1=>([17,18],(.op 0 (.op 1 (.op 2 (.op 3 (.op 4 (.op 5 (.op 6 (.op 7 (.op 8 (.op 9 (.op 10 (.op 11 (.op 12 (.op 13 (.op 14 (.op 15 (.op 16 (.op 17 (.op 18 .nil))))))))))))))))))),[])|5=>([1,8,10,12],(.op 0 (.op 2 (.op 3 (.op 4 (.op 5 (.op 6 (.op 7 (.op 1 (.op 8 (.op 9 (.op 10 (.op 11 (.op 12 .nil))))))))))))),[(1,8)])|_=>([],.nil,[])
@[go_sem] def bK6:List Nat:=[0,2,3,4,5,6,14,44]
@[go_sem] def bPA:List Nat:=[60,66]
@[go_sem] def bPB:Marks:=λid=>match id with|5=>([17,18],(.op 0 (.op 1 (.op 2 (.op 3 (.op 4 (.op 5 (.op 6 (.op 7 (.op 8 (.op 9 (.op 10 (.op 11 (.op 12 (.op 13 (.op 14 (.op 15 (.op 16 (.op 17 (.op 18 .nil))))))))))))))))))),[])|9=>([1,12,14,16],(.op 0 (.op 2 (.op 3 (.op 4 (.op 5 (.op 6 (.op 7 (.op 8 (.op 9 (.op 10 (.op 11 (.op 1 (.op 12 (.op 13 (.op 14 (.op 15 (.op 16 .nil))))))))))))))))),[(1,12)])|_=>([],.nil,[])
theorem a6P (n:Int):n.tmod 1000003=n%1000003∨n.tmod 1000003=n%1000003-1000003:=by
 by_cases h:0<=n
 ·exact .inl (tY h)
 ·have h1:n.tmod 1000003=-((-n)%1000003):=by
   have h2:n=-(-n):=by omega
   rw[h2,Int.neg_tmod,tY aA,Int.neg_neg]
  rw[h1];omega
theorem fT (n:Int):eX Tryz.prog 181 [I n] (I (n%1000003)):=by
 refine eJ 7 aBF cR cC Tryz.func181 λh=>?_
 simp -dsimp -implicitDefEqProofs only[go_sem,↓reduceIte,Tryz.f181]
 rcases a6P n with h|h
 all_goals
  rw[h,IntWalk.i64_in _ aA,tY aA]
  omega
@[go_sem] def a3B:List Nat:=[0,2,3,7]
theorem cY (n:Int):eX Tryz.prog 107 [I n] (I (n%1000003)):=by
 refine eJ 11 a3B cR cC Tryz.func107 λh=>?_
 simp -dsimp -implicitDefEqProofs only[go_sem,↓reduceIte,Tryz.f107]
 rcases a6P n with h|h
 all_goals
  rw[h]
  refine⟨λq=>?_,λq=>?_⟩
  all_goals first|omega|(rw[IntWalk.i64_in _ aA];omega)
theorem aN8 (a b:Int):eX Tryz.prog 146 [I a,I b] (I ((a+b)%1000003)):=by
 refine eJ 11 yW cR cC Tryz.func146 λh=>?_
 simp -dsimp -implicitDefEqProofs only[go_sem,↓reduceIte,Tryz.f146]
 first|refine aG.mk (fT a) ?_|refine aD.mk (fT a) ?_|refine aG.bC (fT a) ?_|refine aD.mk (aZ.dB (fT a)) ?_
 simp -dsimp -implicitDefEqProofs only[go_sem,↓reduceIte,Tryz.f146]
 first|refine aG.mk (fT b) ?_|refine aD.mk (fT b) ?_|refine aG.bC (fT b) ?_|refine aD.mk (aZ.dB (fT b)) ?_
 simp -dsimp -implicitDefEqProofs only[go_sem,↓reduceIte,Tryz.f146]
 rw[IntWalk.i64_in _ aA,tY aA]
 omega
theorem iR (a b:Int):eX Tryz.prog 45 [I a,I b] (I ((a+b)%1000003)):=by
 refine eJ 11 yW cR cC Tryz.func45 λh=>?_
 simp -dsimp -implicitDefEqProofs only[go_sem,↓reduceIte,Tryz.f45]
 first|refine aG.mk (cY a) ?_|refine aD.mk (cY a) ?_|refine aG.bC (cY a) ?_|refine aD.mk (aZ.dB (cY a)) ?_
 simp -dsimp -implicitDefEqProofs only[go_sem,↓reduceIte,Tryz.f45]
 first|refine aG.mk (cY b) ?_|refine aD.mk (cY b) ?_|refine aG.bC (cY b) ?_|refine aD.mk (aZ.dB (cY b)) ?_
 simp -dsimp -implicitDefEqProofs only[go_sem,↓reduceIte,Tryz.f45]
 rw[IntWalk.i64_in _ aA,tY aA]
 omega
def pF (a b:List Int):List Int:=List.zipWith (λx y=>(x+y)%1000003) a b
theorem aN9 {a b:List Int} (h:b.length=a.length):(pF a b).length=a.length:=by simp[pF,h]
@[go_sem] def bFH:Marks:=λid=>match id with|5=>([13],(.op 0 (.op 1 (.op 2 (.op 3 (.op 4 (.op 5 (.op 6 (.op 7 (.op 8 (.op 9 (.op 10 (.op 11 (.op 12 (.op 13 .nil)))))))))))))),[])|_=>([],.nil,[])
theorem added (a b:List Int) (hab:b.length=a.length) (hl:a.length<=1048576) (ha:∀ x∈a,0<=x/\x<1000003) (hb:∀ x∈b,0<=x/\x<1000003):FnN Tryz.prog 42 [eQ 1 (λn=>[I n]) a,eQ 1 (λn=>[I n]) b] (QS (OS (oP I) 1 (pF a b))):=by
 refine aIH 30 aSV cR bFH Tryz.func42 λh=>?_
 simp -dsimp -implicitDefEqProofs only[go_sem,↓reduceIte,Tryz.f42]
 intro _
 refine⟨b6,j4 _,by omega,by omega,λn hn _=>?_⟩
 have hc:=aN9 hab
 rw[aBM]
 refine aGO aSV cR bFH (λk:Nat=>[(0,eQ 1 (λn=>[I n]) a),(1,eQ 1 (λn=>[I n]) b),(5,.os n 1 0 a.length),(11,I a.length),(12,I k)]) n (λk=>.row 1 (((zV (pF a b) k).map λn=>[I n]).map (List.map .v))) (λk=>k<=a.length) (λk=>a.length-k) 0 ⟨by simp[dM,cE],by rw[aH,aBL,hc],gM _⟩ ?_
 intro k hk
 rcases cQ k a.length with hlt|hge
 ·have ea:a[k]?=some a[k]:=cP hlt
  have eb:b[k]?=some b[k]:=cP aA
  have eu:=aEO (c:=pF a b) (k:=k) aA
  have el:=aEN (pF a b) (k:=k) aA
  simp -dsimp -implicitDefEqProofs only[go_sem,↓reduceIte,Tryz.f42,aJ,hlt,ea,eb,eu,el,hc]
  have h1:=ha _ (eF hlt)
  have h2:=hb b[k] (eF aA)
  refine⟨by omega,k+1,by rw[IntWalk.i64_in _ aA];rfl,?_,by omega,by omega⟩
  have hv:(pF a b)[k]'aA=(a[k]+b[k])%1000003:=by simp[pF]
  rw[IntWalk.i64_in _ aA,tY aA,←aEP aA,hv,←aGN I]
  exact Heap.le_refl _
 ·have hk':k=a.length:=by omega
  subst hk'
  simp -dsimp -implicitDefEqProofs only[go_sem,↓reduceIte,Tryz.f42,aJ,cV]
  have hu:zV (pF a b) a.length=pF a b:=by rw[←hc];exact aEM _
  rw[hu,show a.length=(pF a b).length from hc.symm]
  exact aBD hn
def cG (n:Nat) (s:List Int):Prop:=s.length=n/\gE s
def mV (a:List Int) (n:Int):List Int:=a.map λx=>x*n%1000003
def aVO (a b:List Int):List Int:=pF a (mV b 1000002)
def zX (a b:List Int) (k:Nat):Nat->Int
 |0=>0
 |i+1=>(zX a b k i+a.getD i 0*b.getD (k-i) 0)%1000003
def mulL (a b:List Int):List Int:=(List.range a.length).map λk=>zX a b k (k+1)
def pwN (b:Int) (n:Nat):Int:=b ^ n%1000003
def qC (x:Int):Int:=pwN (x%1000003) 1000001
def dvS (o b:List Int) (k:Nat) (r:Int):Nat->Int
 |0=>r
 |i+1=>(dvS o b k r i-o.getD i 0*b.getD (k-i) 0)%1000003
def jN (a b:List Int):Nat->List Int
 |0=>[]
 |k+1=>jN a b k++[dvS (jN a b k) b k (a.getD k 0) k*qC (b.getD 0 0)%1000003]
def nN (a b:List Int):List Int:=jN a b a.length
def l6 (n:Int) (sz:Nat):List Int:=(List.replicate sz 0).set 0 n
def dE:aB:=.mk 0 0 0 0 []
def aB.lO (e:aB) (i:Nat):aB:=e.aK.getD i dE
def aF.outs (p:aF) (f:Int):List aB:=((p.aI[f.toNat]?).map (·.aO)).getD []
def aF.out (p:aF) (f i:Int):aB:=(p.outs f).getD i.toNat dE
abbrev Out (α:Type):=Except Int (α×Nat)
def Out.andThen {α β:Type} (x:Out α) (f:α->Nat->Out β):Out β:=match x with
 | .ok (a,t)=>f a t
 | .error c=>.error c
def kJ (ev:Nat->aB->Out (List Int)):List aB->Nat->Out (List (List Int))
 | [],t=>.ok ([],t)
 |e::l,t=>(ev t e).andThen λv t=>(kJ ev l t).andThen λvs t=>.ok (v::vs,t)
def oV (f:List (List Int)->Nat->Out (List (List Int))):Nat->List (List Int)->Nat->Out (List (List Int))
 |0,vs,t=>.ok (vs,t)
 |n+1,vs,t=>(f vs t).andThen λvs t=>oV f n vs t
def opE (k:Int) (vs:List (List Int)) (t:Nat):Out (List Int) :=
 if k=3 then .ok (pF (vs.getD 0 []) (vs.getD 1 []),t)
 else if k=4 then .ok (aVO (vs.getD 0 []) (vs.getD 1 []),t)
 else if k=5 then .ok (mulL (vs.getD 0 []) (vs.getD 1 []),t)
 else if k=7 then .ok (mV (vs.getD 0 []) 1000002,t)
 else if (vs.getD 1 []).getD 0 0=0 then .error 6
 else .ok (nN (vs.getD 0 []) (vs.getD 1 []),t)
def gR (p:aF) (sz:Nat):Nat->Nat->aB->List (List Int)->Out (List Int)
 |0,_,_,_=>.error 7
 |n+1,t,e,env =>
  if t=3000 then .error 7
  else if e.aN=1 then .ok (l6 e.aX sz,t+1)
  else if e.aN=2 then .ok (env.getD e.aX.toNat [],t+1)
  else if e.aN=8 then(gR p sz n (t+1) (e.lO 0) env).andThen λc t=>if c.getD 0 0=0 then gR p sz n t (e.lO 1) env else gR p sz n t (e.lO 2) env
  else if e.aN=9 then(gR p sz n (t+1) (e.lO 0) env).andThen λv t=>gR p sz n t (e.lO 1) (env++[v])
  else(kJ (λt e=>gR p sz n t e env) e.aK (t+1)).andThen λvs t =>
   if e.aN=10 then gR p sz n t (p.out e.aX e.cF) vs
   else if e.aN=11 then(oV (λvs t=>kJ (λt e=>gR p sz n t e vs) (p.outs e.aX) t) e.b7.toNat vs t).andThen λvs t=>.ok (vs.getD e.cF.toNat [],t)
   else opE e.aN vs t
def gZ {α:Type} (X:Out α) (v:α) (t:Nat) (c:Int):Prop:=match X with
 | .ok (w,u)=>c=0/\v=w/\t=u
 | .error d=>c=d/\d≠0
def mW {α:Type} (c:Int) (X:Out α):Out α:=if c=0 then X else .error c
theorem cJ {α:Type} (X:Out α):mW 0 X=X:=if_pos rfl
theorem pT {α:Type} {c:Int} (X:Out α) (h:¬c=0):mW c X=.error c:=if_neg h
theorem jJ {α:Type} {c:Int} (v:α) (t:Nat) (h:¬c=0):gZ (.error c:Out α) v t c:=⟨rfl,h⟩
theorem j0 {α:Type} (v:α) (t:Nat):gZ (.ok (v,t):Out α) v t 0:=⟨rfl,rfl,rfl⟩
theorem fI {α:Type} (v:α) (t:Nat) (c:Int):gZ (mW c (.ok (v,t))) v t c:=by
 by_cases e:c=0
 ·subst e;rw[cJ];exact j0 v t
 ·rw[pT _ e];exact jJ v t e
theorem gZ.then {α β:Type} {X:Out α} {F:α->Nat->Out β} {v:α} {t:Nat} {c:Int} {v2:β} {t2:Nat} {c2:Int} (h:gZ X v t c) (h2:gZ (mW c (F v t)) v2 t2 c2):gZ (X.andThen F) v2 t2 c2:=by
 cases X with
 |ok p =>
  obtain⟨w,u⟩:=p
  obtain⟨rfl,rfl,rfl⟩:=h
  rw[cJ]at h2
  exact h2
 |error d =>
  obtain⟨rfl,h⟩:=h
  rw[pT _ h]at h2
  exact h2
theorem gZ.err {α:Type} {X:Out α} {v:α} {t:Nat} {c:Int} (h:gZ X v t c) (hc:¬c=0):X=.error c:=by
 cases X with
 |ok p=>exact absurd h.1 hc
 |error d=>rw[h.1]
theorem gZ.dA {α β:Type} {c0:Int} {X:Out α} {F:α->Nat->Out β} {v:α} {t:Nat} {c:Int} {v2:β} {t2:Nat} {c2:Int} (h:gZ (mW c0 X) v t c) (h2:gZ (mW c (F v t)) v2 t2 c2):gZ (mW c0 (X.andThen F)) v2 t2 c2:=by
 by_cases e:c0=0
 ·subst e
  rw[cJ]at h ⊢
  exact h.then h2
 ·rw[pT _ e]at h ⊢
  obtain⟨rfl,h⟩:=h
  rw[pT _ h]at h2
  exact h2
theorem gZ.bFJ {α:Type} {c0:Int} {X:Out α} {v:α} {t:Nat} {c:Int} (h:gZ (mW c0 X) v t c) (hc:c=0):c0=0:=by
 by_cases e:c0=0
 ·exact e
 ·rw[pT _ e]at h
  exact h.1.symm.trans hc
theorem Out.lG {α β γ:Type} (x:Out α) (f:α->Nat->Out β) (g:β->Nat->Out γ):(x.andThen f).andThen g=x.andThen λa t=>(f a t).andThen g:=by
 cases x <;> rfl
theorem Out.andThen_ok {α β:Type} (a:α) (t:Nat) (f:α->Nat->Out β):Out.andThen (.ok (a,t)) f=f a t:=rfl
theorem uO (ev:Nat->aB->Out (List Int)) (e:aB):∀ (l:List aB) (t:Nat),kJ ev (l++[e]) t=(kJ ev l t).andThen λvs t=>(ev t e).andThen λv t=>.ok (vs++[v],t)
 | [],t=>rfl
 |x::l,t=>by
  simp only[aE9,kJ,uO ev e l,Out.lG,Out.andThen_ok]
theorem vP (f:List (List Int)->Nat->Out (List (List Int))):∀ (n:Nat) (vs:List (List Int)) (t:Nat),oV f (n+1) vs t=(oV f n vs t).andThen f
 |0,vs,t=>by
  show(f vs t).andThen (λvs t=>.ok (vs,t))=f vs t
  cases f vs t with
  |ok p=>rfl
  |error c=>rfl
 |n+1,vs,t=>by
  show(f vs t).andThen (λvs t=>oV f (n+1) vs t)=((f vs t).andThen λvs t=>oV f n vs t).andThen f
  rw[Out.lG]
  congr 1
  funext a t
  exact vP f n a t
theorem aJL {f:List (List Int)->Nat->Out (List (List Int))} {vs:List (List Int)} {t:Nat} {c:Int}:∀ (n k:Nat),k<=n->oV f k vs t=.error c->oV f n vs t=.error c
 |0,k,hk,h=>by
  have:k=0:=by omega
  subst this;exact h
 |n+1,k,hk,h=>by
  rcases cQ k (n+1)with hlt|hge
  ·rw[vP,aJL n k aA h];rfl
  ·have:k=n+1:=by omega
   subst this;exact h
theorem oW (n:Int):fZ (n%1000003):=by unfold fZ;omega
theorem cG.len {n:Nat} {s:List Int} (h:cG n s):s.length=n:=h.1
theorem yE {n:Nat} {a b:List Int} (ha:cG n a) (hb:cG n b):cG n (pF a b):=by
 refine⟨by simp[pF,ha.1,hb.1],λx hx=>?_⟩
 obtain⟨i,hi,rfl⟩:=aAK.1 hx
 simp only[pF,List.getElem_zipWith]
 exact oW _
theorem mD {n:Nat} {a:List Int} (k:Int) (ha:cG n a):cG n (mV a k):=by
 refine⟨by simp[mV,ha.1],λx hx=>?_⟩
 obtain⟨y,_,rfl⟩:=rC.1 hx
 exact oW _
theorem aCX {n:Nat} {a b:List Int} (ha:cG n a) (hb:cG n b):cG n (aVO a b):=yE ha (mD _ hb)
theorem aY1 (a b:List Int) (k:Nat):∀ i,fZ (zX a b k i)
 |0=>by unfold zX fZ;omega
 |i+1=>oW _
theorem aCY {n:Nat} {a:List Int} (b:List Int) (ha:cG n a):cG n (mulL a b):=by
 refine⟨by simp[mulL,ha.1],λx hx=>?_⟩
 obtain⟨k,_,rfl⟩:=rC.1 hx
 exact aY1 _ _ _ _
theorem nB (a b:List Int):∀ k,(jN a b k).length=k
 |0=>rfl
 |k+1=>by rw[jN,k8,nB a b k];rfl
theorem sE (a b:List Int):∀ k,gE (jN a b k)
 |0=>λx hx=>by cases hx
 |k+1=>λx hx=>by
  rw[jN,mS,nQ]at hx
  rcases hx with hx|rfl
  ·exact sE a b k x hx
  ·exact oW _
theorem aCZ {n:Nat} {a:List Int} (b:List Int) (ha:cG n a):cG n (nN a b):=⟨by rw[nN,nB,ha.1],sE _ _ _⟩
theorem eD {n:Int} {sz:Nat} (h:fZ n):cG sz (l6 n sz):=by
 refine⟨by simp[l6],λx hx=>?_⟩
 rw[l6]at hx
 rcases a1F hx with hx|rfl
 ·have:=(List.mem_replicate.1 hx).2
  subst this;unfold fZ;omega
 ·exact h
theorem gE.get {l:List Int} (h:gE l) (i:Nat):fZ (l.getD i 0):=by
 rw[gA]
 rcases cQ i l.length with hi|hi
 ·rw[cP hi];exact h _ (eF hi)
 ·rw[aUR hi];unfold fZ;simp
def hR (s s':List Int):Prop:=(s=[]/\s'=[])∨∃ x a b,s=x::a/\s'=x::b
theorem a8Y:hR [] []:=.inl ⟨rfl,rfl⟩
theorem aVP (x:Int) (a b:List Int):∃ t,mulL (x::a) b=(x*b.getD 0 0)%1000003::t:=by
 refine⟨((List.range a.length).map Nat.succ).map λk=>zX (x::a) b k (k+1),?_⟩
 rw[mulL,al3,List.range_succ_eq_map,qH]
 congr 1
 simp[zX]
theorem aJM (x:Int) (a b:List Int):∀ k,∃ t,jN (x::a) b (k+1)=x*qC (b.getD 0 0)%1000003::t
 |0=>⟨[],rfl⟩
 |k+1=>by
  obtain⟨t,h⟩:=aJM x a b k
  rw[jN,h]
  exact⟨_,rfl⟩
def eR:List (List Int)->List (List Int)->Prop
 | [],[]=>True
 |s::l,s'::l'=>hR s s'/\eR l l'
 | _,_=>False
theorem eR.get:∀ {l l':List (List Int)},eR l l'->∀ i,hR (l.getD i []) (l'.getD i [])
 | [],[],_,i=>by simp[a8Y]
 |s::l,s'::l',h,0=>h.1
 |s::l,s'::l',h,i+1=>by simpa using eR.get h.2 i
 | [],_::_,h,_=>h.elim
 | _::_,[],h,_=>h.elim
theorem eR.len:∀ {l l':List (List Int)},eR l l'->l.length=l'.length
 | [],[],_=>rfl
 |s::l,s'::l',h=>by simp[eR.len h.2]
 | [],_::_,h=>h.elim
 | _::_,[],h=>h.elim
def evF (p:aF) (sz:Nat) (f:Int) (args:List (List Int)):Out (List (List Int)):=kJ (λt e=>gR p sz 3001 t e args) (p.outs f) 0
theorem aY2 (b:Int):∀ n:Nat,(b%1000003) ^ n%1000003=b ^ n%1000003
 |0=>by rw[aIT,aIT]
 |n+1=>by
  rw[aMG,aMG,aIU,aY2 b n,Int.emod_emod_of_dvd _ (Int.dvd_refl _),←aIU]
theorem aTH (x b:Int) (n:Nat):x*b ^ n%1000003=(if n%2=1 then x*b%1000003 else x)*(b*b%1000003) ^ (n / 2)%1000003:=by
 have h2:b ^ n=(b*b) ^ (n / 2)*b ^ (n%2):=by
  rw[show b*b=b ^ 2 by rw[aMG,aMG,aIT,Int.one_mul],←Int.pow_mul,←Int.pow_add]
  congr 1;omega
 have h3:∀ y:Int,y*(b*b%1000003) ^ (n / 2)%1000003=y*(b*b) ^ (n / 2)%1000003:=λy=>by
  rw[aIU,aY2,←aIU]
 rw[h3,h2]
 split
 ·rename_i h
  rw[h,aMG,aIT,Int.one_mul,aIU (x*b%1000003),Int.emod_emod_of_dvd _ (Int.dvd_refl _),←aIU]
  congr 1
  rw[Int.mul_comm ((b*b) ^ (n / 2)) b,Int.mul_assoc]
 ·rename_i h
  have:n%2=0:=by omega
  rw[this,aIT,Int.mul_one]
theorem aTI (x b:Int) (hx:0<=x/\x<1000003):x*b ^ 0%1000003=x:=by
 rw[aIT,Int.mul_one];omega
theorem aY3 {x b m T:Int} (hm:0<=m) (h:m%2=1) (hp:x*b ^ m.toNat%1000003=T):(x*b%1000003)*(b*b%1000003) ^ (m / 2).toNat%1000003=T:=by
 rw[←hp,aTH x b m.toNat,if_pos aA,show(m / 2).toNat=m.toNat / 2 by omega]
theorem aTJ {x b m T:Int} (hm:0<=m) (h:¬m%2=1) (hp:x*b ^ m.toNat%1000003=T):x*(b*b%1000003) ^ (m / 2).toNat%1000003=T:=by
 rw[←hp,aTH x b m.toNat,if_neg aA,show(m / 2).toNat=m.toNat / 2 by omega]
theorem aOA (y:Int):0<=y%1000003/\y%1000003<1000003:=by omega
theorem dV {l:List Int} {i:Nat} (h:i<l.length):l[i]?=some (l.getD i 0):=by
 rw[gA,cP h];rfl
theorem num_inv (x:Int):fZ (qC x):=oW _
theorem vQ (o b:List Int) (k:Nat) {r:Int} (hr:fZ r):∀ i,fZ (dvS o b k r i)
 |0=>hr
 |i+1=>oW _
theorem aC0 (a b:List Int) {k:Nat}:∀ n,k<=n->(jN a b n).take k=jN a b k
 |0,h=>by
  have:k=0:=by omega
  subst this;rfl
 |n+1,h=>by
  rcases cQ k (n+1)with h1|h1
  ·rw[jN,List.take_append_of_le_length (by rw[nB];omega),aC0 a b n aA]
  ·have:k=n+1:=by omega
   subst this
   rw[kC (by rw[nB];omega)]
theorem uP (a b:List Int):(nN a b).length=a.length:=nB _ _ _
theorem a3C (a b:List Int) {k:Nat} (hk:k<=a.length):zV (nN a b) k=jN a b k++List.replicate (a.length-k) 0:=by
 rw[zV,uP,nN,aC0 a b _ hk]
theorem aDX {a b:List Int} {k i:Nat} (hk:k<=a.length) (hi:i<k):(zV (nN a b) k)[i]?=some ((jN a b k).getD i 0):=by
 rw[a3C a b hk,tW (by rw[nB];exact hi)]
 exact dV (by rw[nB];exact hi)
theorem aOB {a b:List Int} {k:Nat} (hk:k<a.length):(nN a b)[k]'(by rw[uP];exact hk)=dvS (jN a b k) b k (a.getD k 0) k*qC (b.getD 0 0)%1000003:=by
 have h:=aDX (a:=a) (b:=b) (k:=k+1) (i:=k) aA aA
 have h2:(jN a b (k+1)).getD k 0=dvS (jN a b k) b k (a.getD k 0) k*qC (b.getD 0 0)%1000003:=by
  rw[jN,gA,zE (by rw[nB];omega),nB,zF];rfl
 rw[h2,zV,tW (by rw[qI,uP];omega),aJ1 aA,cP (by rw[uP];exact hk)]at h
 exact eO h
theorem num_mul {x y:Int} (hx:fZ x) (hy:fZ y):0<=x*y/\x*y<=1000004000004:=by
 refine⟨Int.mul_nonneg hx.1 hy.1,?_⟩
 have:=Int.mul_le_mul hx.2 hy.2 hy.1 aA
 omega
theorem aFE (a:List Int) (n:Int):(mV a n).length=a.length:=by simp[mV]
theorem aOC (a b:List Int):(mulL a b).length=a.length:=by simp[mulL]
theorem yF {l:List Int} (h:gE l):∀ x∈l,0<=x/\x<1000003:=λx hx=>by have:=h x hx;unfold fZ at this;omega
theorem aQL {n:Int} (h0:0<=n) (h1:n<=9223372036854775807):(IntKind.i64.wrap n).tmod 1000003=n%1000003:=by
 rw[IntWalk.i64_in _ aA,tY h0]
theorem aY4 {c:List Int} {k:Nat} (hk:k<c.length):(zV c k).set k 0=zV c k:=by
 have h:=aEO hk
 apply List.ext_getElem?
 intro i
 rw[List.getElem?_set]
 split
 ·subst_vars
  split
  ·exact h.symm
  ·rename_i h2
   rw[aUR aA]
 ·rfl
theorem aOD {p:aF} {sz n st:Nat} {e:aB} {env:List (List Int)} (h3:¬st=3000) (hk:e.aN=1):gR p sz (n+1) st e env=.ok (l6 e.aX sz,st+1):=by rw[gR,if_neg h3,if_pos hk]
theorem aOE {p:aF} {sz n st:Nat} {e:aB} {env:List (List Int)} (h3:¬st=3000) (hk:e.aN=2):gR p sz (n+1) st e env=.ok (env.getD e.aX.toNat [],st+1):=by rw[gR,if_neg h3,if_neg aA,if_pos hk]
theorem aG2 {p:aF} {sz n st:Nat} {e:aB} {env:List (List Int)} (h3:¬st=3000) (hk:e.aN=8):gR p sz (n+1) st e env=(gR p sz n (st+1) (e.lO 0) env).andThen λc t=>if c.getD 0 0=0 then gR p sz n t (e.lO 1) env else gR p sz n t (e.lO 2) env:=by rw[gR,if_neg h3,if_neg aA,if_neg aA,if_pos hk]
theorem aOF {p:aF} {sz n st:Nat} {e:aB} {env:List (List Int)} (h3:¬st=3000) (hk:e.aN=9):gR p sz (n+1) st e env=(gR p sz n (st+1) (e.lO 0) env).andThen λv t=>gR p sz n t (e.lO 1) (env++[v]):=by rw[gR,if_neg h3,if_neg aA,if_neg aA,if_neg aA,if_pos hk]
theorem aC1 {p:aF} {sz n st:Nat} {e:aB} {env:List (List Int)} (h3:¬st=3000) (hk:e.aN=10):gR p sz (n+1) st e env=(kJ (λt e=>gR p sz n t e env) e.aK (st+1)).andThen λvs t=>gR p sz n t (p.out e.aX e.cF) vs:=by
 rw[gR,if_neg h3,if_neg aA,if_neg aA,if_neg aA,if_neg aA];simp only[if_pos hk]
theorem aC2 {p:aF} {sz n st:Nat} {e:aB} {env:List (List Int)} (h3:¬st=3000) (hk:e.aN=11):gR p sz (n+1) st e env=(kJ (λt e=>gR p sz n t e env) e.aK (st+1)).andThen λvs t=>(oV (λvs t=>kJ (λt e=>gR p sz n t e vs) (p.outs e.aX) t) e.b7.toNat vs t).andThen λvs t=>.ok (vs.getD e.cF.toNat [],t):=by
 have h:¬e.aN=10:=by omega
 rw[gR,if_neg h3,if_neg aA,if_neg aA,if_neg aA,if_neg aA];simp only[if_neg h,if_pos hk]
theorem mX {p:aF} {sz n st:Nat} {e:aB} {env:List (List Int)} (h3:¬st=3000) (hk:e.aN=3∨e.aN=4∨e.aN=5∨e.aN=6∨e.aN=7):gR p sz (n+1) st e env=(kJ (λt e=>gR p sz n t e env) e.aK (st+1)).andThen λvs t=>opE e.aN vs t:=by
 have h:¬e.aN=10:=by omega
 have h2:¬e.aN=11:=by omega
 rw[gR,if_neg h3,if_neg aA,if_neg aA,if_neg aA,if_neg aA];simp only[if_neg h,if_neg h2]
theorem aB.fL {e:aB} {i:Nat} (h:i<e.aK.length):e.aK[i]?=some (e.lO i):=by
 rw[aB.lO,gA,cP h];rfl
theorem aB.aK8 {e:aB} {i:Nat} (h:i<e.aK.length):e.lO i=e.aK[i]:=by
 have:=aB.fL h
 rw[cP h]at this
 exact(eO this).symm
theorem aB.dW {p:aF} {funcs vars:Int} {e:aB} {i:Nat} (hok:e.ok p funcs vars) (h:i<e.aK.length):(e.lO i).ok p funcs (gL e.aN i vars):=by
 rw[aB.aK8 h];exact((aB.cS _ _ _ _).1 hok).2 i h
theorem aB.ld5 (x:aB):(if 5<=x.c.length then some (aC.agg (List.take 5 x.c))else none)=some (.agg x.c):=by
 rw[if_pos (by rw[aB.aGI];exact j4 _),kC (by rw[aB.aGI];exact j4 _)]
theorem fR {k:Int} {i:Nat} {v:Int} (h:¬(k=9/\i=1)):gL k i v=v:=if_neg h
theorem gW {sz:Nat} {env:List (List Int)} (h:∀ s∈env,cG sz s) {i:Nat} (hi:i<env.length):cG sz (env.getD i []):=by
 rw[gA,cP hi];exact h _ (eF hi)
theorem jP {env:List (List Int)} {i:Nat} (hi:i<env.length):env[i]?=some (env.getD i []):=by
 rw[gA,cP hi];rfl
theorem dH {p:aF} {funcs vars:Int} {e:aB} (hok:e.ok p funcs vars) (hk:¬(e.aN=10∨e.aN=11)):dK e.aN=e.aK.length:=((dI hk).1 ((aB.cS _ _ _ _).1 hok).1).1
theorem eA {p:aF} {funcs vars:Int} {e:aB} (hok:e.ok p funcs vars) (hk:¬e.aN=9):∀ x∈e.aK,x.ok p funcs vars:=λx hx=>by
 obtain⟨i,hi,rfl⟩:=aAK.1 hx
 have:=((aB.cS _ _ _ _).1 hok).2 i hi
 rwa [fR (λq=>hk q.1)]at this
structure bFK (p:aF) (e:aB) (f:aV):Prop where
 get:p.aI[e.aX.toNat]?=some f
 lo:0<=e.aX
 hi:e.aX<p.aI.length
 pk:0<=e.cF
 pk2:e.cF.toNat<f.aO.length
 kids:(e.aK.length:Int)=f.bB
 params:0<=f.bB/\f.bB<=12
 outs:1<=f.aO.length/\f.aO.length<=12
 oks:∀ x∈f.aO,x.ok p e.aX f.bB
 eq:p.outs e.aX=f.aO
 out:f.aO[e.cF.toNat]?=some (p.out e.aX e.cF)
 loop:e.aN=11->0<=e.b7/\e.b7<=8/\(f.aO.length:Int)=f.bB
theorem lP {p:aF} (hp:p.ok) {e:aB} {funcs vars:Int} (hok:e.ok p funcs vars) (hf:funcs<=p.aI.length) (hk:e.aN=10∨e.aN=11):∃ f,bFK p e f:=by
 have h1:=((aB.cS _ _ _ _).1 hok).1
 have h2:=h1
 unfold kV at h1
 rw[if_pos hk]at h1
 have hlt:e.aX.toNat<p.aI.length:=by omega
 have ef:p.aI[e.aX.toNat]?=some p.aI[e.aX.toNat]:=cP hlt
 rw[qB hk ef]at h2
 obtain⟨n1,n2,n3,n4,n5,n6,n7⟩:=h2
 have hF:=hp.2 _ _ ef
 have heq:p.outs e.aX=p.aI[e.aX.toNat].aO:=by rw[aF.outs,ef];rfl
 refine⟨_,⟨ef,n1,by omega,n3,by omega,n5,hF.2.1,by have:=hF.2.2.1;omega,λx hx=>?_,heq,?_,n7⟩⟩
 ·have:=(hF.2.2.2.2.2 x hx).2.2.2.2
  rwa [show((e.aX.toNat:Nat):Int)=e.aX by omega]at this
 ·rw[aF.out,heq,gA,cP aA];rfl
def aC3 {α:Type} (X:Out α):Prop:=∀ c,X=.error c->c=6∨c=7
theorem aC3.ok {α:Type} {v:α} {t:Nat}:aC3 (.ok (v,t):Out α):=λc h=>by cases h
theorem aC3.then {α β:Type} {X:Out α} {F:α->Nat->Out β} (h:aC3 X) (hf:∀ v t,aC3 (F v t)):aC3 (X.andThen F):=λc hc=>by
 cases X with
 |ok p=>exact hf p.1 p.2 c hc
 |error d=>exact h c (by cases hc;rfl)
theorem aBU {ev:Nat->aB->Out (List Int)} (h:∀ t e,aC3 (ev t e)):∀ (l:List aB) (t:Nat),aC3 (kJ ev l t)
 | [],t=>.ok
 |e::l,t=>(h t e).then λv t=>(aBU h l t).then λvs t=>.ok
theorem aG3 {f:List (List Int)->Nat->Out (List (List Int))} (h:∀ vs t,aC3 (f vs t)):∀ (n:Nat) (vs:List (List Int)) (t:Nat),aC3 (oV f n vs t)
 |0,vs,t=>.ok
 |n+1,vs,t=>(h vs t).then λa t=>aG3 h n a t
theorem a3E (k:Int) (vs:List (List Int)) (t:Nat):aC3 (opE k vs t):=by
 unfold opE
 repeat' split
 all_goals first|exact .ok|(intro c h;cases h;exact .inl rfl)
theorem aTL (p:aF) (sz:Nat):∀ (n t:Nat) (e:aB) (env:List (List Int)),aC3 (gR p sz n t e env)
 |0,t,e,env=>λc h=>by rw[gR]at h;cases h;exact .inr rfl
 |n+1,t,e,env=>by
  have ih:=aTL p sz n
  rw[gR]
  split
  ·intro c h;cases h;exact .inr rfl
  split
  ·exact .ok
  split
  ·exact .ok
  split
  ·refine(ih _ _ _).then λv t=>?_
   split
   ·exact ih _ _ _
   ·exact ih _ _ _
  split
  ·exact(ih _ _ _).then λv t=>ih _ _ _
  refine(aBU (λt e=>ih t e env) _ _).then λvs t=>?_
  split
  ·exact ih _ _ _
  split
  ·exact(aG3 (λvs t=>aBU (λt e=>ih t e vs) _ t) _ _ _).then λvs t=>.ok
  ·exact a3E _ _ _
theorem a3F (p:aF) (sz:Nat) (f:Int) (args:List (List Int)):aC3 (evF p sz f args):=aBU (λt e=>aTL p sz 3001 t e args) _ _
def okP {α:Type} (P:α->Prop) (X:Out α):Prop:=∀ v u,X=.ok (v,u)->P v
theorem okP.then {α β:Type} {P:α->Prop} {Q:β->Prop} {X:Out α} {F:α->Nat->Out β} (h:okP P X) (hf:∀ v t,P v->okP Q (F v t)):okP Q (X.andThen F):=λw u hw=>by
 cases X with
 |ok p=>obtain⟨v,t⟩:=p;exact hf v t (h v t rfl) w u hw
 |error c=>cases hw
theorem okP.err {α:Type} {P:α->Prop} {c:Int}:okP P (.error c:Out α):=λw u e=>by cases e
def bFL (sz n:Nat) (l:List (List Int)):Prop:=l.length=n/\∀ s∈l,cG sz s
theorem bFL.get {sz n i:Nat} {l:List (List Int)} (h:bFL sz n l) (hi:i<n):cG sz (l.getD i []):=by
 rw[gA,cP (by rw[h.1];exact hi)];exact h.2 _ (eF _)
theorem pR {p:aF} {e:aB} {vars funcs:Int} (h:kV p e vars funcs):e.aN=1∨e.aN=2∨e.aN=3∨e.aN=4∨e.aN=5∨e.aN=6∨e.aN=7∨e.aN=8∨e.aN=9∨e.aN=10∨e.aN=11:=by
 by_cases hk:e.aN=10∨e.aN=11
 ·omega
 ·have h1:=((dI hk).1 h).1
  unfold dK at h1
  repeat'(split at h1)
  all_goals omega
theorem rG {p:aF} (hp:p.ok) {f:Int} (hf:0<=f/\f<p.aI.length):∃ F,p.aI[f.toNat]?=some F/\(1<=F.aO.length/\F.aO.length<=12)/\(0<=F.bB/\F.bB<=12)/\p.outs f=F.aO/\∀ x∈F.aO,x.ok p f F.bB:=by
 have hlt:f.toNat<p.aI.length:=by omega
 have ef:p.aI[f.toNat]?=some p.aI[f.toNat]:=cP hlt
 have hF:=hp.2 _ _ ef
 refine⟨_,ef,by have:=hF.2.2.1;omega,hF.2.1,by rw[aF.outs,ef];rfl,λx hx=>?_⟩
 have:=(hF.2.2.2.2.2 x hx).2.2.2.2
 rwa [show((f.toNat:Nat):Int)=f by omega]at this
structure cD where
 code:List aP
 dZ:List Int
 guards:List bL
def cD.val (S:cD) (k:Int):Int:=S.dZ.getD k.toNat 0
def cD.put (S:cD) (c:aP) (v:Int):cD:=⟨S.code++[c],S.dZ++[v],S.guards⟩
def cD.guard (S:cD) (g:bL):cD:=⟨S.code,S.dZ,S.guards++[g]⟩
def nO (ev:Nat->aB->cD->Out (Int×cD)):List aB->Nat->cD->Out (List Int×cD)
 | [],t,S=>.ok (([],S),t)
 |e::l,t,S=>(ev t e S).andThen λr t=>(nO ev l t r.2).andThen λq t=>.ok ((r.1::q.1,q.2),t)
def pI (f:List Int->Nat->cD->Out (List Int×cD)):Nat->List Int->Nat->cD->Out (List Int×cD)
 |0,vs,t,S=>.ok ((vs,S),t)
 |n+1,vs,t,S=>(f vs t S).andThen λr t=>pI f n r.1 t r.2
def opV (k a b:Int):Option Int :=
 if k=3 then some ((a+b)%1000003)else if k=4 then some ((a-b)%1000003)else if k=5 then some (a*b%1000003)else if k=7 then some ((0-a)%1000003)
 else if b=0 then none else some (a*qC b%1000003)
def opB (k:Int) (vs:List Int):Int:=if k=7 then 0 else vs.getD 1 0
def opR (k:Int) (vs:List Int) (S:cD) (t:Nat):Out (Int×cD):=match opV k (S.val (vs.getD 0 0)) (S.val (opB k vs))with
 |none=>.error 6
 |some v=>.ok (((S.dZ.length:Int),S.put ⟨k,vs.getD 0 0,opB k vs,0⟩ v),t)
def dN (p:aF):Nat->Nat->aB->List Int->cD->Out (Int×cD)
 |0,_,_,_,_=>.error 7
 |n+1,t,e,env,S =>
  if t=3000 then .error 7
  else if e.aN=1 then .ok (((S.dZ.length:Int),S.put ⟨2,0,0,e.aX⟩ e.aX),t+1)
  else if e.aN=2 then .ok ((env.getD e.aX.toNat 0,S),t+1)
  else if e.aN=8 then(dN p n (t+1) (e.lO 0) env S).andThen λr t =>
   if r.2.val r.1=0 then dN p n t (e.lO 1) env (r.2.guard ⟨r.1,true⟩)else dN p n t (e.lO 2) env (r.2.guard ⟨r.1,false⟩)
  else if e.aN=9 then(dN p n (t+1) (e.lO 0) env S).andThen λr t=>dN p n t (e.lO 1) (env++[r.1]) r.2
  else(nO (λt e S=>dN p n t e env S) e.aK (t+1) S).andThen λr t =>
   if e.aN=10 then dN p n t (p.out e.aX e.cF) r.1 r.2
   else if e.aN=11 then(pI (λvs t S=>nO (λt e S=>dN p n t e vs S) (p.outs e.aX) t S) e.b7.toNat r.1 t r.2).andThen λr t=>.ok ((r.1.getD e.cF.toNat 0,r.2),t)
   else opR e.aN r.1 r.2 t
theorem aJN (ev:Nat->aB->cD->Out (Int×cD)) (e:aB):∀ (l:List aB) (t:Nat) (S:cD),nO ev (l++[e]) t S=(nO ev l t S).andThen λq t=>(ev t e q.2).andThen λr t=>.ok ((q.1++[r.1],r.2),t)
 | [],t,S=>rfl
 |x::l,t,S=>by
  simp only[aE9,nO,aJN ev e l,Out.lG,Out.andThen_ok]
theorem zY (f:List Int->Nat->cD->Out (List Int×cD)):∀ (n:Nat) (vs:List Int) (t:Nat) (S:cD),pI f (n+1) vs t S=(pI f n vs t S).andThen λr t=>f r.1 t r.2
 |0,vs,t,S=>by
  show(f vs t S).andThen (λr t=>.ok ((r.1,r.2),t))=f vs t S
  cases f vs t S with
  |ok p=>rfl
  |error c=>rfl
 |n+1,vs,t,S=>by
  rw[pI,show pI f (n+1) vs t S=(f vs t S).andThen λr t=>pI f n r.1 t r.2 from rfl,Out.lG]
  congr 1
  funext r t
  exact zY f n r.1 t r.2
theorem aVQ (f:List Int->Nat->cD->Out (List Int×cD)) {vs:List Int} {t:Nat} {S:cD} {c:Int}:∀ (k:Nat) {n:Nat},k<=n->pI f k vs t S=.error c->pI f n vs t S=.error c:=by
 intro k n hkn h
 induction n with
 |zero => obtain rfl : k = 0 := by omega
          exact h
 |succ n ih =>
  rcases cQ k (n+1)with h1|h1
  ·rw[zY,ih aA];rfl
  ·obtain rfl:k=n+1:=by omega
   exact h
def fD (inp:Int) (i:Nat) (c:aP):Prop :=
 (c.lT=1/\c.fA=0/\c.fB=0/\0<=c.aX/\c.aX<inp)∨(c.lT=2/\c.fA=0/\c.fB=0/\fZ c.aX)∨((c.lT=3∨c.lT=4∨c.lT=5∨c.lT=6)/\c.aX=0/\0<=c.fA/\c.fA<i/\0<=c.fB/\c.fB<i)∨(c.lT=7/\c.aX=0/\c.fB=0/\0<=c.fA/\c.fA<i)
structure Good (inp:Int) (S:cD) (t:Nat):Prop where
 len:S.code.length=S.dZ.length
 a3G:gE S.dZ
 ins:∀ i c,S.code[i]?=some c->fD inp i c
 yG:∀ g∈S.guards,0<=g.oT/\g.oT<S.dZ.length
 cap:S.dZ.length<=12+t
 vR:S.guards.length<=t
def cD.ext (S S':cD):Prop:=S.code <+: S'.code/\S.dZ <+: S'.dZ/\S.guards <+: S'.guards
theorem cD.oX (S:cD):S.ext S:=⟨aIV _,aIV _,aIV _⟩
theorem cD.ext.trans {a b c:cD} (h:a.ext b) (k:b.ext c):a.ext c:=⟨h.1.trans k.1,h.2.1.trans k.2.1,h.2.2.trans k.2.2⟩
theorem cD.vS (S:cD) (c:aP) (v:Int):S.ext (S.put c v):=⟨aW3 _ _,aW3 _ _,aIV _⟩
theorem cD.oB (S:cD) (g:bL):S.ext (S.guard g):=⟨aIV _,aIV _,aW3 _ _⟩
theorem cD.ext.val {S S':cD} (h:S.ext S') {k:Int} (h0:0<=k) (hk:k<S.dZ.length):S'.val k=S.val k:=by
 obtain⟨x,hx⟩:=h.2.1
 rw[cD.val,cD.val,←hx,gA,gA,tW aA]
theorem cD.ext.len {S S':cD} (h:S.ext S'):S.dZ.length<=S'.dZ.length:=h.2.1.length_le
def l8 (S:cD) (k:Int):Prop:=0<=k/\k<S.dZ.length
theorem l8.ext {S S':cD} {k:Int} (h:l8 S k) (e:S.ext S'):l8 S' k:=⟨h.1,by have:=h.2;have:=e.len;omega⟩
theorem Good.later {inp:Int} {S:cD} {t u:Nat} (h:Good inp S t) (hu:t<=u):Good inp S u:=⟨h.len,h.a3G,h.ins,h.yG,by have:=h.cap;omega,by have:=h.vR;omega⟩
theorem Good.put {inp:Int} {S:cD} {t:Nat} {c:aP} {v:Int} (h:Good inp S t) (hc:fD inp S.dZ.length c) (hv:fZ v) (hcap:S.dZ.length<12+t):Good inp (S.put c v) t:=by
 refine⟨by simp[cD.put,h.len],λx hx=>?_,λi d hd=>?_,λg hg=>?_,by simp[cD.put];omega,h.vR⟩
 ·rcases mS.1 hx with hx|hx
  ·exact h.a3G x hx
  ·rw[nQ.1 hx];exact hv
 ·rcases cQ i S.code.length with hi|hi
  ·rw[cD.put,tW hi]at hd;exact h.ins i d hd
  ·rw[cD.put,zE hi]at hd
   have hd2:=jQ.1 hd
   obtain⟨h1,h2⟩:=hd2
   have h3:i=S.dZ.length:=by simp at h1;have:=h.len;omega
   simp at h2
   subst h2;rw[h3];exact hc
 ·have:=h.yG g hg
  simp only[cD.put,k8,lV];omega
theorem Good.guard {inp:Int} {S:cD} {t:Nat} {k:Int} {b:Bool} (h:Good inp S t) (hk:l8 S k) (hcap:S.guards.length<t):Good inp (S.guard ⟨k,b⟩) t:=by
 refine⟨h.len,h.a3G,h.ins,λg hg=>?_,h.cap,by simp[cD.guard];omega⟩
 rcases mS.1 hg with hg|hg
 ·exact h.yG g hg
 ·rw[nQ.1 hg];exact hk
theorem a3H {k a b v:Int} (h:opV k a b=some v):fZ v:=by
 unfold opV at h
 repeat'(split at h)
 all_goals first|(cases h;done)|(cases h;exact oW _)
def qZ {α:Type} (P:α->Nat->Prop) (X:Out α):Prop:=∀ v u,X=.ok (v,u)->P v u
theorem qZ.then {α β:Type} {P:α->Nat->Prop} {Q:β->Nat->Prop} {X:Out α} {F:α->Nat->Out β} (h:qZ P X) (hf:∀ v t,P v t->qZ Q (F v t)):qZ Q (X.andThen F):=λw u hw=>by
 cases X with
 |ok p=>obtain⟨v,t⟩:=p;exact hf v t (h v t rfl) w u hw
 |error c=>cases hw
theorem qZ.pure {α:Type} {P:α->Nat->Prop} {v:α} {t:Nat} (h:P v t):qZ P (.ok (v,t)):=λw u e=>by cases e;exact h
theorem qZ.err {α:Type} {P:α->Nat->Prop} {c:Int}:qZ P (.error c:Out α):=λw u e=>by cases e
theorem qZ.mono {α:Type} {P Q:α->Nat->Prop} {X:Out α} (h:qZ P X) (hq:∀ v u,P v u->Q v u):qZ Q X:=λv u e=>hq v u (h v u e)
def lU (S:cD) (t:Nat) (S':cD) (u:Nat):Prop:=S'.dZ.length+t<=S.dZ.length+u/\S'.guards.length+t<=S.guards.length+u/\t<=u/\u<=3000
theorem lU.refl {S:cD} {t:Nat} (h:t<=3000):lU S t S t:=⟨j4 _,j4 _,j4 _,h⟩
theorem lU.trans {A B C:cD} {t u v:Nat} (h:lU A t B u) (k:lU B u C v):lU A t C v:=by
 unfold lU at *;omega
def zZ (inp:Int) (S:cD) (t:Nat) (r:Int×cD) (u:Nat):Prop:=Good inp r.2 u/\S.ext r.2/\l8 r.2 r.1/\lU S t r.2 u
def wO (inp:Int) (S:cD) (t n:Nat) (r:List Int×cD) (u:Nat):Prop:=Good inp r.2 u/\S.ext r.2/\(r.1.length=n/\∀ x∈r.1,l8 r.2 x)/\lU S t r.2 u
theorem gS {ev:Nat->aB->cD->Out (Int×cD)} {inp:Int}:∀ (l:List aB) (t:Nat) (S:cD),Good inp S t->t<=3000->(∀ e∈l,∀ u S',Good inp S' u->S.ext S'->lU S t S' u->qZ (zZ inp S' u) (ev u e S'))->qZ (wO inp S t l.length) (nO ev l t S)
 | [],t,S,hg,ht,_=>qZ.pure ⟨hg,S.oX,⟨rfl,by simp⟩,.refl ht⟩
 |e::l,t,S,hg,ht,h=>(h e u4 t S hg S.oX (.refl ht)).then λr u hr=>by
  obtain⟨r1,r2,r3,r4⟩:=hr
  refine(gS l u r.2 r1 r4.2.2.2 λx hx u' S' a b c=>h x (rM _ hx) u' S' a (r2.trans b) (r4.trans c)).then λq u' hq=>?_
  obtain⟨q1,q2,⟨q3,q4⟩,q5⟩:=hq
  refine qZ.pure ⟨q1,r2.trans q2,⟨by rw[al3,q3];rfl,λx hx=>?_⟩,r4.trans q5⟩
  rcases oH.1 hx with rfl|hx
  ·exact r3.ext q2
  ·exact q4 x hx
theorem qD {f:List Int->Nat->cD->Out (List Int×cD)} {inp:Int} {m:Nat} (h:∀ vs t S,Good inp S t->(vs.length=m/\∀ x∈vs,l8 S x)->t<=3000->qZ (wO inp S t m) (f vs t S)) :
  ∀ (n:Nat) (vs:List Int) (t:Nat) (S:cD),Good inp S t->(vs.length=m/\∀ x∈vs,l8 S x)->t<=3000->qZ (wO inp S t m) (pI f n vs t S)
 |0,vs,t,S,hg,hv,ht=>qZ.pure ⟨hg,S.oX,hv,.refl ht⟩
 |n+1,vs,t,S,hg,hv,ht=>(h vs t S hg hv ht).then λr u hr=>by
  obtain⟨r1,r2,r3,r4⟩:=hr
  refine(qD h n r.1 u r.2 r1 r3 r4.2.2.2).mono λq u' hq=>?_
  obtain⟨q1,q2,q3,q4⟩:=hq
  exact⟨q1,r2.trans q2,q3,r4.trans q4⟩
theorem a8Z {inp k:Int} {vs:List Int} {S:cD} {t:Nat} {m:Nat} (hk:k=3∨k=4∨k=5∨k=6∨k=7) (hm:vs.length=m/\∀ x∈vs,l8 S x) (hm1:1<=m) (hm2:¬k=7->2<=m) (hg:Good inp S (t+1)) (hcap:S.dZ.length<12+(t+1)) (ht:t+1<=3000):qZ (λr u=>Good inp r.2 u/\S.ext r.2/\l8 r.2 r.1/\u=t+1/\r.2.dZ.length=S.dZ.length+1/\r.2.guards=S.guards) (opR k vs S (t+1)):=by
 have at_:∀ i,i<m->l8 S (vs.getD i 0):=λi hi=>by
  rw[gA,cP aA]
  exact hm.2 _ (eF _)
 unfold opR
 split
 ·exact qZ.err
 ·rename_i v hv
  have h0:=at_ 0 aA
  refine qZ.pure ⟨hg.put ?_ (a3H hv) hcap,S.vS _ _,⟨by simp,by simp[cD.put];omega⟩,rfl,by simp[cD.put],rfl⟩
  unfold l8 at h0
  by_cases h7:k=7
  ·subst h7
   exact .inr (.inr (.inr ⟨rfl,rfl,rfl,h0⟩))
  ·have h1:=at_ 1 (hm2 h7)
   unfold l8 at h1
   have hb:opB k vs=vs.getD 1 0:=if_neg h7
   exact .inr (.inr (.inl ⟨by simp only;omega,rfl,h0.1,h0.2,by simp only[hb];exact h1.1,by simp only[hb];exact h1.2⟩))
theorem aG4 {p:aF} {n st:Nat} {e:aB} {env:List Int} {S:cD} (h3:¬st=3000) (hk:e.aN=1):dN p (n+1) st e env S=.ok (((S.dZ.length:Int),S.put ⟨2,0,0,e.aX⟩ e.aX),st+1):=by rw[dN,if_neg h3,if_pos hk]
theorem aG5 {p:aF} {n st:Nat} {e:aB} {env:List Int} {S:cD} (h3:¬st=3000) (hk:e.aN=2):dN p (n+1) st e env S=.ok ((env.getD e.aX.toNat 0,S),st+1):=by rw[dN,if_neg h3,if_neg aA,if_pos hk]
theorem vT {p:aF} {n st:Nat} {e:aB} {env:List Int} {S:cD} (h3:¬st=3000) (hk:e.aN=8):dN p (n+1) st e env S=(dN p n (st+1) (e.lO 0) env S).andThen λr t =>
   if r.2.val r.1=0 then dN p n t (e.lO 1) env (r.2.guard ⟨r.1,true⟩)else dN p n t (e.lO 2) env (r.2.guard ⟨r.1,false⟩):=by rw[dN,if_neg h3,if_neg aA,if_neg aA,if_pos hk]
theorem aG6 {p:aF} {n st:Nat} {e:aB} {env:List Int} {S:cD} (h3:¬st=3000) (hk:e.aN=9):dN p (n+1) st e env S=(dN p n (st+1) (e.lO 0) env S).andThen λr t=>dN p n t (e.lO 1) (env++[r.1]) r.2:=by rw[dN,if_neg h3,if_neg aA,if_neg aA,if_neg aA,if_pos hk]
theorem yH {p:aF} {n st:Nat} {e:aB} {env:List Int} {S:cD} (h3:¬st=3000) (hk:e.aN=10):dN p (n+1) st e env S=(nO (λt e S=>dN p n t e env S) e.aK (st+1) S).andThen λr t=>dN p n t (p.out e.aX e.cF) r.1 r.2:=by
 rw[dN,if_neg h3,if_neg aA,if_neg aA,if_neg aA,if_neg aA];simp only[if_pos hk]
theorem yI {p:aF} {n st:Nat} {e:aB} {env:List Int} {S:cD} (h3:¬st=3000) (hk:e.aN=11):dN p (n+1) st e env S=(nO (λt e S=>dN p n t e env S) e.aK (st+1) S).andThen λr t=>(pI (λvs t S=>nO (λt e S=>dN p n t e vs S) (p.outs e.aX) t S) e.b7.toNat r.1 t r.2).andThen λr t=>.ok ((r.1.getD e.cF.toNat 0,r.2),t):=by
 have h:¬e.aN=10:=by omega
 rw[dN,if_neg h3,if_neg aA,if_neg aA,if_neg aA,if_neg aA];simp only[if_neg h,if_pos hk]
theorem lQ {p:aF} {n st:Nat} {e:aB} {env:List Int} {S:cD} (h3:¬st=3000) (hk:e.aN=3∨e.aN=4∨e.aN=5∨e.aN=6∨e.aN=7):dN p (n+1) st e env S=(nO (λt e S=>dN p n t e env S) e.aK (st+1) S).andThen λr t=>opR e.aN r.1 r.2 t:=by
 have h:¬e.aN=10:=by omega
 have h2:¬e.aN=11:=by omega
 rw[dN,if_neg h3,if_neg aA,if_neg aA,if_neg aA,if_neg aA];simp only[if_neg h,if_neg h2]
theorem lU.step {S S':cD} {t u:Nat} (h:lU S (t+1) S' u):lU S t S' u:=by unfold lU at *;omega
theorem pV {p:aF} (hp:p.ok) {inp:Int}:∀ (n t:Nat) (e:aB) (env:List Int) (S:cD) (funcs:Int),e.ok p funcs env.length->funcs<=p.aI.length->Good inp S t->t<=3000->(∀ x∈env,l8 S x)->qZ (zZ inp S t) (dN p n t e env S)
 |0,t,e,env,S,funcs,_,_,_,_,_=>qZ.err
 |n+1,t,e,env,S,funcs,hok,hf,hg,ht,henv=>by
  have ih:=pV hp (inp:=inp) n
  have hnode:=((aB.cS _ _ _ _).1 hok).1
  by_cases h3:t=3000
  ·rw[dN,if_pos h3];exact qZ.err
  have j9:=hg.later (mZ t)
  have hcap:=hg.cap
  have hgcap:=hg.vR
  have henvE:∀ {S'},S.ext S'->∀ x∈env,l8 S' x:=λe x hx=>(henv x hx).ext e
  rcases pR hnode with hk|hk|hk|hk|hk|hk|hk|hk|hk|hk|hk
  ·rw[aG4 h3 hk]
   have hn:=((dI aA).1 hnode).2.2.2.1 hk
   exact qZ.pure ⟨j9.put (.inr (.inl ⟨rfl,rfl,rfl,hn⟩)) hn aA,S.vS _ _,⟨by simp,by simp[cD.put];omega⟩,by simp[lU,cD.put];omega⟩
  ·rw[aG5 h3 hk]
   have hn:=((dI aA).1 hnode).2.2.2.2.1 hk
   refine qZ.pure ⟨j9,S.oX,?_,by simp[lU];omega⟩
   simp only[gA]
   rw[cP aA]
   exact henv _ (eF _)
  iterate 5
   ·have hlen:=dH hok aA
    rw[hk]at hlen
    rw[lQ h3 aA]
    refine(gS _ _ S j9 aA λx hx u S' a b c=>ih u x env S' funcs (eA hok aA x hx) hf a c.2.2.2 (henvE b)).then λr u hr=>?_
    obtain⟨r1,r2,r3,r4⟩:=hr
    obtain⟨u,rfl⟩:∃ w,u=w+1:=⟨u-1,by have:=r4.2.2.1;omega⟩
    unfold lU at r4
    refine(a8Z (inp:=inp) aA r3 aRY (λq=>by unfold dK at hlen;simp at hlen;omega) r1 aA aA).mono λq v hq=>?_
    obtain⟨q1,q2,q3,rfl,q5,q6⟩:=hq
    exact⟨q1,r2.trans q2,q3,by unfold lU;rw[q5,q6];omega⟩
  ·have hlen:=dH hok aA
   rw[hk,show dK 8=3 from rfl]at hlen
   have o0:=aB.dW hok (i:=0) aA
   have o1:=aB.dW hok (i:=1) aA
   have o2:=aB.dW hok (i:=2) aA
   rw[fR aA]at o0 o1 o2
   rw[vT h3 hk]
   refine(ih _ _ _ _ _ o0 hf j9 aA henv).then λr u hr=>?_
   obtain⟨r1,r2,r3,r4⟩:=hr
   have r4':=r4
   unfold lU at r4'
   have go:∀ (b:Bool) (k:aB),k.ok p funcs env.length->qZ (zZ inp S t) (dN p n u k env (r.2.guard ⟨r.1,b⟩)):=λb k hk=>by
    have he:r.2.ext (r.2.guard ⟨r.1,b⟩):=r.2.oB _
    refine(ih u k env _ _ hk hf (r1.guard r3 aA) aA (henvE (r2.trans he))).mono λq v hq=>?_
    obtain⟨q1,q2,q3,q4⟩:=hq
    refine⟨q1,(r2.trans he).trans q2,q3,?_⟩
    unfold lU at q4 ⊢
    simp only[cD.guard,k8,lV]at q4
    omega
   split
   ·exact go _ _ o1
   ·exact go _ _ o2
  ·have hlen:=dH hok aA
   rw[hk,show dK 9=2 from rfl]at hlen
   have o0:=aB.dW hok (i:=0) aA
   have o1:=aB.dW hok (i:=1) aA
   rw[fR aA]at o0
   rw[hk,show gL 9 1 (env.length:Int)=env.length+1 from rfl]at o1
   rw[aG6 h3 hk]
   refine(ih _ _ _ _ _ o0 hf j9 aA henv).then λr u hr=>?_
   obtain⟨r1,r2,r3,r4⟩:=hr
   refine(ih _ _ (env++[r.1]) _ _ aAO hf r1 r4.2.2.2 λx hx=>?_).mono λq v hq=>?_
   ·rcases mS.1 hx with hx|hx
    ·exact henvE r2 x hx
    ·rw[nQ.1 hx];exact r3
   ·obtain⟨q1,q2,q3,q4⟩:=hq
    exact⟨q1,r2.trans q2,q3,(r4.trans q4).step⟩
  ·obtain⟨f,F⟩:=lP hp hok hf (.inl hk)
   have f2:=F.hi
   have f4:=F.pk2
   rw[yH h3 hk]
   refine(gS _ _ S j9 aA λx hx u S' a b c=>ih u x env S' funcs (eA hok aA x hx) hf a c.2.2.2 (henvE b)).then λr u hr=>?_
   obtain⟨r1,r2,r3,r4⟩:=hr
   refine(ih _ _ r.1 _ e.aX a5R aA r1 r4.2.2.2 r3.2).mono λq v hq=>?_
   obtain⟨q1,q2,q3,q4⟩:=hq
   exact⟨q1,r2.trans q2,q3,(r4.trans q4).step⟩
  ·obtain⟨f,F⟩:=lP hp hok hf (.inr hk)
   have f2:=F.hi
   have f4:=F.pk2
   have f9:=F.loop hk
   rw[yI h3 hk]
   refine(gS _ _ S j9 aA λx hx u S' a b c=>ih u x env S' funcs (eA hok aA x hx) hf a c.2.2.2 (henvE b)).then λr u hr=>?_
   obtain⟨r1,r2,r3,r4⟩:=hr
   refine(qD (inp:=inp) (m:=f.aO.length) (λvs w S' hg' hv hw=>?_) _ _ _ _ r1 ⟨by have:=r3.1;have:=F.kids;omega,r3.2⟩ r4.2.2.2).then λq v hq=>?_
   ·rw[F.eq]
    exact gS _ _ S' hg' hw λx hx u S'' a b c=>ih u x vs S'' e.aX aW7 aA a c.2.2.2 λy hy=>(hv.2 y hy).ext b
   ·obtain⟨q1,q2,q3,q4⟩:=hq
    refine qZ.pure ⟨q1,r2.trans q2,?_,(r4.trans q4).step⟩
    simp only[gA]
    rw[cP (by rw[q3.1];exact f4)]
    exact q3.2 _ (eF _)
theorem a3I (a:List Int) (m:Int) (hm:fZ m) (hl:a.length<=1048576) (ha:gE a):FnN Tryz.prog 144 [eQ 1 (λn=>[I n]) a,I m] (QS (OS (oP I) 1 (mV a m))):=by
 refine aIH 27 aSV cR cC Tryz.func144 λh=>?_
 simp -dsimp -implicitDefEqProofs only[go_sem,↓reduceIte,Tryz.f144]
 intro _
 refine⟨b6,j4 _,by omega,by omega,λn hn _=>?_⟩
 have hc:=aFE a m
 rw[aBM]
 refine aGO aSV cR cC (λk:Nat=>[(0,eQ 1 (λn=>[I n]) a),(1,I m),(5,.os n 1 0 a.length),(11,I a.length),(12,I k)]) n (λk=>.row 1 (((zV (mV a m) k).map λn=>[I n]).map (List.map .v))) (λk=>k<=a.length) (λk=>a.length-k) 0 ⟨by simp[dM,cE],by rw[aH,aBL,hc],gM _⟩ ?_
 intro k hk
 rcases cQ k a.length with hlt|hge
 ·have ea:a[k]?=some a[k]:=cP hlt
  have eu:=aEO (c:=mV a m) (k:=k) aA
  have el:=aEN (mV a m) (k:=k) aA
  simp -dsimp -implicitDefEqProofs only[go_sem,↓reduceIte,Tryz.f144,aJ,hlt,ea,eu,el,hc]
  have h1:=num_mul (ha _ (eF hlt)) hm
  refine⟨k+1,by rw[IntWalk.i64_in _ aA];rfl,?_,by omega,by omega⟩
  have hv:(mV a m)[k]'aA=a[k]*m%1000003:=by simp[mV]
  rw[aQL h1.1 aA,←aEP aA,hv,←aGN I]
  exact Heap.le_refl _
 ·have hk':k=a.length:=by omega
  subst hk'
  simp -dsimp -implicitDefEqProofs only[go_sem,↓reduceIte,Tryz.f144,aJ,cV]
  have hu:zV (mV a m) a.length=mV a m:=by rw[←hc];exact aEM _
  rw[hu,show a.length=(mV a m).length from hc.symm]
  exact aBD hn
theorem aG7 {P:Program} {f:FuncId} {args:List aC} {l:List Int} (a:FnN P f args (QS (OS (oP I) 1 l))):eX P f args (eQ 1 (λn=>[I n]) l):=QS.dB a (λy hy=>OS.oG (c:=λn=>[I n]) (λ_ _ q=>aGE q) hy)
theorem scaled (a:List Int) (m:Int) (hm:fZ m) (hl:a.length<=1048576) (ha:gE a):eX Tryz.prog 144 [eQ 1 (λn=>[I n]) a,I m] (eQ 1 (λn=>[I n]) (mV a m)):=aG7 (a3I a m hm hl ha)
theorem a82 (a b:List Int) (hab:b.length=a.length) (hl:a.length<=1048576) (ha:gE a) (hb:gE b):eX Tryz.prog 42 [eQ 1 (λn=>[I n]) a,eQ 1 (λn=>[I n]) b] (eQ 1 (λn=>[I n]) (pF a b)):=aG7 (added a b hab hl (yF ha) (yF hb))
theorem aY5 (a b:List Int) (hab:b.length=a.length) (hl:a.length<=1048576) (ha:gE a) (hb:gE b):FnN Tryz.prog 143 [eQ 1 (λn=>[I n]) a,eQ 1 (λn=>[I n]) b] (QS (OS (oP I) 1 (aVO a b))):=by
 refine aIH 9 yW cR cC Tryz.func143 λh=>?_
 simp -dsimp -implicitDefEqProofs only[go_sem,↓reduceIte,Tryz.f143]
 first|refine aG.mk (scaled b 1000002 pH aA hb) ?_|refine aD.mk (scaled b 1000002 pH aA hb) ?_|refine aG.bC (scaled b 1000002 pH aA hb) ?_|refine aD.mk (aZ.dB (scaled b 1000002 pH aA hb)) ?_
 simp -dsimp -implicitDefEqProofs only[go_sem,↓reduceIte,Tryz.f143]
 refine aG.wn0 (added a (mV b 1000002) aMM hl (yF ha) (yF (mD _ ⟨rfl,hb⟩).2)) ?_
 rintro r l g ⟨y,oy,rfl,rfl⟩ wn
 simp -dsimp -implicitDefEqProofs only[go_sem,↓reduceIte,Tryz.f143,oy.flat,oy.one]
 exact⟨_,g,_,bM _ _,⟨y,oy,rfl,rfl⟩,wn⟩
theorem reduced (a b:List Int) (hab:b.length=a.length) (hl:a.length<=1048576) (ha:gE a) (hb:gE b):eX Tryz.prog 143 [eQ 1 (λn=>[I n]) a,eQ 1 (λn=>[I n]) b] (eQ 1 (λn=>[I n]) (aVO a b)):=aG7 (aY5 a b hab hl ha hb)
theorem minus (a b:Int):eX Tryz.prog 180 [I a,I b] (I ((a-b)%1000003)):=by
 refine eJ 10 yW cR cC Tryz.func180 λh=>?_
 simp -dsimp -implicitDefEqProofs only[go_sem,↓reduceIte,Tryz.f180]
 first|refine aG.mk (fT b) ?_|refine aD.mk (fT b) ?_|refine aG.bC (fT b) ?_|refine aD.mk (aZ.dB (fT b)) ?_
 simp -dsimp -implicitDefEqProofs only[go_sem,↓reduceIte,Tryz.f180]
 rw[IntWalk.i64_in _ aA]
 first|refine aG.mk (aN8 a (1000003-b%1000003)) ?_|refine aD.mk (aN8 a (1000003-b%1000003)) ?_|refine aG.bC (aN8 a (1000003-b%1000003)) ?_|refine aD.mk (aZ.dB (aN8 a (1000003-b%1000003))) ?_
 simp -dsimp -implicitDefEqProofs only[go_sem,↓reduceIte,Tryz.f180]
 omega
@[go_sem] def aQM:List Nat:=[0,1,4,5,6,7,12,13,14,18]
@[go_sem] def a83:Marks:=λid=>match id with|8=>([5,20],(.op 0 (.op 1 (.op 2 (.op 3 (.op 4 (.op 6 (.op 7 (.op 8 (.op 9 (.op 10 (.op 11 (.op 12 (.op 13 (.op 14 (.op 15 (.op 16 (.op 5 (.op 17 (.op 18 (.op 19 (.op 20 .nil))))))))))))))))))))),[])|_=>([],.nil,[])
theorem aY6 (a b:List Int) (hab:b.length=a.length) (hl:a.length<=1048576) (ha:gE a) (hb:gE b):FnN Tryz.prog 43 [eQ 1 (λn=>[I n]) a,eQ 1 (λn=>[I n]) b] (QS (OS (oP I) 1 (mulL a b))):=by
 refine aIH 43 aQM cR a83 Tryz.func43 λh=>?_
 simp -dsimp -implicitDefEqProofs only[go_sem,↓reduceIte,Tryz.f43]
 intro _
 refine⟨b6,j4 _,by omega,by omega,λn hn _=>?_⟩
 have hc:=aOC a b
 rw[aBM]
 refine aGO aQM cR a83 (λk:Nat=>[(0,eQ 1 (λn=>[I n]) a),(1,eQ 1 (λn=>[I n]) b),(5,.os n 1 0 a.length),(12,I a.length),(13,I k)]) n (λk=>.row 1 (((zV (mulL a b) k).map λn=>[I n]).map (List.map .v))) (λk=>k<=a.length) (λk=>a.length-k) 0 ⟨by simp[dM,cE],by rw[aH,aBL,hc],gM _⟩ ?_
 intro k hk
 rcases cQ k a.length with hlt|hge
 ·simp -dsimp -implicitDefEqProofs only[go_sem,↓reduceIte,Tryz.f43,aJ,hlt]
  refine aGO aQM cR a83 (λi:Nat=>[(0,eQ 1 (λn=>[I n]) a),(1,eQ 1 (λn=>[I n]) b),(5,.os n 1 0 a.length),(6,I k),(7,I i),(12,I a.length),(13,I k)]) n (λi=>.row 1 ((((zV (mulL a b) k).set k (zX a b k i)).map λn=>[I n]).map (List.map .v))) (λi=>i<=k+1) (λi=>k+1-i) 0 ⟨by simp[dM,cE],by rw[aH,zX,aY4 aA],gM _⟩ ?_
  intro i hi
  have el:((zV (mulL a b) k).set k (zX a b k i)).length=a.length:=by rw[List.length_set,aEN _ aA,hc]
  have eu:((zV (mulL a b) k).set k (zX a b k i))[k]?=some (zX a b k i):=by rw[aUO (by rw[List.length_set]at el;omega)]
  rcases cQ i (k+1)with vO|aVN
  ·have ea:=dV (l:=a) (i:=i) aA
   have eb:=dV (l:=b) (i:=k-i) aA
   have ew:IntKind.i64.wrap ((k:Int)-(i:Int))=((k-i:Nat):Int):=by rw[IntWalk.i64_in _ aA];omega
   simp -dsimp -implicitDefEqProofs only[go_sem,↓reduceIte,Tryz.f43,aJ,hlt,ea,eb,eu,el,hc,ew]
   refine⟨λ_=>⟨by omega,by omega,i+1,by rw[IntWalk.i64_in _ aA];rfl,?_,by omega,by omega⟩,λq=>absurd aA q⟩
   have h1:=num_mul (ha.get i) (hb.get (k-i))
   have h2:=aY1 a b k i
   unfold fZ at h2
   rw[IntWalk.i64_in (a.getD i 0*b.getD (k-i) 0) aA,aQL aA aA,show(zV (mulL a b) k).set k (zX a b k (i+1))=((zV (mulL a b) k).set k (zX a b k i)).set k ((zX a b k i+a.getD i 0*b.getD (k-i) 0)%1000003)by rw[List.set_set,zX],←aGN I]
   exact Heap.le_refl _
  ·have hi':i=k+1:=by omega
   subst hi'
   simp -dsimp -implicitDefEqProofs only[go_sem,↓reduceIte,Tryz.f43,aJ,hlt]
   refine⟨λq=>absurd q aA,λ_=>⟨k+1,by rw[IntWalk.i64_in _ aA];rfl,?_,by omega,by omega⟩⟩
   have hv:(mulL a b)[k]'aA=zX a b k (k+1):=by simp[mulL]
   rw[←hv,aEP aA]
   exact Heap.le_refl _
 ·have hk':k=a.length:=by omega
  subst hk'
  simp -dsimp -implicitDefEqProofs only[go_sem,↓reduceIte,Tryz.f43,aJ,cV]
  have hu:zV (mulL a b) a.length=mulL a b:=by rw[←hc];exact aEM _
  rw[hu,show a.length=(mulL a b).length from hc.symm]
  exact aBD hn
theorem product (a b:List Int) (hab:b.length=a.length) (hl:a.length<=1048576) (ha:gE a) (hb:gE b):eX Tryz.prog 43 [eQ 1 (λn=>[I n]) a,eQ 1 (λn=>[I n]) b] (eQ 1 (λn=>[I n]) (mulL a b)):=aG7 (aY6 a b hab hl ha hb)
@[go_sem] def aTM:List Nat:=[0,1,4,5,6,8,12,17]
theorem Power (a n:Int) (hn:0<=n) (hn2:n<=4294967296):eX Tryz.prog 148 [I a,I n] (I (pwN (a%1000003) n.toNat)):=by
 refine eJ 27 aTM cR cC Tryz.func148 λh=>?_
 simp -dsimp -implicitDefEqProofs only[go_sem,↓reduceIte,Tryz.f148]
 refine⟨λq=>absurd q aA,λ_=>?_⟩
 first|refine aG.mk (fT a) ?_|refine aD.mk (fT a) ?_|refine aG.bC (fT a) ?_|refine aD.mk (aZ.dB (fT a)) ?_
 simp -dsimp -implicitDefEqProofs only[go_sem,↓reduceIte,Tryz.f148]
 generalize hT:pwN (a%1000003) n.toNat=T
 refine zW aTM cR cC (λx:Int×Int×Int=>[(1,I x.2.2),(5,I x.1),(6,I x.2.1)]) (λx=>(0<=x.1/\x.1<1000003)/\(0<=x.2.1/\x.2.1<1000003)/\(0<=x.2.2/\x.2.2<=4294967296)/\x.1*x.2.1 ^ x.2.2.toNat%1000003=T) (λx=>x.2.2.toNat) (1,a%1000003,n) ⟨by simp[dM,cE],⟨by simp,by simp⟩,aOA _,⟨hn,hn2⟩,by rw[Int.one_mul];exact hT⟩ ?_
 rintro⟨x,b,m⟩ ⟨hx,hb,hm,hp⟩
 simp only at hx hb hm hp ⊢
 simp -dsimp -implicitDefEqProofs only[go_sem,↓reduceIte,Tryz.f148]
 have h1:=num_mul (x:=x) (y:=b) pH pH
 have h2:=num_mul (x:=b) (y:=b) pH pH
 rw[tY hm.1,aRL hm.1,IntWalk.i64_in (m / 2) aA,aQL h1.1 aA,aQL h2.1 aA]
 refine⟨λhg=>⟨λho=>⟨(x*b%1000003,b*b%1000003,m / 2),⟨rfl,rfl,rfl⟩,⟨aOA _,aOA _,(show 0<=m / 2/\m / 2<=4294967296 by omega),aY3 hm.1 ho hp⟩,by simp only;omega⟩,λho=>⟨(x,b*b%1000003,m / 2),⟨rfl,rfl,rfl⟩,⟨hx,aOA _,(show 0<=m / 2/\m / 2<=4294967296 by omega),aTJ hm.1 ho hp⟩,by simp only;omega⟩⟩,λhg=>?_⟩
 have:m.toNat=0:=by omega
 rw[this,aTI x b hx]at hp
 exact hp
theorem s8 (a:Int):eX Tryz.prog 106 [I a] (I (qC a)):=by
 refine eJ 5 aBF cR cC Tryz.func106 λh=>?_
 simp -dsimp -implicitDefEqProofs only[go_sem,↓reduceIte,Tryz.f106]
 first|refine aG.mk (Power a 1000001 bU bU) ?_|refine aD.mk (Power a 1000001 bU bU) ?_|refine aG.bC (Power a 1000001 bU bU) ?_|refine aD.mk (aZ.dB (Power a 1000001 bU bU)) ?_
 simp -dsimp -implicitDefEqProofs only[go_sem,↓reduceIte,Tryz.f106]
 rfl
@[go_sem] def aLA:List Nat:=[0,1,4,5,6,7,8,9,18,19,20,28]
@[go_sem] def aY7:Marks:=λid=>match id with|1=>([2],(.op 0 (.op 1 (.op 3 (.op 4 (.op 5 (.op 6 (.op 2 (.op 7 (.op 8 .nil))))))))),[])|9=>([4],(.op 0 (.op 1 (.op 2 (.op 3 (.op 5 (.op 6 (.op 7 (.op 8 (.op 9 (.op 10 (.op 4 (.op 11 (.op 12 (.op 13 .nil)))))))))))))),[])|_=>([],.nil,[])
theorem aVR (a b:List Int) (hab:b.length=a.length) (hl:a.length<=1048576) (h0:0<a.length) (ha:gE a) (hb:gE b):FnN Tryz.prog 145 [eQ 1 (λn=>[I n]) a,eQ 1 (λn=>[I n]) b] (QS (OS (oP I) 1 (nN a b))):=by
 have e0:b[Int.toNat 0]?=some (b.getD 0 0):=dV (l:=b) (i:=0) aA
 refine aIH 53 aLA cR aY7 Tryz.func145 λh=>?_
 simp -dsimp -implicitDefEqProofs only[go_sem,↓reduceIte,Tryz.f145,e0]
 refine⟨by omega,?_⟩
 first|refine aG.mk (s8 (b.getD 0 0)) ?_|refine aD.mk (s8 (b.getD 0 0)) ?_|refine aG.bC (s8 (b.getD 0 0)) ?_|refine aD.mk (aZ.dB (s8 (b.getD 0 0))) ?_
 simp -dsimp -implicitDefEqProofs only[go_sem,↓reduceIte,Tryz.f145]
 refine⟨b6,j4 _,by omega,by omega,λn hn _=>?_⟩
 have hc:=uP a b
 rw[aBM]
 refine aGO aLA cR aY7 (λk:Nat=>[(0,eQ 1 (λn=>[I n]) a),(1,eQ 1 (λn=>[I n]) b),(5,.os n 1 0 a.length),(6,I (qC (b.getD 0 0))),(18,I a.length),(19,I k)]) n (λk=>.row 1 (((zV (nN a b) k).map λn=>[I n]).map (List.map .v))) (λk=>k<=a.length) (λk=>a.length-k) 0 ⟨by simp[dM,cE],by rw[aH,aBL,hc],gM _⟩ ?_
 intro k hk
 rcases cQ k a.length with hlt|hge
 ·have ek:=dV hlt
  simp -dsimp -implicitDefEqProofs only[go_sem,↓reduceIte,Tryz.f145,aJ,hlt,ek]
  refine zW aLA cR aY7 (λi:Nat=>[(0,eQ 1 (λn=>[I n]) a),(1,eQ 1 (λn=>[I n]) b),(5,.os n 1 0 a.length),(6,I (qC (b.getD 0 0))),(7,I k),(8,I (dvS (jN a b k) b k (a.getD k 0) i)),(9,I i),(18,I a.length),(19,I k)]) (λi=>i<=k) (λi=>k-i) 0 ⟨by simp[dM,cE,dvS],gM _⟩ ?_
  intro i hi
  have el:=aEN (nN a b) (k:=k) aA
  have eu:=aEO (c:=nN a b) (k:=k) aA
  rcases cQ i k with vO|aVN
  ·have ei:=aDX (a:=a) (b:=b) (i:=i) hk vO
   have eb:=dV (l:=b) (i:=k-i) aA
   have ew:IntKind.i64.wrap ((k:Int)-(i:Int))=((k-i:Nat):Int):=by rw[IntWalk.i64_in _ aA];omega
   simp -dsimp -implicitDefEqProofs only[go_sem,↓reduceIte,Tryz.f145,aJ,vO,ei,eb,el,hc,ew]
   have h1:=num_mul ((sE a b k).get i) (hb.get (k-i))
   refine⟨by omega,by omega,?_⟩
   rw[IntWalk.i64_in _ aA]
   first|refine aG.mk (minus (dvS (jN a b k) b k (a.getD k 0) i) ((jN a b k).getD i 0*b.getD (k-i) 0)) ?_|refine aD.mk (minus (dvS (jN a b k) b k (a.getD k 0) i) ((jN a b k).getD i 0*b.getD (k-i) 0)) ?_|refine aG.bC (minus (dvS (jN a b k) b k (a.getD k 0) i) ((jN a b k).getD i 0*b.getD (k-i) 0)) ?_|refine aD.mk (aZ.dB (minus (dvS (jN a b k) b k (a.getD k 0) i) ((jN a b k).getD i 0*b.getD (k-i) 0))) ?_
   simp -dsimp -implicitDefEqProofs only[go_sem,↓reduceIte,Tryz.f145,aJ,vO,ei,eb,el,hc,ew]
   exact⟨i+1,⟨rfl,by rw[IntWalk.i64_in _ aA];rfl⟩,by omega,by omega⟩
  ·have hi':i=k:=by omega
   subst hi'
   simp -dsimp -implicitDefEqProofs only[go_sem,↓reduceIte,Tryz.f145,aJ,cV,hlt,eu,el,hc]
   have h1:=num_mul (vQ (jN a b i) b i (ha.get i) i) (num_inv (b.getD 0 0))
   refine⟨i+1,by rw[IntWalk.i64_in _ aA];rfl,?_,by omega,by omega⟩
   rw[aQL h1.1 aA,←aOB hlt,←aEP aA,←aGN I]
   exact Heap.le_refl _
 ·have hk':k=a.length:=by omega
  subst hk'
  simp -dsimp -implicitDefEqProofs only[go_sem,↓reduceIte,Tryz.f145,aJ,cV]
  have hu:zV (nN a b) a.length=nN a b:=by rw[←hc];exact aEM _
  rw[hu,show a.length=(nN a b).length from hc.symm]
  exact aBD hn
theorem quotient (a b:List Int) (hab:b.length=a.length) (hl:a.length<=1048576) (h0:0<a.length) (ha:gE a) (hb:gE b):eX Tryz.prog 145 [eQ 1 (λn=>[I n]) a,eQ 1 (λn=>[I n]) b] (eQ 1 (λn=>[I n]) (nN a b)):=aG7 (aVR a b hab hl h0 ha hb)
theorem iO {h h':Heap} {n:Nat} (l:List Int) (h0:h n=none) (hl:(aR h n (.row 1 ((l.map λn=>[I n]).map (List.map .v)))).le h') {len:Nat} (e:len=l.length):Shift (.os n 1 0 len) h' (eQ 1 (λn=>[I n]) l) h :=
 yA (l.map λn=>[I n]) h0 hl len (by rw[iG];exact e)
theorem z7 (n:Int) (sz:Nat):(l6 n sz).length=sz:=by simp[l6]
theorem aLB {sz:Nat} {x:List aC} (h:0<sz):(List.replicate sz x)[Int.toNat 0]?=some x:=by
 show(List.replicate sz x)[0]?=some x
 rw[List.getElem?_replicate,if_pos h]
theorem aG8 (n:Int) (sz:Nat):((List.replicate sz [aC.int .i64 0]).map (List.map Cell.v)).set 0 [Cell.v (I n)]=((l6 n sz).map λn=>[I n]).map (List.map .v):=by
 rw[aBM,l6,aGN I]
theorem kK (h:Heap) (nb:Nat) (c0 c2 c3:Cell) (n:Int) (sz:Nat) (hb:h nb=some (.row 4 [[c0,.v (I ((sz:Int)-1)),c2,c3]])) (ho:1<=sz/\sz<=1048576):fH Tryz.prog 204 [.op nb 4 0 0,I n] h λr h'=>r=eQ 1 (λn=>[I n]) (l6 n sz)/\h'=h:=by
 have e1:IntKind.i64.wrap ((sz:Int)-1+1)=(sz:Int):=by rw[IntWalk.i64_in _ aA];omega
 have e2:=aLB (x:=[aC.int .i64 0]) ho.1
 refine gG 16 bE8 cR cC Tryz.func204 ?_
 simp -dsimp -implicitDefEqProofs only[go_sem,↓reduceIte,Tryz.f204,hb,e1,tX,e2]
 refine⟨b6,by omega,by omega,by omega,λm hm=>⟨by omega,?_⟩⟩
 rw[aJ,show Int.toNat 0=0 from rfl,aG8]
 exact⟨_,h,iO _ hm (Heap.le_refl _) (z7 n sz).symm,rfl,rfl⟩
def cZ (p:aF) (sz st:Nat) (c:Int):bW:=.row 4 [[.v (eQ 3 aV.c p.aI),.v (I ((sz:Int)-1)),.v (I st),.v (I c)]]
abbrev dX (l:List (List Int)):aC:=eQ 1 (λs=>[ints s]) l
def EvQ (h:Heap) (nb:Nat) (p:aF) (sz st:Nat) (c:Int) (X:Out (List Int)):aC->Heap->Prop:=λr h'=>∃ s t c',r=ints s/\h'=aR h nb (cZ p sz t c')/\cG sz s/\st<=t/\t<=3000/\gZ (mW c X) s t c'
def bK7 (h:Heap) (nb:Nat) (p:aF) (sz st:Nat) (c:Int) (n:Nat) (X:Out (List (List Int))):aC->Heap->Prop:=λr h'=>∃ l t c',r=dX l/\h'=aR h nb (cZ p sz t c')/\l.length=n/\(∀ s∈l,cG sz s)/\st<=t/\t<=3000/\gZ (mW c X) l t c'
@[go_sem] def mE:List Nat:=[0,1,2,4,6,7,8,13,20,34,35,41,48,59,74,102,106,107,126,138,159,168,177,186,197]
@[go_sem] def uQ:List Nat:=[4,90]
@[go_sem] def uR:Marks:=λid=>match id with|17=>([6,13,15,16],(.op 0 (.op 1 (.op 2 (.op 3 (.op 4 (.op 5 (.op 7 (.op 8 (.op 9 (.op 10 (.op 11 (.op 12 (.op 6 (.op 13 (.op 14 (.op 15 (.op 16 (.op 17 .nil)))))))))))))))))),[])|23=>([5,16],(.op 0 (.op 1 (.op 2 (.op 3 (.op 4 (.op 6 (.op 7 (.op 11 (.op 12 (.op 15 (.op 5 (.op 8 (.op 9 (.op 10 (.op 13 (.op 14 (.op 16 (.op 17 .nil)))))))))))))))))),[])|28=>([5,12],(.op 0 (.op 1 (.op 2 (.op 3 (.op 4 (.op 6 (.op 7 (.op 11 (.op 5 (.op 8 (.op 9 (.op 10 (.op 12 (.op 13 .nil)))))))))))))),[])|31=>([6],(.op 0 (.op 1 (.op 2 (.op 3 (.op 4 (.op 5 (.op 6 (.op 7 .nil)))))))),[])|33=>([6],(.op 0 (.op 1 (.op 2 (.op 3 (.op 4 (.op 5 (.op 6 (.op 7 .nil)))))))),[])|35=>([6],(.op 0 (.op 1 (.op 2 (.op 3 (.op 4 (.op 5 (.op 6 (.op 7 .nil)))))))),[])|41=>([6],(.op 0 (.op 1 (.op 2 (.op 3 (.op 4 (.op 5 (.op 6 (.op 7 .nil)))))))),[])|_=>([],.nil,[])
def mG (p:aF) (sz n:Nat):Prop:=∀ (h:Heap) (nb st:Nat) (c:Int) (e:aB) (env:List (List Int)) (funcs:Int),h nb=some (cZ p sz st c)->st<=3000->3001<=n+st->e.ok p funcs env.length->0<=funcs->funcs<=p.aI.length->(∀ s∈env,cG sz s)->env.length<=412+st ->
 fH Tryz.prog 179 [.op nb 4 0 0,.agg e.c,dX env] h (EvQ h nb p sz st c (gR p sz n st e env))
theorem vU {p:aF} {sz n:Nat} (hv:mG p sz n) (h:Heap) (nb st:Nat) (c:Int) (l:List aB) (env:List (List Int)) (funcs:Int) (hb:h nb=some (cZ p sz st c)) (hst:st<=3000) (hn:3001<=n+st)
  (hl:l.length<=1048576) (hok:∀ e∈l,e.ok p funcs env.length) (eP:0<=funcs) (hf:funcs<=p.aI.length) (henv:∀ s∈env,cG sz s) (hel:env.length<=412+st) :
  fH Tryz.prog 136 [.op nb 4 0 0,eQ 5 aB.c l,dX env] h (bK7 h nb p sz st c l.length (kJ (λt e=>gR p sz n t e env) l st)):=by
 refine gG 26 aSW aSX cC Tryz.func136 ?_
 simp -dsimp -implicitDefEqProofs only[go_sem,↓reduceIte,Tryz.f136]
 refine⟨b6,λ_=>?_⟩
 refine dJ aSW aSX cC (λx:Nat×List (List Int)×Nat×Int×Option Nat=>[(0,.op nb 4 0 0),(2,dX env),(7,iH 1 x.2.1.length x.2.2.2.2),(11,eQ 5 aB.c l),(12,I l.length),(13,I x.1)]) (λx=>c8 (aR h nb (cZ p sz x.2.2.1 x.2.2.2.1)) (.row 1 ((x.2.1.map λs=>[ints s]).map (List.map .v))) x.2.2.2.2) (λx=>x.1<=l.length/\x.2.1.length=x.1/\(∀ s∈x.2.1,cG sz s)/\st<=x.2.2.1/\x.2.2.1<=3000/\gZ (mW c (kJ (λt e=>gR p sz n t e env) (l.take x.1) st)) x.2.1 x.2.2.1 x.2.2.2.1/\fM h x.2.1 x.2.2.2.2) (λx=>l.length-x.1) (0,[],st,c,none) ⟨by simp[dM,cE,iH],by simp only[aQ];rw[qA hb];exact Heap.le_refl _,gM _,rfl,by simp,j4 _,hst,fI _ _ _,rfl⟩ ?_
 rintro⟨k,vs,t,c',o⟩ ⟨hk,hvl,hvs,ht0,ht,ho,hos⟩
 simp only at hk hvl hvs ht0 ht ho hos ⊢
 rcases cQ k l.length with hlt|hge
 ·have ek:l[k]?=some l[k]:=cP hlt
  have hnext:∀ (s:List Int) (t2:Nat) (c2:Int),gZ (mW c' (gR p sz n t l[k] env)) s t2 c2->gZ (mW c (kJ (λt e=>gR p sz n t e env) (l.take (k+1)) st)) (vs++[s]) t2 c2:=λs t2 c2 h3=>by
   rw[pD hlt,uO]
   exact ho.dA (h3.dA (fI _ _ _))
  have hall:∀ s,cG sz s->∀ x∈vs++[s],cG sz x:=λs hs x hx=>by
   rcases mS.1 hx with hx|hx
   ·exact hvs x hx
   ·rw[nQ.1 hx];exact hs
  cases o with
  |none =>
   rw[bK]at hos
   subst hos
   simp -dsimp -implicitDefEqProofs only[go_sem,↓reduceIte,Tryz.f136,b5,aQ,hlt,ek,aB.aU]
   intro m9 aVT
   obtain⟨a3J,aET,aEU,aLC⟩:=c7 (show ¬m9=nb from zH aVT)
   have bK8:h m9=none:=zH aVT
   rw[aJ]
   have hvk:=hv (aR (aR h nb (cZ p sz t c')) m9 (.row 5 [l[k].c.map .v])) nb t c' l[k] env funcs (by rw[aE _ _ _ _ aLC,aH]) ht aA (hok _ (eF _)) eP hf henv aA
   rw[aB.aU]at hvk
   refine aG.eH hvk ?_
   rintro r h' ⟨s,t2,c2,rfl,rfl,hs,h1,h2,h3⟩
   simp -dsimp -implicitDefEqProofs only[go_sem,↓reduceIte,Tryz.f136]
   refine⟨b6,b6,b6,?_⟩
   intro b q_b
   obtain⟨gU,cN,cM,iV⟩:=c7 (show ¬b=nb from zH q_b)
   obtain⟨aY8,aG9,aHA,aY9⟩:=c7 (show ¬b=m9 from zH q_b)
   have z_b:h b=none:=zH q_b
   refine⟨(k+1,[s],t2,c2,some b),⟨rfl,by rw[IntWalk.i64_in _ aA];rfl⟩,(gF (by repeat'(first|exact lW _ _|refine oI (by simp only[gI,↓reduceIte,eq_self,if_true,aEU,cM,aET,aHA,cN,aG9,qH,x4]) ?_|refine kD wU ?_))),⟨by omega,by simp only[yZ]at hvl;subst hvl;rfl,λx hx=>hall s hs x hx,aD2 ht0 h1,h2,hnext s t2 c2 h3,z_b⟩,by simp only;omega⟩
  |some m =>
   rw[aT]at hos
   obtain⟨jI,dG,dF,iA⟩:=c7 (show ¬m=nb from λe=>by rw[e,hb]at hos;cases hos)
   simp -dsimp -implicitDefEqProofs only[go_sem,↓reduceIte,Tryz.f136,aY,aL,hlt,ek,aB.aU]
   intro m9 aVT
   obtain⟨aQO,aHB,aHC,a84⟩:=c7 (show ¬m9=m from zH aVT)
   obtain⟨a3J,aET,aEU,aLC⟩:=c7 (show ¬m9=nb from zH aVT)
   have bK8:h m9=none:=zH aVT
   rw[aJ]
   have hvk:=hv (aR (aR (aR h nb (cZ p sz t c')) m (.row 1 ((vs.map λs=>[ints s]).map (List.map .v)))) m9 (.row 5 [l[k].c.map .v])) nb t c' l[k] env funcs (by rw[aE _ _ _ _ aLC,aE _ _ _ _ iA,aH]) ht aA (hok _ (eF _)) eP hf henv aA
   rw[aB.aU]at hvk
   refine aG.eH hvk ?_
   rintro r h' ⟨s,t2,c2,rfl,rfl,hs,h1,h2,h3⟩
   simp -dsimp -implicitDefEqProofs only[go_sem,↓reduceIte,Tryz.f136,aE,dG,aHC,dF,aEU,aHB,aET]
   refine⟨b6,b6,b6,j4 _,by omega,by omega,?_⟩
   intro b q_b
   obtain⟨gU,cN,cM,iV⟩:=c7 (show ¬b=nb from zH q_b)
   obtain⟨aY8,aG9,aHA,aY9⟩:=c7 (show ¬b=m9 from zH q_b)
   obtain⟨xQ,l0,lY,xR⟩:=c7 (show ¬b=m from zH q_b)
   have z_b:h b=none:=zH q_b
   refine⟨(k+1,vs++[s],t2,c2,some b),⟨by rw[aY,k8];rfl,by rw[IntWalk.i64_in _ aA];rfl⟩,?_,⟨by omega,by rw[k8,hvl];rfl,hall s hs,aD2 ht0 h1,h2,hnext s t2 c2 h3,z_b⟩,by simp only;omega⟩
   simp only[aL]
   rw[←fJ ints]
   exact(gF (by repeat'(first|exact lW _ _|refine oI (by simp only[gI,↓reduceIte,eq_self,if_true,aEU,cM,dF,aET,aHA,aHB,cN,aG9,l0,dG,aHC,lY]) ?_|refine kD wU ?_)))
 ·have hk':k=l.length:=by omega
  subst hk'
  rw[jG]at ho
  cases o with
  |none =>
   rw[bK]at hos
   subst hos
   simp -dsimp -implicitDefEqProofs only[go_sem,↓reduceIte,Tryz.f136,b5,aQ,cV]
   exact⟨dX [],_,Shift.of (Sub.loose _ _ _) (Heap.le_refl _),[],t,c',rfl,rfl,hvl,hvs,ht0,ht,ho⟩
  |some m =>
   rw[aT]at hos
   simp -dsimp -implicitDefEqProofs only[go_sem,↓reduceIte,Tryz.f136,aY,aL,cV]
   have hmn:¬m=nb:=λe=>by rw[e,hb]at hos;cases hos
   exact⟨dX vs,_,yA (vs.map λs=>[ints s]) (h:=aR h nb (cZ p sz t c')) (by rw[aE _ _ _ _ hmn,hos]) (Heap.le_refl _) _ aMP,vs,t,c',rfl,rfl,hvl,hvs,ht0,ht,ho⟩
end Go.Hl

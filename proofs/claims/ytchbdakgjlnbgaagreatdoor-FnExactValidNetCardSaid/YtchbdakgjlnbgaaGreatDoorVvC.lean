/-
  Contracts of functions and laws of the layer over the walk.
-/
import Derived.Test.YtchbdakgjlnbgaaGreatDoorVvB
import Derived.Test.YtchbdakgjlnbgaaGreatDoorHlD
namespace Go.Hl
set_option maxRecDepth 100000
open Go.Proofs
set_option linter.unusedVariables false
set_option linter.unusedSimpArgs false
@[go_sem] def bS7:List Nat:=[0,1,2,4,5,9]
theorem bHG (p:aK) (f:Int) (hps:p.s<=4194304):dQ Tryz.prog 72 [.agg p.c,I f] (I (if p.ok then if 0<=f/\f<=(p.aJ.length:Int)-1 then 0 else 2 else 1)):=by
 have hv:=aXJ p hps
 simp only[aK.aM]at hv ⊢
 refine dI 17 bS7 aBW b9 Tryz.func72 λh=>?_
 simp -dsimp -implicitDefEqProofs only[go_sem,↓reduceIte,Tryz.f72]
 first|refine aH.mk (hv) ?_|refine aE.mk (hv) ?_|refine aH.b7 (hv) ?_|refine aE.mk (bX.eA (hv)) ?_
 simp -dsimp -implicitDefEqProofs only[go_sem,↓reduceIte,Tryz.f72]
 repeat'(with_reducible first|intro _|refine And.intro ?_ ?_)
 ·rename_i hn
  rw[if_neg hn]
 ·rename_i hn _
  rw[if_pos hn]
  all_goals try simp(disch:=omega) only[IntWalk.i64_in]
  first|refine aH.mk (within f 0 (p.aJ.length-1)) ?_|refine aE.mk (within f 0 (p.aJ.length-1)) ?_|refine aH.b7 (within f 0 (p.aJ.length-1)) ?_|refine aE.mk (bX.eA (within f 0 (p.aJ.length-1))) ?_
  simp -dsimp -implicitDefEqProofs only[go_sem,↓reduceIte,Tryz.f72]
  repeat'(with_reducible first|intro _|refine And.intro ?_ ?_)
  ·rename_i q
   rw[if_neg q]
  ·rename_i q
   rw[if_pos q]
def dN.okF (j:dN) (f:aX):Prop:=(0<=j.aU/\j.aU<=f.bV)/\((j.cT.length:Int)=j.aU/\p4 j.cT)/\(j.aQ.length:Int)<=10/\∀ t∈j.aQ,(t.length:Int)=f.bV-j.aU/\p4 t
def dN.ok (j:dN):Prop:=j.bN.ok/\(0<=j.b5/\j.b5<=(j.bN.aJ.length:Int)-1)/\∀ f,j.bN.aJ[j.b5.toNat]?=some f->j.okF f
noncomputable instance (j:dN):Decidable j.ok:=Classical.propDecidable _
@[go_sem] def bHH:List Nat:=[0,2,3,4,24,71,78,106]
@[go_sem] def bZJ:Marks:=λid=>match id with|1=>([],(.op 0 (.op 1 (.op 2 (.op 3 (.op 4 (.op 5 (.op 6 (.op 7 (.op 8 (.op 9 (.op 10 (.op 11 (.op 12 (.op 13 (.op 14 (.op 15 (.op 16 (.op 17 (.op 18 (.op 19 .nil)))))))))))))))))))),[])|3=>([],(.op 0 (.op 1 (.op 2 (.op 3 (.op 4 (.op 5 (.op 6 (.op 7 (.op 8 (.op 9 (.op 10 (.op 11 (.op 12 .nil))))))))))))),[])|4=>([],(.op 0 (.op 1 (.op 2 (.op 3 (.op 4 (.op 5 (.op 6 (.op 7 (.op 8 (.op 9 (.op 10 (.op 11 (.op 12 (.op 13 (.op 14 (.op 15 (.op 16 (.op 17 (.op 18 (.op 19 (.op 20 (.op 21 (.op 22 (.op 23 (.op 24 (.op 25 (.op 26 (.op 27 (.op 28 (.op 29 (.op 30 (.op 31 (.op 32 (.op 33 (.op 34 .nil))))))))))))))))))))))))))))))))))),[])|9=>([],(.op 0 (.op 1 (.op 2 (.op 3 (.op 4 (.op 5 (.op 6 (.op 7 (.op 8 (.op 9 (.op 10 (.op 11 (.op 12 (.op 13 (.op 14 (.op 15 (.op 16 (.op 17 (.op 18 (.op 19 (.op 20 (.op 21 (.op 22 (.op 23 (.op 24 (.op 25 .nil)))))))))))))))))))))))))),[])|_=>([],.nil,[])
theorem aXK (j:dN) (hps:j.bN.s<=4194304):dQ Tryz.prog 22 [.ip 5 [j.c] 0 0] (.bool (decide j.ok)):=by
 have hl:=j.bN.aRG
 have e1:IntKind.i64.wrap ((j.bN.aJ.length:Int)-1)=j.bN.aJ.length-1:=IntWalk.i64_in _ aA
 simp only[dN.aM]
 refine dI 107 bHH cG bZJ Tryz.func22 λh=>?_
 simp -dsimp -implicitDefEqProofs only[go_sem,↓reduceIte,Tryz.f22,e1]
 first|refine aE.mk ((bQD j.bN hps).sub (by repeat'(first|exact bQ.nil|refine bQ.cons ?_ ?_|exact Sub.refl _|(rw[aB.aM];exact Sub.refl _)|exact Sub.cK rfl rfl rfl|exact Sub.ip (bF aA) aS|exact Sub.cK (bF aA) rfl rfl|exact Sub.ip bU aS|exact Sub.cK bU bS bS))) ?_|refine aH.mk ((bQD j.bN hps).sub (by repeat'(first|exact bQ.nil|refine bQ.cons ?_ ?_|exact Sub.refl _|(rw[aB.aM];exact Sub.refl _)|exact Sub.cK rfl rfl rfl|exact Sub.ip (bF aA) aS|exact Sub.cK (bF aA) rfl rfl|exact Sub.ip bU aS|exact Sub.cK bU bS bS))) ?_
 simp -dsimp -implicitDefEqProofs only[go_sem,↓reduceIte,Tryz.f22,e1]
 repeat'(with_reducible first|intro _|refine And.intro ?_ ?_)
 ·rename_i hp
  first|refine aH.mk (eI j.b5 0 (j.bN.aJ.length-1)) ?_|refine aE.mk (eI j.b5 0 (j.bN.aJ.length-1)) ?_|refine aH.b7 (eI j.b5 0 (j.bN.aJ.length-1)) ?_|refine aE.mk (bX.eA (eI j.b5 0 (j.bN.aJ.length-1))) ?_
  simp -dsimp -implicitDefEqProofs only[go_sem,↓reduceIte,Tryz.f22,e1]
  repeat'(with_reducible first|intro _|refine And.intro ?_ ?_)
  ·rename_i hr
   exact(decide_eq_false λz=>hr z.2.1).symm
  all_goals try omega
  rename_i hr
  obtain⟨f,ef⟩:∃ f,j.bN.aJ[j.b5.toNat]?=some f:=⟨_,b6 aA⟩
  have hfo:=hp.2 _ f ef
  have hj:j.ok↔j.okF f:=⟨λz=>z.2.2 f ef,λz=>⟨hp,hr,λg eg=>by rw[ef]at eg;obtain rfl:=dY eg;exact z⟩⟩
  have hp1:=hfo.2.1
  simp -dsimp -implicitDefEqProofs only[go_sem,↓reduceIte,Tryz.f22,ef,aX.aM]
  first|refine aH.mk (eI j.aU 0 f.bV) ?_|refine aE.mk (eI j.aU 0 f.bV) ?_|refine aH.b7 (eI j.aU 0 f.bV) ?_|refine aE.mk (bX.eA (eI j.aU 0 f.bV)) ?_
  simp -dsimp -implicitDefEqProofs only[go_sem,↓reduceIte,Tryz.f22]
  repeat'(with_reducible first|intro _|refine And.intro ?_ ?_)
  ·rename_i hsh hlen
   first|refine aH.mk (jB j.cT) ?_|refine aE.mk (jB j.cT) ?_|refine aH.b7 (jB j.cT) ?_|refine aE.mk (bX.eA (jB j.cT)) ?_
   simp -dsimp -implicitDefEqProofs only[go_sem,↓reduceIte,Tryz.f22]
   repeat'(with_reducible first|intro _|refine And.intro ?_ ?_)
   ·exact(decide_eq_false λz=>by have:=(hj.1 z).2.2.1;omega).symm
   ·have e4:IntKind.i64.wrap (f.bV-j.aU)=f.bV-j.aU:=IntWalk.i64_in _ aA
    refine cY bHH cG bZJ (λk:Nat=>[(0,.ip 5 [j.c] 0 0),(3,I f.bV),(4,I k)]) (λ_=>h) (λk=>k<=j.aQ.length/\∀ t∈j.aQ.take k,(t.length:Int)=f.bV-j.aU/\p4 t) (λk=>j.aQ.length-k) 0 (by refine⟨by simp[dT,dB,dN.aM],by repeat'(with_reducible first|exact Heap.le_refl _|refine(aW gH).2 ?_),by simp⟩) ?_
    intro k ⟨hk,hall⟩
    simp only[dN.aM]
    rcases cP k j.aQ.length with hlt|hge
    ·have ea:j.aQ[k]?=some j.aQ[k]:=b6 hlt
     have no (q:¬((j.aQ[k].length:Int)=f.bV-j.aU/\p4 j.aQ[k])):false=decide j.ok:=(decide_eq_false λz=>q ((hj.1 z).2.2.2 _ (dG hlt))).symm
     simp -dsimp -implicitDefEqProofs only[go_sem,↓reduceIte,Tryz.f22,ea,e4]
     repeat'(with_reducible first|intro _|refine And.intro ?_ ?_)
     all_goals try omega
     ·first|refine aH.mk (jB j.aQ[k]) ?_|refine aE.mk (jB j.aQ[k]) ?_|refine aH.b7 (jB j.aQ[k]) ?_|refine aE.mk (bX.eA (jB j.aQ[k])) ?_
      simp -dsimp -implicitDefEqProofs only[go_sem,↓reduceIte,Tryz.f22]
      repeat'(with_reducible first|intro _|refine And.intro ?_ ?_)
      ·rename_i q4 q5
       exact no λz=>q5 z.2
      ·rename_i q4 q5
       refine⟨k+1,?_⟩
       repeat'(with_reducible refine And.intro ?_ ?_)
       all_goals try(rw[IntWalk.i64_in _ aA];first|rfl|omega)
       all_goals try omega
       all_goals try(repeat'(with_reducible first|exact Heap.le_refl _|refine(aW gH).2 ?_))
       all_goals try(simp only[dN.aM];done)
       exact iY (P:=λt:List Int=>(t.length:Int)=f.bV-j.aU/\p4 t) hlt hall ⟨q4,q5⟩
     ·rename_i q4
      exact no λz=>q4 z.1
    ·have hk':k=j.aQ.length:=by omega
     subst hk'
     rw[eL]at hall
     simp -dsimp -implicitDefEqProofs only[go_sem,↓reduceIte,Tryz.f22,cN]
     exact λ_=>(decide_eq_true (hj.2 ⟨hsh,⟨by assumption,by assumption⟩,by omega,hall⟩)).symm
   ·rename_i q2
    exact(decide_eq_false λz=>q2 (hj.1 z).2.1.2).symm
  ·rename_i q
   exact(decide_eq_false λz=>q (hj.1 z).2.1.1).symm
  ·rename_i q
   exact(decide_eq_false λz=>q (hj.1 z).1).symm
 ·rename_i hp
  exact(decide_eq_false λz=>hp z.1).symm
theorem bDO (l:List Int) (c:Int) (n:Nat) {h0:Heap} (hn:h0 n=some (.row 1 [[.v (I c)]])):bX Tryz.prog 75 [cI 1 (λn=>[I n]) l,.op n 1 0 0] (.bool (!decide ((l.length:Int)=c/\p4 l))) h0:=by
 have hg (h:Heap) (hle:h0.le h):=Heap.aE8 hle hn
 refine aGX 8 bP2 cG b9 Tryz.func75 λh hle=>?_
 simp -dsimp -implicitDefEqProofs only[go_sem,↓reduceIte,Tryz.f75]
 have hn':=hg h hle
 simp -dsimp -implicitDefEqProofs only[go_sem,↓reduceIte,Tryz.f75,hn']
 first|refine aH.mk (fX l c) ?_|refine aE.mk (fX l c) ?_|refine aH.b7 (fX l c) ?_|refine aE.mk (bX.eA (fX l c)) ?_
 simp -dsimp -implicitDefEqProofs only[go_sem,↓reduceIte,Tryz.f75]
theorem aXL (a:List (List Int)) (p:(List Int)->Bool) (g:FuncId) (cap:List aC) {h0:Heap} (hc:∀ x∈a,bX Tryz.prog g ([(cI 1 (λn=>[I n]) x)]++cap) (.bool (p x)) h0):bX Tryz.prog 126 [(cI 1 (λx=>[cI 1 (λn=>[I n]) x]) a),.fn (.func g) [] cap] (I (idxOf p a)) h0:=by
 refine aGX 19 aNQ cG b9 Tryz.func126 λh hle=>?_
 simp -dsimp -implicitDefEqProofs only[go_sem,↓reduceIte,Tryz.f126,Tryz.f126]
 intro _
 refine cY aNQ cG b9 (λk:Nat=>[(0,(cI 1 (λx=>[cI 1 (λn=>[I n]) x]) a)),(1,.fn (.func g) [] cap),(7,I a.length),(8,I k)]) (λ_=>h) (λk=>k<=a.length/\∀ x∈a.take k,p x=false) (λk=>a.length-k) 0 pV ?_
 intro k ⟨hk,hp⟩
 rcases cP k a.length with hlt|hge
 ·have ea:a[k]?=some a[k]:=b6 hlt
  simp -dsimp -implicitDefEqProofs only[go_sem,↓reduceIte,Tryz.f126,Tryz.f126,ea]
  repeat'(with_reducible first|intro _|refine And.intro ?_ ?_)
  all_goals try omega
  have hx:=hc a[k] (dG hlt)
  refine aH.b7 (hx.mono hle) ?_
  cases hpk:p a[k]with
  |true =>
   simp -dsimp -implicitDefEqProofs only[go_sem,↓reduceIte,Tryz.f126,Tryz.f126]
   repeat'(with_reducible first|intro _|refine And.intro ?_ ?_)
   all_goals first|exact(qG hlt hp hpk).symm|rfl|(rw[qG hlt hp hpk])
  |false =>
   simp -dsimp -implicitDefEqProofs only[go_sem,↓reduceIte,Tryz.f126,Tryz.f126]
   refine⟨k+1,?_⟩
   repeat'(with_reducible refine And.intro ?_ ?_)
   all_goals try(rw[IntWalk.i64_in _ aA];first|rfl|omega)
   all_goals try omega
   exact iY (P:=λx=>p x=false) hlt hp hpk
 ·have hk':k=a.length:=by omega
  subst hk'
  rw[eL]at hp
  simp -dsimp -implicitDefEqProofs only[go_sem,↓reduceIte,Tryz.f126,Tryz.f126,cN]
  all_goals first|exact(qF hp).symm|rw[qF hp]
theorem aXM (a:List (List Int)) (p:(List Int)->Bool) (g:FuncId) (cap:List aC) {h0:Heap} (hc:∀ x∈a,bX Tryz.prog g ([(cI 1 (λn=>[I n]) x)]++cap) (.bool (p x)) h0):bX Tryz.prog 74 [(cI 1 (λx=>[cI 1 (λn=>[I n]) x]) a),.fn (.func g) [] cap] (.bool (a.any p)) h0:=by
 refine aGX 9 zG cG b9 Tryz.func74 λh hle=>?_
 simp -dsimp -implicitDefEqProofs only[go_sem,↓reduceIte,Tryz.f74,Tryz.f74]
 refine aH.b7 ((aXL a p g cap hc).mono hle) ?_
 simp -dsimp -implicitDefEqProofs only[go_sem,↓reduceIte,Tryz.f74,Tryz.f74]
 all_goals first|done|exact nD|rw[nD]
@[go_sem] def bHI:List Nat:=[0,1,2,3,31]
@[go_sem] def bZL:Marks:=λid=>match id with|1=>([],(.op 0 (.op 1 (.op 2 (.op 3 (.op 4 (.op 5 (.op 6 (.op 7 (.op 8 (.op 9 (.op 10 (.op 11 (.op 12 (.op 13 (.op 14 (.op 15 (.op 16 (.op 17 (.op 18 (.op 19 (.op 20 (.op 21 (.op 22 (.op 23 (.op 24 (.op 25 (.op 26 (.op 27 .nil)))))))))))))))))))))))))))),[])|3=>([11,12],(.op 0 (.op 1 (.op 2 (.op 3 (.op 4 (.op 5 (.op 6 (.op 7 (.op 8 (.op 9 (.op 10 (.op 11 (.op 12 .nil))))))))))))),[])|_=>([],.nil,[])
theorem a13 (j:dN) (hps:j.bN.s<=4194304):dQ Tryz.prog 27 [.agg j.c] (.bool (decide j.ok)):=by
 have hif:=bHG j.bN j.b5 hps
 have hl:=j.bN.aRG
 simp only[dN.aM,aK.aM]at hif ⊢
 by_cases hp:j.bN.ok/\(0<=j.b5/\j.b5<=(j.bN.aJ.length:Int)-1)
 ·obtain⟨hp,hr⟩:=hp
  rw[if_pos hp,if_pos hr]at hif
  obtain⟨f,ef⟩:∃ f,j.bN.aJ[j.b5.toNat]?=some f:=⟨_,b6 aA⟩
  have hfo:=hp.2 _ f ef
  have hj:j.ok↔j.okF f:=⟨λz=>z.2.2 f ef,λz=>⟨hp,hr,λg eg=>by rw[ef]at eg;obtain rfl:=dY eg;exact z⟩⟩
  have hp1:=hfo.2.1
  refine dI 54 bHI wE bZL Tryz.func27 λh=>?_
  simp -dsimp -implicitDefEqProofs only[go_sem,↓reduceIte,Tryz.f27]
  first|refine aH.mk (hif) ?_|refine aE.mk (hif) ?_|refine aH.b7 (hif) ?_|refine aE.mk (bX.eA (hif)) ?_
  simp -dsimp -implicitDefEqProofs only[go_sem,↓reduceIte,Tryz.f27,ef,aX.aM]
  repeat'(with_reducible first|intro _|refine And.intro ?_ ?_)
  all_goals try omega
  first|refine aH.mk (within j.aU 0 f.bV) ?_|refine aE.mk (within j.aU 0 f.bV) ?_|refine aH.b7 (within j.aU 0 f.bV) ?_|refine aE.mk (bX.eA (within j.aU 0 f.bV)) ?_
  simp -dsimp -implicitDefEqProofs only[go_sem,↓reduceIte,Tryz.f27,ef,aX.aM]
  repeat'(with_reducible first|intro _|refine And.intro ?_ ?_)
  ·first|refine aH.mk (fX j.cT j.aU) ?_|refine aE.mk (fX j.cT j.aU) ?_|refine aH.b7 (fX j.cT j.aU) ?_|refine aE.mk (bX.eA (fX j.cT j.aU)) ?_
   simp -dsimp -implicitDefEqProofs only[go_sem,↓reduceIte,Tryz.f27,ef,aX.aM]
   repeat'(with_reducible first|intro _|refine And.intro ?_ ?_)
   all_goals try omega
   ·rename_i q
    exact(decide_eq_false λz=>q (hj.1 z).2.1).symm
   ·rename_i n hn q1 q2
    rw[IntWalk.i64_in _ aA]
    refine aH.b7 (aXM j.aQ (λt=>!decide ((t.length:Int)=f.bV-j.aU/\p4 t)) 75 [.op n 1 0 0] λt _=>bDO t (f.bV-j.aU) n (by simp[dC])) ?_
    simp -dsimp -implicitDefEqProofs only[go_sem,↓reduceIte,Tryz.f27]
    repeat'(with_reducible first|intro _|refine And.intro ?_ ?_)
    all_goals try(repeat'(with_reducible first|exact Heap.le_refl _|refine(aW gH).2 ?_))
    rw[aOT,decide_eq_decide,hj]
    exact⟨λq=>⟨by assumption,by assumption,by omega,q⟩,λq=>q.2.2.2⟩
   ·rename_i q
    exact(decide_eq_false λz=>q (by have:=(hj.1 z).2.2.1;omega)).symm
   ·all_goals try(repeat'(with_reducible first|exact Heap.le_refl _|refine(aW gH).2 ?_))
  ·rename_i q
   exact(decide_eq_false λz=>q (hj.1 z).1).symm
 ·have hne:¬(if j.bN.ok then if 0<=j.b5/\j.b5<=(j.bN.aJ.length:Int)-1 then 0 else 2 else 1:Int)=0:=by
   intro q
   split at q
   ·split at q
    ·rename_i a b
     exact hp ⟨a,b⟩
    ·cases q
   ·cases q
  refine dI 54 bHI wE bZL Tryz.func27 λh=>?_
  simp -dsimp -implicitDefEqProofs only[go_sem,↓reduceIte,Tryz.f27]
  first|refine aH.mk (hif) ?_|refine aE.mk (hif) ?_|refine aH.b7 (hif) ?_|refine aE.mk (bX.eA (hif)) ?_
  simp -dsimp -implicitDefEqProofs only[go_sem,↓reduceIte,Tryz.f27]
  repeat'(with_reducible first|intro _|refine And.intro ?_ ?_)
  all_goals try(exact absurd gB hne)
  exact(decide_eq_false λz=>hp ⟨z.1,z.2.1⟩).symm
def aOZ (j:dN) (l:List Int):Prop:=(l.length:Int)=j.aU/\p4 l
def pR (j:dN) (p:bR):Prop:=if p.cX=0 then nJ p.jA/\aOZ j p.iQ else(p.cX=6∨p.cX=7)/\p.jA=0/\p.iQ=[]
noncomputable instance (j:dN) (p:bR):Decidable (pR j p):=Classical.propDecidable _
def aKI (j:dN) (st ow:Int) (kn:Bool) (p:bR):Prop:=(0<=st/\st<=50)/\(-1<=ow/\ow<=3)/\(kn=true->ow=-1/\pR j p)/\(kn=false->p.cX=0/\p.jA=0/\p.iQ=[])
def aI.ok (s:aI):Prop:=s.bA.ok/\(s.aP.length=s.bA.aQ.length/\s.bM.length=s.bA.aQ.length/\s.bW.length=s.bA.aQ.length/\s.bI.length=s.bA.aQ.length) /\
 ∀ (k:Nat) (st ow:Int) (kn:Bool) (p:bR),s.aP[k]?=some st->s.bI[k]?=some ow->s.bM[k]?=some kn->s.bW[k]?=some p->aKI s.bA st ow kn p
noncomputable instance (s:aI):Decidable s.ok:=Classical.propDecidable _
theorem a47 {α:Type} (l:List α):(l.length:Int)=0↔l=[]:=by cases l <;> simp;omega
theorem aRL (j:dN) (l:List Int):dQ Tryz.prog 181 [.ip 5 [j.c] 0 0,cI 1 (λn=>[I n]) l] (.bool (decide ((l.length:Int)=j.aU/\p4 l))):=by
 simp only[dN.aM]
 refine dI 16 zG cG b9 Tryz.func181 λh=>?_
 simp -dsimp -implicitDefEqProofs only[go_sem,↓reduceIte,Tryz.f181]
 repeat'(with_reducible first|intro _|refine And.intro ?_ ?_)
 all_goals try(first|(simp[*];done)|omega|grind)
 first|refine aH.mk (jB l) ?_|refine aE.mk (jB l) ?_|refine aH.b7 (jB l) ?_|refine aE.mk (bX.eA (jB l)) ?_
 simp -dsimp -implicitDefEqProofs only[go_sem,↓reduceIte,Tryz.f181]
 all_goals try(first|(simp[*];done)|omega|grind)
@[go_sem] def bL6:List Nat:=[0,1,4,8,9,24]
theorem aO0 (j:dN) (p:bR):dQ Tryz.prog 141 [.ip 5 [j.c] 0 0,.ip 3 [p.c] 0 0] (.bool (decide (pR j p))):=by
 simp only[dN.aM,bR.aM]
 refine dI 40 bL6 cG b9 Tryz.func141 λh=>?_
 simp -dsimp -implicitDefEqProofs only[go_sem,↓reduceIte,Tryz.f141]
 repeat'(with_reducible first|intro _|refine And.intro ?_ ?_)
 all_goals try(first|(simp[pR,a47, *];done)|omega|(grind[pR,a47])|(simp[pR,a47];omega))
 rename_i hc
 have hp:pR j p↔nJ p.jA/\aOZ j p.iQ:=by unfold pR;rw[if_pos hc]
 first|refine aH.mk (mT p.jA) ?_|refine aE.mk (mT p.jA) ?_|refine aH.b7 (mT p.jA) ?_|refine aE.mk (bX.eA (mT p.jA)) ?_
 simp -dsimp -implicitDefEqProofs only[go_sem,↓reduceIte,Tryz.f141]
 repeat'(with_reducible first|intro _|refine And.intro ?_ ?_)
 ·first|refine aE.mk ((aRL j p.iQ).sub (by repeat'(first|exact bQ.nil|refine bQ.cons ?_ ?_|exact Sub.refl _|(rw[aB.aM];exact Sub.refl _)|exact Sub.cK rfl rfl rfl|exact Sub.ip (bF aA) aS|exact Sub.cK (bF aA) rfl rfl|exact Sub.ip bU aS|exact Sub.cK bU bS bS))) ?_|refine aH.mk ((aRL j p.iQ).sub (by repeat'(first|exact bQ.nil|refine bQ.cons ?_ ?_|exact Sub.refl _|(rw[aB.aM];exact Sub.refl _)|exact Sub.cK rfl rfl rfl|exact Sub.ip (bF aA) aS|exact Sub.cK (bF aA) rfl rfl|exact Sub.ip bU aS|exact Sub.cK bU bS bS))) ?_
  simp -dsimp -implicitDefEqProofs only[go_sem,↓reduceIte,Tryz.f141]
  rw[decide_eq_decide,hp]
  exact⟨λq=>⟨by assumption,q⟩,λq=>q.2⟩
 ·exact(decide_eq_false λq=>by simp_all).symm
@[go_sem] def bS8:List Nat:=[0,1,2,3,4,7]
theorem bHJ (j:dN) (p:bR):dQ Tryz.prog 97 [.agg j.c,.agg p.c] (.bool (decide (pR j p))):=by
 simp only[dN.aM,bR.aM]
 refine dI 37 bS8 aDC b9 Tryz.func97 λh=>?_
 simp -dsimp -implicitDefEqProofs only[go_sem,↓reduceIte,Tryz.f97]
 repeat'(with_reducible first|intro _|refine And.intro ?_ ?_)
 all_goals try(first|(simp[pR,a47, *];done)|omega|(grind[pR,a47])|(simp[pR,a47];omega))
 rename_i hc
 have hp:pR j p↔nJ p.jA/\aOZ j p.iQ:=by unfold pR;rw[if_pos hc]
 first|refine aH.mk (pA p.jA) ?_|refine aE.mk (pA p.jA) ?_|refine aH.b7 (pA p.jA) ?_|refine aE.mk (bX.eA (pA p.jA)) ?_
 simp -dsimp -implicitDefEqProofs only[go_sem,↓reduceIte,Tryz.f97]
 repeat'(with_reducible first|intro _|refine And.intro ?_ ?_)
 ·first|refine aH.mk (fX p.iQ j.aU) ?_|refine aE.mk (fX p.iQ j.aU) ?_|refine aH.b7 (fX p.iQ j.aU) ?_|refine aE.mk (bX.eA (fX p.iQ j.aU)) ?_
  simp -dsimp -implicitDefEqProofs only[go_sem,↓reduceIte,Tryz.f97]
  rw[decide_eq_decide,hp]
  exact⟨λq=>⟨by assumption,q⟩,λq=>q.2⟩
 ·exact(decide_eq_false λq=>by simp_all).symm
@[go_sem] def bHK:List Nat:=[0,2,3,4,9,49,52,74,104,146]
@[go_sem] def bZM:Marks:=λid=>match id with|11=>([],(.op 0 (.op 1 (.op 2 (.op 3 (.op 4 (.op 5 (.op 6 (.op 7 (.op 8 (.op 9 (.op 10 (.op 11 (.op 12 (.op 13 (.op 14 (.op 15 (.op 16 (.op 17 (.op 18 (.op 19 (.op 20 (.op 21 (.op 22 (.op 23 (.op 24 (.op 25 (.op 26 (.op 27 (.op 28 (.op 29 .nil)))))))))))))))))))))))))))))),[])|_=>([],.nil,[])
theorem bQE (s:aI) (hps:s.bA.bN.s<=4194304):dQ Tryz.prog 90 [.ip 9 [s.c] 0 0] (.bool (decide s.ok)):=by
 simp only[aI.aM]
 refine dI 147 bHK cG bZM Tryz.func90 λh=>?_
 simp -dsimp -implicitDefEqProofs only[go_sem,↓reduceIte,Tryz.f90]
 first|refine aE.mk ((aXK s.bA hps).sub (by repeat'(first|exact bQ.nil|refine bQ.cons ?_ ?_|exact Sub.refl _|(rw[aB.aM];exact Sub.refl _)|exact Sub.cK rfl rfl rfl|exact Sub.ip (bF aA) aS|exact Sub.cK (bF aA) rfl rfl|exact Sub.ip bU aS|exact Sub.cK bU bS bS))) ?_|refine aH.mk ((aXK s.bA hps).sub (by repeat'(first|exact bQ.nil|refine bQ.cons ?_ ?_|exact Sub.refl _|(rw[aB.aM];exact Sub.refl _)|exact Sub.cK rfl rfl rfl|exact Sub.ip (bF aA) aS|exact Sub.cK (bF aA) rfl rfl|exact Sub.ip bU aS|exact Sub.cK bU bS bS))) ?_
 simp -dsimp -implicitDefEqProofs only[go_sem,↓reduceIte,Tryz.f90]
 repeat'(with_reducible first|intro _|refine And.intro ?_ ?_)
 all_goals try(exact(decide_eq_false λz=>by have:=z.2.1;omega).symm)
 all_goals try(rename_i hn;exact(decide_eq_false λz=>hn z.1).symm)
 have hjob:s.bA.ok:=by assumption
 have h1:s.aP.length=s.bA.aQ.length:=by assumption
 have h2:s.bM.length=s.bA.aQ.length:=by assumption
 have h3:s.bW.length=s.bA.aQ.length:=by assumption
 have h4:s.bI.length=s.bA.aQ.length:=by assumption
 refine cY bHK cG bZM (λk:Nat=>[(0,.ip 9 [s.c] 0 0),(3,I s.bA.aQ.length),(4,I k)]) (λ_=>h) (λk=>k<=s.bA.aQ.length/\∀ (j:Nat) (st ow:Int) (kn:Bool) (p:bR),j<k->s.aP[j]?=some st->s.bI[j]?=some ow->s.bM[j]?=some kn->s.bW[j]?=some p->aKI s.bA st ow kn p) (λk=>s.bA.aQ.length-k) 0 (by refine⟨by simp[dT,dB,aI.aM],by repeat'(with_reducible first|exact Heap.le_refl _|refine(aW gH).2 ?_),by simp⟩) ?_
 intro k ⟨hk,hall⟩
 simp only[aI.aM]
 rcases cP k s.bA.aQ.length with hlt|hge
 ·have k1:k<s.aP.length:=by omega
  have k2:k<s.bM.length:=by omega
  have k3:k<s.bW.length:=by omega
  have k4:k<s.bI.length:=by omega
  have g1:s.aP[k]?=some s.aP[k]:=b6 k1
  have g2:s.bM[k]?=some s.bM[k]:=b6 k2
  have g3:s.bW[k]?=some s.bW[k]:=b6 k3
  have g4:s.bI[k]?=some s.bI[k]:=b6 k4
  have no (q:¬aKI s.bA s.aP[k] s.bI[k] s.bM[k] s.bW[k]):false=decide s.ok:=(decide_eq_false λz=>q (z.2.2 k _ _ _ _ g1 g4 g2 g3)).symm
  have nx (q:aKI s.bA s.aP[k] s.bI[k] s.bM[k] s.bW[k]):∀ (j:Nat) (st ow:Int) (kn:Bool) (p:bR),j<k+1->s.aP[j]?=some st->s.bI[j]?=some ow->s.bM[j]?=some kn->s.bW[j]?=some p->aKI s.bA st ow kn p:=by
   intro j st ow kn p hj a b c d
   rcases aEE.1 hj with hj|rfl
   ·exact hall j st ow kn p hj a b c d
   ·rw[g1]at a;rw[g4]at b;rw[g2]at c;rw[g3]at d
    obtain rfl:=dY a
    obtain rfl:=dY b
    obtain rfl:=dY c
    obtain rfl:=dY d
    exact q
  cases hkn:s.bM[k]
  all_goals
   rw[hkn]at g2 no nx
   simp -dsimp -implicitDefEqProofs only[go_sem,↓reduceIte,Tryz.f90,g1,g2,g3,g4,bR.aM]
   repeat'(with_reducible first|intro _|refine And.intro ?_ ?_)
   all_goals try omega
  all_goals(first|refine aH.mk (eI s.aP[k] 0 50) ?_|refine aE.mk (eI s.aP[k] 0 50) ?_)
  all_goals simp -dsimp -implicitDefEqProofs only[go_sem,↓reduceIte,Tryz.f90,g1,g2,g3,g4,bR.aM]
  all_goals repeat'(with_reducible first|intro _|refine And.intro ?_ ?_)
  all_goals try omega
  all_goals try(rename_i q;exact no λz=>q z.1)
  all_goals(first|refine aH.mk (eI s.bI[k] (-1) 3) ?_|refine aE.mk (eI s.bI[k] (-1) 3) ?_)
  all_goals simp -dsimp -implicitDefEqProofs only[go_sem,↓reduceIte,Tryz.f90,g1,g2,g3,g4,bR.aM]
  all_goals repeat'(with_reducible first|intro _|refine And.intro ?_ ?_)
  all_goals try omega
  all_goals try(rename_i q;exact no λz=>q z.2.1)
  all_goals try(rename_i q;exact no λz=>q (z.2.2.2 rfl).1)
  all_goals try(rename_i q;exact no λz=>q (z.2.2.2 rfl).2.1)
  all_goals try(rename_i q;exact no λz=>q (z.2.2.1 rfl).1)
  all_goals try(rename_i q;exact no λz=>by have:=(z.2.2.2 rfl).2.2;rw[this]at q;simp at q)
  ·refine⟨k+1,?_⟩
   repeat'(with_reducible refine And.intro ?_ ?_)
   all_goals try(rw[IntWalk.i64_in _ aA];first|rfl|omega)
   all_goals try omega
   all_goals try(repeat'(with_reducible first|exact Heap.le_refl _|refine(aW gH).2 ?_))
   all_goals try(simp only[aI.aM];done)
   exact nx ⟨by assumption,by assumption,λz=>by simp at z,λ_=>⟨by assumption,by assumption,(a47 _).1 aA⟩⟩
  ·have hq1:s.bI[k]=-1:=by assumption
   first|refine aE.mk ((aO0 s.bA s.bW[k]).sub (by repeat'(first|exact bQ.nil|refine bQ.cons ?_ ?_|exact Sub.refl _|(rw[aB.aM];exact Sub.refl _)|exact Sub.cK rfl rfl rfl|exact Sub.ip (bF aA) aS|exact Sub.cK (bF aA) rfl rfl|exact Sub.ip bU aS|exact Sub.cK bU bS bS))) ?_|refine aH.mk ((aO0 s.bA s.bW[k]).sub (by repeat'(first|exact bQ.nil|refine bQ.cons ?_ ?_|exact Sub.refl _|(rw[aB.aM];exact Sub.refl _)|exact Sub.cK rfl rfl rfl|exact Sub.ip (bF aA) aS|exact Sub.cK (bF aA) rfl rfl|exact Sub.ip bU aS|exact Sub.cK bU bS bS))) ?_
   simp -dsimp -implicitDefEqProofs only[go_sem,↓reduceIte,Tryz.f90,g1,g2,g3,g4,bR.aM]
   repeat'(with_reducible first|intro _|refine And.intro ?_ ?_)
   all_goals try omega
   all_goals try(rename_i q;exact no λz=>q (z.2.2.1 rfl).2)
   refine⟨k+1,?_⟩
   repeat'(with_reducible refine And.intro ?_ ?_)
   all_goals try(rw[IntWalk.i64_in _ aA];first|rfl|omega)
   all_goals try omega
   all_goals try(repeat'(with_reducible first|exact Heap.le_refl _|refine(aW gH).2 ?_))
   all_goals try(simp only[aI.aM];done)
   exact nx ⟨by assumption,by assumption,λ_=>⟨hq1,by assumption⟩,λz=>by simp at z⟩
 ·have hk':k=s.bA.aQ.length:=by omega
  subst hk'
  simp -dsimp -implicitDefEqProofs only[go_sem,↓reduceIte,Tryz.f90,fP,cN]
  exact(decide_eq_true ⟨hjob,⟨h1,h2,h3,h4⟩,λj st ow kn p a b c d=>hall j st ow kn p (by have:=(mU.1 a).1;omega) a b c d⟩).symm
@[go_sem] def bHL:List Nat:=[0,1,2,3,4,5,41,43,44,45,46,65,99]
@[go_sem] def bZN:Marks:=λid=>match id with|9=>([],(.op 0 (.op 1 (.op 2 (.op 3 (.op 4 (.op 5 (.op 6 (.op 7 (.op 8 (.op 9 (.op 10 (.op 11 (.op 12 (.op 13 (.op 14 (.op 15 (.op 16 (.op 17 (.op 18 (.op 19 (.op 20 (.op 21 (.op 22 (.op 23 (.op 24 (.op 25 (.op 26 (.op 27 (.op 28 (.op 29 (.op 30 (.op 31 (.op 32 (.op 33 .nil)))))))))))))))))))))))))))))))))),[])|_=>([],.nil,[])
theorem yB (s:aI) (hps:s.bA.bN.s<=4194304):dQ Tryz.prog 50 [.agg s.c] (.bool (decide s.ok)):=by
 have hj:=a13 s.bA hps
 simp only[aI.aM,dN.aM]at hj ⊢
 refine dI 101 bHL wE bZN Tryz.func50 λh=>?_
 simp -dsimp -implicitDefEqProofs only[go_sem,↓reduceIte,Tryz.f50]
 intro _
 first|refine aH.mk (hj) ?_|refine aE.mk (hj) ?_|refine aH.b7 (hj) ?_|refine aE.mk (bX.eA (hj)) ?_
 simp -dsimp -implicitDefEqProofs only[go_sem,↓reduceIte,Tryz.f50]
 repeat'(with_reducible first|intro _|refine And.intro ?_ ?_)
 all_goals try(exact(decide_eq_false λz=>by have:=z.2.1;omega).symm)
 all_goals try(rename_i hn;exact(decide_eq_false λz=>hn z.1).symm)
 have hjob:s.bA.ok:=by assumption
 have h1:s.aP.length=s.bA.aQ.length:=by assumption
 have h2:s.bM.length=s.bA.aQ.length:=by assumption
 have h3:s.bW.length=s.bA.aQ.length:=by assumption
 have h4:s.bI.length=s.bA.aQ.length:=by assumption
 refine cY bHL wE bZN (λk:Nat=>[(1,.ip 9 [s.c] 0 0),(43,cI 1 (λb=>[.bool b]) s.bM),(44,I s.bA.aQ.length),(45,I k)]) (λ_=>h) (λk=>k<=s.bA.aQ.length/\∀ (j:Nat) (st ow:Int) (kn:Bool) (p:bR),j<k->s.aP[j]?=some st->s.bI[j]?=some ow->s.bM[j]?=some kn->s.bW[j]?=some p->aKI s.bA st ow kn p) (λk=>s.bA.aQ.length-k) 0 (by refine⟨by simp[dT,dB,aI.aM,h2],by simp[Heap.le_refl],by simp⟩) ?_
 intro k ⟨hk,hall⟩
 simp only[aI.aM]
 rcases cP k s.bA.aQ.length with hlt|hge
 ·have k1:k<s.aP.length:=by omega
  have k2:k<s.bM.length:=by omega
  have k3:k<s.bW.length:=by omega
  have k4:k<s.bI.length:=by omega
  have g1:s.aP[k]?=some s.aP[k]:=b6 k1
  have g2:s.bM[k]?=some s.bM[k]:=b6 k2
  have g3:s.bW[k]?=some s.bW[k]:=b6 k3
  have g4:s.bI[k]?=some s.bI[k]:=b6 k4
  have no (q:¬aKI s.bA s.aP[k] s.bI[k] s.bM[k] s.bW[k]):false=decide s.ok:=(decide_eq_false λz=>q (z.2.2 k _ _ _ _ g1 g4 g2 g3)).symm
  have nx (q:aKI s.bA s.aP[k] s.bI[k] s.bM[k] s.bW[k]):∀ (j:Nat) (st ow:Int) (kn:Bool) (p:bR),j<k+1->s.aP[j]?=some st->s.bI[j]?=some ow->s.bM[j]?=some kn->s.bW[j]?=some p->aKI s.bA st ow kn p:=by
   intro j st ow kn p hj a b c d
   rcases aEE.1 hj with hj|rfl
   ·exact hall j st ow kn p hj a b c d
   ·rw[g1]at a;rw[g4]at b;rw[g2]at c;rw[g3]at d
    obtain rfl:=dY a
    obtain rfl:=dY b
    obtain rfl:=dY c
    obtain rfl:=dY d
    exact q
  cases hkn:s.bM[k]
  all_goals
   rw[hkn]at g2 no nx
   simp -dsimp -implicitDefEqProofs only[go_sem,↓reduceIte,Tryz.f50,g1,g2,g3,g4,bR.aM]
   repeat'(with_reducible first|intro _|refine And.intro ?_ ?_)
   all_goals try omega
  all_goals(first|refine aH.mk (within s.aP[k] 0 50) ?_|refine aE.mk (within s.aP[k] 0 50) ?_)
  all_goals simp -dsimp -implicitDefEqProofs only[go_sem,↓reduceIte,Tryz.f50,g1,g2,g3,g4,bR.aM]
  all_goals repeat'(with_reducible first|intro _|refine And.intro ?_ ?_)
  all_goals try omega
  all_goals try(rename_i q;exact no λz=>q z.1)
  all_goals(first|refine aH.mk (within s.bI[k] (-1) 3) ?_|refine aE.mk (within s.bI[k] (-1) 3) ?_)
  all_goals simp -dsimp -implicitDefEqProofs only[go_sem,↓reduceIte,Tryz.f50,g1,g2,g3,g4,bR.aM]
  all_goals repeat'(with_reducible first|intro _|refine And.intro ?_ ?_)
  all_goals try omega
  all_goals try(rename_i q;exact no λz=>q z.2.1)
  ·have hsp:=(aFF s.bW[k] ⟨0,0,[]⟩).sub (.cons (.refl _) (.cons (Sub.agg (.cons (.refl (I 0)) (.cons (.refl (I 0)) (.cons (Sub.nil 1 false) .nil)))) .nil))
   simp only[bR.aM]at hsp
   first|refine aH.mk (hsp) ?_|refine aE.mk (hsp) ?_|refine aH.b7 (hsp) ?_|refine aE.mk (bX.eA (hsp)) ?_
   simp -dsimp -implicitDefEqProofs only[go_sem,↓reduceIte,Tryz.f50]
   repeat'(with_reducible first|intro _|refine And.intro ?_ ?_)
   ·rename_i q
    exact no λz=>q (bR.eq_iff.2 (z.2.2.2 rfl))
   ·rename_i q
    have:=bR.eq_iff.1 q
    refine⟨k+1,?_⟩
    repeat'(with_reducible refine And.intro ?_ ?_)
    all_goals try(rw[IntWalk.i64_in _ aA];first|rfl|omega)
    all_goals try omega
    all_goals try(repeat'(with_reducible first|exact Heap.le_refl _|refine(aW gH).2 ?_))
    all_goals try(simp only[aI.aM];done)
    exact nx ⟨by assumption,by assumption,λz=>by simp at z,λ_=>this⟩
  ·have hip:=bHJ s.bA s.bW[k]
   simp only[bR.aM,dN.aM]at hip
   first|refine aH.mk (hip) ?_|refine aE.mk (hip) ?_|refine aH.b7 (hip) ?_|refine aE.mk (bX.eA (hip)) ?_
   simp -dsimp -implicitDefEqProofs only[go_sem,↓reduceIte,Tryz.f50,g1,g2,g3,g4,bR.aM]
   repeat'(with_reducible first|intro _|refine And.intro ?_ ?_)
   all_goals try omega
   all_goals try(rename_i q;exact no λz=>q (z.2.2.1 rfl).2)
   all_goals try(rename_i q;exact no λz=>q (z.2.2.1 rfl).1)
   refine⟨k+1,?_⟩
   repeat'(with_reducible refine And.intro ?_ ?_)
   all_goals try(rw[IntWalk.i64_in _ aA];first|rfl|omega)
   all_goals try omega
   all_goals try(repeat'(with_reducible first|exact Heap.le_refl _|refine(aW gH).2 ?_))
   all_goals try(simp only[aI.aM];done)
   exact nx ⟨by assumption,by assumption,λ_=>⟨by assumption,by assumption⟩,λz=>by simp at z⟩
 ·have hk':k=s.bA.aQ.length:=by omega
  subst hk'
  simp -dsimp -implicitDefEqProofs only[go_sem,↓reduceIte,Tryz.f50,fP,cN]
  exact(decide_eq_true ⟨hjob,⟨h1,h2,h3,h4⟩,λj st ow kn p a b c d=>hall j st ow kn p (by have:=(mU.1 a).1;omega) a b c d⟩).symm
theorem sI (l:List Int) (hl:l.length<=1048576):tU Tryz.prog 152 [cI 1 (λn=>[I n]) l] (QS (OS (oP I) 1 l)):=by
 refine x9 8 a98 bGT b9 Tryz.func152 λh=>?_
 simp -dsimp -implicitDefEqProofs only[go_sem,↓reduceIte,Tryz.f152]
 repeat'(with_reducible first|intro _|refine And.intro ?_ ?_)
 all_goals try(first|exact aWZ gB|exact aW0 gB|exact aOR gB|omega)
theorem aXN (l:List Bool) (hl:l.length<=1048576):tU Tryz.prog 153 [cI 1 (λn=>[.bool n]) l] (QS (OS (oP .bool) 1 l)):=by
 refine x9 8 a98 bGT b9 Tryz.func153 λh=>?_
 simp -dsimp -implicitDefEqProofs only[go_sem,↓reduceIte,Tryz.f153]
 repeat'(with_reducible first|intro _|refine And.intro ?_ ?_)
 all_goals try(first|exact aWZ gB|exact aW0 gB|exact aOR gB|omega)
theorem lN (l:List Int) (hl:l.length<=1048576):tU Tryz.prog 114 [cI 1 (λn=>[I n]) l] (QS (OS (oP I) 1 l)):=by
 refine x9 6 aL3 bGU b9 Tryz.func114 λh=>?_
 simp -dsimp -implicitDefEqProofs only[go_sem,↓reduceIte,Tryz.f114]
 repeat'(with_reducible first|intro _|refine And.intro ?_ ?_)
 all_goals try(first|exact aWZ gB|exact aW0 gB|exact aOR gB|omega)
@[go_sem] def bAS:List Nat:=[0,1,2,3,5,9,10,11,12]
@[go_sem] def bQF:List Nat:=[19]
@[go_sem] def bQG:Marks:=λid=>match id with|6=>([1,2,3,5,7],(.op 0 (.op 1 (.op 2 (.op 3 (.op 4 (.op 5 (.op 6 (.op 7 .nil)))))))),[(1,3)])|_=>([],.nil,[])
theorem aRM (x:aB) (hs:x.s<=1048576) (hk:∀ y∈x.aO,tU Tryz.prog 204 [.agg y.c] (QA y.o)):tU Tryz.prog 204 [.agg x.c] (QA x.o):=by
 have hs':=x.fQ
 rw[fF]at hs'
 simp only[aB.aM]
 refine x9 24 bAS bQF bQG Tryz.func204 λh=>?_
 try simp -dsimp -implicitDefEqProofs only[go_sem,↓reduceIte,Tryz.f204,aF,aD]
 intro n1 qn1
 have yC:=qn1
 intro n2 qn2
 obtain⟨aHP,mN,mO,bHM⟩:=cE (show ¬n2=n1 from qn2.1)
 have cB:=qn2.2
 try simp -dsimp -implicitDefEqProofs only[go_sem,↓reduceIte,Tryz.f204,aF,aD,mN,mO]
 try(with_reducible intro _)
 refine cY bAS bQF bQG (λs:Nat×List (List OV)×Heap×Option Nat=>[(1,.op n1 5 0 0),(2,.op n2 5 0 0),(9,cI 5 aB.c x.aO),(10,I x.aO.length),(11,(I s.1))]) (λs=>(bT (bT (c7 s.2.2.1 (.row 5 (OV.cells s.2.1)) s.2.2.2) n1 (.row 5 [[.v (I x.bH),.v (I x.cC),.v (I x.dO),.v (I x.dF),.v (jV 5 s.2.1.length s.2.2.2)]])) n2 (.row 5 [[.v (.int .i64 0),.v (.int .i64 0),.v (.int .i64 0),.v (.int .i64 0),.v (.aV)]]))) (λs=>s.1<=x.aO.length/\OR aB.o (x.aO.take s.1) s.2.1/\eW h (OV.cW s.2.1) s.2.2.1/\s.2.2.1 n1=none/\s.2.2.1 n2=none/\wU s.2.2.1 s.2.1 s.2.2.2/\∀ n:Nat,s.2.2.2=some n->n≠n1/\n≠n2) (λs=>x.aO.length-s.1) (0,[],h,none) ?_ ?_
 ·exact⟨by simp[dT,dB],lE,iZ _,trivial,eW.nil _,yC,cB,rfl,by simp⟩
 rintro⟨k,es,g_,o_⟩ ⟨hkk,hor,hnew,yC,cB,hos,hon⟩
 simp only at hkk hor hnew yC cB hos hon ⊢
 have hlen:es.length=k:=by have:=hor.length;simp at this;omega
 rcases cP k x.aO.length with hlt|hge
 ·have ea:x.aO[k]?=some x.aO[k]:=b6 hlt
  have hx:=hk x.aO[k] (dG hlt)
  simp only[aB.aM]at hx
  cases o_ with
  |none =>
   rw[jP]at hos
   subst hos
   try simp -dsimp -implicitDefEqProofs only[go_sem,↓reduceIte,Tryz.f204,aF,aD,mN,mO,ea,hlt,aN,bJ,aB.aM]
   intro n5 qn5
   obtain⟨oT,dW,dX,aHQ⟩:=cE (show ¬n5=n2 from qn5.1)
   obtain⟨a48,aHR,aHS,bS9⟩:=cE (show ¬n5=n1 from qn5.2.1)
   have kB:=qn5.2.2
   try simp -dsimp -implicitDefEqProofs only[go_sem,↓reduceIte,Tryz.f204,aF,aD,mN,mO,dW,dX,aHR,aHS,ea,hlt,aN,bJ,aB.aM]
   refine aH.wn3 (hx) yC ⟨aHP,cB⟩ ⟨oT,a48,kB⟩ ?_
   rintro r l_ gb ⟨e_b,oeb,rfl,rfl⟩ wb yC cB kB
   have oob:=oeb
   rw[aB.xU]at oob
   obtain⟨zH,rfl,kC⟩:=oob
   try simp -dsimp -implicitDefEqProofs only[go_sem,↓reduceIte,Tryz.f204,aF,aD,mN,mO,dW,dX,aHR,aHS,ea,hlt,aN,bJ,kC.flat,kC.one,OV.aR,OV.aG,OV.bE]
   repeat'(with_reducible first|refine And.intro eP ?_)
   intro m qm
   obtain⟨bHN,aRN,aRO,bHO⟩:=cE (show ¬m=n5 from qm.1)
   obtain⟨oD,oE,oF,aBY⟩:=cE (show ¬m=n2 from qm.2.1)
   obtain⟨aRP,aRQ,aRR,bHP⟩:=cE (show ¬m=n1 from qm.2.2.1)
   have z_m:=qm.2.2.2
   try simp -dsimp -implicitDefEqProofs only[go_sem,↓reduceIte,Tryz.f204,aF,aD,mN,mO,dW,dX,aHR,aHS,aRN,aRO,oE,oF,aRQ,aRR,ea,hlt,aN,bJ,kC.flat,kC.one,OV.aR,OV.aG,OV.bE]
   refine⟨(k+1,([]:List (List OV))++[[.v (.int .i64 x.aO[k].bH),.v (.int .i64 x.aO[k].cC),.v (.int .i64 x.aO[k].dO),.v (.int .i64 x.aO[k].dF),zH]],gb,some m),?_⟩
   simp only
   refine⟨?_,lE,⟨by omega,OR.snoc hor hlt oeb,hnew.snoc wb,yC,cB,z_m,(λn_ e_=>by obtain rfl:=dY e_;exact⟨aRP,oD⟩)⟩,by omega⟩
   all_goals(repeat'(with_reducible refine And.intro ?_ ?_))
   all_goals first|rfl|trivial|(rw[IntWalk.i64_in _ aA];omega)
  |some n =>
   rw[kM]at hos
   have z_n:=hos
   have hn:=hon n rfl
   obtain⟨bZP,aNZ,aN0,bHQ⟩:=cE (show ¬n=n1 from hn.1)
   obtain⟨aVE,nE,nF,aBZ⟩:=cE (show ¬n=n2 from hn.2)
   try simp -dsimp -implicitDefEqProofs only[go_sem,↓reduceIte,Tryz.f204,aF,aD,mN,mO,aNZ,aN0,nE,nF,ea,hlt,aL,aY,aB.aM]
   intro n5 qn5
   obtain⟨oT,dW,dX,aHQ⟩:=cE (show ¬n5=n2 from qn5.1)
   obtain⟨a48,aHR,aHS,bS9⟩:=cE (show ¬n5=n1 from qn5.2.1)
   obtain⟨bHR,aRS,aRT,bZQ⟩:=cE (show ¬n5=n from qn5.2.2.1)
   have kB:=qn5.2.2.2
   try simp -dsimp -implicitDefEqProofs only[go_sem,↓reduceIte,Tryz.f204,aF,aD,mN,mO,aNZ,aN0,nE,nF,dW,dX,aHR,aHS,aRS,aRT,ea,hlt,aL,aY,aB.aM]
   refine aH.wn4 (hx) z_n ⟨bHQ,yC⟩ ⟨aHP,aBZ,cB⟩ ⟨oT,a48,bHR,kB⟩ ?_
   rintro r l_ gb ⟨e_b,oeb,rfl,rfl⟩ wb z_n yC cB kB
   have oob:=oeb
   rw[aB.xU]at oob
   obtain⟨zH,rfl,kC⟩:=oob
   try simp -dsimp -implicitDefEqProofs only[go_sem,↓reduceIte,Tryz.f204,aF,aD,mN,mO,aNZ,aN0,nE,nF,dW,dX,aHR,aHS,aRS,aRT,ea,hlt,aL,aY,kC.flat,kC.one,OV.aR,OV.aG,OV.bE]
   repeat'(with_reducible first|refine And.intro eP ?_)
   intro m qm
   obtain⟨bHN,aRN,aRO,bHO⟩:=cE (show ¬m=n5 from qm.1)
   obtain⟨oD,oE,oF,aBY⟩:=cE (show ¬m=n2 from qm.2.1)
   obtain⟨aRP,aRQ,aRR,bHP⟩:=cE (show ¬m=n1 from qm.2.2.1)
   obtain⟨bDP,aL5,aL6,bDQ⟩:=cE (show ¬m=n from qm.2.2.2.1)
   have z_m:=qm.2.2.2.2
   try simp -dsimp -implicitDefEqProofs only[go_sem,↓reduceIte,Tryz.f204,aF,aD,mN,mO,aNZ,aN0,nE,nF,dW,dX,aHR,aHS,aRS,aRT,aRN,aRO,oE,oF,aRQ,aRR,aL5,aL6,ea,hlt,aL,aY,kC.flat,kC.one,OV.aR,OV.aG,OV.bE]
   refine⟨(k+1,es++[[.v (.int .i64 x.aO[k].bH),.v (.int .i64 x.aO[k].cC),.v (.int .i64 x.aO[k].dO),.v (.int .i64 x.aO[k].dF),zH]],gb,some m),?_⟩
   simp only
   refine⟨?_,lE,⟨by omega,OR.snoc hor hlt oeb,hnew.snoc wb,yC,cB,z_m,(λn_ e_=>by obtain rfl:=dY e_;exact⟨aRP,oD⟩)⟩,by omega⟩
   all_goals(repeat'(with_reducible refine And.intro ?_ ?_))
   all_goals first|rfl|trivial|(rw[IntWalk.i64_in _ aA];omega)
 ·have hk2:k=x.aO.length:=by omega
  subst hk2
  rw[eL]at hor
  have bZR:c7 g_ (.row 5 (OV.cells es)) o_ n1=none:=eZ yC λn_ e_=>(hon n_ e_).1
  have aVF:c7 g_ (.row 5 (OV.cells es)) o_ n2=none:=eZ cB λn_ e_=>(hon n_ e_).2
  try simp -dsimp -implicitDefEqProofs only[go_sem,↓reduceIte,Tryz.f204,aF,aD,mN,mO,fR,iN,cN]
  try(with_reducible intro _)
  refine⟨_,(c7 g_ (.row 5 (OV.cells es)) o_),_,Shift.of (Sub.agg (bQ.cons (Sub.refl _) (bQ.cons (Sub.refl _) (bQ.cons (Sub.refl _) (bQ.cons (Sub.refl _) (bQ.cons wL bQ.nil)))))) lE,⟨[.v (I x.bH),.v (I x.cC),.v (I x.dO),.v (I x.dF),(gov 5 es o_)],?_,rfl,rfl⟩,?_⟩
  ·rw[aB.xU];exact⟨(gov 5 es o_),rfl,wC hor hos⟩
  ·have hq:=(q9 (sz:=5) hnew hos)
   simpa only[OV.gG,OV.j9,OV.rN,al0,wP,qT]using hq
theorem aL7 (x:aB) (hs:x.s<=1048576):tU Tryz.prog 204 [.agg x.c] (QA x.o) :=
 aRM x hs λy hy=>aL7 y bO9
termination_by SizeOf.sizeOf x
decreasing_by exact aB.u6 hy
@[go_sem] def bAT:List Nat:=[0,2,3,4,28]
@[go_sem] def bQH:List Nat:=[40]
@[go_sem] def bQI:Marks:=λid=>match id with|1=>([17,18],(.op 0 (.op 1 (.op 2 (.op 3 (.op 4 (.op 5 (.op 6 (.op 7 (.op 8 (.op 9 (.op 10 (.op 11 (.op 12 (.op 13 (.op 14 (.op 15 (.op 16 (.op 17 (.op 18 .nil))))))))))))))))))),[])|5=>([1,8,10,12],(.op 0 (.op 2 (.op 3 (.op 4 (.op 5 (.op 6 (.op 7 (.op 1 (.op 8 (.op 9 (.op 10 (.op 11 (.op 12 .nil))))))))))))),[(1,8)])|_=>([],.nil,[])
theorem a15 (x:aB) (hs:x.s<=1048576) (hk:∀ y∈x.aO,tU Tryz.prog 195 [.ip 5 [y.c] 0 0] (QA y.o)):tU Tryz.prog 195 [.ip 5 [x.c] 0 0] (QA x.o):=by
 have hs':=x.fQ
 rw[fF]at hs'
 simp only[aB.aM]
 refine x9 44 bAT bQH bQI Tryz.func195 λh=>?_
 try simp -dsimp -implicitDefEqProofs only[go_sem,↓reduceIte,Tryz.f195,aF,aD]
 intro n1 qn1
 have yC:=qn1
 intro n2 qn2
 obtain⟨aHP,mN,mO,bHM⟩:=cE (show ¬n2=n1 from qn2.1)
 have cB:=qn2.2
 try simp -dsimp -implicitDefEqProofs only[go_sem,↓reduceIte,Tryz.f195,aF,aD,mN,mO]
 try(with_reducible intro _)
 refine cY bAT bQH bQI (λs:Nat×List (List OV)×Heap×Option Nat=>[(0,.ip 5 [[I x.bH,I x.cC,I x.dO,I x.dF,cI 5 aB.c x.aO]] 0 0),(2,.op n1 5 0 0),(3,.op n2 5 0 0),(4,(I s.1))]) (λs=>(bT (bT (c7 s.2.2.1 (.row 5 (OV.cells s.2.1)) s.2.2.2) n1 (.row 5 [[.v (.int .i64 0),.v (.int .i64 0),.v (.int .i64 0),.v (.int .i64 0),.v (.aV)]])) n2 (.row 5 [[.v (I x.bH),.v (I x.cC),.v (I x.dO),.v (I x.dF),.v (jV 5 s.2.1.length s.2.2.2)]]))) (λs=>s.1<=x.aO.length/\OR aB.o (x.aO.take s.1) s.2.1/\eW h (OV.cW s.2.1) s.2.2.1/\s.2.2.1 n1=none/\s.2.2.1 n2=none/\wU s.2.2.1 s.2.1 s.2.2.2/\∀ n:Nat,s.2.2.2=some n->n≠n1/\n≠n2) (λs=>x.aO.length-s.1) (0,[],h,none) ?_ ?_
 ·exact⟨by simp[dT,dB],lE,iZ _,trivial,eW.nil _,yC,cB,rfl,by simp⟩
 rintro⟨k,es,g_,o_⟩ ⟨hkk,hor,hnew,yC,cB,hos,hon⟩
 simp only at hkk hor hnew yC cB hos hon ⊢
 have hlen:es.length=k:=by have:=hor.length;simp at this;omega
 rcases cP k x.aO.length with hlt|hge
 ·have ea:x.aO[k]?=some x.aO[k]:=b6 hlt
  have hx:=hk x.aO[k] (dG hlt)
  cases o_ with
  |none =>
   rw[jP]at hos
   subst hos
   try simp -dsimp -implicitDefEqProofs only[go_sem,↓reduceIte,Tryz.f195,aF,aD,mN,mO,ea,hlt,aN,bJ,aB.aM]
   try(with_reducible intro _)
   refine aH.oX (tU.sub (by repeat'(first|exact bQ.nil|refine bQ.cons ?_ ?_|exact Sub.refl _|(rw[aB.aM];exact Sub.refl _)|exact Sub.cK rfl rfl rfl|exact Sub.ip (bF aA) aS|exact Sub.cK (bF aA) rfl rfl|exact Sub.ip bU aS|exact Sub.cK bU bS bS)) hx) yC ⟨aHP,cB⟩ ?_
   rintro r l_ gb ⟨e_b,oeb,rfl,rfl⟩ wb yC cB
   have oob:=oeb
   rw[aB.xU]at oob
   obtain⟨zH,rfl,kC⟩:=oob
   try simp -dsimp -implicitDefEqProofs only[go_sem,↓reduceIte,Tryz.f195,aF,aD,mN,mO,ea,hlt,aN,bJ,kC.flat,kC.one,OV.aR,OV.aG,OV.bE]
   repeat'(with_reducible first|refine And.intro eP ?_)
   intro m qm
   obtain⟨oD,oE,oF,aBY⟩:=cE (show ¬m=n2 from qm.1)
   obtain⟨aRP,aRQ,aRR,bHP⟩:=cE (show ¬m=n1 from qm.2.1)
   have z_m:=qm.2.2
   try simp -dsimp -implicitDefEqProofs only[go_sem,↓reduceIte,Tryz.f195,aF,aD,mN,mO,oE,oF,aRQ,aRR,ea,hlt,aN,bJ,kC.flat,kC.one,OV.aR,OV.aG,OV.bE]
   refine⟨(k+1,([]:List (List OV))++[[.v (.int .i64 x.aO[k].bH),.v (.int .i64 x.aO[k].cC),.v (.int .i64 x.aO[k].dO),.v (.int .i64 x.aO[k].dF),zH]],gb,some m),?_⟩
   simp only
   refine⟨?_,lE,⟨by omega,OR.snoc hor hlt oeb,hnew.snoc wb,yC,cB,z_m,(λn_ e_=>by obtain rfl:=dY e_;exact⟨aRP,oD⟩)⟩,by omega⟩
   all_goals(repeat'(with_reducible refine And.intro ?_ ?_))
   all_goals first|rfl|trivial|(rw[IntWalk.i64_in _ aA];omega)
  |some n =>
   rw[kM]at hos
   have z_n:=hos
   have hn:=hon n rfl
   obtain⟨bZP,aNZ,aN0,bHQ⟩:=cE (show ¬n=n1 from hn.1)
   obtain⟨aVE,nE,nF,aBZ⟩:=cE (show ¬n=n2 from hn.2)
   try simp -dsimp -implicitDefEqProofs only[go_sem,↓reduceIte,Tryz.f195,aF,aD,mN,mO,aNZ,aN0,nE,nF,ea,hlt,aL,aY,aB.aM]
   try(with_reducible intro _)
   refine aH.wn3 (tU.sub (by repeat'(first|exact bQ.nil|refine bQ.cons ?_ ?_|exact Sub.refl _|(rw[aB.aM];exact Sub.refl _)|exact Sub.cK rfl rfl rfl|exact Sub.ip (bF aA) aS|exact Sub.cK (bF aA) rfl rfl|exact Sub.ip bU aS|exact Sub.cK bU bS bS)) hx) z_n ⟨bHQ,yC⟩ ⟨aHP,aBZ,cB⟩ ?_
   rintro r l_ gb ⟨e_b,oeb,rfl,rfl⟩ wb z_n yC cB
   have oob:=oeb
   rw[aB.xU]at oob
   obtain⟨zH,rfl,kC⟩:=oob
   try simp -dsimp -implicitDefEqProofs only[go_sem,↓reduceIte,Tryz.f195,aF,aD,mN,mO,aNZ,aN0,nE,nF,ea,hlt,aL,aY,kC.flat,kC.one,OV.aR,OV.aG,OV.bE]
   repeat'(with_reducible first|refine And.intro eP ?_)
   intro m qm
   obtain⟨oD,oE,oF,aBY⟩:=cE (show ¬m=n2 from qm.1)
   obtain⟨aRP,aRQ,aRR,bHP⟩:=cE (show ¬m=n1 from qm.2.1)
   obtain⟨bDP,aL5,aL6,bDQ⟩:=cE (show ¬m=n from qm.2.2.1)
   have z_m:=qm.2.2.2
   try simp -dsimp -implicitDefEqProofs only[go_sem,↓reduceIte,Tryz.f195,aF,aD,mN,mO,aNZ,aN0,nE,nF,oE,oF,aRQ,aRR,aL5,aL6,ea,hlt,aL,aY,kC.flat,kC.one,OV.aR,OV.aG,OV.bE]
   refine⟨(k+1,es++[[.v (.int .i64 x.aO[k].bH),.v (.int .i64 x.aO[k].cC),.v (.int .i64 x.aO[k].dO),.v (.int .i64 x.aO[k].dF),zH]],gb,some m),?_⟩
   simp only
   refine⟨?_,lE,⟨by omega,OR.snoc hor hlt oeb,hnew.snoc wb,yC,cB,z_m,(λn_ e_=>by obtain rfl:=dY e_;exact⟨aRP,oD⟩)⟩,by omega⟩
   all_goals(repeat'(with_reducible refine And.intro ?_ ?_))
   all_goals first|rfl|trivial|(rw[IntWalk.i64_in _ aA];omega)
 ·have hk2:k=x.aO.length:=by omega
  subst hk2
  rw[eL]at hor
  have bZR:c7 g_ (.row 5 (OV.cells es)) o_ n1=none:=eZ yC λn_ e_=>(hon n_ e_).1
  have aVF:c7 g_ (.row 5 (OV.cells es)) o_ n2=none:=eZ cB λn_ e_=>(hon n_ e_).2
  try simp -dsimp -implicitDefEqProofs only[go_sem,↓reduceIte,Tryz.f195,aF,aD,mN,mO,fR,iN,cN]
  try(with_reducible intro _)
  refine⟨_,(c7 g_ (.row 5 (OV.cells es)) o_),_,Shift.of (Sub.agg (bQ.cons (Sub.refl _) (bQ.cons (Sub.refl _) (bQ.cons (Sub.refl _) (bQ.cons (Sub.refl _) (bQ.cons wL bQ.nil)))))) lE,⟨[.v (I x.bH),.v (I x.cC),.v (I x.dO),.v (I x.dF),(gov 5 es o_)],?_,rfl,rfl⟩,?_⟩
  ·rw[aB.xU];exact⟨(gov 5 es o_),rfl,wC hor hos⟩
  ·have hq:=(q9 (sz:=5) hnew hos)
   simpa only[OV.gG,OV.j9,OV.rN,al0,wP,qT]using hq
theorem a5A (x:aB) (hs:x.s<=1048576):tU Tryz.prog 195 [.ip 5 [x.c] 0 0] (QA x.o) :=
 a15 x hs λy hy=>a5A y bO9
termination_by SizeOf.sizeOf x
decreasing_by exact aB.u6 hy
set_option maxHeartbeats 1000000 in
theorem aVG (x:bR) (hs:x.s<=1048576):tU Tryz.prog 154 [.agg x.c] (QA x.o):=by
 have hs':=x.fQ
 try simp only[fF]at hs'
 simp only[bR.aM]
 refine x9 8 bGV cG b9 Tryz.func154 λh=>?_
 try simp -dsimp -implicitDefEqProofs only[go_sem,↓reduceIte,Tryz.f154,aF,aD]
 intro n1 qn1
 have yC:=qn1
 intro n2 qn2
 obtain⟨aHP,mN,mO,bHM⟩:=cE (show ¬n2=n1 from qn2.1)
 have cB:=qn2.2
 try simp -dsimp -implicitDefEqProofs only[go_sem,↓reduceIte,Tryz.f154,aF,aD,mN,mO]
 refine aH.oX (sI x.iQ aA) yC ⟨aHP,cB⟩ ?_
 rintro r l_ gb ⟨bHS,a5B,rfl,rfl⟩ wb yC cB
 try simp -dsimp -implicitDefEqProofs only[go_sem,↓reduceIte,Tryz.f154,aF,aD,mN,mO,a5B.flat,a5B.one,OV.aR,OV.aG,OV.bE]
 try(with_reducible intro _)
 repeat'(with_reducible first|refine And.intro eP ?_)
 refine⟨_,gb,_,Shift.of (Sub.agg (bQ.refl _)) lE,⟨[.v (I x.cX),.v (I x.jA),bHS],?_,rfl,rfl⟩,?_⟩
 ·exact⟨bHS,rfl,a5B⟩
 ·have hq:=wb
  simpa only[OV.gG,OV.j9,OV.rN,al0,wP,qT]using hq
@[go_sem] def bZS:Marks:=λid=>match id with|1=>([6,8],(.op 0 (.op 1 (.op 2 (.op 3 (.op 4 (.op 5 (.op 6 (.op 7 (.op 8 .nil))))))))),[])|_=>([],.nil,[])
set_option maxHeartbeats 1000000 in
theorem aHT (x:bR) (hs:x.s<=1048576):tU Tryz.prog 115 [.agg x.c] (QA x.o):=by
 have hs':=x.fQ
 try simp only[fF]at hs'
 simp only[bR.aM]
 refine x9 11 bGV wE bZS Tryz.func115 λh=>?_
 try simp -dsimp -implicitDefEqProofs only[go_sem,↓reduceIte,Tryz.f115,aF,aD]
 intro n2 qn2
 have cB:=qn2
 try simp -dsimp -implicitDefEqProofs only[go_sem,↓reduceIte,Tryz.f115,aF,aD]
 refine aH.wn1 (lN x.iQ aA) cB ?_
 rintro r l_ gb ⟨bHS,a5B,rfl,rfl⟩ wb cB
 try simp -dsimp -implicitDefEqProofs only[go_sem,↓reduceIte,Tryz.f115,aF,aD,a5B.flat,a5B.one,OV.aR,OV.aG,OV.bE]
 try(with_reducible intro _)
 repeat'(with_reducible first|refine And.intro eP ?_)
 refine⟨_,gb,_,Shift.of (Sub.agg (bQ.refl _)) lE,⟨[.v (I x.cX),.v (I x.jA),bHS],?_,rfl,rfl⟩,?_⟩
 ·exact⟨bHS,rfl,a5B⟩
 ·have hq:=wb
  simpa only[OV.gG,OV.j9,OV.rN,al0,wP,qT]using hq
@[go_sem] def aO1:List Nat:=[0,1,2,3,5,6,8,11,12,13,14,23,24,25,26]
@[go_sem] def bAU:List Nat:=[1,33,40]
@[go_sem] def bAV:Marks:=λid=>match id with|9=>([1,2,3,5,7],(.op 0 (.op 1 (.op 2 (.op 3 (.op 4 (.op 5 (.op 6 (.op 7 .nil)))))))),[(1,3)])|_=>([],.nil,[])
set_option maxHeartbeats 1000000 in
theorem aKJ (x:aK) (hs:x.s<=1048576):tU Tryz.prog 171 [.agg x.c] (QA x.o):=by
 have hs':=x.fQ
 try simp only[fF]at hs'
 simp only[aK.aM]
 refine x9 45 aO1 bAU bAV Tryz.func171 λh=>?_
 try simp -dsimp -implicitDefEqProofs only[go_sem,↓reduceIte,Tryz.f171,aF,aD]
 intro n2 qn2
 have cB:=qn2
 try simp -dsimp -implicitDefEqProofs only[go_sem,↓reduceIte,Tryz.f171,aF,aD]
 intro n3 sJ
 obtain⟨dP,bC,bD,nQ⟩:=cE (show ¬n3=n2 from sJ.1)
 have cU:=sJ.2
 try simp -dsimp -implicitDefEqProofs only[go_sem,↓reduceIte,Tryz.f171,aF,aD,bC,bD]
 try(with_reducible intro _)
 refine a4V aO1 bAU bAV (λs:Nat×List (List OV)×Heap×Option Nat=>[(2,.op n2 1 0 0),(3,.op n3 1 0 0),(11,cI 3 aX.c x.aJ),(12,I x.aJ.length),(13,(I s.1))]) (λs=>(bT (bT (c7 s.2.2.1 (.row 3 (OV.cells s.2.1)) s.2.2.2) n2 (.row 1 [[.v .aV]])) n3 (.row 1 [[.v (jV 3 s.2.1.length s.2.2.2)]]))) (λs=>s.1<=x.aJ.length/\OR aX.o (x.aJ.take s.1) s.2.1/\eW h (OV.cW s.2.1) s.2.2.1/\s.2.2.1 n2=none/\s.2.2.1 n3=none/\wU s.2.2.1 s.2.1 s.2.2.2/\∀ n:Nat,s.2.2.2=some n->n≠n2/\n≠n3) (λs=>x.aJ.length-s.1) (0,[],h,none) ?_ ?_
 ·exact⟨by simp[dT,dB],Heap.iO lE,iZ _,trivial,eW.nil _,cB,cU,rfl,by simp⟩
 rintro⟨ka,esa,ga_,oa_⟩ ⟨hkka,hora,hnewa,cB,cU,hosa,hona⟩
 simp only at hkka hora hnewa cB cU hosa hona ⊢
 have hlena:esa.length=ka:=by have:=hora.length;simp at this;omega
 rcases cP ka x.aJ.length with hlta|hgea
 ·have eaa:x.aJ[ka]?=some x.aJ[ka]:=b6 hlta
  have hf:=k6 aX.s (dG hlta)
  have hf2:=(x.aJ[ka]).fQ
  simp only[fF]at hf2
  cases oa_ with
  |none =>
   rw[jP]at hosa
   subst hosa
   try simp -dsimp -implicitDefEqProofs only[go_sem,↓reduceIte,Tryz.f171,aF,aD,bC,bD,eaa,hlta,aN,bJ,aX.aM]
   intro n5 qn5
   obtain⟨sK,eX,eY,aRU⟩:=cE (show ¬n5=n3 from qn5.1)
   obtain⟨oT,dW,dX,aHQ⟩:=cE (show ¬n5=n2 from qn5.2.1)
   have kB:=qn5.2.2
   try simp -dsimp -implicitDefEqProofs only[go_sem,↓reduceIte,Tryz.f171,aF,aD,bC,bD,eX,eY,dW,dX,eaa,hlta,aN,bJ,aX.aM]
   intro n6 qn6
   obtain⟨aRV,lZ,l5,bTA⟩:=cE (show ¬n6=n5 from qn6.1)
   obtain⟨aRW,l6,l7,bTB⟩:=cE (show ¬n6=n3 from qn6.2.1)
   obtain⟨aRX,l8,l9,bTC⟩:=cE (show ¬n6=n2 from qn6.2.2.1)
   have p5:=qn6.2.2.2
   try simp -dsimp -implicitDefEqProofs only[go_sem,↓reduceIte,Tryz.f171,aF,aD,bC,bD,eX,eY,dW,dX,lZ,l5,l6,l7,l8,l9,eaa,hlta,aN,bJ,aX.aM]
   try(with_reducible intro _)
   refine cY aO1 bAU bAV (λs:Nat×List (List OV)×Heap×Option Nat=>[(2,.op n2 1 0 0),(3,.op n3 1 0 0),(11,cI 3 aX.c x.aJ),(12,I x.aJ.length),(13,(I ka)),(5,.op n5 3 0 0),(6,.op n6 3 0 0),(23,cI 5 aB.c x.aJ[ka].bB),(24,I x.aJ[ka].bB.length),(25,(I s.1))]) (λs=>(bT (bT (bT (bT (c7 s.2.2.1 (.row 5 (OV.cells s.2.1)) s.2.2.2) n2 (.row 1 [[.v .aV]])) n3 (.row 1 [[.v (.aV)]])) n5 (.row 3 [[.v (.str x.aJ[ka].fT),.v (I x.aJ[ka].bV),.v (cI 5 aB.c x.aJ[ka].bB)]])) n6 (.row 3 [[.v (.str x.aJ[ka].fT),.v (I x.aJ[ka].bV),.v (jV 5 s.2.1.length s.2.2.2)]]))) (λs=>s.1<=x.aJ[ka].bB.length/\OR aB.o (x.aJ[ka].bB.take s.1) s.2.1/\eW ga_ (OV.cW s.2.1) s.2.2.1/\s.2.2.1 n2=none/\s.2.2.1 n3=none/\s.2.2.1 n5=none/\s.2.2.1 n6=none/\wU s.2.2.1 s.2.1 s.2.2.2/\∀ n:Nat,s.2.2.2=some n->n≠n2/\n≠n3/\n≠n5/\n≠n6) (λs=>x.aJ[ka].bB.length-s.1) (0,[],ga_,none) ?_ ?_
   ·exact⟨by simp[dT,dB],lE,iZ _,trivial,eW.nil _,cB,cU,kB,p5,rfl,by simp⟩
   rintro⟨ki,esi,gi_,wR⟩ ⟨hkki,hori,hnewi,cB,cU,kB,p5,hosi,honi⟩
   simp only at hkki hori hnewi cB cU kB p5 hosi honi ⊢
   have hleni:esi.length=ki:=by have:=hori.length;simp at this;omega
   rcases cP ki x.aJ[ka].bB.length with hlti|hgei
   ·have eai:x.aJ[ka].bB[ki]?=some x.aJ[ka].bB[ki]:=b6 hlti
    have hxi:=aL7 (x.aJ[ka].bB[ki]) a84
    simp only[aB.aM]at hxi
    cases wR with
    |none =>
     rw[jP]at hosi
     subst hosi
     try simp -dsimp -implicitDefEqProofs only[go_sem,↓reduceIte,Tryz.f171,aF,aD,bC,bD,eX,eY,dW,dX,lZ,l5,l6,l7,l8,l9,eaa,hlta,aN,bJ,eai,hlti,aN,bJ,aB.aM,aX.aM]
     intro n8 qn8
     obtain⟨aHU,sM,sN,a5D⟩:=cE (show ¬n8=n6 from qn8.1)
     obtain⟨aHV,sO,sP,a5E⟩:=cE (show ¬n8=n5 from qn8.2.1)
     obtain⟨aHW,sQ,sR,a5F⟩:=cE (show ¬n8=n3 from qn8.2.2.1)
     obtain⟨aHX,sS,sT,a5G⟩:=cE (show ¬n8=n2 from qn8.2.2.2.1)
     have aRY:=qn8.2.2.2.2
     try simp -dsimp -implicitDefEqProofs only[go_sem,↓reduceIte,Tryz.f171,aF,aD,bC,bD,eX,eY,dW,dX,lZ,l5,l6,l7,l8,l9,sM,sN,sO,sP,sQ,sR,sS,sT,eaa,hlta,aN,bJ,eai,hlti,aN,bJ,aB.aM,aX.aM]
     refine aH.wn5 (hxi) cB ⟨dP,cU⟩ ⟨sK,oT,kB⟩ ⟨aRV,aRW,aRX,p5⟩ ⟨aHU,aHV,aHW,aHX,aRY⟩ ?_
     rintro r l_ gb ⟨e_b,oeb,rfl,rfl⟩ wb cB cU kB p5 aRY
     have oob:=oeb
     rw[aB.xU]at oob
     obtain⟨zH,rfl,kC⟩:=oob
     try simp -dsimp -implicitDefEqProofs only[go_sem,↓reduceIte,Tryz.f171,aF,aD,bC,bD,eX,eY,dW,dX,lZ,l5,l6,l7,l8,l9,sM,sN,sO,sP,sQ,sR,sS,sT,eaa,hlta,aN,bJ,eai,hlti,aN,bJ,kC.flat,kC.one,OV.aR,OV.aG,OV.bE,aB.aM,aX.aM]
     repeat'(with_reducible first|refine And.intro eP ?_)
     intro mi qmi
     obtain⟨a5H,aHY,aHZ,a5I⟩:=cE (show ¬mi=n8 from qmi.1)
     obtain⟨aH0,aH1,aH2,a5J⟩:=cE (show ¬mi=n6 from qmi.2.1)
     obtain⟨sU,sV,sW,aH3⟩:=cE (show ¬mi=n5 from qmi.2.2.1)
     obtain⟨sX,sY,sZ,aH4⟩:=cE (show ¬mi=n3 from qmi.2.2.2.1)
     obtain⟨s0,s4,s5,aH5⟩:=cE (show ¬mi=n2 from qmi.2.2.2.2.1)
     have aH6:=qmi.2.2.2.2.2
     try simp -dsimp -implicitDefEqProofs only[go_sem,↓reduceIte,Tryz.f171,aF,aD,bC,bD,eX,eY,dW,dX,lZ,l5,l6,l7,l8,l9,sM,sN,sO,sP,sQ,sR,sS,sT,aHY,aHZ,aH1,aH2,sV,sW,sY,sZ,s4,s5,eaa,hlta,aN,bJ,eai,hlti,aN,bJ,kC.flat,kC.one,OV.aR,OV.aG,OV.bE]
     refine⟨(ki+1,([]:List (List OV))++[[.v (.int .i64 x.aJ[ka].bB[ki].bH),.v (.int .i64 x.aJ[ka].bB[ki].cC),.v (.int .i64 x.aJ[ka].bB[ki].dO),.v (.int .i64 x.aJ[ka].bB[ki].dF),zH]],gb,some mi),?_⟩
     simp only
     refine⟨?_,lE,⟨by omega,OR.snoc hori hlti oeb,hnewi.snoc wb,cB,cU,kB,p5,aH6,(λn_ e_=>by obtain rfl:=dY e_;exact⟨s0,sX,sU,aH0⟩)⟩,by omega⟩
     all_goals(repeat'(with_reducible refine And.intro ?_ ?_))
     all_goals first|rfl|trivial|(rw[IntWalk.i64_in _ aA];omega)
    |some ni =>
     rw[kM]at hosi
     have aRZ:=hosi
     have hni:=honi ni rfl
     obtain⟨a5K,qH,qI,aH7⟩:=cE (show ¬ni=n2 from hni.1)
     obtain⟨a5L,qJ,qK,aH8⟩:=cE (show ¬ni=n3 from hni.2.1)
     obtain⟨a5M,qL,qM,aH9⟩:=cE (show ¬ni=n5 from hni.2.2.1)
     obtain⟨bTD,aDF,aDG,a5N⟩:=cE (show ¬ni=n6 from hni.2.2.2)
     try simp -dsimp -implicitDefEqProofs only[go_sem,↓reduceIte,Tryz.f171,aF,aD,bC,bD,eX,eY,dW,dX,lZ,l5,l6,l7,l8,l9,qH,qI,qJ,qK,qL,qM,aDF,aDG,eaa,hlta,aN,bJ,eai,hlti,aL,aY,aB.aM,aX.aM]
     intro n8 qn8
     obtain⟨aHU,sM,sN,a5D⟩:=cE (show ¬n8=n6 from qn8.1)
     obtain⟨aHV,sO,sP,a5E⟩:=cE (show ¬n8=n5 from qn8.2.1)
     obtain⟨aHW,sQ,sR,a5F⟩:=cE (show ¬n8=n3 from qn8.2.2.1)
     obtain⟨aHX,sS,sT,a5G⟩:=cE (show ¬n8=n2 from qn8.2.2.2.1)
     obtain⟨a5O,aIA,aIB,bTE⟩:=cE (show ¬n8=ni from qn8.2.2.2.2.1)
     have aRY:=qn8.2.2.2.2.2
     try simp -dsimp -implicitDefEqProofs only[go_sem,↓reduceIte,Tryz.f171,aF,aD,bC,bD,eX,eY,dW,dX,lZ,l5,l6,l7,l8,l9,qH,qI,qJ,qK,qL,qM,aDF,aDG,sM,sN,sO,sP,sQ,sR,sS,sT,aIA,aIB,eaa,hlta,aN,bJ,eai,hlti,aL,aY,aB.aM,aX.aM]
     refine aH.wn6 (hxi) aRZ ⟨aH7,cB⟩ ⟨dP,aH8,cU⟩ ⟨sK,oT,aH9,kB⟩ ⟨aRV,aRW,aRX,a5N,p5⟩ ⟨aHU,aHV,aHW,aHX,a5O,aRY⟩ ?_
     rintro r l_ gb ⟨e_b,oeb,rfl,rfl⟩ wb aRZ cB cU kB p5 aRY
     have oob:=oeb
     rw[aB.xU]at oob
     obtain⟨zH,rfl,kC⟩:=oob
     try simp -dsimp -implicitDefEqProofs only[go_sem,↓reduceIte,Tryz.f171,aF,aD,bC,bD,eX,eY,dW,dX,lZ,l5,l6,l7,l8,l9,qH,qI,qJ,qK,qL,qM,aDF,aDG,sM,sN,sO,sP,sQ,sR,sS,sT,aIA,aIB,eaa,hlta,aN,bJ,eai,hlti,aL,aY,kC.flat,kC.one,OV.aR,OV.aG,OV.bE,aB.aM,aX.aM]
     repeat'(with_reducible first|refine And.intro eP ?_)
     intro mi qmi
     obtain⟨a5H,aHY,aHZ,a5I⟩:=cE (show ¬mi=n8 from qmi.1)
     obtain⟨aH0,aH1,aH2,a5J⟩:=cE (show ¬mi=n6 from qmi.2.1)
     obtain⟨sU,sV,sW,aH3⟩:=cE (show ¬mi=n5 from qmi.2.2.1)
     obtain⟨sX,sY,sZ,aH4⟩:=cE (show ¬mi=n3 from qmi.2.2.2.1)
     obtain⟨s0,s4,s5,aH5⟩:=cE (show ¬mi=n2 from qmi.2.2.2.2.1)
     obtain⟨a5P,aIC,aID,a5Q⟩:=cE (show ¬mi=ni from qmi.2.2.2.2.2.1)
     have aH6:=qmi.2.2.2.2.2.2
     try simp -dsimp -implicitDefEqProofs only[go_sem,↓reduceIte,Tryz.f171,aF,aD,bC,bD,eX,eY,dW,dX,lZ,l5,l6,l7,l8,l9,qH,qI,qJ,qK,qL,qM,aDF,aDG,sM,sN,sO,sP,sQ,sR,sS,sT,aIA,aIB,aHY,aHZ,aH1,aH2,sV,sW,sY,sZ,s4,s5,aIC,aID,eaa,hlta,aN,bJ,eai,hlti,aL,aY,kC.flat,kC.one,OV.aR,OV.aG,OV.bE]
     refine⟨(ki+1,esi++[[.v (.int .i64 x.aJ[ka].bB[ki].bH),.v (.int .i64 x.aJ[ka].bB[ki].cC),.v (.int .i64 x.aJ[ka].bB[ki].dO),.v (.int .i64 x.aJ[ka].bB[ki].dF),zH]],gb,some mi),?_⟩
     simp only
     refine⟨?_,lE,⟨by omega,OR.snoc hori hlti oeb,hnewi.snoc wb,cB,cU,kB,p5,aH6,(λn_ e_=>by obtain rfl:=dY e_;exact⟨s0,sX,sU,aH0⟩)⟩,by omega⟩
     all_goals(repeat'(with_reducible refine And.intro ?_ ?_))
     all_goals first|rfl|trivial|(rw[IntWalk.i64_in _ aA];omega)
   ·have a5R:ki=x.aJ[ka].bB.length:=by omega
    subst a5R
    rw[eL]at hori
    have aIE:c7 gi_ (.row 5 (OV.cells esi)) wR n2=none:=eZ cB λn_ e_=>(honi n_ e_).1
    have aIF:c7 gi_ (.row 5 (OV.cells esi)) wR n3=none:=eZ cU λn_ e_=>(honi n_ e_).2.1
    have aIG:c7 gi_ (.row 5 (OV.cells esi)) wR n5=none:=eZ kB λn_ e_=>(honi n_ e_).2.2.1
    have a5S:c7 gi_ (.row 5 (OV.cells esi)) wR n6=none:=eZ p5 λn_ e_=>(honi n_ e_).2.2.2
    try simp -dsimp -implicitDefEqProofs only[go_sem,↓reduceIte,Tryz.f171,aF,aD,bC,bD,eX,eY,dW,dX,lZ,l5,l6,l7,l8,l9,eaa,hlta,aN,bJ,fR,iN,OV.aR,OV.aG,OV.bE,cN,aX.aM]
    try(with_reducible intro _)
    repeat'(with_reducible first|refine And.intro eP ?_)
    have cB:=aIE
    have cU:=aIF
    have kB:=aIG
    have p5:=a5S
    have wf:=q9 (sz:=5) hnewi hosi
    intro ma qma
    obtain⟨bTF,a5T,a5U,bTG⟩:=cE (show ¬ma=n6 from qma.1)
    obtain⟨a5V,aIH,aII,a5W⟩:=cE (show ¬ma=n5 from qma.2.1)
    obtain⟨aER,aIJ,aIK,a5X⟩:=cE (show ¬ma=n3 from qma.2.2.1)
    obtain⟨aEQ,aIL,aIM,a5Y⟩:=cE (show ¬ma=n2 from qma.2.2.2.1)
    have a5Z:=qma.2.2.2.2
    try simp -dsimp -implicitDefEqProofs only[go_sem,↓reduceIte,Tryz.f171,aF,aD,bC,bD,eX,eY,dW,dX,lZ,l5,l6,l7,l8,l9,a5T,a5U,aIH,aII,aIJ,aIK,aIL,aIM,eaa,hlta,aN,bJ,fR,iN,OV.aR,OV.aG,OV.bE]
    refine⟨(ka+1,([]:List (List OV))++[[.v (.str x.aJ[ka].fT),.v (I x.aJ[ka].bV),(gov 5 esi wR)]],(c7 gi_ (.row 5 (OV.cells esi)) wR),some ma),?_⟩
    simp only
    refine⟨?_,(Heap.wk.trans (b:=(bT (bT (c7 (c7 gi_ (.row 5 (OV.cells esi)) wR) (.row 3 (OV.cells ([]:List (List OV))++[[Cell.v (.str x.aJ[ka].fT),Cell.v (I x.aJ[ka].bV),Cell.v (jV 5 esi.length wR)]])) (some ma)) n2 (.row 1 [[.v .aV]])) n3 (.row 1 [[.v (jV 3 (([]:List (List OV))++[[.v (.str x.aJ[ka].fT),.v (I x.aJ[ka].bV),(gov 5 esi wR)]]).length (some ma))]]))) (Heap.aHL (m:=ma) (sz:=3) (es:=(OV.cells ([]:List (List OV))++[[Cell.v (.str x.aJ[ka].fT),Cell.v (I x.aJ[ka].bV),Cell.v (jV 5 esi.length wR)]])) (es':=OV.cells (([]:List (List OV))++[[.v (.str x.aJ[ka].fT),.v (I x.aJ[ka].bV),(gov 5 esi wR)]])) (λq_ hq_=>by simp only[dC,aL,if_neg hq_]) aM8 aM8 bKS) (Heap.iO lE)),⟨by omega,OR.snoc hora hlta ⟨_,rfl,wC hori hosi⟩,hnewa.snoc a8W,cB,cU,a5Z,(λn_ e_=>by obtain rfl:=dY e_;exact⟨aEQ,aER⟩)⟩,by omega⟩
    all_goals(repeat'(with_reducible refine And.intro ?_ ?_))
    all_goals first|rfl|trivial|(rw[IntWalk.i64_in _ aA];omega)
  |some na =>
   rw[kM]at hosa
   have zI:=hosa
   have hna:=hona na rfl
   obtain⟨bTH,lO,lP,aR0⟩:=cE (show ¬na=n2 from hna.1)
   obtain⟨bTI,lQ,lR,aR1⟩:=cE (show ¬na=n3 from hna.2)
   try simp -dsimp -implicitDefEqProofs only[go_sem,↓reduceIte,Tryz.f171,aF,aD,bC,bD,lO,lP,lQ,lR,eaa,hlta,aL,aY,aX.aM]
   intro n5 qn5
   obtain⟨sK,eX,eY,aRU⟩:=cE (show ¬n5=n3 from qn5.1)
   obtain⟨oT,dW,dX,aHQ⟩:=cE (show ¬n5=n2 from qn5.2.1)
   obtain⟨aR2,mP,mQ,bTJ⟩:=cE (show ¬n5=na from qn5.2.2.1)
   have kB:=qn5.2.2.2
   try simp -dsimp -implicitDefEqProofs only[go_sem,↓reduceIte,Tryz.f171,aF,aD,bC,bD,lO,lP,lQ,lR,eX,eY,dW,dX,mP,mQ,eaa,hlta,aL,aY,aX.aM]
   intro n6 qn6
   obtain⟨aRV,lZ,l5,bTA⟩:=cE (show ¬n6=n5 from qn6.1)
   obtain⟨aRW,l6,l7,bTB⟩:=cE (show ¬n6=n3 from qn6.2.1)
   obtain⟨aRX,l8,l9,bTC⟩:=cE (show ¬n6=n2 from qn6.2.2.1)
   obtain⟨bHT,zJ,zK,b54⟩:=cE (show ¬n6=na from qn6.2.2.2.1)
   have p5:=qn6.2.2.2.2
   try simp -dsimp -implicitDefEqProofs only[go_sem,↓reduceIte,Tryz.f171,aF,aD,bC,bD,lO,lP,lQ,lR,eX,eY,dW,dX,mP,mQ,lZ,l5,l6,l7,l8,l9,zJ,zK,eaa,hlta,aL,aY,aX.aM]
   try(with_reducible intro _)
   refine cY aO1 bAU bAV (λs:Nat×List (List OV)×Heap×Option Nat=>[(2,.op n2 1 0 0),(3,.op n3 1 0 0),(11,cI 3 aX.c x.aJ),(12,I x.aJ.length),(13,(I ka)),(5,.op n5 3 0 0),(6,.op n6 3 0 0),(23,cI 5 aB.c x.aJ[ka].bB),(24,I x.aJ[ka].bB.length),(25,(I s.1))]) (λs=>(bT (bT (bT (bT (bT (c7 s.2.2.1 (.row 5 (OV.cells s.2.1)) s.2.2.2) na (.row 3 (OV.cells esa))) n2 (.row 1 [[.v .aV]])) n3 (.row 1 [[.v (.os na 3 0 esa.length)]])) n5 (.row 3 [[.v (.str x.aJ[ka].fT),.v (I x.aJ[ka].bV),.v (cI 5 aB.c x.aJ[ka].bB)]])) n6 (.row 3 [[.v (.str x.aJ[ka].fT),.v (I x.aJ[ka].bV),.v (jV 5 s.2.1.length s.2.2.2)]]))) (λs=>s.1<=x.aJ[ka].bB.length/\OR aB.o (x.aJ[ka].bB.take s.1) s.2.1/\eW ga_ (OV.cW s.2.1) s.2.2.1/\s.2.2.1 na=none/\s.2.2.1 n2=none/\s.2.2.1 n3=none/\s.2.2.1 n5=none/\s.2.2.1 n6=none/\wU s.2.2.1 s.2.1 s.2.2.2/\∀ n:Nat,s.2.2.2=some n->n≠na/\n≠n2/\n≠n3/\n≠n5/\n≠n6) (λs=>x.aJ[ka].bB.length-s.1) (0,[],ga_,none) ?_ ?_
   ·exact⟨by simp[dT,dB],lE,iZ _,trivial,eW.nil _,zI,cB,cU,kB,p5,rfl,by simp⟩
   rintro⟨ki,esi,gi_,wR⟩ ⟨hkki,hori,hnewi,zI,cB,cU,kB,p5,hosi,honi⟩
   simp only at hkki hori hnewi zI cB cU kB p5 hosi honi ⊢
   have hleni:esi.length=ki:=by have:=hori.length;simp at this;omega
   rcases cP ki x.aJ[ka].bB.length with hlti|hgei
   ·have eai:x.aJ[ka].bB[ki]?=some x.aJ[ka].bB[ki]:=b6 hlti
    have hxi:=aL7 (x.aJ[ka].bB[ki]) a84
    simp only[aB.aM]at hxi
    cases wR with
    |none =>
     rw[jP]at hosi
     subst hosi
     try simp -dsimp -implicitDefEqProofs only[go_sem,↓reduceIte,Tryz.f171,aF,aD,bC,bD,lO,lP,lQ,lR,eX,eY,dW,dX,mP,mQ,lZ,l5,l6,l7,l8,l9,zJ,zK,eaa,hlta,aL,aY,eai,hlti,aN,bJ,aB.aM,aX.aM]
     intro n8 qn8
     obtain⟨aHU,sM,sN,a5D⟩:=cE (show ¬n8=n6 from qn8.1)
     obtain⟨aHV,sO,sP,a5E⟩:=cE (show ¬n8=n5 from qn8.2.1)
     obtain⟨aHW,sQ,sR,a5F⟩:=cE (show ¬n8=n3 from qn8.2.2.1)
     obtain⟨aHX,sS,sT,a5G⟩:=cE (show ¬n8=n2 from qn8.2.2.2.1)
     obtain⟨a50,aIN,aIO,bTK⟩:=cE (show ¬n8=na from qn8.2.2.2.2.1)
     have aRY:=qn8.2.2.2.2.2
     try simp -dsimp -implicitDefEqProofs only[go_sem,↓reduceIte,Tryz.f171,aF,aD,bC,bD,lO,lP,lQ,lR,eX,eY,dW,dX,mP,mQ,lZ,l5,l6,l7,l8,l9,zJ,zK,sM,sN,sO,sP,sQ,sR,sS,sT,aIN,aIO,eaa,hlta,aL,aY,eai,hlti,aN,bJ,aB.aM,aX.aM]
     refine aH.wn6 (hxi) zI ⟨aR0,cB⟩ ⟨dP,aR1,cU⟩ ⟨sK,oT,aR2,kB⟩ ⟨aRV,aRW,aRX,bHT,p5⟩ ⟨aHU,aHV,aHW,aHX,a50,aRY⟩ ?_
     rintro r l_ gb ⟨e_b,oeb,rfl,rfl⟩ wb zI cB cU kB p5 aRY
     have oob:=oeb
     rw[aB.xU]at oob
     obtain⟨zH,rfl,kC⟩:=oob
     try simp -dsimp -implicitDefEqProofs only[go_sem,↓reduceIte,Tryz.f171,aF,aD,bC,bD,lO,lP,lQ,lR,eX,eY,dW,dX,mP,mQ,lZ,l5,l6,l7,l8,l9,zJ,zK,sM,sN,sO,sP,sQ,sR,sS,sT,aIN,aIO,eaa,hlta,aL,aY,eai,hlti,aN,bJ,kC.flat,kC.one,OV.aR,OV.aG,OV.bE,aB.aM,aX.aM]
     repeat'(with_reducible first|refine And.intro eP ?_)
     intro mi qmi
     obtain⟨a5H,aHY,aHZ,a5I⟩:=cE (show ¬mi=n8 from qmi.1)
     obtain⟨aH0,aH1,aH2,a5J⟩:=cE (show ¬mi=n6 from qmi.2.1)
     obtain⟨sU,sV,sW,aH3⟩:=cE (show ¬mi=n5 from qmi.2.2.1)
     obtain⟨sX,sY,sZ,aH4⟩:=cE (show ¬mi=n3 from qmi.2.2.2.1)
     obtain⟨s0,s4,s5,aH5⟩:=cE (show ¬mi=n2 from qmi.2.2.2.2.1)
     obtain⟨aIP,aIQ,aIR,a52⟩:=cE (show ¬mi=na from qmi.2.2.2.2.2.1)
     have aH6:=qmi.2.2.2.2.2.2
     try simp -dsimp -implicitDefEqProofs only[go_sem,↓reduceIte,Tryz.f171,aF,aD,bC,bD,lO,lP,lQ,lR,eX,eY,dW,dX,mP,mQ,lZ,l5,l6,l7,l8,l9,zJ,zK,sM,sN,sO,sP,sQ,sR,sS,sT,aIN,aIO,aHY,aHZ,aH1,aH2,sV,sW,sY,sZ,s4,s5,aIQ,aIR,eaa,hlta,aL,aY,eai,hlti,aN,bJ,kC.flat,kC.one,OV.aR,OV.aG,OV.bE]
     refine⟨(ki+1,([]:List (List OV))++[[.v (.int .i64 x.aJ[ka].bB[ki].bH),.v (.int .i64 x.aJ[ka].bB[ki].cC),.v (.int .i64 x.aJ[ka].bB[ki].dO),.v (.int .i64 x.aJ[ka].bB[ki].dF),zH]],gb,some mi),?_⟩
     simp only
     refine⟨?_,lE,⟨by omega,OR.snoc hori hlti oeb,hnewi.snoc wb,zI,cB,cU,kB,p5,aH6,(λn_ e_=>by obtain rfl:=dY e_;exact⟨aIP,s0,sX,sU,aH0⟩)⟩,by omega⟩
     all_goals(repeat'(with_reducible refine And.intro ?_ ?_))
     all_goals first|rfl|trivial|(rw[IntWalk.i64_in _ aA];omega)
    |some ni =>
     rw[kM]at hosi
     have aRZ:=hosi
     have hni:=honi ni rfl
     obtain⟨bTL,aFL,aFM,a54⟩:=cE (show ¬ni=na from hni.1)
     obtain⟨a5K,qH,qI,aH7⟩:=cE (show ¬ni=n2 from hni.2.1)
     obtain⟨a5L,qJ,qK,aH8⟩:=cE (show ¬ni=n3 from hni.2.2.1)
     obtain⟨a5M,qL,qM,aH9⟩:=cE (show ¬ni=n5 from hni.2.2.2.1)
     obtain⟨bTD,aDF,aDG,a5N⟩:=cE (show ¬ni=n6 from hni.2.2.2.2)
     try simp -dsimp -implicitDefEqProofs only[go_sem,↓reduceIte,Tryz.f171,aF,aD,bC,bD,lO,lP,lQ,lR,eX,eY,dW,dX,mP,mQ,lZ,l5,l6,l7,l8,l9,zJ,zK,aFL,aFM,qH,qI,qJ,qK,qL,qM,aDF,aDG,eaa,hlta,aL,aY,eai,hlti,aL,aY,aB.aM,aX.aM]
     intro n8 qn8
     obtain⟨aHU,sM,sN,a5D⟩:=cE (show ¬n8=n6 from qn8.1)
     obtain⟨aHV,sO,sP,a5E⟩:=cE (show ¬n8=n5 from qn8.2.1)
     obtain⟨aHW,sQ,sR,a5F⟩:=cE (show ¬n8=n3 from qn8.2.2.1)
     obtain⟨aHX,sS,sT,a5G⟩:=cE (show ¬n8=n2 from qn8.2.2.2.1)
     obtain⟨a50,aIN,aIO,bTK⟩:=cE (show ¬n8=na from qn8.2.2.2.2.1)
     obtain⟨a5O,aIA,aIB,bTE⟩:=cE (show ¬n8=ni from qn8.2.2.2.2.2.1)
     have aRY:=qn8.2.2.2.2.2.2
     try simp -dsimp -implicitDefEqProofs only[go_sem,↓reduceIte,Tryz.f171,aF,aD,bC,bD,lO,lP,lQ,lR,eX,eY,dW,dX,mP,mQ,lZ,l5,l6,l7,l8,l9,zJ,zK,aFL,aFM,qH,qI,qJ,qK,qL,qM,aDF,aDG,sM,sN,sO,sP,sQ,sR,sS,sT,aIN,aIO,aIA,aIB,eaa,hlta,aL,aY,eai,hlti,aL,aY,aB.aM,aX.aM]
     refine aH.wn7 (hxi) aRZ ⟨a54,zI⟩ ⟨aR0,aH7,cB⟩ ⟨dP,aR1,aH8,cU⟩ ⟨sK,oT,aR2,aH9,kB⟩ ⟨aRV,aRW,aRX,bHT,a5N,p5⟩ ⟨aHU,aHV,aHW,aHX,a50,a5O,aRY⟩ ?_
     rintro r l_ gb ⟨e_b,oeb,rfl,rfl⟩ wb aRZ zI cB cU kB p5 aRY
     have oob:=oeb
     rw[aB.xU]at oob
     obtain⟨zH,rfl,kC⟩:=oob
     try simp -dsimp -implicitDefEqProofs only[go_sem,↓reduceIte,Tryz.f171,aF,aD,bC,bD,lO,lP,lQ,lR,eX,eY,dW,dX,mP,mQ,lZ,l5,l6,l7,l8,l9,zJ,zK,aFL,aFM,qH,qI,qJ,qK,qL,qM,aDF,aDG,sM,sN,sO,sP,sQ,sR,sS,sT,aIN,aIO,aIA,aIB,eaa,hlta,aL,aY,eai,hlti,aL,aY,kC.flat,kC.one,OV.aR,OV.aG,OV.bE,aB.aM,aX.aM]
     repeat'(with_reducible first|refine And.intro eP ?_)
     intro mi qmi
     obtain⟨a5H,aHY,aHZ,a5I⟩:=cE (show ¬mi=n8 from qmi.1)
     obtain⟨aH0,aH1,aH2,a5J⟩:=cE (show ¬mi=n6 from qmi.2.1)
     obtain⟨sU,sV,sW,aH3⟩:=cE (show ¬mi=n5 from qmi.2.2.1)
     obtain⟨sX,sY,sZ,aH4⟩:=cE (show ¬mi=n3 from qmi.2.2.2.1)
     obtain⟨s0,s4,s5,aH5⟩:=cE (show ¬mi=n2 from qmi.2.2.2.2.1)
     obtain⟨aIP,aIQ,aIR,a52⟩:=cE (show ¬mi=na from qmi.2.2.2.2.2.1)
     obtain⟨a5P,aIC,aID,a5Q⟩:=cE (show ¬mi=ni from qmi.2.2.2.2.2.2.1)
     have aH6:=qmi.2.2.2.2.2.2.2
     try simp -dsimp -implicitDefEqProofs only[go_sem,↓reduceIte,Tryz.f171,aF,aD,bC,bD,lO,lP,lQ,lR,eX,eY,dW,dX,mP,mQ,lZ,l5,l6,l7,l8,l9,zJ,zK,aFL,aFM,qH,qI,qJ,qK,qL,qM,aDF,aDG,sM,sN,sO,sP,sQ,sR,sS,sT,aIN,aIO,aIA,aIB,aHY,aHZ,aH1,aH2,sV,sW,sY,sZ,s4,s5,aIQ,aIR,aIC,aID,eaa,hlta,aL,aY,eai,hlti,aL,aY,kC.flat,kC.one,OV.aR,OV.aG,OV.bE]
     refine⟨(ki+1,esi++[[.v (.int .i64 x.aJ[ka].bB[ki].bH),.v (.int .i64 x.aJ[ka].bB[ki].cC),.v (.int .i64 x.aJ[ka].bB[ki].dO),.v (.int .i64 x.aJ[ka].bB[ki].dF),zH]],gb,some mi),?_⟩
     simp only
     refine⟨?_,lE,⟨by omega,OR.snoc hori hlti oeb,hnewi.snoc wb,zI,cB,cU,kB,p5,aH6,(λn_ e_=>by obtain rfl:=dY e_;exact⟨aIP,s0,sX,sU,aH0⟩)⟩,by omega⟩
     all_goals(repeat'(with_reducible refine And.intro ?_ ?_))
     all_goals first|rfl|trivial|(rw[IntWalk.i64_in _ aA];omega)
   ·have a5R:ki=x.aJ[ka].bB.length:=by omega
    subst a5R
    rw[eL]at hori
    have a55:c7 gi_ (.row 5 (OV.cells esi)) wR na=none:=eZ zI λn_ e_=>(honi n_ e_).1
    have aIE:c7 gi_ (.row 5 (OV.cells esi)) wR n2=none:=eZ cB λn_ e_=>(honi n_ e_).2.1
    have aIF:c7 gi_ (.row 5 (OV.cells esi)) wR n3=none:=eZ cU λn_ e_=>(honi n_ e_).2.2.1
    have aIG:c7 gi_ (.row 5 (OV.cells esi)) wR n5=none:=eZ kB λn_ e_=>(honi n_ e_).2.2.2.1
    have a5S:c7 gi_ (.row 5 (OV.cells esi)) wR n6=none:=eZ p5 λn_ e_=>(honi n_ e_).2.2.2.2
    try simp -dsimp -implicitDefEqProofs only[go_sem,↓reduceIte,Tryz.f171,aF,aD,bC,bD,lO,lP,lQ,lR,eX,eY,dW,dX,mP,mQ,lZ,l5,l6,l7,l8,l9,zJ,zK,eaa,hlta,aL,aY,fR,iN,OV.aR,OV.aG,OV.bE,cN,aX.aM]
    try(with_reducible intro _)
    repeat'(with_reducible first|refine And.intro eP ?_)
    have zI:=a55
    have cB:=aIE
    have cU:=aIF
    have kB:=aIG
    have p5:=a5S
    have wf:=q9 (sz:=5) hnewi hosi
    intro ma qma
    obtain⟨bTF,a5T,a5U,bTG⟩:=cE (show ¬ma=n6 from qma.1)
    obtain⟨a5V,aIH,aII,a5W⟩:=cE (show ¬ma=n5 from qma.2.1)
    obtain⟨aER,aIJ,aIK,a5X⟩:=cE (show ¬ma=n3 from qma.2.2.1)
    obtain⟨aEQ,aIL,aIM,a5Y⟩:=cE (show ¬ma=n2 from qma.2.2.2.1)
    obtain⟨bTM,a56,a57,bTN⟩:=cE (show ¬ma=na from qma.2.2.2.2.1)
    have a5Z:=qma.2.2.2.2.2
    try simp -dsimp -implicitDefEqProofs only[go_sem,↓reduceIte,Tryz.f171,aF,aD,bC,bD,lO,lP,lQ,lR,eX,eY,dW,dX,mP,mQ,lZ,l5,l6,l7,l8,l9,zJ,zK,a5T,a5U,aIH,aII,aIJ,aIK,aIL,aIM,a56,a57,eaa,hlta,aL,aY,fR,iN,OV.aR,OV.aG,OV.bE]
    refine⟨(ka+1,esa++[[.v (.str x.aJ[ka].fT),.v (I x.aJ[ka].bV),(gov 5 esi wR)]],(c7 gi_ (.row 5 (OV.cells esi)) wR),some ma),?_⟩
    simp only
    refine⟨?_,(Heap.wk.trans (b:=(bT (bT (c7 (c7 gi_ (.row 5 (OV.cells esi)) wR) (.row 3 (OV.cells esa++[[Cell.v (.str x.aJ[ka].fT),Cell.v (I x.aJ[ka].bV),Cell.v (jV 5 esi.length wR)]])) (some ma)) n2 (.row 1 [[.v .aV]])) n3 (.row 1 [[.v (jV 3 (esa++[[.v (.str x.aJ[ka].fT),.v (I x.aJ[ka].bV),(gov 5 esi wR)]]).length (some ma))]]))) (Heap.aHL (m:=ma) (sz:=3) (es:=(OV.cells esa++[[Cell.v (.str x.aJ[ka].fT),Cell.v (I x.aJ[ka].bV),Cell.v (jV 5 esi.length wR)]])) (es':=OV.cells (esa++[[.v (.str x.aJ[ka].fT),.v (I x.aJ[ka].bV),(gov 5 esi wR)]])) (λq_ hq_=>by simp only[dC,aL,if_neg hq_]) aM8 aM8 bKS) (Heap.iO lE)),⟨by omega,OR.snoc hora hlta ⟨_,rfl,wC hori hosi⟩,hnewa.snoc a8W,cB,cU,a5Z,(λn_ e_=>by obtain rfl:=dY e_;exact⟨aEQ,aER⟩)⟩,by omega⟩
    all_goals(repeat'(with_reducible refine And.intro ?_ ?_))
    all_goals first|rfl|trivial|(rw[IntWalk.i64_in _ aA];omega)
 ·have bTO:ka=x.aJ.length:=by omega
  subst bTO
  rw[eL]at hora
  have bTP:c7 ga_ (.row 3 (OV.cells esa)) oa_ n2=none:=eZ cB λn_ e_=>(hona n_ e_).1
  have bTQ:c7 ga_ (.row 3 (OV.cells esa)) oa_ n3=none:=eZ cU λn_ e_=>(hona n_ e_).2
  try simp -dsimp -implicitDefEqProofs only[go_sem,↓reduceIte,Tryz.f171,aF,aD,bC,bD,fR,iN,cN]
  try(with_reducible intro _)
  refine⟨_,(c7 ga_ (.row 3 (OV.cells esa)) oa_),_,Shift.of (Sub.agg (bQ.cons wL bQ.nil)) lE,⟨[(gov 3 esa oa_)],?_,rfl,rfl⟩,?_⟩
  ·exact⟨(gov 3 esa oa_),rfl,wC hora hosa⟩
  ·have hq:=(q9 (sz:=3) hnewa hosa)
   simpa only[OV.gG,OV.j9,OV.rN,al0,wP,qT]using hq
@[go_sem] def aO2:List Nat:=[0,2,3,4,5,6,14,44]
@[go_sem] def bAW:List Nat:=[60,66]
@[go_sem] def bAX:Marks:=λid=>match id with|5=>([17,18],(.op 0 (.op 1 (.op 2 (.op 3 (.op 4 (.op 5 (.op 6 (.op 7 (.op 8 (.op 9 (.op 10 (.op 11 (.op 12 (.op 13 (.op 14 (.op 15 (.op 16 (.op 17 (.op 18 .nil))))))))))))))))))),[])|9=>([1,12,14,16],(.op 0 (.op 2 (.op 3 (.op 4 (.op 5 (.op 6 (.op 7 (.op 8 (.op 9 (.op 10 (.op 11 (.op 1 (.op 12 (.op 13 (.op 14 (.op 15 (.op 16 .nil))))))))))))))))),[(1,12)])|_=>([],.nil,[])
set_option maxHeartbeats 1000000 in
theorem aG0 (x:aK) (hs:x.s<=1048576):tU Tryz.prog 159 [.ip 1 [x.c] 0 0] (QA x.o):=by
 have hs':=x.fQ
 try simp only[fF]at hs'
 simp only[aK.aM]
 refine x9 70 aO2 bAW bAX Tryz.func159 λh=>?_
 try simp -dsimp -implicitDefEqProofs only[go_sem,↓reduceIte,Tryz.f159,aF,aD]
 intro n2 qn2
 have cB:=qn2
 try simp -dsimp -implicitDefEqProofs only[go_sem,↓reduceIte,Tryz.f159,aF,aD]
 intro n3 sJ
 obtain⟨dP,bC,bD,nQ⟩:=cE (show ¬n3=n2 from sJ.1)
 have cU:=sJ.2
 try simp -dsimp -implicitDefEqProofs only[go_sem,↓reduceIte,Tryz.f159,aF,aD,bC,bD]
 try(with_reducible intro _)
 refine a4V aO2 bAW bAX (λs:Nat×List (List OV)×Heap×Option Nat=>[(0,.ip 1 [[cI 3 aX.c x.aJ]] 0 0),(2,.op n2 1 0 0),(3,.op n3 1 0 0),(4,(I s.1))]) (λs=>(bT (bT (c7 s.2.2.1 (.row 3 (OV.cells s.2.1)) s.2.2.2) n2 (.row 1 [[.v .aV]])) n3 (.row 1 [[.v (jV 3 s.2.1.length s.2.2.2)]]))) (λs=>s.1<=x.aJ.length/\OR aX.o (x.aJ.take s.1) s.2.1/\eW h (OV.cW s.2.1) s.2.2.1/\s.2.2.1 n2=none/\s.2.2.1 n3=none/\wU s.2.2.1 s.2.1 s.2.2.2/\∀ n:Nat,s.2.2.2=some n->n≠n2/\n≠n3) (λs=>x.aJ.length-s.1) (0,[],h,none) ?_ ?_
 ·exact⟨by simp[dT,dB],Heap.iO lE,iZ _,trivial,eW.nil _,cB,cU,rfl,by simp⟩
 rintro⟨ka,esa,ga_,oa_⟩ ⟨hkka,hora,hnewa,cB,cU,hosa,hona⟩
 simp only at hkka hora hnewa cB cU hosa hona ⊢
 have hlena:esa.length=ka:=by have:=hora.length;simp at this;omega
 rcases cP ka x.aJ.length with hlta|hgea
 ·have eaa:x.aJ[ka]?=some x.aJ[ka]:=b6 hlta
  have hf:=k6 aX.s (dG hlta)
  have hf2:=(x.aJ[ka]).fQ
  simp only[fF]at hf2
  cases oa_ with
  |none =>
   rw[jP]at hosa
   subst hosa
   try simp -dsimp -implicitDefEqProofs only[go_sem,↓reduceIte,Tryz.f159,aF,aD,bC,bD,eaa,hlta,aN,bJ,aX.aM]
   try(with_reducible intro _)
   intro n5 qn5
   obtain⟨sK,eX,eY,aRU⟩:=cE (show ¬n5=n3 from qn5.1)
   obtain⟨oT,dW,dX,aHQ⟩:=cE (show ¬n5=n2 from qn5.2.1)
   have kB:=qn5.2.2
   try simp -dsimp -implicitDefEqProofs only[go_sem,↓reduceIte,Tryz.f159,aF,aD,bC,bD,eX,eY,dW,dX,eaa,hlta,aN,bJ,aX.aM]
   try(with_reducible intro _)
   refine cY aO2 bAW bAX (λs:Nat×List (List OV)×Heap×Option Nat=>[(0,.ip 1 [[cI 3 aX.c x.aJ]] 0 0),(2,.op n2 1 0 0),(3,.op n3 1 0 0),(4,(I ka)),(5,.op n5 3 0 0),(6,(I s.1))]) (λs=>(bT (bT (bT (c7 s.2.2.1 (.row 5 (OV.cells s.2.1)) s.2.2.2) n2 (.row 1 [[.v .aV]])) n3 (.row 1 [[.v (.aV)]])) n5 (.row 3 [[.v (.str x.aJ[ka].fT),.v (I x.aJ[ka].bV),.v (jV 5 s.2.1.length s.2.2.2)]]))) (λs=>s.1<=x.aJ[ka].bB.length/\OR aB.o (x.aJ[ka].bB.take s.1) s.2.1/\eW ga_ (OV.cW s.2.1) s.2.2.1/\s.2.2.1 n2=none/\s.2.2.1 n3=none/\s.2.2.1 n5=none/\wU s.2.2.1 s.2.1 s.2.2.2/\∀ n:Nat,s.2.2.2=some n->n≠n2/\n≠n3/\n≠n5) (λs=>x.aJ[ka].bB.length-s.1) (0,[],ga_,none) ?_ ?_
   ·exact⟨by simp[dT,dB],lE,iZ _,trivial,eW.nil _,cB,cU,kB,rfl,by simp⟩
   rintro⟨ki,esi,gi_,wR⟩ ⟨hkki,hori,hnewi,cB,cU,kB,hosi,honi⟩
   simp only at hkki hori hnewi cB cU kB hosi honi ⊢
   have hleni:esi.length=ki:=by have:=hori.length;simp at this;omega
   rcases cP ki x.aJ[ka].bB.length with hlti|hgei
   ·have eai:x.aJ[ka].bB[ki]?=some x.aJ[ka].bB[ki]:=b6 hlti
    have hxi:=a5A (x.aJ[ka].bB[ki]) a84
    cases wR with
    |none =>
     rw[jP]at hosi
     subst hosi
     try simp -dsimp -implicitDefEqProofs only[go_sem,↓reduceIte,Tryz.f159,aF,aD,bC,bD,eX,eY,dW,dX,eaa,hlta,aN,bJ,eai,hlti,aN,bJ,aB.aM,aX.aM]
     try(with_reducible intro _)
     refine aH.wn3 (tU.sub (by repeat'(first|exact bQ.nil|refine bQ.cons ?_ ?_|exact Sub.refl _|(rw[aB.aM];exact Sub.refl _)|exact Sub.cK rfl rfl rfl|exact Sub.ip (bF aA) aS|exact Sub.cK (bF aA) rfl rfl|exact Sub.ip bU aS|exact Sub.cK bU bS bS)) hxi) cB ⟨dP,cU⟩ ⟨sK,oT,kB⟩ ?_
     rintro r l_ gb ⟨e_b,oeb,rfl,rfl⟩ wb cB cU kB
     have oob:=oeb
     rw[aB.xU]at oob
     obtain⟨zH,rfl,kC⟩:=oob
     try simp -dsimp -implicitDefEqProofs only[go_sem,↓reduceIte,Tryz.f159,aF,aD,bC,bD,eX,eY,dW,dX,eaa,hlta,aN,bJ,eai,hlti,aN,bJ,kC.flat,kC.one,OV.aR,OV.aG,OV.bE,aB.aM,aX.aM]
     repeat'(with_reducible first|refine And.intro eP ?_)
     intro mi qmi
     obtain⟨sU,sV,sW,aH3⟩:=cE (show ¬mi=n5 from qmi.1)
     obtain⟨sX,sY,sZ,aH4⟩:=cE (show ¬mi=n3 from qmi.2.1)
     obtain⟨s0,s4,s5,aH5⟩:=cE (show ¬mi=n2 from qmi.2.2.1)
     have aH6:=qmi.2.2.2
     try simp -dsimp -implicitDefEqProofs only[go_sem,↓reduceIte,Tryz.f159,aF,aD,bC,bD,eX,eY,dW,dX,sV,sW,sY,sZ,s4,s5,eaa,hlta,aN,bJ,eai,hlti,aN,bJ,kC.flat,kC.one,OV.aR,OV.aG,OV.bE]
     refine⟨(ki+1,([]:List (List OV))++[[.v (.int .i64 x.aJ[ka].bB[ki].bH),.v (.int .i64 x.aJ[ka].bB[ki].cC),.v (.int .i64 x.aJ[ka].bB[ki].dO),.v (.int .i64 x.aJ[ka].bB[ki].dF),zH]],gb,some mi),?_⟩
     simp only
     refine⟨?_,lE,⟨by omega,OR.snoc hori hlti oeb,hnewi.snoc wb,cB,cU,kB,aH6,(λn_ e_=>by obtain rfl:=dY e_;exact⟨s0,sX,sU⟩)⟩,by omega⟩
     all_goals(repeat'(with_reducible refine And.intro ?_ ?_))
     all_goals first|rfl|trivial|(rw[IntWalk.i64_in _ aA];omega)
    |some ni =>
     rw[kM]at hosi
     have aRZ:=hosi
     have hni:=honi ni rfl
     obtain⟨a5K,qH,qI,aH7⟩:=cE (show ¬ni=n2 from hni.1)
     obtain⟨a5L,qJ,qK,aH8⟩:=cE (show ¬ni=n3 from hni.2.1)
     obtain⟨a5M,qL,qM,aH9⟩:=cE (show ¬ni=n5 from hni.2.2)
     try simp -dsimp -implicitDefEqProofs only[go_sem,↓reduceIte,Tryz.f159,aF,aD,bC,bD,eX,eY,dW,dX,qH,qI,qJ,qK,qL,qM,eaa,hlta,aN,bJ,eai,hlti,aL,aY,aB.aM,aX.aM]
     try(with_reducible intro _)
     refine aH.wn4 (tU.sub (by repeat'(first|exact bQ.nil|refine bQ.cons ?_ ?_|exact Sub.refl _|(rw[aB.aM];exact Sub.refl _)|exact Sub.cK rfl rfl rfl|exact Sub.ip (bF aA) aS|exact Sub.cK (bF aA) rfl rfl|exact Sub.ip bU aS|exact Sub.cK bU bS bS)) hxi) aRZ ⟨aH7,cB⟩ ⟨dP,aH8,cU⟩ ⟨sK,oT,aH9,kB⟩ ?_
     rintro r l_ gb ⟨e_b,oeb,rfl,rfl⟩ wb aRZ cB cU kB
     have oob:=oeb
     rw[aB.xU]at oob
     obtain⟨zH,rfl,kC⟩:=oob
     try simp -dsimp -implicitDefEqProofs only[go_sem,↓reduceIte,Tryz.f159,aF,aD,bC,bD,eX,eY,dW,dX,qH,qI,qJ,qK,qL,qM,eaa,hlta,aN,bJ,eai,hlti,aL,aY,kC.flat,kC.one,OV.aR,OV.aG,OV.bE,aB.aM,aX.aM]
     repeat'(with_reducible first|refine And.intro eP ?_)
     intro mi qmi
     obtain⟨sU,sV,sW,aH3⟩:=cE (show ¬mi=n5 from qmi.1)
     obtain⟨sX,sY,sZ,aH4⟩:=cE (show ¬mi=n3 from qmi.2.1)
     obtain⟨s0,s4,s5,aH5⟩:=cE (show ¬mi=n2 from qmi.2.2.1)
     obtain⟨a5P,aIC,aID,a5Q⟩:=cE (show ¬mi=ni from qmi.2.2.2.1)
     have aH6:=qmi.2.2.2.2
     try simp -dsimp -implicitDefEqProofs only[go_sem,↓reduceIte,Tryz.f159,aF,aD,bC,bD,eX,eY,dW,dX,qH,qI,qJ,qK,qL,qM,sV,sW,sY,sZ,s4,s5,aIC,aID,eaa,hlta,aN,bJ,eai,hlti,aL,aY,kC.flat,kC.one,OV.aR,OV.aG,OV.bE]
     refine⟨(ki+1,esi++[[.v (.int .i64 x.aJ[ka].bB[ki].bH),.v (.int .i64 x.aJ[ka].bB[ki].cC),.v (.int .i64 x.aJ[ka].bB[ki].dO),.v (.int .i64 x.aJ[ka].bB[ki].dF),zH]],gb,some mi),?_⟩
     simp only
     refine⟨?_,lE,⟨by omega,OR.snoc hori hlti oeb,hnewi.snoc wb,cB,cU,kB,aH6,(λn_ e_=>by obtain rfl:=dY e_;exact⟨s0,sX,sU⟩)⟩,by omega⟩
     all_goals(repeat'(with_reducible refine And.intro ?_ ?_))
     all_goals first|rfl|trivial|(rw[IntWalk.i64_in _ aA];omega)
   ·have a5R:ki=x.aJ[ka].bB.length:=by omega
    subst a5R
    rw[eL]at hori
    have aIE:c7 gi_ (.row 5 (OV.cells esi)) wR n2=none:=eZ cB λn_ e_=>(honi n_ e_).1
    have aIF:c7 gi_ (.row 5 (OV.cells esi)) wR n3=none:=eZ cU λn_ e_=>(honi n_ e_).2.1
    have aIG:c7 gi_ (.row 5 (OV.cells esi)) wR n5=none:=eZ kB λn_ e_=>(honi n_ e_).2.2
    try simp -dsimp -implicitDefEqProofs only[go_sem,↓reduceIte,Tryz.f159,aF,aD,bC,bD,eX,eY,dW,dX,eaa,hlta,aN,bJ,fR,iN,OV.aR,OV.aG,OV.bE,cN,aX.aM]
    try(with_reducible intro _)
    repeat'(with_reducible first|refine And.intro eP ?_)
    have cB:=aIE
    have cU:=aIF
    have kB:=aIG
    have wf:=q9 (sz:=5) hnewi hosi
    intro ma qma
    obtain⟨a5V,aIH,aII,a5W⟩:=cE (show ¬ma=n5 from qma.1)
    obtain⟨aER,aIJ,aIK,a5X⟩:=cE (show ¬ma=n3 from qma.2.1)
    obtain⟨aEQ,aIL,aIM,a5Y⟩:=cE (show ¬ma=n2 from qma.2.2.1)
    have a5Z:=qma.2.2.2
    try simp -dsimp -implicitDefEqProofs only[go_sem,↓reduceIte,Tryz.f159,aF,aD,bC,bD,eX,eY,dW,dX,aIH,aII,aIJ,aIK,aIL,aIM,eaa,hlta,aN,bJ,fR,iN,OV.aR,OV.aG,OV.bE]
    refine⟨(ka+1,([]:List (List OV))++[[.v (.str x.aJ[ka].fT),.v (I x.aJ[ka].bV),(gov 5 esi wR)]],(c7 gi_ (.row 5 (OV.cells esi)) wR),some ma),?_⟩
    simp only
    refine⟨?_,(Heap.wk.trans (b:=(bT (bT (c7 (c7 gi_ (.row 5 (OV.cells esi)) wR) (.row 3 (OV.cells ([]:List (List OV))++[[Cell.v (.str x.aJ[ka].fT),Cell.v (I x.aJ[ka].bV),Cell.v (jV 5 esi.length wR)]])) (some ma)) n2 (.row 1 [[.v .aV]])) n3 (.row 1 [[.v (jV 3 (([]:List (List OV))++[[.v (.str x.aJ[ka].fT),.v (I x.aJ[ka].bV),(gov 5 esi wR)]]).length (some ma))]]))) (Heap.aHL (m:=ma) (sz:=3) (es:=(OV.cells ([]:List (List OV))++[[Cell.v (.str x.aJ[ka].fT),Cell.v (I x.aJ[ka].bV),Cell.v (jV 5 esi.length wR)]])) (es':=OV.cells (([]:List (List OV))++[[.v (.str x.aJ[ka].fT),.v (I x.aJ[ka].bV),(gov 5 esi wR)]])) (λq_ hq_=>by simp only[dC,aL,if_neg hq_]) aM8 aM8 bKS) (Heap.iO lE)),⟨by omega,OR.snoc hora hlta ⟨_,rfl,wC hori hosi⟩,hnewa.snoc a8W,cB,cU,a5Z,(λn_ e_=>by obtain rfl:=dY e_;exact⟨aEQ,aER⟩)⟩,by omega⟩
    all_goals(repeat'(with_reducible refine And.intro ?_ ?_))
    all_goals first|rfl|trivial|(rw[IntWalk.i64_in _ aA];omega)
  |some na =>
   rw[kM]at hosa
   have zI:=hosa
   have hna:=hona na rfl
   obtain⟨bTH,lO,lP,aR0⟩:=cE (show ¬na=n2 from hna.1)
   obtain⟨bTI,lQ,lR,aR1⟩:=cE (show ¬na=n3 from hna.2)
   try simp -dsimp -implicitDefEqProofs only[go_sem,↓reduceIte,Tryz.f159,aF,aD,bC,bD,lO,lP,lQ,lR,eaa,hlta,aL,aY,aX.aM]
   try(with_reducible intro _)
   intro n5 qn5
   obtain⟨sK,eX,eY,aRU⟩:=cE (show ¬n5=n3 from qn5.1)
   obtain⟨oT,dW,dX,aHQ⟩:=cE (show ¬n5=n2 from qn5.2.1)
   obtain⟨aR2,mP,mQ,bTJ⟩:=cE (show ¬n5=na from qn5.2.2.1)
   have kB:=qn5.2.2.2
   try simp -dsimp -implicitDefEqProofs only[go_sem,↓reduceIte,Tryz.f159,aF,aD,bC,bD,lO,lP,lQ,lR,eX,eY,dW,dX,mP,mQ,eaa,hlta,aL,aY,aX.aM]
   try(with_reducible intro _)
   refine cY aO2 bAW bAX (λs:Nat×List (List OV)×Heap×Option Nat=>[(0,.ip 1 [[cI 3 aX.c x.aJ]] 0 0),(2,.op n2 1 0 0),(3,.op n3 1 0 0),(4,(I ka)),(5,.op n5 3 0 0),(6,(I s.1))]) (λs=>(bT (bT (bT (bT (c7 s.2.2.1 (.row 5 (OV.cells s.2.1)) s.2.2.2) na (.row 3 (OV.cells esa))) n2 (.row 1 [[.v .aV]])) n3 (.row 1 [[.v (.os na 3 0 esa.length)]])) n5 (.row 3 [[.v (.str x.aJ[ka].fT),.v (I x.aJ[ka].bV),.v (jV 5 s.2.1.length s.2.2.2)]]))) (λs=>s.1<=x.aJ[ka].bB.length/\OR aB.o (x.aJ[ka].bB.take s.1) s.2.1/\eW ga_ (OV.cW s.2.1) s.2.2.1/\s.2.2.1 na=none/\s.2.2.1 n2=none/\s.2.2.1 n3=none/\s.2.2.1 n5=none/\wU s.2.2.1 s.2.1 s.2.2.2/\∀ n:Nat,s.2.2.2=some n->n≠na/\n≠n2/\n≠n3/\n≠n5) (λs=>x.aJ[ka].bB.length-s.1) (0,[],ga_,none) ?_ ?_
   ·exact⟨by simp[dT,dB],lE,iZ _,trivial,eW.nil _,zI,cB,cU,kB,rfl,by simp⟩
   rintro⟨ki,esi,gi_,wR⟩ ⟨hkki,hori,hnewi,zI,cB,cU,kB,hosi,honi⟩
   simp only at hkki hori hnewi zI cB cU kB hosi honi ⊢
   have hleni:esi.length=ki:=by have:=hori.length;simp at this;omega
   rcases cP ki x.aJ[ka].bB.length with hlti|hgei
   ·have eai:x.aJ[ka].bB[ki]?=some x.aJ[ka].bB[ki]:=b6 hlti
    have hxi:=a5A (x.aJ[ka].bB[ki]) a84
    cases wR with
    |none =>
     rw[jP]at hosi
     subst hosi
     try simp -dsimp -implicitDefEqProofs only[go_sem,↓reduceIte,Tryz.f159,aF,aD,bC,bD,lO,lP,lQ,lR,eX,eY,dW,dX,mP,mQ,eaa,hlta,aL,aY,eai,hlti,aN,bJ,aB.aM,aX.aM]
     try(with_reducible intro _)
     refine aH.wn4 (tU.sub (by repeat'(first|exact bQ.nil|refine bQ.cons ?_ ?_|exact Sub.refl _|(rw[aB.aM];exact Sub.refl _)|exact Sub.cK rfl rfl rfl|exact Sub.ip (bF aA) aS|exact Sub.cK (bF aA) rfl rfl|exact Sub.ip bU aS|exact Sub.cK bU bS bS)) hxi) zI ⟨aR0,cB⟩ ⟨dP,aR1,cU⟩ ⟨sK,oT,aR2,kB⟩ ?_
     rintro r l_ gb ⟨e_b,oeb,rfl,rfl⟩ wb zI cB cU kB
     have oob:=oeb
     rw[aB.xU]at oob
     obtain⟨zH,rfl,kC⟩:=oob
     try simp -dsimp -implicitDefEqProofs only[go_sem,↓reduceIte,Tryz.f159,aF,aD,bC,bD,lO,lP,lQ,lR,eX,eY,dW,dX,mP,mQ,eaa,hlta,aL,aY,eai,hlti,aN,bJ,kC.flat,kC.one,OV.aR,OV.aG,OV.bE,aB.aM,aX.aM]
     repeat'(with_reducible first|refine And.intro eP ?_)
     intro mi qmi
     obtain⟨sU,sV,sW,aH3⟩:=cE (show ¬mi=n5 from qmi.1)
     obtain⟨sX,sY,sZ,aH4⟩:=cE (show ¬mi=n3 from qmi.2.1)
     obtain⟨s0,s4,s5,aH5⟩:=cE (show ¬mi=n2 from qmi.2.2.1)
     obtain⟨aIP,aIQ,aIR,a52⟩:=cE (show ¬mi=na from qmi.2.2.2.1)
     have aH6:=qmi.2.2.2.2
     try simp -dsimp -implicitDefEqProofs only[go_sem,↓reduceIte,Tryz.f159,aF,aD,bC,bD,lO,lP,lQ,lR,eX,eY,dW,dX,mP,mQ,sV,sW,sY,sZ,s4,s5,aIQ,aIR,eaa,hlta,aL,aY,eai,hlti,aN,bJ,kC.flat,kC.one,OV.aR,OV.aG,OV.bE]
     refine⟨(ki+1,([]:List (List OV))++[[.v (.int .i64 x.aJ[ka].bB[ki].bH),.v (.int .i64 x.aJ[ka].bB[ki].cC),.v (.int .i64 x.aJ[ka].bB[ki].dO),.v (.int .i64 x.aJ[ka].bB[ki].dF),zH]],gb,some mi),?_⟩
     simp only
     refine⟨?_,lE,⟨by omega,OR.snoc hori hlti oeb,hnewi.snoc wb,zI,cB,cU,kB,aH6,(λn_ e_=>by obtain rfl:=dY e_;exact⟨aIP,s0,sX,sU⟩)⟩,by omega⟩
     all_goals(repeat'(with_reducible refine And.intro ?_ ?_))
     all_goals first|rfl|trivial|(rw[IntWalk.i64_in _ aA];omega)
    |some ni =>
     rw[kM]at hosi
     have aRZ:=hosi
     have hni:=honi ni rfl
     obtain⟨bTL,aFL,aFM,a54⟩:=cE (show ¬ni=na from hni.1)
     obtain⟨a5K,qH,qI,aH7⟩:=cE (show ¬ni=n2 from hni.2.1)
     obtain⟨a5L,qJ,qK,aH8⟩:=cE (show ¬ni=n3 from hni.2.2.1)
     obtain⟨a5M,qL,qM,aH9⟩:=cE (show ¬ni=n5 from hni.2.2.2)
     try simp -dsimp -implicitDefEqProofs only[go_sem,↓reduceIte,Tryz.f159,aF,aD,bC,bD,lO,lP,lQ,lR,eX,eY,dW,dX,mP,mQ,aFL,aFM,qH,qI,qJ,qK,qL,qM,eaa,hlta,aL,aY,eai,hlti,aL,aY,aB.aM,aX.aM]
     try(with_reducible intro _)
     refine aH.wn5 (tU.sub (by repeat'(first|exact bQ.nil|refine bQ.cons ?_ ?_|exact Sub.refl _|(rw[aB.aM];exact Sub.refl _)|exact Sub.cK rfl rfl rfl|exact Sub.ip (bF aA) aS|exact Sub.cK (bF aA) rfl rfl|exact Sub.ip bU aS|exact Sub.cK bU bS bS)) hxi) aRZ ⟨a54,zI⟩ ⟨aR0,aH7,cB⟩ ⟨dP,aR1,aH8,cU⟩ ⟨sK,oT,aR2,aH9,kB⟩ ?_
     rintro r l_ gb ⟨e_b,oeb,rfl,rfl⟩ wb aRZ zI cB cU kB
     have oob:=oeb
     rw[aB.xU]at oob
     obtain⟨zH,rfl,kC⟩:=oob
     try simp -dsimp -implicitDefEqProofs only[go_sem,↓reduceIte,Tryz.f159,aF,aD,bC,bD,lO,lP,lQ,lR,eX,eY,dW,dX,mP,mQ,aFL,aFM,qH,qI,qJ,qK,qL,qM,eaa,hlta,aL,aY,eai,hlti,aL,aY,kC.flat,kC.one,OV.aR,OV.aG,OV.bE,aB.aM,aX.aM]
     repeat'(with_reducible first|refine And.intro eP ?_)
     intro mi qmi
     obtain⟨sU,sV,sW,aH3⟩:=cE (show ¬mi=n5 from qmi.1)
     obtain⟨sX,sY,sZ,aH4⟩:=cE (show ¬mi=n3 from qmi.2.1)
     obtain⟨s0,s4,s5,aH5⟩:=cE (show ¬mi=n2 from qmi.2.2.1)
     obtain⟨aIP,aIQ,aIR,a52⟩:=cE (show ¬mi=na from qmi.2.2.2.1)
     obtain⟨a5P,aIC,aID,a5Q⟩:=cE (show ¬mi=ni from qmi.2.2.2.2.1)
     have aH6:=qmi.2.2.2.2.2
     try simp -dsimp -implicitDefEqProofs only[go_sem,↓reduceIte,Tryz.f159,aF,aD,bC,bD,lO,lP,lQ,lR,eX,eY,dW,dX,mP,mQ,aFL,aFM,qH,qI,qJ,qK,qL,qM,sV,sW,sY,sZ,s4,s5,aIQ,aIR,aIC,aID,eaa,hlta,aL,aY,eai,hlti,aL,aY,kC.flat,kC.one,OV.aR,OV.aG,OV.bE]
     refine⟨(ki+1,esi++[[.v (.int .i64 x.aJ[ka].bB[ki].bH),.v (.int .i64 x.aJ[ka].bB[ki].cC),.v (.int .i64 x.aJ[ka].bB[ki].dO),.v (.int .i64 x.aJ[ka].bB[ki].dF),zH]],gb,some mi),?_⟩
     simp only
     refine⟨?_,lE,⟨by omega,OR.snoc hori hlti oeb,hnewi.snoc wb,zI,cB,cU,kB,aH6,(λn_ e_=>by obtain rfl:=dY e_;exact⟨aIP,s0,sX,sU⟩)⟩,by omega⟩
     all_goals(repeat'(with_reducible refine And.intro ?_ ?_))
     all_goals first|rfl|trivial|(rw[IntWalk.i64_in _ aA];omega)
   ·have a5R:ki=x.aJ[ka].bB.length:=by omega
    subst a5R
    rw[eL]at hori
    have a55:c7 gi_ (.row 5 (OV.cells esi)) wR na=none:=eZ zI λn_ e_=>(honi n_ e_).1
    have aIE:c7 gi_ (.row 5 (OV.cells esi)) wR n2=none:=eZ cB λn_ e_=>(honi n_ e_).2.1
    have aIF:c7 gi_ (.row 5 (OV.cells esi)) wR n3=none:=eZ cU λn_ e_=>(honi n_ e_).2.2.1
    have aIG:c7 gi_ (.row 5 (OV.cells esi)) wR n5=none:=eZ kB λn_ e_=>(honi n_ e_).2.2.2
    try simp -dsimp -implicitDefEqProofs only[go_sem,↓reduceIte,Tryz.f159,aF,aD,bC,bD,lO,lP,lQ,lR,eX,eY,dW,dX,mP,mQ,eaa,hlta,aL,aY,fR,iN,OV.aR,OV.aG,OV.bE,cN,aX.aM]
    try(with_reducible intro _)
    repeat'(with_reducible first|refine And.intro eP ?_)
    have zI:=a55
    have cB:=aIE
    have cU:=aIF
    have kB:=aIG
    have wf:=q9 (sz:=5) hnewi hosi
    intro ma qma
    obtain⟨a5V,aIH,aII,a5W⟩:=cE (show ¬ma=n5 from qma.1)
    obtain⟨aER,aIJ,aIK,a5X⟩:=cE (show ¬ma=n3 from qma.2.1)
    obtain⟨aEQ,aIL,aIM,a5Y⟩:=cE (show ¬ma=n2 from qma.2.2.1)
    obtain⟨bTM,a56,a57,bTN⟩:=cE (show ¬ma=na from qma.2.2.2.1)
    have a5Z:=qma.2.2.2.2
    try simp -dsimp -implicitDefEqProofs only[go_sem,↓reduceIte,Tryz.f159,aF,aD,bC,bD,lO,lP,lQ,lR,eX,eY,dW,dX,mP,mQ,aIH,aII,aIJ,aIK,aIL,aIM,a56,a57,eaa,hlta,aL,aY,fR,iN,OV.aR,OV.aG,OV.bE]
    refine⟨(ka+1,esa++[[.v (.str x.aJ[ka].fT),.v (I x.aJ[ka].bV),(gov 5 esi wR)]],(c7 gi_ (.row 5 (OV.cells esi)) wR),some ma),?_⟩
    simp only
    refine⟨?_,(Heap.wk.trans (b:=(bT (bT (c7 (c7 gi_ (.row 5 (OV.cells esi)) wR) (.row 3 (OV.cells esa++[[Cell.v (.str x.aJ[ka].fT),Cell.v (I x.aJ[ka].bV),Cell.v (jV 5 esi.length wR)]])) (some ma)) n2 (.row 1 [[.v .aV]])) n3 (.row 1 [[.v (jV 3 (esa++[[.v (.str x.aJ[ka].fT),.v (I x.aJ[ka].bV),(gov 5 esi wR)]]).length (some ma))]]))) (Heap.aHL (m:=ma) (sz:=3) (es:=(OV.cells esa++[[Cell.v (.str x.aJ[ka].fT),Cell.v (I x.aJ[ka].bV),Cell.v (jV 5 esi.length wR)]])) (es':=OV.cells (esa++[[.v (.str x.aJ[ka].fT),.v (I x.aJ[ka].bV),(gov 5 esi wR)]])) (λq_ hq_=>by simp only[dC,aL,if_neg hq_]) aM8 aM8 bKS) (Heap.iO lE)),⟨by omega,OR.snoc hora hlta ⟨_,rfl,wC hori hosi⟩,hnewa.snoc a8W,cB,cU,a5Z,(λn_ e_=>by obtain rfl:=dY e_;exact⟨aEQ,aER⟩)⟩,by omega⟩
    all_goals(repeat'(with_reducible refine And.intro ?_ ?_))
    all_goals first|rfl|trivial|(rw[IntWalk.i64_in _ aA];omega)
 ·have bTO:ka=x.aJ.length:=by omega
  subst bTO
  rw[eL]at hora
  have bTP:c7 ga_ (.row 3 (OV.cells esa)) oa_ n2=none:=eZ cB λn_ e_=>(hona n_ e_).1
  have bTQ:c7 ga_ (.row 3 (OV.cells esa)) oa_ n3=none:=eZ cU λn_ e_=>(hona n_ e_).2
  try simp -dsimp -implicitDefEqProofs only[go_sem,↓reduceIte,Tryz.f159,aF,aD,bC,bD,fR,iN,cN]
  try(with_reducible intro _)
  refine⟨_,(c7 ga_ (.row 3 (OV.cells esa)) oa_),_,Shift.of (Sub.agg (bQ.cons wL bQ.nil)) lE,⟨[(gov 3 esa oa_)],?_,rfl,rfl⟩,?_⟩
  ·exact⟨(gov 3 esa oa_),rfl,wC hora hosa⟩
  ·have hq:=(q9 (sz:=3) hnewa hosa)
   simpa only[OV.gG,OV.j9,OV.rN,al0,wP,qT]using hq
@[go_sem] def bAY:List Nat:=[0,1,2,3,5,18,19,20,21]
@[go_sem] def bQJ:List Nat:=[1,28]
@[go_sem] def bQK:Marks:=λid=>match id with|1=>([2,9,11,12],(.op 0 (.op 1 (.op 3 (.op 4 (.op 5 (.op 6 (.op 7 (.op 8 (.alt 2 (.alt 9 (.op 10 (.op 11 (.op 12 .nil))) 11 (.op 9 (.op 10 (.op 12 .nil)))) 11 (.op 2 (.op 9 (.op 10 (.op 12 .nil))))))))))))),[])|5=>([1,3,5,7],(.op 0 (.op 2 (.op 1 (.op 3 (.op 4 (.op 5 (.op 6 (.op 7 .nil)))))))),[(1,3)])|_=>([],.nil,[])
set_option maxHeartbeats 1000000 in
theorem aR3 (x:dN) (hs:x.s<=1048576):tU Tryz.prog 127 [.agg x.c] (QA x.o):=by
 have hs':=x.fQ
 have rO:=x.bN.fQ
 try simp only[fF]at hs'
 simp only[dN.aM]
 refine x9 33 bAY bQJ bQK Tryz.func127 λh=>?_
 try simp -dsimp -implicitDefEqProofs only[go_sem,↓reduceIte,Tryz.f127,aF,aD]
 intro n2 qn2
 have cB:=qn2
 try simp -dsimp -implicitDefEqProofs only[go_sem,↓reduceIte,Tryz.f127,aF,aD]
 try(with_reducible refine And.intro cM ?_)
 refine⟨?_,?_⟩
 rotate_left
 focus
  intro n3 sJ
  obtain⟨dP,bC,bD,nQ⟩:=cE (show ¬n3=n2 from sJ.1)
  have cU:=sJ.2
  try simp -dsimp -implicitDefEqProofs only[go_sem,↓reduceIte,Tryz.f127,aF,aD,bC,bD,OV.aR,OV.aG,OV.bE]
  refine aH.oX ((aKJ x.bN aA)) cB ⟨dP,cU⟩ ?_
  rintro r l_ gc0 ⟨aXO,aDH,rfl,rfl⟩ wc0 cB cU
  have aDI:=aDH
  obtain⟨k9,rfl,aZ⟩:=aDI
  try simp -dsimp -implicitDefEqProofs only[go_sem,↓reduceIte,Tryz.f127,aF,aD,bC,bD,aZ.flat,aZ.one,OV.aR,OV.aG,OV.bE]
  refine aH.oX (sI x.cT aA) cB ⟨dP,cU⟩ ?_
  rintro r l_ gc1 ⟨oK,bP,rfl,rfl⟩ wc1 cB cU
  try simp -dsimp -implicitDefEqProofs only[go_sem,↓reduceIte,Tryz.f127,aF,aD,bC,bD,aZ.flat,aZ.one,bP.flat,bP.one,OV.aR,OV.aG,OV.bE]
  repeat'(with_reducible first|refine And.intro eP ?_)
  try(with_reducible intro _)
 rotate_right
 refine aH.wn1 ((aKJ x.bN aA)) cB ?_
 rintro r l_ gc0 ⟨aXO,aDH,rfl,rfl⟩ wc0 cB
 have aDI:=aDH
 obtain⟨k9,rfl,aZ⟩:=aDI
 try simp -dsimp -implicitDefEqProofs only[go_sem,↓reduceIte,Tryz.f127,aF,aD,aZ.flat,aZ.one,OV.aR,OV.aG,OV.bE]
 try(with_reducible refine And.intro cM ?_)
 refine⟨?_,?_⟩
 rotate_left
 focus
  intro n3 sJ
  obtain⟨dP,bC,bD,nQ⟩:=cE (show ¬n3=n2 from sJ.1)
  have cU:=sJ.2
  try simp -dsimp -implicitDefEqProofs only[go_sem,↓reduceIte,Tryz.f127,aF,aD,bC,bD,aZ.flat,aZ.one,OV.aR,OV.aG,OV.bE]
  refine aH.oX (sI x.cT aA) cB ⟨dP,cU⟩ ?_
  rintro r l_ gc1 ⟨oK,bP,rfl,rfl⟩ wc1 cB cU
  try simp -dsimp -implicitDefEqProofs only[go_sem,↓reduceIte,Tryz.f127,aF,aD,bC,bD,aZ.flat,aZ.one,bP.flat,bP.one,OV.aR,OV.aG,OV.bE]
  repeat'(with_reducible first|refine And.intro eP ?_)
  try(with_reducible intro _)
 rotate_right
 refine aH.wn1 (sI x.cT aA) cB ?_
 rintro r l_ gc1 ⟨oK,bP,rfl,rfl⟩ wc1 cB
 try simp -dsimp -implicitDefEqProofs only[go_sem,↓reduceIte,Tryz.f127,aF,aD,aZ.flat,aZ.one,bP.flat,bP.one,OV.aR,OV.aG,OV.bE]
 repeat'(with_reducible first|refine And.intro eP ?_)
 intro n3 sJ
 obtain⟨dP,bC,bD,nQ⟩:=cE (show ¬n3=n2 from sJ.1)
 have cU:=sJ.2
 try simp -dsimp -implicitDefEqProofs only[go_sem,↓reduceIte,Tryz.f127,aF,aD,bC,bD,aZ.flat,aZ.one,bP.flat,bP.one,OV.aR,OV.aG,OV.bE]
 try(with_reducible intro _)
 all_goals
  refine cY bAY bQJ bQK (λs:Nat×List (List OV)×Heap×Option Nat=>[(2,.op n2 5 0 0),(3,.op n3 5 0 0),(18,cI 1 (λl=>[cI 1 (λn=>[I n]) l]) x.aQ),(19,I x.aQ.length),(20,(I s.1))]) (λs=>(bT (bT (c7 s.2.2.1 (.row 1 (OV.cells s.2.1)) s.2.2.2) n2 (.row 5 [[.v (.aV),.v (.int .i64 0),.v (.int .i64 0),.v (.aV),.v (.aV)]])) n3 (.row 5 [[.v (k9.val),.v (I x.b5),.v (I x.aU),.v (oK.val),.v (jV 1 s.2.1.length s.2.2.2)]]))) (λs=>s.1<=x.aQ.length/\OR (oS (oP I) 1) (x.aQ.take s.1) s.2.1/\eW gc1 (OV.cW s.2.1) s.2.2.1/\s.2.2.1 n2=none/\s.2.2.1 n3=none/\wU s.2.2.1 s.2.1 s.2.2.2/\∀ n:Nat,s.2.2.2=some n->n≠n2/\n≠n3) (λs=>x.aQ.length-s.1) (0,[],gc1,none) ?_ ?_
  ·exact⟨by simp[dT,dB],lE,iZ _,trivial,eW.nil _,cB,cU,rfl,by simp⟩
  rintro⟨k,es,g_,o_⟩ ⟨hkk,hor,hnew,cB,cU,hos,hon⟩
  simp only at hkk hor hnew cB cU hos hon ⊢
  have hlen:es.length=k:=by have:=hor.length;simp at this;omega
  rcases cP k x.aQ.length with hlt|hge
  ·have ea:x.aQ[k]?=some x.aQ[k]:=b6 hlt
   have hx:=sI x.aQ[k] bOT
   cases o_ with
   |none =>
    rw[jP]at hos
    subst hos
    try simp -dsimp -implicitDefEqProofs only[go_sem,↓reduceIte,Tryz.f127,aF,aD,bC,bD,ea,hlt,aN,bJ,aZ.flat,aZ.one,bP.flat,bP.one]
    try(with_reducible intro _)
    refine aH.oX (hx) cB ⟨dP,cU⟩ ?_
    rintro r l_ gc ⟨aR4,zL,rfl,rfl⟩ wc cB cU
    try simp -dsimp -implicitDefEqProofs only[go_sem,↓reduceIte,Tryz.f127,aF,aD,bC,bD,ea,hlt,aN,bJ,aZ.flat,aZ.one,bP.flat,bP.one,zL.flat,zL.one,OV.aR,OV.aG,OV.bE]
    repeat'(with_reducible first|refine And.intro eP ?_)
    intro m qm
    obtain⟨u9,vA,vB,aKK⟩:=cE (show ¬m=n3 from qm.1)
    obtain⟨oD,oE,oF,aBY⟩:=cE (show ¬m=n2 from qm.2.1)
    have z_m:=qm.2.2
    try simp -dsimp -implicitDefEqProofs only[go_sem,↓reduceIte,Tryz.f127,aF,aD,bC,bD,vA,vB,oE,oF,ea,hlt,aN,bJ,aZ.flat,aZ.one,bP.flat,bP.one,zL.flat,zL.one,OV.aR,OV.aG,OV.bE]
    refine⟨(k+1,([]:List (List OV))++[[aR4]],gc,some m),?_⟩
    simp only
    refine⟨?_,lE,⟨by omega,OR.snoc hor hlt ⟨aR4,rfl,zL⟩,hnew.snoc a8Z,cB,cU,z_m,(λn_ e_=>by obtain rfl:=dY e_;exact⟨oD,u9⟩)⟩,by omega⟩
    all_goals(repeat'(with_reducible refine And.intro ?_ ?_))
    all_goals first|rfl|trivial|(rw[IntWalk.i64_in _ aA];omega)
   |some n =>
    rw[kM]at hos
    have z_n:=hos
    have hn:=hon n rfl
    obtain⟨aVE,nE,nF,aBZ⟩:=cE (show ¬n=n2 from hn.1)
    obtain⟨bAZ,tM,tN,aKL⟩:=cE (show ¬n=n3 from hn.2)
    try simp -dsimp -implicitDefEqProofs only[go_sem,↓reduceIte,Tryz.f127,aF,aD,bC,bD,nE,nF,tM,tN,ea,hlt,aL,aY,aZ.flat,aZ.one,bP.flat,bP.one]
    try(with_reducible intro _)
    refine aH.wn3 (hx) z_n ⟨aBZ,cB⟩ ⟨dP,aKL,cU⟩ ?_
    rintro r l_ gc ⟨aR4,zL,rfl,rfl⟩ wc z_n cB cU
    try simp -dsimp -implicitDefEqProofs only[go_sem,↓reduceIte,Tryz.f127,aF,aD,bC,bD,nE,nF,tM,tN,ea,hlt,aL,aY,aZ.flat,aZ.one,bP.flat,bP.one,zL.flat,zL.one,OV.aR,OV.aG,OV.bE]
    repeat'(with_reducible first|refine And.intro eP ?_)
    intro m qm
    obtain⟨u9,vA,vB,aKK⟩:=cE (show ¬m=n3 from qm.1)
    obtain⟨oD,oE,oF,aBY⟩:=cE (show ¬m=n2 from qm.2.1)
    obtain⟨bDP,aL5,aL6,bDQ⟩:=cE (show ¬m=n from qm.2.2.1)
    have z_m:=qm.2.2.2
    try simp -dsimp -implicitDefEqProofs only[go_sem,↓reduceIte,Tryz.f127,aF,aD,bC,bD,nE,nF,tM,tN,vA,vB,oE,oF,aL5,aL6,ea,hlt,aL,aY,aZ.flat,aZ.one,bP.flat,bP.one,zL.flat,zL.one,OV.aR,OV.aG,OV.bE]
    refine⟨(k+1,es++[[aR4]],gc,some m),?_⟩
    simp only
    refine⟨?_,lE,⟨by omega,OR.snoc hor hlt ⟨aR4,rfl,zL⟩,hnew.snoc a8Z,cB,cU,z_m,(λn_ e_=>by obtain rfl:=dY e_;exact⟨oD,u9⟩)⟩,by omega⟩
    all_goals(repeat'(with_reducible refine And.intro ?_ ?_))
    all_goals first|rfl|trivial|(rw[IntWalk.i64_in _ aA];omega)
  ·have hk2:k=x.aQ.length:=by omega
   subst hk2
   rw[eL]at hor
   have aVF:c7 g_ (.row 1 (OV.cells es)) o_ n2=none:=eZ cB λn_ e_=>(hon n_ e_).1
   have bA0:c7 g_ (.row 1 (OV.cells es)) o_ n3=none:=eZ cU λn_ e_=>(hon n_ e_).2
   try simp -dsimp -implicitDefEqProofs only[go_sem,↓reduceIte,Tryz.f127,aF,aD,bC,bD,fR,iN,aZ.flat,aZ.one,bP.flat,bP.one,cN]
   try(with_reducible intro _)
   refine⟨_,(c7 g_ (.row 1 (OV.cells es)) o_),_,Shift.of (Sub.agg (bQ.cons (Sub.refl _) (bQ.cons (Sub.refl _) (bQ.cons (Sub.refl _) (bQ.cons (Sub.refl _) (bQ.cons wL bQ.nil)))))) lE,⟨[k9,.v (I x.b5),.v (I x.aU),oK,(gov 1 es o_)],?_,rfl,rfl⟩,?_⟩
   ·exact⟨k9,oK,(gov 1 es o_),rfl,aZ,bP,wC hor hos⟩
   ·have hq:=(eW.append (eW.append wc0 wc1) (q9 (sz:=1) hnew hos))
    simpa only[OV.gG,OV.j9,OV.rN,al0,wP,qT]using hq
@[go_sem] def bA1:List Nat:=[0,2,3,4,29]
@[go_sem] def bQL:List Nat:=[42]
@[go_sem] def bQM:Marks:=λid=>match id with|1=>([3,16,18,19],(.op 0 (.op 1 (.op 2 (.op 4 (.op 5 (.op 6 (.op 7 (.op 8 (.op 9 (.op 10 (.op 11 (.op 12 (.op 13 (.op 14 (.op 15 (.alt 3 (.alt 16 (.op 17 (.op 18 (.op 19 .nil))) 18 (.op 16 (.op 17 (.op 19 .nil)))) 18 (.op 3 (.op 16 (.op 17 (.op 19 .nil)))))))))))))))))))),[])|5=>([1,9,11,13],(.op 0 (.op 2 (.op 3 (.op 4 (.op 5 (.op 6 (.op 7 (.op 8 (.op 1 (.op 9 (.op 10 (.op 11 (.op 12 (.op 13 .nil)))))))))))))),[(1,9)])|_=>([],.nil,[])
set_option maxHeartbeats 1000000 in
theorem aMA (x:dN) (hs:x.s<=1048576):tU Tryz.prog 113 [.ip 5 [x.c] 0 0] (QA x.o):=by
 have hs':=x.fQ
 have rO:=x.bN.fQ
 try simp only[fF]at hs'
 simp only[dN.aM]
 refine x9 46 bA1 bQL bQM Tryz.func113 λh=>?_
 try simp -dsimp -implicitDefEqProofs only[go_sem,↓reduceIte,Tryz.f113,aF,aD]
 intro n2 qn2
 have cB:=qn2
 try simp -dsimp -implicitDefEqProofs only[go_sem,↓reduceIte,Tryz.f113,aF,aD]
 try(with_reducible refine And.intro cM ?_)
 refine⟨?_,?_⟩
 rotate_left
 focus
  intro n3 sJ
  obtain⟨dP,bC,bD,nQ⟩:=cE (show ¬n3=n2 from sJ.1)
  have cU:=sJ.2
  try simp -dsimp -implicitDefEqProofs only[go_sem,↓reduceIte,Tryz.f113,aF,aD,bC,bD,OV.aR,OV.aG,OV.bE]
  refine aH.oX (tU.sub (by repeat'(first|exact bQ.nil|refine bQ.cons ?_ ?_|exact Sub.refl _|(rw[aB.aM];exact Sub.refl _)|exact Sub.cK rfl rfl rfl|exact Sub.ip (bF aA) aS|exact Sub.cK (bF aA) rfl rfl|exact Sub.ip bU aS|exact Sub.cK bU bS bS)) (aG0 x.bN aA)) cB ⟨dP,cU⟩ ?_
  rintro r l_ gc0 ⟨aXO,aDH,rfl,rfl⟩ wc0 cB cU
  have aDI:=aDH
  obtain⟨k9,rfl,aZ⟩:=aDI
  try simp -dsimp -implicitDefEqProofs only[go_sem,↓reduceIte,Tryz.f113,aF,aD,bC,bD,aZ.flat,aZ.one,OV.aR,OV.aG,OV.bE]
  refine aH.oX (lN x.cT aA) cB ⟨dP,cU⟩ ?_
  rintro r l_ gc1 ⟨oK,bP,rfl,rfl⟩ wc1 cB cU
  try simp -dsimp -implicitDefEqProofs only[go_sem,↓reduceIte,Tryz.f113,aF,aD,bC,bD,aZ.flat,aZ.one,bP.flat,bP.one,OV.aR,OV.aG,OV.bE]
  repeat'(with_reducible first|refine And.intro eP ?_)
  try(with_reducible intro _)
 rotate_right
 refine aH.wn1 (tU.sub (by repeat'(first|exact bQ.nil|refine bQ.cons ?_ ?_|exact Sub.refl _|(rw[aB.aM];exact Sub.refl _)|exact Sub.cK rfl rfl rfl|exact Sub.ip (bF aA) aS|exact Sub.cK (bF aA) rfl rfl|exact Sub.ip bU aS|exact Sub.cK bU bS bS)) (aG0 x.bN aA)) cB ?_
 rintro r l_ gc0 ⟨aXO,aDH,rfl,rfl⟩ wc0 cB
 have aDI:=aDH
 obtain⟨k9,rfl,aZ⟩:=aDI
 try simp -dsimp -implicitDefEqProofs only[go_sem,↓reduceIte,Tryz.f113,aF,aD,aZ.flat,aZ.one,OV.aR,OV.aG,OV.bE]
 try(with_reducible refine And.intro cM ?_)
 refine⟨?_,?_⟩
 rotate_left
 focus
  intro n3 sJ
  obtain⟨dP,bC,bD,nQ⟩:=cE (show ¬n3=n2 from sJ.1)
  have cU:=sJ.2
  try simp -dsimp -implicitDefEqProofs only[go_sem,↓reduceIte,Tryz.f113,aF,aD,bC,bD,aZ.flat,aZ.one,OV.aR,OV.aG,OV.bE]
  refine aH.oX (lN x.cT aA) cB ⟨dP,cU⟩ ?_
  rintro r l_ gc1 ⟨oK,bP,rfl,rfl⟩ wc1 cB cU
  try simp -dsimp -implicitDefEqProofs only[go_sem,↓reduceIte,Tryz.f113,aF,aD,bC,bD,aZ.flat,aZ.one,bP.flat,bP.one,OV.aR,OV.aG,OV.bE]
  repeat'(with_reducible first|refine And.intro eP ?_)
  try(with_reducible intro _)
 rotate_right
 refine aH.wn1 (lN x.cT aA) cB ?_
 rintro r l_ gc1 ⟨oK,bP,rfl,rfl⟩ wc1 cB
 try simp -dsimp -implicitDefEqProofs only[go_sem,↓reduceIte,Tryz.f113,aF,aD,aZ.flat,aZ.one,bP.flat,bP.one,OV.aR,OV.aG,OV.bE]
 repeat'(with_reducible first|refine And.intro eP ?_)
 intro n3 sJ
 obtain⟨dP,bC,bD,nQ⟩:=cE (show ¬n3=n2 from sJ.1)
 have cU:=sJ.2
 try simp -dsimp -implicitDefEqProofs only[go_sem,↓reduceIte,Tryz.f113,aF,aD,bC,bD,aZ.flat,aZ.one,bP.flat,bP.one,OV.aR,OV.aG,OV.bE]
 try(with_reducible intro _)
 all_goals
  refine cY bA1 bQL bQM (λs:Nat×List (List OV)×Heap×Option Nat=>[(0,.ip 5 [[cI 3 aX.c x.bN.aJ,I x.b5,I x.aU,cI 1 (λn=>[I n]) x.cT,cI 1 (λl=>[cI 1 (λn=>[I n]) l]) x.aQ]] 0 0),(2,.op n2 5 0 0),(3,.op n3 5 0 0),(4,(I s.1))]) (λs=>(bT (bT (c7 s.2.2.1 (.row 1 (OV.cells s.2.1)) s.2.2.2) n2 (.row 5 [[.v (.aV),.v (.int .i64 0),.v (.int .i64 0),.v (.aV),.v (.aV)]])) n3 (.row 5 [[.v (k9.val),.v (I x.b5),.v (I x.aU),.v (oK.val),.v (jV 1 s.2.1.length s.2.2.2)]]))) (λs=>s.1<=x.aQ.length/\OR (oS (oP I) 1) (x.aQ.take s.1) s.2.1/\eW gc1 (OV.cW s.2.1) s.2.2.1/\s.2.2.1 n2=none/\s.2.2.1 n3=none/\wU s.2.2.1 s.2.1 s.2.2.2/\∀ n:Nat,s.2.2.2=some n->n≠n2/\n≠n3) (λs=>x.aQ.length-s.1) (0,[],gc1,none) ?_ ?_
  ·exact⟨by simp[dT,dB],lE,iZ _,trivial,eW.nil _,cB,cU,rfl,by simp⟩
  rintro⟨k,es,g_,o_⟩ ⟨hkk,hor,hnew,cB,cU,hos,hon⟩
  simp only at hkk hor hnew cB cU hos hon ⊢
  have hlen:es.length=k:=by have:=hor.length;simp at this;omega
  rcases cP k x.aQ.length with hlt|hge
  ·have ea:x.aQ[k]?=some x.aQ[k]:=b6 hlt
   have hx:=lN x.aQ[k] bOT
   cases o_ with
   |none =>
    rw[jP]at hos
    subst hos
    try simp -dsimp -implicitDefEqProofs only[go_sem,↓reduceIte,Tryz.f113,aF,aD,bC,bD,ea,hlt,aN,bJ,aZ.flat,aZ.one,bP.flat,bP.one]
    try(with_reducible intro _)
    refine aH.oX (hx) cB ⟨dP,cU⟩ ?_
    rintro r l_ gc ⟨aR4,zL,rfl,rfl⟩ wc cB cU
    try simp -dsimp -implicitDefEqProofs only[go_sem,↓reduceIte,Tryz.f113,aF,aD,bC,bD,ea,hlt,aN,bJ,aZ.flat,aZ.one,bP.flat,bP.one,zL.flat,zL.one,OV.aR,OV.aG,OV.bE]
    repeat'(with_reducible first|refine And.intro eP ?_)
    intro m qm
    obtain⟨u9,vA,vB,aKK⟩:=cE (show ¬m=n3 from qm.1)
    obtain⟨oD,oE,oF,aBY⟩:=cE (show ¬m=n2 from qm.2.1)
    have z_m:=qm.2.2
    try simp -dsimp -implicitDefEqProofs only[go_sem,↓reduceIte,Tryz.f113,aF,aD,bC,bD,vA,vB,oE,oF,ea,hlt,aN,bJ,aZ.flat,aZ.one,bP.flat,bP.one,zL.flat,zL.one,OV.aR,OV.aG,OV.bE]
    refine⟨(k+1,([]:List (List OV))++[[aR4]],gc,some m),?_⟩
    simp only
    refine⟨?_,lE,⟨by omega,OR.snoc hor hlt ⟨aR4,rfl,zL⟩,hnew.snoc a8Z,cB,cU,z_m,(λn_ e_=>by obtain rfl:=dY e_;exact⟨oD,u9⟩)⟩,by omega⟩
    all_goals(repeat'(with_reducible refine And.intro ?_ ?_))
    all_goals first|rfl|trivial|(rw[IntWalk.i64_in _ aA];omega)
   |some n =>
    rw[kM]at hos
    have z_n:=hos
    have hn:=hon n rfl
    obtain⟨aVE,nE,nF,aBZ⟩:=cE (show ¬n=n2 from hn.1)
    obtain⟨bAZ,tM,tN,aKL⟩:=cE (show ¬n=n3 from hn.2)
    try simp -dsimp -implicitDefEqProofs only[go_sem,↓reduceIte,Tryz.f113,aF,aD,bC,bD,nE,nF,tM,tN,ea,hlt,aL,aY,aZ.flat,aZ.one,bP.flat,bP.one]
    try(with_reducible intro _)
    refine aH.wn3 (hx) z_n ⟨aBZ,cB⟩ ⟨dP,aKL,cU⟩ ?_
    rintro r l_ gc ⟨aR4,zL,rfl,rfl⟩ wc z_n cB cU
    try simp -dsimp -implicitDefEqProofs only[go_sem,↓reduceIte,Tryz.f113,aF,aD,bC,bD,nE,nF,tM,tN,ea,hlt,aL,aY,aZ.flat,aZ.one,bP.flat,bP.one,zL.flat,zL.one,OV.aR,OV.aG,OV.bE]
    repeat'(with_reducible first|refine And.intro eP ?_)
    intro m qm
    obtain⟨u9,vA,vB,aKK⟩:=cE (show ¬m=n3 from qm.1)
    obtain⟨oD,oE,oF,aBY⟩:=cE (show ¬m=n2 from qm.2.1)
    obtain⟨bDP,aL5,aL6,bDQ⟩:=cE (show ¬m=n from qm.2.2.1)
    have z_m:=qm.2.2.2
    try simp -dsimp -implicitDefEqProofs only[go_sem,↓reduceIte,Tryz.f113,aF,aD,bC,bD,nE,nF,tM,tN,vA,vB,oE,oF,aL5,aL6,ea,hlt,aL,aY,aZ.flat,aZ.one,bP.flat,bP.one,zL.flat,zL.one,OV.aR,OV.aG,OV.bE]
    refine⟨(k+1,es++[[aR4]],gc,some m),?_⟩
    simp only
    refine⟨?_,lE,⟨by omega,OR.snoc hor hlt ⟨aR4,rfl,zL⟩,hnew.snoc a8Z,cB,cU,z_m,(λn_ e_=>by obtain rfl:=dY e_;exact⟨oD,u9⟩)⟩,by omega⟩
    all_goals(repeat'(with_reducible refine And.intro ?_ ?_))
    all_goals first|rfl|trivial|(rw[IntWalk.i64_in _ aA];omega)
  ·have hk2:k=x.aQ.length:=by omega
   subst hk2
   rw[eL]at hor
   have aVF:c7 g_ (.row 1 (OV.cells es)) o_ n2=none:=eZ cB λn_ e_=>(hon n_ e_).1
   have bA0:c7 g_ (.row 1 (OV.cells es)) o_ n3=none:=eZ cU λn_ e_=>(hon n_ e_).2
   try simp -dsimp -implicitDefEqProofs only[go_sem,↓reduceIte,Tryz.f113,aF,aD,bC,bD,fR,iN,aZ.flat,aZ.one,bP.flat,bP.one,cN]
   try(with_reducible intro _)
   refine⟨_,(c7 g_ (.row 1 (OV.cells es)) o_),_,Shift.of (Sub.agg (bQ.cons (Sub.refl _) (bQ.cons (Sub.refl _) (bQ.cons (Sub.refl _) (bQ.cons (Sub.refl _) (bQ.cons wL bQ.nil)))))) lE,⟨[k9,.v (I x.b5),.v (I x.aU),oK,(gov 1 es o_)],?_,rfl,rfl⟩,?_⟩
   ·exact⟨k9,oK,(gov 1 es o_),rfl,aZ,bP,wC hor hos⟩
   ·have hq:=(eW.append (eW.append wc0 wc1) (q9 (sz:=1) hnew hos))
    simpa only[OV.gG,OV.j9,OV.rN,al0,wP,qT]using hq
@[go_sem] def bA2:List Nat:=[0,1,2,3,5,20,21,22,23]
@[go_sem] def bQN:List Nat:=[1,30]
@[go_sem] def bQO:Marks:=λid=>match id with|1=>([2,5,8,11,13,14],(.op 0 (.op 1 (.op 3 (.op 4 (.op 6 (.op 7 (.op 9 (.op 10 (.alt 2 (.alt 5 (.alt 8 (.alt 11 (.op 12 (.op 13 (.op 14 .nil))) 13 (.op 11 (.op 12 (.op 14 .nil)))) 13 (.op 8 (.op 11 (.op 12 (.op 14 .nil))))) 13 (.op 5 (.op 8 (.op 11 (.op 12 (.op 14 .nil)))))) 13 (.op 2 (.op 5 (.op 8 (.op 11 (.op 12 (.op 14 .nil))))))))))))))),[])|5=>([1,2,3,5,7],(.op 0 (.op 1 (.op 2 (.op 3 (.op 4 (.op 5 (.op 6 (.op 7 .nil)))))))),[(1,3)])|_=>([],.nil,[])
set_option maxHeartbeats 1000000 in
theorem yD (x:aI) (hs:x.s<=1048576):tU Tryz.prog 108 [.agg x.c] (QA x.o):=by
 have hs':=x.fQ
 have rO:=x.bA.fQ
 try simp only[fF]at hs'
 simp only[aI.aM]
 refine x9 35 bA2 bQN bQO Tryz.func108 λh=>?_
 try simp -dsimp -implicitDefEqProofs only[go_sem,↓reduceIte,Tryz.f108,aF,aD]
 intro n2 qn2
 have cB:=qn2
 try simp -dsimp -implicitDefEqProofs only[go_sem,↓reduceIte,Tryz.f108,aF,aD]
 try(with_reducible refine And.intro cM ?_)
 refine⟨?_,?_⟩
 rotate_left
 focus
  intro n3 sJ
  obtain⟨dP,bC,bD,nQ⟩:=cE (show ¬n3=n2 from sJ.1)
  have cU:=sJ.2
  try simp -dsimp -implicitDefEqProofs only[go_sem,↓reduceIte,Tryz.f108,aF,aD,bC,bD,OV.aR,OV.aG,OV.bE]
  refine aH.oX ((aR3 x.bA aA)) cB ⟨dP,cU⟩ ?_
  rintro r l_ gc0 ⟨aXO,aDH,rfl,rfl⟩ wc0 cB cU
  have aDI:=aDH
  obtain⟨k9,pZ,p1,rfl,aZ,bK,bL⟩:=aDI
  try simp -dsimp -implicitDefEqProofs only[go_sem,↓reduceIte,Tryz.f108,aF,aD,bC,bD,aZ.flat,aZ.one,bK.flat,bK.one,bL.flat,bL.one,OV.aR,OV.aG,OV.bE]
  refine aH.oX (sI x.aP aA) cB ⟨dP,cU⟩ ?_
  rintro r l_ gc1 ⟨oK,bP,rfl,rfl⟩ wc1 cB cU
  try simp -dsimp -implicitDefEqProofs only[go_sem,↓reduceIte,Tryz.f108,aF,aD,bC,bD,aZ.flat,aZ.one,bK.flat,bK.one,bL.flat,bL.one,bP.flat,bP.one,OV.aR,OV.aG,OV.bE]
  refine aH.oX (aXN x.bM aA) cB ⟨dP,cU⟩ ?_
  rintro r l_ gc2 ⟨aB0,dR,rfl,rfl⟩ wc2 cB cU
  try simp -dsimp -implicitDefEqProofs only[go_sem,↓reduceIte,Tryz.f108,aF,aD,bC,bD,aZ.flat,aZ.one,bK.flat,bK.one,bL.flat,bL.one,bP.flat,bP.one,dR.flat,dR.one,OV.aR,OV.aG,OV.bE]
  refine aH.oX (sI x.bI aA) cB ⟨dP,cU⟩ ?_
  rintro r l_ gc3 ⟨qN,dK,rfl,rfl⟩ wc3 cB cU
  try simp -dsimp -implicitDefEqProofs only[go_sem,↓reduceIte,Tryz.f108,aF,aD,bC,bD,aZ.flat,aZ.one,bK.flat,bK.one,bL.flat,bL.one,bP.flat,bP.one,dR.flat,dR.one,dK.flat,dK.one,OV.aR,OV.aG,OV.bE]
  repeat'(with_reducible first|refine And.intro eP ?_)
  try(with_reducible intro _)
 rotate_right
 refine aH.wn1 ((aR3 x.bA aA)) cB ?_
 rintro r l_ gc0 ⟨aXO,aDH,rfl,rfl⟩ wc0 cB
 have aDI:=aDH
 obtain⟨k9,pZ,p1,rfl,aZ,bK,bL⟩:=aDI
 try simp -dsimp -implicitDefEqProofs only[go_sem,↓reduceIte,Tryz.f108,aF,aD,aZ.flat,aZ.one,bK.flat,bK.one,bL.flat,bL.one,OV.aR,OV.aG,OV.bE]
 try(with_reducible refine And.intro cM ?_)
 refine⟨?_,?_⟩
 rotate_left
 focus
  intro n3 sJ
  obtain⟨dP,bC,bD,nQ⟩:=cE (show ¬n3=n2 from sJ.1)
  have cU:=sJ.2
  try simp -dsimp -implicitDefEqProofs only[go_sem,↓reduceIte,Tryz.f108,aF,aD,bC,bD,aZ.flat,aZ.one,bK.flat,bK.one,bL.flat,bL.one,OV.aR,OV.aG,OV.bE]
  refine aH.oX (sI x.aP aA) cB ⟨dP,cU⟩ ?_
  rintro r l_ gc1 ⟨oK,bP,rfl,rfl⟩ wc1 cB cU
  try simp -dsimp -implicitDefEqProofs only[go_sem,↓reduceIte,Tryz.f108,aF,aD,bC,bD,aZ.flat,aZ.one,bK.flat,bK.one,bL.flat,bL.one,bP.flat,bP.one,OV.aR,OV.aG,OV.bE]
  refine aH.oX (aXN x.bM aA) cB ⟨dP,cU⟩ ?_
  rintro r l_ gc2 ⟨aB0,dR,rfl,rfl⟩ wc2 cB cU
  try simp -dsimp -implicitDefEqProofs only[go_sem,↓reduceIte,Tryz.f108,aF,aD,bC,bD,aZ.flat,aZ.one,bK.flat,bK.one,bL.flat,bL.one,bP.flat,bP.one,dR.flat,dR.one,OV.aR,OV.aG,OV.bE]
  refine aH.oX (sI x.bI aA) cB ⟨dP,cU⟩ ?_
  rintro r l_ gc3 ⟨qN,dK,rfl,rfl⟩ wc3 cB cU
  try simp -dsimp -implicitDefEqProofs only[go_sem,↓reduceIte,Tryz.f108,aF,aD,bC,bD,aZ.flat,aZ.one,bK.flat,bK.one,bL.flat,bL.one,bP.flat,bP.one,dR.flat,dR.one,dK.flat,dK.one,OV.aR,OV.aG,OV.bE]
  repeat'(with_reducible first|refine And.intro eP ?_)
  try(with_reducible intro _)
 rotate_right
 refine aH.wn1 (sI x.aP aA) cB ?_
 rintro r l_ gc1 ⟨oK,bP,rfl,rfl⟩ wc1 cB
 try simp -dsimp -implicitDefEqProofs only[go_sem,↓reduceIte,Tryz.f108,aF,aD,aZ.flat,aZ.one,bK.flat,bK.one,bL.flat,bL.one,bP.flat,bP.one,OV.aR,OV.aG,OV.bE]
 try(with_reducible refine And.intro cM ?_)
 refine⟨?_,?_⟩
 rotate_left
 focus
  intro n3 sJ
  obtain⟨dP,bC,bD,nQ⟩:=cE (show ¬n3=n2 from sJ.1)
  have cU:=sJ.2
  try simp -dsimp -implicitDefEqProofs only[go_sem,↓reduceIte,Tryz.f108,aF,aD,bC,bD,aZ.flat,aZ.one,bK.flat,bK.one,bL.flat,bL.one,bP.flat,bP.one,OV.aR,OV.aG,OV.bE]
  refine aH.oX (aXN x.bM aA) cB ⟨dP,cU⟩ ?_
  rintro r l_ gc2 ⟨aB0,dR,rfl,rfl⟩ wc2 cB cU
  try simp -dsimp -implicitDefEqProofs only[go_sem,↓reduceIte,Tryz.f108,aF,aD,bC,bD,aZ.flat,aZ.one,bK.flat,bK.one,bL.flat,bL.one,bP.flat,bP.one,dR.flat,dR.one,OV.aR,OV.aG,OV.bE]
  refine aH.oX (sI x.bI aA) cB ⟨dP,cU⟩ ?_
  rintro r l_ gc3 ⟨qN,dK,rfl,rfl⟩ wc3 cB cU
  try simp -dsimp -implicitDefEqProofs only[go_sem,↓reduceIte,Tryz.f108,aF,aD,bC,bD,aZ.flat,aZ.one,bK.flat,bK.one,bL.flat,bL.one,bP.flat,bP.one,dR.flat,dR.one,dK.flat,dK.one,OV.aR,OV.aG,OV.bE]
  repeat'(with_reducible first|refine And.intro eP ?_)
  try(with_reducible intro _)
 rotate_right
 refine aH.wn1 (aXN x.bM aA) cB ?_
 rintro r l_ gc2 ⟨aB0,dR,rfl,rfl⟩ wc2 cB
 try simp -dsimp -implicitDefEqProofs only[go_sem,↓reduceIte,Tryz.f108,aF,aD,aZ.flat,aZ.one,bK.flat,bK.one,bL.flat,bL.one,bP.flat,bP.one,dR.flat,dR.one,OV.aR,OV.aG,OV.bE]
 try(with_reducible refine And.intro cM ?_)
 refine⟨?_,?_⟩
 rotate_left
 focus
  intro n3 sJ
  obtain⟨dP,bC,bD,nQ⟩:=cE (show ¬n3=n2 from sJ.1)
  have cU:=sJ.2
  try simp -dsimp -implicitDefEqProofs only[go_sem,↓reduceIte,Tryz.f108,aF,aD,bC,bD,aZ.flat,aZ.one,bK.flat,bK.one,bL.flat,bL.one,bP.flat,bP.one,dR.flat,dR.one,OV.aR,OV.aG,OV.bE]
  refine aH.oX (sI x.bI aA) cB ⟨dP,cU⟩ ?_
  rintro r l_ gc3 ⟨qN,dK,rfl,rfl⟩ wc3 cB cU
  try simp -dsimp -implicitDefEqProofs only[go_sem,↓reduceIte,Tryz.f108,aF,aD,bC,bD,aZ.flat,aZ.one,bK.flat,bK.one,bL.flat,bL.one,bP.flat,bP.one,dR.flat,dR.one,dK.flat,dK.one,OV.aR,OV.aG,OV.bE]
  repeat'(with_reducible first|refine And.intro eP ?_)
  try(with_reducible intro _)
 rotate_right
 refine aH.wn1 (sI x.bI aA) cB ?_
 rintro r l_ gc3 ⟨qN,dK,rfl,rfl⟩ wc3 cB
 try simp -dsimp -implicitDefEqProofs only[go_sem,↓reduceIte,Tryz.f108,aF,aD,aZ.flat,aZ.one,bK.flat,bK.one,bL.flat,bL.one,bP.flat,bP.one,dR.flat,dR.one,dK.flat,dK.one,OV.aR,OV.aG,OV.bE]
 repeat'(with_reducible first|refine And.intro eP ?_)
 intro n3 sJ
 obtain⟨dP,bC,bD,nQ⟩:=cE (show ¬n3=n2 from sJ.1)
 have cU:=sJ.2
 try simp -dsimp -implicitDefEqProofs only[go_sem,↓reduceIte,Tryz.f108,aF,aD,bC,bD,aZ.flat,aZ.one,bK.flat,bK.one,bL.flat,bL.one,bP.flat,bP.one,dR.flat,dR.one,dK.flat,dK.one,OV.aR,OV.aG,OV.bE]
 try(with_reducible intro _)
 all_goals
  refine cY bA2 bQN bQO (λs:Nat×List (List OV)×Heap×Option Nat=>[(2,.op n2 9 0 0),(3,.op n3 9 0 0),(20,cI 3 bR.c x.bW),(21,I x.bW.length),(22,(I s.1))]) (λs=>(bT (bT (c7 s.2.2.1 (.row 3 (OV.cells s.2.1)) s.2.2.2) n2 (.row 9 [[.v (.aV),.v (.int .i64 0),.v (.int .i64 0),.v (.aV),.v (.aV),.v (.aV),.v (.aV),.v (.aV),.v (.aV)]])) n3 (.row 9 [[.v (k9.val),.v (.int .i64 x.bA.b5),.v (.int .i64 x.bA.aU),.v (pZ.val),.v (p1.val),.v (oK.val),.v (aB0.val),.v (jV 3 s.2.1.length s.2.2.2),.v (qN.val)]]))) (λs=>s.1<=x.bW.length/\OR bR.o (x.bW.take s.1) s.2.1/\eW gc3 (OV.cW s.2.1) s.2.2.1/\s.2.2.1 n2=none/\s.2.2.1 n3=none/\wU s.2.2.1 s.2.1 s.2.2.2/\∀ n:Nat,s.2.2.2=some n->n≠n2/\n≠n3) (λs=>x.bW.length-s.1) (0,[],gc3,none) ?_ ?_
  ·exact⟨by simp[dT,dB],lE,iZ _,trivial,eW.nil _,cB,cU,rfl,by simp⟩
  rintro⟨k,es,g_,o_⟩ ⟨hkk,hor,hnew,cB,cU,hos,hon⟩
  simp only at hkk hor hnew cB cU hos hon ⊢
  have hlen:es.length=k:=by have:=hor.length;simp at this;omega
  rcases cP k x.bW.length with hlt|hge
  ·have ea:x.bW[k]?=some x.bW[k]:=b6 hlt
   have hx:=aVG x.bW[k] bFM
   simp only[bR.aM]at hx
   cases o_ with
   |none =>
    rw[jP]at hos
    subst hos
    try simp -dsimp -implicitDefEqProofs only[go_sem,↓reduceIte,Tryz.f108,aF,aD,bC,bD,ea,hlt,aN,bJ,aZ.flat,aZ.one,bK.flat,bK.one,bL.flat,bL.one,bP.flat,bP.one,dR.flat,dR.one,dK.flat,dK.one,bR.aM]
    intro n5 qn5
    obtain⟨sK,eX,eY,aRU⟩:=cE (show ¬n5=n3 from qn5.1)
    obtain⟨oT,dW,dX,aHQ⟩:=cE (show ¬n5=n2 from qn5.2.1)
    have kB:=qn5.2.2
    try simp -dsimp -implicitDefEqProofs only[go_sem,↓reduceIte,Tryz.f108,aF,aD,bC,bD,eX,eY,dW,dX,ea,hlt,aN,bJ,aZ.flat,aZ.one,bK.flat,bK.one,bL.flat,bL.one,bP.flat,bP.one,dR.flat,dR.one,dK.flat,dK.one,bR.aM]
    refine aH.wn3 (hx) cB ⟨dP,cU⟩ ⟨sK,oT,kB⟩ ?_
    rintro r l_ gb ⟨e_b,oeb,rfl,rfl⟩ wb cB cU kB
    have oob:=oeb
    obtain⟨aR5,rfl,vC⟩:=oob
    try simp -dsimp -implicitDefEqProofs only[go_sem,↓reduceIte,Tryz.f108,aF,aD,bC,bD,eX,eY,dW,dX,ea,hlt,aN,bJ,aZ.flat,aZ.one,bK.flat,bK.one,bL.flat,bL.one,bP.flat,bP.one,dR.flat,dR.one,dK.flat,dK.one,vC.flat,vC.one,OV.aR,OV.aG,OV.bE,bR.aM]
    repeat'(with_reducible first|refine And.intro eP ?_)
    intro m qm
    obtain⟨bHN,aRN,aRO,bHO⟩:=cE (show ¬m=n5 from qm.1)
    obtain⟨u9,vA,vB,aKK⟩:=cE (show ¬m=n3 from qm.2.1)
    obtain⟨oD,oE,oF,aBY⟩:=cE (show ¬m=n2 from qm.2.2.1)
    have z_m:=qm.2.2.2
    try simp -dsimp -implicitDefEqProofs only[go_sem,↓reduceIte,Tryz.f108,aF,aD,bC,bD,eX,eY,dW,dX,aRN,aRO,vA,vB,oE,oF,ea,hlt,aN,bJ,aZ.flat,aZ.one,bK.flat,bK.one,bL.flat,bL.one,bP.flat,bP.one,dR.flat,dR.one,dK.flat,dK.one,vC.flat,vC.one,OV.aR,OV.aG,OV.bE]
    refine⟨(k+1,([]:List (List OV))++[[.v (.int .i64 x.bW[k].cX),.v (.int .i64 x.bW[k].jA),aR5]],gb,some m),?_⟩
    simp only
    refine⟨?_,lE,⟨by omega,OR.snoc hor hlt oeb,hnew.snoc wb,cB,cU,z_m,(λn_ e_=>by obtain rfl:=dY e_;exact⟨oD,u9⟩)⟩,by omega⟩
    all_goals(repeat'(with_reducible refine And.intro ?_ ?_))
    all_goals first|rfl|trivial|(rw[IntWalk.i64_in _ aA];omega)
   |some n =>
    rw[kM]at hos
    have z_n:=hos
    have hn:=hon n rfl
    obtain⟨aVE,nE,nF,aBZ⟩:=cE (show ¬n=n2 from hn.1)
    obtain⟨bAZ,tM,tN,aKL⟩:=cE (show ¬n=n3 from hn.2)
    try simp -dsimp -implicitDefEqProofs only[go_sem,↓reduceIte,Tryz.f108,aF,aD,bC,bD,nE,nF,tM,tN,ea,hlt,aL,aY,aZ.flat,aZ.one,bK.flat,bK.one,bL.flat,bL.one,bP.flat,bP.one,dR.flat,dR.one,dK.flat,dK.one,bR.aM]
    intro n5 qn5
    obtain⟨sK,eX,eY,aRU⟩:=cE (show ¬n5=n3 from qn5.1)
    obtain⟨oT,dW,dX,aHQ⟩:=cE (show ¬n5=n2 from qn5.2.1)
    obtain⟨bHR,aRS,aRT,bZQ⟩:=cE (show ¬n5=n from qn5.2.2.1)
    have kB:=qn5.2.2.2
    try simp -dsimp -implicitDefEqProofs only[go_sem,↓reduceIte,Tryz.f108,aF,aD,bC,bD,nE,nF,tM,tN,eX,eY,dW,dX,aRS,aRT,ea,hlt,aL,aY,aZ.flat,aZ.one,bK.flat,bK.one,bL.flat,bL.one,bP.flat,bP.one,dR.flat,dR.one,dK.flat,dK.one,bR.aM]
    refine aH.wn4 (hx) z_n ⟨aBZ,cB⟩ ⟨dP,aKL,cU⟩ ⟨sK,oT,bHR,kB⟩ ?_
    rintro r l_ gb ⟨e_b,oeb,rfl,rfl⟩ wb z_n cB cU kB
    have oob:=oeb
    obtain⟨aR5,rfl,vC⟩:=oob
    try simp -dsimp -implicitDefEqProofs only[go_sem,↓reduceIte,Tryz.f108,aF,aD,bC,bD,nE,nF,tM,tN,eX,eY,dW,dX,aRS,aRT,ea,hlt,aL,aY,aZ.flat,aZ.one,bK.flat,bK.one,bL.flat,bL.one,bP.flat,bP.one,dR.flat,dR.one,dK.flat,dK.one,vC.flat,vC.one,OV.aR,OV.aG,OV.bE,bR.aM]
    repeat'(with_reducible first|refine And.intro eP ?_)
    intro m qm
    obtain⟨bHN,aRN,aRO,bHO⟩:=cE (show ¬m=n5 from qm.1)
    obtain⟨u9,vA,vB,aKK⟩:=cE (show ¬m=n3 from qm.2.1)
    obtain⟨oD,oE,oF,aBY⟩:=cE (show ¬m=n2 from qm.2.2.1)
    obtain⟨bDP,aL5,aL6,bDQ⟩:=cE (show ¬m=n from qm.2.2.2.1)
    have z_m:=qm.2.2.2.2
    try simp -dsimp -implicitDefEqProofs only[go_sem,↓reduceIte,Tryz.f108,aF,aD,bC,bD,nE,nF,tM,tN,eX,eY,dW,dX,aRS,aRT,aRN,aRO,vA,vB,oE,oF,aL5,aL6,ea,hlt,aL,aY,aZ.flat,aZ.one,bK.flat,bK.one,bL.flat,bL.one,bP.flat,bP.one,dR.flat,dR.one,dK.flat,dK.one,vC.flat,vC.one,OV.aR,OV.aG,OV.bE]
    refine⟨(k+1,es++[[.v (.int .i64 x.bW[k].cX),.v (.int .i64 x.bW[k].jA),aR5]],gb,some m),?_⟩
    simp only
    refine⟨?_,lE,⟨by omega,OR.snoc hor hlt oeb,hnew.snoc wb,cB,cU,z_m,(λn_ e_=>by obtain rfl:=dY e_;exact⟨oD,u9⟩)⟩,by omega⟩
    all_goals(repeat'(with_reducible refine And.intro ?_ ?_))
    all_goals first|rfl|trivial|(rw[IntWalk.i64_in _ aA];omega)
  ·have hk2:k=x.bW.length:=by omega
   subst hk2
   rw[eL]at hor
   have aVF:c7 g_ (.row 3 (OV.cells es)) o_ n2=none:=eZ cB λn_ e_=>(hon n_ e_).1
   have bA0:c7 g_ (.row 3 (OV.cells es)) o_ n3=none:=eZ cU λn_ e_=>(hon n_ e_).2
   try simp -dsimp -implicitDefEqProofs only[go_sem,↓reduceIte,Tryz.f108,aF,aD,bC,bD,fR,iN,aZ.flat,aZ.one,bK.flat,bK.one,bL.flat,bL.one,bP.flat,bP.one,dR.flat,dR.one,dK.flat,dK.one,cN]
   try(with_reducible intro _)
   refine⟨_,(c7 g_ (.row 3 (OV.cells es)) o_),_,Shift.of (Sub.agg (bQ.cons (Sub.refl _) (bQ.cons (Sub.refl _) (bQ.cons (Sub.refl _) (bQ.cons (Sub.refl _) (bQ.cons (Sub.refl _) (bQ.cons (Sub.refl _) (bQ.cons (Sub.refl _) (bQ.cons wL (bQ.cons (Sub.refl _) bQ.nil)))))))))) lE,⟨[k9,.v (.int .i64 x.bA.b5),.v (.int .i64 x.bA.aU),pZ,p1,oK,aB0,(gov 3 es o_),qN],?_,rfl,rfl⟩,?_⟩
   ·exact⟨k9,pZ,p1,oK,aB0,(gov 3 es o_),qN,rfl,aZ,bK,bL,bP,dR,wC hor hos,dK⟩
   ·have hq:=(eW.append (eW.append (eW.append (eW.append wc0 wc1) wc2) wc3) (q9 (sz:=3) hnew hos))
    refine eW.perm (a:=_) hq ?_
    simp only[OV.gG,OV.j9,OV.rN,OV.lY,al0,wP,qT]
    first|exact List.Perm.refl _|(simp only[←qT];exact aL0 _ _ _)|(simp only[←qT];exact aR6 _ _)
end Go.Hl

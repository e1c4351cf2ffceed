/-
  Contracts of functions and laws of the layer over the walk.
-/
import Derived.Test.YtchbdakgjlnbgaaGreatDoorVvH
import Derived.Test.YtchbdakgjlnbgaaGreatDoorVvB
import Derived.Test.YtchbdakgjlnbgaaGreatDoorVvA
import Derived.Test.YtchbdakgjlnbgaaGreatDoorVvD
import Derived.Test.YtchbdakgjlnbgaaGreatDoorVvC
namespace Go.Hl
set_option maxRecDepth 100000
open Go.Proofs
set_option linter.unusedVariables false
set_option linter.unusedSimpArgs false
@[go_sem] def bB9:List Nat:=[0,1,2,3,4,5,12,17,29]
theorem sD (a b:aK):dQ Tryz.prog 182 [.agg a.c,.agg b.c] (.bool (decide (a=b))):=by
 simp only[aK.aM]
 refine dI 30 bB9 aDC aAG Tryz.func182 λh=>?_
 simp -dsimp -implicitDefEqProofs only[go_sem,↓reduceIte,Tryz.f182]
 repeat'(with_reducible first|intro _|refine And.intro ?_ ?_)
 all_goals try(first|(simp[aK.eq_iff, *];done)|omega|(grind[aK.eq_iff])|(simp[aK.eq_iff];omega))
 rename_i e3
 refine cY bB9 aDC aAG (λk:Nat=>[(2,.ip 1 [a.c] 0 0),(3,.ip 1 [b.c] 0 0),(5,I k)]) (λ_=>h) (λk=>k<=(a.aJ).length/\(a.aJ).take k=(b.aJ).take k) (λk=>(a.aJ).length-k) 0 (by simp[dT,dB,Heap.le_refl,aK.aM]) ?_
 intro k ⟨hk,hp⟩
 simp only[aK.aM]
 simp -dsimp -implicitDefEqProofs only[go_sem,↓reduceIte,Tryz.f182]
 repeat'(with_reducible first|intro _|refine And.intro ?_ ?_)
 all_goals try omega
 ·rename_i hlt
  have hlb:k<(b.aJ).length:=by omega
  first|refine aE.mk (((λx _ y=>aN9 x y) (a.aJ)[k] (dG hlt) (b.aJ)[k]).sub (by repeat'(first|exact bQ.nil|refine bQ.cons ?_ ?_|exact Sub.refl _|(rw[aB.aM];exact Sub.refl _)|exact Sub.cK rfl rfl rfl|exact Sub.ip (bF aA) aS|exact Sub.cK (bF aA) rfl rfl|exact Sub.ip bU aS|exact Sub.cK bU bS bS))) ?_|refine aH.mk (((λx _ y=>aN9 x y) (a.aJ)[k] (dG hlt) (b.aJ)[k]).sub (by repeat'(first|exact bQ.nil|refine bQ.cons ?_ ?_|exact Sub.refl _|(rw[aB.aM];exact Sub.refl _)|exact Sub.cK rfl rfl rfl|exact Sub.ip (bF aA) aS|exact Sub.cK (bF aA) rfl rfl|exact Sub.ip bU aS|exact Sub.cK bU bS bS))) ?_
  simp -dsimp -implicitDefEqProofs only[go_sem,↓reduceIte,Tryz.f182]
  repeat'(with_reducible first|intro _|refine And.intro ?_ ?_)
  ·rename_i he
   exact(decide_eq_false λe=>he (getElem_of_eq (congrArg aK.aJ e) hlt)).symm
  ·rename_i he
   refine⟨k+1,?_⟩
   repeat'(with_reducible refine And.intro ?_ ?_)
   all_goals try(rw[IntWalk.i64_in _ aA];first|rfl|omega)
   all_goals try omega
   all_goals try(repeat'(with_reducible first|exact Heap.le_refl _|refine(aW gH).2 ?_))
   exact gT hlt hlb hp he
 ·have hk':k=(a.aJ).length:=by omega
  subst hk'
  have hq:=fW e3 hp
  exact(decide_eq_true (aK.eq_iff.2 hq)).symm
@[go_sem] def bCA:List Nat:=[0,1,4,5,62,69,87]
@[go_sem] def bRU:Marks:=λid=>match id with|1=>([],(.op 0 (.op 1 (.op 2 (.op 3 (.op 4 (.op 5 (.op 6 (.op 7 (.op 8 (.op 9 (.op 10 (.op 11 (.op 12 (.op 13 (.op 14 (.op 15 (.op 16 (.op 17 (.op 18 (.op 19 (.op 20 (.op 21 (.op 22 (.op 23 (.op 24 (.op 25 (.op 26 (.op 27 (.op 28 (.op 29 (.op 30 (.op 31 (.op 32 (.op 33 (.op 34 (.op 35 (.op 36 (.op 37 (.op 38 (.op 39 (.op 40 (.op 41 (.op 42 (.op 43 (.op 44 (.op 45 (.op 46 (.op 47 (.op 48 (.op 49 (.op 50 (.op 51 (.op 52 (.op 53 (.op 54 (.op 55 (.op 56 .nil))))))))))))))))))))))))))))))))))))))))))))))))))))))))),[])|6=>([],(.op 0 (.op 1 (.op 2 (.op 3 (.op 4 (.op 5 (.op 6 (.op 7 (.op 8 (.op 9 (.op 10 (.op 11 (.op 12 (.op 13 (.op 14 (.op 15 .nil)))))))))))))))),[])|_=>([],.nil,[])
theorem aS9 (a b:dN):dQ Tryz.prog 142 [.ip 5 [a.c] 0 0,.ip 5 [b.c] 0 0] (.bool (decide (a=b))):=by
 simp only[dN.aM]
 refine dI 88 bCA cG bRU Tryz.func142 λh=>?_
 simp -dsimp -implicitDefEqProofs only[go_sem,↓reduceIte,Tryz.f142]
 first|refine aH.mk (sD a.bN b.bN) ?_|refine aE.mk (sD a.bN b.bN) ?_|refine aH.b7 (sD a.bN b.bN) ?_|refine aE.mk (bX.eA (sD a.bN b.bN)) ?_
 simp -dsimp -implicitDefEqProofs only[go_sem,↓reduceIte,Tryz.f142]
 repeat'(with_reducible first|intro _|refine And.intro ?_ ?_)
 all_goals try(first|(simp[dN.eq_iff, *];done)|omega|(grind[dN.eq_iff])|(simp[dN.eq_iff];omega))
 first|refine aH.mk (fE a.cT b.cT) ?_|refine aE.mk (fE a.cT b.cT) ?_|refine aH.b7 (fE a.cT b.cT) ?_|refine aE.mk (bX.eA (fE a.cT b.cT)) ?_
 simp -dsimp -implicitDefEqProofs only[go_sem,↓reduceIte,Tryz.f142]
 repeat'(with_reducible first|intro _|refine And.intro ?_ ?_)
 all_goals try(first|(simp[dN.eq_iff, *];done)|omega|(grind[dN.eq_iff])|(simp[dN.eq_iff];omega))
 rename_i e1 e2 e3 e4 e5
 refine cY bCA cG bRU (λk:Nat=>[(0,.ip 5 [a.c] 0 0),(1,.ip 5 [b.c] 0 0),(5,I k)]) (λ_=>h) (λk=>k<=a.aQ.length/\a.aQ.take k=b.aQ.take k) (λk=>a.aQ.length-k) 0 (by simp[dT,dB,Heap.le_refl,dN.aM]) ?_
 intro k ⟨hk,hp⟩
 simp only[dN.aM]
 rcases cP k a.aQ.length with hlt|hge
 ·have hlb:k<b.aQ.length:=by omega
  have ea:a.aQ[k]?=some a.aQ[k]:=b6 hlt
  have eb:b.aQ[k]?=some b.aQ[k]:=b6 hlb
  simp -dsimp -implicitDefEqProofs only[go_sem,↓reduceIte,Tryz.f142,ea,eb]
  repeat'(with_reducible first|intro _|refine And.intro ?_ ?_)
  all_goals try omega
  first|refine aH.mk (fE a.aQ[k] b.aQ[k]) ?_|refine aE.mk (fE a.aQ[k] b.aQ[k]) ?_|refine aH.b7 (fE a.aQ[k] b.aQ[k]) ?_|refine aE.mk (bX.eA (fE a.aQ[k] b.aQ[k])) ?_
  simp -dsimp -implicitDefEqProofs only[go_sem,↓reduceIte,Tryz.f142]
  repeat'(with_reducible first|intro _|refine And.intro ?_ ?_)
  ·rename_i he
   exact(decide_eq_false λe=>he (by simp only[e])).symm
  ·rename_i he
   refine⟨k+1,?_⟩
   repeat'(with_reducible refine And.intro ?_ ?_)
   all_goals try(rw[IntWalk.i64_in _ aA];first|rfl|omega)
   all_goals try omega
   all_goals try(repeat'(with_reducible first|exact Heap.le_refl _|refine(aW gH).2 ?_))
   exact gT hlt hlb hp he
 ·have hk':k=a.aQ.length:=by omega
  subst hk'
  simp -dsimp -implicitDefEqProofs only[go_sem,↓reduceIte,Tryz.f142,cN]
  exact λ_=>(decide_eq_true (dN.eq_iff.2 ⟨e1,e2,e3,e4,fW e5 hp⟩)).symm
@[go_sem] def a7W:List Nat:=[0,1,4,5,6,52,59,76,83,99]
@[go_sem] def bVA:Marks:=λid=>match id with|1=>([],(.op 0 (.op 1 (.op 2 (.op 3 (.op 4 (.op 5 (.op 6 (.op 7 (.op 8 (.op 9 (.op 10 (.op 11 (.op 12 (.op 13 (.op 14 (.op 15 (.op 16 (.op 17 (.op 18 (.op 19 (.op 20 (.op 21 (.op 22 (.op 23 (.op 24 (.op 25 (.op 26 (.op 27 (.op 28 (.op 29 (.op 30 (.op 31 (.op 32 (.op 33 (.op 34 (.op 35 (.op 36 (.op 37 (.op 38 (.op 39 (.op 40 (.op 41 (.op 42 (.op 43 (.op 44 (.op 45 .nil)))))))))))))))))))))))))))))))))))))))))))))),[])|6=>([],(.op 0 (.op 1 (.op 2 (.op 3 (.op 4 (.op 5 (.op 6 (.op 7 (.op 8 (.op 9 (.op 10 (.op 11 (.op 12 (.op 13 (.op 14 .nil))))))))))))))),[])|11=>([],(.op 0 (.op 1 (.op 2 (.op 3 (.op 4 (.op 5 (.op 6 (.op 7 (.op 8 (.op 9 (.op 10 (.op 11 (.op 12 (.op 13 .nil)))))))))))))),[])|_=>([],.nil,[])
theorem aY2 (a b:aI):dQ Tryz.prog 92 [.ip 9 [a.c] 0 0,.ip 9 [b.c] 0 0] (.bool (decide (a.bA=b.bA/\a.aP=b.aP/\a.bM=b.bM/\a.bW=b.bW))):=by
 simp only[aI.aM]
 refine dI 100 a7W cG bVA Tryz.func92 λh=>?_
 simp -dsimp -implicitDefEqProofs only[go_sem,↓reduceIte,Tryz.f92]
 first|refine aE.mk ((aS9 a.bA b.bA).sub (by repeat'(first|exact bQ.nil|refine bQ.cons ?_ ?_|exact Sub.refl _|(rw[aB.aM];exact Sub.refl _)|exact Sub.cK rfl rfl rfl|exact Sub.ip (bF aA) aS|exact Sub.cK (bF aA) rfl rfl|exact Sub.ip bU aS|exact Sub.cK bU bS bS))) ?_|refine aH.mk ((aS9 a.bA b.bA).sub (by repeat'(first|exact bQ.nil|refine bQ.cons ?_ ?_|exact Sub.refl _|(rw[aB.aM];exact Sub.refl _)|exact Sub.cK rfl rfl rfl|exact Sub.ip (bF aA) aS|exact Sub.cK (bF aA) rfl rfl|exact Sub.ip bU aS|exact Sub.cK bU bS bS))) ?_
 simp -dsimp -implicitDefEqProofs only[go_sem,↓reduceIte,Tryz.f92]
 repeat'(with_reducible first|intro _|refine And.intro ?_ ?_)
 all_goals try(first|(simp[aI.eq_iff, *];done)|omega|(grind[aI.eq_iff])|(simp[aI.eq_iff];omega))
 first|refine aH.mk (fE a.aP b.aP) ?_|refine aE.mk (fE a.aP b.aP) ?_|refine aH.b7 (fE a.aP b.aP) ?_|refine aE.mk (bX.eA (fE a.aP b.aP)) ?_
 simp -dsimp -implicitDefEqProofs only[go_sem,↓reduceIte,Tryz.f92]
 repeat'(with_reducible first|intro _|refine And.intro ?_ ?_)
 all_goals try(first|(simp[aI.eq_iff, *];done)|omega|(grind[aI.eq_iff])|(simp[aI.eq_iff];omega))
 rename_i e1 e2 e3 e4
 refine cY a7W cG bVA (λk:Nat=>[(0,.ip 9 [a.c] 0 0),(1,.ip 9 [b.c] 0 0),(5,I k)]) (λ_=>h) (λk=>k<=a.bM.length/\a.bM.take k=b.bM.take k) (λk=>a.bM.length-k) 0 (by simp[dT,dB,Heap.le_refl,aI.aM]) ?_
 intro k ⟨hk,hp⟩
 simp only[aI.aM]
 rcases cP k a.bM.length with hlt|hge
 ·have hlb:k<b.bM.length:=by omega
  have ea:a.bM[k]?=some a.bM[k]:=b6 hlt
  have eb:b.bM[k]?=some b.bM[k]:=b6 hlb
  simp -dsimp -implicitDefEqProofs only[go_sem,↓reduceIte,Tryz.f92,ea,eb]
  repeat'(with_reducible first|intro _|refine And.intro ?_ ?_)
  all_goals try omega
  ·rename_i he
   refine(decide_eq_false λe=>?_).symm
   have:=getElem_of_eq e.2.2.1 hlt (hb:=hlb)
   simp[this]at he
  ·rename_i he
   refine⟨k+1,?_⟩
   repeat'(with_reducible refine And.intro ?_ ?_)
   all_goals try(rw[IntWalk.i64_in _ aA];first|rfl|omega)
   all_goals try omega
   all_goals try(repeat'(with_reducible first|exact Heap.le_refl _|refine(aW gH).2 ?_))
   exact gT hlt hlb hp (by simpa using he)
 ·have hk':k=a.bM.length:=by omega
  subst hk'
  have ek:=fW e3 hp
  simp -dsimp -implicitDefEqProofs only[go_sem,↓reduceIte,Tryz.f92,cN]
  intro _
  refine cY a7W cG bVA (λk:Nat=>[(0,.ip 9 [a.c] 0 0),(1,.ip 9 [b.c] 0 0),(6,I k)]) (λ_=>h) (λk=>k<=(a.bW).length/\(a.bW).take k=(b.bW).take k) (λk=>(a.bW).length-k) 0 (by simp[dT,dB,Heap.le_refl,aI.aM]) ?_
  intro k ⟨hk,hp⟩
  simp only[aI.aM]
  simp -dsimp -implicitDefEqProofs only[go_sem,↓reduceIte,Tryz.f92]
  repeat'(with_reducible first|intro _|refine And.intro ?_ ?_)
  all_goals try omega
  ·rename_i hlt
   have hlb:k<(b.bW).length:=by omega
   first|refine aE.mk (((λx _ y=>aN8 x y) (a.bW)[k] (dG hlt) (b.bW)[k]).sub (by repeat'(first|exact bQ.nil|refine bQ.cons ?_ ?_|exact Sub.refl _|(rw[aB.aM];exact Sub.refl _)|exact Sub.cK rfl rfl rfl|exact Sub.ip (bF aA) aS|exact Sub.cK (bF aA) rfl rfl|exact Sub.ip bU aS|exact Sub.cK bU bS bS))) ?_|refine aH.mk (((λx _ y=>aN8 x y) (a.bW)[k] (dG hlt) (b.bW)[k]).sub (by repeat'(first|exact bQ.nil|refine bQ.cons ?_ ?_|exact Sub.refl _|(rw[aB.aM];exact Sub.refl _)|exact Sub.cK rfl rfl rfl|exact Sub.ip (bF aA) aS|exact Sub.cK (bF aA) rfl rfl|exact Sub.ip bU aS|exact Sub.cK bU bS bS))) ?_
   simp -dsimp -implicitDefEqProofs only[go_sem,↓reduceIte,Tryz.f92]
   repeat'(with_reducible first|intro _|refine And.intro ?_ ?_)
   ·rename_i he
    exact(decide_eq_false λe=>he (getElem_of_eq (e.2.2.2) hlt)).symm
   ·rename_i he
    refine⟨k+1,?_⟩
    repeat'(with_reducible refine And.intro ?_ ?_)
    all_goals try(rw[IntWalk.i64_in _ aA];first|rfl|omega)
    all_goals try omega
    all_goals try(repeat'(with_reducible first|exact Heap.le_refl _|refine(aW gH).2 ?_))
    exact gT hlt hlb hp he
  ·have hk':k=(a.bW).length:=by omega
   subst hk'
   have hq:=fW e4 hp
   exact(decide_eq_true ⟨e1,e2,ek,hq⟩).symm
def spA (c:UInt8):List UInt8->List (List UInt8)
 | []=>[[]]
 |x::l=>if x=c then[x]::spA c l else match spA c l with
  | []=>[[x]]
  |a::r=>(x::a)::r
theorem aPJ {c:UInt8}:∀ (a l:List UInt8),c∉a->spA c (a++c::l)=(a++[c])::spA c l
 | [],l,_=>by rw[al0,spA,if_pos rfl];rfl
 |x::a,l,h=>by
  rw[aED,spA,if_neg (λe=>h (by rw[e];exact .head _)),aPJ a l λq=>h (.tail _ q)];rfl
theorem aK6 {c:UInt8}:∀ a:List UInt8,c∉a->spA c a=[a]
 | [],_=>rfl
 |x::a,h=>by rw[spA,if_neg (λe=>h (by rw[e];exact .head _)),aK6 a λq=>h (.tail _ q)]
theorem aTA (c:UInt8):∀ (k:Nat) (l:List UInt8),l.count c<=k->Go.Lib.splitK [c] 1 k l=spA c l
 |0,l,h=>by
  have:c∉l:=λhm=>by have:=List.count_pos_iff.2 hm;omega
  rw[Go.Lib.splitK,aK6 l this]
 |k+1,l,h=>by
  rcases pD c l with h1|⟨a,r,h1,rfl⟩
  ·rw[Go.Lib.splitK,yT c l h1,aK6 l h1];rfl
  ·have e:((a.length:Int) == -1)=false:=by rw[beq_eq_false_iff_ne];omega
   rw[Go.Lib.splitK,index_hit c r a h1,e,if_neg aS,aPJ a r h1]
   have hc:r.count c<=k:=by simp[bFD]at h;omega
   simp only[yV,wQ]
   rw[yS,aTA c k _ hc,show a++c::r=(a++[c])++r by simp,aZW aS]
theorem bCB (c:UInt8) (a:List UInt8):(spA c a).length<=a.length+1/\∀ s∈spA c a,s.length<=a.length:=by
 induction hn:a.length using Nat.strongRecOn generalizing a with
 | _ n ih =>
  rcases pD c a with h|⟨p,r,h1,rfl⟩
  ·rw[aK6 a h];exact⟨by simp,λs hs=>by rw[rG.1 hs];omega⟩
  ·rw[aPJ p r h1]
   obtain⟨h2,h3⟩:=ih r.length (by rw[←hn];simp;omega) r rfl
   simp only[rL,al2]at hn
   refine⟨by simp only[al2];omega,λs hs=>?_⟩
   rcases p7.1 hs with rfl|hs
   ·simp only[rL,al2,al3];omega
   ·have:=h3 s hs;omega
def zS (t:List UInt8):Prop:=t.take 4=aG3∨t.take 4=aG4
instance (t:List UInt8):Decidable (zS t):=inferInstanceAs (Decidable (_∨_))
def bJG (t:List UInt8):Prop:=∀ i,i<t.length->(i=0∨t[i-1]?=some 10)->zS (t.drop i)
theorem bN8 {l w:List UInt8} (h:l.take 4=w) {i:Nat} (hi:i<4):l[i]?=w[i]?:=by rw[←h,List.getElem?_take,if_pos hi]
theorem bEE {l:List UInt8} (h:zS l):4<=l.length:=by
 rcases h with h|h <;>
 ·have:=congrArg List.length h
  simp only[nX,aG3,aG4,al2,al3]at this
  omega
theorem a3D {l:List UInt8} {i:Nat} (hi:i<4) (h:l[i]?=some 10):¬zS l:=by
 rintro(q|q) <;>
 ·have e:=bN8 q hi
  rw[h]at e
  have hi':i=0∨i=1∨i=2∨i=3:=by omega
  rcases hi' with rfl|rfl|rfl|rfl <;> simp[aG3,aG4]at e
theorem aV4 {a:List UInt8} (l:List UInt8):zS (a++10::l)↔zS (a++[10]):=by
 rcases cP a.length 4 with h1|h1
 ·exact⟨λh=>absurd h (a3D h1 aS),λh=>absurd h (a3D h1 aS)⟩
 ·unfold zS
  rw[a8L h1,a8L h1]
theorem aV5 (t:List UInt8):bJG t↔∀ s∈spA 10 t,s=[]∨zS s:=by
 induction hn:t.length using Nat.strongRecOn generalizing t with
 | _ n ih =>
  rcases pD 10 t with h|⟨a,r,h1,rfl⟩
  ·rw[aK6 t h]
   refine⟨λhs s hm=>?_,λhs i hi hl=>?_⟩
   ·rw[rG.1 hm]
    cases t with
    |nil=>exact .inl rfl
    |cons x t=>exact .inr (hs 0 aS (.inl rfl))
   ·rcases hl with rfl|hl
    ·rcases hs t (List.mem_singleton_self t)with rfl|h2
     ·simp at hi
     ·exact h2
    ·exact absurd (rS hl) h
  ·rw[aPJ a r h1]
   have ih':=ih r.length (by rw[←hn];simp;omega) r rfl
   have hd:∀ i,(a++10::r).drop (a.length+1+i)=r.drop i:=λi=>by rw[←aM3,yS]
   refine⟨λhs s hm=>?_,λhs i hi hl=>?_⟩
   ·rcases p7.1 hm with rfl|hm
    ·exact .inr ((aV4 r).1 (hs 0 pW (.inl rfl)))
    ·refine ih'.1 (λi hi hl=>?_) s hm
     rw[←hd i]
     refine hs _ pW (.inr ?_)
     rcases hl with rfl|hl
     ·simp
     ·rcases aTN i with rfl|hp
      ·simp
      ·rw[aEC aA,show a.length+1+i-1-a.length=(i-1)+1 by omega,aUB];exact hl
   ·rcases cP i (a.length+1)with hlt|hge
    ·have hi0:i=0:=by
      rcases hl with q|q
      ·exact q
      ·rcases aTN i with e|hp
       ·exact e
       ·rw[aGO aA]at q
        exact absurd (rS q) h1
     subst hi0
     rcases hs _ al5 with q|q
     ·simp at q
     ·exact(aV4 r).2 q
    ·obtain⟨k,rfl⟩:∃ k,i=a.length+1+k:=⟨i-(a.length+1),by omega⟩
     rw[hd]
     refine ih'.2 (λs hm=>hs s (al6 _ hm)) k (by simp at hi;omega) ?_
     rcases aTN k with e|hp
     ·exact .inl e
     ·rcases hl with q|q
      ·omega
      ·rw[aEC aA,show a.length+1+k-1-a.length=(k-1)+1 by omega,aUB]at q
       exact .inr q
def aV6 (j:List UInt8) (a i:Nat):Prop:=∀ m,a<=m->m<i->(m=a∨j[m-1]?=some 10)->zS (j.drop m)
noncomputable instance (j:List UInt8) (a i:Nat):Decidable (aV6 j a i):=Classical.propDecidable _
theorem aIW {j:List UInt8} {a i:Nat} (h:aV6 j a i) (h2:(i=a∨j[i-1]?=some 10)->zS (j.drop i)):aV6 j a (i+1):=λm h3 h4 h5=>by
 by_cases e:m=i
 ·subst e;exact h2 h5
 ·exact h m h3 aA h5
theorem aTB {j:List UInt8} {a:Nat}:bJG (j.drop a)↔aV6 j a j.length:=by
 refine⟨λhs m h1 h2 h3=>?_,λhs i hi hl=>?_⟩
 ·obtain⟨i,rfl⟩:∃ i,m=a+i:=⟨m-a,by omega⟩
  rw[←aM3]
  refine hs i pW ?_
  rcases aTN i with e|e
  ·exact .inl e
  ·refine .inr ?_
   rcases h3 with h3|h3
   ·omega
   ·rw[aPR,show a+(i-1)=a+i-1 by omega];exact h3
 ·rw[aM3]
  refine hs (a+i) aA (by simp at hi;omega) ?_
  rcases aTN i with e|e
  ·exact .inl aA
  ·rcases hl with hl|hl
   ·omega
   ·rw[aPR,show a+(i-1)=a+i-1 by omega]at hl;exact .inr hl
def aF2 (j:List UInt8) (k:Int):Prop:=(0<=k/\k<=j.length)/\(0<k->j[k.toNat-1]?=some 10)/\bJG (j.drop k.toNat)
noncomputable instance (j:List UInt8) (k:Int):Decidable (aF2 j k):=Classical.propDecidable _
def aD4 (s:aI):Prop:=∀ w∈s.bI,w=-1
theorem aY4 {l:List Int} {k:Nat} (h:∀ w∈l,w=-1):∀ w∈l.set k (-1),w=-1:=λw hw=>by
 rcases a36 hw with q|q
 ·exact h w q
 ·exact q
theorem aV7 {s s':aI} {r:aT} (h:aD4 s) (e:uV s r=some s'):aD4 s':=by
 unfold uV at e
 split at e
 ·cases e;exact aY4 h
 ·cases e
theorem aMW (st:Nat->Prop) [DecidablePred st] {s:aI} (h:aD4 s):∀ k,aD4 (lI st s k)
 |0=>h
 |k+1=>by
  rw[lI]
  split
  ·exact aMW st h k
  ·exact aY4 (aMW st h k)
theorem a7X {s s':aI} {w:List UInt8} {n:List Int} (h:aD4 s) (e:mR s w n=some s'):aD4 s':=by
 unfold mR at e
 split at e
 ·split at e
  ·exact aV7 h e
  ·cases e
 ·split at e
  ·split at e
   ·exact aV7 h e
   ·cases e
  ·split at e
   ·unfold aG5 at e
    split at e
    ·cases e;exact aMW _ h _
    ·cases e
   ·split at e
    ·split at e
     ·unfold aG6 at e
      split at e
      ·cases e;exact aY4 h
      ·cases e
     ·cases e
    ·cases e
theorem bEF {s s':aI} {b b':Int} {line:List UInt8} (h:aD4 s) (e:vY s b line=some (s',b')):aD4 s':=by
 unfold vY at e
 split at e
 ·split at e
  ·cases ha:aK3 s (line.take (vM 32 line).toNat)with
   |none=>rw[ha]at e;cases e
   |some y =>
    rw[ha]at e;cases e
    by_cases hex:∃ x:List UInt8×List Int,aSS (line.take (vM 32 line).toNat) x.1 x.2
    ·obtain⟨x,hx⟩:=hex
     rw[aF1 hx]at ha;exact a7X h ha
    ·rw[aPH λw n q=>hex ⟨(w,n),q⟩]at ha;cases ha
  ·cases e
 ·cases e
theorem a3E:∀ (L:List (List UInt8)) {s:aI} {b:Int},aD4 s->aD4 (xC s b L).1
 | [],_,_,h=>h
 | [_],_,_,h=>h
 |l::m::r,s,b,h=>by
  rw[xC]
  cases e:vY s b l with
  |none=>exact h
  |some x=>exact a3E (m::r) (bEF h e)
theorem bJH (j:dN):aD4 (tR j):=λw hw=>by
 unfold tR at hw
 exact(aUC.1 hw).2
def s8 (s:aI):aI:={ s with bI:=List.replicate s.bI.length (-1) }
theorem bN9 {l:List Int} (h:∀ w∈l,w=-1):l=List.replicate l.length (-1):=List.eq_replicate_iff.2 ⟨rfl,h⟩
noncomputable def runN (n:jQ):aI×Nat:=xC (tR n.jR) 1 (mH 10 n.iP)
def bRV (a b:aI):Prop:=a.bA=b.bA/\a.aP=b.aP/\a.bM=b.bM/\a.bW=b.bW
theorem bEG {a s:aI} (ha:a.ok) (hs:s.ok) (ho:aD4 a):a=s8 s↔bRV a s:=by
 have h1:=aI.eq_iff (a:=a) (b:=s8 s)
 refine⟨λe=>?_,λe=>?_⟩
 ·rw[e];exact⟨rfl,rfl,rfl,rfl⟩
 ·obtain⟨e1,e2,e3,e4⟩:=e
  refine h1.2 ?_
  have l1:=ha.2.1
  have l2:=hs.2.1
  have hl:a.bI.length=s.bI.length:=by rw[l1.2.2.2,l2.2.2.2,e1]
  simp only[s8,e1,e2,e3,e4,true_and,and_true]
  rw[←hl];exact bN9 ho
def aV8 (n:jQ):Prop:=n.jR.ok/\n.cA.ok/\n.iP.length<=6000/\aF2 n.iP n.aFD/\(1<=n.cH.length/\n.cH.length<=4)/\n.gV.length<=12/\(∀ w∈n.cA.bI,w<n.cH.length)/\(∀ q∈n.cH,q.length<=8/\∀ r∈q,gX n.cA r)/\(∀ r∈n.gV,gX n.cA r)/\(runN n).2=n.iP.length/\bRV (runN n).1 n.cA
noncomputable instance (n:jQ):Decidable (aV8 n):=Classical.propDecidable _
end Go.Hl
namespace Go.Proofs
open Go.Shelf
def Tryz.a3F:Go.Shelf.Ren:=⟨fun|221=>147|268=>184|138=>185|143=>186|195=>220|197=>221|218=>222|219=>172|260=>246|217=>205|225=>206|224=>207|267=>208|266=>229|314=>230|n=>n,fun|9=>9|3=>3|31=>145|4=>4|0=>0|105=>262|21=>21|5=>5|46=>236|119=>313|139=>316|138=>315|146=>272|51=>271|n=>n,fun|1=>0|3=>2|4=>3|n=>n⟩
theorem Tryz.bOA:Go.Proofs.Lays.n221 Tryz.prog Tryz.a3F:={
 mixed:=by kernel_rfl
 f138:=Tryz.func185.trans (congrArg some (by kernel_rfl))
 f143:=Tryz.func186.trans (congrArg some (by kernel_rfl))
 f195:=Tryz.func220.trans (congrArg some (by kernel_rfl))
 f197:=Tryz.func221.trans (congrArg some (by kernel_rfl))
 f217:=Tryz.func205.trans (congrArg some (by kernel_rfl))
 f218:=Tryz.func222.trans (congrArg some (by kernel_rfl))
 f219:=Tryz.func172.trans (congrArg some (by kernel_rfl))
 f221:=Tryz.func147.trans (congrArg some (by kernel_rfl))
 f224:=Tryz.func207.trans (congrArg some (by kernel_rfl))
 f225:=Tryz.func206.trans (congrArg some (by kernel_rfl))
 f260:=Tryz.func246.trans (congrArg some (by kernel_rfl))
 f266:=Tryz.func229.trans (congrArg some (by kernel_rfl))
 f267:=Tryz.func208.trans (congrArg some (by kernel_rfl))
 f268:=Tryz.func184.trans (congrArg some (by kernel_rfl))
 f314:=Tryz.func230.trans (congrArg some (by kernel_rfl))
 t0:=Tryz.underlying0
 a0:=Tryz.isAgg0
 z0:=Tryz.sizeOf0
 v0:=Tryz.zeroValue0
 t3:=Tryz.underlying3
 a3:=Tryz.isAgg3
 z3:=Tryz.sizeOf3
 v3:=Tryz.zeroValue3
 t4:=Tryz.underlying4
 a4:=Tryz.isAgg4
 z4:=Tryz.sizeOf4
 v4:=Tryz.zeroValue4
 t5:=Tryz.underlying5
 a5:=Tryz.isAgg5
 z5:=Tryz.sizeOf5
 v5:=Tryz.zeroValue5
 t9:=Tryz.underlying9
 a9:=Tryz.isAgg9
 z9:=Tryz.sizeOf9
 v9:=Tryz.zeroValue9
 t21:=Tryz.underlying21
 a21:=Tryz.isAgg21
 z21:=Tryz.sizeOf21
 v21:=Tryz.zeroValue21
 t31:=Tryz.underlying145
 a31:=Tryz.isAgg145
 z31:=Tryz.sizeOf145
 v31:=Tryz.zeroValue145
 t46:=Tryz.underlying236
 a46:=Tryz.isAgg236
 z46:=Tryz.sizeOf236
 v46:=Tryz.zeroValue236
 t51:=Tryz.underlying271
 a51:=Tryz.isAgg271
 z51:=Tryz.sizeOf271
 v51:=Tryz.zeroValue271
 t105:=Tryz.underlying262
 a105:=Tryz.isAgg262
 z105:=Tryz.sizeOf262
 v105:=Tryz.zeroValue262
 t119:=Tryz.underlying313
 a119:=Tryz.isAgg313
 z119:=Tryz.sizeOf313
 t138:=Tryz.underlying315
 a138:=Tryz.isAgg315
 z138:=Tryz.sizeOf315
 v138:=Tryz.zeroValue315
 t139:=Tryz.underlying316
 a139:=Tryz.isAgg316
 z139:=Tryz.sizeOf316
 v139:=Tryz.zeroValue316
 t146:=Tryz.underlying272
 a146:=Tryz.isAgg272
 z146:=Tryz.sizeOf272
 v146:=Tryz.zeroValue272
 g1:=by kernel_rfl
 g3:=by kernel_rfl
 g4:=by kernel_rfl }
open Go.RowKit Go.Lib in
theorem Tryz.strings_genSplit (s sep:ByteArray) (sv:Nat) (n:Int) (N:Nat) (m:Int) (w:World) (hs:s.size<4294967281) (hm:w.cell? ⟨0,0,none⟩=some (.int .i64 m)) (h1:1<=sep.size) (hsv:sv<=sep.size) (hn0:n≠0) (b60:n<=9223372036854775807) (hN:(N:Int)=min (if n<0 then(Lib.countB s sep:Int)+1 else n) ((s.size:Int)+1)) :
  Calls Tryz.prog 147 #[.string s,.string sep,.int .i64 sv,.int .i64 n] w λe w' =>
   e=.returned (.slice (some ⟨w.heap.size,0,none⟩) (Lib.splitB sep sv (N-1) s).length N)/\w'=w.alloc (.cells (Lib.cellsOf (Lib.splitB sep sv (N-1) s) N) 9):=Any.strings_genSplit Tryz.bOA (by kernel_rfl) s sep sv n N m w hs hm h1 hsv hn0 b60 hN
end Go.Proofs
namespace Go.Hl
set_option maxRecDepth 100000
open Go.Proofs
set_option linter.unusedVariables false
set_option linter.unusedSimpArgs false
structure b2N (b:Prop):Prop where
 p:b
theorem a7Y {a b:Prop} (m:b2N b->a) (t:b):a:=m ⟨t⟩
@[go_sem] def b4R:List Nat:=[0,1,2,3,8,9,10,11,13,15,20,36,41]
theorem bEH (a:List UInt8) (c:UInt8) (ha:a.length<=1048600):dQ Tryz.prog 147 [.str a,.str [c],I 1,I (-1)] (cI 1 (λs=>[.str s]) (spA c a)):=by
 have hl:=bCB c a
 refine a1S aBB a0D (λs hs=>by have:=hl.2 s hs;simp only[maxLen];omega) λE h w vs R rl=>?_
 match vs,rl with
 | [v0,v1,v2,v3],rl =>
  obtain⟨r0,r1,r2,r3,_⟩:=rl
  obtain⟨rfl,h0⟩:=mZ r0
  obtain⟨rfl,h1⟩:=mZ r1
  rw[j4 r2,j4 r3]
  obtain⟨m,hm⟩:=aRA R.laid
  have hcb:Go.Lib.countB ⟨a.toArray⟩ ⟨[c].toArray⟩=a.count c:=count_le c _ a aS
  have hcl:=Go.Lib.countB_le ⟨[c].toArray⟩ aUO (⟨a.toArray⟩:ByteArray).size ⟨a.toArray⟩ (fL _)
  have hs3:(Go.Lib.splitB ⟨[c].toArray⟩ 1 (Go.Lib.countB ⟨a.toArray⟩ ⟨[c].toArray⟩) ⟨a.toArray⟩).map Value.string=(spA c a).map λs=>Value.string ⟨s.toArray⟩:=by
   have h1:=Go.Lib.splitB_data ⟨[c].toArray⟩ 1 (Go.Lib.countB ⟨a.toArray⟩ ⟨[c].toArray⟩) ⟨a.toArray⟩
   have h2:Go.Lib.splitK [c] 1 (Go.Lib.countB ⟨a.toArray⟩ ⟨[c].toArray⟩) a=spA c a:=aTA c _ a (al8 hcb.symm)
   rw[←h2,←h1,aZO]
   refine bFB λb _=>?_
   simp
  have h2:=Go.Lib.splitB_all ⟨[c].toArray⟩ aUO 1 _ ⟨a.toArray⟩ rfl
  have hn:Go.Lib.countB ⟨a.toArray⟩ ⟨[c].toArray⟩+1=(spA c a).length:=by
   have h3:=congrArg List.length hs3
   rw[k5,k5]at h3
   rw[←h3];exact h2.symm
  have hz:(⟨a.toArray⟩:ByteArray).size=a.length:=by simp[ByteArray.size]
  refine(Go.Proofs.Tryz.strings_genSplit ⟨a.toArray⟩ ⟨[c].toArray⟩ 1 (-1) (Go.Lib.countB ⟨a.toArray⟩ ⟨[c].toArray⟩+1) m w aA hm aUO aUO dH dH (by rw[if_pos dH];omega)).mono λe w' ⟨he,hw⟩=>⟨9,?_,?_⟩
  ·rw[he,bFG,h2,hn]
  ·rw[hw,bFG,←hs3,←h2,Go.Lib.cellsOf_full]
theorem a7Z (a:List UInt8) (c:UInt8) (ha:a.length<=1048600):dQ Tryz.prog 99 [.str a,.str [c]] (cI 1 (λs=>[.str s]) (spA c a)):=by
 have hg:=bEH a c ha
 refine dI 10 zG cG b9 Tryz.func99 λh=>?_
 simp -dsimp -implicitDefEqProofs only[go_sem,↓reduceIte,Tryz.f99]
 first|refine aH.mk (hg) ?_|refine aE.mk (hg) ?_|refine aH.b7 (hg) ?_|refine aE.mk (bX.eA (hg)) ?_
 simp -dsimp -implicitDefEqProofs only[go_sem,↓reduceIte,Tryz.f99]
theorem a71 (s p:List UInt8):dQ Tryz.prog 148 [.str s,.str p] (.bool (decide (s.take p.length=p))):=by
 refine dI 18 zG cG b9 Tryz.func148 λh=>?_
 simp -dsimp -implicitDefEqProofs only[go_sem,↓reduceIte,Tryz.f148]
 repeat'(with_reducible first|intro _|refine And.intro ?_ ?_)
 all_goals try(first|(simp[*];done)|omega|grind)
 all_goals trace_state;all_goals sorry
theorem hasPrefix (s p:List UInt8):dQ Tryz.prog 100 [.str s,.str p] (.bool (decide (s.take p.length=p))):=by
 have hg:=a71 s p
 refine dI 8 zG cG b9 Tryz.func100 λh=>?_
 simp -dsimp -implicitDefEqProofs only[go_sem,↓reduceIte,Tryz.f100]
 first|refine aH.mk (hg) ?_|refine aE.mk (hg) ?_|refine aH.b7 (hg) ?_|refine aE.mk (bX.eA (hg)) ?_
 simp -dsimp -implicitDefEqProofs only[go_sem,↓reduceIte,Tryz.f100]
@[go_sem] def a73:List Nat:=[0,1,4,6,22,26,27,28,29,43]
theorem aY5 (j:List UInt8) (k:Int) (hj:j.length<=6000):dQ Tryz.prog 51 [.str j,I k] (.bool (decide (aF2 j k))):=by
 by_cases h1:(0<=k/\k<=j.length)/\(0<k->j[k.toNat-1]?=some 10)
 ·have hd:decide (aF2 j k)=decide (∀ s∈spA 10 (j.drop k.toNat),s=[]∨zS s):=decide_eq_decide.2 ⟨λq=>(aV5 _).1 q.2.2,λq=>⟨h1.1,h1.2,(aV5 _).2 q⟩⟩
  rw[hd]
  have hsp:=a7Z (j.drop k.toNat) 10 pW
  have hln:=(bCB 10 (j.drop k.toNat)).1
  have hdl:(j.drop k.toNat).length<=6000:=by simp;omega
  generalize spA 10 (j.drop k.toNat)=L at hsp hln ⊢
  refine dI 45 a73 cG b9 Tryz.func51 λh=>?_
  simp -dsimp -implicitDefEqProofs only[go_sem,↓reduceIte,Tryz.f51]
  repeat'(with_reducible first|intro _|refine And.intro ?_ ?_)
  first|refine aH.mk (within k 0 j.length) ?_|refine aE.mk (within k 0 j.length) ?_|refine aH.b7 (within k 0 j.length) ?_|refine aE.mk (bX.eA (within k 0 j.length)) ?_
  simp -dsimp -implicitDefEqProofs only[go_sem,↓reduceIte,Tryz.f51]
  apply a7Y
  case m =>
   intro key
   repeat'(with_reducible first|intro _|refine And.intro ?_ ?_)
   all_goals try omega
   ·rw[IntWalk.i64_in _ aA];omega
   ·rename_i hk
    rw[IntWalk.i64_in _ aA,show(k-1).toNat=k.toNat-1 by omega,h1.2 hk]
    simp -dsimp -implicitDefEqProofs only[go_sem,↓reduceIte,Tryz.f51]
    repeat'(with_reducible first|intro _|refine And.intro ?_ ?_)
    all_goals try omega
    all_goals first|exact absurd rfl gB|exact key.p
   ·exact key.p
  case t =>
   rw[eL]
   first|refine aH.mk (hsp) ?_|refine aE.mk (hsp) ?_|refine aH.b7 (hsp) ?_|refine aE.mk (bX.eA (hsp)) ?_
   simp -dsimp -implicitDefEqProofs only[go_sem,↓reduceIte,Tryz.f51]
   intro _
   refine cY a73 cG b9 (λi:Nat=>[(26,cI 1 (λs=>[.str s]) L),(27,I L.length),(28,I i)]) (λ_=>h) (λi=>i<=L.length/\∀ s∈L.take i,s=[]∨zS s) (λi=>L.length-i) 0 pV ?_
   intro i ⟨hi,hp⟩
   rcases cP i L.length with hlt|hge
   ·have ea:L[i]?=some L[i]:=b6 hlt
    have hne:IntKind.i64.wrap (↑i+1)=↑(i+1):=by rw[IntWalk.i64_in _ aA];rfl
    simp -dsimp -implicitDefEqProofs only[go_sem,↓reduceIte,Tryz.f51,ea]
    repeat'(with_reducible first|intro _|refine And.intro ?_ ?_)
    all_goals try(exact hlt)
    all_goals try(exact absurd hlt gB)
    ·first|refine aH.mk (hasPrefix L[i] aG3) ?_|refine aE.mk (hasPrefix L[i] aG3) ?_|refine aH.b7 (hasPrefix L[i] aG3) ?_|refine aE.mk (bX.eA (hasPrefix L[i] aG3)) ?_
     simp -dsimp -implicitDefEqProofs only[go_sem,↓reduceIte,Tryz.f51]
     repeat'(with_reducible first|intro _|refine And.intro ?_ ?_)
     ·first|refine aH.mk (hasPrefix L[i] aG4) ?_|refine aE.mk (hasPrefix L[i] aG4) ?_|refine aH.b7 (hasPrefix L[i] aG4) ?_|refine aE.mk (bX.eA (hasPrefix L[i] aG4)) ?_
      simp -dsimp -implicitDefEqProofs only[go_sem,↓reduceIte,Tryz.f51]
      rename_i q1 q2
      refine⟨λq3=>(decide_eq_false λq=>?_).symm,λq3=>⟨i+1,hne,⟨by omega,iY (P:=λs=>s=[]∨zS s) hlt hp (.inr (.inr q3))⟩,by omega⟩⟩
      rcases q _ (dG hlt)with e|e|e
      ·exact q1 e
      ·exact q2 e
      ·exact q3 e
     ·rename_i q1 q2
      exact⟨i+1,hne,⟨by omega,iY (P:=λs=>s=[]∨zS s) hlt hp (.inr (.inl q2))⟩,by omega⟩
    ·rename_i q
     exact⟨i+1,hne,⟨by omega,iY (P:=λs=>s=[]∨zS s) hlt hp (.inl q)⟩,by omega⟩
   ·have hi':i=L.length:=by omega
    subst hi'
    simp -dsimp -implicitDefEqProofs only[go_sem,↓reduceIte,Tryz.f51,cN]
    rw[eL]at hp
    exact(decide_eq_true hp).symm
 ·have hd:decide (aF2 j k)=false:=decide_eq_false λq=>h1 ⟨q.1,q.2.1⟩
  rw[hd]
  refine dI 45 a73 cG b9 Tryz.func51 λh=>?_
  simp -dsimp -implicitDefEqProofs only[go_sem,↓reduceIte,Tryz.f51]
  repeat'(with_reducible first|intro _|refine And.intro ?_ ?_)
  first|refine aH.mk (within k 0 j.length) ?_|refine aE.mk (within k 0 j.length) ?_|refine aH.b7 (within k 0 j.length) ?_|refine aE.mk (bX.eA (within k 0 j.length)) ?_
  simp -dsimp -implicitDefEqProofs only[go_sem,↓reduceIte,Tryz.f51]
  repeat'(with_reducible first|intro _|refine And.intro ?_ ?_)
  all_goals try(exact absurd ⟨by assumption,λq=>absurd q gB⟩ h1)
  all_goals try rfl
  ·rw[IntWalk.i64_in _ aA];omega
  ·rename_i hr hk
   have e:j[k.toNat-1]?=some (j[k.toNat-1]'aA):=b6 aA
   rw[IntWalk.i64_in _ aA,show(k-1).toNat=k.toNat-1 by omega,e]
   simp -dsimp -implicitDefEqProofs only[go_sem,↓reduceIte,Tryz.f51]
   repeat'(with_reducible first|intro _|refine And.intro ?_ ?_)
   all_goals try rfl
   all_goals
    rename_i e10
    exact absurd ⟨hr,λ_=>e.trans (congrArg some (UInt8.toNat_inj.1 (Int.ofNat.inj e10)))⟩ h1
@[go_sem] def a74:List Nat:=[0,2,3,4,35,46,64,72,86]
@[go_sem] def bVB:Marks:=λid=>match id with|1=>([],(.op 0 (.op 1 (.op 2 (.op 3 (.op 4 (.op 5 (.op 6 (.op 7 (.op 8 (.op 9 (.op 10 (.op 11 (.op 12 (.op 13 (.op 14 (.op 15 (.op 16 (.op 17 (.op 18 (.op 19 (.op 20 (.op 21 (.op 22 (.op 23 (.op 24 (.op 25 (.op 26 (.op 27 (.op 28 (.op 29 (.op 30 .nil))))))))))))))))))))))))))))))),[])|_=>([],.nil,[])
theorem bOB (n:jQ) (hj:n.iP.length<=6000):dQ Tryz.prog 91 [.ip 18 [n.c] 0 0] (.bool (decide (aF2 n.iP n.aFD))):=by
 obtain⟨st,sv,j,k,qs,fl⟩:=n
 simp only at hj ⊢
 simp only[jQ.aM]
 by_cases h1:(0<=k/\k<=j.length)/\(0<k->j[k.toNat-1]?=some 10)
 ·have hd:decide (aF2 j k)=decide (aV6 j k.toNat j.length):=decide_eq_decide.2 ⟨λq=>aTB.1 q.2.2,λq=>⟨h1.1,h1.2,aTB.2 q⟩⟩
  rw[hd]
  refine dI 87 a74 cG bVB Tryz.func91 λh=>?_
  simp -dsimp -implicitDefEqProofs only[go_sem,↓reduceIte,Tryz.f91]
  first|refine aH.mk (eI k 0 j.length) ?_|refine aE.mk (eI k 0 j.length) ?_|refine aH.b7 (eI k 0 j.length) ?_|refine aE.mk (bX.eA (eI k 0 j.length)) ?_
  simp -dsimp -implicitDefEqProofs only[go_sem,↓reduceIte,Tryz.f91]
  apply a7Y
  case m =>
   intro key
   repeat'(with_reducible first|intro _|refine And.intro ?_ ?_)
   all_goals try omega
   ·rw[IntWalk.i64_in _ aA];omega
   ·rename_i hk
    rw[IntWalk.i64_in _ aA,show(k-1).toNat=k.toNat-1 by omega,h1.2 hk]
    simp -dsimp -implicitDefEqProofs only[go_sem,↓reduceIte,Tryz.f91]
    repeat'(with_reducible first|intro _|refine And.intro ?_ ?_)
    all_goals try omega
    all_goals first|exact absurd rfl gB|exact key.p
   ·exact key.p
  case t =>
   refine cY a74 cG bVB (λi:Nat=>[(0,.ip 18 [jQ.c ⟨st,sv,j,k,qs,fl⟩] 0 0),(3,I i)]) (λ_=>h) (λi=>(k.toNat<=i/\i<=j.length)/\aV6 j k.toNat i) (λi=>j.length-i) k.toNat (by simp[dT,dB,Heap.le_refl,jQ.aM,Int.toNat_of_nonneg h1.1.1];exact⟨by omega,λm h1 h2=>by omega⟩) ?_
   intro i ⟨⟨hi0,hi⟩,hp⟩
   simp only[jQ.aM]
   rcases cP i j.length with hlt|hge
   ·have hne:IntKind.i64.wrap (↑i+1)=↑(i+1):=by rw[IntWalk.i64_in _ aA];rfl
    simp -dsimp -implicitDefEqProofs only[go_sem,↓reduceIte,Tryz.f91]
    refine λ_=>⟨λ_=>?_,λq=>absurd hlt q⟩
    by_cases hc:i=k.toNat∨j[i-1]?=some 10
    ·apply a7Y
     case m =>
      intro key
      refine⟨λhk=>⟨by rw[IntWalk.i64_in _ aA];omega,?_⟩,λ_=>key.p⟩
      rcases hc with hc|hc
      ·omega
      ·rw[IntWalk.i64_in _ aA,show((i:Int)-1).toNat=i-1 by omega,hc]
       simp -dsimp -implicitDefEqProofs only[go_sem,↓reduceIte,Tryz.f91]
       refine⟨λq=>absurd rfl q,λ_=>key.p⟩
     case t =>
      have w4:IntKind.i64.wrap (↑i+4)=↑(i+4):=by rw[IntWalk.i64_in _ aA];rfl
      have e4:List.drop i (List.take (↑(i+4):Int).toNat j)=(j.drop i).take 4:=by rw[wQ,bE4,Nat.add_sub_cancel_left]
      rw[w4,e4]
      refine λ_=>⟨λq=>?_,λq=>⟨by omega,by omega,λq1=>⟨λq2=>?_,λq2=>?_⟩,λq1=>?_⟩⟩
      ·exact(decide_eq_false λz=>by have:=bEE (z i hi0 hlt hc);rw[aLG]at this;omega).symm
      ·exact(decide_eq_false λz=>(z i hi0 hlt hc).elim q1 q2).symm
      ·exact⟨i+1,hne,⟨⟨by omega,by omega⟩,aIW hp λ_=>.inr q2⟩,by omega⟩
      ·exact⟨i+1,hne,⟨⟨by omega,by omega⟩,aIW hp λ_=>.inl q1⟩,by omega⟩
    ·refine⟨λhk=>⟨by rw[IntWalk.i64_in _ aA];omega,?_⟩,λhk=>absurd (.inl aA) hc⟩
     have e:j[i-1]?=some (j[i-1]'aA):=b6 aA
     rw[IntWalk.i64_in _ aA,show((i:Int)-1).toNat=i-1 by omega,e]
     simp -dsimp -implicitDefEqProofs only[go_sem,↓reduceIte,Tryz.f91]
     refine⟨λq=>?_,λq=>?_⟩
     ·exact⟨i+1,hne,⟨⟨by omega,by omega⟩,aIW hp λz=>absurd z hc⟩,by omega⟩
     ·exact absurd (.inr (e.trans (congrArg some (UInt8.toNat_inj.1 (Int.ofNat.inj q))))) hc
   ·have hi':i=j.length:=by omega
    subst hi'
    simp -dsimp -implicitDefEqProofs only[go_sem,↓reduceIte,Tryz.f91,fP]
    exact λ_=>(decide_eq_true hp).symm
 ·have hd:decide (aF2 j k)=false:=decide_eq_false λq=>h1 ⟨q.1,q.2.1⟩
  rw[hd]
  refine dI 87 a74 cG bVB Tryz.func91 λh=>?_
  simp -dsimp -implicitDefEqProofs only[go_sem,↓reduceIte,Tryz.f91]
  first|refine aH.mk (eI k 0 j.length) ?_|refine aE.mk (eI k 0 j.length) ?_|refine aH.b7 (eI k 0 j.length) ?_|refine aE.mk (bX.eA (eI k 0 j.length)) ?_
  simp -dsimp -implicitDefEqProofs only[go_sem,↓reduceIte,Tryz.f91]
  repeat'(with_reducible first|intro _|refine And.intro ?_ ?_)
  all_goals try(exact absurd ⟨by assumption,λq=>absurd q gB⟩ h1)
  all_goals try rfl
  ·rw[IntWalk.i64_in _ aA];omega
  ·rename_i hr hk
   have e:j[k.toNat-1]?=some (j[k.toNat-1]'aA):=b6 aA
   rw[IntWalk.i64_in _ aA,show(k-1).toNat=k.toNat-1 by omega,e]
   simp -dsimp -implicitDefEqProofs only[go_sem,↓reduceIte,Tryz.f91]
   repeat'(with_reducible first|intro _|refine And.intro ?_ ?_)
   all_goals try rfl
   all_goals
    rename_i e10
    exact absurd ⟨hr,λ_=>e.trans (congrArg some (UInt8.toNat_inj.1 (Int.ofNat.inj e10)))⟩ h1
def zT (l:List Int) (k:Nat):List Int:=List.replicate k (-1)++l.drop k
theorem aTC {l:List Int} {k:Nat} (h:k<=l.length):(zT l k).length=l.length:=by simp[zT];omega
theorem a77 {l:List Int} {k:Nat} (h:k<l.length):(zT l k).set k (-1)=zT l (k+1):=by
 rw[zT,zT,List.replicate_succ',List.set_append_right _ _ aS,al9,aLH,aZR h,List.set_cons_zero,qT];rfl
theorem a78 {l:List Int} {k:Nat} (h:k<l.length):∃ x,(zT l k)[k]?=some x:=⟨_,b6 (by rw[aTC aA];exact h)⟩
@[go_sem] def a79:List Nat:=[0,1,2,3,4,9,10,11]
set_option maxHeartbeats 1000000 in
theorem bRX (s:aI) (hs:s.s<=1048576):tU Tryz.prog 60 [.agg s.c] (QA (s8 s).o (λy=>y)):=by
 have hcl:=yD s hs
 have hsz:=s.fQ
 simp only[aI.aM]at hcl ⊢
 refine x9 19 a79 wE b9 Tryz.func60 λh=>?_
 simp -dsimp -implicitDefEqProofs only[go_sem,↓reduceIte,Tryz.f60]
 intro n4 z4
 try simp -dsimp -implicitDefEqProofs only[go_sem,↓reduceIte,Tryz.f60]
 refine aH.wn1 hcl z4 ?_
 rintro r l_ g ⟨e,oe,rfl,rfl⟩ wn z4
 have vV:=oe
 obtain⟨fH,fV,gC,rA,s6,rC,tS,rfl,eM,eU,eJ,eH,eS,eN,eO⟩:=vV
 simp -dsimp -implicitDefEqProofs only[go_sem,↓reduceIte,Tryz.f60,OV.aR,OV.aG,OV.bE,aF,aD,eM.flat,eM.one,eU.flat,eU.one,eJ.flat,eJ.one,eH.flat,eH.one,eS.flat,eS.one,eN.flat,eN.one,eO.flat,eO.one]
 intro n6 aKR
 obtain⟨mD,fZ,gA,aDJ⟩:=cE (show ¬n6=n4 from iS aKR)
 have p5:g n6=none:=iS aKR
 rcases eO.zX with⟨rfl,h8⟩|⟨n8,rfl⟩
 ·try simp -dsimp -implicitDefEqProofs only[go_sem,↓reduceIte,Tryz.f60,OV.aR,OV.aG,OV.bE,aF,aD,eM.flat,eM.one,eU.flat,eU.one,eJ.flat,eJ.one,eH.flat,eH.one,eS.flat,eS.one,eN.flat,eN.one,eO.flat,eO.one,gA,fZ,OV.r7]
  have hl:s8 s=s:=by simp[s8,h8];rw[←h8]
  rw[hl]
  refine aDB a79 wE b9 (λ_:Unit=>[(2,.op n4 9 0 0),(3,.op n6 9 0 0),(9,I 0),(10,I 0)]) (λ_=>True) (λ_=>0) () (by simp[dT,dB]) ?_
  intro _ _
  try simp -dsimp -implicitDefEqProofs only[go_sem,↓reduceIte,Tryz.f60,OV.aR,OV.aG,OV.bE,aF,aD,eM.flat,eM.one,eU.flat,eU.one,eJ.flat,eJ.one,eH.flat,eH.one,eS.flat,eS.one,eN.flat,eN.one,eO.flat,eO.one,gA,fZ,fP]
  exact aF6 (w:=λy=>y) oe wn (by repeat'(first|exact Heap.le_refl _|refine Heap.cD ?_|refine Heap.aW kT ?_))
 ·have g8:=wn.aHM [fH,.v (.int .i64 s.bA.b5),.v (.int .i64 s.bA.aU),fV,gC,rA,s6,rC] (c:=I)
  obtain⟨bMB,aAP,aAQ,bMC⟩:=cE (show ¬n8=n4 from eK g8 z4)
  obtain⟨aKO,mW,mV,aO4⟩:=cE (show ¬n8=n6 from eK g8 p5)
  rw[OV.jX]
  try simp -dsimp -implicitDefEqProofs only[go_sem,↓reduceIte,Tryz.f60,OV.aR,OV.aG,OV.bE,aF,aD,eM.flat,eM.one,eU.flat,eU.one,eJ.flat,eJ.one,eH.flat,eH.one,eS.flat,eS.one,eN.flat,eN.one,eO.flat,eO.one,gA,aAQ,fZ,mV,aAP,mW,g8]
  intro hlen
  refine aW1 a79 wE b9 (λk:Nat=>[(2,.op n4 9 0 0),(3,.op n6 9 0 0),(9,I s.bI.length),(10,I k)]) n8 (λk=>.row 1 (((zT s.bI k).map λn=>[I n]).map (List.map .v))) (λk=>k<=s.bI.length) (λk=>s.bI.length-k) 0 ⟨by simp[dT,dB],by simp[zT,dC,gA,aAQ,fZ,mV,aAP,mW,g8],iZ _⟩ ?_
  intro k hk
  rcases cP k s.bI.length with hlt|hge
  ·obtain⟨x,ek⟩:=a78 hlt
   have el:=aTC hk
   simp -dsimp -implicitDefEqProofs only[go_sem,↓reduceIte,Tryz.f60,OV.aR,OV.aG,OV.bE,aF,aD,eM.flat,eM.one,eU.flat,eU.one,eJ.flat,eJ.one,eH.flat,eH.one,eS.flat,eS.one,eN.flat,eN.one,eO.flat,eO.one,gA,aAQ,fZ,mV,aAP,mW,g8,hlt,ek,el]
   refine⟨k+1,by rw[IntWalk.i64_in _ aA];rfl,?_,by omega,by omega⟩
   rw[←a77 hlt,←xK I]
   exact Heap.le_refl _
  ·have hk':k=s.bI.length:=by omega
   subst hk'
   simp -dsimp -implicitDefEqProofs only[go_sem,↓reduceIte,Tryz.f60,OV.aR,OV.aG,OV.bE,aF,aD,eM.flat,eM.one,eU.flat,eU.one,eJ.flat,eJ.one,eH.flat,eH.one,eS.flat,eS.one,eN.flat,eN.one,eO.flat,eO.one,gA,aAQ,fZ,mV,aAP,mW,g8,cN]
   have hfr:zT s.bI s.bI.length=(s8 s).bI:=by simp[zT,s8]
   rw[hfr]
   have hv:aC.os n8 1 0 s.bI.length=(OV.sl n8 1 ((s8 s).bI.map λx=>[.v (I x)])).val:=by rw[OV.jX];simp[s8]
   rw[hv]
   exact aF6 (w:=λy=>y) (e:=[fH,.v (.int .i64 s.bA.b5),.v (.int .i64 s.bA.aU),fV,gC,rA,s6,rC]++[OV.sl n8 1 ((s8 s).bI.map λx=>[.v (I x)])]) ⟨fH,fV,gC,rA,s6,rC,_,rfl,eM,eU,eJ,eH,eS,eN,OS.mk (sE _)⟩ (wn.aQ6 [fH,.v (.int .i64 s.bA.b5),.v (.int .i64 s.bA.aU),fV,gC,rA,s6,rC] (l':=(s8 s).bI)) (by repeat'(first|exact Heap.le_refl _|refine Heap.cD ?_|refine Heap.aW kT ?_))
theorem bEI (n:jQ) (w:Int):dQ Tryz.prog 54 [I w,.ip 18 [n.c] 0 0] (.bool (!decide (w<n.cH.length))):=by
 simp only[jQ.aM]
 refine dI 9 bP2 cG b9 Tryz.func54 λh=>?_
 simp -dsimp -implicitDefEqProofs only[go_sem,↓reduceIte,Tryz.f54]
 intro _
 by_cases h:w<(n.cH.length:Int)
 ·rw[decide_eq_true h,decide_eq_false aA];rfl
 ·rw[decide_eq_false h,decide_eq_true aA];rfl
theorem bEJ (n:jQ) (r:aT) (hl:n.cA.bA.aQ.length<=1048576):dQ Tryz.prog 57 [.agg r.c,.ip 18 [n.c] 0 0] (.bool (!decide (gX n.cA r))):=by
 have hr:=a17 n.cA r hl
 simp only[jQ.aM,aT.aM,dN.aM,aK.aM]at hr ⊢
 refine dI 10 aT1 aBW b9 Tryz.func57 λh=>?_
 simp -dsimp -implicitDefEqProofs only[go_sem,↓reduceIte,Tryz.f57]
 first|refine aH.mk (hr) ?_|refine aE.mk (hr) ?_|refine aH.b7 (hr) ?_|refine aE.mk (bX.eA (hr)) ?_
 simp -dsimp -implicitDefEqProofs only[go_sem,↓reduceIte,Tryz.f57]
theorem bVC (l:List aT) (hl:l.length<=1048576) (H:Heap):gK Tryz.prog 55 [cI 5 aT.c l] H λr h'=>(l=[]/\(r=.aV∨r=.sl 5 [] true)/\h'=H)∨∃ m,H m=none/\r=.os m 5 0 l.length/\h'=bT H m (.row 5 ((l.map aT.c).map (List.map .v))):=by
 refine aTZ 8 a98 bGT b9 Tryz.func55 ?_
 simp -dsimp -implicitDefEqProofs only[go_sem,↓reduceIte,Tryz.f55]
 repeat'(with_reducible first|intro _|refine And.intro ?_ ?_)
 all_goals try(first|omega|decide)
 ·rename_i e
  exact⟨H,Heap.le_refl _,.inl ⟨by simpa using e,.inl trivial,rfl⟩⟩
 ·rename_i e
  exact⟨H,Heap.le_refl _,.inl ⟨by simpa using e,.inr trivial,rfl⟩⟩
 ·exact⟨_,Heap.le_refl _,.inr ⟨_,by assumption,rfl,rfl⟩⟩
def zU (n:jQ) (k:Nat):List aT:=n.gV++(n.cH.take k).flatten
theorem aV9 {n:jQ} {k:Nat} {q:List aT} (h:n.cH[k]?=some q):zU n (k+1)=zU n k++q:=by
 rw[zU,zU,List.take_add_one,h,List.flatten_append];simp
theorem a3G {n:jQ}:∀ k,k<=n.cH.length->(∀ i q,i<k->n.cH[i]?=some q->q.length<=8)->(zU n k).length<=n.gV.length+8*k
 |0,_,_=>by simp[zU]
 |k+1,h,hq=>by
  have e:n.cH[k]?=some n.cH[k]:=b6 aA
  have ih:=a3G k aA λi q hi=>hq i q aA
  have:=hq k _ aA e
  rw[aV9 e,rL];omega
theorem bJI {n:jQ} {p:aT->Prop}:(∀ r∈zU n n.cH.length,p r)↔(∀ r∈n.gV,p r)/\∀ q∈n.cH,∀ r∈q,p r:=by
 rw[zU,eL]
 refine⟨λh=>⟨λr hr=>h r (aCH _ hr),λq hq r hr=>h r (xV _ (bKL.2 ⟨q,hq,hr⟩))⟩,λh r hr=>?_⟩
 rcases pH.1 hr with hr|hr
 ·exact h.1 r hr
 ·obtain⟨q,hq,hr⟩:=bKL.1 hr;exact h.2 q hq r hr
def bJJ (h:Heap) (l:List aT) (v:aC) (o:Option Nat):Prop:=(o=none/\l=[]/\(v=.aV∨v=.sl 5 [] true))∨∃ m,o=some m/\h m=none/\v=.os m 5 0 l.length
theorem bOC {h:Heap} {l:List aT} {v:aC} {o:Option Nat} {r:cF} (hr:bJJ h l v o):h.le (c7 h r o):=by
 rcases hr with⟨rfl,_,_⟩|⟨m,rfl,hm,_⟩
 ·exact Heap.le_refl _
 ·exact Heap.aW hm (Heap.le_refl _)
theorem bRY (e:List aC):OV.aLW (e.map OV.v)=e/\OV.cQ (e.map OV.v)=[]:=by
 induction e with
 |nil=>exact⟨rfl,OV.j9⟩
 |cons x e ih=>exact⟨by rw[lU,OV.aLW,ih.1];rfl,by rw[lU,OV.gG,ih.2];rfl⟩
theorem bJK (es:List (List aC)):OV.k8 (es.map (List.map OV.v))=es/\OV.cW (es.map (List.map OV.v))=[]/\OV.cells (es.map (List.map OV.v))=es.map (List.map .v):=by
 induction es with
 |nil=>exact⟨rfl,rfl,rfl⟩
 |cons x e ih =>
  refine⟨by rw[lU,OV.k8,ih.1,(bRY x).1],by rw[lU,OV.cW,ih.2.1,(bRY x).2,wP],?_⟩
  simp[OV.cells,OV.val]
theorem bEK {h:Heap} {l:List aT} {v:aC} {o:Option Nat} (hr:bJJ h l v o):View (c7 h (.row 5 ((l.map aT.c).map (List.map .v))) o) v (cI 5 aT.c l):=by
 rcases hr with⟨rfl,rfl,rfl|rfl⟩|⟨m,rfl,hm,rfl⟩
 ·have a:=View.ov (h:=h) (OV.nil 5) (λp hp=>by rw[OV.lY]at hp;cases hp)
  exact λE w v R r=>a E w v R (Sub.nil 5 true _ _ _ _ r)
 ·exact View.ov (h:=h) (OV.nil 5) (λp hp=>by rw[OV.lY]at hp;cases hp)
 ·have h3:=bJK (l.map aT.c)
  have h1:=View.ovD (h:=bT h m (.row 5 ((l.map aT.c).map (List.map .v)))) (d:=cI 5 aT.c l) (OV.sl m 5 ((l.map aT.c).map (List.map OV.v))) (by rw[OV.u3,h3.1]) (λp hp=>by
   rw[OV.lM,h3.2.1,h3.2.2,rG]at hp
   rw[hp];exact bG _ _ _)
  rw[OV.p8,k5,k5]at h1
  exact h1
theorem aY6 (a:List aT) (p:aT->Bool) (g:FuncId) (cap:List aC) {h0:Heap} (hc:∀ x∈a,bX Tryz.prog g ([(.agg (aT.c x))]++cap) (.bool (p x)) h0):bX Tryz.prog 102 [(cI 5 aT.c a),.fn (.func g) [] cap] (I (idxOf p a)) h0:=by
 refine aGX 19 aNQ cG b9 Tryz.func102 λh hle=>?_
 simp -dsimp -implicitDefEqProofs only[go_sem,↓reduceIte,Tryz.f102,Tryz.f102]
 intro _
 refine cY aNQ cG b9 (λk:Nat=>[(0,(cI 5 aT.c a)),(1,.fn (.func g) [] cap),(7,I a.length),(8,I k)]) (λ_=>h) (λk=>k<=a.length/\∀ x∈a.take k,p x=false) (λk=>a.length-k) 0 pV ?_
 intro k ⟨hk,hp⟩
 rcases cP k a.length with hlt|hge
 ·have ea:a[k]?=some a[k]:=b6 hlt
  simp -dsimp -implicitDefEqProofs only[go_sem,↓reduceIte,Tryz.f102,Tryz.f102,ea,aT.aM]
  repeat'(with_reducible first|intro _|refine And.intro ?_ ?_)
  all_goals try omega
  have hx:=hc a[k] (dG hlt)
  simp only[aT.aM]at hx
  refine aH.b7 (hx.mono hle) ?_
  cases hpk:p a[k]with
  |true =>
   simp -dsimp -implicitDefEqProofs only[go_sem,↓reduceIte,Tryz.f102,Tryz.f102]
   repeat'(with_reducible first|intro _|refine And.intro ?_ ?_)
   all_goals first|exact(qG hlt hp hpk).symm|rfl|(rw[qG hlt hp hpk])
  |false =>
   simp -dsimp -implicitDefEqProofs only[go_sem,↓reduceIte,Tryz.f102,Tryz.f102]
   refine⟨k+1,?_⟩
   repeat'(with_reducible refine And.intro ?_ ?_)
   all_goals try(rw[IntWalk.i64_in _ aA];first|rfl|omega)
   all_goals try omega
   exact iY (P:=λx=>p x=false) hlt hp hpk
 ·have hk':k=a.length:=by omega
  subst hk'
  rw[eL]at hp
  simp -dsimp -implicitDefEqProofs only[go_sem,↓reduceIte,Tryz.f102,Tryz.f102,cN]
  all_goals first|exact(qF hp).symm|rw[qF hp]
theorem aY7 (a:List aT) (p:aT->Bool) (g:FuncId) (cap:List aC) {h0:Heap} (hc:∀ x∈a,bX Tryz.prog g ([(.agg (aT.c x))]++cap) (.bool (p x)) h0):bX Tryz.prog 56 [(cI 5 aT.c a),.fn (.func g) [] cap] (.bool (a.any p)) h0:=by
 refine aGX 9 zG cG b9 Tryz.func56 λh hle=>?_
 simp -dsimp -implicitDefEqProofs only[go_sem,↓reduceIte,Tryz.f56,Tryz.f56]
 refine aH.b7 ((aY6 a p g cap hc).mono hle) ?_
 simp -dsimp -implicitDefEqProofs only[go_sem,↓reduceIte,Tryz.f56,Tryz.f56]
 all_goals first|done|exact nD|rw[nD]
@[go_sem] def bJL:List Nat:=[0,1,2,3,5,6,7,31,49,54,55,56,57,62,69]
@[go_sem] def b2O:Marks:=λid=>match id with|16=>([6],(.op 0 (.op 1 (.op 2 (.op 3 (.op 4 (.op 5 (.op 7 (.op 8 (.op 9 (.op 6 (.op 10 (.op 11 (.op 12 .nil))))))))))))),[])|_=>([],.nil,[])
set_option maxHeartbeats 2000000 in
theorem aK7 (n:jQ) (hs:n.s<=1048576):dQ Tryz.prog 17 [.agg n.c] (.bool (decide (aV8 n))):=by
 have hsz:=n.fQ
 have b61:=n.cA.fQ
 have b62:=n.cA.bA.fQ
 have b63:=n.jR.fQ
 have hvj:=a13 n.jR aA
 have hvs:=yB n.cA aA
 have hv1:=bEI n
 have hlt:n.cA.bA.aQ.length<=1048576:=by have:=fF (λx:List Int=>x.length) n.cA.bA.aQ;omega
 have hv2:=λr=>bEJ n r hlt
 simp only[jQ.aM]at hv1 hv2 ⊢
 simp only[aI.aM,dN.aM,aK.aM]at hvj hvs hv1 hv2 ⊢
 refine dI 90 bJL wE b2O Tryz.func17 λh=>?_
 simp -dsimp -implicitDefEqProofs only[go_sem,↓reduceIte,Tryz.f17]
 first|refine aH.mk (hvj) ?_|refine aE.mk (hvj) ?_|refine aH.b7 (hvj) ?_|refine aE.mk (bX.eA (hvj)) ?_
 simp -dsimp -implicitDefEqProofs only[go_sem,↓reduceIte,Tryz.f17]
 refine⟨λh1 _=>⟨λh2=>?_,λh2=>(decide_eq_false λq=>by have:=q.2.2.1;omega).symm⟩,λh1=>(decide_eq_false λq=>h1 q.1).symm⟩
 first|refine aH.mk (hvs) ?_|refine aE.mk (hvs) ?_|refine aH.b7 (hvs) ?_|refine aE.mk (bX.eA (hvs)) ?_
 simp -dsimp -implicitDefEqProofs only[go_sem,↓reduceIte,Tryz.f17]
 refine⟨λh3=>?_,λh3=>(decide_eq_false λq=>h3 q.2.1).symm⟩
 first|refine aH.mk (aY5 n.iP n.aFD aA) ?_|refine aE.mk (aY5 n.iP n.aFD aA) ?_|refine aH.b7 (aY5 n.iP n.aFD aA) ?_|refine aE.mk (bX.eA (aY5 n.iP n.aFD aA)) ?_
 simp -dsimp -implicitDefEqProofs only[go_sem,↓reduceIte,Tryz.f17]
 refine⟨λh4=>(decide_eq_false λq=>h4 q.2.2.2.1).symm,λh4=>?_⟩
 intro _
 first|refine aH.mk (within n.cH.length 1 4) ?_|refine aE.mk (within n.cH.length 1 4) ?_|refine aH.b7 (within n.cH.length 1 4) ?_|refine aE.mk (bX.eA (within n.cH.length 1 4)) ?_
 simp -dsimp -implicitDefEqProofs only[go_sem,↓reduceIte,Tryz.f17]
 refine⟨λh5 _=>⟨λh6=>?_,λh6=>(decide_eq_false λq=>by have:=q.2.2.2.2.2.1;omega).symm⟩,λh5=>(decide_eq_false λq=>h5 (by have:=q.2.2.2.2.1;omega)).symm⟩
 refine aH.b7 (wW n.cA.bI (λw=>!decide (w<(n.cH.length:Int))) 54 [_] λw _=>(hv1 w).bDC) ?_
 rw[show(n.cA.bI.any λw=>!decide (w<(n.cH.length:Int)))=!decide (∀ w∈n.cA.bI,w<(n.cH.length:Int))by rw[←aOT,Bool.not_not]]
 try simp -dsimp -implicitDefEqProofs only[go_sem,↓reduceIte,Tryz.f17]
 refine⟨λh7=>(decide_eq_false λq=>h7 q.2.2.2.2.2.2.1).symm,λh7=>?_⟩
 refine aH.kF (bVC n.gV aA h) ?_
 intro r h' hr
 obtain⟨o,ho,rfl⟩:∃ o,bJJ h (zU n 0) r o/\h'=c7 h (.row 5 (((zU n 0).map aT.c).map (List.map .v))) o:=by
  have e:zU n 0=n.gV:=by simp[zU]
  rw[e]
  rcases hr with⟨e1,e2,e3⟩|⟨m,e1,e2,e3⟩
  ·exact⟨none,.inl ⟨rfl,e1,e2⟩,e3⟩
  ·exact⟨some m,.inr ⟨m,rfl,e1,e2⟩,e3⟩
 try simp -dsimp -implicitDefEqProofs only[go_sem,↓reduceIte,Tryz.f17]
 intro _
 refine cY bJL wE b2O (λx:Nat×aC×Option Nat=>[(1,.ip 18 [n.c] 0 0),(3,x.2.1),(54,cI 1 (λq=>[cI 5 aT.c q]) n.cH),(55,I n.cH.length),(56,I x.1)]) (λx=>c7 h (.row 5 (((zU n x.1).map aT.c).map (List.map .v))) x.2.2) (λx=>x.1<=n.cH.length/\(∀ i q,i<x.1->n.cH[i]?=some q->q.length<=8)/\bJJ h (zU n x.1) x.2.1 x.2.2) (λx=>n.cH.length-x.1) (0,r,o) ⟨by simp[dT,dB,jQ.aM,aI.aM,dN.aM,aK.aM],Heap.le_refl _,iZ _,λi q hi=>absurd hi aA,ho⟩ ?_
 rintro⟨k,v,o⟩ ⟨hk,hq,hv⟩
 simp only at hk hq hv ⊢
 have hal:=a3G k hk hq
 rcases cP k n.cH.length with hlt|hge
 ·have ek:n.cH[k]?=some n.cH[k]:=b6 hlt
  have ea:=aV9 ek
  have hne:IntKind.i64.wrap (↑k+1)=↑(k+1):=by rw[IntWalk.i64_in _ aA];rfl
  have hno:(↑n.cH[k].length:Int) > 8->false=decide (aV8 n):=λh8=>(decide_eq_false λz=>by have:=(z.2.2.2.2.2.2.2.1 _ (dG hlt)).1;omega).symm
  have hq':¬(↑n.cH[k].length:Int) > 8->∀ i q,i<k+1->n.cH[i]?=some q->q.length<=8:=λh8 i q hi hq2=>by
   by_cases e:i=k
   ·subst e;rw[ek]at hq2;cases hq2;omega
   ·exact hq i q aA hq2
  rcases hv with⟨rfl,e1,e2⟩|⟨m,rfl,hm,rfl⟩
  ·have key:∀ b,h b=none->¬List.map aT.c n.cH[k]=[]->∀ (h8:¬(↑n.cH[k].length:Int) > 8),∃ x':Nat×aC×Option Nat,(aC.os b 5 0 n.cH[k].length=x'.2.1/\IntKind.i64.wrap (↑k+1)=↑x'.1)/\(c7 h (.row 5 (((zU n x'.1).map aT.c).map (List.map .v))) x'.2.2).le (bT h b (.row 5 ((n.cH[k].map aT.c).map (List.map .v))))/\(x'.1<=n.cH.length/\(∀ i q,i<x'.1->n.cH[i]?=some q->q.length<=8)/\bJJ h (zU n x'.1) x'.2.1 x'.2.2)/\n.cH.length-x'.1<n.cH.length-k:=λb hb _ h8=>by
    rw[e1,al0]at ea
    exact⟨(k+1,.os b 5 0 n.cH[k].length,some b),⟨rfl,hne⟩,by simp only[aL,ea];exact Heap.le_refl _,⟨hlt,hq' h8,.inr ⟨b,rfl,hb,by simp only[ea]⟩⟩,by simp only;omega⟩
   have b2P:List.map aT.c n.cH[k]=[]->zU n (k+1)=[]:=λhz=>by rw[ea,e1,List.map_eq_nil_iff.1 hz];rfl
   rcases e2 with rfl|rfl
   ·simp -dsimp -implicitDefEqProofs only[go_sem,↓reduceIte,Tryz.f17,jQ.aM,ek,aN]
    exact⟨λ_=>⟨hlt,λ_=>⟨hno,λh8=>⟨by decide,λhz=>⟨(k+1,.aV,none),⟨rfl,hne⟩,Heap.le_refl _,⟨hlt,hq' h8,.inl ⟨rfl,b2P hz,.inl rfl⟩⟩,by simp only;omega⟩,λhz=>⟨by omega,by omega,λb hb=>key b hb hz h8⟩⟩⟩⟩,λq=>absurd hlt q⟩
   ·simp -dsimp -implicitDefEqProofs only[go_sem,↓reduceIte,Tryz.f17,jQ.aM,ek,aN]
    exact⟨λ_=>⟨hlt,λ_=>⟨hno,λh8=>⟨by decide,λhz=>⟨(k+1,.sl 5 [] true,none),⟨rfl,hne⟩,Heap.le_refl _,⟨hlt,hq' h8,.inl ⟨rfl,b2P hz,.inr rfl⟩⟩,by simp only;omega⟩,λhz=>⟨by omega,by omega,λb hb=>key b hb hz h8⟩⟩⟩⟩,λq=>absurd hlt q⟩
  ·simp -dsimp -implicitDefEqProofs only[go_sem,↓reduceIte,Tryz.f17,jQ.aM,ek,aL]
   refine⟨λ_=>⟨hlt,λ_=>⟨λh8=>⟨hno h8,Heap.aW hm (Heap.le_refl _)⟩,λh8=>⟨by decide,fL _,by omega,by omega,λb hb=>⟨(k+1,.os b 5 0 ((zU n k).length+n.cH[k].length),some b),⟨rfl,hne⟩,?_,⟨hlt,hq' h8,.inr ⟨b,rfl,hb.2,by simp only[ea,rL]⟩⟩,by simp only;omega⟩⟩⟩⟩,λq=>absurd hlt q⟩
   simp only[aL]
   rw[gF aS,←tA,←tA,←ea]
   exact nP hm
 ·have hk':k=n.cH.length:=by omega
  subst hk'
  simp -dsimp -implicitDefEqProofs only[go_sem,↓reduceIte,Tryz.f17,jQ.aM,cN]
  refine aH.aJ3 (λh=>aY7 (h0:=h) (zU n n.cH.length) (λr=>!decide (gX n.cA r)) 57 [_] (λr _=>(hv2 r).bDC) h (Heap.le_refl h)) (dU.cons (bEK hv) (dU.cons (View.same _ _) dU.nil)) rfl ?_
  rw[show((zU n n.cH.length).any λr=>!decide (gX n.cA r))=!decide (∀ r∈zU n n.cH.length,gX n.cA r)by rw[←aOT,Bool.not_not]]
  try simp -dsimp -implicitDefEqProofs only[go_sem,↓reduceIte,Tryz.f17]
  have aMQ:=bJI (n:=n) (p:=λr=>gX n.cA r)
  have hrn:=bB2 (mH 10 n.iP) (aYY h1) (b:=1) aAB
  have hrp:dQ Tryz.prog 28 [.agg n.jR.c,.str n.iP] (.iF [.agg (runN n).1.c,I (runN n).2]):=QA.bDG (bI7 h1 n.iP aA) (λe he=>aI.u7 he) (aJ6 [] [I (runN n).2])
  have hfr:dQ Tryz.prog 60 [.agg n.cA.c] (.agg (s8 n.cA).c):=QA.bDG (bRX n.cA aA) (λe he=>aI.u7 he) bLT
  have hsm:=a1X (runN n).1 (s8 n.cA)
  have hfi:=bEG (a:=(runN n).1) hrn h3 (a3E _ (bJH _))
  have hle:=bOC (r:=.row 5 (((zU n n.cH.length).map aT.c).map (List.map .v))) hv
  simp only[aI.aM,dN.aM,aK.aM]at hrp hfr hsm
  refine⟨λh8=>⟨(decide_eq_false λq=>h8 (aMQ.2 ⟨q.2.2.2.2.2.2.2.2.1,λa ha=>(q.2.2.2.2.2.2.2.1 a ha).2⟩)).symm,hle⟩,λh8=>?_⟩
  have hk8:∀ q∈n.cH,q.length<=8:=λq hm=>by
   obtain⟨i,hi,e⟩:=aM4.1 hm
   exact hq i q hi (by rw[b6 hi,e])
  have hfin:decide (aV8 n)=decide ((runN n).2=n.iP.length/\(runN n).1=s8 n.cA):=decide_eq_decide.2 ⟨λq=>⟨q.2.2.2.2.2.2.2.2.2.1,hfi.2 q.2.2.2.2.2.2.2.2.2.2⟩,λq=>⟨h1,h3,by omega,h4,by omega,by omega,h7,λa ha=>⟨hk8 a ha,λr hr=>(aMQ.1 h8).2 a ha r hr⟩,(aMQ.1 h8).1,q.1,hfi.1 q.2⟩⟩
  rw[hfin]
  first|refine aH.mk (hrp) ?_|refine aE.mk (hrp) ?_|refine aH.b7 (hrp) ?_|refine aE.mk (bX.eA (hrp)) ?_
  simp -dsimp -implicitDefEqProofs only[go_sem,↓reduceIte,Tryz.f17]
  intro n6 z6
  have aT8:∀ x,h.le (bT (c7 h (.row 5 (((zU n n.cH.length).map aT.c).map (List.map .v))) o) n6 x):=λx=>Heap.le_trans hle (Heap.aW z6 (Heap.le_refl _))
  refine⟨λh9=>?_,λh9=>⟨(decide_eq_false λq=>h9 q.1).symm,by rw[aF];exact aT8 _⟩⟩
  first|refine aH.mk (hfr) ?_|refine aE.mk (hfr) ?_|refine aH.b7 (hfr) ?_|refine aE.mk (bX.eA (hfr)) ?_
  simp -dsimp -implicitDefEqProofs only[go_sem,↓reduceIte,Tryz.f17]
  first|refine aH.mk (hsm) ?_|refine aE.mk (hsm) ?_|refine aH.b7 (hsm) ?_|refine aE.mk (bX.eA (hsm)) ?_
  simp -dsimp -implicitDefEqProofs only[go_sem,↓reduceIte,Tryz.f17]
  exact⟨decide_eq_decide.2 ⟨λq=>⟨h9,q⟩,λq=>q.2⟩,by rw[aF];exact aT8 _⟩
@[go_sem] def bJM:List Nat:=[0,1,2,6,7,11,19]
theorem aDV (s:aI) (l:List aT) (m:Int) (hl:s.bA.aQ.length<=1048576) (hm:l.length<=1048576):dQ Tryz.prog 93 [.ip 9 [s.c] 0 0,cI 5 aT.c l,I m] (.bool (decide ((l.length:Int)<=m/\∀ r∈l,gX s r))):=by
 have hf:=λr=>aF8 s r hl
 refine dI 24 bJM cG b9 Tryz.func93 λh=>?_
 simp -dsimp -implicitDefEqProofs only[go_sem,↓reduceIte,Tryz.f93]
 repeat'(with_reducible first|intro _|refine And.intro ?_ ?_)
 refine cY bJM cG b9 (λi:Nat=>[(0,.ip 9 [s.c] 0 0),(1,cI 5 aT.c l),(2,I m),(7,I i)]) (λ_=>h) (λi=>i<=l.length/\∀ r∈l.take i,gX s r) (λi=>l.length-i) 0 pV ?_
 intro i ⟨hi,hp⟩
 rcases cP i l.length with hlt|hge
 ·have ea:l[i]?=some l[i]:=b6 hlt
  simp -dsimp -implicitDefEqProofs only[go_sem,↓reduceIte,Tryz.f93,ea]
  refine λ_=>⟨λ_=>⟨hlt,?_⟩,λq=>absurd hlt q⟩
  first|refine aE.mk ((aF8 s l[i] hl).sub (by repeat'(first|exact bQ.nil|refine bQ.cons ?_ ?_|exact Sub.refl _|(rw[aB.aM];exact Sub.refl _)|exact Sub.cK rfl rfl rfl|exact Sub.ip (bF aA) aS|exact Sub.cK (bF aA) rfl rfl|exact Sub.ip bU aS|exact Sub.cK bU bS bS))) ?_|refine aH.mk ((aF8 s l[i] hl).sub (by repeat'(first|exact bQ.nil|refine bQ.cons ?_ ?_|exact Sub.refl _|(rw[aB.aM];exact Sub.refl _)|exact Sub.cK rfl rfl rfl|exact Sub.ip (bF aA) aS|exact Sub.cK (bF aA) rfl rfl|exact Sub.ip bU aS|exact Sub.cK bU bS bS))) ?_
  simp -dsimp -implicitDefEqProofs only[go_sem,↓reduceIte,Tryz.f93]
  refine⟨λh1=>(decide_eq_false λq=>h1 (q.2 _ (dG hlt))).symm,λh1=>⟨i+1,by rw[IntWalk.i64_in _ aA];rfl,⟨by omega,iY (P:=λr=>gX s r) hlt hp h1⟩,by omega⟩⟩
 ·have hi':i=l.length:=by omega
  subst hi'
  simp -dsimp -implicitDefEqProofs only[go_sem,↓reduceIte,Tryz.f93,fP]
  rw[eL]at hp
  exact λ_ _=>decide_eq_decide.2 ⟨λq=>⟨q,hp⟩,λq=>q.1⟩
@[go_sem] def a8A:List Nat:=[0,2,3,4,5,6,31,65,73,89,96,110]
@[go_sem] def bVD:Marks:=λid=>match id with|3=>([11,12],(.op 0 (.op 1 (.op 2 (.op 3 (.op 4 (.op 5 (.op 6 (.op 7 (.op 8 (.op 9 (.op 10 (.op 11 (.op 12 (.op 13 .nil)))))))))))))),[])|9=>([],(.op 0 (.op 1 (.op 2 (.op 3 (.op 4 (.op 5 (.op 6 (.op 7 (.op 8 (.op 9 (.op 10 (.op 11 (.op 12 (.op 13 .nil)))))))))))))),[])|14=>([],(.op 0 (.op 1 (.op 2 (.op 3 (.op 4 (.op 5 (.op 6 (.op 7 (.op 8 (.op 9 (.op 10 (.op 11 .nil)))))))))))),[])|16=>([],(.op 0 (.op 1 (.op 2 (.op 3 (.op 4 (.op 5 (.op 6 (.op 7 (.op 8 .nil))))))))),[])|_=>([],.nil,[])
set_option maxHeartbeats 2000000 in
theorem bJN (n:jQ) (hs:n.s<=1048576):dQ Tryz.prog 46 [.ip 18 [n.c] 0 0] (.bool (decide (aV8 n))):=by
 have hsz:=n.fQ
 have b61:=n.cA.fQ
 have b62:=n.cA.bA.fQ
 have b63:=n.jR.fQ
 have htl:n.cA.bA.aQ.length<=1048576:=by have:=fF (λx:List Int=>x.length) n.cA.bA.aQ;omega
 simp only[jQ.aM]
 refine dI 119 a8A cG bVD Tryz.func46 λh=>?_
 simp -dsimp -implicitDefEqProofs only[go_sem,↓reduceIte,Tryz.f46]
 first|refine aE.mk ((aXK n.jR aA).sub (by repeat'(first|exact bQ.nil|refine bQ.cons ?_ ?_|exact Sub.refl _|(rw[aB.aM];exact Sub.refl _)|exact Sub.cK rfl rfl rfl|exact Sub.ip (bF aA) aS|exact Sub.cK (bF aA) rfl rfl|exact Sub.ip bU aS|exact Sub.cK bU bS bS))) ?_|refine aH.mk ((aXK n.jR aA).sub (by repeat'(first|exact bQ.nil|refine bQ.cons ?_ ?_|exact Sub.refl _|(rw[aB.aM];exact Sub.refl _)|exact Sub.cK rfl rfl rfl|exact Sub.ip (bF aA) aS|exact Sub.cK (bF aA) rfl rfl|exact Sub.ip bU aS|exact Sub.cK bU bS bS))) ?_
 simp -dsimp -implicitDefEqProofs only[go_sem,↓reduceIte,Tryz.f46]
 refine⟨λh1=>?_,λh1=>(decide_eq_false λq=>h1 q.1).symm⟩
 first|refine aE.mk ((bQE n.cA aA).sub (by repeat'(first|exact bQ.nil|refine bQ.cons ?_ ?_|exact Sub.refl _|(rw[aB.aM];exact Sub.refl _)|exact Sub.cK rfl rfl rfl|exact Sub.ip (bF aA) aS|exact Sub.cK (bF aA) rfl rfl|exact Sub.ip bU aS|exact Sub.cK bU bS bS))) ?_|refine aH.mk ((bQE n.cA aA).sub (by repeat'(first|exact bQ.nil|refine bQ.cons ?_ ?_|exact Sub.refl _|(rw[aB.aM];exact Sub.refl _)|exact Sub.cK rfl rfl rfl|exact Sub.ip (bF aA) aS|exact Sub.cK (bF aA) rfl rfl|exact Sub.ip bU aS|exact Sub.cK bU bS bS))) ?_
 simp -dsimp -implicitDefEqProofs only[go_sem,↓reduceIte,Tryz.f46]
 refine⟨λh2 _=>⟨λh3=>?_,λh3=>(decide_eq_false λq=>by have:=q.2.2.1;omega).symm⟩,λh2=>(decide_eq_false λq=>h2 q.2.1).symm⟩
 have hsf:=bOB n aA
 simp only[jQ.aM]at hsf
 first|refine aH.mk (hsf) ?_|refine aE.mk (hsf) ?_|refine aH.b7 (hsf) ?_|refine aE.mk (bX.eA (hsf)) ?_
 simp -dsimp -implicitDefEqProofs only[go_sem,↓reduceIte,Tryz.f46]
 refine⟨λh4=>(decide_eq_false λq=>h4 q.2.2.2.1).symm,λh4=>?_⟩
 have hrp:dQ Tryz.prog 23 [.ip 5 [n.jR.c] 0 0,.str n.iP] (.iF [.agg (runN n).1.c,I (runN n).2]):=QA.bDG (aYZ h1 n.iP aA) (λe he=>aI.u7 he) (aJ6 [] [I (runN n).2])
 simp only[aI.aM]at hrp
 first|refine aE.mk ((hrp).sub (by repeat'(first|exact bQ.nil|refine bQ.cons ?_ ?_|exact Sub.refl _|(rw[aB.aM];exact Sub.refl _)|exact Sub.cK rfl rfl rfl|exact Sub.ip (bF aA) aS|exact Sub.cK (bF aA) rfl rfl|exact Sub.ip bU aS|exact Sub.cK bU bS bS))) ?_|refine aH.mk ((hrp).sub (by repeat'(first|exact bQ.nil|refine bQ.cons ?_ ?_|exact Sub.refl _|(rw[aB.aM];exact Sub.refl _)|exact Sub.cK rfl rfl rfl|exact Sub.ip (bF aA) aS|exact Sub.cK (bF aA) rfl rfl|exact Sub.ip bU aS|exact Sub.cK bU bS bS))) ?_
 simp -dsimp -implicitDefEqProofs only[go_sem,↓reduceIte,Tryz.f46]
 intro n3 z3 _
 have hle:∀ x,h.le (bT h n3 x):=λx=>Heap.aW z3 (Heap.le_refl _)
 refine⟨λh5=>?_,λh5=>⟨(decide_eq_false λq=>h5 q.2.2.2.2.2.2.2.2.2.1).symm,by rw[aF];exact hle _⟩⟩
 have hsk:=aY2 (runN n).1 n.cA
 have hvw:∀ g:Heap,g n3=some (.row 9 [(runN n).1.c.map Cell.v])->View g (.op n3 9 0 0) (.ip 9 [(runN n).1.c] 0 0):=λg hg=>by
  have h6:=bJK [(runN n).1.c]
  have:=View.op (h:=g) (n:=n3) (sz:=9) (i:=0) (off:=0) [(runN n).1.c.map OV.v] (by rw[hg];exact congrArg (λq=>some (cF.row 9 q)) h6.2.2.symm) aS (λp hp=>by rw[show OV.cW [(runN n).1.c.map OV.v]=[]from h6.2.1]at hp;cases hp)
  rw[show OV.k8 [(runN n).1.c.map OV.v]=[(runN n).1.c]from h6.1]at this
  exact this
 refine aH.aJ3 hsk (dU.cons (hvw _ (bG _ _ _)) (dU.cons ((View.same _ _).sub (Sub.cK rfl rfl rfl)) dU.nil)) rfl ?_
 try simp -dsimp -implicitDefEqProofs only[go_sem,↓reduceIte,Tryz.f46]
 have aT8:=hle (.row 9 [(runN n).1.c.map Cell.v])
 simp only[aI.aM,lU,tP]at aT8
 rw[aF]
 generalize bT h n3 _=g at aT8 ⊢
 refine⟨λh6 _=>?_,λh6=>⟨(decide_eq_false λq=>h6 q.2.2.2.2.2.2.2.2.2.2).symm,aT8⟩⟩
 first|refine aH.mk (eI n.cH.length 1 4) ?_|refine aE.mk (eI n.cH.length 1 4) ?_|refine aH.b7 (eI n.cH.length 1 4) ?_|refine aE.mk (bX.eA (eI n.cH.length 1 4)) ?_
 simp -dsimp -implicitDefEqProofs only[go_sem,↓reduceIte,Tryz.f46]
 refine⟨λh7=>⟨(decide_eq_false λq=>h7 (by have:=q.2.2.2.2.1;omega)).symm,aT8⟩,λh7=>?_⟩
 refine cY a8A cG bVD (λk:Nat=>[(0,.ip 18 [n.c] 0 0),(5,I k)]) (λ_=>g) (λk=>k<=n.cA.bI.length/\∀ w∈n.cA.bI.take k,w<(n.cH.length:Int)) (λk=>n.cA.bI.length-k) 0 (by simp[dT,dB,Heap.le_refl,jQ.aM]) ?_
 intro k ⟨hk,hp⟩
 simp only[jQ.aM]
 rcases cP k n.cA.bI.length with hlt|hge
 ·have ek:n.cA.bI[k]?=some n.cA.bI[k]:=b6 hlt
  simp -dsimp -implicitDefEqProofs only[go_sem,↓reduceIte,Tryz.f46,ek]
  exact λ_=>⟨λ_=>⟨hlt,λh8=>⟨(decide_eq_false λq=>by have:=q.2.2.2.2.2.2.1 _ (dG hlt);omega).symm,aT8⟩,λh8=>⟨k+1,by rw[IntWalk.i64_in _ aA];rfl,⟨hlt,iY (P:=λw=>w<(n.cH.length:Int)) hlt hp aA⟩,by omega⟩⟩,λq=>absurd hlt q⟩
 ·have hk':k=n.cA.bI.length:=by omega
  subst hk'
  rw[eL]at hp
  simp -dsimp -implicitDefEqProofs only[go_sem,↓reduceIte,Tryz.f46,fP]
  intro _
  refine cY a8A cG bVD (λk:Nat=>[(0,.ip 18 [n.c] 0 0),(6,I k)]) (λ_=>g) (λk=>k<=n.cH.length/\∀ q∈n.cH.take k,q.length<=8/\∀ r∈q,gX n.cA r) (λk=>n.cH.length-k) 0 (by simp[dT,dB,Heap.le_refl,jQ.aM]) ?_
  intro k ⟨hk,hp2⟩
  simp only[jQ.aM]
  rcases cP k n.cH.length with hlt|hge
  ·have ek:n.cH[k]?=some n.cH[k]:=b6 hlt
   simp -dsimp -implicitDefEqProofs only[go_sem,↓reduceIte,Tryz.f46,ek]
   refine λ_=>⟨λ_=>⟨hlt,?_⟩,λq=>absurd hlt q⟩
   have hql:n.cH[k].length<=1048576:=by
    have h9:=k6 (λx:List aT=>rR aT.s x) (dG hlt)
    have h10:=fF aT.s n.cH[k]
    have h11:=fF (λx:List aT=>rR aT.s x) n.cH
    omega
   first|refine aE.mk ((aDV n.cA n.cH[k] 8 htl hql).sub (by repeat'(first|exact bQ.nil|refine bQ.cons ?_ ?_|exact Sub.refl _|(rw[aB.aM];exact Sub.refl _)|exact Sub.cK rfl rfl rfl|exact Sub.ip (bF aA) aS|exact Sub.cK (bF aA) rfl rfl|exact Sub.ip bU aS|exact Sub.cK bU bS bS))) ?_|refine aH.mk ((aDV n.cA n.cH[k] 8 htl hql).sub (by repeat'(first|exact bQ.nil|refine bQ.cons ?_ ?_|exact Sub.refl _|(rw[aB.aM];exact Sub.refl _)|exact Sub.cK rfl rfl rfl|exact Sub.ip (bF aA) aS|exact Sub.cK (bF aA) rfl rfl|exact Sub.ip bU aS|exact Sub.cK bU bS bS))) ?_
   simp -dsimp -implicitDefEqProofs only[go_sem,↓reduceIte,Tryz.f46]
   refine⟨λh8=>⟨(decide_eq_false λq=>h8 ?_).symm,aT8⟩,λh8=>⟨k+1,by rw[IntWalk.i64_in _ aA];rfl,⟨hlt,iY (P:=λq=>q.length<=8/\∀ r∈q,gX n.cA r) hlt hp2 ⟨by omega,h8.2⟩⟩,by omega⟩⟩
   have h9:=q.2.2.2.2.2.2.2.1 _ (dG hlt)
   exact⟨by omega,h9.2⟩
  ·have hk':k=n.cH.length:=by omega
   subst hk'
   rw[eL]at hp2
   simp -dsimp -implicitDefEqProofs only[go_sem,↓reduceIte,Tryz.f46,fP]
   intro _
   first|refine aE.mk ((aDV n.cA n.gV 12 htl (by have h10:=fF aT.s n.gV;omega)).sub (by repeat'(first|exact bQ.nil|refine bQ.cons ?_ ?_|exact Sub.refl _|(rw[aB.aM];exact Sub.refl _)|exact Sub.cK rfl rfl rfl|exact Sub.ip (bF aA) aS|exact Sub.cK (bF aA) rfl rfl|exact Sub.ip bU aS|exact Sub.cK bU bS bS))) ?_|refine aH.mk ((aDV n.cA n.gV 12 htl (by have h10:=fF aT.s n.gV;omega)).sub (by repeat'(first|exact bQ.nil|refine bQ.cons ?_ ?_|exact Sub.refl _|(rw[aB.aM];exact Sub.refl _)|exact Sub.cK rfl rfl rfl|exact Sub.ip (bF aA) aS|exact Sub.cK (bF aA) rfl rfl|exact Sub.ip bU aS|exact Sub.cK bU bS bS))) ?_
   simp -dsimp -implicitDefEqProofs only[go_sem,↓reduceIte,Tryz.f46]
   exact⟨decide_eq_decide.2 ⟨λq=>⟨h1,h2,by omega,h4,by omega,by omega,hp,hp2,q.2,h5,h6⟩,λq=>⟨by have:=q.2.2.2.2.2.1;omega,q.2.2.2.2.2.2.2.2.1⟩⟩,aT8⟩
theorem yJ (n:jQ) (hs:n.s<=1048576):dQ Tryz.prog 15 [.agg n.c] (.bool (decide (aV8 n))):=by
 have hok:=bJN n hs
 simp only[jQ.aM]at hok ⊢
 refine dI 4 bGV wE b9 Tryz.func15 λh=>?_
 simp -dsimp -implicitDefEqProofs only[go_sem,↓reduceIte,Tryz.f15]
 first|refine aH.mk (hok) ?_|refine aE.mk (hok) ?_|refine aH.b7 (hok) ?_|refine aE.mk (bX.eA (hok)) ?_
 simp -dsimp -implicitDefEqProofs only[go_sem,↓reduceIte,Tryz.f15]
theorem a3H (l:List aB) (left:Int) (h0:0<=left) (h1:left<=1048576) (hc:∀ x∈l,∀ left:Int,0<=left->left<=1048576->dQ Tryz.prog 191 [(.agg (aB.c x)),I left] (I (wV left ((aB.s x))))):dQ Tryz.prog 155 [cI 5 aB.c l,I left] (I (wV left (rR aB.s l))):=by
 refine dI 27 aDZ cG b9 Tryz.func155 λh=>?_
 simp -dsimp -implicitDefEqProofs only[go_sem,Tryz.f155,↓reduceIte]
 intro hl
 rw[IntWalk.i64_in _ aA]
 refine⟨λhn=>?_,λhn=>?_⟩
 ·exact(gP vT).symm
 ·refine cY aDZ cG b9 (λk:Nat=>[(0,cI 5 aB.c l),(1,I (left-l.length-(((l.take k).map aB.s).sum:Int))),(5,I k)]) (λ_=>h) (λk=>k<=l.length/\0<=left-l.length-(((l.take k).map aB.s).sum:Int)) (λk=>l.length-k) 0 aUK ?_
  intro k ⟨hk,hb⟩
  rcases cP k l.length with hlt|hge
  ·have ea:l[k]?=some l[k]:=b6 hlt
   simp -dsimp -implicitDefEqProofs only[go_sem,↓reduceIte,Tryz.f155,ea,aB.aM]
   refine λ_=>⟨λ_=>⟨hlt,?_⟩,λhn=>absurd hlt hn⟩
   have hx:=hc l[k] (dG hlt) (left-l.length-(((l.take k).map aB.s).sum:Int)) aA aA
   simp only[aB.aM]at hx
   refine aH.mk hx ?_
   have hs:=gS aB.s l k hlt
   have hs':=lT aB.s l (k+1)
   try dsimp only at hs
   rcases mS (left-l.length-(((l.take k).map aB.s).sum:Int)) ((aB.s l[k]))with⟨e,hl1⟩|⟨e,hl1⟩
   ·simp -dsimp -implicitDefEqProofs only[go_sem,↓reduceIte,Tryz.f155,e]
    exact(gP vT).symm
   ·have xT:(left-l.length-(((l.take k).map aB.s).sum:Int)-((aB.s l[k]):Int)<0)=False:=eq_false aA
    simp -dsimp -implicitDefEqProofs only[go_sem,↓reduceIte,Tryz.f155,e,xT]
    refine⟨k+1,⟨?_,?_⟩,⟨by omega,by rw[hs];omega⟩,by omega⟩
    ·rw[hs];omega
    ·rw[IntWalk.i64_in _ aA];rfl
  ·have hk':k=l.length:=by omega
   subst hk'
   simp -dsimp -implicitDefEqProofs only[go_sem,↓reduceIte,Tryz.f155,cN]
   refine λ_=>?_
   rw[eL]at hb ⊢
   rw[nW vT,fF]
   omega
theorem aY8 (x:aB) (left:Int) (h0:0<=left) (h1:left<=1048576) (hk:∀ left:Int,0<=left->left<=1048576->dQ Tryz.prog 155 [(cI 5 aB.c x.aO),I left] (I (wV left (rR aB.s x.aO)))):dQ Tryz.prog 191 [.agg x.c,I left] (I (wV left x.s)):=by
 rw[aB.fQ]
 simp only[aB.aM]
 refine dI 12 a99 aBW b9 Tryz.func191 λh=>?_
 simp -dsimp -implicitDefEqProofs only[go_sem,Tryz.f191,↓reduceIte]
 refine aH.mk (hk left aA aA) ?_
 rcases mS left (rR aB.s x.aO)with⟨e,hl1⟩|⟨e,hl1⟩
 ·simp -dsimp -implicitDefEqProofs only[go_sem,↓reduceIte,Tryz.f191,e]
 ·have xT:(left-((rR aB.s x.aO):Int)<0)=False:=eq_false aA
  simp -dsimp -implicitDefEqProofs only[go_sem,↓reduceIte,Tryz.f191,e,xT]
 try(rw[nW aA];omega)
theorem bCC (x:aB) (left:Int) (h0:0<=left) (h1:left<=1048576):dQ Tryz.prog 191 [.agg x.c,I left] (I (wV left x.s)) :=
 aY8 x left h0 h1 λleft h0 h1=>a3H x.aO left h0 h1 λy hy left h0 h1=>bCC y left h0 h1
termination_by SizeOf.sizeOf x
decreasing_by exact aB.u6 hy
@[go_sem] def bOD:List Nat:=[0,1,2,4,11,17]
theorem bOE (x:aX) (left:Int) (h0:0<=left) (h1:left<=1048576):dQ Tryz.prog 110 [.agg x.c,I left] (I (wV left x.s)):=by
 rw[aX.fQ]
 simp only[aX.aM]
 refine dI 19 bOD aBW b9 Tryz.func110 λh=>?_
 simp -dsimp -implicitDefEqProofs only[go_sem,Tryz.f110,↓reduceIte]
 refine λhl0=>?_
 rw[IntWalk.i64_in _ aA]
 generalize hL0:left-((x.fT.length:Nat):Int)=L0
 refine⟨λhn=>(gP aA).symm,λhn0=>?_⟩
 refine aH.mk (a3H x.bB (L0) aA aA (λx _ left h0 h1=>bCC x left h0 h1)) ?_
 generalize hL1:wV (L0) (rR aB.s x.bB)=L1
 simp -dsimp -implicitDefEqProofs only[go_sem,↓reduceIte,Tryz.f110]
 have rH:=nC hL1
 refine⟨λhn=>(gP a9H).symm,λxT=>?_⟩
 have hp1:=rH.2 xT
 clear rH hL1
 try(rw[nW aA];omega)
theorem bJP (l:List aX) (left:Int) (h0:0<=left) (h1:left<=1048576) (hc:∀ x∈l,∀ left:Int,0<=left->left<=1048576->dQ Tryz.prog 110 [(.agg (aX.c x)),I left] (I (wV left ((aX.s x))))):dQ Tryz.prog 63 [cI 3 aX.c l,I left] (I (wV left (rR aX.s l))):=by
 refine dI 27 aDZ cG b9 Tryz.func63 λh=>?_
 simp -dsimp -implicitDefEqProofs only[go_sem,Tryz.f63,↓reduceIte]
 intro hl
 rw[IntWalk.i64_in _ aA]
 refine⟨λhn=>?_,λhn=>?_⟩
 ·exact(gP vT).symm
 ·refine cY aDZ cG b9 (λk:Nat=>[(0,cI 3 aX.c l),(1,I (left-l.length-(((l.take k).map aX.s).sum:Int))),(5,I k)]) (λ_=>h) (λk=>k<=l.length/\0<=left-l.length-(((l.take k).map aX.s).sum:Int)) (λk=>l.length-k) 0 aUK ?_
  intro k ⟨hk,hb⟩
  rcases cP k l.length with hlt|hge
  ·have ea:l[k]?=some l[k]:=b6 hlt
   simp -dsimp -implicitDefEqProofs only[go_sem,↓reduceIte,Tryz.f63,ea,aX.aM]
   refine λ_=>⟨λ_=>⟨hlt,?_⟩,λhn=>absurd hlt hn⟩
   have hx:=hc l[k] (dG hlt) (left-l.length-(((l.take k).map aX.s).sum:Int)) aA aA
   simp only[aX.aM]at hx
   refine aH.mk hx ?_
   have hs:=gS aX.s l k hlt
   have hs':=lT aX.s l (k+1)
   try dsimp only at hs
   rcases mS (left-l.length-(((l.take k).map aX.s).sum:Int)) ((aX.s l[k]))with⟨e,hl1⟩|⟨e,hl1⟩
   ·simp -dsimp -implicitDefEqProofs only[go_sem,↓reduceIte,Tryz.f63,e]
    exact(gP vT).symm
   ·have xT:(left-l.length-(((l.take k).map aX.s).sum:Int)-((aX.s l[k]):Int)<0)=False:=eq_false aA
    simp -dsimp -implicitDefEqProofs only[go_sem,↓reduceIte,Tryz.f63,e,xT]
    refine⟨k+1,⟨?_,?_⟩,⟨by omega,by rw[hs];omega⟩,by omega⟩
    ·rw[hs];omega
    ·rw[IntWalk.i64_in _ aA];rfl
  ·have hk':k=l.length:=by omega
   subst hk'
   simp -dsimp -implicitDefEqProofs only[go_sem,↓reduceIte,Tryz.f63,cN]
   refine λ_=>?_
   rw[eL]at hb ⊢
   rw[nW vT,fF]
   omega
theorem a8B (x:aK) (left:Int) (h0:0<=left) (h1:left<=1048576):dQ Tryz.prog 19 [.agg x.c,I left] (I (wV left x.s)):=by
 rw[aK.fQ]
 simp only[aK.aM]
 refine dI 12 a99 aBW b9 Tryz.func19 λh=>?_
 simp -dsimp -implicitDefEqProofs only[go_sem,Tryz.f19,↓reduceIte]
 refine aH.mk (bJP x.aJ left aA aA (λx _ left h0 h1=>bOE x left h0 h1)) ?_
 rcases mS left (rR aX.s x.aJ)with⟨e,hl1⟩|⟨e,hl1⟩
 ·simp -dsimp -implicitDefEqProofs only[go_sem,↓reduceIte,Tryz.f19,e]
 ·have xT:(left-((rR aX.s x.aJ):Int)<0)=False:=eq_false aA
  simp -dsimp -implicitDefEqProofs only[go_sem,↓reduceIte,Tryz.f19,e,xT]
 try(rw[nW aA];omega)
theorem aCA (sz:Nat) (es:List (List aC)) (tg:Bool) (left:Int) (h0:0<=left) (h1:left<=1048576):dQ Tryz.prog 20 [.sl sz es tg,I left] (I (wV left es.length)):=by
 refine dI 12 bP4 cG b9 Tryz.func20 λh=>?_
 simp -dsimp -implicitDefEqProofs only[go_sem,Tryz.f20,↓reduceIte]
 intro hl
 rw[IntWalk.i64_in _ aA]
 refine⟨λhn=>?_,λhn=>?_⟩
 ·exact(gP hn).symm
 ·exact(nW aA).symm
theorem a8C (l:List (List Int)) (left:Int) (h0:0<=left) (h1:left<=1048576) (hc:∀ x∈l,∀ left:Int,0<=left->left<=1048576->dQ Tryz.prog 20 [(cI 1 (λn=>[I n]) x),I left] (I (wV left (x.length)))):dQ Tryz.prog 21 [cI 1 (λx=>[cI 1 (λn=>[I n]) x]) l,I left] (I (wV left (rR (λx:List Int=>x.length) l))):=by
 refine dI 27 aDZ cG b9 Tryz.func21 λh=>?_
 simp -dsimp -implicitDefEqProofs only[go_sem,Tryz.f21,↓reduceIte]
 intro hl
 rw[IntWalk.i64_in _ aA]
 refine⟨λhn=>?_,λhn=>?_⟩
 ·exact(gP vT).symm
 ·refine cY aDZ cG b9 (λk:Nat=>[(0,cI 1 (λx=>[cI 1 (λn=>[I n]) x]) l),(1,I (left-l.length-(((l.take k).map (λx:List Int=>x.length)).sum:Int))),(5,I k)]) (λ_=>h) (λk=>k<=l.length/\0<=left-l.length-(((l.take k).map (λx:List Int=>x.length)).sum:Int)) (λk=>l.length-k) 0 aUK ?_
  intro k ⟨hk,hb⟩
  rcases cP k l.length with hlt|hge
  ·have ea:l[k]?=some l[k]:=b6 hlt
   simp -dsimp -implicitDefEqProofs only[go_sem,↓reduceIte,Tryz.f21,ea]
   refine λ_=>⟨λ_=>⟨hlt,?_⟩,λhn=>absurd hlt hn⟩
   have hx:=hc l[k] (dG hlt) (left-l.length-(((l.take k).map (λx:List Int=>x.length)).sum:Int)) aA aA
   refine aH.mk hx ?_
   have hs:=gS (λx:List Int=>x.length) l k hlt
   have hs':=lT (λx:List Int=>x.length) l (k+1)
   try dsimp only at hs
   rcases mS (left-l.length-(((l.take k).map (λx:List Int=>x.length)).sum:Int)) (l[k].length)with⟨e,hl1⟩|⟨e,hl1⟩
   ·simp -dsimp -implicitDefEqProofs only[go_sem,↓reduceIte,Tryz.f21,e]
    exact(gP vT).symm
   ·have xT:(left-l.length-(((l.take k).map (λx:List Int=>x.length)).sum:Int)-(l[k].length:Int)<0)=False:=eq_false aA
    simp -dsimp -implicitDefEqProofs only[go_sem,↓reduceIte,Tryz.f21,e,xT]
    refine⟨k+1,⟨?_,?_⟩,⟨by omega,by rw[hs];omega⟩,by omega⟩
    ·rw[hs];omega
    ·rw[IntWalk.i64_in _ aA];rfl
  ·have hk':k=l.length:=by omega
   subst hk'
   simp -dsimp -implicitDefEqProofs only[go_sem,↓reduceIte,Tryz.f21,cN]
   refine λ_=>?_
   rw[eL]at hb ⊢
   rw[nW vT,fF]
   omega
@[go_sem] def b2R:List Nat:=[0,1,2,4,10,16,22]
theorem bJQ (x:dN) (left:Int) (h0:0<=left) (h1:left<=1048576):dQ Tryz.prog 5 [.agg x.c,I left] (I (wV left x.s)):=by
 rw[dN.fQ]
 simp only[dN.aM]
 refine dI 24 b2R aBW b9 Tryz.func5 λh=>?_
 simp -dsimp -implicitDefEqProofs only[go_sem,Tryz.f5,↓reduceIte]
 refine aH.mk (a8B x.bN (left) aA aA) ?_
 generalize hL0:wV left (aK.s x.bN)=L0
 simp -dsimp -implicitDefEqProofs only[go_sem,↓reduceIte,Tryz.f5]
 have hs0:=nC hL0
 refine⟨λhn=>(gP (by have:=hs0.1 hn;omega)).symm,λhn0=>?_⟩
 have hp0:=hs0.2 hn0
 clear hs0 hL0
 refine aH.mk (aCA _ _ _ (L0) aA aA) ?_
 rw[k5]
 generalize hL1:wV (L0) x.cT.length=L1
 simp -dsimp -implicitDefEqProofs only[go_sem,↓reduceIte,Tryz.f5]
 have rH:=nC hL1
 refine⟨λhn=>(gP a9H).symm,λxT=>?_⟩
 have hp1:=rH.2 xT
 clear rH hL1
 refine aH.mk (a8C x.aQ (L1) aA aA (λx _ left h0 h1=>(by have hq:=aCA 1 (x.map (λn=>[I n])) false left h0 h1;rw[k5]at hq;exact hq))) ?_
 generalize hL2:wV (L1) (rR (λx:List Int=>x.length) x.aQ)=L2
 simp -dsimp -implicitDefEqProofs only[go_sem,↓reduceIte,Tryz.f5]
 have rO:=nC hL2
 refine⟨λhn=>(gP (by have:=rO.1 hn;omega)).symm,λhn2=>?_⟩
 have hp2:=rO.2 hn2
 clear rO hL2
 try(rw[nW aA];omega)
theorem bJR (sz:Nat) (es:List (List aC)) (tg:Bool) (left:Int) (h0:0<=left) (h1:left<=1048576):dQ Tryz.prog 87 [.sl sz es tg,I left] (I (wV left es.length)):=by
 refine dI 12 bP4 cG b9 Tryz.func87 λh=>?_
 simp -dsimp -implicitDefEqProofs only[go_sem,Tryz.f87,↓reduceIte]
 intro hl
 rw[IntWalk.i64_in _ aA]
 refine⟨λhn=>?_,λhn=>?_⟩
 ·exact(gP hn).symm
 ·exact(nW aA).symm
theorem bCD (x:bR) (left:Int) (h0:0<=left) (h1:left<=1048576):dQ Tryz.prog 140 [.agg x.c,I left] (I (wV left x.s)):=by
 rw[bR.fQ]
 simp only[bR.aM]
 refine dI 12 a99 aBW b9 Tryz.func140 λh=>?_
 simp -dsimp -implicitDefEqProofs only[go_sem,Tryz.f140,↓reduceIte]
 refine aH.mk (aCA _ _ _ left aA aA) ?_
 rw[k5]
 rcases mS left x.iQ.length with⟨e,hl1⟩|⟨e,hl1⟩
 ·simp -dsimp -implicitDefEqProofs only[go_sem,↓reduceIte,Tryz.f140,e]
 ·have xT:(left-(x.iQ.length:Int)<0)=False:=eq_false aA
  simp -dsimp -implicitDefEqProofs only[go_sem,↓reduceIte,Tryz.f140,e,xT]
 try(rw[nW aA];omega)
theorem bJS (l:List bR) (left:Int) (h0:0<=left) (h1:left<=1048576) (hc:∀ x∈l,∀ left:Int,0<=left->left<=1048576->dQ Tryz.prog 140 [(.agg (bR.c x)),I left] (I (wV left ((bR.s x))))):dQ Tryz.prog 88 [cI 3 bR.c l,I left] (I (wV left (rR bR.s l))):=by
 refine dI 27 aDZ cG b9 Tryz.func88 λh=>?_
 simp -dsimp -implicitDefEqProofs only[go_sem,Tryz.f88,↓reduceIte]
 intro hl
 rw[IntWalk.i64_in _ aA]
 refine⟨λhn=>?_,λhn=>?_⟩
 ·exact(gP vT).symm
 ·refine cY aDZ cG b9 (λk:Nat=>[(0,cI 3 bR.c l),(1,I (left-l.length-(((l.take k).map bR.s).sum:Int))),(5,I k)]) (λ_=>h) (λk=>k<=l.length/\0<=left-l.length-(((l.take k).map bR.s).sum:Int)) (λk=>l.length-k) 0 aUK ?_
  intro k ⟨hk,hb⟩
  rcases cP k l.length with hlt|hge
  ·have ea:l[k]?=some l[k]:=b6 hlt
   simp -dsimp -implicitDefEqProofs only[go_sem,↓reduceIte,Tryz.f88,ea,bR.aM]
   refine λ_=>⟨λ_=>⟨hlt,?_⟩,λhn=>absurd hlt hn⟩
   have hx:=hc l[k] (dG hlt) (left-l.length-(((l.take k).map bR.s).sum:Int)) aA aA
   simp only[bR.aM]at hx
   refine aH.mk hx ?_
   have hs:=gS bR.s l k hlt
   have hs':=lT bR.s l (k+1)
   try dsimp only at hs
   rcases mS (left-l.length-(((l.take k).map bR.s).sum:Int)) ((bR.s l[k]))with⟨e,hl1⟩|⟨e,hl1⟩
   ·simp -dsimp -implicitDefEqProofs only[go_sem,↓reduceIte,Tryz.f88,e]
    exact(gP vT).symm
   ·have xT:(left-l.length-(((l.take k).map bR.s).sum:Int)-((bR.s l[k]):Int)<0)=False:=eq_false aA
    simp -dsimp -implicitDefEqProofs only[go_sem,↓reduceIte,Tryz.f88,e,xT]
    refine⟨k+1,⟨?_,?_⟩,⟨by omega,by rw[hs];omega⟩,by omega⟩
    ·rw[hs];omega
    ·rw[IntWalk.i64_in _ aA];rfl
  ·have hk':k=l.length:=by omega
   subst hk'
   simp -dsimp -implicitDefEqProofs only[go_sem,↓reduceIte,Tryz.f88,cN]
   refine λ_=>?_
   rw[eL]at hb ⊢
   rw[nW vT,fF]
   omega
@[go_sem] def bVE:List Nat:=[0,1,2,4,10,16,22,28,34]
theorem a8D (x:aI) (left:Int) (h0:0<=left) (h1:left<=1048576):dQ Tryz.prog 43 [.agg x.c,I left] (I (wV left x.s)):=by
 rw[aI.fQ]
 simp only[aI.aM]
 refine dI 36 bVE aBW b9 Tryz.func43 λh=>?_
 simp -dsimp -implicitDefEqProofs only[go_sem,Tryz.f43,↓reduceIte]
 refine aH.mk (bJQ x.bA (left) aA aA) ?_
 generalize hL0:wV left (dN.s x.bA)=L0
 simp -dsimp -implicitDefEqProofs only[go_sem,↓reduceIte,Tryz.f43]
 have hs0:=nC hL0
 refine⟨λhn=>(gP (by have:=hs0.1 hn;omega)).symm,λhn0=>?_⟩
 have hp0:=hs0.2 hn0
 clear hs0 hL0
 refine aH.mk (aCA _ _ _ (L0) aA aA) ?_
 rw[k5]
 generalize hL1:wV (L0) x.aP.length=L1
 simp -dsimp -implicitDefEqProofs only[go_sem,↓reduceIte,Tryz.f43]
 have rH:=nC hL1
 refine⟨λhn=>(gP a9H).symm,λxT=>?_⟩
 have hp1:=rH.2 xT
 clear rH hL1
 refine aH.mk (bJR _ _ _ (L1) aA aA) ?_
 rw[k5]
 generalize hL2:wV (L1) x.bM.length=L2
 simp -dsimp -implicitDefEqProofs only[go_sem,↓reduceIte,Tryz.f43]
 have rO:=nC hL2
 refine⟨λhn=>(gP (by have:=rO.1 hn;omega)).symm,λhn2=>?_⟩
 have hp2:=rO.2 hn2
 clear rO hL2
 refine aH.mk (bJS x.bW (L2) aA aA (λx _ left h0 h1=>bCD x left h0 h1)) ?_
 generalize hL3:wV (L2) (rR bR.s x.bW)=L3
 simp -dsimp -implicitDefEqProofs only[go_sem,↓reduceIte,Tryz.f43]
 have hs3:=nC hL3
 refine⟨λhn=>(gP (by have:=hs3.1 hn;omega)).symm,λhn3=>?_⟩
 have hp3:=hs3.2 hn3
 clear hs3 hL3
 refine aH.mk (aCA _ _ _ (L3) aA aA) ?_
 rw[k5]
 generalize hL4:wV (L3) x.bI.length=L4
 simp -dsimp -implicitDefEqProofs only[go_sem,↓reduceIte,Tryz.f43]
 have hs4:=nC hL4
 refine⟨λhn=>(gP (by have:=hs4.1 hn;omega)).symm,λhn4=>?_⟩
 have hp4:=hs4.2 hn4
 clear hs4 hL4
 try(rw[nW aA];omega)
theorem aWA (x:aT) (left:Int) (h0:0<=left) (h1:left<=1048576):dQ Tryz.prog 89 [.agg x.c,I left] (I (wV left x.s)):=by
 rw[aT.fQ]
 simp only[aT.aM]
 refine dI 12 a99 aBW b9 Tryz.func89 λh=>?_
 simp -dsimp -implicitDefEqProofs only[go_sem,Tryz.f89,↓reduceIte]
 refine aH.mk (bCD x.jY left aA aA) ?_
 rcases mS left (bR.s x.jY)with⟨e,hl1⟩|⟨e,hl1⟩
 ·simp -dsimp -implicitDefEqProofs only[go_sem,↓reduceIte,Tryz.f89,e]
 ·have xT:(left-((bR.s x.jY):Int)<0)=False:=eq_false aA
  simp -dsimp -implicitDefEqProofs only[go_sem,↓reduceIte,Tryz.f89,e,xT]
 try(rw[nW aA];omega)
theorem aTD (l:List aT) (left:Int) (h0:0<=left) (h1:left<=1048576) (hc:∀ x∈l,∀ left:Int,0<=left->left<=1048576->dQ Tryz.prog 89 [(.agg (aT.c x)),I left] (I (wV left ((aT.s x))))):dQ Tryz.prog 45 [cI 5 aT.c l,I left] (I (wV left (rR aT.s l))):=by
 refine dI 27 aDZ cG b9 Tryz.func45 λh=>?_
 simp -dsimp -implicitDefEqProofs only[go_sem,Tryz.f45,↓reduceIte]
 intro hl
 rw[IntWalk.i64_in _ aA]
 refine⟨λhn=>?_,λhn=>?_⟩
 ·exact(gP vT).symm
 ·refine cY aDZ cG b9 (λk:Nat=>[(0,cI 5 aT.c l),(1,I (left-l.length-(((l.take k).map aT.s).sum:Int))),(5,I k)]) (λ_=>h) (λk=>k<=l.length/\0<=left-l.length-(((l.take k).map aT.s).sum:Int)) (λk=>l.length-k) 0 aUK ?_
  intro k ⟨hk,hb⟩
  rcases cP k l.length with hlt|hge
  ·have ea:l[k]?=some l[k]:=b6 hlt
   simp -dsimp -implicitDefEqProofs only[go_sem,↓reduceIte,Tryz.f45,ea,aT.aM]
   refine λ_=>⟨λ_=>⟨hlt,?_⟩,λhn=>absurd hlt hn⟩
   have hx:=hc l[k] (dG hlt) (left-l.length-(((l.take k).map aT.s).sum:Int)) aA aA
   simp only[aT.aM]at hx
   refine aH.mk hx ?_
   have hs:=gS aT.s l k hlt
   have hs':=lT aT.s l (k+1)
   try dsimp only at hs
   rcases mS (left-l.length-(((l.take k).map aT.s).sum:Int)) ((aT.s l[k]))with⟨e,hl1⟩|⟨e,hl1⟩
   ·simp -dsimp -implicitDefEqProofs only[go_sem,↓reduceIte,Tryz.f45,e]
    exact(gP vT).symm
   ·have xT:(left-l.length-(((l.take k).map aT.s).sum:Int)-((aT.s l[k]):Int)<0)=False:=eq_false aA
    simp -dsimp -implicitDefEqProofs only[go_sem,↓reduceIte,Tryz.f45,e,xT]
    refine⟨k+1,⟨?_,?_⟩,⟨by omega,by rw[hs];omega⟩,by omega⟩
    ·rw[hs];omega
    ·rw[IntWalk.i64_in _ aA];rfl
  ·have hk':k=l.length:=by omega
   subst hk'
   simp -dsimp -implicitDefEqProofs only[go_sem,↓reduceIte,Tryz.f45,cN]
   refine λ_=>?_
   rw[eL]at hb ⊢
   rw[nW vT,fF]
   omega
theorem a3I (l:List (List aT)) (left:Int) (h0:0<=left) (h1:left<=1048576) (hc:∀ x∈l,∀ left:Int,0<=left->left<=1048576->dQ Tryz.prog 45 [(cI 5 aT.c x),I left] (I (wV left ((rR aT.s x))))):dQ Tryz.prog 44 [cI 1 (λx=>[cI 5 aT.c x]) l,I left] (I (wV left (rR (λx=>rR aT.s x) l))):=by
 refine dI 27 aDZ cG b9 Tryz.func44 λh=>?_
 simp -dsimp -implicitDefEqProofs only[go_sem,Tryz.f44,↓reduceIte]
 intro hl
 rw[IntWalk.i64_in _ aA]
 refine⟨λhn=>?_,λhn=>?_⟩
 ·exact(gP vT).symm
 ·refine cY aDZ cG b9 (λk:Nat=>[(0,cI 1 (λx=>[cI 5 aT.c x]) l),(1,I (left-l.length-(((l.take k).map (λx=>rR aT.s x)).sum:Int))),(5,I k)]) (λ_=>h) (λk=>k<=l.length/\0<=left-l.length-(((l.take k).map (λx=>rR aT.s x)).sum:Int)) (λk=>l.length-k) 0 aUK ?_
  intro k ⟨hk,hb⟩
  rcases cP k l.length with hlt|hge
  ·have ea:l[k]?=some l[k]:=b6 hlt
   simp -dsimp -implicitDefEqProofs only[go_sem,↓reduceIte,Tryz.f44,ea]
   refine λ_=>⟨λ_=>⟨hlt,?_⟩,λhn=>absurd hlt hn⟩
   have hx:=hc l[k] (dG hlt) (left-l.length-(((l.take k).map (λx=>rR aT.s x)).sum:Int)) aA aA
   refine aH.mk hx ?_
   have hs:=gS (λx=>rR aT.s x) l k hlt
   have hs':=lT (λx=>rR aT.s x) l (k+1)
   try dsimp only at hs
   rcases mS (left-l.length-(((l.take k).map (λx=>rR aT.s x)).sum:Int)) ((rR aT.s l[k]))with⟨e,hl1⟩|⟨e,hl1⟩
   ·simp -dsimp -implicitDefEqProofs only[go_sem,↓reduceIte,Tryz.f44,e]
    exact(gP vT).symm
   ·have xT:(left-l.length-(((l.take k).map (λx=>rR aT.s x)).sum:Int)-((rR aT.s l[k]):Int)<0)=False:=eq_false aA
    simp -dsimp -implicitDefEqProofs only[go_sem,↓reduceIte,Tryz.f44,e,xT]
    refine⟨k+1,⟨?_,?_⟩,⟨by omega,by rw[hs];omega⟩,by omega⟩
    ·rw[hs];omega
    ·rw[IntWalk.i64_in _ aA];rfl
  ·have hk':k=l.length:=by omega
   subst hk'
   simp -dsimp -implicitDefEqProofs only[go_sem,↓reduceIte,Tryz.f44,cN]
   refine λ_=>?_
   rw[eL]at hb ⊢
   rw[nW vT,fF]
   omega
@[go_sem] def bVG:List Nat:=[0,1,2,4,10,16,23,29,35]
theorem aY9 (x:jQ) (left:Int) (h0:0<=left) (h1:left<=1048576):dQ Tryz.prog 14 [.agg x.c,I left] (I (wV left x.s)):=by
 rw[jQ.fQ]
 simp only[jQ.aM]
 refine dI 37 bVG aBW b9 Tryz.func14 λh=>?_
 simp -dsimp -implicitDefEqProofs only[go_sem,Tryz.f14,↓reduceIte]
 refine aH.mk (bJQ x.jR (left) aA aA) ?_
 generalize hL0:wV left (dN.s x.jR)=L0
 simp -dsimp -implicitDefEqProofs only[go_sem,↓reduceIte,Tryz.f14]
 have hs0:=nC hL0
 refine⟨λhn=>(gP (by have:=hs0.1 hn;omega)).symm,λhn0=>?_⟩
 have hp0:=hs0.2 hn0
 clear hs0 hL0
 refine aH.mk (a8D x.cA (L0) aA aA) ?_
 generalize hL1:wV (L0) (aI.s x.cA)=L1
 simp -dsimp -implicitDefEqProofs only[go_sem,↓reduceIte,Tryz.f14]
 have rH:=nC hL1
 refine⟨λhn=>(gP a9H).symm,λxT=>?_⟩
 have hp1:=rH.2 xT
 clear rH hL1
 refine λhl2=>?_
 rw[IntWalk.i64_in _ aA]
 generalize hL2:L1-((x.iP.length:Nat):Int)=L2
 refine⟨λhn=>(gP aA).symm,λhn2=>?_⟩
 refine aH.mk (a3I x.cH (L2) aA aA (λx _ left h0 h1=>aTD x left h0 h1 (λx _ left h0 h1=>aWA x left h0 h1))) ?_
 generalize hL3:wV (L2) (rR (λx=>rR aT.s x) x.cH)=L3
 simp -dsimp -implicitDefEqProofs only[go_sem,↓reduceIte,Tryz.f14]
 have hs3:=nC hL3
 refine⟨λhn=>(gP (by have:=hs3.1 hn;omega)).symm,λhn3=>?_⟩
 have hp3:=hs3.2 hn3
 clear hs3 hL3
 refine aH.mk (aTD x.gV (L3) aA aA (λx _ left h0 h1=>aWA x left h0 h1)) ?_
 generalize hL4:wV (L3) (rR aT.s x.gV)=L4
 simp -dsimp -implicitDefEqProofs only[go_sem,↓reduceIte,Tryz.f14]
 have hs4:=nC hL4
 refine⟨λhn=>(gP (by have:=hs4.1 hn;omega)).symm,λhn4=>?_⟩
 have hp4:=hs4.2 hn4
 clear hs4 hL4
 try(rw[nW aA];omega)
theorem a3J (a b:List aB) (hc:∀ x∈a,∀ y,dQ Tryz.prog 218 [(.agg (aB.c x)),(.agg (aB.c y))] (.bool (decide (x=y)))):dQ Tryz.prog 179 [(cI 5 aB.c a),(cI 5 aB.c b)] (.bool (decide (a=b))):=by
 refine dI 27 aD0 cG aAG Tryz.func179 λh=>?_
 simp -dsimp -implicitDefEqProofs only[go_sem,Tryz.f179,↓reduceIte]
 refine λ_ _=>⟨λhne=>?_,λheq=>?_⟩
 ·exact(decide_eq_false λe=>hne fD).symm
 ·refine cY aD0 cG aAG (λk:Nat=>[(0,(cI 5 aB.c a)),(1,(cI 5 aB.c b)),(5,I k)]) (λ_=>h) (λk=>k<=a.length/\a.take k=b.take k) (λk=>a.length-k) 0 pV ?_
  intro k ⟨hk,hp⟩
  rcases cP k a.length with hlt|hge
  ·have hlb:k<b.length:=by omega
   have ea:a[k]?=some a[k]:=b6 hlt
   have eb:b[k]?=some b[k]:=b6 hlb
   simp -dsimp -implicitDefEqProofs only[go_sem,↓reduceIte,Tryz.f179,ea,eb,aB.aM]
   refine λ_=>⟨λ_=>⟨hlt,hlb,?_⟩,λhn=>absurd hlt hn⟩
   have hx:=hc a[k] (dG hlt) b[k]
   simp only[aB.aM]at hx
   refine aE.mk hx ?_
   by_cases he:a[k]=b[k]
   ·have d:=decide_eq_true he
    simp -dsimp -implicitDefEqProofs only[go_sem,↓reduceIte,Tryz.f179,d]
    exact⟨k+1,by rw[IntWalk.i64_in _ aA];rfl,⟨by omega,gT hlt hlb hp he⟩,by omega⟩
   ·have d:=decide_eq_false he
    simp -dsimp -implicitDefEqProofs only[go_sem,↓reduceIte,Tryz.f179,d]
    exact(decide_eq_false λe=>he (getElem_of_eq e hlt)).symm
  ·have hk':k=a.length:=by omega
   subst hk'
   simp -dsimp -implicitDefEqProofs only[go_sem,↓reduceIte,Tryz.f179,cN]
   exact λ_=>(decide_eq_true (fW heq hp)).symm
@[go_sem] def bOG:List Nat:=[0,1,2,3,4,9,14,19,24,30]
theorem aZA (a b:aB) (hk:dQ Tryz.prog 179 [(cI 5 aB.c a.aO),(cI 5 aB.c b.aO)] (.bool (decide (a.aO=b.aO)))):dQ Tryz.prog 218 [.agg a.c,.agg b.c] (.bool (decide (a=b))):=by
 simp only[aB.aM]
 refine dI 31 bOG aDC b9 Tryz.func218 λh=>?_
 simp -dsimp -implicitDefEqProofs only[go_sem,Tryz.f218,↓reduceIte]
 refine⟨λhn=>(decide_eq_false λe=>hn fD).symm,λefKind=>?_⟩
 refine⟨λhn=>(decide_eq_false λe=>hn fD).symm,λefNum=>?_⟩
 refine⟨λhn=>(decide_eq_false λe=>hn fD).symm,λefPick=>?_⟩
 refine⟨λhn=>(decide_eq_false λe=>hn fD).symm,λefCount=>?_⟩
 refine aH.mk hk ?_
 by_cases efKids:a.aO=b.aO
 case neg =>
  have d:=decide_eq_false efKids
  simp -dsimp -implicitDefEqProofs only[go_sem,↓reduceIte,Tryz.f218,d]
  exact(decide_eq_false λe=>efKids fD).symm
 have dfKids:=decide_eq_true efKids
 simp -dsimp -implicitDefEqProofs only[go_sem,↓reduceIte,Tryz.f218,dfKids]
 exact(decide_eq_true (aB.eq_iff.2 ⟨efKind,efNum,efPick,efCount,efKids⟩)).symm
theorem bCE (a b:aB):dQ Tryz.prog 218 [.agg a.c,.agg b.c] (.bool (decide (a=b))) :=
 aZA a b (a3J a.aO b.aO λx hx y=>bCE x y)
termination_by SizeOf.sizeOf a
decreasing_by exact aB.u6 hx
theorem bOH (a b:aX):dQ Tryz.prog 136 [.agg a.c,.agg b.c] (.bool (decide (a=b))):=by
 simp only[aX.aM]
 refine dI 21 bGW aDC b9 Tryz.func136 λh=>?_
 simp -dsimp -implicitDefEqProofs only[go_sem,Tryz.f136,↓reduceIte]
 refine⟨λhn=>(decide_eq_false λe=>hn fD).symm,λefName=>?_⟩
 refine⟨λhn=>(decide_eq_false λe=>hn fD).symm,λefParams=>?_⟩
 refine aH.mk (a3J a.bB b.bB (λx _ y=>(bCE x y))) ?_
 by_cases efOuts:a.bB=b.bB
 case neg =>
  have d:=decide_eq_false efOuts
  simp -dsimp -implicitDefEqProofs only[go_sem,↓reduceIte,Tryz.f136,d]
  exact(decide_eq_false λe=>efOuts fD).symm
 have dfOuts:=decide_eq_true efOuts
 simp -dsimp -implicitDefEqProofs only[go_sem,↓reduceIte,Tryz.f136,dfOuts]
 exact(decide_eq_true (aX.eq_iff.2 ⟨efName,efParams,efOuts⟩)).symm
theorem bJT (a b:List aX) (hc:∀ x∈a,∀ y,dQ Tryz.prog 136 [(.agg (aX.c x)),(.agg (aX.c y))] (.bool (decide (x=y)))):dQ Tryz.prog 83 [(cI 3 aX.c a),(cI 3 aX.c b)] (.bool (decide (a=b))):=by
 refine dI 27 aD0 cG aAG Tryz.func83 λh=>?_
 simp -dsimp -implicitDefEqProofs only[go_sem,Tryz.f83,↓reduceIte]
 refine λ_ _=>⟨λhne=>?_,λheq=>?_⟩
 ·exact(decide_eq_false λe=>hne fD).symm
 ·refine cY aD0 cG aAG (λk:Nat=>[(0,(cI 3 aX.c a)),(1,(cI 3 aX.c b)),(5,I k)]) (λ_=>h) (λk=>k<=a.length/\a.take k=b.take k) (λk=>a.length-k) 0 pV ?_
  intro k ⟨hk,hp⟩
  rcases cP k a.length with hlt|hge
  ·have hlb:k<b.length:=by omega
   have ea:a[k]?=some a[k]:=b6 hlt
   have eb:b[k]?=some b[k]:=b6 hlb
   simp -dsimp -implicitDefEqProofs only[go_sem,↓reduceIte,Tryz.f83,ea,eb,aX.aM]
   refine λ_=>⟨λ_=>⟨hlt,hlb,?_⟩,λhn=>absurd hlt hn⟩
   have hx:=hc a[k] (dG hlt) b[k]
   simp only[aX.aM]at hx
   refine aE.mk hx ?_
   by_cases he:a[k]=b[k]
   ·have d:=decide_eq_true he
    simp -dsimp -implicitDefEqProofs only[go_sem,↓reduceIte,Tryz.f83,d]
    exact⟨k+1,by rw[IntWalk.i64_in _ aA];rfl,⟨by omega,gT hlt hlb hp he⟩,by omega⟩
   ·have d:=decide_eq_false he
    simp -dsimp -implicitDefEqProofs only[go_sem,↓reduceIte,Tryz.f83,d]
    exact(decide_eq_false λe=>he (getElem_of_eq e hlt)).symm
  ·have hk':k=a.length:=by omega
   subst hk'
   simp -dsimp -implicitDefEqProofs only[go_sem,↓reduceIte,Tryz.f83,cN]
   exact λ_=>(decide_eq_true (fW heq hp)).symm
@[go_sem] def bVH:List Nat:=[0,1,2,3,4,10]
theorem a8E (a b:aK):dQ Tryz.prog 32 [.agg a.c,.agg b.c] (.bool (decide (a=b))):=by
 simp only[aK.aM]
 refine dI 11 bVH aDC b9 Tryz.func32 λh=>?_
 simp -dsimp -implicitDefEqProofs only[go_sem,Tryz.f32,↓reduceIte]
 refine aH.mk (bJT a.aJ b.aJ (λx _ y=>(bOH x y))) ?_
 by_cases efFuncs:a.aJ=b.aJ
 case neg =>
  have d:=decide_eq_false efFuncs
  simp -dsimp -implicitDefEqProofs only[go_sem,↓reduceIte,Tryz.f32,d]
  exact(decide_eq_false λe=>efFuncs fD).symm
 have dfFuncs:=decide_eq_true efFuncs
 simp -dsimp -implicitDefEqProofs only[go_sem,↓reduceIte,Tryz.f32,dfFuncs]
 exact(decide_eq_true (aK.eq_iff.2 efFuncs)).symm
theorem aCB (a b:List Int):dQ Tryz.prog 29 [(cI 1 (λn=>[I n]) a),(cI 1 (λn=>[I n]) b)] (.bool (decide (a=b))):=by
 refine dI 26 aU4 cG aGZ Tryz.func29 λh=>?_
 simp -dsimp -implicitDefEqProofs only[go_sem,Tryz.f29,↓reduceIte]
 refine λ_ _=>⟨λhne=>?_,λheq=>?_⟩
 ·exact(decide_eq_false λe=>hne fD).symm
 ·refine cY aU4 cG aGZ (λk:Nat=>[(0,(cI 1 (λn=>[I n]) a)),(1,(cI 1 (λn=>[I n]) b)),(5,I k)]) (λ_=>h) (λk=>k<=a.length/\a.take k=b.take k) (λk=>a.length-k) 0 pV ?_
  intro k ⟨hk,hp⟩
  rcases cP k a.length with hlt|hge
  ·have hlb:k<b.length:=by omega
   have ea:a[k]?=some a[k]:=b6 hlt
   have eb:b[k]?=some b[k]:=b6 hlb
   simp -dsimp -implicitDefEqProofs only[go_sem,↓reduceIte,Tryz.f29,ea,eb]
   refine λ_=>⟨λ_=>⟨hlt,hlb,λhne=>?_,λhe=>?_⟩,λhn=>absurd hlt hn⟩
   ·first
     |exact(decide_eq_false λe=>hne (getElem_of_eq e hlt)).symm
     |exact(decide_eq_false λe=>by have:=getElem_of_eq e hlt (hb:=hlb);rw[this]at hne;simp at hne).symm
   ·exact⟨k+1,by rw[IntWalk.i64_in _ aA];rfl,⟨by omega,gT hlt hlb hp a0B⟩,by omega⟩
  ·have hk':k=a.length:=by omega
   subst hk'
   simp -dsimp -implicitDefEqProofs only[go_sem,↓reduceIte,Tryz.f29,cN]
   exact λ_=>(decide_eq_true (fW heq hp)).symm
theorem a8F (a b:List (List Int)) (hc:∀ x∈a,∀ y,dQ Tryz.prog 29 [(cI 1 (λn=>[I n]) x),(cI 1 (λn=>[I n]) y)] (.bool (decide (x=y)))):dQ Tryz.prog 33 [(cI 1 (λx=>[cI 1 (λn=>[I n]) x]) a),(cI 1 (λx=>[cI 1 (λn=>[I n]) x]) b)] (.bool (decide (a=b))):=by
 refine dI 27 aD0 cG aAG Tryz.func33 λh=>?_
 simp -dsimp -implicitDefEqProofs only[go_sem,Tryz.f33,↓reduceIte]
 refine λ_ _=>⟨λhne=>?_,λheq=>?_⟩
 ·exact(decide_eq_false λe=>hne fD).symm
 ·refine cY aD0 cG aAG (λk:Nat=>[(0,(cI 1 (λx=>[cI 1 (λn=>[I n]) x]) a)),(1,(cI 1 (λx=>[cI 1 (λn=>[I n]) x]) b)),(5,I k)]) (λ_=>h) (λk=>k<=a.length/\a.take k=b.take k) (λk=>a.length-k) 0 pV ?_
  intro k ⟨hk,hp⟩
  rcases cP k a.length with hlt|hge
  ·have hlb:k<b.length:=by omega
   have ea:a[k]?=some a[k]:=b6 hlt
   have eb:b[k]?=some b[k]:=b6 hlb
   simp -dsimp -implicitDefEqProofs only[go_sem,↓reduceIte,Tryz.f33,ea,eb]
   refine λ_=>⟨λ_=>⟨hlt,hlb,?_⟩,λhn=>absurd hlt hn⟩
   have hx:=hc a[k] (dG hlt) b[k]
   refine aE.mk hx ?_
   by_cases he:a[k]=b[k]
   ·have d:=decide_eq_true he
    simp -dsimp -implicitDefEqProofs only[go_sem,↓reduceIte,Tryz.f33,d]
    exact⟨k+1,by rw[IntWalk.i64_in _ aA];rfl,⟨by omega,gT hlt hlb hp he⟩,by omega⟩
   ·have d:=decide_eq_false he
    simp -dsimp -implicitDefEqProofs only[go_sem,↓reduceIte,Tryz.f33,d]
    exact(decide_eq_false λe=>he (getElem_of_eq e hlt)).symm
  ·have hk':k=a.length:=by omega
   subst hk'
   simp -dsimp -implicitDefEqProofs only[go_sem,↓reduceIte,Tryz.f33,cN]
   exact λ_=>(decide_eq_true (fW heq hp)).symm
@[go_sem] def bVI:List Nat:=[0,1,2,3,4,10,15,20,26,32]
theorem bJU (a b:dN):dQ Tryz.prog 10 [.agg a.c,.agg b.c] (.bool (decide (a=b))):=by
 simp only[dN.aM]
 refine dI 33 bVI aDC b9 Tryz.func10 λh=>?_
 simp -dsimp -implicitDefEqProofs only[go_sem,Tryz.f10,↓reduceIte]
 refine aH.mk (a8E a.bN b.bN) ?_
 by_cases efProgram:a.bN=b.bN
 case neg =>
  have d:=decide_eq_false efProgram
  simp -dsimp -implicitDefEqProofs only[go_sem,↓reduceIte,Tryz.f10,d]
  exact(decide_eq_false λe=>efProgram fD).symm
 have dfProgram:=decide_eq_true efProgram
 simp -dsimp -implicitDefEqProofs only[go_sem,↓reduceIte,Tryz.f10,dfProgram]
 refine⟨λhn=>(decide_eq_false λe=>hn fD).symm,λefFunc=>?_⟩
 refine⟨λhn=>(decide_eq_false λe=>hn fD).symm,λefShared=>?_⟩
 refine aH.mk (aCB a.cT b.cT) ?_
 by_cases efPoint:a.cT=b.cT
 case neg =>
  have d:=decide_eq_false efPoint
  simp -dsimp -implicitDefEqProofs only[go_sem,↓reduceIte,Tryz.f10,d]
  exact(decide_eq_false λe=>efPoint fD).symm
 have dfPoint:=decide_eq_true efPoint
 simp -dsimp -implicitDefEqProofs only[go_sem,↓reduceIte,Tryz.f10,dfPoint]
 refine aH.mk (a8F a.aQ b.aQ (λx _ y=>(aCB x y))) ?_
 by_cases efTerms:a.aQ=b.aQ
 case neg =>
  have d:=decide_eq_false efTerms
  simp -dsimp -implicitDefEqProofs only[go_sem,↓reduceIte,Tryz.f10,d]
  exact(decide_eq_false λe=>efTerms fD).symm
 have dfTerms:=decide_eq_true efTerms
 simp -dsimp -implicitDefEqProofs only[go_sem,↓reduceIte,Tryz.f10,dfTerms]
 exact(decide_eq_true (dN.eq_iff.2 ⟨efProgram,efFunc,efShared,efPoint,efTerms⟩)).symm
theorem bJV (a b:List Bool):dQ Tryz.prog 30 [(cI 1 (λb=>[.bool b]) a),(cI 1 (λb=>[.bool b]) b)] (.bool (decide (a=b))):=by
 refine dI 26 aU4 cG aGZ Tryz.func30 λh=>?_
 simp -dsimp -implicitDefEqProofs only[go_sem,Tryz.f30,↓reduceIte]
 refine λ_ _=>⟨λhne=>?_,λheq=>?_⟩
 ·exact(decide_eq_false λe=>hne fD).symm
 ·refine cY aU4 cG aGZ (λk:Nat=>[(0,(cI 1 (λb=>[.bool b]) a)),(1,(cI 1 (λb=>[.bool b]) b)),(5,I k)]) (λ_=>h) (λk=>k<=a.length/\a.take k=b.take k) (λk=>a.length-k) 0 pV ?_
  intro k ⟨hk,hp⟩
  rcases cP k a.length with hlt|hge
  ·have hlb:k<b.length:=by omega
   have ea:a[k]?=some a[k]:=b6 hlt
   have eb:b[k]?=some b[k]:=b6 hlb
   simp -dsimp -implicitDefEqProofs only[go_sem,↓reduceIte,Tryz.f30,ea,eb]
   refine λ_=>⟨λ_=>⟨hlt,hlb,λhne=>?_,λhe=>?_⟩,λhn=>absurd hlt hn⟩
   ·first
     |exact(decide_eq_false λe=>hne (getElem_of_eq e hlt)).symm
     |exact(decide_eq_false λe=>by have:=getElem_of_eq e hlt (hb:=hlb);rw[this]at hne;simp at hne).symm
   ·exact⟨k+1,by rw[IntWalk.i64_in _ aA];rfl,⟨by omega,gT hlt hlb hp a0B⟩,by omega⟩
  ·have hk':k=a.length:=by omega
   subst hk'
   simp -dsimp -implicitDefEqProofs only[go_sem,↓reduceIte,Tryz.f30,cN]
   exact λ_=>(decide_eq_true (fW heq hp)).symm
theorem bCF (a b:bR):dQ Tryz.prog 82 [.agg a.c,.agg b.c] (.bool (decide (a=b))):=by
 simp only[bR.aM]
 refine dI 21 bGW aDC b9 Tryz.func82 λh=>?_
 simp -dsimp -implicitDefEqProofs only[go_sem,Tryz.f82,↓reduceIte]
 refine⟨λhn=>(decide_eq_false λe=>hn fD).symm,λefCode=>?_⟩
 refine⟨λhn=>(decide_eq_false λe=>hn fD).symm,λefValue=>?_⟩
 refine aH.mk (aCB a.iQ b.iQ) ?_
 by_cases efGrad:a.iQ=b.iQ
 case neg =>
  have d:=decide_eq_false efGrad
  simp -dsimp -implicitDefEqProofs only[go_sem,↓reduceIte,Tryz.f82,d]
  exact(decide_eq_false λe=>efGrad fD).symm
 have dfGrad:=decide_eq_true efGrad
 simp -dsimp -implicitDefEqProofs only[go_sem,↓reduceIte,Tryz.f82,dfGrad]
 exact(decide_eq_true (bR.eq_iff.2 ⟨efCode,efValue,efGrad⟩)).symm
theorem bJW (a b:List bR) (hc:∀ x∈a,∀ y,dQ Tryz.prog 82 [(.agg (bR.c x)),(.agg (bR.c y))] (.bool (decide (x=y)))):dQ Tryz.prog 31 [(cI 3 bR.c a),(cI 3 bR.c b)] (.bool (decide (a=b))):=by
 refine dI 27 aD0 cG aAG Tryz.func31 λh=>?_
 simp -dsimp -implicitDefEqProofs only[go_sem,Tryz.f31,↓reduceIte]
 refine λ_ _=>⟨λhne=>?_,λheq=>?_⟩
 ·exact(decide_eq_false λe=>hne fD).symm
 ·refine cY aD0 cG aAG (λk:Nat=>[(0,(cI 3 bR.c a)),(1,(cI 3 bR.c b)),(5,I k)]) (λ_=>h) (λk=>k<=a.length/\a.take k=b.take k) (λk=>a.length-k) 0 pV ?_
  intro k ⟨hk,hp⟩
  rcases cP k a.length with hlt|hge
  ·have hlb:k<b.length:=by omega
   have ea:a[k]?=some a[k]:=b6 hlt
   have eb:b[k]?=some b[k]:=b6 hlb
   simp -dsimp -implicitDefEqProofs only[go_sem,↓reduceIte,Tryz.f31,ea,eb,bR.aM]
   refine λ_=>⟨λ_=>⟨hlt,hlb,?_⟩,λhn=>absurd hlt hn⟩
   have hx:=hc a[k] (dG hlt) b[k]
   simp only[bR.aM]at hx
   refine aE.mk hx ?_
   by_cases he:a[k]=b[k]
   ·have d:=decide_eq_true he
    simp -dsimp -implicitDefEqProofs only[go_sem,↓reduceIte,Tryz.f31,d]
    exact⟨k+1,by rw[IntWalk.i64_in _ aA];rfl,⟨by omega,gT hlt hlb hp he⟩,by omega⟩
   ·have d:=decide_eq_false he
    simp -dsimp -implicitDefEqProofs only[go_sem,↓reduceIte,Tryz.f31,d]
    exact(decide_eq_false λe=>he (getElem_of_eq e hlt)).symm
  ·have hk':k=a.length:=by omega
   subst hk'
   simp -dsimp -implicitDefEqProofs only[go_sem,↓reduceIte,Tryz.f31,cN]
   exact λ_=>(decide_eq_true (fW heq hp)).symm
@[go_sem] def b2U:List Nat:=[0,1,2,3,4,10,16,22,28,34]
theorem a8G (a b:aI):dQ Tryz.prog 9 [.agg a.c,.agg b.c] (.bool (decide (a=b))):=by
 simp only[aI.aM]
 refine dI 35 b2U aDC b9 Tryz.func9 λh=>?_
 simp -dsimp -implicitDefEqProofs only[go_sem,Tryz.f9,↓reduceIte]
 refine aH.mk (bJU a.bA b.bA) ?_
 by_cases efJob:a.bA=b.bA
 case neg =>
  have d:=decide_eq_false efJob
  simp -dsimp -implicitDefEqProofs only[go_sem,↓reduceIte,Tryz.f9,d]
  exact(decide_eq_false λe=>efJob fD).symm
 have dfJob:=decide_eq_true efJob
 simp -dsimp -implicitDefEqProofs only[go_sem,↓reduceIte,Tryz.f9,dfJob]
 refine aH.mk (aCB a.aP b.aP) ?_
 by_cases efStamps:a.aP=b.aP
 case neg =>
  have d:=decide_eq_false efStamps
  simp -dsimp -implicitDefEqProofs only[go_sem,↓reduceIte,Tryz.f9,d]
  exact(decide_eq_false λe=>efStamps fD).symm
 have dfStamps:=decide_eq_true efStamps
 simp -dsimp -implicitDefEqProofs only[go_sem,↓reduceIte,Tryz.f9,dfStamps]
 refine aH.mk (bJV a.bM b.bM) ?_
 by_cases efKnown:a.bM=b.bM
 case neg =>
  have d:=decide_eq_false efKnown
  simp -dsimp -implicitDefEqProofs only[go_sem,↓reduceIte,Tryz.f9,d]
  exact(decide_eq_false λe=>efKnown fD).symm
 have dfKnown:=decide_eq_true efKnown
 simp -dsimp -implicitDefEqProofs only[go_sem,↓reduceIte,Tryz.f9,dfKnown]
 refine aH.mk (bJW a.bW b.bW (λx _ y=>(bCF x y))) ?_
 by_cases efParts:a.bW=b.bW
 case neg =>
  have d:=decide_eq_false efParts
  simp -dsimp -implicitDefEqProofs only[go_sem,↓reduceIte,Tryz.f9,d]
  exact(decide_eq_false λe=>efParts fD).symm
 have dfParts:=decide_eq_true efParts
 simp -dsimp -implicitDefEqProofs only[go_sem,↓reduceIte,Tryz.f9,dfParts]
 refine aH.mk (aCB a.bI b.bI) ?_
 by_cases efOwners:a.bI=b.bI
 case neg =>
  have d:=decide_eq_false efOwners
  simp -dsimp -implicitDefEqProofs only[go_sem,↓reduceIte,Tryz.f9,d]
  exact(decide_eq_false λe=>efOwners fD).symm
 have dfOwners:=decide_eq_true efOwners
 simp -dsimp -implicitDefEqProofs only[go_sem,↓reduceIte,Tryz.f9,dfOwners]
 exact(decide_eq_true (aI.eq_iff.2 ⟨efJob,efStamps,efKnown,efParts,efOwners⟩)).symm
theorem aWB (a b:aT):dQ Tryz.prog 109 [.agg a.c,.agg b.c] (.bool (decide (a=b))):=by
 simp only[aT.aM]
 refine dI 21 bGW aDC b9 Tryz.func109 λh=>?_
 simp -dsimp -implicitDefEqProofs only[go_sem,Tryz.f109,↓reduceIte]
 refine⟨λhn=>(decide_eq_false λe=>hn fD).symm,λefTerm=>?_⟩
 refine⟨λhn=>(decide_eq_false λe=>hn fD).symm,λefStamp=>?_⟩
 refine aH.mk (bCF a.jY b.jY) ?_
 by_cases efPart:a.jY=b.jY
 case neg =>
  have d:=decide_eq_false efPart
  simp -dsimp -implicitDefEqProofs only[go_sem,↓reduceIte,Tryz.f109,d]
  exact(decide_eq_false λe=>efPart fD).symm
 have dfPart:=decide_eq_true efPart
 simp -dsimp -implicitDefEqProofs only[go_sem,↓reduceIte,Tryz.f109,dfPart]
 exact(decide_eq_true (aT.eq_iff.2 ⟨efTerm,efStamp,efPart⟩)).symm
theorem aTE (a b:List aT) (hc:∀ x∈a,∀ y,dQ Tryz.prog 109 [(.agg (aT.c x)),(.agg (aT.c y))] (.bool (decide (x=y)))):dQ Tryz.prog 62 [(cI 5 aT.c a),(cI 5 aT.c b)] (.bool (decide (a=b))):=by
 refine dI 27 aD0 cG aAG Tryz.func62 λh=>?_
 simp -dsimp -implicitDefEqProofs only[go_sem,Tryz.f62,↓reduceIte]
 refine λ_ _=>⟨λhne=>?_,λheq=>?_⟩
 ·exact(decide_eq_false λe=>hne fD).symm
 ·refine cY aD0 cG aAG (λk:Nat=>[(0,(cI 5 aT.c a)),(1,(cI 5 aT.c b)),(5,I k)]) (λ_=>h) (λk=>k<=a.length/\a.take k=b.take k) (λk=>a.length-k) 0 pV ?_
  intro k ⟨hk,hp⟩
  rcases cP k a.length with hlt|hge
  ·have hlb:k<b.length:=by omega
   have ea:a[k]?=some a[k]:=b6 hlt
   have eb:b[k]?=some b[k]:=b6 hlb
   simp -dsimp -implicitDefEqProofs only[go_sem,↓reduceIte,Tryz.f62,ea,eb,aT.aM]
   refine λ_=>⟨λ_=>⟨hlt,hlb,?_⟩,λhn=>absurd hlt hn⟩
   have hx:=hc a[k] (dG hlt) b[k]
   simp only[aT.aM]at hx
   refine aE.mk hx ?_
   by_cases he:a[k]=b[k]
   ·have d:=decide_eq_true he
    simp -dsimp -implicitDefEqProofs only[go_sem,↓reduceIte,Tryz.f62,d]
    exact⟨k+1,by rw[IntWalk.i64_in _ aA];rfl,⟨by omega,gT hlt hlb hp he⟩,by omega⟩
   ·have d:=decide_eq_false he
    simp -dsimp -implicitDefEqProofs only[go_sem,↓reduceIte,Tryz.f62,d]
    exact(decide_eq_false λe=>he (getElem_of_eq e hlt)).symm
  ·have hk':k=a.length:=by omega
   subst hk'
   simp -dsimp -implicitDefEqProofs only[go_sem,↓reduceIte,Tryz.f62,cN]
   exact λ_=>(decide_eq_true (fW heq hp)).symm
theorem a3K (a b:List (List aT)) (hc:∀ x∈a,∀ y,dQ Tryz.prog 62 [(cI 5 aT.c x),(cI 5 aT.c y)] (.bool (decide (x=y)))):dQ Tryz.prog 61 [(cI 1 (λx=>[cI 5 aT.c x]) a),(cI 1 (λx=>[cI 5 aT.c x]) b)] (.bool (decide (a=b))):=by
 refine dI 27 aD0 cG aAG Tryz.func61 λh=>?_
 simp -dsimp -implicitDefEqProofs only[go_sem,Tryz.f61,↓reduceIte]
 refine λ_ _=>⟨λhne=>?_,λheq=>?_⟩
 ·exact(decide_eq_false λe=>hne fD).symm
 ·refine cY aD0 cG aAG (λk:Nat=>[(0,(cI 1 (λx=>[cI 5 aT.c x]) a)),(1,(cI 1 (λx=>[cI 5 aT.c x]) b)),(5,I k)]) (λ_=>h) (λk=>k<=a.length/\a.take k=b.take k) (λk=>a.length-k) 0 pV ?_
  intro k ⟨hk,hp⟩
  rcases cP k a.length with hlt|hge
  ·have hlb:k<b.length:=by omega
   have ea:a[k]?=some a[k]:=b6 hlt
   have eb:b[k]?=some b[k]:=b6 hlb
   simp -dsimp -implicitDefEqProofs only[go_sem,↓reduceIte,Tryz.f61,ea,eb]
   refine λ_=>⟨λ_=>⟨hlt,hlb,?_⟩,λhn=>absurd hlt hn⟩
   have hx:=hc a[k] (dG hlt) b[k]
   refine aE.mk hx ?_
   by_cases he:a[k]=b[k]
   ·have d:=decide_eq_true he
    simp -dsimp -implicitDefEqProofs only[go_sem,↓reduceIte,Tryz.f61,d]
    exact⟨k+1,by rw[IntWalk.i64_in _ aA];rfl,⟨by omega,gT hlt hlb hp he⟩,by omega⟩
   ·have d:=decide_eq_false he
    simp -dsimp -implicitDefEqProofs only[go_sem,↓reduceIte,Tryz.f61,d]
    exact(decide_eq_false λe=>he (getElem_of_eq e hlt)).symm
  ·have hk':k=a.length:=by omega
   subst hk'
   simp -dsimp -implicitDefEqProofs only[go_sem,↓reduceIte,Tryz.f61,cN]
   exact λ_=>(decide_eq_true (fW heq hp)).symm
@[go_sem] def bVJ:List Nat:=[0,1,2,3,4,10,16,21,26,32,38]
theorem aZB (a b:jQ):dQ Tryz.prog 18 [.agg a.c,.agg b.c] (.bool (decide (a=b))):=by
 simp only[jQ.aM]
 refine dI 39 bVJ aDC b9 Tryz.func18 λh=>?_
 simp -dsimp -implicitDefEqProofs only[go_sem,Tryz.f18,↓reduceIte]
 refine aH.mk (bJU a.jR b.jR) ?_
 by_cases efStart:a.jR=b.jR
 case neg =>
  have d:=decide_eq_false efStart
  simp -dsimp -implicitDefEqProofs only[go_sem,↓reduceIte,Tryz.f18,d]
  exact(decide_eq_false λe=>efStart fD).symm
 have dfStart:=decide_eq_true efStart
 simp -dsimp -implicitDefEqProofs only[go_sem,↓reduceIte,Tryz.f18,dfStart]
 refine aH.mk (a8G a.cA b.cA) ?_
 by_cases efService:a.cA=b.cA
 case neg =>
  have d:=decide_eq_false efService
  simp -dsimp -implicitDefEqProofs only[go_sem,↓reduceIte,Tryz.f18,d]
  exact(decide_eq_false λe=>efService fD).symm
 have dfService:=decide_eq_true efService
 simp -dsimp -implicitDefEqProofs only[go_sem,↓reduceIte,Tryz.f18,dfService]
 refine⟨λhn=>(decide_eq_false λe=>hn fD).symm,λefJournal=>?_⟩
 refine⟨λhn=>(decide_eq_false λe=>hn fD).symm,λefSafe=>?_⟩
 refine aH.mk (a3K a.cH b.cH (λx _ y=>(aTE x y (λx _ y=>(aWB x y))))) ?_
 by_cases efQueues:a.cH=b.cH
 case neg =>
  have d:=decide_eq_false efQueues
  simp -dsimp -implicitDefEqProofs only[go_sem,↓reduceIte,Tryz.f18,d]
  exact(decide_eq_false λe=>efQueues fD).symm
 have dfQueues:=decide_eq_true efQueues
 simp -dsimp -implicitDefEqProofs only[go_sem,↓reduceIte,Tryz.f18,dfQueues]
 refine aH.mk (aTE a.gV b.gV (λx _ y=>(aWB x y))) ?_
 by_cases efFlying:a.gV=b.gV
 case neg =>
  have d:=decide_eq_false efFlying
  simp -dsimp -implicitDefEqProofs only[go_sem,↓reduceIte,Tryz.f18,d]
  exact(decide_eq_false λe=>efFlying fD).symm
 have dfFlying:=decide_eq_true efFlying
 simp -dsimp -implicitDefEqProofs only[go_sem,↓reduceIte,Tryz.f18,dfFlying]
 exact(decide_eq_true (jQ.eq_iff.2 ⟨efStart,efService,efJournal,efSafe,efQueues,efFlying⟩)).symm
@[go_sem] def b2V:List Nat:=[0,1,2,3,4,5,6,11,21,26]
@[go_sem] def mk4:Marks:=λid=>match id with|10=>([0],(.op 1 (.op 2 (.op 0 (.op 3 (.op 4 .nil))))),[])|_=>([],.nil,[])
theorem aZC (a:jQ):dQ Tryz.prog 4 [.agg a.c] (.bool true):=by
 simp only[jQ.aM]
 refine dI 27 b2V wE mk4 Tryz.func4 λh=>?_
 simp -dsimp -implicitDefEqProofs only[go_sem,↓reduceIte,Tryz.f4]
 first|refine aH.mk (aY9 a 1048576 aA aA) ?_|refine aE.mk (aY9 a 1048576 aA aA) ?_|refine aH.b7 (aY9 a 1048576 aA aA) ?_|refine aE.mk (bX.eA (aY9 a 1048576 aA aA)) ?_
 simp -dsimp -implicitDefEqProofs only[go_sem,↓reduceIte,Tryz.f4,jQ.aM]
 generalize hL:wV 1048576 a.s=L
 have hs:=nC hL
 repeat'(with_reducible first|intro _|refine And.intro ?_ ?_)
 all_goals try(first|(simp[hs, *];done)|omega|(grind[hs])|(simp[hs];omega))
 rename_i h1
 have h2:=hs.2 h1
 have ha:a.s<=1048576:=by omega
 clear hs hL h1 h2
 have hsub:=jQ.fQ a
 have b9V:=(a.cA).fQ
 skip
 have hps:(a.cA).s<=1048576:=by omega
 first|refine aH.mk (xL a ha) ?_|refine aE.mk (xL a ha) ?_|refine aH.b7 (xL a ha) ?_|refine aE.mk (bX.eA (xL a ha)) ?_
 simp -dsimp -implicitDefEqProofs only[go_sem,↓reduceIte,Tryz.f4]
 first|refine aH.mk (yJ a aA) ?_|refine aE.mk (yJ a aA) ?_|refine aH.b7 (yJ a aA) ?_|refine aE.mk (bX.eA (yJ a aA)) ?_
 simp -dsimp -implicitDefEqProofs only[go_sem,↓reduceIte,Tryz.f4]
 first|refine aH.mk (xL a ha) ?_|refine aE.mk (xL a ha) ?_|refine aH.b7 (xL a ha) ?_|refine aE.mk (bX.eA (xL a ha)) ?_
 simp -dsimp -implicitDefEqProofs only[go_sem,↓reduceIte,Tryz.f4,jQ.aM,aF]
 repeat'(with_reducible first|intro _|refine And.intro ?_ ?_)
 rename_i n1 h1
 first|refine aH.mk (aK7 a aA) ?_|refine aE.mk (aK7 a aA) ?_|refine aH.b7 (aK7 a aA) ?_|refine aE.mk (bX.eA (aK7 a aA)) ?_
 simp -dsimp -implicitDefEqProofs only[go_sem,↓reduceIte,Tryz.f4,bne_self_eq_false,dC]
 first|refine aH.mk (xL a ha) ?_|refine aE.mk (xL a ha) ?_|refine aH.b7 (xL a ha) ?_|refine aE.mk (bX.eA (xL a ha)) ?_
 simp -dsimp -implicitDefEqProofs only[go_sem,↓reduceIte,Tryz.f4,dC]
 first|refine aH.mk (aZB a a) ?_|refine aE.mk (aZB a a) ?_|refine aH.b7 (aZB a a) ?_|refine aE.mk (bX.eA (aZB a a)) ?_
 simp -dsimp -implicitDefEqProofs only[go_sem,↓reduceIte,Tryz.f4,dC,h1,decide_true,bCX]
end Go.Hl

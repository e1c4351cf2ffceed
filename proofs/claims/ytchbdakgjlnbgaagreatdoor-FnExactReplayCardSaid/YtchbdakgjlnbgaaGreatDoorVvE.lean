/-
  Contracts of functions and laws of the layer over the walk.
-/
import Derived.Test.YtchbdakgjlnbgaaGreatDoorVvD
import Derived.Test.YtchbdakgjlnbgaaGreatDoorHlD
import Derived.Test.YtchbdakgjlnbgaaGreatDoorVvC
import Derived.Test.YtchbdakgjlnbgaaGreatDoorGn
namespace Go.Hl
set_option maxRecDepth 100000
open Go.Proofs
set_option linter.unusedVariables false
set_option linter.unusedSimpArgs false
theorem c8 (a b:Int) (ha:oI a) (hb:oI b):fQ Tryz.prog 288 [I a,I b] (I (a*b%1000003)):=by
 refine eG 11 aHN cD bS Tryz.func288 λh=>?_
 simp -dsimp -implicitDefEqProofs only[go_sem,↓reduceIte,Tryz.f288]
 first|refine aH.mk (dP a) ?_|refine aG.mk (dP a) ?_|refine aH.cN (dP a) ?_|refine aG.mk (cG.fO (dP a)) ?_
 simp -dsimp -implicitDefEqProofs only[go_sem,↓reduceIte,Tryz.f288]
 first|refine aH.mk (dP b) ?_|refine aG.mk (dP b) ?_|refine aH.cN (dP b) ?_|refine aG.mk (cG.fO (dP b)) ?_
 simp -dsimp -implicitDefEqProofs only[go_sem,↓reduceIte,Tryz.f288]
 have h1:=num_mul ha hb
 have h2:=ha
 have h3:=hb
 unfold oI at h2 h3
 rw[bA4 h2.1 aA,bA4 h3.1 aA,bPD h1.1 aA]
@[go_sem] def bDS:List Nat:=[0,1,4,5,6,8,12,15]
theorem aIN (a n:Int) (hn:0<=n) (hn2:n<=4294967296):fQ Tryz.prog 296 [I a,I n] (I (pwN (a%1000003) n.toNat)):=by
 refine eG 25 bDS cD bS Tryz.func296 λh=>?_
 simp -dsimp -implicitDefEqProofs only[go_sem,↓reduceIte,Tryz.f296]
 refine⟨λq=>absurd q aA,λ_=>?_⟩
 first|refine aH.mk (dP a) ?_|refine aG.mk (dP a) ?_|refine aH.cN (dP a) ?_|refine aG.mk (cG.fO (dP a)) ?_
 simp -dsimp -implicitDefEqProofs only[go_sem,↓reduceIte,Tryz.f296]
 generalize hT:pwN (a%1000003) n.toNat=T
 refine aHM bDS cD bS (λx:Int×Int×Int=>[(1,I x.2.2),(5,I x.1),(6,I x.2.1)]) (λx=>(0<=x.1/\x.1<1000003)/\(0<=x.2.1/\x.2.1<1000003)/\(0<=x.2.2/\x.2.2<=4294967296)/\x.1*x.2.1 ^ x.2.2.toNat%1000003=T) (λx=>x.2.2.toNat) (1,a%1000003,n) ⟨by simp[eE,dJ],⟨by simp,by simp⟩,a41 _,⟨hn,hn2⟩,by rw[Int.one_mul];exact hT⟩ ?_
 rintro⟨x,b,m⟩ ⟨hx,hb,hm,hp⟩
 simp only at hx hb hm hp ⊢
 have nx:oI x:=by unfold oI;omega
 have nb:oI b:=by unfold oI;omega
 simp -dsimp -implicitDefEqProofs only[go_sem,↓reduceIte,Tryz.f296]
 rw[aGK hm.1]
 refine⟨λhg=>⟨λho=>?_,λho=>?_⟩,λhg=>?_⟩
 ·first|refine aH.mk (c8 x b nx nb) ?_|refine aG.mk (c8 x b nx nb) ?_|refine aH.cN (c8 x b nx nb) ?_|refine aG.mk (cG.fO (c8 x b nx nb)) ?_
  simp -dsimp -implicitDefEqProofs only[go_sem,↓reduceIte,Tryz.f296]
  first|refine aH.mk (c8 b b nb nb) ?_|refine aG.mk (c8 b b nb nb) ?_|refine aH.cN (c8 b b nb nb) ?_|refine aG.mk (cG.fO (c8 b b nb nb)) ?_
  simp -dsimp -implicitDefEqProofs only[go_sem,↓reduceIte,Tryz.f296]
  rw[a2E hm.1,IntWalk.i64_in (m / 2) aA]
  exact⟨(x*b%1000003,b*b%1000003,m / 2),⟨rfl,rfl,rfl⟩,⟨a41 _,a41 _,(show 0<=m / 2/\m / 2<=4294967296 by omega),bKK hm.1 ho hp⟩,by simp only;omega⟩
 ·first|refine aH.mk (c8 b b nb nb) ?_|refine aG.mk (c8 b b nb nb) ?_|refine aH.cN (c8 b b nb nb) ?_|refine aG.mk (cG.fO (c8 b b nb nb)) ?_
  simp -dsimp -implicitDefEqProofs only[go_sem,↓reduceIte,Tryz.f296]
  rw[a2E hm.1,IntWalk.i64_in (m / 2) aA]
  exact⟨(x,b*b%1000003,m / 2),⟨rfl,rfl,rfl⟩,⟨hx,a41 _,(show 0<=m / 2/\m / 2<=4294967296 by omega),bDO hm.1 ho hp⟩,by simp only;omega⟩
 ·have:m.toNat=0:=by omega
  rw[this,bDN x b hx]at hp
  exact hp
theorem aH0 (a:Int):fQ Tryz.prog 290 [I a] (I (xN a)):=by
 refine eG 5 aN4 cD bS Tryz.func290 λh=>?_
 simp -dsimp -implicitDefEqProofs only[go_sem,↓reduceIte,Tryz.f290]
 first|refine aH.mk (aIN a 1000001 dQ dQ) ?_|refine aG.mk (aIN a 1000001 dQ dQ) ?_|refine aH.cN (aIN a 1000001 dQ dQ) ?_|refine aG.mk (cG.fO (aIN a 1000001 dQ dQ)) ?_
 simp -dsimp -implicitDefEqProofs only[go_sem,↓reduceIte,Tryz.f290]
 rfl
theorem zK (a b:Int) (ha:oI a) (hb:oI b):fQ Tryz.prog 291 [I a,I b] (I ((a-b)%1000003)):=by
 unfold oI at ha hb
 refine eG 9 aHN cD bS Tryz.func291 λh=>?_
 simp -dsimp -implicitDefEqProofs only[go_sem,↓reduceIte,Tryz.f291]
 rw[IntWalk.i64_in _ aA]
 first|refine aH.mk (dP (a-b)) ?_|refine aG.mk (dP (a-b)) ?_|refine aH.cN (dP (a-b)) ?_|refine aG.mk (cG.fO (dP (a-b))) ?_
 simp -dsimp -implicitDefEqProofs only[go_sem,↓reduceIte,Tryz.f291]
theorem qI (n:Int) (sz:Nat) (hs:sz<=1048576):fQ Tryz.prog 274 [I n,I sz] (ints (aAC n sz)):=by
 rcases bHE sz with rfl|hp
 ·refine aB4 14 vL cD bS Tryz.func274 λh=>?_
  simp -dsimp -implicitDefEqProofs only[go_sem,↓reduceIte,Tryz.f274]
  refine⟨cI,by omega,by omega,λm hm=>⟨λq=>absurd q aA,λ_=>?_⟩⟩
  exact mW [] hm (Heap.le_refl _) rfl
 ·have e2:=bPG (x:=[aC.int .i64 0]) hp
  refine aB4 14 vL cD bS Tryz.func274 λh=>?_
  simp -dsimp -implicitDefEqProofs only[go_sem,↓reduceIte,Tryz.f274,aA7,e2]
  refine⟨cI,eV _,by omega,by omega,λm hm=>⟨λ_=>⟨by omega,?_⟩,λq=>absurd q aA⟩⟩
  rw[aF,show Int.toNat 0=0 from rfl,bKQ]
  exact mW _ hm (Heap.le_refl _) (a9X n sz).symm
@[go_sem] def bTJ:List Nat:=[7,21]
theorem zL (a:List Int) (m:Int) (hm:oI m) (hl:a.length<=1048576) (ha:rH a):fQ Tryz.prog 275 [ints a,I m] (ints (aDD a m)):=by
 have hc:=a22 a m
 refine aB4 24 aXO bTJ bS Tryz.func275 λh=>?_
 simp -dsimp -implicitDefEqProofs only[go_sem,↓reduceIte,Tryz.f275]
 refine⟨cI,?_⟩
 refine cY aXO bTJ bS (λx:Nat×Option Nat=>[(0,ints a),(1,I m),(5,nW 1 ((aDD a m).take x.1).length x.2),(6,I x.1)]) (λx=>dG h (.row 1 ((((aDD a m).take x.1).map λn=>[I n]).map (List.map .v))) x.2) (λx=>x.1<=a.length/\lK h ((aDD a m).take x.1) x.2) (λx=>a.length-x.1) (0,none) ⟨by simp[eE,dJ,nW],by simp only[aN];exact Heap.le_refl _,iF _,by simp[lK]⟩ ?_
 rintro⟨k,o⟩ ⟨hk,hos⟩
 simp only at hk hos ⊢
 rcases cX k a.length with hlt|hge
 ·have ea:a[k]?=some a[k]:=cJ hlt
  have hy:(aDD a m).take (k+1)=(aDD a m).take k++[(aDD a m)[k]'aA]:=kF aA
  have hv:(aDD a m)[k]'aA=a[k]*m%1000003:=by simp[aDD]
  have hlk:((aDD a m).take k).length=k:=by rw[pN];omega
  rw[hv]at hy
  cases o with
  |none =>
   rw[cZ]at hos
   rw[hos]at hy ⊢
   simp -dsimp -implicitDefEqProofs only[go_sem,↓reduceIte,Tryz.f275,dK,aN,hlt,ea]
   intro _
   first|refine aH.mk (c8 a[k] m (ha _ (dX hlt)) hm) ?_|refine aG.mk (c8 a[k] m (ha _ (dX hlt)) hm) ?_|refine aH.cN (c8 a[k] m (ha _ (dX hlt)) hm) ?_|refine aG.mk (cG.fO (c8 a[k] m (ha _ (dX hlt)) hm)) ?_
   simp -dsimp -implicitDefEqProofs only[go_sem,↓reduceIte,Tryz.f275]
   repeat'(with_reducible first|intro _|refine And.intro ?_ ?_)
   all_goals try(first|omega|decide)
   rename_i b hb
   refine⟨(k+1,some b),?_⟩
   simp only[hy]
   refine⟨⟨rfl,?_⟩,Heap.le_refl _,⟨by omega,hb⟩,by omega⟩
   rw[IntWalk.i64_in _ aA];rfl
  |some n =>
   rw[bY]at hos
   simp -dsimp -implicitDefEqProofs only[go_sem,↓reduceIte,Tryz.f275,bU,aK,hlt,ea]
   intro _
   first|refine aH.mk (c8 a[k] m (ha _ (dX hlt)) hm) ?_|refine aG.mk (c8 a[k] m (ha _ (dX hlt)) hm) ?_|refine aH.cN (c8 a[k] m (ha _ (dX hlt)) hm) ?_|refine aG.mk (cG.fO (c8 a[k] m (ha _ (dX hlt)) hm)) ?_
   simp -dsimp -implicitDefEqProofs only[go_sem,↓reduceIte,Tryz.f275]
   repeat'(with_reducible first|intro _|refine And.intro ?_ ?_)
   all_goals try(first|omega|decide|exact eV _)
   rename_i b hb
   refine⟨(k+1,some b),?_⟩
   simp only[hy,aK,bU,bY]
   refine⟨⟨by rw[tN];rfl,?_⟩,?_,⟨by omega,hb.2⟩,by omega⟩
   ·rw[IntWalk.i64_in _ aA];rfl
   ·rw[←jE];exact pC hos
 ·have hk':k=a.length:=by omega
  subst hk'
  rw[gX aA]at hos ⊢
  cases o with
  |none =>
   rw[cZ]at hos
   simp -dsimp -implicitDefEqProofs only[go_sem,↓reduceIte,Tryz.f275,dK,aN,cO,eK]
   intro _
   rw[hos]
   exact Shift.of (Sub.loose _ _ _) (Heap.le_refl _)
  |some n =>
   rw[bY]at hos
   simp -dsimp -implicitDefEqProofs only[go_sem,↓reduceIte,Tryz.f275,bU,aK,cO,eK]
   intro _
   exact mW _ hos (Heap.le_refl _) rfl
@[go_sem] def bTK:List Nat:=[7,24]
@[go_sem] def bTL:Marks:=λid=>match id with|5=>([11],(.op 0 (.op 1 (.op 2 (.op 3 (.op 4 (.op 5 (.op 6 (.op 7 (.op 8 (.op 9 (.op 10 (.op 11 (.op 12 .nil))))))))))))),[])|_=>([],.nil,[])
theorem aH1 (a b:List Int) (hab:b.length=a.length) (hl:a.length<=1048576) (ha:rH a) (hb:rH b):fQ Tryz.prog 278 [ints a,ints b] (ints (aHW a b)):=by
 have hc:=bKI hab
 refine aB4 27 aXO bTK bTL Tryz.func278 λh=>?_
 simp -dsimp -implicitDefEqProofs only[go_sem,↓reduceIte,Tryz.f278]
 refine⟨cI,?_⟩
 refine cY aXO bTK bTL (λx:Nat×Option Nat=>[(0,ints a),(1,ints b),(5,nW 1 ((aHW a b).take x.1).length x.2),(6,I x.1)]) (λx=>dG h (.row 1 ((((aHW a b).take x.1).map λn=>[I n]).map (List.map .v))) x.2) (λx=>x.1<=a.length/\lK h ((aHW a b).take x.1) x.2) (λx=>a.length-x.1) (0,none) ⟨by simp[eE,dJ,nW],by simp only[aN];exact Heap.le_refl _,iF _,by simp[lK]⟩ ?_
 rintro⟨k,o⟩ ⟨hk,hos⟩
 simp only at hk hos ⊢
 rcases cX k a.length with hlt|hge
 ·have ea:a[k]?=some a[k]:=cJ hlt
  have eb:b[k]?=some (b[k]'aA):=cJ aA
  have hy:(aHW a b).take (k+1)=(aHW a b).take k++[(aHW a b)[k]'aA]:=kF aA
  have hv:(aHW a b)[k]'aA=(a[k]+b[k]'aA)%1000003:=by simp[aHW]
  have hlk:((aHW a b).take k).length=k:=by rw[pN];omega
  rw[hv]at hy
  cases o with
  |none =>
   rw[cZ]at hos
   rw[hos]at hy ⊢
   simp -dsimp -implicitDefEqProofs only[go_sem,↓reduceIte,Tryz.f278,dK,aN,hlt,ea,eb]
   intro _
   refine⟨by omega,?_⟩
   first|refine aH.mk (j6 a[k] (b[k]'aA)) ?_|refine aG.mk (j6 a[k] (b[k]'aA)) ?_|refine aH.cN (j6 a[k] (b[k]'aA)) ?_|refine aG.mk (cG.fO (j6 a[k] (b[k]'aA))) ?_
   simp -dsimp -implicitDefEqProofs only[go_sem,↓reduceIte,Tryz.f278]
   repeat'(with_reducible first|intro _|refine And.intro ?_ ?_)
   all_goals try(first|omega|decide)
   rename_i b hb
   refine⟨(k+1,some b),?_⟩
   simp only[hy]
   refine⟨⟨rfl,?_⟩,Heap.le_refl _,⟨by omega,hb⟩,by omega⟩
   rw[IntWalk.i64_in _ aA];rfl
  |some n =>
   rw[bY]at hos
   simp -dsimp -implicitDefEqProofs only[go_sem,↓reduceIte,Tryz.f278,bU,aK,hlt,ea,eb]
   intro _
   refine⟨by omega,?_⟩
   first|refine aH.mk (j6 a[k] (b[k]'aA)) ?_|refine aG.mk (j6 a[k] (b[k]'aA)) ?_|refine aH.cN (j6 a[k] (b[k]'aA)) ?_|refine aG.mk (cG.fO (j6 a[k] (b[k]'aA))) ?_
   simp -dsimp -implicitDefEqProofs only[go_sem,↓reduceIte,Tryz.f278]
   repeat'(with_reducible first|intro _|refine And.intro ?_ ?_)
   all_goals try(first|omega|decide|exact eV _)
   rename_i b hb
   refine⟨(k+1,some b),?_⟩
   simp only[hy,aK,bU,bY]
   refine⟨⟨by rw[tN];rfl,?_⟩,?_,⟨by omega,hb.2⟩,by omega⟩
   ·rw[IntWalk.i64_in _ aA];rfl
   ·rw[←jE];exact pC hos
 ·have hk':k=a.length:=by omega
  subst hk'
  rw[gX aA]at hos ⊢
  cases o with
  |none =>
   rw[cZ]at hos
   simp -dsimp -implicitDefEqProofs only[go_sem,↓reduceIte,Tryz.f278,dK,aN,cO,eK]
   intro _
   rw[hos]
   exact Shift.of (Sub.loose _ _ _) (Heap.le_refl _)
  |some n =>
   rw[bY]at hos
   simp -dsimp -implicitDefEqProofs only[go_sem,↓reduceIte,Tryz.f278,bU,aK,cO,eK]
   intro _
   exact mW _ hos (Heap.le_refl _) rfl
theorem a0L (a b:List Int) (hab:b.length=a.length) (hl:a.length<=1048576) (ha:rH a) (hb:rH b):fQ Tryz.prog 279 [ints a,ints b] (ints (bWR a b)):=by
 refine eG 9 aHN cD bS Tryz.func279 λh=>?_
 simp -dsimp -implicitDefEqProofs only[go_sem,↓reduceIte,Tryz.f279]
 first|refine aH.mk (zL b 1000002 wN aA hb) ?_|refine aG.mk (zL b 1000002 wN aA hb) ?_|refine aH.cN (zL b 1000002 wN aA hb) ?_|refine aG.mk (cG.fO (zL b 1000002 wN aA hb)) ?_
 simp -dsimp -implicitDefEqProofs only[go_sem,↓reduceIte,Tryz.f279]
 first|refine aH.mk (aH1 a (aDD b 1000002) bBX hl ha (aA0 _ ⟨rfl,hb⟩).2) ?_|refine aG.mk (aH1 a (aDD b 1000002) bBX hl ha (aA0 _ ⟨rfl,hb⟩).2) ?_|refine aH.cN (aH1 a (aDD b 1000002) bBX hl ha (aA0 _ ⟨rfl,hb⟩).2) ?_|refine aG.mk (cG.fO (aH1 a (aDD b 1000002) bBX hl ha (aA0 _ ⟨rfl,hb⟩).2)) ?_
 simp -dsimp -implicitDefEqProofs only[go_sem,↓reduceIte,Tryz.f279]
 rfl
@[go_sem] def aRD:List Nat:=[0,1,4,5,6,7,8,13,18]
@[go_sem] def bDT:List Nat:=[9,36]
@[go_sem] def bDU:Marks:=λid=>match id with|9=>([],(.op 0 (.op 1 (.op 2 (.op 3 (.op 4 (.op 5 (.op 6 (.op 7 (.op 8 (.op 9 (.op 10 (.op 11 (.op 12 (.op 13 .nil)))))))))))))),[])|_=>([],.nil,[])
theorem a0M (a b:List Int) (hab:b.length=a.length) (hl:a.length<=1048576) (ha:rH a) (hb:rH b):fQ Tryz.prog 280 [ints a,ints b] (ints (mulL a b)):=by
 have hc:=bKM a b
 refine aB4 39 aRD bDT bDU Tryz.func280 λh=>?_
 simp -dsimp -implicitDefEqProofs only[go_sem,↓reduceIte,Tryz.f280]
 refine⟨cI,?_⟩
 refine cY aRD bDT bDU (λx:Nat×Option Nat=>[(0,ints a),(1,ints b),(5,nW 1 ((mulL a b).take x.1).length x.2),(6,I x.1)]) (λx=>dG h (.row 1 ((((mulL a b).take x.1).map λn=>[I n]).map (List.map .v))) x.2) (λx=>x.1<=a.length/\lK h ((mulL a b).take x.1) x.2) (λx=>a.length-x.1) (0,none) ⟨by simp[eE,dJ,nW],by simp only[aN];exact Heap.le_refl _,iF _,by simp[lK]⟩ ?_
 rintro⟨k,o⟩ ⟨hk,hos⟩
 simp only at hk hos ⊢
 rcases cX k a.length with hlt|hge
 ·have hy:(mulL a b).take (k+1)=(mulL a b).take k++[(mulL a b)[k]'aA]:=kF aA
  have hv:(mulL a b)[k]'aA=cvS a b k (k+1):=by simp[mulL]
  have hlk:((mulL a b).take k).length=k:=by rw[pN];omega
  rw[hv]at hy
  cases o with
  |none =>
   rw[cZ]at hos
   rw[hos]at hy ⊢
   simp -dsimp -implicitDefEqProofs only[go_sem,↓reduceIte,Tryz.f280,dK,aN,hlt]
   intro _
   refine aHM aRD bDT bDU (λi:Nat=>[(0,ints a),(1,ints b),(5,.sl 1 [] true),(6,I k),(7,I (cvS a b k i)),(8,I i)]) (λi=>i<=k+1) (λi=>k+1-i) 0 ⟨by simp[eE,dJ,cvS],iF _⟩ ?_
   intro i hi
   rcases cX i (k+1)with aHS|bOO
   ·have ea:=gA (l:=a) (i:=i) aA
    have eb:=gA (l:=b) (i:=k-i) aA
    have ew:IntKind.i64.wrap ((k:Int)-(i:Int))=((k-i:Nat):Int):=by rw[IntWalk.i64_in _ aA];omega
    simp -dsimp -implicitDefEqProofs only[go_sem,↓reduceIte,Tryz.f280,ea,eb,ew]
    refine⟨λ_=>⟨by omega,by omega,?_⟩,λq=>absurd aA q⟩
    first|refine aH.mk (c8 (a.getD i 0) (b.getD (k-i) 0) (ha.get i) (hb.get (k-i))) ?_|refine aG.mk (c8 (a.getD i 0) (b.getD (k-i) 0) (ha.get i) (hb.get (k-i))) ?_|refine aH.cN (c8 (a.getD i 0) (b.getD (k-i) 0) (ha.get i) (hb.get (k-i))) ?_|refine aG.mk (cG.fO (c8 (a.getD i 0) (b.getD (k-i) 0) (ha.get i) (hb.get (k-i)))) ?_
    simp -dsimp -implicitDefEqProofs only[go_sem,↓reduceIte,Tryz.f280]
    first|refine aH.mk (j6 (cvS a b k i) (a.getD i 0*b.getD (k-i) 0%1000003)) ?_|refine aG.mk (j6 (cvS a b k i) (a.getD i 0*b.getD (k-i) 0%1000003)) ?_|refine aH.cN (j6 (cvS a b k i) (a.getD i 0*b.getD (k-i) 0%1000003)) ?_|refine aG.mk (cG.fO (j6 (cvS a b k i) (a.getD i 0*b.getD (k-i) 0%1000003))) ?_
    simp -dsimp -implicitDefEqProofs only[go_sem,↓reduceIte,Tryz.f280]
    refine⟨i+1,⟨?_,by rw[IntWalk.i64_in _ aA];rfl⟩,by omega,by omega⟩
    rw[cvS]
    omega
   ·have hi':i=k+1:=by omega
    subst hi'
    simp -dsimp -implicitDefEqProofs only[go_sem,↓reduceIte,Tryz.f280,hlt]
    refine⟨λq=>absurd q aA,λ_=>?_⟩
    repeat'(with_reducible first|intro _|refine And.intro ?_ ?_)
    all_goals try(first|omega|decide)
    rename_i b hb
    refine⟨(k+1,some b),?_⟩
    simp only[hy]
    refine⟨⟨rfl,?_⟩,Heap.le_refl _,⟨by omega,hb⟩,by omega⟩
    rw[IntWalk.i64_in _ aA];rfl
  |some n =>
   rw[bY]at hos
   simp -dsimp -implicitDefEqProofs only[go_sem,↓reduceIte,Tryz.f280,bU,aK,hlt]
   intro _
   refine aHM aRD bDT bDU (λi:Nat=>[(0,ints a),(1,ints b),(5,.os n 1 0 ((mulL a b).take k).length),(6,I k),(7,I (cvS a b k i)),(8,I i)]) (λi=>i<=k+1) (λi=>k+1-i) 0 ⟨by simp[eE,dJ,cvS],iF _⟩ ?_
   intro i hi
   rcases cX i (k+1)with aHS|bOO
   ·have ea:=gA (l:=a) (i:=i) aA
    have eb:=gA (l:=b) (i:=k-i) aA
    have ew:IntKind.i64.wrap ((k:Int)-(i:Int))=((k-i:Nat):Int):=by rw[IntWalk.i64_in _ aA];omega
    simp -dsimp -implicitDefEqProofs only[go_sem,↓reduceIte,Tryz.f280,ea,eb,ew]
    refine⟨λ_=>⟨by omega,by omega,?_⟩,λq=>absurd aA q⟩
    first|refine aH.mk (c8 (a.getD i 0) (b.getD (k-i) 0) (ha.get i) (hb.get (k-i))) ?_|refine aG.mk (c8 (a.getD i 0) (b.getD (k-i) 0) (ha.get i) (hb.get (k-i))) ?_|refine aH.cN (c8 (a.getD i 0) (b.getD (k-i) 0) (ha.get i) (hb.get (k-i))) ?_|refine aG.mk (cG.fO (c8 (a.getD i 0) (b.getD (k-i) 0) (ha.get i) (hb.get (k-i)))) ?_
    simp -dsimp -implicitDefEqProofs only[go_sem,↓reduceIte,Tryz.f280]
    first|refine aH.mk (j6 (cvS a b k i) (a.getD i 0*b.getD (k-i) 0%1000003)) ?_|refine aG.mk (j6 (cvS a b k i) (a.getD i 0*b.getD (k-i) 0%1000003)) ?_|refine aH.cN (j6 (cvS a b k i) (a.getD i 0*b.getD (k-i) 0%1000003)) ?_|refine aG.mk (cG.fO (j6 (cvS a b k i) (a.getD i 0*b.getD (k-i) 0%1000003))) ?_
    simp -dsimp -implicitDefEqProofs only[go_sem,↓reduceIte,Tryz.f280]
    refine⟨i+1,⟨?_,by rw[IntWalk.i64_in _ aA];rfl⟩,by omega,by omega⟩
    rw[cvS]
    omega
   ·have hi':i=k+1:=by omega
    subst hi'
    simp -dsimp -implicitDefEqProofs only[go_sem,↓reduceIte,Tryz.f280,hlt]
    refine⟨λq=>absurd q aA,λ_=>?_⟩
    repeat'(with_reducible first|intro _|refine And.intro ?_ ?_)
    all_goals try(first|omega|decide|exact eV _)
    rename_i b hb
    refine⟨(k+1,some b),?_⟩
    simp only[hy,aK,bU,bY]
    refine⟨⟨by rw[tN];rfl,?_⟩,?_,⟨by omega,hb.2⟩,by omega⟩
    ·rw[IntWalk.i64_in _ aA];rfl
    ·rw[←jE];exact pC hos
 ·have hk':k=a.length:=by omega
  subst hk'
  rw[gX aA]at hos ⊢
  cases o with
  |none =>
   rw[cZ]at hos
   simp -dsimp -implicitDefEqProofs only[go_sem,↓reduceIte,Tryz.f280,dK,aN,cO,eK]
   intro _
   rw[hos]
   exact Shift.of (Sub.loose _ _ _) (Heap.le_refl _)
  |some n =>
   rw[bY]at hos
   simp -dsimp -implicitDefEqProofs only[go_sem,↓reduceIte,Tryz.f280,bU,aK,cO,eK]
   intro _
   exact mW _ hos (Heap.le_refl _) rfl
@[go_sem] def aRE:List Nat:=[0,1,4,5,6,7,8,9,18,27]
@[go_sem] def bDV:List Nat:=[10,47]
@[go_sem] def bDW:Marks:=λid=>match id with|10=>([4],(.op 0 (.op 1 (.op 2 (.op 3 (.op 5 (.op 6 (.op 7 (.op 8 (.op 9 (.op 10 (.op 4 (.op 11 (.op 12 (.op 13 .nil)))))))))))))),[])|_=>([],.nil,[])
theorem bWV (a b:List Int) (hab:b.length=a.length) (hl:a.length<=1048576) (h0:0<a.length) (ha:rH a) (hb:rH b):fQ Tryz.prog 281 [ints a,ints b] (ints (aD3 a b)):=by
 have hc:=aHZ a b
 have e0:b[Int.toNat 0]?=some (b.getD 0 0):=gA (l:=b) (i:=0) aA
 refine aB4 50 aRE bDV bDW Tryz.func281 λh=>?_
 simp -dsimp -implicitDefEqProofs only[go_sem,↓reduceIte,Tryz.f281,e0]
 refine⟨cI,by omega,?_⟩
 first|refine aH.mk (aH0 (b.getD 0 0)) ?_|refine aG.mk (aH0 (b.getD 0 0)) ?_|refine aH.cN (aH0 (b.getD 0 0)) ?_|refine aG.mk (cG.fO (aH0 (b.getD 0 0))) ?_
 simp -dsimp -implicitDefEqProofs only[go_sem,↓reduceIte,Tryz.f281]
 refine cY aRE bDV bDW (λx:Nat×Option Nat=>[(0,ints a),(1,ints b),(6,I (xN (b.getD 0 0))),(5,nW 1 ((aD3 a b).take x.1).length x.2),(7,I x.1)]) (λx=>dG h (.row 1 ((((aD3 a b).take x.1).map λn=>[I n]).map (List.map .v))) x.2) (λx=>x.1<=a.length/\lK h ((aD3 a b).take x.1) x.2) (λx=>a.length-x.1) (0,none) ⟨by simp[eE,dJ,nW],by simp only[aN];exact Heap.le_refl _,iF _,by simp[lK]⟩ ?_
 rintro⟨k,o⟩ ⟨hk,hos⟩
 simp only at hk hos ⊢
 rcases cX k a.length with hlt|hge
 ·have hy:(aD3 a b).take (k+1)=(aD3 a b).take k++[(aD3 a b)[k]'aA]:=kF aA
  have hv:=bKL (a:=a) (b:=b) hlt
  have hlk:((aD3 a b).take k).length=k:=by rw[pN];omega
  have ek:=gA hlt
  rw[hv]at hy
  cases o with
  |none =>
   rw[cZ]at hos
   rw[hos]at hy ⊢
   have hk0:k=0:=by rw[hos]at hlk;exact hlk.symm
   subst hk0
   simp -dsimp -implicitDefEqProofs only[go_sem,↓reduceIte,Tryz.f281,dK,aN,hlt,ek]
   intro _
   refine aHM aRE bDV bDW (λ_:Unit=>[(0,ints a),(1,ints b),(5,.sl 1 [] true),(6,I (xN (b.getD 0 0))),(7,I (0:Nat)),(8,I (a.getD 0 0)),(9,I (0:Nat))]) (λ_=>True) (λ_=>0) () ⟨by simp[eE,dJ],trivial⟩ ?_
   intro _ _
   simp -dsimp -implicitDefEqProofs only[go_sem,↓reduceIte,Tryz.f281,cO,eK]
   try(refine⟨λq=>absurd q aA,λ_=>?_⟩)
   first|refine aH.mk (c8 (a.getD 0 0) (xN (b.getD 0 0)) (ha.get 0) (num_inv _)) ?_|refine aG.mk (c8 (a.getD 0 0) (xN (b.getD 0 0)) (ha.get 0) (num_inv _)) ?_|refine aH.cN (c8 (a.getD 0 0) (xN (b.getD 0 0)) (ha.get 0) (num_inv _)) ?_|refine aG.mk (cG.fO (c8 (a.getD 0 0) (xN (b.getD 0 0)) (ha.get 0) (num_inv _))) ?_
   simp -dsimp -implicitDefEqProofs only[go_sem,↓reduceIte,Tryz.f281]
   repeat'(with_reducible first|intro _|refine And.intro ?_ ?_)
   all_goals try(first|omega|decide)
   rename_i b hb
   refine⟨(0+1,some b),?_⟩
   simp only[hy]
   refine⟨⟨rfl,?_⟩,Heap.le_refl _,⟨by omega,hb⟩,by omega⟩
   rw[IntWalk.i64_in _ aA];rfl
  |some n =>
   rw[bY]at hos
   simp -dsimp -implicitDefEqProofs only[go_sem,↓reduceIte,Tryz.f281,bU,aK,hlt,ek]
   intro _
   have htk:(aD3 a b).take k=rY a b k:=aOF a b _ hk
   refine aHM aRE bDV bDW (λi:Nat=>[(0,ints a),(1,ints b),(5,.os n 1 0 ((aD3 a b).take k).length),(6,I (xN (b.getD 0 0))),(7,I k),(8,I (dvS (rY a b k) b k (a.getD k 0) i)),(9,I i)]) (λi=>i<=k) (λi=>k-i) 0 ⟨by simp[eE,dJ,dvS],iF _⟩ ?_
   intro i hi
   rcases cX i k with aHS|bOO
   ·have ei:((aD3 a b).take k)[i]?=some ((rY a b k).getD i 0):=by rw[htk];exact gA (by rw[tM];exact aHS)
    have eb:=gA (l:=b) (i:=k-i) aA
    have ew:IntKind.i64.wrap ((k:Int)-(i:Int))=((k-i:Nat):Int):=by rw[IntWalk.i64_in _ aA];omega
    simp -dsimp -implicitDefEqProofs only[go_sem,↓reduceIte,Tryz.f281,aHS,ei,eb,ew]
    refine⟨by omega,by omega,?_⟩
    first|refine aH.mk (c8 ((rY a b k).getD i 0) (b.getD (k-i) 0) ((aD4 a b k).get i) (hb.get (k-i))) ?_|refine aG.mk (c8 ((rY a b k).getD i 0) (b.getD (k-i) 0) ((aD4 a b k).get i) (hb.get (k-i))) ?_|refine aH.cN (c8 ((rY a b k).getD i 0) (b.getD (k-i) 0) ((aD4 a b k).get i) (hb.get (k-i))) ?_|refine aG.mk (cG.fO (c8 ((rY a b k).getD i 0) (b.getD (k-i) 0) ((aD4 a b k).get i) (hb.get (k-i)))) ?_
    simp -dsimp -implicitDefEqProofs only[go_sem,↓reduceIte,Tryz.f281]
    first|refine aH.mk (zK (dvS (rY a b k) b k (a.getD k 0) i) ((rY a b k).getD i 0*b.getD (k-i) 0%1000003) (aHY _ _ _ (ha.get k) i) (xA _)) ?_|refine aG.mk (zK (dvS (rY a b k) b k (a.getD k 0) i) ((rY a b k).getD i 0*b.getD (k-i) 0%1000003) (aHY _ _ _ (ha.get k) i) (xA _)) ?_|refine aH.cN (zK (dvS (rY a b k) b k (a.getD k 0) i) ((rY a b k).getD i 0*b.getD (k-i) 0%1000003) (aHY _ _ _ (ha.get k) i) (xA _)) ?_|refine aG.mk (cG.fO (zK (dvS (rY a b k) b k (a.getD k 0) i) ((rY a b k).getD i 0*b.getD (k-i) 0%1000003) (aHY _ _ _ (ha.get k) i) (xA _))) ?_
    simp -dsimp -implicitDefEqProofs only[go_sem,↓reduceIte,Tryz.f281]
    refine⟨i+1,⟨?_,by rw[IntWalk.i64_in _ aA];rfl⟩,by omega,by omega⟩
    rw[dvS]
    omega
   ·have hi':i=k:=by omega
    subst hi'
    simp -dsimp -implicitDefEqProofs only[go_sem,↓reduceIte,Tryz.f281,cO,eK]
    first|refine aH.mk (c8 (dvS (rY a b i) b i (a.getD i 0) i) (xN (b.getD 0 0)) (aHY _ _ _ (ha.get i) i) (num_inv _)) ?_|refine aG.mk (c8 (dvS (rY a b i) b i (a.getD i 0) i) (xN (b.getD 0 0)) (aHY _ _ _ (ha.get i) i) (num_inv _)) ?_|refine aH.cN (c8 (dvS (rY a b i) b i (a.getD i 0) i) (xN (b.getD 0 0)) (aHY _ _ _ (ha.get i) i) (num_inv _)) ?_|refine aG.mk (cG.fO (c8 (dvS (rY a b i) b i (a.getD i 0) i) (xN (b.getD 0 0)) (aHY _ _ _ (ha.get i) i) (num_inv _))) ?_
    simp -dsimp -implicitDefEqProofs only[go_sem,↓reduceIte,Tryz.f281]
    repeat'(with_reducible first|intro _|refine And.intro ?_ ?_)
    all_goals try(first|omega|decide|exact eV _)
    rename_i b hb
    refine⟨(i+1,some b),?_⟩
    simp only[hy,aK,bU,bY]
    refine⟨⟨by rw[tN];rfl,?_⟩,?_,⟨by omega,hb.2⟩,by omega⟩
    ·rw[IntWalk.i64_in _ aA];rfl
    ·rw[←jE];exact pC hos
 ·have hk':k=a.length:=by omega
  subst hk'
  rw[gX aA]at hos ⊢
  cases o with
  |none =>
   rw[cZ]at hos
   simp -dsimp -implicitDefEqProofs only[go_sem,↓reduceIte,Tryz.f281,dK,aN,cO,eK]
   intro _
   rw[hos]
   exact Shift.of (Sub.loose _ _ _) (Heap.le_refl _)
  |some n =>
   rw[bY]at hos
   simp -dsimp -implicitDefEqProofs only[go_sem,↓reduceIte,Tryz.f281,bU,aK,cO,eK]
   intro _
   exact mW _ hos (Heap.le_refl _) rfl
theorem aQA {h h':Heap} {n:Nat} (l:List (List Int)) (h0:h n=none) (hl:(bL h n (.row 1 ((l.map λs=>[ints s]).map (List.map .v)))).le h') {len:Nat} (e:len=l.length):Shift (.os n 1 0 len) h' (dA 1 (λs=>[ints s]) l) h :=
 sK (l.map λs=>[ints s]) h0 hl len (by rw[lM];exact e)
@[go_sem] def bTM:List Nat:=[7,19,23]
theorem a0N (env:List (List Int)) (s:List Int) (hl:env.length<=1048576):fQ Tryz.prog 276 [dA 1 (λs=>[ints s]) env,ints s] (dA 1 (λs=>[ints s]) (env++[s])):=by
 refine aB4 25 aXO bTM bS Tryz.func276 λh=>?_
 simp -dsimp -implicitDefEqProofs only[go_sem,↓reduceIte,Tryz.f276]
 refine⟨cI,?_⟩
 refine cY aXO bTM bS (λx:Nat×Option Nat=>[(0,dA 1 (λs=>[ints s]) env),(1,ints s),(5,nW 1 (env.take x.1).length x.2),(6,I x.1)]) (λx=>dG h (.row 1 (((env.take x.1).map λs=>[ints s]).map (List.map .v))) x.2) (λx=>x.1<=env.length/\lK h (env.take x.1) x.2) (λx=>env.length-x.1) (0,none) ⟨by simp[eE,dJ,nW],by simp only[aN];exact Heap.le_refl _,iF _,by simp[lK]⟩ ?_
 rintro⟨k,o⟩ ⟨hk,hos⟩
 simp only at hk hos ⊢
 rcases cX k env.length with hlt|hge
 ·have ea:env[k]?=some env[k]:=cJ hlt
  have hy:env.take (k+1)=env.take k++[env[k]]:=kF hlt
  have hlk:(env.take k).length=k:=by rw[pN];omega
  cases o with
  |none =>
   rw[cZ]at hos
   rw[hos]at hy ⊢
   simp -dsimp -implicitDefEqProofs only[go_sem,↓reduceIte,Tryz.f276,dK,aN,hlt,ea]
   intro _
   repeat'(with_reducible first|intro _|refine And.intro ?_ ?_)
   all_goals try(first|omega|decide)
   rename_i b hb
   refine⟨(k+1,some b),?_⟩
   simp only[hy]
   refine⟨⟨rfl,?_⟩,Heap.le_refl _,⟨by omega,hb⟩,by omega⟩
   rw[IntWalk.i64_in _ aA];rfl
  |some n =>
   rw[bY]at hos
   simp -dsimp -implicitDefEqProofs only[go_sem,↓reduceIte,Tryz.f276,bU,aK,hlt,ea]
   intro _
   repeat'(with_reducible first|intro _|refine And.intro ?_ ?_)
   all_goals try(first|omega|decide|exact eV _)
   rename_i b hb
   refine⟨(k+1,some b),?_⟩
   simp only[hy,aK,bU,bY]
   refine⟨⟨by rw[tN];rfl,?_⟩,?_,⟨by omega,hb.2⟩,by omega⟩
   ·rw[IntWalk.i64_in _ aA];rfl
   ·rw[←jE];exact pC hos
 ·have hk':k=env.length:=by omega
  subst hk'
  rw[eJ]at hos ⊢
  cases o with
  |none =>
   rw[cZ]at hos
   simp -dsimp -implicitDefEqProofs only[go_sem,↓reduceIte,Tryz.f276,dK,aN,cO,eK]
   subst hos
   exact λ_=>⟨cI,cI,cI,λn hn=>aQA [s] hn (Heap.le_refl _) rfl⟩
  |some n =>
   rw[bY]at hos
   simp -dsimp -implicitDefEqProofs only[go_sem,↓reduceIte,Tryz.f276,bU,aK,cO,eK]
   exact λ_=>⟨cI,cI,cI,eV _,by omega,by omega,λm hm=>aQA (env++[s]) hm.2 (by rw[←jE];exact pC hos) (by rw[tN];rfl)⟩
def fR (p:aL) (sz st:Nat) (c:Int):bQ:=.row 4 [[.v (.ip 1 [p.c] 0 0),.v (I sz),.v (I st),.v (I c)]]
def RnQ (h:Heap) (nb:Nat) (p:aL) (sz st:Nat) (c:Int) (X:Out (List Int)):aC->Heap->Prop:=λr h'=>∃ s t c',r=ints s/\h'=bL h nb (fR p sz t c')/\iA sz s/\st<=t/\t<=3000/\oO (yT c X) s t c'
def b81 (h:Heap) (nb:Nat) (p:aL) (sz st:Nat) (c:Int) (n:Nat) (X:Out (List (List Int))):aC->Heap->Prop:=λr h'=>∃ l t c',r=pQ l/\h'=bL h nb (fR p sz t c')/\l.length=n/\(∀ s∈l,iA sz s)/\st<=t/\t<=3000/\oO (yT c X) l t c'
@[go_sem] def bPI:List Nat:=[0,1,4,9]
theorem bDX (h:Heap) (nb:Nat) (p:aL) (sz st:Nat) (c d:Int) (hb:h nb=some (fR p sz st c)) (hsz:sz<=1048576):gV Tryz.prog 273 [.op nb 4 0 0,I d] h λr h'=>r=ints (aAC 0 sz)/\h'=bL h nb (fR p sz st (if c=0 then d else c)):=by
 have hb':=hb
 unfold fR at hb'
 refine zY 19 bPI cD bS Tryz.func273 ?_
 simp -dsimp -implicitDefEqProofs only[go_sem,↓reduceIte,Tryz.f273,hb']
 refine⟨λhc=>?_,λhc=>?_⟩
 ·try simp -dsimp -implicitDefEqProofs only[go_sem,↓reduceIte,Tryz.f273]
  first|refine aH.mk (qI 0 sz hsz) ?_|refine aG.mk (qI 0 sz hsz) ?_|refine aH.cN (qI 0 sz hsz) ?_|refine aG.mk (cG.fO (qI 0 sz hsz)) ?_
  simp -dsimp -implicitDefEqProofs only[go_sem,↓reduceIte,Tryz.f273]
  exact⟨_,by rw[if_pos hc];exact Heap.le_refl _,rfl⟩
 ·try simp -dsimp -implicitDefEqProofs only[go_sem,↓reduceIte,Tryz.f273,hb']
  first|refine aH.mk (qI 0 sz hsz) ?_|refine aG.mk (qI 0 sz hsz) ?_|refine aH.cN (qI 0 sz hsz) ?_|refine aG.mk (cG.fO (qI 0 sz hsz)) ?_
  simp -dsimp -implicitDefEqProofs only[go_sem,↓reduceIte,Tryz.f273]
  refine⟨_,?_,rfl⟩
  rw[if_neg hc,aHL hb]
  exact Heap.le_refl _
@[go_sem] def tU:List Nat:=[0,1,2,6,7,8,9,14,25,38,39,50,59,70,82,99,119,142,151,160,169]
@[go_sem] def aF6:Marks:=λid=>match id with|8=>([7,8],(.op 0 (.op 1 (.op 2 (.op 3 (.op 4 (.op 5 (.op 6 (.op 7 (.op 8 (.op 9 .nil)))))))))),[])|19=>([8,9],(.op 0 (.op 1 (.op 2 (.op 3 (.op 4 (.op 5 (.op 6 (.op 7 (.op 8 (.op 9 (.op 10 .nil))))))))))),[])|_=>([],.nil,[])
def zM (p:aL) (sz n:Nat):Prop:=∀ (h:Heap) (nb st:Nat) (c:Int) (e:aB) (env:List (List Int)) (funcs:Int),h nb=some (fR p sz st c)->st<=3000->3001<=n+st->e.ok p funcs env.length->0<=funcs->funcs<=p.aJ.length->(∀ s∈env,iA sz s)->env.length<=412+st ->
 gV Tryz.prog 262 [.op nb 4 0 0,.ip 5 [e.c] 0 0,pQ env] h (RnQ h nb p sz st c (pZ p sz n st e env))
theorem bWW {l:List aB} {k:Nat} {x:aB} (h:l[k]?=some x) (i:Nat) (hi:i=k):Sub (.ip 5 (l.map aB.c) i 0) (.ip 5 [x.c] 0 0):=by
 subst hi
 exact Sub.ip (by rw[s6,h];rfl) bF
theorem zM.at {p:aL} {sz n:Nat} (hv:zM p sz n) {l:List aB} {i:Nat} {e:aB} (hi:l[i]?=some e) (h:Heap) (nb st:Nat) (c:Int) (env:List (List Int)) (funcs:Int) (hb:h nb=some (fR p sz st c)) (hst:st<=3000) (hn:3001<=n+st) (hok:e.ok p funcs env.length) (gZ:0<=funcs) (hf:funcs<=p.aJ.length) (henv:∀ s∈env,iA sz s) (hel:env.length<=412+st) :
  gV Tryz.prog 262 [.op nb 4 0 0,.ip 5 (l.map aB.c) i 0,pQ env] h (RnQ h nb p sz st c (pZ p sz n st e env)) :=
 gV.sub (.cons (.refl _) (.cons (bWW hi _ rfl) (.cons (.refl _) .nil))) (hv h nb st c e env funcs hb hst hn hok gZ hf henv hel)
theorem a0O {p:aL} {sz n:Nat} (hv:zM p sz n) (h:Heap) (nb st:Nat) (c:Int) (f:aX) (env:List (List Int)) (funcs:Int) (hb:h nb=some (fR p sz st c)) (hst:st<=3000) (hn:3001<=n+st)
  (hl:f.bG.length<=1048576) (hok:∀ e∈f.bG,e.ok p funcs env.length) (gZ:0<=funcs) (hf:funcs<=p.aJ.length) (henv:∀ s∈env,iA sz s) (hel:env.length<=412+st) :
  gV Tryz.prog 248 [.op nb 4 0 0,.ip 3 [f.c] 0 0,pQ env] h (b81 h nb p sz st c f.bG.length (xO (λt e=>pZ p sz n t e env) f.bG st)):=by
 rw[aX.aO]
 refine mK 32 bCN bCO bS Tryz.func248 ?_
 simp -dsimp -implicitDefEqProofs only[go_sem,↓reduceIte,Tryz.f248]
 refine⟨cI,?_⟩
 refine cY bCN bCO bS (λx:Nat×List (List Int)×Nat×Int×Option Nat=>[(0,.op nb 4 0 0),(1,.ip 3 [[.str f.fG,I f.bN,dA 5 aB.c f.bG]] 0 0),(2,pQ env),(7,nW 1 x.2.1.length x.2.2.2.2),(8,I x.1)]) (λx=>dG (bL h nb (fR p sz x.2.2.1 x.2.2.2.1)) (.row 1 ((x.2.1.map λs=>[ints s]).map (List.map .v))) x.2.2.2.2) (λx=>x.1<=f.bG.length/\x.2.1.length=x.1/\(∀ s∈x.2.1,iA sz s)/\st<=x.2.2.1/\x.2.2.1<=3000/\oO (yT c (xO (λt e=>pZ p sz n t e env) (f.bG.take x.1) st)) x.2.1 x.2.2.1 x.2.2.2.1/\lK h x.2.1 x.2.2.2.2) (λx=>f.bG.length-x.1) (0,[],st,c,none) ⟨by simp[eE,dJ,nW],by simp only[aN];rw[aHL hb];exact Heap.le_refl _,iF _,rfl,by simp,eV _,hst,k7 _ _ _,rfl⟩ ?_
 rintro⟨k,vs,t,c',o⟩ ⟨hk,hvl,hvs,ht0,ht,ho,hos⟩
 simp only at hk hvl hvs ht0 ht ho hos ⊢
 rcases cX k f.bG.length with hlt|hge
 ·have ek:f.bG[k]?=some f.bG[k]:=cJ hlt
  have hnext:∀ (s:List Int) (t2:Nat) (c2:Int),oO (yT c' (pZ p sz n t f.bG[k] env)) s t2 c2->oO (yT c (xO (λt e=>pZ p sz n t e env) (f.bG.take (k+1)) st)) (vs++[s]) t2 c2:=λs t2 c2 h3=>by
   rw[kF hlt,aIL]
   exact ho.iI (h3.iI (k7 _ _ _))
  have hall:∀ s,iA sz s->∀ x∈vs++[s],iA sz x:=λs hs=>aFO hvs hs
  cases o with
  |none =>
   rw[cZ]at hos
   subst hos
   simp -dsimp -implicitDefEqProofs only[go_sem,↓reduceIte,Tryz.f248,dK,aN,hlt,ek]
   intro _
   refine aH.jP (hv.at ek (bL h nb (fR p sz t c')) nb t c' env funcs (bB _ _ _) ht aA (hok _ (dX _)) gZ hf henv aA) ?_
   rintro r h' ⟨s,t2,c2,rfl,rfl,hs,h1,h2,h3⟩
   simp -dsimp -implicitDefEqProofs only[go_sem,↓reduceIte,Tryz.f248]
   refine⟨cI,cI,cI,?_⟩
   intro b q_b
   obtain⟨rJ,lE,lD,qZ⟩:=cB (show ¬b=nb from iV q_b)
   have z_b:h b=none:=iV q_b
   refine⟨(k+1,[s],t2,c2,some b),⟨rfl,by rw[IntWalk.i64_in _ aA];rfl⟩,(jU (by repeat'(first|exact hZ _ _|refine jV bHT ?_|refine fZ p9 ?_))),⟨by omega,by simp only[al7]at hvl;subst hvl;rfl,λx hx=>hall s hs x hx,aIX ht0 h1,h2,hnext s t2 c2 h3,z_b⟩,by simp only;omega⟩
  |some m =>
   rw[bY]at hos
   obtain⟨nJ,fD,fC,kZ⟩:=cB (show ¬m=nb from λe=>by rw[e,hb]at hos;cases hos)
   simp -dsimp -implicitDefEqProofs only[go_sem,↓reduceIte,Tryz.f248,bU,aK,hlt,ek]
   intro _
   refine aH.jP (hv.at ek (bL (bL h nb (fR p sz t c')) m (.row 1 ((vs.map λs=>[ints s]).map (List.map .v)))) nb t c' env funcs bBQ ht aA (hok _ (dX _)) gZ hf henv aA) ?_
   rintro r h' ⟨s,t2,c2,rfl,rfl,hs,h1,h2,h3⟩
   simp -dsimp -implicitDefEqProofs only[go_sem,↓reduceIte,Tryz.f248,aE,fD,fC]
   refine⟨cI,cI,cI,eV _,by omega,by omega,?_⟩
   intro b q_b
   obtain⟨rJ,lE,lD,qZ⟩:=cB (show ¬b=nb from iV q_b)
   obtain⟨aQB,aAG,aAH,aQC⟩:=cB (show ¬b=m from iV q_b)
   have z_b:h b=none:=iV q_b
   refine⟨(k+1,vs++[s],t2,c2,some b),⟨by rw[bU,tN];rfl,by rw[IntWalk.i64_in _ aA];rfl⟩,?_,⟨by omega,by rw[tN,hvl];rfl,hall s hs,aIX ht0 h1,h2,hnext s t2 c2 h3,z_b⟩,by simp only;omega⟩
   simp only[aK]
   rw[←jE ints]
   exact(jU (by repeat'(first|exact hZ _ _|refine jV bHS ?_|refine fZ p9 ?_)))
 ·have hk':k=f.bG.length:=by omega
  subst hk'
  rw[eJ]at ho
  cases o with
  |none =>
   rw[cZ]at hos
   subst hos
   simp -dsimp -implicitDefEqProofs only[go_sem,↓reduceIte,Tryz.f248,dK,aN,cO,eK]
   intro _
   exact⟨pQ [],_,Shift.of (Sub.loose _ _ _) (Heap.le_refl _),[],t,c',rfl,rfl,hvl,hvs,ht0,ht,ho⟩
  |some m =>
   rw[bY]at hos
   simp -dsimp -implicitDefEqProofs only[go_sem,↓reduceIte,Tryz.f248,bU,aK,cO,eK]
   intro _
   have hmn:¬m=nb:=λe=>by rw[e,hb]at hos;cases hos
   exact⟨pQ vs,_,sK (vs.map λs=>[ints s]) (h:=bL h nb (fR p sz t c')) (by rw[aE _ _ _ _ hmn,hos]) (Heap.le_refl _) _ (by rw[lM]),vs,t,c',rfl,rfl,hvl,hvs,ht0,ht,ho⟩
theorem bPJ {p:aL} (hp:p.ok) {sz n:Nat} (hv:zM p sz n) (h:Heap) (nb st:Nat) (e:aB) (env:List (List Int)) (funcs:Int) (hb:h nb=some (fR p sz st 0)) (hst:st<=3000) (hn:3001<=n+st) (hok:e.ok p funcs env.length) (gZ:0<=funcs) (hf:funcs<=p.aJ.length) (henv:∀ s∈env,iA sz s) (hel:env.length<=412+st) (hk:e.bH=10) :
  gV Tryz.prog 277 [.op nb 4 0 0,.ip 5 [e.c] 0 0,pQ env] h (RnQ h nb p sz st 0 ((xO (λt e=>pZ p sz n t e env) e.aP st).andThen λvs t=>pZ p sz n t (p.out e.bZ e.dR) vs)):=by
 obtain⟨f,F⟩:=aAS hp hok hf (.inl hk)
 have f1:=F.lo
 have f2:=F.hi
 have f3:=F.pk
 have f4:=F.pk2
 have f5:=F.kids
 have f6:=F.params
 have f8:=F.outs
 have f9:=F.loop
 have hkok:=iR hok aA
 rw[aB.aO]
 refine mK 81 aPY aPZ aP0 Tryz.func277 ?_
 simp -dsimp -implicitDefEqProofs only[go_sem,↓reduceIte,Tryz.f277]
 refine⟨cI,?_⟩
 refine cY aPY aPZ aP0 (λx:Nat×List (List Int)×Nat×Int×Option Nat=>[(0,.op nb 4 0 0),(1,.ip 5 [[I e.bH,I e.bZ,I e.dR,I e.dB,dA 5 aB.c e.aP]] 0 0),(2,pQ env),(7,nW 1 x.2.1.length x.2.2.2.2),(8,I x.1)]) (λx=>dG (bL h nb (fR p sz x.2.2.1 x.2.2.2.1)) (.row 1 ((x.2.1.map λs=>[ints s]).map (List.map .v))) x.2.2.2.2) (λx=>x.1<=e.aP.length/\x.2.1.length=x.1/\(∀ s∈x.2.1,iA sz s)/\st<=x.2.2.1/\x.2.2.1<=3000/\oO (yT 0 (xO (λt e=>pZ p sz n t e env) (e.aP.take x.1) st)) x.2.1 x.2.2.1 x.2.2.2.1/\lK h x.2.1 x.2.2.2.2) (λx=>e.aP.length-x.1) (0,[],st,0,none) ⟨by simp[eE,dJ,nW],by simp only[aN];rw[aHL hb];exact Heap.le_refl _,iF _,rfl,by simp,eV _,hst,k7 _ _ _,rfl⟩ ?_
 rintro⟨k,vs,t,c',o⟩ ⟨hk2,hvl,hvs,ht0,ht,ho,hos⟩
 simp only at hk2 hvl hvs ht0 ht ho hos ⊢
 rcases cX k e.aP.length with hlt|hge
 ·have ek:e.aP[k]?=some e.aP[k]:=cJ hlt
  have hnext:∀ (s:List Int) (t2:Nat) (c2:Int),oO (yT c' (pZ p sz n t e.aP[k] env)) s t2 c2->oO (yT 0 (xO (λt e=>pZ p sz n t e env) (e.aP.take (k+1)) st)) (vs++[s]) t2 c2:=λs t2 c2 h3=>by
   rw[kF hlt,aIL]
   exact ho.iI (h3.iI (k7 _ _ _))
  have hall:∀ s,iA sz s->∀ x∈vs++[s],iA sz x:=λs hs=>aFO hvs hs
  cases o with
  |none =>
   rw[cZ]at hos
   subst hos
   simp -dsimp -implicitDefEqProofs only[go_sem,↓reduceIte,Tryz.f277,dK,aN,hlt,ek]
   intro _
   refine aH.jP (hv.at ek (bL h nb (fR p sz t c')) nb t c' env funcs (bB _ _ _) ht aA (hkok _ (dX _)) gZ hf henv aA) ?_
   rintro r h' ⟨s,t2,c2,rfl,rfl,hs,h1,h2,h3⟩
   simp -dsimp -implicitDefEqProofs only[go_sem,↓reduceIte,Tryz.f277]
   refine⟨cI,cI,cI,?_⟩
   intro b q_b
   obtain⟨rJ,lE,lD,qZ⟩:=cB (show ¬b=nb from iV q_b)
   have z_b:h b=none:=iV q_b
   refine⟨(k+1,[s],t2,c2,some b),⟨rfl,by rw[IntWalk.i64_in _ aA];rfl⟩,(jU (by repeat'(first|exact hZ _ _|refine jV bHT ?_|refine fZ p9 ?_))),⟨by omega,by simp only[al7]at hvl;subst hvl;rfl,λx hx=>hall s hs x hx,aIX ht0 h1,h2,hnext s t2 c2 h3,z_b⟩,by simp only;omega⟩
  |some m =>
   rw[bY]at hos
   obtain⟨nJ,fD,fC,kZ⟩:=cB (show ¬m=nb from λe=>by rw[e,hb]at hos;cases hos)
   simp -dsimp -implicitDefEqProofs only[go_sem,↓reduceIte,Tryz.f277,bU,aK,hlt,ek]
   intro _
   refine aH.jP (hv.at ek (bL (bL h nb (fR p sz t c')) m (.row 1 ((vs.map λs=>[ints s]).map (List.map .v)))) nb t c' env funcs bBQ ht aA (hkok _ (dX _)) gZ hf henv aA) ?_
   rintro r h' ⟨s,t2,c2,rfl,rfl,hs,h1,h2,h3⟩
   simp -dsimp -implicitDefEqProofs only[go_sem,↓reduceIte,Tryz.f277,aE,fD,fC]
   refine⟨cI,cI,cI,eV _,by omega,by omega,?_⟩
   intro b q_b
   obtain⟨rJ,lE,lD,qZ⟩:=cB (show ¬b=nb from iV q_b)
   obtain⟨aQB,aAG,aAH,aQC⟩:=cB (show ¬b=m from iV q_b)
   have z_b:h b=none:=iV q_b
   refine⟨(k+1,vs++[s],t2,c2,some b),⟨by rw[bU,tN];rfl,by rw[IntWalk.i64_in _ aA];rfl⟩,?_,⟨by omega,by rw[tN,hvl];rfl,hall s hs,aIX ht0 h1,h2,hnext s t2 c2 h3,z_b⟩,by simp only;omega⟩
   simp only[aK]
   rw[←jE ints]
   exact(jU (by repeat'(first|exact hZ _ _|refine jV bHS ?_|refine fZ p9 ?_)))
 have hk':k=e.aP.length:=by omega
 subst hk'
 rw[eJ]at ho
 have gp:vs[e.dR.toNat]?=some (vs.getD e.dR.toNat [])∨e.bH=10:=by
  by_cases h10:e.bH=10
  ·exact .inr h10
  ·exact .inl (aRB (by have:=f9 aA;omega))
 cases o with
 |none =>
  rw[cZ]at hos
  subst hos
  simp -dsimp -implicitDefEqProofs only[go_sem,↓reduceIte,Tryz.f277,dK,aN,cO,eK,fR,hk,F.get,F.out,aX.aO,aL.aO]
  intro _
  refine⟨f1,f2,f3,by omega,?_⟩
  refine aH.jP (gV.sub (.cons (.refl _) (.cons (.refl _) (.cons (Sub.loose _ _ _) .nil))) (hv.at F.out (bL h nb (fR p sz t c')) nb t c' [] e.bZ (bB _ _ _) ht aA bBI f1 aA bF bF)) ?_
  rintro r h' ⟨s,t2,c2,rfl,rfl,hs,b1,b2,b3⟩
  simp -dsimp -implicitDefEqProofs only[go_sem,↓reduceIte,Tryz.f277]
  refine⟨_,bL h nb (fR p sz t2 c2),eZ aSG,s,t2,c2,rfl,rfl,hs,by omega,b2,?_⟩
  exact ho.iI b3
 |some m =>
  rw[bY]at hos
  obtain⟨nJ,fD,fC,kZ⟩:=cB (show ¬m=nb from λe=>by rw[e,hb]at hos;cases hos)
  simp -dsimp -implicitDefEqProofs only[go_sem,↓reduceIte,Tryz.f277,bU,aK,cO,eK,fR,aE,fD,fC,hk,F.get,F.out,aX.aO,aL.aO]
  intro _
  refine⟨f1,f2,f3,by omega,?_⟩
  refine aH.aP9 rfl rfl kZ (by rw[lM]) (by rw[aE _ _ _ _ nJ];exact hos) ?_
  refine gV.mono (hv.at F.out (bL (bL h nb (fR p sz t c')) m .gone) nb t c' vs e.bZ bBQ ht aA bBI f1 aA hvs aA) ?_
  rintro r h' ⟨s,t2,c2,rfl,rfl,hs,b1,b2,b3⟩
  simp -dsimp -implicitDefEqProofs only[go_sem,↓reduceIte,Tryz.f277]
  refine⟨_,bL h nb (fR p sz t2 c2),eZ (jU (by repeat'(first|exact hZ _ _|refine jV (by simp only[fU,↓reduceIte,eq_self,if_true,fC,fD]) ?_|refine fZ p9 ?_))),s,t2,c2,rfl,rfl,hs,by omega,b2,?_⟩
  exact ho.iI b3
theorem bPK {p:aL} (hp:p.ok) {sz n:Nat} (hv:zM p sz n) (h:Heap) (nb st:Nat) (e:aB) (env:List (List Int)) (funcs:Int) (hb:h nb=some (fR p sz st 0)) (hst:st<=3000) (hn:3001<=n+st) (hok:e.ok p funcs env.length) (gZ:0<=funcs) (hf:funcs<=p.aJ.length) (henv:∀ s∈env,iA sz s) (hel:env.length<=412+st) (hk:e.bH=11) :
  gV Tryz.prog 277 [.op nb 4 0 0,.ip 5 [e.c] 0 0,pQ env] h (RnQ h nb p sz st 0 ((xO (λt e=>pZ p sz n t e env) e.aP st).andThen λvs t=>(aHX (λvs t=>xO (λt e=>pZ p sz n t e vs) (p.outs e.bZ) t) e.dB.toNat vs t).andThen λvs t=>.ok (vs.getD e.dR.toNat [],t))):=by
 obtain⟨f,F⟩:=aAS hp hok hf (.inr hk)
 have f1:=F.lo
 have f2:=F.hi
 have f3:=F.pk
 have f4:=F.pk2
 have f5:=F.kids
 have f6:=F.params
 have f8:=F.outs
 have f9:=F.loop
 have hkok:=iR hok aA
 rw[aB.aO]
 refine mK 81 aPY aPZ aP0 Tryz.func277 ?_
 simp -dsimp -implicitDefEqProofs only[go_sem,↓reduceIte,Tryz.f277]
 refine⟨cI,?_⟩
 refine cY aPY aPZ aP0 (λx:Nat×List (List Int)×Nat×Int×Option Nat=>[(0,.op nb 4 0 0),(1,.ip 5 [[I e.bH,I e.bZ,I e.dR,I e.dB,dA 5 aB.c e.aP]] 0 0),(2,pQ env),(7,nW 1 x.2.1.length x.2.2.2.2),(8,I x.1)]) (λx=>dG (bL h nb (fR p sz x.2.2.1 x.2.2.2.1)) (.row 1 ((x.2.1.map λs=>[ints s]).map (List.map .v))) x.2.2.2.2) (λx=>x.1<=e.aP.length/\x.2.1.length=x.1/\(∀ s∈x.2.1,iA sz s)/\st<=x.2.2.1/\x.2.2.1<=3000/\oO (yT 0 (xO (λt e=>pZ p sz n t e env) (e.aP.take x.1) st)) x.2.1 x.2.2.1 x.2.2.2.1/\lK h x.2.1 x.2.2.2.2) (λx=>e.aP.length-x.1) (0,[],st,0,none) ⟨by simp[eE,dJ,nW],by simp only[aN];rw[aHL hb];exact Heap.le_refl _,iF _,rfl,by simp,eV _,hst,k7 _ _ _,rfl⟩ ?_
 rintro⟨k,vs,t,c',o⟩ ⟨hk2,hvl,hvs,ht0,ht,ho,hos⟩
 simp only at hk2 hvl hvs ht0 ht ho hos ⊢
 rcases cX k e.aP.length with hlt|hge
 ·have ek:e.aP[k]?=some e.aP[k]:=cJ hlt
  have hnext:∀ (s:List Int) (t2:Nat) (c2:Int),oO (yT c' (pZ p sz n t e.aP[k] env)) s t2 c2->oO (yT 0 (xO (λt e=>pZ p sz n t e env) (e.aP.take (k+1)) st)) (vs++[s]) t2 c2:=λs t2 c2 h3=>by
   rw[kF hlt,aIL]
   exact ho.iI (h3.iI (k7 _ _ _))
  have hall:∀ s,iA sz s->∀ x∈vs++[s],iA sz x:=λs hs=>aFO hvs hs
  cases o with
  |none =>
   rw[cZ]at hos
   subst hos
   simp -dsimp -implicitDefEqProofs only[go_sem,↓reduceIte,Tryz.f277,dK,aN,hlt,ek]
   intro _
   refine aH.jP (hv.at ek (bL h nb (fR p sz t c')) nb t c' env funcs (bB _ _ _) ht aA (hkok _ (dX _)) gZ hf henv aA) ?_
   rintro r h' ⟨s,t2,c2,rfl,rfl,hs,h1,h2,h3⟩
   simp -dsimp -implicitDefEqProofs only[go_sem,↓reduceIte,Tryz.f277]
   refine⟨cI,cI,cI,?_⟩
   intro b q_b
   obtain⟨rJ,lE,lD,qZ⟩:=cB (show ¬b=nb from iV q_b)
   have z_b:h b=none:=iV q_b
   refine⟨(k+1,[s],t2,c2,some b),⟨rfl,by rw[IntWalk.i64_in _ aA];rfl⟩,(jU (by repeat'(first|exact hZ _ _|refine jV bHT ?_|refine fZ p9 ?_))),⟨by omega,by simp only[al7]at hvl;subst hvl;rfl,λx hx=>hall s hs x hx,aIX ht0 h1,h2,hnext s t2 c2 h3,z_b⟩,by simp only;omega⟩
  |some m =>
   rw[bY]at hos
   obtain⟨nJ,fD,fC,kZ⟩:=cB (show ¬m=nb from λe=>by rw[e,hb]at hos;cases hos)
   simp -dsimp -implicitDefEqProofs only[go_sem,↓reduceIte,Tryz.f277,bU,aK,hlt,ek]
   intro _
   refine aH.jP (hv.at ek (bL (bL h nb (fR p sz t c')) m (.row 1 ((vs.map λs=>[ints s]).map (List.map .v)))) nb t c' env funcs bBQ ht aA (hkok _ (dX _)) gZ hf henv aA) ?_
   rintro r h' ⟨s,t2,c2,rfl,rfl,hs,h1,h2,h3⟩
   simp -dsimp -implicitDefEqProofs only[go_sem,↓reduceIte,Tryz.f277,aE,fD,fC]
   refine⟨cI,cI,cI,eV _,by omega,by omega,?_⟩
   intro b q_b
   obtain⟨rJ,lE,lD,qZ⟩:=cB (show ¬b=nb from iV q_b)
   obtain⟨aQB,aAG,aAH,aQC⟩:=cB (show ¬b=m from iV q_b)
   have z_b:h b=none:=iV q_b
   refine⟨(k+1,vs++[s],t2,c2,some b),⟨by rw[bU,tN];rfl,by rw[IntWalk.i64_in _ aA];rfl⟩,?_,⟨by omega,by rw[tN,hvl];rfl,hall s hs,aIX ht0 h1,h2,hnext s t2 c2 h3,z_b⟩,by simp only;omega⟩
   simp only[aK]
   rw[←jE ints]
   exact(jU (by repeat'(first|exact hZ _ _|refine jV bHS ?_|refine fZ p9 ?_)))
 have hk':k=e.aP.length:=by omega
 subst hk'
 rw[eJ]at ho
 have gp:vs[e.dR.toNat]?=some (vs.getD e.dR.toNat [])∨e.bH=10:=by
  by_cases h10:e.bH=10
  ·exact .inr h10
  ·exact .inl (aRB (by have:=f9 aA;omega))
 have gp':vs[e.dR.toNat]?=some (vs.getD e.dR.toNat []):=gp.resolve_right aA
 have g9:=f9 hk
 cases o with
 |none =>
  exfalso
  rw[cZ]at hos
  rw[hos]at hvl
  simp at hvl
  omega
 |some m =>
  rw[bY]at hos
  obtain⟨nJ,fD,fC,kZ⟩:=cB (show ¬m=nb from λe=>by rw[e,hb]at hos;cases hos)
  simp -dsimp -implicitDefEqProofs only[go_sem,↓reduceIte,Tryz.f277,bU,aK,cO,eK,fR,aE,fD,fC,hk,F.get,F.out,aX.aO,aL.aO]
  intro _
  refine⟨f1,f2,?_⟩
  refine aNW.a4Y m (by rw[aE _ _ _ _ nJ];exact hos) (by simp[lY,fD,fC]) ?_
  refine cY aPY aPZ aP0 (λx:Nat×List (List Int)×Nat×Int=>[(0,.op nb 4 0 0),(1,.ip 5 [[I 11,I e.bZ,I e.dR,I e.dB,dA 5 aB.c e.aP]] 0 0),(7,pQ x.2.1),(9,.ip 3 (p.aJ.map aX.c) e.bZ.toNat 0),(10,I x.1)]) (λx=>bL h nb (fR p sz x.2.2.1 x.2.2.2)) (λx=>x.1<=e.dB.toNat/\x.2.1.length=f.bG.length/\(∀ s∈x.2.1,iA sz s)/\t<=x.2.2.1/\x.2.2.1<=3000/\oO (yT c' (aHX (λvs t=>xO (λt e=>pZ p sz n t e vs) (p.outs e.bZ) t) x.1 vs t)) x.2.1 x.2.2.1 x.2.2.2) (λx=>e.dB.toNat-x.1) (0,vs,t,c') ⟨by simp[eE,dJ,aC.iE,fD,fC,gX],(jU (by repeat'(first|exact hZ _ _|refine jV (by simp only[fU,↓reduceIte,eq_self,if_true,fD,fC,fR,aL.aO]) ?_|refine fZ p9 ?_))),iF _,by simp only;omega,hvs,eV _,ht,k7 _ _ _⟩ ?_
  rintro⟨k,us,u,d⟩ ⟨hk1,hul,hus,ht1,ht2,hd⟩
  simp only at hk1 hul hus ht1 ht2 hd ⊢
  have gu:us[e.dR.toNat]?=some (us.getD e.dR.toNat []):=aRB aA
  simp -dsimp -implicitDefEqProofs only[go_sem,↓reduceIte,Tryz.f277,fR,gu]
  refine⟨λhlt=>?_,λhge=>?_⟩
  ·refine aH.jP (gV.sub (.cons (.refl _) (.cons (Sub.ip (by rw[s6,F.get];rfl) (by simp[aX.aO])) (.cons (.refl _) .nil))) (a0O hv (bL h nb (fR p sz u d)) nb u d f us e.bZ (bB _ _ _) ht2 aA aA (by rw[hul,g9.2.2];exact F.oks) f1 aA hus aA)) ?_
   rintro r h' ⟨l2,t2,c2,rfl,rfl,hl2,nA,b1,b2,b3⟩
   simp -dsimp -implicitDefEqProofs only[go_sem,↓reduceIte,Tryz.f277]
   refine⟨(k+1,l2,t2,c2),⟨rfl,by rw[IntWalk.i64_in _ aA];rfl⟩,by simp only[aF];exact Heap.le_refl _,⟨by omega,hl2,nA,by simp only;omega,b2,?_⟩,by simp only;omega⟩
   simp only
   rw[aUS]
   refine hd.iI ?_
   rw[F.eq]
   exact b3
  ·have hke:k=e.dB.toNat:=by omega
   refine⟨f3,by omega,_,_,cE _ _,us.getD e.dR.toNat [],u,d,rfl,rfl,aX5 hus aA,by omega,ht2,?_⟩
   refine ho.iI ?_
   rw[←hke]
   exact hd.iI (k7 _ _ _)
theorem bF9 {p:aL} {sz n:Nat} (hsz:1<=sz/\sz<=1048576) (h:Heap) (nb st:Nat) (c:Int) (e:aB) (env:List (List Int)) (hb:h nb=some (fR p sz st c)) (hst:st<=3000) (hs:¬c=0∨st=3000) :
  gV Tryz.prog 262 [.op nb 4 0 0,.ip 5 [e.c] 0 0,pQ env] h (RnQ h nb p sz st c (pZ p sz (n+1) st e env)):=by
 rw[aB.aO]
 have hb':=hb
 unfold fR at hb'
 refine mK 186 tU cD aF6 Tryz.func262 ?_
 simp -dsimp -implicitDefEqProofs only[go_sem,↓reduceIte,Tryz.f262,hb']
 refine⟨λhc=>?_,λhc=>?_⟩
 ·have hc':¬c=0:=by simpa using hc
  refine aH.jP (bDX h nb p sz st c c hb hsz.2) ?_
  rintro r h' ⟨rfl,rfl⟩
  simp -dsimp -implicitDefEqProofs only[go_sem,↓reduceIte,Tryz.f262]
  refine⟨_,_,cE _ _,_,st,c,rfl,by rw[if_neg hc'],zJ aMV,eV _,hst,by rw[aCA _ hc'];exact tH _ _ hc'⟩
 ·have r8:c=0:=by simpa using hc
  subst r8
  have h3:st=3000:=by rcases hs with hs|hs;exact absurd rfl hs;exact hs
  subst h3
  try simp -dsimp -implicitDefEqProofs only[go_sem,↓reduceIte,Tryz.f262,hb']
  refine⟨λ_=>?_,λq=>absurd q bF⟩
  refine aH.jP (bDX h nb p sz 3000 0 7 hb hsz.2) ?_
  rintro r h' ⟨rfl,rfl⟩
  simp -dsimp -implicitDefEqProofs only[go_sem,↓reduceIte,Tryz.f262]
  refine⟨_,_,cE _ _,_,3000,7,rfl,rfl,zJ aMV,eV _,hst,?_⟩
  rw[gS,pZ,if_pos rfl]
  exact tH _ _ dQ
theorem bWX {p:aL} (hp:p.ok) {sz n:Nat} (hsz:1<=sz/\sz<=1048576) (hv:zM p sz n) (h:Heap) (nb st:Nat) (e:aB) (env:List (List Int)) (funcs:Int) (hb:h nb=some (fR p sz st 0)) (hst:st<3000) (hn:3001<=n+1+st)
  (hok:e.ok p funcs env.length) (gZ:0<=funcs) (hf:funcs<=p.aJ.length) (henv:∀ s∈env,iA sz s) (hel:env.length<=412+st) (hk:e.bH=1) :
  gV Tryz.prog 262 [.op nb 4 0 0,.ip 5 [e.c] 0 0,pQ env] h (RnQ h nb p sz st 0 (pZ p sz (n+1) st e env)):=by
 have hb':=hb
 unfold fR at hb'
 have e3:((st:Int)=3000)=False:=eq_false aA
 have ew:IntKind.i64.wrap ((st:Int)+1)=((st+1:Nat):Int):=by rw[IntWalk.i64_in _ aA];rfl
 have hnode:=(aB.fK _ _ _ _).1 hok
 have h3:¬st=3000:=by omega
 have hnum:oI e.bZ:=((iG aA).1 hnode.1).2.2.2.1 hk
 rw[aB.aO]
 refine mK 186 tU cD aF6 Tryz.func262 ?_
 simp -dsimp -implicitDefEqProofs only[go_sem,↓reduceIte,Tryz.f262,hb',e3,ew,hk]
 first|refine aH.mk (qI e.bZ sz hsz.2) ?_|refine aG.mk (qI e.bZ sz hsz.2) ?_|refine aH.cN (qI e.bZ sz hsz.2) ?_|refine aG.mk (cG.fO (qI e.bZ sz hsz.2)) ?_
 simp -dsimp -implicitDefEqProofs only[go_sem,↓reduceIte,Tryz.f262]
 refine⟨_,_,cE _ _,_,st+1,0,rfl,rfl,zJ hnum,nB _,hst,?_⟩
 rw[gS,bTG h3 hk]
 exact aAR _ _
theorem bWY {p:aL} (hp:p.ok) {sz n:Nat} (hsz:1<=sz/\sz<=1048576) (hv:zM p sz n) (h:Heap) (nb st:Nat) (e:aB) (env:List (List Int)) (funcs:Int) (hb:h nb=some (fR p sz st 0)) (hst:st<3000) (hn:3001<=n+1+st)
  (hok:e.ok p funcs env.length) (gZ:0<=funcs) (hf:funcs<=p.aJ.length) (henv:∀ s∈env,iA sz s) (hel:env.length<=412+st) (hk:e.bH=2) :
  gV Tryz.prog 262 [.op nb 4 0 0,.ip 5 [e.c] 0 0,pQ env] h (RnQ h nb p sz st 0 (pZ p sz (n+1) st e env)):=by
 have hb':=hb
 unfold fR at hb'
 have e3:((st:Int)=3000)=False:=eq_false aA
 have ew:IntKind.i64.wrap ((st:Int)+1)=((st+1:Nat):Int):=by rw[IntWalk.i64_in _ aA];rfl
 have hnode:=(aB.fK _ _ _ _).1 hok
 have h3:¬st=3000:=by omega
 have hnum:=((iG aA).1 hnode.1).2.2.2.2.1 hk
 have hlt:e.bZ.toNat<env.length:=by omega
 rw[aB.aO]
 refine mK 186 tU cD aF6 Tryz.func262 ?_
 simp -dsimp -implicitDefEqProofs only[go_sem,↓reduceIte,Tryz.f262,hb',e3,ew,hk,aRB hlt]
 refine⟨hnum.1,by omega,_,_,cE _ _,_,st+1,0,rfl,rfl,aX5 henv hlt,nB _,hst,?_⟩
 rw[gS,bTH h3 hk]
 exact aAR _ _
theorem bWZ {p:aL} (hp:p.ok) {sz n:Nat} (hsz:1<=sz/\sz<=1048576) (hv:zM p sz n) (h:Heap) (nb st:Nat) (e:aB) (env:List (List Int)) (funcs:Int) (hb:h nb=some (fR p sz st 0)) (hst:st<3000) (hn:3001<=n+1+st)
  (hok:e.ok p funcs env.length) (gZ:0<=funcs) (hf:funcs<=p.aJ.length) (henv:∀ s∈env,iA sz s) (hel:env.length<=412+st) (hk:e.bH=8) :
  gV Tryz.prog 262 [.op nb 4 0 0,.ip 5 [e.c] 0 0,pQ env] h (RnQ h nb p sz st 0 (pZ p sz (n+1) st e env)):=by
 have hb':=hb
 unfold fR at hb'
 have e3:((st:Int)=3000)=False:=eq_false aA
 have ew:IntKind.i64.wrap ((st:Int)+1)=((st+1:Nat):Int):=by rw[IntWalk.i64_in _ aA];rfl
 have hnode:=(aB.fK _ _ _ _).1 hok
 have h3:¬st=3000:=by omega
 have hlen:=gT hok aA
 rw[hk,show jO 8=3 from rfl]at hlen
 have g0:e.aP[Int.toNat 0]?=some (e.tL 0):=aB.kW aA
 have g1:e.aP[Int.toNat 1]?=some (e.tL 1):=aB.kW aA
 have g2:e.aP[Int.toNat 2]?=some (e.tL 2):=aB.kW aA
 have o0:=aB.jY hok (i:=0) aA
 have o1:=aB.jY hok (i:=1) aA
 have o2:=aB.jY hok (i:=2) aA
 rw[mV aA]at o0 o1 o2
 rw[aB.aO]
 refine mK 186 tU cD aF6 Tryz.func262 ?_
 simp -dsimp -implicitDefEqProofs only[go_sem,↓reduceIte,Tryz.f262,hb',e3,ew,hk,g0]
 refine⟨by omega,?_⟩
 refine aH.jP (hv.at g0 (bL h nb (fR p sz (st+1) 0)) nb (st+1) 0 env funcs (bB _ _ _) aA aA o0 gZ hf henv aA) ?_
 rintro r h' ⟨s1,t1,c1,rfl,rfl,uB,a1,a2,a3⟩
 have gs:s1[Int.toNat 0]?=some (s1.getD 0 0):=gA pU
 simp -dsimp -implicitDefEqProofs only[go_sem,↓reduceIte,Tryz.f262,gs,g1,g2]
 refine⟨by rw[uB.1];omega,λhz=>⟨by omega,?_⟩,λhz=>⟨by omega,?_⟩⟩
 ·rw[aF]
  refine aH.jP (hv.at g1 (bL h nb (fR p sz t1 c1)) nb t1 c1 env funcs (bB _ _ _) aA aA o1 gZ hf henv aA) ?_
  rintro r h' ⟨s2,t2,c2,rfl,rfl,nA,b1,b2,b3⟩
  simp -dsimp -implicitDefEqProofs only[go_sem,↓reduceIte,Tryz.f262]
  refine⟨_,_,cE _ _,s2,t2,c2,rfl,by rw[aF],nA,by omega,b2,?_⟩
  rw[bKN h3 hk]
  refine a3.iI ?_
  rw[if_pos hz]
  exact b3
 ·rw[aF]
  refine aH.jP (hv.at g2 (bL h nb (fR p sz t1 c1)) nb t1 c1 env funcs (bB _ _ _) aA aA o2 gZ hf henv aA) ?_
  rintro r h' ⟨s2,t2,c2,rfl,rfl,nA,b1,b2,b3⟩
  simp -dsimp -implicitDefEqProofs only[go_sem,↓reduceIte,Tryz.f262]
  refine⟨_,_,cE _ _,s2,t2,c2,rfl,by rw[aF],nA,by omega,b2,?_⟩
  rw[bKN h3 hk]
  refine a3.iI ?_
  rw[if_neg hz]
  exact b3
theorem bW0 {p:aL} (hp:p.ok) {sz n:Nat} (hsz:1<=sz/\sz<=1048576) (hv:zM p sz n) (h:Heap) (nb st:Nat) (e:aB) (env:List (List Int)) (funcs:Int) (hb:h nb=some (fR p sz st 0)) (hst:st<3000) (hn:3001<=n+1+st)
  (hok:e.ok p funcs env.length) (gZ:0<=funcs) (hf:funcs<=p.aJ.length) (henv:∀ s∈env,iA sz s) (hel:env.length<=412+st) (hk:e.bH=9) :
  gV Tryz.prog 262 [.op nb 4 0 0,.ip 5 [e.c] 0 0,pQ env] h (RnQ h nb p sz st 0 (pZ p sz (n+1) st e env)):=by
 have hb':=hb
 unfold fR at hb'
 have e3:((st:Int)=3000)=False:=eq_false aA
 have ew:IntKind.i64.wrap ((st:Int)+1)=((st+1:Nat):Int):=by rw[IntWalk.i64_in _ aA];rfl
 have hnode:=(aB.fK _ _ _ _).1 hok
 have h3:¬st=3000:=by omega
 have hlen:=gT hok aA
 rw[hk,show jO 9=2 from rfl]at hlen
 have g0:e.aP[Int.toNat 0]?=some (e.tL 0):=aB.kW aA
 have g1:e.aP[Int.toNat 1]?=some (e.tL 1):=aB.kW aA
 have o0:=aB.jY hok (i:=0) aA
 have o1:=aB.jY hok (i:=1) aA
 rw[mV aA]at o0
 rw[hk,show p8 9 1 (env.length:Int)=env.length+1 from rfl]at o1
 rw[aB.aO]
 refine mK 186 tU cD aF6 Tryz.func262 ?_
 simp -dsimp -implicitDefEqProofs only[go_sem,↓reduceIte,Tryz.f262,hb',e3,ew,hk,g0,g1]
 refine⟨by omega,?_⟩
 refine aH.jP (hv.at g0 (bL h nb (fR p sz (st+1) 0)) nb (st+1) 0 env funcs (bB _ _ _) aA aA o0 gZ hf henv aA) ?_
 rintro r h' ⟨s1,t1,c1,rfl,rfl,uB,a1,a2,a3⟩
 simp -dsimp -implicitDefEqProofs only[go_sem,↓reduceIte,Tryz.f262,g0,g1]
 refine⟨by omega,?_⟩
 first|refine aH.mk (a0N env s1 aA) ?_|refine aG.mk (a0N env s1 aA) ?_|refine aH.cN (a0N env s1 aA) ?_|refine aG.mk (cG.fO (a0N env s1 aA)) ?_
 simp -dsimp -implicitDefEqProofs only[go_sem,↓reduceIte,Tryz.f262]
 rw[aF]
 refine aH.jP (hv.at g1 (bL h nb (fR p sz t1 c1)) nb t1 c1 (env++[s1]) funcs (bB _ _ _) aA aA a2Y gZ hf (aFO henv uB) bRW) ?_
 rintro r h' ⟨s2,t2,c2,rfl,rfl,nA,b1,b2,b3⟩
 simp -dsimp -implicitDefEqProofs only[go_sem,↓reduceIte,Tryz.f262]
 refine⟨_,bL h nb (fR p sz t2 c2),eZ aSG,s2,t2,c2,rfl,rfl,nA,by omega,b2,?_⟩
 rw[bTI h3 hk]
 exact a3.iI b3
theorem bPL {p:aL} (hp:p.ok) {sz n:Nat} (hsz:1<=sz/\sz<=1048576) (hv:zM p sz n) (h:Heap) (nb st:Nat) (e:aB) (env:List (List Int)) (funcs:Int) (hb:h nb=some (fR p sz st 0)) (hst:st<3000) (hn:3001<=n+1+st)
  (hok:e.ok p funcs env.length) (gZ:0<=funcs) (hf:funcs<=p.aJ.length) (henv:∀ s∈env,iA sz s) (hel:env.length<=412+st) (hk:e.bH=10) :
  gV Tryz.prog 262 [.op nb 4 0 0,.ip 5 [e.c] 0 0,pQ env] h (RnQ h nb p sz st 0 (pZ p sz (n+1) st e env)):=by
 have hb':=hb
 unfold fR at hb'
 have e3:((st:Int)=3000)=False:=eq_false aA
 have ew:IntKind.i64.wrap ((st:Int)+1)=((st+1:Nat):Int):=by rw[IntWalk.i64_in _ aA];rfl
 have hnode:=(aB.fK _ _ _ _).1 hok
 have h3:¬st=3000:=by omega
 have hcl:=bPJ hp hv (bL h nb (fR p sz (st+1) 0)) nb (st+1) e env funcs (bB _ _ _) aA aA hok gZ hf henv aA hk
 rw[aB.aO,hk]at hcl
 rw[aB.aO]
 refine mK 186 tU cD aF6 Tryz.func262 ?_
 simp -dsimp -implicitDefEqProofs only[go_sem,↓reduceIte,Tryz.f262,hb',e3,ew,hk]
 refine aH.jP hcl ?_
 rintro r h' ⟨s2,t2,c2,rfl,rfl,nA,b1,b2,b3⟩
 simp -dsimp -implicitDefEqProofs only[go_sem,↓reduceIte,Tryz.f262]
 refine⟨_,bL h nb (fR p sz t2 c2),eZ aSG,s2,t2,c2,rfl,rfl,nA,by omega,b2,?_⟩
 rw[bKO h3 hk]
 exact b3
theorem bPM {p:aL} (hp:p.ok) {sz n:Nat} (hsz:1<=sz/\sz<=1048576) (hv:zM p sz n) (h:Heap) (nb st:Nat) (e:aB) (env:List (List Int)) (funcs:Int) (hb:h nb=some (fR p sz st 0)) (hst:st<3000) (hn:3001<=n+1+st)
  (hok:e.ok p funcs env.length) (gZ:0<=funcs) (hf:funcs<=p.aJ.length) (henv:∀ s∈env,iA sz s) (hel:env.length<=412+st) (hk:e.bH=11) :
  gV Tryz.prog 262 [.op nb 4 0 0,.ip 5 [e.c] 0 0,pQ env] h (RnQ h nb p sz st 0 (pZ p sz (n+1) st e env)):=by
 have hb':=hb
 unfold fR at hb'
 have e3:((st:Int)=3000)=False:=eq_false aA
 have ew:IntKind.i64.wrap ((st:Int)+1)=((st+1:Nat):Int):=by rw[IntWalk.i64_in _ aA];rfl
 have hnode:=(aB.fK _ _ _ _).1 hok
 have h3:¬st=3000:=by omega
 have hcl:=bPK hp hv (bL h nb (fR p sz (st+1) 0)) nb (st+1) e env funcs (bB _ _ _) aA aA hok gZ hf henv aA hk
 rw[aB.aO,hk]at hcl
 rw[aB.aO]
 refine mK 186 tU cD aF6 Tryz.func262 ?_
 simp -dsimp -implicitDefEqProofs only[go_sem,↓reduceIte,Tryz.f262,hb',e3,ew,hk]
 refine aH.jP hcl ?_
 rintro r h' ⟨s2,t2,c2,rfl,rfl,nA,b1,b2,b3⟩
 simp -dsimp -implicitDefEqProofs only[go_sem,↓reduceIte,Tryz.f262]
 refine⟨_,bL h nb (fR p sz t2 c2),eZ aSG,s2,t2,c2,rfl,rfl,nA,by omega,b2,?_⟩
 rw[bKP h3 hk]
 exact b3
theorem bKT {e:aB} (h:e.aP.length=1):e.aP=[e.tL 0]:=by
 have h0:=aB.aBV (e:=e) (i:=0) aA
 rw[h0]
 apply List.ext_getElem (by simp[h])
 intro i hi hi2
 match i,hi2 with
 |0,_=>rfl
theorem bKU {e:aB} (h:e.aP.length=2):e.aP=[e.tL 0,e.tL 1]:=by
 have h0:=aB.aBV (e:=e) (i:=0) aA
 have h1:=aB.aBV (e:=e) (i:=1) aA
 rw[h0,h1]
 apply List.ext_getElem (by simp[h])
 intro i hi hi2
 match i,hi2 with
 |0,_=>rfl
 |1,_=>rfl
theorem bW1 {p:aL} {sz n st:Nat} {e:aB} {env:List (List Int)} (h3:¬st=3000) (hk:e.bH=7) (hl:e.aP.length=1):pZ p sz (n+1) st e env=(pZ p sz n (st+1) (e.tL 0) env).andThen λv t=>.ok (aDD v 1000002,t):=by
 rw[a9W h3 aA,bKT hl,hk]
 simp only[xO,Out.oQ,Out.andThen_ok,opE]
 rfl
theorem aIO {p:aL} {sz n st:Nat} {e:aB} {env:List (List Int)} (h3:¬st=3000) (hk:e.bH=3∨e.bH=4∨e.bH=5∨e.bH=6) (hl:e.aP.length=2):pZ p sz (n+1) st e env=(pZ p sz n (st+1) (e.tL 0) env).andThen λa t=>(pZ p sz n t (e.tL 1) env).andThen λb t=>opE e.bH [a,b] t:=by
 rw[a9W h3 aA,bKU hl]
 simp only[xO,Out.oQ,Out.andThen_ok]
theorem bW2 {p:aL} (hp:p.ok) {sz n:Nat} (hsz:1<=sz/\sz<=1048576) (hv:zM p sz n) (h:Heap) (nb st:Nat) (e:aB) (env:List (List Int)) (funcs:Int) (hb:h nb=some (fR p sz st 0)) (hst:st<3000) (hn:3001<=n+1+st)
  (hok:e.ok p funcs env.length) (gZ:0<=funcs) (hf:funcs<=p.aJ.length) (henv:∀ s∈env,iA sz s) (hel:env.length<=412+st) (hk:e.bH=7) :
  gV Tryz.prog 262 [.op nb 4 0 0,.ip 5 [e.c] 0 0,pQ env] h (RnQ h nb p sz st 0 (pZ p sz (n+1) st e env)):=by
 have hb':=hb
 unfold fR at hb'
 have e3:((st:Int)=3000)=False:=eq_false aA
 have ew:IntKind.i64.wrap ((st:Int)+1)=((st+1:Nat):Int):=by rw[IntWalk.i64_in _ aA];rfl
 have hnode:=(aB.fK _ _ _ _).1 hok
 have h3:¬st=3000:=by omega
 have hlen:=gT hok aA
 rw[hk,show jO 7=1 from rfl]at hlen
 have g0:e.aP[Int.toNat 0]?=some (e.tL 0):=aB.kW aA
 have o0:=aB.jY hok (i:=0) aA
 rw[mV aA]at o0
 rw[aB.aO]
 refine mK 186 tU cD aF6 Tryz.func262 ?_
 simp -dsimp -implicitDefEqProofs only[go_sem,↓reduceIte,Tryz.f262,hb',e3,ew,hk,g0]
 refine⟨by omega,?_⟩
 refine aH.jP (hv.at g0 (bL h nb (fR p sz (st+1) 0)) nb (st+1) 0 env funcs (bB _ _ _) aA aA o0 gZ hf henv aA) ?_
 rintro r h' ⟨s1,t1,c1,rfl,rfl,uB,a1,a2,a3⟩
 simp -dsimp -implicitDefEqProofs only[go_sem,↓reduceIte,Tryz.f262]
 first|refine aH.mk (zL s1 1000002 wN pU uB.2) ?_|refine aG.mk (zL s1 1000002 wN pU uB.2) ?_|refine aH.cN (zL s1 1000002 wN pU uB.2) ?_|refine aG.mk (cG.fO (zL s1 1000002 wN pU uB.2)) ?_
 simp -dsimp -implicitDefEqProofs only[go_sem,↓reduceIte,Tryz.f262]
 refine⟨_,bL h nb (fR p sz t1 c1),eZ aSG,_,t1,c1,rfl,rfl,aA0 _ uB,by omega,a2,?_⟩
 rw[bW1 h3 hk aA]
 exact a3.iI (k7 _ _ _)
theorem bW3 {p:aL} (hp:p.ok) {sz n:Nat} (hsz:1<=sz/\sz<=1048576) (hv:zM p sz n) (h:Heap) (nb st:Nat) (e:aB) (env:List (List Int)) (funcs:Int) (hb:h nb=some (fR p sz st 0)) (hst:st<3000) (hn:3001<=n+1+st)
  (hok:e.ok p funcs env.length) (gZ:0<=funcs) (hf:funcs<=p.aJ.length) (henv:∀ s∈env,iA sz s) (hel:env.length<=412+st) (hk:e.bH=3) :
  gV Tryz.prog 262 [.op nb 4 0 0,.ip 5 [e.c] 0 0,pQ env] h (RnQ h nb p sz st 0 (pZ p sz (n+1) st e env)):=by
 have hb':=hb
 unfold fR at hb'
 have e3:((st:Int)=3000)=False:=eq_false aA
 have ew:IntKind.i64.wrap ((st:Int)+1)=((st+1:Nat):Int):=by rw[IntWalk.i64_in _ aA];rfl
 have hnode:=(aB.fK _ _ _ _).1 hok
 have h3:¬st=3000:=by omega
 have hlen:=gT hok aA
 rw[hk,show jO 3=2 from rfl]at hlen
 have g0:e.aP[Int.toNat 0]?=some (e.tL 0):=aB.kW aA
 have g1:e.aP[Int.toNat 1]?=some (e.tL 1):=aB.kW aA
 have o0:=aB.jY hok (i:=0) aA
 have o1:=aB.jY hok (i:=1) aA
 rw[mV aA]at o0 o1
 rw[aB.aO]
 refine mK 186 tU cD aF6 Tryz.func262 ?_
 simp -dsimp -implicitDefEqProofs only[go_sem,↓reduceIte,Tryz.f262,hb',e3,ew,hk,g0]
 refine⟨by omega,?_⟩
 refine aH.jP (hv.at g0 (bL h nb (fR p sz (st+1) 0)) nb (st+1) 0 env funcs (bB _ _ _) aA aA o0 gZ hf henv aA) ?_
 rintro r h' ⟨s1,t1,c1,rfl,rfl,uB,a1,a2,a3⟩
 simp -dsimp -implicitDefEqProofs only[go_sem,↓reduceIte,Tryz.f262,g1]
 refine⟨by omega,?_⟩
 rw[aF]
 refine aH.jP (hv.at g1 (bL h nb (fR p sz t1 c1)) nb t1 c1 env funcs (bB _ _ _) aA aA o1 gZ hf henv aA) ?_
 rintro r h' ⟨s2,t2,c2,rfl,rfl,nA,b1,b2,b3⟩
 rw[aF]
 simp -dsimp -implicitDefEqProofs only[go_sem,↓reduceIte,Tryz.f262,hk]
 first|refine aH.mk (aH1 s1 s2 yD pU uB.2 nA.2) ?_|refine aG.mk (aH1 s1 s2 yD pU uB.2 nA.2) ?_|refine aH.cN (aH1 s1 s2 yD pU uB.2 nA.2) ?_|refine aG.mk (cG.fO (aH1 s1 s2 yD pU uB.2 nA.2)) ?_
 simp -dsimp -implicitDefEqProofs only[go_sem,↓reduceIte,Tryz.f262]
 refine⟨_,bL h nb (fR p sz t2 c2),eZ (Heap.le_refl _),_,t2,c2,rfl,rfl,aX4 uB nA,by omega,b2,?_⟩
 rw[aIO h3 aA aA,hk]
 exact a3.iI (b3.iI (k7 _ _ _))
theorem bW4 {p:aL} (hp:p.ok) {sz n:Nat} (hsz:1<=sz/\sz<=1048576) (hv:zM p sz n) (h:Heap) (nb st:Nat) (e:aB) (env:List (List Int)) (funcs:Int) (hb:h nb=some (fR p sz st 0)) (hst:st<3000) (hn:3001<=n+1+st)
  (hok:e.ok p funcs env.length) (gZ:0<=funcs) (hf:funcs<=p.aJ.length) (henv:∀ s∈env,iA sz s) (hel:env.length<=412+st) (hk:e.bH=4) :
  gV Tryz.prog 262 [.op nb 4 0 0,.ip 5 [e.c] 0 0,pQ env] h (RnQ h nb p sz st 0 (pZ p sz (n+1) st e env)):=by
 have hb':=hb
 unfold fR at hb'
 have e3:((st:Int)=3000)=False:=eq_false aA
 have ew:IntKind.i64.wrap ((st:Int)+1)=((st+1:Nat):Int):=by rw[IntWalk.i64_in _ aA];rfl
 have hnode:=(aB.fK _ _ _ _).1 hok
 have h3:¬st=3000:=by omega
 have hlen:=gT hok aA
 rw[hk,show jO 4=2 from rfl]at hlen
 have g0:e.aP[Int.toNat 0]?=some (e.tL 0):=aB.kW aA
 have g1:e.aP[Int.toNat 1]?=some (e.tL 1):=aB.kW aA
 have o0:=aB.jY hok (i:=0) aA
 have o1:=aB.jY hok (i:=1) aA
 rw[mV aA]at o0 o1
 rw[aB.aO]
 refine mK 186 tU cD aF6 Tryz.func262 ?_
 simp -dsimp -implicitDefEqProofs only[go_sem,↓reduceIte,Tryz.f262,hb',e3,ew,hk,g0]
 refine⟨by omega,?_⟩
 refine aH.jP (hv.at g0 (bL h nb (fR p sz (st+1) 0)) nb (st+1) 0 env funcs (bB _ _ _) aA aA o0 gZ hf henv aA) ?_
 rintro r h' ⟨s1,t1,c1,rfl,rfl,uB,a1,a2,a3⟩
 simp -dsimp -implicitDefEqProofs only[go_sem,↓reduceIte,Tryz.f262,g1]
 refine⟨by omega,?_⟩
 rw[aF]
 refine aH.jP (hv.at g1 (bL h nb (fR p sz t1 c1)) nb t1 c1 env funcs (bB _ _ _) aA aA o1 gZ hf henv aA) ?_
 rintro r h' ⟨s2,t2,c2,rfl,rfl,nA,b1,b2,b3⟩
 rw[aF]
 simp -dsimp -implicitDefEqProofs only[go_sem,↓reduceIte,Tryz.f262,hk]
 first|refine aH.mk (a0L s1 s2 yD pU uB.2 nA.2) ?_|refine aG.mk (a0L s1 s2 yD pU uB.2 nA.2) ?_|refine aH.cN (a0L s1 s2 yD pU uB.2 nA.2) ?_|refine aG.mk (cG.fO (a0L s1 s2 yD pU uB.2 nA.2)) ?_
 simp -dsimp -implicitDefEqProofs only[go_sem,↓reduceIte,Tryz.f262]
 refine⟨_,bL h nb (fR p sz t2 c2),eZ (Heap.le_refl _),_,t2,c2,rfl,rfl,bF6 uB nA,by omega,b2,?_⟩
 rw[aIO h3 aA aA,hk]
 exact a3.iI (b3.iI (k7 _ _ _))
theorem bW5 {p:aL} (hp:p.ok) {sz n:Nat} (hsz:1<=sz/\sz<=1048576) (hv:zM p sz n) (h:Heap) (nb st:Nat) (e:aB) (env:List (List Int)) (funcs:Int) (hb:h nb=some (fR p sz st 0)) (hst:st<3000) (hn:3001<=n+1+st)
  (hok:e.ok p funcs env.length) (gZ:0<=funcs) (hf:funcs<=p.aJ.length) (henv:∀ s∈env,iA sz s) (hel:env.length<=412+st) (hk:e.bH=5) :
  gV Tryz.prog 262 [.op nb 4 0 0,.ip 5 [e.c] 0 0,pQ env] h (RnQ h nb p sz st 0 (pZ p sz (n+1) st e env)):=by
 have hb':=hb
 unfold fR at hb'
 have e3:((st:Int)=3000)=False:=eq_false aA
 have ew:IntKind.i64.wrap ((st:Int)+1)=((st+1:Nat):Int):=by rw[IntWalk.i64_in _ aA];rfl
 have hnode:=(aB.fK _ _ _ _).1 hok
 have h3:¬st=3000:=by omega
 have hlen:=gT hok aA
 rw[hk,show jO 5=2 from rfl]at hlen
 have g0:e.aP[Int.toNat 0]?=some (e.tL 0):=aB.kW aA
 have g1:e.aP[Int.toNat 1]?=some (e.tL 1):=aB.kW aA
 have o0:=aB.jY hok (i:=0) aA
 have o1:=aB.jY hok (i:=1) aA
 rw[mV aA]at o0 o1
 rw[aB.aO]
 refine mK 186 tU cD aF6 Tryz.func262 ?_
 simp -dsimp -implicitDefEqProofs only[go_sem,↓reduceIte,Tryz.f262,hb',e3,ew,hk,g0]
 refine⟨by omega,?_⟩
 refine aH.jP (hv.at g0 (bL h nb (fR p sz (st+1) 0)) nb (st+1) 0 env funcs (bB _ _ _) aA aA o0 gZ hf henv aA) ?_
 rintro r h' ⟨s1,t1,c1,rfl,rfl,uB,a1,a2,a3⟩
 simp -dsimp -implicitDefEqProofs only[go_sem,↓reduceIte,Tryz.f262,g1]
 refine⟨by omega,?_⟩
 rw[aF]
 refine aH.jP (hv.at g1 (bL h nb (fR p sz t1 c1)) nb t1 c1 env funcs (bB _ _ _) aA aA o1 gZ hf henv aA) ?_
 rintro r h' ⟨s2,t2,c2,rfl,rfl,nA,b1,b2,b3⟩
 rw[aF]
 simp -dsimp -implicitDefEqProofs only[go_sem,↓reduceIte,Tryz.f262,hk]
 first|refine aH.mk (a0M s1 s2 yD pU uB.2 nA.2) ?_|refine aG.mk (a0M s1 s2 yD pU uB.2 nA.2) ?_|refine aH.cN (a0M s1 s2 yD pU uB.2 nA.2) ?_|refine aG.mk (cG.fO (a0M s1 s2 yD pU uB.2 nA.2)) ?_
 simp -dsimp -implicitDefEqProofs only[go_sem,↓reduceIte,Tryz.f262]
 refine⟨_,bL h nb (fR p sz t2 c2),eZ (Heap.le_refl _),_,t2,c2,rfl,rfl,bF7 _ uB,by omega,b2,?_⟩
 rw[aIO h3 aA aA,hk]
 exact a3.iI (b3.iI (k7 _ _ _))
theorem bW6 {p:aL} (hp:p.ok) {sz n:Nat} (hsz:1<=sz/\sz<=1048576) (hv:zM p sz n) (h:Heap) (nb st:Nat) (e:aB) (env:List (List Int)) (funcs:Int) (hb:h nb=some (fR p sz st 0)) (hst:st<3000) (hn:3001<=n+1+st)
  (hok:e.ok p funcs env.length) (gZ:0<=funcs) (hf:funcs<=p.aJ.length) (henv:∀ s∈env,iA sz s) (hel:env.length<=412+st) (hk:e.bH=6) :
  gV Tryz.prog 262 [.op nb 4 0 0,.ip 5 [e.c] 0 0,pQ env] h (RnQ h nb p sz st 0 (pZ p sz (n+1) st e env)):=by
 have hb':=hb
 unfold fR at hb'
 have e3:((st:Int)=3000)=False:=eq_false aA
 have ew:IntKind.i64.wrap ((st:Int)+1)=((st+1:Nat):Int):=by rw[IntWalk.i64_in _ aA];rfl
 have hnode:=(aB.fK _ _ _ _).1 hok
 have h3:¬st=3000:=by omega
 have hlen:=gT hok aA
 rw[hk,show jO 6=2 from rfl]at hlen
 have g0:e.aP[Int.toNat 0]?=some (e.tL 0):=aB.kW aA
 have g1:e.aP[Int.toNat 1]?=some (e.tL 1):=aB.kW aA
 have o0:=aB.jY hok (i:=0) aA
 have o1:=aB.jY hok (i:=1) aA
 rw[mV aA]at o0 o1
 rw[aB.aO]
 refine mK 186 tU cD aF6 Tryz.func262 ?_
 simp -dsimp -implicitDefEqProofs only[go_sem,↓reduceIte,Tryz.f262,hb',e3,ew,hk,g0]
 refine⟨by omega,?_⟩
 refine aH.jP (hv.at g0 (bL h nb (fR p sz (st+1) 0)) nb (st+1) 0 env funcs (bB _ _ _) aA aA o0 gZ hf henv aA) ?_
 rintro r h' ⟨s1,t1,c1,rfl,rfl,uB,a1,a2,a3⟩
 simp -dsimp -implicitDefEqProofs only[go_sem,↓reduceIte,Tryz.f262,g1]
 refine⟨by omega,?_⟩
 rw[aF]
 refine aH.jP (hv.at g1 (bL h nb (fR p sz t1 c1)) nb t1 c1 env funcs (bB _ _ _) aA aA o1 gZ hf henv aA) ?_
 rintro r h' ⟨s2,t2,c2,rfl,rfl,nA,b1,b2,b3⟩
 rw[aF]
 have gs:s2[Int.toNat 0]?=some (s2.getD 0 0):=gA (by rw[nA.1];omega)
 simp -dsimp -implicitDefEqProofs only[go_sem,↓reduceIte,Tryz.f262,hk,fR,gs]
 refine⟨λhc=>?_,λhc=>?_⟩
 ·subst hc
  refine⟨by rw[nA.1];omega,λhz=>?_,λhz=>?_⟩
  ·refine aH.jP (bDX (bL h nb (fR p sz t2 0)) nb p sz t2 0 6 (bB _ _ _) hsz.2) ?_
   rintro r h' ⟨rfl,rfl⟩
   simp -dsimp -implicitDefEqProofs only[go_sem,↓reduceIte,Tryz.f262]
   refine⟨_,bL h nb (fR p sz t2 6),eZ aSG,_,t2,6,rfl,rfl,zJ aMV,by omega,b2,?_⟩
   rw[aIO h3 aA aA,hk]
   refine a3.iI (b3.iI ?_)
   have:opE 6 [s1,s2] t2=.error 6:=by rw[opE,if_neg dQ,if_neg dQ,if_neg dQ,if_neg dQ];exact if_pos hz
   rw[gS,this]
   exact tH _ _ dQ
  ·refine aH.mk (bWV s1 s2 yD pU pU uB.2 nA.2) ?_
   simp -dsimp -implicitDefEqProofs only[go_sem,↓reduceIte,Tryz.f262]
   refine⟨_,bL h nb (fR p sz t2 0),eZ (Heap.le_refl _),_,t2,0,rfl,rfl,bF8 _ uB,by omega,b2,?_⟩
   rw[aIO h3 aA aA,hk]
   refine a3.iI (b3.iI ?_)
   have:opE 6 [s1,s2] t2=.ok (aD3 s1 s2,t2):=by rw[opE,if_neg dQ,if_neg dQ,if_neg dQ,if_neg dQ];exact if_neg hz
   rw[gS,this]
   exact aAR _ _
 ·refine aH.jP (bDX (bL h nb (fR p sz t2 c2)) nb p sz t2 c2 6 (bB _ _ _) hsz.2) ?_
  rintro r h' ⟨rfl,rfl⟩
  simp -dsimp -implicitDefEqProofs only[go_sem,↓reduceIte,Tryz.f262]
  refine⟨_,bL h nb (fR p sz t2 c2),eZ (by rw[aF,if_neg hc];exact Heap.le_refl _),_,t2,c2,rfl,rfl,zJ aMV,by omega,b2,?_⟩
  rw[aIO h3 aA aA,hk]
  exact a3.iI (b3.iI aLK)
theorem run {p:aL} (hp:p.ok) {sz:Nat} (hsz:1<=sz/\sz<=1048576):∀ n,zM p sz n
 |0=>λh nb st c e env funcs hb hst hn=>by omega
 |n+1=>λh nb st c e env funcs hb hst hn hok gZ hf henv hel=>by
  have hv:=run hp hsz n
  by_cases hs:¬c=0∨st=3000
  ·exact bF9 hsz h nb st c e env hb hst hs
  have hc:c=0:=bM7 λq=>hs (.inl q)
  have h3:st<3000:=by
   rcases cX st 3000 with h|h
   ·exact h
   ·exact absurd (.inr aA) hs
  subst hc
  rcases aD5 ((aB.fK _ _ _ _).1 hok).1 with hk|hk|hk|hk|hk|hk|hk|hk|hk|hk|hk
  ·exact bWX hp hsz hv h nb st e env funcs hb h3 hn hok gZ hf henv hel hk
  ·exact bWY hp hsz hv h nb st e env funcs hb h3 hn hok gZ hf henv hel hk
  ·exact bW3 hp hsz hv h nb st e env funcs hb h3 hn hok gZ hf henv hel hk
  ·exact bW4 hp hsz hv h nb st e env funcs hb h3 hn hok gZ hf henv hel hk
  ·exact bW5 hp hsz hv h nb st e env funcs hb h3 hn hok gZ hf henv hel hk
  ·exact bW6 hp hsz hv h nb st e env funcs hb h3 hn hok gZ hf henv hel hk
  ·exact bW2 hp hsz hv h nb st e env funcs hb h3 hn hok gZ hf henv hel hk
  ·exact bWZ hp hsz hv h nb st e env funcs hb h3 hn hok gZ hf henv hel hk
  ·exact bW0 hp hsz hv h nb st e env funcs hb h3 hn hok gZ hf henv hel hk
  ·exact bPL hp hsz hv h nb st e env funcs hb h3 hn hok gZ hf henv hel hk
  ·exact bPM hp hsz hv h nb st e env funcs hb h3 hn hok gZ hf henv hel hk
theorem oT {h h':Heap} {n sz:Nat} {x r:aC} (es:List (List aC)) (h0:h n=none) (hl:(bL h n (.row sz (es.map (List.map .v)))).le h') (hb:lY n sz es.length x=true) (hr:x.iE n es=r):Shift x h' r h:=by
 subst hr
 refine(Shift.of (Sub.refl _) hl).trans ((Shift.iE (bB _ _ _) (by rw[lM];exact hb)).trans ?_)
 rw[vE]
 exact eZ ((aW h0).2 ((aW h0).2 (Heap.le_refl h)))
theorem aH.b3X {P:Program} {f:FuncId} {args args':List aC} {h:Heap} {K:aC->Heap->Prop} {t:Tag K} {r:aC} {n sz:Nat} {es:List (List aC)} (a:fQ P f args' r) (hb:lZ n sz es.length args=true) (he:oZ n es args=args') (k:K r (bL h n .gone)) :
  aH P f args (bL h n (.row sz (es.map (List.map .v)))) K t:=by
 refine aH.a4Y n (bB _ _ _) (by rw[lM];exact hb) ?_
 rw[aF,vE,he]
 exact fQ.call a k
theorem bDY {h g:Heap} {b:Nat} {A:List (List Cell)} {x y:aC} (hb:h b=some (.row 1 (A++[[.v x]]))) (s:Sub x y) (hg:g.le (bL h b (.row 1 (A++[[.v y]])))):g.wk h :=
 Heap.wk.trans (Heap.iU hg) (Heap.aJR (m:=b) (λq hq=>aE _ _ _ _ hq) hb (bB _ _ _) (iS.sub (.cons s .nil) A))
theorem n1:Int.toNat 1=1:=rfl
theorem n2:Int.toNat 2=2:=rfl
theorem bPN (n:Nat) (hn:n<=1048576) (h:Heap):gV Tryz.prog 261 [.aU,I n] h λr h'=>(n=0/\r=.aU/\h'=h)∨(0<n/\∃ m,h m=none/\r=.os m 1 0 0/\h'=bL h m (.row 1 [])):=by
 refine⟨by kernel_rfl,λE w vs R hL=>?_⟩
 have hvs:vs=[.slice none 0 0,.int .i64 n]:=by
  match vs,hL with
  | [a,b],hL=>rw[show a=.slice none 0 0 by cases hL.1;rfl,kV hL.2.1]
 subst hvs
 rcases bHE n with rfl|h0
 ·refine(a0Q w).mono ?_
  rintro e w' ⟨rfl,rfl⟩
  exact⟨.aU,h,E,.inl ⟨rfl,rfl,rfl⟩,.refl _ _ _,R,.aU⟩
 ·obtain⟨i,u,hi,hu,hsz,hby,hd,hag,hz⟩:=wP ty2
  cases hiz:i.zero with
  |none=>rw[hiz]at hz;simp at hz
  |some z =>
  have hb8:i.bytes=8:=hby.symm
  have uB:i.size=1:=hsz.symm
  have hrz:=λty=>Lib.run_append_nil_zeros (P:=Tryz.prog) w 25 3 ty 2 i z .i64 .i64 aFE aFE hi hiz n h0 aA aA (by rw[hb8];omega)
  have hge:=grownCap_ge w n 0 2
  have hmx:=grownCap_le_maxLen w n 0 2 (by unfold maxLen;omega)
  have hzs:z.cells.size=1:=by
   rw[hiz]at hz
   have:=congrArg List.length hz
   simp at this
   exact this.symm
  have hcz:(Builtin.zeroCells z.cells n++Builtin.zeroCells z.cells (grownCap w n 0 2-n)).size=grownCap w n 0 2:=by
   rw[bM2,aBD,aBD,hzs];omega
  refine(a0P n _ w _ h0 hn hge hmx hrz).mono ?_
  rintro e w' ⟨rfl,rfl⟩
  generalize Builtin.zeroCells z.cells n++Builtin.zeroCells z.cells (grownCap w n 0 2-n)=cs at hcz ⊢
  obtain⟨m,hm⟩:=R.fresh
  have hal:=R.aW7 hm 1 [] bF cs 2 w.drew.drawn (λ_ _=>undef) bF (by simp[kS])
  have hev:=Ev.alloc R hm (.cells cs 2 (0,0)) (.row 1 []) w.drew.drawn
  refine⟨.os m 1 0 0,bL h m (.row 1 []),E.add m w.heap.size,.inr ⟨h0,m,R.none hm,rfl,rfl⟩,hev,hal,?_⟩
  refine gG.os m 1 0 0 w.heap.size 0 (grownCap w n 0 2) 2 cs.size aSL aSL (iF _) hmx ?_ (by rw[hcz];omega)
  exact oK (f:=(0,0)) (aAK w (.cells cs 2 (0,0)) w.drew.drawn)
def aH2 (a b:List Int):Nat->List Int
 |0=>[]
 |1=>a
 | _=>a++b
@[go_sem] def aRF:List Nat:=[0,2,3,5,6,8,9,10,11,12,20,25,26,27,28]
theorem bPO (a b:List Int) (ha:a.length<=1000) (hb:b.length<=1000):fQ Tryz.prog 243 [.sl 1 [[ints a],[ints b]] true] (ints (a++b)):=by
 refine aB4 36 aRF cD bS Tryz.func243 λh=>?_
 simp -dsimp -implicitDefEqProofs only[go_sem,↓reduceIte,Tryz.f243]
 refine aHM aRF cD bS (λk:Nat=>[(0,.sl 1 [[ints a],[ints b]] true),(3,I (aH2 a b k).length),(9,.sl 1 [[ints a],[ints b]] true),(10,I 2),(11,I k)]) (λk=>k<=2) (λk=>2-k) 0 ⟨by simp[eE,dJ,aH2],by omega⟩ ?_
 intro k hk
 have hk3:k=0∨k=1∨k=2:=by omega
 rcases hk3 with rfl|rfl|rfl
 ·simp -dsimp -implicitDefEqProofs only[go_sem,↓reduceIte,Tryz.f243]
  have e0:(aH2 a b 0).length=0:=rfl
  have e1:aH2 a b 1=a:=rfl
  refine⟨λ_=>⟨by decide,λ_=>?_⟩,λq=>absurd dQ q⟩
  rw[IntWalk.i64_in _ aA]
  exact⟨λq=>absurd q aA,λ_=>⟨1,⟨by rw[e1];omega,by decide⟩,by omega,by omega⟩⟩
 ·simp -dsimp -implicitDefEqProofs only[go_sem,↓reduceIte,Tryz.f243]
  have e1:aH2 a b 1=a:=rfl
  have e2:(aH2 a b 2).length=a.length+b.length:=by simp[aH2]
  refine⟨λ_=>⟨by decide,λ_=>?_⟩,λq=>absurd dQ q⟩
  rw[e1,IntWalk.i64_in _ aA]
  exact⟨λq=>absurd q aA,λ_=>⟨2,⟨by rw[e2];omega,by decide⟩,by omega,by omega⟩⟩
 ·simp -dsimp -implicitDefEqProofs only[go_sem,↓reduceIte,Tryz.f243]
  have e2:(aH2 a b 2).length=a.length+b.length:=by simp[aH2]
  refine⟨λq=>absurd q dQ,λ_=>?_⟩
  refine aH.jP (bPN _ aA h) ?_
  rintro r h' (⟨hz,rfl,rfl⟩|⟨hp,m,hm,rfl,rfl⟩)
  ·have ha0:a=[]:=a2A.1 aA
   have hb0:b=[]:=a2A.1 aA
   subst ha0
   subst hb0
   simp -dsimp -implicitDefEqProofs only[go_sem,↓reduceIte,Tryz.f243]
   refine aHM aRF cD bS (λk:Nat=>[(6,.aU),(25,.sl 1 [[ints []],[ints []]] true),(26,I 2),(27,I k)]) (λk=>k<=2) (λk=>2-k) 0 ⟨by simp[eE,dJ],by omega⟩ ?_
   intro k hk
   have hk3:k=0∨k=1∨k=2:=by omega
   rcases hk3 with rfl|rfl|rfl
   ·simp -dsimp -implicitDefEqProofs only[go_sem,↓reduceIte,Tryz.f243]
    exact⟨λ_=>⟨by decide,cI,1,by decide,by omega,by omega⟩,λq=>absurd dQ q⟩
   ·simp -dsimp -implicitDefEqProofs only[go_sem,↓reduceIte,Tryz.f243]
    exact⟨λ_=>⟨by decide,cI,2,by decide,by omega,by omega⟩,λq=>absurd dQ q⟩
   ·simp -dsimp -implicitDefEqProofs only[go_sem,↓reduceIte,Tryz.f243]
    exact⟨λq=>absurd q dQ,λ_=>Shift.of (Sub.nil 1 false) (Heap.le_refl _)⟩
  ·simp -dsimp -implicitDefEqProofs only[go_sem,↓reduceIte,Tryz.f243]
   refine cY aRF cD bS (λx:Nat×Nat=>[(6,.os x.2 1 0 (aH2 a b x.1).length),(25,.sl 1 [[ints a],[ints b]] true),(26,I 2),(27,I x.1)]) (λx=>bL h x.2 (.row 1 (((aH2 a b x.1).map λn=>[I n]).map (List.map .v)))) (λx=>x.1<=2/\h x.2=none) (λx=>2-x.1) (0,m) ⟨by simp[eE,dJ,aH2],Heap.le_refl _,by simp only;omega,hm⟩ ?_
   rintro⟨k,m⟩ ⟨hk,hm⟩
   simp only at hk hm ⊢
   have hk3:k=0∨k=1∨k=2:=by omega
   rcases hk3 with rfl|rfl|rfl
   ·simp -dsimp -implicitDefEqProofs only[go_sem,↓reduceIte,Tryz.f243]
    have e0:aH2 a b 0=[]:=rfl
    have e1:aH2 a b 1=a:=rfl
    rw[e0,al7,al1]
    refine⟨λ_=>⟨by decide,cI,eV _,by omega,by omega,λc hc=>⟨(1,c),⟨by rw[e1],by simp only;decide⟩,?_,⟨by simp only;omega,hc.2⟩,by simp only;omega⟩⟩,λq=>absurd dQ q⟩
    simp only[e1]
    exact pC hm
   ·simp -dsimp -implicitDefEqProofs only[go_sem,↓reduceIte,Tryz.f243]
    have e1:aH2 a b 1=a:=rfl
    have e2:aH2 a b 2=a++b:=rfl
    rw[e1]
    refine⟨λ_=>⟨by decide,cI,eV _,by omega,by omega,λc hc=>⟨(2,c),⟨by rw[e2,tN],by simp only;decide⟩,?_,⟨by simp only;omega,hc.2⟩,by simp only;omega⟩⟩,λq=>absurd dQ q⟩
    simp only[e2]
    rw[gX bF,xX,xX]
    exact pC hm
   ·simp -dsimp -implicitDefEqProofs only[go_sem,↓reduceIte,Tryz.f243]
    have e2:aH2 a b 2=a++b:=rfl
    rw[e2]
    exact⟨λq=>absurd q dQ,λ_=>mW _ hm (Heap.le_refl _) rfl⟩
theorem aIP {j:dF} (h:j.ok):∃ F,j.bR.aJ[j.bO.toNat]?=some F/\(0<=j.bO/\j.bO<j.bR.aJ.length)/\(0<=F.bN/\F.bN<=12)/\j.okF F:=by
 have hk:j.bO.toNat<j.bR.aJ.length:=by have:=h.2.1;omega
 have e:=cJ hk
 exact⟨_,e,by have:=h.2.1;omega,(h.1.2 _ _ e).2.1,h.2.2 _ e⟩
def eD (j:dF) (k:Nat):List Int:=j.c7++j.aV.getD k []
theorem aKZ {j:dF} (h:j.ok) {k:Nat} (hk:k<j.aV.length):(j.aV[k]?=some (j.aV.getD k []))/\rH (eD j k)/\(∀ F,j.bR.aJ[j.bO.toNat]?=some F->((eD j k).length:Int)=F.bN)/\(eD j k).length<=12/\j.c7.length<=12/\(j.aV.getD k []).length<=12/\0<=j.aQ/\j.aQ.toNat<=(eD j k).length:=by
 obtain⟨F,eF,hf,hF,ok⟩:=aIP h
 obtain⟨o1,o2,o3,o4⟩:=ok
 have hg:j.aV.getD k []=j.aV[k]:=by rw[jH,cJ hk];rfl
 have ht:=o4 _ (dX hk)
 have hlen:((eD j k).length:Int)=F.bN:=by
  rw[eD,hg,tN]
  have:=ht.1
  have:=o2.1
  omega
 refine⟨by rw[hg];exact cJ hk,λx hx=>?_,λG hG=>?_,by omega,by have:=o2.1;omega,by rw[hg];have:=ht.1;omega,o1.1,by omega⟩
 ·rw[eD,hg]at hx
  rcases rF.1 hx with hx|hx
  ·exact o2.2 x hx
  ·exact ht.2 x hx
 ·rw[eF]at hG
  cases hG
  exact hlen
@[go_sem] def b3Z:List Nat:=[2,12]
@[go_sem] def b30:Marks:=λid=>match id with|1=>([],(.op 0 (.op 1 (.op 2 (.op 3 (.op 4 (.op 5 (.op 6 (.op 7 (.op 8 (.op 9 .nil)))))))))),[])|_=>([],.nil,[])
theorem b31 {j:dF} (h:j.ok) {k:Nat} (hk:k<j.aV.length):fQ Tryz.prog 216 [.agg j.c,I k] (ints (eD j k)):=by
 obtain⟨t1,t2,t3,t4,t5,t6,t7,t8⟩:=aKZ h hk
 have hc:=bPO j.c7 (j.aV.getD k []) aA aA
 simp only[dF.aO]
 refine eG 14 a39 b3Z b30 Tryz.func216 λh=>?_
 simp -dsimp -implicitDefEqProofs only[go_sem,↓reduceIte,Tryz.f216,t1]
 refine⟨by omega,cI,rfl,?_⟩
 refine aG.mk hc ?_
 simp -dsimp -implicitDefEqProofs only[go_sem,↓reduceIte,Tryz.f216]
 rfl
structure cK where
 xK:Int
 fA:Int
 fB:Int
 bZ:Int
def cK.c (x:cK):List aC:=[I x.xK,I x.fA,I x.fB,I x.bZ]
theorem cK.aO (x:cK):x.c=[I x.xK,I x.fA,I x.fB,I x.bZ]:=rfl
structure fS where
 aQQ:Int
 bTN:Bool
def fS.c (x:fS):List aC:=[I x.aQQ,.bool x.bTN]
theorem fS.aO (x:fS):x.c=[I x.aQQ,.bool x.bTN]:=rfl
structure eP where
 code:List cK
 iM:List Int
 guards:List fS
def eP.val (S:eP) (k:Int):Int:=S.iM.getD k.toNat 0
def eP.put (S:eP) (c:cK) (v:Int):eP:=⟨S.code++[c],S.iM++[v],S.guards⟩
def eP.guard (S:eP) (g:fS):eP:=⟨S.code,S.iM,S.guards++[g]⟩
def pI (ev:Nat->aB->eP->Out (Int×eP)):List aB->Nat->eP->Out (List Int×eP)
 | [],t,S=>.ok (([],S),t)
 |e::l,t,S=>(ev t e S).andThen λr t=>(pI ev l t r.2).andThen λq t=>.ok ((r.1::q.1,q.2),t)
def xB (f:List Int->Nat->eP->Out (List Int×eP)):Nat->List Int->Nat->eP->Out (List Int×eP)
 |0,vs,t,S=>.ok ((vs,S),t)
 |n+1,vs,t,S=>(f vs t S).andThen λr t=>xB f n r.1 t r.2
def opV (k a b:Int):Option Int :=
 if k=3 then some ((a+b)%1000003)else if k=4 then some ((a-b)%1000003)else if k=5 then some (a*b%1000003)else if k=7 then some ((0-a)%1000003)
 else if b=0 then none else some (a*xN b%1000003)
def opB (k:Int) (vs:List Int):Int:=if k=7 then 0 else vs.getD 1 0
def opR (k:Int) (vs:List Int) (S:eP) (t:Nat):Out (Int×eP):=match opV k (S.val (vs.getD 0 0)) (S.val (opB k vs))with
 |none=>.error 6
 |some v=>.ok (((S.iM.length:Int),S.put ⟨k,vs.getD 0 0,opB k vs,0⟩ v),t)
def fT (p:aL):Nat->Nat->aB->List Int->eP->Out (Int×eP)
 |0,_,_,_,_=>.error 7
 |n+1,t,e,env,S =>
  if t=3000 then .error 7
  else if e.bH=1 then .ok (((S.iM.length:Int),S.put ⟨2,0,0,e.bZ⟩ e.bZ),t+1)
  else if e.bH=2 then .ok ((env.getD e.bZ.toNat 0,S),t+1)
  else if e.bH=8 then(fT p n (t+1) (e.tL 0) env S).andThen λr t =>
   if r.2.val r.1=0 then fT p n t (e.tL 1) env (r.2.guard ⟨r.1,true⟩)else fT p n t (e.tL 2) env (r.2.guard ⟨r.1,false⟩)
  else if e.bH=9 then(fT p n (t+1) (e.tL 0) env S).andThen λr t=>fT p n t (e.tL 1) (env++[r.1]) r.2
  else(pI (λt e S=>fT p n t e env S) e.aP (t+1) S).andThen λr t =>
   if e.bH=10 then fT p n t (p.out e.bZ e.dR) r.1 r.2
   else if e.bH=11 then(xB (λvs t S=>pI (λt e S=>fT p n t e vs S) (p.outs e.bZ) t S) e.dB.toNat r.1 t r.2).andThen λr t=>.ok ((r.1.getD e.dR.toNat 0,r.2),t)
   else opR e.bH r.1 r.2 t
theorem aOH (ev:Nat->aB->eP->Out (Int×eP)) (e:aB):∀ (l:List aB) (t:Nat) (S:eP),pI ev (l++[e]) t S=(pI ev l t S).andThen λq t=>(ev t e q.2).andThen λr t=>.ok ((q.1++[r.1],r.2),t)
 | [],t,S=>rfl
 |x::l,t,S=>by
  simp only[tE,pI,aOH ev e l,Out.oQ,Out.andThen_ok]
theorem aFP (f:List Int->Nat->eP->Out (List Int×eP)):∀ (n:Nat) (vs:List Int) (t:Nat) (S:eP),xB f (n+1) vs t S=(xB f n vs t S).andThen λr t=>f r.1 t r.2
 |0,vs,t,S=>by
  show(f vs t S).andThen (λr t=>.ok ((r.1,r.2),t))=f vs t S
  cases f vs t S with
  |ok p=>rfl
  |error c=>rfl
 |n+1,vs,t,S=>by
  rw[xB,show xB f (n+1) vs t S=(f vs t S).andThen λr t=>xB f n r.1 t r.2 from rfl,Out.oQ]
  congr 1
  funext r t
  exact aFP f n r.1 t r.2
theorem aX7 (f:List Int->Nat->eP->Out (List Int×eP)) {vs:List Int} {t:Nat} {S:eP} {c:Int}:∀ (k:Nat) {n:Nat},k<=n->xB f k vs t S=.error c->xB f n vs t S=.error c:=by
 intro k n hkn h
 induction n with
 |zero => obtain rfl : k = 0 := by omega
          exact h
 |succ n ih =>
  rcases cX k (n+1)with h1|h1
  ·rw[aFP,ih aA];rfl
  ·obtain rfl:k=n+1:=by omega
   exact h
def kU (inp:Int) (i:Nat) (c:cK):Prop :=
 (c.xK=1/\c.fA=0/\c.fB=0/\0<=c.bZ/\c.bZ<inp)∨(c.xK=2/\c.fA=0/\c.fB=0/\oI c.bZ)∨((c.xK=3∨c.xK=4∨c.xK=5∨c.xK=6)/\c.bZ=0/\0<=c.fA/\c.fA<i/\0<=c.fB/\c.fB<i)∨(c.xK=7/\c.bZ=0/\c.fB=0/\0<=c.fA/\c.fA<i)
structure Good (inp:Int) (S:eP) (t:Nat):Prop where
 len:S.code.length=S.iM.length
 bPP:rH S.iM
 ins:∀ i c,S.code[i]?=some c->kU inp i c
 gds:∀ g∈S.guards,0<=g.aQQ/\g.aQQ<S.iM.length
 cap:S.iM.length<=12+t
 vM:S.guards.length<=t
def eP.ext (S S':eP):Prop:=S.code <+: S'.code/\S.iM <+: S'.iM/\S.guards <+: S'.guards
theorem eP.aH3 (S:eP):S.ext S:=⟨aWU _,aWU _,aWU _⟩
theorem eP.ext.trans {a b c:eP} (h:a.ext b) (k:b.ext c):a.ext c:=⟨h.1.trans k.1,h.2.1.trans k.2.1,h.2.2.trans k.2.2⟩
theorem eP.bDZ (S:eP) (c:cK) (v:Int):S.ext (S.put c v):=⟨bHO _ _,bHO _ _,aWU _⟩
theorem eP.qL (S:eP) (g:fS):S.ext (S.guard g):=⟨aWU _,aWU _,bHO _ _⟩
theorem eP.ext.val {S S':eP} (h:S.ext S') {k:Int} (h0:0<=k) (hk:k<S.iM.length):S'.val k=S.val k:=by
 obtain⟨x,hx⟩:=h.2.1
 rw[eP.val,eP.val,←hx,jH,jH,aJG aA]
theorem eP.ext.len {S S':eP} (h:S.ext S'):S.iM.length<=S'.iM.length:=h.2.1.length_le
def rZ (S:eP) (k:Int):Prop:=0<=k/\k<S.iM.length
theorem rZ.ext {S S':eP} {k:Int} (h:rZ S k) (e:S.ext S'):rZ S' k:=⟨h.1,by have:=h.2;have:=e.len;omega⟩
theorem Good.later {inp:Int} {S:eP} {t u:Nat} (h:Good inp S t) (hu:t<=u):Good inp S u:=⟨h.len,h.bPP,h.ins,h.gds,by have:=h.cap;omega,by have:=h.vM;omega⟩
theorem Good.put {inp:Int} {S:eP} {t:Nat} {c:cK} {v:Int} (h:Good inp S t) (hc:kU inp S.iM.length c) (hv:oI v) (hcap:S.iM.length<12+t):Good inp (S.put c v) t:=by
 refine⟨by simp[eP.put,h.len],λx hx=>?_,λi d hd=>?_,λg hg=>?_,by simp[eP.put];omega,h.vM⟩
 ·rcases rF.1 hx with hx|hx
  ·exact h.bPP x hx
  ·rw[vP.1 hx];exact hv
 ·rcases cX i S.code.length with hi|hi
  ·rw[eP.put,aJG hi]at hd;exact h.ins i d hd
  ·rw[eP.put,aGJ hi]at hd
   have hd2:=oG.1 hd
   obtain⟨h1,h2⟩:=hd2
   have h3:i=S.iM.length:=by simp at h1;have:=h.len;omega
   simp at h2
   subst h2;rw[h3];exact hc
 ·have:=h.gds g hg
  simp only[eP.put,tN,aB9];omega
theorem Good.guard {inp:Int} {S:eP} {t:Nat} {k:Int} {b:Bool} (h:Good inp S t) (hk:rZ S k) (hcap:S.guards.length<t):Good inp (S.guard ⟨k,b⟩) t:=by
 refine⟨h.len,h.bPP,h.ins,λg hg=>?_,h.cap,by simp[eP.guard];omega⟩
 rcases rF.1 hg with hg|hg
 ·exact h.gds g hg
 ·rw[vP.1 hg];exact hk
theorem bPQ {k a b v:Int} (h:opV k a b=some v):oI v:=by
 unfold opV at h
 repeat'(split at h)
 all_goals first|(cases h;done)|(cases h;exact xA _)
def okQ {α:Type} (P:α->Nat->Prop) (X:Out α):Prop:=∀ v u,X=.ok (v,u)->P v u
theorem okQ.then {α β:Type} {P:α->Nat->Prop} {Q:β->Nat->Prop} {X:Out α} {F:α->Nat->Out β} (h:okQ P X) (hf:∀ v t,P v t->okQ Q (F v t)):okQ Q (X.andThen F):=λw u hw=>by
 cases X with
 |ok p=>obtain⟨v,t⟩:=p;exact hf v t (h v t rfl) w u hw
 |error c=>cases hw
theorem okQ.pure {α:Type} {P:α->Nat->Prop} {v:α} {t:Nat} (h:P v t):okQ P (.ok (v,t)):=λw u e=>by cases e;exact h
theorem okQ.err {α:Type} {P:α->Nat->Prop} {c:Int}:okQ P (.error c:Out α):=λw u e=>by cases e
theorem okQ.mono {α:Type} {P Q:α->Nat->Prop} {X:Out α} (h:okQ P X) (hq:∀ v u,P v u->Q v u):okQ Q X:=λv u e=>hq v u (h v u e)
def sP (S:eP) (t:Nat) (S':eP) (u:Nat):Prop:=S'.iM.length+t<=S.iM.length+u/\S'.guards.length+t<=S.guards.length+u/\t<=u/\u<=3000
theorem sP.refl {S:eP} {t:Nat} (h:t<=3000):sP S t S t:=⟨eV _,eV _,eV _,h⟩
theorem sP.trans {A B C:eP} {t u v:Nat} (h:sP A t B u) (k:sP B u C v):sP A t C v:=by
 unfold sP at *;omega
def a9Z (inp:Int) (S:eP) (t:Nat) (r:Int×eP) (u:Nat):Prop:=Good inp r.2 u/\S.ext r.2/\rZ r.2 r.1/\sP S t r.2 u
def aMW (inp:Int) (S:eP) (t n:Nat) (r:List Int×eP) (u:Nat):Prop:=Good inp r.2 u/\S.ext r.2/\(r.1.length=n/\∀ x∈r.1,rZ r.2 x)/\sP S t r.2 u
theorem tV {ev:Nat->aB->eP->Out (Int×eP)} {inp:Int}:∀ (l:List aB) (t:Nat) (S:eP),Good inp S t->t<=3000->(∀ e∈l,∀ u S',Good inp S' u->S.ext S'->sP S t S' u->okQ (a9Z inp S' u) (ev u e S'))->okQ (aMW inp S t l.length) (pI ev l t S)
 | [],t,S,hg,ht,_=>okQ.pure ⟨hg,S.aH3,⟨rfl,by simp⟩,.refl ht⟩
 |e::l,t,S,hg,ht,h=>(h e p6 t S hg S.aH3 (.refl ht)).then λr u hr=>by
  obtain⟨r1,r2,r3,r4⟩:=hr
  refine(tV l u r.2 r1 r4.2.2.2 λx hx u' S' a b c=>h x (tF _ hx) u' S' a (r2.trans b) (r4.trans c)).then λq u' hq=>?_
  obtain⟨q1,q2,⟨q3,q4⟩,q5⟩:=hq
  refine okQ.pure ⟨q1,r2.trans q2,⟨by rw[al6,q3];rfl,λx hx=>?_⟩,r4.trans q5⟩
  rcases s7.1 hx with rfl|hx
  ·exact r3.ext q2
  ·exact q4 x hx
theorem aH4 {f:List Int->Nat->eP->Out (List Int×eP)} {inp:Int} {m:Nat} (h:∀ vs t S,Good inp S t->(vs.length=m/\∀ x∈vs,rZ S x)->t<=3000->okQ (aMW inp S t m) (f vs t S)) :
  ∀ (n:Nat) (vs:List Int) (t:Nat) (S:eP),Good inp S t->(vs.length=m/\∀ x∈vs,rZ S x)->t<=3000->okQ (aMW inp S t m) (xB f n vs t S)
 |0,vs,t,S,hg,hv,ht=>okQ.pure ⟨hg,S.aH3,hv,.refl ht⟩
 |n+1,vs,t,S,hg,hv,ht=>(h vs t S hg hv ht).then λr u hr=>by
  obtain⟨r1,r2,r3,r4⟩:=hr
  refine(aH4 h n r.1 u r.2 r1 r3 r4.2.2.2).mono λq u' hq=>?_
  obtain⟨q1,q2,q3,q4⟩:=hq
  exact⟨q1,r2.trans q2,q3,r4.trans q4⟩
theorem bW7 {inp k:Int} {vs:List Int} {S:eP} {t:Nat} {m:Nat} (hk:k=3∨k=4∨k=5∨k=6∨k=7) (hm:vs.length=m/\∀ x∈vs,rZ S x) (hm1:1<=m) (hm2:¬k=7->2<=m) (hg:Good inp S (t+1)) (hcap:S.iM.length<12+(t+1)) (ht:t+1<=3000):okQ (λr u=>Good inp r.2 u/\S.ext r.2/\rZ r.2 r.1/\u=t+1/\r.2.iM.length=S.iM.length+1/\r.2.guards=S.guards) (opR k vs S (t+1)):=by
 have at_:∀ i,i<m->rZ S (vs.getD i 0):=λi hi=>by
  rw[jH,cJ aA]
  exact hm.2 _ (dX _)
 unfold opR
 split
 ·exact okQ.err
 ·rename_i v hv
  have h0:=at_ 0 aA
  refine okQ.pure ⟨hg.put ?_ (bPQ hv) hcap,S.bDZ _ _,⟨by simp,by simp[eP.put];omega⟩,rfl,by simp[eP.put],rfl⟩
  unfold rZ at h0
  by_cases h7:k=7
  ·subst h7
   exact .inr (.inr (.inr ⟨rfl,rfl,rfl,h0⟩))
  ·have h1:=at_ 1 (hm2 h7)
   unfold rZ at h1
   have hb:opB k vs=vs.getD 1 0:=if_neg h7
   exact .inr (.inr (.inl ⟨by simp only;omega,rfl,h0.1,h0.2,by simp only[hb];exact h1.1,by simp only[hb];exact h1.2⟩))
theorem a0R {p:aL} {n st:Nat} {e:aB} {env:List Int} {S:eP} (h3:¬st=3000) (hk:e.bH=1):fT p (n+1) st e env S=.ok (((S.iM.length:Int),S.put ⟨2,0,0,e.bZ⟩ e.bZ),st+1):=by rw[fT,if_neg h3,if_pos hk]
theorem a0S {p:aL} {n st:Nat} {e:aB} {env:List Int} {S:eP} (h3:¬st=3000) (hk:e.bH=2):fT p (n+1) st e env S=.ok ((env.getD e.bZ.toNat 0,S),st+1):=by rw[fT,if_neg h3,if_neg aA,if_pos hk]
theorem aH5 {p:aL} {n st:Nat} {e:aB} {env:List Int} {S:eP} (h3:¬st=3000) (hk:e.bH=8):fT p (n+1) st e env S=(fT p n (st+1) (e.tL 0) env S).andThen λr t =>
   if r.2.val r.1=0 then fT p n t (e.tL 1) env (r.2.guard ⟨r.1,true⟩)else fT p n t (e.tL 2) env (r.2.guard ⟨r.1,false⟩):=by rw[fT,if_neg h3,if_neg aA,if_neg aA,if_pos hk]
theorem a0T {p:aL} {n st:Nat} {e:aB} {env:List Int} {S:eP} (h3:¬st=3000) (hk:e.bH=9):fT p (n+1) st e env S=(fT p n (st+1) (e.tL 0) env S).andThen λr t=>fT p n t (e.tL 1) (env++[r.1]) r.2:=by rw[fT,if_neg h3,if_neg aA,if_neg aA,if_neg aA,if_pos hk]
theorem aIQ {p:aL} {n st:Nat} {e:aB} {env:List Int} {S:eP} (h3:¬st=3000) (hk:e.bH=10):fT p (n+1) st e env S=(pI (λt e S=>fT p n t e env S) e.aP (st+1) S).andThen λr t=>fT p n t (p.out e.bZ e.dR) r.1 r.2:=by
 rw[fT,if_neg h3,if_neg aA,if_neg aA,if_neg aA,if_neg aA];simp only[if_pos hk]
theorem aIR {p:aL} {n st:Nat} {e:aB} {env:List Int} {S:eP} (h3:¬st=3000) (hk:e.bH=11):fT p (n+1) st e env S=(pI (λt e S=>fT p n t e env S) e.aP (st+1) S).andThen λr t=>(xB (λvs t S=>pI (λt e S=>fT p n t e vs S) (p.outs e.bZ) t S) e.dB.toNat r.1 t r.2).andThen λr t=>.ok ((r.1.getD e.dR.toNat 0,r.2),t):=by
 have h:¬e.bH=10:=by omega
 rw[fT,if_neg h3,if_neg aA,if_neg aA,if_neg aA,if_neg aA];simp only[if_neg h,if_pos hk]
theorem oD {p:aL} {n st:Nat} {e:aB} {env:List Int} {S:eP} (h3:¬st=3000) (hk:e.bH=3∨e.bH=4∨e.bH=5∨e.bH=6∨e.bH=7):fT p (n+1) st e env S=(pI (λt e S=>fT p n t e env S) e.aP (st+1) S).andThen λr t=>opR e.bH r.1 r.2 t:=by
 have h:¬e.bH=10:=by omega
 have h2:¬e.bH=11:=by omega
 rw[fT,if_neg h3,if_neg aA,if_neg aA,if_neg aA,if_neg aA];simp only[if_neg h,if_neg h2]
theorem sP.step {S S':eP} {t u:Nat} (h:sP S (t+1) S' u):sP S t S' u:=by unfold sP at *;omega
theorem tW {p:aL} (hp:p.ok) {inp:Int}:∀ (n t:Nat) (e:aB) (env:List Int) (S:eP) (funcs:Int),e.ok p funcs env.length->funcs<=p.aJ.length->Good inp S t->t<=3000->(∀ x∈env,rZ S x)->okQ (a9Z inp S t) (fT p n t e env S)
 |0,t,e,env,S,funcs,_,_,_,_,_=>okQ.err
 |n+1,t,e,env,S,funcs,hok,hf,hg,ht,henv=>by
  have ih:=tW hp (inp:=inp) n
  have hnode:=((aB.fK _ _ _ _).1 hok).1
  by_cases h3:t=3000
  ·rw[fT,if_pos h3];exact okQ.err
  have pE:=hg.later (nB t)
  have hcap:=hg.cap
  have hgcap:=hg.vM
  have henvE:∀ {S'},S.ext S'->∀ x∈env,rZ S' x:=λe x hx=>(henv x hx).ext e
  rcases aD5 hnode with hk|hk|hk|hk|hk|hk|hk|hk|hk|hk|hk
  ·rw[a0R h3 hk]
   have hn:=((iG aA).1 hnode).2.2.2.1 hk
   exact okQ.pure ⟨pE.put (.inr (.inl ⟨rfl,rfl,rfl,hn⟩)) hn aA,S.bDZ _ _,⟨by simp,by simp[eP.put];omega⟩,by simp[sP,eP.put];omega⟩
  ·rw[a0S h3 hk]
   have hn:=((iG aA).1 hnode).2.2.2.2.1 hk
   refine okQ.pure ⟨pE,S.aH3,?_,by simp[sP];omega⟩
   simp only[jH]
   rw[cJ aA]
   exact henv _ (dX _)
  iterate 5
   ·have hlen:=gT hok aA
    rw[hk]at hlen
    rw[oD h3 aA]
    refine(tV _ _ S pE aA λx hx u S' a b c=>ih u x env S' funcs (iR hok aA x hx) hf a c.2.2.2 (henvE b)).then λr u hr=>?_
    obtain⟨r1,r2,r3,r4⟩:=hr
    obtain⟨u,rfl⟩:∃ w,u=w+1:=⟨u-1,by have:=r4.2.2.1;omega⟩
    unfold sP at r4
    refine(bW7 (inp:=inp) aA r3 (by unfold jO at hlen;simp at hlen;omega) (λq=>by unfold jO at hlen;simp at hlen;omega) r1 aA aA).mono λq v hq=>?_
    obtain⟨q1,q2,q3,rfl,q5,q6⟩:=hq
    exact⟨q1,r2.trans q2,q3,by unfold sP;rw[q5,q6];omega⟩
  ·have hlen:=gT hok aA
   rw[hk,show jO 8=3 from rfl]at hlen
   have o0:=aB.jY hok (i:=0) aA
   have o1:=aB.jY hok (i:=1) aA
   have o2:=aB.jY hok (i:=2) aA
   rw[mV aA]at o0 o1 o2
   rw[aH5 h3 hk]
   refine(ih _ _ _ _ _ o0 hf pE aA henv).then λr u hr=>?_
   obtain⟨r1,r2,r3,r4⟩:=hr
   have r4':=r4
   unfold sP at r4'
   have go:∀ (b:Bool) (k:aB),k.ok p funcs env.length->okQ (a9Z inp S t) (fT p n u k env (r.2.guard ⟨r.1,b⟩)):=λb k hk=>by
    have he:r.2.ext (r.2.guard ⟨r.1,b⟩):=r.2.qL _
    refine(ih u k env _ _ hk hf (r1.guard r3 aA) aA (henvE (r2.trans he))).mono λq v hq=>?_
    obtain⟨q1,q2,q3,q4⟩:=hq
    refine⟨q1,(r2.trans he).trans q2,q3,?_⟩
    unfold sP at q4 ⊢
    simp only[eP.guard,tN,aB9]at q4
    omega
   split
   ·exact go _ _ o1
   ·exact go _ _ o2
  ·have hlen:=gT hok aA
   rw[hk,show jO 9=2 from rfl]at hlen
   have o0:=aB.jY hok (i:=0) aA
   have o1:=aB.jY hok (i:=1) aA
   rw[mV aA]at o0
   rw[hk,show p8 9 1 (env.length:Int)=env.length+1 from rfl]at o1
   rw[a0T h3 hk]
   refine(ih _ _ _ _ _ o0 hf pE aA henv).then λr u hr=>?_
   obtain⟨r1,r2,r3,r4⟩:=hr
   refine(ih _ _ (env++[r.1]) _ _ a2Y hf r1 r4.2.2.2 λx hx=>?_).mono λq v hq=>?_
   ·rcases rF.1 hx with hx|hx
    ·exact henvE r2 x hx
    ·rw[vP.1 hx];exact r3
   ·obtain⟨q1,q2,q3,q4⟩:=hq
    exact⟨q1,r2.trans q2,q3,(r4.trans q4).step⟩
  ·obtain⟨f,F⟩:=aAS hp hok hf (.inl hk)
   have f2:=F.hi
   have f4:=F.pk2
   rw[aIQ h3 hk]
   refine(tV _ _ S pE aA λx hx u S' a b c=>ih u x env S' funcs (iR hok aA x hx) hf a c.2.2.2 (henvE b)).then λr u hr=>?_
   obtain⟨r1,r2,r3,r4⟩:=hr
   refine(ih _ _ r.1 _ e.bZ bRS aA r1 r4.2.2.2 r3.2).mono λq v hq=>?_
   obtain⟨q1,q2,q3,q4⟩:=hq
   exact⟨q1,r2.trans q2,q3,(r4.trans q4).step⟩
  ·obtain⟨f,F⟩:=aAS hp hok hf (.inr hk)
   have f2:=F.hi
   have f4:=F.pk2
   have f9:=F.loop hk
   rw[aIR h3 hk]
   refine(tV _ _ S pE aA λx hx u S' a b c=>ih u x env S' funcs (iR hok aA x hx) hf a c.2.2.2 (henvE b)).then λr u hr=>?_
   obtain⟨r1,r2,r3,r4⟩:=hr
   refine(aH4 (inp:=inp) (m:=f.bG.length) (λvs w S' hg' hv hw=>?_) _ _ _ _ r1 ⟨by have:=r3.1;have:=F.kids;omega,r3.2⟩ r4.2.2.2).then λq v hq=>?_
   ·rw[F.eq]
    exact tV _ _ S' hg' hw λx hx u S'' a b c=>ih u x vs S'' e.bZ bH0 aA a c.2.2.2 λy hy=>(hv.2 y hy).ext b
   ·obtain⟨q1,q2,q3,q4⟩:=hq
    refine okQ.pure ⟨q1,r2.trans q2,?_,(r4.trans q4).step⟩
    simp only[jH]
    rw[cJ (by rw[q3.1];exact f4)]
    exact q3.2 _ (dX _)
def qJ {α β:Type} (R:α->β->Prop) (X:Out α) (Y:Out β):Prop:=match X,Y with
 | .ok (v,t),.ok (v',t')=>R v v'/\t=t'
 | .error c,.error c'=>c=c'
 | _,_=>False
theorem qJ.bind {α β γ δ:Type} {R:α->β->Prop} {R':γ->δ->Prop} {P:α->Nat->Prop} {X:Out α} {Y:Out β} {F:α->Nat->Out γ} {G:β->Nat->Out δ} (hp:okQ P X) (h:qJ R X Y) (hf:∀ v v' t,P v t->R v v'->qJ R' (F v t) (G v' t)):qJ R' (X.andThen F) (Y.andThen G):=by
 cases X with
 |ok p =>
  cases Y with
  |ok q =>
   obtain⟨v,t⟩:=p
   obtain⟨v',t'⟩:=q
   obtain⟨h1,rfl⟩:=h
   exact hf _ _ _ (hp v t rfl) h1
  |error c=>exact h.elim
 |error c =>
  cases Y with
  |ok q=>exact h.elim
  |error d=>exact h
theorem qJ.pure {α β:Type} {R:α->β->Prop} {v:α} {v':β} {t:Nat} (h:R v v'):qJ R (.ok (v,t)) (.ok (v',t)):=⟨h,rfl⟩
def sv (S:eP) (l:List Int):List (List Int):=l.map λk=>[S.val k]
def sR1 (r:Int×eP) (v:List Int):Prop:=v=[r.2.val r.1]
def sRL (r:List Int×eP) (vs:List (List Int)):Prop:=vs=sv r.2 r.1
theorem aUW {S S':eP} {l:List Int} (h:∀ x∈l,rZ S x) (e:S.ext S'):sv S' l=sv S l :=
 bM6 λx hx=>by rw[e.val (h x hx).1 (h x hx).2]
theorem aD6 {ev:Nat->aB->eP->Out (Int×eP)} {ev':Nat->aB->Out (List Int)} {inp:Int}:∀ (l:List aB) (t:Nat) (S:eP),Good inp S t->t<=3000->(∀ e∈l,∀ u S',Good inp S' u->S.ext S'->sP S t S' u->okQ (a9Z inp S' u) (ev u e S')/\qJ sR1 (ev u e S') (ev' u e))->qJ sRL (pI ev l t S) (xO ev' l t)
 | [],t,S,hg,ht,_=>qJ.pure rfl
 |e::l,t,S,hg,ht,h=>by
  obtain⟨h1,h2⟩:=h e p6 t S hg S.aH3 (.refl ht)
  refine qJ.bind h1 h2 λr v u hr hv=>?_
  obtain⟨r1,r2,r3,r4⟩:=hr
  have hl:=λx hx u' S' a b c=>h x (tF _ hx) u' S' a (r2.trans b) (r4.trans c)
  refine qJ.bind (tV l u r.2 r1 r4.2.2.2 λx hx u' S' a b c=>(hl x hx u' S' a b c).1) (aD6 l u r.2 r1 r4.2.2.2 hl) λq vs u' hq hvs=>qJ.pure ?_
  rw[sR1]at hv
  rw[sRL]at hvs ⊢
  rw[hv,hvs,←hq.2.1.val r3.1 r3.2];rfl
theorem aX8 {f:List Int->Nat->eP->Out (List Int×eP)} {g:List (List Int)->Nat->Out (List (List Int))} {inp:Int} {m:Nat} (h:∀ vs t S,Good inp S t->(vs.length=m/\∀ x∈vs,rZ S x)->t<=3000->okQ (aMW inp S t m) (f vs t S)/\qJ sRL (f vs t S) (g (sv S vs) t)) :
  ∀ (n:Nat) (vs:List Int) (t:Nat) (S:eP),Good inp S t->(vs.length=m/\∀ x∈vs,rZ S x)->t<=3000->qJ sRL (xB f n vs t S) (aHX g n (sv S vs) t)
 |0,vs,t,S,hg,hv,ht=>qJ.pure rfl
 |n+1,vs,t,S,hg,hv,ht=>by
  obtain⟨h1,h2⟩:=h vs t S hg hv ht
  refine qJ.bind h1 h2 λr w u hr hw=>?_
  rw[sRL]at hw
  rw[hw]
  exact aX8 h n r.1 u r.2 hr.1 hr.2.2.1 hr.2.2.2.2.2.2
theorem aK0 {S:eP} {l:List Int} {i:Nat} (hi:i<l.length):(sv S l).getD i []=[S.val (l.getD i 0)]:=by
 simp[sv,jH,cJ hi]
theorem bPR {k:Int} {vs:List Int} {S:eP} {t:Nat} (hk:k=3∨k=4∨k=5∨k=6∨k=7) (h1:1<=vs.length) (h2:¬k=7->2<=vs.length):qJ sR1 (opR k vs S t) (opE k (sv S vs) t):=by
 have g0:=aK0 (S:=S) (l:=vs) (i:=0) aA
 have pv:∀ c v,(S.put c v).val (S.iM.length:Int)=v:=λc v=>by
  rw[eP.val,eP.put,jH,aA7,aGJ (eV _),aIY];rfl
 unfold opR opE opV
 rcases hk with rfl|rfl|rfl|rfl|rfl
 all_goals simp only[reduceCtorEq,if_true,if_false,Int.reduceEq]
 ·refine qJ.pure ?_
  have g1:=aK0 (S:=S) (l:=vs) (i:=1) (h2 dQ)
  rw[sR1,pv,g0,g1]
  rfl
 ·refine qJ.pure ?_
  have g1:=aK0 (S:=S) (l:=vs) (i:=1) (h2 dQ)
  rw[sR1,pv,g0,g1]
  show[(_+_*1000002%1000003)%1000003]=[(_-S.val (vs.getD 1 0))%1000003]
  congr 1
  omega
 ·refine qJ.pure ?_
  have g1:=aK0 (S:=S) (l:=vs) (i:=1) (h2 dQ)
  rw[sR1,pv,g0,g1]
  show[(0+_*_)%1000003]=[_*S.val (vs.getD 1 0)%1000003]
  rw[al3];rfl
 ·have g1:=aK0 (S:=S) (l:=vs) (i:=1) (h2 dQ)
  rw[g0,g1,show opB 6 vs=vs.getD 1 0 from rfl,show[S.val (vs.getD 1 0)].getD 0 0=S.val (vs.getD 1 0)from rfl]
  by_cases h:S.val (vs.getD 1 0)=0
  ·rw[if_pos h,if_pos h];exact rfl
  ·rw[if_neg h,if_neg h]
   refine qJ.pure ?_
   rw[sR1,pv];rfl
 ·refine qJ.pure ?_
  rw[sR1,pv,g0]
  show[_*1000002%1000003]=[(0-S.val (vs.getD 0 0))%1000003]
  congr 1
  omega
theorem a43 {p:aL} (hp:p.ok) {inp:Int}:∀ (n t:Nat) (e:aB) (env:List Int) (S:eP) (funcs:Int),e.ok p funcs env.length->funcs<=p.aJ.length->Good inp S t->t<=3000->(∀ x∈env,rZ S x)->qJ sR1 (fT p n t e env S) (pZ p 1 n t e (sv S env))
 |0,t,e,env,S,funcs,_,_,_,_,_=>rfl
 |n+1,t,e,env,S,funcs,hok,hf,hg,ht,henv=>by
  have ih:=a43 hp (inp:=inp) n
  have io:=tW hp (inp:=inp) n
  have hnode:=((aB.fK _ _ _ _).1 hok).1
  by_cases h3:t=3000
  ·rw[fT,pZ,if_pos h3,if_pos h3];exact rfl
  have pE:=hg.later (nB t)
  have hcap:=hg.cap
  have hgcap:=hg.vM
  have henvE:∀ {S'},S.ext S'->∀ x∈env,rZ S' x:=λe x hx=>(henv x hx).ext e
  have kidsS:¬e.bH=9->∀ x∈e.aP,∀ u S',Good inp S' u->S.ext S'->sP S (t+1) S' u->okQ (a9Z inp S' u) (fT p n u x env S')/\qJ sR1 (fT p n u x env S') (pZ p 1 n u x (sv S env)):=λh9 x hx u S' a b c =>
   ⟨io u x env S' funcs (iR hok h9 x hx) hf a c.2.2.2 (henvE b),by
    have:=ih u x env S' funcs (iR hok h9 x hx) hf a c.2.2.2 (henvE b)
    rwa [aUW henv b]at this⟩
  rcases aD5 hnode with hk|hk|hk|hk|hk|hk|hk|hk|hk|hk|hk
  ·rw[a0R h3 hk,bTG h3 hk]
   refine qJ.pure ?_
   simp[sR1,eP.val,eP.put,aAC,bHC]
  ·rw[a0S h3 hk,bTH h3 hk]
   have hn:=((iG aA).1 hnode).2.2.2.2.1 hk
   exact qJ.pure (aK0 aA)
  iterate 5
   ·have hlen:=gT hok aA
    rw[hk]at hlen
    rw[oD h3 aA,a9W h3 aA]
    have hs:=kidsS aA
    refine qJ.bind (tV _ _ S pE aA λx hx u S' a b c=>(hs x hx u S' a b c).1) (aD6 _ _ S pE aA hs) λr vs u hr hv=>?_
    obtain⟨r1,r2,r3,r4⟩:=hr
    rw[sRL]at hv
    rw[hv]
    exact bPR aA (by unfold jO at hlen;simp at hlen;omega) (λq=>by unfold jO at hlen;simp at hlen;omega)
  ·have hlen:=gT hok aA
   rw[hk,show jO 8=3 from rfl]at hlen
   have o0:=aB.jY hok (i:=0) aA
   have o1:=aB.jY hok (i:=1) aA
   have o2:=aB.jY hok (i:=2) aA
   rw[mV aA]at o0 o1 o2
   rw[aH5 h3 hk,bKN h3 hk]
   refine qJ.bind (io _ _ _ _ _ o0 hf pE aA henv) (ih _ _ _ _ _ o0 hf pE aA henv) λr v u hr hv=>?_
   obtain⟨r1,r2,r3,r4⟩:=hr
   have r4':=r4
   unfold sP at r4'
   rw[sR1]at hv
   subst hv
   rw[show[r.2.val r.1].getD 0 0=r.2.val r.1 from rfl]
   have go:∀ (b:Bool) (k:aB),k.ok p funcs env.length->qJ sR1 (fT p n u k env (r.2.guard ⟨r.1,b⟩)) (pZ p 1 n u k (sv S env)):=λb k hk=>by
    have he:r.2.ext (r.2.guard ⟨r.1,b⟩):=r.2.qL _
    have:=ih u k env _ _ hk hf (r1.guard (b:=b) r3 aA) aA (henvE (r2.trans he))
    rwa [aUW henv (r2.trans he)]at this
   by_cases hz:r.2.val r.1=0
   ·rw[if_pos hz,if_pos hz];exact go _ _ o1
   ·rw[if_neg hz,if_neg hz];exact go _ _ o2
  ·have hlen:=gT hok aA
   rw[hk,show jO 9=2 from rfl]at hlen
   have o0:=aB.jY hok (i:=0) aA
   have o1:=aB.jY hok (i:=1) aA
   rw[mV aA]at o0
   rw[hk,show p8 9 1 (env.length:Int)=env.length+1 from rfl]at o1
   rw[a0T h3 hk,bTI h3 hk]
   refine qJ.bind (io _ _ _ _ _ o0 hf pE aA henv) (ih _ _ _ _ _ o0 hf pE aA henv) λr v u hr hv=>?_
   obtain⟨r1,r2,r3,r4⟩:=hr
   rw[sR1]at hv
   subst hv
   have:=ih u (e.tL 1) (env++[r.1]) r.2 funcs a2Y hf r1 r4.2.2.2 (λx hx=>by
    rcases rF.1 hx with hx|hx
    ·exact henvE r2 x hx
    ·rw[vP.1 hx];exact r3)
   rwa [show sv r.2 (env++[r.1])=sv S env++[[r.2.val r.1]]by rw[←aUW henv r2,sv,xX];rfl]at this
  ·obtain⟨f,F⟩:=aAS hp hok hf (.inl hk)
   have f2:=F.hi
   have f4:=F.pk2
   rw[aIQ h3 hk,bKO h3 hk]
   have hs:=kidsS aA
   refine qJ.bind (tV _ _ S pE aA λx hx u S' a b c=>(hs x hx u S' a b c).1) (aD6 _ _ S pE aA hs) λr vs u hr hv=>?_
   obtain⟨r1,r2,r3,r4⟩:=hr
   rw[sRL]at hv
   rw[hv]
   exact ih _ _ r.1 _ e.bZ bRS aA r1 r4.2.2.2 r3.2
  ·obtain⟨f,F⟩:=aAS hp hok hf (.inr hk)
   have f2:=F.hi
   have f4:=F.pk2
   have f9:=F.loop hk
   rw[aIR h3 hk,bKP h3 hk]
   have hs:=kidsS aA
   refine qJ.bind (tV _ _ S pE aA λx hx u S' a b c=>(hs x hx u S' a b c).1) (aD6 _ _ S pE aA hs) λr vs u hr hv=>?_
   obtain⟨r1,r2,r3,r4⟩:=hr
   rw[sRL]at hv
   rw[hv]
   have hfl:∀ vs t S,Good inp S t->(vs.length=f.bG.length/\∀ x∈vs,rZ S x)->t<=3000->okQ (aMW inp S t f.bG.length) (pI (λt e S=>fT p n t e vs S) (p.outs e.bZ) t S)/\qJ sRL (pI (λt e S=>fT p n t e vs S) (p.outs e.bZ) t S) (xO (λt e=>pZ p 1 n t e (sv S vs)) (p.outs e.bZ) t):=λvs w S' hg' hv hw=>by
    rw[F.eq]
    have hx2:∀ x∈f.bG,∀ u S'',Good inp S'' u->S'.ext S''->sP S' w S'' u->okQ (a9Z inp S'' u) (fT p n u x vs S'')/\qJ sR1 (fT p n u x vs S'') (pZ p 1 n u x (sv S' vs)):=λx hx u S'' a b c =>
     ⟨io u x vs S'' e.bZ bH0 aA a c.2.2.2 λy hy=>(hv.2 y hy).ext b,by
      have:=ih u x vs S'' e.bZ bH0 aA a c.2.2.2 λy hy=>(hv.2 y hy).ext b
      rwa [aUW hv.2 b]at this⟩
    exact⟨tV _ _ S' hg' hw λx hx u S'' a b c=>(hx2 x hx u S'' a b c).1,aD6 _ _ S' hg' hw hx2⟩
   have hv0:r.1.length=f.bG.length/\∀ x∈r.1,rZ r.2 x:=⟨by have:=r3.1;have:=F.kids;omega,r3.2⟩
   refine qJ.bind (aH4 (inp:=inp) (m:=f.bG.length) (λvs t S a b c=>(hfl vs t S a b c).1) _ _ _ _ r1 hv0 r4.2.2.2) (aX8 (inp:=inp) (m:=f.bG.length) (g:=λvs t=>xO (λt e=>pZ p 1 n t e vs) (p.outs e.bZ) t) hfl _ _ _ _ r1 hv0 r4.2.2.2) λq vs2 v hq hvs=>?_
   refine qJ.pure ?_
   rw[sRL]at hvs
   rw[hvs]
   exact aK0 (by rw[hq.2.2.1.1];exact f4)
def inS (args:List Int):eP:=⟨(List.range args.length).map λi:Nat=>⟨1,0,0,(i:Int)⟩,args,[]⟩
def inE (args:List Int):List Int:=(List.range args.length).map λi:Nat=>(i:Int)
theorem aUX (args:List Int) (ha:rH args) (hl:args.length<=12):Good args.length (inS args) 0:=by
 refine⟨by simp[inS],ha,λi c hc=>?_,λg hg=>(by cases hg),by simpa[inS]using hl,eV _⟩
 obtain⟨h1,h2⟩:=oG.1 hc
 simp[inS]at h1 h2
 subst h2
 exact .inl ⟨rfl,rfl,rfl,by simp only;omega,by simp only;omega⟩
theorem a90 (args:List Int):∀ x∈inE args,rZ (inS args) x:=λx hx=>by
 obtain⟨i,hi,rfl⟩:=yC.1 hx
 have:=bE6.1 hi
 exact⟨by omega,by simp[inS];omega⟩
theorem bW8 (args:List Int):sv (inS args) (inE args)=args.map λn=>[n]:=by
 apply List.ext_getElem
 ·simp[sv,inE]
 ·intro i h1 h2
  simp[sv,inE,inS,eP.val]
  simp at h2
  rw[cJ h2];rfl
def aWN (p:aL) (f:Int) (args:List Int):Out (List Int×eP):=pI (λt e S=>fT p 3001 t e (inE args) S) (p.outs f) 0 (inS args)
theorem aRG {p:aL} (hp:p.ok) (f:Int) (hf:0<=f/\f<p.aJ.length) (args:List Int) (ha:rH args) (hl:∀ F,p.aJ[f.toNat]?=some F->(args.length:Int)=F.bN) :
  okQ (aMW args.length (inS args) 0 (p.outs f).length) (aWN p f args)/\qJ sRL (aWN p f args) (evF p 1 f (args.map λn=>[n])):=by
 obtain⟨F,ef,hF1,hF2,hF3,hF4⟩:=aIM hp hf
 have hla:=hl F ef
 have hg:=aUX args ha aA
 have hin:=a90 args
 have hel:(inE args).length=args.length:=by simp[inE]
 have hx2:∀ x∈p.outs f,∀ u S'',Good args.length S'' u->(inS args).ext S''->sP (inS args) 0 S'' u->okQ (a9Z args.length S'' u) (fT p 3001 u x (inE args) S'')/\qJ sR1 (fT p 3001 u x (inE args) S'') (pZ p 1 3001 u x (args.map λn=>[n])):=λx hx u S'' a b c=>by
  have hxo:x.ok p f (inE args).length:=by rw[hel,hla];exact hF4 x (by rw[←hF3];exact hx)
  refine⟨tW hp _ u x _ S'' f hxo aA a c.2.2.2 λy hy=>(hin y hy).ext b,?_⟩
  have:=a43 hp 3001 u x (inE args) S'' f hxo aA a c.2.2.2 λy hy=>(hin y hy).ext b
  rwa [aUW hin b,bW8]at this
 exact⟨tV _ _ _ hg aA λx hx u S'' a b c=>(hx2 x hx u S'' a b c).1,aD6 _ _ _ hg aA hx2⟩
end Go.Hl

/-
  Contracts of functions and laws of the layer over the walk.
-/
import Derived.Test.YtajjlpophonkoaaGreatDoorVvB
import Derived.Test.YtajjlpophonkoaaGreatDoorHlD
import Derived.Test.YtajjlpophonkoaaGreatDoorGn
import Derived.Test.YtajjlpophonkoaaGreatDoorVvA
namespace Go.Hl
set_option maxRecDepth 100000
open Go.Proofs
set_option linter.unusedVariables false
set_option linter.unusedSimpArgs false
theorem cG (a b:Int) (ha:oU a) (hb:oU b):fM Tryz.prog 46 [I a,I b] (I (a*b%1000003)):=by
 refine gX 11 aE0 dC cK Tryz.func46 λh=>?_
 simp -dsimp -implicitDefEqProofs only[go_sem,↓reduceIte,Tryz.f46]
 first|refine aJ.mk (dU a) ?_|refine aF.mk (dU a) ?_|refine aJ.bA (dU a) ?_|refine aF.mk (aX.cU (dU a)) ?_
 simp -dsimp -implicitDefEqProofs only[go_sem,↓reduceIte,Tryz.f46]
 first|refine aJ.mk (dU b) ?_|refine aF.mk (dU b) ?_|refine aJ.bA (dU b) ?_|refine aF.mk (aX.cU (dU b)) ?_
 simp -dsimp -implicitDefEqProofs only[go_sem,↓reduceIte,Tryz.f46]
 have h1:=num_mul ha hb
 have h2:=ha
 have h3:=hb
 unfold oU at h2 h3
 rw[a6A h2.1 aA,a6A h3.1 aA,a0N h1.1 aA]
@[go_sem] def a8G:List Nat:=[0,1,4,5,6,8,12,15]
theorem aF1 (a n:Int) (hn:0<=n) (hn2:n<=4294967296):fM Tryz.prog 139 [I a,I n] (I (pwN (a%1000003) n.toNat)):=by
 refine gX 25 a8G dC cK Tryz.func139 λh=>?_
 simp -dsimp -implicitDefEqProofs only[go_sem,↓reduceIte,Tryz.f139]
 refine⟨λq=>absurd q aA,λ_=>?_⟩
 first|refine aJ.mk (dU a) ?_|refine aF.mk (dU a) ?_|refine aJ.bA (dU a) ?_|refine aF.mk (aX.cU (dU a)) ?_
 simp -dsimp -implicitDefEqProofs only[go_sem,↓reduceIte,Tryz.f139]
 generalize hT:pwN (a%1000003) n.toNat=T
 refine aEZ a8G dC cK (λx:Int×Int×Int=>[(1,I x.2.2),(5,I x.1),(6,I x.2.1)]) (λx=>(0<=x.1/\x.1<1000003)/\(0<=x.2.1/\x.2.1<1000003)/\(0<=x.2.2/\x.2.2<=4294967296)/\x.1*x.2.1 ^ x.2.2.toNat%1000003=T) (λx=>x.2.2.toNat) (1,a%1000003,n) ⟨by simp[c4,b7],⟨by simp,by simp⟩,a0M _,⟨hn,hn2⟩,by rw[aYW];exact hT⟩ ?_
 rintro⟨x,b,m⟩ ⟨hx,hb,hm,hp⟩
 simp only at hx hb hm hp ⊢
 have nx:oU x:=by unfold oU;omega
 have nb:oU b:=by unfold oU;omega
 simp -dsimp -implicitDefEqProofs only[go_sem,↓reduceIte,Tryz.f139]
 rw[zH hm.1]
 refine⟨λhg=>⟨λho=>?_,λho=>?_⟩,λhg=>?_⟩
 ·first|refine aJ.mk (cG x b nx nb) ?_|refine aF.mk (cG x b nx nb) ?_|refine aJ.bA (cG x b nx nb) ?_|refine aF.mk (aX.cU (cG x b nx nb)) ?_
  simp -dsimp -implicitDefEqProofs only[go_sem,↓reduceIte,Tryz.f139]
  first|refine aJ.mk (cG b b nb nb) ?_|refine aF.mk (cG b b nb nb) ?_|refine aJ.bA (cG b b nb nb) ?_|refine aF.mk (aX.cU (cG b b nb nb)) ?_
  simp -dsimp -implicitDefEqProofs only[go_sem,↓reduceIte,Tryz.f139]
  rw[a57 hm.1,IntWalk.i64_in (m / 2) aA]
  exact⟨(x*b%1000003,b*b%1000003,m / 2),⟨rfl,rfl,rfl⟩,⟨a0M _,a0M _,(show 0<=m / 2/\m / 2<=4294967296 by omega),bF1 hm.1 ho hp⟩,by simp only;omega⟩
 ·first|refine aJ.mk (cG b b nb nb) ?_|refine aF.mk (cG b b nb nb) ?_|refine aJ.bA (cG b b nb nb) ?_|refine aF.mk (aX.cU (cG b b nb nb)) ?_
  simp -dsimp -implicitDefEqProofs only[go_sem,↓reduceIte,Tryz.f139]
  rw[a57 hm.1,IntWalk.i64_in (m / 2) aA]
  exact⟨(x,b*b%1000003,m / 2),⟨rfl,rfl,rfl⟩,⟨hx,a0M _,(show 0<=m / 2/\m / 2<=4294967296 by omega),a8C hm.1 ho hp⟩,by simp only;omega⟩
 ·have:m.toNat=0:=by omega
  rw[this,a8B x b hx]at hp
  exact hp
theorem aE4 (a:Int):fM Tryz.prog 96 [I a] (I (nV a)):=by
 refine gX 5 aD2 dC cK Tryz.func96 λh=>?_
 simp -dsimp -implicitDefEqProofs only[go_sem,↓reduceIte,Tryz.f96]
 first|refine aJ.mk (aF1 a 1000001 cE cE) ?_|refine aF.mk (aF1 a 1000001 cE cE) ?_|refine aJ.bA (aF1 a 1000001 cE cE) ?_|refine aF.mk (aX.cU (aF1 a 1000001 cE cE)) ?_
 simp -dsimp -implicitDefEqProofs only[go_sem,↓reduceIte,Tryz.f96]
 rfl
theorem aKB (a b:Int) (ha:oU a) (hb:oU b):fM Tryz.prog 208 [I a,I b] (I ((a-b)%1000003)):=by
 unfold oU at ha hb
 refine gX 9 aE0 dC cK Tryz.func208 λh=>?_
 simp -dsimp -implicitDefEqProofs only[go_sem,↓reduceIte,Tryz.f208]
 rw[IntWalk.i64_in _ aA]
 first|refine aJ.mk (dU (a-b)) ?_|refine aF.mk (dU (a-b)) ?_|refine aJ.bA (dU (a-b)) ?_|refine aF.mk (aX.cU (dU (a-b))) ?_
 simp -dsimp -implicitDefEqProofs only[go_sem,↓reduceIte,Tryz.f208]
@[go_sem] def a4C:List Nat:=[0,1,4,5,9]
theorem pO (n:Int) (sz:Nat) (hs:sz<=1048576):fM Tryz.prog 93 [I n,I sz] (ints (fQ n sz)):=by
 rcases bC8 sz with rfl|hp
 ·refine iN 14 a4C dC cK Tryz.func93 λh=>?_
  simp -dsimp -implicitDefEqProofs only[go_sem,↓reduceIte,Tryz.f93]
  refine⟨bN,by omega,by omega,λm hm=>⟨λq=>absurd q aA,λ_=>?_⟩⟩
  exact jZ [] hm (aE.le_refl _) rfl
 ·have e2:=aJ8 (x:=[aH.int .i64 0]) hp
  refine iN 14 a4C dC cK Tryz.func93 λh=>?_
  simp -dsimp -implicitDefEqProofs only[go_sem,↓reduceIte,Tryz.f93,nU,e2]
  refine⟨bN,iH _,by omega,by omega,λm hm=>⟨λ_=>⟨by omega,?_⟩,λq=>absurd q aA⟩⟩
  rw[aO,show Int.toNat 0=0 from rfl,aBF]
  exact jZ _ hm (aE.le_refl _) (s8 n sz).symm
theorem v7 (a:List Int) (m:Int) (hm:oU m) (hl:a.length<=1048576) (ha:dW a):fM Tryz.prog 186 [ints a,I m] (ints (iE a m)):=by
 have hc:=vU a m
 refine iN 24 aSV a7U cK Tryz.func186 λh=>?_
 simp -dsimp -implicitDefEqProofs only[go_sem,↓reduceIte,Tryz.f186]
 refine⟨bN,?_⟩
 refine cZ aSV a7U cK (λx:Nat×Option Nat=>[(0,ints a),(1,I m),(5,iO 1 ((iE a m).take x.1).length x.2),(6,I x.1)]) (λx=>bY h (.row 1 ((((iE a m).take x.1).map λn=>[I n]).map (List.map .v))) x.2) (λx=>x.1<=a.length/\fT h ((iE a m).take x.1) x.2) (λx=>a.length-x.1) (0,none) ⟨by simp[c4,b7,iO],by simp only[aQ];exact aE.le_refl _,fE _,by simp[fT]⟩ ?_
 rintro⟨k,o⟩ ⟨hk,hos⟩
 simp only at hk hos ⊢
 rcases bZ k a.length with hlt|hge
 ·have ea:a[k]?=some a[k]:=cM hlt
  have hy:(iE a m).take (k+1)=(iE a m).take k++[(iE a m)[k]'aA]:=jU aA
  have hv:(iE a m)[k]'aA=a[k]*m%1000003:=by simp[iE]
  have hlk:((iE a m).take k).length=k:=by rw[jT];omega
  rw[hv]at hy
  cases o with
  |none =>
   rw[aZ]at hos
   rw[hos]at hy ⊢
   simp -dsimp -implicitDefEqProofs only[go_sem,↓reduceIte,Tryz.f186,bM,aQ,hlt,ea]
   intro _
   first|refine aJ.mk (cG a[k] m (ha _ (eI hlt)) hm) ?_|refine aF.mk (cG a[k] m (ha _ (eI hlt)) hm) ?_|refine aJ.bA (cG a[k] m (ha _ (eI hlt)) hm) ?_|refine aF.mk (aX.cU (cG a[k] m (ha _ (eI hlt)) hm)) ?_
   simp -dsimp -implicitDefEqProofs only[go_sem,↓reduceIte,Tryz.f186]
   repeat'(with_reducible first|intro _|refine And.intro ?_ ?_)
   all_goals try(first|omega|decide)
   rename_i b hb
   refine⟨(k+1,some b),?_⟩
   simp only[hy]
   refine⟨⟨rfl,?_⟩,aE.le_refl _,⟨by omega,hb⟩,by omega⟩
   rw[IntWalk.i64_in _ aA];rfl
  |some n =>
   rw[aV]at hos
   simp -dsimp -implicitDefEqProofs only[go_sem,↓reduceIte,Tryz.f186,bC,aK,hlt,ea]
   intro _
   first|refine aJ.mk (cG a[k] m (ha _ (eI hlt)) hm) ?_|refine aF.mk (cG a[k] m (ha _ (eI hlt)) hm) ?_|refine aJ.bA (cG a[k] m (ha _ (eI hlt)) hm) ?_|refine aF.mk (aX.cU (cG a[k] m (ha _ (eI hlt)) hm)) ?_
   simp -dsimp -implicitDefEqProofs only[go_sem,↓reduceIte,Tryz.f186]
   repeat'(with_reducible first|intro _|refine And.intro ?_ ?_)
   all_goals try(first|omega|decide|exact iH _)
   rename_i b hb
   refine⟨(k+1,some b),?_⟩
   simp only[hy,aK,bC,aV]
   refine⟨⟨by rw[mV];rfl,?_⟩,?_,⟨by omega,hb.2⟩,by omega⟩
   ·rw[IntWalk.i64_in _ aA];rfl
   ·rw[←jD];exact qM hos
 ·have hk':k=a.length:=by omega
  subst hk'
  rw[pQ aA]at hos ⊢
  cases o with
  |none =>
   rw[aZ]at hos
   simp -dsimp -implicitDefEqProofs only[go_sem,↓reduceIte,Tryz.f186,bM,aQ,bX,dB]
   intro _
   rw[hos]
   exact Shift.of (Sub.loose _ _ _) (aE.le_refl _)
  |some n =>
   rw[aV]at hos
   simp -dsimp -implicitDefEqProofs only[go_sem,↓reduceIte,Tryz.f186,bC,aK,bX,dB]
   intro _
   exact jZ _ hos (aE.le_refl _) rfl
@[go_sem] def bQR:List Nat:=[7,24]
theorem aE5 (a b:List Int) (hab:b.length=a.length) (hl:a.length<=1048576) (ha:dW a) (hb:dW b):fM Tryz.prog 189 [ints a,ints b] (ints (iK a b)):=by
 have hc:=aJ2 hab
 refine iN 27 aSV bQR a7V Tryz.func189 λh=>?_
 simp -dsimp -implicitDefEqProofs only[go_sem,↓reduceIte,Tryz.f189]
 refine⟨bN,?_⟩
 refine cZ aSV bQR a7V (λx:Nat×Option Nat=>[(0,ints a),(1,ints b),(5,iO 1 ((iK a b).take x.1).length x.2),(6,I x.1)]) (λx=>bY h (.row 1 ((((iK a b).take x.1).map λn=>[I n]).map (List.map .v))) x.2) (λx=>x.1<=a.length/\fT h ((iK a b).take x.1) x.2) (λx=>a.length-x.1) (0,none) ⟨by simp[c4,b7,iO],by simp only[aQ];exact aE.le_refl _,fE _,by simp[fT]⟩ ?_
 rintro⟨k,o⟩ ⟨hk,hos⟩
 simp only at hk hos ⊢
 rcases bZ k a.length with hlt|hge
 ·have ea:a[k]?=some a[k]:=cM hlt
  have eb:b[k]?=some (b[k]'aA):=cM aA
  have hy:(iK a b).take (k+1)=(iK a b).take k++[(iK a b)[k]'aA]:=jU aA
  have hv:(iK a b)[k]'aA=(a[k]+b[k]'aA)%1000003:=by simp[iK]
  have hlk:((iK a b).take k).length=k:=by rw[jT];omega
  rw[hv]at hy
  cases o with
  |none =>
   rw[aZ]at hos
   rw[hos]at hy ⊢
   simp -dsimp -implicitDefEqProofs only[go_sem,↓reduceIte,Tryz.f189,bM,aQ,hlt,ea,eb]
   intro _
   refine⟨by omega,?_⟩
   first|refine aJ.mk (iD a[k] (b[k]'aA)) ?_|refine aF.mk (iD a[k] (b[k]'aA)) ?_|refine aJ.bA (iD a[k] (b[k]'aA)) ?_|refine aF.mk (aX.cU (iD a[k] (b[k]'aA))) ?_
   simp -dsimp -implicitDefEqProofs only[go_sem,↓reduceIte,Tryz.f189]
   repeat'(with_reducible first|intro _|refine And.intro ?_ ?_)
   all_goals try(first|omega|decide)
   rename_i b hb
   refine⟨(k+1,some b),?_⟩
   simp only[hy]
   refine⟨⟨rfl,?_⟩,aE.le_refl _,⟨by omega,hb⟩,by omega⟩
   rw[IntWalk.i64_in _ aA];rfl
  |some n =>
   rw[aV]at hos
   simp -dsimp -implicitDefEqProofs only[go_sem,↓reduceIte,Tryz.f189,bC,aK,hlt,ea,eb]
   intro _
   refine⟨by omega,?_⟩
   first|refine aJ.mk (iD a[k] (b[k]'aA)) ?_|refine aF.mk (iD a[k] (b[k]'aA)) ?_|refine aJ.bA (iD a[k] (b[k]'aA)) ?_|refine aF.mk (aX.cU (iD a[k] (b[k]'aA))) ?_
   simp -dsimp -implicitDefEqProofs only[go_sem,↓reduceIte,Tryz.f189]
   repeat'(with_reducible first|intro _|refine And.intro ?_ ?_)
   all_goals try(first|omega|decide|exact iH _)
   rename_i b hb
   refine⟨(k+1,some b),?_⟩
   simp only[hy,aK,bC,aV]
   refine⟨⟨by rw[mV];rfl,?_⟩,?_,⟨by omega,hb.2⟩,by omega⟩
   ·rw[IntWalk.i64_in _ aA];rfl
   ·rw[←jD];exact qM hos
 ·have hk':k=a.length:=by omega
  subst hk'
  rw[pQ aA]at hos ⊢
  cases o with
  |none =>
   rw[aZ]at hos
   simp -dsimp -implicitDefEqProofs only[go_sem,↓reduceIte,Tryz.f189,bM,aQ,bX,dB]
   intro _
   rw[hos]
   exact Shift.of (Sub.loose _ _ _) (aE.le_refl _)
  |some n =>
   rw[aV]at hos
   simp -dsimp -implicitDefEqProofs only[go_sem,↓reduceIte,Tryz.f189,bC,aK,bX,dB]
   intro _
   exact jZ _ hos (aE.le_refl _) rfl
theorem aWF (a b:List Int) (hab:b.length=a.length) (hl:a.length<=1048576) (ha:dW a) (hb:dW b):fM Tryz.prog 190 [ints a,ints b] (ints (aJ3 a b)):=by
 refine gX 9 aE0 dC cK Tryz.func190 λh=>?_
 simp -dsimp -implicitDefEqProofs only[go_sem,↓reduceIte,Tryz.f190]
 first|refine aJ.mk (v7 b 1000002 pK aA hb) ?_|refine aF.mk (v7 b 1000002 pK aA hb) ?_|refine aJ.bA (v7 b 1000002 pK aA hb) ?_|refine aF.mk (aX.cU (v7 b 1000002 pK aA hb)) ?_
 simp -dsimp -implicitDefEqProofs only[go_sem,↓reduceIte,Tryz.f190]
 first|refine aJ.mk (aE5 a (iE b 1000002) aY9 hl ha (eO _ ⟨rfl,hb⟩).2) ?_|refine aF.mk (aE5 a (iE b 1000002) aY9 hl ha (eO _ ⟨rfl,hb⟩).2) ?_|refine aJ.bA (aE5 a (iE b 1000002) aY9 hl ha (eO _ ⟨rfl,hb⟩).2) ?_|refine aF.mk (aX.cU (aE5 a (iE b 1000002) aY9 hl ha (eO _ ⟨rfl,hb⟩).2)) ?_
 simp -dsimp -implicitDefEqProofs only[go_sem,↓reduceIte,Tryz.f190]
 rfl
@[go_sem] def aN1:List Nat:=[0,1,4,5,6,7,8,13,18]
@[go_sem] def a8H:List Nat:=[9,36]
@[go_sem] def a8I:Marks:=λid=>match id with|9=>([],(.op 0 (.op 1 (.op 2 (.op 3 (.op 4 (.op 5 (.op 6 (.op 7 (.op 8 (.op 9 (.op 10 (.op 11 (.op 12 (.op 13 .nil)))))))))))))),[])|_=>([],.nil,[])
theorem aWG (a b:List Int) (hab:b.length=a.length) (hl:a.length<=1048576) (ha:dW a) (hb:dW b):fM Tryz.prog 191 [ints a,ints b] (ints (mulL a b)):=by
 have hc:=aJ5 a b
 refine iN 39 aN1 a8H a8I Tryz.func191 λh=>?_
 simp -dsimp -implicitDefEqProofs only[go_sem,↓reduceIte,Tryz.f191]
 refine⟨bN,?_⟩
 refine cZ aN1 a8H a8I (λx:Nat×Option Nat=>[(0,ints a),(1,ints b),(5,iO 1 ((mulL a b).take x.1).length x.2),(6,I x.1)]) (λx=>bY h (.row 1 ((((mulL a b).take x.1).map λn=>[I n]).map (List.map .v))) x.2) (λx=>x.1<=a.length/\fT h ((mulL a b).take x.1) x.2) (λx=>a.length-x.1) (0,none) ⟨by simp[c4,b7,iO],by simp only[aQ];exact aE.le_refl _,fE _,by simp[fT]⟩ ?_
 rintro⟨k,o⟩ ⟨hk,hos⟩
 simp only at hk hos ⊢
 rcases bZ k a.length with hlt|hge
 ·have hy:(mulL a b).take (k+1)=(mulL a b).take k++[(mulL a b)[k]'aA]:=jU aA
  have hv:(mulL a b)[k]'aA=cvS a b k (k+1):=by simp[mulL]
  have hlk:((mulL a b).take k).length=k:=by rw[jT];omega
  rw[hv]at hy
  cases o with
  |none =>
   rw[aZ]at hos
   rw[hos]at hy ⊢
   simp -dsimp -implicitDefEqProofs only[go_sem,↓reduceIte,Tryz.f191,bM,aQ,hlt]
   intro _
   refine aEZ aN1 a8H a8I (λi:Nat=>[(0,ints a),(1,ints b),(5,.sl 1 [] true),(6,I k),(7,I (cvS a b k i)),(8,I i)]) (λi=>i<=k+1) (λi=>k+1-i) 0 ⟨by simp[c4,b7,cvS],fE _⟩ ?_
   intro i hi
   rcases bZ i (k+1)with mA|aQI
   ·have ea:=cI (l:=a) (i:=i) aA
    have eb:=cI (l:=b) (i:=k-i) aA
    have ew:IntKind.i64.wrap ((k:Int)-(i:Int))=((k-i:Nat):Int):=by rw[IntWalk.i64_in _ aA];omega
    simp -dsimp -implicitDefEqProofs only[go_sem,↓reduceIte,Tryz.f191,ea,eb,ew]
    refine⟨λ_=>⟨by omega,by omega,?_⟩,λq=>absurd aA q⟩
    first|refine aJ.mk (cG (a.getD i 0) (b.getD (k-i) 0) (ha.get i) (hb.get (k-i))) ?_|refine aF.mk (cG (a.getD i 0) (b.getD (k-i) 0) (ha.get i) (hb.get (k-i))) ?_|refine aJ.bA (cG (a.getD i 0) (b.getD (k-i) 0) (ha.get i) (hb.get (k-i))) ?_|refine aF.mk (aX.cU (cG (a.getD i 0) (b.getD (k-i) 0) (ha.get i) (hb.get (k-i)))) ?_
    simp -dsimp -implicitDefEqProofs only[go_sem,↓reduceIte,Tryz.f191]
    first|refine aJ.mk (iD (cvS a b k i) (a.getD i 0*b.getD (k-i) 0%1000003)) ?_|refine aF.mk (iD (cvS a b k i) (a.getD i 0*b.getD (k-i) 0%1000003)) ?_|refine aJ.bA (iD (cvS a b k i) (a.getD i 0*b.getD (k-i) 0%1000003)) ?_|refine aF.mk (aX.cU (iD (cvS a b k i) (a.getD i 0*b.getD (k-i) 0%1000003))) ?_
    simp -dsimp -implicitDefEqProofs only[go_sem,↓reduceIte,Tryz.f191]
    refine⟨i+1,⟨?_,by rw[IntWalk.i64_in _ aA];rfl⟩,by omega,by omega⟩
    rw[cvS]
    omega
   ·have hi':i=k+1:=by omega
    subst hi'
    simp -dsimp -implicitDefEqProofs only[go_sem,↓reduceIte,Tryz.f191,hlt]
    refine⟨λq=>absurd q aA,λ_=>?_⟩
    repeat'(with_reducible first|intro _|refine And.intro ?_ ?_)
    all_goals try(first|omega|decide)
    rename_i b hb
    refine⟨(k+1,some b),?_⟩
    simp only[hy]
    refine⟨⟨rfl,?_⟩,aE.le_refl _,⟨by omega,hb⟩,by omega⟩
    rw[IntWalk.i64_in _ aA];rfl
  |some n =>
   rw[aV]at hos
   simp -dsimp -implicitDefEqProofs only[go_sem,↓reduceIte,Tryz.f191,bC,aK,hlt]
   intro _
   refine aEZ aN1 a8H a8I (λi:Nat=>[(0,ints a),(1,ints b),(5,.os n 1 0 ((mulL a b).take k).length),(6,I k),(7,I (cvS a b k i)),(8,I i)]) (λi=>i<=k+1) (λi=>k+1-i) 0 ⟨by simp[c4,b7,cvS],fE _⟩ ?_
   intro i hi
   rcases bZ i (k+1)with mA|aQI
   ·have ea:=cI (l:=a) (i:=i) aA
    have eb:=cI (l:=b) (i:=k-i) aA
    have ew:IntKind.i64.wrap ((k:Int)-(i:Int))=((k-i:Nat):Int):=by rw[IntWalk.i64_in _ aA];omega
    simp -dsimp -implicitDefEqProofs only[go_sem,↓reduceIte,Tryz.f191,ea,eb,ew]
    refine⟨λ_=>⟨by omega,by omega,?_⟩,λq=>absurd aA q⟩
    first|refine aJ.mk (cG (a.getD i 0) (b.getD (k-i) 0) (ha.get i) (hb.get (k-i))) ?_|refine aF.mk (cG (a.getD i 0) (b.getD (k-i) 0) (ha.get i) (hb.get (k-i))) ?_|refine aJ.bA (cG (a.getD i 0) (b.getD (k-i) 0) (ha.get i) (hb.get (k-i))) ?_|refine aF.mk (aX.cU (cG (a.getD i 0) (b.getD (k-i) 0) (ha.get i) (hb.get (k-i)))) ?_
    simp -dsimp -implicitDefEqProofs only[go_sem,↓reduceIte,Tryz.f191]
    first|refine aJ.mk (iD (cvS a b k i) (a.getD i 0*b.getD (k-i) 0%1000003)) ?_|refine aF.mk (iD (cvS a b k i) (a.getD i 0*b.getD (k-i) 0%1000003)) ?_|refine aJ.bA (iD (cvS a b k i) (a.getD i 0*b.getD (k-i) 0%1000003)) ?_|refine aF.mk (aX.cU (iD (cvS a b k i) (a.getD i 0*b.getD (k-i) 0%1000003))) ?_
    simp -dsimp -implicitDefEqProofs only[go_sem,↓reduceIte,Tryz.f191]
    refine⟨i+1,⟨?_,by rw[IntWalk.i64_in _ aA];rfl⟩,by omega,by omega⟩
    rw[cvS]
    omega
   ·have hi':i=k+1:=by omega
    subst hi'
    simp -dsimp -implicitDefEqProofs only[go_sem,↓reduceIte,Tryz.f191,hlt]
    refine⟨λq=>absurd q aA,λ_=>?_⟩
    repeat'(with_reducible first|intro _|refine And.intro ?_ ?_)
    all_goals try(first|omega|decide|exact iH _)
    rename_i b hb
    refine⟨(k+1,some b),?_⟩
    simp only[hy,aK,bC,aV]
    refine⟨⟨by rw[mV];rfl,?_⟩,?_,⟨by omega,hb.2⟩,by omega⟩
    ·rw[IntWalk.i64_in _ aA];rfl
    ·rw[←jD];exact qM hos
 ·have hk':k=a.length:=by omega
  subst hk'
  rw[pQ aA]at hos ⊢
  cases o with
  |none =>
   rw[aZ]at hos
   simp -dsimp -implicitDefEqProofs only[go_sem,↓reduceIte,Tryz.f191,bM,aQ,bX,dB]
   intro _
   rw[hos]
   exact Shift.of (Sub.loose _ _ _) (aE.le_refl _)
  |some n =>
   rw[aV]at hos
   simp -dsimp -implicitDefEqProofs only[go_sem,↓reduceIte,Tryz.f191,bC,aK,bX,dB]
   intro _
   exact jZ _ hos (aE.le_refl _) rfl
@[go_sem] def aN2:List Nat:=[0,1,4,5,6,7,8,9,18,27]
@[go_sem] def a8J:List Nat:=[10,47]
@[go_sem] def a8K:Marks:=λid=>match id with|10=>([4],(.op 0 (.op 1 (.op 2 (.op 3 (.op 5 (.op 6 (.op 7 (.op 8 (.op 9 (.op 10 (.op 4 (.op 11 (.op 12 (.op 13 .nil)))))))))))))),[])|_=>([],.nil,[])
theorem bTV (a b:List Int) (hab:b.length=a.length) (hl:a.length<=1048576) (h0:0<a.length) (ha:dW a) (hb:dW b):fM Tryz.prog 192 [ints a,ints b] (ints (lV a b)):=by
 have hc:=uG a b
 have e0:b[Int.toNat 0]?=some (b.getD 0 0):=cI (l:=b) (i:=0) aA
 refine iN 50 aN2 a8J a8K Tryz.func192 λh=>?_
 simp -dsimp -implicitDefEqProofs only[go_sem,↓reduceIte,Tryz.f192,e0]
 refine⟨bN,by omega,?_⟩
 first|refine aJ.mk (aE4 (b.getD 0 0)) ?_|refine aF.mk (aE4 (b.getD 0 0)) ?_|refine aJ.bA (aE4 (b.getD 0 0)) ?_|refine aF.mk (aX.cU (aE4 (b.getD 0 0))) ?_
 simp -dsimp -implicitDefEqProofs only[go_sem,↓reduceIte,Tryz.f192]
 refine cZ aN2 a8J a8K (λx:Nat×Option Nat=>[(0,ints a),(1,ints b),(6,I (nV (b.getD 0 0))),(5,iO 1 ((lV a b).take x.1).length x.2),(7,I x.1)]) (λx=>bY h (.row 1 ((((lV a b).take x.1).map λn=>[I n]).map (List.map .v))) x.2) (λx=>x.1<=a.length/\fT h ((lV a b).take x.1) x.2) (λx=>a.length-x.1) (0,none) ⟨by simp[c4,b7,iO],by simp only[aQ];exact aE.le_refl _,fE _,by simp[fT]⟩ ?_
 rintro⟨k,o⟩ ⟨hk,hos⟩
 simp only at hk hos ⊢
 rcases bZ k a.length with hlt|hge
 ·have hy:(lV a b).take (k+1)=(lV a b).take k++[(lV a b)[k]'aA]:=jU aA
  have hv:=aQU (a:=a) (b:=b) hlt
  have hlk:((lV a b).take k).length=k:=by rw[jT];omega
  have ek:=cI hlt
  rw[hv]at hy
  cases o with
  |none =>
   rw[aZ]at hos
   rw[hos]at hy ⊢
   have hk0:k=0:=by rw[hos]at hlk;exact hlk.symm
   subst hk0
   simp -dsimp -implicitDefEqProofs only[go_sem,↓reduceIte,Tryz.f192,bM,aQ,hlt,ek]
   intro _
   refine aEZ aN2 a8J a8K (λ_:Unit=>[(0,ints a),(1,ints b),(5,.sl 1 [] true),(6,I (nV (b.getD 0 0))),(7,I (0:Nat)),(8,I (a.getD 0 0)),(9,I (0:Nat))]) (λ_=>True) (λ_=>0) () ⟨by simp[c4,b7],trivial⟩ ?_
   intro _ _
   simp -dsimp -implicitDefEqProofs only[go_sem,↓reduceIte,Tryz.f192,bX,dB]
   try(refine⟨λq=>absurd q aA,λ_=>?_⟩)
   first|refine aJ.mk (cG (a.getD 0 0) (nV (b.getD 0 0)) (ha.get 0) (num_inv _)) ?_|refine aF.mk (cG (a.getD 0 0) (nV (b.getD 0 0)) (ha.get 0) (num_inv _)) ?_|refine aJ.bA (cG (a.getD 0 0) (nV (b.getD 0 0)) (ha.get 0) (num_inv _)) ?_|refine aF.mk (aX.cU (cG (a.getD 0 0) (nV (b.getD 0 0)) (ha.get 0) (num_inv _))) ?_
   simp -dsimp -implicitDefEqProofs only[go_sem,↓reduceIte,Tryz.f192]
   repeat'(with_reducible first|intro _|refine And.intro ?_ ?_)
   all_goals try(first|omega|decide)
   rename_i b hb
   refine⟨(0+1,some b),?_⟩
   simp only[hy]
   refine⟨⟨rfl,?_⟩,aE.le_refl _,⟨by omega,hb⟩,by omega⟩
   rw[IntWalk.i64_in _ aA];rfl
  |some n =>
   rw[aV]at hos
   simp -dsimp -implicitDefEqProofs only[go_sem,↓reduceIte,Tryz.f192,bC,aK,hlt,ek]
   intro _
   have htk:(lV a b).take k=lJ a b k:=xY a b _ hk
   refine aEZ aN2 a8J a8K (λi:Nat=>[(0,ints a),(1,ints b),(5,.os n 1 0 ((lV a b).take k).length),(6,I (nV (b.getD 0 0))),(7,I k),(8,I (dvS (lJ a b k) b k (a.getD k 0) i)),(9,I i)]) (λi=>i<=k) (λi=>k-i) 0 ⟨by simp[c4,b7,dvS],fE _⟩ ?_
   intro i hi
   rcases bZ i k with mA|aQI
   ·have ei:((lV a b).take k)[i]?=some ((lJ a b k).getD i 0):=by rw[htk];exact cI (by rw[sE];exact mA)
    have eb:=cI (l:=b) (i:=k-i) aA
    have ew:IntKind.i64.wrap ((k:Int)-(i:Int))=((k-i:Nat):Int):=by rw[IntWalk.i64_in _ aA];omega
    simp -dsimp -implicitDefEqProofs only[go_sem,↓reduceIte,Tryz.f192,mA,ei,eb,ew]
    refine⟨by omega,by omega,?_⟩
    first|refine aJ.mk (cG ((lJ a b k).getD i 0) (b.getD (k-i) 0) ((yM a b k).get i) (hb.get (k-i))) ?_|refine aF.mk (cG ((lJ a b k).getD i 0) (b.getD (k-i) 0) ((yM a b k).get i) (hb.get (k-i))) ?_|refine aJ.bA (cG ((lJ a b k).getD i 0) (b.getD (k-i) 0) ((yM a b k).get i) (hb.get (k-i))) ?_|refine aF.mk (aX.cU (cG ((lJ a b k).getD i 0) (b.getD (k-i) 0) ((yM a b k).get i) (hb.get (k-i)))) ?_
    simp -dsimp -implicitDefEqProofs only[go_sem,↓reduceIte,Tryz.f192]
    first|refine aJ.mk (aKB (dvS (lJ a b k) b k (a.getD k 0) i) ((lJ a b k).getD i 0*b.getD (k-i) 0%1000003) (aCX _ _ _ (ha.get k) i) (nY _)) ?_|refine aF.mk (aKB (dvS (lJ a b k) b k (a.getD k 0) i) ((lJ a b k).getD i 0*b.getD (k-i) 0%1000003) (aCX _ _ _ (ha.get k) i) (nY _)) ?_|refine aJ.bA (aKB (dvS (lJ a b k) b k (a.getD k 0) i) ((lJ a b k).getD i 0*b.getD (k-i) 0%1000003) (aCX _ _ _ (ha.get k) i) (nY _)) ?_|refine aF.mk (aX.cU (aKB (dvS (lJ a b k) b k (a.getD k 0) i) ((lJ a b k).getD i 0*b.getD (k-i) 0%1000003) (aCX _ _ _ (ha.get k) i) (nY _))) ?_
    simp -dsimp -implicitDefEqProofs only[go_sem,↓reduceIte,Tryz.f192]
    refine⟨i+1,⟨?_,by rw[IntWalk.i64_in _ aA];rfl⟩,by omega,by omega⟩
    rw[dvS]
    omega
   ·have hi':i=k:=by omega
    subst hi'
    simp -dsimp -implicitDefEqProofs only[go_sem,↓reduceIte,Tryz.f192,bX,dB]
    first|refine aJ.mk (cG (dvS (lJ a b i) b i (a.getD i 0) i) (nV (b.getD 0 0)) (aCX _ _ _ (ha.get i) i) (num_inv _)) ?_|refine aF.mk (cG (dvS (lJ a b i) b i (a.getD i 0) i) (nV (b.getD 0 0)) (aCX _ _ _ (ha.get i) i) (num_inv _)) ?_|refine aJ.bA (cG (dvS (lJ a b i) b i (a.getD i 0) i) (nV (b.getD 0 0)) (aCX _ _ _ (ha.get i) i) (num_inv _)) ?_|refine aF.mk (aX.cU (cG (dvS (lJ a b i) b i (a.getD i 0) i) (nV (b.getD 0 0)) (aCX _ _ _ (ha.get i) i) (num_inv _))) ?_
    simp -dsimp -implicitDefEqProofs only[go_sem,↓reduceIte,Tryz.f192]
    repeat'(with_reducible first|intro _|refine And.intro ?_ ?_)
    all_goals try(first|omega|decide|exact iH _)
    rename_i b hb
    refine⟨(i+1,some b),?_⟩
    simp only[hy,aK,bC,aV]
    refine⟨⟨by rw[mV];rfl,?_⟩,?_,⟨by omega,hb.2⟩,by omega⟩
    ·rw[IntWalk.i64_in _ aA];rfl
    ·rw[←jD];exact qM hos
 ·have hk':k=a.length:=by omega
  subst hk'
  rw[pQ aA]at hos ⊢
  cases o with
  |none =>
   rw[aZ]at hos
   simp -dsimp -implicitDefEqProofs only[go_sem,↓reduceIte,Tryz.f192,bM,aQ,bX,dB]
   intro _
   rw[hos]
   exact Shift.of (Sub.loose _ _ _) (aE.le_refl _)
  |some n =>
   rw[aV]at hos
   simp -dsimp -implicitDefEqProofs only[go_sem,↓reduceIte,Tryz.f192,bC,aK,bX,dB]
   intro _
   exact jZ _ hos (aE.le_refl _) rfl
theorem tM {h h':aE} {n:Nat} (l:List (List Int)) (h0:h n=none) (hl:(aR h n (.row 1 ((l.map λs=>[ints s]).map (List.map .v)))).le h') {len:Nat} (e:len=l.length):Shift (.os n 1 0 len) h' (fN 1 (λs=>[ints s]) l) h :=
 aBD (l.map λs=>[ints s]) h0 hl len (by rw[nG];exact e)
@[go_sem] def bQS:List Nat:=[7,19,23]
theorem aWH (env:List (List Int)) (s:List Int) (hl:env.length<=1048576):fM Tryz.prog 187 [fN 1 (λs=>[ints s]) env,ints s] (fN 1 (λs=>[ints s]) (env++[s])):=by
 refine iN 25 aSV bQS cK Tryz.func187 λh=>?_
 simp -dsimp -implicitDefEqProofs only[go_sem,↓reduceIte,Tryz.f187]
 refine⟨bN,?_⟩
 refine cZ aSV bQS cK (λx:Nat×Option Nat=>[(0,fN 1 (λs=>[ints s]) env),(1,ints s),(5,iO 1 (env.take x.1).length x.2),(6,I x.1)]) (λx=>bY h (.row 1 (((env.take x.1).map λs=>[ints s]).map (List.map .v))) x.2) (λx=>x.1<=env.length/\fT h (env.take x.1) x.2) (λx=>env.length-x.1) (0,none) ⟨by simp[c4,b7,iO],by simp only[aQ];exact aE.le_refl _,fE _,by simp[fT]⟩ ?_
 rintro⟨k,o⟩ ⟨hk,hos⟩
 simp only at hk hos ⊢
 rcases bZ k env.length with hlt|hge
 ·have ea:env[k]?=some env[k]:=cM hlt
  have hy:env.take (k+1)=env.take k++[env[k]]:=jU hlt
  have hlk:(env.take k).length=k:=by rw[jT];omega
  cases o with
  |none =>
   rw[aZ]at hos
   rw[hos]at hy ⊢
   simp -dsimp -implicitDefEqProofs only[go_sem,↓reduceIte,Tryz.f187,bM,aQ,hlt,ea]
   intro _
   repeat'(with_reducible first|intro _|refine And.intro ?_ ?_)
   all_goals try(first|omega|decide)
   rename_i b hb
   refine⟨(k+1,some b),?_⟩
   simp only[hy]
   refine⟨⟨rfl,?_⟩,aE.le_refl _,⟨by omega,hb⟩,by omega⟩
   rw[IntWalk.i64_in _ aA];rfl
  |some n =>
   rw[aV]at hos
   simp -dsimp -implicitDefEqProofs only[go_sem,↓reduceIte,Tryz.f187,bC,aK,hlt,ea]
   intro _
   repeat'(with_reducible first|intro _|refine And.intro ?_ ?_)
   all_goals try(first|omega|decide|exact iH _)
   rename_i b hb
   refine⟨(k+1,some b),?_⟩
   simp only[hy,aK,bC,aV]
   refine⟨⟨by rw[mV];rfl,?_⟩,?_,⟨by omega,hb.2⟩,by omega⟩
   ·rw[IntWalk.i64_in _ aA];rfl
   ·rw[←jD];exact qM hos
 ·have hk':k=env.length:=by omega
  subst hk'
  rw[mR]at hos ⊢
  cases o with
  |none =>
   rw[aZ]at hos
   simp -dsimp -implicitDefEqProofs only[go_sem,↓reduceIte,Tryz.f187,bM,aQ,bX,dB]
   subst hos
   exact λ_=>⟨bN,bN,bN,λn hn=>tM [s] hn (aE.le_refl _) rfl⟩
  |some n =>
   rw[aV]at hos
   simp -dsimp -implicitDefEqProofs only[go_sem,↓reduceIte,Tryz.f187,bC,aK,bX,dB]
   exact λ_=>⟨bN,bN,bN,iH _,by omega,by omega,λm hm=>tM (env++[s]) hm.2 (by rw[←jD];exact qM hos) bD2⟩
def fG (p:aC) (sz st:Nat) (c:Int):bE:=.row 4 [[.v (.ip 1 [p.c] 0 0),.v (I sz),.v (I st),.v (I c)]]
def RnQ (h:aE) (nb:Nat) (p:aC) (sz st:Nat) (c:Int) (X:Out (List Int)):aH->aE->Prop:=λr h'=>∃ s t c',r=ints s/\h'=aR h nb (fG p sz t c')/\bV sz s/\st<=t/\t<=3000/\kW (r6 c X) s t c'
def b82 (h:aE) (nb:Nat) (p:aC) (sz st:Nat) (c:Int) (n:Nat) (X:Out (List (List Int))):aH->aE->Prop:=λr h'=>∃ l t c',r=b6 l/\h'=aR h nb (fG p sz t c')/\l.length=n/\(∀ s∈l,bV sz s)/\st<=t/\t<=3000/\kW (r6 c X) l t c'
@[go_sem] def bLY:List Nat:=[0,1,4,9]
theorem a8L (h:aE) (nb:Nat) (p:aC) (sz st:Nat) (c d:Int) (hb:h nb=some (fG p sz st c)) (c6:sz<=1048576):jC Tryz.prog 185 [.op nb 4 0 0,I d] h λr h'=>r=ints (fQ 0 sz)/\h'=aR h nb (fG p sz st (if c=0 then d else c)):=by
 have hb':=hb
 unfold fG at hb'
 refine aP0 19 bLY dC cK Tryz.func185 ?_
 simp -dsimp -implicitDefEqProofs only[go_sem,↓reduceIte,Tryz.f185,hb']
 refine⟨λhc=>?_,λhc=>?_⟩
 ·try simp -dsimp -implicitDefEqProofs only[go_sem,↓reduceIte,Tryz.f185]
  first|refine aJ.mk (pO 0 sz c6) ?_|refine aF.mk (pO 0 sz c6) ?_|refine aJ.bA (pO 0 sz c6) ?_|refine aF.mk (aX.cU (pO 0 sz c6)) ?_
  simp -dsimp -implicitDefEqProofs only[go_sem,↓reduceIte,Tryz.f185]
  exact⟨_,by rw[if_pos hc];exact aE.le_refl _,rfl⟩
 ·try simp -dsimp -implicitDefEqProofs only[go_sem,↓reduceIte,Tryz.f185,hb']
  first|refine aJ.mk (pO 0 sz c6) ?_|refine aF.mk (pO 0 sz c6) ?_|refine aJ.bA (pO 0 sz c6) ?_|refine aF.mk (aX.cU (pO 0 sz c6)) ?_
  simp -dsimp -implicitDefEqProofs only[go_sem,↓reduceIte,Tryz.f185]
  refine⟨_,?_,rfl⟩
  rw[if_neg hc,vX hb]
  exact aE.le_refl _
@[go_sem] def sS:List Nat:=[0,1,2,6,7,8,9,14,25,38,39,50,59,70,82,99,119,142,151,160,169]
@[go_sem] def aDW:Marks:=λid=>match id with|8=>([7,8],(.op 0 (.op 1 (.op 2 (.op 3 (.op 4 (.op 5 (.op 6 (.op 7 (.op 8 (.op 9 .nil)))))))))),[])|19=>([8,9],(.op 0 (.op 1 (.op 2 (.op 3 (.op 4 (.op 5 (.op 6 (.op 7 (.op 8 (.op 9 (.op 10 .nil))))))))))),[])|_=>([],.nil,[])
def v8 (p:aC) (sz n:Nat):Prop:=∀ (h:aE) (nb st:Nat) (c:Int) (e:aB) (env:List (List Int)) (funcs:Int),h nb=some (fG p sz st c)->st<=3000->3001<=n+st->e.ok p funcs env.length->0<=funcs->funcs<=p.aD.length->(∀ s∈env,bV sz s)->env.length<=412+st ->
 jC Tryz.prog 169 [.op nb 4 0 0,.ip 5 [e.c] 0 0,b6 env] h (RnQ h nb p sz st c (iM p sz n st e env))
theorem bTW {l:List aB} {k:Nat} {x:aB} (h:l[k]?=some x) (i:Nat) (hi:i=k):Sub (.ip 5 (l.map aB.c) i 0) (.ip 5 [x.c] 0 0):=by
 subst hi
 exact Sub.ip (by rw[nE,h];rfl) cT
theorem v8.at {p:aC} {sz n:Nat} (hv:v8 p sz n) {l:List aB} {i:Nat} {e:aB} (hi:l[i]?=some e) (h:aE) (nb st:Nat) (c:Int) (env:List (List Int)) (funcs:Int) (hb:h nb=some (fG p sz st c)) (hst:st<=3000) (hn:3001<=n+st) (hok:e.ok p funcs env.length) (iC:0<=funcs) (hf:funcs<=p.aD.length) (henv:∀ s∈env,bV sz s) (hel:env.length<=412+st) :
  jC Tryz.prog 169 [.op nb 4 0 0,.ip 5 (l.map aB.c) i 0,b6 env] h (RnQ h nb p sz st c (iM p sz n st e env)) :=
 jC.sub (.cons (.refl _) (.cons (bTW hi _ rfl) (.cons (.refl _) .nil))) (hv h nb st c e env funcs hb hst hn hok iC hf henv hel)
@[go_sem] def a8M:List Nat:=[0,1,2,6,7,8,16]
@[go_sem] def bQT:List Nat:=[9,29]
theorem aN3 {p:aC} {sz n:Nat} (hv:v8 p sz n) (h:aE) (nb st:Nat) (c:Int) (f:aU) (env:List (List Int)) (funcs:Int) (hb:h nb=some (fG p sz st c)) (hst:st<=3000) (hn:3001<=n+st)
  (hl:f.aN.length<=1048576) (hok:∀ e∈f.aN,e.ok p funcs env.length) (iC:0<=funcs) (hf:funcs<=p.aD.length) (henv:∀ s∈env,bV sz s) (hel:env.length<=412+st) :
  jC Tryz.prog 122 [.op nb 4 0 0,.ip 3 [f.c] 0 0,b6 env] h (b82 h nb p sz st c f.aN.length (jY (λt e=>iM p sz n t e env) f.aN st)):=by
 rw[aU.aS]
 refine lU 32 a8M bQT cK Tryz.func122 ?_
 simp -dsimp -implicitDefEqProofs only[go_sem,↓reduceIte,Tryz.f122]
 refine⟨bN,?_⟩
 refine cZ a8M bQT cK (λx:Nat×List (List Int)×Nat×Int×Option Nat=>[(0,.op nb 4 0 0),(1,.ip 3 [[.str f.e8,I f.aT,fN 5 aB.c f.aN]] 0 0),(2,b6 env),(7,iO 1 x.2.1.length x.2.2.2.2),(8,I x.1)]) (λx=>bY (aR h nb (fG p sz x.2.2.1 x.2.2.2.1)) (.row 1 ((x.2.1.map λs=>[ints s]).map (List.map .v))) x.2.2.2.2) (λx=>x.1<=f.aN.length/\x.2.1.length=x.1/\(∀ s∈x.2.1,bV sz s)/\st<=x.2.2.1/\x.2.2.1<=3000/\kW (r6 c (jY (λt e=>iM p sz n t e env) (f.aN.take x.1) st)) x.2.1 x.2.2.1 x.2.2.2.1/\fT h x.2.1 x.2.2.2.2) (λx=>f.aN.length-x.1) (0,[],st,c,none) ⟨by simp[c4,b7,iO],by simp only[aQ];rw[vX hb];exact aE.le_refl _,fE _,rfl,by simp,iH _,hst,jK _ _ _,rfl⟩ ?_
 rintro⟨k,vs,t,c',o⟩ ⟨hk,hvl,hvs,ht0,ht,ho,hos⟩
 simp only at hk hvl hvs ht0 ht ho hos ⊢
 rcases bZ k f.aN.length with hlt|hge
 ·have ek:f.aN[k]?=some f.aN[k]:=cM hlt
  have hnext:∀ (s:List Int) (t2:Nat) (c2:Int),kW (r6 c' (iM p sz n t f.aN[k] env)) s t2 c2->kW (r6 c (jY (λt e=>iM p sz n t e env) (f.aN.take (k+1)) st)) (vs++[s]) t2 c2:=λs t2 c2 h3=>by
   rw[jU hlt,aBE]
   exact ho.eN (h3.eN (jK _ _ _))
  have hall:∀ s,bV sz s->∀ x∈vs++[s],bV sz x:=λs hs=>yN hvs hs
  cases o with
  |none =>
   rw[aZ]at hos
   subst hos
   simp -dsimp -implicitDefEqProofs only[go_sem,↓reduceIte,Tryz.f122,bM,aQ,hlt,ek]
   intro _
   refine aJ.gS (hv.at ek (aR h nb (fG p sz t c')) nb t c' env funcs (aM _ _ _) ht aA (hok _ (eI _)) iC hf henv aA) ?_
   rintro r h' ⟨s,t2,c2,rfl,rfl,hs,h1,h2,h3⟩
   simp -dsimp -implicitDefEqProofs only[go_sem,↓reduceIte,Tryz.f122]
   refine⟨bN,bN,bN,?_⟩
   intro b q_b
   obtain⟨mY,dP,dO,kY⟩:=bB (show ¬b=nb from pjx q_b)
   have z_b:h b=none:=pjx q_b
   refine⟨(k+1,[s],t2,c2,some b),⟨rfl,by rw[IntWalk.i64_in _ aA];rfl⟩,(o6 bRV),⟨by omega,by simp only[al3]at hvl;subst hvl;rfl,λx hx=>hall s hs x hx,aLG ht0 h1,h2,hnext s t2 c2 h3,z_b⟩,by simp only;omega⟩
  |some m =>
   rw[aV]at hos
   obtain⟨mB,cY,cX,kM⟩:=bB (show ¬m=nb from λe=>by rw[e,hb]at hos;cases hos)
   simp -dsimp -implicitDefEqProofs only[go_sem,↓reduceIte,Tryz.f122,bC,aK,hlt,ek]
   intro _
   refine aJ.gS (hv.at ek (aR (aR h nb (fG p sz t c')) m (.row 1 ((vs.map λs=>[ints s]).map (List.map .v)))) nb t c' env funcs aY6 ht aA (hok _ (eI _)) iC hf henv aA) ?_
   rintro r h' ⟨s,t2,c2,rfl,rfl,hs,h1,h2,h3⟩
   simp -dsimp -implicitDefEqProofs only[go_sem,↓reduceIte,Tryz.f122,aI,cY,cX]
   refine⟨bN,bN,bN,iH _,by omega,by omega,?_⟩
   intro b q_b
   obtain⟨mY,dP,dO,kY⟩:=bB (show ¬b=nb from pjx q_b)
   obtain⟨sG,fI,fJ,rT⟩:=bB (show ¬b=m from pjx q_b)
   have z_b:h b=none:=pjx q_b
   refine⟨(k+1,vs++[s],t2,c2,some b),⟨by rw[bC,mV];rfl,by rw[IntWalk.i64_in _ aA];rfl⟩,?_,⟨by omega,by rw[mV,hvl];rfl,hall s hs,aLG ht0 h1,h2,hnext s t2 c2 h3,z_b⟩,by simp only;omega⟩
   simp only[aK]
   rw[←jD ints]
   exact(o6 bRU)
 ·have hk':k=f.aN.length:=by omega
  subst hk'
  rw[mR]at ho
  cases o with
  |none =>
   rw[aZ]at hos
   subst hos
   simp -dsimp -implicitDefEqProofs only[go_sem,↓reduceIte,Tryz.f122,bM,aQ,bX,dB]
   intro _
   exact⟨b6 [],_,Shift.of (Sub.loose _ _ _) (aE.le_refl _),[],t,c',rfl,rfl,hvl,hvs,ht0,ht,ho⟩
  |some m =>
   rw[aV]at hos
   simp -dsimp -implicitDefEqProofs only[go_sem,↓reduceIte,Tryz.f122,bC,aK,bX,dB]
   intro _
   have hmn:¬m=nb:=λe=>by rw[e,hb]at hos;cases hos
   exact⟨b6 vs,_,aBD (vs.map λs=>[ints s]) (h:=aR h nb (fG p sz t c')) (by rw[aI _ _ _ _ hmn,hos]) (aE.le_refl _) _ aTF,vs,t,c',rfl,rfl,hvl,hvs,ht0,ht,ho⟩
@[go_sem] def aKC:List Nat:=[0,1,2,6,7,8,9,10,18,49,67]
@[go_sem] def a0Q:List Nat:=[11,31]
@[go_sem] def a0R:Marks:=λid=>match id with|6=>([3],(.op 0 (.op 1 (.op 2 (.op 7 (.op 8 (.op 9 (.op 10 (.op 3 (.op 4 (.op 5 (.op 6 (.op 11 (.op 12 .nil))))))))))))),[])|8=>([11],(.op 0 (.op 1 (.op 2 (.op 3 (.op 4 (.op 5 (.op 6 (.op 7 (.op 8 (.op 9 (.op 10 (.op 11 (.op 12 .nil))))))))))))),[])|_=>([],.nil,[])
theorem bLZ {p:aC} (hp:p.ok) {sz n:Nat} (hv:v8 p sz n) (h:aE) (nb st:Nat) (e:aB) (env:List (List Int)) (funcs:Int) (hb:h nb=some (fG p sz st 0)) (hst:st<=3000) (hn:3001<=n+st) (hok:e.ok p funcs env.length) (iC:0<=funcs) (hf:funcs<=p.aD.length) (henv:∀ s∈env,bV sz s) (hel:env.length<=412+st) (hk:e.aP=10) :
  jC Tryz.prog 188 [.op nb 4 0 0,.ip 5 [e.c] 0 0,b6 env] h (RnQ h nb p sz st 0 ((jY (λt e=>iM p sz n t e env) e.aL st).andThen λvs t=>iM p sz n t (p.out e.aW e.bR) vs)):=by
 obtain⟨f,F⟩:=nD hp hok hf (.inl hk)
 have f1:=F.lo
 have f2:=F.hi
 have f3:=F.pk
 have f4:=F.pk2
 have f5:=F.kids
 have f6:=F.params
 have f8:=F.outs
 have f9:=F.loop
 have hkok:=cO hok aA
 rw[aB.aS]
 refine lU 81 aKC a0Q a0R Tryz.func188 ?_
 simp -dsimp -implicitDefEqProofs only[go_sem,↓reduceIte,Tryz.f188]
 refine⟨bN,?_⟩
 refine cZ aKC a0Q a0R (λx:Nat×List (List Int)×Nat×Int×Option Nat=>[(0,.op nb 4 0 0),(1,.ip 5 [[I e.aP,I e.aW,I e.bR,I e.bI,fN 5 aB.c e.aL]] 0 0),(2,b6 env),(7,iO 1 x.2.1.length x.2.2.2.2),(8,I x.1)]) (λx=>bY (aR h nb (fG p sz x.2.2.1 x.2.2.2.1)) (.row 1 ((x.2.1.map λs=>[ints s]).map (List.map .v))) x.2.2.2.2) (λx=>x.1<=e.aL.length/\x.2.1.length=x.1/\(∀ s∈x.2.1,bV sz s)/\st<=x.2.2.1/\x.2.2.1<=3000/\kW (r6 0 (jY (λt e=>iM p sz n t e env) (e.aL.take x.1) st)) x.2.1 x.2.2.1 x.2.2.2.1/\fT h x.2.1 x.2.2.2.2) (λx=>e.aL.length-x.1) (0,[],st,0,none) ⟨by simp[c4,b7,iO],by simp only[aQ];rw[vX hb];exact aE.le_refl _,fE _,rfl,by simp,iH _,hst,jK _ _ _,rfl⟩ ?_
 rintro⟨k,vs,t,c',o⟩ ⟨hk2,hvl,hvs,ht0,ht,ho,hos⟩
 simp only at hk2 hvl hvs ht0 ht ho hos ⊢
 rcases bZ k e.aL.length with hlt|hge
 ·have ek:e.aL[k]?=some e.aL[k]:=cM hlt
  have hnext:∀ (s:List Int) (t2:Nat) (c2:Int),kW (r6 c' (iM p sz n t e.aL[k] env)) s t2 c2->kW (r6 0 (jY (λt e=>iM p sz n t e env) (e.aL.take (k+1)) st)) (vs++[s]) t2 c2:=λs t2 c2 h3=>by
   rw[jU hlt,aBE]
   exact ho.eN (h3.eN (jK _ _ _))
  have hall:∀ s,bV sz s->∀ x∈vs++[s],bV sz x:=λs hs=>yN hvs hs
  cases o with
  |none =>
   rw[aZ]at hos
   subst hos
   simp -dsimp -implicitDefEqProofs only[go_sem,↓reduceIte,Tryz.f188,bM,aQ,hlt,ek]
   intro _
   refine aJ.gS (hv.at ek (aR h nb (fG p sz t c')) nb t c' env funcs (aM _ _ _) ht aA (hkok _ (eI _)) iC hf henv aA) ?_
   rintro r h' ⟨s,t2,c2,rfl,rfl,hs,h1,h2,h3⟩
   simp -dsimp -implicitDefEqProofs only[go_sem,↓reduceIte,Tryz.f188]
   refine⟨bN,bN,bN,?_⟩
   intro b q_b
   obtain⟨mY,dP,dO,kY⟩:=bB (show ¬b=nb from pjx q_b)
   have z_b:h b=none:=pjx q_b
   refine⟨(k+1,[s],t2,c2,some b),⟨rfl,by rw[IntWalk.i64_in _ aA];rfl⟩,(o6 bRV),⟨by omega,by simp only[al3]at hvl;subst hvl;rfl,λx hx=>hall s hs x hx,aLG ht0 h1,h2,hnext s t2 c2 h3,z_b⟩,by simp only;omega⟩
  |some m =>
   rw[aV]at hos
   obtain⟨mB,cY,cX,kM⟩:=bB (show ¬m=nb from λe=>by rw[e,hb]at hos;cases hos)
   simp -dsimp -implicitDefEqProofs only[go_sem,↓reduceIte,Tryz.f188,bC,aK,hlt,ek]
   intro _
   refine aJ.gS (hv.at ek (aR (aR h nb (fG p sz t c')) m (.row 1 ((vs.map λs=>[ints s]).map (List.map .v)))) nb t c' env funcs aY6 ht aA (hkok _ (eI _)) iC hf henv aA) ?_
   rintro r h' ⟨s,t2,c2,rfl,rfl,hs,h1,h2,h3⟩
   simp -dsimp -implicitDefEqProofs only[go_sem,↓reduceIte,Tryz.f188,aI,cY,cX]
   refine⟨bN,bN,bN,iH _,by omega,by omega,?_⟩
   intro b q_b
   obtain⟨mY,dP,dO,kY⟩:=bB (show ¬b=nb from pjx q_b)
   obtain⟨sG,fI,fJ,rT⟩:=bB (show ¬b=m from pjx q_b)
   have z_b:h b=none:=pjx q_b
   refine⟨(k+1,vs++[s],t2,c2,some b),⟨by rw[bC,mV];rfl,by rw[IntWalk.i64_in _ aA];rfl⟩,?_,⟨by omega,by rw[mV,hvl];rfl,hall s hs,aLG ht0 h1,h2,hnext s t2 c2 h3,z_b⟩,by simp only;omega⟩
   simp only[aK]
   rw[←jD ints]
   exact(o6 bRU)
 have hk':k=e.aL.length:=by omega
 subst hk'
 rw[mR]at ho
 have gp:vs[e.bR.toNat]?=some (vs.getD e.bR.toNat [])∨e.aP=10:=by
  by_cases h10:e.aP=10
  ·exact .inr h10
  ·exact .inl (lM (by have:=f9 aA;omega))
 cases o with
 |none =>
  rw[aZ]at hos
  subst hos
  simp -dsimp -implicitDefEqProofs only[go_sem,↓reduceIte,Tryz.f188,bM,aQ,bX,dB,fG,hk,F.get,F.out,aU.aS,aC.aS]
  intro _
  refine⟨f1,f2,f3,by omega,?_⟩
  refine aJ.gS (jC.sub (.cons (.refl _) (.cons (.refl _) (.cons (Sub.loose _ _ _) .nil))) (hv.at F.out (aR h nb (fG p sz t c')) nb t c' [] e.aW (aM _ _ _) ht aA a6M f1 aA cT cT)) ?_
  rintro r h' ⟨s,t2,c2,rfl,rfl,hs,b1,b2,b3⟩
  simp -dsimp -implicitDefEqProofs only[go_sem,↓reduceIte,Tryz.f188]
  refine⟨_,aR h nb (fG p sz t2 c2),bG x7,s,t2,c2,rfl,rfl,hs,by omega,b2,?_⟩
  exact ho.eN b3
 |some m =>
  rw[aV]at hos
  obtain⟨mB,cY,cX,kM⟩:=bB (show ¬m=nb from λe=>by rw[e,hb]at hos;cases hos)
  simp -dsimp -implicitDefEqProofs only[go_sem,↓reduceIte,Tryz.f188,bC,aK,bX,dB,fG,aI,cY,cX,hk,F.get,F.out,aU.aS,aC.aS]
  intro _
  refine⟨f1,f2,f3,by omega,?_⟩
  refine aJ.bF8 rfl rfl kM aTF (by rw[aI _ _ _ _ mB];exact hos) ?_
  refine jC.mono (hv.at F.out (aR (aR h nb (fG p sz t c')) m .gone) nb t c' vs e.aW aY6 ht aA a6M f1 aA hvs aA) ?_
  rintro r h' ⟨s,t2,c2,rfl,rfl,hs,b1,b2,b3⟩
  simp -dsimp -implicitDefEqProofs only[go_sem,↓reduceIte,Tryz.f188]
  refine⟨_,aR h nb (fG p sz t2 c2),bG (o6 bO8),s,t2,c2,rfl,rfl,hs,by omega,b2,?_⟩
  exact ho.eN b3
theorem bL0 {p:aC} (hp:p.ok) {sz n:Nat} (hv:v8 p sz n) (h:aE) (nb st:Nat) (e:aB) (env:List (List Int)) (funcs:Int) (hb:h nb=some (fG p sz st 0)) (hst:st<=3000) (hn:3001<=n+st) (hok:e.ok p funcs env.length) (iC:0<=funcs) (hf:funcs<=p.aD.length) (henv:∀ s∈env,bV sz s) (hel:env.length<=412+st) (hk:e.aP=11) :
  jC Tryz.prog 188 [.op nb 4 0 0,.ip 5 [e.c] 0 0,b6 env] h (RnQ h nb p sz st 0 ((jY (λt e=>iM p sz n t e env) e.aL st).andThen λvs t=>(pN (λvs t=>jY (λt e=>iM p sz n t e vs) (p.outs e.aW) t) e.bI.toNat vs t).andThen λvs t=>.ok (vs.getD e.bR.toNat [],t))):=by
 obtain⟨f,F⟩:=nD hp hok hf (.inr hk)
 have f1:=F.lo
 have f2:=F.hi
 have f3:=F.pk
 have f4:=F.pk2
 have f5:=F.kids
 have f6:=F.params
 have f8:=F.outs
 have f9:=F.loop
 have hkok:=cO hok aA
 rw[aB.aS]
 refine lU 81 aKC a0Q a0R Tryz.func188 ?_
 simp -dsimp -implicitDefEqProofs only[go_sem,↓reduceIte,Tryz.f188]
 refine⟨bN,?_⟩
 refine cZ aKC a0Q a0R (λx:Nat×List (List Int)×Nat×Int×Option Nat=>[(0,.op nb 4 0 0),(1,.ip 5 [[I e.aP,I e.aW,I e.bR,I e.bI,fN 5 aB.c e.aL]] 0 0),(2,b6 env),(7,iO 1 x.2.1.length x.2.2.2.2),(8,I x.1)]) (λx=>bY (aR h nb (fG p sz x.2.2.1 x.2.2.2.1)) (.row 1 ((x.2.1.map λs=>[ints s]).map (List.map .v))) x.2.2.2.2) (λx=>x.1<=e.aL.length/\x.2.1.length=x.1/\(∀ s∈x.2.1,bV sz s)/\st<=x.2.2.1/\x.2.2.1<=3000/\kW (r6 0 (jY (λt e=>iM p sz n t e env) (e.aL.take x.1) st)) x.2.1 x.2.2.1 x.2.2.2.1/\fT h x.2.1 x.2.2.2.2) (λx=>e.aL.length-x.1) (0,[],st,0,none) ⟨by simp[c4,b7,iO],by simp only[aQ];rw[vX hb];exact aE.le_refl _,fE _,rfl,by simp,iH _,hst,jK _ _ _,rfl⟩ ?_
 rintro⟨k,vs,t,c',o⟩ ⟨hk2,hvl,hvs,ht0,ht,ho,hos⟩
 simp only at hk2 hvl hvs ht0 ht ho hos ⊢
 rcases bZ k e.aL.length with hlt|hge
 ·have ek:e.aL[k]?=some e.aL[k]:=cM hlt
  have hnext:∀ (s:List Int) (t2:Nat) (c2:Int),kW (r6 c' (iM p sz n t e.aL[k] env)) s t2 c2->kW (r6 0 (jY (λt e=>iM p sz n t e env) (e.aL.take (k+1)) st)) (vs++[s]) t2 c2:=λs t2 c2 h3=>by
   rw[jU hlt,aBE]
   exact ho.eN (h3.eN (jK _ _ _))
  have hall:∀ s,bV sz s->∀ x∈vs++[s],bV sz x:=λs hs=>yN hvs hs
  cases o with
  |none =>
   rw[aZ]at hos
   subst hos
   simp -dsimp -implicitDefEqProofs only[go_sem,↓reduceIte,Tryz.f188,bM,aQ,hlt,ek]
   intro _
   refine aJ.gS (hv.at ek (aR h nb (fG p sz t c')) nb t c' env funcs (aM _ _ _) ht aA (hkok _ (eI _)) iC hf henv aA) ?_
   rintro r h' ⟨s,t2,c2,rfl,rfl,hs,h1,h2,h3⟩
   simp -dsimp -implicitDefEqProofs only[go_sem,↓reduceIte,Tryz.f188]
   refine⟨bN,bN,bN,?_⟩
   intro b q_b
   obtain⟨mY,dP,dO,kY⟩:=bB (show ¬b=nb from pjx q_b)
   have z_b:h b=none:=pjx q_b
   refine⟨(k+1,[s],t2,c2,some b),⟨rfl,by rw[IntWalk.i64_in _ aA];rfl⟩,(o6 bRV),⟨by omega,by simp only[al3]at hvl;subst hvl;rfl,λx hx=>hall s hs x hx,aLG ht0 h1,h2,hnext s t2 c2 h3,z_b⟩,by simp only;omega⟩
  |some m =>
   rw[aV]at hos
   obtain⟨mB,cY,cX,kM⟩:=bB (show ¬m=nb from λe=>by rw[e,hb]at hos;cases hos)
   simp -dsimp -implicitDefEqProofs only[go_sem,↓reduceIte,Tryz.f188,bC,aK,hlt,ek]
   intro _
   refine aJ.gS (hv.at ek (aR (aR h nb (fG p sz t c')) m (.row 1 ((vs.map λs=>[ints s]).map (List.map .v)))) nb t c' env funcs aY6 ht aA (hkok _ (eI _)) iC hf henv aA) ?_
   rintro r h' ⟨s,t2,c2,rfl,rfl,hs,h1,h2,h3⟩
   simp -dsimp -implicitDefEqProofs only[go_sem,↓reduceIte,Tryz.f188,aI,cY,cX]
   refine⟨bN,bN,bN,iH _,by omega,by omega,?_⟩
   intro b q_b
   obtain⟨mY,dP,dO,kY⟩:=bB (show ¬b=nb from pjx q_b)
   obtain⟨sG,fI,fJ,rT⟩:=bB (show ¬b=m from pjx q_b)
   have z_b:h b=none:=pjx q_b
   refine⟨(k+1,vs++[s],t2,c2,some b),⟨by rw[bC,mV];rfl,by rw[IntWalk.i64_in _ aA];rfl⟩,?_,⟨by omega,by rw[mV,hvl];rfl,hall s hs,aLG ht0 h1,h2,hnext s t2 c2 h3,z_b⟩,by simp only;omega⟩
   simp only[aK]
   rw[←jD ints]
   exact(o6 bRU)
 have hk':k=e.aL.length:=by omega
 subst hk'
 rw[mR]at ho
 have gp:vs[e.bR.toNat]?=some (vs.getD e.bR.toNat [])∨e.aP=10:=by
  by_cases h10:e.aP=10
  ·exact .inr h10
  ·exact .inl (lM (by have:=f9 aA;omega))
 have gp':vs[e.bR.toNat]?=some (vs.getD e.bR.toNat []):=gp.resolve_right aA
 have g9:=f9 hk
 cases o with
 |none =>
  exfalso
  rw[aZ]at hos
  rw[hos]at hvl
  simp at hvl
  omega
 |some m =>
  rw[aV]at hos
  obtain⟨mB,cY,cX,kM⟩:=bB (show ¬m=nb from λe=>by rw[e,hb]at hos;cases hos)
  simp -dsimp -implicitDefEqProofs only[go_sem,↓reduceIte,Tryz.f188,bC,aK,bX,dB,fG,aI,cY,cX,hk,F.get,F.out,aU.aS,aC.aS]
  intro _
  refine⟨f1,f2,?_⟩
  refine aJP.a3C m (by rw[aI _ _ _ _ mB];exact hos) (by simp[gA,cY,cX]) ?_
  refine cZ aKC a0Q a0R (λx:Nat×List (List Int)×Nat×Int=>[(0,.op nb 4 0 0),(1,.ip 5 [[I 11,I e.aW,I e.bR,I e.bI,fN 5 aB.c e.aL]] 0 0),(7,b6 x.2.1),(9,.ip 3 (p.aD.map aU.c) e.aW.toNat 0),(10,I x.1)]) (λx=>aR h nb (fG p sz x.2.2.1 x.2.2.2)) (λx=>x.1<=e.bI.toNat/\x.2.1.length=f.aN.length/\(∀ s∈x.2.1,bV sz s)/\t<=x.2.2.1/\x.2.2.1<=3000/\kW (r6 c' (pN (λvs t=>jY (λt e=>iM p sz n t e vs) (p.outs e.aW) t) x.1 vs t)) x.2.1 x.2.2.1 x.2.2.2) (λx=>e.bI.toNat-x.1) (0,vs,t,c') ⟨by simp[c4,b7,aH.eM,cY,cX,pQ],(o6 (by repeat'(first|exact tY _ _|refine xD (by simp only[iS,↓reduceIte,eq_self,if_true,cY,cX,fG,aC.aS]) ?_|refine qY aI2 ?_))),fE _,by simp only;omega,hvs,iH _,ht,jK _ _ _⟩ ?_
  rintro⟨k,us,u,d⟩ ⟨hk1,hul,hus,ht1,ht2,hd⟩
  simp only at hk1 hul hus ht1 ht2 hd ⊢
  have gu:us[e.bR.toNat]?=some (us.getD e.bR.toNat []):=lM aA
  simp -dsimp -implicitDefEqProofs only[go_sem,↓reduceIte,Tryz.f188,fG,gu]
  refine⟨λhlt=>?_,λhge=>?_⟩
  ·refine aJ.gS (jC.sub (.cons (.refl _) (.cons (Sub.ip (by rw[nE,F.get];rfl) a66) (.cons (.refl _) .nil))) (aN3 hv (aR h nb (fG p sz u d)) nb u d f us e.aW (aM _ _ _) ht2 aA aA (by rw[hul,g9.2.2];exact F.oks) f1 aA hus aA)) ?_
   rintro r h' ⟨l2,t2,c2,rfl,rfl,hl2,xE,b1,b2,b3⟩
   simp -dsimp -implicitDefEqProofs only[go_sem,↓reduceIte,Tryz.f188]
   refine⟨(k+1,l2,t2,c2),⟨rfl,by rw[IntWalk.i64_in _ aA];rfl⟩,by simp only[aO];exact aE.le_refl _,⟨by omega,hl2,xE,by simp only;omega,b2,?_⟩,by simp only;omega⟩
   simp only
   rw[aCW]
   refine hd.eN ?_
   rw[F.eq]
   exact b3
  ·have hke:k=e.bI.toNat:=by omega
   refine⟨f3,by omega,_,_,bQ _ _,us.getD e.bR.toNat [],u,d,rfl,rfl,kI hus aA,by omega,ht2,?_⟩
   refine ho.eN ?_
   rw[←hke]
   exact hd.eN (jK _ _ _)
theorem bBQ {p:aC} {sz n:Nat} (c6:1<=sz/\sz<=1048576) (h:aE) (nb st:Nat) (c:Int) (e:aB) (env:List (List Int)) (hb:h nb=some (fG p sz st c)) (hst:st<=3000) (hs:¬c=0∨st=3000) :
  jC Tryz.prog 169 [.op nb 4 0 0,.ip 5 [e.c] 0 0,b6 env] h (RnQ h nb p sz st c (iM p sz (n+1) st e env)):=by
 rw[aB.aS]
 have hb':=hb
 unfold fG at hb'
 refine lU 186 sS dC aDW Tryz.func169 ?_
 simp -dsimp -implicitDefEqProofs only[go_sem,↓reduceIte,Tryz.f169,hb']
 refine⟨λhc=>?_,λhc=>?_⟩
 ·have hc':¬c=0:=by simpa using hc
  refine aJ.gS (a8L h nb p sz st c c hb c6.2) ?_
  rintro r h' ⟨rfl,rfl⟩
  simp -dsimp -implicitDefEqProofs only[go_sem,↓reduceIte,Tryz.f169]
  refine⟨_,_,bQ _ _,_,st,c,rfl,by rw[if_neg hc'],fP mZ,iH _,hst,by rw[vO _ hc'];exact mW _ _ hc'⟩
 ·have hc0:c=0:=by simpa using hc
  subst hc0
  have h3:st=3000:=by rcases hs with hs|hs;exact absurd rfl hs;exact hs
  subst h3
  try simp -dsimp -implicitDefEqProofs only[go_sem,↓reduceIte,Tryz.f169,hb']
  refine⟨λ_=>?_,λq=>absurd q cT⟩
  refine aJ.gS (a8L h nb p sz 3000 0 7 hb c6.2) ?_
  rintro r h' ⟨rfl,rfl⟩
  simp -dsimp -implicitDefEqProofs only[go_sem,↓reduceIte,Tryz.f169]
  refine⟨_,_,bQ _ _,_,3000,7,rfl,rfl,fP mZ,iH _,hst,?_⟩
  rw[dF,iM,if_pos rfl]
  exact mW _ _ cE
theorem bTX {p:aC} (hp:p.ok) {sz n:Nat} (c6:1<=sz/\sz<=1048576) (hv:v8 p sz n) (h:aE) (nb st:Nat) (e:aB) (env:List (List Int)) (funcs:Int) (hb:h nb=some (fG p sz st 0)) (hst:st<3000) (hn:3001<=n+1+st)
  (hok:e.ok p funcs env.length) (iC:0<=funcs) (hf:funcs<=p.aD.length) (henv:∀ s∈env,bV sz s) (hel:env.length<=412+st) (hk:e.aP=1) :
  jC Tryz.prog 169 [.op nb 4 0 0,.ip 5 [e.c] 0 0,b6 env] h (RnQ h nb p sz st 0 (iM p sz (n+1) st e env)):=by
 have hb':=hb
 unfold fG at hb'
 have e3:((st:Int)=3000)=False:=eq_false aA
 have ew:IntKind.i64.wrap ((st:Int)+1)=((st+1:Nat):Int):=by rw[IntWalk.i64_in _ aA];rfl
 have hnode:=(aB.cN _ _ _ _).1 hok
 have h3:¬st=3000:=by omega
 have hnum:oU e.aW:=((dA aA).1 hnode.1).2.2.2.1 hk
 rw[aB.aS]
 refine lU 186 sS dC aDW Tryz.func169 ?_
 simp -dsimp -implicitDefEqProofs only[go_sem,↓reduceIte,Tryz.f169,hb',e3,ew,hk]
 first|refine aJ.mk (pO e.aW sz c6.2) ?_|refine aF.mk (pO e.aW sz c6.2) ?_|refine aJ.bA (pO e.aW sz c6.2) ?_|refine aF.mk (aX.cU (pO e.aW sz c6.2)) ?_
 simp -dsimp -implicitDefEqProofs only[go_sem,↓reduceIte,Tryz.f169]
 refine⟨_,_,bQ _ _,_,st+1,0,rfl,rfl,fP hnum,r7 _,hst,?_⟩
 rw[dF,aQV h3 hk]
 exact nN _ _
theorem bTY {p:aC} (hp:p.ok) {sz n:Nat} (c6:1<=sz/\sz<=1048576) (hv:v8 p sz n) (h:aE) (nb st:Nat) (e:aB) (env:List (List Int)) (funcs:Int) (hb:h nb=some (fG p sz st 0)) (hst:st<3000) (hn:3001<=n+1+st)
  (hok:e.ok p funcs env.length) (iC:0<=funcs) (hf:funcs<=p.aD.length) (henv:∀ s∈env,bV sz s) (hel:env.length<=412+st) (hk:e.aP=2) :
  jC Tryz.prog 169 [.op nb 4 0 0,.ip 5 [e.c] 0 0,b6 env] h (RnQ h nb p sz st 0 (iM p sz (n+1) st e env)):=by
 have hb':=hb
 unfold fG at hb'
 have e3:((st:Int)=3000)=False:=eq_false aA
 have ew:IntKind.i64.wrap ((st:Int)+1)=((st+1:Nat):Int):=by rw[IntWalk.i64_in _ aA];rfl
 have hnode:=(aB.cN _ _ _ _).1 hok
 have h3:¬st=3000:=by omega
 have hnum:=((dA aA).1 hnode.1).2.2.2.2.1 hk
 have hlt:e.aW.toNat<env.length:=by omega
 rw[aB.aS]
 refine lU 186 sS dC aDW Tryz.func169 ?_
 simp -dsimp -implicitDefEqProofs only[go_sem,↓reduceIte,Tryz.f169,hb',e3,ew,hk,lM hlt]
 refine⟨hnum.1,by omega,_,_,bQ _ _,_,st+1,0,rfl,rfl,kI henv hlt,r7 _,hst,?_⟩
 rw[dF,aQW h3 hk]
 exact nN _ _
theorem bTZ {p:aC} (hp:p.ok) {sz n:Nat} (c6:1<=sz/\sz<=1048576) (hv:v8 p sz n) (h:aE) (nb st:Nat) (e:aB) (env:List (List Int)) (funcs:Int) (hb:h nb=some (fG p sz st 0)) (hst:st<3000) (hn:3001<=n+1+st)
  (hok:e.ok p funcs env.length) (iC:0<=funcs) (hf:funcs<=p.aD.length) (henv:∀ s∈env,bV sz s) (hel:env.length<=412+st) (hk:e.aP=8) :
  jC Tryz.prog 169 [.op nb 4 0 0,.ip 5 [e.c] 0 0,b6 env] h (RnQ h nb p sz st 0 (iM p sz (n+1) st e env)):=by
 have hb':=hb
 unfold fG at hb'
 have e3:((st:Int)=3000)=False:=eq_false aA
 have ew:IntKind.i64.wrap ((st:Int)+1)=((st+1:Nat):Int):=by rw[IntWalk.i64_in _ aA];rfl
 have hnode:=(aB.cN _ _ _ _).1 hok
 have h3:¬st=3000:=by omega
 have hlen:=cQ hok aA
 rw[hk,show dD 8=3 from rfl]at hlen
 have g0:e.aL[Int.toNat 0]?=some (e.fZ 0):=aB.fV aA
 have g1:e.aL[Int.toNat 1]?=some (e.fZ 1):=aB.fV aA
 have g2:e.aL[Int.toNat 2]?=some (e.fZ 2):=aB.fV aA
 have o0:=aB.dX hok (i:=0) aA
 have o1:=aB.dX hok (i:=1) aA
 have o2:=aB.dX hok (i:=2) aA
 rw[gQ aA]at o0 o1 o2
 rw[aB.aS]
 refine lU 186 sS dC aDW Tryz.func169 ?_
 simp -dsimp -implicitDefEqProofs only[go_sem,↓reduceIte,Tryz.f169,hb',e3,ew,hk,g0]
 refine⟨by omega,?_⟩
 refine aJ.gS (hv.at g0 (aR h nb (fG p sz (st+1) 0)) nb (st+1) 0 env funcs (aM _ _ _) aA aA o0 iC hf henv aA) ?_
 rintro r h' ⟨s1,t1,c1,rfl,rfl,x8,a1,a2,a3⟩
 have gs:s1[Int.toNat 0]?=some (s1.getD 0 0):=cI tD
 simp -dsimp -implicitDefEqProofs only[go_sem,↓reduceIte,Tryz.f169,gs,g1,g2]
 refine⟨by rw[x8.1];omega,λhz=>⟨by omega,?_⟩,λhz=>⟨by omega,?_⟩⟩
 ·rw[aO]
  refine aJ.gS (hv.at g1 (aR h nb (fG p sz t1 c1)) nb t1 c1 env funcs (aM _ _ _) aA aA o1 iC hf henv aA) ?_
  rintro r h' ⟨s2,t2,c2,rfl,rfl,xE,b1,b2,b3⟩
  simp -dsimp -implicitDefEqProofs only[go_sem,↓reduceIte,Tryz.f169]
  refine⟨_,_,bQ _ _,s2,t2,c2,rfl,by rw[aO],xE,by omega,b2,?_⟩
  rw[aJ6 h3 hk]
  refine a3.eN ?_
  rw[if_pos hz]
  exact b3
 ·rw[aO]
  refine aJ.gS (hv.at g2 (aR h nb (fG p sz t1 c1)) nb t1 c1 env funcs (aM _ _ _) aA aA o2 iC hf henv aA) ?_
  rintro r h' ⟨s2,t2,c2,rfl,rfl,xE,b1,b2,b3⟩
  simp -dsimp -implicitDefEqProofs only[go_sem,↓reduceIte,Tryz.f169]
  refine⟨_,_,bQ _ _,s2,t2,c2,rfl,by rw[aO],xE,by omega,b2,?_⟩
  rw[aJ6 h3 hk]
  refine a3.eN ?_
  rw[if_neg hz]
  exact b3
theorem bT0 {p:aC} (hp:p.ok) {sz n:Nat} (c6:1<=sz/\sz<=1048576) (hv:v8 p sz n) (h:aE) (nb st:Nat) (e:aB) (env:List (List Int)) (funcs:Int) (hb:h nb=some (fG p sz st 0)) (hst:st<3000) (hn:3001<=n+1+st)
  (hok:e.ok p funcs env.length) (iC:0<=funcs) (hf:funcs<=p.aD.length) (henv:∀ s∈env,bV sz s) (hel:env.length<=412+st) (hk:e.aP=9) :
  jC Tryz.prog 169 [.op nb 4 0 0,.ip 5 [e.c] 0 0,b6 env] h (RnQ h nb p sz st 0 (iM p sz (n+1) st e env)):=by
 have hb':=hb
 unfold fG at hb'
 have e3:((st:Int)=3000)=False:=eq_false aA
 have ew:IntKind.i64.wrap ((st:Int)+1)=((st+1:Nat):Int):=by rw[IntWalk.i64_in _ aA];rfl
 have hnode:=(aB.cN _ _ _ _).1 hok
 have h3:¬st=3000:=by omega
 have hlen:=cQ hok aA
 rw[hk,show dD 9=2 from rfl]at hlen
 have g0:e.aL[Int.toNat 0]?=some (e.fZ 0):=aB.fV aA
 have g1:e.aL[Int.toNat 1]?=some (e.fZ 1):=aB.fV aA
 have o0:=aB.dX hok (i:=0) aA
 have o1:=aB.dX hok (i:=1) aA
 rw[gQ aA]at o0
 rw[hk,show jV 9 1 (env.length:Int)=env.length+1 from rfl]at o1
 rw[aB.aS]
 refine lU 186 sS dC aDW Tryz.func169 ?_
 simp -dsimp -implicitDefEqProofs only[go_sem,↓reduceIte,Tryz.f169,hb',e3,ew,hk,g0,g1]
 refine⟨by omega,?_⟩
 refine aJ.gS (hv.at g0 (aR h nb (fG p sz (st+1) 0)) nb (st+1) 0 env funcs (aM _ _ _) aA aA o0 iC hf henv aA) ?_
 rintro r h' ⟨s1,t1,c1,rfl,rfl,x8,a1,a2,a3⟩
 simp -dsimp -implicitDefEqProofs only[go_sem,↓reduceIte,Tryz.f169,g0,g1]
 refine⟨by omega,?_⟩
 first|refine aJ.mk (aWH env s1 aA) ?_|refine aF.mk (aWH env s1 aA) ?_|refine aJ.bA (aWH env s1 aA) ?_|refine aF.mk (aX.cU (aWH env s1 aA)) ?_
 simp -dsimp -implicitDefEqProofs only[go_sem,↓reduceIte,Tryz.f169]
 rw[aO]
 refine aJ.gS (hv.at g1 (aR h nb (fG p sz t1 c1)) nb t1 c1 (env++[s1]) funcs (aM _ _ _) aA aA aDS iC hf (yN henv x8) bDS) ?_
 rintro r h' ⟨s2,t2,c2,rfl,rfl,xE,b1,b2,b3⟩
 simp -dsimp -implicitDefEqProofs only[go_sem,↓reduceIte,Tryz.f169]
 refine⟨_,aR h nb (fG p sz t2 c2),bG x7,s2,t2,c2,rfl,rfl,xE,by omega,b2,?_⟩
 rw[aQX h3 hk]
 exact a3.eN b3
theorem bL1 {p:aC} (hp:p.ok) {sz n:Nat} (c6:1<=sz/\sz<=1048576) (hv:v8 p sz n) (h:aE) (nb st:Nat) (e:aB) (env:List (List Int)) (funcs:Int) (hb:h nb=some (fG p sz st 0)) (hst:st<3000) (hn:3001<=n+1+st)
  (hok:e.ok p funcs env.length) (iC:0<=funcs) (hf:funcs<=p.aD.length) (henv:∀ s∈env,bV sz s) (hel:env.length<=412+st) (hk:e.aP=10) :
  jC Tryz.prog 169 [.op nb 4 0 0,.ip 5 [e.c] 0 0,b6 env] h (RnQ h nb p sz st 0 (iM p sz (n+1) st e env)):=by
 have hb':=hb
 unfold fG at hb'
 have e3:((st:Int)=3000)=False:=eq_false aA
 have ew:IntKind.i64.wrap ((st:Int)+1)=((st+1:Nat):Int):=by rw[IntWalk.i64_in _ aA];rfl
 have hnode:=(aB.cN _ _ _ _).1 hok
 have h3:¬st=3000:=by omega
 have hcl:=bLZ hp hv (aR h nb (fG p sz (st+1) 0)) nb (st+1) e env funcs (aM _ _ _) aA aA hok iC hf henv aA hk
 rw[aB.aS,hk]at hcl
 rw[aB.aS]
 refine lU 186 sS dC aDW Tryz.func169 ?_
 simp -dsimp -implicitDefEqProofs only[go_sem,↓reduceIte,Tryz.f169,hb',e3,ew,hk]
 refine aJ.gS hcl ?_
 rintro r h' ⟨s2,t2,c2,rfl,rfl,xE,b1,b2,b3⟩
 simp -dsimp -implicitDefEqProofs only[go_sem,↓reduceIte,Tryz.f169]
 refine⟨_,aR h nb (fG p sz t2 c2),bG x7,s2,t2,c2,rfl,rfl,xE,by omega,b2,?_⟩
 rw[aE2 h3 hk]
 exact b3
theorem bL2 {p:aC} (hp:p.ok) {sz n:Nat} (c6:1<=sz/\sz<=1048576) (hv:v8 p sz n) (h:aE) (nb st:Nat) (e:aB) (env:List (List Int)) (funcs:Int) (hb:h nb=some (fG p sz st 0)) (hst:st<3000) (hn:3001<=n+1+st)
  (hok:e.ok p funcs env.length) (iC:0<=funcs) (hf:funcs<=p.aD.length) (henv:∀ s∈env,bV sz s) (hel:env.length<=412+st) (hk:e.aP=11) :
  jC Tryz.prog 169 [.op nb 4 0 0,.ip 5 [e.c] 0 0,b6 env] h (RnQ h nb p sz st 0 (iM p sz (n+1) st e env)):=by
 have hb':=hb
 unfold fG at hb'
 have e3:((st:Int)=3000)=False:=eq_false aA
 have ew:IntKind.i64.wrap ((st:Int)+1)=((st+1:Nat):Int):=by rw[IntWalk.i64_in _ aA];rfl
 have hnode:=(aB.cN _ _ _ _).1 hok
 have h3:¬st=3000:=by omega
 have hcl:=bL0 hp hv (aR h nb (fG p sz (st+1) 0)) nb (st+1) e env funcs (aM _ _ _) aA aA hok iC hf henv aA hk
 rw[aB.aS,hk]at hcl
 rw[aB.aS]
 refine lU 186 sS dC aDW Tryz.func169 ?_
 simp -dsimp -implicitDefEqProofs only[go_sem,↓reduceIte,Tryz.f169,hb',e3,ew,hk]
 refine aJ.gS hcl ?_
 rintro r h' ⟨s2,t2,c2,rfl,rfl,xE,b1,b2,b3⟩
 simp -dsimp -implicitDefEqProofs only[go_sem,↓reduceIte,Tryz.f169]
 refine⟨_,aR h nb (fG p sz t2 c2),bG x7,s2,t2,c2,rfl,rfl,xE,by omega,b2,?_⟩
 rw[aE3 h3 hk]
 exact b3
theorem bGC {e:aB} (h:e.aL.length=1):e.aL=[e.fZ 0]:=by
 have h0:=aB.jN (e:=e) (i:=0) aA
 rw[h0]
 apply vT (by simp[h])
 intro i hi hi2
 match i,hi2 with
 |0,_=>rfl
theorem bGD {e:aB} (h:e.aL.length=2):e.aL=[e.fZ 0,e.fZ 1]:=by
 have h0:=aB.jN (e:=e) (i:=0) aA
 have h1:=aB.jN (e:=e) (i:=1) aA
 rw[h0,h1]
 apply vT (by simp[h])
 intro i hi hi2
 match i,hi2 with
 |0,_=>rfl
 |1,_=>rfl
theorem bT1 {p:aC} {sz n st:Nat} {e:aB} {env:List (List Int)} (h3:¬st=3000) (hk:e.aP=7) (hl:e.aL.length=1):iM p sz (n+1) st e env=(iM p sz n (st+1) (e.fZ 0) env).andThen λv t=>.ok (iE v 1000002,t):=by
 rw[pD h3 aA,bGC hl,hk]
 simp only[jY,Out.pV,Out.andThen_ok,opE]
 rfl
theorem aF2 {p:aC} {sz n st:Nat} {e:aB} {env:List (List Int)} (h3:¬st=3000) (hk:e.aP=3∨e.aP=4∨e.aP=5∨e.aP=6) (hl:e.aL.length=2):iM p sz (n+1) st e env=(iM p sz n (st+1) (e.fZ 0) env).andThen λa t=>(iM p sz n t (e.fZ 1) env).andThen λb t=>opE e.aP [a,b] t:=by
 rw[pD h3 aA,bGD hl]
 simp only[jY,Out.pV,Out.andThen_ok]
theorem bT2 {p:aC} (hp:p.ok) {sz n:Nat} (c6:1<=sz/\sz<=1048576) (hv:v8 p sz n) (h:aE) (nb st:Nat) (e:aB) (env:List (List Int)) (funcs:Int) (hb:h nb=some (fG p sz st 0)) (hst:st<3000) (hn:3001<=n+1+st)
  (hok:e.ok p funcs env.length) (iC:0<=funcs) (hf:funcs<=p.aD.length) (henv:∀ s∈env,bV sz s) (hel:env.length<=412+st) (hk:e.aP=7) :
  jC Tryz.prog 169 [.op nb 4 0 0,.ip 5 [e.c] 0 0,b6 env] h (RnQ h nb p sz st 0 (iM p sz (n+1) st e env)):=by
 have hb':=hb
 unfold fG at hb'
 have e3:((st:Int)=3000)=False:=eq_false aA
 have ew:IntKind.i64.wrap ((st:Int)+1)=((st+1:Nat):Int):=by rw[IntWalk.i64_in _ aA];rfl
 have hnode:=(aB.cN _ _ _ _).1 hok
 have h3:¬st=3000:=by omega
 have hlen:=cQ hok aA
 rw[hk,show dD 7=1 from rfl]at hlen
 have g0:e.aL[Int.toNat 0]?=some (e.fZ 0):=aB.fV aA
 have o0:=aB.dX hok (i:=0) aA
 rw[gQ aA]at o0
 rw[aB.aS]
 refine lU 186 sS dC aDW Tryz.func169 ?_
 simp -dsimp -implicitDefEqProofs only[go_sem,↓reduceIte,Tryz.f169,hb',e3,ew,hk,g0]
 refine⟨by omega,?_⟩
 refine aJ.gS (hv.at g0 (aR h nb (fG p sz (st+1) 0)) nb (st+1) 0 env funcs (aM _ _ _) aA aA o0 iC hf henv aA) ?_
 rintro r h' ⟨s1,t1,c1,rfl,rfl,x8,a1,a2,a3⟩
 simp -dsimp -implicitDefEqProofs only[go_sem,↓reduceIte,Tryz.f169]
 first|refine aJ.mk (v7 s1 1000002 pK tD x8.2) ?_|refine aF.mk (v7 s1 1000002 pK tD x8.2) ?_|refine aJ.bA (v7 s1 1000002 pK tD x8.2) ?_|refine aF.mk (aX.cU (v7 s1 1000002 pK tD x8.2)) ?_
 simp -dsimp -implicitDefEqProofs only[go_sem,↓reduceIte,Tryz.f169]
 refine⟨_,aR h nb (fG p sz t1 c1),bG x7,_,t1,c1,rfl,rfl,eO _ x8,by omega,a2,?_⟩
 rw[bT1 h3 hk aA]
 exact a3.eN (jK _ _ _)
theorem bT3 {p:aC} (hp:p.ok) {sz n:Nat} (c6:1<=sz/\sz<=1048576) (hv:v8 p sz n) (h:aE) (nb st:Nat) (e:aB) (env:List (List Int)) (funcs:Int) (hb:h nb=some (fG p sz st 0)) (hst:st<3000) (hn:3001<=n+1+st)
  (hok:e.ok p funcs env.length) (iC:0<=funcs) (hf:funcs<=p.aD.length) (henv:∀ s∈env,bV sz s) (hel:env.length<=412+st) (hk:e.aP=3) :
  jC Tryz.prog 169 [.op nb 4 0 0,.ip 5 [e.c] 0 0,b6 env] h (RnQ h nb p sz st 0 (iM p sz (n+1) st e env)):=by
 have hb':=hb
 unfold fG at hb'
 have e3:((st:Int)=3000)=False:=eq_false aA
 have ew:IntKind.i64.wrap ((st:Int)+1)=((st+1:Nat):Int):=by rw[IntWalk.i64_in _ aA];rfl
 have hnode:=(aB.cN _ _ _ _).1 hok
 have h3:¬st=3000:=by omega
 have hlen:=cQ hok aA
 rw[hk,show dD 3=2 from rfl]at hlen
 have g0:e.aL[Int.toNat 0]?=some (e.fZ 0):=aB.fV aA
 have g1:e.aL[Int.toNat 1]?=some (e.fZ 1):=aB.fV aA
 have o0:=aB.dX hok (i:=0) aA
 have o1:=aB.dX hok (i:=1) aA
 rw[gQ aA]at o0 o1
 rw[aB.aS]
 refine lU 186 sS dC aDW Tryz.func169 ?_
 simp -dsimp -implicitDefEqProofs only[go_sem,↓reduceIte,Tryz.f169,hb',e3,ew,hk,g0]
 refine⟨by omega,?_⟩
 refine aJ.gS (hv.at g0 (aR h nb (fG p sz (st+1) 0)) nb (st+1) 0 env funcs (aM _ _ _) aA aA o0 iC hf henv aA) ?_
 rintro r h' ⟨s1,t1,c1,rfl,rfl,x8,a1,a2,a3⟩
 simp -dsimp -implicitDefEqProofs only[go_sem,↓reduceIte,Tryz.f169,g1]
 refine⟨by omega,?_⟩
 rw[aO]
 refine aJ.gS (hv.at g1 (aR h nb (fG p sz t1 c1)) nb t1 c1 env funcs (aM _ _ _) aA aA o1 iC hf henv aA) ?_
 rintro r h' ⟨s2,t2,c2,rfl,rfl,xE,b1,b2,b3⟩
 rw[aO]
 simp -dsimp -implicitDefEqProofs only[go_sem,↓reduceIte,Tryz.f169,hk]
 first|refine aJ.mk (aE5 s1 s2 aA2 tD x8.2 xE.2) ?_|refine aF.mk (aE5 s1 s2 aA2 tD x8.2 xE.2) ?_|refine aJ.bA (aE5 s1 s2 aA2 tD x8.2 xE.2) ?_|refine aF.mk (aX.cU (aE5 s1 s2 aA2 tD x8.2 xE.2)) ?_
 simp -dsimp -implicitDefEqProofs only[go_sem,↓reduceIte,Tryz.f169]
 refine⟨_,aR h nb (fG p sz t2 c2),bG (aE.le_refl _),_,t2,c2,rfl,rfl,kX x8 xE,by omega,b2,?_⟩
 rw[aF2 h3 aA aA,hk]
 exact a3.eN (b3.eN (jK _ _ _))
theorem bT4 {p:aC} (hp:p.ok) {sz n:Nat} (c6:1<=sz/\sz<=1048576) (hv:v8 p sz n) (h:aE) (nb st:Nat) (e:aB) (env:List (List Int)) (funcs:Int) (hb:h nb=some (fG p sz st 0)) (hst:st<3000) (hn:3001<=n+1+st)
  (hok:e.ok p funcs env.length) (iC:0<=funcs) (hf:funcs<=p.aD.length) (henv:∀ s∈env,bV sz s) (hel:env.length<=412+st) (hk:e.aP=4) :
  jC Tryz.prog 169 [.op nb 4 0 0,.ip 5 [e.c] 0 0,b6 env] h (RnQ h nb p sz st 0 (iM p sz (n+1) st e env)):=by
 have hb':=hb
 unfold fG at hb'
 have e3:((st:Int)=3000)=False:=eq_false aA
 have ew:IntKind.i64.wrap ((st:Int)+1)=((st+1:Nat):Int):=by rw[IntWalk.i64_in _ aA];rfl
 have hnode:=(aB.cN _ _ _ _).1 hok
 have h3:¬st=3000:=by omega
 have hlen:=cQ hok aA
 rw[hk,show dD 4=2 from rfl]at hlen
 have g0:e.aL[Int.toNat 0]?=some (e.fZ 0):=aB.fV aA
 have g1:e.aL[Int.toNat 1]?=some (e.fZ 1):=aB.fV aA
 have o0:=aB.dX hok (i:=0) aA
 have o1:=aB.dX hok (i:=1) aA
 rw[gQ aA]at o0 o1
 rw[aB.aS]
 refine lU 186 sS dC aDW Tryz.func169 ?_
 simp -dsimp -implicitDefEqProofs only[go_sem,↓reduceIte,Tryz.f169,hb',e3,ew,hk,g0]
 refine⟨by omega,?_⟩
 refine aJ.gS (hv.at g0 (aR h nb (fG p sz (st+1) 0)) nb (st+1) 0 env funcs (aM _ _ _) aA aA o0 iC hf henv aA) ?_
 rintro r h' ⟨s1,t1,c1,rfl,rfl,x8,a1,a2,a3⟩
 simp -dsimp -implicitDefEqProofs only[go_sem,↓reduceIte,Tryz.f169,g1]
 refine⟨by omega,?_⟩
 rw[aO]
 refine aJ.gS (hv.at g1 (aR h nb (fG p sz t1 c1)) nb t1 c1 env funcs (aM _ _ _) aA aA o1 iC hf henv aA) ?_
 rintro r h' ⟨s2,t2,c2,rfl,rfl,xE,b1,b2,b3⟩
 rw[aO]
 simp -dsimp -implicitDefEqProofs only[go_sem,↓reduceIte,Tryz.f169,hk]
 first|refine aJ.mk (aWF s1 s2 aA2 tD x8.2 xE.2) ?_|refine aF.mk (aWF s1 s2 aA2 tD x8.2 xE.2) ?_|refine aJ.bA (aWF s1 s2 aA2 tD x8.2 xE.2) ?_|refine aF.mk (aX.cU (aWF s1 s2 aA2 tD x8.2 xE.2)) ?_
 simp -dsimp -implicitDefEqProofs only[go_sem,↓reduceIte,Tryz.f169]
 refine⟨_,aR h nb (fG p sz t2 c2),bG (aE.le_refl _),_,t2,c2,rfl,rfl,xX x8 xE,by omega,b2,?_⟩
 rw[aF2 h3 aA aA,hk]
 exact a3.eN (b3.eN (jK _ _ _))
theorem bT5 {p:aC} (hp:p.ok) {sz n:Nat} (c6:1<=sz/\sz<=1048576) (hv:v8 p sz n) (h:aE) (nb st:Nat) (e:aB) (env:List (List Int)) (funcs:Int) (hb:h nb=some (fG p sz st 0)) (hst:st<3000) (hn:3001<=n+1+st)
  (hok:e.ok p funcs env.length) (iC:0<=funcs) (hf:funcs<=p.aD.length) (henv:∀ s∈env,bV sz s) (hel:env.length<=412+st) (hk:e.aP=5) :
  jC Tryz.prog 169 [.op nb 4 0 0,.ip 5 [e.c] 0 0,b6 env] h (RnQ h nb p sz st 0 (iM p sz (n+1) st e env)):=by
 have hb':=hb
 unfold fG at hb'
 have e3:((st:Int)=3000)=False:=eq_false aA
 have ew:IntKind.i64.wrap ((st:Int)+1)=((st+1:Nat):Int):=by rw[IntWalk.i64_in _ aA];rfl
 have hnode:=(aB.cN _ _ _ _).1 hok
 have h3:¬st=3000:=by omega
 have hlen:=cQ hok aA
 rw[hk,show dD 5=2 from rfl]at hlen
 have g0:e.aL[Int.toNat 0]?=some (e.fZ 0):=aB.fV aA
 have g1:e.aL[Int.toNat 1]?=some (e.fZ 1):=aB.fV aA
 have o0:=aB.dX hok (i:=0) aA
 have o1:=aB.dX hok (i:=1) aA
 rw[gQ aA]at o0 o1
 rw[aB.aS]
 refine lU 186 sS dC aDW Tryz.func169 ?_
 simp -dsimp -implicitDefEqProofs only[go_sem,↓reduceIte,Tryz.f169,hb',e3,ew,hk,g0]
 refine⟨by omega,?_⟩
 refine aJ.gS (hv.at g0 (aR h nb (fG p sz (st+1) 0)) nb (st+1) 0 env funcs (aM _ _ _) aA aA o0 iC hf henv aA) ?_
 rintro r h' ⟨s1,t1,c1,rfl,rfl,x8,a1,a2,a3⟩
 simp -dsimp -implicitDefEqProofs only[go_sem,↓reduceIte,Tryz.f169,g1]
 refine⟨by omega,?_⟩
 rw[aO]
 refine aJ.gS (hv.at g1 (aR h nb (fG p sz t1 c1)) nb t1 c1 env funcs (aM _ _ _) aA aA o1 iC hf henv aA) ?_
 rintro r h' ⟨s2,t2,c2,rfl,rfl,xE,b1,b2,b3⟩
 rw[aO]
 simp -dsimp -implicitDefEqProofs only[go_sem,↓reduceIte,Tryz.f169,hk]
 first|refine aJ.mk (aWG s1 s2 aA2 tD x8.2 xE.2) ?_|refine aF.mk (aWG s1 s2 aA2 tD x8.2 xE.2) ?_|refine aJ.bA (aWG s1 s2 aA2 tD x8.2 xE.2) ?_|refine aF.mk (aX.cU (aWG s1 s2 aA2 tD x8.2 xE.2)) ?_
 simp -dsimp -implicitDefEqProofs only[go_sem,↓reduceIte,Tryz.f169]
 refine⟨_,aR h nb (fG p sz t2 c2),bG (aE.le_refl _),_,t2,c2,rfl,rfl,fR _ x8,by omega,b2,?_⟩
 rw[aF2 h3 aA aA,hk]
 exact a3.eN (b3.eN (jK _ _ _))
theorem bT6 {p:aC} (hp:p.ok) {sz n:Nat} (c6:1<=sz/\sz<=1048576) (hv:v8 p sz n) (h:aE) (nb st:Nat) (e:aB) (env:List (List Int)) (funcs:Int) (hb:h nb=some (fG p sz st 0)) (hst:st<3000) (hn:3001<=n+1+st)
  (hok:e.ok p funcs env.length) (iC:0<=funcs) (hf:funcs<=p.aD.length) (henv:∀ s∈env,bV sz s) (hel:env.length<=412+st) (hk:e.aP=6) :
  jC Tryz.prog 169 [.op nb 4 0 0,.ip 5 [e.c] 0 0,b6 env] h (RnQ h nb p sz st 0 (iM p sz (n+1) st e env)):=by
 have hb':=hb
 unfold fG at hb'
 have e3:((st:Int)=3000)=False:=eq_false aA
 have ew:IntKind.i64.wrap ((st:Int)+1)=((st+1:Nat):Int):=by rw[IntWalk.i64_in _ aA];rfl
 have hnode:=(aB.cN _ _ _ _).1 hok
 have h3:¬st=3000:=by omega
 have hlen:=cQ hok aA
 rw[hk,show dD 6=2 from rfl]at hlen
 have g0:e.aL[Int.toNat 0]?=some (e.fZ 0):=aB.fV aA
 have g1:e.aL[Int.toNat 1]?=some (e.fZ 1):=aB.fV aA
 have o0:=aB.dX hok (i:=0) aA
 have o1:=aB.dX hok (i:=1) aA
 rw[gQ aA]at o0 o1
 rw[aB.aS]
 refine lU 186 sS dC aDW Tryz.func169 ?_
 simp -dsimp -implicitDefEqProofs only[go_sem,↓reduceIte,Tryz.f169,hb',e3,ew,hk,g0]
 refine⟨by omega,?_⟩
 refine aJ.gS (hv.at g0 (aR h nb (fG p sz (st+1) 0)) nb (st+1) 0 env funcs (aM _ _ _) aA aA o0 iC hf henv aA) ?_
 rintro r h' ⟨s1,t1,c1,rfl,rfl,x8,a1,a2,a3⟩
 simp -dsimp -implicitDefEqProofs only[go_sem,↓reduceIte,Tryz.f169,g1]
 refine⟨by omega,?_⟩
 rw[aO]
 refine aJ.gS (hv.at g1 (aR h nb (fG p sz t1 c1)) nb t1 c1 env funcs (aM _ _ _) aA aA o1 iC hf henv aA) ?_
 rintro r h' ⟨s2,t2,c2,rfl,rfl,xE,b1,b2,b3⟩
 rw[aO]
 have gs:s2[Int.toNat 0]?=some (s2.getD 0 0):=cI (by rw[xE.1];omega)
 simp -dsimp -implicitDefEqProofs only[go_sem,↓reduceIte,Tryz.f169,hk,fG,gs]
 refine⟨λhc=>?_,λhc=>?_⟩
 ·subst hc
  refine⟨by rw[xE.1];omega,λhz=>?_,λhz=>?_⟩
  ·refine aJ.gS (a8L (aR h nb (fG p sz t2 0)) nb p sz t2 0 6 (aM _ _ _) c6.2) ?_
   rintro r h' ⟨rfl,rfl⟩
   simp -dsimp -implicitDefEqProofs only[go_sem,↓reduceIte,Tryz.f169]
   refine⟨_,aR h nb (fG p sz t2 6),bG x7,_,t2,6,rfl,rfl,fP mZ,by omega,b2,?_⟩
   rw[aF2 h3 aA aA,hk]
   refine a3.eN (b3.eN ?_)
   have:opE 6 [s1,s2] t2=.error 6:=by rw[opE,if_neg cE,if_neg cE,if_neg cE,if_neg cE];exact if_pos hz
   rw[dF,this]
   exact mW _ _ cE
  ·refine aJ.mk (bTV s1 s2 aA2 tD tD x8.2 xE.2) ?_
   simp -dsimp -implicitDefEqProofs only[go_sem,↓reduceIte,Tryz.f169]
   refine⟨_,aR h nb (fG p sz t2 0),bG (aE.le_refl _),_,t2,0,rfl,rfl,tL _ x8,by omega,b2,?_⟩
   rw[aF2 h3 aA aA,hk]
   refine a3.eN (b3.eN ?_)
   have:opE 6 [s1,s2] t2=.ok (lV s1 s2,t2):=by rw[opE,if_neg cE,if_neg cE,if_neg cE,if_neg cE];exact if_neg hz
   rw[dF,this]
   exact nN _ _
 ·refine aJ.gS (a8L (aR h nb (fG p sz t2 c2)) nb p sz t2 c2 6 (aM _ _ _) c6.2) ?_
  rintro r h' ⟨rfl,rfl⟩
  simp -dsimp -implicitDefEqProofs only[go_sem,↓reduceIte,Tryz.f169]
  refine⟨_,aR h nb (fG p sz t2 c2),bG (by rw[aO,if_neg hc];exact aE.le_refl _),_,t2,c2,rfl,rfl,fP mZ,by omega,b2,?_⟩
  rw[aF2 h3 aA aA,hk]
  exact a3.eN (b3.eN aI4)
theorem run {p:aC} (hp:p.ok) {sz:Nat} (c6:1<=sz/\sz<=1048576):∀ n,v8 p sz n
 |0=>λh nb st c e env funcs hb hst hn=>by omega
 |n+1=>λh nb st c e env funcs hb hst hn hok iC hf henv hel=>by
  have hv:=run hp c6 n
  by_cases hs:¬c=0∨st=3000
  ·exact bBQ c6 h nb st c e env hb hst hs
  have hc:c=0:=bDC λq=>hs (.inl q)
  have h3:st<3000:=by
   rcases bZ st 3000 with h|h
   ·exact h
   ·exact absurd (.inr aA) hs
  subst hc
  rcases rE ((aB.cN _ _ _ _).1 hok).1 with hk|hk|hk|hk|hk|hk|hk|hk|hk|hk|hk
  ·exact bTX hp c6 hv h nb st e env funcs hb h3 hn hok iC hf henv hel hk
  ·exact bTY hp c6 hv h nb st e env funcs hb h3 hn hok iC hf henv hel hk
  ·exact bT3 hp c6 hv h nb st e env funcs hb h3 hn hok iC hf henv hel hk
  ·exact bT4 hp c6 hv h nb st e env funcs hb h3 hn hok iC hf henv hel hk
  ·exact bT5 hp c6 hv h nb st e env funcs hb h3 hn hok iC hf henv hel hk
  ·exact bT6 hp c6 hv h nb st e env funcs hb h3 hn hok iC hf henv hel hk
  ·exact bT2 hp c6 hv h nb st e env funcs hb h3 hn hok iC hf henv hel hk
  ·exact bTZ hp c6 hv h nb st e env funcs hb h3 hn hok iC hf henv hel hk
  ·exact bT0 hp c6 hv h nb st e env funcs hb h3 hn hok iC hf henv hel hk
  ·exact bL1 hp c6 hv h nb st e env funcs hb h3 hn hok iC hf henv hel hk
  ·exact bL2 hp c6 hv h nb st e env funcs hb h3 hn hok iC hf henv hel hk
theorem a0S (l:List Int):fO ((l.map λn=>[I n]).map (List.map Cell.v))=l.map λn=>[I n]:=kJ _
theorem s9 {h h':aE} {n sz:Nat} {x r:aH} (es:List (List aH)) (h0:h n=none) (hl:(aR h n (.row sz (es.map (List.map .v)))).le h') (hb:gA n sz es.length x=true) (hr:x.eM n es=r):Shift x h' r h:=by
 subst hr
 refine(Shift.of (Sub.refl _) hl).trans ((Shift.eM (aM _ _ _) (by rw[nG];exact hb)).trans ?_)
 rw[kJ]
 exact bG ((bP h0).2 ((bP h0).2 (aE.le_refl h)))
theorem bL3 {h g:aE} {m b:Nat} (rows:List (List Int)) (s:List Int) (hm:h m=some (.row 1 ((s.map λn=>[I n]).map (List.map .v)))) (hb:h b=some (.row 1 ((rows.map λs=>[ints s]).map (List.map .v)++[[.v (.os m 1 0 s.length)]]))) (hne:¬b=m)
  (hg:g.le (aR (aR h m .gone) b (.row 1 (((rows++[s]).map λs=>[ints s]).map (List.map .v))))):g.wk h:=by
 have hat:∀ (es:List (List Cell)) i j x,kA es i j=some x->∃ e∈es,x∈e:=λes i j x hx=>by
  obtain⟨e,h1,h2⟩:=lG hx
  exact⟨e,nO h1,nO h2⟩
 have hw:=aE.aKD hm hb hne (λi j x hx=>by
  obtain⟨e,he,hxe⟩:=hat _ i j _ hx
  rcases pJ.1 he with he|he
  ·obtain⟨e1,h1,rfl⟩:=qU.1 he
   obtain⟨r,_,rfl⟩:=qU.1 h1
   simp only[nZ,sX,jF,Cell.v.injEq]at hxe
   subst hxe;rfl
  ·rw[jF.1 he]at hxe
   simp only[jF,Cell.v.injEq]at hxe
   subst hxe
   simp[gA])
 refine aE.wk.trans (aE.kE ?_) hw
 have:((rows.map λs=>[ints s]).map (List.map Cell.v)++[[Cell.v (.os m 1 0 s.length)]]).map (List.map (Cell.sH m (fO ((s.map λn=>[I n]).map (List.map Cell.v)))))=((rows++[s]).map λs=>[ints s]).map (List.map .v):=by
  rw[a0S,kS,kS,kS]
  congr 1
  ·simp only[aD7]
   exact aG7 λr _=>rfl
  ·simp only[nZ,sX,Cell.sH,aH.eM,if_true,aG8]
   rw[pQ aOY]
 rw[this]
 exact hg
theorem a8N {h g:aE} {b:Nat} {A:List (List Cell)} {x y:aH} (hb:h b=some (.row 1 (A++[[.v x]]))) (s:Sub x y) (hg:g.le (aR h b (.row 1 (A++[[.v y]])))):g.wk h :=
 aE.wk.trans (aE.kE hg) (aE.aVZ (m:=b) (λq hq=>aI _ _ _ _ hq) hb (aM _ _ _) (oA.sub (.cons s .nil) A))
@[go_sem] def cD4:List Nat:=[6,15,16]
@[go_sem] def b1A:List Nat:=[6,17]
theorem bT8 (l:List (List Int)) (hl:l.length<=1048576) (hne:∀ s∈l,0<s.length):fM Tryz.prog 83 [b6 l] (ints (l.map λs=>s.getD 0 0)):=by
 have hc:(l.map λs=>s.getD 0 0).length=l.length:=nG _
 refine iN 21 bQE b1A cK Tryz.func83 λh=>?_
 simp -dsimp -implicitDefEqProofs only[go_sem,↓reduceIte,Tryz.f83]
 refine⟨bN,λ_=>?_⟩
 refine cZ bQE b1A cK (λx:Nat×Option Nat=>[(7,b6 l),(8,I l.length),(3,iO 1 ((l.map λs=>s.getD 0 0).take x.1).length x.2),(9,I x.1)]) (λx=>bY h (.row 1 ((((l.map λs=>s.getD 0 0).take x.1).map λn=>[I n]).map (List.map .v))) x.2) (λx=>x.1<=l.length/\fT h ((l.map λs=>s.getD 0 0).take x.1) x.2) (λx=>l.length-x.1) (0,none) ⟨by simp[c4,b7,iO],by simp only[aQ];exact aE.le_refl _,fE _,by simp[fT]⟩ ?_
 rintro⟨k,o⟩ ⟨hk,hos⟩
 simp only at hk hos ⊢
 rcases bZ k l.length with hlt|hge
 ·have ea:l[k]?=some l[k]:=cM hlt
  have h0:=hne _ (eI hlt)
  have e0:(l[k])[Int.toNat 0]?=some (l[k].getD 0 0):=cI h0
  have hy:(l.map λs=>s.getD 0 0).take (k+1)=(l.map λs=>s.getD 0 0).take k++[(l.map λs=>s.getD 0 0)[k]'aA]:=jU aA
  have hlk:((l.map λs=>s.getD 0 0).take k).length=k:=by rw[jT];omega
  rw[r8]at hy
  cases o with
  |none =>
   rw[aZ]at hos
   rw[hos]at hy ⊢
   simp -dsimp -implicitDefEqProofs only[go_sem,↓reduceIte,Tryz.f83,bM,aQ,hlt,ea,e0]
   repeat'(with_reducible first|intro _|refine And.intro ?_ ?_)
   all_goals try(first|omega|decide)
   rename_i b hb
   refine⟨(k+1,some b),?_⟩
   simp only[hy]
   refine⟨⟨rfl,?_⟩,aE.le_refl _,⟨by omega,hb⟩,by omega⟩
   rw[IntWalk.i64_in _ aA];rfl
  |some n =>
   rw[aV]at hos
   simp -dsimp -implicitDefEqProofs only[go_sem,↓reduceIte,Tryz.f83,bC,aK,hlt,ea,e0]
   repeat'(with_reducible first|intro _|refine And.intro ?_ ?_)
   all_goals try(first|omega|decide|exact iH _)
   rename_i b hb
   refine⟨(k+1,some b),?_⟩
   simp only[hy,aK,bC,aV]
   refine⟨⟨by rw[mV];rfl,?_⟩,?_,⟨by omega,hb.2⟩,by omega⟩
   ·rw[IntWalk.i64_in _ aA];rfl
   ·rw[←jD];exact qM hos
 ·have hk':k=l.length:=by omega
  subst hk'
  rw[pQ aA]at hos ⊢
  cases o with
  |none =>
   rw[aZ]at hos
   simp -dsimp -implicitDefEqProofs only[go_sem,↓reduceIte,Tryz.f83,bM,aQ,bX,dB]
   rw[hos]
   exact Shift.of (Sub.loose _ _ _) (aE.le_refl _)
  |some n =>
   rw[aV]at hos
   simp -dsimp -implicitDefEqProofs only[go_sem,↓reduceIte,Tryz.f83,bC,aK,bX,dB]
   exact jZ _ hos (aE.le_refl _) hc.symm
def aKE (X:Out (List (List Int))):List (List Int)×Int×Int:=match X with
 | .ok (vs,t)=>(vs,t,0)
 | .error c=>([],0,c)
theorem a0T {X:Out (List (List Int))} {l:List (List Int)} {t:Nat} {c:Int} (h:kW X l t c):aKE X=if c=0 then(l,(t:Int),0)else([],0,c):=by
 cases X with
 |ok p =>
  obtain⟨w,u⟩:=p
  obtain⟨rfl,rfl,rfl⟩:=h
  rfl
 |error d =>
  obtain⟨rfl,h⟩:=h
  rw[if_neg h];rfl
theorem aE6 (l:List Int) (hl:l.length<=1048576):fM Tryz.prog 137 [ints l] (ints l):=aG0 (bSZ l hl)
@[go_sem] def bGE:List Nat:=[0,1,2,3,4,8,9,10,11,12,13,15,33,39,40,41,42]
@[go_sem] def b1B:List Nat:=[4,38,48]
@[go_sem] def b1C:Marks:=λid=>match id with|4=>([3],(.op 0 (.op 1 (.op 2 (.op 3 (.op 4 (.op 5 (.op 6 .nil))))))),[])|11=>([4],(.op 0 (.op 1 (.op 2 (.op 3 (.op 4 (.op 5 (.op 6 (.op 7 .nil)))))))),[])|_=>([],.nil,[])
theorem aT3 {p:aC} (hp:p.ok) {sz:Nat} (c6:1<=sz/\sz<=1048576) (f:Int) (hf:0<=f/\f<p.aD.length) (args:List (List Int)) (ha:∀ s∈args,bV sz s) (hl:∀ F,p.aD[f.toNat]?=some F->(args.length:Int)=F.aT) :
  fM Tryz.prog 81 [.agg p.c,I f,b6 args,I ((sz:Int)-1)] (.jO [b6 (aKE (evF p sz f args)).1,I (aKE (evF p sz f args)).2.1,I (aKE (evF p sz f args)).2.2]):=by
 obtain⟨F,ef,hF1,hF2,hF3,hF4⟩:=vQ hp hf
 have hlF:=hl F ef
 rw[aC.aS]
 refine iN 56 bGE b1B b1C Tryz.func81 λh=>?_
 simp -dsimp -implicitDefEqProofs only[go_sem,↓reduceIte,Tryz.f81,ef,aU.aS]
 intro nb zb
 refine⟨hf.1,by omega,?_⟩
 refine aJ.gS (aCY (value hp c6 3001) (aR h nb (dV p sz 0 0)) nb 0 0 F.aN args f (aM _ _ _) aA aA aA (by rw[hlF];exact hF4) hf.1 aA ha aA) ?_
 rintro r h' ⟨vs,t,c,rfl,rfl,hvl,hvs,a1,a2,a3⟩
 rw[dF,←hF3]at a3
 rw[a0T (show kW (evF p sz f args) vs t c from a3)]
 rw[aO]
 have hBn:(aR h nb (dV p sz t c)) nb=some (.row 4 [[.v (fN 3 aU.c p.aD),.v (I ((sz:Int)-1)),.v (I t),.v (I c)]]):=aM _ _ _
 have hBl:h.le (aR h nb (dV p sz t c)):=aE.bP zb (aE.le_refl _)
 generalize aR h nb (dV p sz t c)=hB at hBn hBl ⊢
 simp -dsimp -implicitDefEqProofs only[go_sem,↓reduceIte,Tryz.f81,hBn]
 refine⟨λhc=>?_,λhc=>?_⟩
 ·have hc':¬c=0:=by simpa using hc
  rw[if_neg hc']
  exact Shift.of (Sub.jO (.cons (Sub.nil 1 false) (.cons (.refl _) (.cons (.refl _) .nil)))) hBl
 ·have hc':c=0:=by simpa using hc
  subst hc'
  rw[if_pos rfl]
  refine⟨bN,λ_=>?_⟩
  refine cZ bGE b1B b1C (λx:Nat×Option Nat=>[(11,.op nb 4 0 0),(13,iO 1 (vs.take x.1).length x.2),(39,b6 vs),(40,I vs.length),(41,I x.1)]) (λx=>bY hB (.row 1 (((vs.take x.1).map λs=>[ints s]).map (List.map .v))) x.2) (λx=>x.1<=vs.length/\fT hB (vs.take x.1) x.2) (λx=>vs.length-x.1) (0,none) ⟨by simp[c4,b7,iO],by simp only[aQ];exact aE.le_refl _,fE _,by simp[fT]⟩ ?_
  rintro⟨k,o⟩ ⟨hk,hos⟩
  simp only at hk hos ⊢
  rcases bZ k vs.length with hlt|hge
  ·have ea:vs[k]?=some vs[k]:=cM hlt
   have hy:vs.take (k+1)=vs.take k++[vs[k]]:=jU hlt
   have hlk:(vs.take k).length=k:=by rw[jT];omega
   have hsk:=hvs _ (eI hlt)
   cases o with
   |none =>
    rw[aZ]at hos
    rw[hos]at hy ⊢
    simp -dsimp -implicitDefEqProofs only[go_sem,↓reduceIte,Tryz.f81,bM,aQ,hlt,ea]
    first|refine aJ.mk (aE6 vs[k] wW) ?_|refine aF.mk (aE6 vs[k] wW) ?_|refine aJ.bA (aE6 vs[k] wW) ?_|refine aF.mk (aX.cU (aE6 vs[k] wW)) ?_
    simp -dsimp -implicitDefEqProofs only[go_sem,↓reduceIte,Tryz.f81]
    repeat'(with_reducible first|intro _|refine And.intro ?_ ?_)
    all_goals try(first|omega|decide)
    rename_i b hb
    refine⟨(k+1,some b),?_⟩
    simp only[hy]
    refine⟨⟨rfl,?_⟩,aE.le_refl _,⟨by omega,hb⟩,by omega⟩
    rw[IntWalk.i64_in _ aA];rfl
   |some n =>
    rw[aV]at hos
    simp -dsimp -implicitDefEqProofs only[go_sem,↓reduceIte,Tryz.f81,bC,aK,hlt,ea]
    first|refine aJ.mk (aE6 vs[k] wW) ?_|refine aF.mk (aE6 vs[k] wW) ?_|refine aJ.bA (aE6 vs[k] wW) ?_|refine aF.mk (aX.cU (aE6 vs[k] wW)) ?_
    simp -dsimp -implicitDefEqProofs only[go_sem,↓reduceIte,Tryz.f81]
    repeat'(with_reducible first|intro _|refine And.intro ?_ ?_)
    all_goals try(first|omega|decide|exact iH _)
    rename_i b hb
    refine⟨(k+1,some b),?_⟩
    simp only[hy,aK,bC,aV]
    refine⟨⟨by rw[mV];rfl,?_⟩,?_,⟨by omega,hb.2⟩,by omega⟩
    ·rw[IntWalk.i64_in _ aA];rfl
    ·rw[←jD];exact qM hos
  ·have hk':k=vs.length:=by omega
   subst hk'
   rw[mR]at hos ⊢
   cases o with
   |none =>
    rw[aZ]at hos
    subst hos
    simp -dsimp -implicitDefEqProofs only[go_sem,↓reduceIte,Tryz.f81,bM,aQ,bX,hBn]
    exact Shift.of (Sub.jO (.cons (Sub.loose _ _ _) (.cons (.refl _) (.cons (.refl _) .nil)))) hBl
   |some n =>
    rw[aV]at hos
    obtain⟨wR,fK,fL,p6⟩:=bB (show ¬n=nb from λe=>by rw[e,hBn]at hos;cases hos)
    simp -dsimp -implicitDefEqProofs only[go_sem,↓reduceIte,Tryz.f81,bC,aK,bX,aI,fK,fL,hBn]
    refine Shift.trans (s9 (vs.map λs=>[ints s]) hos (aE.le_refl _) (by simp[gA,jG]) ?_) (bG hBl)
    simp[aH.eM,lX,pQ]
@[go_sem] def a8P:List Nat:=[0,1,4,5,7,10,11,12,13]
theorem b1D (n i:Nat) (hn:n<=1048576) (hi:i<n):fM Tryz.prog 104 [I n,.sl 1 [[I i]] true] (ints ((List.replicate n 0).set i 1)):=by
 refine iN 27 a8P dC cK Tryz.func104 λh=>?_
 simp -dsimp -implicitDefEqProofs only[go_sem,↓reduceIte,Tryz.f104]
 refine⟨bN,by omega,by omega,by omega,λm hm=>?_⟩
 rw[zQ]
 refine aHO a8P dC cK (λk:Nat=>[(5,.os m 1 0 n),(10,.sl 1 [[I i]] true),(11,I 1),(12,I k)]) m (λk=>.row 1 (((if k=0 then List.replicate n (0:Int)else(List.replicate n 0).set i 1).map λn=>[I n]).map (List.map .v))) (λk=>k<=1) (λk=>1-k) 0 ⟨by simp[c4,b7],by rw[aM,if_pos rfl],fE _⟩ ?_
 intro k hk
 rcases bZ k 1 with hlt|hge
 ·have:k=0:=by omega
  subst this
  have e1:(List.replicate n (0:Int))[i]?=some 0:=by rw[aMO,if_pos hi]
  rw[if_pos rfl]
  simp -dsimp -implicitDefEqProofs only[go_sem,↓reduceIte,Tryz.f104,aO,e1,aYS,nU]
  refine⟨λ_=>⟨bN,hi,hi,1,by decide,?_,by omega,by omega⟩,λq=>absurd cE q⟩
  rw[if_neg cE,show(IntKind.i64.wrap (0+1)).tmod 1000003=1 by decide,←yK I]
  exact aE.le_refl _
 ·have:k=1:=by omega
  subst this
  rw[if_neg cE]
  simp -dsimp -implicitDefEqProofs only[go_sem,↓reduceIte,Tryz.f104,dB]
  refine⟨λq=>absurd q cE,λ_=>?_⟩
  rw[aO]
  exact jZ ((List.replicate n 0).set i 1) hm (aE.le_refl _) (by rw[aU6,aYS])
theorem w2:IntKind.i64.wrap (1+1)=2:=by decide
theorem n0:Int.toNat 0=0:=rfl
theorem n1:Int.toNat 1=1:=rfl
theorem n2:Int.toNat 2=2:=rfl
def aE7 (n i:Nat):List Int:=(List.replicate n 0).set i 1
def aE8 (X:Out (List (List Int))):List Int×Int×Int:=match X with
 | .ok (vs,t)=>(vs.map (·.getD 0 0),t,0)
 | .error c=>([],0,c)
theorem a0U {X:Out (List (List Int))} {l:List (List Int)} {t:Nat} {c:Int} (h:kW X l t c):aE8 X=if c=0 then(l.map (·.getD 0 0),(t:Int),0)else([],0,c):=by
 cases X with
 |ok p =>
  obtain⟨w,u⟩:=p
  obtain⟨rfl,rfl,rfl⟩:=h
  rfl
 |error d =>
  obtain⟨rfl,h⟩:=h
  rw[if_neg h];rfl
theorem zW (l:List Int) (hl:l.length<=1048576):fM Tryz.prog 138 [ints l] (ints l):=aG0 (a3F l hl)
theorem a0V {l:List Int} {n len:Nat} {h h':aE} (x c:Int) (hn:h n=none) (hl:(aR h n (.row 1 ((l.map λx=>[I x]).map (List.map .v)))).le h') (e:len=l.length:=by simp) :
  ∃ r1 g l1,Shift (.jO [.os n 1 0 len,I x,I c]) h' r1 g/\QS (OS (oP I) 1 l) (λy=>.jO [y,I x,I c]) r1 l1/\gB h l1 g:=by
 subst e
 refine⟨.jO [(OV.sl n 1 (l.map λx=>[.v (I x)])).val,I x,I c],aR h n (.row 1 ((l.map λx=>[I x]).map (List.map .v))),_,?_,⟨_,OS.mk (aP3 l),rfl,rfl⟩,?_⟩
 ·rw[OV.oE];exact Shift.of (Sub.refl _) hl
 ·rw[OV.hJ,l3,kG];exact gB.one hn
theorem aKF {h h':aE} (x c:Int) (hl:h.le h') :
  ∃ r1 g l1,Shift (.jO [.sl 1 [] true,I x,I c]) h' r1 g/\QS (OS (oP I) 1 []) (λy=>.jO [y,I x,I c]) r1 l1/\gB h l1 g :=
 ⟨.jO [(OV.nil 1).val,I x,I c],h,_,Shift.of (Sub.refl _) hl,⟨_,OS.nil,rfl,rfl⟩,by rw[OV.uE];exact gB.nil h⟩
@[go_sem] def aWI:List Nat:=[0,1,2,6,7,8,9,10,11,12,13,14,22,46,56]
@[go_sem] def bL4:List Nat:=[18,30,31,47,52,66]
@[go_sem] def bL5:Marks:=λid=>match id with|9=>([4],(.op 0 (.op 1 (.op 2 (.op 3 (.op 4 (.op 5 (.op 6 (.op 7 .nil)))))))),[])|15=>([4],(.op 0 (.op 1 (.op 2 (.op 3 (.op 4 (.op 5 (.op 6 (.op 7 .nil)))))))),[])|_=>([],.nil,[])
theorem bGF {p:aC} (hp:p.ok) (f:Int) (hf:0<=f/\f<p.aD.length) (args:List Int) (na:dW args) (hal:args.length<=12) (hl:∀ F,p.aD[f.toNat]?=some F->(args.length:Int)=F.aT) :
  uT Tryz.prog 59 [.ip 1 [p.c] 0 0,I f,ints args] (QS (OS (oP I) 1 (aE8 (evF p 1 f (args.map λn=>[n]))).1) λy=>.jO [y,I (aE8 (evF p 1 f (args.map λn=>[n]))).2.1,I (aE8 (evF p 1 f (args.map λn=>[n]))).2.2]):=by
 obtain⟨F,ef,hF1,hF2,hF3,hF4⟩:=vQ hp hf
 have hlF:=hl F ef
 rw[aC.aS]
 refine aBC 73 aWI bL4 bL5 Tryz.func59 λh=>?_
 simp -dsimp -implicitDefEqProofs only[go_sem,↓reduceIte,Tryz.f59]
 intro nb zb
 refine⟨bN,?_⟩
 have hbd:bE.row 4 [[Cell.v (.ip 1 [[fN 3 aU.c p.aD]] 0 0),Cell.v (I 1),Cell.v (I 0),Cell.v (I 0)]]=fG p 1 0 0:=rfl
 rw[hbd]
 have hB0:(aR h nb (fG p 1 0 0)) nb=some (fG p 1 0 0):=aM _ _ _
 have hBl:h.le (aR h nb (fG p 1 0 0)):=aE.bP zb (aE.le_refl _)
 generalize hgB:aR h nb (fG p 1 0 0)=hB at hB0 hBl ⊢
 refine aL6 aWI bL4 bL5 (λx:Nat×Option Nat=>[(0,.ip 1 [[fN 3 aU.c p.aD]] 0 0),(1,I f),(2,ints args),(9,.op nb 4 0 0),(10,iO 1 (args.take x.1).length x.2),(11,I x.1)]) (λx=>bY hB (.row 1 ((((args.take x.1).map λn=>[n]).map λs=>[ints s]).map (List.map .v))) x.2) (λx=>x.1<=args.length/\fT hB (args.take x.1) x.2) (λx=>args.length-x.1) (0,none) ⟨by simp[c4,b7,iO],by simp only[aQ];exact aE.kE (aE.le_refl _),fE _,by simp[fT]⟩ ?_
 rintro⟨k,o⟩ ⟨hk,hos⟩
 simp only at hk hos ⊢
 rcases bZ k args.length with hlt|hge
 ·have ea:args[k]?=some args[k]:=cM hlt
  have hy:args.take (k+1)=args.take k++[args[k]]:=jU hlt
  have hlk:(args.take k).length=k:=by rw[jT];omega
  cases o with
  |none =>
   rw[aZ]at hos
   rw[hos]at hy ⊢
   simp -dsimp -implicitDefEqProofs only[go_sem,↓reduceIte,Tryz.f59,bM,aQ,hlt,ea]
   intro _
   refine⟨bN,bN,bN,bN,bN,λb hb=>⟨(k+1,some b),?_⟩⟩
   simp only[hy]
   refine⟨⟨rfl,by rw[IntWalk.i64_in _ aA];rfl⟩,a8N (A:=[]) (x:=.sl 1 [[I args[k]]] true) (y:=ints [args[k]]) (aM _ _ _) (Sub.loose _ _ _) x7,⟨by omega,hb⟩,by omega⟩
  |some n =>
   rw[aV]at hos
   simp -dsimp -implicitDefEqProofs only[go_sem,↓reduceIte,Tryz.f59,bC,aK,hlt,ea]
   intro _
   refine⟨bN,bN,bN,bN,bN,iH _,by omega,by omega,λb hb=>⟨(k+1,some b),?_⟩⟩
   simp only[hy,aK,bC,aV]
   refine⟨⟨by rw[mV];rfl,by rw[IntWalk.i64_in _ aA];rfl⟩,a8N (x:=.sl 1 [[I args[k]]] true) (y:=ints [args[k]]) (aM _ _ _) (Sub.loose _ _ _) ?_,⟨by omega,hb.2⟩,by omega⟩
   have hl2:(args.take k).length=((args.take k).map λn=>[n]).length:=by rw[nG]
   rw[aO,kS,show((args.take k).map λn=>[n])++[args[k]].map (λn=>[n])=((args.take k).map λn=>[n])++[[args[k]]]from rfl,←jD ints,hl2]
   exact qM hos
 have hk':k=args.length:=by omega
 subst hk'
 rw[mR]at hos ⊢
 have hserA:∀ s∈args.map (λn=>[n]),bV 1 s:=λs hs=>by
  obtain⟨n,hn,rfl⟩:=qU.1 hs
  refine⟨rfl,λx hx=>?_⟩
  rw[jF.1 hx]
  exact na n hn
 have hlA:((args.map λn=>[n]).length:Int)=F.aT:=by rw[nG];exact hlF
 have hnbB:∀ {m:Nat},hB m=none->¬nb=m:=λhm e=>by rw[←e,hB0]at hm;cases hm
 cases o with
 |none =>
  rw[aZ]at hos
  subst hos
  simp -dsimp -implicitDefEqProofs only[go_sem,↓reduceIte,Tryz.f59,bM,aQ,bX,dB,ef]
  refine⟨hf.1,by omega,?_⟩
  have ho:=aN3 (run hp (by decide:1<=1/\1<=1048576) 3001) hB nb 0 0 F [] f hB0 aA aA aA (by rw[nG]at hlA;rw[show(([]:List (List Int)).length:Int)=F.aT from hlA];exact hF4) hf.1 aA cT cT
  refine aJ.gS (jC.sub (.cons (.refl _) (.cons (Sub.ip bDZ a66) (.cons (Sub.loose _ _ _) .nil))) ho) ?_
  rintro r h' ⟨vs,t,c,rfl,rfl,hvl,hvs,a1,a2,a3⟩
  have hCl:h.le (aR hB nb (fG p 1 t c)):=aE.bP zb hBl
  have hCn:(aR hB nb (fG p 1 t c)) nb=some (.row 4 [[.v (.ip 1 [p.c] 0 0),.v (I 1),.v (I t),.v (I c)]]):=aM _ _ _
  generalize aR hB nb (fG p 1 t c)=hC at hCn hCl ⊢
  rw[dF,←hF3]at a3
  simp -dsimp -implicitDefEqProofs only[go_sem,↓reduceIte,Tryz.f59,hCn]
  have zE:=a0U (show kW (evF p 1 f _) vs t c from a3)
  refine⟨λhc=>⟨bN,?_⟩,λhc=>⟨bN,?_⟩⟩
  ·try simp only[sX]
   rw[zE,if_neg hc]
   exact aKF 0 c hCl
  subst hc
  rw[if_pos rfl]at zE
  have hcv:(vs.map λs=>s.getD 0 0).length=vs.length:=nG _
  refine cZ aWI bL4 bL5 (λx:Nat×Option Nat=>[(9,.op nb 4 0 0),(12,b6 vs),(13,iO 1 ((vs.map λs=>s.getD 0 0).take x.1).length x.2),(14,I x.1)]) (λx=>bY hC (.row 1 ((((vs.map λs=>s.getD 0 0).take x.1).map λn=>[I n]).map (List.map .v))) x.2) (λx=>x.1<=vs.length/\fT hC ((vs.map λs=>s.getD 0 0).take x.1) x.2) (λx=>vs.length-x.1) (0,none) ⟨by simp[c4,b7,iO],by simp only[aQ];exact aE.le_refl _,fE _,by simp[fT]⟩ ?_
  rintro⟨k,o⟩ ⟨hk,hos⟩
  simp only at hk hos ⊢
  rcases bZ k vs.length with hlt|hge
  ·have ea:vs[k]?=some vs[k]:=cM hlt
   have h0:=hvs _ (eI hlt)
   have e0:(vs[k])[Int.toNat 0]?=some (vs[k].getD 0 0):=cI (by rw[h0.1];decide)
   have h0l:=h0.1
   have hy:(vs.map λs=>s.getD 0 0).take (k+1)=(vs.map λs=>s.getD 0 0).take k++[(vs.map λs=>s.getD 0 0)[k]'aA]:=jU aA
   have hlk:((vs.map λs=>s.getD 0 0).take k).length=k:=by rw[jT];omega
   rw[r8]at hy
   cases o with
   |none =>
    rw[aZ]at hos
    rw[hos]at hy ⊢
    simp -dsimp -implicitDefEqProofs only[go_sem,↓reduceIte,Tryz.f59,bM,aQ,hlt,ea,e0]
    repeat'(with_reducible first|intro _|refine And.intro ?_ ?_)
    all_goals try(first|omega|decide)
    rename_i b hb
    refine⟨(k+1,some b),?_⟩
    simp only[hy]
    refine⟨⟨rfl,?_⟩,aE.le_refl _,⟨by omega,hb⟩,by omega⟩
    rw[IntWalk.i64_in _ aA];rfl
   |some n =>
    rw[aV]at hos
    simp -dsimp -implicitDefEqProofs only[go_sem,↓reduceIte,Tryz.f59,bC,aK,hlt,ea,e0]
    repeat'(with_reducible first|intro _|refine And.intro ?_ ?_)
    all_goals try(first|omega|decide|exact iH _)
    rename_i b hb
    refine⟨(k+1,some b),?_⟩
    simp only[hy,aK,bC,aV]
    refine⟨⟨by rw[mV];rfl,?_⟩,?_,⟨by omega,hb.2⟩,by omega⟩
    ·rw[IntWalk.i64_in _ aA];rfl
    ·rw[←jD];exact qM hos
  ·have hk':k=vs.length:=by omega
   subst hk'
   rw[pQ aA]at hos ⊢
   cases o with
   |none =>
    rw[aZ]at hos
    simp -dsimp -implicitDefEqProofs only[go_sem,↓reduceIte,Tryz.f59,bM,aQ,bX,dB,hCn]
    intro _
    try simp only[sX]
    rw[zE,hos]
    exact aKF _ _ hCl
   |some n =>
    rw[aV]at hos
    obtain⟨wR,fK,fL,p6⟩:=bB (show ¬n=nb from λe=>by rw[e,hCn]at hos;cases hos)
    simp -dsimp -implicitDefEqProofs only[go_sem,↓reduceIte,Tryz.f59,bC,aK,bX,dB,aI,fK,fL,hCn]
    intro _
    try simp only[sX]
    rw[zE]
    exact a0V _ _ (aE.le_none hCl hos) (aE.rD hCl)
 |some n =>
  rw[aV]at hos
  simp -dsimp -implicitDefEqProofs only[go_sem,↓reduceIte,Tryz.f59,bC,aK,bX,dB,ef]
  intro _
  refine⟨hf.1,by omega,?_⟩
  have hnn:=hnbB hos
  refine aJ.bF8 rfl rfl hnn (by rw[nG,nG]) hos ?_
  have ho:=aN3 (run hp (by decide:1<=1/\1<=1048576) 3001) (aR hB n .gone) nb 0 0 F (args.map λn=>[n]) f (by rw[aI _ _ _ _ hnn];exact hB0) aA aA aA (by rw[hlA];exact hF4) hf.1 aA hserA a62
  refine jC.mono (jC.sub (.cons (.refl _) (.cons (Sub.ip bDZ a66) (.cons (.refl _) .nil))) ho) ?_
  rintro r h' ⟨vs,t,c,rfl,rfl,hvl,hvs,a1,a2,a3⟩
  have hhn:h n=none:=by rw[←hgB,aI _ _ _ _ (l5 hnn)]at hos;exact hos
  have hCl:h.le (aR (aR hB n .gone) nb (fG p 1 t c)):=aE.bP zb (aE.bP hhn hBl)
  have hCn:(aR (aR hB n .gone) nb (fG p 1 t c)) nb=some (.row 4 [[.v (.ip 1 [p.c] 0 0),.v (I 1),.v (I t),.v (I c)]]):=aM _ _ _
  generalize aR (aR hB n .gone) nb (fG p 1 t c)=hC at hCn hCl ⊢
  rw[dF,←hF3]at a3
  simp -dsimp -implicitDefEqProofs only[go_sem,↓reduceIte,Tryz.f59,hCn]
  have zE:=a0U (show kW (evF p 1 f _) vs t c from a3)
  refine⟨λhc=>⟨bN,?_⟩,λhc=>⟨bN,?_⟩⟩
  ·try simp only[sX]
   rw[zE,if_neg hc]
   exact aKF 0 c hCl
  subst hc
  rw[if_pos rfl]at zE
  have hcv:(vs.map λs=>s.getD 0 0).length=vs.length:=nG _
  refine cZ aWI bL4 bL5 (λx:Nat×Option Nat=>[(9,.op nb 4 0 0),(12,b6 vs),(13,iO 1 ((vs.map λs=>s.getD 0 0).take x.1).length x.2),(14,I x.1)]) (λx=>bY hC (.row 1 ((((vs.map λs=>s.getD 0 0).take x.1).map λn=>[I n]).map (List.map .v))) x.2) (λx=>x.1<=vs.length/\fT hC ((vs.map λs=>s.getD 0 0).take x.1) x.2) (λx=>vs.length-x.1) (0,none) ⟨by simp[c4,b7,iO],by simp only[aQ];exact aE.le_refl _,fE _,by simp[fT]⟩ ?_
  rintro⟨k,o⟩ ⟨hk,hos⟩
  simp only at hk hos ⊢
  rcases bZ k vs.length with hlt|hge
  ·have ea:vs[k]?=some vs[k]:=cM hlt
   have h0:=hvs _ (eI hlt)
   have e0:(vs[k])[Int.toNat 0]?=some (vs[k].getD 0 0):=cI (by rw[h0.1];decide)
   have h0l:=h0.1
   have hy:(vs.map λs=>s.getD 0 0).take (k+1)=(vs.map λs=>s.getD 0 0).take k++[(vs.map λs=>s.getD 0 0)[k]'aA]:=jU aA
   have hlk:((vs.map λs=>s.getD 0 0).take k).length=k:=by rw[jT];omega
   rw[r8]at hy
   cases o with
   |none =>
    rw[aZ]at hos
    rw[hos]at hy ⊢
    simp -dsimp -implicitDefEqProofs only[go_sem,↓reduceIte,Tryz.f59,bM,aQ,hlt,ea,e0]
    repeat'(with_reducible first|intro _|refine And.intro ?_ ?_)
    all_goals try(first|omega|decide)
    rename_i b hb
    refine⟨(k+1,some b),?_⟩
    simp only[hy]
    refine⟨⟨rfl,?_⟩,aE.le_refl _,⟨by omega,hb⟩,by omega⟩
    rw[IntWalk.i64_in _ aA];rfl
   |some n =>
    rw[aV]at hos
    simp -dsimp -implicitDefEqProofs only[go_sem,↓reduceIte,Tryz.f59,bC,aK,hlt,ea,e0]
    repeat'(with_reducible first|intro _|refine And.intro ?_ ?_)
    all_goals try(first|omega|decide|exact iH _)
    rename_i b hb
    refine⟨(k+1,some b),?_⟩
    simp only[hy,aK,bC,aV]
    refine⟨⟨by rw[mV];rfl,?_⟩,?_,⟨by omega,hb.2⟩,by omega⟩
    ·rw[IntWalk.i64_in _ aA];rfl
    ·rw[←jD];exact qM hos
  ·have hk':k=vs.length:=by omega
   subst hk'
   rw[pQ aA]at hos ⊢
   cases o with
   |none =>
    rw[aZ]at hos
    simp -dsimp -implicitDefEqProofs only[go_sem,↓reduceIte,Tryz.f59,bM,aQ,bX,dB,hCn]
    intro _
    try simp only[sX]
    rw[zE,hos]
    exact aKF _ _ hCl
   |some n =>
    rw[aV]at hos
    obtain⟨wR,fK,fL,p6⟩:=bB (show ¬n=nb from λe=>by rw[e,hCn]at hos;cases hos)
    simp -dsimp -implicitDefEqProofs only[go_sem,↓reduceIte,Tryz.f59,bC,aK,bX,dB,aI,fK,fL,hCn]
    intro _
    try simp only[sX]
    rw[zE]
    exact a0V _ _ (aE.le_none hCl hos) (aE.rD hCl)
theorem a8Q {p:aC} (hp:p.ok) (f:Int) (hf:0<=f/\f<p.aD.length) (args:List Int) (na:dW args) (hal:args.length<=12) (hl:∀ F,p.aD[f.toNat]?=some F->(args.length:Int)=F.aT) :
  fM Tryz.prog 59 [.ip 1 [p.c] 0 0,I f,ints args] (.jO [ints (aE8 (evF p 1 f (args.map λn=>[n]))).1,I (aE8 (evF p 1 f (args.map λn=>[n]))).2.1,I (aE8 (evF p 1 f (args.map λn=>[n]))).2.2]) :=
 QS.b0N (bGF hp f hf args na hal hl) (λy hy=>OS.pU (c:=λn=>[I n]) (λ_ _ q=>aP2 q) hy) (aEW [] [I (aE8 (evF p 1 f (args.map λn=>[n]))).2.1,I (aE8 (evF p 1 f (args.map λn=>[n]))).2.2])
structure bO where
 lB:Int
 fA:Int
 fB:Int
 aW:Int
def bO.c (x:bO):List aH:=[I x.lB,I x.fA,I x.fB,I x.aW]
theorem bO.aS (x:bO):x.c=[I x.lB,I x.fA,I x.fB,I x.aW]:=rfl
structure j8 where
 bBR:Int
 b1E:Bool
def j8.c (x:j8):List aH:=[I x.bBR,.bool x.b1E]
structure dS where
 code:List bO
 jE:List Int
 guards:List j8
def dS.val (S:dS) (k:Int):Int:=S.jE.getD k.toNat 0
def dS.put (S:dS) (c:bO) (v:Int):dS:=⟨S.code++[c],S.jE++[v],S.guards⟩
def dS.guard (S:dS) (g:j8):dS:=⟨S.code,S.jE,S.guards++[g]⟩
def tA (ev:Nat->aB->dS->Out (Int×dS)):List aB->Nat->dS->Out (List Int×dS)
 | [],t,S=>.ok (([],S),t)
 |e::l,t,S=>(ev t e S).andThen λr t=>(tA ev l t r.2).andThen λq t=>.ok ((r.1::q.1,q.2),t)
def uZ (f:List Int->Nat->dS->Out (List Int×dS)):Nat->List Int->Nat->dS->Out (List Int×dS)
 |0,vs,t,S=>.ok ((vs,S),t)
 |n+1,vs,t,S=>(f vs t S).andThen λr t=>uZ f n r.1 t r.2
def opV (k a b:Int):Option Int :=
 if k=3 then some ((a+b)%1000003)else if k=4 then some ((a-b)%1000003)else if k=5 then some (a*b%1000003)else if k=7 then some ((0-a)%1000003)
 else if b=0 then none else some (a*nV b%1000003)
def opB (k:Int) (vs:List Int):Int:=if k=7 then 0 else vs.getD 1 0
def opR (k:Int) (vs:List Int) (S:dS) (t:Nat):Out (Int×dS):=match opV k (S.val (vs.getD 0 0)) (S.val (opB k vs))with
 |none=>.error 6
 |some v=>.ok (((S.jE.length:Int),S.put ⟨k,vs.getD 0 0,opB k vs,0⟩ v),t)
def fH (p:aC):Nat->Nat->aB->List Int->dS->Out (Int×dS)
 |0,_,_,_,_=>.error 7
 |n+1,t,e,env,S =>
  if t=3000 then .error 7
  else if e.aP=1 then .ok (((S.jE.length:Int),S.put ⟨2,0,0,e.aW⟩ e.aW),t+1)
  else if e.aP=2 then .ok ((env.getD e.aW.toNat 0,S),t+1)
  else if e.aP=8 then(fH p n (t+1) (e.fZ 0) env S).andThen λr t =>
   if r.2.val r.1=0 then fH p n t (e.fZ 1) env (r.2.guard ⟨r.1,true⟩)else fH p n t (e.fZ 2) env (r.2.guard ⟨r.1,false⟩)
  else if e.aP=9 then(fH p n (t+1) (e.fZ 0) env S).andThen λr t=>fH p n t (e.fZ 1) (env++[r.1]) r.2
  else(tA (λt e S=>fH p n t e env S) e.aL (t+1) S).andThen λr t =>
   if e.aP=10 then fH p n t (p.out e.aW e.bR) r.1 r.2
   else if e.aP=11 then(uZ (λvs t S=>tA (λt e S=>fH p n t e vs S) (p.outs e.aW) t S) e.bI.toNat r.1 t r.2).andThen λr t=>.ok ((r.1.getD e.bR.toNat 0,r.2),t)
   else opR e.aP r.1 r.2 t
theorem aT5 (ev:Nat->aB->dS->Out (Int×dS)) (e:aB):∀ (l:List aB) (t:Nat) (S:dS),tA ev (l++[e]) t S=(tA ev l t S).andThen λq t=>(ev t e q.2).andThen λr t=>.ok ((q.1++[r.1],r.2),t)
 | [],t,S=>rfl
 |x::l,t,S=>by
  simp only[aU8,tA,aT5 ev e l,Out.pV,Out.andThen_ok]
theorem aH7 (f:List Int->Nat->dS->Out (List Int×dS)):∀ (n:Nat) (vs:List Int) (t:Nat) (S:dS),uZ f (n+1) vs t S=(uZ f n vs t S).andThen λr t=>f r.1 t r.2
 |0,vs,t,S=>by
  show(f vs t S).andThen (λr t=>.ok ((r.1,r.2),t))=f vs t S
  cases f vs t S with
  |ok p=>rfl
  |error c=>rfl
 |n+1,vs,t,S=>by
  rw[uZ,show uZ f (n+1) vs t S=(f vs t S).andThen λr t=>uZ f n r.1 t r.2 from rfl,Out.pV]
  congr 1
  funext r t
  exact aH7 f n r.1 t r.2
theorem bBS (f:List Int->Nat->dS->Out (List Int×dS)) {vs:List Int} {t:Nat} {S:dS} {c:Int}:∀ (k:Nat) {n:Nat},k<=n->uZ f k vs t S=.error c->uZ f n vs t S=.error c:=by
 intro k n hkn h
 induction n with
 |zero => obtain rfl : k = 0 := by omega
          exact h
 |succ n ih =>
  rcases bZ k (n+1)with h1|h1
  ·rw[aH7,ih aA];rfl
  ·obtain rfl:k=n+1:=by omega
   exact h
def cV (inp:Int) (i:Nat) (c:bO):Prop :=
 (c.lB=1/\c.fA=0/\c.fB=0/\0<=c.aW/\c.aW<inp)∨(c.lB=2/\c.fA=0/\c.fB=0/\oU c.aW)∨((c.lB=3∨c.lB=4∨c.lB=5∨c.lB=6)/\c.aW=0/\0<=c.fA/\c.fA<i/\0<=c.fB/\c.fB<i)∨(c.lB=7/\c.aW=0/\c.fB=0/\0<=c.fA/\c.fA<i)
structure Good (inp:Int) (S:dS) (t:Nat):Prop where
 len:S.code.length=S.jE.length
 bGG:dW S.jE
 ins:∀ i c,S.code[i]?=some c->cV inp i c
 gds:∀ g∈S.guards,0<=g.bBR/\g.bBR<S.jE.length
 cap:S.jE.length<=12+t
 aCZ:S.guards.length<=t
def dS.ext (S S':dS):Prop:=S.code <+: S'.code/\S.jE <+: S'.jE/\S.guards <+: S'.guards
theorem dS.uH (S:dS):S.ext S:=⟨aS9 _,aS9 _,aS9 _⟩
theorem dS.ext.trans {a b c:dS} (h:a.ext b) (k:b.ext c):a.ext c:=⟨h.1.trans k.1,h.2.1.trans k.2.1,h.2.2.trans k.2.2⟩
theorem dS.aKG (S:dS) (c:bO) (v:Int):S.ext (S.put c v):=⟨bDJ _ _,bDJ _ _,aS9 _⟩
theorem dS.tN (S:dS) (g:j8):S.ext (S.guard g):=⟨aS9 _,aS9 _,bDJ _ _⟩
theorem dS.ext.val {S S':dS} (h:S.ext S') {k:Int} (h0:0<=k) (hk:k<S.jE.length):S'.val k=S.val k:=by
 obtain⟨x,hx⟩:=h.2.1
 rw[dS.val,dS.val,←hx,dI,dI,uU aA]
theorem dS.ext.len {S S':dS} (h:S.ext S'):S.jE.length<=S'.jE.length:=h.2.1.length_le
def rQ (S:dS) (k:Int):Prop:=0<=k/\k<S.jE.length
theorem rQ.ext {S S':dS} {k:Int} (h:rQ S k) (e:S.ext S'):rQ S' k:=⟨h.1,by have:=h.2;have:=e.len;omega⟩
theorem Good.later {inp:Int} {S:dS} {t u:Nat} (h:Good inp S t) (hu:t<=u):Good inp S u:=⟨h.len,h.bGG,h.ins,h.gds,by have:=h.cap;omega,by have:=h.aCZ;omega⟩
theorem Good.put {inp:Int} {S:dS} {t:Nat} {c:bO} {v:Int} (h:Good inp S t) (hc:cV inp S.jE.length c) (hv:oU v) (hcap:S.jE.length<12+t):Good inp (S.put c v) t:=by
 refine⟨by simp[dS.put,h.len],λx hx=>?_,λi d hd=>?_,λg hg=>?_,by simp[dS.put];omega,h.aCZ⟩
 ·rcases pJ.1 hx with hx|hx
  ·exact h.bGG x hx
  ·rw[jF.1 hx];exact hv
 ·rcases bZ i S.code.length with hi|hi
  ·rw[dS.put,uU hi]at hd;exact h.ins i d hd
  ·rw[dS.put,wZ hi]at hd
   have hd2:=mS.1 hd
   obtain⟨h1,h2⟩:=hd2
   have h3:i=S.jE.length:=by simp at h1;have:=h.len;omega
   simp at h2
   subst h2;rw[h3];exact hc
 ·have:=h.gds g hg
  simp only[dS.put,mV,u4];omega
theorem Good.guard {inp:Int} {S:dS} {t:Nat} {k:Int} {b:Bool} (h:Good inp S t) (hk:rQ S k) (hcap:S.guards.length<t):Good inp (S.guard ⟨k,b⟩) t:=by
 refine⟨h.len,h.bGG,h.ins,λg hg=>?_,h.cap,by simp[dS.guard];omega⟩
 rcases pJ.1 hg with hg|hg
 ·exact h.gds g hg
 ·rw[jF.1 hg];exact hk
theorem bL6 {k a b v:Int} (h:opV k a b=some v):oU v:=by
 unfold opV at h
 repeat'(split at h)
 all_goals first|(cases h;done)|(cases h;exact nY _)
def wS {α:Type} (P:α->Nat->Prop) (X:Out α):Prop:=∀ v u,X=.ok (v,u)->P v u
theorem wS.then {α β:Type} {P:α->Nat->Prop} {Q:β->Nat->Prop} {X:Out α} {F:α->Nat->Out β} (h:wS P X) (hf:∀ v t,P v t->wS Q (F v t)):wS Q (X.andThen F):=λw u hw=>by
 cases X with
 |ok p=>obtain⟨v,t⟩:=p;exact hf v t (h v t rfl) w u hw
 |error c=>cases hw
theorem wS.pure {α:Type} {P:α->Nat->Prop} {v:α} {t:Nat} (h:P v t):wS P (.ok (v,t)):=λw u e=>by cases e;exact h
theorem wS.err {α:Type} {P:α->Nat->Prop} {c:Int}:wS P (.error c:Out α):=λw u e=>by cases e
theorem wS.mono {α:Type} {P Q:α->Nat->Prop} {X:Out α} (h:wS P X) (hq:∀ v u,P v u->Q v u):wS Q X:=λv u e=>hq v u (h v u e)
def pP (S:dS) (t:Nat) (S':dS) (u:Nat):Prop:=S'.jE.length+t<=S.jE.length+u/\S'.guards.length+t<=S.guards.length+u/\t<=u/\u<=3000
theorem pP.refl {S:dS} {t:Nat} (h:t<=3000):pP S t S t:=⟨iH _,iH _,iH _,h⟩
theorem pP.trans {A B C:dS} {t u v:Nat} (h:pP A t B u) (k:pP B u C v):pP A t C v:=by
 unfold pP at *;omega
def aH8 (inp:Int) (S:dS) (t:Nat) (r:Int×dS) (u:Nat):Prop:=Good inp r.2 u/\S.ext r.2/\rQ r.2 r.1/\pP S t r.2 u
def aDX (inp:Int) (S:dS) (t n:Nat) (r:List Int×dS) (u:Nat):Prop:=Good inp r.2 u/\S.ext r.2/\(r.1.length=n/\∀ x∈r.1,rQ r.2 x)/\pP S t r.2 u
theorem kR {ev:Nat->aB->dS->Out (Int×dS)} {inp:Int}:∀ (l:List aB) (t:Nat) (S:dS),Good inp S t->t<=3000->(∀ e∈l,∀ u S',Good inp S' u->S.ext S'->pP S t S' u->wS (aH8 inp S' u) (ev u e S'))->wS (aDX inp S t l.length) (tA ev l t S)
 | [],t,S,hg,ht,_=>wS.pure ⟨hg,S.uH,⟨rfl,by simp⟩,.refl ht⟩
 |e::l,t,S,hg,ht,h=>(h e x6 t S hg S.uH (.refl ht)).then λr u hr=>by
  obtain⟨r1,r2,r3,r4⟩:=hr
  refine(kR l u r.2 r1 r4.2.2.2 λx hx u' S' a b c=>h x (w6 _ hx) u' S' a (r2.trans b) (r4.trans c)).then λq u' hq=>?_
  obtain⟨q1,q2,⟨q3,q4⟩,q5⟩:=hq
  refine wS.pure ⟨q1,r2.trans q2,⟨by rw[al2,q3];rfl,λx hx=>?_⟩,r4.trans q5⟩
  rcases pY.1 hx with rfl|hx
  ·exact r3.ext q2
  ·exact q4 x hx
theorem wA {f:List Int->Nat->dS->Out (List Int×dS)} {inp:Int} {m:Nat} (h:∀ vs t S,Good inp S t->(vs.length=m/\∀ x∈vs,rQ S x)->t<=3000->wS (aDX inp S t m) (f vs t S)) :
  ∀ (n:Nat) (vs:List Int) (t:Nat) (S:dS),Good inp S t->(vs.length=m/\∀ x∈vs,rQ S x)->t<=3000->wS (aDX inp S t m) (uZ f n vs t S)
 |0,vs,t,S,hg,hv,ht=>wS.pure ⟨hg,S.uH,hv,.refl ht⟩
 |n+1,vs,t,S,hg,hv,ht=>(h vs t S hg hv ht).then λr u hr=>by
  obtain⟨r1,r2,r3,r4⟩:=hr
  refine(wA h n r.1 u r.2 r1 r3 r4.2.2.2).mono λq u' hq=>?_
  obtain⟨q1,q2,q3,q4⟩:=hq
  exact⟨q1,r2.trans q2,q3,r4.trans q4⟩
theorem bT9 {inp k:Int} {vs:List Int} {S:dS} {t:Nat} {m:Nat} (hk:k=3∨k=4∨k=5∨k=6∨k=7) (hm:vs.length=m/\∀ x∈vs,rQ S x) (hm1:1<=m) (hm2:¬k=7->2<=m) (hg:Good inp S (t+1)) (hcap:S.jE.length<12+(t+1)) (ht:t+1<=3000):wS (λr u=>Good inp r.2 u/\S.ext r.2/\rQ r.2 r.1/\u=t+1/\r.2.jE.length=S.jE.length+1/\r.2.guards=S.guards) (opR k vs S (t+1)):=by
 have at_:∀ i,i<m->rQ S (vs.getD i 0):=λi hi=>by
  rw[dI,cM aA]
  exact hm.2 _ (eI _)
 unfold opR
 split
 ·exact wS.err
 ·rename_i v hv
  have h0:=at_ 0 aA
  refine wS.pure ⟨hg.put ?_ (bL6 hv) hcap,S.aKG _ _,⟨by simp,by simp[dS.put];omega⟩,rfl,by simp[dS.put],rfl⟩
  unfold rQ at h0
  by_cases h7:k=7
  ·subst h7
   exact .inr (.inr (.inr ⟨rfl,rfl,rfl,h0⟩))
  ·have h1:=at_ 1 (hm2 h7)
   unfold rQ at h1
   have hb:opB k vs=vs.getD 1 0:=if_neg h7
   exact .inr (.inr (.inl ⟨by simp only;omega,rfl,h0.1,h0.2,by simp only[hb];exact h1.1,by simp only[hb];exact h1.2⟩))
theorem aQ4 {p:aC} {n st:Nat} {e:aB} {env:List Int} {S:dS} (h3:¬st=3000) (hk:e.aP=1):fH p (n+1) st e env S=.ok (((S.jE.length:Int),S.put ⟨2,0,0,e.aW⟩ e.aW),st+1):=by rw[fH,if_neg h3,if_pos hk]
theorem aQ5 {p:aC} {n st:Nat} {e:aB} {env:List Int} {S:dS} (h3:¬st=3000) (hk:e.aP=2):fH p (n+1) st e env S=.ok ((env.getD e.aW.toNat 0,S),st+1):=by rw[fH,if_neg h3,if_neg aA,if_pos hk]
theorem aC0 {p:aC} {n st:Nat} {e:aB} {env:List Int} {S:dS} (h3:¬st=3000) (hk:e.aP=8):fH p (n+1) st e env S=(fH p n (st+1) (e.fZ 0) env S).andThen λr t =>
   if r.2.val r.1=0 then fH p n t (e.fZ 1) env (r.2.guard ⟨r.1,true⟩)else fH p n t (e.fZ 2) env (r.2.guard ⟨r.1,false⟩):=by rw[fH,if_neg h3,if_neg aA,if_neg aA,if_pos hk]
theorem aQ6 {p:aC} {n st:Nat} {e:aB} {env:List Int} {S:dS} (h3:¬st=3000) (hk:e.aP=9):fH p (n+1) st e env S=(fH p n (st+1) (e.fZ 0) env S).andThen λr t=>fH p n t (e.fZ 1) (env++[r.1]) r.2:=by rw[fH,if_neg h3,if_neg aA,if_neg aA,if_neg aA,if_pos hk]
theorem aF3 {p:aC} {n st:Nat} {e:aB} {env:List Int} {S:dS} (h3:¬st=3000) (hk:e.aP=10):fH p (n+1) st e env S=(tA (λt e S=>fH p n t e env S) e.aL (st+1) S).andThen λr t=>fH p n t (p.out e.aW e.bR) r.1 r.2:=by
 rw[fH,if_neg h3,if_neg aA,if_neg aA,if_neg aA,if_neg aA];simp only[if_pos hk]
theorem aF4 {p:aC} {n st:Nat} {e:aB} {env:List Int} {S:dS} (h3:¬st=3000) (hk:e.aP=11):fH p (n+1) st e env S=(tA (λt e S=>fH p n t e env S) e.aL (st+1) S).andThen λr t=>(uZ (λvs t S=>tA (λt e S=>fH p n t e vs S) (p.outs e.aW) t S) e.bI.toNat r.1 t r.2).andThen λr t=>.ok ((r.1.getD e.bR.toNat 0,r.2),t):=by
 have h:¬e.aP=10:=by omega
 rw[fH,if_neg h3,if_neg aA,if_neg aA,if_neg aA,if_neg aA];simp only[if_neg h,if_pos hk]
theorem qB {p:aC} {n st:Nat} {e:aB} {env:List Int} {S:dS} (h3:¬st=3000) (hk:e.aP=3∨e.aP=4∨e.aP=5∨e.aP=6∨e.aP=7):fH p (n+1) st e env S=(tA (λt e S=>fH p n t e env S) e.aL (st+1) S).andThen λr t=>opR e.aP r.1 r.2 t:=by
 have h:¬e.aP=10:=by omega
 have h2:¬e.aP=11:=by omega
 rw[fH,if_neg h3,if_neg aA,if_neg aA,if_neg aA,if_neg aA];simp only[if_neg h,if_neg h2]
theorem pP.step {S S':dS} {t u:Nat} (h:pP S (t+1) S' u):pP S t S' u:=by unfold pP at *;omega
theorem vS {p:aC} (hp:p.ok) {inp:Int}:∀ (n t:Nat) (e:aB) (env:List Int) (S:dS) (funcs:Int),e.ok p funcs env.length->funcs<=p.aD.length->Good inp S t->t<=3000->(∀ x∈env,rQ S x)->wS (aH8 inp S t) (fH p n t e env S)
 |0,t,e,env,S,funcs,_,_,_,_,_=>wS.err
 |n+1,t,e,env,S,funcs,hok,hf,hg,ht,henv=>by
  have ih:=vS hp (inp:=inp) n
  have hnode:=((aB.cN _ _ _ _).1 hok).1
  by_cases h3:t=3000
  ·rw[fH,if_pos h3];exact wS.err
  have o7:=hg.later (r7 t)
  have hcap:=hg.cap
  have hgcap:=hg.aCZ
  have henvE:∀ {S'},S.ext S'->∀ x∈env,rQ S' x:=λe x hx=>(henv x hx).ext e
  rcases rE hnode with hk|hk|hk|hk|hk|hk|hk|hk|hk|hk|hk
  ·rw[aQ4 h3 hk]
   have hn:=((dA aA).1 hnode).2.2.2.1 hk
   exact wS.pure ⟨o7.put (.inr (.inl ⟨rfl,rfl,rfl,hn⟩)) hn aA,S.aKG _ _,⟨by simp,by simp[dS.put];omega⟩,by simp[pP,dS.put];omega⟩
  ·rw[aQ5 h3 hk]
   have hn:=((dA aA).1 hnode).2.2.2.2.1 hk
   refine wS.pure ⟨o7,S.uH,?_,by simp[pP];omega⟩
   simp only[dI]
   rw[cM aA]
   exact henv _ (eI _)
  iterate 5
   ·have hlen:=cQ hok aA
    rw[hk]at hlen
    rw[qB h3 aA]
    refine(kR _ _ S o7 aA λx hx u S' a b c=>ih u x env S' funcs (cO hok aA x hx) hf a c.2.2.2 (henvE b)).then λr u hr=>?_
    obtain⟨r1,r2,r3,r4⟩:=hr
    obtain⟨u,rfl⟩:∃ w,u=w+1:=⟨u-1,by have:=r4.2.2.1;omega⟩
    unfold pP at r4
    refine(bT9 (inp:=inp) aA r3 a6Q (λq=>by unfold dD at hlen;simp at hlen;omega) r1 aA aA).mono λq v hq=>?_
    obtain⟨q1,q2,q3,rfl,q5,q6⟩:=hq
    exact⟨q1,r2.trans q2,q3,by unfold pP;rw[q5,q6];omega⟩
  ·have hlen:=cQ hok aA
   rw[hk,show dD 8=3 from rfl]at hlen
   have o0:=aB.dX hok (i:=0) aA
   have o1:=aB.dX hok (i:=1) aA
   have o2:=aB.dX hok (i:=2) aA
   rw[gQ aA]at o0 o1 o2
   rw[aC0 h3 hk]
   refine(ih _ _ _ _ _ o0 hf o7 aA henv).then λr u hr=>?_
   obtain⟨r1,r2,r3,r4⟩:=hr
   have r4':=r4
   unfold pP at r4'
   have go:∀ (b:Bool) (k:aB),k.ok p funcs env.length->wS (aH8 inp S t) (fH p n u k env (r.2.guard ⟨r.1,b⟩)):=λb k hk=>by
    have he:r.2.ext (r.2.guard ⟨r.1,b⟩):=r.2.tN _
    refine(ih u k env _ _ hk hf (r1.guard r3 aA) aA (henvE (r2.trans he))).mono λq v hq=>?_
    obtain⟨q1,q2,q3,q4⟩:=hq
    refine⟨q1,(r2.trans he).trans q2,q3,?_⟩
    unfold pP at q4 ⊢
    simp only[dS.guard,mV,u4]at q4
    omega
   split
   ·exact go _ _ o1
   ·exact go _ _ o2
  ·have hlen:=cQ hok aA
   rw[hk,show dD 9=2 from rfl]at hlen
   have o0:=aB.dX hok (i:=0) aA
   have o1:=aB.dX hok (i:=1) aA
   rw[gQ aA]at o0
   rw[hk,show jV 9 1 (env.length:Int)=env.length+1 from rfl]at o1
   rw[aQ6 h3 hk]
   refine(ih _ _ _ _ _ o0 hf o7 aA henv).then λr u hr=>?_
   obtain⟨r1,r2,r3,r4⟩:=hr
   refine(ih _ _ (env++[r.1]) _ _ aDS hf r1 r4.2.2.2 λx hx=>?_).mono λq v hq=>?_
   ·rcases pJ.1 hx with hx|hx
    ·exact henvE r2 x hx
    ·rw[jF.1 hx];exact r3
   ·obtain⟨q1,q2,q3,q4⟩:=hq
    exact⟨q1,r2.trans q2,q3,(r4.trans q4).step⟩
  ·obtain⟨f,F⟩:=nD hp hok hf (.inl hk)
   have f2:=F.hi
   have f4:=F.pk2
   rw[aF3 h3 hk]
   refine(kR _ _ S o7 aA λx hx u S' a b c=>ih u x env S' funcs (cO hok aA x hx) hf a c.2.2.2 (henvE b)).then λr u hr=>?_
   obtain⟨r1,r2,r3,r4⟩:=hr
   refine(ih _ _ r.1 _ e.aW bPJ aA r1 r4.2.2.2 r3.2).mono λq v hq=>?_
   obtain⟨q1,q2,q3,q4⟩:=hq
   exact⟨q1,r2.trans q2,q3,(r4.trans q4).step⟩
  ·obtain⟨f,F⟩:=nD hp hok hf (.inr hk)
   have f2:=F.hi
   have f4:=F.pk2
   have f9:=F.loop hk
   rw[aF4 h3 hk]
   refine(kR _ _ S o7 aA λx hx u S' a b c=>ih u x env S' funcs (cO hok aA x hx) hf a c.2.2.2 (henvE b)).then λr u hr=>?_
   obtain⟨r1,r2,r3,r4⟩:=hr
   refine(wA (inp:=inp) (m:=f.aN.length) (λvs w S' hg' hv hw=>?_) _ _ _ _ r1 ⟨by have:=r3.1;have:=F.kids;omega,r3.2⟩ r4.2.2.2).then λq v hq=>?_
   ·rw[F.eq]
    exact kR _ _ S' hg' hw λx hx u S'' a b c=>ih u x vs S'' e.aW bDX aA a c.2.2.2 λy hy=>(hv.2 y hy).ext b
   ·obtain⟨q1,q2,q3,q4⟩:=hq
    refine wS.pure ⟨q1,r2.trans q2,?_,(r4.trans q4).step⟩
    simp only[dI]
    rw[cM (by rw[q3.1];exact f4)]
    exact q3.2 _ (eI _)
def oK {α β:Type} (R:α->β->Prop) (X:Out α) (Y:Out β):Prop:=match X,Y with
 | .ok (v,t),.ok (v',t')=>R v v'/\t=t'
 | .error c,.error c'=>c=c'
 | _,_=>False
theorem oK.bind {α β γ δ:Type} {R:α->β->Prop} {R':γ->δ->Prop} {P:α->Nat->Prop} {X:Out α} {Y:Out β} {F:α->Nat->Out γ} {G:β->Nat->Out δ} (hp:wS P X) (h:oK R X Y) (hf:∀ v v' t,P v t->R v v'->oK R' (F v t) (G v' t)):oK R' (X.andThen F) (Y.andThen G):=by
 cases X with
 |ok p =>
  cases Y with
  |ok q =>
   obtain⟨v,t⟩:=p
   obtain⟨v',t'⟩:=q
   obtain⟨h1,rfl⟩:=h
   exact hf _ _ _ (hp v t rfl) h1
  |error c=>exact h.elim
 |error c =>
  cases Y with
  |ok q=>exact h.elim
  |error d=>exact h
theorem oK.pure {α β:Type} {R:α->β->Prop} {v:α} {v':β} {t:Nat} (h:R v v'):oK R (.ok (v,t)) (.ok (v',t)):=⟨h,rfl⟩
theorem oK.mono {α β:Type} {R R':α->β->Prop} {P:α->Nat->Prop} {X:Out α} {Y:Out β} (hp:wS P X) (h:oK R X Y) (hf:∀ v v' t,P v t->R v v'->R' v v'):oK R' X Y:=by
 cases X with
 |ok p =>
  cases Y with
  |ok q=>exact⟨hf _ _ _ (hp p.1 p.2 rfl) h.1,h.2⟩
  |error c=>exact h.elim
 |error c =>
  cases Y with
  |ok q=>exact h.elim
  |error d=>exact h
def sv (S:dS) (l:List Int):List (List Int):=l.map λk=>[S.val k]
def sR1 (r:Int×dS) (v:List Int):Prop:=v=[r.2.val r.1]
def sRL (r:List Int×dS) (vs:List (List Int)):Prop:=vs=sv r.2 r.1
theorem aQ7 {S S':dS} {l:List Int} (h:∀ x∈l,rQ S x) (e:S.ext S'):sv S' l=sv S l :=
 aG7 λx hx=>by rw[e.val (h x hx).1 (h x hx).2]
theorem aBI {ev:Nat->aB->dS->Out (Int×dS)} {ev':Nat->aB->Out (List Int)} {inp:Int}:∀ (l:List aB) (t:Nat) (S:dS),Good inp S t->t<=3000->(∀ e∈l,∀ u S',Good inp S' u->S.ext S'->pP S t S' u->wS (aH8 inp S' u) (ev u e S')/\oK sR1 (ev u e S') (ev' u e))->oK sRL (tA ev l t S) (jY ev' l t)
 | [],t,S,hg,ht,_=>oK.pure rfl
 |e::l,t,S,hg,ht,h=>by
  obtain⟨h1,h2⟩:=h e x6 t S hg S.uH (.refl ht)
  refine oK.bind h1 h2 λr v u hr hv=>?_
  obtain⟨r1,r2,r3,r4⟩:=hr
  have hl:=λx hx u' S' a b c=>h x (w6 _ hx) u' S' a (r2.trans b) (r4.trans c)
  refine oK.bind (kR l u r.2 r1 r4.2.2.2 λx hx u' S' a b c=>(hl x hx u' S' a b c).1) (aBI l u r.2 r1 r4.2.2.2 hl) λq vs u' hq hvs=>oK.pure ?_
  rw[sR1]at hv
  rw[sRL]at hvs ⊢
  rw[hv,hvs,←hq.2.1.val r3.1 r3.2];rfl
theorem aT6 {f:List Int->Nat->dS->Out (List Int×dS)} {g:List (List Int)->Nat->Out (List (List Int))} {inp:Int} {m:Nat} (h:∀ vs t S,Good inp S t->(vs.length=m/\∀ x∈vs,rQ S x)->t<=3000->wS (aDX inp S t m) (f vs t S)/\oK sRL (f vs t S) (g (sv S vs) t)) :
  ∀ (n:Nat) (vs:List Int) (t:Nat) (S:dS),Good inp S t->(vs.length=m/\∀ x∈vs,rQ S x)->t<=3000->oK sRL (uZ f n vs t S) (pN g n (sv S vs) t)
 |0,vs,t,S,hg,hv,ht=>oK.pure rfl
 |n+1,vs,t,S,hg,hv,ht=>by
  obtain⟨h1,h2⟩:=h vs t S hg hv ht
  refine oK.bind h1 h2 λr w u hr hw=>?_
  rw[sRL]at hw
  rw[hw]
  exact aT6 h n r.1 u r.2 hr.1 hr.2.2.1 hr.2.2.2.2.2.2
theorem aH9 {S:dS} {l:List Int} {i:Nat} (hi:i<l.length):(sv S l).getD i []=[S.val (l.getD i 0)]:=by
 simp[sv,dI,cM hi]
theorem bL7 {k:Int} {vs:List Int} {S:dS} {t:Nat} (hk:k=3∨k=4∨k=5∨k=6∨k=7) (h1:1<=vs.length) (h2:¬k=7->2<=vs.length):oK sR1 (opR k vs S t) (opE k (sv S vs) t):=by
 have g0:=aH9 (S:=S) (l:=vs) (i:=0) aA
 have pv:∀ c v,(S.put c v).val (S.jE.length:Int)=v:=λc v=>by
  rw[dS.val,dS.put,dI,nU,wZ (iH _),wI];rfl
 unfold opR opE opV
 rcases hk with rfl|rfl|rfl|rfl|rfl
 all_goals simp only[reduceCtorEq,if_true,if_false,Int.reduceEq]
 ·refine oK.pure ?_
  have g1:=aH9 (S:=S) (l:=vs) (i:=1) (h2 cE)
  rw[sR1,pv,g0,g1]
  rfl
 ·refine oK.pure ?_
  have g1:=aH9 (S:=S) (l:=vs) (i:=1) (h2 cE)
  rw[sR1,pv,g0,g1]
  show[(_+_*1000002%1000003)%1000003]=[(_-S.val (vs.getD 1 0))%1000003]
  congr 1
  omega
 ·refine oK.pure ?_
  have g1:=aH9 (S:=S) (l:=vs) (i:=1) (h2 cE)
  rw[sR1,pv,g0,g1]
  show[(0+_*_)%1000003]=[_*S.val (vs.getD 1 0)%1000003]
  rw[Int.zero_add];rfl
 ·have g1:=aH9 (S:=S) (l:=vs) (i:=1) (h2 cE)
  rw[g0,g1,show opB 6 vs=vs.getD 1 0 from rfl,show[S.val (vs.getD 1 0)].getD 0 0=S.val (vs.getD 1 0)from rfl]
  by_cases h:S.val (vs.getD 1 0)=0
  ·rw[if_pos h,if_pos h];exact rfl
  ·rw[if_neg h,if_neg h]
   refine oK.pure ?_
   rw[sR1,pv];rfl
 ·refine oK.pure ?_
  rw[sR1,pv,g0]
  show[_*1000002%1000003]=[(0-S.val (vs.getD 0 0))%1000003]
  congr 1
  omega
theorem a0W {p:aC} (hp:p.ok) {inp:Int}:∀ (n t:Nat) (e:aB) (env:List Int) (S:dS) (funcs:Int),e.ok p funcs env.length->funcs<=p.aD.length->Good inp S t->t<=3000->(∀ x∈env,rQ S x)->oK sR1 (fH p n t e env S) (iM p 1 n t e (sv S env))
 |0,t,e,env,S,funcs,_,_,_,_,_=>rfl
 |n+1,t,e,env,S,funcs,hok,hf,hg,ht,henv=>by
  have ih:=a0W hp (inp:=inp) n
  have io:=vS hp (inp:=inp) n
  have hnode:=((aB.cN _ _ _ _).1 hok).1
  by_cases h3:t=3000
  ·rw[fH,iM,if_pos h3,if_pos h3];exact rfl
  have o7:=hg.later (r7 t)
  have hcap:=hg.cap
  have hgcap:=hg.aCZ
  have henvE:∀ {S'},S.ext S'->∀ x∈env,rQ S' x:=λe x hx=>(henv x hx).ext e
  have kidsS:¬e.aP=9->∀ x∈e.aL,∀ u S',Good inp S' u->S.ext S'->pP S (t+1) S' u->wS (aH8 inp S' u) (fH p n u x env S')/\oK sR1 (fH p n u x env S') (iM p 1 n u x (sv S env)):=λh9 x hx u S' a b c =>
   ⟨io u x env S' funcs (cO hok h9 x hx) hf a c.2.2.2 (henvE b),by
    have:=ih u x env S' funcs (cO hok h9 x hx) hf a c.2.2.2 (henvE b)
    rwa [aQ7 henv b]at this⟩
  rcases rE hnode with hk|hk|hk|hk|hk|hk|hk|hk|hk|hk|hk
  ·rw[aQ4 h3 hk,aQV h3 hk]
   refine oK.pure ?_
   simp[sR1,dS.val,dS.put,fQ,aYR]
  ·rw[aQ5 h3 hk,aQW h3 hk]
   have hn:=((dA aA).1 hnode).2.2.2.2.1 hk
   exact oK.pure (aH9 aA)
  iterate 5
   ·have hlen:=cQ hok aA
    rw[hk]at hlen
    rw[qB h3 aA,pD h3 aA]
    have hs:=kidsS aA
    refine oK.bind (kR _ _ S o7 aA λx hx u S' a b c=>(hs x hx u S' a b c).1) (aBI _ _ S o7 aA hs) λr vs u hr hv=>?_
    obtain⟨r1,r2,r3,r4⟩:=hr
    rw[sRL]at hv
    rw[hv]
    exact bL7 aA a6Q (λq=>by unfold dD at hlen;simp at hlen;omega)
  ·have hlen:=cQ hok aA
   rw[hk,show dD 8=3 from rfl]at hlen
   have o0:=aB.dX hok (i:=0) aA
   have o1:=aB.dX hok (i:=1) aA
   have o2:=aB.dX hok (i:=2) aA
   rw[gQ aA]at o0 o1 o2
   rw[aC0 h3 hk,aJ6 h3 hk]
   refine oK.bind (io _ _ _ _ _ o0 hf o7 aA henv) (ih _ _ _ _ _ o0 hf o7 aA henv) λr v u hr hv=>?_
   obtain⟨r1,r2,r3,r4⟩:=hr
   have r4':=r4
   unfold pP at r4'
   rw[sR1]at hv
   subst hv
   rw[show[r.2.val r.1].getD 0 0=r.2.val r.1 from rfl]
   have go:∀ (b:Bool) (k:aB),k.ok p funcs env.length->oK sR1 (fH p n u k env (r.2.guard ⟨r.1,b⟩)) (iM p 1 n u k (sv S env)):=λb k hk=>by
    have he:r.2.ext (r.2.guard ⟨r.1,b⟩):=r.2.tN _
    have:=ih u k env _ _ hk hf (r1.guard (b:=b) r3 aA) aA (henvE (r2.trans he))
    rwa [aQ7 henv (r2.trans he)]at this
   by_cases hz:r.2.val r.1=0
   ·rw[if_pos hz,if_pos hz];exact go _ _ o1
   ·rw[if_neg hz,if_neg hz];exact go _ _ o2
  ·have hlen:=cQ hok aA
   rw[hk,show dD 9=2 from rfl]at hlen
   have o0:=aB.dX hok (i:=0) aA
   have o1:=aB.dX hok (i:=1) aA
   rw[gQ aA]at o0
   rw[hk,show jV 9 1 (env.length:Int)=env.length+1 from rfl]at o1
   rw[aQ6 h3 hk,aQX h3 hk]
   refine oK.bind (io _ _ _ _ _ o0 hf o7 aA henv) (ih _ _ _ _ _ o0 hf o7 aA henv) λr v u hr hv=>?_
   obtain⟨r1,r2,r3,r4⟩:=hr
   rw[sR1]at hv
   subst hv
   have:=ih u (e.fZ 1) (env++[r.1]) r.2 funcs aDS hf r1 r4.2.2.2 (λx hx=>by
    rcases pJ.1 hx with hx|hx
    ·exact henvE r2 x hx
    ·rw[jF.1 hx];exact r3)
   rwa [show sv r.2 (env++[r.1])=sv S env++[[r.2.val r.1]]by rw[←aQ7 henv r2,sv,kS];rfl]at this
  ·obtain⟨f,F⟩:=nD hp hok hf (.inl hk)
   have f2:=F.hi
   have f4:=F.pk2
   rw[aF3 h3 hk,aE2 h3 hk]
   have hs:=kidsS aA
   refine oK.bind (kR _ _ S o7 aA λx hx u S' a b c=>(hs x hx u S' a b c).1) (aBI _ _ S o7 aA hs) λr vs u hr hv=>?_
   obtain⟨r1,r2,r3,r4⟩:=hr
   rw[sRL]at hv
   rw[hv]
   exact ih _ _ r.1 _ e.aW bPJ aA r1 r4.2.2.2 r3.2
  ·obtain⟨f,F⟩:=nD hp hok hf (.inr hk)
   have f2:=F.hi
   have f4:=F.pk2
   have f9:=F.loop hk
   rw[aF4 h3 hk,aE3 h3 hk]
   have hs:=kidsS aA
   refine oK.bind (kR _ _ S o7 aA λx hx u S' a b c=>(hs x hx u S' a b c).1) (aBI _ _ S o7 aA hs) λr vs u hr hv=>?_
   obtain⟨r1,r2,r3,r4⟩:=hr
   rw[sRL]at hv
   rw[hv]
   have hfl:∀ vs t S,Good inp S t->(vs.length=f.aN.length/\∀ x∈vs,rQ S x)->t<=3000->wS (aDX inp S t f.aN.length) (tA (λt e S=>fH p n t e vs S) (p.outs e.aW) t S)/\oK sRL (tA (λt e S=>fH p n t e vs S) (p.outs e.aW) t S) (jY (λt e=>iM p 1 n t e (sv S vs)) (p.outs e.aW) t):=λvs w S' hg' hv hw=>by
    rw[F.eq]
    have hx2:∀ x∈f.aN,∀ u S'',Good inp S'' u->S'.ext S''->pP S' w S'' u->wS (aH8 inp S'' u) (fH p n u x vs S'')/\oK sR1 (fH p n u x vs S'') (iM p 1 n u x (sv S' vs)):=λx hx u S'' a b c =>
     ⟨io u x vs S'' e.aW bDX aA a c.2.2.2 λy hy=>(hv.2 y hy).ext b,by
      have:=ih u x vs S'' e.aW bDX aA a c.2.2.2 λy hy=>(hv.2 y hy).ext b
      rwa [aQ7 hv.2 b]at this⟩
    exact⟨kR _ _ S' hg' hw λx hx u S'' a b c=>(hx2 x hx u S'' a b c).1,aBI _ _ S' hg' hw hx2⟩
   have hv0:r.1.length=f.aN.length/\∀ x∈r.1,rQ r.2 x:=⟨by have:=r3.1;have:=F.kids;omega,r3.2⟩
   refine oK.bind (wA (inp:=inp) (m:=f.aN.length) (λvs t S a b c=>(hfl vs t S a b c).1) _ _ _ _ r1 hv0 r4.2.2.2) (aT6 (inp:=inp) (m:=f.aN.length) (g:=λvs t=>jY (λt e=>iM p 1 n t e vs) (p.outs e.aW) t) hfl _ _ _ _ r1 hv0 r4.2.2.2) λq vs2 v hq hvs=>?_
   refine oK.pure ?_
   rw[sRL]at hvs
   rw[hvs]
   exact aH9 (by rw[hq.2.2.1.1];exact f4)
def inS (args:List Int):dS:=⟨(List.range args.length).map λi:Nat=>⟨1,0,0,(i:Int)⟩,args,[]⟩
def inE (args:List Int):List Int:=(List.range args.length).map λi:Nat=>(i:Int)
theorem aKH (args:List Int) (ha:dW args) (hl:args.length<=12):Good args.length (inS args) 0:=by
 refine⟨by simp[inS],ha,λi c hc=>?_,λg hg=>(by cases hg),by simpa[inS]using hl,iH _⟩
 obtain⟨h1,h2⟩:=mS.1 hc
 simp[inS]at h1 h2
 subst h2
 exact .inl ⟨rfl,rfl,rfl,by simp only;omega,by simp only;omega⟩
theorem aWJ (args:List Int):∀ x∈inE args,rQ (inS args) x:=λx hx=>by
 obtain⟨i,hi,rfl⟩:=qU.1 hx
 have:=aLK.1 hi
 exact⟨by omega,by simp[inS];omega⟩
theorem bUA (args:List Int):sv (inS args) (inE args)=args.map λn=>[n]:=by
 apply vT
 ·simp[sv,inE]
 ·intro i h1 h2
  simp[sv,inE,inS,dS.val]
  simp at h2
  rw[cM h2];rfl
def wT (p:aC) (f:Int) (args:List Int):Out (List Int×dS):=tA (λt e S=>fH p 3001 t e (inE args) S) (p.outs f) 0 (inS args)
theorem aKI {p:aC} (hp:p.ok) (f:Int) (hf:0<=f/\f<p.aD.length) (args:List Int) (ha:dW args) (hl:∀ F,p.aD[f.toNat]?=some F->(args.length:Int)=F.aT) :
  wS (aDX args.length (inS args) 0 (p.outs f).length) (wT p f args)/\oK sRL (wT p f args) (evF p 1 f (args.map λn=>[n])):=by
 obtain⟨F,ef,hF1,hF2,hF3,hF4⟩:=vQ hp hf
 have hla:=hl F ef
 have hg:=aKH args ha aA
 have hin:=aWJ args
 have hel:(inE args).length=args.length:=by simp[inE]
 have hx2:∀ x∈p.outs f,∀ u S'',Good args.length S'' u->(inS args).ext S''->pP (inS args) 0 S'' u->wS (aH8 args.length S'' u) (fH p 3001 u x (inE args) S'')/\oK sR1 (fH p 3001 u x (inE args) S'') (iM p 1 3001 u x (args.map λn=>[n])):=λx hx u S'' a b c=>by
  have hxo:x.ok p f (inE args).length:=by rw[hel,hla];exact hF4 x (by rw[←hF3];exact hx)
  refine⟨vS hp _ u x _ S'' f hxo aA a c.2.2.2 λy hy=>(hin y hy).ext b,?_⟩
  have:=a0W hp 3001 u x (inE args) S'' f hxo aA a c.2.2.2 λy hy=>(hin y hy).ext b
  rwa [aQ7 hin b,bUA]at this
 exact⟨kR _ _ _ hg aA λx hx u S'' a b c=>(hx2 x hx u S'' a b c).1,aBI _ _ _ hg aA hx2⟩
end Go.Hl

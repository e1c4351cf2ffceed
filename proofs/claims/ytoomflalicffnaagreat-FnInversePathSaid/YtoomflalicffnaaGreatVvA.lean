/-
  Contracts of functions and laws of the layer over the walk.
-/
import Derived.Test.YtoomflalicffnaaGreatHlD
import Derived.Test.YtoomflalicffnaaGreatProg
import Derived.KernelRfl
namespace Go.Hl
open Go.Proofs
set_option linter.unusedVariables false
set_option linter.unusedSimpArgs false
@[go_sem] theorem ty2:iP Tryz.prog 2=some ⟨1,false,8,[.int .i64 0],.int .i64⟩:=by kernel_rfl
@[go_sem] theorem ty3:iP Tryz.prog 3=some ⟨1,false,8,[.int .i64 0],.int .i64⟩:=by kernel_rfl
@[go_sem] theorem ty4:iP Tryz.prog 4=some ⟨1,false,1,[.bool false],.bool⟩:=by kernel_rfl
@[go_sem] theorem ty5:iP Tryz.prog 5=some ⟨1,false,1,[.int .u8 0],.int .u8⟩:=by kernel_rfl
@[go_sem] theorem ty9:iP Tryz.prog 9=some ⟨1,false,16,[.str []],.str⟩:=by kernel_rfl
@[go_sem] theorem b0T:iP Tryz.prog 22=some ⟨1,false,24,[.bS],.slice 140⟩:=by kernel_rfl
@[go_sem] theorem b0U:iP Tryz.prog 24=some ⟨1,true,24,[.bS],.st [(0,22,1)]⟩:=by kernel_rfl
@[go_sem] theorem b0V:iP Tryz.prog 25=some ⟨1,false,24,[.bS],.slice 2⟩:=by kernel_rfl
@[go_sem] theorem b0W:iP Tryz.prog 27=some ⟨1,false,24,[.bS],.slice 25⟩:=by kernel_rfl
@[go_sem] theorem b0X:iP Tryz.prog 30=some ⟨1,false,24,[.bS],.slice 77⟩:=by kernel_rfl
@[go_sem] theorem b0Y:iP Tryz.prog 32=some ⟨1,true,24,[.bS],.st [(0,30,1)]⟩:=by kernel_rfl
@[go_sem] theorem b0Z:iP Tryz.prog 45=some ⟨1,false,24,[.bS],.slice 5⟩:=by kernel_rfl
@[go_sem] theorem b00:iP Tryz.prog 52=some ⟨1,false,24,[.bS],.slice 126⟩:=by kernel_rfl
@[go_sem] theorem b01:iP Tryz.prog 53=some ⟨1,false,24,[.bS],.slice 213⟩:=by kernel_rfl
@[go_sem] theorem b02:iP Tryz.prog 55=some ⟨4,true,80,[.int .i64 0,.bS,.bS,.bS],.st [(0,2,1),(1,52,1),(2,53,1),(3,25,1)]⟩:=by kernel_rfl
@[go_sem] theorem b03:iP Tryz.prog 73=some ⟨1,false,8,[.j8],.ptr 32⟩:=by kernel_rfl
@[go_sem] theorem b04:iP Tryz.prog 75=some ⟨1,false,24,[.bS],.slice 173⟩:=by kernel_rfl
@[go_sem] theorem b05:iP Tryz.prog 77=some ⟨3,true,48,[.str [],.int .i64 0,.bS],.st [(0,9,1),(1,2,1),(2,75,1)]⟩:=by kernel_rfl
@[go_sem] theorem b06:iP Tryz.prog 88=some ⟨1,false,24,[.bS],.slice 27⟩:=by kernel_rfl
@[go_sem] theorem bYQ:iP Tryz.prog 104=some ⟨1,false,8,[.j8],.ptr 165⟩:=by kernel_rfl
@[go_sem] theorem bYR:iP Tryz.prog 123=some ⟨8,true,144,[.bS,.int .i64 0,.bS,.bS,.bS,.bS,.int .i64 0,.int .i64 0],.st [(0,32,1),(1,55,4),(5,25,1),(6,2,1),(7,2,1)]⟩:=by kernel_rfl
@[go_sem] theorem bYS:iP Tryz.prog 126=some ⟨4,true,32,[.int .i64 0,.int .i64 0,.int .i64 0,.int .i64 0],.st [(0,2,1),(1,2,1),(2,2,1),(3,2,1)]⟩:=by kernel_rfl
@[go_sem] theorem bYT:iP Tryz.prog 138=some ⟨1,false,24,[.bS],.slice 219⟩:=by kernel_rfl
@[go_sem] theorem bYU:iP Tryz.prog 140=some ⟨3,true,48,[.str [],.int .i64 0,.bS],.st [(0,9,1),(1,2,1),(2,138,1)]⟩:=by kernel_rfl
@[go_sem] theorem bYV:iP Tryz.prog 143=some ⟨6,true,112,[.j8,.int .i64 0,.bS,.bS,.bS,.bS],.st [(0,73,1),(1,55,4),(5,25,1)]⟩:=by kernel_rfl
@[go_sem] theorem bYW:iP Tryz.prog 158=some ⟨4,true,32,[.j8,.int .i64 0,.int .i64 0,.int .i64 0],.st [(0,73,1),(1,3,1),(2,2,1),(3,2,1)]⟩:=by kernel_rfl
@[go_sem] theorem bYX:iP Tryz.prog 163=some ⟨1,false,8,[.int .u64 0],.int .u64⟩:=by kernel_rfl
@[go_sem] theorem bYY:iP Tryz.prog 165=some ⟨3,true,40,[.bS,.int .i64 0,.int .u64 0],.st [(0,45,1),(1,3,1),(2,163,1)]⟩:=by kernel_rfl
@[go_sem] theorem bYZ:iP Tryz.prog 167=some ⟨1,false,24,[.bS],.slice 9⟩:=by kernel_rfl
@[go_sem] theorem bY0:iP Tryz.prog 171=some ⟨4,true,32,[.j8,.j8,.int .i64 0,.bool false],.st [(0,104,1),(1,73,1),(2,2,1),(3,4,1)]⟩:=by kernel_rfl
@[go_sem] theorem bY1:iP Tryz.prog 173=some ⟨5,true,56,[.int .i64 0,.int .i64 0,.int .i64 0,.int .i64 0,.bS],.st [(0,2,1),(1,2,1),(2,2,1),(3,2,1),(4,75,1)]⟩:=by kernel_rfl
@[go_sem] theorem bY2:iP Tryz.prog 192=some ⟨4,true,48,[.bS,.int .i64 0,.int .i64 0,.int .i64 0],.st [(0,32,1),(1,3,1),(2,2,1),(3,2,1)]⟩:=by kernel_rfl
@[go_sem] theorem bY3:iP Tryz.prog 213=some ⟨2,true,16,[.int .i64 0,.bool false],.st [(0,2,1),(1,4,1)]⟩:=by kernel_rfl
@[go_sem] theorem bY4:iP Tryz.prog 219=some ⟨5,true,56,[.int .i64 0,.int .i64 0,.int .i64 0,.int .i64 0,.bS],.st [(0,2,1),(1,2,1),(2,2,1),(3,2,1),(4,138,1)]⟩:=by kernel_rfl
@[go_sem] theorem bY5:iP Tryz.prog 227=some ⟨2,true,32,[.bS,.int .i64 0],.st [(0,32,1),(1,2,1)]⟩:=by kernel_rfl
@[go_sem] def cG:Marks:=λ_=>([],.nil,[])
@[go_sem] def cU:List Nat:=[]
@[go_sem] def aBA:List Nat:=[0,2]
@[go_sem] def aCC:List Nat:=[0,1,4]
@[go_sem] def bHX:List Nat:=[2]
@[go_sem] def aVU:List Nat:=[3]
@[go_sem] def aVV:List Nat:=[1]
@[go_sem] def bOL:List Nat:=[0,2,3,4,11]
@[go_sem] def aHW:List Nat:=[0,1,4,5,6,11]
@[go_sem] def bVS:List Nat:=[4]
@[go_sem] def bOM:List Nat:=[0,1,2,3]
@[go_sem] def bE5:List Nat:=[0,2,3,4,9]
@[go_sem] def aY0:List Nat:=[0,1,4,5,7,8,9,16]
@[go_sem] def a5V:List Nat:=[0,2,4]
@[go_sem] def a5W:List Nat:=[5]
@[go_sem] def bE6:List Nat:=[0,1,4,5]
@[go_sem] def aY1:List Nat:=[10,22]
@[go_sem] def aY2:List Nat:=[0,2,3,5,7,8,9,10]
@[go_sem] def bY6:List Nat:=[0,1,4,5,11,15,25]
@[go_sem] def bY7:List Nat:=[0,1,4,5,10,14,26]
@[go_sem] def bY8:Marks:=λid=>match id with|6=>([],(.op 0 (.op 1 (.op 2 (.op 3 (.op 4 (.op 5 (.op 6 (.op 7 (.op 8 (.op 9 .nil)))))))))),[])|_=>([],.nil,[])
@[go_sem] def bY9:List Nat:=[2,3]
@[go_sem] def bON:List Nat:=[0,1,2,4]
@[go_sem] def bE7:List Nat:=[0,1,2,6]
@[go_sem] def aY3:List Nat:=[0,1,2,3,5,7,8,9,10]
@[go_sem] def aHG:List Nat:=[3,4]
@[go_sem] def bOO:List Nat:=[0,2,3,7]
@[go_sem] def aY4:List Nat:=[0,1,4,5,6,11,12,13]
@[go_sem] def aY5:List Nat:=[0,1,2,6,7,9,11,12,13,14]
@[go_sem] def aNE:List Nat:=[7,21]
@[go_sem] def bE8:List Nat:=[0,1,2,6,7,8,16]
@[go_sem] def bE9:List Nat:=[9,29]
@[go_sem] def aS1:List Nat:=[0,1,2,6,7,8,9,10,18,49,67]
@[go_sem] def aS2:List Nat:=[11,31]
@[go_sem] def aS3:Marks:=λid=>match id with|6=>([3],(.op 0 (.op 1 (.op 2 (.op 7 (.op 8 (.op 9 (.op 10 (.op 3 (.op 4 (.op 5 (.op 6 (.op 11 (.op 12 .nil))))))))))))),[])|8=>([11],(.op 0 (.op 1 (.op 2 (.op 3 (.op 4 (.op 5 (.op 6 (.op 7 (.op 8 (.op 9 (.op 10 (.op 11 (.op 12 .nil))))))))))))),[])|_=>([],.nil,[])
@[go_sem] def bFA:List Nat:=[0,1,2,4,6]
@[go_sem] def bZA:List Nat:=[0,1,2,4,10]
@[go_sem] def bFB:List Nat:=[0,1,4,5,10,14,25]
@[go_sem] def bFC:Marks:=λid=>match id with|6=>([],(.op 0 (.op 1 (.op 2 (.op 3 (.op 4 (.op 5 (.op 6 (.op 7 (.op 8 .nil))))))))),[])|_=>([],.nil,[])
@[go_sem] def bZB:List Nat:=[5,19]
@[go_sem] def bOP:Marks:=λid=>match id with|6=>([],(.op 0 (.op 1 (.op 2 (.op 3 (.op 4 (.op 5 (.op 6 (.op 7 (.op 8 (.op 9 (.op 10 (.op 11 .nil)))))))))))),[])|_=>([],.nil,[])
@[go_sem] def bOQ:List Nat:=[6]
@[go_sem] def bOR:List Nat:=[0,2,3,4,5,6,7,8,9]
theorem mix:Tryz.prog.follows .mixedOrders=true:=by kernel_rfl
abbrev I (n:Int):aE:=.int .i64 n
abbrev ints (l:List Int):aE:=.sl 1 (l.map λn=>[I n]) false
abbrev gT {α:Type} (sz:Nat) (c:α->List aE) (l:List α):aE:=.sl sz (l.map c) false
def InI (n:Int):Prop:=-9223372036854775808<=n/\n<=9223372036854775807
def InB (n:Int):Prop:=0<=n/\n<=255
def lft (left:Int) (n:Nat):Int:=if left-n<0 then -1 else left-n
theorem aNF (left:Int) (n:Nat):(lft left n=-1/\left-n<0)∨(lft left n=left-n/\0<=left-n):=by
 unfold lft;split
 ·exact .inl ⟨rfl,by assumption⟩
 ·exact .inr ⟨rfl,by omega⟩
theorem bA1 {left:Int} {n:Nat} (h:left-n<0):lft left n=-1:=if_pos h
theorem lX {α:Type} (s:α->Nat) (l:List α) (k:Nat) (h:k<l.length):((l.take (k+1)).map s).sum=((l.take k).map s).sum+s l[k]:=by
 rw[iW h,mY,List.sum_append];simp only[qR,w9,aJG,List.sum_nil,aU4]
theorem vT {α:Type} (s:α->Nat):∀ (l:List α) (k:Nat),((l.take k).map s).sum<=(l.map s).sum
 | [],k=>by simp
 |a::l,0=>by simp
 |a::l,k+1=>by have:=vT s l k;simp only[bGS,qR,aJG];omega
theorem aO4 {α:Type} (s:α->Nat) {l:List α} {x:α} (h:x∈l):s x<=(l.map s).sum:=by
 induction l with
 |nil=>simp at h
 |cons a l ih =>
  simp only[qR,aJG]
  rcases pP.1 h with rfl|h
  ·omega
  ·have:=ih h;omega
theorem aO (h:aB) (n m:Nat) (o:bU):aT h n o m=if m=n then some o else h m:=rfl
theorem oD (l:List (List aE)):fD (l.map (List.map .v))=l:=by
 induction l with
 |nil=>rfl
 |cons e l ih =>
  have:aFT (e.map Cell.v)=e:=by
   induction e with
   |nil=>rfl
   |cons x e ih=>simp only[qR,aFT,Cell.val,ih]
  simp only[fD,qR]at ih ⊢
  rw[ih,this]
theorem aBS {h h':aB} {n sz:Nat} (es:List (List aE)) (h0:h n=none) (hl:(aT h n (.row sz (es.map (List.map .v)))).le h') (len:Nat) (e:len=es.length):Shift (.os n sz 0 len) h' (.sl sz es false) h:=by
 subst e
 refine(Shift.of (Sub.refl _) hl).trans ((Shift.fS (aI _ _ _) (by simp[jK])).trans ?_)
 have:aE.fS n (fD (es.map (List.map .v))) (.os n sz 0 es.length)=.sl sz es false:=by simp[aE.fS,oD]
 rw[this]
 exact cT ((bM h0).2 ((bM h0).2 (aB.le_refl h)))
theorem aXM {α β:Type} {f:α->β} {l:List α} {k:Nat} (h:k<l.length):(l.map f)[k]?=some (f l[k]):=by
 rw[sO,fC h];rfl
theorem u4 {α:Type} {P:α->Prop} {l:List α} {k:Nat} (h:k<l.length) (hp:∀ x∈l.take k,P x) (he:P l[k]):∀ x∈l.take (k+1),P x:=by
 rw[iW h]
 intro x hx
 rcases nY.1 hx with hx|hx
 ·exact hp x hx
 ·rw[iO.1 hx];exact he
def idxOf {α:Type} (p:α->Bool) (l:List α):Int:=match l.findIdx? p with|some i=>i|none=>-1
theorem yU {α:Type} {p:α->Bool} {l:List α} (h:∀ x∈l,p x=false):idxOf p l=-1:=by
 have:l.findIdx? p=none:=List.findIdx?_eq_none_iff.2 h
 simp only[idxOf,this]
theorem yV {α:Type} {p:α->Bool} {l:List α} {k:Nat} (hk:k<l.length) (h:∀ x∈l.take k,p x=false) (he:p l[k]=true):idxOf p l=k:=by
 have:l.findIdx? p=some k:=by
  rw[bEC]
  refine⟨hk,he,λj hj=>?_⟩
  have:=h l[j] (List.mem_take_iff_getElem.2 ⟨j,by omega,rfl⟩)
  simp[this]
 simp only[idxOf,this]
theorem tV {α:Type} {p:α->Bool} {l:List α}:decide (0<=idxOf p l)=l.any p:=by
 unfold idxOf
 cases h:l.findIdx? p with
 |none =>
  have:=List.findIdx?_eq_none_iff.1 h
  simp only
  rw[Bool.eq_false_iff.2 (show l.any p≠true from ?_)]
  ·simp
  ·intro hx
   obtain⟨x,hx,hp⟩:=a4F.1 hx
   rw[this x hx]at hp;cases hp
 |some i =>
  obtain⟨hi,hp,_⟩:=bEC.1 h
  have:l.any p=true:=a4F.2 ⟨_,lF hi,hp⟩
  rw[this];simp
def iE (n:Int):Prop:=0<=n/\n<=1000002
instance (n:Int):Decidable (iE n):=inferInstanceAs (Decidable (0<=n/\n<=1000002))
def eI (l:List Int):Prop:=∀ x∈l,iE x
instance (l:List Int):Decidable (eI l):=inferInstanceAs (Decidable (∀ x∈l,iE x))
theorem bA2 {α:Type} {P:α->Prop} [DecidablePred P] {l:List α} [Decidable (∀ x∈l,P x)]:(!l.any λx=>!decide (P x))=decide (∀ x∈l,P x):=by
 rw[Bool.eq_iff_iff]
 simp[List.any_eq_false]
inductive aC where
 |mk (aS:Int) (bA:Int) (cV:Int) (cH:Int) (aN:(List aC))
def aC.aS:aC->Int
 | .mk aS bA cV cH aN=>aS
def aC.bA:aC->Int
 | .mk aS bA cV cH aN=>bA
def aC.cV:aC->Int
 | .mk aS bA cV cH aN=>cV
def aC.cH:aC->Int
 | .mk aS bA cV cH aN=>cH
def aC.aN:aC->(List aC)
 | .mk aS bA cV cH aN=>aN
mutual
def aC.c:aC->List aE
 | .mk aS bA cV cH aN=>[(.int .i64 aS),(.int .i64 bA),(.int .i64 cV),(.int .i64 cH),.sl 5 (aC.cL aN) false]
def aC.cL:List aC->List (List aE)
 | []=>[]
 |x::l=>x.c::aC.cL l
end
mutual
def aC.s:aC->Nat
 | .mk aS bA cV cH aN=>(aN.length+aC.sL aN)
def aC.sL:List aC->Nat
 | []=>0
 |x::l=>x.s+aC.sL l
end
theorem aC.a5X:∀ l,aC.cL l=l.map aC.c
 | []=>rfl
 |x::l=>by simp only[aC.cL,qR,aC.a5X l]
theorem aC.a5Y:∀ l,aC.sL l=(l.map aC.s).sum
 | []=>rfl
 |x::l=>by simp only[aC.sL,qR,aJG,aC.a5Y l]
theorem aC.aY (x:aC):x.c=[(.int .i64 x.aS),(.int .i64 x.bA),(.int .i64 x.cV),(.int .i64 x.cH),(gT 5 aC.c x.aN)]:=by cases x;simp only[aC.c,aC.a5X,gT];rfl
theorem aC.aDB (x:aC):x.s=(rX aC.s x.aN):=by cases x;simp only[aC.s,aC.a5Y,rX];rfl
theorem aC.aGC {x y:aC} (h:y∈x.aN):SizeOf.sizeOf y<SizeOf.sizeOf x:=by
 cases x
 have:=List.sizeOf_lt_of_mem h
 simp only[aC.aN]at this
 simp only[aC.mk.sizeOf_spec];omega
@[simp] theorem aC.aY6 (x:aC):x.c.length=5:=by rw[aC.aY];rfl
inductive aC.wf:aC->Prop
 |mk (x:aC) (h0:InI x.aS) (h1:InI x.bA) (h2:InI x.cV) (h3:InI x.cH) (hk:∀ y∈x.aN,y.wf):x.wf
noncomputable instance:DecidableEq aC:=λa b=>Classical.propDecidable (a=b)
structure aV where
 lD:(List UInt8)
 aR:Int
 aU:(List aC)
def aV.c (x:aV):List aE:=[(.str x.lD),(.int .i64 x.aR),(gT 5 aC.c x.aU)]
def aV.s (x:aV):Nat:=x.lD.length+(rX aC.s x.aU)
theorem aV.aY (x:aV):x.c=[(.str x.lD),(.int .i64 x.aR),(gT 5 aC.c x.aU)]:=rfl
theorem aV.aDB (x:aV):x.s=x.lD.length+(rX aC.s x.aU):=rfl
@[simp] theorem aV.aY6 (x:aV):x.c.length=3:=by rw[aV.aY];rfl
def aV.wf (x:aV):Prop:=InI x.aR/\(∀ y∈x.aU,y.wf)
noncomputable instance:DecidableEq aV:=λa b=>Classical.propDecidable (a=b)
structure aF where
 aK:(List aV)
def aF.c (x:aF):List aE:=[(gT 3 aV.c x.aK)]
def aF.s (x:aF):Nat:=(rX aV.s x.aK)
theorem aF.aY (x:aF):x.c=[(gT 3 aV.c x.aK)]:=rfl
theorem aF.aDB (x:aF):x.s=(rX aV.s x.aK):=rfl
@[simp] theorem aF.aY6 (x:aF):x.c.length=1:=by rw[aF.aY];rfl
def aF.wf (x:aF):Prop:=(∀ y∈x.aK,y.wf)
noncomputable instance:DecidableEq aF:=λa b=>Classical.propDecidable (a=b)
set_option maxRecDepth 100000
theorem fJ (n a b:Int):fR Tryz.prog 86 [I n,I a,I b] (.bool (decide (a<=n/\n<=b))):=by
 refine gA 15 bE7 cU cG Tryz.func86 λh=>?_
 simp -dsimp -implicitDefEqProofs only[go_sem,↓reduceIte,Tryz.f86]
 repeat'(with_reducible first|intro _|refine And.intro ?_ ?_)
 all_goals try(first|(simp[*];done)|omega|grind)
theorem within (n a b:Int):fR Tryz.prog 116 [I n,I a,I b] (.bool (decide (a<=n/\n<=b))):=by
 refine gA 15 bE7 cU cG Tryz.func116 λh=>?_
 simp -dsimp -implicitDefEqProofs only[go_sem,↓reduceIte,Tryz.f116]
 repeat'(with_reducible first|intro _|refine And.intro ?_ ?_)
 all_goals try(first|(simp[*];done)|omega|grind)
theorem qL (n:Int):fR Tryz.prog 183 [I n] (.bool (decide (iE n))):=by
 refine gA 5 aBA cU cG Tryz.func183 λh=>?_
 simp -dsimp -implicitDefEqProofs only[go_sem,↓reduceIte,Tryz.f183]
 first|refine aH.mk (fJ n 0 1000002) ?_|refine aG.mk (fJ n 0 1000002) ?_|refine aH.bH (fJ n 0 1000002) ?_|refine aG.mk (bB.dI (fJ n 0 1000002)) ?_
 simp -dsimp -implicitDefEqProofs only[go_sem,↓reduceIte,Tryz.f183]
 all_goals rfl
theorem sW (n:Int):fR Tryz.prog 168 [I n] (.bool (decide (iE n))):=by
 refine gA 5 aBA cU cG Tryz.func168 λh=>?_
 simp -dsimp -implicitDefEqProofs only[go_sem,↓reduceIte,Tryz.f168]
 first|refine aH.mk (within n 0 1000002) ?_|refine aG.mk (within n 0 1000002) ?_|refine aH.bH (within n 0 1000002) ?_|refine aG.mk (bB.dI (within n 0 1000002)) ?_
 simp -dsimp -implicitDefEqProofs only[go_sem,↓reduceIte,Tryz.f168]
 all_goals rfl
@[go_sem] def aY7:List Nat:=[0,2,3,7,15]
theorem yW (l:List Int):fR Tryz.prog 124 [gT 1 (λn=>[I n]) l] (.bool (decide (eI l))):=by
 refine gA 16 aY7 cU cG Tryz.func124 λh=>?_
 simp -dsimp -implicitDefEqProofs only[go_sem,↓reduceIte,Tryz.f124]
 refine cM aY7 cU cG (λk:Nat=>[(0,gT 1 (λn=>[I n]) l),(3,I k)]) (λ_=>h) (λk=>k<=(l).length/\∀ x∈(l).take k,iE x) (λk=>(l).length-k) 0 aRQ ?_
 intro k ⟨hk,hp⟩
 rcases bT k (l).length with hlt|hge
 ·have ea:(l)[k]?=some (l)[k]:=fC hlt
  simp -dsimp -implicitDefEqProofs only[go_sem,↓reduceIte,Tryz.f124,ea]
  repeat'(with_reducible first|intro _|refine And.intro ?_ ?_)
  all_goals try omega
  first|refine aH.mk (qL l[k]) ?_|refine aG.mk (qL l[k]) ?_|refine aH.bH (qL l[k]) ?_|refine aG.mk (bB.dI (qL l[k])) ?_
  simp -dsimp -implicitDefEqProofs only[go_sem,↓reduceIte,Tryz.f124]
  repeat'(with_reducible first|intro _|refine And.intro ?_ ?_)
  ·rename_i he
   exact(decide_eq_false λe=>he (e _ (lF hlt))).symm
  ·rename_i he
   refine⟨k+1,?_⟩
   repeat'(with_reducible refine And.intro ?_ ?_)
   all_goals try(rw[IntWalk.i64_in _ aA];first|rfl|omega)
   all_goals try omega
   all_goals try(repeat'(with_reducible first|exact aB.le_refl _|refine(bM jY).2 ?_))
   exact u4 hlt hp he
 ·have hk':k=(l).length:=by omega
  subst hk'
  rw[nM]at hp
  simp -dsimp -implicitDefEqProofs only[go_sem,↓reduceIte,Tryz.f124,bV]
  intro _
  exact(decide_eq_true hp).symm
theorem aS4 (a:List Int) (p:Int->Bool) (g:FuncId) (cap:List aE) {h0:aB} (hc:∀ x∈a,bB Tryz.prog g ([(.int .i64 x)]++cap) (.bool (p x)) h0):bB Tryz.prog 197 [(gT 1 (λn=>[I n]) a),.fn (.func g) [] cap] (I (idxOf p a)) h0:=by
 refine aSU 19 aY0 cU cG Tryz.func197 λh hle=>?_
 simp -dsimp -implicitDefEqProofs only[go_sem,↓reduceIte,Tryz.f197,Tryz.f197]
 intro _
 refine cM aY0 cU cG (λk:Nat=>[(0,(gT 1 (λn=>[I n]) a)),(1,.fn (.func g) [] cap),(7,I a.length),(8,I k)]) (λ_=>h) (λk=>k<=a.length/\∀ x∈a.take k,p x=false) (λk=>a.length-k) 0 aRQ ?_
 intro k ⟨hk,hp⟩
 rcases bT k a.length with hlt|hge
 ·have ea:a[k]?=some a[k]:=fC hlt
  simp -dsimp -implicitDefEqProofs only[go_sem,↓reduceIte,Tryz.f197,Tryz.f197,ea]
  repeat'(with_reducible first|intro _|refine And.intro ?_ ?_)
  all_goals try omega
  have hx:=hc a[k] (lF hlt)
  refine aH.bH (hx.mono hle) ?_
  cases hpk:p a[k]with
  |true =>
   simp -dsimp -implicitDefEqProofs only[go_sem,↓reduceIte,Tryz.f197,Tryz.f197]
   repeat'(with_reducible first|intro _|refine And.intro ?_ ?_)
   all_goals first|exact(yV hlt hp hpk).symm|rfl|(rw[yV hlt hp hpk])
  |false =>
   simp -dsimp -implicitDefEqProofs only[go_sem,↓reduceIte,Tryz.f197,Tryz.f197]
   refine⟨k+1,?_⟩
   repeat'(with_reducible refine And.intro ?_ ?_)
   all_goals try(rw[IntWalk.i64_in _ aA];first|rfl|omega)
   all_goals try omega
   exact u4 (P:=λx=>p x=false) hlt hp hpk
 ·have hk':k=a.length:=by omega
  subst hk'
  rw[nM]at hp
  simp -dsimp -implicitDefEqProofs only[go_sem,↓reduceIte,Tryz.f197,Tryz.f197,bV]
  all_goals first|exact(yU hp).symm|rw[yU hp]
theorem vU (a:List Int) (p:Int->Bool) (g:FuncId) (cap:List aE) {h0:aB} (hc:∀ x∈a,bB Tryz.prog g ([(.int .i64 x)]++cap) (.bool (p x)) h0):bB Tryz.prog 166 [(gT 1 (λn=>[I n]) a),.fn (.func g) [] cap] (.bool (a.any p)) h0:=by
 refine aSU 9 aCC cU cG Tryz.func166 λh hle=>?_
 simp -dsimp -implicitDefEqProofs only[go_sem,↓reduceIte,Tryz.f166,Tryz.f166]
 refine aH.bH ((aS4 a p g cap hc).mono hle) ?_
 simp -dsimp -implicitDefEqProofs only[go_sem,↓reduceIte,Tryz.f166,Tryz.f166]
 all_goals first|done|exact tV|rw[tV]
theorem vV (n:Int):fR Tryz.prog 167 [I n] (.bool (!decide (iE n))):=by
 refine gA 6 aBA cU cG Tryz.func167 λh=>?_
 simp -dsimp -implicitDefEqProofs only[go_sem,↓reduceIte,Tryz.f167]
 first|refine aH.mk (sW n) ?_|refine aG.mk (sW n) ?_|refine aH.bH (sW n) ?_|refine aG.mk (bB.dI (sW n)) ?_
 simp -dsimp -implicitDefEqProofs only[go_sem,↓reduceIte,Tryz.f167]
theorem dX (l:List Int) (c:Int):fR Tryz.prog 93 [gT 1 (λn=>[I n]) l,I c] (.bool (decide ((l.length:Int)=c/\eI l))):=by
 refine gA 14 aCC cU cG Tryz.func93 λh=>?_
 simp -dsimp -implicitDefEqProofs only[go_sem,↓reduceIte,Tryz.f93]
 repeat'(with_reducible first|intro _|refine And.intro ?_ ?_)
 all_goals try(first|(simp[*];done)|omega|grind)
 first|refine aH.mk (vU l (λn=>!decide (iE n)) 167 [] λx _=>(vV x).bAX) ?_|refine aG.mk (vU l (λn=>!decide (iE n)) 167 [] λx _=>(vV x).bAX) ?_|refine aH.bH (vU l (λn=>!decide (iE n)) 167 [] λx _=>(vV x).bAX) ?_|refine aG.mk (bB.dI (vU l (λn=>!decide (iE n)) 167 [] λx _=>(vV x).bAX)) ?_
 simp -dsimp -implicitDefEqProofs only[go_sem,↓reduceIte,Tryz.f93]
 rename_i e
 rw[bA2,decide_eq_decide]
 exact⟨λq=>⟨e,q⟩,λq=>q.2⟩
def Low (c:UInt8):Prop:=97<=c.toNat/\c.toNat<=122
def Dig (c:UInt8):Prop:=48<=c.toNat/\c.toNat<=57
instance (c:UInt8):Decidable (Low c):=inferInstanceAs (Decidable (_/\_))
instance (c:UInt8):Decidable (Dig c):=inferInstanceAs (Decidable (_/\_))
def aES (s:List UInt8):Prop:=1<=s.length/\s.length<=12/\(∀ c,s[0]?=some c->Low c)/\∀ c∈s,Low c∨Dig c
noncomputable instance (s:List UInt8):Decidable (aES s):=Classical.propDecidable _
theorem aNG {s:List UInt8} {k:Nat} {c:UInt8} (h:k<s.length) (ec:s[k]=c) (hp:∀ x∈s.take k,Low x∨Dig x) (he:Low c∨Dig c):∀ x∈s.take (k+1),Low x∨Dig x :=
 u4 (P:=λx=>Low x∨Dig x) h hp (by rw[ec];exact he)
theorem aS5 {s:List UInt8} {k:Nat} {c:UInt8} (h:k<s.length) (ec:s[k]=c) (he:¬(Low c∨Dig c)):false=decide (aES s) :=
 (decide_eq_false λe=>he (ec▸e.2.2.2 _ (lF h))).symm
theorem a2O {s:List UInt8} {k:Nat} {c:UInt8} (h:k<s.length) (h0:(k:Int)=0) (ec:s[k]=c) (he:¬Low c):false=decide (aES s) :=
 (decide_eq_false fun e => he (e.2.2.1 c (by have : k = 0 := by omega
                                             subst this;rw[fC h,ec]))).symm
@[go_sem] def aO5:List Nat:=[0,2,3,17,21,45]
theorem yX (s:List UInt8):fR Tryz.prog 216 [.str s] (.bool (decide (aES s))):=by
 cases s with
 |nil =>
  refine gA 46 aO5 cU cG Tryz.func216 λh=>?_
  simp -dsimp -implicitDefEqProofs only[go_sem,↓reduceIte,Tryz.f216]
  first|refine aH.mk (fJ 0 1 12) ?_|refine aG.mk (fJ 0 1 12) ?_|refine aH.bH (fJ 0 1 12) ?_|refine aG.mk (bB.dI (fJ 0 1 12)) ?_
  simp -dsimp -implicitDefEqProofs only[go_sem,↓reduceIte,Tryz.f216]
  repeat'(with_reducible first|intro _|refine And.intro ?_ ?_)
  all_goals try(first|(simp[aES, *];done)|omega|(grind[aES])|(simp[aES];omega))
 |cons c t =>
  refine gA 46 aO5 cU cG Tryz.func216 λh=>?_
  simp -dsimp -implicitDefEqProofs only[go_sem,↓reduceIte,Tryz.f216,aI9,aMA]
  intro _
  first|refine aH.mk (fJ (c::t).length 1 12) ?_|refine aG.mk (fJ (c::t).length 1 12) ?_|refine aH.bH (fJ (c::t).length 1 12) ?_|refine aG.mk (bB.dI (fJ (c::t).length 1 12)) ?_
  simp -dsimp -implicitDefEqProofs only[go_sem,↓reduceIte,Tryz.f216,aI9,aMA]
  repeat'(with_reducible first|intro _|refine And.intro ?_ ?_)
  all_goals try(first|(simp[aES,Low,Dig, *];done)|omega|(grind[aES,Low,Dig])|(simp[aES,Low,Dig];omega))
  rename_i h0 h1 h2 h3
  generalize hs:c::t=s at *
  refine cM aO5 cU cG (λk:Nat=>[(0,.str s),(3,I k)]) (λ_=>h) (λk=>k<=s.length/\∀ x∈s.take k,Low x∨Dig x) (λk=>s.length-k) 0 aRQ ?_
  intro k ⟨hk,hp⟩
  rcases bT k s.length with hlt|hge
  ·generalize ec:s[k]=d
   have ea:s[k]?=some d:=by rw[←ec];exact fC hlt
   simp -dsimp -implicitDefEqProofs only[go_sem,↓reduceIte,Tryz.f216,ea,r8]
   repeat'(with_reducible first|intro _|refine And.intro ?_ ?_)
   all_goals try omega
   all_goals try exact aS5 hlt ec aX5
   all_goals
    refine⟨k+1,?_⟩
    repeat'(with_reducible refine And.intro ?_ ?_)
    all_goals try(rw[IntWalk.i64_in _ aA];first|rfl|omega)
    all_goals try omega
    all_goals try(repeat'(with_reducible first|exact aB.le_refl _|refine(bM jY).2 ?_))
    exact aNG hlt ec hp aX5
  ·have hk':k=s.length:=by omega
   subst hk'
   rw[nM]at hp
   simp -dsimp -implicitDefEqProofs only[go_sem,↓reduceIte,Tryz.f216,bV]
   have:s.length=t.length+1:=by rw[←hs];rfl
   exact λ_=>(decide_eq_true ⟨by omega,by omega,λx hx=>by rw[←hs]at hx;simp at hx;subst hx;simp only[Low];omega,hp⟩).symm
@[go_sem] def aY8:List Nat:=[0,2,3,5,6,7,34]
theorem aO6 (s:List UInt8):fR Tryz.prog 198 [.str s] (.bool (decide (aES s))):=by
 refine gA 44 aY8 cU cG Tryz.func198 λh=>?_
 simp -dsimp -implicitDefEqProofs only[go_sem,↓reduceIte,Tryz.f198]
 repeat'(with_reducible first|intro _|refine And.intro ?_ ?_)
 refine cM aY8 cU cG (λk:Nat=>[(0,.str s),(5,I s.length),(6,I k)]) (λ_=>h) (λk=>k<=s.length/\(∀ x∈s.take k,Low x∨Dig x)/\(0<k->∀ c,s[0]?=some c->Low c)) (λk=>s.length-k) 0 aRQ ?_
 intro k ⟨hk,hp,hz⟩
 rcases bT k s.length with hlt|hge
 ·generalize ec:s[k]=d
  have ea:s[k]?=some d:=by rw[←ec];exact fC hlt
  have hz':Low d∨¬((k:Int)=0)->∀ c,s[0]?=some c->Low c:=by
   intro q c hc
   by_cases h0:k=0
   ·subst h0
    rw[ea]at hc
    obtain rfl:=gO hc
    exact q.resolve_right eC
   ·exact hz aA c hc
  simp -dsimp -implicitDefEqProofs only[go_sem,↓reduceIte,Tryz.f198,ea,r8]
  repeat'(with_reducible first|intro _|refine And.intro ?_ ?_)
  all_goals try omega
  all_goals try exact aS5 hlt ec aX5
  all_goals try exact a2O hlt aA ec (by simp only[Low];omega)
  all_goals
   refine⟨k+1,?_⟩
   repeat'(with_reducible refine And.intro ?_ ?_)
   all_goals try(rw[IntWalk.i64_in _ aA];first|rfl|omega)
   all_goals try omega
   all_goals try(repeat'(with_reducible first|exact aB.le_refl _|refine(bM jY).2 ?_))
   all_goals first|exact aNG hlt ec hp aX5|exact λ_=>hz' (by simp only[Low];omega)
 ·have hk':k=s.length:=by omega
  subst hk'
  rw[nM]at hp
  simp -dsimp -implicitDefEqProofs only[go_sem,↓reduceIte,Tryz.f198,bV]
  repeat'(with_reducible first|intro _|refine And.intro ?_ ?_)
  all_goals simp only[aES,decide_eq_decide,eq_comm (a:=false),decide_eq_false_iff_not]
  all_goals grind
mutual
def aC.d:aC->Nat
 | .mk _ _ _ _ kids=>aC.dL kids+1
def aC.dL:List aC->Nat
 | []=>0
 |x::l=>max x.d (aC.dL l)
end
theorem aC.a5Z (x:aC):x.d=aC.dL x.aN+1:=by cases x;rfl
theorem aC.aO7:∀ {l:List aC} {k:Nat} (h:k<l.length),aC.dL (l.take (k+1))=max (aC.dL (l.take k)) l[k].d
 |x::l,0,_=>by simp[aC.dL]
 |x::l,k+1,h=>by
  have:=aC.aO7 (l:=l) (k:=k) (by simpa using h)
  simp only[bGS,aC.dL,this,List.getElem_cons_succ]
  omega
mutual
theorem aC.bHY:∀ x:aC,x.d<=x.s+1
 | .mk _ _ _ _ kids=>by
  have:=aC.bFD kids
  simp only[aC.d,aC.s];omega
theorem aC.bFD:∀ l:List aC,aC.dL l<=l.length+aC.sL l
 | []=>by simp[aC.dL]
 |x::l=>by
  have h1:=aC.bHY x
  have h2:=aC.bFD l
  simp only[aC.dL,aC.sL,aB9];omega
end
theorem aC.aM0 {x y:aC} (h:y∈x.aN):y.s<x.s:=by
 have h1:=aO4 aC.s h
 have h2:=List.length_pos_of_mem h
 rw[x.aDB,tD];omega
theorem aC.a50 (x:aC) {k:Nat} (h:k<x.aN.length):k+((x.aN.take k).map aC.s).sum+x.aN[k].s+1<=x.s:=by
 have h1:=lX aC.s x.aN k h
 have h2:=vT aC.s x.aN (k+1)
 rw[x.aDB,tD];omega
theorem aC.bFE (x:aC):x.aN.length+((x.aN.take x.aN.length).map aC.s).sum=x.s:=by
 rw[nM,x.aDB,tD]
theorem aMN (x:aC) (hs:x.s<=4294967296) (hc:∀ y∈x.aN,fR Tryz.prog 202 [.agg y.c] (I ((y.s:Int)+1))):fR Tryz.prog 202 [.agg x.c] (I ((x.s:Int)+1)):=by
 have hx:=x.bFE
 rw[aC.aY x]
 refine gA 19 aY3 aVV cG Tryz.func202 λh=>?_
 simp -dsimp -implicitDefEqProofs only[go_sem,↓reduceIte,Tryz.f202]
 repeat'(with_reducible first|intro _|refine And.intro ?_ ?_)
 refine cM aY3 aVV cG (λk:Nat=>[(1,.ip 5 [x.c] 0 0),(3,I (1+k+(((x.aN.take k).map aC.s).sum:Int))),(7,gT 5 aC.c x.aN),(8,I x.aN.length),(9,I k)]) (λ_=>h) (λk=>k<=x.aN.length) (λk=>x.aN.length-k) 0 (by simp[cR,bZ,aB.le_refl,aC.aY]) ?_
 intro k hk
 rcases bT k x.aN.length with hlt|hge
 ·have ea:x.aN[k]?=some x.aN[k]:=fC hlt
  have hp:=x.a50 hlt
  have h1:=lX aC.s x.aN k hlt
  have hcy:=hc x.aN[k] (lF hlt)
  simp only[aC.aY]at hcy
  simp -dsimp -implicitDefEqProofs only[go_sem,↓reduceIte,Tryz.f202,ea,aC.aY,aL]
  repeat'(with_reducible first|intro _|refine And.intro ?_ ?_)
  all_goals try omega
  first|refine aH.mk (hcy) ?_|refine aG.mk (hcy) ?_|refine aH.bH (hcy) ?_|refine aG.mk (bB.dI (hcy)) ?_
  simp -dsimp -implicitDefEqProofs only[go_sem,↓reduceIte,Tryz.f202]
  rename_i n hn
  refine⟨k+1,?_⟩
  repeat'(with_reducible refine And.intro ?_ ?_)
  all_goals try(rw[IntWalk.i64_in _ aA];first|rfl|omega)
  all_goals try omega
  all_goals try(repeat'(with_reducible first|exact aB.le_refl _|refine(bM jY).2 ?_))
  all_goals try(simp only[aC.aY];done)
 ·have hk':k=x.aN.length:=by omega
  subst hk'
  simp -dsimp -implicitDefEqProofs only[go_sem,↓reduceIte,Tryz.f202,bV]
  omega
theorem aKS (x:aC) (hs:x.s<=4294967296):fR Tryz.prog 202 [.agg x.c] (I ((x.s:Int)+1)) :=
 aMN x hs λy hy=>aKS y aX4
termination_by SizeOf.sizeOf x
decreasing_by exact aC.aGC hy
theorem aKT (x:aC) (hs:x.s<=4294967296) (hc:∀ y∈x.aN,fR Tryz.prog 221 [.agg y.c] (I (y.d:Int))):fR Tryz.prog 221 [.agg x.c] (I (x.d:Int)):=by
 have hd:=x.bHY
 rw[aC.a5Z]at hd ⊢
 rw[aC.aY x]
 refine gA 20 aY3 aVV cG Tryz.func221 λh=>?_
 simp -dsimp -implicitDefEqProofs only[go_sem,↓reduceIte,Tryz.f221]
 repeat'(with_reducible first|intro _|refine And.intro ?_ ?_)
 refine cM aY3 aVV cG (λk:Nat=>[(1,.ip 5 [x.c] 0 0),(3,I (aC.dL (x.aN.take k):Int)),(7,gT 5 aC.c x.aN),(8,I x.aN.length),(9,I k)]) (λ_=>h) (λk=>k<=x.aN.length) (λk=>x.aN.length-k) 0 (by simp[cR,bZ,aB.le_refl,aC.aY,aC.dL]) ?_
 intro k hk
 rcases bT k x.aN.length with hlt|hge
 ·have ea:x.aN[k]?=some x.aN[k]:=fC hlt
  have h1:=aC.aO7 hlt
  have hcy:=hc x.aN[k] (lF hlt)
  simp only[aC.aY]at hcy
  simp -dsimp -implicitDefEqProofs only[go_sem,↓reduceIte,Tryz.f221,ea,aC.aY,aL]
  repeat'(with_reducible first|intro _|refine And.intro ?_ ?_)
  all_goals try omega
  first|refine aH.mk (hcy) ?_|refine aG.mk (hcy) ?_|refine aH.bH (hcy) ?_|refine aG.mk (bB.dI (hcy)) ?_
  simp -dsimp -implicitDefEqProofs only[go_sem,↓reduceIte,Tryz.f221]
  repeat'(with_reducible first|intro _|refine And.intro ?_ ?_)
  all_goals try rfl
  rename_i n hn
  refine⟨k+1,?_⟩
  repeat'(with_reducible refine And.intro ?_ ?_)
  all_goals try(rw[IntWalk.i64_in _ aA];first|rfl|omega)
  all_goals try omega
  all_goals try(repeat'(with_reducible first|exact aB.le_refl _|refine(bM jY).2 ?_))
  all_goals try(simp only[aC.aY];done)
 ·have hk':k=x.aN.length:=by omega
  subst hk'
  simp -dsimp -implicitDefEqProofs only[go_sem,↓reduceIte,Tryz.f221,bV]
  rw[nM,IntWalk.i64_in _ aA];omega
theorem aNH (x:aC) (hs:x.s<=4294967296):fR Tryz.prog 221 [.agg x.c] (I (x.d:Int)) :=
 aKT x hs λy hy=>aNH y aX4
termination_by SizeOf.sizeOf x
decreasing_by exact aC.aGC hy
@[go_sem] def aY9:List Nat:=[0,1,4,5,18]
theorem aO8 (x:aC) (left:Int) (h0:0<=left) (h9:left<=4294967296) (hs:x.s<=4294967296) (hc:∀ y∈x.aN,∀ left:Int,0<=left->left<=4294967296->fR Tryz.prog 217 [.ip 5 [y.c] 0 0,I left] (I (lft left (y.s+1)))):fR Tryz.prog 217 [.ip 5 [x.c] 0 0,I left] (I (lft left (x.s+1))):=by
 have hx:=x.bFE
 rw[aC.aY x]
 refine gA 30 aY9 cU cG Tryz.func217 λh=>?_
 simp -dsimp -implicitDefEqProofs only[go_sem,↓reduceIte,Tryz.f217]
 repeat'(with_reducible first|intro _|refine And.intro ?_ ?_)
 refine cM aY9 cU cG (λk:Nat=>[(0,.ip 5 [x.c] 0 0),(1,I (lft left (1+k+((x.aN.take k).map aC.s).sum))),(5,I k)]) (λ_=>h) (λk=>k<=x.aN.length) (λk=>x.aN.length-k) 0 (by simp[cR,bZ,aB.le_refl,aC.aY];rw[IntWalk.i64_in _ aA];unfold lft;split <;> omega) ?_
 intro k hk
 rcases bT k x.aN.length with hlt|hge
 ·have hp:=x.a50 hlt
  have h1:=lX aC.s x.aN k hlt
  rcases aNF left (1+k+((x.aN.take k).map aC.s).sum)with⟨e,hl⟩|⟨e,hl⟩
  ·rw[e,aC.aY x]
   simp -dsimp -implicitDefEqProofs only[go_sem,↓reduceIte,Tryz.f217]
   repeat'(with_reducible first|intro _|refine And.intro ?_ ?_)
   all_goals try omega
   exact(bA1 aA).symm
  ·rw[e,aC.aY x]
   simp -dsimp -implicitDefEqProofs only[go_sem,↓reduceIte,Tryz.f217]
   repeat'(with_reducible first|intro _|refine And.intro ?_ ?_)
   all_goals try omega
   first|refine aG.mk ((hc x.aN[k] (lF hlt) _ hl aA).sub vG) ?_|refine aH.mk ((hc x.aN[k] (lF hlt) _ hl aA).sub vG) ?_
   simp -dsimp -implicitDefEqProofs only[go_sem,↓reduceIte,Tryz.f217]
   refine⟨k+1,?_⟩
   repeat'(with_reducible refine And.intro ?_ ?_)
   all_goals try(rw[IntWalk.i64_in _ aA];first|rfl|omega)
   all_goals try omega
   all_goals try(repeat'(with_reducible first|exact aB.le_refl _|refine(bM jY).2 ?_))
   all_goals try(simp only[aC.aY];done)
   all_goals(rw[h1];unfold lft;split <;> split <;> omega)
 ·have hk':k=x.aN.length:=by omega
  subst hk'
  rw[aC.aY x]
  simp -dsimp -implicitDefEqProofs only[go_sem,↓reduceIte,Tryz.f217,bV]
  rw[show 1+x.aN.length+((x.aN.take x.aN.length).map aC.s).sum=x.s+1 by omega]
  exact λ_=>rfl
theorem aET (x:aC) (left:Int) (h0:0<=left) (h9:left<=4294967296) (hs:x.s<=4294967296):fR Tryz.prog 217 [.ip 5 [x.c] 0 0,I left] (I (lft left (x.s+1))) :=
 aO8 x left h0 h9 hs λy hy left h0 h9=>aET y left h0 h9 aX4
termination_by SizeOf.sizeOf x
decreasing_by exact aC.aGC hy
@[go_sem] def bA3:List Nat:=[0,1,4,7]
theorem aO9 (a b:Int):fR Tryz.prog 233 [I a,I b] (I (max a b)):=by
 refine gA 10 bA3 cU cG Tryz.func233 λh=>?_
 simp -dsimp -implicitDefEqProofs only[go_sem,↓reduceIte,Tryz.f233]
 repeat'(with_reducible first|intro _|refine And.intro ?_ ?_)
 all_goals omega
theorem aMO (x:aC) (hs:x.s<=4294967296) (hc:∀ y∈x.aN,fR Tryz.prog 228 [.ip 5 [y.c] 0 0] (I (y.d:Int))):fR Tryz.prog 228 [.ip 5 [x.c] 0 0] (I (x.d:Int)):=by
 have hd:=x.bHY
 rw[aC.a5Z]at hd ⊢
 rw[aC.aY x]
 refine gA 25 bOL cU cG Tryz.func228 λh=>?_
 simp -dsimp -implicitDefEqProofs only[go_sem,↓reduceIte,Tryz.f228]
 repeat'(with_reducible first|intro _|refine And.intro ?_ ?_)
 refine cM bOL cU cG (λk:Nat=>[(0,.ip 5 [x.c] 0 0),(3,I (aC.dL (x.aN.take k):Int)),(4,I k)]) (λ_=>h) (λk=>k<=x.aN.length) (λk=>x.aN.length-k) 0 (by simp[cR,bZ,aB.le_refl,aC.aY,aC.dL]) ?_
 intro k hk
 rw[aC.aY x]
 rcases bT k x.aN.length with hlt|hge
 ·have h1:=aC.aO7 hlt
  simp -dsimp -implicitDefEqProofs only[go_sem,↓reduceIte,Tryz.f228]
  repeat'(with_reducible first|intro _|refine And.intro ?_ ?_)
  all_goals try omega
  first|refine aG.mk ((hc x.aN[k] (lF hlt)).sub vG) ?_|refine aH.mk ((hc x.aN[k] (lF hlt)).sub vG) ?_
  simp -dsimp -implicitDefEqProofs only[go_sem,↓reduceIte,Tryz.f228]
  first|refine aH.mk (aO9 _ _) ?_|refine aG.mk (aO9 _ _) ?_|refine aH.bH (aO9 _ _) ?_|refine aG.mk (bB.dI (aO9 _ _)) ?_
  simp -dsimp -implicitDefEqProofs only[go_sem,↓reduceIte,Tryz.f228]
  refine⟨k+1,?_⟩
  repeat'(with_reducible refine And.intro ?_ ?_)
  all_goals try(rw[IntWalk.i64_in _ aA];first|rfl|omega)
  all_goals try omega
  all_goals try(repeat'(with_reducible first|exact aB.le_refl _|refine(bM jY).2 ?_))
  all_goals try(simp only[aC.aY];done)
 ·have hk':k=x.aN.length:=by omega
  subst hk'
  simp -dsimp -implicitDefEqProofs only[go_sem,↓reduceIte,Tryz.f228,bV]
  intro _
  rw[nM,IntWalk.i64_in _ aA];omega
theorem aKU (x:aC) (hs:x.s<=4294967296):fR Tryz.prog 228 [.ip 5 [x.c] 0 0] (I (x.d:Int)) :=
 aMO x hs λy hy=>aKU y aX4
termination_by SizeOf.sizeOf x
decreasing_by exact aC.aGC hy
def eO (k:Int):Int:=if k=1∨k=2 then 0 else if k=3∨k=4∨k=5∨k=6∨k=9 then 2 else if k=7 then 1 else if k=8 then 3 else -1
def mR (p:aF) (e:aC) (vars funcs:Int):Prop :=
 if e.aS=10∨e.aS=11 then
  0<=e.bA/\e.bA<=funcs-1/\∀ f,p.aK[e.bA.toNat]?=some f ->
   0<=e.cV/\e.cV<=(f.aU.length:Int)-1/\(e.aN.length:Int)=f.aR/\(e.aS=10->e.cH=0)/\(e.aS=11->0<=e.cH/\e.cH<=8/\(f.aU.length:Int)=f.aR)
 else eO e.aS=e.aN.length/\e.cV=0/\e.cH=0/\(e.aS=1->iE e.bA)/\(e.aS=2->0<=e.bA/\e.bA<=vars-1)/\(e.aS≠1->e.aS≠2->e.bA=0)
noncomputable instance (p:aF) (e:aC) (vars funcs:Int):Decidable (mR p e vars funcs):=Classical.propDecidable _
def jE (kind:Int) (i:Nat) (vars:Int):Int:=if kind=9/\i=1 then vars+1 else vars
mutual
def aC.ok (p:aF) (funcs:Int):aC->Int->Prop
 | .mk a b c d kids,vars=>mR p (.mk a b c d kids) vars funcs/\aC.okL p funcs a kids 0 vars
def aC.okL (p:aF) (funcs:Int) (kind:Int):List aC->Nat->Int->Prop
 | [],_,_=>True
 |x::l,i,vars=>x.ok p funcs (jE kind i vars)/\aC.okL p funcs kind l (i+1) vars
end
noncomputable instance (p:aF) (funcs:Int) (e:aC) (vars:Int):Decidable (e.ok p funcs vars):=Classical.propDecidable _
theorem aC.aZA (p:aF) (funcs kind:Int):∀ (l:List aC) (i:Nat) (vars:Int),aC.okL p funcs kind l i vars↔∀ (k:Nat) (h:k<l.length),l[k].ok p funcs (jE kind (i+k) vars)
 | [],i,vars=>by simp[aC.okL]
 |x::l,i,vars=>by
  rw[aC.okL,aC.aZA p funcs kind l (i+1) vars]
  constructor
  ·rintro⟨h1,h2⟩ k hk
   cases k with
   |zero=>exact h1
   |succ k=>have:=h2 k (by simpa using hk);rw[show i+1+k=i+(k+1)by omega]at this;exact this
  ·intro h
   refine⟨h 0 eC,λk hk=>?_⟩
   have:=h (k+1) (by simpa using hk)
   rw[show i+1+k=i+(k+1)by omega];exact this
theorem aC.dK (p:aF) (funcs:Int) (x:aC) (vars:Int):x.ok p funcs vars↔mR p x vars funcs/\∀ (k:Nat) (h:k<x.aN.length),x.aN[k].ok p funcs (jE x.aS k vars):=by
 cases x with
 |mk a b c d kids =>
  rw[aC.ok,aC.aZA]
  simp only[aHQ,aC.aN,aC.aS]
theorem aF.aNI (p:aF):p.aK.length<=p.s:=by rw[p.aDB,tD];omega
theorem aF.aKV {p:aF} {f:aV} (h:f∈p.aK):f.s+p.aK.length<=p.s:=by
 have:=aO4 aV.s h
 rw[p.aDB,tD];omega
theorem aV.aKW (f:aV):f.aU.length<=f.s:=by rw[f.aDB,tD];omega
theorem aV.bFF {f:aV} {e:aC} (h:e∈f.aU):e.s<f.s:=by
 have:=aO4 aC.s h
 have:=List.length_pos_of_mem h
 rw[f.aDB,tD];omega
@[go_sem] def bA4:List Nat:=[0,2,3,4,7,13,15]
theorem vW (k:Int):fR Tryz.prog 194 [I k] (I (eO k)):=by
 refine gA 17 bA4 cU cG Tryz.func194 λh=>?_
 simp -dsimp -implicitDefEqProofs only[go_sem,↓reduceIte,Tryz.f194]
 repeat'(with_reducible first|intro _|refine And.intro ?_ ?_)
 all_goals try(first|(simp[eO, *];done)|omega|(grind[eO])|(simp[eO];omega))
theorem sX {p:aF} {e:aC} {vars funcs:Int} (hk:e.aS=10∨e.aS=11) {f:aV} (ef:p.aK[e.bA.toNat]?=some f):mR p e vars funcs ↔
  0<=e.bA/\e.bA<=funcs-1/\0<=e.cV/\e.cV<=(f.aU.length:Int)-1/\(e.aN.length:Int)=f.aR/\(e.aS=10->e.cH=0)/\(e.aS=11->0<=e.cH/\e.cH<=8/\(f.aU.length:Int)=f.aR):=by
 unfold mR
 rw[if_pos hk]
 simp[ef]
theorem aEU {p:aF} {e:aC} {vars funcs:Int} (hk:e.aS=10∨e.aS=11) (hr:¬(0<=e.bA/\e.bA<=funcs-1)):¬mR p e vars funcs:=by
 unfold mR
 rw[if_pos hk]
 intro h
 exact hr ⟨h.1,h.2.1⟩
theorem dT {p:aF} {e:aC} {vars funcs:Int} (hk:¬(e.aS=10∨e.aS=11)):mR p e vars funcs ↔
  eO e.aS=e.aN.length/\e.cV=0/\e.cH=0/\(e.aS=1->iE e.bA)/\(e.aS=2->0<=e.bA/\e.bA<=vars-1)/\(e.aS≠1->e.aS≠2->e.bA=0):=by
 unfold mR
 rw[if_neg hk]
@[go_sem] def aPA:List Nat:=[0,1,2,3,8,9,21,29,62,67,114,118,119,126]
@[go_sem] def a51:Marks:=λid=>match id with|4=>([],(.op 0 (.op 1 (.op 2 (.op 3 (.op 4 (.op 5 (.op 6 (.op 7 (.op 8 (.op 9 .nil)))))))))),[])|5=>([],(.op 0 (.op 1 (.op 2 (.op 3 (.op 4 (.op 5 (.op 6 (.op 7 (.op 8 (.op 9 (.op 10 (.op 11 (.op 12 (.op 13 (.op 14 (.op 15 (.op 16 (.op 17 (.op 18 (.op 19 (.op 20 (.op 21 (.op 22 (.op 23 .nil)))))))))))))))))))))))),[])|9=>([],(.op 0 (.op 1 (.op 2 (.op 3 (.op 4 (.op 5 (.op 6 (.op 7 (.op 8 (.op 9 (.op 10 (.op 11 (.op 12 (.op 13 (.op 14 (.op 15 (.op 16 (.op 17 .nil)))))))))))))))))),[])|10=>([],(.op 0 (.op 1 (.op 2 (.op 3 (.op 4 (.op 5 (.op 6 (.op 7 (.op 8 (.op 9 (.op 10 (.op 11 (.op 12 (.op 13 (.op 14 (.op 15 (.op 16 (.op 17 (.op 18 (.op 19 (.op 20 (.op 21 (.op 22 (.op 23 (.op 24 .nil))))))))))))))))))))))))),[])|_=>([],.nil,[])
theorem aZB (p:aF) (e:aC) (vars funcs:Int) (hv:0<=vars) (hv2:vars<=4294967296) (gF:0<=funcs) (hf:funcs<=p.aK.length) (hps:p.s<=4294967296):fR Tryz.prog 234 [.ip 1 [p.c] 0 0,.ip 5 [e.c] 0 0,I vars,I funcs] (.bool (decide (mR p e vars funcs))):=by
 have hl:=p.aNI
 have e1:IntKind.i64.wrap (funcs-1)=funcs-1:=IntWalk.i64_in _ aA
 have e2:IntKind.i64.wrap (vars-1)=vars-1:=IntWalk.i64_in _ aA
 rw[aC.aY]
 simp only[aF.aY]
 by_cases hk:e.aS=10∨e.aS=11
 ·by_cases hr:0<=e.bA/\e.bA<=funcs-1
  ·obtain⟨f,ef⟩:∃ f,p.aK[e.bA.toNat]?=some f:=⟨_,fC aA⟩
   have hn:=sX (vars:=vars) (funcs:=funcs) hk ef
   have hfs:=aF.aKV (s5 ef)
   have hos:=f.aKW
   refine gA 140 aPA cU a51 Tryz.func234 λh=>?_
   simp -dsimp -implicitDefEqProofs only[go_sem,↓reduceIte,Tryz.f234,e1,e2]
   repeat'(with_reducible first|intro _|refine And.intro ?_ ?_)
   all_goals try omega
   all_goals(first|refine aH.mk (fJ e.bA 0 (funcs-1)) ?_|refine aG.mk (fJ e.bA 0 (funcs-1)) ?_)
   all_goals simp -dsimp -implicitDefEqProofs only[go_sem,↓reduceIte,Tryz.f234,ef,aV.aY]
   all_goals repeat'(with_reducible first|intro _|refine And.intro ?_ ?_)
   all_goals try omega
   all_goals try simp(disch:=omega) only[IntWalk.i64_in]
   all_goals(first|refine aH.mk (fJ e.cV 0 (f.aU.length-1)) ?_|refine aG.mk (fJ e.cV 0 (f.aU.length-1)) ?_)
   all_goals simp -dsimp -implicitDefEqProofs only[go_sem,↓reduceIte,Tryz.f234,ef,aV.aY]
   all_goals repeat'(with_reducible first|intro _|refine And.intro ?_ ?_)
   all_goals try omega
   all_goals try(first|(simp[*];done)|omega|grind)
   first|refine aH.mk (fJ e.cH 0 8) ?_|refine aG.mk (fJ e.cH 0 8) ?_|refine aH.bH (fJ e.cH 0 8) ?_|refine aG.mk (bB.dI (fJ e.cH 0 8)) ?_
   simp -dsimp -implicitDefEqProofs only[go_sem,↓reduceIte,Tryz.f234,ef,aV.aY]
   repeat'(with_reducible first|intro _|refine And.intro ?_ ?_)
   all_goals try(first|(simp[*];done)|omega|grind)
  ·have hn:=aEU (p:=p) (vars:=vars) hk hr
   refine gA 140 aPA cU a51 Tryz.func234 λh=>?_
   simp -dsimp -implicitDefEqProofs only[go_sem,↓reduceIte,Tryz.f234,e1,e2]
   repeat'(with_reducible first|intro _|refine And.intro ?_ ?_)
   all_goals try omega
   all_goals(first|refine aH.mk (fJ e.bA 0 (funcs-1)) ?_|refine aG.mk (fJ e.bA 0 (funcs-1)) ?_)
   all_goals simp -dsimp -implicitDefEqProofs only[go_sem,↓reduceIte,Tryz.f234]
   all_goals repeat'(with_reducible first|intro _|refine And.intro ?_ ?_)
   all_goals try(first|(simp[*];done)|omega|grind)
 ·have hn:=dT (p:=p) (vars:=vars) (funcs:=funcs) hk
  refine gA 140 aPA cU a51 Tryz.func234 λh=>?_
  simp -dsimp -implicitDefEqProofs only[go_sem,↓reduceIte,Tryz.f234,e1,e2]
  repeat'(with_reducible first|intro _|refine And.intro ?_ ?_)
  all_goals try omega
  first|refine aH.mk (vW e.aS) ?_|refine aG.mk (vW e.aS) ?_|refine aH.bH (vW e.aS) ?_|refine aG.mk (bB.dI (vW e.aS)) ?_
  simp -dsimp -implicitDefEqProofs only[go_sem,↓reduceIte,Tryz.f234]
  repeat'(with_reducible first|intro _|refine And.intro ?_ ?_)
  all_goals try(first|(simp[*];done)|omega|grind)
  ·first|refine aH.mk (qL e.bA) ?_|refine aG.mk (qL e.bA) ?_|refine aH.bH (qL e.bA) ?_|refine aG.mk (bB.dI (qL e.bA)) ?_
   simp -dsimp -implicitDefEqProofs only[go_sem,↓reduceIte,Tryz.f234]
   all_goals try(first|(simp[*];done)|omega|grind)
  ·all_goals try simp(disch:=omega) only[IntWalk.i64_in]
   first|refine aH.mk (fJ e.bA 0 (vars-1)) ?_|refine aG.mk (fJ e.bA 0 (vars-1)) ?_|refine aH.bH (fJ e.bA 0 (vars-1)) ?_|refine aG.mk (bB.dI (fJ e.bA 0 (vars-1))) ?_
   simp -dsimp -implicitDefEqProofs only[go_sem,↓reduceIte,Tryz.f234]
   all_goals try(first|(simp[*];done)|omega|grind)
@[go_sem] def vX:List Nat:=[0,1,2,3,4,6,7,8,9,10,11,12,25,26,38,52,68,69,81,82,94,95,104,125,152,154,155,156,157,168,175]
@[go_sem] def aZC:List Nat:=[0,1,2,3,8,9,10,16,23,35,48]
theorem aPB (p:aF) (e:aC) (vars funcs:Int) (hv:0<=vars) (hv2:vars+e.s<=4294967296) (gF:0<=funcs) (hf:funcs<=p.aK.length) (hps:p.s<=4294967296)
  (hc:∀ y∈e.aN,∀ vars:Int,0<=vars->vars+y.s<=4294967296->fR Tryz.prog 229 [.ip 1 [p.c] 0 0,.ip 5 [y.c] 0 0,I vars,I funcs] (.bool (decide (y.ok p funcs vars)))) :
  fR Tryz.prog 229 [.ip 1 [p.c] 0 0,.ip 5 [e.c] 0 0,I vars,I funcs] (.bool (decide (e.ok p funcs vars))):=by
 have hok:=aC.dK p funcs e vars
 simp only[aC.aY,aF.aY]
 refine gA 49 aZC cU cG Tryz.func229 λh=>?_
 simp -dsimp -implicitDefEqProofs only[go_sem,↓reduceIte,Tryz.f229]
 first|refine aG.mk ((aZB p e vars funcs hv aA gF hf hps).sub vG) ?_|refine aH.mk ((aZB p e vars funcs hv aA gF hf hps).sub vG) ?_
 simp -dsimp -implicitDefEqProofs only[go_sem,↓reduceIte,Tryz.f229]
 repeat'(with_reducible first|intro _|refine And.intro ?_ ?_)
 ·rename_i hn
  exact(decide_eq_false λq=>hn (hok.1 q).1).symm
 ·rename_i hn
  refine cM aZC cU cG (λk:Nat=>[(0,.ip 1 [p.c] 0 0),(1,.ip 5 [e.c] 0 0),(2,I vars),(3,I funcs),(9,I k)]) (λ_=>h) (λk=>k<=e.aN.length/\∀ (j:Nat) (hj:j<e.aN.length),j<k->e.aN[j].ok p funcs (jE e.aS j vars)) (λk=>e.aN.length-k) 0 (by simp[cR,bZ,aB.le_refl,aC.aY,aF.aY]) ?_
  intro k ⟨hk,hp⟩
  simp only[aC.aY,aF.aY]
  rcases bT k e.aN.length with hlt|hge
  ·have vK:=aC.aM0 (lF hlt)
   have nx (q:e.aN[k].ok p funcs (jE e.aS k vars)):∀ (j:Nat) (hj:j<e.aN.length),j<k+1->e.aN[j].ok p funcs (jE e.aS j vars):=by
    intro j hj hjk
    rcases aMU.1 hjk with h1|rfl
    ·exact hp j hj h1
    ·exact q
   have no (q:¬e.aN[k].ok p funcs (jE e.aS k vars)):false=decide (e.ok p funcs vars):=(decide_eq_false λz=>q ((hok.1 z).2 k hlt)).symm
   simp -dsimp -implicitDefEqProofs only[go_sem,↓reduceIte,Tryz.f229]
   repeat'(with_reducible first|intro _|refine And.intro ?_ ?_)
   all_goals try omega
   ·have em:jE e.aS k vars=vars+1:=if_pos ⟨by assumption,by omega⟩
    rw[em]at nx no
    all_goals try simp(disch:=omega) only[IntWalk.i64_in]
    first|refine aG.mk ((hc e.aN[k] (lF hlt) (vars+1) aA aA).sub vG) ?_|refine aH.mk ((hc e.aN[k] (lF hlt) (vars+1) aA aA).sub vG) ?_
    simp -dsimp -implicitDefEqProofs only[go_sem,↓reduceIte,Tryz.f229]
    repeat'(with_reducible first|intro _|refine And.intro ?_ ?_)
    ·exact no kX
    ·refine⟨k+1,?_⟩
     repeat'(with_reducible refine And.intro ?_ ?_)
     all_goals try(rw[IntWalk.i64_in _ aA];first|rfl|omega)
     all_goals try omega
     all_goals try(repeat'(with_reducible first|exact aB.le_refl _|refine(bM jY).2 ?_))
     all_goals try(simp only[aC.aY,aF.aY];done)
     exact nx kX
   all_goals
    have em:jE e.aS k vars=vars:=if_neg aA
    rw[em]at nx no
    first|refine aG.mk ((hc e.aN[k] (lF hlt) vars aA aA).sub vG) ?_|refine aH.mk ((hc e.aN[k] (lF hlt) vars aA aA).sub vG) ?_
    simp -dsimp -implicitDefEqProofs only[go_sem,↓reduceIte,Tryz.f229]
    repeat'(with_reducible first|intro _|refine And.intro ?_ ?_)
    ·exact no kX
    ·refine⟨k+1,?_⟩
     repeat'(with_reducible refine And.intro ?_ ?_)
     all_goals try(rw[IntWalk.i64_in _ aA];first|rfl|omega)
     all_goals try omega
     all_goals try(repeat'(with_reducible first|exact aB.le_refl _|refine(bM jY).2 ?_))
     all_goals try(simp only[aC.aY,aF.aY];done)
     exact nx kX
  ·have hk':k=e.aN.length:=by omega
   subst hk'
   simp -dsimp -implicitDefEqProofs only[go_sem,↓reduceIte,Tryz.f229,bV]
   exact λ_=>(decide_eq_true (hok.2 ⟨hn,λj hj=>hp j hj hj⟩)).symm
theorem aPC (p:aF) (e:aC) (vars funcs:Int) (hv:0<=vars) (hv2:vars+e.s<=4294967296) (gF:0<=funcs) (hf:funcs<=p.aK.length) (hps:p.s<=4294967296) :
  fR Tryz.prog 229 [.ip 1 [p.c] 0 0,.ip 5 [e.c] 0 0,I vars,I funcs] (.bool (decide (e.ok p funcs vars))) :=
 aPB p e vars funcs hv hv2 gF hf hps λy hy vars hv hv2=>aPC p y vars funcs hv hv2 gF hf hps
termination_by SizeOf.sizeOf e
decreasing_by exact aC.aGC hy
set_option maxHeartbeats 8000000 in
theorem aKX (p:aF) (e:aC) (vars funcs:Int) (hv:0<=vars) (hv2:vars+e.s<=4294967296) (gF:0<=funcs) (hf:funcs<=p.aK.length) (hps:p.s<=4294967296)
  (hc:∀ y∈e.aN,∀ vars:Int,0<=vars->vars+y.s<=4294967296->fR Tryz.prog 222 [.agg [gT 3 aV.c p.aK,I funcs],.agg y.c,I vars] (.bool (decide (y.ok p funcs vars)))) (hk:¬(e.aS=10∨e.aS=11)) :
  fR Tryz.prog 222 [.agg [gT 3 aV.c p.aK,I funcs],.agg e.c,I vars] (.bool (decide (e.ok p funcs vars))):=by
 have hok:=aC.dK p funcs e vars
 have hl:=p.aNI
 have e1:IntKind.i64.wrap (funcs-1)=funcs-1:=IntWalk.i64_in _ aA
 have e2:IntKind.i64.wrap (vars-1)=vars-1:=IntWalk.i64_in _ aA
 simp only[aC.aY]
 have no1 (hk:¬(e.aS=10∨e.aS=11)) (q:¬(eO e.aS=e.aN.length/\e.cV=0/\e.cH=0/\(e.aS=1->iE e.bA)/\(e.aS=2->0<=e.bA/\e.bA<=vars-1)/\(e.aS≠1->e.aS≠2->e.bA=0))):false=decide (e.ok p funcs vars) :=
  (decide_eq_false λz=>q ((dT hk).1 (hok.1 z).1)).symm
 have bOU (hk:¬(e.aS=10∨e.aS=11)) (q:eO e.aS=e.aN.length/\e.cV=0/\e.cH=0/\(e.aS=1->iE e.bA)/\(e.aS=2->0<=e.bA/\e.bA<=vars-1)/\(e.aS≠1->e.aS≠2->e.bA=0)):mR p e vars funcs:=(dT hk).2 q
 refine gA 177 vX aHG cG Tryz.func222 λh=>?_
 simp(maxSteps:=1000000) -dsimp -implicitDefEqProofs only[go_sem,↓reduceIte,Tryz.f222,e1,e2]
 repeat'(with_reducible first|intro _|refine And.intro ?_ ?_)
 all_goals try omega
 all_goals try(refine no1 aA ?_;simp only[eO];grind)
 ·first|refine aH.mk (sW e.bA) ?_|refine aG.mk (sW e.bA) ?_|refine aH.bH (sW e.bA) ?_|refine aG.mk (bB.dI (sW e.bA)) ?_
  simp(maxSteps:=1000000) -dsimp -implicitDefEqProofs only[go_sem,↓reduceIte,Tryz.f222]
  rw[decide_eq_decide,hok,dT hk]
  have:e.aN.length=0:=by omega
  constructor
  ·intro q
   exact⟨by simp only[eO];grind,λk hk=>by omega⟩
  ·intro q
   grind
 ·first|refine aH.mk (within e.bA 0 (vars-1)) ?_|refine aG.mk (within e.bA 0 (vars-1)) ?_|refine aH.bH (within e.bA 0 (vars-1)) ?_|refine aG.mk (bB.dI (within e.bA 0 (vars-1))) ?_
  simp(maxSteps:=1000000) -dsimp -implicitDefEqProofs only[go_sem,↓reduceIte,Tryz.f222]
  rw[decide_eq_decide,hok,dT hk]
  have:e.aN.length=0:=by omega
  constructor
  ·intro q
   exact⟨by simp only[eO];grind,λk hk=>by omega⟩
  ·intro q
   grind
 all_goals
  have hn:=bOU hk (by simp only[eO];grind)
  clear no1 bOU
  refine cM vX aHG cG (λk:Nat=>[(2,I vars),(3,.ip 2 [[gT 3 aV.c p.aK,I funcs]] 0 0),(4,.ip 5 [e.c] 0 0),(154,gT 5 aC.c e.aN),(155,I e.aN.length),(156,I k)]) (λ_=>h) (λk=>k<=e.aN.length/\∀ (j:Nat) (hj:j<e.aN.length),j<k->e.aN[j].ok p funcs (jE e.aS j vars)) (λk=>e.aN.length-k) 0 (by refine⟨by simp[cR,bZ,aC.aY],by repeat'(with_reducible first|exact aB.le_refl _|refine(bM jY).2 ?_),by simp⟩) ?_
  intro k ⟨hk,hp⟩
  simp only[aC.aY]
  rcases bT k e.aN.length with hlt|hge
  ·have vK:=aC.aM0 (lF hlt)
   have nx (q:e.aN[k].ok p funcs (jE e.aS k vars)):∀ (j:Nat) (hj:j<e.aN.length),j<k+1->e.aN[j].ok p funcs (jE e.aS j vars):=by
    intro j hj hjk
    rcases aMU.1 hjk with h1|rfl
    ·exact hp j hj h1
    ·exact q
   have no (q:¬e.aN[k].ok p funcs (jE e.aS k vars)):false=decide (e.ok p funcs vars):=(decide_eq_false λz=>q ((hok.1 z).2 k hlt)).symm
   have ea:e.aN[k]?=some e.aN[k]:=fC hlt
   rcases Decidable.em (e.aS=9/\k=1)with e9|e9
   ·have em:jE e.aS k vars=vars+1:=if_pos e9
    rw[em]at nx no
    have hcy:=hc e.aN[k] (lF hlt) (vars+1) aA aA
    simp only[aC.aY]at hcy
    simp(maxSteps:=1000000) -dsimp -implicitDefEqProofs only[go_sem,↓reduceIte,Tryz.f222,ea,aC.aY,aL]
    repeat'(with_reducible first|intro _|refine And.intro ?_ ?_)
    all_goals try omega
    all_goals try simp(disch:=omega) only[IntWalk.i64_in]
    all_goals(first|refine aH.mk (hcy) ?_|refine aG.mk (hcy) ?_)
    all_goals simp(maxSteps:=1000000) -dsimp -implicitDefEqProofs only[go_sem,↓reduceIte,Tryz.f222]
    all_goals repeat'(with_reducible first|intro _|refine And.intro ?_ ?_)
    all_goals first|exact no kX|exact aB.le_refl _|skip
    all_goals try(exact(bM kX).2 (aB.le_refl _))
    all_goals
     refine⟨k+1,?_⟩
     repeat'(with_reducible refine And.intro ?_ ?_)
     all_goals try(rw[IntWalk.i64_in _ aA];first|rfl|omega)
     all_goals try omega
     all_goals try(repeat'(with_reducible first|exact aB.le_refl _|refine(bM jY).2 ?_))
     all_goals try(simp only[aC.aY];done)
     exact nx kX
   ·have em:jE e.aS k vars=vars:=if_neg e9
    rw[em]at nx no
    have hcy:=hc e.aN[k] (lF hlt) vars aA aA
    simp only[aC.aY]at hcy
    simp(maxSteps:=1000000) -dsimp -implicitDefEqProofs only[go_sem,↓reduceIte,Tryz.f222,ea,aC.aY,aL]
    repeat'(with_reducible first|intro _|refine And.intro ?_ ?_)
    all_goals try omega
    all_goals(first|refine aH.mk (hcy) ?_|refine aG.mk (hcy) ?_)
    all_goals simp(maxSteps:=1000000) -dsimp -implicitDefEqProofs only[go_sem,↓reduceIte,Tryz.f222]
    all_goals repeat'(with_reducible first|intro _|refine And.intro ?_ ?_)
    all_goals first|exact no kX|exact aB.le_refl _|skip
    all_goals try(exact(bM kX).2 (aB.le_refl _))
    all_goals
     refine⟨k+1,?_⟩
     repeat'(with_reducible refine And.intro ?_ ?_)
     all_goals try(rw[IntWalk.i64_in _ aA];first|rfl|omega)
     all_goals try omega
     all_goals try(repeat'(with_reducible first|exact aB.le_refl _|refine(bM jY).2 ?_))
     all_goals try(simp only[aC.aY];done)
     exact nx kX
  ·have hk':k=e.aN.length:=by omega
   subst hk'
   simp(maxSteps:=1000000) -dsimp -implicitDefEqProofs only[go_sem,↓reduceIte,Tryz.f222,bV]
   exact(decide_eq_true (hok.2 ⟨hn,λj hj=>hp j hj hj⟩)).symm
theorem aEV {p:aF} {e:aC} {vars funcs:Int} {f:aV} (hk:e.aS=10∨e.aS=11) (ef:p.aK[e.bA.toNat]?=some f)
  (q:¬(0<=e.cV/\e.cV<=(f.aU.length:Int)-1/\(e.aN.length:Int)=f.aR/\(e.aS=10->e.cH=0)/\(e.aS=11->0<=e.cH/\e.cH<=8/\(f.aU.length:Int)=f.aR))):false=decide (e.ok p funcs vars) :=
 (decide_eq_false λz=>q ((sX hk ef).1 ((aC.dK _ _ _ _).1 z).1).2.2).symm
theorem aS6 {p:aF} {e:aC} {vars funcs:Int} (hk:e.aS=10∨e.aS=11) (q:¬(0<=e.bA/\e.bA<=funcs-1)):false=decide (e.ok p funcs vars) :=
 (decide_eq_false λz=>aEU hk q ((aC.dK _ _ _ _).1 z).1).symm
set_option maxHeartbeats 8000000 in
theorem aS7 (p:aF) (e:aC) (vars funcs:Int) (hv:0<=vars) (hv2:vars+e.s<=4294967296) (gF:0<=funcs) (hf:funcs<=p.aK.length) (hps:p.s<=4294967296)
  (hc:∀ y∈e.aN,∀ vars:Int,0<=vars->vars+y.s<=4294967296->fR Tryz.prog 222 [.agg [gT 3 aV.c p.aK,I funcs],.agg y.c,I vars] (.bool (decide (y.ok p funcs vars)))) (hk:e.aS=10) :
  fR Tryz.prog 222 [.agg [gT 3 aV.c p.aK,I funcs],.agg e.c,I vars] (.bool (decide (e.ok p funcs vars))):=by
 have hl:=p.aNI
 have e1:IntKind.i64.wrap (funcs-1)=funcs-1:=IntWalk.i64_in _ aA
 simp only[aC.aY]
 by_cases hr:0<=e.bA/\e.bA<=funcs-1
 ·obtain⟨f,ef⟩:∃ f,p.aK[e.bA.toNat]?=some f:=⟨_,fC aA⟩
  have hfs:=aF.aKV (s5 ef)
  have hos:=f.aKW
  have e3:IntKind.i64.wrap ((f.aU.length:Int)-1)=f.aU.length-1:=IntWalk.i64_in _ aA
  refine gA 177 vX aHG cG Tryz.func222 λh=>?_
  simp -dsimp -implicitDefEqProofs only[go_sem,↓reduceIte,Tryz.f222,e1,e3,hk]
  repeat'(with_reducible first|intro _|refine And.intro ?_ ?_)
  all_goals try omega
  all_goals(first|refine aH.mk (within e.bA 0 (funcs-1)) ?_|refine aG.mk (within e.bA 0 (funcs-1)) ?_)
  all_goals simp -dsimp -implicitDefEqProofs only[go_sem,↓reduceIte,Tryz.f222,ef,aV.aY,aL,hk,e3]
  all_goals repeat'(with_reducible first|intro _|refine And.intro ?_ ?_)
  all_goals try omega
  all_goals try(refine aEV aA ef ?_;omega)
  all_goals try(repeat'(with_reducible first|exact aB.le_refl _|refine(bM jY).2 ?_))
  all_goals(first|refine aH.mk (within e.cV 0 (f.aU.length-1)) ?_|refine aG.mk (within e.cV 0 (f.aU.length-1)) ?_)
  all_goals simp -dsimp -implicitDefEqProofs only[go_sem,↓reduceIte,Tryz.f222,ef,aV.aY,aL,hk]
  all_goals repeat'(with_reducible first|intro _|refine And.intro ?_ ?_)
  all_goals try omega
  all_goals try(refine aEV aA ef ?_;omega)
  all_goals try(repeat'(with_reducible first|exact aB.le_refl _|refine(bM jY).2 ?_))
  all_goals
   have hn:mR p e vars funcs:=(sX aA ef).2 aA
   have hok:=aC.dK p funcs e vars
   clear hr hfs hos ef
   refine cM vX aHG cG (λk:Nat=>[(2,I vars),(3,.ip 2 [[gT 3 aV.c p.aK,I funcs]] 0 0),(4,.ip 5 [e.c] 0 0),(154,gT 5 aC.c e.aN),(155,I e.aN.length),(156,I k)]) (λ_=>h) (λk=>k<=e.aN.length/\∀ (j:Nat) (hj:j<e.aN.length),j<k->e.aN[j].ok p funcs vars) (λk=>e.aN.length-k) 0 bMS ?_
   intro k ⟨hk',hp⟩
   simp only[aC.aY]
   rcases bT k e.aN.length with hlt|hge
   ·have vK:=aC.aM0 (lF hlt)
    have nx (q:e.aN[k].ok p funcs vars):∀ (j:Nat) (hj:j<e.aN.length),j<k+1->e.aN[j].ok p funcs vars:=by
     intro j hj hjk
     rcases aMU.1 hjk with h1|rfl
     ·exact hp j hj h1
     ·exact q
    have no (q:¬e.aN[k].ok p funcs vars):false=decide (e.ok p funcs vars):=(decide_eq_false λz=>q bMW).symm
    have ea:e.aN[k]?=some e.aN[k]:=fC hlt
    have hcy:=hc e.aN[k] (lF hlt) vars aA aA
    simp only[aC.aY]at hcy
    simp -dsimp -implicitDefEqProofs only[go_sem,↓reduceIte,Tryz.f222,ea,aC.aY,aL,hk]
    repeat'(with_reducible first|intro _|refine And.intro ?_ ?_)
    all_goals try omega
    first|refine aH.mk (hcy) ?_|refine aG.mk (hcy) ?_|refine aH.bH (hcy) ?_|refine aG.mk (bB.dI (hcy)) ?_
    simp -dsimp -implicitDefEqProofs only[go_sem,↓reduceIte,Tryz.f222]
    repeat'(with_reducible first|intro _|refine And.intro ?_ ?_)
    all_goals first|exact no kX|skip
    all_goals try(repeat'(with_reducible first|exact aB.le_refl _|refine(bM jY).2 ?_))
    refine⟨k+1,?_⟩
    repeat'(with_reducible refine And.intro ?_ ?_)
    all_goals try(rw[IntWalk.i64_in _ aA];first|rfl|omega)
    all_goals try omega
    all_goals try(repeat'(with_reducible first|exact aB.le_refl _|refine(bM jY).2 ?_))
    all_goals try(simp only[aC.aY,hk];done)
    exact nx kX
   ·have hk'':k=e.aN.length:=by omega
    subst hk''
    simp -dsimp -implicitDefEqProofs only[go_sem,↓reduceIte,Tryz.f222,bV]
    exact(decide_eq_true (hok.2 ⟨hn,λj hj=>by rw[show jE e.aS j vars=vars from if_neg aA];exact hp j hj hj⟩)).symm
 ·refine gA 177 vX aHG cG Tryz.func222 λh=>?_
  simp -dsimp -implicitDefEqProofs only[go_sem,↓reduceIte,Tryz.f222,e1,hk]
  repeat'(with_reducible first|intro _|refine And.intro ?_ ?_)
  all_goals try omega
  all_goals(first|refine aH.mk (within e.bA 0 (funcs-1)) ?_|refine aG.mk (within e.bA 0 (funcs-1)) ?_)
  all_goals simp -dsimp -implicitDefEqProofs only[go_sem,↓reduceIte,Tryz.f222]
  all_goals repeat'(with_reducible first|intro _|refine And.intro ?_ ?_)
  all_goals try omega
  all_goals exact aS6 aA hr
set_option maxHeartbeats 8000000 in
theorem aS8 (p:aF) (e:aC) (vars funcs:Int) (hv:0<=vars) (hv2:vars+e.s<=4294967296) (gF:0<=funcs) (hf:funcs<=p.aK.length) (hps:p.s<=4294967296)
  (hc:∀ y∈e.aN,∀ vars:Int,0<=vars->vars+y.s<=4294967296->fR Tryz.prog 222 [.agg [gT 3 aV.c p.aK,I funcs],.agg y.c,I vars] (.bool (decide (y.ok p funcs vars)))) (hk:e.aS=11) :
  fR Tryz.prog 222 [.agg [gT 3 aV.c p.aK,I funcs],.agg e.c,I vars] (.bool (decide (e.ok p funcs vars))):=by
 have hl:=p.aNI
 have e1:IntKind.i64.wrap (funcs-1)=funcs-1:=IntWalk.i64_in _ aA
 simp only[aC.aY]
 by_cases hr:0<=e.bA/\e.bA<=funcs-1
 ·obtain⟨f,ef⟩:∃ f,p.aK[e.bA.toNat]?=some f:=⟨_,fC aA⟩
  have hfs:=aF.aKV (s5 ef)
  have hos:=f.aKW
  have e3:IntKind.i64.wrap ((f.aU.length:Int)-1)=f.aU.length-1:=IntWalk.i64_in _ aA
  refine gA 177 vX aHG cG Tryz.func222 λh=>?_
  simp -dsimp -implicitDefEqProofs only[go_sem,↓reduceIte,Tryz.f222,e1,e3,hk]
  repeat'(with_reducible first|intro _|refine And.intro ?_ ?_)
  all_goals try omega
  all_goals(first|refine aH.mk (within e.bA 0 (funcs-1)) ?_|refine aG.mk (within e.bA 0 (funcs-1)) ?_)
  all_goals simp -dsimp -implicitDefEqProofs only[go_sem,↓reduceIte,Tryz.f222,ef,aV.aY,aL,hk,e3]
  all_goals repeat'(with_reducible first|intro _|refine And.intro ?_ ?_)
  all_goals try omega
  all_goals try(refine aEV aA ef ?_;omega)
  all_goals try(repeat'(with_reducible first|exact aB.le_refl _|refine(bM jY).2 ?_))
  all_goals(first|refine aH.mk (within e.cV 0 (f.aU.length-1)) ?_|refine aG.mk (within e.cV 0 (f.aU.length-1)) ?_)
  all_goals simp -dsimp -implicitDefEqProofs only[go_sem,↓reduceIte,Tryz.f222,ef,aV.aY,aL,hk]
  all_goals repeat'(with_reducible first|intro _|refine And.intro ?_ ?_)
  all_goals try omega
  all_goals try(refine aEV aA ef ?_;omega)
  all_goals try(repeat'(with_reducible first|exact aB.le_refl _|refine(bM jY).2 ?_))
  all_goals(first|refine aH.mk (within e.cH 0 8) ?_|refine aG.mk (within e.cH 0 8) ?_)
  all_goals simp -dsimp -implicitDefEqProofs only[go_sem,↓reduceIte,Tryz.f222,aL,hk]
  all_goals repeat'(with_reducible first|intro _|refine And.intro ?_ ?_)
  all_goals try(refine aEV aA ef ?_;omega)
  all_goals try(repeat'(with_reducible first|exact aB.le_refl _|refine(bM jY).2 ?_))
  all_goals
   have hn:mR p e vars funcs:=(sX aA ef).2 aA
   have hok:=aC.dK p funcs e vars
   clear hr hfs hos ef
   refine cM vX aHG cG (λk:Nat=>[(2,I vars),(3,.ip 2 [[gT 3 aV.c p.aK,I funcs]] 0 0),(4,.ip 5 [e.c] 0 0),(154,gT 5 aC.c e.aN),(155,I e.aN.length),(156,I k)]) (λ_=>h) (λk=>k<=e.aN.length/\∀ (j:Nat) (hj:j<e.aN.length),j<k->e.aN[j].ok p funcs vars) (λk=>e.aN.length-k) 0 bMS ?_
   intro k ⟨hk',hp⟩
   simp only[aC.aY]
   rcases bT k e.aN.length with hlt|hge
   ·have vK:=aC.aM0 (lF hlt)
    have nx (q:e.aN[k].ok p funcs vars):∀ (j:Nat) (hj:j<e.aN.length),j<k+1->e.aN[j].ok p funcs vars:=by
     intro j hj hjk
     rcases aMU.1 hjk with h1|rfl
     ·exact hp j hj h1
     ·exact q
    have no (q:¬e.aN[k].ok p funcs vars):false=decide (e.ok p funcs vars):=(decide_eq_false λz=>q bMW).symm
    have ea:e.aN[k]?=some e.aN[k]:=fC hlt
    have hcy:=hc e.aN[k] (lF hlt) vars aA aA
    simp only[aC.aY]at hcy
    simp -dsimp -implicitDefEqProofs only[go_sem,↓reduceIte,Tryz.f222,ea,aC.aY,aL,hk]
    repeat'(with_reducible first|intro _|refine And.intro ?_ ?_)
    all_goals try omega
    first|refine aH.mk (hcy) ?_|refine aG.mk (hcy) ?_|refine aH.bH (hcy) ?_|refine aG.mk (bB.dI (hcy)) ?_
    simp -dsimp -implicitDefEqProofs only[go_sem,↓reduceIte,Tryz.f222]
    repeat'(with_reducible first|intro _|refine And.intro ?_ ?_)
    all_goals first|exact no kX|skip
    all_goals try(repeat'(with_reducible first|exact aB.le_refl _|refine(bM jY).2 ?_))
    refine⟨k+1,?_⟩
    repeat'(with_reducible refine And.intro ?_ ?_)
    all_goals try(rw[IntWalk.i64_in _ aA];first|rfl|omega)
    all_goals try omega
    all_goals try(repeat'(with_reducible first|exact aB.le_refl _|refine(bM jY).2 ?_))
    all_goals try(simp only[aC.aY,hk];done)
    exact nx kX
   ·have hk'':k=e.aN.length:=by omega
    subst hk''
    simp -dsimp -implicitDefEqProofs only[go_sem,↓reduceIte,Tryz.f222,bV]
    exact(decide_eq_true (hok.2 ⟨hn,λj hj=>by rw[show jE e.aS j vars=vars from if_neg aA];exact hp j hj hj⟩)).symm
 ·refine gA 177 vX aHG cG Tryz.func222 λh=>?_
  simp -dsimp -implicitDefEqProofs only[go_sem,↓reduceIte,Tryz.f222,e1,hk]
  repeat'(with_reducible first|intro _|refine And.intro ?_ ?_)
  all_goals try omega
  all_goals(first|refine aH.mk (within e.bA 0 (funcs-1)) ?_|refine aG.mk (within e.bA 0 (funcs-1)) ?_)
  all_goals simp -dsimp -implicitDefEqProofs only[go_sem,↓reduceIte,Tryz.f222]
  all_goals repeat'(with_reducible first|intro _|refine And.intro ?_ ?_)
  all_goals try omega
  all_goals exact aS6 aA hr
theorem aEW (p:aF) (e:aC) (vars funcs:Int) (hv:0<=vars) (hv2:vars+e.s<=4294967296) (gF:0<=funcs) (hf:funcs<=p.aK.length) (hps:p.s<=4294967296) :
  fR Tryz.prog 222 [.agg [gT 3 aV.c p.aK,I funcs],.agg e.c,I vars] (.bool (decide (e.ok p funcs vars))):=by
 by_cases h1:e.aS=10
 ·exact aS7 p e vars funcs hv hv2 gF hf hps (λy hy vars hv hv2=>aEW p y vars funcs hv hv2 gF hf hps) h1
 ·by_cases h2:e.aS=11
  ·exact aS8 p e vars funcs hv hv2 gF hf hps (λy hy vars hv hv2=>aEW p y vars funcs hv hv2 gF hf hps) h2
  ·exact aKX p e vars funcs hv hv2 gF hf hps (λy hy vars hv hv2=>aEW p y vars funcs hv hv2 gF hf hps) (λq=>q.elim h1 h2)
termination_by SizeOf.sizeOf e
decreasing_by all_goals exact aC.aGC hy
def mB (p:aF) (e:aC) (vars funcs:Int):Prop:=(0<=vars/\vars<=412)/\(0<=funcs/\funcs<=p.aK.length)/\(e.s:Int)+1<=400/\(e.d:Int)<=60/\e.ok p funcs vars
noncomputable instance (p:aF) (e:aC) (vars funcs:Int):Decidable (mB p e vars funcs):=Classical.propDecidable _
def aBB (p:aF) (k:Nat) (f:aV):Prop:=aES f.lD/\(0<=f.aR/\f.aR<=12)/\(1<=(f.aU.length:Int)/\(f.aU.length:Int)<=12)/\(∀ g∈p.aK.take k,g.lD≠f.lD)/\(rX aC.s f.aU:Int)<=400/\∀ e∈f.aU,mB p e f.aR k
noncomputable instance (p:aF) (k:Nat) (f:aV):Decidable (aBB p k f):=Classical.propDecidable _
def aF.ok (p:aF):Prop:=(p.aK.length:Int)<=16/\∀ (k:Nat) (f:aV),p.aK[k]?=some f->aBB p k f
noncomputable instance (p:aF):Decidable p.ok:=Classical.propDecidable _
theorem aIJ (n:Int):fR Tryz.prog 227 [I n] (.bool (decide (0<=n/\n<=412))):=by
 refine gA 5 aBA cU cG Tryz.func227 λh=>?_
 simp -dsimp -implicitDefEqProofs only[go_sem,↓reduceIte,Tryz.f227]
 first|refine aH.mk (fJ n 0 412) ?_|refine aG.mk (fJ n 0 412) ?_|refine aH.bH (fJ n 0 412) ?_|refine aG.mk (bB.dI (fJ n 0 412)) ?_
 simp -dsimp -implicitDefEqProofs only[go_sem,↓reduceIte,Tryz.f227]
theorem aIK (n:Int):fR Tryz.prog 220 [I n] (.bool (decide (0<=n/\n<=412))):=by
 refine gA 5 aBA cU cG Tryz.func220 λh=>?_
 simp -dsimp -implicitDefEqProofs only[go_sem,↓reduceIte,Tryz.f220]
 first|refine aH.mk (within n 0 412) ?_|refine aG.mk (within n 0 412) ?_|refine aH.bH (within n 0 412) ?_|refine aG.mk (bB.dI (within n 0 412)) ?_
 simp -dsimp -implicitDefEqProofs only[go_sem,↓reduceIte,Tryz.f220]
theorem aKY {left:Int} {n:Nat}:0<=lft left n↔(n:Int)<=left:=by
 unfold lft;split <;> omega
@[go_sem] def bA5:List Nat:=[0,1,2,3,8]
theorem aZD (p:aF) (e:aC) (vars funcs:Int) (hs:e.s<=4294966296) (hps:p.s<=4294967296):fR Tryz.prog 218 [.ip 1 [p.c] 0 0,.ip 5 [e.c] 0 0,I vars,I funcs] (.bool (decide (mB p e vars funcs))):=by
 simp only[aF.aY]
 refine gA 37 bA5 cU cG Tryz.func218 λh=>?_
 simp -dsimp -implicitDefEqProofs only[go_sem,↓reduceIte,Tryz.f218]
 first|refine aH.mk (aIJ vars) ?_|refine aG.mk (aIJ vars) ?_|refine aH.bH (aIJ vars) ?_|refine aG.mk (bB.dI (aIJ vars)) ?_
 simp -dsimp -implicitDefEqProofs only[go_sem,↓reduceIte,Tryz.f218]
 repeat'(with_reducible first|intro _|refine And.intro ?_ ?_)
 all_goals try(first|(simp[mB, *];done)|omega|(grind[mB])|(simp[mB];omega))
 first|refine aH.mk (fJ funcs 0 p.aK.length) ?_|refine aG.mk (fJ funcs 0 p.aK.length) ?_|refine aH.bH (fJ funcs 0 p.aK.length) ?_|refine aG.mk (bB.dI (fJ funcs 0 p.aK.length)) ?_
 simp -dsimp -implicitDefEqProofs only[go_sem,↓reduceIte,Tryz.f218]
 repeat'(with_reducible first|intro _|refine And.intro ?_ ?_)
 all_goals try(first|(simp[mB, *];done)|omega|(grind[mB])|(simp[mB];omega))
 first|refine aG.mk ((aET e 400 aA aA aA).sub vG) ?_|refine aH.mk ((aET e 400 aA aA aA).sub vG) ?_
 simp -dsimp -implicitDefEqProofs only[go_sem,↓reduceIte,Tryz.f218]
 repeat'(with_reducible first|intro _|refine And.intro ?_ ?_)
 ·have hle:((e.s+1:Nat):Int)<=400:=aKY.1 kX
  first|refine aG.mk ((aKU e aA).sub vG) ?_|refine aH.mk ((aKU e aA).sub vG) ?_
  simp -dsimp -implicitDefEqProofs only[go_sem,↓reduceIte,Tryz.f218]
  repeat'(with_reducible first|intro _|refine And.intro ?_ ?_)
  ·first|refine aG.mk ((aPC p e vars funcs aA aA aA aA hps).sub vG) ?_|refine aH.mk ((aPC p e vars funcs aA aA aA aA hps).sub vG) ?_
   simp -dsimp -implicitDefEqProofs only[go_sem,↓reduceIte,Tryz.f218]
   rw[decide_eq_decide]
   exact⟨λq=>⟨by omega,by omega,by omega,by omega,q⟩,λq=>q.2.2.2.2⟩
  ·exact(decide_eq_false λq=>by have:=q.2.2.2.1;omega).symm
 ·rename_i hn
  exact(decide_eq_false λq=>hn (aKY.2 (by have:=q.2.2.1;omega))).symm
@[go_sem] def bA6:List Nat:=[0,1,2,3,4,5,8]
@[go_sem] def bOV:List Nat:=[4,5]
theorem a2P (p:aF) (e:aC) (vars funcs:Int) (hs:e.s<=4294966296) (hps:p.s<=4294967296):fR Tryz.prog 201 [.agg p.c,.agg e.c,I vars,I funcs] (.bool (decide (mB p e vars funcs))):=by
 have h1:=aKS e aA
 have h2:=aNH e aA
 simp only[aC.aY]at h1 h2
 simp only[aF.aY,aC.aY]
 refine gA 36 bA6 bOV cG Tryz.func201 λh=>?_
 simp -dsimp -implicitDefEqProofs only[go_sem,↓reduceIte,Tryz.f201]
 first|refine aH.mk (aIK vars) ?_|refine aG.mk (aIK vars) ?_|refine aH.bH (aIK vars) ?_|refine aG.mk (bB.dI (aIK vars)) ?_
 simp -dsimp -implicitDefEqProofs only[go_sem,↓reduceIte,Tryz.f201]
 repeat'(with_reducible first|intro _|refine And.intro ?_ ?_)
 all_goals try(first|(simp[mB, *];done)|omega|(grind[mB])|(simp[mB];omega))
 first|refine aH.mk (within funcs 0 p.aK.length) ?_|refine aG.mk (within funcs 0 p.aK.length) ?_|refine aH.bH (within funcs 0 p.aK.length) ?_|refine aG.mk (bB.dI (within funcs 0 p.aK.length)) ?_
 simp -dsimp -implicitDefEqProofs only[go_sem,↓reduceIte,Tryz.f201]
 repeat'(with_reducible first|intro _|refine And.intro ?_ ?_)
 all_goals try(first|(simp[mB, *];done)|omega|(grind[mB])|(simp[mB];omega))
 first|refine aH.mk (h1) ?_|refine aG.mk (h1) ?_|refine aH.bH (h1) ?_|refine aG.mk (bB.dI (h1)) ?_
 simp -dsimp -implicitDefEqProofs only[go_sem,↓reduceIte,Tryz.f201]
 repeat'(with_reducible first|intro _|refine And.intro ?_ ?_)
 ·first|refine aH.mk (h2) ?_|refine aG.mk (h2) ?_|refine aH.bH (h2) ?_|refine aG.mk (bB.dI (h2)) ?_
  simp -dsimp -implicitDefEqProofs only[go_sem,↓reduceIte,Tryz.f201]
  repeat'(with_reducible first|intro _|refine And.intro ?_ ?_)
  ·have h3:=aEW p e vars funcs aA aA aA aA hps
   simp only[aC.aY]at h3
   first|refine aH.mk (h3) ?_|refine aG.mk (h3) ?_|refine aH.bH (h3) ?_|refine aG.mk (bB.dI (h3)) ?_
   simp -dsimp -implicitDefEqProofs only[go_sem,↓reduceIte,Tryz.f201]
   rw[decide_eq_decide]
   exact⟨λq=>⟨by omega,by omega,by omega,by omega,q⟩,λq=>q.2.2.2.2⟩
  ·exact(decide_eq_false λq=>by have:=q.2.2.2.1;omega).symm
 ·exact(decide_eq_false λq=>by have:=q.2.2.1;omega).symm
@[go_sem] def aPD:List Nat:=[0,1,4,5,6,7,8,37,40,55,62,90]
@[go_sem] def a52:Marks:=λid=>match id with|7=>([],(.op 0 (.op 1 (.op 2 (.op 3 (.op 4 (.op 5 (.op 6 (.op 7 (.op 8 (.op 9 (.op 10 (.op 11 (.op 12 .nil))))))))))))),[])|14=>([],(.op 0 (.op 1 (.op 2 (.op 3 (.op 4 (.op 5 (.op 6 (.op 7 (.op 8 (.op 9 (.op 10 (.op 11 (.op 12 (.op 13 (.op 14 (.op 15 (.op 16 (.op 17 .nil)))))))))))))))))),[])|_=>([],.nil,[])
theorem aZE (p:aF) (k:Nat) (f:aV) (ef:p.aK[k]?=some f) (hps:p.s<=4194304):fR Tryz.prog 195 [.ip 1 [p.c] 0 0,I k] (.bool (decide (aBB p k f))):=by
 have hk:k<p.aK.length:=(iY.1 ef).1
 have hfs:=aF.aKV (s5 ef)
 have hl:=p.aNI
 have hos:=f.aKW
 simp only[aF.aY]
 have no (q:¬(aES f.lD/\(0<=f.aR/\f.aR<=12)/\(1<=(f.aU.length:Int)/\(f.aU.length:Int)<=12))):false=decide (aBB p k f):=(decide_eq_false λz=>q ⟨z.1,z.2.1,z.2.2.1⟩).symm
 refine gA 91 aPD cU a52 Tryz.func195 λh=>?_
 simp -dsimp -implicitDefEqProofs only[go_sem,↓reduceIte,Tryz.f195,ef,aV.aY,r8]
 repeat'(with_reducible first|intro _|refine And.intro ?_ ?_)
 all_goals try omega
 first|refine aH.mk (yX f.lD) ?_|refine aG.mk (yX f.lD) ?_|refine aH.bH (yX f.lD) ?_|refine aG.mk (bB.dI (yX f.lD)) ?_
 simp -dsimp -implicitDefEqProofs only[go_sem,↓reduceIte,Tryz.f195,ef,aV.aY]
 repeat'(with_reducible first|intro _|refine And.intro ?_ ?_)
 ·first|refine aH.mk (fJ f.aR 0 12) ?_|refine aG.mk (fJ f.aR 0 12) ?_|refine aH.bH (fJ f.aR 0 12) ?_|refine aG.mk (bB.dI (fJ f.aR 0 12)) ?_
  simp -dsimp -implicitDefEqProofs only[go_sem,↓reduceIte,Tryz.f195,ef,aV.aY]
  repeat'(with_reducible first|intro _|refine And.intro ?_ ?_)
  ·first|refine aH.mk (fJ f.aU.length 1 12) ?_|refine aG.mk (fJ f.aU.length 1 12) ?_|refine aH.bH (fJ f.aU.length 1 12) ?_|refine aG.mk (bB.dI (fJ f.aU.length 1 12)) ?_
   simp -dsimp -implicitDefEqProofs only[go_sem,↓reduceIte,Tryz.f195,ef,aV.aY]
   repeat'(with_reducible first|intro _|refine And.intro ?_ ?_)
   ·exact no λz=>by simp_all
   ·rename_i q1 q2 q3
    refine cM aPD cU a52 (λj:Nat=>[(0,.ip 1 [p.c] 0 0),(1,I k),(5,.ip 3 (p.aK.map aV.c) k 0),(6,I j)]) (λ_=>h) (λj=>j<=k/\∀ g∈p.aK.take j,g.lD≠f.lD) (λj=>k-j) 0 a90 ?_
    intro j ⟨hj,hp⟩
    simp only[aF.aY]
    rcases bT j k with hlt|hge
    ·have eg:p.aK[j]?=some p.aK[j]:=fC aA
     simp -dsimp -implicitDefEqProofs only[go_sem,↓reduceIte,Tryz.f195,ef,eg,aV.aY,r8]
     repeat'(with_reducible first|intro _|refine And.intro ?_ ?_)
     all_goals try omega
     ·rename_i he
      refine(decide_eq_false λz=>z.2.2.2.1 p.aK[j] ?_ he).symm
      exact List.mem_take_iff_getElem.2 ⟨j,by omega,rfl⟩
     ·rename_i he
      refine⟨j+1,?_⟩
      repeat'(with_reducible refine And.intro ?_ ?_)
      all_goals try(rw[IntWalk.i64_in _ aA];first|rfl|omega)
      all_goals try omega
      all_goals try(repeat'(with_reducible first|exact aB.le_refl _|refine(bM jY).2 ?_))
      all_goals try(simp only[aF.aY];done)
      exact u4 (P:=λg:aV=>g.lD≠f.lD) aA hp he
    ·have hj':j=k:=by omega
     rw[hj']at hp
     simp -dsimp -implicitDefEqProofs only[go_sem,↓reduceIte,Tryz.f195,hj',cY]
     have part (i:Nat) (hi:i<f.aU.length):i+((f.aU.take i).map aC.s).sum+f.aU[i].s+1<=rX aC.s f.aU:=by
      have h1:=lX aC.s f.aU i hi
      have h2:=vT aC.s f.aU (i+1)
      rw[tD];omega
     have hszs:rX aC.s f.aU<=f.s:=by rw[f.aDB];omega
     refine cM aPD cU a52 (λi:Nat=>[(0,.ip 1 [p.c] 0 0),(1,I k),(5,.ip 3 (p.aK.map aV.c) k 0),(7,I (400-(i+((f.aU.take i).map aC.s).sum:Nat))),(8,I i)]) (λ_=>h) (λi=>i<=f.aU.length/\i+((f.aU.take i).map aC.s).sum<=400/\∀ e∈f.aU.take i,mB p e f.aR k) (λi=>f.aU.length-i) 0 a90 ?_
     intro i ⟨hi,hsum,hall⟩
     simp only[aF.aY]
     rcases bT i f.aU.length with hlt|hge
     ·have h1:=lX aC.s f.aU i hlt
      have hpt:=part i hlt
      have hout:=aV.bFF (lF hlt)
      simp -dsimp -implicitDefEqProofs only[go_sem,↓reduceIte,Tryz.f195,ef,aV.aY,r8]
      repeat'(with_reducible first|intro _|refine And.intro ?_ ?_)
      all_goals try omega
      first|refine aG.mk ((aET f.aU[i] (400-(i+((f.aU.take i).map aC.s).sum:Nat)) aA aA aA).sub vG) ?_|refine aH.mk ((aET f.aU[i] (400-(i+((f.aU.take i).map aC.s).sum:Nat)) aA aA aA).sub vG) ?_
      simp -dsimp -implicitDefEqProofs only[go_sem,↓reduceIte,Tryz.f195,ef,aV.aY]
      rcases aNF (400-(i+((f.aU.take i).map aC.s).sum:Nat)) (f.aU[i].s+1)with⟨e,hl1⟩|⟨e,hl1⟩
      ·simp -dsimp -implicitDefEqProofs only[go_sem,↓reduceIte,Tryz.f195,e]
       repeat'(with_reducible first|intro _|refine And.intro ?_ ?_)
       all_goals try omega
       all_goals exact(decide_eq_false λz=>by have:=z.2.2.2.2.1;omega).symm
      ·simp -dsimp -implicitDefEqProofs only[go_sem,↓reduceIte,Tryz.f195,e]
       repeat'(with_reducible first|intro _|refine And.intro ?_ ?_)
       all_goals try omega
       first|refine aG.mk ((aZD p f.aU[i] f.aR k aA aA).sub vG) ?_|refine aH.mk ((aZD p f.aU[i] f.aR k aA aA).sub vG) ?_
       simp -dsimp -implicitDefEqProofs only[go_sem,↓reduceIte,Tryz.f195,ef,aV.aY]
       repeat'(with_reducible first|intro _|refine And.intro ?_ ?_)
       ·rename_i hn
        exact(decide_eq_false λz=>hn (z.2.2.2.2.2 _ (lF hlt))).symm
       ·rename_i hn
        refine⟨i+1,?_⟩
        repeat'(with_reducible refine And.intro ?_ ?_)
        all_goals try(rw[IntWalk.i64_in _ aA];first|rfl|omega)
        all_goals try omega
        all_goals try(repeat'(with_reducible first|exact aB.le_refl _|refine(bM jY).2 ?_))
        all_goals try(simp only[aF.aY];done)
        exact u4 (P:=λe=>mB p e f.aR k) hlt hall hn
     ·have hi':i=f.aU.length:=by omega
      subst hi'
      rw[nM]at hsum hall
      simp -dsimp -implicitDefEqProofs only[go_sem,↓reduceIte,Tryz.f195,ef,aV.aY,bV]
      exact λ_=>(decide_eq_true ⟨by assumption,q1,q3,hp,by rw[tD];omega,hall⟩).symm
  ·exact no λz=>by simp_all
 ·exact no λz=>by simp_all
@[go_sem] def aZF:List Nat:=[0,2,3,9,16,22]
theorem bOW (p:aF) (hps:p.s<=4194304):fR Tryz.prog 160 [.ip 1 [p.c] 0 0] (.bool (decide p.ok)):=by
 simp only[aF.aY]
 refine gA 23 aZF cU cG Tryz.func160 λh=>?_
 simp -dsimp -implicitDefEqProofs only[go_sem,↓reduceIte,Tryz.f160]
 repeat'(with_reducible first|intro _|refine And.intro ?_ ?_)
 ·exact(decide_eq_false λz=>by have:=z.1;omega).symm
 refine cM aZF cU cG (λk:Nat=>[(0,.ip 1 [p.c] 0 0),(3,I k)]) (λ_=>h) (λk=>k<=p.aK.length/\∀ (j:Nat) (f:aV),j<k->p.aK[j]?=some f->aBB p j f) (λk=>p.aK.length-k) 0 a90 ?_
 intro k ⟨hk,hp⟩
 simp only[aF.aY]
 rcases bT k p.aK.length with hlt|hge
 ·have eg:p.aK[k]?=some p.aK[k]:=fC aA
  simp -dsimp -implicitDefEqProofs only[go_sem,↓reduceIte,Tryz.f160]
  repeat'(with_reducible first|intro _|refine And.intro ?_ ?_)
  all_goals try omega
  first|refine aG.mk ((aZE p k p.aK[k] eg hps).sub vG) ?_|refine aH.mk ((aZE p k p.aK[k] eg hps).sub vG) ?_
  simp -dsimp -implicitDefEqProofs only[go_sem,↓reduceIte,Tryz.f160]
  repeat'(with_reducible first|intro _|refine And.intro ?_ ?_)
  ·rename_i hn
   exact(decide_eq_false λz=>hn (z.2 k _ eg)).symm
  ·rename_i hn
   refine⟨k+1,?_⟩
   repeat'(with_reducible refine And.intro ?_ ?_)
   all_goals try(rw[IntWalk.i64_in _ aA];first|rfl|omega)
   all_goals try omega
   all_goals try(repeat'(with_reducible first|exact aB.le_refl _|refine(bM jY).2 ?_))
   all_goals try(simp only[aF.aY];done)
   intro j f hj ej
   rcases aMU.1 hj with h1|rfl
   ·exact hp j f h1 ej
   ·rw[eg]at ej;obtain rfl:=gO ej;exact hn
 ·have hk':k=p.aK.length:=by omega
  subst hk'
  simp -dsimp -implicitDefEqProofs only[go_sem,↓reduceIte,Tryz.f160,bV]
  exact λ_=>(decide_eq_true ⟨by omega,λj f ej=>hp j f (iY.1 ej).1 ej⟩).symm
theorem aVW (a:List aV) (p:aV->Bool) (g:FuncId) (cap:List aE) {h0:aB} (hc:∀ x∈a,bB Tryz.prog g ([(.agg (aV.c x))]++cap) (.bool (p x)) h0):bB Tryz.prog 219 [(gT 3 aV.c a),.fn (.func g) [] cap] (I (idxOf p a)) h0:=by
 refine aSU 19 aY0 cU cG Tryz.func219 λh hle=>?_
 simp -dsimp -implicitDefEqProofs only[go_sem,↓reduceIte,Tryz.f219,Tryz.f219]
 intro _
 refine cM aY0 cU cG (λk:Nat=>[(0,(gT 3 aV.c a)),(1,.fn (.func g) [] cap),(7,I a.length),(8,I k)]) (λ_=>h) (λk=>k<=a.length/\∀ x∈a.take k,p x=false) (λk=>a.length-k) 0 aRQ ?_
 intro k ⟨hk,hp⟩
 rcases bT k a.length with hlt|hge
 ·have ea:a[k]?=some a[k]:=fC hlt
  simp -dsimp -implicitDefEqProofs only[go_sem,↓reduceIte,Tryz.f219,Tryz.f219,ea,aV.aY]
  repeat'(with_reducible first|intro _|refine And.intro ?_ ?_)
  all_goals try omega
  have hx:=hc a[k] (lF hlt)
  simp only[aV.aY]at hx
  refine aH.bH (hx.mono hle) ?_
  cases hpk:p a[k]with
  |true =>
   simp -dsimp -implicitDefEqProofs only[go_sem,↓reduceIte,Tryz.f219,Tryz.f219]
   repeat'(with_reducible first|intro _|refine And.intro ?_ ?_)
   all_goals first|exact(yV hlt hp hpk).symm|rfl|(rw[yV hlt hp hpk])
  |false =>
   simp -dsimp -implicitDefEqProofs only[go_sem,↓reduceIte,Tryz.f219,Tryz.f219]
   refine⟨k+1,?_⟩
   repeat'(with_reducible refine And.intro ?_ ?_)
   all_goals try(rw[IntWalk.i64_in _ aA];first|rfl|omega)
   all_goals try omega
   exact u4 (P:=λx=>p x=false) hlt hp hpk
 ·have hk':k=a.length:=by omega
  subst hk'
  rw[nM]at hp
  simp -dsimp -implicitDefEqProofs only[go_sem,↓reduceIte,Tryz.f219,Tryz.f219,bV]
  all_goals first|exact(yU hp).symm|rw[yU hp]
theorem aVX (a:List aV) (p:aV->Bool) (g:FuncId) (cap:List aE) {h0:aB} (hc:∀ x∈a,bB Tryz.prog g ([(.agg (aV.c x))]++cap) (.bool (p x)) h0):bB Tryz.prog 199 [(gT 3 aV.c a),.fn (.func g) [] cap] (.bool (a.any p)) h0:=by
 refine aSU 9 aCC cU cG Tryz.func199 λh hle=>?_
 simp -dsimp -implicitDefEqProofs only[go_sem,↓reduceIte,Tryz.f199,Tryz.f199]
 refine aH.bH ((aVW a p g cap hc).mono hle) ?_
 simp -dsimp -implicitDefEqProofs only[go_sem,↓reduceIte,Tryz.f199,Tryz.f199]
 all_goals first|done|exact tV|rw[tV]
theorem aMP (g f:aV) (n:Nat) {h0:aB} (hn:h0 n=some (.row 3 [f.c.map .v])):bB Tryz.prog 200 [.agg g.c,.op n 3 0 0] (.bool (decide (g.lD=f.lD))) h0:=by
 simp only[aV.aY]
 have hg (h:aB) (hle:h0.le h):=aB.aVQ hle hn
 refine aSU 9 bOM bHX cG Tryz.func200 λh hle=>?_
 simp -dsimp -implicitDefEqProofs only[go_sem,↓reduceIte,Tryz.f200]
 have hn':=hg h hle
 simp only[aV.aY]at hn'
 simp -dsimp -implicitDefEqProofs only[go_sem,↓reduceIte,Tryz.f200,hn']
@[go_sem] def aPE:List Nat:=[0,1,2,3,4,5,7,11,13,14,15,16,31,42,44,45,46,47,56,63]
theorem aPF (p:aF) (hps:p.s<=4194304):fR Tryz.prog 172 [.agg p.c] (.bool (decide p.ok)):=by
 simp only[aF.aY]
 refine gA 65 aPE aVV cG Tryz.func172 λh=>?_
 simp -dsimp -implicitDefEqProofs only[go_sem,↓reduceIte,Tryz.f172]
 repeat'(with_reducible first|intro _|refine And.intro ?_ ?_)
 ·exact(decide_eq_false λz=>by have:=z.1;omega).symm
 refine cM aPE aVV cG (λk:Nat=>[(1,.ip 1 [p.c] 0 0),(13,gT 3 aV.c p.aK),(14,I p.aK.length),(15,I k)]) (λ_=>h) (λk=>k<=p.aK.length/\∀ (j:Nat) (f:aV),j<k->p.aK[j]?=some f->aBB p j f) (λk=>p.aK.length-k) 0 a90 ?_
 intro k ⟨hk,hp⟩
 simp only[aF.aY]
 rcases bT k p.aK.length with hlt|hge
 ·obtain⟨f,eg⟩:∃ f,p.aK[k]?=some f:=⟨_,fC hlt⟩
  have hfs:=aF.aKV (s5 eg)
  have hos:=f.aKW
  have no (q:¬aBB p k f):false=decide p.ok:=(decide_eq_false λz=>q (z.2 k f eg)).symm
  simp -dsimp -implicitDefEqProofs only[go_sem,↓reduceIte,Tryz.f172,eg,aV.aY,aL]
  repeat'(with_reducible first|intro _|refine And.intro ?_ ?_)
  all_goals try omega
  rename_i n hn
  first|refine aH.mk (aO6 f.lD) ?_|refine aG.mk (aO6 f.lD) ?_|refine aH.bH (aO6 f.lD) ?_|refine aG.mk (bB.dI (aO6 f.lD)) ?_
  simp -dsimp -implicitDefEqProofs only[go_sem,↓reduceIte,Tryz.f172,aO,aL]
  repeat'(with_reducible first|intro _|refine And.intro ?_ ?_)
  all_goals try(repeat'(with_reducible first|exact aB.le_refl _|refine(bM jY).2 ?_))
  all_goals try omega
  all_goals try(rename_i hnm;exact no λz=>hnm z.1)
  rename_i hnm
  rw[←List.map_take]
  refine aH.bH (aVX (p.aK.take k) (λg=>decide (g.lD=f.lD)) 200 [.op n 3 0 0] λg _=>aMP g f n (by simp[aO,aV.aY])) ?_
  simp -dsimp -implicitDefEqProofs only[go_sem,↓reduceIte,Tryz.f172,aO,aL]
  repeat'(with_reducible first|intro _|refine And.intro ?_ ?_)
  all_goals try(repeat'(with_reducible first|exact aB.le_refl _|refine(bM jY).2 ?_))
  ·rename_i q
   refine no λz=>?_
   obtain⟨g,pO,hg2⟩:=a4F.1 q
   exact z.2.2.2.1 g pO (by simpa using hg2)
  rename_i hnd
  have hnd':∀ g∈p.aK.take k,g.lD≠f.lD:=λg hg=>by
   have:=List.any_eq_false.1 hnd g hg
   simpa using this
  first|refine aH.mk (within f.aR 0 12) ?_|refine aG.mk (within f.aR 0 12) ?_|refine aH.bH (within f.aR 0 12) ?_|refine aG.mk (bB.dI (within f.aR 0 12)) ?_
  simp -dsimp -implicitDefEqProofs only[go_sem,↓reduceIte,Tryz.f172,aO,aL]
  repeat'(with_reducible first|intro _|refine And.intro ?_ ?_)
  all_goals try(repeat'(with_reducible first|exact aB.le_refl _|refine(bM jY).2 ?_))
  ·first|refine aH.mk (within f.aU.length 1 12) ?_|refine aG.mk (within f.aU.length 1 12) ?_|refine aH.bH (within f.aU.length 1 12) ?_|refine aG.mk (bB.dI (within f.aU.length 1 12)) ?_
   simp -dsimp -implicitDefEqProofs only[go_sem,↓reduceIte,Tryz.f172,aO,aL]
   repeat'(with_reducible first|intro _|refine And.intro ?_ ?_)
   all_goals try(repeat'(with_reducible first|exact aB.le_refl _|refine(bM jY).2 ?_))
   ·rename_i q
    exact no λz=>q z.2.2.1
   ·rename_i q1 q2 q3 q4
    have part (i:Nat) (hi:i<f.aU.length):i+((f.aU.take i).map aC.s).sum+f.aU[i].s+1<=rX aC.s f.aU:=by
     have h1:=lX aC.s f.aU i hi
     have h2:=vT aC.s f.aU (i+1)
     rw[tD];omega
    have hszs:rX aC.s f.aU<=f.s:=by rw[f.aDB];omega
    refine cM aPE aVV cG (λi:Nat=>[(1,.ip 1 [p.c] 0 0),(3,I k),(4,.op n 3 0 0),(5,I ((i+((f.aU.take i).map aC.s).sum:Nat):Int)),(13,gT 3 aV.c p.aK),(14,I p.aK.length),(15,I k),(44,gT 5 aC.c f.aU),(45,I f.aU.length),(46,I i)]) (λ_=>aT h n (.row 3 [f.c.map .v])) (λi=>i<=f.aU.length/\∀ e∈f.aU.take i,mB p e f.aR k) (λi=>f.aU.length-i) 0 (by refine⟨by simp[cR,bZ,aF.aY],by simp[aV.aY,aB.le_refl],by simp⟩) ?_
    intro i ⟨hi,hall⟩
    simp only[aF.aY,aV.aY,qR,w9]
    rcases bT i f.aU.length with iV|aBC
    ·have h1:=lX aC.s f.aU i iV
     have hpt:=part i iV
     have hout:=aV.bFF (lF iV)
     have ee:f.aU[i]?=some f.aU[i]:=fC iV
     have hv:=a2P p f.aU[i] f.aR k aA aA
     have hz:=aKS f.aU[i] aA
     simp only[aC.aY,aF.aY]at hv hz
     simp -dsimp -implicitDefEqProofs only[go_sem,↓reduceIte,Tryz.f172,ee,aC.aY,aL]
     repeat'(with_reducible first|intro _|refine And.intro ?_ ?_)
     all_goals try omega
     rename_i m hm
     have hmn:(n=m)=False:=eq_false λe=>hm.1 e.symm
     have bHZ:(m=n)=False:=eq_false hm.1
     simp -dsimp -implicitDefEqProofs only[go_sem,↓reduceIte,Tryz.f172,aO,hmn,bHZ]
     first|refine aH.mk (hv) ?_|refine aG.mk (hv) ?_|refine aH.bH (hv) ?_|refine aG.mk (bB.dI (hv)) ?_
     simp -dsimp -implicitDefEqProofs only[go_sem,↓reduceIte,Tryz.f172,aO,hmn,bHZ]
     repeat'(with_reducible first|intro _|refine And.intro ?_ ?_)
     ·rename_i hne
      exact no λz=>hne (z.2.2.2.2.2 _ (lF iV))
     ·all_goals try(repeat'(with_reducible first|exact aB.le_refl _|refine(bM jY).2 ?_))
     ·rename_i hne
      first|refine aH.mk (hz) ?_|refine aG.mk (hz) ?_|refine aH.bH (hz) ?_|refine aG.mk (bB.dI (hz)) ?_
      simp -dsimp -implicitDefEqProofs only[go_sem,↓reduceIte,Tryz.f172,aO,hmn,bHZ]
      refine⟨i+1,?_⟩
      repeat'(with_reducible refine And.intro ?_ ?_)
      all_goals try(rw[IntWalk.i64_in _ aA];first|rfl|omega)
      all_goals try omega
      all_goals try(repeat'(with_reducible first|exact aB.le_refl _|refine(bM jY).2 ?_))
      all_goals try(simp only[aF.aY];done)
      exact u4 (P:=λe=>mB p e f.aR k) iV hall hne
    ·have hi':i=f.aU.length:=by omega
     subst hi'
     rw[nM]at hall ⊢
     simp -dsimp -implicitDefEqProofs only[go_sem,↓reduceIte,Tryz.f172,bV]
     have hss:rX aC.s f.aU=f.aU.length+(f.aU.map aC.s).sum:=tD _ _
     repeat'(with_reducible first|intro _|refine And.intro ?_ ?_)
     all_goals try(repeat'(with_reducible first|exact aB.le_refl _|refine(bM jY).2 ?_))
     ·rename_i q
      exact no λz=>by have:=z.2.2.2.2.1;omega
     ·rename_i q
      have hfk:aBB p k f:=⟨hnm,q1,q3,hnd',by omega,hall⟩
      refine⟨k+1,?_⟩
      repeat'(with_reducible refine And.intro ?_ ?_)
      all_goals try(rw[IntWalk.i64_in _ aA];first|rfl|omega)
      all_goals try omega
      all_goals try(repeat'(with_reducible first|exact aB.le_refl _|refine(bM jY).2 ?_))
      intro j f' hj ej
      rcases aMU.1 hj with h1|rfl
      ·exact hp j f' h1 ej
      ·rw[eg]at ej;obtain rfl:=gO ej;exact hfk
  ·rename_i q
   exact no λz=>q z.2.1
 ·have hk':k=p.aK.length:=by omega
  subst hk'
  simp -dsimp -implicitDefEqProofs only[go_sem,↓reduceIte,Tryz.f172,bV]
  exact(decide_eq_true ⟨by omega,λj f ej=>hp j f (iY.1 ej).1 ej⟩).symm
@[go_sem] def bH0:List Nat:=[0,1,2,4,5,9]
theorem aKZ (p:aF) (f:Int) (hps:p.s<=4194304):fR Tryz.prog 99 [.agg p.c,I f] (I (if p.ok then if 0<=f/\f<=(p.aK.length:Int)-1 then 0 else 2 else 1)):=by
 have hv:=aPF p hps
 simp only[aF.aY]at hv ⊢
 refine gA 17 bH0 bHX cG Tryz.func99 λh=>?_
 simp -dsimp -implicitDefEqProofs only[go_sem,↓reduceIte,Tryz.f99]
 first|refine aH.mk (hv) ?_|refine aG.mk (hv) ?_|refine aH.bH (hv) ?_|refine aG.mk (bB.dI (hv)) ?_
 simp -dsimp -implicitDefEqProofs only[go_sem,↓reduceIte,Tryz.f99]
 repeat'(with_reducible first|intro _|refine And.intro ?_ ?_)
 ·rename_i hn
  rw[if_neg hn]
 ·rename_i hn _
  rw[if_pos hn]
  all_goals try simp(disch:=omega) only[IntWalk.i64_in]
  first|refine aH.mk (within f 0 (p.aK.length-1)) ?_|refine aG.mk (within f 0 (p.aK.length-1)) ?_|refine aH.bH (within f 0 (p.aK.length-1)) ?_|refine aG.mk (bB.dI (within f 0 (p.aK.length-1))) ?_
  simp -dsimp -implicitDefEqProofs only[go_sem,↓reduceIte,Tryz.f99]
  repeat'(with_reducible first|intro _|refine And.intro ?_ ?_)
  ·rename_i q
   rw[if_neg q]
  ·rename_i q
   rw[if_pos q]
mutual
def aC.o:aC->List OV->Prop
 | .mk aS bA cV cH aN,e=>∃ y,e=[.v (.int .i64 aS),.v (.int .i64 bA),.v (.int .i64 cV),.v (.int .i64 cH),y]/\((y=.nil 5/\aN=[])∨∃ n es,y=.sl n 5 es/\aC.oR aN es)
def aC.oR:List aC->List (List OV)->Prop
 | [],[]=>True
 |x::l,e::es=>x.o e/\aC.oR l es
 | _,_=>False
end
theorem aC.bFG:∀ (l:List aC) (es:List (List OV)),aC.oR l es=OR aC.o l es
 | [],[]=>rfl
 |x::l,e::es=>by rw[aC.oR,OR,aC.bFG l es]
 | [],_::_=>rfl
 | _::_,[]=>rfl
theorem aC.u5 (x:aC) (e:List OV):x.o e↔∃ y4,e=[.v (.int .i64 x.aS),.v (.int .i64 x.bA),.v (.int .i64 x.cV),.v (.int .i64 x.cH),y4]/\OS aC.o 5 x.aN y4:=by
 cases x
 simp only[aC.o,aC.bFG,OS]
 rfl
mutual
theorem aC.aS9:∀ {x:aC} {e:List OV},x.o e->e.map OV.pX=x.c
 | .mk aS bA cV cH aN,e,h=>by
  rw[aC.u5]at h
  obtain⟨y,rfl,h⟩:=h
  have hk:y.pX=.sl 5 (aN.map aC.c) false:=by
   rcases h with⟨rfl,h0⟩|⟨n,es,rfl,h⟩
   ·have h1:aN=[]:=h0
    subst h1;rfl
   ·simp only[OV.pX]
    rw[aC.a53 h]
    rfl
  rw[aC.aY]
  simp only[qR,w9,OV.pX,hk]
  rfl
theorem aC.a53:∀ {l:List aC} {es:List (List OV)},OR aC.o l es->OV.lQ es=l.map aC.c
 | [],[],_=>rfl
 |x::l,e::es,h=>by rw[OV.lQ,aC.a53 h.2,OV.yQ,aC.aS9 h.1];rfl
 | [],_::_,h=>h.elim
 | _::_,[],h=>h.elim
end
def aV.o (x:aV) (e:List OV):Prop:=∃ y2,e=[.v (.str x.lD),.v (.int .i64 x.aR),y2]/\OS aC.o 5 x.aU y2
theorem aV.aS9 {x:aV} {e:List OV} (h:x.o e):e.map OV.pX=x.c:=by
 obtain⟨y2,rfl,o2⟩:=h
 have d2:=OS.pX (c:=aC.c) (λ_ _ q=>aC.aS9 q) o2
 rw[aV.aY]
 simp only[qR,w9,OV.pX,d2]
theorem bH1 (l:List Int) (hl:l.length<=1048576):yR Tryz.prog 178 [gT 1 (λn=>[I n]) l] (QS (OS (oP I) 1 l)):=by
 refine yT 8 a5V a5W cG Tryz.func178 λh=>?_
 simp -dsimp -implicitDefEqProofs only[go_sem,↓reduceIte,Tryz.f178]
 repeat'(with_reducible first|intro _|refine And.intro ?_ ?_)
 all_goals try(first|exact aO1 kX|exact aO2 kX|exact sK kX|omega)
theorem aVY (l:List Int) (hl:l.length<=1048576):yR Tryz.prog 128 [gT 1 (λn=>[I n]) l] (QS (OS (oP I) 1 l)):=by
 refine yT 6 aBA aVU cG Tryz.func128 λh=>?_
 simp -dsimp -implicitDefEqProofs only[go_sem,↓reduceIte,Tryz.f128]
 repeat'(with_reducible first|intro _|refine And.intro ?_ ?_)
 all_goals try(first|exact aO1 kX|exact aO2 kX|exact sK kX|omega)
theorem bFH (n:Int):n.tmod 1000003=n%1000003∨n.tmod 1000003=n%1000003-1000003:=by
 by_cases h:0<=n
 ·exact .inl (uR h)
 ·have h1:n.tmod 1000003=-((-n)%1000003):=by
   have h2:n=-(-n):=by omega
   rw[h2,Int.neg_tmod,uR aA,Int.neg_neg]
  rw[h1];omega
theorem iJ (n:Int):fR Tryz.prog 181 [I n] (I (n%1000003)):=by
 refine gA 7 aBA cU cG Tryz.func181 λh=>?_
 simp -dsimp -implicitDefEqProofs only[go_sem,↓reduceIte,Tryz.f181]
 rcases bFH n with h|h
 all_goals
  rw[h,IntWalk.i64_in _ aA,uR aA]
  omega
theorem cX (n:Int):fR Tryz.prog 122 [I n] (I (n%1000003)):=by
 refine gA 11 bOO cU cG Tryz.func122 λh=>?_
 simp -dsimp -implicitDefEqProofs only[go_sem,↓reduceIte,Tryz.f122]
 rcases bFH n with h|h
 all_goals
  rw[h]
  refine⟨λq=>?_,λq=>?_⟩
  all_goals first|omega|(rw[IntWalk.i64_in _ aA];omega)
theorem aPG (a b:Int):fR Tryz.prog 180 [I a,I b] (I ((a+b)%1000003)):=by
 refine gA 11 aCC cU cG Tryz.func180 λh=>?_
 simp -dsimp -implicitDefEqProofs only[go_sem,↓reduceIte,Tryz.f180]
 first|refine aH.mk (iJ a) ?_|refine aG.mk (iJ a) ?_|refine aH.bH (iJ a) ?_|refine aG.mk (bB.dI (iJ a)) ?_
 simp -dsimp -implicitDefEqProofs only[go_sem,↓reduceIte,Tryz.f180]
 first|refine aH.mk (iJ b) ?_|refine aG.mk (iJ b) ?_|refine aH.bH (iJ b) ?_|refine aG.mk (bB.dI (iJ b)) ?_
 simp -dsimp -implicitDefEqProofs only[go_sem,↓reduceIte,Tryz.f180]
 rw[IntWalk.i64_in _ aA,uR aA]
 omega
theorem kI (a b:Int):fR Tryz.prog 105 [I a,I b] (I ((a+b)%1000003)):=by
 refine gA 11 aCC cU cG Tryz.func105 λh=>?_
 simp -dsimp -implicitDefEqProofs only[go_sem,↓reduceIte,Tryz.f105]
 first|refine aH.mk (cX a) ?_|refine aG.mk (cX a) ?_|refine aH.bH (cX a) ?_|refine aG.mk (bB.dI (cX a)) ?_
 simp -dsimp -implicitDefEqProofs only[go_sem,↓reduceIte,Tryz.f105]
 first|refine aH.mk (cX b) ?_|refine aG.mk (cX b) ?_|refine aH.bH (cX b) ?_|refine aG.mk (bB.dI (cX b)) ?_
 simp -dsimp -implicitDefEqProofs only[go_sem,↓reduceIte,Tryz.f105]
 rw[IntWalk.i64_in _ aA,uR aA]
 omega
def iA (a b:List Int):List Int:=List.zipWith (λx y=>(x+y)%1000003) a b
theorem aTA {a b:List Int} (h:b.length=a.length):(iA a b).length=a.length:=by simp[iA,h]
@[go_sem] def bOX:Marks:=λid=>match id with|5=>([13],(.op 0 (.op 1 (.op 2 (.op 3 (.op 4 (.op 5 (.op 6 (.op 7 (.op 8 (.op 9 (.op 10 (.op 11 (.op 12 (.op 13 .nil)))))))))))))),[])|_=>([],.nil,[])
theorem added (a b:List Int) (hab:b.length=a.length) (hl:a.length<=1048576) (ha:∀ x∈a,0<=x/\x<1000003) (hb:∀ x∈b,0<=x/\x<1000003):yR Tryz.prog 60 [gT 1 (λn=>[I n]) a,gT 1 (λn=>[I n]) b] (QS (OS (oP I) 1 (iA a b))):=by
 refine yT 30 aY4 cU bOX Tryz.func60 λh=>?_
 simp -dsimp -implicitDefEqProofs only[go_sem,↓reduceIte,Tryz.f60]
 intro _
 refine⟨aX,bY _,by omega,by omega,λn hn _=>?_⟩
 have hc:=aTA hab
 rw[vS]
 refine aDA aY4 cU bOX (λk:Nat=>[(0,gT 1 (λn=>[I n]) a),(1,gT 1 (λn=>[I n]) b),(5,.os n 1 0 a.length),(11,I a.length),(12,I k)]) n (λk=>.row 1 (((upL (iA a b) k).map λn=>[I n]).map (List.map .v))) (λk=>k<=a.length) (λk=>a.length-k) 0 ⟨by simp[cR,bZ],by rw[aI,aER,hc],eM _⟩ ?_
 intro k hk
 rcases bT k a.length with hlt|hge
 ·have ea:a[k]?=some a[k]:=fC hlt
  have eb:b[k]?=some b[k]:=fC aA
  have eu:=aIG (c:=iA a b) (k:=k) aA
  have el:=aIF (iA a b) (k:=k) aA
  simp -dsimp -implicitDefEqProofs only[go_sem,↓reduceIte,Tryz.f60,aL,hlt,ea,eb,eu,el,hc]
  have h1:=ha _ (lF hlt)
  have h2:=hb b[k] (lF aA)
  refine⟨by omega,k+1,by rw[IntWalk.i64_in _ aA];rfl,?_,by omega,by omega⟩
  have hv:(iA a b)[k]'aA=(a[k]+b[k])%1000003:=by simp[iA]
  rw[IntWalk.i64_in _ aA,uR aA,←aIH aA,hv,←nL I]
  exact aB.le_refl _
 ·have hk':k=a.length:=by omega
  subst hk'
  simp -dsimp -implicitDefEqProofs only[go_sem,↓reduceIte,Tryz.f60,aL,bV]
  have hu:upL (iA a b) a.length=iA a b:=by rw[←hc];exact aIE _
  rw[hu,show a.length=(iA a b).length from hc.symm]
  exact sK hn
end Go.Hl

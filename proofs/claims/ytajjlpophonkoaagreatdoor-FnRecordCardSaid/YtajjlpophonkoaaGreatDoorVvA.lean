/-
  Contracts of functions and laws of the layer over the walk.
-/
import Derived.Test.YtajjlpophonkoaaGreatDoorHlD
import Derived.Test.YtajjlpophonkoaaGreatDoorProg
import Derived.KernelRfl
import Derived.Shelf.Strconv.Itoa4
import Derived.Shelf.Strings.OnBuilder
import Derived.Shelf.LaysM
import Derived.Lib.Split
import Derived.Lib.ParseIntB
import Derived.Lib.ItoaNum
import Derived.Lib.ItoaMem
import Derived.Lib.Join
import Derived.Shelf.Strings.Split
import Derived.Shelf.Strings.Cut
import Derived.Shelf.Strconv.ParseIntPublic10
import Derived.Shelf.Slices.Turned
namespace Go.Hl
open Go.Proofs
set_option linter.unusedVariables false
set_option linter.unusedSimpArgs false
theorem xM {p:Prop} (h:p:=by kernel_rfl):p:=h
@[go_sem] theorem ty2:fE Tryz.prog 2=some ⟨1,false,8,[.int .i64 0],.int .i64⟩:=by kernel_rfl
@[go_sem] theorem ty3:fE Tryz.prog 3=some ⟨1,false,8,[.int .i64 0],.int .i64⟩:=by kernel_rfl
@[go_sem] theorem ty4:fE Tryz.prog 4=some ⟨1,false,1,[.bool false],.bool⟩:=by kernel_rfl
@[go_sem] theorem ty5:fE Tryz.prog 5=some ⟨1,false,1,[.int .u8 0],.int .u8⟩:=by kernel_rfl
@[go_sem] theorem ty9:fE Tryz.prog 9=some ⟨1,false,16,[.str []],.str⟩:=by kernel_rfl
@[go_sem] theorem bOR:fE Tryz.prog 21=some ⟨1,false,4,[.int .i32 0],.int .i32⟩:=by kernel_rfl
@[go_sem] theorem bOS:fE Tryz.prog 22=some ⟨1,false,24,[.aW],.slice 5⟩:=by kernel_rfl
@[go_sem] theorem bOT:fE Tryz.prog 24=some ⟨1,false,24,[.aW],.slice 69⟩:=by kernel_rfl
@[go_sem] theorem bOU:fE Tryz.prog 26=some ⟨1,true,24,[.aW],.st [(0,24,1)]⟩:=by kernel_rfl
@[go_sem] theorem bOV:fE Tryz.prog 27=some ⟨1,false,24,[.aW],.slice 2⟩:=by kernel_rfl
@[go_sem] theorem bOW:fE Tryz.prog 31=some ⟨1,false,24,[.aW],.slice 27⟩:=by kernel_rfl
@[go_sem] theorem bOX:fE Tryz.prog 47=some ⟨1,false,24,[.aW],.slice 111⟩:=by kernel_rfl
@[go_sem] theorem bOY:fE Tryz.prog 48=some ⟨1,false,24,[.aW],.slice 115⟩:=by kernel_rfl
@[go_sem] theorem bOZ:fE Tryz.prog 50=some ⟨4,true,80,[.int .i64 0,.aW,.aW,.aW],.st [(0,2,1),(1,47,1),(2,48,1),(3,27,1)]⟩:=by kernel_rfl
@[go_sem] theorem bO0:fE Tryz.prog 62=some ⟨1,false,8,[.gV],.ptr 143⟩:=by kernel_rfl
@[go_sem] theorem bO1:fE Tryz.prog 67=some ⟨1,false,24,[.aW],.slice 75⟩:=by kernel_rfl
@[go_sem] theorem bO2:fE Tryz.prog 69=some ⟨3,true,48,[.str [],.int .i64 0,.aW],.st [(0,9,1),(1,2,1),(2,67,1)]⟩:=by kernel_rfl
@[go_sem] theorem bO3:fE Tryz.prog 71=some ⟨1,false,8,[.gV],.ptr 26⟩:=by kernel_rfl
@[go_sem] theorem bO4:fE Tryz.prog 73=some ⟨4,true,32,[.gV,.gV,.int .i64 0,.bool false],.st [(0,62,1),(1,71,1),(2,2,1),(3,4,1)]⟩:=by kernel_rfl
@[go_sem] theorem bO5:fE Tryz.prog 75=some ⟨5,true,56,[.int .i64 0,.int .i64 0,.int .i64 0,.int .i64 0,.aW],.st [(0,2,1),(1,2,1),(2,2,1),(3,2,1),(4,67,1)]⟩:=by kernel_rfl
@[go_sem] theorem bO6:fE Tryz.prog 82=some ⟨1,false,24,[.aW],.slice 31⟩:=by kernel_rfl
@[go_sem] theorem bO7:fE Tryz.prog 90=some ⟨1,true,24,[.aW],.st [(0,26,1)]⟩:=by kernel_rfl
@[go_sem] theorem bM9:fE Tryz.prog 108=some ⟨8,true,144,[.aW,.int .i64 0,.aW,.aW,.aW,.aW,.int .i64 0,.int .i64 0],.st [(0,26,1),(1,50,4),(5,27,1),(6,2,1),(7,2,1)]⟩:=by kernel_rfl
@[go_sem] theorem bNA:fE Tryz.prog 111=some ⟨4,true,32,[.int .i64 0,.int .i64 0,.int .i64 0,.int .i64 0],.st [(0,2,1),(1,2,1),(2,2,1),(3,2,1)]⟩:=by kernel_rfl
@[go_sem] theorem bNB:fE Tryz.prog 115=some ⟨2,true,16,[.int .i64 0,.bool false],.st [(0,2,1),(1,4,1)]⟩:=by kernel_rfl
@[go_sem] theorem bNC:fE Tryz.prog 120=some ⟨1,false,8,[.gV],.ptr 122⟩:=by kernel_rfl
@[go_sem] theorem bND:fE Tryz.prog 122=some ⟨2,true,32,[.gV,.aW],.st [(0,120,1),(1,22,1)]⟩:=by kernel_rfl
@[go_sem] theorem bNE:fE Tryz.prog 124=some ⟨1,false,16,[.gX],.other⟩:=by kernel_rfl
@[go_sem] theorem bNF:fE Tryz.prog 127=some ⟨1,false,24,[.aW],.slice 9⟩:=by kernel_rfl
@[go_sem] theorem bNG:fE Tryz.prog 135=some ⟨6,true,88,[.int .i64 0,.aW,.aW,.aW,.bool false,.bool false],.st [(0,50,4),(4,4,1),(5,4,1)]⟩:=by kernel_rfl
@[go_sem] theorem bNH:fE Tryz.prog 141=some ⟨1,false,8,[.int .u64 0],.int .u64⟩:=by kernel_rfl
@[go_sem] theorem bNI:fE Tryz.prog 143=some ⟨3,true,40,[.aW,.int .i64 0,.int .u64 0],.st [(0,22,1),(1,3,1),(2,141,1)]⟩:=by kernel_rfl
@[go_sem] theorem bNJ:fE Tryz.prog 162=some ⟨3,true,56,[.int .i64 0,.aW,.aW],.st [(0,2,1),(1,27,1),(2,27,1)]⟩:=by kernel_rfl
@[go_sem] theorem bNK:fE Tryz.prog 171=some ⟨3,true,56,[.aW,.aW,.int .i64 0],.st [(0,27,1),(1,27,1),(2,2,1)]⟩:=by kernel_rfl
@[go_sem] theorem bNL:fE Tryz.prog 178=some ⟨4,true,32,[.gV,.int .i64 0,.int .i64 0,.int .i64 0],.st [(0,71,1),(1,3,1),(2,2,1),(3,2,1)]⟩:=by kernel_rfl
@[go_sem] theorem bNM:fE Tryz.prog 185=some ⟨1,false,8,[.gV],.ptr 5⟩:=by kernel_rfl
@[go_sem] theorem bNN:fE Tryz.prog 195=some ⟨4,true,48,[.aW,.int .i64 0,.int .i64 0,.int .i64 0],.st [(0,26,1),(1,3,1),(2,2,1),(3,2,1)]⟩:=by kernel_rfl
@[go_sem] theorem bNO:fE Tryz.prog 197=some ⟨1,false,8,[.int .u64 0],.int .u64⟩:=by kernel_rfl
@[go_sem] theorem bNP:fE Tryz.prog 203=some ⟨2,true,32,[.aW,.int .i64 0],.st [(0,26,1),(1,2,1)]⟩:=by kernel_rfl
@[go_sem] theorem bNQ:fE Tryz.prog 223=some ⟨24,true,24,List.replicate 24 (.int .u8 0),.arr 24 5⟩:=by kernel_rfl
@[go_sem] theorem bNR:fE Tryz.prog 236=some ⟨20,true,160,List.replicate 20 (.int .u64 0),.arr 20 141⟩:=by kernel_rfl
@[go_sem] theorem bNS:fE Tryz.prog 237=some ⟨1,false,4,[.int .u32 0],.int .u32⟩:=by kernel_rfl
@[go_sem] theorem bNT:fE Tryz.prog 238=some ⟨65,true,65,List.replicate 65 (.int .u8 0),.arr 65 5⟩:=by kernel_rfl
@[go_sem] theorem bNU:fE Tryz.prog 244=some ⟨256,true,256,List.replicate 256 (.int .u8 0),.arr 256 5⟩:=by kernel_rfl
@[go_sem] theorem bNV:fE Tryz.prog 246=some ⟨2,true,2,[.int .u8 0,.int .u8 0],.st [(0,5,1),(1,5,1)]⟩:=by kernel_rfl
@[go_sem] theorem bNW:fE Tryz.prog 247=some ⟨32,true,32,List.replicate 32 (.int .u8 0),.arr 16 246⟩:=by kernel_rfl
@[go_sem] theorem bNX:fE Tryz.prog 256=some ⟨32,true,32,List.replicate 32 (.int .u8 0),.arr 32 5⟩:=by kernel_rfl
@[go_sem] theorem bNY:fE Tryz.prog 257=some ⟨64,true,64,List.replicate 64 (.int .u8 0),.arr 64 5⟩:=by kernel_rfl
@[go_sem] theorem bNZ:fE Tryz.prog 261=some ⟨3,true,48,[.str [],.str [],.gX],.st [(0,9,1),(1,9,1),(2,124,1)]⟩:=by kernel_rfl
@[go_sem] theorem bN0:fE Tryz.prog 265=some ⟨1,true,16,[.str []],.st [(0,9,1)]⟩:=by kernel_rfl
@[go_sem] def cC:Marks:=λ_=>([],.nil,[])
@[go_sem] def cR:List Nat:=[]
@[go_sem] def yW:List Nat:=[0,1,4]
@[go_sem] def aBF:List Nat:=[0,2]
@[go_sem] def aKR:List Nat:=[2]
@[go_sem] def aGH:List Nat:=[1]
@[go_sem] def aVB:List Nat:=[0,1,4,5,7,8,9,16]
@[go_sem] def bE6:List Nat:=[3]
@[go_sem] def aVC:List Nat:=[0,1,4,5,6,11]
@[go_sem] def bE7:List Nat:=[0,1,2,6]
@[go_sem] def a6H:List Nat:=[0,2,4]
@[go_sem] def aSS:List Nat:=[0,1,4,5,10,14,25]
@[go_sem] def aST:Marks:=λid=>match id with|6=>([],(.op 0 (.op 1 (.op 2 (.op 3 (.op 4 (.op 5 (.op 6 (.op 7 (.op 8 .nil))))))))),[])|_=>([],.nil,[])
@[go_sem] def aSU:List Nat:=[0,1,2,3,5,7,8,9,10]
@[go_sem] def aBG:List Nat:=[3,4]
@[go_sem] def a6I:List Nat:=[0,1,2,3]
@[go_sem] def aSV:List Nat:=[0,1,4,5,6,11,12,13]
@[go_sem] def bE8:List Nat:=[0,1,4,5]
@[go_sem] def aSW:List Nat:=[0,1,2,6,7,9,11,12,13,14]
@[go_sem] def aSX:List Nat:=[10,22]
@[go_sem] def aSY:List Nat:=[0,1,4,5,7,9,10,11,12]
@[go_sem] def aSZ:List Nat:=[0,2,3,5,7,8,9,10]
@[go_sem] def aS0:List Nat:=[0,1,2,4,5,6,7,15]
theorem mix:Tryz.prog.follows .mixedOrders=true:=by kernel_rfl
abbrev I (n:Int):aC:=.int .i64 n
abbrev ints (l:List Int):aC:=.sl 1 (l.map λn=>[I n]) false
abbrev eQ {α:Type} (sz:Nat) (c:α->List aC) (l:List α):aC:=.sl sz (l.map c) false
def InI (n:Int):Prop:=-9223372036854775808<=n/\n<=9223372036854775807
def InB (n:Int):Prop:=0<=n/\n<=255
def lft (left:Int) (n:Nat):Int:=if left-n<0 then -1 else left-n
theorem aJC (left:Int) (n:Nat):(lft left n=-1/\left-n<0)∨(lft left n=left-n/\0<=left-n):=by
 unfold lft;split
 ·exact .inl ⟨rfl,by assumption⟩
 ·exact .inr ⟨rfl,by omega⟩
theorem a2S {left:Int} {n:Nat} (h:left-n<0):lft left n=-1:=if_pos h
theorem j8 {α:Type} (s:α->Nat) (l:List α) (k:Nat) (h:k<l.length):((l.take (k+1)).map s).sum=((l.take k).map s).sum+s l[k]:=by
 rw[pD h,zG,List.sum_append];simp only[qH,x4,aPQ,List.sum_nil,aPL]
theorem sW {α:Type} (s:α->Nat):∀ (l:List α) (k:Nat),((l.take k).map s).sum<=(l.map s).sum
 | [],k=>by simp
 |a::l,0=>by simp
 |a::l,k+1=>by have:=sW s l k;simp only[a7J,qH,aPQ];omega
theorem aKS {α:Type} (s:α->Nat) {l:List α} {x:α} (h:x∈l):s x<=(l.map s).sum:=by
 induction l with
 |nil=>simp at h
 |cons a l ih =>
  simp only[qH,aPQ]
  rcases oH.1 h with rfl|h
  ·omega
  ·have:=ih h;omega
theorem aM (h:Heap) (n m:Nat) (o:bW):aR h n o m=if m=n then some o else h m:=rfl
theorem getElem_of_eq {α:Type} {a b:List α} (e:a=b) {k:Nat} (ha:k<a.length) {hb:k<b.length}:a[k]=b[k]:=by subst e;rfl
theorem aVD {α:Type} {a b:List α} {k:Nat} (ha:k<a.length) (hb:k<b.length) (hp:a.take k=b.take k) (he:a[k]=b[k]):a.take (k+1)=b.take (k+1):=by
 rw[pD ha,pD hb,hp,he]
theorem aQB {α:Type} {a b:List α} (hl:a.length=b.length) (h:a.take a.length=b.take a.length):a=b:=by
 rw[jG,hl,jG]at h;exact h
theorem p8 (l:List (List aC)):fF (l.map (List.map .v))=l:=by
 induction l with
 |nil=>rfl
 |cons e l ih =>
  have:aCD (e.map Cell.v)=e:=by
   induction e with
   |nil=>rfl
   |cons x e ih=>simp only[qH,aCD,Cell.val,ih]
  simp only[fF,qH]at ih ⊢
  rw[ih,this]
theorem yA {h h':Heap} {n sz:Nat} (es:List (List aC)) (h0:h n=none) (hl:(aR h n (.row sz (es.map (List.map .v)))).le h') (len:Nat) (e:len=es.length):Shift (.os n sz 0 len) h' (.sl sz es false) h:=by
 subst e
 refine(Shift.of (Sub.refl _) hl).trans ((Shift.gP (aH _ _ _) (by simp[j5])).trans ?_)
 have:aC.gP n (fF (es.map (List.map .v))) (.os n sz 0 es.length)=.sl sz es false:=by simp[aC.gP,p8]
 rw[this]
 exact bJ ((bA h0).2 ((bA h0).2 (Heap.le_refl h)))
theorem aRN {α β:Type} {f:α->β} {l:List α} {k:Nat} (h:k<l.length):(l.map f)[k]?=some (f l[k]):=by
 rw[nI,cP h];rfl
theorem oS {α:Type} {P:α->Prop} {l:List α} {k:Nat} (h:k<l.length) (hp:∀ x∈l.take k,P x) (he:P l[k]):∀ x∈l.take (k+1),P x:=by
 rw[pD h]
 intro x hx
 rcases mS.1 hx with hx|hx
 ·exact hp x hx
 ·rw[nQ.1 hx];exact he
def idxOf {α:Type} (p:α->Bool) (l:List α):Int:=match l.findIdx? p with|some i=>i|none=>-1
theorem pN {α:Type} {p:α->Bool} {l:List α} (h:∀ x∈l,p x=false):idxOf p l=-1:=by
 have:l.findIdx? p=none:=List.findIdx?_eq_none_iff.2 h
 simp only[idxOf,this]
theorem pO {α:Type} {p:α->Bool} {l:List α} {k:Nat} (hk:k<l.length) (h:∀ x∈l.take k,p x=false) (he:p l[k]=true):idxOf p l=k:=by
 have:l.findIdx? p=some k:=by
  rw[a5N]
  refine⟨hk,he,λj hj=>?_⟩
  have:=h l[j] (List.mem_take_iff_getElem.2 ⟨j,by omega,rfl⟩)
  simp[this]
 simp only[idxOf,this]
theorem mC {α:Type} {p:α->Bool} {l:List α}:decide (0<=idxOf p l)=l.any p:=by
 unfold idxOf
 cases h:l.findIdx? p with
 |none =>
  have:=List.findIdx?_eq_none_iff.1 h
  simp only
  rw[Bool.eq_false_iff.2 (show l.any p≠true from ?_)]
  ·simp
  ·intro hx
   obtain⟨x,hx,hp⟩:=aW0.1 hx
   rw[this x hx]at hp;cases hp
 |some i =>
  obtain⟨hi,hp,_⟩:=a5N.1 h
  have:l.any p=true:=aW0.2 ⟨_,eF hi,hp⟩
  rw[this];simp
def fZ (n:Int):Prop:=0<=n/\n<=1000002
instance (n:Int):Decidable (fZ n):=inferInstanceAs (Decidable (0<=n/\n<=1000002))
def gE (l:List Int):Prop:=∀ x∈l,fZ x
instance (l:List Int):Decidable (gE l):=inferInstanceAs (Decidable (∀ x∈l,fZ x))
theorem aS1 {α:Type} {P:α->Prop} [DecidablePred P] {l:List α} [Decidable (∀ x∈l,P x)]:(!l.any λx=>!decide (P x))=decide (∀ x∈l,P x):=by
 rw[Bool.eq_iff_iff]
 simp[aW2]
inductive aB where
 |mk (aN:Int) (aX:Int) (cF:Int) (b7:Int) (aK:(List aB))
def aB.aN:aB->Int
 | .mk aN aX cF b7 aK=>aN
def aB.aX:aB->Int
 | .mk aN aX cF b7 aK=>aX
def aB.cF:aB->Int
 | .mk aN aX cF b7 aK=>cF
def aB.b7:aB->Int
 | .mk aN aX cF b7 aK=>b7
def aB.aK:aB->(List aB)
 | .mk aN aX cF b7 aK=>aK
mutual
def aB.c:aB->List aC
 | .mk aN aX cF b7 aK=>[(.int .i64 aN),(.int .i64 aX),(.int .i64 cF),(.int .i64 b7),.sl 5 (aB.cL aK) false]
def aB.cL:List aB->List (List aC)
 | []=>[]
 |x::l=>x.c::aB.cL l
end
mutual
def aB.s:aB->Nat
 | .mk aN aX cF b7 aK=>(aK.length+aB.sL aK)
def aB.sL:List aB->Nat
 | []=>0
 |x::l=>x.s+aB.sL l
end
theorem aB.aYC:∀ l,aB.cL l=l.map aB.c
 | []=>rfl
 |x::l=>by simp only[aB.cL,qH,aB.aYC l]
theorem aB.aYD:∀ l,aB.sL l=(l.map aB.s).sum
 | []=>rfl
 |x::l=>by simp only[aB.sL,qH,aPQ,aB.aYD l]
theorem aB.aU (x:aB):x.c=[(.int .i64 x.aN),(.int .i64 x.aX),(.int .i64 x.cF),(.int .i64 x.b7),(eQ 5 aB.c x.aK)]:=by cases x;simp only[aB.c,aB.aYC,eQ];rfl
theorem aB.xN (x:aB):x.s=(pE aB.s x.aK):=by cases x;simp only[aB.s,aB.aYD,pE];rfl
theorem aB.aCU {x y:aB} (h:y∈x.aK):SizeOf.sizeOf y<SizeOf.sizeOf x:=by
 cases x
 have:=List.sizeOf_lt_of_mem h
 simp only[aB.aK]at this
 simp only[aB.mk.sizeOf_spec];omega
@[simp] theorem aB.aGI (x:aB):x.c.length=5:=by rw[aB.aU];rfl
inductive aB.wf:aB->Prop
 |mk (x:aB) (h0:InI x.aN) (h1:InI x.aX) (h2:InI x.cF) (h3:InI x.b7) (hk:∀ y∈x.aK,y.wf):x.wf
noncomputable instance:DecidableEq aB:=λa b=>Classical.propDecidable (a=b)
structure aV where
 jX:(List UInt8)
 bB:Int
 aO:(List aB)
def aV.c (x:aV):List aC:=[(.str x.jX),(.int .i64 x.bB),(eQ 5 aB.c x.aO)]
def aV.s (x:aV):Nat:=x.jX.length+(pE aB.s x.aO)
theorem aV.aU (x:aV):x.c=[(.str x.jX),(.int .i64 x.bB),(eQ 5 aB.c x.aO)]:=rfl
theorem aV.xN (x:aV):x.s=x.jX.length+(pE aB.s x.aO):=rfl
@[simp] theorem aV.aGI (x:aV):x.c.length=3:=by rw[aV.aU];rfl
def aV.wf (x:aV):Prop:=InI x.bB/\(∀ y∈x.aO,y.wf)
noncomputable instance:DecidableEq aV:=λa b=>Classical.propDecidable (a=b)
structure aF where
 aI:(List aV)
def aF.c (x:aF):List aC:=[(eQ 3 aV.c x.aI)]
def aF.s (x:aF):Nat:=(pE aV.s x.aI)
theorem aF.aU (x:aF):x.c=[(eQ 3 aV.c x.aI)]:=rfl
theorem aF.xN (x:aF):x.s=(pE aV.s x.aI):=rfl
@[simp] theorem aF.aGI (x:aF):x.c.length=1:=by rw[aF.aU];rfl
def aF.wf (x:aF):Prop:=(∀ y∈x.aI,y.wf)
noncomputable instance:DecidableEq aF:=λa b=>Classical.propDecidable (a=b)
structure aP where
 lT:Int
 fA:Int
 fB:Int
 aX:Int
def aP.c (x:aP):List aC:=[(.int .i64 x.lT),(.int .i64 x.fA),(.int .i64 x.fB),(.int .i64 x.aX)]
def aP.s (x:aP):Nat:=0
theorem aP.aU (x:aP):x.c=[(.int .i64 x.lT),(.int .i64 x.fA),(.int .i64 x.fB),(.int .i64 x.aX)]:=rfl
theorem aP.xN (x:aP):x.s=0:=rfl
@[simp] theorem aP.aGI (x:aP):x.c.length=4:=by rw[aP.aU];rfl
def aP.wf (x:aP):Prop:=InI x.lT/\InI x.fA/\InI x.fB/\InI x.aX
noncomputable instance:DecidableEq aP:=λa b=>Classical.propDecidable (a=b)
structure bL where
 oT:Int
 wL:Bool
def bL.c (x:bL):List aC:=[(.int .i64 x.oT),(.bool x.wL)]
def bL.s (x:bL):Nat:=0
theorem bL.aU (x:bL):x.c=[(.int .i64 x.oT),(.bool x.wL)]:=rfl
theorem bL.xN (x:bL):x.s=0:=rfl
@[simp] theorem bL.aGI (x:bL):x.c.length=2:=by rw[bL.aU];rfl
def bL.wf (x:bL):Prop:=InI x.oT
noncomputable instance:DecidableEq bL:=λa b=>Classical.propDecidable (a=b)
structure cW where
 cB:Int
 aS:(List aP)
 bX:(List bL)
 aO:(List Int)
def cW.c (x:cW):List aC:=[(.int .i64 x.cB),(eQ 4 aP.c x.aS),(eQ 2 bL.c x.bX),(eQ 1 (λn=>[I n]) x.aO)]
def cW.s (x:cW):Nat:=(pE aP.s x.aS)+(pE bL.s x.bX)+x.aO.length
theorem cW.aU (x:cW):x.c=[(.int .i64 x.cB),(eQ 4 aP.c x.aS),(eQ 2 bL.c x.bX),(eQ 1 (λn=>[I n]) x.aO)]:=rfl
theorem cW.xN (x:cW):x.s=(pE aP.s x.aS)+(pE bL.s x.bX)+x.aO.length:=rfl
@[simp] theorem cW.aGI (x:cW):x.c.length=4:=by rw[cW.aU];rfl
def cW.wf (x:cW):Prop:=InI x.cB/\(∀ y∈x.aS,y.wf)/\(∀ y∈x.bX,y.wf)/\(∀ y∈x.aO,InI y)
noncomputable instance:DecidableEq cW:=λa b=>Classical.propDecidable (a=b)
set_option maxRecDepth 100000
theorem eY (n a b:Int):eX Tryz.prog 92 [I n,I a,I b] (.bool (decide (a<=n/\n<=b))):=by
 refine eJ 15 bE7 cR cC Tryz.func92 λh=>?_
 simp -dsimp -implicitDefEqProofs only[go_sem,↓reduceIte,Tryz.f92]
 repeat'(with_reducible first|intro _|refine And.intro ?_ ?_)
 all_goals try(first|(simp[*];done)|omega|grind)
theorem within (n a b:Int):eX Tryz.prog 68 [I n,I a,I b] (.bool (decide (a<=n/\n<=b))):=by
 refine eJ 15 bE7 cR cC Tryz.func68 λh=>?_
 simp -dsimp -implicitDefEqProofs only[go_sem,↓reduceIte,Tryz.f68]
 repeat'(with_reducible first|intro _|refine And.intro ?_ ?_)
 all_goals try(first|(simp[*];done)|omega|grind)
theorem nY (n:Int):eX Tryz.prog 168 [I n] (.bool (decide (fZ n))):=by
 refine eJ 5 aBF cR cC Tryz.func168 λh=>?_
 simp -dsimp -implicitDefEqProofs only[go_sem,↓reduceIte,Tryz.f168]
 first|refine aG.mk (eY n 0 1000002) ?_|refine aD.mk (eY n 0 1000002) ?_|refine aG.bC (eY n 0 1000002) ?_|refine aD.mk (aZ.dB (eY n 0 1000002)) ?_
 simp -dsimp -implicitDefEqProofs only[go_sem,↓reduceIte,Tryz.f168]
 all_goals rfl
theorem lA (n:Int):eX Tryz.prog 124 [I n] (.bool (decide (fZ n))):=by
 refine eJ 5 aBF cR cC Tryz.func124 λh=>?_
 simp -dsimp -implicitDefEqProofs only[go_sem,↓reduceIte,Tryz.f124]
 first|refine aG.mk (within n 0 1000002) ?_|refine aD.mk (within n 0 1000002) ?_|refine aG.bC (within n 0 1000002) ?_|refine aD.mk (aZ.dB (within n 0 1000002)) ?_
 simp -dsimp -implicitDefEqProofs only[go_sem,↓reduceIte,Tryz.f124]
 all_goals rfl
@[go_sem] def aS2:List Nat:=[0,2,3,7,15]
theorem vK (l:List Int):eX Tryz.prog 121 [eQ 1 (λn=>[I n]) l] (.bool (decide (gE l))):=by
 refine eJ 16 aS2 cR cC Tryz.func121 λh=>?_
 simp -dsimp -implicitDefEqProofs only[go_sem,↓reduceIte,Tryz.f121]
 refine dJ aS2 cR cC (λk:Nat=>[(0,eQ 1 (λn=>[I n]) l),(3,I k)]) (λ_=>h) (λk=>k<=(l).length/\∀ x∈(l).take k,fZ x) (λk=>(l).length-k) 0 aAP ?_
 intro k ⟨hk,hp⟩
 rcases cQ k (l).length with hlt|hge
 ·have ea:(l)[k]?=some (l)[k]:=cP hlt
  simp -dsimp -implicitDefEqProofs only[go_sem,↓reduceIte,Tryz.f121,ea]
  repeat'(with_reducible first|intro _|refine And.intro ?_ ?_)
  all_goals try omega
  first|refine aG.mk (nY l[k]) ?_|refine aD.mk (nY l[k]) ?_|refine aG.bC (nY l[k]) ?_|refine aD.mk (aZ.dB (nY l[k])) ?_
  simp -dsimp -implicitDefEqProofs only[go_sem,↓reduceIte,Tryz.f121]
  repeat'(with_reducible first|intro _|refine And.intro ?_ ?_)
  ·rename_i he
   exact(decide_eq_false λe=>he (e _ (eF hlt))).symm
  ·rename_i he
   refine⟨k+1,?_⟩
   repeat'(with_reducible refine And.intro ?_ ?_)
   all_goals try(rw[IntWalk.i64_in _ aA];first|rfl|omega)
   all_goals try omega
   all_goals try(repeat'(with_reducible first|exact Heap.le_refl _|refine(bA iI).2 ?_))
   exact oS hlt hp he
 ·have hk':k=(l).length:=by omega
  subst hk'
  rw[jG]at hp
  simp -dsimp -implicitDefEqProofs only[go_sem,↓reduceIte,Tryz.f121,cV]
  intro _
  exact(decide_eq_true hp).symm
theorem aNQ (a:List Int) (p:Int->Bool) (g:FuncId) (cap:List aC) {h0:Heap} (hc:∀ x∈a,aZ Tryz.prog g ([(.int .i64 x)]++cap) (.bool (p x)) h0):aZ Tryz.prog 128 [(eQ 1 (λn=>[I n]) a),.fn (.func g) [] cap] (I (idxOf p a)) h0:=by
 refine aBC 19 aVB cR cC Tryz.func128 λh hle=>?_
 simp -dsimp -implicitDefEqProofs only[go_sem,↓reduceIte,Tryz.f128,Tryz.f128]
 intro _
 refine dJ aVB cR cC (λk:Nat=>[(0,(eQ 1 (λn=>[I n]) a)),(1,.fn (.func g) [] cap),(7,I a.length),(8,I k)]) (λ_=>h) (λk=>k<=a.length/\∀ x∈a.take k,p x=false) (λk=>a.length-k) 0 aAP ?_
 intro k ⟨hk,hp⟩
 rcases cQ k a.length with hlt|hge
 ·have ea:a[k]?=some a[k]:=cP hlt
  simp -dsimp -implicitDefEqProofs only[go_sem,↓reduceIte,Tryz.f128,Tryz.f128,ea]
  repeat'(with_reducible first|intro _|refine And.intro ?_ ?_)
  all_goals try omega
  have hx:=hc a[k] (eF hlt)
  refine aG.bC (hx.mono hle) ?_
  cases hpk:p a[k]with
  |true =>
   simp -dsimp -implicitDefEqProofs only[go_sem,↓reduceIte,Tryz.f128,Tryz.f128]
   repeat'(with_reducible first|intro _|refine And.intro ?_ ?_)
   all_goals first|exact(pO hlt hp hpk).symm|rfl|(rw[pO hlt hp hpk])
  |false =>
   simp -dsimp -implicitDefEqProofs only[go_sem,↓reduceIte,Tryz.f128,Tryz.f128]
   refine⟨k+1,?_⟩
   repeat'(with_reducible refine And.intro ?_ ?_)
   all_goals try(rw[IntWalk.i64_in _ aA];first|rfl|omega)
   all_goals try omega
   exact oS (P:=λx=>p x=false) hlt hp hpk
 ·have hk':k=a.length:=by omega
  subst hk'
  rw[jG]at hp
  simp -dsimp -implicitDefEqProofs only[go_sem,↓reduceIte,Tryz.f128,Tryz.f128,cV]
  all_goals first|exact(pN hp).symm|rw[pN hp]
theorem p9 (a:List Int) (p:Int->Bool) (g:FuncId) (cap:List aC) {h0:Heap} (hc:∀ x∈a,aZ Tryz.prog g ([(.int .i64 x)]++cap) (.bool (p x)) h0):aZ Tryz.prog 70 [(eQ 1 (λn=>[I n]) a),.fn (.func g) [] cap] (.bool (a.any p)) h0:=by
 refine aBC 9 yW cR cC Tryz.func70 λh hle=>?_
 simp -dsimp -implicitDefEqProofs only[go_sem,↓reduceIte,Tryz.f70,Tryz.f70]
 refine aG.bC ((aNQ a p g cap hc).mono hle) ?_
 simp -dsimp -implicitDefEqProofs only[go_sem,↓reduceIte,Tryz.f70,Tryz.f70]
 all_goals first|done|exact mC|rw[mC]
theorem sX (n:Int):eX Tryz.prog 123 [I n] (.bool (!decide (fZ n))):=by
 refine eJ 6 aBF cR cC Tryz.func123 λh=>?_
 simp -dsimp -implicitDefEqProofs only[go_sem,↓reduceIte,Tryz.f123]
 first|refine aG.mk (lA n) ?_|refine aD.mk (lA n) ?_|refine aG.bC (lA n) ?_|refine aD.mk (aZ.dB (lA n)) ?_
 simp -dsimp -implicitDefEqProofs only[go_sem,↓reduceIte,Tryz.f123]
theorem pP (l:List Int) (c:Int):eX Tryz.prog 61 [eQ 1 (λn=>[I n]) l,I c] (.bool (decide ((l.length:Int)=c/\gE l))):=by
 refine eJ 14 yW cR cC Tryz.func61 λh=>?_
 simp -dsimp -implicitDefEqProofs only[go_sem,↓reduceIte,Tryz.f61]
 repeat'(with_reducible first|intro _|refine And.intro ?_ ?_)
 all_goals try(first|(simp[*];done)|omega|grind)
 first|refine aG.mk (p9 l (λn=>!decide (fZ n)) 123 [] λx _=>(sX x).a2O) ?_|refine aD.mk (p9 l (λn=>!decide (fZ n)) 123 [] λx _=>(sX x).a2O) ?_|refine aG.bC (p9 l (λn=>!decide (fZ n)) 123 [] λx _=>(sX x).a2O) ?_|refine aD.mk (aZ.dB (p9 l (λn=>!decide (fZ n)) 123 [] λx _=>(sX x).a2O)) ?_
 simp -dsimp -implicitDefEqProofs only[go_sem,↓reduceIte,Tryz.f61]
 rename_i e
 rw[aS1,decide_eq_decide]
 exact⟨λq=>⟨e,q⟩,λq=>q.2⟩
theorem aS3 {α:Type} {c:α->aC}:∀ {l:List α} {es:List (List OV)},OR (oP c) l es->es=l.map λx=>[OV.v (c x)]
 | [],[],_=>rfl
 |x::l,e::es,h=>by rw[qH,←aS3 h.2,h.1]
 | [],_::_,h=>h.elim
 | _::_,[],h=>h.elim
theorem a2T {α:Type} {c:α->aC} {h g:Heap} {sz:Nat} {l:List α} {y:OV} (oy:OS (oP c) sz l y) (w:fY h y.rows g) :
  ∃ o,fM h l o/\y.val=iH sz l.length o/\g=c8 h (.row sz ((l.map λx=>[c x]).map (List.map .v))) o:=by
 rcases oy with⟨rfl,rfl⟩|⟨n,es,rfl,hr⟩
 ·rw[OV.l5]at w
  exact⟨none,rfl,rfl,funext λm=>w.upto m (by simp[bR])⟩
 ·have he:=aS3 hr
  subst he
  have hn:h n=none:=w.fresh n (by rw[OV.rF];simp[bR])
  refine⟨some n,hn,by simp[OV.val,iH],?_⟩
  have hrow:(OV.sl n sz (l.map λx=>[OV.v (c x)])).rows=[(n,.row sz ((l.map λx=>[c x]).map (List.map .v)))]:=by
   rw[OV.rF,uJ]
   simp[OV.cells,OV.val]
  rw[hrow]at w
  funext m
  by_cases e:m=n
  ·subst e
   rw[aL,aH]
   exact w.r8 (m,_) (u4 ..)
  ·rw[aL,aE _ _ _ _ e]
   exact w.upto m (by simp[bR,e])
end Go.Hl
namespace Go.Proofs
open Go.Shelf
def Tryz.aKT:Go.Shelf.Ren:=⟨fun|173=>130|246=>172|283=>194|284=>195|285=>196|286=>197|129=>211|317=>210|318=>212|319=>213|320=>214|337=>223|338=>224|n=>n,fun|2=>2|3=>3|9=>9|4=>4|171=>223|0=>0|53=>141|37=>22|5=>5|173=>226|212=>236|51=>237|20=>20|213=>238|46=>197|232=>256|233=>257|n=>n,fun|17=>0|18=>4|19=>5|n=>n⟩
theorem Tryz.aYE:Go.Proofs.LaysM.n173 Tryz.prog Tryz.aKT:={
 mixed:=by kernel_rfl
 f129:=Tryz.func211.trans (congrArg some (by kernel_rfl))
 f173:=Tryz.func130.trans (congrArg some (by kernel_rfl))
 f246:=Tryz.func172.trans (congrArg some (by kernel_rfl))
 f283:=Tryz.func194.trans (congrArg some (by kernel_rfl))
 f284:=Tryz.func195.trans (congrArg some (by kernel_rfl))
 f285:=Tryz.func196.trans (congrArg some (by kernel_rfl))
 f286:=Tryz.func197.trans (congrArg some (by kernel_rfl))
 f317:=Tryz.func210.trans (congrArg some (by kernel_rfl))
 f318:=Tryz.func212.trans (congrArg some (by kernel_rfl))
 f319:=Tryz.func213.trans (congrArg some (by kernel_rfl))
 f320:=Tryz.func214.trans (congrArg some (by kernel_rfl))
 f337:=Tryz.func223.trans (congrArg some (by kernel_rfl))
 f338:=Tryz.func224.trans (congrArg some (by kernel_rfl))
 t0:=Tryz.underlying0
 a0:=Tryz.isAgg0
 z0:=Tryz.sizeOf0
 v0:=Tryz.zeroValue0
 t2:=Tryz.underlying2
 a2:=Tryz.isAgg2
 z2:=Tryz.sizeOf2
 v2:=Tryz.zeroValue2
 t3:=Tryz.underlying3
 a3:=Tryz.isAgg3
 z3:=Tryz.sizeOf3
 v3:=Tryz.zeroValue3
 t4:=Tryz.underlying4
 a4:=Tryz.isAgg4
 z4:=Tryz.sizeOf4
 v4:=Tryz.zeroValue4
 t5:=Tryz.underlying5
 a5:=Tryz.isAgg5
 z5:=Tryz.sizeOf5
 v5:=Tryz.zeroValue5
 t9:=Tryz.underlying9
 a9:=Tryz.isAgg9
 z9:=Tryz.sizeOf9
 v9:=Tryz.zeroValue9
 t20:=Tryz.underlying20
 a20:=Tryz.isAgg20
 z20:=Tryz.sizeOf20
 v20:=Tryz.zeroValue20
 t37:=Tryz.underlying22
 a37:=Tryz.isAgg22
 z37:=Tryz.sizeOf22
 v37:=Tryz.zeroValue22
 t46:=Tryz.underlying197
 a46:=Tryz.isAgg197
 z46:=Tryz.sizeOf197
 v46:=Tryz.zeroValue197
 t51:=Tryz.underlying237
 a51:=Tryz.isAgg237
 z51:=Tryz.sizeOf237
 v51:=Tryz.zeroValue237
 t53:=Tryz.underlying141
 a53:=Tryz.isAgg141
 z53:=Tryz.sizeOf141
 v53:=Tryz.zeroValue141
 t171:=Tryz.underlying223
 a171:=Tryz.isAgg223
 z171:=Tryz.sizeOf223
 v171:=Tryz.zeroValue223
 t173:=Tryz.underlying226
 a173:=Tryz.isAgg226
 z173:=Tryz.sizeOf226
 v173:=Tryz.zeroValue226
 t212:=Tryz.underlying236
 a212:=Tryz.isAgg236
 z212:=Tryz.sizeOf236
 v212:=Tryz.zeroValue236
 t213:=Tryz.underlying238
 a213:=Tryz.isAgg238
 z213:=Tryz.sizeOf238
 t232:=Tryz.underlying256
 a232:=Tryz.isAgg256
 z232:=Tryz.sizeOf256
 v232:=Tryz.zeroValue256
 t233:=Tryz.underlying257
 a233:=Tryz.isAgg257
 z233:=Tryz.sizeOf257
 v233:=Tryz.zeroValue257
 g17:=by kernel_rfl
 g18:=by kernel_rfl
 g19:=by kernel_rfl
 i0:=by kernel_rfl
 i2:=by kernel_rfl
 i3:=by kernel_rfl
 i4:=by kernel_rfl
 i5:=by kernel_rfl
 i9:=by kernel_rfl
 i20:=by kernel_rfl
 i37:=by kernel_rfl
 i46:=by kernel_rfl
 i51:=by kernel_rfl
 i53:=by kernel_rfl
 i171:=by kernel_rfl
 i173:=by kernel_rfl
 i212:=by kernel_rfl
 i232:=by kernel_rfl
 i233:=by kernel_rfl
 m17:=by kernel_rfl
 m18:=by kernel_rfl
 m19:=by kernel_rfl }
open Go.RowKit Go.Sort Go.Lib in
theorem Tryz.strconv_FormatInt_10 (n:Int) (h0:-9223372036854775808<=n) (h1:n<=9223372036854775807) (w:World) (htab:Lib.TabIs Tryz.prog w "internal/strconv.uint64pow10" .u64 Lib.pow10Tab) :
  Calls Tryz.prog 130 #[.int .i64 n,.int .i64 10] w λe w'=>e=.returned (.string ⟨(Lib.itoa n).toArray⟩)/\∃ k os,w'=grow (w.drewN k) os:=Any.strconv_FormatInt_10 Tryz.aYE n h0 h1 w htab
def Tryz.aDS:Go.Shelf.Ren:=⟨fun|156=>131|165=>173|166=>72|169=>76|240=>129|241=>198|276=>171|277=>215|n=>n,fun|31=>127|9=>9|3=>3|4=>4|0=>0|20=>20|72=>122|76=>125|70=>120|37=>22|75=>124|127=>185|164=>212|5=>5|80=>130|n=>n,fun|n=>n⟩
theorem Tryz.aS4:Go.Proofs.Lays.n156 Tryz.prog Tryz.aDS:={
 mixed:=by kernel_rfl
 f156:=Tryz.func131.trans (congrArg some (by kernel_rfl))
 f165:=Tryz.func173.trans (congrArg some (by kernel_rfl))
 f166:=Tryz.func72.trans (congrArg some (by kernel_rfl))
 f169:=Tryz.func76.trans (congrArg some (by kernel_rfl))
 f240:=Tryz.func129.trans (congrArg some (by kernel_rfl))
 f241:=Tryz.func198.trans (congrArg some (by kernel_rfl))
 f276:=Tryz.func171.trans (congrArg some (by kernel_rfl))
 f277:=Tryz.func215.trans (congrArg some (by kernel_rfl))
 t0:=Tryz.underlying0
 a0:=Tryz.isAgg0
 z0:=Tryz.sizeOf0
 v0:=Tryz.zeroValue0
 t3:=Tryz.underlying3
 a3:=Tryz.isAgg3
 z3:=Tryz.sizeOf3
 v3:=Tryz.zeroValue3
 t4:=Tryz.underlying4
 a4:=Tryz.isAgg4
 z4:=Tryz.sizeOf4
 v4:=Tryz.zeroValue4
 t9:=Tryz.underlying9
 a9:=Tryz.isAgg9
 z9:=Tryz.sizeOf9
 v9:=Tryz.zeroValue9
 t20:=Tryz.underlying20
 a20:=Tryz.isAgg20
 z20:=Tryz.sizeOf20
 v20:=Tryz.zeroValue20
 t31:=Tryz.underlying127
 a31:=Tryz.isAgg127
 z31:=Tryz.sizeOf127
 v31:=Tryz.zeroValue127
 t37:=Tryz.underlying22
 a37:=Tryz.isAgg22
 z37:=Tryz.sizeOf22
 v37:=Tryz.zeroValue22
 t70:=Tryz.underlying120
 a70:=Tryz.isAgg120
 z70:=Tryz.sizeOf120
 v70:=Tryz.zeroValue120
 t72:=Tryz.underlying122
 a72:=Tryz.isAgg122
 z72:=Tryz.sizeOf122
 v72:=Tryz.zeroValue122
 t75:=Tryz.underlying124
 a75:=Tryz.isAgg124
 z75:=Tryz.sizeOf124
 v75:=Tryz.zeroValue124
 t76:=Tryz.underlying125
 a76:=Tryz.isAgg125
 z76:=Tryz.sizeOf125
 v76:=Tryz.zeroValue125
 t127:=Tryz.underlying185
 a127:=Tryz.isAgg185
 z127:=Tryz.sizeOf185
 v127:=Tryz.zeroValue185
 t164:=Tryz.underlying212
 a164:=Tryz.isAgg212
 z164:=Tryz.sizeOf212
 v164:=Tryz.zeroValue212 }
theorem Tryz.sY:Builder.Extra Tryz.prog Tryz.aDS:={
 sizeBuilder:=by kernel_rfl
 liesBuilder:=by kernel_rfl
 t5:=Tryz.underlying5
 a5:=Tryz.isAgg5
 z5:=Tryz.sizeOf5
 v5:=Tryz.zeroValue5
 infoByte:=by kernel_rfl
 cellsByte:=by kernel_rfl
 sizeByte:=by kernel_rfl
 neB5:=by decide }
open Go.RowKit in
theorem Tryz.strings_Join_none (a:Option Addr) (c:Nat) (sep:ByteArray) (w:World) :
  Calls Tryz.prog 131 #[.slice a 0 c,.string sep] w λe w'=>e=.returned (.string ⟨#[]⟩)/\w'=w:=Any.strings_Join_none Tryz.aS4 Tryz.sY a c sep w
open Go.RowKit in
theorem Tryz.strings_Join (bk o c:Nat) (xs:List ByteArray) (sep:ByteArray) (w:World) (hcells:∀ (j:Nat) x,xs[j]?=some x->w.cell? ⟨bk,o+j,none⟩=some (.string x)) (hbk:bk<w.heap.size) (hN:xs.length<=140737488355328) (hcap:xs.length<=c) (hlen:(Lib.join (xs.map (·.data.toList)) sep.data.toList).length<=140737488355328) :
  Calls Tryz.prog 131 #[.slice (some ⟨bk,o,none⟩) xs.length c,.string sep] w λe w'=>e=.returned (.string ⟨(Lib.join (xs.map (·.data.toList)) sep.data.toList).toArray⟩)/\Below w.heap.size w w':=Any.strings_Join Tryz.aS4 Tryz.sY bk o c xs sep w hcells hbk hN hcap hlen
end Go.Proofs
namespace Go.Hl
open Go.Proofs
set_option linter.unusedVariables false
set_option linter.unusedSimpArgs false
def l7 (c:UInt8):List UInt8->List (List UInt8)
 | []=>[[]]
 |x::l=>if x=c then[]::l7 c l else match l7 c l with|[]=>[[x]]|a::r=>(x::a)::r
theorem a2U (c:UInt8):l7 c []=[[]]:=rfl
theorem a2V (c:UInt8) (l:List UInt8):l7 c (c::l)=[]::l7 c l:=by rw[l7,if_pos rfl]
theorem aQC (c:UInt8):∀ l,l7 c l≠[]
 | []=>by simp[l7]
 |x::l=>by
  rw[l7];split
  ·simp
  ·split <;> simp
theorem aNR {c x:UInt8} (h:x≠c) (l:List UInt8):∃ a r,l7 c l=a::r/\l7 c (x::l)=(x::a)::r:=by
 cases e:l7 c l with
 |nil=>exact absurd e (aQC c l)
 |cons a r=>exact⟨a,r,rfl,by rw[l7,if_neg h,e]⟩
theorem vL {c:UInt8}:∀ (a:List UInt8) (l:List UInt8),c∉a->l7 c (a++c::l)=a::l7 c l
 | [],l,_=>a2V c l
 |x::a,l,h=>by
  simp only[List.mem_cons,not_or]at h
  obtain⟨p,r,h1,h2⟩:=aNR (c:=c) (x:=x) (λe=>h.1 e.symm) (a++c::l)
  rw[vL a l h.2]at h1
  rw[List.cons_append,h2]
  injection h1 with h1 h3
  subst h1;subst h3;rfl
theorem yB {c:UInt8}:∀ (a:List UInt8),c∉a->l7 c a=[a]
 | [],_=>rfl
 |x::a,h=>by
  simp only[List.mem_cons,not_or]at h
  obtain⟨p,r,h1,h2⟩:=aNR (c:=c) (x:=x) (λe=>h.1 e.symm) a
  rw[yB a h.2]at h1
  rw[h2]
  injection h1 with h1 h3
  subst h1;subst h3;rfl
theorem uL (c:UInt8):∀ l:List UInt8,(c∉l)∨∃ a r,c∉a/\l=a++c::r
 | []=>.inl (by simp)
 |x::l=>by
  by_cases e:x=c
  ·subst e;exact .inr ⟨[],l,by simp,rfl⟩
  ·rcases uL c l with h|⟨a,r,h1,h2⟩
   ·exact .inl (by simp only[List.mem_cons,not_or];exact⟨λq=>e q.symm,h⟩)
   ·exact .inr ⟨x::a,r,by simp only[List.mem_cons,not_or];exact⟨λq=>e q.symm,h1⟩,by rw[h2];rfl⟩
theorem aGJ (a b:List UInt8) (r:List (List UInt8)) (s:List UInt8):Go.Lib.join (a::b::r) s=a++s++Go.Lib.join (b::r) s:=by simp[Go.Lib.join,List.intercalate]
theorem aNS (a r:List UInt8) (c:UInt8):(a++c::r).drop (a.length+1)=r:=by
 rw[show a++c::r=(a++[c])++r by simp,show a.length+1=(a++[c]).length by simp,List.drop_left]
theorem aDT (c:UInt8):∀ (ps:List (List UInt8)),ps≠[]->(∀ p∈ps,c∉p)->l7 c (Go.Lib.join ps [c])=ps
 | [],h,_=>absurd rfl h
 | [a],_,h=>by rw[Go.Lib.join_one];exact yB a (h a (by simp))
 |a::b::r,_,h=>by
  rw[aGJ,List.append_assoc,List.singleton_append,vL a _ (h a (by simp)),aDT c (b::r) (by simp) λp hp=>h p (by simp[hp])]
theorem aCV (c x:UInt8) (l:List UInt8):[c].isPrefixOf (x::l)=(c == x):=by simp[List.isPrefixOf]
theorem index_hit (c:UInt8) (l:List UInt8):∀ a:List UInt8,c∉a->Go.Lib.index (a++c::l) [c]=a.length
 | [],_=>by rw[List.nil_append,Go.Lib.index,aCV,if_pos (by simp)];rfl
 |x::a,h=>by
  simp only[List.mem_cons,not_or]at h
  rw[List.cons_append,Go.Lib.index,aCV,if_neg (by simpa using h.1),index_hit c l a h.2]
  have:((a.length:Int) == -1)=false:=by rw[beq_eq_false_iff_ne];omega
  simp[this]
theorem vM (c:UInt8):∀ a:List UInt8,c∉a->Go.Lib.index a [c]=-1
 | [],_=>by simp[Go.Lib.index]
 |x::a,h=>by
  simp only[List.mem_cons,not_or]at h
  rw[Go.Lib.index,aCV,if_neg (by simpa using h.1),vM c a h.2];rfl
theorem a2W (c:UInt8) (a l:List UInt8) (h:c∉a):Go.Lib.cut (a++c::l) [c]=(a,l,true):=by
 rw[Go.Lib.cut,index_hit c l a h,if_pos (by omega)]
 simp[List.drop_append]
theorem aYF (c:UInt8) (a:List UInt8) (h:c∉a):Go.Lib.cut a [c]=(a,[],false):=by
 rw[Go.Lib.cut,vM c a h,if_neg (by omega)]
theorem aGK (c:UInt8):∀ (k:Nat) (l:List UInt8),l.count c<=k->Go.Lib.splitK [c] 0 k l=l7 c l
 |0,l,h=>by
  have:c∉l:=λhm=>by have:=List.count_pos_iff.2 hm;omega
  rw[Go.Lib.splitK,yB l this]
 |k+1,l,h=>by
  rcases uL c l with h1|⟨a,r,h1,rfl⟩
  ·rw[Go.Lib.splitK,vM c l h1,yB l h1];rfl
  ·have e:((a.length:Int) == -1)=false:=by rw[beq_eq_false_iff_ne];omega
   rw[Go.Lib.splitK,index_hit c r a h1,e,if_neg (by simp),vL a r h1]
   have hc:r.count c<=k:=by simp[List.count_append]at h;omega
   simp only[List.length_singleton,Int.toNat_natCast,Nat.add_zero]
   rw[List.take_left,aNS,aGK c k _ hc]
theorem count_le (c:UInt8):∀ (f:Nat) (l:List UInt8),l.length<f->Go.Lib.countFrom [c] f l=l.count c
 |0,l,h=>by omega
 |f+1,l,h=>by
  rcases uL c l with h1|⟨a,r,h1,rfl⟩
  ·rw[Go.Lib.countFrom,vM c l h1,List.count_eq_zero.2 h1];rfl
  ·have e:((a.length:Int) == -1)=false:=by rw[beq_eq_false_iff_ne];omega
   rw[Go.Lib.countFrom,index_hit c r a h1,e,if_neg (by simp)]
   simp only[List.length_singleton,Int.toNat_natCast]
   rw[aNS,count_le c f _ (by simp at h ⊢;omega)]
   simp[List.count_append,List.count_eq_zero.2 h1];omega
theorem aVE (c:UInt8) (l:List UInt8):Go.Lib.split l [c]=l7 c l:=by
 rw[Go.Lib.split,Go.Lib.count,count_le c _ l (by omega),aGK c _ l (Nat.le_refl _)]
theorem aBH {u:Nat} (h:u<10):Go.Lib.decDigits u=[UInt8.ofNat (48+u)]:=by rw[Go.Lib.decDigits,dif_pos h]
theorem aBI {u:Nat} (h:10<=u):Go.Lib.decDigits u=Go.Lib.decDigits (u / 10)++[UInt8.ofNat (48+u%10)]:=by rw[Go.Lib.decDigits,dif_neg (by omega)]
theorem yC {d:Nat} (h:d<10):(UInt8.ofNat (48+d)).toNat=48+d:=by
 show(48+d)%256=48+d
 omega
def a8Q {α:Type} (x:Go.Lib.NumEnd Nat) (ok:Nat->Go.Lib.NumEnd α):Go.Lib.NumEnd α:=match x with | .ok a=>ok a|Go.Lib.NumEnd.syntax=>Go.Lib.NumEnd.syntax | .range=>.range
theorem aDU (M:Nat) (c:UInt8):∀ (l:List UInt8) (acc:Nat),Go.Lib.parseUintM M acc (l++[c])=a8Q (Go.Lib.parseUintM M acc l) λa=>Go.Lib.parseUintM M a [c]
 | [],acc=>rfl
 |x::l,acc=>by
  rw[List.cons_append,Go.Lib.parseUintM,Go.Lib.parseUintM]
  split
  ·split
   ·rfl
   ·split
    ·rfl
    ·exact aDU M c l _
  ·rfl
theorem aGL {M acc d:Nat} (hd:d<10) (h1:acc<1844674407370955162) (h2:acc*10+d<=M):Go.Lib.parseUintM M acc [UInt8.ofNat (48+d)]=.ok (acc*10+d):=by
 rw[Go.Lib.parseUintM,yC hd,if_pos (by omega),if_neg (by omega),if_neg (by omega),Go.Lib.parseUintM]
 congr 1;omega
theorem aQD {M:Nat} (hM:M<18446744073709551616) (u:Nat) (h:u<=M):Go.Lib.parseUintM M 0 (Go.Lib.decDigits u)=.ok u:=by
 induction u using Nat.strongRecOn with
 | _ u ih =>
  by_cases e:u<10
  ·rw[aBH e,aGL e (by omega) (by omega)];congr 1;omega
  ·rw[aBI (by omega),aDU,ih (u / 10) (by omega) (by omega)]
   show Go.Lib.parseUintM M (u / 10) _=_
   rw[aGL (by omega) (by omega) (by omega)];congr 1;omega
theorem aNT (u:Nat):∃ d r,Go.Lib.decDigits u=UInt8.ofNat (48+d)::r/\d<10/\(r≠[]->1<=d):=by
 induction u using Nat.strongRecOn with
 | _ u ih =>
  by_cases e:u<10
  ·exact⟨u,[],aBH e,e,λh=>absurd rfl h⟩
  ·obtain⟨d,r,h1,h2,h3⟩:=ih (u / 10) (by omega)
   refine⟨d,r++[UInt8.ofNat (48+u%10)],by rw[aBI (by omega),h1];rfl,h2,λ_=>?_⟩
   by_cases hr:r=[]
   ·subst hr
    by_cases e2:u / 10<10
    ·rw[aBH e2]at h1
     have h4:UInt8.ofNat (48+u / 10)=UInt8.ofNat (48+d):=by injection h1
     have:=congrArg UInt8.toNat h4
     rw[yC e2,yC h2]at this;omega
    ·rw[aBI (by omega)]at h1
     have:=congrArg List.length h1
     have h5:=(ih (u / 10 / 10) (by omega))
     obtain⟨d',r',h6,_⟩:=h5
     rw[h6]at this;simp at this
   ·exact h3 hr
theorem aBJ (n:Int) (h:0<=n):Go.Lib.itoa n=Go.Lib.decDigits n.toNat:=by rw[Go.Lib.itoa,if_neg (by omega)]
theorem aDV {n:Int} (h0:0<=n) (h1:n<=9223372036854775807):Go.Lib.parseIntB 64 (Go.Lib.itoa n)=.ok n:=by
 rw[aBJ n h0]
 obtain⟨d,r,hd,h2,_⟩:=aNT n.toNat
 have hp:=aQD (M:=2 ^ 64-1) (by decide) n.toNat (by omega)
 rw[hd]at hp ⊢
 have hv:=yC h2
 simp only[Go.Lib.parseIntB,hv]
 rw[if_neg (by omega),Go.Lib.parseUintB,if_neg (by simp),hp]
 simp only[show ¬(48+d=45)by omega,not_false_eq_true,true_and,false_and,if_false]
 rw[if_neg (by omega)]
 congr 1;omega
def rdN (s:List UInt8):Int:=match Go.Lib.parseIntB 64 s with | .ok v=>v|Go.Lib.NumEnd.syntax=>0 | .range=>Go.Lib.intSat 64 s
def aBK (hi:Int) (s:List UInt8):Prop:=0<=rdN s/\rdN s<=hi/\s=Go.Lib.itoa (rdN s)
instance (hi:Int) (s:List UInt8):Decidable (aBK hi s):=inferInstanceAs (Decidable (_/\_/\_))
theorem aNU {n:Int} (h0:0<=n) (h1:n<=9223372036854775807):rdN (Go.Lib.itoa n)=n:=by rw[rdN,aDV h0 h1]
theorem aVF {n hi:Int} (h0:0<=n) (h1:n<=9223372036854775807):aBK hi (Go.Lib.itoa n)↔n<=hi:=by
 rw[aBK,aNU h0 h1];exact⟨λh=>h.2.1,λh=>⟨h0,h,rfl⟩⟩
theorem aQE (u:Nat):∀ c∈Go.Lib.decDigits u,48<=c.toNat/\c.toNat<=57:=by
 induction u using Nat.strongRecOn with
 | _ u ih =>
  intro c hc
  by_cases e:u<10
  ·rw[aBH e]at hc
   rw[List.mem_singleton.1 hc,yC e];omega
  ·rw[aBI (by omega)]at hc
   rcases List.mem_append.1 hc with hc|hc
   ·exact ih (u / 10) (by omega) c hc
   ·rw[List.mem_singleton.1 hc,yC (Nat.mod_lt _ (by omega))];omega
theorem a8R (u:Nat):Go.Lib.decDigits u≠[]:=by obtain⟨d,r,h,_⟩:=aNT u;rw[h];simp
theorem a2X {n:Int} (h:0<=n):Go.Lib.itoa n≠[]:=by rw[aBJ n h];exact a8R _
theorem aS5 {n:Int} (h:0<=n) {c:UInt8} (hc:c.toNat<48):c∉Go.Lib.itoa n:=λq=>by
 rw[aBJ n h]at q
 have:=aQE _ c q
 omega
def eU:List Int->List UInt8
 | []=>[]
 |n::l=>32::Go.Lib.itoa n++eU l
def aYG (hi:Int) (l:List Int):Prop:=∀ n∈l,0<=n/\n<=hi
def nM (hi:Int) (ps:List (List UInt8)):Option (List Int):=if (∀ p∈ps,aBK hi p)then some (ps.map rdN)else none
theorem aNV {hi:Int} (h:hi<=9223372036854775807) {ps:List (List UInt8)} {l:List Int}:nM hi ps=some l↔ps=l.map Go.Lib.itoa/\aYG hi l:=by
 rw[nM]
 constructor
 ·intro q
  split at q
  ·rename_i hp
   have:=Option.some.inj q
   subst this
   refine⟨?_,λn hn=>?_⟩
   ·rw[List.map_map]
    refine List.ext_getElem (by simp) λi h1 h2=>?_
    rw[List.getElem_map]
    exact(hp _ (List.getElem_mem h1)).2.2
   ·obtain⟨p,hp',rfl⟩:=List.mem_map.1 hn
    exact⟨(hp p hp').1,(hp p hp').2.1⟩
  ·cases q
 ·rintro⟨rfl,hb⟩
  rw[if_pos ?_,List.map_map]
  ·congr 1
   refine List.ext_getElem (by simp) λi h1 h2=>?_
   rw[List.getElem_map]
   have:=hb _ (List.getElem_mem h2)
   exact aNU this.1 (by omega)
  ·intro p hp
   obtain⟨n,hn,rfl⟩:=List.mem_map.1 hp
   have:=hb n hn
   exact(aVF this.1 (by omega)).2 this.2
def kN (most:Nat) (hi:Int) (text:List UInt8):Option (List Int):=if text=[]then some []else if (l7 32 text).length<=most then nM hi (l7 32 text)else none
theorem aGM (w:List UInt8):∀ l:List Int,Go.Lib.join (w::l.map Go.Lib.itoa) [32]=w++eU l
 | []=>by rw[List.map_nil,Go.Lib.join_one];simp[eU]
 |n::l=>by rw[List.map_cons,aGJ,aGM (Go.Lib.itoa n) l];simp[eU]
theorem aVG {w:List UInt8} (hw:(32:UInt8)∉w) {l:List Int} (hl:∀ n∈l,0<=n):l7 32 (w++eU l)=w::l.map Go.Lib.itoa:=by
 rw[←aGM,aDT 32 _ (by simp)]
 intro p hp
 rcases List.mem_cons.1 hp with rfl|hp
 ·exact hw
 ·obtain⟨n,hn,rfl⟩:=List.mem_map.1 hp
  exact aS5 (hl n hn) (by decide)
theorem aJE {most:Nat} {hi:Int} {r:List UInt8}:kN most hi r=some []↔r=[]:=by
 rw[kN]
 constructor
 ·intro q
  split at q
  ·assumption
  ·split at q
   ·rw[nM]at q
    split at q
    ·have:=Option.some.inj q
     exact absurd (List.map_eq_nil_iff.1 this) (aQC 32 r)
    ·cases q
   ·cases q
 ·intro q;rw[if_pos q]
set_option maxRecDepth 100000
theorem a2Z {n:Int} (h0:0<=n) (h:n<10):Go.Lib.itoa n=[UInt8.ofNat (48+n).toNat]:=by
 unfold Go.Lib.itoa
 rw[if_neg aA,Go.Lib.decDigits,dif_pos aA,show(48+n).toNat=48+n.toNat from by omega]
theorem a22 {n:Int} (h:10<=n):Go.Lib.itoa n=Go.Lib.itoa (n / 10)++[UInt8.ofNat (48+n%10).toNat]:=by
 unfold Go.Lib.itoa
 rw[if_neg aA,if_neg aA,Go.Lib.decDigits,dif_neg aA,show(48+n%10).toNat=48+n.toNat%10 from by omega,show(n / 10).toNat=n.toNat / 10 from by omega]
theorem wM {u k:Nat} (h:u<10 ^ k) (hk:1<=k):(Go.Lib.decDigits u).length<=k:=by
 induction k generalizing u with
 |zero=>omega
 |succ k ih =>
  rw[Go.Lib.decDigits]
  split
  ·simp
  ·rename_i hu
   rcases a1J k with e|e
   ·subst e;simp at h;omega
   ·have:=ih (u:=u / 10) (by rw[Nat.pow_succ]at h;omega) e
    simp;omega
theorem sB {n:Int} (h0:-9223372036854775808<=n) (h1:n<=9223372036854775807):(Go.Lib.itoa n).length<=21:=by
 unfold Go.Lib.itoa
 split
 ·have:=wM (u:=n.natAbs) (k:=20) aA aA
  simp;omega
 ·have:=wM (u:=n.toNat) (k:=20) aA aA
  omega
@[go_sem] def bK2:List Nat:=[8,17]
@[go_sem] def bK3:Marks:=λid=>match id with|3=>([],(.op 0 (.op 1 (.op 2 (.op 3 (.op 4 (.op 5 (.op 6 (.op 7 (.op 8 (.op 9 (.op 10 .nil))))))))))),[])|_=>([],.nil,[])
theorem aEQ (m:Nat):∀ n:Int,0<=n->n<m->n<=999999999->eX Tryz.prog 53 [I n] (.str (Go.Lib.itoa n)):=by
 induction m with
 |zero=>intro n a b;omega
 |succ m ih =>
 intro n h0 hm hn
 refine eJ 20 a6H bK2 bK3 Tryz.func53 λh=>?_
 simp -dsimp -implicitDefEqProofs only[go_sem,↓reduceIte,Tryz.f53]
 repeat'(with_reducible first|intro _|refine And.intro ?_ ?_)
 all_goals try omega
 ·rw[a2Z h0 jH,IntWalk.i64_in (48+n) aA,IntWalk.u8_in (48+n) aA]
 ·rw[aRL aA,IntWalk.i64_in (n / 10) aA]
  first|refine aG.mk (ih (n / 10) aA aA aA) ?_|refine aD.mk (ih (n / 10) aA aA aA) ?_|refine aG.bC (ih (n / 10) aA aA aA) ?_|refine aD.mk (aZ.dB (ih (n / 10) aA aA aA)) ?_
  simp -dsimp -implicitDefEqProofs only[go_sem,↓reduceIte,Tryz.f53]
  repeat'(with_reducible first|intro _|refine And.intro ?_ ?_)
  all_goals try(first|omega|decide)
  ·have:=sB (n:=n / 10) aA aA
   omega
  ·rw[a22 (n:=n) aA,tY aA,IntWalk.i64_in (48+n%10) aA,IntWalk.u8_in (48+n%10) aA]
theorem aYK {E:Env} {h:Heap} {w:World} (x:LaidIn E h w):Go.Lib.TabIs Tryz.prog w "internal/strconv.uint64pow10" .u64 Go.Lib.pow10Tab :=
 let ⟨_,h1,h2⟩:=x.var (P:=Tryz.prog) (name:="internal/strconv.uint64pow10") xM (u4 ..)
 h1.trans (congrArg some (h2.trans xM))
theorem nZ (n:Int) (h0:-9223372036854775808<=n) (h1:n<=9223372036854775807):eX Tryz.prog 130 [I n,I 10] (.str (Go.Lib.itoa n)) :=
 aVI xM λE h w vs R rl=>by
  match vs,rl with
  | [v0,v1],rl =>
   obtain⟨r0,r1,_⟩:=rl
   rw[fS r0,fS r1]
   refine(Go.Proofs.Tryz.strconv_FormatInt_10 n h0 h1 w (aYK R.laid)).mono λe w' ⟨he,hw⟩=>⟨_,he,λE' h' w'=>.str _ ?_,hw⟩
   have:=sB h0 h1
   simp only[maxLen]
   omega
theorem decimal (n:Int) (h:fZ n):eX Tryz.prog 73 [I n] (.str (Go.Lib.itoa n)):=by
 have h0:=h.1
 have h1:=h.2
 refine eJ 5 aBF cR cC Tryz.func73 λh=>?_
 simp -dsimp -implicitDefEqProofs only[go_sem,↓reduceIte,Tryz.f73]
 first|refine aG.mk (nZ n aA aA) ?_|refine aD.mk (nZ n aA aA) ?_|refine aG.bC (nZ n aA aA) ?_|refine aD.mk (aZ.dB (nZ n aA aA)) ?_
 simp -dsimp -implicitDefEqProofs only[go_sem,↓reduceIte,Tryz.f73]
theorem aYL {E:Env} {h:Heap} {w:World} {sz:Nat} {es:List (List aC)} {t:Bool} {v:Value} (hr:dU E h w (.sl sz es t) v) :
  (es=[]/\∃ a cap,v=.slice a 0 cap)∨∃ b o cap,v=.slice (some ⟨b,o,none⟩) es.length cap/\b<w.heap.size/\es.length<=cap/\∀ i j x,gT es i j=some x->∃ c,w.cell? ⟨b,o+i*sz+j,none⟩=some c/\dU E h w x c:=by
 cases hr with
 |y6 _ _ a cap=>exact .inl ⟨rfl,a,cap,rfl⟩
 |sl _ _ _ b o cap cv hi hcap hmax ht hs hc h1 hr=>exact .inr ⟨b,o,cap,rfl,hi.1,hcap,λi j x q=>⟨_,hc i j x q,hr i j x q⟩⟩
@[go_sem] def bIO:List Nat:=[0,1,4,5,7,8,10,12,13,15,22,29,39,40,41,42,49,63,64,65,66]
theorem bFA (xs:List (List UInt8)) (sep:List UInt8) (hN:xs.length<=140737488355328) (hlen:(Go.Lib.join xs sep).length<=140737488355328):eX Tryz.prog 131 [eQ 1 (λs=>[.str s]) xs,.str sep] (.str (Go.Lib.join xs sep)) :=
 yD xM λE h w vs R rl=>by
  match vs,rl with
  | [v0,v1],rl =>
   obtain⟨r0,r1,_⟩:=rl
   obtain⟨rfl,hl⟩:=jO r1
   have hm:(xs.map λs:List UInt8=>(⟨s.toArray⟩:ByteArray)).map (λb=>b.data.toList)=xs:=by simp[aDB,Function.comp_def]
   have hr:∀ E' h' w',dU E' h' w' (.str (Go.Lib.join xs sep)) (.string ⟨(Go.Lib.join xs sep).toArray⟩):=λ_ _ _=>.str _ aML
   rcases aYL r0 with⟨e,a,cap,rfl⟩|⟨b,o,cap,rfl,hb,hcap,hcs⟩
   ·have e:xs=[]:=by simpa using e
    subst e
    exact(Go.Proofs.Tryz.strings_Join_none a cap ⟨sep.toArray⟩ w).mono λe w' ⟨he,hw⟩=>⟨_,he,hr,hw▸Go.RowKit.Below.refl _ _⟩
   ·rw[iG]at hcap ⊢
    have:=Go.Proofs.Tryz.strings_Join b o cap (xs.map λs:List UInt8=>(⟨s.toArray⟩:ByteArray)) ⟨sep.toArray⟩ w (λj x hx=>by
     simp only[nI,nJ]at hx
     obtain⟨s,hs,rfl⟩:=hx
     obtain⟨c,h1,h2⟩:=hcs j 0 (.str s) (by simp[gT,hs])
     rw[(jO h2).1]at h1
     simpa using h1) hb (by simpa using hN) (by simpa using hcap) (by rw[hm];exact hlen)
    rw[hm,iG]at this
    exact this.mono λe w' ⟨he,hw⟩=>⟨_,he,hr,hw⟩
theorem jY {n:Int} (h:fZ n):(Go.Lib.itoa n).length<=21:=sB (by have:=h.1;omega) (by have:=h.2;omega)
theorem xO:∀ l:List Int,l≠[]->32::Go.Lib.join (l.map Go.Lib.itoa) [32]=eU l
 | [],h=>(h rfl).elim
 | [n],_=>by simp[eU,Go.Lib.join_one]
 |n::m::l,_=>by
  have:=xO (m::l) cK
  rw[eU,←this]
  simp[Go.Lib.join,List.intercalate]
theorem aGQ:∀ l:List Int,(∀ n∈l,fZ n)->(eU l).length<=22*l.length
 | [],_=>by simp[eU]
 |n::l,h=>by
  have:=aGQ l λn q=>h n (rM _ q)
  have:=jY (h n (u4 ..))
  simp[eU];omega
theorem sZ:∀ l:List Int,aYG 999999999 l->(eU l).length<=22*l.length
 | [],_=>j4 _
 |n::l,h=>by
  have h1:=sZ l λm q=>h m (.tail _ q)
  have h2:=h n (.head _)
  have h3:=sB (n:=n) aA aA
  rw[eU]
  simp only[al3,k8]
  omega
theorem aCW (l:List Int) (h:∀ n∈l,fZ n):(Go.Lib.join (l.map Go.Lib.itoa) [32]).length<=22*l.length:=by
 by_cases e:l=[]
 ·subst e;simp[Go.Lib.join_nil]
 ·have:=aGQ l h
  rw[←xO l e]at this
  simp at this ⊢;omega
end Go.Hl
namespace Go.Proofs
open Go.Shelf
def Tryz.aNX:Go.Shelf.Ren:=⟨fun|145=>133|220=>177|219=>202|217=>217|225=>218|224=>219|267=>220|266=>225|314=>226|n=>n,fun|9=>9|4=>4|59=>188|3=>3|5=>5|46=>197|146=>248|51=>237|n=>n,fun|1=>1|n=>n⟩
theorem Tryz.a23:Go.Proofs.Lays.n145 Tryz.prog Tryz.aNX:={
 mixed:=by kernel_rfl
 f145:=Tryz.func133.trans (congrArg some (by kernel_rfl))
 f217:=Tryz.func217.trans (congrArg some (by kernel_rfl))
 f219:=Tryz.func202.trans (congrArg some (by kernel_rfl))
 f220:=Tryz.func177.trans (congrArg some (by kernel_rfl))
 f224:=Tryz.func219.trans (congrArg some (by kernel_rfl))
 f225:=Tryz.func218.trans (congrArg some (by kernel_rfl))
 f266:=Tryz.func225.trans (congrArg some (by kernel_rfl))
 f267:=Tryz.func220.trans (congrArg some (by kernel_rfl))
 f314:=Tryz.func226.trans (congrArg some (by kernel_rfl))
 t3:=Tryz.underlying3
 a3:=Tryz.isAgg3
 z3:=Tryz.sizeOf3
 v3:=Tryz.zeroValue3
 t4:=Tryz.underlying4
 a4:=Tryz.isAgg4
 z4:=Tryz.sizeOf4
 v4:=Tryz.zeroValue4
 t5:=Tryz.underlying5
 a5:=Tryz.isAgg5
 z5:=Tryz.sizeOf5
 v5:=Tryz.zeroValue5
 t9:=Tryz.underlying9
 a9:=Tryz.isAgg9
 z9:=Tryz.sizeOf9
 v9:=Tryz.zeroValue9
 t46:=Tryz.underlying197
 a46:=Tryz.isAgg197
 z46:=Tryz.sizeOf197
 v46:=Tryz.zeroValue197
 t51:=Tryz.underlying237
 a51:=Tryz.isAgg237
 z51:=Tryz.sizeOf237
 v51:=Tryz.zeroValue237
 t59:=Tryz.underlying188
 a59:=Tryz.isAgg188
 z59:=Tryz.sizeOf188
 v59:=Tryz.zeroValue188
 t146:=Tryz.underlying248
 a146:=Tryz.isAgg248
 z146:=Tryz.sizeOf248
 v146:=Tryz.zeroValue248
 g1:=by kernel_rfl }
open Go.RowKit Go.Lib in
theorem Tryz.strings_Cut (s sep:ByteArray) (m:Int) (w:World) (hs:s.size<4294967281) (hm:w.cell? ⟨1,0,none⟩=some (.int .i64 m)) :
  Calls Tryz.prog 133 #[.string s,.string sep] w λe w'=>e=.returned (.tuple #[.string ⟨(Lib.cut s.data.toList sep.data.toList).1.toArray⟩,.string ⟨(Lib.cut s.data.toList sep.data.toList).2.1.toArray⟩,.bool (Lib.cut s.data.toList sep.data.toList).2.2])/\∃ n,w'=w.drewN n:=Any.strings_Cut Tryz.a23 s sep m w hs hm
def Tryz.aNY:Go.Shelf.Ren:=⟨fun|146=>78|221=>132|268=>174|138=>175|143=>176|195=>199|197=>200|218=>201|219=>202|260=>216|217=>217|225=>218|224=>219|267=>220|266=>225|314=>226|n=>n,fun|9=>9|31=>127|3=>3|4=>4|0=>0|105=>229|21=>21|5=>5|46=>197|119=>244|139=>247|138=>246|146=>248|51=>237|n=>n,fun|1=>1|3=>2|4=>3|n=>n⟩
theorem Tryz.a25:Go.Proofs.Lays.n146 Tryz.prog Tryz.aNY:={
 mixed:=by kernel_rfl
 f138:=Tryz.func175.trans (congrArg some (by kernel_rfl))
 f143:=Tryz.func176.trans (congrArg some (by kernel_rfl))
 f146:=Tryz.func78.trans (congrArg some (by kernel_rfl))
 f195:=Tryz.func199.trans (congrArg some (by kernel_rfl))
 f197:=Tryz.func200.trans (congrArg some (by kernel_rfl))
 f217:=Tryz.func217.trans (congrArg some (by kernel_rfl))
 f218:=Tryz.func201.trans (congrArg some (by kernel_rfl))
 f219:=Tryz.func202.trans (congrArg some (by kernel_rfl))
 f221:=Tryz.func132.trans (congrArg some (by kernel_rfl))
 f224:=Tryz.func219.trans (congrArg some (by kernel_rfl))
 f225:=Tryz.func218.trans (congrArg some (by kernel_rfl))
 f260:=Tryz.func216.trans (congrArg some (by kernel_rfl))
 f266:=Tryz.func225.trans (congrArg some (by kernel_rfl))
 f267:=Tryz.func220.trans (congrArg some (by kernel_rfl))
 f268:=Tryz.func174.trans (congrArg some (by kernel_rfl))
 f314:=Tryz.func226.trans (congrArg some (by kernel_rfl))
 t0:=Tryz.underlying0
 a0:=Tryz.isAgg0
 z0:=Tryz.sizeOf0
 v0:=Tryz.zeroValue0
 t3:=Tryz.underlying3
 a3:=Tryz.isAgg3
 z3:=Tryz.sizeOf3
 v3:=Tryz.zeroValue3
 t4:=Tryz.underlying4
 a4:=Tryz.isAgg4
 z4:=Tryz.sizeOf4
 v4:=Tryz.zeroValue4
 t5:=Tryz.underlying5
 a5:=Tryz.isAgg5
 z5:=Tryz.sizeOf5
 v5:=Tryz.zeroValue5
 t9:=Tryz.underlying9
 a9:=Tryz.isAgg9
 z9:=Tryz.sizeOf9
 v9:=Tryz.zeroValue9
 t21:=Tryz.underlying21
 a21:=Tryz.isAgg21
 z21:=Tryz.sizeOf21
 v21:=Tryz.zeroValue21
 t31:=Tryz.underlying127
 a31:=Tryz.isAgg127
 z31:=Tryz.sizeOf127
 v31:=Tryz.zeroValue127
 t46:=Tryz.underlying197
 a46:=Tryz.isAgg197
 z46:=Tryz.sizeOf197
 v46:=Tryz.zeroValue197
 t51:=Tryz.underlying237
 a51:=Tryz.isAgg237
 z51:=Tryz.sizeOf237
 v51:=Tryz.zeroValue237
 t105:=Tryz.underlying229
 a105:=Tryz.isAgg229
 z105:=Tryz.sizeOf229
 v105:=Tryz.zeroValue229
 t119:=Tryz.underlying244
 a119:=Tryz.isAgg244
 z119:=Tryz.sizeOf244
 t138:=Tryz.underlying246
 a138:=Tryz.isAgg246
 z138:=Tryz.sizeOf246
 v138:=Tryz.zeroValue246
 t139:=Tryz.underlying247
 a139:=Tryz.isAgg247
 z139:=Tryz.sizeOf247
 v139:=Tryz.zeroValue247
 t146:=Tryz.underlying248
 a146:=Tryz.isAgg248
 z146:=Tryz.sizeOf248
 v146:=Tryz.zeroValue248
 g1:=by kernel_rfl
 g3:=by kernel_rfl
 g4:=by kernel_rfl }
open Go.RowKit Go.Lib in
theorem Tryz.strings_Split (s sep:ByteArray) (m:Int) (w:World) (hs:s.size<4294967281) (hm:w.cell? ⟨1,0,none⟩=some (.int .i64 m)) (h1:1<=sep.size) :
  Calls Tryz.prog 78 #[.string s,.string sep] w λe w' =>
   e=.returned (.slice (some ⟨w.heap.size,0,none⟩) (Lib.countB s sep+1) (Lib.countB s sep+1))/\w'=w.alloc (.cells ((Lib.splitB sep 0 (Lib.countB s sep) s).map Value.string).toArray 9):=Any.strings_Split Tryz.a25 (by kernel_rfl) s sep m w hs hm h1
def Tryz.aKU:Go.Shelf.Ren:=⟨fun|174=>203|247=>221|245=>222|287=>227|279=>228|280=>229|281=>230|282=>231|321=>232|322=>233|316=>234|171=>236|205=>235|243=>237|246=>172|283=>194|284=>195|285=>196|286=>197|129=>211|317=>210|318=>212|319=>213|320=>214|337=>223|338=>224|n=>n,fun|9=>9|3=>3|2=>2|75=>124|85=>232|4=>4|167=>250|5=>5|53=>141|175=>251|46=>197|168=>253|37=>22|0=>0|210=>261|21=>21|127=>185|145=>265|143=>263|171=>223|173=>226|212=>236|51=>237|20=>20|213=>238|232=>256|233=>257|80=>130|n=>n,fun|15=>6|16=>7|17=>0|18=>4|19=>5|n=>n⟩
theorem Tryz.aGR:Go.Proofs.LaysC.n174 Tryz.prog Tryz.aKU:={
 mixed:=by kernel_rfl
 f129:=Tryz.func211.trans (congrArg some (by kernel_rfl))
 f171:=Tryz.func236.trans (congrArg some (by kernel_rfl))
 f174:=Tryz.func203.trans (congrArg some (by kernel_rfl))
 f205:=Tryz.func235.trans (congrArg some (by kernel_rfl))
 f243:=Tryz.func237.trans (congrArg some (by kernel_rfl))
 f245:=Tryz.func222.trans (congrArg some (by kernel_rfl))
 f246:=Tryz.func172.trans (congrArg some (by kernel_rfl))
 f247:=Tryz.func221.trans (congrArg some (by kernel_rfl))
 f279:=Tryz.func228.trans (congrArg some (by kernel_rfl))
 f280:=Tryz.func229.trans (congrArg some (by kernel_rfl))
 f281:=Tryz.func230.trans (congrArg some (by kernel_rfl))
 f282:=Tryz.func231.trans (congrArg some (by kernel_rfl))
 f283:=Tryz.func194.trans (congrArg some (by kernel_rfl))
 f284:=Tryz.func195.trans (congrArg some (by kernel_rfl))
 f285:=Tryz.func196.trans (congrArg some (by kernel_rfl))
 f286:=Tryz.func197.trans (congrArg some (by kernel_rfl))
 f287:=Tryz.func227.trans (congrArg some (by kernel_rfl))
 f316:=Tryz.func234.trans (congrArg some (by kernel_rfl))
 f317:=Tryz.func210.trans (congrArg some (by kernel_rfl))
 f318:=Tryz.func212.trans (congrArg some (by kernel_rfl))
 f319:=Tryz.func213.trans (congrArg some (by kernel_rfl))
 f320:=Tryz.func214.trans (congrArg some (by kernel_rfl))
 f321:=Tryz.func232.trans (congrArg some (by kernel_rfl))
 f322:=Tryz.func233.trans (congrArg some (by kernel_rfl))
 f337:=Tryz.func223.trans (congrArg some (by kernel_rfl))
 f338:=Tryz.func224.trans (congrArg some (by kernel_rfl))
 t0:=Tryz.underlying0
 a0:=Tryz.isAgg0
 z0:=Tryz.sizeOf0
 v0:=Tryz.zeroValue0
 t2:=Tryz.underlying2
 a2:=Tryz.isAgg2
 z2:=Tryz.sizeOf2
 v2:=Tryz.zeroValue2
 t3:=Tryz.underlying3
 a3:=Tryz.isAgg3
 z3:=Tryz.sizeOf3
 v3:=Tryz.zeroValue3
 t4:=Tryz.underlying4
 a4:=Tryz.isAgg4
 z4:=Tryz.sizeOf4
 v4:=Tryz.zeroValue4
 t5:=Tryz.underlying5
 a5:=Tryz.isAgg5
 z5:=Tryz.sizeOf5
 v5:=Tryz.zeroValue5
 t9:=Tryz.underlying9
 a9:=Tryz.isAgg9
 z9:=Tryz.sizeOf9
 v9:=Tryz.zeroValue9
 t20:=Tryz.underlying20
 a20:=Tryz.isAgg20
 z20:=Tryz.sizeOf20
 v20:=Tryz.zeroValue20
 t21:=Tryz.underlying21
 a21:=Tryz.isAgg21
 z21:=Tryz.sizeOf21
 v21:=Tryz.zeroValue21
 t37:=Tryz.underlying22
 a37:=Tryz.isAgg22
 z37:=Tryz.sizeOf22
 v37:=Tryz.zeroValue22
 t46:=Tryz.underlying197
 a46:=Tryz.isAgg197
 z46:=Tryz.sizeOf197
 v46:=Tryz.zeroValue197
 t51:=Tryz.underlying237
 a51:=Tryz.isAgg237
 z51:=Tryz.sizeOf237
 v51:=Tryz.zeroValue237
 t53:=Tryz.underlying141
 a53:=Tryz.isAgg141
 z53:=Tryz.sizeOf141
 v53:=Tryz.zeroValue141
 t75:=Tryz.underlying124
 a75:=Tryz.isAgg124
 z75:=Tryz.sizeOf124
 v75:=Tryz.zeroValue124
 t85:=Tryz.underlying232
 a85:=Tryz.isAgg232
 z85:=Tryz.sizeOf232
 v85:=Tryz.zeroValue232
 t127:=Tryz.underlying185
 a127:=Tryz.isAgg185
 z127:=Tryz.sizeOf185
 v127:=Tryz.zeroValue185
 t143:=Tryz.underlying263
 a143:=Tryz.isAgg263
 z143:=Tryz.sizeOf263
 v143:=Tryz.zeroValue263
 t145:=Tryz.underlying265
 a145:=Tryz.isAgg265
 z145:=Tryz.sizeOf265
 v145:=Tryz.zeroValue265
 t167:=Tryz.underlying250
 a167:=Tryz.isAgg250
 z167:=Tryz.sizeOf250
 v167:=Tryz.zeroValue250
 t168:=Tryz.underlying253
 a168:=Tryz.isAgg253
 z168:=Tryz.sizeOf253
 v168:=Tryz.zeroValue253
 t171:=Tryz.underlying223
 a171:=Tryz.isAgg223
 z171:=Tryz.sizeOf223
 v171:=Tryz.zeroValue223
 t173:=Tryz.underlying226
 a173:=Tryz.isAgg226
 z173:=Tryz.sizeOf226
 v173:=Tryz.zeroValue226
 t175:=Tryz.underlying251
 a175:=Tryz.isAgg251
 z175:=Tryz.sizeOf251
 v175:=Tryz.zeroValue251
 t210:=Tryz.underlying261
 a210:=Tryz.isAgg261
 z210:=Tryz.sizeOf261
 v210:=Tryz.zeroValue261
 t212:=Tryz.underlying236
 a212:=Tryz.isAgg236
 z212:=Tryz.sizeOf236
 v212:=Tryz.zeroValue236
 t213:=Tryz.underlying238
 a213:=Tryz.isAgg238
 z213:=Tryz.sizeOf238
 t232:=Tryz.underlying256
 a232:=Tryz.isAgg256
 z232:=Tryz.sizeOf256
 v232:=Tryz.zeroValue256
 t233:=Tryz.underlying257
 a233:=Tryz.isAgg257
 z233:=Tryz.sizeOf257
 v233:=Tryz.zeroValue257
 g15:=by kernel_rfl
 g16:=by kernel_rfl
 g17:=by kernel_rfl
 g18:=by kernel_rfl
 g19:=by kernel_rfl
 t80:=Tryz.underlying130
 a80:=Tryz.isAgg130
 z80:=Tryz.sizeOf130
 v80:=Tryz.zeroValue130
 i0:=by kernel_rfl
 i2:=by kernel_rfl
 i3:=by kernel_rfl
 i4:=by kernel_rfl
 i5:=by kernel_rfl
 i9:=by kernel_rfl
 i20:=by kernel_rfl
 i21:=by kernel_rfl
 i37:=by kernel_rfl
 i46:=by kernel_rfl
 i51:=by kernel_rfl
 i53:=by kernel_rfl
 i75:=by kernel_rfl
 i80:=by kernel_rfl
 i85:=by kernel_rfl
 i127:=by kernel_rfl
 i143:=by kernel_rfl
 i145:=by kernel_rfl
 i167:=by kernel_rfl
 i168:=by kernel_rfl
 i171:=by kernel_rfl
 i173:=by kernel_rfl
 i175:=by kernel_rfl
 i210:=by kernel_rfl
 i212:=by kernel_rfl
 i232:=by kernel_rfl
 i233:=by kernel_rfl
 m15:=by kernel_rfl
 m16:=by kernel_rfl
 m17:=by kernel_rfl
 m18:=by kernel_rfl
 m19:=by kernel_rfl
 c0:=by kernel_rfl
 c2:=by kernel_rfl
 c3:=by kernel_rfl
 c4:=by kernel_rfl
 c5:=by kernel_rfl
 c9:=by kernel_rfl
 c20:=by kernel_rfl
 c21:=by kernel_rfl
 c37:=by kernel_rfl
 c46:=by kernel_rfl
 c51:=by kernel_rfl
 c53:=by kernel_rfl
 c75:=by kernel_rfl
 c80:=by kernel_rfl
 c85:=by kernel_rfl
 c127:=by kernel_rfl
 c143:=by kernel_rfl
 c145:=by kernel_rfl
 c167:=by kernel_rfl
 c168:=by kernel_rfl
 c171:=by kernel_rfl
 c173:=by kernel_rfl
 c175:=by kernel_rfl
 c210:=by kernel_rfl
 c212:=by kernel_rfl
 c213:=by kernel_rfl
 c232:=by kernel_rfl
 c233:=by kernel_rfl }
open Go.RowKit in
theorem Tryz.strconv_ParseInt_10_at64_ok (s:ByteArray) (hmax:s.size<=9223372036854775806) (v:Int) (h:Lib.parseIntB 64 s.data.toList=.ok v) (w:World) :
  Calls Tryz.prog 203 #[.string s,.int .i64 10,.int .i64 64] w λe w'=>e=.returned (.tuple #[.int .i64 v,.nilIface])/\(w'=w∨∃ t,w'=Lib.bytesWorld w 5 t):=Any.strconv_ParseInt_10_at64_ok Tryz.aGR s hmax v h w
open Go.RowKit in
theorem Tryz.strconv_ParseInt_10_at64_syntax (s:ByteArray) (hlim:s.size<=281474976710656) (h:Lib.parseIntB 64 s.data.toList=Go.Lib.NumEnd.syntax) (ev:Value) (w:World) (hv:w.cell? ⟨6,0,none⟩=some ev) (rV:ev=.nilIface∨∃ te pe,ev=.iface te pe) :
  Calls Tryz.prog 203 #[.string s,.int .i64 10,.int .i64 64] w λe w'=>∃ N,e=.returned (.tuple #[.int .i64 (0),.iface 253 (.pointer (some ⟨N,0,none⟩))])/\w.heap.size<=N/\w'.heap[N]?=some (.cells #[.string ⟨#[80,97,114,115,101,73,110,116]⟩,.string s,ev] 261 (0,0))/\Below w.heap.size w w':=Any.strconv_ParseInt_10_at64_syntax Tryz.aGR s hlim h ev w hv rV
open Go.RowKit in
theorem Tryz.strconv_ParseInt_10_at64_range (s:ByteArray) (hlim:s.size<=281474976710656) (h:Lib.parseIntB 64 s.data.toList=.range) (ev:Value) (w:World) (hv:w.cell? ⟨7,0,none⟩=some ev) (rV:ev=.nilIface∨∃ te pe,ev=.iface te pe) :
  Calls Tryz.prog 203 #[.string s,.int .i64 10,.int .i64 64] w λe w'=>∃ N,e=.returned (.tuple #[.int .i64 (Lib.intSat 64 s.data.toList),.iface 253 (.pointer (some ⟨N,0,none⟩))])/\w.heap.size<=N/\w'.heap[N]?=some (.cells #[.string ⟨#[80,97,114,115,101,73,110,116]⟩,.string s,ev] 261 (0,0))/\Below w.heap.size w w':=Any.strconv_ParseInt_10_at64_range Tryz.aGR s hlim h ev w hv rV
def Tryz.aNZ:Go.Shelf.Ren:=⟨fun|109=>135|n=>n,fun|31=>127|9=>9|3=>3|0=>0|4=>4|n=>n,fun|n=>n⟩
theorem Tryz.aS7:Go.Proofs.Lays.n109 Tryz.prog Tryz.aNZ:={
 mixed:=by kernel_rfl
 f109:=Tryz.func135.trans (congrArg some (by kernel_rfl))
 t0:=Tryz.underlying0
 a0:=Tryz.isAgg0
 z0:=Tryz.sizeOf0
 v0:=Tryz.zeroValue0
 t3:=Tryz.underlying3
 a3:=Tryz.isAgg3
 z3:=Tryz.sizeOf3
 v3:=Tryz.zeroValue3
 t4:=Tryz.underlying4
 a4:=Tryz.isAgg4
 z4:=Tryz.sizeOf4
 v4:=Tryz.zeroValue4
 t9:=Tryz.underlying9
 a9:=Tryz.isAgg9
 z9:=Tryz.sizeOf9
 v9:=Tryz.zeroValue9
 t31:=Tryz.underlying127
 a31:=Tryz.isAgg127
 z31:=Tryz.sizeOf127
 v31:=Tryz.zeroValue127 }
open Go.Lib in
theorem Tryz.slices_Index_string (b off n c:Nat) (zs:List ByteArray) (x:ByteArray) (w:World) (hz:n<=zs.length) (hbig:n<=9223372036854775807) (hc:∀ j,j<zs.length->w.cell? ⟨b,off+j,none⟩=some (.string (zs.getD j ByteArray.empty))) :
  Calls Tryz.prog 135 #[.slice (some ⟨b,off,none⟩) n c,.string x] w λe w'=>e=.returned (.int .i64 (Lib.idxOfS (zs.take n) x))/\w'=w:=Any.slices_Index_string Tryz.aS7 b off n c zs x w hz hbig hc
open Go.Lib in
theorem Tryz.slices_Index_string_empty (a:Option Addr) (c:Nat) (x:ByteArray) (w:World) :
  Calls Tryz.prog 135 #[.slice a 0 c,.string x] w λe w'=>e=.returned (.int .i64 (Lib.idxOfS [] x))/\w'=w:=Any.slices_Index_string_empty Tryz.aS7 a c x w
end Go.Proofs
namespace Go.Hl
open Go.Proofs
set_option linter.unusedVariables false
set_option linter.unusedSimpArgs false
theorem aN0 {E:Env} {h:Heap} {w:World} (x:LaidIn E h w):∃ m,w.cell? ⟨1,0,none⟩=some (.int .i64 m):=by
 obtain⟨cs,h1,m,h2⟩:=x.cell (g:=1) (Q:=λcs=>∃ m,cs[0]?=some (.int .i64 m)) (by unfold kR;exact rM _ (rM _ (rM _ u4)))
 exact⟨m,(h1 0).trans h2⟩
theorem aYM {E:Env} {h:Heap} {w:World} (x:LaidIn E h w):∃ v,w.cell? ⟨6,0,none⟩=some v/\(v=.nilIface∨∃ te pe,v=.iface te pe):=by
 obtain⟨cs,h1,v,h2,h3⟩:=x.cell (g:=6) (Q:=λcs=>∃ v,cs[0]?=some v/\(v=.nilIface∨∃ te pe,v=.iface te pe)) (by unfold kR;exact rM _ u4)
 exact⟨v,(h1 0).trans h2,h3⟩
theorem aYN {E:Env} {h:Heap} {w:World} (x:LaidIn E h w):∃ v,w.cell? ⟨7,0,none⟩=some v/\(v=.nilIface∨∃ te pe,v=.iface te pe):=by
 obtain⟨cs,h1,v,h2,h3⟩:=x.cell (g:=7) (Q:=λcs=>∃ v,cs[0]?=some v/\(v=.nilIface∨∃ te pe,v=.iface te pe)) (by unfold kR;exact rM _ (rM _ u4))
 exact⟨v,(h1 0).trans h2,h3⟩
theorem aN1 (B:Nat) (w:World) (n:Nat):Go.RowKit.Below B w (w.drewN n):=⟨rfl,rfl,rfl,j4 _,λ_ _=>rfl⟩
theorem s4 (a sep:List UInt8):(Go.Lib.cut a sep).1.length<=a.length/\(Go.Lib.cut a sep).2.1.length<=a.length:=by
 unfold Go.Lib.cut
 split
 ·simp only[qI,List.length_drop];omega
 ·simp
theorem cU.eW {E:Env} {h:Heap} {w:World} {xs:List aC} {vs:List Value} (r:cU E h w xs vs):dU E h w (.eW xs) (.tuple vs.toArray):=.eW _ _ r.length r.get
@[go_sem] def bIP:List Nat:=[0,1,4,5,6]
theorem aQF (a sep:List UInt8) (ha:a.length<4294967281):eX Tryz.prog 133 [.str a,.str sep] (.eW [.str (Go.Lib.cut a sep).1,.str (Go.Lib.cut a sep).2.1,.bool (Go.Lib.cut a sep).2.2]) :=
 yD xM λE h w vs R rl=>by
  match vs,rl with
  | [v0,v1],rl =>
   obtain⟨r0,r1,_⟩:=rl
   obtain⟨rfl,h0⟩:=jO r0
   obtain⟨rfl,h1⟩:=jO r1
   obtain⟨m,hm⟩:=aN0 R.laid
   have hl:=s4 a sep
   refine(Go.Proofs.Tryz.strings_Cut ⟨a.toArray⟩ ⟨sep.toArray⟩ m w (by simpa[ByteArray.size]using ha) hm).mono λe w' ⟨he,n,hw⟩=>⟨_,he,λE' h' w'=>?_,hw▸aN1 _ w n⟩
   exact cU.eW (xs:=[_,_,_]) (vs:=[_,_,_]) ⟨.str _ aML,.str _ aML,.bool _,trivial⟩
def aN2 (s:List UInt8):aC:=match Go.Lib.parseIntB 64 s with | .ok _=>.gX|_=>.iface 253 .any
@[go_sem] def bIQ:List Nat:=[0,1,2,6,7,8,17]
theorem aYO (s:List UInt8) (hs:s.length<=281474976710656):eX Tryz.prog 203 [.str s,I 10,I 64] (.eW [I (rdN s),aN2 s]) :=
 yD xM λE h w vs R rl=>by
  match vs,rl with
  | [v0,v1,v2],rl =>
   obtain⟨r0,r1,r2,_⟩:=rl
   obtain⟨rfl,h0⟩:=jO r0
   rw[fS r1,fS r2]
   have hz:(⟨s.toArray⟩:ByteArray).size<=281474976710656:=by simpa[ByteArray.size]using hs
   unfold rdN aN2
   cases e:Go.Lib.parseIntB 64 s with
   |ok v =>
    refine(Go.Proofs.Tryz.strconv_ParseInt_10_at64_ok ⟨s.toArray⟩ aA v e w).mono λe w' ⟨he,hw⟩=>⟨_,he,λE' h' w'=>cU.eW (xs:=[_,_]) (vs:=[_,_]) ⟨.int _ _,.gX,trivial⟩,?_⟩
    rcases hw with rfl|⟨t,rfl⟩
    ·exact Go.RowKit.Below.refl _ _
    ·exact⟨rfl,rfl,rfl,by rw[Go.Lib.bytesWorld_size];omega,λj hj=>Go.Lib.bytesWorld_at_old w _ t j hj⟩
   |range =>
    obtain⟨ev,hv,rV⟩:=aYN R.laid
    exact(Go.Proofs.Tryz.strconv_ParseInt_10_at64_range ⟨s.toArray⟩ hz e _ w hv rV).mono λe w' ⟨N,he,_,_,hw⟩=>⟨_,he,λE' h' w'=>cU.eW (xs:=[_,_]) (vs:=[_,_]) ⟨.int _ _,.iface _ _ _ (.any _),trivial⟩,hw⟩
   | _ =>
    obtain⟨ev,hv,rV⟩:=aYM R.laid
    exact(Go.Proofs.Tryz.strconv_ParseInt_10_at64_syntax ⟨s.toArray⟩ hz e _ w hv rV).mono λe w' ⟨N,he,_,_,hw⟩=>⟨_,he,λE' h' w'=>cU.eW (xs:=[_,_]) (vs:=[_,_]) ⟨.int _ _,.iface _ _ _ (.any _),trivial⟩,hw⟩
theorem aYP {P:Program} {f:FuncId} {args:List aC} {l:List (List UInt8)} (hc:eT P f=true) (hlen:l.length<=maxLen) (hs:∀ s∈l,s.length<=maxLen)
  (H:∀ E h w vs,Rel E h w->cU E h w args vs->Calls P f vs.toArray w λe w'=>∃ t,e=.returned (.slice (some ⟨w.heap.size,0,none⟩) l.length l.length)/\w'=w.alloc (.cells (l.map λs=>Value.string ⟨s.toArray⟩).toArray t)):eX P f args (eQ 1 (λs=>[.str s]) l):=λh =>
 ⟨hc,λE w vs R rl=>(H E h w vs R rl).mono λe w' q=>by
  obtain⟨t,rfl,rfl⟩:=q
  have bel:Go.RowKit.Below w.heap.size w (w.alloc (.cells (l.map λs=>Value.string ⟨s.toArray⟩).toArray t)):=(Go.RowKit.Below.refl _ w).alloc (j4 _) _
  have hb:(w.alloc (.cells (l.map λs=>Value.string ⟨s.toArray⟩).toArray t)).heap[w.heap.size]?=some (.cells (l.map λs=>Value.string ⟨s.toArray⟩).toArray t):=by
   show(w.heap.push _)[w.heap.size]?=_
   simp
  refine⟨_,h,E,⟨rfl,rfl⟩,aGP bel,aJF R bel,?_⟩
  have hat:∀ (i j:Nat) (x:aC),gT (l.map λs=>[aC.str s]) i j=some x->∃ s,l[i]?=some s/\j=0/\x=.str s:=λi j x hx=>by
   obtain⟨e,he,hj⟩:=kF hx
   rw[nI]at he
   obtain⟨s,hs,rfl⟩:=nJ.1 he
   cases j with
   |zero=>exact⟨s,hs,rfl,(eO hj).symm⟩
   |succ j=>simp at hj
  have:=dU.sl (E:=E) (h:=h) (w:=w.alloc (.cells (l.map λs=>Value.string ⟨s.toArray⟩).toArray t)) 1 (l.map λs=>[aC.str s]) false w.heap.size 0 l.length (λi _=>((l.map λs=>Value.string ⟨s.toArray⟩)[i]?).getD .nilFunc) ⟨by show _<(w.heap.push _).size;simp,λn o hn ho hf=>cV _ (R.lt n o _ hn ho hf)⟩ cK hlen (λq=>by cases q) (λe he=>by obtain⟨s,_,rfl⟩:=rC.1 he;rfl)
   (λi j x hx=>by
    obtain⟨s,h1,rfl,rfl⟩:=hat i j x hx
    simp only[World.cell?,hb]
    simp[h1])
   (λi j x hx=>by
    obtain⟨s,h1,rfl,rfl⟩:=hat i j x hx
    simp[h1,Value.oneCell'])
   (λi j x hx=>by
    obtain⟨s,h1,rfl,rfl⟩:=hat i j x hx
    simp only[nI,h1,aD4,aD5]
    exact .str s (hs s (al6 h1)))
  rw[iG]at this
  exact this⟩
theorem aBN (c:UInt8) (a:List UInt8):(l7 c a).length<=a.length+1/\∀ s∈l7 c a,s.length<=a.length:=by
 induction hn:a.length using Nat.strongRecOn generalizing a with
 | _ n ih =>
  rcases uL c a with h|⟨p,r,h1,rfl⟩
  ·rw[yB a h];exact⟨by simp,λs hs=>by rw[nQ.1 hs];omega⟩
  ·rw[vL p r h1]
   obtain⟨h2,h3⟩:=ih r.length (by rw[←hn];simp;omega) r rfl
   simp only[k8,al3]at hn
   refine⟨by simp only[al3];omega,λs hs=>?_⟩
   rcases oH.1 hs with rfl|hs
   ·omega
   ·have:=h3 s hs;omega
theorem aDW (a:List UInt8) (c:UInt8):(Go.Lib.splitB ⟨[c].toArray⟩ 0 (Go.Lib.countB ⟨a.toArray⟩ ⟨[c].toArray⟩) ⟨a.toArray⟩).map Value.string=(l7 c a).map λs=>Value.string ⟨s.toArray⟩:=by
 have h1:=Go.Lib.splitB_data ⟨[c].toArray⟩ 0 (Go.Lib.countB ⟨a.toArray⟩ ⟨[c].toArray⟩) ⟨a.toArray⟩
 have h2:Go.Lib.splitK [c] 0 (Go.Lib.countB ⟨a.toArray⟩ ⟨[c].toArray⟩) a=l7 c a:=aVE c a
 rw[←h2,←h1,aDB]
 refine aUT λb _=>?_
 simp
theorem aYQ (a:List UInt8) (c:UInt8) (ha:a.length<4294967281):eX Tryz.prog 78 [.str a,.str [c]] (eQ 1 (λs=>[.str s]) (l7 c a)):=by
 have hl:=aBN c a
 refine aYP xM aML (λs hs=>by have:=hl.2 s hs;simp only[maxLen];omega) λE h w vs R rl=>?_
 match vs,rl with
 | [v0,v1],rl =>
  obtain⟨r0,r1,_⟩:=rl
  obtain⟨rfl,h0⟩:=jO r0
  obtain⟨rfl,h1⟩:=jO r1
  obtain⟨m,hm⟩:=aN0 R.laid
  have hn:Go.Lib.countB ⟨a.toArray⟩ ⟨[c].toArray⟩+1=(l7 c a).length:=by
   have h2:=Go.Lib.splitB_all ⟨[c].toArray⟩ (by show 1<=[c].length;simp) 0 _ ⟨a.toArray⟩ rfl
   have h3:=congrArg List.length (aDW a c)
   rw[iG,iG]at h3
   rw[←h3];exact h2.symm
  refine(Go.Proofs.Tryz.strings_Split ⟨a.toArray⟩ ⟨[c].toArray⟩ m w (by simpa[ByteArray.size]using ha) hm (by show 1<=[c].length;simp)).mono λe w' ⟨he,hw⟩=>⟨9,?_,?_⟩
  ·rw[he,hn]
  ·rw[hw,aDW]
theorem aGS (l:List (List UInt8)) (t:Bool) (x:List UInt8) (hl:l.length<=1048576):eX Tryz.prog 135 [.sl 1 (l.map λs=>[.str s]) t,.str x] (I (Go.Lib.idxOfS (l.map λs=>⟨s.toArray⟩) ⟨x.toArray⟩)) :=
 yD xM λE h w vs R rl=>by
  match vs,rl with
  | [v0,v1],rl =>
   obtain⟨r0,r1,_⟩:=rl
   obtain⟨rfl,h1⟩:=jO r1
   rcases aYL r0 with⟨e,a,cap,rfl⟩|⟨b,o,cap,rfl,hb,hcap,hcs⟩
   ·have e:l=[]:=by simpa using e
    subst e
    exact(Go.Proofs.Tryz.slices_Index_string_empty a cap ⟨x.toArray⟩ w).mono λe w' ⟨he,hw⟩=>⟨_,he,λ_ _ _=>.int _ _,hw▸Go.RowKit.Below.refl _ _⟩
   ·rw[iG]at hcap ⊢
    have:=Go.Proofs.Tryz.slices_Index_string b o l.length cap (l.map λs=>(⟨s.toArray⟩:ByteArray)) ⟨x.toArray⟩ w cK aA (λj hj=>by
     rw[iG]at hj
     obtain⟨c,h1,h2⟩:=hcs j 0 (.str l[j]) (by simp[gT,cP hj])
     rw[(jO h2).1]at h1
     rw[gA,nI,cP hj]
     simpa using h1)
    rw[show(l.map λs=>(⟨s.toArray⟩:ByteArray)).take l.length=l.map λs=>(⟨s.toArray⟩:ByteArray)from kC cK]at this
    exact this.mono λe w' ⟨he,hw⟩=>⟨_,he,λ_ _ _=>.int _ _,hw▸Go.RowKit.Below.refl _ _⟩
theorem aYR {α:Type} {c:α->aC} {l:List α} {sz n len:Nat} {h h':Heap} (w:aC->aC) (hn:h n=none) (hl:(aR h n (.row sz ((l.map λx=>[c x]).map (List.map .v)))).le h') (e:len=l.length) :
  ∃ r1 g l1,Shift (w (.os n sz 0 len)) h' r1 g/\QS (OS (oP c) sz l) w r1 l1/\fY h l1 g:=by
 subst e
 refine⟨w (OV.sl n sz (l.map λx=>[.v (c x)])).val,aR h n (.row sz ((l.map λx=>[c x]).map (List.map .v))),_,?_,⟨_,OS.mk (aGF l),rfl,rfl⟩,?_⟩
 ·rw[OV.aNW];exact Shift.of (Sub.refl _) hl
 ·rw[OV.rF,uJ,x9];exact fY.one hn
theorem uM {α:Type} {c:α->aC} {l:List α} {sz:Nat} {h h':Heap} {x:aC} (w:aC->aC) (hw:a8S w) (hx:Sub x (.sl sz [] true)) (hl:h.le h') (e:l=[]) :
  ∃ r1 g l1,Shift (w x) h' r1 g/\QS (OS (oP c) sz l) w r1 l1/\fY h l1 g:=by
 subst e
 refine⟨w (OV.nil sz).val,h,_,Shift.of (hw _ _ hx) hl,⟨_,OS.nil,rfl,rfl⟩,?_⟩
 rw[OV.l5];exact fY.nil h
set_option maxRecDepth 100000
theorem aBO (n:Int) (h0:-9223372036854775808<=n) (h1:n<=9223372036854775807):eX Tryz.prog 73 [I n] (.str (Go.Lib.itoa n)):=by
 refine eJ 5 aBF cR cC Tryz.func73 λh=>?_
 simp -dsimp -implicitDefEqProofs only[go_sem,↓reduceIte,Tryz.f73]
 first|refine aG.mk (nZ n h0 h1) ?_|refine aD.mk (nZ n h0 h1) ?_|refine aG.bC (nZ n h0 h1) ?_|refine aD.mk (aZ.dB (nZ n h0 h1)) ?_
 simp -dsimp -implicitDefEqProofs only[go_sem,↓reduceIte,Tryz.f73]
theorem aKV {s:List UInt8} {v:Int} (h:Go.Lib.parseIntB 64 s=.ok v):-9223372036854775808<=v/\v<=9223372036854775807:=by
 unfold Go.Lib.parseIntB at h
 split at h
 ·cases h
 ·simp only at h
  split at h
  ·cases h
  ·cases h
  ·rename_i u hu
   split at h
   ·cases h
   ·split at h
    ·cases h
    ·rename_i h1 h2
     have:=Go.Lib.NumEnd.ok.inj h
     subst this
     simp only[Nat.reducePow,Nat.reduceSub]at h1 h2
     split
     ·have:u<=9223372036854775808:=by
       rename_i q
       exact Nat.le_of_not_lt λz=>h2 ⟨q,z⟩
      omega
     ·have:u<9223372036854775808:=by
       rename_i q
       exact Nat.lt_of_not_le λz=>h1 ⟨q,z⟩
      omega
theorem aQG {hi:Int} (hhi:hi<=9223372036854775807) {s:List UInt8} (h:aBK hi s):Go.Lib.parseIntB 64 s=.ok (rdN s):=by
 have h1:=h.2.2
 have:=aDV h.1 (by have:=h.2.1;omega)
 rw[←h1]at this
 exact this
theorem aKW:uE Tryz.prog 124=true:=by kernel_rfl
@[go_sem] def aKX:List Nat:=[0,1,2,6,7,8,9]
theorem aN3 (s:List UInt8) (hi:Int) (hs:s.length<=1048600) (hhi:hi<=1000000001):eX Tryz.prog 178 [.str s,I 0,I hi] (.eW [I (rdN s),.bool (decide (aBK hi s))]):=by
 have hp:=aYO s aA
 have hr:=aQG (hi:=hi) (s:=s) aA
 cases e:Go.Lib.parseIntB 64 s with
 |ok v =>
  have hv:=aKV e
  have hn:rdN s=v:=by rw[rdN,e]
  have he:aN2 s=.gX:=by rw[aN2,e]
  have hl:=sB hv.1 hv.2
  rw[he,hn]at hp
  rw[hn]
  refine eJ 30 aKX cR cC Tryz.func178 λh=>?_
  simp -dsimp -implicitDefEqProofs only[go_sem,↓reduceIte,Tryz.f178]
  first|refine aG.mk (hp) ?_|refine aD.mk (hp) ?_|refine aG.bC (hp) ?_|refine aD.mk (aZ.dB (hp)) ?_
  simp -dsimp -implicitDefEqProofs only[go_sem,↓reduceIte,Tryz.f178]
  simp -dsimp -implicitDefEqProofs only[go_sem,↓reduceIte,Tryz.f178,aKW]
  first|refine aG.mk (aBO v hv.1 hv.2) ?_|refine aD.mk (aBO v hv.1 hv.2) ?_|refine aG.bC (aBO v hv.1 hv.2) ?_|refine aD.mk (aZ.dB (aBO v hv.1 hv.2)) ?_
  simp -dsimp -implicitDefEqProofs only[go_sem,↓reduceIte,Tryz.f178]
  have hq:aBK hi s↔(Go.Lib.itoa v=s/\(0<=v/\v<=hi)):=by rw[aBK,hn];exact⟨λq=>⟨q.2.2.symm,q.1,q.2.1⟩,λq=>⟨q.2.1,q.2.2,q.1.symm⟩⟩
  refine⟨λq=>?_,λq=>?_⟩
  ·first|refine aG.mk (within v 0 hi) ?_|refine aD.mk (within v 0 hi) ?_|refine aG.bC (within v 0 hi) ?_|refine aD.mk (aZ.dB (within v 0 hi)) ?_
   simp -dsimp -implicitDefEqProofs only[go_sem,↓reduceIte,Tryz.f178]
   exact congrArg (λb=>aC.eW [I v,.bool b]) (decide_eq_decide.2 ⟨λz=>hq.2 ⟨q,z⟩,λz=>(hq.1 z).2⟩)
  ·exact congrArg (λb=>aC.eW [I v,.bool b]) (decide_eq_false λz=>q (hq.1 z).1).symm
 |range =>
  have hn:¬aBK hi s:=λq=>by rw[hr q]at e;cases e
  have he:aN2 s=.iface 253 .any:=by rw[aN2,e]
  rw[he]at hp
  rw[decide_eq_false hn]
  refine eJ 30 aKX cR cC Tryz.func178 λh=>?_
  simp -dsimp -implicitDefEqProofs only[go_sem,↓reduceIte,Tryz.f178]
  first|refine aG.mk (hp) ?_|refine aD.mk (hp) ?_|refine aG.bC (hp) ?_|refine aD.mk (aZ.dB (hp)) ?_
  simp -dsimp -implicitDefEqProofs only[go_sem,↓reduceIte,Tryz.f178]
  simp -dsimp -implicitDefEqProofs only[go_sem,↓reduceIte,Tryz.f178,aKW]
 | _ =>
  have hn:¬aBK hi s:=λq=>by rw[hr q]at e;cases e
  have he:aN2 s=.iface 253 .any:=by rw[aN2,e]
  rw[he]at hp
  rw[decide_eq_false hn]
  refine eJ 30 aKX cR cC Tryz.func178 λh=>?_
  simp -dsimp -implicitDefEqProofs only[go_sem,↓reduceIte,Tryz.f178]
  first|refine aG.mk (hp) ?_|refine aD.mk (hp) ?_|refine aG.bC (hp) ?_|refine aD.mk (aZ.dB (hp)) ?_
  simp -dsimp -implicitDefEqProofs only[go_sem,↓reduceIte,Tryz.f178]
  simp -dsimp -implicitDefEqProofs only[go_sem,↓reduceIte,Tryz.f178,aKW]
@[go_sem] def aS8:List Nat:=[0,1,2,3,4,10,11,12,14,15,16,19,23,24,25,26,43]
@[go_sem] def a6K:List Nat:=[17,46]
theorem aJG (text:List UInt8) (most:Nat) (hi:Int) (hs:text.length<=1048600) (hhi:hi<=1000000001) (hm:most<=1048600):FnN Tryz.prog 134 [.str text,.str [32],I most,I 0,I hi] (QS (OS (oP I) 1 ((kN most hi text).getD [])) (λy=>.eW [y,.bool (kN most hi text).isSome])):=by
 have hsl:=aBN 32 text
 have hsp:=aYQ text 32 aA
 refine aIH 50 aS8 a6K cC Tryz.func134 λh=>?_
 simp -dsimp -implicitDefEqProofs only[go_sem,↓reduceIte,Tryz.f134]
 repeat'(with_reducible first|intro _|refine And.intro ?_ ?_)
 all_goals try(first|omega|decide)
 ·have h1:kN most hi text=some []:=by rw[kN,if_pos jH]
  rw[h1]
  exact uM (λy=>.eW [y,.bool true]) (sA [] [_]) (Sub.refl _) (Heap.le_refl _) rfl
 ·rename_i hne
  first|refine aG.mk (hsp) ?_|refine aD.mk (hsp) ?_|refine aG.bC (hsp) ?_|refine aD.mk (aZ.dB (hsp)) ?_
  simp -dsimp -implicitDefEqProofs only[go_sem,↓reduceIte,Tryz.f134]
  repeat'(with_reducible first|intro _|refine And.intro ?_ ?_)
  refine dJ aS8 a6K cC (λx:Nat×Option Nat=>[(2,I most),(3,I 0),(4,I hi),(12,iH 1 x.1 x.2),(23,eQ 1 (λs=>[.str s]) (l7 32 text)),(24,I (l7 32 text).length),(25,I x.1)]) (λx=>c8 h (.row 1 (((((l7 32 text).take x.1).map rdN).map λn=>[I n]).map (List.map .v))) x.2) (λx=>(x.1<=(l7 32 text).length/\x.1<=most)/\fM h ((l7 32 text).take x.1) x.2/\∀ p∈(l7 32 text).take x.1,aBK hi p) (λx=>(l7 32 text).length-x.1) (0,none) (by simp[dM,cE,Heap.le_refl,iH,c8,fM]) ?_
  rintro⟨k,o⟩ ⟨⟨hk,hkm⟩,ho,hok⟩
  simp only at hk hkm ho hok ⊢
  rcases cQ k (l7 32 text).length with hlt|hge
  ·have ea:(l7 32 text)[k]?=some (l7 32 text)[k]:=cP hlt
   have hpl:=hsl.2 _ (eF hlt)
   have hrd:=aN3 (l7 32 text)[k] hi aA hhi
   have hnone:¬(aBK hi (l7 32 text)[k]/\¬k=most)->kN most hi text=none:=λq=>by
    rw[kN,if_neg hne]
    split
    ·rw[nM,if_neg]
     intro z
     exact q ⟨z _ (eF hlt),by omega⟩
    ·rfl
   have bFB:aBK hi (l7 32 text)[k]->∀ p∈(l7 32 text).take (k+1),aBK hi p:=λq p hp=>by
    rw[pD hlt]at hp
    rcases mS.1 hp with hp|hp
    ·exact hok p hp
    ·rw[nQ.1 hp];exact q
   have hmap:((l7 32 text).take (k+1)).map rdN=((l7 32 text).take k).map rdN++[rdN (l7 32 text)[k]]:=by
    rw[pD hlt,zG];rfl
   cases o with
   |none =>
    simp -dsimp -implicitDefEqProofs only[go_sem,↓reduceIte,Tryz.f134,b5,aQ,ea]
    refine⟨λ_=>⟨hlt,?_⟩,λq=>absurd hlt q⟩
    first|refine aG.mk (hrd) ?_|refine aD.mk (hrd) ?_|refine aG.bC (hrd) ?_|refine aD.mk (aZ.dB (hrd)) ?_
    simp -dsimp -implicitDefEqProofs only[go_sem,↓reduceIte,Tryz.f134]
    rw[bK]at ho
    have hk0:k=0:=by
     have:=congrArg List.length ho
     rw[qI,yZ]at this
     omega
    subst hk0
    refine⟨λhq=>⟨λh0=>?_,λh0=>⟨by decide,by decide,by decide,λn hn=>⟨(0+1,some n),?_⟩⟩⟩,λhq=>?_⟩
    ·rw[hnone λz=>z.2 aA]
     exact uM (λy=>.eW [y,.bool false]) (sA [] [_]) (Sub.nil 1 true) (Heap.le_refl _) rfl
    ·simp only[aL,aY,aT]
     rw[hmap,ho]
     exact⟨⟨trivial,rfl⟩,Heap.le_refl _,⟨⟨by omega,by omega⟩,hn,bFB hq⟩,by omega⟩
    ·rw[hnone λz=>hq z.1]
     exact uM (λy=>.eW [y,.bool false]) (sA [] [_]) (Sub.nil 1 true) (Heap.le_refl _) rfl
   |some n =>
    simp -dsimp -implicitDefEqProofs only[go_sem,↓reduceIte,Tryz.f134,aY,aL,ea]
    refine⟨λ_=>⟨hlt,?_⟩,λq=>absurd hlt q⟩
    first|refine aG.mk (hrd) ?_|refine aD.mk (hrd) ?_|refine aG.bC (hrd) ?_|refine aD.mk (aZ.dB (hrd)) ?_
    simp -dsimp -implicitDefEqProofs only[go_sem,↓reduceIte,Tryz.f134]
    rw[aT]at ho
    have hle:h.le (aR h n (.row 1 (((((l7 32 text).take k).map rdN).map λn=>[I n]).map (List.map .v)))):=Heap.bA ho (Heap.le_refl _)
    refine⟨λhq _=>⟨λh0=>?_,λh0=>⟨by decide,by decide,by decide,by rw[qI];omega,by omega,by omega,λb hb=>⟨(k+1,some b),?_⟩⟩⟩,λhq=>?_⟩
    ·rw[hnone λz=>z.2 aA]
     exact uM (λy=>.eW [y,.bool false]) (sA [] [_]) (Sub.nil 1 true) hle rfl
    ·simp only[aL,aY,aT,hmap]
     refine⟨⟨trivial,IntWalk.i64_in _ aA⟩,?_,⟨⟨by omega,by omega⟩,hb.2,bFB hq⟩,by omega⟩
     have hg:=fJ I (((l7 32 text).take k).map rdN) (rdN (l7 32 text)[k])
     rw[iG,qI,Nat.min_eq_left hk]at hg
     rw[hg];exact mU ho
    ·rw[hnone λz=>hq z.1]
     exact uM (λy=>.eW [y,.bool false]) (sA [] [_]) (Sub.nil 1 true) hle rfl
  ·have hk':k=(l7 32 text).length:=by omega
   have hR:kN most hi text=some ((l7 32 text).map rdN):=by
    rw[kN,if_neg hne,if_pos aA,nM,if_pos]
    intro p hp
    rw[hk',jG]at hok
    exact hok p hp
   rw[hR]
   rw[hk']at ho ⊢
   rw[jG]at ho ⊢
   cases o with
   |none =>
    simp -dsimp -implicitDefEqProofs only[go_sem,↓reduceIte,Tryz.f134,b5,aQ,cV]
    exact uM (λy=>.eW [y,.bool true]) (sA [] [_]) (Sub.refl _) (Heap.le_refl _) (by rw[bK]at ho;rw[ho];rfl)
   |some n =>
    simp -dsimp -implicitDefEqProofs only[go_sem,↓reduceIte,Tryz.f134,aY,aL,cV]
    rw[aT]at ho
    exact aYR (λy=>.eW [y,.bool true]) ho (Heap.le_refl _) cK
theorem uN (text:List UInt8) (most:Nat) (hi:Int) (hs:text.length<=1048600) (hhi:hi<=1000000001) (hm:most<=1048600):eX Tryz.prog 134 [.str text,.str [32],I most,I 0,I hi] (.eW [eQ 1 (λn=>[I n]) ((kN most hi text).getD []),.bool (kN most hi text).isSome]) :=
 QS.a2P (w:=λy=>.eW [y,.bool (kN most hi text).isSome]) (aJG text most hi hs hhi hm) (λy hy=>OS.oG (c:=λn=>[I n]) (λ_ _ q=>aGE q) hy) (aGG [] [_])
mutual
def aB.o:aB->List OV->Prop
 | .mk aN aX cF b7 aK,e=>∃ y,e=[.v (.int .i64 aN),.v (.int .i64 aX),.v (.int .i64 cF),.v (.int .i64 b7),y]/\((y=.nil 5/\aK=[])∨∃ n es,y=.sl n 5 es/\aB.oR aK es)
def aB.oR:List aB->List (List OV)->Prop
 | [],[]=>True
 |x::l,e::es=>x.o e/\aB.oR l es
 | _,_=>False
end
theorem aB.a6L:∀ (l:List aB) (es:List (List OV)),aB.oR l es=OR aB.o l es
 | [],[]=>rfl
 |x::l,e::es=>by rw[aB.oR,OR,aB.a6L l es]
 | [],_::_=>rfl
 | _::_,[]=>rfl
theorem aB.sC (x:aB) (e:List OV):x.o e↔∃ y4,e=[.v (.int .i64 x.aN),.v (.int .i64 x.aX),.v (.int .i64 x.cF),.v (.int .i64 x.b7),y4]/\OS aB.o 5 x.aK y4:=by
 cases x
 simp only[aB.o,aB.a6L,OS]
 rfl
mutual
theorem aB.wN:∀ {x:aB} {e:List OV},x.o e->e.map OV.oG=x.c
 | .mk aN aX cF b7 aK,e,h=>by
  rw[aB.sC]at h
  obtain⟨y,rfl,h⟩:=h
  have hk:y.oG=.sl 5 (aK.map aB.c) false:=by
   rcases h with⟨rfl,h0⟩|⟨n,es,rfl,h⟩
   ·have h1:aK=[]:=h0
    subst h1;rfl
   ·simp only[OV.oG]
    rw[aB.aYS h]
    rfl
  rw[aB.aU]
  simp only[qH,x4,OV.oG,hk]
  rfl
theorem aB.aYS:∀ {l:List aB} {es:List (List OV)},OR aB.o l es->OV.jU es=l.map aB.c
 | [],[],_=>rfl
 |x::l,e::es,h=>by rw[OV.jU,aB.aYS h.2,OV.vI,aB.wN h.1];rfl
 | [],_::_,h=>h.elim
 | _::_,[],h=>h.elim
end
def aV.o (x:aV) (e:List OV):Prop:=∃ y2,e=[.v (.str x.jX),.v (.int .i64 x.bB),y2]/\OS aB.o 5 x.aO y2
theorem aV.wN {x:aV} {e:List OV} (h:x.o e):e.map OV.oG=x.c:=by
 obtain⟨y2,rfl,o2⟩:=h
 have d2:=OS.oG (c:=aB.c) (λ_ _ q=>aB.wN q) o2
 rw[aV.aU]
 simp only[qH,x4,OV.oG,d2]
def aF.o (x:aF) (e:List OV):Prop:=∃ y0,e=[y0]/\OS aV.o 3 x.aI y0
theorem aF.wN {x:aF} {e:List OV} (h:x.o e):e.map OV.oG=x.c:=by
 obtain⟨y0,rfl,o0⟩:=h
 have d0:=OS.oG (c:=aV.c) (λ_ _ q=>aV.wN q) o0
 rw[aF.aU]
 simp only[qH,x4,OV.oG,d0]
def aP.o (x:aP) (e:List OV):Prop:=e=[.v (.int .i64 x.lT),.v (.int .i64 x.fA),.v (.int .i64 x.fB),.v (.int .i64 x.aX)]
theorem aP.wN {x:aP} {e:List OV} (h:x.o e):e.map OV.oG=x.c:=by
 obtain rfl:=h
 rw[aP.aU]
 simp only[qH,x4,OV.oG]
def bL.o (x:bL) (e:List OV):Prop:=e=[.v (.int .i64 x.oT),.v (.bool x.wL)]
theorem bL.wN {x:bL} {e:List OV} (h:x.o e):e.map OV.oG=x.c:=by
 obtain rfl:=h
 rw[bL.aU]
 simp only[qH,x4,OV.oG]
def cW.o (x:cW) (e:List OV):Prop:=∃ y1 y2 y3,e=[.v (.int .i64 x.cB),y1,y2,y3]/\OS aP.o 4 x.aS y1/\OS bL.o 2 x.bX y2/\OS (oP I) 1 x.aO y3
theorem cW.wN {x:cW} {e:List OV} (h:x.o e):e.map OV.oG=x.c:=by
 obtain⟨y1,y2,y3,rfl,o1,o2,o3⟩:=h
 have d1:=OS.oG (c:=aP.c) (λ_ _ q=>aP.wN q) o1
 have d2:=OS.oG (c:=bL.c) (λ_ _ q=>bL.wN q) o2
 have d3:=OS.oG (c:=(λn=>[I n])) (λ_ _ q=>aGE q) o3
 rw[cW.aU]
 simp only[qH,x4,OV.oG,d1,d2,d3]
theorem aQH {a b:List UInt8}:((⟨a.toArray⟩:ByteArray)=⟨b.toArray⟩)↔a=b:=by simp
structure pQ where
 inp:Int
 code:List aP
 guards:List bL
 outs:List Int
 cX:Int
def qY:List (List UInt8):=[[105,110],[110,117,109],[97,100,100],[115,117,98],[109,117,108],[100,105,118],[110,101,103]]
def jZ (k:Int):List UInt8:=qY.getD (k-1).toNat []
def oD (w:List UInt8):Int:=Go.Lib.idxOfS (qY.map λs=>(⟨s.toArray⟩:ByteArray)) ⟨w.toArray⟩+1
theorem aGT (w:List UInt8):(oD w=0/\∀ k:Int,1<=k->k<=7->¬jZ k=w)∨(1<=oD w/\oD w<=7/\w=jZ (oD w)):=by
 by_cases h:∃ k:Int,(1<=k/\k<=7)/\jZ k=w
 ·obtain⟨k,hk,rfl⟩:=h
  right
  have:oD (jZ k)=k:=by
   rcases(by omega:k=1∨k=2∨k=3∨k=4∨k=5∨k=6∨k=7)with rfl|rfl|rfl|rfl|rfl|rfl|rfl
   all_goals decide
  rw[this];exact⟨hk.1,hk.2,rfl⟩
 ·left
  have q:∀ k:Int,1<=k->k<=7->¬jZ k=w:=λk h1 h2 h3=>h ⟨k,⟨h1,h2⟩,h3⟩
  refine⟨?_,q⟩
  have h1:¬[105,110]=w:=q 1 bU bU
  have h2:¬[110,117,109]=w:=q 2 bU bU
  have h3:¬[97,100,100]=w:=q 3 bU bU
  have h4:¬[115,117,98]=w:=q 4 bU bU
  have h5:¬[109,117,108]=w:=q 5 bU bU
  have h6:¬[100,105,118]=w:=q 6 bU bU
  have h7:¬[110,101,103]=w:=q 7 bU bU
  simp only[oD,qY,qH,x4,Go.Lib.idxOfS,Go.Lib.idxFromS,aQH]
  rw[if_neg h1,if_neg h2,if_neg h3,if_neg h4,if_neg h5,if_neg h6,if_neg h7]
  rfl
def oU:List UInt8:=[116,97,112,101]
def s5:List UInt8:=[122,101,114,111]
def sD:List UInt8:=[111,116,104,101,114]
def aBP:List UInt8:=[111,117,116]
def jM (op:Int) (n:List Int):Option aP :=
 if op<=2 then(if n.length=1 then some ⟨op,0,0,n.getD 0 0⟩else none)
 else if op=7 then(if n.length=1 then some ⟨op,n.getD 0 0,0,0⟩else none)
 else if n.length=2 then some ⟨op,n.getD 0 0,n.getD 1 0,0⟩else none
def oA (w:List UInt8) (n:List Int) (S:pQ):Option pQ :=
 if w=oU then(if S.cX=0/\n.length=1 then some { S with inp:=n.getD 0 0,cX:=1 } else none)
 else if w=s5∨w=sD then
  (if n.length=1/\(S.cX=1∨S.cX=2)then some { S with guards:=S.guards++[⟨n.getD 0 0,decide (w=s5)⟩],cX:=2 } else none)
 else if w=aBP then(if S.cX=1∨S.cX=2 then some { S with outs:=n,cX:=3 } else none)
 else if oD w=0 then none
 else match jM (oD w) n with
  |none=>none
  |some x=>if S.cX=1 then some { S with code:=S.code++[x] } else none
def kO (s:List UInt8) (S:pQ):Option pQ:=match nM 999999999 (l7 32 s).tail with
 |none=>none
 |some n=>if n=[]then none else oA ((l7 32 s).headD []) n S
theorem aYT (s:List UInt8) (hs:s.length<=50000) :
  (∃ w r,Go.Lib.cut s [32]=(w,r,true)/\(l7 32 s).headD []=w/\((nM 999999999 (l7 32 s).tail=none/\(kN 100000 999999999 r=none∨kN 100000 999999999 r=some []))∨∃ n,¬n=[]/\nM 999999999 (l7 32 s).tail=some n/\kN 100000 999999999 r=some n)) ∨
  ((Go.Lib.cut s [32]).2.2=false/\(nM 999999999 (l7 32 s).tail)=some []):=by
 rcases uL 32 s with h|⟨w,r,hw,rfl⟩
 ·right
  rw[aYF 32 s h,yB s h]
  exact⟨rfl,rfl⟩
 ·left
  refine⟨w,r,a2W 32 w r hw,?_,?_⟩
  ·rw[vL w r hw];rfl
  ·rw[vL w r hw,List.tail_cons]
   rw[k8,al3]at hs
   have hl:=(aBN 32 r).1
   by_cases hr:r=[]
   ·left
    subst hr
    refine⟨?_,.inr (aJE.2 rfl)⟩
    rw[a2U,nM,if_neg]
    intro q
    exact absurd (q [] cK).2.2 (λe=>a2X (q [] cK).1 e.symm)
   ·have e:kN 100000 999999999 r=nM 999999999 (l7 32 r):=by
     rw[kN,if_neg hr,if_pos aA]
    rw[e]
    cases hn:nM 999999999 (l7 32 r)with
    |none=>exact .inl ⟨rfl,.inl rfl⟩
    |some n =>
     refine .inr ⟨n,λq=>?_,rfl,rfl⟩
     rw[q]at hn
     exact hr (aJE.1 (e.trans hn))
def pQ.fit (S:pQ):Prop:=0<=S.cX/\S.cX<=3/\(S.cX<=1->S.guards=[])/\(S.cX=2->¬S.guards=[])
def pQ.none:pQ:=⟨0,[],[],[],0⟩
theorem pQ.aYU:pQ.none.fit:=⟨by decide,by decide,λ_=>rfl,λq=>absurd q bU⟩
theorem aVJ {w:List UInt8} {n:List Int} {S S':pQ} (h:S.fit) (e:oA w n S=some S'):S'.fit:=by
 obtain⟨h0,h1,h2,h3⟩:=h
 unfold oA at e
 split at e
 ·split at e
  ·rename_i q
   cases e;exact⟨by simp,by simp,λ_=>h2 aA,λz=>by simp at z⟩
  ·cases e
 ·split at e
  ·split at e
   ·cases e;exact⟨by simp,by simp,λz=>by simp at z,λ_=>by simp⟩
   ·cases e
  ·split at e
   ·split at e
    ·cases e;exact⟨by simp,by simp,λz=>by simp at z,λz=>by simp at z⟩
    ·cases e
   ·split at e
    ·cases e
    ·split at e
     ·cases e
     ·split at e
      ·cases e;exact⟨h0,h1,h2,h3⟩
      ·cases e
theorem aVK {s:List UInt8} {S S':pQ} (h:S.fit) (e:kO s S=some S'):S'.fit:=by
 unfold kO at e
 split at e
 ·cases e
 ·split at e
  ·cases e
  ·exact aVJ h e
theorem aGU (a b:List Int):eX Tryz.prog 80 [(eQ 1 (λn=>[I n]) a),(eQ 1 (λn=>[I n]) b)] (.bool (decide (a=b))):=by
 refine eJ 26 aSS cR aST Tryz.func80 λh=>?_
 simp -dsimp -implicitDefEqProofs only[go_sem,Tryz.f80,↓reduceIte]
 refine λ_ _=>⟨λhne=>?_,λheq=>?_⟩
 ·exact(decide_eq_false λe=>hne (by rw[e])).symm
 ·refine dJ aSS cR aST (λk:Nat=>[(0,(eQ 1 (λn=>[I n]) a)),(1,(eQ 1 (λn=>[I n]) b)),(5,I k)]) (λ_=>h) (λk=>k<=a.length/\a.take k=b.take k) (λk=>a.length-k) 0 aAP ?_
  intro k ⟨hk,hp⟩
  rcases cQ k a.length with hlt|hge
  ·have hlb:k<b.length:=by omega
   have ea:a[k]?=some a[k]:=cP hlt
   have eb:b[k]?=some b[k]:=cP hlb
   simp -dsimp -implicitDefEqProofs only[go_sem,↓reduceIte,Tryz.f80,ea,eb]
   refine λ_=>⟨λ_=>⟨hlt,hlb,λhne=>?_,λhe=>?_⟩,λhn=>absurd hlt hn⟩
   ·first
     |exact(decide_eq_false λe=>hne (getElem_of_eq e hlt)).symm
     |exact(decide_eq_false λe=>by have:=getElem_of_eq e hlt (hb:=hlb);rw[this]at hne;simp at hne).symm
   ·exact⟨k+1,by rw[IntWalk.i64_in _ aA];rfl,⟨by omega,aVD hlt hlb hp (by first|exact he|simpa using he)⟩,by omega⟩
  ·have hk':k=a.length:=by omega
   subst hk'
   simp -dsimp -implicitDefEqProofs only[go_sem,↓reduceIte,Tryz.f80,cV]
   exact λ_=>(decide_eq_true (aQB heq hp)).symm
def Low (c:UInt8):Prop:=97<=c.toNat/\c.toNat<=122
def Dig (c:UInt8):Prop:=48<=c.toNat/\c.toNat<=57
instance (c:UInt8):Decidable (Low c):=inferInstanceAs (Decidable (_/\_))
instance (c:UInt8):Decidable (Dig c):=inferInstanceAs (Decidable (_/\_))
def yX (s:List UInt8):Prop:=1<=s.length/\s.length<=12/\(∀ c,s[0]?=some c->Low c)/\∀ c∈s,Low c∨Dig c
noncomputable instance (s:List UInt8):Decidable (yX s):=Classical.propDecidable _
theorem aJH {s:List UInt8} {k:Nat} {c:UInt8} (h:k<s.length) (ec:s[k]=c) (hp:∀ x∈s.take k,Low x∨Dig x) (he:Low c∨Dig c):∀ x∈s.take (k+1),Low x∨Dig x :=
 oS (P:=λx=>Low x∨Dig x) h hp (by rw[ec];exact he)
theorem aN4 {s:List UInt8} {k:Nat} {c:UInt8} (h:k<s.length) (ec:s[k]=c) (he:¬(Low c∨Dig c)):false=decide (yX s) :=
 (decide_eq_false λe=>he (ec▸e.2.2.2 _ (eF h))).symm
theorem aVL {s:List UInt8} {k:Nat} {c:UInt8} (h:k<s.length) (h0:(k:Int)=0) (ec:s[k]=c) (he:¬Low c):false=decide (yX s) :=
 (decide_eq_false fun e => he (e.2.2.1 c (by have : k = 0 := by omega
                                             subst this;rw[cP h,ec]))).symm
@[go_sem] def aKY:List Nat:=[0,2,3,17,21,45]
theorem vN (s:List UInt8):eX Tryz.prog 159 [.str s] (.bool (decide (yX s))):=by
 cases s with
 |nil =>
  refine eJ 46 aKY cR cC Tryz.func159 λh=>?_
  simp -dsimp -implicitDefEqProofs only[go_sem,↓reduceIte,Tryz.f159]
  first|refine aG.mk (eY 0 1 12) ?_|refine aD.mk (eY 0 1 12) ?_|refine aG.bC (eY 0 1 12) ?_|refine aD.mk (aZ.dB (eY 0 1 12)) ?_
  simp -dsimp -implicitDefEqProofs only[go_sem,↓reduceIte,Tryz.f159]
  repeat'(with_reducible first|intro _|refine And.intro ?_ ?_)
  all_goals try(first|(simp[yX, *];done)|omega|(grind[yX])|(simp[yX];omega))
 |cons c t =>
  refine eJ 46 aKY cR cC Tryz.func159 λh=>?_
  simp -dsimp -implicitDefEqProofs only[go_sem,↓reduceIte,Tryz.f159,aWR,a1H]
  intro _
  first|refine aG.mk (eY (c::t).length 1 12) ?_|refine aD.mk (eY (c::t).length 1 12) ?_|refine aG.bC (eY (c::t).length 1 12) ?_|refine aD.mk (aZ.dB (eY (c::t).length 1 12)) ?_
  simp -dsimp -implicitDefEqProofs only[go_sem,↓reduceIte,Tryz.f159,aWR,a1H]
  repeat'(with_reducible first|intro _|refine And.intro ?_ ?_)
  all_goals try(first|(simp[yX,Low,Dig, *];done)|omega|(grind[yX,Low,Dig])|(simp[yX,Low,Dig];omega))
  rename_i h0 h1 h2 h3
  generalize hs:c::t=s at *
  refine dJ aKY cR cC (λk:Nat=>[(0,.str s),(3,I k)]) (λ_=>h) (λk=>k<=s.length/\∀ x∈s.take k,Low x∨Dig x) (λk=>s.length-k) 0 aAP ?_
  intro k ⟨hk,hp⟩
  rcases cQ k s.length with hlt|hge
  ·generalize ec:s[k]=d
   have ea:s[k]?=some d:=by rw[←ec];exact cP hlt
   simp -dsimp -implicitDefEqProofs only[go_sem,↓reduceIte,Tryz.f159,ea,tX]
   repeat'(with_reducible first|intro _|refine And.intro ?_ ?_)
   all_goals try omega
   all_goals try exact aN4 hlt ec aR6
   all_goals
    refine⟨k+1,?_⟩
    repeat'(with_reducible refine And.intro ?_ ?_)
    all_goals try(rw[IntWalk.i64_in _ aA];first|rfl|omega)
    all_goals try omega
    all_goals try(repeat'(with_reducible first|exact Heap.le_refl _|refine(bA iI).2 ?_))
    exact aJH hlt ec hp aR6
  ·have hk':k=s.length:=by omega
   subst hk'
   rw[jG]at hp
   simp -dsimp -implicitDefEqProofs only[go_sem,↓reduceIte,Tryz.f159,cV]
   have:s.length=t.length+1:=by rw[←hs];rfl
   exact λ_=>(decide_eq_true ⟨by omega,by omega,λx hx=>by rw[←hs]at hx;simp at hx;subst hx;simp only[Low];omega,hp⟩).symm
@[go_sem] def aS9:List Nat:=[0,2,3,5,6,7,34]
theorem aKZ (s:List UInt8):eX Tryz.prog 108 [.str s] (.bool (decide (yX s))):=by
 refine eJ 44 aS9 cR cC Tryz.func108 λh=>?_
 simp -dsimp -implicitDefEqProofs only[go_sem,↓reduceIte,Tryz.f108]
 repeat'(with_reducible first|intro _|refine And.intro ?_ ?_)
 refine dJ aS9 cR cC (λk:Nat=>[(0,.str s),(5,I s.length),(6,I k)]) (λ_=>h) (λk=>k<=s.length/\(∀ x∈s.take k,Low x∨Dig x)/\(0<k->∀ c,s[0]?=some c->Low c)) (λk=>s.length-k) 0 aAP ?_
 intro k ⟨hk,hp,hz⟩
 rcases cQ k s.length with hlt|hge
 ·generalize ec:s[k]=d
  have ea:s[k]?=some d:=by rw[←ec];exact cP hlt
  have hz':Low d∨¬((k:Int)=0)->∀ c,s[0]?=some c->Low c:=by
   intro q c hc
   by_cases h0:k=0
   ·subst h0
    rw[ea]at hc
    obtain rfl:=eO hc
    exact q.resolve_right cK
   ·exact hz aA c hc
  simp -dsimp -implicitDefEqProofs only[go_sem,↓reduceIte,Tryz.f108,ea,tX]
  repeat'(with_reducible first|intro _|refine And.intro ?_ ?_)
  all_goals try omega
  all_goals try exact aN4 hlt ec aR6
  all_goals try exact aVL hlt aA ec (by simp only[Low];omega)
  all_goals
   refine⟨k+1,?_⟩
   repeat'(with_reducible refine And.intro ?_ ?_)
   all_goals try(rw[IntWalk.i64_in _ aA];first|rfl|omega)
   all_goals try omega
   all_goals try(repeat'(with_reducible first|exact Heap.le_refl _|refine(bA iI).2 ?_))
   all_goals first|exact aJH hlt ec hp aR6|exact λ_=>hz' (by simp only[Low];omega)
 ·have hk':k=s.length:=by omega
  subst hk'
  rw[jG]at hp
  simp -dsimp -implicitDefEqProofs only[go_sem,↓reduceIte,Tryz.f108,cV]
  repeat'(with_reducible first|intro _|refine And.intro ?_ ?_)
  all_goals simp only[yX,decide_eq_decide,eq_comm (a:=false),decide_eq_false_iff_not]
  all_goals grind
mutual
def aB.d:aB->Nat
 | .mk _ _ _ _ kids=>aB.dL kids+1
def aB.dL:List aB->Nat
 | []=>0
 |x::l=>max x.d (aB.dL l)
end
theorem aB.aYV (x:aB):x.d=aB.dL x.aK+1:=by cases x;rfl
theorem aB.aK0:∀ {l:List aB} {k:Nat} (h:k<l.length),aB.dL (l.take (k+1))=max (aB.dL (l.take k)) l[k].d
 |x::l,0,_=>by simp[aB.dL]
 |x::l,k+1,h=>by
  have:=aB.aK0 (l:=l) (k:=k) (by simpa using h)
  simp only[a7J,aB.dL,this,List.getElem_cons_succ]
  omega
mutual
theorem aB.a8T:∀ x:aB,x.d<=x.s+1
 | .mk _ _ _ _ kids=>by
  have:=aB.a6M kids
  simp only[aB.d,aB.s];omega
theorem aB.a6M:∀ l:List aB,aB.dL l<=l.length+aB.sL l
 | []=>by simp[aB.dL]
 |x::l=>by
  have h1:=aB.a8T x
  have h2:=aB.a6M l
  simp only[aB.dL,aB.sL,al3];omega
end
theorem aB.aFD {x y:aB} (h:y∈x.aK):y.s<x.s:=by
 have h1:=aKS aB.s h
 have h2:=List.length_pos_of_mem h
 rw[x.xN,oQ];omega
theorem aB.aYW (x:aB) {k:Nat} (h:k<x.aK.length):k+((x.aK.take k).map aB.s).sum+x.aK[k].s+1<=x.s:=by
 have h1:=j8 aB.s x.aK k h
 have h2:=sW aB.s x.aK (k+1)
 rw[x.xN,oQ];omega
theorem aB.a6N (x:aB):x.aK.length+((x.aK.take x.aK.length).map aB.s).sum=x.s:=by
 rw[jG,x.xN,oQ]
theorem aIJ (x:aB) (hs:x.s<=4294967296) (hc:∀ y∈x.aK,eX Tryz.prog 111 [.agg y.c] (I ((y.s:Int)+1))):eX Tryz.prog 111 [.agg x.c] (I ((x.s:Int)+1)):=by
 have hx:=x.a6N
 rw[aB.aU x]
 refine eJ 19 aSU aGH cC Tryz.func111 λh=>?_
 simp -dsimp -implicitDefEqProofs only[go_sem,↓reduceIte,Tryz.f111]
 repeat'(with_reducible first|intro _|refine And.intro ?_ ?_)
 refine dJ aSU aGH cC (λk:Nat=>[(1,.ip 5 [x.c] 0 0),(3,I (1+k+(((x.aK.take k).map aB.s).sum:Int))),(7,eQ 5 aB.c x.aK),(8,I x.aK.length),(9,I k)]) (λ_=>h) (λk=>k<=x.aK.length) (λk=>x.aK.length-k) 0 (by simp[dM,cE,Heap.le_refl,aB.aU]) ?_
 intro k hk
 rcases cQ k x.aK.length with hlt|hge
 ·have ea:x.aK[k]?=some x.aK[k]:=cP hlt
  have hp:=x.aYW hlt
  have h1:=j8 aB.s x.aK k hlt
  have hcy:=hc x.aK[k] (eF hlt)
  simp only[aB.aU]at hcy
  simp -dsimp -implicitDefEqProofs only[go_sem,↓reduceIte,Tryz.f111,ea,aB.aU,aJ]
  repeat'(with_reducible first|intro _|refine And.intro ?_ ?_)
  all_goals try omega
  first|refine aG.mk (hcy) ?_|refine aD.mk (hcy) ?_|refine aG.bC (hcy) ?_|refine aD.mk (aZ.dB (hcy)) ?_
  simp -dsimp -implicitDefEqProofs only[go_sem,↓reduceIte,Tryz.f111]
  rename_i n hn
  refine⟨k+1,?_⟩
  repeat'(with_reducible refine And.intro ?_ ?_)
  all_goals try(rw[IntWalk.i64_in _ aA];first|rfl|omega)
  all_goals try omega
  all_goals try(repeat'(with_reducible first|exact Heap.le_refl _|refine(bA iI).2 ?_))
  all_goals try(simp only[aB.aU];done)
 ·have hk':k=x.aK.length:=by omega
  subst hk'
  simp -dsimp -implicitDefEqProofs only[go_sem,↓reduceIte,Tryz.f111,cV]
  omega
theorem aGV (x:aB) (hs:x.s<=4294967296):eX Tryz.prog 111 [.agg x.c] (I ((x.s:Int)+1)) :=
 aIJ x hs λy hy=>aGV y aR5
termination_by SizeOf.sizeOf x
decreasing_by exact aB.aCU hy
theorem aGW (x:aB) (hs:x.s<=4294967296) (hc:∀ y∈x.aK,eX Tryz.prog 150 [.agg y.c] (I (y.d:Int))):eX Tryz.prog 150 [.agg x.c] (I (x.d:Int)):=by
 have hd:=x.a8T
 rw[aB.aYV]at hd ⊢
 rw[aB.aU x]
 refine eJ 20 aSU aGH cC Tryz.func150 λh=>?_
 simp -dsimp -implicitDefEqProofs only[go_sem,↓reduceIte,Tryz.f150]
 repeat'(with_reducible first|intro _|refine And.intro ?_ ?_)
 refine dJ aSU aGH cC (λk:Nat=>[(1,.ip 5 [x.c] 0 0),(3,I (aB.dL (x.aK.take k):Int)),(7,eQ 5 aB.c x.aK),(8,I x.aK.length),(9,I k)]) (λ_=>h) (λk=>k<=x.aK.length) (λk=>x.aK.length-k) 0 (by simp[dM,cE,Heap.le_refl,aB.aU,aB.dL]) ?_
 intro k hk
 rcases cQ k x.aK.length with hlt|hge
 ·have ea:x.aK[k]?=some x.aK[k]:=cP hlt
  have h1:=aB.aK0 hlt
  have hcy:=hc x.aK[k] (eF hlt)
  simp only[aB.aU]at hcy
  simp -dsimp -implicitDefEqProofs only[go_sem,↓reduceIte,Tryz.f150,ea,aB.aU,aJ]
  repeat'(with_reducible first|intro _|refine And.intro ?_ ?_)
  all_goals try omega
  first|refine aG.mk (hcy) ?_|refine aD.mk (hcy) ?_|refine aG.bC (hcy) ?_|refine aD.mk (aZ.dB (hcy)) ?_
  simp -dsimp -implicitDefEqProofs only[go_sem,↓reduceIte,Tryz.f150]
  repeat'(with_reducible first|intro _|refine And.intro ?_ ?_)
  all_goals try rfl
  rename_i n hn
  refine⟨k+1,?_⟩
  repeat'(with_reducible refine And.intro ?_ ?_)
  all_goals try(rw[IntWalk.i64_in _ aA];first|rfl|omega)
  all_goals try omega
  all_goals try(repeat'(with_reducible first|exact Heap.le_refl _|refine(bA iI).2 ?_))
  all_goals try(simp only[aB.aU];done)
 ·have hk':k=x.aK.length:=by omega
  subst hk'
  simp -dsimp -implicitDefEqProofs only[go_sem,↓reduceIte,Tryz.f150,cV]
  rw[jG,IntWalk.i64_in _ aA];omega
theorem aJI (x:aB) (hs:x.s<=4294967296):eX Tryz.prog 150 [.agg x.c] (I (x.d:Int)) :=
 aGW x hs λy hy=>aJI y aR5
termination_by SizeOf.sizeOf x
decreasing_by exact aB.aCU hy
@[go_sem] def aTA:List Nat:=[0,1,4,5,18]
theorem aK1 (x:aB) (left:Int) (h0:0<=left) (h9:left<=4294967296) (hs:x.s<=4294967296) (hc:∀ y∈x.aK,∀ left:Int,0<=left->left<=4294967296->eX Tryz.prog 160 [.ip 5 [y.c] 0 0,I left] (I (lft left (y.s+1)))):eX Tryz.prog 160 [.ip 5 [x.c] 0 0,I left] (I (lft left (x.s+1))):=by
 have hx:=x.a6N
 rw[aB.aU x]
 refine eJ 30 aTA cR cC Tryz.func160 λh=>?_
 simp -dsimp -implicitDefEqProofs only[go_sem,↓reduceIte,Tryz.f160]
 repeat'(with_reducible first|intro _|refine And.intro ?_ ?_)
 refine dJ aTA cR cC (λk:Nat=>[(0,.ip 5 [x.c] 0 0),(1,I (lft left (1+k+((x.aK.take k).map aB.s).sum))),(5,I k)]) (λ_=>h) (λk=>k<=x.aK.length) (λk=>x.aK.length-k) 0 (by simp[dM,cE,Heap.le_refl,aB.aU];rw[IntWalk.i64_in _ aA];unfold lft;split <;> omega) ?_
 intro k hk
 rcases cQ k x.aK.length with hlt|hge
 ·have hp:=x.aYW hlt
  have h1:=j8 aB.s x.aK k hlt
  rcases aJC left (1+k+((x.aK.take k).map aB.s).sum)with⟨e,hl⟩|⟨e,hl⟩
  ·rw[e,aB.aU x]
   simp -dsimp -implicitDefEqProofs only[go_sem,↓reduceIte,Tryz.f160]
   repeat'(with_reducible first|intro _|refine And.intro ?_ ?_)
   all_goals try omega
   exact(a2S aA).symm
  ·rw[e,aB.aU x]
   simp -dsimp -implicitDefEqProofs only[go_sem,↓reduceIte,Tryz.f160]
   repeat'(with_reducible first|intro _|refine And.intro ?_ ?_)
   all_goals try omega
   first|refine aD.mk ((hc x.aK[k] (eF hlt) _ hl aA).sub sK) ?_|refine aG.mk ((hc x.aK[k] (eF hlt) _ hl aA).sub sK) ?_
   simp -dsimp -implicitDefEqProofs only[go_sem,↓reduceIte,Tryz.f160]
   refine⟨k+1,?_⟩
   repeat'(with_reducible refine And.intro ?_ ?_)
   all_goals try(rw[IntWalk.i64_in _ aA];first|rfl|omega)
   all_goals try omega
   all_goals try(repeat'(with_reducible first|exact Heap.le_refl _|refine(bA iI).2 ?_))
   all_goals try(simp only[aB.aU];done)
   all_goals(rw[h1];unfold lft;split <;> split <;> omega)
 ·have hk':k=x.aK.length:=by omega
  subst hk'
  rw[aB.aU x]
  simp -dsimp -implicitDefEqProofs only[go_sem,↓reduceIte,Tryz.f160,cV]
  rw[show 1+x.aK.length+((x.aK.take x.aK.length).map aB.s).sum=x.s+1 by omega]
  exact λ_=>rfl
theorem aBQ (x:aB) (left:Int) (h0:0<=left) (h9:left<=4294967296) (hs:x.s<=4294967296):eX Tryz.prog 160 [.ip 5 [x.c] 0 0,I left] (I (lft left (x.s+1))) :=
 aK1 x left h0 h9 hs λy hy left h0 h9=>aBQ y left h0 h9 aR5
termination_by SizeOf.sizeOf x
decreasing_by exact aB.aCU hy
@[go_sem] def a27:List Nat:=[0,1,4,7]
theorem aK2 (a b:Int):eX Tryz.prog 206 [I a,I b] (I (max a b)):=by
 refine eJ 10 a27 cR cC Tryz.func206 λh=>?_
 simp -dsimp -implicitDefEqProofs only[go_sem,↓reduceIte,Tryz.f206]
 repeat'(with_reducible first|intro _|refine And.intro ?_ ?_)
 all_goals omega
@[go_sem] def aTB:List Nat:=[0,2,3,4,11]
theorem aIK (x:aB) (hs:x.s<=4294967296) (hc:∀ y∈x.aK,eX Tryz.prog 183 [.ip 5 [y.c] 0 0] (I (y.d:Int))):eX Tryz.prog 183 [.ip 5 [x.c] 0 0] (I (x.d:Int)):=by
 have hd:=x.a8T
 rw[aB.aYV]at hd ⊢
 rw[aB.aU x]
 refine eJ 25 aTB cR cC Tryz.func183 λh=>?_
 simp -dsimp -implicitDefEqProofs only[go_sem,↓reduceIte,Tryz.f183]
 repeat'(with_reducible first|intro _|refine And.intro ?_ ?_)
 refine dJ aTB cR cC (λk:Nat=>[(0,.ip 5 [x.c] 0 0),(3,I (aB.dL (x.aK.take k):Int)),(4,I k)]) (λ_=>h) (λk=>k<=x.aK.length) (λk=>x.aK.length-k) 0 (by simp[dM,cE,Heap.le_refl,aB.aU,aB.dL]) ?_
 intro k hk
 rw[aB.aU x]
 rcases cQ k x.aK.length with hlt|hge
 ·have h1:=aB.aK0 hlt
  simp -dsimp -implicitDefEqProofs only[go_sem,↓reduceIte,Tryz.f183]
  repeat'(with_reducible first|intro _|refine And.intro ?_ ?_)
  all_goals try omega
  first|refine aD.mk ((hc x.aK[k] (eF hlt)).sub sK) ?_|refine aG.mk ((hc x.aK[k] (eF hlt)).sub sK) ?_
  simp -dsimp -implicitDefEqProofs only[go_sem,↓reduceIte,Tryz.f183]
  first|refine aG.mk (aK2 _ _) ?_|refine aD.mk (aK2 _ _) ?_|refine aG.bC (aK2 _ _) ?_|refine aD.mk (aZ.dB (aK2 _ _)) ?_
  simp -dsimp -implicitDefEqProofs only[go_sem,↓reduceIte,Tryz.f183]
  refine⟨k+1,?_⟩
  repeat'(with_reducible refine And.intro ?_ ?_)
  all_goals try(rw[IntWalk.i64_in _ aA];first|rfl|omega)
  all_goals try omega
  all_goals try(repeat'(with_reducible first|exact Heap.le_refl _|refine(bA iI).2 ?_))
  all_goals try(simp only[aB.aU];done)
 ·have hk':k=x.aK.length:=by omega
  subst hk'
  simp -dsimp -implicitDefEqProofs only[go_sem,↓reduceIte,Tryz.f183,cV]
  intro _
  rw[jG,IntWalk.i64_in _ aA];omega
theorem aGX (x:aB) (hs:x.s<=4294967296):eX Tryz.prog 183 [.ip 5 [x.c] 0 0] (I (x.d:Int)) :=
 aIK x hs λy hy=>aGX y aR5
termination_by SizeOf.sizeOf x
decreasing_by exact aB.aCU hy
def dK (k:Int):Int:=if k=1∨k=2 then 0 else if k=3∨k=4∨k=5∨k=6∨k=9 then 2 else if k=7 then 1 else if k=8 then 3 else -1
def kV (p:aF) (e:aB) (vars funcs:Int):Prop :=
 if e.aN=10∨e.aN=11 then
  0<=e.aX/\e.aX<=funcs-1/\∀ f,p.aI[e.aX.toNat]?=some f ->
   0<=e.cF/\e.cF<=(f.aO.length:Int)-1/\(e.aK.length:Int)=f.bB/\(e.aN=10->e.b7=0)/\(e.aN=11->0<=e.b7/\e.b7<=8/\(f.aO.length:Int)=f.bB)
 else dK e.aN=e.aK.length/\e.cF=0/\e.b7=0/\(e.aN=1->fZ e.aX)/\(e.aN=2->0<=e.aX/\e.aX<=vars-1)/\(e.aN≠1->e.aN≠2->e.aX=0)
noncomputable instance (p:aF) (e:aB) (vars funcs:Int):Decidable (kV p e vars funcs):=Classical.propDecidable _
def gL (kind:Int) (i:Nat) (vars:Int):Int:=if kind=9/\i=1 then vars+1 else vars
mutual
def aB.ok (p:aF) (funcs:Int):aB->Int->Prop
 | .mk a b c d kids,vars=>kV p (.mk a b c d kids) vars funcs/\aB.okL p funcs a kids 0 vars
def aB.okL (p:aF) (funcs:Int) (kind:Int):List aB->Nat->Int->Prop
 | [],_,_=>True
 |x::l,i,vars=>x.ok p funcs (gL kind i vars)/\aB.okL p funcs kind l (i+1) vars
end
noncomputable instance (p:aF) (funcs:Int) (e:aB) (vars:Int):Decidable (e.ok p funcs vars):=Classical.propDecidable _
theorem aB.aTC (p:aF) (funcs kind:Int):∀ (l:List aB) (i:Nat) (vars:Int),aB.okL p funcs kind l i vars↔∀ (k:Nat) (h:k<l.length),l[k].ok p funcs (gL kind (i+k) vars)
 | [],i,vars=>by simp[aB.okL]
 |x::l,i,vars=>by
  rw[aB.okL,aB.aTC p funcs kind l (i+1) vars]
  constructor
  ·rintro⟨h1,h2⟩ k hk
   cases k with
   |zero=>exact h1
   |succ k=>have:=h2 k aMS;rw[show i+1+k=i+(k+1)by omega]at this;exact this
  ·intro h
   refine⟨h 0 cK,λk hk=>?_⟩
   have:=h (k+1) aMS
   rw[show i+1+k=i+(k+1)by omega];exact this
theorem aB.cS (p:aF) (funcs:Int) (x:aB) (vars:Int):x.ok p funcs vars↔kV p x vars funcs/\∀ (k:Nat) (h:k<x.aK.length),x.aK[k].ok p funcs (gL x.aN k vars):=by
 cases x with
 |mk a b c d kids =>
  rw[aB.ok,aB.aTC]
  simp only[aD3,aB.aK,aB.aN]
theorem aF.aJJ (p:aF):p.aI.length<=p.s:=by rw[p.xN,oQ];omega
theorem aF.aGY {p:aF} {f:aV} (h:f∈p.aI):f.s+p.aI.length<=p.s:=by
 have:=aKS aV.s h
 rw[p.xN,oQ];omega
theorem aV.aGZ (f:aV):f.aO.length<=f.s:=by rw[f.xN,oQ];omega
theorem aV.a6O {f:aV} {e:aB} (h:e∈f.aO):e.s<f.s:=by
 have:=aKS aB.s h
 have:=List.length_pos_of_mem h
 rw[f.xN,oQ];omega
@[go_sem] def a8U:List Nat:=[0,2,3,4,7,13,15]
theorem s6 (k:Int):eX Tryz.prog 88 [I k] (I (dK k)):=by
 refine eJ 17 a8U cR cC Tryz.func88 λh=>?_
 simp -dsimp -implicitDefEqProofs only[go_sem,↓reduceIte,Tryz.f88]
 repeat'(with_reducible first|intro _|refine And.intro ?_ ?_)
 all_goals try(first|(simp[dK, *];done)|omega|(grind[dK])|(simp[dK];omega))
theorem qB {p:aF} {e:aB} {vars funcs:Int} (hk:e.aN=10∨e.aN=11) {f:aV} (ef:p.aI[e.aX.toNat]?=some f):kV p e vars funcs ↔
  0<=e.aX/\e.aX<=funcs-1/\0<=e.cF/\e.cF<=(f.aO.length:Int)-1/\(e.aK.length:Int)=f.bB/\(e.aN=10->e.b7=0)/\(e.aN=11->0<=e.b7/\e.b7<=8/\(f.aO.length:Int)=f.bB):=by
 unfold kV
 rw[if_pos hk]
 simp[ef]
theorem aBR {p:aF} {e:aB} {vars funcs:Int} (hk:e.aN=10∨e.aN=11) (hr:¬(0<=e.aX/\e.aX<=funcs-1)):¬kV p e vars funcs:=by
 unfold kV
 rw[if_pos hk]
 intro h
 exact hr ⟨h.1,h.2.1⟩
theorem dI {p:aF} {e:aB} {vars funcs:Int} (hk:¬(e.aN=10∨e.aN=11)):kV p e vars funcs ↔
  dK e.aN=e.aK.length/\e.cF=0/\e.b7=0/\(e.aN=1->fZ e.aX)/\(e.aN=2->0<=e.aX/\e.aX<=vars-1)/\(e.aN≠1->e.aN≠2->e.aX=0):=by
 unfold kV
 rw[if_neg hk]
@[go_sem] def aK3:List Nat:=[0,1,2,3,8,9,21,29,62,67,114,118,119,126]
@[go_sem] def aYX:Marks:=λid=>match id with|4=>([],(.op 0 (.op 1 (.op 2 (.op 3 (.op 4 (.op 5 (.op 6 (.op 7 (.op 8 (.op 9 .nil)))))))))),[])|5=>([],(.op 0 (.op 1 (.op 2 (.op 3 (.op 4 (.op 5 (.op 6 (.op 7 (.op 8 (.op 9 (.op 10 (.op 11 (.op 12 (.op 13 (.op 14 (.op 15 (.op 16 (.op 17 (.op 18 (.op 19 (.op 20 (.op 21 (.op 22 (.op 23 .nil)))))))))))))))))))))))),[])|9=>([],(.op 0 (.op 1 (.op 2 (.op 3 (.op 4 (.op 5 (.op 6 (.op 7 (.op 8 (.op 9 (.op 10 (.op 11 (.op 12 (.op 13 (.op 14 (.op 15 (.op 16 (.op 17 .nil)))))))))))))))))),[])|10=>([],(.op 0 (.op 1 (.op 2 (.op 3 (.op 4 (.op 5 (.op 6 (.op 7 (.op 8 (.op 9 (.op 10 (.op 11 (.op 12 (.op 13 (.op 14 (.op 15 (.op 16 (.op 17 (.op 18 (.op 19 (.op 20 (.op 21 (.op 22 (.op 23 (.op 24 .nil))))))))))))))))))))))))),[])|_=>([],.nil,[])
theorem aTD (p:aF) (e:aB) (vars funcs:Int) (hv:0<=vars) (hv2:vars<=4294967296) (eP:0<=funcs) (hf:funcs<=p.aI.length) (hps:p.s<=4294967296):eX Tryz.prog 207 [.ip 1 [p.c] 0 0,.ip 5 [e.c] 0 0,I vars,I funcs] (.bool (decide (kV p e vars funcs))):=by
 have hl:=p.aJJ
 have e1:IntKind.i64.wrap (funcs-1)=funcs-1:=IntWalk.i64_in _ aA
 have e2:IntKind.i64.wrap (vars-1)=vars-1:=IntWalk.i64_in _ aA
 rw[aB.aU]
 simp only[aF.aU]
 by_cases hk:e.aN=10∨e.aN=11
 ·by_cases hr:0<=e.aX/\e.aX<=funcs-1
  ·obtain⟨f,ef⟩:∃ f,p.aI[e.aX.toNat]?=some f:=⟨_,cP aA⟩
   have hn:=qB (vars:=vars) (funcs:=funcs) hk ef
   have hfs:=aF.aGY (al6 ef)
   have hos:=f.aGZ
   refine eJ 140 aK3 cR aYX Tryz.func207 λh=>?_
   simp -dsimp -implicitDefEqProofs only[go_sem,↓reduceIte,Tryz.f207,e1,e2]
   repeat'(with_reducible first|intro _|refine And.intro ?_ ?_)
   all_goals try omega
   all_goals(first|refine aG.mk (eY e.aX 0 (funcs-1)) ?_|refine aD.mk (eY e.aX 0 (funcs-1)) ?_)
   all_goals simp -dsimp -implicitDefEqProofs only[go_sem,↓reduceIte,Tryz.f207,ef,aV.aU]
   all_goals repeat'(with_reducible first|intro _|refine And.intro ?_ ?_)
   all_goals try omega
   all_goals try simp(disch:=omega) only[IntWalk.i64_in]
   all_goals(first|refine aG.mk (eY e.cF 0 (f.aO.length-1)) ?_|refine aD.mk (eY e.cF 0 (f.aO.length-1)) ?_)
   all_goals simp -dsimp -implicitDefEqProofs only[go_sem,↓reduceIte,Tryz.f207,ef,aV.aU]
   all_goals repeat'(with_reducible first|intro _|refine And.intro ?_ ?_)
   all_goals try omega
   all_goals try(first|(simp[*];done)|omega|grind)
   first|refine aG.mk (eY e.b7 0 8) ?_|refine aD.mk (eY e.b7 0 8) ?_|refine aG.bC (eY e.b7 0 8) ?_|refine aD.mk (aZ.dB (eY e.b7 0 8)) ?_
   simp -dsimp -implicitDefEqProofs only[go_sem,↓reduceIte,Tryz.f207,ef,aV.aU]
   repeat'(with_reducible first|intro _|refine And.intro ?_ ?_)
   all_goals try(first|(simp[*];done)|omega|grind)
  ·have hn:=aBR (p:=p) (vars:=vars) hk hr
   refine eJ 140 aK3 cR aYX Tryz.func207 λh=>?_
   simp -dsimp -implicitDefEqProofs only[go_sem,↓reduceIte,Tryz.f207,e1,e2]
   repeat'(with_reducible first|intro _|refine And.intro ?_ ?_)
   all_goals try omega
   all_goals(first|refine aG.mk (eY e.aX 0 (funcs-1)) ?_|refine aD.mk (eY e.aX 0 (funcs-1)) ?_)
   all_goals simp -dsimp -implicitDefEqProofs only[go_sem,↓reduceIte,Tryz.f207]
   all_goals repeat'(with_reducible first|intro _|refine And.intro ?_ ?_)
   all_goals try(first|(simp[*];done)|omega|grind)
 ·have hn:=dI (p:=p) (vars:=vars) (funcs:=funcs) hk
  refine eJ 140 aK3 cR aYX Tryz.func207 λh=>?_
  simp -dsimp -implicitDefEqProofs only[go_sem,↓reduceIte,Tryz.f207,e1,e2]
  repeat'(with_reducible first|intro _|refine And.intro ?_ ?_)
  all_goals try omega
  first|refine aG.mk (s6 e.aN) ?_|refine aD.mk (s6 e.aN) ?_|refine aG.bC (s6 e.aN) ?_|refine aD.mk (aZ.dB (s6 e.aN)) ?_
  simp -dsimp -implicitDefEqProofs only[go_sem,↓reduceIte,Tryz.f207]
  repeat'(with_reducible first|intro _|refine And.intro ?_ ?_)
  all_goals try(first|(simp[*];done)|omega|grind)
  ·first|refine aG.mk (nY e.aX) ?_|refine aD.mk (nY e.aX) ?_|refine aG.bC (nY e.aX) ?_|refine aD.mk (aZ.dB (nY e.aX)) ?_
   simp -dsimp -implicitDefEqProofs only[go_sem,↓reduceIte,Tryz.f207]
   all_goals try(first|(simp[*];done)|omega|grind)
  ·all_goals try simp(disch:=omega) only[IntWalk.i64_in]
   first|refine aG.mk (eY e.aX 0 (vars-1)) ?_|refine aD.mk (eY e.aX 0 (vars-1)) ?_|refine aG.bC (eY e.aX 0 (vars-1)) ?_|refine aD.mk (aZ.dB (eY e.aX 0 (vars-1))) ?_
   simp -dsimp -implicitDefEqProofs only[go_sem,↓reduceIte,Tryz.f207]
   all_goals try(first|(simp[*];done)|omega|grind)
@[go_sem] def s7:List Nat:=[0,1,2,3,4,6,7,8,9,10,11,12,25,26,38,52,68,69,81,82,94,95,104,125,152,154,155,156,157,168,175]
@[go_sem] def aTE:List Nat:=[0,1,2,3,8,9,10,16,23,35,48]
theorem aK4 (p:aF) (e:aB) (vars funcs:Int) (hv:0<=vars) (hv2:vars+e.s<=4294967296) (eP:0<=funcs) (hf:funcs<=p.aI.length) (hps:p.s<=4294967296)
  (hc:∀ y∈e.aK,∀ vars:Int,0<=vars->vars+y.s<=4294967296->eX Tryz.prog 184 [.ip 1 [p.c] 0 0,.ip 5 [y.c] 0 0,I vars,I funcs] (.bool (decide (y.ok p funcs vars)))) :
  eX Tryz.prog 184 [.ip 1 [p.c] 0 0,.ip 5 [e.c] 0 0,I vars,I funcs] (.bool (decide (e.ok p funcs vars))):=by
 have hok:=aB.cS p funcs e vars
 simp only[aB.aU,aF.aU]
 refine eJ 49 aTE cR cC Tryz.func184 λh=>?_
 simp -dsimp -implicitDefEqProofs only[go_sem,↓reduceIte,Tryz.f184]
 first|refine aD.mk ((aTD p e vars funcs hv aA eP hf hps).sub sK) ?_|refine aG.mk ((aTD p e vars funcs hv aA eP hf hps).sub sK) ?_
 simp -dsimp -implicitDefEqProofs only[go_sem,↓reduceIte,Tryz.f184]
 repeat'(with_reducible first|intro _|refine And.intro ?_ ?_)
 ·rename_i hn
  exact(decide_eq_false λq=>hn (hok.1 q).1).symm
 ·rename_i hn
  refine dJ aTE cR cC (λk:Nat=>[(0,.ip 1 [p.c] 0 0),(1,.ip 5 [e.c] 0 0),(2,I vars),(3,I funcs),(9,I k)]) (λ_=>h) (λk=>k<=e.aK.length/\∀ (j:Nat) (hj:j<e.aK.length),j<k->e.aK[j].ok p funcs (gL e.aN j vars)) (λk=>e.aK.length-k) 0 (by simp[dM,cE,Heap.le_refl,aB.aU,aF.aU]) ?_
  intro k ⟨hk,hp⟩
  simp only[aB.aU,aF.aU]
  rcases cQ k e.aK.length with hlt|hge
  ·have sO:=aB.aFD (eF hlt)
   have nx (q:e.aK[k].ok p funcs (gL e.aN k vars)):∀ (j:Nat) (hj:j<e.aK.length),j<k+1->e.aK[j].ok p funcs (gL e.aN j vars):=by
    intro j hj hjk
    rcases aFA.1 hjk with h1|rfl
    ·exact hp j hj h1
    ·exact q
   have no (q:¬e.aK[k].ok p funcs (gL e.aN k vars)):false=decide (e.ok p funcs vars):=(decide_eq_false λz=>q ((hok.1 z).2 k hlt)).symm
   simp -dsimp -implicitDefEqProofs only[go_sem,↓reduceIte,Tryz.f184]
   repeat'(with_reducible first|intro _|refine And.intro ?_ ?_)
   all_goals try omega
   ·have em:gL e.aN k vars=vars+1:=if_pos ⟨by assumption,by omega⟩
    rw[em]at nx no
    all_goals try simp(disch:=omega) only[IntWalk.i64_in]
    first|refine aD.mk ((hc e.aK[k] (eF hlt) (vars+1) aA aA).sub sK) ?_|refine aG.mk ((hc e.aK[k] (eF hlt) (vars+1) aA aA).sub sK) ?_
    simp -dsimp -implicitDefEqProofs only[go_sem,↓reduceIte,Tryz.f184]
    repeat'(with_reducible first|intro _|refine And.intro ?_ ?_)
    ·exact no jH
    ·refine⟨k+1,?_⟩
     repeat'(with_reducible refine And.intro ?_ ?_)
     all_goals try(rw[IntWalk.i64_in _ aA];first|rfl|omega)
     all_goals try omega
     all_goals try(repeat'(with_reducible first|exact Heap.le_refl _|refine(bA iI).2 ?_))
     all_goals try(simp only[aB.aU,aF.aU];done)
     exact nx jH
   all_goals
    have em:gL e.aN k vars=vars:=if_neg aA
    rw[em]at nx no
    first|refine aD.mk ((hc e.aK[k] (eF hlt) vars aA aA).sub sK) ?_|refine aG.mk ((hc e.aK[k] (eF hlt) vars aA aA).sub sK) ?_
    simp -dsimp -implicitDefEqProofs only[go_sem,↓reduceIte,Tryz.f184]
    repeat'(with_reducible first|intro _|refine And.intro ?_ ?_)
    ·exact no jH
    ·refine⟨k+1,?_⟩
     repeat'(with_reducible refine And.intro ?_ ?_)
     all_goals try(rw[IntWalk.i64_in _ aA];first|rfl|omega)
     all_goals try omega
     all_goals try(repeat'(with_reducible first|exact Heap.le_refl _|refine(bA iI).2 ?_))
     all_goals try(simp only[aB.aU,aF.aU];done)
     exact nx jH
  ·have hk':k=e.aK.length:=by omega
   subst hk'
   simp -dsimp -implicitDefEqProofs only[go_sem,↓reduceIte,Tryz.f184,cV]
   exact λ_=>(decide_eq_true (hok.2 ⟨hn,λj hj=>hp j hj hj⟩)).symm
theorem aK5 (p:aF) (e:aB) (vars funcs:Int) (hv:0<=vars) (hv2:vars+e.s<=4294967296) (eP:0<=funcs) (hf:funcs<=p.aI.length) (hps:p.s<=4294967296) :
  eX Tryz.prog 184 [.ip 1 [p.c] 0 0,.ip 5 [e.c] 0 0,I vars,I funcs] (.bool (decide (e.ok p funcs vars))) :=
 aK4 p e vars funcs hv hv2 eP hf hps λy hy vars hv hv2=>aK5 p y vars funcs hv hv2 eP hf hps
termination_by SizeOf.sizeOf e
decreasing_by exact aB.aCU hy
end Go.Hl

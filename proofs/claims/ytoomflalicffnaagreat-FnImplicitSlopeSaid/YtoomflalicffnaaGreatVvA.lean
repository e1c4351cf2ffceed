/-
  Contracts of functions and laws of the layer over the walk.
-/
import Derived.Test.YtoomflalicffnaaGreatHlD
import Derived.Test.YtoomflalicffnaaGreatProg
import Derived.KernelRfl
namespace Go.Hl
open Go.Proofs
set_option linter.unusedVariables false
set_option linter.unusedSimpArgs false
@[go_sem] theorem ty2:iE Tryz.prog 2=some ⟨1,false,8,[.int .i64 0],.int .i64⟩:=by kernel_rfl
@[go_sem] theorem ty3:iE Tryz.prog 3=some ⟨1,false,8,[.int .i64 0],.int .i64⟩:=by kernel_rfl
@[go_sem] theorem ty4:iE Tryz.prog 4=some ⟨1,false,1,[.bool false],.bool⟩:=by kernel_rfl
@[go_sem] theorem ty5:iE Tryz.prog 5=some ⟨1,false,1,[.int .u8 0],.int .u8⟩:=by kernel_rfl
@[go_sem] theorem ty9:iE Tryz.prog 9=some ⟨1,false,16,[.str []],.str⟩:=by kernel_rfl
@[go_sem] theorem bX7:iE Tryz.prog 22=some ⟨1,false,24,[.bS],.slice 140⟩:=by kernel_rfl
@[go_sem] theorem bX8:iE Tryz.prog 24=some ⟨1,true,24,[.bS],.st [(0,22,1)]⟩:=by kernel_rfl
@[go_sem] theorem bX9:iE Tryz.prog 25=some ⟨1,false,24,[.bS],.slice 2⟩:=by kernel_rfl
@[go_sem] theorem bYA:iE Tryz.prog 27=some ⟨1,false,24,[.bS],.slice 25⟩:=by kernel_rfl
@[go_sem] theorem bYB:iE Tryz.prog 30=some ⟨1,false,24,[.bS],.slice 77⟩:=by kernel_rfl
@[go_sem] theorem bYC:iE Tryz.prog 32=some ⟨1,true,24,[.bS],.st [(0,30,1)]⟩:=by kernel_rfl
@[go_sem] theorem bYD:iE Tryz.prog 45=some ⟨1,false,24,[.bS],.slice 5⟩:=by kernel_rfl
@[go_sem] theorem bYE:iE Tryz.prog 52=some ⟨1,false,24,[.bS],.slice 126⟩:=by kernel_rfl
@[go_sem] theorem bYF:iE Tryz.prog 53=some ⟨1,false,24,[.bS],.slice 213⟩:=by kernel_rfl
@[go_sem] theorem bYG:iE Tryz.prog 55=some ⟨4,true,80,[.int .i64 0,.bS,.bS,.bS],.st [(0,2,1),(1,52,1),(2,53,1),(3,25,1)]⟩:=by kernel_rfl
@[go_sem] theorem bYH:iE Tryz.prog 73=some ⟨1,false,8,[.jU],.ptr 32⟩:=by kernel_rfl
@[go_sem] theorem bYI:iE Tryz.prog 75=some ⟨1,false,24,[.bS],.slice 173⟩:=by kernel_rfl
@[go_sem] theorem bYJ:iE Tryz.prog 77=some ⟨3,true,48,[.str [],.int .i64 0,.bS],.st [(0,9,1),(1,2,1),(2,75,1)]⟩:=by kernel_rfl
@[go_sem] theorem bYK:iE Tryz.prog 88=some ⟨1,false,24,[.bS],.slice 27⟩:=by kernel_rfl
@[go_sem] theorem bWB:iE Tryz.prog 104=some ⟨1,false,8,[.jU],.ptr 165⟩:=by kernel_rfl
@[go_sem] theorem bWC:iE Tryz.prog 123=some ⟨8,true,144,[.bS,.int .i64 0,.bS,.bS,.bS,.bS,.int .i64 0,.int .i64 0],.st [(0,32,1),(1,55,4),(5,25,1),(6,2,1),(7,2,1)]⟩:=by kernel_rfl
@[go_sem] theorem bWD:iE Tryz.prog 126=some ⟨4,true,32,[.int .i64 0,.int .i64 0,.int .i64 0,.int .i64 0],.st [(0,2,1),(1,2,1),(2,2,1),(3,2,1)]⟩:=by kernel_rfl
@[go_sem] theorem bWE:iE Tryz.prog 138=some ⟨1,false,24,[.bS],.slice 219⟩:=by kernel_rfl
@[go_sem] theorem bWF:iE Tryz.prog 140=some ⟨3,true,48,[.str [],.int .i64 0,.bS],.st [(0,9,1),(1,2,1),(2,138,1)]⟩:=by kernel_rfl
@[go_sem] theorem bWG:iE Tryz.prog 143=some ⟨6,true,112,[.jU,.int .i64 0,.bS,.bS,.bS,.bS],.st [(0,73,1),(1,55,4),(5,25,1)]⟩:=by kernel_rfl
@[go_sem] theorem bWH:iE Tryz.prog 158=some ⟨4,true,32,[.jU,.int .i64 0,.int .i64 0,.int .i64 0],.st [(0,73,1),(1,3,1),(2,2,1),(3,2,1)]⟩:=by kernel_rfl
@[go_sem] theorem bWI:iE Tryz.prog 163=some ⟨1,false,8,[.int .u64 0],.int .u64⟩:=by kernel_rfl
@[go_sem] theorem bWJ:iE Tryz.prog 165=some ⟨3,true,40,[.bS,.int .i64 0,.int .u64 0],.st [(0,45,1),(1,3,1),(2,163,1)]⟩:=by kernel_rfl
@[go_sem] theorem bWK:iE Tryz.prog 167=some ⟨1,false,24,[.bS],.slice 9⟩:=by kernel_rfl
@[go_sem] theorem bWL:iE Tryz.prog 171=some ⟨4,true,32,[.jU,.jU,.int .i64 0,.bool false],.st [(0,104,1),(1,73,1),(2,2,1),(3,4,1)]⟩:=by kernel_rfl
@[go_sem] theorem bWM:iE Tryz.prog 173=some ⟨5,true,56,[.int .i64 0,.int .i64 0,.int .i64 0,.int .i64 0,.bS],.st [(0,2,1),(1,2,1),(2,2,1),(3,2,1),(4,75,1)]⟩:=by kernel_rfl
@[go_sem] theorem bWN:iE Tryz.prog 192=some ⟨4,true,48,[.bS,.int .i64 0,.int .i64 0,.int .i64 0],.st [(0,32,1),(1,3,1),(2,2,1),(3,2,1)]⟩:=by kernel_rfl
@[go_sem] theorem bWO:iE Tryz.prog 213=some ⟨2,true,16,[.int .i64 0,.bool false],.st [(0,2,1),(1,4,1)]⟩:=by kernel_rfl
@[go_sem] theorem bWP:iE Tryz.prog 219=some ⟨5,true,56,[.int .i64 0,.int .i64 0,.int .i64 0,.int .i64 0,.bS],.st [(0,2,1),(1,2,1),(2,2,1),(3,2,1),(4,138,1)]⟩:=by kernel_rfl
@[go_sem] theorem bWQ:iE Tryz.prog 227=some ⟨2,true,32,[.bS,.int .i64 0],.st [(0,32,1),(1,2,1)]⟩:=by kernel_rfl
@[go_sem] def cF:Marks:=λ_=>([],.nil,[])
@[go_sem] def cU:List Nat:=[]
@[go_sem] def aBD:List Nat:=[0,2]
@[go_sem] def zX:List Nat:=[0,1,4]
@[go_sem] def a3X:List Nat:=[2]
@[go_sem] def aK8:List Nat:=[1]
@[go_sem] def bL8:List Nat:=[0,2,3,4,11]
@[go_sem] def a0S:List Nat:=[3]
@[go_sem] def bTC:List Nat:=[0,1,2,3]
@[go_sem] def aK9:List Nat:=[0,1,4,5,6,11]
@[go_sem] def aXJ:List Nat:=[4]
@[go_sem] def aXK:List Nat:=[0,2,3,4,9]
@[go_sem] def aL6:List Nat:=[0,1,4,5,7,8,9,16]
@[go_sem] def bCX:List Nat:=[0,2,4]
@[go_sem] def bCY:List Nat:=[0,1,4,5]
@[go_sem] def aXL:List Nat:=[10,22]
@[go_sem] def aL7:List Nat:=[0,2,3,5,7,8,9,10]
@[go_sem] def bWR:List Nat:=[0,1,4,5,11,15,25]
@[go_sem] def bWS:List Nat:=[0,1,4,5,10,14,26]
@[go_sem] def bWT:Marks:=λid=>match id with|6=>([],(.op 0 (.op 1 (.op 2 (.op 3 (.op 4 (.op 5 (.op 6 (.op 7 (.op 8 (.op 9 .nil)))))))))),[])|_=>([],.nil,[])
@[go_sem] def bWU:List Nat:=[2,3]
@[go_sem] def bCZ:List Nat:=[0,1,2,6]
@[go_sem] def aXM:List Nat:=[0,1,2,3,5,7,8,9,10]
@[go_sem] def aDK:List Nat:=[3,4]
@[go_sem] def bL9:List Nat:=[5]
@[go_sem] def bC0:List Nat:=[0,2,3,7]
@[go_sem] def aXN:List Nat:=[0,1,4,5,6,11,12,13]
@[go_sem] def bC1:List Nat:=[0,1,2,6,7,9,11,12,13,14]
@[go_sem] def bC2:List Nat:=[0,1,2,6,7,8,16]
@[go_sem] def bC3:List Nat:=[9,29]
@[go_sem] def aRJ:List Nat:=[0,1,2,6,7,8,9,10,18,49,67]
@[go_sem] def aRK:List Nat:=[11,31]
@[go_sem] def aRL:Marks:=λid=>match id with|6=>([3],(.op 0 (.op 1 (.op 2 (.op 7 (.op 8 (.op 9 (.op 10 (.op 3 (.op 4 (.op 5 (.op 6 (.op 11 (.op 12 .nil))))))))))))),[])|8=>([11],(.op 0 (.op 1 (.op 2 (.op 3 (.op 4 (.op 5 (.op 6 (.op 7 (.op 8 (.op 9 (.op 10 (.op 11 (.op 12 .nil))))))))))))),[])|_=>([],.nil,[])
@[go_sem] def bC4:List Nat:=[0,1,2,4,6]
@[go_sem] def bWV:List Nat:=[0,1,2,4,10]
@[go_sem] def bMA:List Nat:=[0,1,2,4]
@[go_sem] def bC5:List Nat:=[5,19]
theorem mix:Tryz.prog.follows .mixedOrders=true:=by kernel_rfl
abbrev I (n:Int):aE:=.int .i64 n
abbrev ints (l:List Int):aE:=.sl 1 (l.map λn=>[I n]) false
abbrev gF {α:Type} (sz:Nat) (c:α->List aE) (l:List α):aE:=.sl sz (l.map c) false
def InI (n:Int):Prop:=-9223372036854775808<=n/\n<=9223372036854775807
def InB (n:Int):Prop:=0<=n/\n<=255
def lft (left:Int) (n:Nat):Int:=if left-n<0 then -1 else left-n
theorem aL8 (left:Int) (n:Nat):(lft left n=-1/\left-n<0)∨(lft left n=left-n/\0<=left-n):=by
 unfold lft;split
 ·exact .inl ⟨rfl,by assumption⟩
 ·exact .inr ⟨rfl,by omega⟩
theorem a8P {left:Int} {n:Nat} (h:left-n<0):lft left n=-1:=if_pos h
theorem lM {α:Type} (s:α->Nat) (l:List α) (k:Nat) (h:k<l.length):((l.take (k+1)).map s).sum=((l.take k).map s).sum+s l[k]:=by
 rw[jF h,lT,List.sum_append];simp only[p5,v7,aFM,List.sum_nil,aTR]
theorem vD {α:Type} (s:α->Nat):∀ (l:List α) (k:Nat),((l.take k).map s).sum<=(l.map s).sum
 | [],k=>by simp
 |a::l,0=>by simp
 |a::l,k+1=>by have:=vD s l k;simp only[bEL,p5,aFM];omega
theorem aNS {α:Type} (s:α->Nat) {l:List α} {x:α} (h:x∈l):s x<=(l.map s).sum:=by
 induction l with
 |nil=>simp at h
 |cons a l ih =>
  simp only[p5,aFM]
  rcases mW.1 h with rfl|h
  ·omega
  ·have:=ih h;omega
theorem aP (h:aB) (n m:Nat) (o:bV):aU h n o m=if m=n then some o else h m:=rfl
theorem nO (l:List (List aE)):eU (l.map (List.map .v))=l:=by
 induction l with
 |nil=>rfl
 |cons e l ih =>
  have:aEQ (e.map Cell.v)=e:=by
   induction e with
   |nil=>rfl
   |cons x e ih=>simp only[p5,aEQ,Cell.val,ih]
  simp only[eU,p5]at ih ⊢
  rw[ih,this]
theorem aE5 {h h':aB} {n sz:Nat} (es:List (List aE)) (h0:h n=none) (hl:(aU h n (.row sz (es.map (List.map .v)))).le h') (len:Nat) (e:len=es.length):Shift (.os n sz 0 len) h' (.sl sz es false) h:=by
 subst e
 refine(Shift.of (Sub.refl _) hl).trans ((Shift.fG (aI _ _ _) (by simp[jB])).trans ?_)
 have:aE.fG n (eU (es.map (List.map .v))) (.os n sz 0 es.length)=.sl sz es false:=by simp[aE.fG,nO]
 rw[this]
 exact eK ((bM h0).2 ((bM h0).2 (aB.le_refl h)))
theorem aV8 {α β:Type} {f:α->β} {l:List α} {k:Nat} (h:k<l.length):(l.map f)[k]?=some (f l[k]):=by
 rw[qR,eY h];rfl
theorem qI {α:Type} {P:α->Prop} {l:List α} {k:Nat} (h:k<l.length) (hp:∀ x∈l.take k,P x) (he:P l[k]):∀ x∈l.take (k+1),P x:=by
 rw[jF h]
 intro x hx
 rcases oW.1 hx with hx|hx
 ·exact hp x hx
 ·rw[jL.1 hx];exact he
def idxOf {α:Type} (p:α->Bool) (l:List α):Int:=match l.findIdx? p with|some i=>i|none=>-1
theorem rF {α:Type} {p:α->Bool} {l:List α} (h:∀ x∈l,p x=false):idxOf p l=-1:=by
 have:l.findIdx? p=none:=List.findIdx?_eq_none_iff.2 h
 simp only[idxOf,this]
theorem rG {α:Type} {p:α->Bool} {l:List α} {k:Nat} (hk:k<l.length) (h:∀ x∈l.take k,p x=false) (he:p l[k]=true):idxOf p l=k:=by
 have:l.findIdx? p=some k:=by
  rw[bB3]
  refine⟨hk,he,λj hj=>?_⟩
  have:=h l[j] (List.mem_take_iff_getElem.2 ⟨j,by omega,rfl⟩)
  simp[this]
 simp only[idxOf,this]
theorem nZ {α:Type} {p:α->Bool} {l:List α}:decide (0<=idxOf p l)=l.any p:=by
 unfold idxOf
 cases h:l.findIdx? p with
 |none =>
  have:=List.findIdx?_eq_none_iff.1 h
  simp only
  rw[Bool.eq_false_iff.2 (show l.any p≠true from ?_)]
  ·simp
  ·intro hx
   obtain⟨x,hx,hp⟩:=a2I.1 hx
   rw[this x hx]at hp;cases hp
 |some i =>
  obtain⟨hi,hp,_⟩:=bB3.1 h
  have:l.any p=true:=a2I.2 ⟨_,kM hi,hp⟩
  rw[this];simp
def iW (n:Int):Prop:=0<=n/\n<=1000002
instance (n:Int):Decidable (iW n):=inferInstanceAs (Decidable (0<=n/\n<=1000002))
def dW (l:List Int):Prop:=∀ x∈l,iW x
instance (l:List Int):Decidable (dW l):=inferInstanceAs (Decidable (∀ x∈l,iW x))
theorem aNT {α:Type} {P:α->Prop} [DecidablePred P] {l:List α} [Decidable (∀ x∈l,P x)]:(!l.any λx=>!decide (P x))=decide (∀ x∈l,P x):=by
 rw[Bool.eq_iff_iff]
 simp[List.any_eq_false]
inductive aD where
 |mk (aT:Int) (bB:Int) (c4:Int) (cN:Int) (aM:(List aD))
def aD.aT:aD->Int
 | .mk aT bB c4 cN aM=>aT
def aD.bB:aD->Int
 | .mk aT bB c4 cN aM=>bB
def aD.c4:aD->Int
 | .mk aT bB c4 cN aM=>c4
def aD.cN:aD->Int
 | .mk aT bB c4 cN aM=>cN
def aD.aM:aD->(List aD)
 | .mk aT bB c4 cN aM=>aM
mutual
def aD.c:aD->List aE
 | .mk aT bB c4 cN aM=>[(.int .i64 aT),(.int .i64 bB),(.int .i64 c4),(.int .i64 cN),.sl 5 (aD.cL aM) false]
def aD.cL:List aD->List (List aE)
 | []=>[]
 |x::l=>x.c::aD.cL l
end
mutual
def aD.s:aD->Nat
 | .mk aT bB c4 cN aM=>(aM.length+aD.sL aM)
def aD.sL:List aD->Nat
 | []=>0
 |x::l=>x.s+aD.sL l
end
theorem aD.a3Y:∀ l,aD.cL l=l.map aD.c
 | []=>rfl
 |x::l=>by simp only[aD.cL,p5,aD.a3Y l]
theorem aD.a3Z:∀ l,aD.sL l=(l.map aD.s).sum
 | []=>rfl
 |x::l=>by simp only[aD.sL,p5,aFM,aD.a3Z l]
theorem aD.aZ (x:aD):x.c=[(.int .i64 x.aT),(.int .i64 x.bB),(.int .i64 x.c4),(.int .i64 x.cN),(gF 5 aD.c x.aM)]:=by cases x;simp only[aD.c,aD.a3Y,gF];rfl
theorem aD.aB6 (x:aD):x.s=(qU aD.s x.aM):=by cases x;simp only[aD.s,aD.a3Z,qU];rfl
theorem aD.aE6 {x y:aD} (h:y∈x.aM):SizeOf.sizeOf y<SizeOf.sizeOf x:=by
 cases x
 have:=List.sizeOf_lt_of_mem h
 simp only[aD.aM]at this
 simp only[aD.mk.sizeOf_spec];omega
@[simp] theorem aD.aRM (x:aD):x.c.length=5:=by rw[aD.aZ];rfl
inductive aD.wf:aD->Prop
 |mk (x:aD) (h0:InI x.aT) (h1:InI x.bB) (h2:InI x.c4) (h3:InI x.cN) (hk:∀ y∈x.aM,y.wf):x.wf
noncomputable instance:DecidableEq aD:=λa b=>Classical.propDecidable (a=b)
structure aX where
 kQ:(List UInt8)
 aW:Int
 aS:(List aD)
def aX.c (x:aX):List aE:=[(.str x.kQ),(.int .i64 x.aW),(gF 5 aD.c x.aS)]
def aX.s (x:aX):Nat:=x.kQ.length+(qU aD.s x.aS)
theorem aX.aZ (x:aX):x.c=[(.str x.kQ),(.int .i64 x.aW),(gF 5 aD.c x.aS)]:=rfl
theorem aX.aB6 (x:aX):x.s=x.kQ.length+(qU aD.s x.aS):=rfl
@[simp] theorem aX.aRM (x:aX):x.c.length=3:=by rw[aX.aZ];rfl
def aX.wf (x:aX):Prop:=InI x.aW/\(∀ y∈x.aS,y.wf)
noncomputable instance:DecidableEq aX:=λa b=>Classical.propDecidable (a=b)
structure aG where
 aK:(List aX)
def aG.c (x:aG):List aE:=[(gF 3 aX.c x.aK)]
def aG.s (x:aG):Nat:=(qU aX.s x.aK)
theorem aG.aZ (x:aG):x.c=[(gF 3 aX.c x.aK)]:=rfl
theorem aG.aB6 (x:aG):x.s=(qU aX.s x.aK):=rfl
@[simp] theorem aG.aRM (x:aG):x.c.length=1:=by rw[aG.aZ];rfl
def aG.wf (x:aG):Prop:=(∀ y∈x.aK,y.wf)
noncomputable instance:DecidableEq aG:=λa b=>Classical.propDecidable (a=b)
theorem a30 {P:Program} {n:Nat} {t:TypeId} {xs:List aE} (hu:P.underlying t=some (.int .u8)) (h:Dat P n t xs):∃ i:Int,xs=[.int .u8 i]/\InB i:=by
 match n,h with
 |0,h=>exact h.elim
 |n+1,h =>
  simp only[Dat,hu]at h
  obtain⟨i,rfl,hw⟩:=h
  refine⟨i,rfl,?_⟩
  have h1:IntKind.min .u8=0:=by decide
  have h2:IntKind.max .u8=255:=by decide
  simp[Lit.wf,IntKind.has,h1,h2]at hw
  unfold InB
  omega
theorem aXO {α:Type} {c:α->List aE} {w:α->Prop}:∀ {es:List (List aE)},(∀ y∈es,∃ x,y=c x/\w x)->∃ l:List α,es=l.map c/\∀ x∈l,w x
 | [],_=>⟨[],rfl,by simp⟩
 |e::es,h=>by
  obtain⟨x,rfl,hx⟩:=h _ zD
  obtain⟨l,rfl,hl⟩:=aXO λy hy=>h y (v9 _ hy)
  refine⟨x::l,rfl,λy hy=>?_⟩
  rcases mW.1 hy with rfl|hy
  ·exact hx
  ·exact hl y hy
theorem aL9 {P:Program} {n sz:Nat} {t e:TypeId} {α:Type} {c:α->List aE} {w:α->Prop} {xs:List aE} (hu:P.underlying t=some (.slice e)) (hc:P.cellsOf e=sz) (h:Dat P n t xs)
  (hx:∀ m y,m<n->Dat P m e y->∃ x,y=c x/\w x):∃ l:List α,xs=[gF sz c l]/\∀ x∈l,w x:=by
 match n,h with
 |0,h=>exact h.elim
 |n+1,h =>
  simp only[Dat,hu]at h
  obtain⟨es,rfl,hes⟩:=h
  obtain⟨l,rfl,hl⟩:=aXO λy hy=>hx n y aA (hes y hy)
  exact⟨l,by rw[hc],hl⟩
theorem a31:Tryz.prog.cellsOf 5=1:=by kernel_rfl
def bMC:List TypeId:=[2,5,9,22,24,25,27,45,138,140,219]
theorem a8Q:a0P Tryz.prog bMC=true:=by kernel_rfl
set_option maxRecDepth 100000
theorem fF (n a b:Int):fE Tryz.prog 86 [I n,I a,I b] (.bool (decide (a<=n/\n<=b))):=by
 refine fU 15 bCZ cU cF Tryz.func86 λh=>?_
 simp -dsimp -implicitDefEqProofs only[go_sem,↓reduceIte,Tryz.f86]
 repeat'(with_reducible first|intro _|refine And.intro ?_ ?_)
 all_goals try(first|(simp[*];done)|omega|grind)
theorem within (n a b:Int):fE Tryz.prog 116 [I n,I a,I b] (.bool (decide (a<=n/\n<=b))):=by
 refine fU 15 bCZ cU cF Tryz.func116 λh=>?_
 simp -dsimp -implicitDefEqProofs only[go_sem,↓reduceIte,Tryz.f116]
 repeat'(with_reducible first|intro _|refine And.intro ?_ ?_)
 all_goals try(first|(simp[*];done)|omega|grind)
theorem pW (n:Int):fE Tryz.prog 183 [I n] (.bool (decide (iW n))):=by
 refine fU 5 aBD cU cF Tryz.func183 λh=>?_
 simp -dsimp -implicitDefEqProofs only[go_sem,↓reduceIte,Tryz.f183]
 first|refine aH.mk (fF n 0 1000002) ?_|refine aF.mk (fF n 0 1000002) ?_|refine aH.bI (fF n 0 1000002) ?_|refine aF.mk (bC.dI (fF n 0 1000002)) ?_
 simp -dsimp -implicitDefEqProofs only[go_sem,↓reduceIte,Tryz.f183]
 all_goals rfl
theorem mJ (n:Int):fE Tryz.prog 168 [I n] (.bool (decide (iW n))):=by
 refine fU 5 aBD cU cF Tryz.func168 λh=>?_
 simp -dsimp -implicitDefEqProofs only[go_sem,↓reduceIte,Tryz.f168]
 first|refine aH.mk (within n 0 1000002) ?_|refine aF.mk (within n 0 1000002) ?_|refine aH.bI (within n 0 1000002) ?_|refine aF.mk (bC.dI (within n 0 1000002)) ?_
 simp -dsimp -implicitDefEqProofs only[go_sem,↓reduceIte,Tryz.f168]
 all_goals rfl
@[go_sem] def aXT:List Nat:=[0,2,3,7,15]
theorem x6 (l:List Int):fE Tryz.prog 124 [gF 1 (λn=>[I n]) l] (.bool (decide (dW l))):=by
 refine fU 16 aXT cU cF Tryz.func124 λh=>?_
 simp -dsimp -implicitDefEqProofs only[go_sem,↓reduceIte,Tryz.f124]
 refine cM aXT cU cF (λk:Nat=>[(0,gF 1 (λn=>[I n]) l),(3,I k)]) (λ_=>h) (λk=>k<=(l).length/\∀ x∈(l).take k,iW x) (λk=>(l).length-k) 0 aFP ?_
 intro k ⟨hk,hp⟩
 rcases bT k (l).length with hlt|hge
 ·have ea:(l)[k]?=some (l)[k]:=eY hlt
  simp -dsimp -implicitDefEqProofs only[go_sem,↓reduceIte,Tryz.f124,ea]
  repeat'(with_reducible first|intro _|refine And.intro ?_ ?_)
  all_goals try omega
  first|refine aH.mk (pW l[k]) ?_|refine aF.mk (pW l[k]) ?_|refine aH.bI (pW l[k]) ?_|refine aF.mk (bC.dI (pW l[k])) ?_
  simp -dsimp -implicitDefEqProofs only[go_sem,↓reduceIte,Tryz.f124]
  repeat'(with_reducible first|intro _|refine And.intro ?_ ?_)
  ·rename_i he
   exact(decide_eq_false λe=>he (e _ (kM hlt))).symm
  ·rename_i he
   refine⟨k+1,?_⟩
   repeat'(with_reducible refine And.intro ?_ ?_)
   all_goals try(rw[IntWalk.i64_in _ aA];first|rfl|omega)
   all_goals try omega
   all_goals try(repeat'(with_reducible first|exact aB.le_refl _|refine(bM nW).2 ?_))
   exact qI hlt hp he
 ·have hk':k=(l).length:=by omega
  subst hk'
  rw[nL]at hp
  simp -dsimp -implicitDefEqProofs only[go_sem,↓reduceIte,Tryz.f124,bU]
  intro _
  exact(decide_eq_true hp).symm
theorem aRS (a:List Int) (p:Int->Bool) (g:FuncId) (cap:List aE) {h0:aB} (hc:∀ x∈a,bC Tryz.prog g ([(.int .i64 x)]++cap) (.bool (p x)) h0):bC Tryz.prog 197 [(gF 1 (λn=>[I n]) a),.fn (.func g) [] cap] (I (idxOf p a)) h0:=by
 refine aF6 19 aL6 cU cF Tryz.func197 λh hle=>?_
 simp -dsimp -implicitDefEqProofs only[go_sem,↓reduceIte,Tryz.f197,Tryz.f197]
 intro _
 refine cM aL6 cU cF (λk:Nat=>[(0,(gF 1 (λn=>[I n]) a)),(1,.fn (.func g) [] cap),(7,I a.length),(8,I k)]) (λ_=>h) (λk=>k<=a.length/\∀ x∈a.take k,p x=false) (λk=>a.length-k) 0 aFP ?_
 intro k ⟨hk,hp⟩
 rcases bT k a.length with hlt|hge
 ·have ea:a[k]?=some a[k]:=eY hlt
  simp -dsimp -implicitDefEqProofs only[go_sem,↓reduceIte,Tryz.f197,Tryz.f197,ea]
  repeat'(with_reducible first|intro _|refine And.intro ?_ ?_)
  all_goals try omega
  have hx:=hc a[k] (kM hlt)
  refine aH.bI (hx.mono hle) ?_
  cases hpk:p a[k]with
  |true =>
   simp -dsimp -implicitDefEqProofs only[go_sem,↓reduceIte,Tryz.f197,Tryz.f197]
   repeat'(with_reducible first|intro _|refine And.intro ?_ ?_)
   all_goals first|exact(rG hlt hp hpk).symm|rfl|(rw[rG hlt hp hpk])
  |false =>
   simp -dsimp -implicitDefEqProofs only[go_sem,↓reduceIte,Tryz.f197,Tryz.f197]
   refine⟨k+1,?_⟩
   repeat'(with_reducible refine And.intro ?_ ?_)
   all_goals try(rw[IntWalk.i64_in _ aA];first|rfl|omega)
   all_goals try omega
   exact qI (P:=λx=>p x=false) hlt hp hpk
 ·have hk':k=a.length:=by omega
  subst hk'
  rw[nL]at hp
  simp -dsimp -implicitDefEqProofs only[go_sem,↓reduceIte,Tryz.f197,Tryz.f197,bU]
  all_goals first|exact(rF hp).symm|rw[rF hp]
theorem rX (a:List Int) (p:Int->Bool) (g:FuncId) (cap:List aE) {h0:aB} (hc:∀ x∈a,bC Tryz.prog g ([(.int .i64 x)]++cap) (.bool (p x)) h0):bC Tryz.prog 166 [(gF 1 (λn=>[I n]) a),.fn (.func g) [] cap] (.bool (a.any p)) h0:=by
 refine aF6 9 zX cU cF Tryz.func166 λh hle=>?_
 simp -dsimp -implicitDefEqProofs only[go_sem,↓reduceIte,Tryz.f166,Tryz.f166]
 refine aH.bI ((aRS a p g cap hc).mono hle) ?_
 simp -dsimp -implicitDefEqProofs only[go_sem,↓reduceIte,Tryz.f166,Tryz.f166]
 all_goals first|done|exact nZ|rw[nZ]
theorem vG (n:Int):fE Tryz.prog 167 [I n] (.bool (!decide (iW n))):=by
 refine fU 6 aBD cU cF Tryz.func167 λh=>?_
 simp -dsimp -implicitDefEqProofs only[go_sem,↓reduceIte,Tryz.f167]
 first|refine aH.mk (mJ n) ?_|refine aF.mk (mJ n) ?_|refine aH.bI (mJ n) ?_|refine aF.mk (bC.dI (mJ n)) ?_
 simp -dsimp -implicitDefEqProofs only[go_sem,↓reduceIte,Tryz.f167]
theorem pJ (l:List Int) (c:Int):fE Tryz.prog 93 [gF 1 (λn=>[I n]) l,I c] (.bool (decide ((l.length:Int)=c/\dW l))):=by
 refine fU 14 zX cU cF Tryz.func93 λh=>?_
 simp -dsimp -implicitDefEqProofs only[go_sem,↓reduceIte,Tryz.f93]
 repeat'(with_reducible first|intro _|refine And.intro ?_ ?_)
 all_goals try(first|(simp[*];done)|omega|grind)
 first|refine aH.mk (rX l (λn=>!decide (iW n)) 167 [] λx _=>(vG x).a3W) ?_|refine aF.mk (rX l (λn=>!decide (iW n)) 167 [] λx _=>(vG x).a3W) ?_|refine aH.bI (rX l (λn=>!decide (iW n)) 167 [] λx _=>(vG x).a3W) ?_|refine aF.mk (bC.dI (rX l (λn=>!decide (iW n)) 167 [] λx _=>(vG x).a3W)) ?_
 simp -dsimp -implicitDefEqProofs only[go_sem,↓reduceIte,Tryz.f93]
 rename_i e
 rw[aNT,decide_eq_decide]
 exact⟨λq=>⟨e,q⟩,λq=>q.2⟩
def Low (c:UInt8):Prop:=97<=c.toNat/\c.toNat<=122
def Dig (c:UInt8):Prop:=48<=c.toNat/\c.toNat<=57
instance (c:UInt8):Decidable (Low c):=inferInstanceAs (Decidable (_/\_))
instance (c:UInt8):Decidable (Dig c):=inferInstanceAs (Decidable (_/\_))
def aDN (s:List UInt8):Prop:=1<=s.length/\s.length<=12/\(∀ c,s[0]?=some c->Low c)/\∀ c∈s,Low c∨Dig c
noncomputable instance (s:List UInt8):Decidable (aDN s):=Classical.propDecidable _
theorem aMB {s:List UInt8} {k:Nat} {c:UInt8} (h:k<s.length) (ec:s[k]=c) (hp:∀ x∈s.take k,Low x∨Dig x) (he:Low c∨Dig c):∀ x∈s.take (k+1),Low x∨Dig x :=
 qI (P:=λx=>Low x∨Dig x) h hp (by rw[ec];exact he)
theorem aRT {s:List UInt8} {k:Nat} {c:UInt8} (h:k<s.length) (ec:s[k]=c) (he:¬(Low c∨Dig c)):false=decide (aDN s) :=
 (decide_eq_false λe=>he (ec▸e.2.2.2 _ (kM h))).symm
theorem a0V {s:List UInt8} {k:Nat} {c:UInt8} (h:k<s.length) (h0:(k:Int)=0) (ec:s[k]=c) (he:¬Low c):false=decide (aDN s) :=
 (decide_eq_false fun e => he (e.2.2.1 c (by have : k = 0 := by omega
                                             subst this;rw[eY h,ec]))).symm
@[go_sem] def aNZ:List Nat:=[0,2,3,17,21,45]
theorem x7 (s:List UInt8):fE Tryz.prog 216 [.str s] (.bool (decide (aDN s))):=by
 cases s with
 |nil =>
  refine fU 46 aNZ cU cF Tryz.func216 λh=>?_
  simp -dsimp -implicitDefEqProofs only[go_sem,↓reduceIte,Tryz.f216]
  first|refine aH.mk (fF 0 1 12) ?_|refine aF.mk (fF 0 1 12) ?_|refine aH.bI (fF 0 1 12) ?_|refine aF.mk (bC.dI (fF 0 1 12)) ?_
  simp -dsimp -implicitDefEqProofs only[go_sem,↓reduceIte,Tryz.f216]
  repeat'(with_reducible first|intro _|refine And.intro ?_ ?_)
  all_goals try(first|(simp[aDN, *];done)|omega|(grind[aDN])|(simp[aDN];omega))
 |cons c t =>
  refine fU 46 aNZ cU cF Tryz.func216 λh=>?_
  simp -dsimp -implicitDefEqProofs only[go_sem,↓reduceIte,Tryz.f216,aZ4,a2E]
  intro _
  first|refine aH.mk (fF (c::t).length 1 12) ?_|refine aF.mk (fF (c::t).length 1 12) ?_|refine aH.bI (fF (c::t).length 1 12) ?_|refine aF.mk (bC.dI (fF (c::t).length 1 12)) ?_
  simp -dsimp -implicitDefEqProofs only[go_sem,↓reduceIte,Tryz.f216,aZ4,a2E]
  repeat'(with_reducible first|intro _|refine And.intro ?_ ?_)
  all_goals try(first|(simp[aDN,Low,Dig, *];done)|omega|(grind[aDN,Low,Dig])|(simp[aDN,Low,Dig];omega))
  rename_i h0 h1 h2 h3
  generalize hs:c::t=s at *
  refine cM aNZ cU cF (λk:Nat=>[(0,.str s),(3,I k)]) (λ_=>h) (λk=>k<=s.length/\∀ x∈s.take k,Low x∨Dig x) (λk=>s.length-k) 0 aFP ?_
  intro k ⟨hk,hp⟩
  rcases bT k s.length with hlt|hge
  ·generalize ec:s[k]=d
   have ea:s[k]?=some d:=by rw[←ec];exact eY hlt
   simp -dsimp -implicitDefEqProofs only[go_sem,↓reduceIte,Tryz.f216,ea,tX]
   repeat'(with_reducible first|intro _|refine And.intro ?_ ?_)
   all_goals try omega
   all_goals try exact aRT hlt ec aWR
   all_goals
    refine⟨k+1,?_⟩
    repeat'(with_reducible refine And.intro ?_ ?_)
    all_goals try(rw[IntWalk.i64_in _ aA];first|rfl|omega)
    all_goals try omega
    all_goals try(repeat'(with_reducible first|exact aB.le_refl _|refine(bM nW).2 ?_))
    exact aMB hlt ec hp aWR
  ·have hk':k=s.length:=by omega
   subst hk'
   rw[nL]at hp
   simp -dsimp -implicitDefEqProofs only[go_sem,↓reduceIte,Tryz.f216,bU]
   have:s.length=t.length+1:=by rw[←hs];rfl
   exact λ_=>(decide_eq_true ⟨by omega,by omega,λx hx=>by rw[←hs]at hx;simp at hx;subst hx;simp only[Low];omega,hp⟩).symm
@[go_sem] def aXU:List Nat:=[0,2,3,5,6,7,34]
theorem aN0 (s:List UInt8):fE Tryz.prog 198 [.str s] (.bool (decide (aDN s))):=by
 refine fU 44 aXU cU cF Tryz.func198 λh=>?_
 simp -dsimp -implicitDefEqProofs only[go_sem,↓reduceIte,Tryz.f198]
 repeat'(with_reducible first|intro _|refine And.intro ?_ ?_)
 refine cM aXU cU cF (λk:Nat=>[(0,.str s),(5,I s.length),(6,I k)]) (λ_=>h) (λk=>k<=s.length/\(∀ x∈s.take k,Low x∨Dig x)/\(0<k->∀ c,s[0]?=some c->Low c)) (λk=>s.length-k) 0 aFP ?_
 intro k ⟨hk,hp,hz⟩
 rcases bT k s.length with hlt|hge
 ·generalize ec:s[k]=d
  have ea:s[k]?=some d:=by rw[←ec];exact eY hlt
  have hz':Low d∨¬((k:Int)=0)->∀ c,s[0]?=some c->Low c:=by
   intro q c hc
   by_cases h0:k=0
   ·subst h0
    rw[ea]at hc
    obtain rfl:=gH hc
    exact q.resolve_right dG
   ·exact hz aA c hc
  simp -dsimp -implicitDefEqProofs only[go_sem,↓reduceIte,Tryz.f198,ea,tX]
  repeat'(with_reducible first|intro _|refine And.intro ?_ ?_)
  all_goals try omega
  all_goals try exact aRT hlt ec aWR
  all_goals try exact a0V hlt aA ec (by simp only[Low];omega)
  all_goals
   refine⟨k+1,?_⟩
   repeat'(with_reducible refine And.intro ?_ ?_)
   all_goals try(rw[IntWalk.i64_in _ aA];first|rfl|omega)
   all_goals try omega
   all_goals try(repeat'(with_reducible first|exact aB.le_refl _|refine(bM nW).2 ?_))
   all_goals first|exact aMB hlt ec hp aWR|exact λ_=>hz' (by simp only[Low];omega)
 ·have hk':k=s.length:=by omega
  subst hk'
  rw[nL]at hp
  simp -dsimp -implicitDefEqProofs only[go_sem,↓reduceIte,Tryz.f198,bU]
  repeat'(with_reducible first|intro _|refine And.intro ?_ ?_)
  all_goals simp only[aDN,decide_eq_decide,eq_comm (a:=false),decide_eq_false_iff_not]
  all_goals grind
mutual
def aD.d:aD->Nat
 | .mk _ _ _ _ kids=>aD.dL kids+1
def aD.dL:List aD->Nat
 | []=>0
 |x::l=>max x.d (aD.dL l)
end
theorem aD.a37 (x:aD):x.d=aD.dL x.aM+1:=by cases x;rfl
theorem aD.aN1:∀ {l:List aD} {k:Nat} (h:k<l.length),aD.dL (l.take (k+1))=max (aD.dL (l.take k)) l[k].d
 |x::l,0,_=>by simp[aD.dL]
 |x::l,k+1,h=>by
  have:=aD.aN1 (l:=l) (k:=k) (by simpa using h)
  simp only[bEL,aD.dL,this,List.getElem_cons_succ]
  omega
mutual
theorem aD.bFP:∀ x:aD,x.d<=x.s+1
 | .mk _ _ _ _ kids=>by
  have:=aD.bC9 kids
  simp only[aD.d,aD.s];omega
theorem aD.bC9:∀ l:List aD,aD.dL l<=l.length+aD.sL l
 | []=>by simp[aD.dL]
 |x::l=>by
  have h1:=aD.bFP x
  have h2:=aD.bC9 l
  simp only[aD.dL,aD.sL,tT];omega
end
theorem aD.aLT {x y:aD} (h:y∈x.aM):y.s<x.s:=by
 have h1:=aNS aD.s h
 have h2:=List.length_pos_of_mem h
 rw[x.aB6,sJ];omega
theorem aD.a38 (x:aD) {k:Nat} (h:k<x.aM.length):k+((x.aM.take k).map aD.s).sum+x.aM[k].s+1<=x.s:=by
 have h1:=lM aD.s x.aM k h
 have h2:=vD aD.s x.aM (k+1)
 rw[x.aB6,sJ];omega
theorem aD.bDA (x:aD):x.aM.length+((x.aM.take x.aM.length).map aD.s).sum=x.s:=by
 rw[nL,x.aB6,sJ]
theorem aLC (x:aD) (hs:x.s<=4294967296) (hc:∀ y∈x.aM,fE Tryz.prog 202 [.agg y.c] (I ((y.s:Int)+1))):fE Tryz.prog 202 [.agg x.c] (I ((x.s:Int)+1)):=by
 have hx:=x.bDA
 rw[aD.aZ x]
 refine fU 19 aXM aK8 cF Tryz.func202 λh=>?_
 simp -dsimp -implicitDefEqProofs only[go_sem,↓reduceIte,Tryz.f202]
 repeat'(with_reducible first|intro _|refine And.intro ?_ ?_)
 refine cM aXM aK8 cF (λk:Nat=>[(1,.ip 5 [x.c] 0 0),(3,I (1+k+(((x.aM.take k).map aD.s).sum:Int))),(7,gF 5 aD.c x.aM),(8,I x.aM.length),(9,I k)]) (λ_=>h) (λk=>k<=x.aM.length) (λk=>x.aM.length-k) 0 (by simp[cR,b6,aB.le_refl,aD.aZ]) ?_
 intro k hk
 rcases bT k x.aM.length with hlt|hge
 ·have ea:x.aM[k]?=some x.aM[k]:=eY hlt
  have hp:=x.a38 hlt
  have h1:=lM aD.s x.aM k hlt
  have hcy:=hc x.aM[k] (kM hlt)
  simp only[aD.aZ]at hcy
  simp -dsimp -implicitDefEqProofs only[go_sem,↓reduceIte,Tryz.f202,ea,aD.aZ,aO]
  repeat'(with_reducible first|intro _|refine And.intro ?_ ?_)
  all_goals try omega
  first|refine aH.mk (hcy) ?_|refine aF.mk (hcy) ?_|refine aH.bI (hcy) ?_|refine aF.mk (bC.dI (hcy)) ?_
  simp -dsimp -implicitDefEqProofs only[go_sem,↓reduceIte,Tryz.f202]
  rename_i n hn
  refine⟨k+1,?_⟩
  repeat'(with_reducible refine And.intro ?_ ?_)
  all_goals try(rw[IntWalk.i64_in _ aA];first|rfl|omega)
  all_goals try omega
  all_goals try(repeat'(with_reducible first|exact aB.le_refl _|refine(bM nW).2 ?_))
  all_goals try(simp only[aD.aZ];done)
 ·have hk':k=x.aM.length:=by omega
  subst hk'
  simp -dsimp -implicitDefEqProofs only[go_sem,↓reduceIte,Tryz.f202,bU]
  omega
theorem aI7 (x:aD) (hs:x.s<=4294967296):fE Tryz.prog 202 [.agg x.c] (I ((x.s:Int)+1)) :=
 aLC x hs λy hy=>aI7 y aWQ
termination_by SizeOf.sizeOf x
decreasing_by exact aD.aE6 hy
theorem aI8 (x:aD) (hs:x.s<=4294967296) (hc:∀ y∈x.aM,fE Tryz.prog 221 [.agg y.c] (I (y.d:Int))):fE Tryz.prog 221 [.agg x.c] (I (x.d:Int)):=by
 have hd:=x.bFP
 rw[aD.a37]at hd ⊢
 rw[aD.aZ x]
 refine fU 20 aXM aK8 cF Tryz.func221 λh=>?_
 simp -dsimp -implicitDefEqProofs only[go_sem,↓reduceIte,Tryz.f221]
 repeat'(with_reducible first|intro _|refine And.intro ?_ ?_)
 refine cM aXM aK8 cF (λk:Nat=>[(1,.ip 5 [x.c] 0 0),(3,I (aD.dL (x.aM.take k):Int)),(7,gF 5 aD.c x.aM),(8,I x.aM.length),(9,I k)]) (λ_=>h) (λk=>k<=x.aM.length) (λk=>x.aM.length-k) 0 (by simp[cR,b6,aB.le_refl,aD.aZ,aD.dL]) ?_
 intro k hk
 rcases bT k x.aM.length with hlt|hge
 ·have ea:x.aM[k]?=some x.aM[k]:=eY hlt
  have h1:=aD.aN1 hlt
  have hcy:=hc x.aM[k] (kM hlt)
  simp only[aD.aZ]at hcy
  simp -dsimp -implicitDefEqProofs only[go_sem,↓reduceIte,Tryz.f221,ea,aD.aZ,aO]
  repeat'(with_reducible first|intro _|refine And.intro ?_ ?_)
  all_goals try omega
  first|refine aH.mk (hcy) ?_|refine aF.mk (hcy) ?_|refine aH.bI (hcy) ?_|refine aF.mk (bC.dI (hcy)) ?_
  simp -dsimp -implicitDefEqProofs only[go_sem,↓reduceIte,Tryz.f221]
  repeat'(with_reducible first|intro _|refine And.intro ?_ ?_)
  all_goals try rfl
  rename_i n hn
  refine⟨k+1,?_⟩
  repeat'(with_reducible refine And.intro ?_ ?_)
  all_goals try(rw[IntWalk.i64_in _ aA];first|rfl|omega)
  all_goals try omega
  all_goals try(repeat'(with_reducible first|exact aB.le_refl _|refine(bM nW).2 ?_))
  all_goals try(simp only[aD.aZ];done)
 ·have hk':k=x.aM.length:=by omega
  subst hk'
  simp -dsimp -implicitDefEqProofs only[go_sem,↓reduceIte,Tryz.f221,bU]
  rw[nL,IntWalk.i64_in _ aA];omega
theorem aMC (x:aD) (hs:x.s<=4294967296):fE Tryz.prog 221 [.agg x.c] (I (x.d:Int)) :=
 aI8 x hs λy hy=>aMC y aWQ
termination_by SizeOf.sizeOf x
decreasing_by exact aD.aE6 hy
@[go_sem] def aXV:List Nat:=[0,1,4,5,18]
theorem aN2 (x:aD) (left:Int) (h0:0<=left) (h9:left<=4294967296) (hs:x.s<=4294967296) (hc:∀ y∈x.aM,∀ left:Int,0<=left->left<=4294967296->fE Tryz.prog 217 [.ip 5 [y.c] 0 0,I left] (I (lft left (y.s+1)))):fE Tryz.prog 217 [.ip 5 [x.c] 0 0,I left] (I (lft left (x.s+1))):=by
 have hx:=x.bDA
 rw[aD.aZ x]
 refine fU 30 aXV cU cF Tryz.func217 λh=>?_
 simp -dsimp -implicitDefEqProofs only[go_sem,↓reduceIte,Tryz.f217]
 repeat'(with_reducible first|intro _|refine And.intro ?_ ?_)
 refine cM aXV cU cF (λk:Nat=>[(0,.ip 5 [x.c] 0 0),(1,I (lft left (1+k+((x.aM.take k).map aD.s).sum))),(5,I k)]) (λ_=>h) (λk=>k<=x.aM.length) (λk=>x.aM.length-k) 0 (by simp[cR,b6,aB.le_refl,aD.aZ];rw[IntWalk.i64_in _ aA];unfold lft;split <;> omega) ?_
 intro k hk
 rcases bT k x.aM.length with hlt|hge
 ·have hp:=x.a38 hlt
  have h1:=lM aD.s x.aM k hlt
  rcases aL8 left (1+k+((x.aM.take k).map aD.s).sum)with⟨e,hl⟩|⟨e,hl⟩
  ·rw[e,aD.aZ x]
   simp -dsimp -implicitDefEqProofs only[go_sem,↓reduceIte,Tryz.f217]
   repeat'(with_reducible first|intro _|refine And.intro ?_ ?_)
   all_goals try omega
   exact(a8P aA).symm
  ·rw[e,aD.aZ x]
   simp -dsimp -implicitDefEqProofs only[go_sem,↓reduceIte,Tryz.f217]
   repeat'(with_reducible first|intro _|refine And.intro ?_ ?_)
   all_goals try omega
   first|refine aF.mk ((hc x.aM[k] (kM hlt) _ hl aA).sub uY) ?_|refine aH.mk ((hc x.aM[k] (kM hlt) _ hl aA).sub uY) ?_
   simp -dsimp -implicitDefEqProofs only[go_sem,↓reduceIte,Tryz.f217]
   refine⟨k+1,?_⟩
   repeat'(with_reducible refine And.intro ?_ ?_)
   all_goals try(rw[IntWalk.i64_in _ aA];first|rfl|omega)
   all_goals try omega
   all_goals try(repeat'(with_reducible first|exact aB.le_refl _|refine(bM nW).2 ?_))
   all_goals try(simp only[aD.aZ];done)
   all_goals(rw[h1];unfold lft;split <;> split <;> omega)
 ·have hk':k=x.aM.length:=by omega
  subst hk'
  rw[aD.aZ x]
  simp -dsimp -implicitDefEqProofs only[go_sem,↓reduceIte,Tryz.f217,bU]
  rw[show 1+x.aM.length+((x.aM.take x.aM.length).map aD.s).sum=x.s+1 by omega]
  exact λ_=>rfl
theorem aDO (x:aD) (left:Int) (h0:0<=left) (h9:left<=4294967296) (hs:x.s<=4294967296):fE Tryz.prog 217 [.ip 5 [x.c] 0 0,I left] (I (lft left (x.s+1))) :=
 aN2 x left h0 h9 hs λy hy left h0 h9=>aDO y left h0 h9 aWQ
termination_by SizeOf.sizeOf x
decreasing_by exact aD.aE6 hy
@[go_sem] def a8T:List Nat:=[0,1,4,7]
theorem aN3 (a b:Int):fE Tryz.prog 233 [I a,I b] (I (max a b)):=by
 refine fU 10 a8T cU cF Tryz.func233 λh=>?_
 simp -dsimp -implicitDefEqProofs only[go_sem,↓reduceIte,Tryz.f233]
 repeat'(with_reducible first|intro _|refine And.intro ?_ ?_)
 all_goals omega
theorem aLD (x:aD) (hs:x.s<=4294967296) (hc:∀ y∈x.aM,fE Tryz.prog 228 [.ip 5 [y.c] 0 0] (I (y.d:Int))):fE Tryz.prog 228 [.ip 5 [x.c] 0 0] (I (x.d:Int)):=by
 have hd:=x.bFP
 rw[aD.a37]at hd ⊢
 rw[aD.aZ x]
 refine fU 25 bL8 cU cF Tryz.func228 λh=>?_
 simp -dsimp -implicitDefEqProofs only[go_sem,↓reduceIte,Tryz.f228]
 repeat'(with_reducible first|intro _|refine And.intro ?_ ?_)
 refine cM bL8 cU cF (λk:Nat=>[(0,.ip 5 [x.c] 0 0),(3,I (aD.dL (x.aM.take k):Int)),(4,I k)]) (λ_=>h) (λk=>k<=x.aM.length) (λk=>x.aM.length-k) 0 (by simp[cR,b6,aB.le_refl,aD.aZ,aD.dL]) ?_
 intro k hk
 rw[aD.aZ x]
 rcases bT k x.aM.length with hlt|hge
 ·have h1:=aD.aN1 hlt
  simp -dsimp -implicitDefEqProofs only[go_sem,↓reduceIte,Tryz.f228]
  repeat'(with_reducible first|intro _|refine And.intro ?_ ?_)
  all_goals try omega
  first|refine aF.mk ((hc x.aM[k] (kM hlt)).sub uY) ?_|refine aH.mk ((hc x.aM[k] (kM hlt)).sub uY) ?_
  simp -dsimp -implicitDefEqProofs only[go_sem,↓reduceIte,Tryz.f228]
  first|refine aH.mk (aN3 _ _) ?_|refine aF.mk (aN3 _ _) ?_|refine aH.bI (aN3 _ _) ?_|refine aF.mk (bC.dI (aN3 _ _)) ?_
  simp -dsimp -implicitDefEqProofs only[go_sem,↓reduceIte,Tryz.f228]
  refine⟨k+1,?_⟩
  repeat'(with_reducible refine And.intro ?_ ?_)
  all_goals try(rw[IntWalk.i64_in _ aA];first|rfl|omega)
  all_goals try omega
  all_goals try(repeat'(with_reducible first|exact aB.le_refl _|refine(bM nW).2 ?_))
  all_goals try(simp only[aD.aZ];done)
 ·have hk':k=x.aM.length:=by omega
  subst hk'
  simp -dsimp -implicitDefEqProofs only[go_sem,↓reduceIte,Tryz.f228,bU]
  intro _
  rw[nL,IntWalk.i64_in _ aA];omega
theorem aI9 (x:aD) (hs:x.s<=4294967296):fE Tryz.prog 228 [.ip 5 [x.c] 0 0] (I (x.d:Int)) :=
 aLD x hs λy hy=>aI9 y aWQ
termination_by SizeOf.sizeOf x
decreasing_by exact aD.aE6 hy
def e8 (k:Int):Int:=if k=1∨k=2 then 0 else if k=3∨k=4∨k=5∨k=6∨k=9 then 2 else if k=7 then 1 else if k=8 then 3 else -1
def mD (p:aG) (e:aD) (vars funcs:Int):Prop :=
 if e.aT=10∨e.aT=11 then
  0<=e.bB/\e.bB<=funcs-1/\∀ f,p.aK[e.bB.toNat]?=some f ->
   0<=e.c4/\e.c4<=(f.aS.length:Int)-1/\(e.aM.length:Int)=f.aW/\(e.aT=10->e.cN=0)/\(e.aT=11->0<=e.cN/\e.cN<=8/\(f.aS.length:Int)=f.aW)
 else e8 e.aT=e.aM.length/\e.c4=0/\e.cN=0/\(e.aT=1->iW e.bB)/\(e.aT=2->0<=e.bB/\e.bB<=vars-1)/\(e.aT≠1->e.aT≠2->e.bB=0)
noncomputable instance (p:aG) (e:aD) (vars funcs:Int):Decidable (mD p e vars funcs):=Classical.propDecidable _
def jG (kind:Int) (i:Nat) (vars:Int):Int:=if kind=9/\i=1 then vars+1 else vars
mutual
def aD.ok (p:aG) (funcs:Int):aD->Int->Prop
 | .mk a b c d kids,vars=>mD p (.mk a b c d kids) vars funcs/\aD.okL p funcs a kids 0 vars
def aD.okL (p:aG) (funcs:Int) (kind:Int):List aD->Nat->Int->Prop
 | [],_,_=>True
 |x::l,i,vars=>x.ok p funcs (jG kind i vars)/\aD.okL p funcs kind l (i+1) vars
end
noncomputable instance (p:aG) (funcs:Int) (e:aD) (vars:Int):Decidable (e.ok p funcs vars):=Classical.propDecidable _
theorem aD.aXW (p:aG) (funcs kind:Int):∀ (l:List aD) (i:Nat) (vars:Int),aD.okL p funcs kind l i vars↔∀ (k:Nat) (h:k<l.length),l[k].ok p funcs (jG kind (i+k) vars)
 | [],i,vars=>by simp[aD.okL]
 |x::l,i,vars=>by
  rw[aD.okL,aD.aXW p funcs kind l (i+1) vars]
  constructor
  ·rintro⟨h1,h2⟩ k hk
   cases k with
   |zero=>exact h1
   |succ k=>have:=h2 k (by simpa using hk);rw[show i+1+k=i+(k+1)by omega]at this;exact this
  ·intro h
   refine⟨h 0 dG,λk hk=>?_⟩
   have:=h (k+1) (by simpa using hk)
   rw[show i+1+k=i+(k+1)by omega];exact this
theorem aD.eI (p:aG) (funcs:Int) (x:aD) (vars:Int):x.ok p funcs vars↔mD p x vars funcs/\∀ (k:Nat) (h:k<x.aM.length),x.aM[k].ok p funcs (jG x.aT k vars):=by
 cases x with
 |mk a b c d kids =>
  rw[aD.ok,aD.aXW]
  simp only[aGG,aD.aM,aD.aT]
theorem aG.aMD (p:aG):p.aK.length<=p.s:=by rw[p.aB6,sJ];omega
theorem aG.aJA {p:aG} {f:aX} (h:f∈p.aK):f.s+p.aK.length<=p.s:=by
 have:=aNS aX.s h
 rw[p.aB6,sJ];omega
theorem aX.aJB (f:aX):f.aS.length<=f.s:=by rw[f.aB6,sJ];omega
theorem aX.bDB {f:aX} {e:aD} (h:e∈f.aS):e.s<f.s:=by
 have:=aNS aD.s h
 have:=List.length_pos_of_mem h
 rw[f.aB6,sJ];omega
@[go_sem] def a8U:List Nat:=[0,2,3,4,7,13,15]
theorem vH (k:Int):fE Tryz.prog 194 [I k] (I (e8 k)):=by
 refine fU 17 a8U cU cF Tryz.func194 λh=>?_
 simp -dsimp -implicitDefEqProofs only[go_sem,↓reduceIte,Tryz.f194]
 repeat'(with_reducible first|intro _|refine And.intro ?_ ?_)
 all_goals try(first|(simp[e8, *];done)|omega|(grind[e8])|(simp[e8];omega))
theorem rY {p:aG} {e:aD} {vars funcs:Int} (hk:e.aT=10∨e.aT=11) {f:aX} (ef:p.aK[e.bB.toNat]?=some f):mD p e vars funcs ↔
  0<=e.bB/\e.bB<=funcs-1/\0<=e.c4/\e.c4<=(f.aS.length:Int)-1/\(e.aM.length:Int)=f.aW/\(e.aT=10->e.cN=0)/\(e.aT=11->0<=e.cN/\e.cN<=8/\(f.aS.length:Int)=f.aW):=by
 unfold mD
 rw[if_pos hk]
 simp[ef]
theorem aDP {p:aG} {e:aD} {vars funcs:Int} (hk:e.aT=10∨e.aT=11) (hr:¬(0<=e.bB/\e.bB<=funcs-1)):¬mD p e vars funcs:=by
 unfold mD
 rw[if_pos hk]
 intro h
 exact hr ⟨h.1,h.2.1⟩
theorem eE {p:aG} {e:aD} {vars funcs:Int} (hk:¬(e.aT=10∨e.aT=11)):mD p e vars funcs ↔
  e8 e.aT=e.aM.length/\e.c4=0/\e.cN=0/\(e.aT=1->iW e.bB)/\(e.aT=2->0<=e.bB/\e.bB<=vars-1)/\(e.aT≠1->e.aT≠2->e.bB=0):=by
 unfold mD
 rw[if_neg hk]
@[go_sem] def aN4:List Nat:=[0,1,2,3,8,9,21,29,62,67,114,118,119,126]
@[go_sem] def a39:Marks:=λid=>match id with|4=>([],(.op 0 (.op 1 (.op 2 (.op 3 (.op 4 (.op 5 (.op 6 (.op 7 (.op 8 (.op 9 .nil)))))))))),[])|5=>([],(.op 0 (.op 1 (.op 2 (.op 3 (.op 4 (.op 5 (.op 6 (.op 7 (.op 8 (.op 9 (.op 10 (.op 11 (.op 12 (.op 13 (.op 14 (.op 15 (.op 16 (.op 17 (.op 18 (.op 19 (.op 20 (.op 21 (.op 22 (.op 23 .nil)))))))))))))))))))))))),[])|9=>([],(.op 0 (.op 1 (.op 2 (.op 3 (.op 4 (.op 5 (.op 6 (.op 7 (.op 8 (.op 9 (.op 10 (.op 11 (.op 12 (.op 13 (.op 14 (.op 15 (.op 16 (.op 17 .nil)))))))))))))))))),[])|10=>([],(.op 0 (.op 1 (.op 2 (.op 3 (.op 4 (.op 5 (.op 6 (.op 7 (.op 8 (.op 9 (.op 10 (.op 11 (.op 12 (.op 13 (.op 14 (.op 15 (.op 16 (.op 17 (.op 18 (.op 19 (.op 20 (.op 21 (.op 22 (.op 23 (.op 24 .nil))))))))))))))))))))))))),[])|_=>([],.nil,[])
theorem aXX (p:aG) (e:aD) (vars funcs:Int) (hv:0<=vars) (hv2:vars<=4294967296) (iX:0<=funcs) (hf:funcs<=p.aK.length) (hps:p.s<=4294967296):fE Tryz.prog 234 [.ip 1 [p.c] 0 0,.ip 5 [e.c] 0 0,I vars,I funcs] (.bool (decide (mD p e vars funcs))):=by
 have hl:=p.aMD
 have e1:IntKind.i64.wrap (funcs-1)=funcs-1:=IntWalk.i64_in _ aA
 have e2:IntKind.i64.wrap (vars-1)=vars-1:=IntWalk.i64_in _ aA
 rw[aD.aZ]
 simp only[aG.aZ]
 by_cases hk:e.aT=10∨e.aT=11
 ·by_cases hr:0<=e.bB/\e.bB<=funcs-1
  ·obtain⟨f,ef⟩:∃ f,p.aK[e.bB.toNat]?=some f:=⟨_,eY aA⟩
   have hn:=rY (vars:=vars) (funcs:=funcs) hk ef
   have hfs:=aG.aJA (rS ef)
   have hos:=f.aJB
   refine fU 140 aN4 cU a39 Tryz.func234 λh=>?_
   simp -dsimp -implicitDefEqProofs only[go_sem,↓reduceIte,Tryz.f234,e1,e2]
   repeat'(with_reducible first|intro _|refine And.intro ?_ ?_)
   all_goals try omega
   all_goals(first|refine aH.mk (fF e.bB 0 (funcs-1)) ?_|refine aF.mk (fF e.bB 0 (funcs-1)) ?_)
   all_goals simp -dsimp -implicitDefEqProofs only[go_sem,↓reduceIte,Tryz.f234,ef,aX.aZ]
   all_goals repeat'(with_reducible first|intro _|refine And.intro ?_ ?_)
   all_goals try omega
   all_goals try simp(disch:=omega) only[IntWalk.i64_in]
   all_goals(first|refine aH.mk (fF e.c4 0 (f.aS.length-1)) ?_|refine aF.mk (fF e.c4 0 (f.aS.length-1)) ?_)
   all_goals simp -dsimp -implicitDefEqProofs only[go_sem,↓reduceIte,Tryz.f234,ef,aX.aZ]
   all_goals repeat'(with_reducible first|intro _|refine And.intro ?_ ?_)
   all_goals try omega
   all_goals try(first|(simp[*];done)|omega|grind)
   first|refine aH.mk (fF e.cN 0 8) ?_|refine aF.mk (fF e.cN 0 8) ?_|refine aH.bI (fF e.cN 0 8) ?_|refine aF.mk (bC.dI (fF e.cN 0 8)) ?_
   simp -dsimp -implicitDefEqProofs only[go_sem,↓reduceIte,Tryz.f234,ef,aX.aZ]
   repeat'(with_reducible first|intro _|refine And.intro ?_ ?_)
   all_goals try(first|(simp[*];done)|omega|grind)
  ·have hn:=aDP (p:=p) (vars:=vars) hk hr
   refine fU 140 aN4 cU a39 Tryz.func234 λh=>?_
   simp -dsimp -implicitDefEqProofs only[go_sem,↓reduceIte,Tryz.f234,e1,e2]
   repeat'(with_reducible first|intro _|refine And.intro ?_ ?_)
   all_goals try omega
   all_goals(first|refine aH.mk (fF e.bB 0 (funcs-1)) ?_|refine aF.mk (fF e.bB 0 (funcs-1)) ?_)
   all_goals simp -dsimp -implicitDefEqProofs only[go_sem,↓reduceIte,Tryz.f234]
   all_goals repeat'(with_reducible first|intro _|refine And.intro ?_ ?_)
   all_goals try(first|(simp[*];done)|omega|grind)
 ·have hn:=eE (p:=p) (vars:=vars) (funcs:=funcs) hk
  refine fU 140 aN4 cU a39 Tryz.func234 λh=>?_
  simp -dsimp -implicitDefEqProofs only[go_sem,↓reduceIte,Tryz.f234,e1,e2]
  repeat'(with_reducible first|intro _|refine And.intro ?_ ?_)
  all_goals try omega
  first|refine aH.mk (vH e.aT) ?_|refine aF.mk (vH e.aT) ?_|refine aH.bI (vH e.aT) ?_|refine aF.mk (bC.dI (vH e.aT)) ?_
  simp -dsimp -implicitDefEqProofs only[go_sem,↓reduceIte,Tryz.f234]
  repeat'(with_reducible first|intro _|refine And.intro ?_ ?_)
  all_goals try(first|(simp[*];done)|omega|grind)
  ·first|refine aH.mk (pW e.bB) ?_|refine aF.mk (pW e.bB) ?_|refine aH.bI (pW e.bB) ?_|refine aF.mk (bC.dI (pW e.bB)) ?_
   simp -dsimp -implicitDefEqProofs only[go_sem,↓reduceIte,Tryz.f234]
   all_goals try(first|(simp[*];done)|omega|grind)
  ·all_goals try simp(disch:=omega) only[IntWalk.i64_in]
   first|refine aH.mk (fF e.bB 0 (vars-1)) ?_|refine aF.mk (fF e.bB 0 (vars-1)) ?_|refine aH.bI (fF e.bB 0 (vars-1)) ?_|refine aF.mk (bC.dI (fF e.bB 0 (vars-1))) ?_
   simp -dsimp -implicitDefEqProofs only[go_sem,↓reduceIte,Tryz.f234]
   all_goals try(first|(simp[*];done)|omega|grind)
@[go_sem] def vI:List Nat:=[0,1,2,3,4,6,7,8,9,10,11,12,25,26,38,52,68,69,81,82,94,95,104,125,152,154,155,156,157,168,175]
@[go_sem] def aXY:List Nat:=[0,1,2,3,8,9,10,16,23,35,48]
theorem aN5 (p:aG) (e:aD) (vars funcs:Int) (hv:0<=vars) (hv2:vars+e.s<=4294967296) (iX:0<=funcs) (hf:funcs<=p.aK.length) (hps:p.s<=4294967296)
  (hc:∀ y∈e.aM,∀ vars:Int,0<=vars->vars+y.s<=4294967296->fE Tryz.prog 229 [.ip 1 [p.c] 0 0,.ip 5 [y.c] 0 0,I vars,I funcs] (.bool (decide (y.ok p funcs vars)))) :
  fE Tryz.prog 229 [.ip 1 [p.c] 0 0,.ip 5 [e.c] 0 0,I vars,I funcs] (.bool (decide (e.ok p funcs vars))):=by
 have hok:=aD.eI p funcs e vars
 simp only[aD.aZ,aG.aZ]
 refine fU 49 aXY cU cF Tryz.func229 λh=>?_
 simp -dsimp -implicitDefEqProofs only[go_sem,↓reduceIte,Tryz.f229]
 first|refine aF.mk ((aXX p e vars funcs hv aA iX hf hps).sub uY) ?_|refine aH.mk ((aXX p e vars funcs hv aA iX hf hps).sub uY) ?_
 simp -dsimp -implicitDefEqProofs only[go_sem,↓reduceIte,Tryz.f229]
 repeat'(with_reducible first|intro _|refine And.intro ?_ ?_)
 ·rename_i hn
  exact(decide_eq_false λq=>hn (hok.1 q).1).symm
 ·rename_i hn
  refine cM aXY cU cF (λk:Nat=>[(0,.ip 1 [p.c] 0 0),(1,.ip 5 [e.c] 0 0),(2,I vars),(3,I funcs),(9,I k)]) (λ_=>h) (λk=>k<=e.aM.length/\∀ (j:Nat) (hj:j<e.aM.length),j<k->e.aM[j].ok p funcs (jG e.aT j vars)) (λk=>e.aM.length-k) 0 (by simp[cR,b6,aB.le_refl,aD.aZ,aG.aZ]) ?_
  intro k ⟨hk,hp⟩
  simp only[aD.aZ,aG.aZ]
  rcases bT k e.aM.length with hlt|hge
  ·have sA:=aD.aLT (kM hlt)
   have nx (q:e.aM[k].ok p funcs (jG e.aT k vars)):∀ (j:Nat) (hj:j<e.aM.length),j<k+1->e.aM[j].ok p funcs (jG e.aT j vars):=by
    intro j hj hjk
    rcases aH0.1 hjk with h1|rfl
    ·exact hp j hj h1
    ·exact q
   have no (q:¬e.aM[k].ok p funcs (jG e.aT k vars)):false=decide (e.ok p funcs vars):=(decide_eq_false λz=>q ((hok.1 z).2 k hlt)).symm
   simp -dsimp -implicitDefEqProofs only[go_sem,↓reduceIte,Tryz.f229]
   repeat'(with_reducible first|intro _|refine And.intro ?_ ?_)
   all_goals try omega
   ·have em:jG e.aT k vars=vars+1:=if_pos ⟨by assumption,by omega⟩
    rw[em]at nx no
    all_goals try simp(disch:=omega) only[IntWalk.i64_in]
    first|refine aF.mk ((hc e.aM[k] (kM hlt) (vars+1) aA aA).sub uY) ?_|refine aH.mk ((hc e.aM[k] (kM hlt) (vars+1) aA aA).sub uY) ?_
    simp -dsimp -implicitDefEqProofs only[go_sem,↓reduceIte,Tryz.f229]
    repeat'(with_reducible first|intro _|refine And.intro ?_ ?_)
    ·exact no lB
    ·refine⟨k+1,?_⟩
     repeat'(with_reducible refine And.intro ?_ ?_)
     all_goals try(rw[IntWalk.i64_in _ aA];first|rfl|omega)
     all_goals try omega
     all_goals try(repeat'(with_reducible first|exact aB.le_refl _|refine(bM nW).2 ?_))
     all_goals try(simp only[aD.aZ,aG.aZ];done)
     exact nx lB
   all_goals
    have em:jG e.aT k vars=vars:=if_neg aA
    rw[em]at nx no
    first|refine aF.mk ((hc e.aM[k] (kM hlt) vars aA aA).sub uY) ?_|refine aH.mk ((hc e.aM[k] (kM hlt) vars aA aA).sub uY) ?_
    simp -dsimp -implicitDefEqProofs only[go_sem,↓reduceIte,Tryz.f229]
    repeat'(with_reducible first|intro _|refine And.intro ?_ ?_)
    ·exact no lB
    ·refine⟨k+1,?_⟩
     repeat'(with_reducible refine And.intro ?_ ?_)
     all_goals try(rw[IntWalk.i64_in _ aA];first|rfl|omega)
     all_goals try omega
     all_goals try(repeat'(with_reducible first|exact aB.le_refl _|refine(bM nW).2 ?_))
     all_goals try(simp only[aD.aZ,aG.aZ];done)
     exact nx lB
  ·have hk':k=e.aM.length:=by omega
   subst hk'
   simp -dsimp -implicitDefEqProofs only[go_sem,↓reduceIte,Tryz.f229,bU]
   exact λ_=>(decide_eq_true (hok.2 ⟨hn,λj hj=>hp j hj hj⟩)).symm
theorem aN6 (p:aG) (e:aD) (vars funcs:Int) (hv:0<=vars) (hv2:vars+e.s<=4294967296) (iX:0<=funcs) (hf:funcs<=p.aK.length) (hps:p.s<=4294967296) :
  fE Tryz.prog 229 [.ip 1 [p.c] 0 0,.ip 5 [e.c] 0 0,I vars,I funcs] (.bool (decide (e.ok p funcs vars))) :=
 aN5 p e vars funcs hv hv2 iX hf hps λy hy vars hv hv2=>aN6 p y vars funcs hv hv2 iX hf hps
termination_by SizeOf.sizeOf e
decreasing_by exact aD.aE6 hy
set_option maxHeartbeats 8000000 in
theorem aJC (p:aG) (e:aD) (vars funcs:Int) (hv:0<=vars) (hv2:vars+e.s<=4294967296) (iX:0<=funcs) (hf:funcs<=p.aK.length) (hps:p.s<=4294967296)
  (hc:∀ y∈e.aM,∀ vars:Int,0<=vars->vars+y.s<=4294967296->fE Tryz.prog 222 [.agg [gF 3 aX.c p.aK,I funcs],.agg y.c,I vars] (.bool (decide (y.ok p funcs vars)))) (hk:¬(e.aT=10∨e.aT=11)) :
  fE Tryz.prog 222 [.agg [gF 3 aX.c p.aK,I funcs],.agg e.c,I vars] (.bool (decide (e.ok p funcs vars))):=by
 have hok:=aD.eI p funcs e vars
 have hl:=p.aMD
 have e1:IntKind.i64.wrap (funcs-1)=funcs-1:=IntWalk.i64_in _ aA
 have e2:IntKind.i64.wrap (vars-1)=vars-1:=IntWalk.i64_in _ aA
 simp only[aD.aZ]
 have no1 (hk:¬(e.aT=10∨e.aT=11)) (q:¬(e8 e.aT=e.aM.length/\e.c4=0/\e.cN=0/\(e.aT=1->iW e.bB)/\(e.aT=2->0<=e.bB/\e.bB<=vars-1)/\(e.aT≠1->e.aT≠2->e.bB=0))):false=decide (e.ok p funcs vars) :=
  (decide_eq_false λz=>q ((eE hk).1 (hok.1 z).1)).symm
 have bMI (hk:¬(e.aT=10∨e.aT=11)) (q:e8 e.aT=e.aM.length/\e.c4=0/\e.cN=0/\(e.aT=1->iW e.bB)/\(e.aT=2->0<=e.bB/\e.bB<=vars-1)/\(e.aT≠1->e.aT≠2->e.bB=0)):mD p e vars funcs:=(eE hk).2 q
 refine fU 177 vI aDK cF Tryz.func222 λh=>?_
 simp(maxSteps:=1000000) -dsimp -implicitDefEqProofs only[go_sem,↓reduceIte,Tryz.f222,e1,e2]
 repeat'(with_reducible first|intro _|refine And.intro ?_ ?_)
 all_goals try omega
 all_goals try(refine no1 aA ?_;simp only[e8];grind)
 ·first|refine aH.mk (mJ e.bB) ?_|refine aF.mk (mJ e.bB) ?_|refine aH.bI (mJ e.bB) ?_|refine aF.mk (bC.dI (mJ e.bB)) ?_
  simp(maxSteps:=1000000) -dsimp -implicitDefEqProofs only[go_sem,↓reduceIte,Tryz.f222]
  rw[decide_eq_decide,hok,eE hk]
  have:e.aM.length=0:=by omega
  constructor
  ·intro q
   exact⟨by simp only[e8];grind,λk hk=>by omega⟩
  ·intro q
   grind
 ·first|refine aH.mk (within e.bB 0 (vars-1)) ?_|refine aF.mk (within e.bB 0 (vars-1)) ?_|refine aH.bI (within e.bB 0 (vars-1)) ?_|refine aF.mk (bC.dI (within e.bB 0 (vars-1))) ?_
  simp(maxSteps:=1000000) -dsimp -implicitDefEqProofs only[go_sem,↓reduceIte,Tryz.f222]
  rw[decide_eq_decide,hok,eE hk]
  have:e.aM.length=0:=by omega
  constructor
  ·intro q
   exact⟨by simp only[e8];grind,λk hk=>by omega⟩
  ·intro q
   grind
 all_goals
  have hn:=bMI hk (by simp only[e8];grind)
  clear no1 bMI
  refine cM vI aDK cF (λk:Nat=>[(2,I vars),(3,.ip 2 [[gF 3 aX.c p.aK,I funcs]] 0 0),(4,.ip 5 [e.c] 0 0),(154,gF 5 aD.c e.aM),(155,I e.aM.length),(156,I k)]) (λ_=>h) (λk=>k<=e.aM.length/\∀ (j:Nat) (hj:j<e.aM.length),j<k->e.aM[j].ok p funcs (jG e.aT j vars)) (λk=>e.aM.length-k) 0 (by refine⟨by simp[cR,b6,aD.aZ],by repeat'(with_reducible first|exact aB.le_refl _|refine(bM nW).2 ?_),by simp⟩) ?_
  intro k ⟨hk,hp⟩
  simp only[aD.aZ]
  rcases bT k e.aM.length with hlt|hge
  ·have sA:=aD.aLT (kM hlt)
   have nx (q:e.aM[k].ok p funcs (jG e.aT k vars)):∀ (j:Nat) (hj:j<e.aM.length),j<k+1->e.aM[j].ok p funcs (jG e.aT j vars):=by
    intro j hj hjk
    rcases aH0.1 hjk with h1|rfl
    ·exact hp j hj h1
    ·exact q
   have no (q:¬e.aM[k].ok p funcs (jG e.aT k vars)):false=decide (e.ok p funcs vars):=(decide_eq_false λz=>q ((hok.1 z).2 k hlt)).symm
   have ea:e.aM[k]?=some e.aM[k]:=eY hlt
   rcases Decidable.em (e.aT=9/\k=1)with e9|e9
   ·have em:jG e.aT k vars=vars+1:=if_pos e9
    rw[em]at nx no
    have hcy:=hc e.aM[k] (kM hlt) (vars+1) aA aA
    simp only[aD.aZ]at hcy
    simp(maxSteps:=1000000) -dsimp -implicitDefEqProofs only[go_sem,↓reduceIte,Tryz.f222,ea,aD.aZ,aO]
    repeat'(with_reducible first|intro _|refine And.intro ?_ ?_)
    all_goals try omega
    all_goals try simp(disch:=omega) only[IntWalk.i64_in]
    all_goals(first|refine aH.mk (hcy) ?_|refine aF.mk (hcy) ?_)
    all_goals simp(maxSteps:=1000000) -dsimp -implicitDefEqProofs only[go_sem,↓reduceIte,Tryz.f222]
    all_goals repeat'(with_reducible first|intro _|refine And.intro ?_ ?_)
    all_goals first|exact no lB|exact aB.le_refl _|skip
    all_goals try(exact(bM lB).2 (aB.le_refl _))
    all_goals
     refine⟨k+1,?_⟩
     repeat'(with_reducible refine And.intro ?_ ?_)
     all_goals try(rw[IntWalk.i64_in _ aA];first|rfl|omega)
     all_goals try omega
     all_goals try(repeat'(with_reducible first|exact aB.le_refl _|refine(bM nW).2 ?_))
     all_goals try(simp only[aD.aZ];done)
     exact nx lB
   ·have em:jG e.aT k vars=vars:=if_neg e9
    rw[em]at nx no
    have hcy:=hc e.aM[k] (kM hlt) vars aA aA
    simp only[aD.aZ]at hcy
    simp(maxSteps:=1000000) -dsimp -implicitDefEqProofs only[go_sem,↓reduceIte,Tryz.f222,ea,aD.aZ,aO]
    repeat'(with_reducible first|intro _|refine And.intro ?_ ?_)
    all_goals try omega
    all_goals(first|refine aH.mk (hcy) ?_|refine aF.mk (hcy) ?_)
    all_goals simp(maxSteps:=1000000) -dsimp -implicitDefEqProofs only[go_sem,↓reduceIte,Tryz.f222]
    all_goals repeat'(with_reducible first|intro _|refine And.intro ?_ ?_)
    all_goals first|exact no lB|exact aB.le_refl _|skip
    all_goals try(exact(bM lB).2 (aB.le_refl _))
    all_goals
     refine⟨k+1,?_⟩
     repeat'(with_reducible refine And.intro ?_ ?_)
     all_goals try(rw[IntWalk.i64_in _ aA];first|rfl|omega)
     all_goals try omega
     all_goals try(repeat'(with_reducible first|exact aB.le_refl _|refine(bM nW).2 ?_))
     all_goals try(simp only[aD.aZ];done)
     exact nx lB
  ·have hk':k=e.aM.length:=by omega
   subst hk'
   simp(maxSteps:=1000000) -dsimp -implicitDefEqProofs only[go_sem,↓reduceIte,Tryz.f222,bU]
   exact(decide_eq_true (hok.2 ⟨hn,λj hj=>hp j hj hj⟩)).symm
theorem aDQ {p:aG} {e:aD} {vars funcs:Int} {f:aX} (hk:e.aT=10∨e.aT=11) (ef:p.aK[e.bB.toNat]?=some f)
  (q:¬(0<=e.c4/\e.c4<=(f.aS.length:Int)-1/\(e.aM.length:Int)=f.aW/\(e.aT=10->e.cN=0)/\(e.aT=11->0<=e.cN/\e.cN<=8/\(f.aS.length:Int)=f.aW))):false=decide (e.ok p funcs vars) :=
 (decide_eq_false λz=>q ((rY hk ef).1 ((aD.eI _ _ _ _).1 z).1).2.2).symm
theorem aRU {p:aG} {e:aD} {vars funcs:Int} (hk:e.aT=10∨e.aT=11) (q:¬(0<=e.bB/\e.bB<=funcs-1)):false=decide (e.ok p funcs vars) :=
 (decide_eq_false λz=>aDP hk q ((aD.eI _ _ _ _).1 z).1).symm
set_option maxHeartbeats 8000000 in
theorem aRV (p:aG) (e:aD) (vars funcs:Int) (hv:0<=vars) (hv2:vars+e.s<=4294967296) (iX:0<=funcs) (hf:funcs<=p.aK.length) (hps:p.s<=4294967296)
  (hc:∀ y∈e.aM,∀ vars:Int,0<=vars->vars+y.s<=4294967296->fE Tryz.prog 222 [.agg [gF 3 aX.c p.aK,I funcs],.agg y.c,I vars] (.bool (decide (y.ok p funcs vars)))) (hk:e.aT=10) :
  fE Tryz.prog 222 [.agg [gF 3 aX.c p.aK,I funcs],.agg e.c,I vars] (.bool (decide (e.ok p funcs vars))):=by
 have hl:=p.aMD
 have e1:IntKind.i64.wrap (funcs-1)=funcs-1:=IntWalk.i64_in _ aA
 simp only[aD.aZ]
 by_cases hr:0<=e.bB/\e.bB<=funcs-1
 ·obtain⟨f,ef⟩:∃ f,p.aK[e.bB.toNat]?=some f:=⟨_,eY aA⟩
  have hfs:=aG.aJA (rS ef)
  have hos:=f.aJB
  have e3:IntKind.i64.wrap ((f.aS.length:Int)-1)=f.aS.length-1:=IntWalk.i64_in _ aA
  refine fU 177 vI aDK cF Tryz.func222 λh=>?_
  simp -dsimp -implicitDefEqProofs only[go_sem,↓reduceIte,Tryz.f222,e1,e3,hk]
  repeat'(with_reducible first|intro _|refine And.intro ?_ ?_)
  all_goals try omega
  all_goals(first|refine aH.mk (within e.bB 0 (funcs-1)) ?_|refine aF.mk (within e.bB 0 (funcs-1)) ?_)
  all_goals simp -dsimp -implicitDefEqProofs only[go_sem,↓reduceIte,Tryz.f222,ef,aX.aZ,aO,hk,e3]
  all_goals repeat'(with_reducible first|intro _|refine And.intro ?_ ?_)
  all_goals try omega
  all_goals try(refine aDQ aA ef ?_;omega)
  all_goals try(repeat'(with_reducible first|exact aB.le_refl _|refine(bM nW).2 ?_))
  all_goals(first|refine aH.mk (within e.c4 0 (f.aS.length-1)) ?_|refine aF.mk (within e.c4 0 (f.aS.length-1)) ?_)
  all_goals simp -dsimp -implicitDefEqProofs only[go_sem,↓reduceIte,Tryz.f222,ef,aX.aZ,aO,hk]
  all_goals repeat'(with_reducible first|intro _|refine And.intro ?_ ?_)
  all_goals try omega
  all_goals try(refine aDQ aA ef ?_;omega)
  all_goals try(repeat'(with_reducible first|exact aB.le_refl _|refine(bM nW).2 ?_))
  all_goals
   have hn:mD p e vars funcs:=(rY aA ef).2 aA
   have hok:=aD.eI p funcs e vars
   clear hr hfs hos ef
   refine cM vI aDK cF (λk:Nat=>[(2,I vars),(3,.ip 2 [[gF 3 aX.c p.aK,I funcs]] 0 0),(4,.ip 5 [e.c] 0 0),(154,gF 5 aD.c e.aM),(155,I e.aM.length),(156,I k)]) (λ_=>h) (λk=>k<=e.aM.length/\∀ (j:Nat) (hj:j<e.aM.length),j<k->e.aM[j].ok p funcs vars) (λk=>e.aM.length-k) 0 bKK ?_
   intro k ⟨hk',hp⟩
   simp only[aD.aZ]
   rcases bT k e.aM.length with hlt|hge
   ·have sA:=aD.aLT (kM hlt)
    have nx (q:e.aM[k].ok p funcs vars):∀ (j:Nat) (hj:j<e.aM.length),j<k+1->e.aM[j].ok p funcs vars:=by
     intro j hj hjk
     rcases aH0.1 hjk with h1|rfl
     ·exact hp j hj h1
     ·exact q
    have no (q:¬e.aM[k].ok p funcs vars):false=decide (e.ok p funcs vars):=(decide_eq_false λz=>q bKN).symm
    have ea:e.aM[k]?=some e.aM[k]:=eY hlt
    have hcy:=hc e.aM[k] (kM hlt) vars aA aA
    simp only[aD.aZ]at hcy
    simp -dsimp -implicitDefEqProofs only[go_sem,↓reduceIte,Tryz.f222,ea,aD.aZ,aO,hk]
    repeat'(with_reducible first|intro _|refine And.intro ?_ ?_)
    all_goals try omega
    first|refine aH.mk (hcy) ?_|refine aF.mk (hcy) ?_|refine aH.bI (hcy) ?_|refine aF.mk (bC.dI (hcy)) ?_
    simp -dsimp -implicitDefEqProofs only[go_sem,↓reduceIte,Tryz.f222]
    repeat'(with_reducible first|intro _|refine And.intro ?_ ?_)
    all_goals first|exact no lB|skip
    all_goals try(repeat'(with_reducible first|exact aB.le_refl _|refine(bM nW).2 ?_))
    refine⟨k+1,?_⟩
    repeat'(with_reducible refine And.intro ?_ ?_)
    all_goals try(rw[IntWalk.i64_in _ aA];first|rfl|omega)
    all_goals try omega
    all_goals try(repeat'(with_reducible first|exact aB.le_refl _|refine(bM nW).2 ?_))
    all_goals try(simp only[aD.aZ,hk];done)
    exact nx lB
   ·have hk'':k=e.aM.length:=by omega
    subst hk''
    simp -dsimp -implicitDefEqProofs only[go_sem,↓reduceIte,Tryz.f222,bU]
    exact(decide_eq_true (hok.2 ⟨hn,λj hj=>by rw[show jG e.aT j vars=vars from if_neg aA];exact hp j hj hj⟩)).symm
 ·refine fU 177 vI aDK cF Tryz.func222 λh=>?_
  simp -dsimp -implicitDefEqProofs only[go_sem,↓reduceIte,Tryz.f222,e1,hk]
  repeat'(with_reducible first|intro _|refine And.intro ?_ ?_)
  all_goals try omega
  all_goals(first|refine aH.mk (within e.bB 0 (funcs-1)) ?_|refine aF.mk (within e.bB 0 (funcs-1)) ?_)
  all_goals simp -dsimp -implicitDefEqProofs only[go_sem,↓reduceIte,Tryz.f222]
  all_goals repeat'(with_reducible first|intro _|refine And.intro ?_ ?_)
  all_goals try omega
  all_goals exact aRU aA hr
set_option maxHeartbeats 8000000 in
theorem aRW (p:aG) (e:aD) (vars funcs:Int) (hv:0<=vars) (hv2:vars+e.s<=4294967296) (iX:0<=funcs) (hf:funcs<=p.aK.length) (hps:p.s<=4294967296)
  (hc:∀ y∈e.aM,∀ vars:Int,0<=vars->vars+y.s<=4294967296->fE Tryz.prog 222 [.agg [gF 3 aX.c p.aK,I funcs],.agg y.c,I vars] (.bool (decide (y.ok p funcs vars)))) (hk:e.aT=11) :
  fE Tryz.prog 222 [.agg [gF 3 aX.c p.aK,I funcs],.agg e.c,I vars] (.bool (decide (e.ok p funcs vars))):=by
 have hl:=p.aMD
 have e1:IntKind.i64.wrap (funcs-1)=funcs-1:=IntWalk.i64_in _ aA
 simp only[aD.aZ]
 by_cases hr:0<=e.bB/\e.bB<=funcs-1
 ·obtain⟨f,ef⟩:∃ f,p.aK[e.bB.toNat]?=some f:=⟨_,eY aA⟩
  have hfs:=aG.aJA (rS ef)
  have hos:=f.aJB
  have e3:IntKind.i64.wrap ((f.aS.length:Int)-1)=f.aS.length-1:=IntWalk.i64_in _ aA
  refine fU 177 vI aDK cF Tryz.func222 λh=>?_
  simp -dsimp -implicitDefEqProofs only[go_sem,↓reduceIte,Tryz.f222,e1,e3,hk]
  repeat'(with_reducible first|intro _|refine And.intro ?_ ?_)
  all_goals try omega
  all_goals(first|refine aH.mk (within e.bB 0 (funcs-1)) ?_|refine aF.mk (within e.bB 0 (funcs-1)) ?_)
  all_goals simp -dsimp -implicitDefEqProofs only[go_sem,↓reduceIte,Tryz.f222,ef,aX.aZ,aO,hk,e3]
  all_goals repeat'(with_reducible first|intro _|refine And.intro ?_ ?_)
  all_goals try omega
  all_goals try(refine aDQ aA ef ?_;omega)
  all_goals try(repeat'(with_reducible first|exact aB.le_refl _|refine(bM nW).2 ?_))
  all_goals(first|refine aH.mk (within e.c4 0 (f.aS.length-1)) ?_|refine aF.mk (within e.c4 0 (f.aS.length-1)) ?_)
  all_goals simp -dsimp -implicitDefEqProofs only[go_sem,↓reduceIte,Tryz.f222,ef,aX.aZ,aO,hk]
  all_goals repeat'(with_reducible first|intro _|refine And.intro ?_ ?_)
  all_goals try omega
  all_goals try(refine aDQ aA ef ?_;omega)
  all_goals try(repeat'(with_reducible first|exact aB.le_refl _|refine(bM nW).2 ?_))
  all_goals(first|refine aH.mk (within e.cN 0 8) ?_|refine aF.mk (within e.cN 0 8) ?_)
  all_goals simp -dsimp -implicitDefEqProofs only[go_sem,↓reduceIte,Tryz.f222,aO,hk]
  all_goals repeat'(with_reducible first|intro _|refine And.intro ?_ ?_)
  all_goals try(refine aDQ aA ef ?_;omega)
  all_goals try(repeat'(with_reducible first|exact aB.le_refl _|refine(bM nW).2 ?_))
  all_goals
   have hn:mD p e vars funcs:=(rY aA ef).2 aA
   have hok:=aD.eI p funcs e vars
   clear hr hfs hos ef
   refine cM vI aDK cF (λk:Nat=>[(2,I vars),(3,.ip 2 [[gF 3 aX.c p.aK,I funcs]] 0 0),(4,.ip 5 [e.c] 0 0),(154,gF 5 aD.c e.aM),(155,I e.aM.length),(156,I k)]) (λ_=>h) (λk=>k<=e.aM.length/\∀ (j:Nat) (hj:j<e.aM.length),j<k->e.aM[j].ok p funcs vars) (λk=>e.aM.length-k) 0 bKK ?_
   intro k ⟨hk',hp⟩
   simp only[aD.aZ]
   rcases bT k e.aM.length with hlt|hge
   ·have sA:=aD.aLT (kM hlt)
    have nx (q:e.aM[k].ok p funcs vars):∀ (j:Nat) (hj:j<e.aM.length),j<k+1->e.aM[j].ok p funcs vars:=by
     intro j hj hjk
     rcases aH0.1 hjk with h1|rfl
     ·exact hp j hj h1
     ·exact q
    have no (q:¬e.aM[k].ok p funcs vars):false=decide (e.ok p funcs vars):=(decide_eq_false λz=>q bKN).symm
    have ea:e.aM[k]?=some e.aM[k]:=eY hlt
    have hcy:=hc e.aM[k] (kM hlt) vars aA aA
    simp only[aD.aZ]at hcy
    simp -dsimp -implicitDefEqProofs only[go_sem,↓reduceIte,Tryz.f222,ea,aD.aZ,aO,hk]
    repeat'(with_reducible first|intro _|refine And.intro ?_ ?_)
    all_goals try omega
    first|refine aH.mk (hcy) ?_|refine aF.mk (hcy) ?_|refine aH.bI (hcy) ?_|refine aF.mk (bC.dI (hcy)) ?_
    simp -dsimp -implicitDefEqProofs only[go_sem,↓reduceIte,Tryz.f222]
    repeat'(with_reducible first|intro _|refine And.intro ?_ ?_)
    all_goals first|exact no lB|skip
    all_goals try(repeat'(with_reducible first|exact aB.le_refl _|refine(bM nW).2 ?_))
    refine⟨k+1,?_⟩
    repeat'(with_reducible refine And.intro ?_ ?_)
    all_goals try(rw[IntWalk.i64_in _ aA];first|rfl|omega)
    all_goals try omega
    all_goals try(repeat'(with_reducible first|exact aB.le_refl _|refine(bM nW).2 ?_))
    all_goals try(simp only[aD.aZ,hk];done)
    exact nx lB
   ·have hk'':k=e.aM.length:=by omega
    subst hk''
    simp -dsimp -implicitDefEqProofs only[go_sem,↓reduceIte,Tryz.f222,bU]
    exact(decide_eq_true (hok.2 ⟨hn,λj hj=>by rw[show jG e.aT j vars=vars from if_neg aA];exact hp j hj hj⟩)).symm
 ·refine fU 177 vI aDK cF Tryz.func222 λh=>?_
  simp -dsimp -implicitDefEqProofs only[go_sem,↓reduceIte,Tryz.f222,e1,hk]
  repeat'(with_reducible first|intro _|refine And.intro ?_ ?_)
  all_goals try omega
  all_goals(first|refine aH.mk (within e.bB 0 (funcs-1)) ?_|refine aF.mk (within e.bB 0 (funcs-1)) ?_)
  all_goals simp -dsimp -implicitDefEqProofs only[go_sem,↓reduceIte,Tryz.f222]
  all_goals repeat'(with_reducible first|intro _|refine And.intro ?_ ?_)
  all_goals try omega
  all_goals exact aRU aA hr
theorem aDR (p:aG) (e:aD) (vars funcs:Int) (hv:0<=vars) (hv2:vars+e.s<=4294967296) (iX:0<=funcs) (hf:funcs<=p.aK.length) (hps:p.s<=4294967296) :
  fE Tryz.prog 222 [.agg [gF 3 aX.c p.aK,I funcs],.agg e.c,I vars] (.bool (decide (e.ok p funcs vars))):=by
 by_cases h1:e.aT=10
 ·exact aRV p e vars funcs hv hv2 iX hf hps (λy hy vars hv hv2=>aDR p y vars funcs hv hv2 iX hf hps) h1
 ·by_cases h2:e.aT=11
  ·exact aRW p e vars funcs hv hv2 iX hf hps (λy hy vars hv hv2=>aDR p y vars funcs hv hv2 iX hf hps) h2
  ·exact aJC p e vars funcs hv hv2 iX hf hps (λy hy vars hv hv2=>aDR p y vars funcs hv hv2 iX hf hps) (λq=>q.elim h1 h2)
termination_by SizeOf.sizeOf e
decreasing_by all_goals exact aD.aE6 hy
def lX (p:aG) (e:aD) (vars funcs:Int):Prop:=(0<=vars/\vars<=412)/\(0<=funcs/\funcs<=p.aK.length)/\(e.s:Int)+1<=400/\(e.d:Int)<=60/\e.ok p funcs vars
noncomputable instance (p:aG) (e:aD) (vars funcs:Int):Decidable (lX p e vars funcs):=Classical.propDecidable _
def aAB (p:aG) (k:Nat) (f:aX):Prop:=aDN f.kQ/\(0<=f.aW/\f.aW<=12)/\(1<=(f.aS.length:Int)/\(f.aS.length:Int)<=12)/\(∀ g∈p.aK.take k,g.kQ≠f.kQ)/\(qU aD.s f.aS:Int)<=400/\∀ e∈f.aS,lX p e f.aW k
noncomputable instance (p:aG) (k:Nat) (f:aX):Decidable (aAB p k f):=Classical.propDecidable _
def aG.ok (p:aG):Prop:=(p.aK.length:Int)<=16/\∀ (k:Nat) (f:aX),p.aK[k]?=some f->aAB p k f
noncomputable instance (p:aG):Decidable p.ok:=Classical.propDecidable _
theorem aG6 (n:Int):fE Tryz.prog 227 [I n] (.bool (decide (0<=n/\n<=412))):=by
 refine fU 5 aBD cU cF Tryz.func227 λh=>?_
 simp -dsimp -implicitDefEqProofs only[go_sem,↓reduceIte,Tryz.f227]
 first|refine aH.mk (fF n 0 412) ?_|refine aF.mk (fF n 0 412) ?_|refine aH.bI (fF n 0 412) ?_|refine aF.mk (bC.dI (fF n 0 412)) ?_
 simp -dsimp -implicitDefEqProofs only[go_sem,↓reduceIte,Tryz.f227]
theorem aG7 (n:Int):fE Tryz.prog 220 [I n] (.bool (decide (0<=n/\n<=412))):=by
 refine fU 5 aBD cU cF Tryz.func220 λh=>?_
 simp -dsimp -implicitDefEqProofs only[go_sem,↓reduceIte,Tryz.f220]
 first|refine aH.mk (within n 0 412) ?_|refine aF.mk (within n 0 412) ?_|refine aH.bI (within n 0 412) ?_|refine aF.mk (bC.dI (within n 0 412)) ?_
 simp -dsimp -implicitDefEqProofs only[go_sem,↓reduceIte,Tryz.f220]
theorem aJD {left:Int} {n:Nat}:0<=lft left n↔(n:Int)<=left:=by
 unfold lft;split <;> omega
@[go_sem] def a8V:List Nat:=[0,1,2,3,8]
theorem aXZ (p:aG) (e:aD) (vars funcs:Int) (hs:e.s<=4294966296) (hps:p.s<=4294967296):fE Tryz.prog 218 [.ip 1 [p.c] 0 0,.ip 5 [e.c] 0 0,I vars,I funcs] (.bool (decide (lX p e vars funcs))):=by
 simp only[aG.aZ]
 refine fU 37 a8V cU cF Tryz.func218 λh=>?_
 simp -dsimp -implicitDefEqProofs only[go_sem,↓reduceIte,Tryz.f218]
 first|refine aH.mk (aG6 vars) ?_|refine aF.mk (aG6 vars) ?_|refine aH.bI (aG6 vars) ?_|refine aF.mk (bC.dI (aG6 vars)) ?_
 simp -dsimp -implicitDefEqProofs only[go_sem,↓reduceIte,Tryz.f218]
 repeat'(with_reducible first|intro _|refine And.intro ?_ ?_)
 all_goals try(first|(simp[lX, *];done)|omega|(grind[lX])|(simp[lX];omega))
 first|refine aH.mk (fF funcs 0 p.aK.length) ?_|refine aF.mk (fF funcs 0 p.aK.length) ?_|refine aH.bI (fF funcs 0 p.aK.length) ?_|refine aF.mk (bC.dI (fF funcs 0 p.aK.length)) ?_
 simp -dsimp -implicitDefEqProofs only[go_sem,↓reduceIte,Tryz.f218]
 repeat'(with_reducible first|intro _|refine And.intro ?_ ?_)
 all_goals try(first|(simp[lX, *];done)|omega|(grind[lX])|(simp[lX];omega))
 first|refine aF.mk ((aDO e 400 aA aA aA).sub uY) ?_|refine aH.mk ((aDO e 400 aA aA aA).sub uY) ?_
 simp -dsimp -implicitDefEqProofs only[go_sem,↓reduceIte,Tryz.f218]
 repeat'(with_reducible first|intro _|refine And.intro ?_ ?_)
 ·have hle:((e.s+1:Nat):Int)<=400:=aJD.1 lB
  first|refine aF.mk ((aI9 e aA).sub uY) ?_|refine aH.mk ((aI9 e aA).sub uY) ?_
  simp -dsimp -implicitDefEqProofs only[go_sem,↓reduceIte,Tryz.f218]
  repeat'(with_reducible first|intro _|refine And.intro ?_ ?_)
  ·first|refine aF.mk ((aN6 p e vars funcs aA aA aA aA hps).sub uY) ?_|refine aH.mk ((aN6 p e vars funcs aA aA aA aA hps).sub uY) ?_
   simp -dsimp -implicitDefEqProofs only[go_sem,↓reduceIte,Tryz.f218]
   rw[decide_eq_decide]
   exact⟨λq=>⟨by omega,by omega,by omega,by omega,q⟩,λq=>q.2.2.2.2⟩
  ·exact(decide_eq_false λq=>by have:=q.2.2.2.1;omega).symm
 ·rename_i hn
  exact(decide_eq_false λq=>hn (aJD.2 (by have:=q.2.2.1;omega))).symm
@[go_sem] def a8W:List Nat:=[0,1,2,3,4,5,8]
@[go_sem] def bMJ:List Nat:=[4,5]
theorem a0W (p:aG) (e:aD) (vars funcs:Int) (hs:e.s<=4294966296) (hps:p.s<=4294967296):fE Tryz.prog 201 [.agg p.c,.agg e.c,I vars,I funcs] (.bool (decide (lX p e vars funcs))):=by
 have h1:=aI7 e aA
 have h2:=aMC e aA
 simp only[aD.aZ]at h1 h2
 simp only[aG.aZ,aD.aZ]
 refine fU 36 a8W bMJ cF Tryz.func201 λh=>?_
 simp -dsimp -implicitDefEqProofs only[go_sem,↓reduceIte,Tryz.f201]
 first|refine aH.mk (aG7 vars) ?_|refine aF.mk (aG7 vars) ?_|refine aH.bI (aG7 vars) ?_|refine aF.mk (bC.dI (aG7 vars)) ?_
 simp -dsimp -implicitDefEqProofs only[go_sem,↓reduceIte,Tryz.f201]
 repeat'(with_reducible first|intro _|refine And.intro ?_ ?_)
 all_goals try(first|(simp[lX, *];done)|omega|(grind[lX])|(simp[lX];omega))
 first|refine aH.mk (within funcs 0 p.aK.length) ?_|refine aF.mk (within funcs 0 p.aK.length) ?_|refine aH.bI (within funcs 0 p.aK.length) ?_|refine aF.mk (bC.dI (within funcs 0 p.aK.length)) ?_
 simp -dsimp -implicitDefEqProofs only[go_sem,↓reduceIte,Tryz.f201]
 repeat'(with_reducible first|intro _|refine And.intro ?_ ?_)
 all_goals try(first|(simp[lX, *];done)|omega|(grind[lX])|(simp[lX];omega))
 first|refine aH.mk (h1) ?_|refine aF.mk (h1) ?_|refine aH.bI (h1) ?_|refine aF.mk (bC.dI (h1)) ?_
 simp -dsimp -implicitDefEqProofs only[go_sem,↓reduceIte,Tryz.f201]
 repeat'(with_reducible first|intro _|refine And.intro ?_ ?_)
 ·first|refine aH.mk (h2) ?_|refine aF.mk (h2) ?_|refine aH.bI (h2) ?_|refine aF.mk (bC.dI (h2)) ?_
  simp -dsimp -implicitDefEqProofs only[go_sem,↓reduceIte,Tryz.f201]
  repeat'(with_reducible first|intro _|refine And.intro ?_ ?_)
  ·have h3:=aDR p e vars funcs aA aA aA aA hps
   simp only[aD.aZ]at h3
   first|refine aH.mk (h3) ?_|refine aF.mk (h3) ?_|refine aH.bI (h3) ?_|refine aF.mk (bC.dI (h3)) ?_
   simp -dsimp -implicitDefEqProofs only[go_sem,↓reduceIte,Tryz.f201]
   rw[decide_eq_decide]
   exact⟨λq=>⟨by omega,by omega,by omega,by omega,q⟩,λq=>q.2.2.2.2⟩
  ·exact(decide_eq_false λq=>by have:=q.2.2.2.1;omega).symm
 ·exact(decide_eq_false λq=>by have:=q.2.2.1;omega).symm
@[go_sem] def aN7:List Nat:=[0,1,4,5,6,7,8,37,40,55,62,90]
@[go_sem] def a4A:Marks:=λid=>match id with|7=>([],(.op 0 (.op 1 (.op 2 (.op 3 (.op 4 (.op 5 (.op 6 (.op 7 (.op 8 (.op 9 (.op 10 (.op 11 (.op 12 .nil))))))))))))),[])|14=>([],(.op 0 (.op 1 (.op 2 (.op 3 (.op 4 (.op 5 (.op 6 (.op 7 (.op 8 (.op 9 (.op 10 (.op 11 (.op 12 (.op 13 (.op 14 (.op 15 (.op 16 (.op 17 .nil)))))))))))))))))),[])|_=>([],.nil,[])
theorem aX0 (p:aG) (k:Nat) (f:aX) (ef:p.aK[k]?=some f) (hps:p.s<=4194304):fE Tryz.prog 195 [.ip 1 [p.c] 0 0,I k] (.bool (decide (aAB p k f))):=by
 have hk:k<p.aK.length:=(iO.1 ef).1
 have hfs:=aG.aJA (rS ef)
 have hl:=p.aMD
 have hos:=f.aJB
 simp only[aG.aZ]
 have no (q:¬(aDN f.kQ/\(0<=f.aW/\f.aW<=12)/\(1<=(f.aS.length:Int)/\(f.aS.length:Int)<=12))):false=decide (aAB p k f):=(decide_eq_false λz=>q ⟨z.1,z.2.1,z.2.2.1⟩).symm
 refine fU 91 aN7 cU a4A Tryz.func195 λh=>?_
 simp -dsimp -implicitDefEqProofs only[go_sem,↓reduceIte,Tryz.f195,ef,aX.aZ,tX]
 repeat'(with_reducible first|intro _|refine And.intro ?_ ?_)
 all_goals try omega
 first|refine aH.mk (x7 f.kQ) ?_|refine aF.mk (x7 f.kQ) ?_|refine aH.bI (x7 f.kQ) ?_|refine aF.mk (bC.dI (x7 f.kQ)) ?_
 simp -dsimp -implicitDefEqProofs only[go_sem,↓reduceIte,Tryz.f195,ef,aX.aZ]
 repeat'(with_reducible first|intro _|refine And.intro ?_ ?_)
 ·first|refine aH.mk (fF f.aW 0 12) ?_|refine aF.mk (fF f.aW 0 12) ?_|refine aH.bI (fF f.aW 0 12) ?_|refine aF.mk (bC.dI (fF f.aW 0 12)) ?_
  simp -dsimp -implicitDefEqProofs only[go_sem,↓reduceIte,Tryz.f195,ef,aX.aZ]
  repeat'(with_reducible first|intro _|refine And.intro ?_ ?_)
  ·first|refine aH.mk (fF f.aS.length 1 12) ?_|refine aF.mk (fF f.aS.length 1 12) ?_|refine aH.bI (fF f.aS.length 1 12) ?_|refine aF.mk (bC.dI (fF f.aS.length 1 12)) ?_
   simp -dsimp -implicitDefEqProofs only[go_sem,↓reduceIte,Tryz.f195,ef,aX.aZ]
   repeat'(with_reducible first|intro _|refine And.intro ?_ ?_)
   ·exact no λz=>by simp_all
   ·rename_i q1 q2 q3
    refine cM aN7 cU a4A (λj:Nat=>[(0,.ip 1 [p.c] 0 0),(1,I k),(5,.ip 3 (p.aK.map aX.c) k 0),(6,I j)]) (λ_=>h) (λj=>j<=k/\∀ g∈p.aK.take j,g.kQ≠f.kQ) (λj=>k-j) 0 a7S ?_
    intro j ⟨hj,hp⟩
    simp only[aG.aZ]
    rcases bT j k with hlt|hge
    ·have eg:p.aK[j]?=some p.aK[j]:=eY aA
     simp -dsimp -implicitDefEqProofs only[go_sem,↓reduceIte,Tryz.f195,ef,eg,aX.aZ,tX]
     repeat'(with_reducible first|intro _|refine And.intro ?_ ?_)
     all_goals try omega
     ·rename_i he
      refine(decide_eq_false λz=>z.2.2.2.1 p.aK[j] ?_ he).symm
      exact List.mem_take_iff_getElem.2 ⟨j,by omega,rfl⟩
     ·rename_i he
      refine⟨j+1,?_⟩
      repeat'(with_reducible refine And.intro ?_ ?_)
      all_goals try(rw[IntWalk.i64_in _ aA];first|rfl|omega)
      all_goals try omega
      all_goals try(repeat'(with_reducible first|exact aB.le_refl _|refine(bM nW).2 ?_))
      all_goals try(simp only[aG.aZ];done)
      exact qI (P:=λg:aX=>g.kQ≠f.kQ) aA hp he
    ·have hj':j=k:=by omega
     rw[hj']at hp
     simp -dsimp -implicitDefEqProofs only[go_sem,↓reduceIte,Tryz.f195,hj',cT]
     have part (i:Nat) (hi:i<f.aS.length):i+((f.aS.take i).map aD.s).sum+f.aS[i].s+1<=qU aD.s f.aS:=by
      have h1:=lM aD.s f.aS i hi
      have h2:=vD aD.s f.aS (i+1)
      rw[sJ];omega
     have hszs:qU aD.s f.aS<=f.s:=by rw[f.aB6];omega
     refine cM aN7 cU a4A (λi:Nat=>[(0,.ip 1 [p.c] 0 0),(1,I k),(5,.ip 3 (p.aK.map aX.c) k 0),(7,I (400-(i+((f.aS.take i).map aD.s).sum:Nat))),(8,I i)]) (λ_=>h) (λi=>i<=f.aS.length/\i+((f.aS.take i).map aD.s).sum<=400/\∀ e∈f.aS.take i,lX p e f.aW k) (λi=>f.aS.length-i) 0 a7S ?_
     intro i ⟨hi,hsum,hall⟩
     simp only[aG.aZ]
     rcases bT i f.aS.length with hlt|hge
     ·have h1:=lM aD.s f.aS i hlt
      have hpt:=part i hlt
      have hout:=aX.bDB (kM hlt)
      simp -dsimp -implicitDefEqProofs only[go_sem,↓reduceIte,Tryz.f195,ef,aX.aZ,tX]
      repeat'(with_reducible first|intro _|refine And.intro ?_ ?_)
      all_goals try omega
      first|refine aF.mk ((aDO f.aS[i] (400-(i+((f.aS.take i).map aD.s).sum:Nat)) aA aA aA).sub uY) ?_|refine aH.mk ((aDO f.aS[i] (400-(i+((f.aS.take i).map aD.s).sum:Nat)) aA aA aA).sub uY) ?_
      simp -dsimp -implicitDefEqProofs only[go_sem,↓reduceIte,Tryz.f195,ef,aX.aZ]
      rcases aL8 (400-(i+((f.aS.take i).map aD.s).sum:Nat)) (f.aS[i].s+1)with⟨e,hl1⟩|⟨e,hl1⟩
      ·simp -dsimp -implicitDefEqProofs only[go_sem,↓reduceIte,Tryz.f195,e]
       repeat'(with_reducible first|intro _|refine And.intro ?_ ?_)
       all_goals try omega
       all_goals exact(decide_eq_false λz=>by have:=z.2.2.2.2.1;omega).symm
      ·simp -dsimp -implicitDefEqProofs only[go_sem,↓reduceIte,Tryz.f195,e]
       repeat'(with_reducible first|intro _|refine And.intro ?_ ?_)
       all_goals try omega
       first|refine aF.mk ((aXZ p f.aS[i] f.aW k aA aA).sub uY) ?_|refine aH.mk ((aXZ p f.aS[i] f.aW k aA aA).sub uY) ?_
       simp -dsimp -implicitDefEqProofs only[go_sem,↓reduceIte,Tryz.f195,ef,aX.aZ]
       repeat'(with_reducible first|intro _|refine And.intro ?_ ?_)
       ·rename_i hn
        exact(decide_eq_false λz=>hn (z.2.2.2.2.2 _ (kM hlt))).symm
       ·rename_i hn
        refine⟨i+1,?_⟩
        repeat'(with_reducible refine And.intro ?_ ?_)
        all_goals try(rw[IntWalk.i64_in _ aA];first|rfl|omega)
        all_goals try omega
        all_goals try(repeat'(with_reducible first|exact aB.le_refl _|refine(bM nW).2 ?_))
        all_goals try(simp only[aG.aZ];done)
        exact qI (P:=λe=>lX p e f.aW k) hlt hall hn
     ·have hi':i=f.aS.length:=by omega
      subst hi'
      rw[nL]at hsum hall
      simp -dsimp -implicitDefEqProofs only[go_sem,↓reduceIte,Tryz.f195,ef,aX.aZ,bU]
      exact λ_=>(decide_eq_true ⟨by assumption,q1,q3,hp,by rw[sJ];omega,hall⟩).symm
  ·exact no λz=>by simp_all
 ·exact no λz=>by simp_all
@[go_sem] def aX1:List Nat:=[0,2,3,9,16,22]
theorem bDC (p:aG) (hps:p.s<=4194304):fE Tryz.prog 160 [.ip 1 [p.c] 0 0] (.bool (decide p.ok)):=by
 simp only[aG.aZ]
 refine fU 23 aX1 cU cF Tryz.func160 λh=>?_
 simp -dsimp -implicitDefEqProofs only[go_sem,↓reduceIte,Tryz.f160]
 repeat'(with_reducible first|intro _|refine And.intro ?_ ?_)
 ·exact(decide_eq_false λz=>by have:=z.1;omega).symm
 refine cM aX1 cU cF (λk:Nat=>[(0,.ip 1 [p.c] 0 0),(3,I k)]) (λ_=>h) (λk=>k<=p.aK.length/\∀ (j:Nat) (f:aX),j<k->p.aK[j]?=some f->aAB p j f) (λk=>p.aK.length-k) 0 a7S ?_
 intro k ⟨hk,hp⟩
 simp only[aG.aZ]
 rcases bT k p.aK.length with hlt|hge
 ·have eg:p.aK[k]?=some p.aK[k]:=eY aA
  simp -dsimp -implicitDefEqProofs only[go_sem,↓reduceIte,Tryz.f160]
  repeat'(with_reducible first|intro _|refine And.intro ?_ ?_)
  all_goals try omega
  first|refine aF.mk ((aX0 p k p.aK[k] eg hps).sub uY) ?_|refine aH.mk ((aX0 p k p.aK[k] eg hps).sub uY) ?_
  simp -dsimp -implicitDefEqProofs only[go_sem,↓reduceIte,Tryz.f160]
  repeat'(with_reducible first|intro _|refine And.intro ?_ ?_)
  ·rename_i hn
   exact(decide_eq_false λz=>hn (z.2 k _ eg)).symm
  ·rename_i hn
   refine⟨k+1,?_⟩
   repeat'(with_reducible refine And.intro ?_ ?_)
   all_goals try(rw[IntWalk.i64_in _ aA];first|rfl|omega)
   all_goals try omega
   all_goals try(repeat'(with_reducible first|exact aB.le_refl _|refine(bM nW).2 ?_))
   all_goals try(simp only[aG.aZ];done)
   intro j f hj ej
   rcases aH0.1 hj with h1|rfl
   ·exact hp j f h1 ej
   ·rw[eg]at ej;obtain rfl:=gH ej;exact hn
 ·have hk':k=p.aK.length:=by omega
  subst hk'
  simp -dsimp -implicitDefEqProofs only[go_sem,↓reduceIte,Tryz.f160,bU]
  exact λ_=>(decide_eq_true ⟨by omega,λj f ej=>hp j f (iO.1 ej).1 ej⟩).symm
theorem aUF (a:List aX) (p:aX->Bool) (g:FuncId) (cap:List aE) {h0:aB} (hc:∀ x∈a,bC Tryz.prog g ([(.agg (aX.c x))]++cap) (.bool (p x)) h0):bC Tryz.prog 219 [(gF 3 aX.c a),.fn (.func g) [] cap] (I (idxOf p a)) h0:=by
 refine aF6 19 aL6 cU cF Tryz.func219 λh hle=>?_
 simp -dsimp -implicitDefEqProofs only[go_sem,↓reduceIte,Tryz.f219,Tryz.f219]
 intro _
 refine cM aL6 cU cF (λk:Nat=>[(0,(gF 3 aX.c a)),(1,.fn (.func g) [] cap),(7,I a.length),(8,I k)]) (λ_=>h) (λk=>k<=a.length/\∀ x∈a.take k,p x=false) (λk=>a.length-k) 0 aFP ?_
 intro k ⟨hk,hp⟩
 rcases bT k a.length with hlt|hge
 ·have ea:a[k]?=some a[k]:=eY hlt
  simp -dsimp -implicitDefEqProofs only[go_sem,↓reduceIte,Tryz.f219,Tryz.f219,ea,aX.aZ]
  repeat'(with_reducible first|intro _|refine And.intro ?_ ?_)
  all_goals try omega
  have hx:=hc a[k] (kM hlt)
  simp only[aX.aZ]at hx
  refine aH.bI (hx.mono hle) ?_
  cases hpk:p a[k]with
  |true =>
   simp -dsimp -implicitDefEqProofs only[go_sem,↓reduceIte,Tryz.f219,Tryz.f219]
   repeat'(with_reducible first|intro _|refine And.intro ?_ ?_)
   all_goals first|exact(rG hlt hp hpk).symm|rfl|(rw[rG hlt hp hpk])
  |false =>
   simp -dsimp -implicitDefEqProofs only[go_sem,↓reduceIte,Tryz.f219,Tryz.f219]
   refine⟨k+1,?_⟩
   repeat'(with_reducible refine And.intro ?_ ?_)
   all_goals try(rw[IntWalk.i64_in _ aA];first|rfl|omega)
   all_goals try omega
   exact qI (P:=λx=>p x=false) hlt hp hpk
 ·have hk':k=a.length:=by omega
  subst hk'
  rw[nL]at hp
  simp -dsimp -implicitDefEqProofs only[go_sem,↓reduceIte,Tryz.f219,Tryz.f219,bU]
  all_goals first|exact(rF hp).symm|rw[rF hp]
theorem aUG (a:List aX) (p:aX->Bool) (g:FuncId) (cap:List aE) {h0:aB} (hc:∀ x∈a,bC Tryz.prog g ([(.agg (aX.c x))]++cap) (.bool (p x)) h0):bC Tryz.prog 199 [(gF 3 aX.c a),.fn (.func g) [] cap] (.bool (a.any p)) h0:=by
 refine aF6 9 zX cU cF Tryz.func199 λh hle=>?_
 simp -dsimp -implicitDefEqProofs only[go_sem,↓reduceIte,Tryz.f199,Tryz.f199]
 refine aH.bI ((aUF a p g cap hc).mono hle) ?_
 simp -dsimp -implicitDefEqProofs only[go_sem,↓reduceIte,Tryz.f199,Tryz.f199]
 all_goals first|done|exact nZ|rw[nZ]
theorem aLE (g f:aX) (n:Nat) {h0:aB} (hn:h0 n=some (.row 3 [f.c.map .v])):bC Tryz.prog 200 [.agg g.c,.op n 3 0 0] (.bool (decide (g.kQ=f.kQ))) h0:=by
 simp only[aX.aZ]
 have hg (h:aB) (hle:h0.le h):=aB.aNP hle hn
 refine aF6 9 bTC a3X cF Tryz.func200 λh hle=>?_
 simp -dsimp -implicitDefEqProofs only[go_sem,↓reduceIte,Tryz.f200]
 have hn':=hg h hle
 simp only[aX.aZ]at hn'
 simp -dsimp -implicitDefEqProofs only[go_sem,↓reduceIte,Tryz.f200,hn']
@[go_sem] def aN8:List Nat:=[0,1,2,3,4,5,7,11,13,14,15,16,31,42,44,45,46,47,56,63]
theorem aN9 (p:aG) (hps:p.s<=4194304):fE Tryz.prog 172 [.agg p.c] (.bool (decide p.ok)):=by
 simp only[aG.aZ]
 refine fU 65 aN8 aK8 cF Tryz.func172 λh=>?_
 simp -dsimp -implicitDefEqProofs only[go_sem,↓reduceIte,Tryz.f172]
 repeat'(with_reducible first|intro _|refine And.intro ?_ ?_)
 ·exact(decide_eq_false λz=>by have:=z.1;omega).symm
 refine cM aN8 aK8 cF (λk:Nat=>[(1,.ip 1 [p.c] 0 0),(13,gF 3 aX.c p.aK),(14,I p.aK.length),(15,I k)]) (λ_=>h) (λk=>k<=p.aK.length/\∀ (j:Nat) (f:aX),j<k->p.aK[j]?=some f->aAB p j f) (λk=>p.aK.length-k) 0 a7S ?_
 intro k ⟨hk,hp⟩
 simp only[aG.aZ]
 rcases bT k p.aK.length with hlt|hge
 ·obtain⟨f,eg⟩:∃ f,p.aK[k]?=some f:=⟨_,eY hlt⟩
  have hfs:=aG.aJA (rS eg)
  have hos:=f.aJB
  have no (q:¬aAB p k f):false=decide p.ok:=(decide_eq_false λz=>q (z.2 k f eg)).symm
  simp -dsimp -implicitDefEqProofs only[go_sem,↓reduceIte,Tryz.f172,eg,aX.aZ,aO]
  repeat'(with_reducible first|intro _|refine And.intro ?_ ?_)
  all_goals try omega
  rename_i n hn
  first|refine aH.mk (aN0 f.kQ) ?_|refine aF.mk (aN0 f.kQ) ?_|refine aH.bI (aN0 f.kQ) ?_|refine aF.mk (bC.dI (aN0 f.kQ)) ?_
  simp -dsimp -implicitDefEqProofs only[go_sem,↓reduceIte,Tryz.f172,aP,aO]
  repeat'(with_reducible first|intro _|refine And.intro ?_ ?_)
  all_goals try(repeat'(with_reducible first|exact aB.le_refl _|refine(bM nW).2 ?_))
  all_goals try omega
  all_goals try(rename_i hnm;exact no λz=>hnm z.1)
  rename_i hnm
  rw[←List.map_take]
  refine aH.bI (aUG (p.aK.take k) (λg=>decide (g.kQ=f.kQ)) 200 [.op n 3 0 0] λg _=>aLE g f n (by simp[aP,aX.aZ])) ?_
  simp -dsimp -implicitDefEqProofs only[go_sem,↓reduceIte,Tryz.f172,aP,aO]
  repeat'(with_reducible first|intro _|refine And.intro ?_ ?_)
  all_goals try(repeat'(with_reducible first|exact aB.le_refl _|refine(bM nW).2 ?_))
  ·rename_i q
   refine no λz=>?_
   obtain⟨g,pK,hg2⟩:=a2I.1 q
   exact z.2.2.2.1 g pK (by simpa using hg2)
  rename_i hnd
  have hnd':∀ g∈p.aK.take k,g.kQ≠f.kQ:=λg hg=>by
   have:=List.any_eq_false.1 hnd g hg
   simpa using this
  first|refine aH.mk (within f.aW 0 12) ?_|refine aF.mk (within f.aW 0 12) ?_|refine aH.bI (within f.aW 0 12) ?_|refine aF.mk (bC.dI (within f.aW 0 12)) ?_
  simp -dsimp -implicitDefEqProofs only[go_sem,↓reduceIte,Tryz.f172,aP,aO]
  repeat'(with_reducible first|intro _|refine And.intro ?_ ?_)
  all_goals try(repeat'(with_reducible first|exact aB.le_refl _|refine(bM nW).2 ?_))
  ·first|refine aH.mk (within f.aS.length 1 12) ?_|refine aF.mk (within f.aS.length 1 12) ?_|refine aH.bI (within f.aS.length 1 12) ?_|refine aF.mk (bC.dI (within f.aS.length 1 12)) ?_
   simp -dsimp -implicitDefEqProofs only[go_sem,↓reduceIte,Tryz.f172,aP,aO]
   repeat'(with_reducible first|intro _|refine And.intro ?_ ?_)
   all_goals try(repeat'(with_reducible first|exact aB.le_refl _|refine(bM nW).2 ?_))
   ·rename_i q
    exact no λz=>q z.2.2.1
   ·rename_i q1 q2 q3 q4
    have part (i:Nat) (hi:i<f.aS.length):i+((f.aS.take i).map aD.s).sum+f.aS[i].s+1<=qU aD.s f.aS:=by
     have h1:=lM aD.s f.aS i hi
     have h2:=vD aD.s f.aS (i+1)
     rw[sJ];omega
    have hszs:qU aD.s f.aS<=f.s:=by rw[f.aB6];omega
    refine cM aN8 aK8 cF (λi:Nat=>[(1,.ip 1 [p.c] 0 0),(3,I k),(4,.op n 3 0 0),(5,I ((i+((f.aS.take i).map aD.s).sum:Nat):Int)),(13,gF 3 aX.c p.aK),(14,I p.aK.length),(15,I k),(44,gF 5 aD.c f.aS),(45,I f.aS.length),(46,I i)]) (λ_=>aU h n (.row 3 [f.c.map .v])) (λi=>i<=f.aS.length/\∀ e∈f.aS.take i,lX p e f.aW k) (λi=>f.aS.length-i) 0 (by refine⟨by simp[cR,b6,aG.aZ],by simp[aX.aZ,aB.le_refl],by simp⟩) ?_
    intro i ⟨hi,hall⟩
    simp only[aG.aZ,aX.aZ,p5,v7]
    rcases bT i f.aS.length with jO|aFB
    ·have h1:=lM aD.s f.aS i jO
     have hpt:=part i jO
     have hout:=aX.bDB (kM jO)
     have ee:f.aS[i]?=some f.aS[i]:=eY jO
     have hv:=a0W p f.aS[i] f.aW k aA aA
     have hz:=aI7 f.aS[i] aA
     simp only[aD.aZ,aG.aZ]at hv hz
     simp -dsimp -implicitDefEqProofs only[go_sem,↓reduceIte,Tryz.f172,ee,aD.aZ,aO]
     repeat'(with_reducible first|intro _|refine And.intro ?_ ?_)
     all_goals try omega
     rename_i m hm
     have hmn:(n=m)=False:=eq_false λe=>hm.1 e.symm
     have bFQ:(m=n)=False:=eq_false hm.1
     simp -dsimp -implicitDefEqProofs only[go_sem,↓reduceIte,Tryz.f172,aP,hmn,bFQ]
     first|refine aH.mk (hv) ?_|refine aF.mk (hv) ?_|refine aH.bI (hv) ?_|refine aF.mk (bC.dI (hv)) ?_
     simp -dsimp -implicitDefEqProofs only[go_sem,↓reduceIte,Tryz.f172,aP,hmn,bFQ]
     repeat'(with_reducible first|intro _|refine And.intro ?_ ?_)
     ·rename_i hne
      exact no λz=>hne (z.2.2.2.2.2 _ (kM jO))
     ·all_goals try(repeat'(with_reducible first|exact aB.le_refl _|refine(bM nW).2 ?_))
     ·rename_i hne
      first|refine aH.mk (hz) ?_|refine aF.mk (hz) ?_|refine aH.bI (hz) ?_|refine aF.mk (bC.dI (hz)) ?_
      simp -dsimp -implicitDefEqProofs only[go_sem,↓reduceIte,Tryz.f172,aP,hmn,bFQ]
      refine⟨i+1,?_⟩
      repeat'(with_reducible refine And.intro ?_ ?_)
      all_goals try(rw[IntWalk.i64_in _ aA];first|rfl|omega)
      all_goals try omega
      all_goals try(repeat'(with_reducible first|exact aB.le_refl _|refine(bM nW).2 ?_))
      all_goals try(simp only[aG.aZ];done)
      exact qI (P:=λe=>lX p e f.aW k) jO hall hne
    ·have hi':i=f.aS.length:=by omega
     subst hi'
     rw[nL]at hall ⊢
     simp -dsimp -implicitDefEqProofs only[go_sem,↓reduceIte,Tryz.f172,bU]
     have hss:qU aD.s f.aS=f.aS.length+(f.aS.map aD.s).sum:=sJ _ _
     repeat'(with_reducible first|intro _|refine And.intro ?_ ?_)
     all_goals try(repeat'(with_reducible first|exact aB.le_refl _|refine(bM nW).2 ?_))
     ·rename_i q
      exact no λz=>by have:=z.2.2.2.2.1;omega
     ·rename_i q
      have hfk:aAB p k f:=⟨hnm,q1,q3,hnd',by omega,hall⟩
      refine⟨k+1,?_⟩
      repeat'(with_reducible refine And.intro ?_ ?_)
      all_goals try(rw[IntWalk.i64_in _ aA];first|rfl|omega)
      all_goals try omega
      all_goals try(repeat'(with_reducible first|exact aB.le_refl _|refine(bM nW).2 ?_))
      intro j f' hj ej
      rcases aH0.1 hj with h1|rfl
      ·exact hp j f' h1 ej
      ·rw[eg]at ej;obtain rfl:=gH ej;exact hfk
  ·rename_i q
   exact no λz=>q z.2.1
 ·have hk':k=p.aK.length:=by omega
  subst hk'
  simp -dsimp -implicitDefEqProofs only[go_sem,↓reduceIte,Tryz.f172,bU]
  exact(decide_eq_true ⟨by omega,λj f ej=>hp j f (iO.1 ej).1 ej⟩).symm
@[go_sem] def bFR:List Nat:=[0,1,2,4,5,9]
theorem a4B (p:aG) (f:Int) (hps:p.s<=4194304):fE Tryz.prog 99 [.agg p.c,I f] (I (if p.ok then if 0<=f/\f<=(p.aK.length:Int)-1 then 0 else 2 else 1)):=by
 have hv:=aN9 p hps
 simp only[aG.aZ]at hv ⊢
 refine fU 17 bFR a3X cF Tryz.func99 λh=>?_
 simp -dsimp -implicitDefEqProofs only[go_sem,↓reduceIte,Tryz.f99]
 first|refine aH.mk (hv) ?_|refine aF.mk (hv) ?_|refine aH.bI (hv) ?_|refine aF.mk (bC.dI (hv)) ?_
 simp -dsimp -implicitDefEqProofs only[go_sem,↓reduceIte,Tryz.f99]
 repeat'(with_reducible first|intro _|refine And.intro ?_ ?_)
 ·rename_i hn
  rw[if_neg hn]
 ·rename_i hn _
  rw[if_pos hn]
  all_goals try simp(disch:=omega) only[IntWalk.i64_in]
  first|refine aH.mk (within f 0 (p.aK.length-1)) ?_|refine aF.mk (within f 0 (p.aK.length-1)) ?_|refine aH.bI (within f 0 (p.aK.length-1)) ?_|refine aF.mk (bC.dI (within f 0 (p.aK.length-1))) ?_
  simp -dsimp -implicitDefEqProofs only[go_sem,↓reduceIte,Tryz.f99]
  repeat'(with_reducible first|intro _|refine And.intro ?_ ?_)
  ·rename_i q
   rw[if_neg q]
  ·rename_i q
   rw[if_pos q]
theorem aOA (a:List (List Int)) (p:(List Int)->Bool) (g:FuncId) (cap:List aE) {h0:aB} (hc:∀ x∈a,bC Tryz.prog g ([(gF 1 (λn=>[I n]) x)]++cap) (.bool (p x)) h0):bC Tryz.prog 169 [(gF 1 (λx=>[gF 1 (λn=>[I n]) x]) a),.fn (.func g) [] cap] (I (idxOf p a)) h0:=by
 refine aF6 19 aL6 cU cF Tryz.func169 λh hle=>?_
 simp -dsimp -implicitDefEqProofs only[go_sem,↓reduceIte,Tryz.f169,Tryz.f169]
 intro _
 refine cM aL6 cU cF (λk:Nat=>[(0,(gF 1 (λx=>[gF 1 (λn=>[I n]) x]) a)),(1,.fn (.func g) [] cap),(7,I a.length),(8,I k)]) (λ_=>h) (λk=>k<=a.length/\∀ x∈a.take k,p x=false) (λk=>a.length-k) 0 aFP ?_
 intro k ⟨hk,hp⟩
 rcases bT k a.length with hlt|hge
 ·have ea:a[k]?=some a[k]:=eY hlt
  simp -dsimp -implicitDefEqProofs only[go_sem,↓reduceIte,Tryz.f169,Tryz.f169,ea]
  repeat'(with_reducible first|intro _|refine And.intro ?_ ?_)
  all_goals try omega
  have hx:=hc a[k] (kM hlt)
  refine aH.bI (hx.mono hle) ?_
  cases hpk:p a[k]with
  |true =>
   simp -dsimp -implicitDefEqProofs only[go_sem,↓reduceIte,Tryz.f169,Tryz.f169]
   repeat'(with_reducible first|intro _|refine And.intro ?_ ?_)
   all_goals first|exact(rG hlt hp hpk).symm|rfl|(rw[rG hlt hp hpk])
  |false =>
   simp -dsimp -implicitDefEqProofs only[go_sem,↓reduceIte,Tryz.f169,Tryz.f169]
   refine⟨k+1,?_⟩
   repeat'(with_reducible refine And.intro ?_ ?_)
   all_goals try(rw[IntWalk.i64_in _ aA];first|rfl|omega)
   all_goals try omega
   exact qI (P:=λx=>p x=false) hlt hp hpk
 ·have hk':k=a.length:=by omega
  subst hk'
  rw[nL]at hp
  simp -dsimp -implicitDefEqProofs only[go_sem,↓reduceIte,Tryz.f169,Tryz.f169,bU]
  all_goals first|exact(rF hp).symm|rw[rF hp]
theorem aOB (a:List (List Int)) (p:(List Int)->Bool) (g:FuncId) (cap:List aE) {h0:aB} (hc:∀ x∈a,bC Tryz.prog g ([(gF 1 (λn=>[I n]) x)]++cap) (.bool (p x)) h0):bC Tryz.prog 96 [(gF 1 (λx=>[gF 1 (λn=>[I n]) x]) a),.fn (.func g) [] cap] (.bool (a.any p)) h0:=by
 refine aF6 9 zX cU cF Tryz.func96 λh hle=>?_
 simp -dsimp -implicitDefEqProofs only[go_sem,↓reduceIte,Tryz.f96,Tryz.f96]
 refine aH.bI ((aOA a p g cap hc).mono hle) ?_
 simp -dsimp -implicitDefEqProofs only[go_sem,↓reduceIte,Tryz.f96,Tryz.f96]
 all_goals first|done|exact nZ|rw[nZ]
mutual
def aD.o:aD->List OV->Prop
 | .mk aT bB c4 cN aM,e=>∃ y,e=[.v (.int .i64 aT),.v (.int .i64 bB),.v (.int .i64 c4),.v (.int .i64 cN),y]/\((y=.nil 5/\aM=[])∨∃ n es,y=.sl n 5 es/\aD.oR aM es)
def aD.oR:List aD->List (List OV)->Prop
 | [],[]=>True
 |x::l,e::es=>x.o e/\aD.oR l es
 | _,_=>False
end
theorem aD.bDD:∀ (l:List aD) (es:List (List OV)),aD.oR l es=OR aD.o l es
 | [],[]=>rfl
 |x::l,e::es=>by rw[aD.oR,OR,aD.bDD l es]
 | [],_::_=>rfl
 | _::_,[]=>rfl
theorem aD.uK (x:aD) (e:List OV):x.o e↔∃ y4,e=[.v (.int .i64 x.aT),.v (.int .i64 x.bB),.v (.int .i64 x.c4),.v (.int .i64 x.cN),y4]/\OS aD.o 5 x.aM y4:=by
 cases x
 simp only[aD.o,aD.bDD,OS]
 rfl
mutual
theorem aD.aRX:∀ {x:aD} {e:List OV},x.o e->e.map OV.qG=x.c
 | .mk aT bB c4 cN aM,e,h=>by
  rw[aD.uK]at h
  obtain⟨y,rfl,h⟩:=h
  have hk:y.qG=.sl 5 (aM.map aD.c) false:=by
   rcases h with⟨rfl,h0⟩|⟨n,es,rfl,h⟩
   ·have h1:aM=[]:=h0
    subst h1;rfl
   ·simp only[OV.qG]
    rw[aD.a4C h]
    rfl
  rw[aD.aZ]
  simp only[p5,v7,OV.qG,hk]
  rfl
theorem aD.a4C:∀ {l:List aD} {es:List (List OV)},OR aD.o l es->OV.lF es=l.map aD.c
 | [],[],_=>rfl
 |x::l,e::es,h=>by rw[OV.lF,aD.a4C h.2,OV.xY,aD.aRX h.1];rfl
 | [],_::_,h=>h.elim
 | _::_,[],h=>h.elim
end
def aX.o (x:aX) (e:List OV):Prop:=∃ y2,e=[.v (.str x.kQ),.v (.int .i64 x.aW),y2]/\OS aD.o 5 x.aS y2
theorem aX.aRX {x:aX} {e:List OV} (h:x.o e):e.map OV.qG=x.c:=by
 obtain⟨y2,rfl,o2⟩:=h
 have d2:=OS.qG (c:=aD.c) (λ_ _ q=>aD.aRX q) o2
 rw[aX.aZ]
 simp only[p5,v7,OV.qG,d2]
theorem aUH (l:List Int) (hl:l.length<=1048576):FnN Tryz.prog 128 [gF 1 (λn=>[I n]) l] (QS (OS (oP I) 1 l)):=by
 refine aBE 6 aBD a0S cF Tryz.func128 λh=>?_
 simp -dsimp -implicitDefEqProofs only[go_sem,↓reduceIte,Tryz.f128]
 repeat'(with_reducible first|intro _|refine And.intro ?_ ?_)
 all_goals try(first|exact aXP lB|exact aXQ lB|exact vE lB|omega)
theorem bDE (n:Int):n.tmod 1000003=n%1000003∨n.tmod 1000003=n%1000003-1000003:=by
 by_cases h:0<=n
 ·exact .inl (wL h)
 ·have h1:n.tmod 1000003=-((-n)%1000003):=by
   have h2:n=-(-n):=by omega
   rw[h2,Int.neg_tmod,wL aA,Int.neg_neg]
  rw[h1];omega
theorem hU (n:Int):fE Tryz.prog 181 [I n] (I (n%1000003)):=by
 refine fU 7 aBD cU cF Tryz.func181 λh=>?_
 simp -dsimp -implicitDefEqProofs only[go_sem,↓reduceIte,Tryz.f181]
 rcases bDE n with h|h
 all_goals
  rw[h,IntWalk.i64_in _ aA,wL aA]
  omega
theorem cV (n:Int):fE Tryz.prog 122 [I n] (I (n%1000003)):=by
 refine fU 11 bC0 cU cF Tryz.func122 λh=>?_
 simp -dsimp -implicitDefEqProofs only[go_sem,↓reduceIte,Tryz.f122]
 rcases bDE n with h|h
 all_goals
  rw[h]
  refine⟨λq=>?_,λq=>?_⟩
  all_goals first|omega|(rw[IntWalk.i64_in _ aA];omega)
theorem aOC (a b:Int):fE Tryz.prog 180 [I a,I b] (I ((a+b)%1000003)):=by
 refine fU 11 zX cU cF Tryz.func180 λh=>?_
 simp -dsimp -implicitDefEqProofs only[go_sem,↓reduceIte,Tryz.f180]
 first|refine aH.mk (hU a) ?_|refine aF.mk (hU a) ?_|refine aH.bI (hU a) ?_|refine aF.mk (bC.dI (hU a)) ?_
 simp -dsimp -implicitDefEqProofs only[go_sem,↓reduceIte,Tryz.f180]
 first|refine aH.mk (hU b) ?_|refine aF.mk (hU b) ?_|refine aH.bI (hU b) ?_|refine aF.mk (bC.dI (hU b)) ?_
 simp -dsimp -implicitDefEqProofs only[go_sem,↓reduceIte,Tryz.f180]
 rw[IntWalk.i64_in _ aA,wL aA]
 omega
theorem gY (a b:Int):fE Tryz.prog 105 [I a,I b] (I ((a+b)%1000003)):=by
 refine fU 11 zX cU cF Tryz.func105 λh=>?_
 simp -dsimp -implicitDefEqProofs only[go_sem,↓reduceIte,Tryz.f105]
 first|refine aH.mk (cV a) ?_|refine aF.mk (cV a) ?_|refine aH.bI (cV a) ?_|refine aF.mk (bC.dI (cV a)) ?_
 simp -dsimp -implicitDefEqProofs only[go_sem,↓reduceIte,Tryz.f105]
 first|refine aH.mk (cV b) ?_|refine aF.mk (cV b) ?_|refine aH.bI (cV b) ?_|refine aF.mk (bC.dI (cV b)) ?_
 simp -dsimp -implicitDefEqProofs only[go_sem,↓reduceIte,Tryz.f105]
 rw[IntWalk.i64_in _ aA,wL aA]
 omega
def jJ (a b:List Int):List Int:=List.zipWith (λx y=>(x+y)%1000003) a b
theorem aRY {a b:List Int} (h:b.length=a.length):(jJ a b).length=a.length:=by simp[jJ,h]
@[go_sem] def bMK:Marks:=λid=>match id with|5=>([13],(.op 0 (.op 1 (.op 2 (.op 3 (.op 4 (.op 5 (.op 6 (.op 7 (.op 8 (.op 9 (.op 10 (.op 11 (.op 12 (.op 13 .nil)))))))))))))),[])|_=>([],.nil,[])
theorem added (a b:List Int) (hab:b.length=a.length) (hl:a.length<=1048576) (ha:∀ x∈a,0<=x/\x<1000003) (hb:∀ x∈b,0<=x/\x<1000003):FnN Tryz.prog 60 [gF 1 (λn=>[I n]) a,gF 1 (λn=>[I n]) b] (QS (OS (oP I) 1 (jJ a b))):=by
 refine aBE 30 aXN cU bMK Tryz.func60 λh=>?_
 simp -dsimp -implicitDefEqProofs only[go_sem,↓reduceIte,Tryz.f60]
 intro _
 refine⟨bD,bX _,by omega,by omega,λn hn _=>?_⟩
 have hc:=aRY hab
 rw[vF]
 refine aFA aXN cU bMK (λk:Nat=>[(0,gF 1 (λn=>[I n]) a),(1,gF 1 (λn=>[I n]) b),(5,.os n 1 0 a.length),(11,I a.length),(12,I k)]) n (λk=>.row 1 (((upL (jJ a b) k).map λn=>[I n]).map (List.map .v))) (λk=>k<=a.length) (λk=>a.length-k) 0 ⟨by simp[cR,b6],by rw[aI,aDM,hc],eF _⟩ ?_
 intro k hk
 rcases bT k a.length with hlt|hge
 ·have ea:a[k]?=some a[k]:=eY hlt
  have eb:b[k]?=some b[k]:=eY aA
  have eu:=aG4 (c:=jJ a b) (k:=k) aA
  have el:=aG3 (jJ a b) (k:=k) aA
  simp -dsimp -implicitDefEqProofs only[go_sem,↓reduceIte,Tryz.f60,aO,hlt,ea,eb,eu,el,hc]
  have h1:=ha _ (kM hlt)
  have h2:=hb b[k] (kM aA)
  refine⟨by omega,k+1,by rw[IntWalk.i64_in _ aA];rfl,?_,by omega,by omega⟩
  have hv:(jJ a b)[k]'aA=(a[k]+b[k])%1000003:=by simp[jJ]
  rw[IntWalk.i64_in _ aA,wL aA,←aG5 aA,hv,←qM I]
  exact aB.le_refl _
 ·have hk':k=a.length:=by omega
  subst hk'
  simp -dsimp -implicitDefEqProofs only[go_sem,↓reduceIte,Tryz.f60,aO,bU]
  have hu:upL (jJ a b) a.length=jJ a b:=by rw[←hc];exact aG2 _
  rw[hu,show a.length=(jJ a b).length from hc.symm]
  exact vE hn
end Go.Hl

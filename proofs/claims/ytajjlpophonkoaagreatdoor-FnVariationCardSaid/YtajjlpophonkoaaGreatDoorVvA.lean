/-
  Contracts of functions and laws of the layer over the walk.
-/
import Derived.Test.YtajjlpophonkoaaGreatDoorProg
import Derived.Shelf.Strconv.Itoa4
import Derived.Shelf.Strings.OnBuilder
import Derived.Shelf.LaysM
import Derived.KernelRfl
import Derived.Test.YtajjlpophonkoaaGreatDoorHlD
import Derived.Lib.ItoaNum
namespace Go.Hl
open Go.Proofs
set_option linter.unusedVariables false
set_option linter.unusedSimpArgs false
end Go.Hl
namespace Go.Proofs
open Go.Shelf
def Tryz.aU1:Go.Shelf.Ren:=⟨fun|173=>130|246=>172|283=>194|284=>195|285=>196|286=>197|129=>211|317=>210|318=>212|319=>213|320=>214|337=>223|338=>224|n=>n,fun|2=>2|3=>3|9=>9|4=>4|171=>223|0=>0|53=>141|37=>22|5=>5|173=>226|212=>236|51=>237|20=>20|213=>238|46=>197|232=>256|233=>257|n=>n,fun|17=>0|18=>4|19=>5|n=>n⟩
theorem Tryz.bCY:Go.Proofs.LaysM.n173 Tryz.prog Tryz.aU1:={
 mixed:=by kernel_rfl
 f129:=Tryz.func211.trans (congrArg some (by kernel_rfl))
 f173:=Tryz.func130.trans (congrArg some (by kernel_rfl))
 f246:=Tryz.func172.trans (congrArg some (by kernel_rfl))
 f283:=Tryz.func194.trans (congrArg some (by kernel_rfl))
 f284:=Tryz.func195.trans (congrArg some (by kernel_rfl))
 f285:=Tryz.func196.trans (congrArg some (by kernel_rfl))
 f286:=Tryz.func197.trans (congrArg some (by kernel_rfl))
 f317:=Tryz.func210.trans (congrArg some (by kernel_rfl))
 f318:=Tryz.func212.trans (congrArg some (by kernel_rfl))
 f319:=Tryz.func213.trans (congrArg some (by kernel_rfl))
 f320:=Tryz.func214.trans (congrArg some (by kernel_rfl))
 f337:=Tryz.func223.trans (congrArg some (by kernel_rfl))
 f338:=Tryz.func224.trans (congrArg some (by kernel_rfl))
 t0:=Tryz.underlying0
 a0:=Tryz.isAgg0
 z0:=Tryz.sizeOf0
 v0:=Tryz.zeroValue0
 t2:=Tryz.underlying2
 a2:=Tryz.isAgg2
 z2:=Tryz.sizeOf2
 v2:=Tryz.zeroValue2
 t3:=Tryz.underlying3
 a3:=Tryz.isAgg3
 z3:=Tryz.sizeOf3
 v3:=Tryz.zeroValue3
 t4:=Tryz.underlying4
 a4:=Tryz.isAgg4
 z4:=Tryz.sizeOf4
 v4:=Tryz.zeroValue4
 t5:=Tryz.underlying5
 a5:=Tryz.isAgg5
 z5:=Tryz.sizeOf5
 v5:=Tryz.zeroValue5
 t9:=Tryz.underlying9
 a9:=Tryz.isAgg9
 z9:=Tryz.sizeOf9
 v9:=Tryz.zeroValue9
 t20:=Tryz.underlying20
 a20:=Tryz.isAgg20
 z20:=Tryz.sizeOf20
 v20:=Tryz.zeroValue20
 t37:=Tryz.underlying22
 a37:=Tryz.isAgg22
 z37:=Tryz.sizeOf22
 v37:=Tryz.zeroValue22
 t46:=Tryz.underlying197
 a46:=Tryz.isAgg197
 z46:=Tryz.sizeOf197
 v46:=Tryz.zeroValue197
 t51:=Tryz.underlying237
 a51:=Tryz.isAgg237
 z51:=Tryz.sizeOf237
 v51:=Tryz.zeroValue237
 t53:=Tryz.underlying141
 a53:=Tryz.isAgg141
 z53:=Tryz.sizeOf141
 v53:=Tryz.zeroValue141
 t171:=Tryz.underlying223
 a171:=Tryz.isAgg223
 z171:=Tryz.sizeOf223
 v171:=Tryz.zeroValue223
 t173:=Tryz.underlying226
 a173:=Tryz.isAgg226
 z173:=Tryz.sizeOf226
 v173:=Tryz.zeroValue226
 t212:=Tryz.underlying236
 a212:=Tryz.isAgg236
 z212:=Tryz.sizeOf236
 v212:=Tryz.zeroValue236
 t213:=Tryz.underlying238
 a213:=Tryz.isAgg238
 z213:=Tryz.sizeOf238
 t232:=Tryz.underlying256
 a232:=Tryz.isAgg256
 z232:=Tryz.sizeOf256
 v232:=Tryz.zeroValue256
 t233:=Tryz.underlying257
 a233:=Tryz.isAgg257
 z233:=Tryz.sizeOf257
 v233:=Tryz.zeroValue257
 g17:=by kernel_rfl
 g18:=by kernel_rfl
 g19:=by kernel_rfl
 i0:=by kernel_rfl
 i2:=by kernel_rfl
 i3:=by kernel_rfl
 i4:=by kernel_rfl
 i5:=by kernel_rfl
 i9:=by kernel_rfl
 i20:=by kernel_rfl
 i37:=by kernel_rfl
 i46:=by kernel_rfl
 i51:=by kernel_rfl
 i53:=by kernel_rfl
 i171:=by kernel_rfl
 i173:=by kernel_rfl
 i212:=by kernel_rfl
 i232:=by kernel_rfl
 i233:=by kernel_rfl
 m17:=by kernel_rfl
 m18:=by kernel_rfl
 m19:=by kernel_rfl }
open Go.RowKit Go.Sort Go.Lib in
theorem Tryz.strconv_FormatInt_10 (n:Int) (h0:-9223372036854775808<=n) (h1:n<=9223372036854775807) (w:World) (htab:Lib.TabIs Tryz.prog w "internal/strconv.uint64pow10" .u64 Lib.pow10Tab) :
  Calls Tryz.prog 130 #[.int .i64 n,.int .i64 10] w λe w'=>e=.returned (.string ⟨(Lib.itoa n).toArray⟩)/\∃ k os,w'=grow (w.drewN k) os:=Any.strconv_FormatInt_10 Tryz.bCY n h0 h1 w htab
end Go.Proofs
namespace Go.Hl
open Go.Proofs
set_option linter.unusedVariables false
set_option linter.unusedSimpArgs false
@[go_sem] theorem ty2:jH Tryz.prog 2=some ⟨1,false,8,[.int .i64 0],.int .i64⟩:=by kernel_rfl
@[go_sem] theorem ty3:jH Tryz.prog 3=some ⟨1,false,8,[.int .i64 0],.int .i64⟩:=by kernel_rfl
@[go_sem] theorem ty4:jH Tryz.prog 4=some ⟨1,false,1,[.bool false],.bool⟩:=by kernel_rfl
@[go_sem] theorem ty5:jH Tryz.prog 5=some ⟨1,false,1,[.int .u8 0],.int .u8⟩:=by kernel_rfl
@[go_sem] theorem ty9:jH Tryz.prog 9=some ⟨1,false,16,[.str []],.str⟩:=by kernel_rfl
@[go_sem] theorem cDN:jH Tryz.prog 21=some ⟨1,false,4,[.int .i32 0],.int .i32⟩:=by kernel_rfl
@[go_sem] theorem cDO:jH Tryz.prog 22=some ⟨1,false,24,[.bD],.slice 5⟩:=by kernel_rfl
@[go_sem] theorem cDP:jH Tryz.prog 24=some ⟨1,false,24,[.bD],.slice 69⟩:=by kernel_rfl
@[go_sem] theorem cDQ:jH Tryz.prog 26=some ⟨1,true,24,[.bD],.st [(0,24,1)]⟩:=by kernel_rfl
@[go_sem] theorem cDR:jH Tryz.prog 27=some ⟨1,false,24,[.bD],.slice 2⟩:=by kernel_rfl
@[go_sem] theorem cDS:jH Tryz.prog 31=some ⟨1,false,24,[.bD],.slice 27⟩:=by kernel_rfl
@[go_sem] theorem cDT:jH Tryz.prog 47=some ⟨1,false,24,[.bD],.slice 111⟩:=by kernel_rfl
@[go_sem] theorem cDU:jH Tryz.prog 48=some ⟨1,false,24,[.bD],.slice 115⟩:=by kernel_rfl
@[go_sem] theorem cDV:jH Tryz.prog 50=some ⟨4,true,80,[.int .i64 0,.bD,.bD,.bD],.st [(0,2,1),(1,47,1),(2,48,1),(3,27,1)]⟩:=by kernel_rfl
@[go_sem] theorem cDW:jH Tryz.prog 62=some ⟨1,false,8,[.kT],.ptr 143⟩:=by kernel_rfl
@[go_sem] theorem cDX:jH Tryz.prog 67=some ⟨1,false,24,[.bD],.slice 75⟩:=by kernel_rfl
@[go_sem] theorem cDY:jH Tryz.prog 69=some ⟨3,true,48,[.str [],.int .i64 0,.bD],.st [(0,9,1),(1,2,1),(2,67,1)]⟩:=by kernel_rfl
@[go_sem] theorem cDZ:jH Tryz.prog 71=some ⟨1,false,8,[.kT],.ptr 26⟩:=by kernel_rfl
@[go_sem] theorem cD0:jH Tryz.prog 73=some ⟨4,true,32,[.kT,.kT,.int .i64 0,.bool false],.st [(0,62,1),(1,71,1),(2,2,1),(3,4,1)]⟩:=by kernel_rfl
@[go_sem] theorem cD1:jH Tryz.prog 75=some ⟨5,true,56,[.int .i64 0,.int .i64 0,.int .i64 0,.int .i64 0,.bD],.st [(0,2,1),(1,2,1),(2,2,1),(3,2,1),(4,67,1)]⟩:=by kernel_rfl
@[go_sem] theorem cD2:jH Tryz.prog 82=some ⟨1,false,24,[.bD],.slice 31⟩:=by kernel_rfl
@[go_sem] theorem cD3:jH Tryz.prog 90=some ⟨1,true,24,[.bD],.st [(0,26,1)]⟩:=by kernel_rfl
@[go_sem] theorem cBU:jH Tryz.prog 108=some ⟨8,true,144,[.bD,.int .i64 0,.bD,.bD,.bD,.bD,.int .i64 0,.int .i64 0],.st [(0,26,1),(1,50,4),(5,27,1),(6,2,1),(7,2,1)]⟩:=by kernel_rfl
@[go_sem] theorem cBV:jH Tryz.prog 111=some ⟨4,true,32,[.int .i64 0,.int .i64 0,.int .i64 0,.int .i64 0],.st [(0,2,1),(1,2,1),(2,2,1),(3,2,1)]⟩:=by kernel_rfl
@[go_sem] theorem cBW:jH Tryz.prog 115=some ⟨2,true,16,[.int .i64 0,.bool false],.st [(0,2,1),(1,4,1)]⟩:=by kernel_rfl
@[go_sem] theorem cBX:jH Tryz.prog 120=some ⟨1,false,8,[.kT],.ptr 122⟩:=by kernel_rfl
@[go_sem] theorem cBY:jH Tryz.prog 122=some ⟨2,true,32,[.kT,.bD],.st [(0,120,1),(1,22,1)]⟩:=by kernel_rfl
@[go_sem] theorem cBZ:jH Tryz.prog 124=some ⟨1,false,16,[.nK],.other⟩:=by kernel_rfl
@[go_sem] theorem cB0:jH Tryz.prog 127=some ⟨1,false,24,[.bD],.slice 9⟩:=by kernel_rfl
@[go_sem] theorem cB1:jH Tryz.prog 135=some ⟨6,true,88,[.int .i64 0,.bD,.bD,.bD,.bool false,.bool false],.st [(0,50,4),(4,4,1),(5,4,1)]⟩:=by kernel_rfl
@[go_sem] theorem cB2:jH Tryz.prog 141=some ⟨1,false,8,[.int .u64 0],.int .u64⟩:=by kernel_rfl
@[go_sem] theorem cB3:jH Tryz.prog 143=some ⟨3,true,40,[.bD,.int .i64 0,.int .u64 0],.st [(0,22,1),(1,3,1),(2,141,1)]⟩:=by kernel_rfl
@[go_sem] theorem cB4:jH Tryz.prog 162=some ⟨3,true,56,[.int .i64 0,.bD,.bD],.st [(0,2,1),(1,27,1),(2,27,1)]⟩:=by kernel_rfl
@[go_sem] theorem cB5:jH Tryz.prog 171=some ⟨3,true,56,[.bD,.bD,.int .i64 0],.st [(0,27,1),(1,27,1),(2,2,1)]⟩:=by kernel_rfl
@[go_sem] theorem cB6:jH Tryz.prog 178=some ⟨4,true,32,[.kT,.int .i64 0,.int .i64 0,.int .i64 0],.st [(0,71,1),(1,3,1),(2,2,1),(3,2,1)]⟩:=by kernel_rfl
@[go_sem] theorem cB7:jH Tryz.prog 185=some ⟨1,false,8,[.kT],.ptr 5⟩:=by kernel_rfl
@[go_sem] theorem cB8:jH Tryz.prog 195=some ⟨4,true,48,[.bD,.int .i64 0,.int .i64 0,.int .i64 0],.st [(0,26,1),(1,3,1),(2,2,1),(3,2,1)]⟩:=by kernel_rfl
@[go_sem] theorem cB9:jH Tryz.prog 197=some ⟨1,false,8,[.int .u64 0],.int .u64⟩:=by kernel_rfl
@[go_sem] theorem cCA:jH Tryz.prog 203=some ⟨2,true,32,[.bD,.int .i64 0],.st [(0,26,1),(1,2,1)]⟩:=by kernel_rfl
@[go_sem] theorem cCB:jH Tryz.prog 223=some ⟨24,true,24,List.replicate 24 (.int .u8 0),.arr 24 5⟩:=by kernel_rfl
@[go_sem] theorem cCC:jH Tryz.prog 236=some ⟨20,true,160,List.replicate 20 (.int .u64 0),.arr 20 141⟩:=by kernel_rfl
@[go_sem] theorem cCD:jH Tryz.prog 237=some ⟨1,false,4,[.int .u32 0],.int .u32⟩:=by kernel_rfl
@[go_sem] theorem cCE:jH Tryz.prog 238=some ⟨65,true,65,List.replicate 65 (.int .u8 0),.arr 65 5⟩:=by kernel_rfl
@[go_sem] theorem cCF:jH Tryz.prog 244=some ⟨256,true,256,List.replicate 256 (.int .u8 0),.arr 256 5⟩:=by kernel_rfl
@[go_sem] theorem cCG:jH Tryz.prog 246=some ⟨2,true,2,[.int .u8 0,.int .u8 0],.st [(0,5,1),(1,5,1)]⟩:=by kernel_rfl
@[go_sem] theorem cCH:jH Tryz.prog 247=some ⟨32,true,32,List.replicate 32 (.int .u8 0),.arr 16 246⟩:=by kernel_rfl
@[go_sem] theorem cCI:jH Tryz.prog 256=some ⟨32,true,32,List.replicate 32 (.int .u8 0),.arr 32 5⟩:=by kernel_rfl
@[go_sem] theorem cCJ:jH Tryz.prog 257=some ⟨64,true,64,List.replicate 64 (.int .u8 0),.arr 64 5⟩:=by kernel_rfl
@[go_sem] theorem cCK:jH Tryz.prog 261=some ⟨3,true,48,[.str [],.str [],.nK],.st [(0,9,1),(1,9,1),(2,124,1)]⟩:=by kernel_rfl
@[go_sem] theorem cCL:jH Tryz.prog 265=some ⟨1,true,16,[.str []],.st [(0,9,1)]⟩:=by kernel_rfl
@[go_sem] def cK:Marks:=λ_=>([],.nil,[])
@[go_sem] def dC:List Nat:=[]
@[go_sem] def aD2:List Nat:=[0,2]
@[go_sem] def aE0:List Nat:=[0,1,4]
@[go_sem] def bK6:List Nat:=[2]
@[go_sem] def a0C:List Nat:=[3]
@[go_sem] def aSV:List Nat:=[0,1,4,5,6,11]
@[go_sem] def a3A:List Nat:=[1]
@[go_sem] def b0O:List Nat:=[0,1,2,6]
@[go_sem] def bK7:List Nat:=[0,1,4,5,7,8,9,16]
@[go_sem] def a7P:List Nat:=[0,1,2,3,5,7,8,9,10]
@[go_sem] def a7Q:List Nat:=[0,2,3,4,11]
@[go_sem] def aM4:List Nat:=[3,4]
@[go_sem] def bP9:List Nat:=[0,2,4]
@[go_sem] def bQA:List Nat:=[0,1,4,5,10,14,25]
@[go_sem] def bQB:Marks:=λid=>match id with|6=>([],(.op 0 (.op 1 (.op 2 (.op 3 (.op 4 (.op 5 (.op 6 (.op 7 (.op 8 .nil))))))))),[])|_=>([],.nil,[])
@[go_sem] def bQC:List Nat:=[0,1,2,3]
@[go_sem] def a7R:List Nat:=[0,1,4,5,6,11,12,13]
@[go_sem] def bQD:List Nat:=[0,1,4,5]
@[go_sem] def a7S:List Nat:=[0,1,2,6,7,9,11,12,13,14]
@[go_sem] def a7T:List Nat:=[10,22]
@[go_sem] def a7U:List Nat:=[7,21]
@[go_sem] def a7V:Marks:=λid=>match id with|5=>([11],(.op 0 (.op 1 (.op 2 (.op 3 (.op 4 (.op 5 (.op 6 (.op 7 (.op 8 (.op 9 (.op 10 (.op 11 (.op 12 .nil))))))))))))),[])|_=>([],.nil,[])
@[go_sem] def bQE:List Nat:=[0,2,3,5,7,8,9,10]
@[go_sem] def bQF:List Nat:=[0,1,2,3,5]
@[go_sem] def bQG:Marks:=λid=>match id with|1=>([8],(.op 0 (.op 1 (.op 2 (.op 3 (.op 4 (.op 5 (.op 6 (.op 7 (.op 8 .nil))))))))),[])|_=>([],.nil,[])
@[go_sem] def bQH:List Nat:=[0,1,2]
@[go_sem] def aP8:List Nat:=[4]
theorem mix:Tryz.prog.follows .mixedOrders=true:=by kernel_rfl
abbrev I (n:Int):aH:=.int .i64 n
abbrev ints (l:List Int):aH:=.sl 1 (l.map λn=>[I n]) false
abbrev fN {α:Type} (sz:Nat) (c:α->List aH) (l:List α):aH:=.sl sz (l.map c) false
def InI (n:Int):Prop:=-9223372036854775808<=n/\n<=9223372036854775807
def InB (n:Int):Prop:=0<=n/\n<=255
def lft (left:Int) (n:Nat):Int:=if left-n<0 then -1 else left-n
theorem aTV (left:Int) (n:Nat):(lft left n=-1/\left-n<0)∨(lft left n=left-n/\0<=left-n):=by
 unfold lft;split
 ·exact .inl ⟨rfl,by assumption⟩
 ·exact .inr ⟨rfl,by omega⟩
theorem bK8 {left:Int} {n:Nat} (h:left-n<0):lft left n=-1:=if_pos h
theorem nS {α:Type} (s:α->Nat) (l:List α) (k:Nat) (h:k<l.length):((l.take (k+1)).map s).sum=((l.take k).map s).sum+s l[k]:=by
 rw[jU h,kS,List.sum_append];simp only[nZ,sX,aOV,List.sum_nil,aNG]
theorem zR {α:Type} (s:α->Nat):∀ (l:List α) (k:Nat),((l.take k).map s).sum<=(l.map s).sum
 | [],k=>by simp
 |a::l,0=>by simp
 |a::l,k+1=>by have:=zR s l k;simp only[bDD,nZ,aOV];omega
theorem vN {α:Type} (s:α->Nat) {l:List α} {x:α} (h:x∈l):s x<=(l.map s).sum:=by
 induction l with
 |nil=>simp at h
 |cons a l ih =>
  simp only[nZ,aOV]
  rcases pY.1 h with rfl|h
  ·omega
  ·have:=ih h;omega
theorem aG (h:aE) (n m:Nat) (o:bE):aR h n o m=if m=n then some o else h m:=rfl
theorem kJ (l:List (List aH)):fO (l.map (List.map .v))=l:=by
 induction l with
 |nil=>rfl
 |cons e l ih =>
  have:aLQ (e.map Cell.v)=e:=by
   induction e with
   |nil=>rfl
   |cons x e ih=>simp only[nZ,aLQ,Cell.val,ih]
  simp only[fO,nZ]at ih ⊢
  rw[ih,this]
theorem aBD {h h':aE} {n sz:Nat} (es:List (List aH)) (h0:h n=none) (hl:(aR h n (.row sz (es.map (List.map .v)))).le h') (len:Nat) (e:len=es.length):Shift (.os n sz 0 len) h' (.sl sz es false) h:=by
 subst e
 refine(Shift.of (Sub.refl _) hl).trans ((Shift.eM (aM _ _ _) (by simp[gA])).trans ?_)
 have:aH.eM n (fO (es.map (List.map .v))) (.os n sz 0 es.length)=.sl sz es false:=by simp[aH.eM,kJ]
 rw[this]
 exact bG ((bP h0).2 ((bP h0).2 (aE.le_refl h)))
theorem a6E {α β:Type} {f:α->β} {l:List α} {k:Nat} (h:k<l.length):(l.map f)[k]?=some (f l[k]):=by
 rw[nE,cM h];rfl
theorem yL {α:Type} {P:α->Prop} {l:List α} {k:Nat} (h:k<l.length) (hp:∀ x∈l.take k,P x) (he:P l[k]):∀ x∈l.take (k+1),P x:=by
 rw[jU h]
 intro x hx
 rcases pJ.1 hx with hx|hx
 ·exact hp x hx
 ·rw[jF.1 hx];exact he
def idxOf {α:Type} (p:α->Bool) (l:List α):Int:=match l.findIdx? p with|some i=>i|none=>-1
theorem aCM {α:Type} {p:α->Bool} {l:List α} (h:∀ x∈l,p x=false):idxOf p l=-1:=by
 have:l.findIdx? p=none:=List.findIdx?_eq_none_iff.2 h
 simp only[idxOf,this]
theorem aCN {α:Type} {p:α->Bool} {l:List α} {k:Nat} (hk:k<l.length) (h:∀ x∈l.take k,p x=false) (he:p l[k]=true):idxOf p l=k:=by
 have:l.findIdx? p=some k:=by
  rw[bO7]
  refine⟨hk,he,λj hj=>?_⟩
  have:=h l[j] (List.mem_take_iff_getElem.2 ⟨j,by omega,rfl⟩)
  simp[this]
 simp only[idxOf,this]
theorem xL {α:Type} {p:α->Bool} {l:List α}:decide (0<=idxOf p l)=l.any p:=by
 unfold idxOf
 cases h:l.findIdx? p with
 |none =>
  have:=List.findIdx?_eq_none_iff.1 h
  simp only
  rw[Bool.eq_false_iff.2 (show l.any p≠true from ?_)]
  ·simp
  ·intro hx
   obtain⟨x,hx,hp⟩:=aOU.1 hx
   rw[this x hx]at hp;cases hp
 |some i =>
  obtain⟨hi,hp,_⟩:=bO7.1 h
  have:l.any p=true:=aOU.2 ⟨_,eI hi,hp⟩
  rw[this];simp
def oU (n:Int):Prop:=0<=n/\n<=1000002
instance (n:Int):Decidable (oU n):=inferInstanceAs (Decidable (0<=n/\n<=1000002))
def dW (l:List Int):Prop:=∀ x∈l,oU x
instance (l:List Int):Decidable (dW l):=inferInstanceAs (Decidable (∀ x∈l,oU x))
theorem bK9 {α:Type} {P:α->Prop} [DecidablePred P] {l:List α} [Decidable (∀ x∈l,P x)]:(!l.any λx=>!decide (P x))=decide (∀ x∈l,P x):=by
 rw[Bool.eq_iff_iff]
 simp[List.any_eq_false]
inductive aB where
 |mk (aP:Int) (aW:Int) (bR:Int) (bI:Int) (aL:(List aB))
def aB.aP:aB->Int
 | .mk aP aW bR bI aL=>aP
def aB.aW:aB->Int
 | .mk aP aW bR bI aL=>aW
def aB.bR:aB->Int
 | .mk aP aW bR bI aL=>bR
def aB.bI:aB->Int
 | .mk aP aW bR bI aL=>bI
def aB.aL:aB->(List aB)
 | .mk aP aW bR bI aL=>aL
mutual
def aB.c:aB->List aH
 | .mk aP aW bR bI aL=>[(.int .i64 aP),(.int .i64 aW),(.int .i64 bR),(.int .i64 bI),.sl 5 (aB.cL aL) false]
def aB.cL:List aB->List (List aH)
 | []=>[]
 |x::l=>x.c::aB.cL l
end
mutual
def aB.s:aB->Nat
 | .mk aP aW bR bI aL=>(aL.length+aB.sL aL)
def aB.sL:List aB->Nat
 | []=>0
 |x::l=>x.s+aB.sL l
end
theorem aB.bE4:∀ l,aB.cL l=l.map aB.c
 | []=>rfl
 |x::l=>by simp only[aB.cL,nZ,aB.bE4 l]
theorem aB.a3B:∀ l,aB.sL l=(l.map aB.s).sum
 | []=>rfl
 |x::l=>by simp only[aB.sL,nZ,aOV,aB.a3B l]
theorem aB.aS (x:aB):x.c=[(.int .i64 x.aP),(.int .i64 x.aW),(.int .i64 x.bR),(.int .i64 x.bI),(fN 5 aB.c x.aL)]:=by cases x;simp only[aB.c,aB.bE4,fN];rfl
theorem aB.u9 (x:aB):x.s=(uW aB.s x.aL):=by cases x;simp only[aB.s,aB.a3B,uW];rfl
theorem aB.wQ {x y:aB} (h:y∈x.aL):SizeOf.sizeOf y<SizeOf.sizeOf x:=by
 cases x
 have:=List.sizeOf_lt_of_mem h
 simp only[aB.aL]at this
 simp only[aB.mk.sizeOf_spec];omega
@[simp] theorem aB.a7W (x:aB):x.c.length=5:=by rw[aB.aS];rfl
inductive aB.wf:aB->Prop
 |mk (x:aB) (h0:InI x.aP) (h1:InI x.aW) (h2:InI x.bR) (h3:InI x.bI) (hk:∀ y∈x.aL,y.wf):x.wf
noncomputable instance:DecidableEq aB:=λa b=>Classical.propDecidable (a=b)
structure aU where
 e8:(List UInt8)
 aT:Int
 aN:(List aB)
def aU.c (x:aU):List aH:=[(.str x.e8),(.int .i64 x.aT),(fN 5 aB.c x.aN)]
def aU.s (x:aU):Nat:=x.e8.length+(uW aB.s x.aN)
theorem aU.aS (x:aU):x.c=[(.str x.e8),(.int .i64 x.aT),(fN 5 aB.c x.aN)]:=rfl
theorem aU.u9 (x:aU):x.s=x.e8.length+(uW aB.s x.aN):=rfl
@[simp] theorem aU.a7W (x:aU):x.c.length=3:=by rw[aU.aS];rfl
def aU.wf (x:aU):Prop:=InI x.aT/\(∀ y∈x.aN,y.wf)
noncomputable instance:DecidableEq aU:=λa b=>Classical.propDecidable (a=b)
structure aC where
 aD:(List aU)
def aC.c (x:aC):List aH:=[(fN 3 aU.c x.aD)]
def aC.s (x:aC):Nat:=(uW aU.s x.aD)
theorem aC.aS (x:aC):x.c=[(fN 3 aU.c x.aD)]:=rfl
theorem aC.u9 (x:aC):x.s=(uW aU.s x.aD):=rfl
@[simp] theorem aC.a7W (x:aC):x.c.length=1:=by rw[aC.aS];rfl
def aC.wf (x:aC):Prop:=(∀ y∈x.aD,y.wf)
noncomputable instance:DecidableEq aC:=λa b=>Classical.propDecidable (a=b)
mutual
def aB.o:aB->List OV->Prop
 | .mk aP aW bR bI aL,e=>∃ y,e=[.v (.int .i64 aP),.v (.int .i64 aW),.v (.int .i64 bR),.v (.int .i64 bI),y]/\((y=.nil 5/\aL=[])∨∃ n es,y=.sl n 5 es/\aB.oR aL es)
def aB.oR:List aB->List (List OV)->Prop
 | [],[]=>True
 |x::l,e::es=>x.o e/\aB.oR l es
 | _,_=>False
end
theorem aB.bQI:∀ (l:List aB) (es:List (List OV)),aB.oR l es=OR aB.o l es
 | [],[]=>rfl
 |x::l,e::es=>by rw[aB.oR,OR,aB.bQI l es]
 | [],_::_=>rfl
 | _::_,[]=>rfl
theorem aB.pM (x:aB) (e:List OV):x.o e↔∃ y4,e=[.v (.int .i64 x.aP),.v (.int .i64 x.aW),.v (.int .i64 x.bR),.v (.int .i64 x.bI),y4]/\OS aB.o 5 x.aL y4:=by
 cases x
 simp only[aB.o,aB.bQI,OS]
 rfl
mutual
theorem aB.aM5:∀ {x:aB} {e:List OV},x.o e->e.map OV.pU=x.c
 | .mk aP aW bR bI aL,e,h=>by
  rw[aB.pM]at h
  obtain⟨y,rfl,h⟩:=h
  have hk:y.pU=.sl 5 (aL.map aB.c) false:=by
   rcases h with⟨rfl,h0⟩|⟨n,es,rfl,h⟩
   ·have h1:aL=[]:=h0
    subst h1;rfl
   ·simp only[OV.pU]
    rw[aB.bE5 h]
    rfl
  rw[aB.aS]
  simp only[nZ,sX,OV.pU,hk]
  rfl
theorem aB.bE5:∀ {l:List aB} {es:List (List OV)},OR aB.o l es->OV.nM es=l.map aB.c
 | [],[],_=>rfl
 |x::l,e::es,h=>by rw[OV.nM,aB.bE5 h.2,OV.aCI,aB.aM5 h.1];rfl
 | [],_::_,h=>h.elim
 | _::_,[],h=>h.elim
end
def aU.o (x:aU) (e:List OV):Prop:=∃ y2,e=[.v (.str x.e8),.v (.int .i64 x.aT),y2]/\OS aB.o 5 x.aN y2
theorem aU.aM5 {x:aU} {e:List OV} (h:x.o e):e.map OV.pU=x.c:=by
 obtain⟨y2,rfl,o2⟩:=h
 have d2:=OS.pU (c:=aB.c) (λ_ _ q=>aB.aM5 q) o2
 rw[aU.aS]
 simp only[nZ,sX,OV.pU,d2]
def aC.o (x:aC) (e:List OV):Prop:=∃ y0,e=[y0]/\OS aU.o 3 x.aD y0
set_option maxRecDepth 100000
theorem gH (n a b:Int):fM Tryz.prog 92 [I n,I a,I b] (.bool (decide (a<=n/\n<=b))):=by
 refine gX 15 b0O dC cK Tryz.func92 λh=>?_
 simp -dsimp -implicitDefEqProofs only[go_sem,↓reduceIte,Tryz.f92]
 repeat'(with_reducible first|intro _|refine And.intro ?_ ?_)
 all_goals try(first|(simp[*];done)|omega|grind)
theorem within (n a b:Int):fM Tryz.prog 68 [I n,I a,I b] (.bool (decide (a<=n/\n<=b))):=by
 refine gX 15 b0O dC cK Tryz.func68 λh=>?_
 simp -dsimp -implicitDefEqProofs only[go_sem,↓reduceIte,Tryz.f68]
 repeat'(with_reducible first|intro _|refine And.intro ?_ ?_)
 all_goals try(first|(simp[*];done)|omega|grind)
theorem tK (n:Int):fM Tryz.prog 168 [I n] (.bool (decide (oU n))):=by
 refine gX 5 aD2 dC cK Tryz.func168 λh=>?_
 simp -dsimp -implicitDefEqProofs only[go_sem,↓reduceIte,Tryz.f168]
 first|refine aJ.mk (gH n 0 1000002) ?_|refine aF.mk (gH n 0 1000002) ?_|refine aJ.bA (gH n 0 1000002) ?_|refine aF.mk (aX.cU (gH n 0 1000002)) ?_
 simp -dsimp -implicitDefEqProofs only[go_sem,↓reduceIte,Tryz.f168]
 all_goals rfl
theorem vY (n:Int):fM Tryz.prog 124 [I n] (.bool (decide (oU n))):=by
 refine gX 5 aD2 dC cK Tryz.func124 λh=>?_
 simp -dsimp -implicitDefEqProofs only[go_sem,↓reduceIte,Tryz.f124]
 first|refine aJ.mk (within n 0 1000002) ?_|refine aF.mk (within n 0 1000002) ?_|refine aJ.bA (within n 0 1000002) ?_|refine aF.mk (aX.cU (within n 0 1000002)) ?_
 simp -dsimp -implicitDefEqProofs only[go_sem,↓reduceIte,Tryz.f124]
 all_goals rfl
@[go_sem] def a7X:List Nat:=[0,2,3,7,15]
theorem aCO (l:List Int):fM Tryz.prog 121 [fN 1 (λn=>[I n]) l] (.bool (decide (dW l))):=by
 refine gX 16 a7X dC cK Tryz.func121 λh=>?_
 simp -dsimp -implicitDefEqProofs only[go_sem,↓reduceIte,Tryz.f121]
 refine cZ a7X dC cK (λk:Nat=>[(0,fN 1 (λn=>[I n]) l),(3,I k)]) (λ_=>h) (λk=>k<=(l).length/\∀ x∈(l).take k,oU x) (λk=>(l).length-k) 0 aY7 ?_
 intro k ⟨hk,hp⟩
 rcases bZ k (l).length with hlt|hge
 ·have ea:(l)[k]?=some (l)[k]:=cM hlt
  simp -dsimp -implicitDefEqProofs only[go_sem,↓reduceIte,Tryz.f121,ea]
  repeat'(with_reducible first|intro _|refine And.intro ?_ ?_)
  all_goals try omega
  first|refine aJ.mk (tK l[k]) ?_|refine aF.mk (tK l[k]) ?_|refine aJ.bA (tK l[k]) ?_|refine aF.mk (aX.cU (tK l[k])) ?_
  simp -dsimp -implicitDefEqProofs only[go_sem,↓reduceIte,Tryz.f121]
  repeat'(with_reducible first|intro _|refine And.intro ?_ ?_)
  ·rename_i he
   exact(decide_eq_false λe=>he (e _ (eI hlt))).symm
  ·rename_i he
   refine⟨k+1,?_⟩
   repeat'(with_reducible refine And.intro ?_ ?_)
   all_goals try(rw[IntWalk.i64_in _ aA];first|rfl|omega)
   all_goals try omega
   all_goals try(repeat'(with_reducible first|exact aE.le_refl _|refine(bP lL).2 ?_))
   exact yL hlt hp he
 ·have hk':k=(l).length:=by omega
  subst hk'
  rw[mR]at hp
  simp -dsimp -implicitDefEqProofs only[go_sem,↓reduceIte,Tryz.f121,bX]
  intro _
  exact(decide_eq_true hp).symm
theorem a0D (a:List Int) (p:Int->Bool) (g:FuncId) (cap:List aH) {h0:aE} (hc:∀ x∈a,aX Tryz.prog g ([(.int .i64 x)]++cap) (.bool (p x)) h0):aX Tryz.prog 128 [(fN 1 (λn=>[I n]) a),.fn (.func g) [] cap] (I (idxOf p a)) h0:=by
 refine aTS 19 bK7 dC cK Tryz.func128 λh hle=>?_
 simp -dsimp -implicitDefEqProofs only[go_sem,↓reduceIte,Tryz.f128,Tryz.f128]
 intro _
 refine cZ bK7 dC cK (λk:Nat=>[(0,(fN 1 (λn=>[I n]) a)),(1,.fn (.func g) [] cap),(7,I a.length),(8,I k)]) (λ_=>h) (λk=>k<=a.length/\∀ x∈a.take k,p x=false) (λk=>a.length-k) 0 aY7 ?_
 intro k ⟨hk,hp⟩
 rcases bZ k a.length with hlt|hge
 ·have ea:a[k]?=some a[k]:=cM hlt
  simp -dsimp -implicitDefEqProofs only[go_sem,↓reduceIte,Tryz.f128,Tryz.f128,ea]
  repeat'(with_reducible first|intro _|refine And.intro ?_ ?_)
  all_goals try omega
  have hx:=hc a[k] (eI hlt)
  refine aJ.bA (hx.mono hle) ?_
  cases hpk:p a[k]with
  |true =>
   simp -dsimp -implicitDefEqProofs only[go_sem,↓reduceIte,Tryz.f128,Tryz.f128]
   repeat'(with_reducible first|intro _|refine And.intro ?_ ?_)
   all_goals first|exact(aCN hlt hp hpk).symm|rfl|(rw[aCN hlt hp hpk])
  |false =>
   simp -dsimp -implicitDefEqProofs only[go_sem,↓reduceIte,Tryz.f128,Tryz.f128]
   refine⟨k+1,?_⟩
   repeat'(with_reducible refine And.intro ?_ ?_)
   all_goals try(rw[IntWalk.i64_in _ aA];first|rfl|omega)
   all_goals try omega
   exact yL (P:=λx=>p x=false) hlt hp hpk
 ·have hk':k=a.length:=by omega
  subst hk'
  rw[mR]at hp
  simp -dsimp -implicitDefEqProofs only[go_sem,↓reduceIte,Tryz.f128,Tryz.f128,bX]
  all_goals first|exact(aCM hp).symm|rw[aCM hp]
theorem zS (a:List Int) (p:Int->Bool) (g:FuncId) (cap:List aH) {h0:aE} (hc:∀ x∈a,aX Tryz.prog g ([(.int .i64 x)]++cap) (.bool (p x)) h0):aX Tryz.prog 70 [(fN 1 (λn=>[I n]) a),.fn (.func g) [] cap] (.bool (a.any p)) h0:=by
 refine aTS 9 aE0 dC cK Tryz.func70 λh hle=>?_
 simp -dsimp -implicitDefEqProofs only[go_sem,↓reduceIte,Tryz.f70,Tryz.f70]
 refine aJ.bA ((a0D a p g cap hc).mono hle) ?_
 simp -dsimp -implicitDefEqProofs only[go_sem,↓reduceIte,Tryz.f70,Tryz.f70]
 all_goals first|done|exact xL|rw[xL]
theorem zT (n:Int):fM Tryz.prog 123 [I n] (.bool (!decide (oU n))):=by
 refine gX 6 aD2 dC cK Tryz.func123 λh=>?_
 simp -dsimp -implicitDefEqProofs only[go_sem,↓reduceIte,Tryz.f123]
 first|refine aJ.mk (vY n) ?_|refine aF.mk (vY n) ?_|refine aJ.bA (vY n) ?_|refine aF.mk (aX.cU (vY n)) ?_
 simp -dsimp -implicitDefEqProofs only[go_sem,↓reduceIte,Tryz.f123]
theorem aP9 (l:List Int) (c:Int):fM Tryz.prog 61 [fN 1 (λn=>[I n]) l,I c] (.bool (decide ((l.length:Int)=c/\dW l))):=by
 refine gX 14 aE0 dC cK Tryz.func61 λh=>?_
 simp -dsimp -implicitDefEqProofs only[go_sem,↓reduceIte,Tryz.f61]
 repeat'(with_reducible first|intro _|refine And.intro ?_ ?_)
 all_goals try(first|(simp[*];done)|omega|grind)
 first|refine aJ.mk (zS l (λn=>!decide (oU n)) 123 [] λx _=>(zT x).bK3) ?_|refine aF.mk (zS l (λn=>!decide (oU n)) 123 [] λx _=>(zT x).bK3) ?_|refine aJ.bA (zS l (λn=>!decide (oU n)) 123 [] λx _=>(zT x).bK3) ?_|refine aF.mk (aX.cU (zS l (λn=>!decide (oU n)) 123 [] λx _=>(zT x).bK3)) ?_
 simp -dsimp -implicitDefEqProofs only[go_sem,↓reduceIte,Tryz.f61]
 rename_i e
 rw[bK9,decide_eq_decide]
 exact⟨λq=>⟨e,q⟩,λq=>q.2⟩
def Low (c:UInt8):Prop:=97<=c.toNat/\c.toNat<=122
def Dig (c:UInt8):Prop:=48<=c.toNat/\c.toNat<=57
instance (c:UInt8):Decidable (Low c):=inferInstanceAs (Decidable (_/\_))
instance (c:UInt8):Decidable (Dig c):=inferInstanceAs (Decidable (_/\_))
def aGO (s:List UInt8):Prop:=1<=s.length/\s.length<=12/\(∀ c,s[0]?=some c->Low c)/\∀ c∈s,Low c∨Dig c
noncomputable instance (s:List UInt8):Decidable (aGO s):=Classical.propDecidable _
theorem aTW {s:List UInt8} {k:Nat} {c:UInt8} (h:k<s.length) (ec:s[k]=c) (hp:∀ x∈s.take k,Low x∨Dig x) (he:Low c∨Dig c):∀ x∈s.take (k+1),Low x∨Dig x :=
 yL (P:=λx=>Low x∨Dig x) h hp (by rw[ec];exact he)
theorem a0E {s:List UInt8} {k:Nat} {c:UInt8} (h:k<s.length) (ec:s[k]=c) (he:¬(Low c∨Dig c)):false=decide (aGO s) :=
 (decide_eq_false λe=>he (ec▸e.2.2.2 _ (eI h))).symm
theorem bBK {s:List UInt8} {k:Nat} {c:UInt8} (h:k<s.length) (h0:(k:Int)=0) (ec:s[k]=c) (he:¬Low c):false=decide (aGO s) :=
 (decide_eq_false fun e => he (e.2.2.1 c (by have : k = 0 := by omega
                                             subst this;rw[cM h,ec]))).symm
@[go_sem] def aV0:List Nat:=[0,2,3,17,21,45]
theorem aCP (s:List UInt8):fM Tryz.prog 159 [.str s] (.bool (decide (aGO s))):=by
 cases s with
 |nil =>
  refine gX 46 aV0 dC cK Tryz.func159 λh=>?_
  simp -dsimp -implicitDefEqProofs only[go_sem,↓reduceIte,Tryz.f159]
  first|refine aJ.mk (gH 0 1 12) ?_|refine aF.mk (gH 0 1 12) ?_|refine aJ.bA (gH 0 1 12) ?_|refine aF.mk (aX.cU (gH 0 1 12)) ?_
  simp -dsimp -implicitDefEqProofs only[go_sem,↓reduceIte,Tryz.f159]
  repeat'(with_reducible first|intro _|refine And.intro ?_ ?_)
  all_goals try(first|(simp[aGO, *];done)|omega|(grind[aGO])|(simp[aGO];omega))
 |cons c t =>
  refine gX 46 aV0 dC cK Tryz.func159 λh=>?_
  simp -dsimp -implicitDefEqProofs only[go_sem,↓reduceIte,Tryz.f159,bAX,bC4]
  intro _
  first|refine aJ.mk (gH (c::t).length 1 12) ?_|refine aF.mk (gH (c::t).length 1 12) ?_|refine aJ.bA (gH (c::t).length 1 12) ?_|refine aF.mk (aX.cU (gH (c::t).length 1 12)) ?_
  simp -dsimp -implicitDefEqProofs only[go_sem,↓reduceIte,Tryz.f159,bAX,bC4]
  repeat'(with_reducible first|intro _|refine And.intro ?_ ?_)
  all_goals try(first|(simp[aGO,Low,Dig, *];done)|omega|(grind[aGO,Low,Dig])|(simp[aGO,Low,Dig];omega))
  rename_i h0 h1 h2 h3
  generalize hs:c::t=s at *
  refine cZ aV0 dC cK (λk:Nat=>[(0,.str s),(3,I k)]) (λ_=>h) (λk=>k<=s.length/\∀ x∈s.take k,Low x∨Dig x) (λk=>s.length-k) 0 aY7 ?_
  intro k ⟨hk,hp⟩
  rcases bZ k s.length with hlt|hge
  ·generalize ec:s[k]=d
   have ea:s[k]?=some d:=by rw[←ec];exact cM hlt
   simp -dsimp -implicitDefEqProofs only[go_sem,↓reduceIte,Tryz.f159,ea,nU]
   repeat'(with_reducible first|intro _|refine And.intro ?_ ?_)
   all_goals try omega
   all_goals try exact a0E hlt ec a60
   all_goals
    refine⟨k+1,?_⟩
    repeat'(with_reducible refine And.intro ?_ ?_)
    all_goals try(rw[IntWalk.i64_in _ aA];first|rfl|omega)
    all_goals try omega
    all_goals try(repeat'(with_reducible first|exact aE.le_refl _|refine(bP lL).2 ?_))
    exact aTW hlt ec hp a60
  ·have hk':k=s.length:=by omega
   subst hk'
   rw[mR]at hp
   simp -dsimp -implicitDefEqProofs only[go_sem,↓reduceIte,Tryz.f159,bX]
   have:s.length=t.length+1:=by rw[←hs];rfl
   exact λ_=>(decide_eq_true ⟨by omega,by omega,λx hx=>by rw[←hs]at hx;simp at hx;subst hx;simp only[Low];omega,hp⟩).symm
@[go_sem] def a7Y:List Nat:=[0,2,3,5,6,7,34]
theorem aV1 (s:List UInt8):fM Tryz.prog 108 [.str s] (.bool (decide (aGO s))):=by
 refine gX 44 a7Y dC cK Tryz.func108 λh=>?_
 simp -dsimp -implicitDefEqProofs only[go_sem,↓reduceIte,Tryz.f108]
 repeat'(with_reducible first|intro _|refine And.intro ?_ ?_)
 refine cZ a7Y dC cK (λk:Nat=>[(0,.str s),(5,I s.length),(6,I k)]) (λ_=>h) (λk=>k<=s.length/\(∀ x∈s.take k,Low x∨Dig x)/\(0<k->∀ c,s[0]?=some c->Low c)) (λk=>s.length-k) 0 aY7 ?_
 intro k ⟨hk,hp,hz⟩
 rcases bZ k s.length with hlt|hge
 ·generalize ec:s[k]=d
  have ea:s[k]?=some d:=by rw[←ec];exact cM hlt
  have hz':Low d∨¬((k:Int)=0)->∀ c,s[0]?=some c->Low c:=by
   intro q c hc
   by_cases h0:k=0
   ·subst h0
    rw[ea]at hc
    obtain rfl:=gV hc
    exact q.resolve_right cT
   ·exact hz aA c hc
  simp -dsimp -implicitDefEqProofs only[go_sem,↓reduceIte,Tryz.f108,ea,nU]
  repeat'(with_reducible first|intro _|refine And.intro ?_ ?_)
  all_goals try omega
  all_goals try exact a0E hlt ec a60
  all_goals try exact bBK hlt aA ec (by simp only[Low];omega)
  all_goals
   refine⟨k+1,?_⟩
   repeat'(with_reducible refine And.intro ?_ ?_)
   all_goals try(rw[IntWalk.i64_in _ aA];first|rfl|omega)
   all_goals try omega
   all_goals try(repeat'(with_reducible first|exact aE.le_refl _|refine(bP lL).2 ?_))
   all_goals first|exact aTW hlt ec hp a60|exact λ_=>hz' (by simp only[Low];omega)
 ·have hk':k=s.length:=by omega
  subst hk'
  rw[mR]at hp
  simp -dsimp -implicitDefEqProofs only[go_sem,↓reduceIte,Tryz.f108,bX]
  repeat'(with_reducible first|intro _|refine And.intro ?_ ?_)
  all_goals simp only[aGO,decide_eq_decide,eq_comm (a:=false),decide_eq_false_iff_not]
  all_goals grind
mutual
def aB.d:aB->Nat
 | .mk _ _ _ _ kids=>aB.dL kids+1
def aB.dL:List aB->Nat
 | []=>0
 |x::l=>max x.d (aB.dL l)
end
theorem aB.bE6 (x:aB):x.d=aB.dL x.aL+1:=by cases x;rfl
theorem aB.aV2:∀ {l:List aB} {k:Nat} (h:k<l.length),aB.dL (l.take (k+1))=max (aB.dL (l.take k)) l[k].d
 |x::l,0,_=>by simp[aB.dL]
 |x::l,k+1,h=>by
  have:=aB.aV2 (l:=l) (k:=k) (by simpa using h)
  simp only[bDD,aB.dL,this,List.getElem_cons_succ]
  omega
mutual
theorem aB.bSV:∀ x:aB,x.d<=x.s+1
 | .mk _ _ _ _ kids=>by
  have:=aB.bQJ kids
  simp only[aB.d,aB.s];omega
theorem aB.bQJ:∀ l:List aB,aB.dL l<=l.length+aB.sL l
 | []=>by simp[aB.dL]
 |x::l=>by
  have h1:=aB.bSV x
  have h2:=aB.bQJ l
  simp only[aB.dL,aB.sL,al2];omega
end
theorem aB.kB {x y:aB} (h:y∈x.aL):y.s<x.s:=by
 have h1:=vN aB.s h
 have h2:=bDI h
 rw[x.u9,l8];omega
theorem aB.bE7 (x:aB) {k:Nat} (h:k<x.aL.length):k+((x.aL.take k).map aB.s).sum+x.aL[k].s+1<=x.s:=by
 have h1:=nS aB.s x.aL k h
 have h2:=zR aB.s x.aL (k+1)
 rw[x.u9,l8];omega
theorem aB.bQK (x:aB):x.aL.length+((x.aL.take x.aL.length).map aB.s).sum=x.s:=by
 rw[mR,x.u9,l8]
theorem aSX (x:aB) (hs:x.s<=4294967296) (hc:∀ y∈x.aL,fM Tryz.prog 111 [.agg y.c] (I ((y.s:Int)+1))):fM Tryz.prog 111 [.agg x.c] (I ((x.s:Int)+1)):=by
 have hx:=x.bQK
 rw[aB.aS x]
 refine gX 19 a7P a3A cK Tryz.func111 λh=>?_
 simp -dsimp -implicitDefEqProofs only[go_sem,↓reduceIte,Tryz.f111]
 repeat'(with_reducible first|intro _|refine And.intro ?_ ?_)
 refine cZ a7P a3A cK (λk:Nat=>[(1,.ip 5 [x.c] 0 0),(3,I (1+k+(((x.aL.take k).map aB.s).sum:Int))),(7,fN 5 aB.c x.aL),(8,I x.aL.length),(9,I k)]) (λ_=>h) (λk=>k<=x.aL.length) (λk=>x.aL.length-k) 0 (by simp[c4,b7,aE.le_refl,aB.aS]) ?_
 intro k hk
 rcases bZ k x.aL.length with hlt|hge
 ·have ea:x.aL[k]?=some x.aL[k]:=cM hlt
  have hp:=x.bE7 hlt
  have h1:=nS aB.s x.aL k hlt
  have hcy:=hc x.aL[k] (eI hlt)
  simp only[aB.aS]at hcy
  simp -dsimp -implicitDefEqProofs only[go_sem,↓reduceIte,Tryz.f111,ea,aB.aS,aO]
  repeat'(with_reducible first|intro _|refine And.intro ?_ ?_)
  all_goals try omega
  first|refine aJ.mk (hcy) ?_|refine aF.mk (hcy) ?_|refine aJ.bA (hcy) ?_|refine aF.mk (aX.cU (hcy)) ?_
  simp -dsimp -implicitDefEqProofs only[go_sem,↓reduceIte,Tryz.f111]
  rename_i n hn
  refine⟨k+1,?_⟩
  repeat'(with_reducible refine And.intro ?_ ?_)
  all_goals try(rw[IntWalk.i64_in _ aA];first|rfl|omega)
  all_goals try omega
  all_goals try(repeat'(with_reducible first|exact aE.le_refl _|refine(bP lL).2 ?_))
  all_goals try(simp only[aB.aS];done)
 ·have hk':k=x.aL.length:=by omega
  subst hk'
  simp -dsimp -implicitDefEqProofs only[go_sem,↓reduceIte,Tryz.f111,bX]
  omega
theorem aQA (x:aB) (hs:x.s<=4294967296):fM Tryz.prog 111 [.agg x.c] (I ((x.s:Int)+1)) :=
 aSX x hs λy hy=>aQA y a6Z
termination_by SizeOf.sizeOf x
decreasing_by exact aB.wQ hy
theorem aQB (x:aB) (hs:x.s<=4294967296) (hc:∀ y∈x.aL,fM Tryz.prog 150 [.agg y.c] (I (y.d:Int))):fM Tryz.prog 150 [.agg x.c] (I (x.d:Int)):=by
 have hd:=x.bSV
 rw[aB.bE6]at hd ⊢
 rw[aB.aS x]
 refine gX 20 a7P a3A cK Tryz.func150 λh=>?_
 simp -dsimp -implicitDefEqProofs only[go_sem,↓reduceIte,Tryz.f150]
 repeat'(with_reducible first|intro _|refine And.intro ?_ ?_)
 refine cZ a7P a3A cK (λk:Nat=>[(1,.ip 5 [x.c] 0 0),(3,I (aB.dL (x.aL.take k):Int)),(7,fN 5 aB.c x.aL),(8,I x.aL.length),(9,I k)]) (λ_=>h) (λk=>k<=x.aL.length) (λk=>x.aL.length-k) 0 (by simp[c4,b7,aE.le_refl,aB.aS,aB.dL]) ?_
 intro k hk
 rcases bZ k x.aL.length with hlt|hge
 ·have ea:x.aL[k]?=some x.aL[k]:=cM hlt
  have h1:=aB.aV2 hlt
  have hcy:=hc x.aL[k] (eI hlt)
  simp only[aB.aS]at hcy
  simp -dsimp -implicitDefEqProofs only[go_sem,↓reduceIte,Tryz.f150,ea,aB.aS,aO]
  repeat'(with_reducible first|intro _|refine And.intro ?_ ?_)
  all_goals try omega
  first|refine aJ.mk (hcy) ?_|refine aF.mk (hcy) ?_|refine aJ.bA (hcy) ?_|refine aF.mk (aX.cU (hcy)) ?_
  simp -dsimp -implicitDefEqProofs only[go_sem,↓reduceIte,Tryz.f150]
  repeat'(with_reducible first|intro _|refine And.intro ?_ ?_)
  all_goals try rfl
  rename_i n hn
  refine⟨k+1,?_⟩
  repeat'(with_reducible refine And.intro ?_ ?_)
  all_goals try(rw[IntWalk.i64_in _ aA];first|rfl|omega)
  all_goals try omega
  all_goals try(repeat'(with_reducible first|exact aE.le_refl _|refine(bP lL).2 ?_))
  all_goals try(simp only[aB.aS];done)
 ·have hk':k=x.aL.length:=by omega
  subst hk'
  simp -dsimp -implicitDefEqProofs only[go_sem,↓reduceIte,Tryz.f150,bX]
  rw[mR,IntWalk.i64_in _ aA];omega
theorem aTX (x:aB) (hs:x.s<=4294967296):fM Tryz.prog 150 [.agg x.c] (I (x.d:Int)) :=
 aQB x hs λy hy=>aTX y a6Z
termination_by SizeOf.sizeOf x
decreasing_by exact aB.wQ hy
@[go_sem] def a7Z:List Nat:=[0,1,4,5,18]
theorem aV3 (x:aB) (left:Int) (h0:0<=left) (h9:left<=4294967296) (hs:x.s<=4294967296) (hc:∀ y∈x.aL,∀ left:Int,0<=left->left<=4294967296->fM Tryz.prog 160 [.ip 5 [y.c] 0 0,I left] (I (lft left (y.s+1)))):fM Tryz.prog 160 [.ip 5 [x.c] 0 0,I left] (I (lft left (x.s+1))):=by
 have hx:=x.bQK
 rw[aB.aS x]
 refine gX 30 a7Z dC cK Tryz.func160 λh=>?_
 simp -dsimp -implicitDefEqProofs only[go_sem,↓reduceIte,Tryz.f160]
 repeat'(with_reducible first|intro _|refine And.intro ?_ ?_)
 refine cZ a7Z dC cK (λk:Nat=>[(0,.ip 5 [x.c] 0 0),(1,I (lft left (1+k+((x.aL.take k).map aB.s).sum))),(5,I k)]) (λ_=>h) (λk=>k<=x.aL.length) (λk=>x.aL.length-k) 0 (by simp[c4,b7,aE.le_refl,aB.aS];rw[IntWalk.i64_in _ aA];unfold lft;split <;> omega) ?_
 intro k hk
 rcases bZ k x.aL.length with hlt|hge
 ·have hp:=x.bE7 hlt
  have h1:=nS aB.s x.aL k hlt
  rcases aTV left (1+k+((x.aL.take k).map aB.s).sum)with⟨e,hl⟩|⟨e,hl⟩
  ·rw[e,aB.aS x]
   simp -dsimp -implicitDefEqProofs only[go_sem,↓reduceIte,Tryz.f160]
   repeat'(with_reducible first|intro _|refine And.intro ?_ ?_)
   all_goals try omega
   exact(bK8 aA).symm
  ·rw[e,aB.aS x]
   simp -dsimp -implicitDefEqProofs only[go_sem,↓reduceIte,Tryz.f160]
   repeat'(with_reducible first|intro _|refine And.intro ?_ ?_)
   all_goals try omega
   first|refine aF.mk ((hc x.aL[k] (eI hlt) _ hl aA).sub gG) ?_|refine aJ.mk ((hc x.aL[k] (eI hlt) _ hl aA).sub gG) ?_
   simp -dsimp -implicitDefEqProofs only[go_sem,↓reduceIte,Tryz.f160]
   refine⟨k+1,?_⟩
   repeat'(with_reducible refine And.intro ?_ ?_)
   all_goals try(rw[IntWalk.i64_in _ aA];first|rfl|omega)
   all_goals try omega
   all_goals try(repeat'(with_reducible first|exact aE.le_refl _|refine(bP lL).2 ?_))
   all_goals try(simp only[aB.aS];done)
   all_goals(rw[h1];unfold lft;split <;> split <;> omega)
 ·have hk':k=x.aL.length:=by omega
  subst hk'
  rw[aB.aS x]
  simp -dsimp -implicitDefEqProofs only[go_sem,↓reduceIte,Tryz.f160,bX]
  rw[show 1+x.aL.length+((x.aL.take x.aL.length).map aB.s).sum=x.s+1 by omega]
  exact λ_=>rfl
theorem aJX (x:aB) (left:Int) (h0:0<=left) (h9:left<=4294967296) (hs:x.s<=4294967296):fM Tryz.prog 160 [.ip 5 [x.c] 0 0,I left] (I (lft left (x.s+1))) :=
 aV3 x left h0 h9 hs λy hy left h0 h9=>aJX y left h0 h9 a6Z
termination_by SizeOf.sizeOf x
decreasing_by exact aB.wQ hy
@[go_sem] def bLA:List Nat:=[0,1,4,7]
theorem aV4 (a b:Int):fM Tryz.prog 206 [I a,I b] (I (max a b)):=by
 refine gX 10 bLA dC cK Tryz.func206 λh=>?_
 simp -dsimp -implicitDefEqProofs only[go_sem,↓reduceIte,Tryz.f206]
 repeat'(with_reducible first|intro _|refine And.intro ?_ ?_)
 all_goals omega
theorem aSY (x:aB) (hs:x.s<=4294967296) (hc:∀ y∈x.aL,fM Tryz.prog 183 [.ip 5 [y.c] 0 0] (I (y.d:Int))):fM Tryz.prog 183 [.ip 5 [x.c] 0 0] (I (x.d:Int)):=by
 have hd:=x.bSV
 rw[aB.bE6]at hd ⊢
 rw[aB.aS x]
 refine gX 25 a7Q dC cK Tryz.func183 λh=>?_
 simp -dsimp -implicitDefEqProofs only[go_sem,↓reduceIte,Tryz.f183]
 repeat'(with_reducible first|intro _|refine And.intro ?_ ?_)
 refine cZ a7Q dC cK (λk:Nat=>[(0,.ip 5 [x.c] 0 0),(3,I (aB.dL (x.aL.take k):Int)),(4,I k)]) (λ_=>h) (λk=>k<=x.aL.length) (λk=>x.aL.length-k) 0 (by simp[c4,b7,aE.le_refl,aB.aS,aB.dL]) ?_
 intro k hk
 rw[aB.aS x]
 rcases bZ k x.aL.length with hlt|hge
 ·have h1:=aB.aV2 hlt
  simp -dsimp -implicitDefEqProofs only[go_sem,↓reduceIte,Tryz.f183]
  repeat'(with_reducible first|intro _|refine And.intro ?_ ?_)
  all_goals try omega
  first|refine aF.mk ((hc x.aL[k] (eI hlt)).sub gG) ?_|refine aJ.mk ((hc x.aL[k] (eI hlt)).sub gG) ?_
  simp -dsimp -implicitDefEqProofs only[go_sem,↓reduceIte,Tryz.f183]
  first|refine aJ.mk (aV4 _ _) ?_|refine aF.mk (aV4 _ _) ?_|refine aJ.bA (aV4 _ _) ?_|refine aF.mk (aX.cU (aV4 _ _)) ?_
  simp -dsimp -implicitDefEqProofs only[go_sem,↓reduceIte,Tryz.f183]
  refine⟨k+1,?_⟩
  repeat'(with_reducible refine And.intro ?_ ?_)
  all_goals try(rw[IntWalk.i64_in _ aA];first|rfl|omega)
  all_goals try omega
  all_goals try(repeat'(with_reducible first|exact aE.le_refl _|refine(bP lL).2 ?_))
  all_goals try(simp only[aB.aS];done)
 ·have hk':k=x.aL.length:=by omega
  subst hk'
  simp -dsimp -implicitDefEqProofs only[go_sem,↓reduceIte,Tryz.f183,bX]
  intro _
  rw[mR,IntWalk.i64_in _ aA];omega
theorem aQC (x:aB) (hs:x.s<=4294967296):fM Tryz.prog 183 [.ip 5 [x.c] 0 0] (I (x.d:Int)) :=
 aSY x hs λy hy=>aQC y a6Z
termination_by SizeOf.sizeOf x
decreasing_by exact aB.wQ hy
def dD (k:Int):Int:=if k=1∨k=2 then 0 else if k=3∨k=4∨k=5∨k=6∨k=9 then 2 else if k=7 then 1 else if k=8 then 3 else -1
def oG (p:aC) (e:aB) (vars funcs:Int):Prop :=
 if e.aP=10∨e.aP=11 then
  0<=e.aW/\e.aW<=funcs-1/\∀ f,p.aD[e.aW.toNat]?=some f ->
   0<=e.bR/\e.bR<=(f.aN.length:Int)-1/\(e.aL.length:Int)=f.aT/\(e.aP=10->e.bI=0)/\(e.aP=11->0<=e.bI/\e.bI<=8/\(f.aN.length:Int)=f.aT)
 else dD e.aP=e.aL.length/\e.bR=0/\e.bI=0/\(e.aP=1->oU e.aW)/\(e.aP=2->0<=e.aW/\e.aW<=vars-1)/\(e.aP≠1->e.aP≠2->e.aW=0)
noncomputable instance (p:aC) (e:aB) (vars funcs:Int):Decidable (oG p e vars funcs):=Classical.propDecidable _
def jV (kind:Int) (i:Nat) (vars:Int):Int:=if kind=9/\i=1 then vars+1 else vars
mutual
def aB.ok (p:aC) (funcs:Int):aB->Int->Prop
 | .mk a b c d kids,vars=>oG p (.mk a b c d kids) vars funcs/\aB.okL p funcs a kids 0 vars
def aB.okL (p:aC) (funcs:Int) (kind:Int):List aB->Nat->Int->Prop
 | [],_,_=>True
 |x::l,i,vars=>x.ok p funcs (jV kind i vars)/\aB.okL p funcs kind l (i+1) vars
end
noncomputable instance (p:aC) (funcs:Int) (e:aB) (vars:Int):Decidable (e.ok p funcs vars):=Classical.propDecidable _
theorem aB.a71 (p:aC) (funcs kind:Int):∀ (l:List aB) (i:Nat) (vars:Int),aB.okL p funcs kind l i vars↔∀ (k:Nat) (h:k<l.length),l[k].ok p funcs (jV kind (i+k) vars)
 | [],i,vars=>by simp[aB.okL]
 |x::l,i,vars=>by
  rw[aB.okL,aB.a71 p funcs kind l (i+1) vars]
  constructor
  ·rintro⟨h1,h2⟩ k hk
   cases k with
   |zero=>exact h1
   |succ k=>have:=h2 k (by simpa using hk);rw[show i+1+k=i+(k+1)by omega]at this;exact this
  ·intro h
   refine⟨h 0 cT,λk hk=>?_⟩
   have:=h (k+1) (by simpa using hk)
   rw[show i+1+k=i+(k+1)by omega];exact this
theorem aB.cN (p:aC) (funcs:Int) (x:aB) (vars:Int):x.ok p funcs vars↔oG p x vars funcs/\∀ (k:Nat) (h:k<x.aL.length),x.aL[k].ok p funcs (jV x.aP k vars):=by
 cases x with
 |mk a b c d kids =>
  rw[aB.ok,aB.a71]
  simp only[al4,aB.aL,aB.aP]
theorem aC.aTY (p:aC):p.aD.length<=p.s:=by rw[p.u9,l8];omega
theorem aC.aQD {p:aC} {f:aU} (h:f∈p.aD):f.s+p.aD.length<=p.s:=by
 have:=vN aU.s h
 rw[p.u9,l8];omega
theorem aU.aQE (f:aU):f.aN.length<=f.s:=by rw[f.u9,l8];omega
theorem aU.bQL {f:aU} {e:aB} (h:e∈f.aN):e.s<f.s:=by
 have:=vN aB.s h
 have:=bDI h
 rw[f.u9,l8];omega
@[go_sem] def bSW:List Nat:=[0,2,3,4,7,13,15]
theorem zU (k:Int):fM Tryz.prog 88 [I k] (I (dD k)):=by
 refine gX 17 bSW dC cK Tryz.func88 λh=>?_
 simp -dsimp -implicitDefEqProofs only[go_sem,↓reduceIte,Tryz.f88]
 repeat'(with_reducible first|intro _|refine And.intro ?_ ?_)
 all_goals try(first|(simp[dD, *];done)|omega|(grind[dD])|(simp[dD];omega))
theorem vZ {p:aC} {e:aB} {vars funcs:Int} (hk:e.aP=10∨e.aP=11) {f:aU} (ef:p.aD[e.aW.toNat]?=some f):oG p e vars funcs ↔
  0<=e.aW/\e.aW<=funcs-1/\0<=e.bR/\e.bR<=(f.aN.length:Int)-1/\(e.aL.length:Int)=f.aT/\(e.aP=10->e.bI=0)/\(e.aP=11->0<=e.bI/\e.bI<=8/\(f.aN.length:Int)=f.aT):=by
 unfold oG
 rw[if_pos hk]
 simp[ef]
theorem aJY {p:aC} {e:aB} {vars funcs:Int} (hk:e.aP=10∨e.aP=11) (hr:¬(0<=e.aW/\e.aW<=funcs-1)):¬oG p e vars funcs:=by
 unfold oG
 rw[if_pos hk]
 intro h
 exact hr ⟨h.1,h.2.1⟩
theorem dA {p:aC} {e:aB} {vars funcs:Int} (hk:¬(e.aP=10∨e.aP=11)):oG p e vars funcs ↔
  dD e.aP=e.aL.length/\e.bR=0/\e.bI=0/\(e.aP=1->oU e.aW)/\(e.aP=2->0<=e.aW/\e.aW<=vars-1)/\(e.aP≠1->e.aP≠2->e.aW=0):=by
 unfold oG
 rw[if_neg hk]
@[go_sem] def aV5:List Nat:=[0,1,2,3,8,9,21,29,62,67,114,118,119,126]
@[go_sem] def bE8:Marks:=λid=>match id with|4=>([],(.op 0 (.op 1 (.op 2 (.op 3 (.op 4 (.op 5 (.op 6 (.op 7 (.op 8 (.op 9 .nil)))))))))),[])|5=>([],(.op 0 (.op 1 (.op 2 (.op 3 (.op 4 (.op 5 (.op 6 (.op 7 (.op 8 (.op 9 (.op 10 (.op 11 (.op 12 (.op 13 (.op 14 (.op 15 (.op 16 (.op 17 (.op 18 (.op 19 (.op 20 (.op 21 (.op 22 (.op 23 .nil)))))))))))))))))))))))),[])|9=>([],(.op 0 (.op 1 (.op 2 (.op 3 (.op 4 (.op 5 (.op 6 (.op 7 (.op 8 (.op 9 (.op 10 (.op 11 (.op 12 (.op 13 (.op 14 (.op 15 (.op 16 (.op 17 .nil)))))))))))))))))),[])|10=>([],(.op 0 (.op 1 (.op 2 (.op 3 (.op 4 (.op 5 (.op 6 (.op 7 (.op 8 (.op 9 (.op 10 (.op 11 (.op 12 (.op 13 (.op 14 (.op 15 (.op 16 (.op 17 (.op 18 (.op 19 (.op 20 (.op 21 (.op 22 (.op 23 (.op 24 .nil))))))))))))))))))))))))),[])|_=>([],.nil,[])
theorem a73 (p:aC) (e:aB) (vars funcs:Int) (hv:0<=vars) (hv2:vars<=4294967296) (iC:0<=funcs) (hf:funcs<=p.aD.length) (hps:p.s<=4294967296):fM Tryz.prog 207 [.ip 1 [p.c] 0 0,.ip 5 [e.c] 0 0,I vars,I funcs] (.bool (decide (oG p e vars funcs))):=by
 have hl:=p.aTY
 have e1:IntKind.i64.wrap (funcs-1)=funcs-1:=IntWalk.i64_in _ aA
 have e2:IntKind.i64.wrap (vars-1)=vars-1:=IntWalk.i64_in _ aA
 rw[aB.aS]
 simp only[aC.aS]
 by_cases hk:e.aP=10∨e.aP=11
 ·by_cases hr:0<=e.aW/\e.aW<=funcs-1
  ·obtain⟨f,ef⟩:∃ f,p.aD[e.aW.toNat]?=some f:=⟨_,cM aA⟩
   have hn:=vZ (vars:=vars) (funcs:=funcs) hk ef
   have hfs:=aC.aQD (nO ef)
   have hos:=f.aQE
   refine gX 140 aV5 dC bE8 Tryz.func207 λh=>?_
   simp -dsimp -implicitDefEqProofs only[go_sem,↓reduceIte,Tryz.f207,e1,e2]
   repeat'(with_reducible first|intro _|refine And.intro ?_ ?_)
   all_goals try omega
   all_goals(first|refine aJ.mk (gH e.aW 0 (funcs-1)) ?_|refine aF.mk (gH e.aW 0 (funcs-1)) ?_)
   all_goals simp -dsimp -implicitDefEqProofs only[go_sem,↓reduceIte,Tryz.f207,ef,aU.aS]
   all_goals repeat'(with_reducible first|intro _|refine And.intro ?_ ?_)
   all_goals try omega
   all_goals try simp(disch:=omega) only[IntWalk.i64_in]
   all_goals(first|refine aJ.mk (gH e.bR 0 (f.aN.length-1)) ?_|refine aF.mk (gH e.bR 0 (f.aN.length-1)) ?_)
   all_goals simp -dsimp -implicitDefEqProofs only[go_sem,↓reduceIte,Tryz.f207,ef,aU.aS]
   all_goals repeat'(with_reducible first|intro _|refine And.intro ?_ ?_)
   all_goals try omega
   all_goals try(first|(simp[*];done)|omega|grind)
   first|refine aJ.mk (gH e.bI 0 8) ?_|refine aF.mk (gH e.bI 0 8) ?_|refine aJ.bA (gH e.bI 0 8) ?_|refine aF.mk (aX.cU (gH e.bI 0 8)) ?_
   simp -dsimp -implicitDefEqProofs only[go_sem,↓reduceIte,Tryz.f207,ef,aU.aS]
   repeat'(with_reducible first|intro _|refine And.intro ?_ ?_)
   all_goals try(first|(simp[*];done)|omega|grind)
  ·have hn:=aJY (p:=p) (vars:=vars) hk hr
   refine gX 140 aV5 dC bE8 Tryz.func207 λh=>?_
   simp -dsimp -implicitDefEqProofs only[go_sem,↓reduceIte,Tryz.f207,e1,e2]
   repeat'(with_reducible first|intro _|refine And.intro ?_ ?_)
   all_goals try omega
   all_goals(first|refine aJ.mk (gH e.aW 0 (funcs-1)) ?_|refine aF.mk (gH e.aW 0 (funcs-1)) ?_)
   all_goals simp -dsimp -implicitDefEqProofs only[go_sem,↓reduceIte,Tryz.f207]
   all_goals repeat'(with_reducible first|intro _|refine And.intro ?_ ?_)
   all_goals try(first|(simp[*];done)|omega|grind)
 ·have hn:=dA (p:=p) (vars:=vars) (funcs:=funcs) hk
  refine gX 140 aV5 dC bE8 Tryz.func207 λh=>?_
  simp -dsimp -implicitDefEqProofs only[go_sem,↓reduceIte,Tryz.f207,e1,e2]
  repeat'(with_reducible first|intro _|refine And.intro ?_ ?_)
  all_goals try omega
  first|refine aJ.mk (zU e.aP) ?_|refine aF.mk (zU e.aP) ?_|refine aJ.bA (zU e.aP) ?_|refine aF.mk (aX.cU (zU e.aP)) ?_
  simp -dsimp -implicitDefEqProofs only[go_sem,↓reduceIte,Tryz.f207]
  repeat'(with_reducible first|intro _|refine And.intro ?_ ?_)
  all_goals try(first|(simp[*];done)|omega|grind)
  ·first|refine aJ.mk (tK e.aW) ?_|refine aF.mk (tK e.aW) ?_|refine aJ.bA (tK e.aW) ?_|refine aF.mk (aX.cU (tK e.aW)) ?_
   simp -dsimp -implicitDefEqProofs only[go_sem,↓reduceIte,Tryz.f207]
   all_goals try(first|(simp[*];done)|omega|grind)
  ·all_goals try simp(disch:=omega) only[IntWalk.i64_in]
   first|refine aJ.mk (gH e.aW 0 (vars-1)) ?_|refine aF.mk (gH e.aW 0 (vars-1)) ?_|refine aJ.bA (gH e.aW 0 (vars-1)) ?_|refine aF.mk (aX.cU (gH e.aW 0 (vars-1))) ?_
   simp -dsimp -implicitDefEqProofs only[go_sem,↓reduceIte,Tryz.f207]
   all_goals try(first|(simp[*];done)|omega|grind)
@[go_sem] def zV:List Nat:=[0,1,2,3,4,6,7,8,9,10,11,12,25,26,38,52,68,69,81,82,94,95,104,125,152,154,155,156,157,168,175]
set_option maxHeartbeats 8000000 in
theorem aQF (p:aC) (e:aB) (vars funcs:Int) (hv:0<=vars) (hv2:vars+e.s<=4294967296) (iC:0<=funcs) (hf:funcs<=p.aD.length) (hps:p.s<=4294967296)
  (hc:∀ y∈e.aL,∀ vars:Int,0<=vars->vars+y.s<=4294967296->fM Tryz.prog 151 [.agg [fN 3 aU.c p.aD,I funcs],.agg y.c,I vars] (.bool (decide (y.ok p funcs vars)))) (hk:¬(e.aP=10∨e.aP=11)) :
  fM Tryz.prog 151 [.agg [fN 3 aU.c p.aD,I funcs],.agg e.c,I vars] (.bool (decide (e.ok p funcs vars))):=by
 have hok:=aB.cN p funcs e vars
 have hl:=p.aTY
 have e1:IntKind.i64.wrap (funcs-1)=funcs-1:=IntWalk.i64_in _ aA
 have e2:IntKind.i64.wrap (vars-1)=vars-1:=IntWalk.i64_in _ aA
 simp only[aB.aS]
 have no1 (hk:¬(e.aP=10∨e.aP=11)) (q:¬(dD e.aP=e.aL.length/\e.bR=0/\e.bI=0/\(e.aP=1->oU e.aW)/\(e.aP=2->0<=e.aW/\e.aW<=vars-1)/\(e.aP≠1->e.aP≠2->e.aW=0))):false=decide (e.ok p funcs vars) :=
  (decide_eq_false λz=>q ((dA hk).1 (hok.1 z).1)).symm
 have b0R (hk:¬(e.aP=10∨e.aP=11)) (q:dD e.aP=e.aL.length/\e.bR=0/\e.bI=0/\(e.aP=1->oU e.aW)/\(e.aP=2->0<=e.aW/\e.aW<=vars-1)/\(e.aP≠1->e.aP≠2->e.aW=0)):oG p e vars funcs:=(dA hk).2 q
 refine gX 177 zV aM4 cK Tryz.func151 λh=>?_
 simp(maxSteps:=1000000) -dsimp -implicitDefEqProofs only[go_sem,↓reduceIte,Tryz.f151,e1,e2]
 repeat'(with_reducible first|intro _|refine And.intro ?_ ?_)
 all_goals try omega
 all_goals try(refine no1 aA ?_;simp only[dD];grind)
 ·first|refine aJ.mk (vY e.aW) ?_|refine aF.mk (vY e.aW) ?_|refine aJ.bA (vY e.aW) ?_|refine aF.mk (aX.cU (vY e.aW)) ?_
  simp(maxSteps:=1000000) -dsimp -implicitDefEqProofs only[go_sem,↓reduceIte,Tryz.f151]
  rw[decide_eq_decide,hok,dA hk]
  have:e.aL.length=0:=by omega
  constructor
  ·intro q
   exact⟨by simp only[dD];grind,λk hk=>by omega⟩
  ·intro q
   grind
 ·first|refine aJ.mk (within e.aW 0 (vars-1)) ?_|refine aF.mk (within e.aW 0 (vars-1)) ?_|refine aJ.bA (within e.aW 0 (vars-1)) ?_|refine aF.mk (aX.cU (within e.aW 0 (vars-1))) ?_
  simp(maxSteps:=1000000) -dsimp -implicitDefEqProofs only[go_sem,↓reduceIte,Tryz.f151]
  rw[decide_eq_decide,hok,dA hk]
  have:e.aL.length=0:=by omega
  constructor
  ·intro q
   exact⟨by simp only[dD];grind,λk hk=>by omega⟩
  ·intro q
   grind
 all_goals
  have hn:=b0R hk (by simp only[dD];grind)
  clear no1 b0R
  refine cZ zV aM4 cK (λk:Nat=>[(2,I vars),(3,.ip 2 [[fN 3 aU.c p.aD,I funcs]] 0 0),(4,.ip 5 [e.c] 0 0),(154,fN 5 aB.c e.aL),(155,I e.aL.length),(156,I k)]) (λ_=>h) (λk=>k<=e.aL.length/\∀ (j:Nat) (hj:j<e.aL.length),j<k->e.aL[j].ok p funcs (jV e.aP j vars)) (λk=>e.aL.length-k) 0 (by refine⟨by simp[c4,b7,aB.aS],by repeat'(with_reducible first|exact aE.le_refl _|refine(bP lL).2 ?_),by simp⟩) ?_
  intro k ⟨hk,hp⟩
  simp only[aB.aS]
  rcases bZ k e.aL.length with hlt|hge
  ·have x8:=aB.kB (eI hlt)
   have nx (q:e.aL[k].ok p funcs (jV e.aP k vars)):∀ (j:Nat) (hj:j<e.aL.length),j<k+1->e.aL[j].ok p funcs (jV e.aP j vars):=by
    intro j hj hjk
    rcases aS5.1 hjk with h1|rfl
    ·exact hp j hj h1
    ·exact q
   have no (q:¬e.aL[k].ok p funcs (jV e.aP k vars)):false=decide (e.ok p funcs vars):=(decide_eq_false λz=>q ((hok.1 z).2 k hlt)).symm
   have ea:e.aL[k]?=some e.aL[k]:=cM hlt
   rcases Decidable.em (e.aP=9/\k=1)with e9|e9
   ·have em:jV e.aP k vars=vars+1:=if_pos e9
    rw[em]at nx no
    have hcy:=hc e.aL[k] (eI hlt) (vars+1) aA aA
    simp only[aB.aS]at hcy
    simp(maxSteps:=1000000) -dsimp -implicitDefEqProofs only[go_sem,↓reduceIte,Tryz.f151,ea,aB.aS,aO]
    repeat'(with_reducible first|intro _|refine And.intro ?_ ?_)
    all_goals try omega
    all_goals try simp(disch:=omega) only[IntWalk.i64_in]
    all_goals(first|refine aJ.mk (hcy) ?_|refine aF.mk (hcy) ?_)
    all_goals simp(maxSteps:=1000000) -dsimp -implicitDefEqProofs only[go_sem,↓reduceIte,Tryz.f151]
    all_goals repeat'(with_reducible first|intro _|refine And.intro ?_ ?_)
    all_goals first|exact no lF|exact aE.le_refl _|skip
    all_goals try(exact(bP lF).2 (aE.le_refl _))
    all_goals
     refine⟨k+1,?_⟩
     repeat'(with_reducible refine And.intro ?_ ?_)
     all_goals try(rw[IntWalk.i64_in _ aA];first|rfl|omega)
     all_goals try omega
     all_goals try(repeat'(with_reducible first|exact aE.le_refl _|refine(bP lL).2 ?_))
     all_goals try(simp only[aB.aS];done)
     exact nx lF
   ·have em:jV e.aP k vars=vars:=if_neg e9
    rw[em]at nx no
    have hcy:=hc e.aL[k] (eI hlt) vars aA aA
    simp only[aB.aS]at hcy
    simp(maxSteps:=1000000) -dsimp -implicitDefEqProofs only[go_sem,↓reduceIte,Tryz.f151,ea,aB.aS,aO]
    repeat'(with_reducible first|intro _|refine And.intro ?_ ?_)
    all_goals try omega
    all_goals(first|refine aJ.mk (hcy) ?_|refine aF.mk (hcy) ?_)
    all_goals simp(maxSteps:=1000000) -dsimp -implicitDefEqProofs only[go_sem,↓reduceIte,Tryz.f151]
    all_goals repeat'(with_reducible first|intro _|refine And.intro ?_ ?_)
    all_goals first|exact no lF|exact aE.le_refl _|skip
    all_goals try(exact(bP lF).2 (aE.le_refl _))
    all_goals
     refine⟨k+1,?_⟩
     repeat'(with_reducible refine And.intro ?_ ?_)
     all_goals try(rw[IntWalk.i64_in _ aA];first|rfl|omega)
     all_goals try omega
     all_goals try(repeat'(with_reducible first|exact aE.le_refl _|refine(bP lL).2 ?_))
     all_goals try(simp only[aB.aS];done)
     exact nx lF
  ·have hk':k=e.aL.length:=by omega
   subst hk'
   simp(maxSteps:=1000000) -dsimp -implicitDefEqProofs only[go_sem,↓reduceIte,Tryz.f151,bX]
   exact(decide_eq_true (hok.2 ⟨hn,λj hj=>hp j hj hj⟩)).symm
theorem aJZ {p:aC} {e:aB} {vars funcs:Int} {f:aU} (hk:e.aP=10∨e.aP=11) (ef:p.aD[e.aW.toNat]?=some f)
  (q:¬(0<=e.bR/\e.bR<=(f.aN.length:Int)-1/\(e.aL.length:Int)=f.aT/\(e.aP=10->e.bI=0)/\(e.aP=11->0<=e.bI/\e.bI<=8/\(f.aN.length:Int)=f.aT))):false=decide (e.ok p funcs vars) :=
 (decide_eq_false λz=>q ((vZ hk ef).1 ((aB.cN _ _ _ _).1 z).1).2.2).symm
theorem a0F {p:aC} {e:aB} {vars funcs:Int} (hk:e.aP=10∨e.aP=11) (q:¬(0<=e.aW/\e.aW<=funcs-1)):false=decide (e.ok p funcs vars) :=
 (decide_eq_false λz=>aJY hk q ((aB.cN _ _ _ _).1 z).1).symm
set_option maxHeartbeats 8000000 in
theorem a0G (p:aC) (e:aB) (vars funcs:Int) (hv:0<=vars) (hv2:vars+e.s<=4294967296) (iC:0<=funcs) (hf:funcs<=p.aD.length) (hps:p.s<=4294967296)
  (hc:∀ y∈e.aL,∀ vars:Int,0<=vars->vars+y.s<=4294967296->fM Tryz.prog 151 [.agg [fN 3 aU.c p.aD,I funcs],.agg y.c,I vars] (.bool (decide (y.ok p funcs vars)))) (hk:e.aP=10) :
  fM Tryz.prog 151 [.agg [fN 3 aU.c p.aD,I funcs],.agg e.c,I vars] (.bool (decide (e.ok p funcs vars))):=by
 have hl:=p.aTY
 have e1:IntKind.i64.wrap (funcs-1)=funcs-1:=IntWalk.i64_in _ aA
 simp only[aB.aS]
 by_cases hr:0<=e.aW/\e.aW<=funcs-1
 ·obtain⟨f,ef⟩:∃ f,p.aD[e.aW.toNat]?=some f:=⟨_,cM aA⟩
  have hfs:=aC.aQD (nO ef)
  have hos:=f.aQE
  have e3:IntKind.i64.wrap ((f.aN.length:Int)-1)=f.aN.length-1:=IntWalk.i64_in _ aA
  refine gX 177 zV aM4 cK Tryz.func151 λh=>?_
  simp -dsimp -implicitDefEqProofs only[go_sem,↓reduceIte,Tryz.f151,e1,e3,hk]
  repeat'(with_reducible first|intro _|refine And.intro ?_ ?_)
  all_goals try omega
  all_goals(first|refine aJ.mk (within e.aW 0 (funcs-1)) ?_|refine aF.mk (within e.aW 0 (funcs-1)) ?_)
  all_goals simp -dsimp -implicitDefEqProofs only[go_sem,↓reduceIte,Tryz.f151,ef,aU.aS,aO,hk,e3]
  all_goals repeat'(with_reducible first|intro _|refine And.intro ?_ ?_)
  all_goals try omega
  all_goals try(refine aJZ aA ef ?_;omega)
  all_goals try(repeat'(with_reducible first|exact aE.le_refl _|refine(bP lL).2 ?_))
  all_goals(first|refine aJ.mk (within e.bR 0 (f.aN.length-1)) ?_|refine aF.mk (within e.bR 0 (f.aN.length-1)) ?_)
  all_goals simp -dsimp -implicitDefEqProofs only[go_sem,↓reduceIte,Tryz.f151,ef,aU.aS,aO,hk]
  all_goals repeat'(with_reducible first|intro _|refine And.intro ?_ ?_)
  all_goals try omega
  all_goals try(refine aJZ aA ef ?_;omega)
  all_goals try(repeat'(with_reducible first|exact aE.le_refl _|refine(bP lL).2 ?_))
  all_goals
   have hn:oG p e vars funcs:=(vZ aA ef).2 aA
   have hok:=aB.cN p funcs e vars
   clear hr hfs hos ef
   refine cZ zV aM4 cK (λk:Nat=>[(2,I vars),(3,.ip 2 [[fN 3 aU.c p.aD,I funcs]] 0 0),(4,.ip 5 [e.c] 0 0),(154,fN 5 aB.c e.aL),(155,I e.aL.length),(156,I k)]) (λ_=>h) (λk=>k<=e.aL.length/\∀ (j:Nat) (hj:j<e.aL.length),j<k->e.aL[j].ok p funcs vars) (λk=>e.aL.length-k) 0 bY0 ?_
   intro k ⟨hk',hp⟩
   simp only[aB.aS]
   rcases bZ k e.aL.length with hlt|hge
   ·have x8:=aB.kB (eI hlt)
    have nx (q:e.aL[k].ok p funcs vars):∀ (j:Nat) (hj:j<e.aL.length),j<k+1->e.aL[j].ok p funcs vars:=by
     intro j hj hjk
     rcases aS5.1 hjk with h1|rfl
     ·exact hp j hj h1
     ·exact q
    have no (q:¬e.aL[k].ok p funcs vars):false=decide (e.ok p funcs vars):=(decide_eq_false λz=>q bPD).symm
    have ea:e.aL[k]?=some e.aL[k]:=cM hlt
    have hcy:=hc e.aL[k] (eI hlt) vars aA aA
    simp only[aB.aS]at hcy
    simp -dsimp -implicitDefEqProofs only[go_sem,↓reduceIte,Tryz.f151,ea,aB.aS,aO,hk]
    repeat'(with_reducible first|intro _|refine And.intro ?_ ?_)
    all_goals try omega
    first|refine aJ.mk (hcy) ?_|refine aF.mk (hcy) ?_|refine aJ.bA (hcy) ?_|refine aF.mk (aX.cU (hcy)) ?_
    simp -dsimp -implicitDefEqProofs only[go_sem,↓reduceIte,Tryz.f151]
    repeat'(with_reducible first|intro _|refine And.intro ?_ ?_)
    all_goals first|exact no lF|skip
    all_goals try(repeat'(with_reducible first|exact aE.le_refl _|refine(bP lL).2 ?_))
    refine⟨k+1,?_⟩
    repeat'(with_reducible refine And.intro ?_ ?_)
    all_goals try(rw[IntWalk.i64_in _ aA];first|rfl|omega)
    all_goals try omega
    all_goals try(repeat'(with_reducible first|exact aE.le_refl _|refine(bP lL).2 ?_))
    all_goals try(simp only[aB.aS,hk];done)
    exact nx lF
   ·have hk'':k=e.aL.length:=by omega
    subst hk''
    simp -dsimp -implicitDefEqProofs only[go_sem,↓reduceIte,Tryz.f151,bX]
    exact(decide_eq_true (hok.2 ⟨hn,λj hj=>by rw[show jV e.aP j vars=vars from if_neg aA];exact hp j hj hj⟩)).symm
 ·refine gX 177 zV aM4 cK Tryz.func151 λh=>?_
  simp -dsimp -implicitDefEqProofs only[go_sem,↓reduceIte,Tryz.f151,e1,hk]
  repeat'(with_reducible first|intro _|refine And.intro ?_ ?_)
  all_goals try omega
  all_goals(first|refine aJ.mk (within e.aW 0 (funcs-1)) ?_|refine aF.mk (within e.aW 0 (funcs-1)) ?_)
  all_goals simp -dsimp -implicitDefEqProofs only[go_sem,↓reduceIte,Tryz.f151]
  all_goals repeat'(with_reducible first|intro _|refine And.intro ?_ ?_)
  all_goals try omega
  all_goals exact a0F aA hr
set_option maxHeartbeats 8000000 in
theorem a0H (p:aC) (e:aB) (vars funcs:Int) (hv:0<=vars) (hv2:vars+e.s<=4294967296) (iC:0<=funcs) (hf:funcs<=p.aD.length) (hps:p.s<=4294967296)
  (hc:∀ y∈e.aL,∀ vars:Int,0<=vars->vars+y.s<=4294967296->fM Tryz.prog 151 [.agg [fN 3 aU.c p.aD,I funcs],.agg y.c,I vars] (.bool (decide (y.ok p funcs vars)))) (hk:e.aP=11) :
  fM Tryz.prog 151 [.agg [fN 3 aU.c p.aD,I funcs],.agg e.c,I vars] (.bool (decide (e.ok p funcs vars))):=by
 have hl:=p.aTY
 have e1:IntKind.i64.wrap (funcs-1)=funcs-1:=IntWalk.i64_in _ aA
 simp only[aB.aS]
 by_cases hr:0<=e.aW/\e.aW<=funcs-1
 ·obtain⟨f,ef⟩:∃ f,p.aD[e.aW.toNat]?=some f:=⟨_,cM aA⟩
  have hfs:=aC.aQD (nO ef)
  have hos:=f.aQE
  have e3:IntKind.i64.wrap ((f.aN.length:Int)-1)=f.aN.length-1:=IntWalk.i64_in _ aA
  refine gX 177 zV aM4 cK Tryz.func151 λh=>?_
  simp -dsimp -implicitDefEqProofs only[go_sem,↓reduceIte,Tryz.f151,e1,e3,hk]
  repeat'(with_reducible first|intro _|refine And.intro ?_ ?_)
  all_goals try omega
  all_goals(first|refine aJ.mk (within e.aW 0 (funcs-1)) ?_|refine aF.mk (within e.aW 0 (funcs-1)) ?_)
  all_goals simp -dsimp -implicitDefEqProofs only[go_sem,↓reduceIte,Tryz.f151,ef,aU.aS,aO,hk,e3]
  all_goals repeat'(with_reducible first|intro _|refine And.intro ?_ ?_)
  all_goals try omega
  all_goals try(refine aJZ aA ef ?_;omega)
  all_goals try(repeat'(with_reducible first|exact aE.le_refl _|refine(bP lL).2 ?_))
  all_goals(first|refine aJ.mk (within e.bR 0 (f.aN.length-1)) ?_|refine aF.mk (within e.bR 0 (f.aN.length-1)) ?_)
  all_goals simp -dsimp -implicitDefEqProofs only[go_sem,↓reduceIte,Tryz.f151,ef,aU.aS,aO,hk]
  all_goals repeat'(with_reducible first|intro _|refine And.intro ?_ ?_)
  all_goals try omega
  all_goals try(refine aJZ aA ef ?_;omega)
  all_goals try(repeat'(with_reducible first|exact aE.le_refl _|refine(bP lL).2 ?_))
  all_goals(first|refine aJ.mk (within e.bI 0 8) ?_|refine aF.mk (within e.bI 0 8) ?_)
  all_goals simp -dsimp -implicitDefEqProofs only[go_sem,↓reduceIte,Tryz.f151,aO,hk]
  all_goals repeat'(with_reducible first|intro _|refine And.intro ?_ ?_)
  all_goals try(refine aJZ aA ef ?_;omega)
  all_goals try(repeat'(with_reducible first|exact aE.le_refl _|refine(bP lL).2 ?_))
  all_goals
   have hn:oG p e vars funcs:=(vZ aA ef).2 aA
   have hok:=aB.cN p funcs e vars
   clear hr hfs hos ef
   refine cZ zV aM4 cK (λk:Nat=>[(2,I vars),(3,.ip 2 [[fN 3 aU.c p.aD,I funcs]] 0 0),(4,.ip 5 [e.c] 0 0),(154,fN 5 aB.c e.aL),(155,I e.aL.length),(156,I k)]) (λ_=>h) (λk=>k<=e.aL.length/\∀ (j:Nat) (hj:j<e.aL.length),j<k->e.aL[j].ok p funcs vars) (λk=>e.aL.length-k) 0 bY0 ?_
   intro k ⟨hk',hp⟩
   simp only[aB.aS]
   rcases bZ k e.aL.length with hlt|hge
   ·have x8:=aB.kB (eI hlt)
    have nx (q:e.aL[k].ok p funcs vars):∀ (j:Nat) (hj:j<e.aL.length),j<k+1->e.aL[j].ok p funcs vars:=by
     intro j hj hjk
     rcases aS5.1 hjk with h1|rfl
     ·exact hp j hj h1
     ·exact q
    have no (q:¬e.aL[k].ok p funcs vars):false=decide (e.ok p funcs vars):=(decide_eq_false λz=>q bPD).symm
    have ea:e.aL[k]?=some e.aL[k]:=cM hlt
    have hcy:=hc e.aL[k] (eI hlt) vars aA aA
    simp only[aB.aS]at hcy
    simp -dsimp -implicitDefEqProofs only[go_sem,↓reduceIte,Tryz.f151,ea,aB.aS,aO,hk]
    repeat'(with_reducible first|intro _|refine And.intro ?_ ?_)
    all_goals try omega
    first|refine aJ.mk (hcy) ?_|refine aF.mk (hcy) ?_|refine aJ.bA (hcy) ?_|refine aF.mk (aX.cU (hcy)) ?_
    simp -dsimp -implicitDefEqProofs only[go_sem,↓reduceIte,Tryz.f151]
    repeat'(with_reducible first|intro _|refine And.intro ?_ ?_)
    all_goals first|exact no lF|skip
    all_goals try(repeat'(with_reducible first|exact aE.le_refl _|refine(bP lL).2 ?_))
    refine⟨k+1,?_⟩
    repeat'(with_reducible refine And.intro ?_ ?_)
    all_goals try(rw[IntWalk.i64_in _ aA];first|rfl|omega)
    all_goals try omega
    all_goals try(repeat'(with_reducible first|exact aE.le_refl _|refine(bP lL).2 ?_))
    all_goals try(simp only[aB.aS,hk];done)
    exact nx lF
   ·have hk'':k=e.aL.length:=by omega
    subst hk''
    simp -dsimp -implicitDefEqProofs only[go_sem,↓reduceIte,Tryz.f151,bX]
    exact(decide_eq_true (hok.2 ⟨hn,λj hj=>by rw[show jV e.aP j vars=vars from if_neg aA];exact hp j hj hj⟩)).symm
 ·refine gX 177 zV aM4 cK Tryz.func151 λh=>?_
  simp -dsimp -implicitDefEqProofs only[go_sem,↓reduceIte,Tryz.f151,e1,hk]
  repeat'(with_reducible first|intro _|refine And.intro ?_ ?_)
  all_goals try omega
  all_goals(first|refine aJ.mk (within e.aW 0 (funcs-1)) ?_|refine aF.mk (within e.aW 0 (funcs-1)) ?_)
  all_goals simp -dsimp -implicitDefEqProofs only[go_sem,↓reduceIte,Tryz.f151]
  all_goals repeat'(with_reducible first|intro _|refine And.intro ?_ ?_)
  all_goals try omega
  all_goals exact a0F aA hr
theorem aJ0 (p:aC) (e:aB) (vars funcs:Int) (hv:0<=vars) (hv2:vars+e.s<=4294967296) (iC:0<=funcs) (hf:funcs<=p.aD.length) (hps:p.s<=4294967296) :
  fM Tryz.prog 151 [.agg [fN 3 aU.c p.aD,I funcs],.agg e.c,I vars] (.bool (decide (e.ok p funcs vars))):=by
 by_cases h1:e.aP=10
 ·exact a0G p e vars funcs hv hv2 iC hf hps (λy hy vars hv hv2=>aJ0 p y vars funcs hv hv2 iC hf hps) h1
 ·by_cases h2:e.aP=11
  ·exact a0H p e vars funcs hv hv2 iC hf hps (λy hy vars hv hv2=>aJ0 p y vars funcs hv hv2 iC hf hps) h2
  ·exact aQF p e vars funcs hv hv2 iC hf hps (λy hy vars hv hv2=>aJ0 p y vars funcs hv hv2 iC hf hps) (λq=>q.elim h1 h2)
termination_by SizeOf.sizeOf e
decreasing_by all_goals exact aB.wQ hy
theorem bLB {n:Int} (h0:0<=n) (h:n<10):Go.Lib.itoa n=[UInt8.ofNat (48+n).toNat]:=by
 unfold Go.Lib.itoa
 rw[if_neg aA,Go.Lib.decDigits,dif_pos aA,show(48+n).toNat=48+n.toNat from by omega]
theorem bLC {n:Int} (h:10<=n):Go.Lib.itoa n=Go.Lib.itoa (n / 10)++[UInt8.ofNat (48+n%10).toNat]:=by
 unfold Go.Lib.itoa
 rw[if_neg aA,if_neg aA,Go.Lib.decDigits,dif_neg aA,show(48+n%10).toNat=48+n.toNat%10 from by omega,show(n / 10).toNat=n.toNat / 10 from by omega]
theorem aDV {u k:Nat} (h:u<10 ^ k) (hk:1<=k):(Go.Lib.decDigits u).length<=k:=by
 induction k generalizing u with
 |zero=>omega
 |succ k ih =>
  rw[Go.Lib.decDigits]
  split
  ·simp
  ·rename_i hu
   rcases bC8 k with e|e
   ·subst e;simp at h;omega
   ·have:=ih (u:=u / 10) (by rw[Nat.pow_succ]at h;omega) e
    simp;omega
theorem qN {n:Int} (h0:-9223372036854775808<=n) (h1:n<=9223372036854775807):(Go.Lib.itoa n).length<=21:=by
 unfold Go.Lib.itoa
 split
 ·have:=aDV (u:=n.natAbs) (k:=20) aA aA
  simp;omega
 ·have:=aDV (u:=n.toNat) (k:=20) aA aA
  omega
theorem bLD {u:Nat} (h:u<10):Go.Lib.decDigits u=[UInt8.ofNat (48+u)]:=by rw[Go.Lib.decDigits,dif_pos h]
theorem bE9 (n:Int) (h:0<=n):Go.Lib.itoa n=Go.Lib.decDigits n.toNat:=by rw[Go.Lib.itoa,if_neg aA]
theorem aJ1 {α:Type} (f:α->Nat) (l:List α) (x:α):uW f (l++[x])=uW f l+1+f x:=by
 simp only[l8,mV,kS,List.sum_append,al2,al3,nZ,sX,aOV,List.sum_nil];omega
theorem bFA (k n i c:Int) (l:List aB):(aB.mk k n i c l).s=uW aB.s l:=by rw[aB.u9];rfl
theorem bFB (k n:Int):(aB.mk k n 0 0 []).o [.v (I k),.v (I n),.v (I 0),.v (I 0),.nil 5]:=(aB.pM _ _).2 ⟨.nil 5,rfl,OS.nil⟩
theorem a0I (k n:Int):Sub (.agg [I k,I n,I 0,I 0,.bD]) (.agg ([.v (I k),.v (I n),.v (I 0),.v (I 0),.nil 5].map OV.val)):=Sub.agg (.cons (.refl _) (.cons (.refl _) (.cons (.refl _) (.cons (.refl _) (.cons (Sub.nil 5 true) .nil)))))
theorem aTZ (k n:Int):OV.cJ [.v (I k),.v (I n),.v (I 0),.v (I 0),.nil 5]=[]:=by simp only[OV.fC,OV.gZ,OV.sZ,OV.uE,dT]
def zG (k n c d:Int) (v:aH):bE:=.row 5 [[.v (I k),.v (I n),.v (I c),.v (I d),.v v]]
@[go_sem] def b8I:List Nat:=[8,17]
@[go_sem] def b8J:Marks:=λid=>match id with|3=>([],(.op 0 (.op 1 (.op 2 (.op 3 (.op 4 (.op 5 (.op 6 (.op 7 (.op 8 (.op 9 (.op 10 .nil))))))))))),[])|_=>([],.nil,[])
theorem aFX (m:Nat):∀ n:Int,0<=n->n<m->n<=1000002->fM Tryz.prog 53 [I n] (.str (Go.Lib.itoa n)):=by
 induction m with
 |zero=>intro n a b;omega
 |succ m ih =>
 intro n h0 hm hn
 refine gX 20 bP9 b8I b8J Tryz.func53 λh=>?_
 simp -dsimp -implicitDefEqProofs only[go_sem,↓reduceIte,Tryz.f53]
 repeat'(with_reducible first|intro _|refine And.intro ?_ ?_)
 all_goals try omega
 ·rw[bLB h0 lF,IntWalk.i64_in (48+n) aA,IntWalk.u8_in (48+n) aA]
 ·rw[a57 aA,IntWalk.i64_in (n / 10) aA]
  first|refine aJ.mk (ih (n / 10) aA aA aA) ?_|refine aF.mk (ih (n / 10) aA aA aA) ?_|refine aJ.bA (ih (n / 10) aA aA aA) ?_|refine aF.mk (aX.cU (ih (n / 10) aA aA aA)) ?_
  simp -dsimp -implicitDefEqProofs only[go_sem,↓reduceIte,Tryz.f53]
  repeat'(with_reducible first|intro _|refine And.intro ?_ ?_)
  all_goals try(first|omega|decide)
  ·have:=qN (n:=n / 10) aA aA
   omega
  ·rw[bLC (n:=n) aA,zH aA,IntWalk.i64_in (48+n%10) aA,IntWalk.u8_in (48+n%10) aA]
theorem bBL {E:Env} {h:aE} {w:World} (x:LaidIn E h w):Go.Lib.TabIs Tryz.prog w "internal/strconv.uint64pow10" .u64 Go.Lib.pow10Tab :=
 let ⟨_,h1,h2⟩:=x.var (P:=Tryz.prog) (name:="internal/strconv.uint64pow10") (by kernel_rfl) (x6 ..)
 h1.trans (congrArg some (h2.trans (by kernel_rfl)))
theorem aCQ (n:Int) (h0:-9223372036854775808<=n) (h1:n<=9223372036854775807):fM Tryz.prog 130 [I n,I 10] (.str (Go.Lib.itoa n)) :=
 bBJ (by kernel_rfl) λE h w vs R rl=>by
  match vs,rl with
  | [v0,v1],rl =>
   obtain⟨r0,r1,_⟩:=rl
   rw[l9 r0,l9 r1]
   refine(Go.Proofs.Tryz.strconv_FormatInt_10 n h0 h1 w (bBL R.laid)).mono λe w' ⟨he,hw⟩=>⟨_,he,λE' h' w'=>.str _ ?_,hw⟩
   have:=qN h0 h1
   simp only[maxLen]
   omega
theorem bFC (n:Int) (h:0<=n/\n<=1000000):fM Tryz.prog 73 [I n] (.str (Go.Lib.itoa n)):=by
 refine gX 5 aD2 dC cK Tryz.func73 λh=>?_
 simp -dsimp -implicitDefEqProofs only[go_sem,↓reduceIte,Tryz.f73]
 first|refine aJ.mk (aCQ n aA aA) ?_|refine aF.mk (aCQ n aA aA) ?_|refine aJ.bA (aCQ n aA aA) ?_|refine aF.mk (aX.cU (aCQ n aA aA)) ?_
 simp -dsimp -implicitDefEqProofs only[go_sem,↓reduceIte,Tryz.f73]
@[go_sem] def a74:List Nat:=[0,1,2,3,8,9,10,16,23,35,48]
theorem aV6 (p:aC) (e:aB) (vars funcs:Int) (hv:0<=vars) (hv2:vars+e.s<=4294967296) (iC:0<=funcs) (hf:funcs<=p.aD.length) (hps:p.s<=4294967296)
  (hc:∀ y∈e.aL,∀ vars:Int,0<=vars->vars+y.s<=4294967296->fM Tryz.prog 184 [.ip 1 [p.c] 0 0,.ip 5 [y.c] 0 0,I vars,I funcs] (.bool (decide (y.ok p funcs vars)))) :
  fM Tryz.prog 184 [.ip 1 [p.c] 0 0,.ip 5 [e.c] 0 0,I vars,I funcs] (.bool (decide (e.ok p funcs vars))):=by
 have hok:=aB.cN p funcs e vars
 simp only[aB.aS,aC.aS]
 refine gX 49 a74 dC cK Tryz.func184 λh=>?_
 simp -dsimp -implicitDefEqProofs only[go_sem,↓reduceIte,Tryz.f184]
 first|refine aF.mk ((a73 p e vars funcs hv aA iC hf hps).sub gG) ?_|refine aJ.mk ((a73 p e vars funcs hv aA iC hf hps).sub gG) ?_
 simp -dsimp -implicitDefEqProofs only[go_sem,↓reduceIte,Tryz.f184]
 repeat'(with_reducible first|intro _|refine And.intro ?_ ?_)
 ·rename_i hn
  exact(decide_eq_false λq=>hn (hok.1 q).1).symm
 ·rename_i hn
  refine cZ a74 dC cK (λk:Nat=>[(0,.ip 1 [p.c] 0 0),(1,.ip 5 [e.c] 0 0),(2,I vars),(3,I funcs),(9,I k)]) (λ_=>h) (λk=>k<=e.aL.length/\∀ (j:Nat) (hj:j<e.aL.length),j<k->e.aL[j].ok p funcs (jV e.aP j vars)) (λk=>e.aL.length-k) 0 (by simp[c4,b7,aE.le_refl,aB.aS,aC.aS]) ?_
  intro k ⟨hk,hp⟩
  simp only[aB.aS,aC.aS]
  rcases bZ k e.aL.length with hlt|hge
  ·have x8:=aB.kB (eI hlt)
   have nx (q:e.aL[k].ok p funcs (jV e.aP k vars)):∀ (j:Nat) (hj:j<e.aL.length),j<k+1->e.aL[j].ok p funcs (jV e.aP j vars):=by
    intro j hj hjk
    rcases aS5.1 hjk with h1|rfl
    ·exact hp j hj h1
    ·exact q
   have no (q:¬e.aL[k].ok p funcs (jV e.aP k vars)):false=decide (e.ok p funcs vars):=(decide_eq_false λz=>q ((hok.1 z).2 k hlt)).symm
   simp -dsimp -implicitDefEqProofs only[go_sem,↓reduceIte,Tryz.f184]
   repeat'(with_reducible first|intro _|refine And.intro ?_ ?_)
   all_goals try omega
   ·have em:jV e.aP k vars=vars+1:=if_pos ⟨by assumption,by omega⟩
    rw[em]at nx no
    all_goals try simp(disch:=omega) only[IntWalk.i64_in]
    first|refine aF.mk ((hc e.aL[k] (eI hlt) (vars+1) aA aA).sub gG) ?_|refine aJ.mk ((hc e.aL[k] (eI hlt) (vars+1) aA aA).sub gG) ?_
    simp -dsimp -implicitDefEqProofs only[go_sem,↓reduceIte,Tryz.f184]
    repeat'(with_reducible first|intro _|refine And.intro ?_ ?_)
    ·exact no lF
    ·refine⟨k+1,?_⟩
     repeat'(with_reducible refine And.intro ?_ ?_)
     all_goals try(rw[IntWalk.i64_in _ aA];first|rfl|omega)
     all_goals try omega
     all_goals try(repeat'(with_reducible first|exact aE.le_refl _|refine(bP lL).2 ?_))
     all_goals try(simp only[aB.aS,aC.aS];done)
     exact nx lF
   all_goals
    have em:jV e.aP k vars=vars:=if_neg aA
    rw[em]at nx no
    first|refine aF.mk ((hc e.aL[k] (eI hlt) vars aA aA).sub gG) ?_|refine aJ.mk ((hc e.aL[k] (eI hlt) vars aA aA).sub gG) ?_
    simp -dsimp -implicitDefEqProofs only[go_sem,↓reduceIte,Tryz.f184]
    repeat'(with_reducible first|intro _|refine And.intro ?_ ?_)
    ·exact no lF
    ·refine⟨k+1,?_⟩
     repeat'(with_reducible refine And.intro ?_ ?_)
     all_goals try(rw[IntWalk.i64_in _ aA];first|rfl|omega)
     all_goals try omega
     all_goals try(repeat'(with_reducible first|exact aE.le_refl _|refine(bP lL).2 ?_))
     all_goals try(simp only[aB.aS,aC.aS];done)
     exact nx lF
  ·have hk':k=e.aL.length:=by omega
   subst hk'
   simp -dsimp -implicitDefEqProofs only[go_sem,↓reduceIte,Tryz.f184,bX]
   exact λ_=>(decide_eq_true (hok.2 ⟨hn,λj hj=>hp j hj hj⟩)).symm
theorem aV7 (p:aC) (e:aB) (vars funcs:Int) (hv:0<=vars) (hv2:vars+e.s<=4294967296) (iC:0<=funcs) (hf:funcs<=p.aD.length) (hps:p.s<=4294967296) :
  fM Tryz.prog 184 [.ip 1 [p.c] 0 0,.ip 5 [e.c] 0 0,I vars,I funcs] (.bool (decide (e.ok p funcs vars))) :=
 aV6 p e vars funcs hv hv2 iC hf hps λy hy vars hv hv2=>aV7 p y vars funcs hv hv2 iC hf hps
termination_by SizeOf.sizeOf e
decreasing_by exact aB.wQ hy
def oH (p:aC) (e:aB) (vars funcs:Int):Prop:=(0<=vars/\vars<=412)/\(0<=funcs/\funcs<=p.aD.length)/\(e.s:Int)+1<=400/\(e.d:Int)<=60/\e.ok p funcs vars
noncomputable instance (p:aC) (e:aB) (vars funcs:Int):Decidable (oH p e vars funcs):=Classical.propDecidable _
def aE1 (p:aC) (k:Nat) (f:aU):Prop:=aGO f.e8/\(0<=f.aT/\f.aT<=12)/\(1<=(f.aN.length:Int)/\(f.aN.length:Int)<=12)/\(∀ g∈p.aD.take k,g.e8≠f.e8)/\(uW aB.s f.aN:Int)<=400/\∀ e∈f.aN,oH p e f.aT k
noncomputable instance (p:aC) (k:Nat) (f:aU):Decidable (aE1 p k f):=Classical.propDecidable _
def aC.ok (p:aC):Prop:=(p.aD.length:Int)<=16/\∀ (k:Nat) (f:aU),p.aD[k]?=some f->aE1 p k f
noncomputable instance (p:aC):Decidable p.ok:=Classical.propDecidable _
theorem aNX (n:Int):fM Tryz.prog 182 [I n] (.bool (decide (0<=n/\n<=412))):=by
 refine gX 5 aD2 dC cK Tryz.func182 λh=>?_
 simp -dsimp -implicitDefEqProofs only[go_sem,↓reduceIte,Tryz.f182]
 first|refine aJ.mk (gH n 0 412) ?_|refine aF.mk (gH n 0 412) ?_|refine aJ.bA (gH n 0 412) ?_|refine aF.mk (aX.cU (gH n 0 412)) ?_
 simp -dsimp -implicitDefEqProofs only[go_sem,↓reduceIte,Tryz.f182]
theorem aNY (n:Int):fM Tryz.prog 149 [I n] (.bool (decide (0<=n/\n<=412))):=by
 refine gX 5 aD2 dC cK Tryz.func149 λh=>?_
 simp -dsimp -implicitDefEqProofs only[go_sem,↓reduceIte,Tryz.f149]
 first|refine aJ.mk (within n 0 412) ?_|refine aF.mk (within n 0 412) ?_|refine aJ.bA (within n 0 412) ?_|refine aF.mk (aX.cU (within n 0 412)) ?_
 simp -dsimp -implicitDefEqProofs only[go_sem,↓reduceIte,Tryz.f149]
theorem aQG {left:Int} {n:Nat}:0<=lft left n↔(n:Int)<=left:=by
 unfold lft;split <;> omega
@[go_sem] def bLE:List Nat:=[0,1,2,3,8]
theorem a77 (p:aC) (e:aB) (vars funcs:Int) (hs:e.s<=4294966296) (hps:p.s<=4294967296):fM Tryz.prog 161 [.ip 1 [p.c] 0 0,.ip 5 [e.c] 0 0,I vars,I funcs] (.bool (decide (oH p e vars funcs))):=by
 simp only[aC.aS]
 refine gX 37 bLE dC cK Tryz.func161 λh=>?_
 simp -dsimp -implicitDefEqProofs only[go_sem,↓reduceIte,Tryz.f161]
 first|refine aJ.mk (aNX vars) ?_|refine aF.mk (aNX vars) ?_|refine aJ.bA (aNX vars) ?_|refine aF.mk (aX.cU (aNX vars)) ?_
 simp -dsimp -implicitDefEqProofs only[go_sem,↓reduceIte,Tryz.f161]
 repeat'(with_reducible first|intro _|refine And.intro ?_ ?_)
 all_goals try(first|(simp[oH, *];done)|omega|(grind[oH])|(simp[oH];omega))
 first|refine aJ.mk (gH funcs 0 p.aD.length) ?_|refine aF.mk (gH funcs 0 p.aD.length) ?_|refine aJ.bA (gH funcs 0 p.aD.length) ?_|refine aF.mk (aX.cU (gH funcs 0 p.aD.length)) ?_
 simp -dsimp -implicitDefEqProofs only[go_sem,↓reduceIte,Tryz.f161]
 repeat'(with_reducible first|intro _|refine And.intro ?_ ?_)
 all_goals try(first|(simp[oH, *];done)|omega|(grind[oH])|(simp[oH];omega))
 first|refine aF.mk ((aJX e 400 aA aA aA).sub gG) ?_|refine aJ.mk ((aJX e 400 aA aA aA).sub gG) ?_
 simp -dsimp -implicitDefEqProofs only[go_sem,↓reduceIte,Tryz.f161]
 repeat'(with_reducible first|intro _|refine And.intro ?_ ?_)
 ·have hle:((e.s+1:Nat):Int)<=400:=aQG.1 lF
  first|refine aF.mk ((aQC e aA).sub gG) ?_|refine aJ.mk ((aQC e aA).sub gG) ?_
  simp -dsimp -implicitDefEqProofs only[go_sem,↓reduceIte,Tryz.f161]
  repeat'(with_reducible first|intro _|refine And.intro ?_ ?_)
  ·first|refine aF.mk ((aV7 p e vars funcs aA aA aA aA hps).sub gG) ?_|refine aJ.mk ((aV7 p e vars funcs aA aA aA aA hps).sub gG) ?_
   simp -dsimp -implicitDefEqProofs only[go_sem,↓reduceIte,Tryz.f161]
   rw[decide_eq_decide]
   exact⟨λq=>⟨by omega,by omega,by omega,by omega,q⟩,λq=>q.2.2.2.2⟩
  ·exact(decide_eq_false λq=>by have:=q.2.2.2.1;omega).symm
 ·rename_i hn
  exact(decide_eq_false λq=>hn (aQG.2 (by have:=q.2.2.1;omega))).symm
@[go_sem] def bLF:List Nat:=[0,1,2,3,4,5,8]
@[go_sem] def b0S:List Nat:=[4,5]
theorem bBM (p:aC) (e:aB) (vars funcs:Int) (hs:e.s<=4294966296) (hps:p.s<=4294967296):fM Tryz.prog 110 [.agg p.c,.agg e.c,I vars,I funcs] (.bool (decide (oH p e vars funcs))):=by
 have h1:=aQA e aA
 have h2:=aTX e aA
 simp only[aB.aS]at h1 h2
 simp only[aC.aS,aB.aS]
 refine gX 36 bLF b0S cK Tryz.func110 λh=>?_
 simp -dsimp -implicitDefEqProofs only[go_sem,↓reduceIte,Tryz.f110]
 first|refine aJ.mk (aNY vars) ?_|refine aF.mk (aNY vars) ?_|refine aJ.bA (aNY vars) ?_|refine aF.mk (aX.cU (aNY vars)) ?_
 simp -dsimp -implicitDefEqProofs only[go_sem,↓reduceIte,Tryz.f110]
 repeat'(with_reducible first|intro _|refine And.intro ?_ ?_)
 all_goals try(first|(simp[oH, *];done)|omega|(grind[oH])|(simp[oH];omega))
 first|refine aJ.mk (within funcs 0 p.aD.length) ?_|refine aF.mk (within funcs 0 p.aD.length) ?_|refine aJ.bA (within funcs 0 p.aD.length) ?_|refine aF.mk (aX.cU (within funcs 0 p.aD.length)) ?_
 simp -dsimp -implicitDefEqProofs only[go_sem,↓reduceIte,Tryz.f110]
 repeat'(with_reducible first|intro _|refine And.intro ?_ ?_)
 all_goals try(first|(simp[oH, *];done)|omega|(grind[oH])|(simp[oH];omega))
 first|refine aJ.mk (h1) ?_|refine aF.mk (h1) ?_|refine aJ.bA (h1) ?_|refine aF.mk (aX.cU (h1)) ?_
 simp -dsimp -implicitDefEqProofs only[go_sem,↓reduceIte,Tryz.f110]
 repeat'(with_reducible first|intro _|refine And.intro ?_ ?_)
 ·first|refine aJ.mk (h2) ?_|refine aF.mk (h2) ?_|refine aJ.bA (h2) ?_|refine aF.mk (aX.cU (h2)) ?_
  simp -dsimp -implicitDefEqProofs only[go_sem,↓reduceIte,Tryz.f110]
  repeat'(with_reducible first|intro _|refine And.intro ?_ ?_)
  ·have h3:=aJ0 p e vars funcs aA aA aA aA hps
   simp only[aB.aS]at h3
   first|refine aJ.mk (h3) ?_|refine aF.mk (h3) ?_|refine aJ.bA (h3) ?_|refine aF.mk (aX.cU (h3)) ?_
   simp -dsimp -implicitDefEqProofs only[go_sem,↓reduceIte,Tryz.f110]
   rw[decide_eq_decide]
   exact⟨λq=>⟨by omega,by omega,by omega,by omega,q⟩,λq=>q.2.2.2.2⟩
  ·exact(decide_eq_false λq=>by have:=q.2.2.2.1;omega).symm
 ·exact(decide_eq_false λq=>by have:=q.2.2.1;omega).symm
@[go_sem] def aV8:List Nat:=[0,1,4,5,6,7,8,37,40,55,62,90]
@[go_sem] def bFD:Marks:=λid=>match id with|7=>([],(.op 0 (.op 1 (.op 2 (.op 3 (.op 4 (.op 5 (.op 6 (.op 7 (.op 8 (.op 9 (.op 10 (.op 11 (.op 12 .nil))))))))))))),[])|14=>([],(.op 0 (.op 1 (.op 2 (.op 3 (.op 4 (.op 5 (.op 6 (.op 7 (.op 8 (.op 9 (.op 10 (.op 11 (.op 12 (.op 13 (.op 14 (.op 15 (.op 16 (.op 17 .nil)))))))))))))))))),[])|_=>([],.nil,[])
theorem a78 (p:aC) (k:Nat) (f:aU) (ef:p.aD[k]?=some f) (hps:p.s<=4194304):fM Tryz.prog 115 [.ip 1 [p.c] 0 0,I k] (.bool (decide (aE1 p k f))):=by
 have hk:k<p.aD.length:=(mS.1 ef).1
 have hfs:=aC.aQD (nO ef)
 have hl:=p.aTY
 have hos:=f.aQE
 simp only[aC.aS]
 have no (q:¬(aGO f.e8/\(0<=f.aT/\f.aT<=12)/\(1<=(f.aN.length:Int)/\(f.aN.length:Int)<=12))):false=decide (aE1 p k f):=(decide_eq_false λz=>q ⟨z.1,z.2.1,z.2.2.1⟩).symm
 refine gX 91 aV8 dC bFD Tryz.func115 λh=>?_
 simp -dsimp -implicitDefEqProofs only[go_sem,↓reduceIte,Tryz.f115,ef,aU.aS,nU]
 repeat'(with_reducible first|intro _|refine And.intro ?_ ?_)
 all_goals try omega
 first|refine aJ.mk (aCP f.e8) ?_|refine aF.mk (aCP f.e8) ?_|refine aJ.bA (aCP f.e8) ?_|refine aF.mk (aX.cU (aCP f.e8)) ?_
 simp -dsimp -implicitDefEqProofs only[go_sem,↓reduceIte,Tryz.f115,ef,aU.aS]
 repeat'(with_reducible first|intro _|refine And.intro ?_ ?_)
 ·first|refine aJ.mk (gH f.aT 0 12) ?_|refine aF.mk (gH f.aT 0 12) ?_|refine aJ.bA (gH f.aT 0 12) ?_|refine aF.mk (aX.cU (gH f.aT 0 12)) ?_
  simp -dsimp -implicitDefEqProofs only[go_sem,↓reduceIte,Tryz.f115,ef,aU.aS]
  repeat'(with_reducible first|intro _|refine And.intro ?_ ?_)
  ·first|refine aJ.mk (gH f.aN.length 1 12) ?_|refine aF.mk (gH f.aN.length 1 12) ?_|refine aJ.bA (gH f.aN.length 1 12) ?_|refine aF.mk (aX.cU (gH f.aN.length 1 12)) ?_
   simp -dsimp -implicitDefEqProofs only[go_sem,↓reduceIte,Tryz.f115,ef,aU.aS]
   repeat'(with_reducible first|intro _|refine And.intro ?_ ?_)
   ·exact no λz=>by simp_all
   ·rename_i q1 q2 q3
    refine cZ aV8 dC bFD (λj:Nat=>[(0,.ip 1 [p.c] 0 0),(1,I k),(5,.ip 3 (p.aD.map aU.c) k 0),(6,I j)]) (λ_=>h) (λj=>j<=k/\∀ g∈p.aD.take j,g.e8≠f.e8) (λj=>k-j) 0 bJ7 ?_
    intro j ⟨hj,hp⟩
    simp only[aC.aS]
    rcases bZ j k with hlt|hge
    ·have eg:p.aD[j]?=some p.aD[j]:=cM aA
     simp -dsimp -implicitDefEqProofs only[go_sem,↓reduceIte,Tryz.f115,ef,eg,aU.aS,nU]
     repeat'(with_reducible first|intro _|refine And.intro ?_ ?_)
     all_goals try omega
     ·rename_i he
      refine(decide_eq_false λz=>z.2.2.2.1 p.aD[j] ?_ he).symm
      exact List.mem_take_iff_getElem.2 ⟨j,by omega,rfl⟩
     ·rename_i he
      refine⟨j+1,?_⟩
      repeat'(with_reducible refine And.intro ?_ ?_)
      all_goals try(rw[IntWalk.i64_in _ aA];first|rfl|omega)
      all_goals try omega
      all_goals try(repeat'(with_reducible first|exact aE.le_refl _|refine(bP lL).2 ?_))
      all_goals try(simp only[aC.aS];done)
      exact yL (P:=λg:aU=>g.e8≠f.e8) aA hp he
    ·have hj':j=k:=by omega
     rw[hj']at hp
     simp -dsimp -implicitDefEqProofs only[go_sem,↓reduceIte,Tryz.f115,hj',dB]
     have part (i:Nat) (hi:i<f.aN.length):i+((f.aN.take i).map aB.s).sum+f.aN[i].s+1<=uW aB.s f.aN:=by
      have h1:=nS aB.s f.aN i hi
      have h2:=zR aB.s f.aN (i+1)
      rw[l8];omega
     have hszs:uW aB.s f.aN<=f.s:=by rw[f.u9];omega
     refine cZ aV8 dC bFD (λi:Nat=>[(0,.ip 1 [p.c] 0 0),(1,I k),(5,.ip 3 (p.aD.map aU.c) k 0),(7,I (400-(i+((f.aN.take i).map aB.s).sum:Nat))),(8,I i)]) (λ_=>h) (λi=>i<=f.aN.length/\i+((f.aN.take i).map aB.s).sum<=400/\∀ e∈f.aN.take i,oH p e f.aT k) (λi=>f.aN.length-i) 0 bJ7 ?_
     intro i ⟨hi,hsum,hall⟩
     simp only[aC.aS]
     rcases bZ i f.aN.length with hlt|hge
     ·have h1:=nS aB.s f.aN i hlt
      have hpt:=part i hlt
      have hout:=aU.bQL (eI hlt)
      simp -dsimp -implicitDefEqProofs only[go_sem,↓reduceIte,Tryz.f115,ef,aU.aS,nU]
      repeat'(with_reducible first|intro _|refine And.intro ?_ ?_)
      all_goals try omega
      first|refine aF.mk ((aJX f.aN[i] (400-(i+((f.aN.take i).map aB.s).sum:Nat)) aA aA aA).sub gG) ?_|refine aJ.mk ((aJX f.aN[i] (400-(i+((f.aN.take i).map aB.s).sum:Nat)) aA aA aA).sub gG) ?_
      simp -dsimp -implicitDefEqProofs only[go_sem,↓reduceIte,Tryz.f115,ef,aU.aS]
      rcases aTV (400-(i+((f.aN.take i).map aB.s).sum:Nat)) (f.aN[i].s+1)with⟨e,hl1⟩|⟨e,hl1⟩
      ·simp -dsimp -implicitDefEqProofs only[go_sem,↓reduceIte,Tryz.f115,e]
       repeat'(with_reducible first|intro _|refine And.intro ?_ ?_)
       all_goals try omega
       all_goals exact(decide_eq_false λz=>by have:=z.2.2.2.2.1;omega).symm
      ·simp -dsimp -implicitDefEqProofs only[go_sem,↓reduceIte,Tryz.f115,e]
       repeat'(with_reducible first|intro _|refine And.intro ?_ ?_)
       all_goals try omega
       first|refine aF.mk ((a77 p f.aN[i] f.aT k aA aA).sub gG) ?_|refine aJ.mk ((a77 p f.aN[i] f.aT k aA aA).sub gG) ?_
       simp -dsimp -implicitDefEqProofs only[go_sem,↓reduceIte,Tryz.f115,ef,aU.aS]
       repeat'(with_reducible first|intro _|refine And.intro ?_ ?_)
       ·rename_i hn
        exact(decide_eq_false λz=>hn (z.2.2.2.2.2 _ (eI hlt))).symm
       ·rename_i hn
        refine⟨i+1,?_⟩
        repeat'(with_reducible refine And.intro ?_ ?_)
        all_goals try(rw[IntWalk.i64_in _ aA];first|rfl|omega)
        all_goals try omega
        all_goals try(repeat'(with_reducible first|exact aE.le_refl _|refine(bP lL).2 ?_))
        all_goals try(simp only[aC.aS];done)
        exact yL (P:=λe=>oH p e f.aT k) hlt hall hn
     ·have hi':i=f.aN.length:=by omega
      subst hi'
      rw[mR]at hsum hall
      simp -dsimp -implicitDefEqProofs only[go_sem,↓reduceIte,Tryz.f115,ef,aU.aS,bX]
      exact λ_=>(decide_eq_true ⟨by assumption,q1,q3,hp,by rw[l8];omega,hall⟩).symm
  ·exact no λz=>by simp_all
 ·exact no λz=>by simp_all
@[go_sem] def bFE:List Nat:=[0,2,3,9,16,22]
theorem bFF (p:aC) (hps:p.s<=4194304):fM Tryz.prog 52 [.ip 1 [p.c] 0 0] (.bool (decide p.ok)):=by
 simp only[aC.aS]
 refine gX 23 bFE dC cK Tryz.func52 λh=>?_
 simp -dsimp -implicitDefEqProofs only[go_sem,↓reduceIte,Tryz.f52]
 repeat'(with_reducible first|intro _|refine And.intro ?_ ?_)
 ·exact(decide_eq_false λz=>by have:=z.1;omega).symm
 refine cZ bFE dC cK (λk:Nat=>[(0,.ip 1 [p.c] 0 0),(3,I k)]) (λ_=>h) (λk=>k<=p.aD.length/\∀ (j:Nat) (f:aU),j<k->p.aD[j]?=some f->aE1 p j f) (λk=>p.aD.length-k) 0 bJ7 ?_
 intro k ⟨hk,hp⟩
 simp only[aC.aS]
 rcases bZ k p.aD.length with hlt|hge
 ·have eg:p.aD[k]?=some p.aD[k]:=cM aA
  simp -dsimp -implicitDefEqProofs only[go_sem,↓reduceIte,Tryz.f52]
  repeat'(with_reducible first|intro _|refine And.intro ?_ ?_)
  all_goals try omega
  first|refine aF.mk ((a78 p k p.aD[k] eg hps).sub gG) ?_|refine aJ.mk ((a78 p k p.aD[k] eg hps).sub gG) ?_
  simp -dsimp -implicitDefEqProofs only[go_sem,↓reduceIte,Tryz.f52]
  repeat'(with_reducible first|intro _|refine And.intro ?_ ?_)
  ·rename_i hn
   exact(decide_eq_false λz=>hn (z.2 k _ eg)).symm
  ·rename_i hn
   refine⟨k+1,?_⟩
   repeat'(with_reducible refine And.intro ?_ ?_)
   all_goals try(rw[IntWalk.i64_in _ aA];first|rfl|omega)
   all_goals try omega
   all_goals try(repeat'(with_reducible first|exact aE.le_refl _|refine(bP lL).2 ?_))
   all_goals try(simp only[aC.aS];done)
   intro j f hj ej
   rcases aS5.1 hj with h1|rfl
   ·exact hp j f h1 ej
   ·rw[eg]at ej;obtain rfl:=gV ej;exact hn
 ·have hk':k=p.aD.length:=by omega
  subst hk'
  simp -dsimp -implicitDefEqProofs only[go_sem,↓reduceIte,Tryz.f52,bX]
  exact λ_=>(decide_eq_true ⟨by omega,λj f ej=>hp j f (mS.1 ej).1 ej⟩).symm
theorem a3D (a:List aU) (p:aU->Bool) (g:FuncId) (cap:List aH) {h0:aE} (hc:∀ x∈a,aX Tryz.prog g ([(.agg (aU.c x))]++cap) (.bool (p x)) h0):aX Tryz.prog 114 [(fN 3 aU.c a),.fn (.func g) [] cap] (I (idxOf p a)) h0:=by
 refine aTS 19 bK7 dC cK Tryz.func114 λh hle=>?_
 simp -dsimp -implicitDefEqProofs only[go_sem,↓reduceIte,Tryz.f114,Tryz.f114]
 intro _
 refine cZ bK7 dC cK (λk:Nat=>[(0,(fN 3 aU.c a)),(1,.fn (.func g) [] cap),(7,I a.length),(8,I k)]) (λ_=>h) (λk=>k<=a.length/\∀ x∈a.take k,p x=false) (λk=>a.length-k) 0 aY7 ?_
 intro k ⟨hk,hp⟩
 rcases bZ k a.length with hlt|hge
 ·have ea:a[k]?=some a[k]:=cM hlt
  simp -dsimp -implicitDefEqProofs only[go_sem,↓reduceIte,Tryz.f114,Tryz.f114,ea,aU.aS]
  repeat'(with_reducible first|intro _|refine And.intro ?_ ?_)
  all_goals try omega
  have hx:=hc a[k] (eI hlt)
  simp only[aU.aS]at hx
  refine aJ.bA (hx.mono hle) ?_
  cases hpk:p a[k]with
  |true =>
   simp -dsimp -implicitDefEqProofs only[go_sem,↓reduceIte,Tryz.f114,Tryz.f114]
   repeat'(with_reducible first|intro _|refine And.intro ?_ ?_)
   all_goals first|exact(aCN hlt hp hpk).symm|rfl|(rw[aCN hlt hp hpk])
  |false =>
   simp -dsimp -implicitDefEqProofs only[go_sem,↓reduceIte,Tryz.f114,Tryz.f114]
   refine⟨k+1,?_⟩
   repeat'(with_reducible refine And.intro ?_ ?_)
   all_goals try(rw[IntWalk.i64_in _ aA];first|rfl|omega)
   all_goals try omega
   exact yL (P:=λx=>p x=false) hlt hp hpk
 ·have hk':k=a.length:=by omega
  subst hk'
  rw[mR]at hp
  simp -dsimp -implicitDefEqProofs only[go_sem,↓reduceIte,Tryz.f114,Tryz.f114,bX]
  all_goals first|exact(aCM hp).symm|rw[aCM hp]
theorem aQH (a:List aU) (p:aU->Bool) (g:FuncId) (cap:List aH) {h0:aE} (hc:∀ x∈a,aX Tryz.prog g ([(.agg (aU.c x))]++cap) (.bool (p x)) h0):aX Tryz.prog 50 [(fN 3 aU.c a),.fn (.func g) [] cap] (.bool (a.any p)) h0:=by
 refine aTS 9 aE0 dC cK Tryz.func50 λh hle=>?_
 simp -dsimp -implicitDefEqProofs only[go_sem,↓reduceIte,Tryz.f50,Tryz.f50]
 refine aJ.bA ((a3D a p g cap hc).mono hle) ?_
 simp -dsimp -implicitDefEqProofs only[go_sem,↓reduceIte,Tryz.f50,Tryz.f50]
 all_goals first|done|exact xL|rw[xL]
theorem aSZ (g f:aU) (n:Nat) {h0:aE} (hn:h0 n=some (.row 3 [f.c.map .v])):aX Tryz.prog 109 [.agg g.c,.op n 3 0 0] (.bool (decide (g.e8=f.e8))) h0:=by
 simp only[aU.aS]
 have hg (h:aE) (hle:h0.le h):=aE.aVV hle hn
 refine aTS 9 bQC bK6 cK Tryz.func109 λh hle=>?_
 simp -dsimp -implicitDefEqProofs only[go_sem,↓reduceIte,Tryz.f109]
 have hn':=hg h hle
 simp only[aU.aS]at hn'
 simp -dsimp -implicitDefEqProofs only[go_sem,↓reduceIte,Tryz.f109,hn']
@[go_sem] def a3E:List Nat:=[0,1,2,3,4,5,7,11,13,14,15,16,31,42,44,45,46,47,56,63]
theorem aCR (p:aC) (hps:p.s<=4194304):fM Tryz.prog 47 [.agg p.c] (.bool (decide p.ok)):=by
 simp only[aC.aS]
 refine gX 65 a3E a3A cK Tryz.func47 λh=>?_
 simp -dsimp -implicitDefEqProofs only[go_sem,↓reduceIte,Tryz.f47]
 repeat'(with_reducible first|intro _|refine And.intro ?_ ?_)
 ·exact(decide_eq_false λz=>by have:=z.1;omega).symm
 refine cZ a3E a3A cK (λk:Nat=>[(1,.ip 1 [p.c] 0 0),(13,fN 3 aU.c p.aD),(14,I p.aD.length),(15,I k)]) (λ_=>h) (λk=>k<=p.aD.length/\∀ (j:Nat) (f:aU),j<k->p.aD[j]?=some f->aE1 p j f) (λk=>p.aD.length-k) 0 bJ7 ?_
 intro k ⟨hk,hp⟩
 simp only[aC.aS]
 rcases bZ k p.aD.length with hlt|hge
 ·obtain⟨f,eg⟩:∃ f,p.aD[k]?=some f:=⟨_,cM hlt⟩
  have hfs:=aC.aQD (nO eg)
  have hos:=f.aQE
  have no (q:¬aE1 p k f):false=decide p.ok:=(decide_eq_false λz=>q (z.2 k f eg)).symm
  simp -dsimp -implicitDefEqProofs only[go_sem,↓reduceIte,Tryz.f47,eg,aU.aS,aO]
  repeat'(with_reducible first|intro _|refine And.intro ?_ ?_)
  all_goals try omega
  rename_i n hn
  first|refine aJ.mk (aV1 f.e8) ?_|refine aF.mk (aV1 f.e8) ?_|refine aJ.bA (aV1 f.e8) ?_|refine aF.mk (aX.cU (aV1 f.e8)) ?_
  simp -dsimp -implicitDefEqProofs only[go_sem,↓reduceIte,Tryz.f47,aG,aO]
  repeat'(with_reducible first|intro _|refine And.intro ?_ ?_)
  all_goals try(repeat'(with_reducible first|exact aE.le_refl _|refine(bP lL).2 ?_))
  all_goals try omega
  all_goals try(rename_i hnm;exact no λz=>hnm z.1)
  rename_i hnm
  rw[←aYU]
  refine aJ.bA (aQH (p.aD.take k) (λg=>decide (g.e8=f.e8)) 109 [.op n 3 0 0] λg _=>aSZ g f n (by simp[aG,aU.aS])) ?_
  simp -dsimp -implicitDefEqProofs only[go_sem,↓reduceIte,Tryz.f47,aG,aO]
  repeat'(with_reducible first|intro _|refine And.intro ?_ ?_)
  all_goals try(repeat'(with_reducible first|exact aE.le_refl _|refine(bP lL).2 ?_))
  ·rename_i q
   refine no λz=>?_
   obtain⟨g,o7,hg2⟩:=aOU.1 q
   exact z.2.2.2.1 g o7 (by simpa using hg2)
  rename_i hnd
  have hnd':∀ g∈p.aD.take k,g.e8≠f.e8:=λg hg=>by
   have:=List.any_eq_false.1 hnd g hg
   simpa using this
  first|refine aJ.mk (within f.aT 0 12) ?_|refine aF.mk (within f.aT 0 12) ?_|refine aJ.bA (within f.aT 0 12) ?_|refine aF.mk (aX.cU (within f.aT 0 12)) ?_
  simp -dsimp -implicitDefEqProofs only[go_sem,↓reduceIte,Tryz.f47,aG,aO]
  repeat'(with_reducible first|intro _|refine And.intro ?_ ?_)
  all_goals try(repeat'(with_reducible first|exact aE.le_refl _|refine(bP lL).2 ?_))
  ·first|refine aJ.mk (within f.aN.length 1 12) ?_|refine aF.mk (within f.aN.length 1 12) ?_|refine aJ.bA (within f.aN.length 1 12) ?_|refine aF.mk (aX.cU (within f.aN.length 1 12)) ?_
   simp -dsimp -implicitDefEqProofs only[go_sem,↓reduceIte,Tryz.f47,aG,aO]
   repeat'(with_reducible first|intro _|refine And.intro ?_ ?_)
   all_goals try(repeat'(with_reducible first|exact aE.le_refl _|refine(bP lL).2 ?_))
   ·rename_i q
    exact no λz=>q z.2.2.1
   ·rename_i q1 q2 q3 q4
    have part (i:Nat) (hi:i<f.aN.length):i+((f.aN.take i).map aB.s).sum+f.aN[i].s+1<=uW aB.s f.aN:=by
     have h1:=nS aB.s f.aN i hi
     have h2:=zR aB.s f.aN (i+1)
     rw[l8];omega
    have hszs:uW aB.s f.aN<=f.s:=by rw[f.u9];omega
    refine cZ a3E a3A cK (λi:Nat=>[(1,.ip 1 [p.c] 0 0),(3,I k),(4,.op n 3 0 0),(5,I ((i+((f.aN.take i).map aB.s).sum:Nat):Int)),(13,fN 3 aU.c p.aD),(14,I p.aD.length),(15,I k),(44,fN 5 aB.c f.aN),(45,I f.aN.length),(46,I i)]) (λ_=>aR h n (.row 3 [f.c.map .v])) (λi=>i<=f.aN.length/\∀ e∈f.aN.take i,oH p e f.aT k) (λi=>f.aN.length-i) 0 (by refine⟨by simp[c4,b7,aC.aS],by simp[aU.aS,aE.le_refl],by simp⟩) ?_
    intro i ⟨hi,hall⟩
    simp only[aC.aS,aU.aS,nZ,sX]
    rcases bZ i f.aN.length with mA|aQI
    ·have h1:=nS aB.s f.aN i mA
     have hpt:=part i mA
     have hout:=aU.bQL (eI mA)
     have ee:f.aN[i]?=some f.aN[i]:=cM mA
     have hv:=bBM p f.aN[i] f.aT k aA aA
     have hz:=aQA f.aN[i] aA
     simp only[aB.aS,aC.aS]at hv hz
     simp -dsimp -implicitDefEqProofs only[go_sem,↓reduceIte,Tryz.f47,ee,aB.aS,aO]
     repeat'(with_reducible first|intro _|refine And.intro ?_ ?_)
     all_goals try omega
     rename_i m hm
     have hmn:(n=m)=False:=eq_false λe=>hm.1 e.symm
     have bSX:(m=n)=False:=eq_false hm.1
     simp -dsimp -implicitDefEqProofs only[go_sem,↓reduceIte,Tryz.f47,aG,hmn,bSX]
     first|refine aJ.mk (hv) ?_|refine aF.mk (hv) ?_|refine aJ.bA (hv) ?_|refine aF.mk (aX.cU (hv)) ?_
     simp -dsimp -implicitDefEqProofs only[go_sem,↓reduceIte,Tryz.f47,aG,hmn,bSX]
     repeat'(with_reducible first|intro _|refine And.intro ?_ ?_)
     ·rename_i hne
      exact no λz=>hne (z.2.2.2.2.2 _ (eI mA))
     ·all_goals try(repeat'(with_reducible first|exact aE.le_refl _|refine(bP lL).2 ?_))
     ·rename_i hne
      first|refine aJ.mk (hz) ?_|refine aF.mk (hz) ?_|refine aJ.bA (hz) ?_|refine aF.mk (aX.cU (hz)) ?_
      simp -dsimp -implicitDefEqProofs only[go_sem,↓reduceIte,Tryz.f47,aG,hmn,bSX]
      refine⟨i+1,?_⟩
      repeat'(with_reducible refine And.intro ?_ ?_)
      all_goals try(rw[IntWalk.i64_in _ aA];first|rfl|omega)
      all_goals try omega
      all_goals try(repeat'(with_reducible first|exact aE.le_refl _|refine(bP lL).2 ?_))
      all_goals try(simp only[aC.aS];done)
      exact yL (P:=λe=>oH p e f.aT k) mA hall hne
    ·have hi':i=f.aN.length:=by omega
     subst hi'
     rw[mR]at hall ⊢
     simp -dsimp -implicitDefEqProofs only[go_sem,↓reduceIte,Tryz.f47,bX]
     have hss:uW aB.s f.aN=f.aN.length+(f.aN.map aB.s).sum:=l8 _ _
     repeat'(with_reducible first|intro _|refine And.intro ?_ ?_)
     all_goals try(repeat'(with_reducible first|exact aE.le_refl _|refine(bP lL).2 ?_))
     ·rename_i q
      exact no λz=>by have:=z.2.2.2.2.1;omega
     ·rename_i q
      have hfk:aE1 p k f:=⟨hnm,q1,q3,hnd',by omega,hall⟩
      refine⟨k+1,?_⟩
      repeat'(with_reducible refine And.intro ?_ ?_)
      all_goals try(rw[IntWalk.i64_in _ aA];first|rfl|omega)
      all_goals try omega
      all_goals try(repeat'(with_reducible first|exact aE.le_refl _|refine(bP lL).2 ?_))
      intro j f' hj ej
      rcases aS5.1 hj with h1|rfl
      ·exact hp j f' h1 ej
      ·rw[eg]at ej;obtain rfl:=gV ej;exact hfk
  ·rename_i q
   exact no λz=>q z.2.1
 ·have hk':k=p.aD.length:=by omega
  subst hk'
  simp -dsimp -implicitDefEqProofs only[go_sem,↓reduceIte,Tryz.f47,bX]
  exact(decide_eq_true ⟨by omega,λj f ej=>hp j f (mS.1 ej).1 ej⟩).symm
@[go_sem] def bSY:List Nat:=[0,1,2,4,5,9]
theorem bFG (p:aC) (f:Int) (hps:p.s<=4194304):fM Tryz.prog 60 [.agg p.c,I f] (I (if p.ok then if 0<=f/\f<=(p.aD.length:Int)-1 then 0 else 2 else 1)):=by
 have hv:=aCR p hps
 simp only[aC.aS]at hv ⊢
 refine gX 17 bSY bK6 cK Tryz.func60 λh=>?_
 simp -dsimp -implicitDefEqProofs only[go_sem,↓reduceIte,Tryz.f60]
 first|refine aJ.mk (hv) ?_|refine aF.mk (hv) ?_|refine aJ.bA (hv) ?_|refine aF.mk (aX.cU (hv)) ?_
 simp -dsimp -implicitDefEqProofs only[go_sem,↓reduceIte,Tryz.f60]
 repeat'(with_reducible first|intro _|refine And.intro ?_ ?_)
 ·rename_i hn
  rw[if_neg hn]
 ·rename_i hn _
  rw[if_pos hn]
  all_goals try simp(disch:=omega) only[IntWalk.i64_in]
  first|refine aJ.mk (within f 0 (p.aD.length-1)) ?_|refine aF.mk (within f 0 (p.aD.length-1)) ?_|refine aJ.bA (within f 0 (p.aD.length-1)) ?_|refine aF.mk (aX.cU (within f 0 (p.aD.length-1))) ?_
  simp -dsimp -implicitDefEqProofs only[go_sem,↓reduceIte,Tryz.f60]
  repeat'(with_reducible first|intro _|refine And.intro ?_ ?_)
  ·rename_i q
   rw[if_neg q]
  ·rename_i q
   rw[if_pos q]
@[go_sem] def b0T:List Nat:=[5]
theorem bSZ (l:List Int) (hl:l.length<=1048576):uT Tryz.prog 137 [fN 1 (λn=>[I n]) l] (QS (OS (oP I) 1 l)):=by
 refine aBC 8 bP9 b0T cK Tryz.func137 λh=>?_
 simp -dsimp -implicitDefEqProofs only[go_sem,↓reduceIte,Tryz.f137]
 repeat'(with_reducible first|intro _|refine And.intro ?_ ?_)
 all_goals try(first|exact a7M lF|exact a7N lF|exact zP lF|omega)
theorem a3F (l:List Int) (hl:l.length<=1048576):uT Tryz.prog 138 [fN 1 (λn=>[I n]) l] (QS (OS (oP I) 1 l)):=by
 refine aBC 6 aD2 a0C cK Tryz.func138 λh=>?_
 simp -dsimp -implicitDefEqProofs only[go_sem,↓reduceIte,Tryz.f138]
 repeat'(with_reducible first|intro _|refine And.intro ?_ ?_)
 all_goals try(first|exact a7M lF|exact a7N lF|exact zP lF|omega)
@[go_sem] def bFH:List Nat:=[0,1,2,3,5,9,10,11,12]
@[go_sem] def b0U:List Nat:=[19]
@[go_sem] def b0V:Marks:=λid=>match id with|6=>([1,2,3,5,7],(.op 0 (.op 1 (.op 2 (.op 3 (.op 4 (.op 5 (.op 6 (.op 7 .nil)))))))),[(1,3)])|_=>([],.nil,[])
theorem aQJ (x:aB) (hs:x.s<=1048576) (hk:∀ y∈x.aL,uT Tryz.prog 48 [.agg y.c] (QA y.o)):uT Tryz.prog 48 [.agg x.c] (QA x.o):=by
 have hs':=x.u9
 rw[l8]at hs'
 simp only[aB.aS]
 refine aBC 24 bFH b0U b0V Tryz.func48 λh=>?_
 try simp -dsimp -implicitDefEqProofs only[go_sem,↓reduceIte,Tryz.f48,aO,aI]
 intro n1 qn1
 have aAO:=qn1
 intro n2 qn2
 obtain⟨aQK,o8,o9,bS1⟩:=bB (show ¬n2=n1 from qn2.1)
 have l4:=qn2.2
 try simp -dsimp -implicitDefEqProofs only[go_sem,↓reduceIte,Tryz.f48,aO,aI,o8,o9]
 try(with_reducible intro _)
 refine cZ bFH b0U b0V (λs:Nat×List (List OV)×aE×Option Nat=>[(1,.op n1 5 0 0),(2,.op n2 5 0 0),(9,fN 5 aB.c x.aL),(10,I x.aL.length),(11,(I s.1))]) (λs=>(aR (aR (bY s.2.2.1 (.row 5 (OV.cells s.2.1)) s.2.2.2) n1 (.row 5 [[.v (I x.aP),.v (I x.aW),.v (I x.bR),.v (I x.bI),.v (gW 5 s.2.1.length s.2.2.2)]])) n2 (.row 5 [[.v (.int .i64 0),.v (.int .i64 0),.v (.int .i64 0),.v (.int .i64 0),.v (.bD)]]))) (λs=>s.1<=x.aL.length/\OR aB.o (x.aL.take s.1) s.2.1/\gB h (OV.bF s.2.1) s.2.2.1/\s.2.2.1 n1=none/\s.2.2.1 n2=none/\yJ s.2.2.1 s.2.1 s.2.2.2/\∀ n:Nat,s.2.2.2=some n->n≠n1/\n≠n2) (λs=>x.aL.length-s.1) (0,[],h,none) ?_ ?_
 ·exact⟨by simp[c4,b7],aDZ,fE _,trivial,gB.nil _,aAO,l4,rfl,by simp⟩
 rintro⟨k,es,g_,o_⟩ ⟨hkk,hor,hnew,aAO,l4,hos,hon⟩
 simp only at hkk hor hnew aAO l4 hos hon ⊢
 have hlen:es.length=k:=by have:=hor.length;simp at this;omega
 rcases bZ k x.aL.length with hlt|hge
 ·have ea:x.aL[k]?=some x.aL[k]:=cM hlt
  have hx:=hk x.aL[k] (eI hlt)
  simp only[aB.aS]at hx
  cases o_ with
  |none =>
   rw[kD]at hos
   subst hos
   try simp -dsimp -implicitDefEqProofs only[go_sem,↓reduceIte,Tryz.f48,aO,aI,o8,o9,ea,hlt,aQ,b5,aB.aS]
   intro n5 qn5
   obtain⟨aCS,kU,kV,a3G⟩:=bB (show ¬n5=n2 from qn5.1)
   obtain⟨a3H,aHP,aHQ,bS2⟩:=bB (show ¬n5=n1 from qn5.2.1)
   have uF:=qn5.2.2
   try simp -dsimp -implicitDefEqProofs only[go_sem,↓reduceIte,Tryz.f48,aO,aI,o8,o9,kU,kV,aHP,aHQ,ea,hlt,aQ,b5,aB.aS]
   refine aJ.wn3 (hx) aAO ⟨aQK,l4⟩ ⟨aCS,a3H,uF⟩ ?_
   rintro r l_ gb ⟨e_b,oeb,rfl,rfl⟩ wb aAO l4 uF
   have oob:=oeb
   rw[aB.pM]at oob
   obtain⟨aHR,rfl,pA⟩:=oob
   try simp -dsimp -implicitDefEqProofs only[go_sem,↓reduceIte,Tryz.f48,aO,aI,o8,o9,kU,kV,aHP,aHQ,ea,hlt,aQ,b5,pA.flat,pA.one,OV.dY,OV.bS,OV.jB]
   repeat'(with_reducible first|refine And.intro aGT ?_)
   intro m qm
   obtain⟨b0W,bFI,bFJ,b0X⟩:=bB (show ¬m=n5 from qm.1)
   obtain⟨aQL,aQM,aQN,bFK⟩:=bB (show ¬m=n2 from qm.2.1)
   obtain⟨aQO,aQP,aQQ,bFL⟩:=bB (show ¬m=n1 from qm.2.2.1)
   have z_m:=qm.2.2.2
   try simp -dsimp -implicitDefEqProofs only[go_sem,↓reduceIte,Tryz.f48,aO,aI,o8,o9,kU,kV,aHP,aHQ,bFI,bFJ,aQM,aQN,aQP,aQQ,ea,hlt,aQ,b5,pA.flat,pA.one,OV.dY,OV.bS,OV.jB]
   refine⟨(k+1,([]:List (List OV))++[[.v (.int .i64 x.aL[k].aP),.v (.int .i64 x.aL[k].aW),.v (.int .i64 x.aL[k].bR),.v (.int .i64 x.aL[k].bI),aHR]],gb,some m),?_⟩
   simp only
   refine⟨?_,aDZ,⟨by omega,OR.snoc hor hlt oeb,hnew.snoc wb,aAO,l4,z_m,(λn_ e_=>by obtain rfl:=gV e_;exact⟨aQO,aQL⟩)⟩,by omega⟩
   all_goals(repeat'(with_reducible refine And.intro ?_ ?_))
   all_goals first|rfl|trivial|(rw[IntWalk.i64_in _ aA];omega)
  |some n =>
   rw[jX]at hos
   have z_n:=hos
   have hn:=hon n rfl
   obtain⟨b0Z,aM6,aM7,bFM⟩:=bB (show ¬n=n1 from hn.1)
   obtain⟨b00,aM8,aM9,bFN⟩:=bB (show ¬n=n2 from hn.2)
   try simp -dsimp -implicitDefEqProofs only[go_sem,↓reduceIte,Tryz.f48,aO,aI,o8,o9,aM6,aM7,aM8,aM9,ea,hlt,aK,aY,aB.aS]
   intro n5 qn5
   obtain⟨aCS,kU,kV,a3G⟩:=bB (show ¬n5=n2 from qn5.1)
   obtain⟨a3H,aHP,aHQ,bS2⟩:=bB (show ¬n5=n1 from qn5.2.1)
   obtain⟨b01,bFO,bFP,cCN⟩:=bB (show ¬n5=n from qn5.2.2.1)
   have uF:=qn5.2.2.2
   try simp -dsimp -implicitDefEqProofs only[go_sem,↓reduceIte,Tryz.f48,aO,aI,o8,o9,aM6,aM7,aM8,aM9,kU,kV,aHP,aHQ,bFO,bFP,ea,hlt,aK,aY,aB.aS]
   refine aJ.wn4 (hx) z_n ⟨bFM,aAO⟩ ⟨aQK,bFN,l4⟩ ⟨aCS,a3H,b01,uF⟩ ?_
   rintro r l_ gb ⟨e_b,oeb,rfl,rfl⟩ wb z_n aAO l4 uF
   have oob:=oeb
   rw[aB.pM]at oob
   obtain⟨aHR,rfl,pA⟩:=oob
   try simp -dsimp -implicitDefEqProofs only[go_sem,↓reduceIte,Tryz.f48,aO,aI,o8,o9,aM6,aM7,aM8,aM9,kU,kV,aHP,aHQ,bFO,bFP,ea,hlt,aK,aY,pA.flat,pA.one,OV.dY,OV.bS,OV.jB]
   repeat'(with_reducible first|refine And.intro aGT ?_)
   intro m qm
   obtain⟨b0W,bFI,bFJ,b0X⟩:=bB (show ¬m=n5 from qm.1)
   obtain⟨aQL,aQM,aQN,bFK⟩:=bB (show ¬m=n2 from qm.2.1)
   obtain⟨aQO,aQP,aQQ,bFL⟩:=bB (show ¬m=n1 from qm.2.2.1)
   obtain⟨b8M,bS4,bS5,b8N⟩:=bB (show ¬m=n from qm.2.2.2.1)
   have z_m:=qm.2.2.2.2
   try simp -dsimp -implicitDefEqProofs only[go_sem,↓reduceIte,Tryz.f48,aO,aI,o8,o9,aM6,aM7,aM8,aM9,kU,kV,aHP,aHQ,bFO,bFP,bFI,bFJ,aQM,aQN,aQP,aQQ,bS4,bS5,ea,hlt,aK,aY,pA.flat,pA.one,OV.dY,OV.bS,OV.jB]
   refine⟨(k+1,es++[[.v (.int .i64 x.aL[k].aP),.v (.int .i64 x.aL[k].aW),.v (.int .i64 x.aL[k].bR),.v (.int .i64 x.aL[k].bI),aHR]],gb,some m),?_⟩
   simp only
   refine⟨?_,aDZ,⟨by omega,OR.snoc hor hlt oeb,hnew.snoc wb,aAO,l4,z_m,(λn_ e_=>by obtain rfl:=gV e_;exact⟨aQO,aQL⟩)⟩,by omega⟩
   all_goals(repeat'(with_reducible refine And.intro ?_ ?_))
   all_goals first|rfl|trivial|(rw[IntWalk.i64_in _ aA];omega)
 ·have hk2:k=x.aL.length:=by omega
  subst hk2
  rw[mR]at hor
  have b02:bY g_ (.row 5 (OV.cells es)) o_ n1=none:=fU aAO λn_ e_=>(hon n_ e_).1
  have b03:bY g_ (.row 5 (OV.cells es)) o_ n2=none:=fU l4 λn_ e_=>(hon n_ e_).2
  try simp -dsimp -implicitDefEqProofs only[go_sem,↓reduceIte,Tryz.f48,aO,aI,o8,o9,kH,s7,bX]
  try(with_reducible intro _)
  refine⟨_,(bY g_ (.row 5 (OV.cells es)) o_),_,Shift.of (Sub.agg (qV.cons (Sub.refl _) (qV.cons (Sub.refl _) (qV.cons (Sub.refl _) (qV.cons (Sub.refl _) (qV.cons aFT qV.nil)))))) aDZ,⟨[.v (I x.aP),.v (I x.aW),.v (I x.bR),.v (I x.bI),(gov 5 es o_)],?_,rfl,rfl⟩,?_⟩
  ·rw[aB.pM];exact⟨(gov 5 es o_),rfl,aCL hor hos⟩
  ·have hq:=(xK (sz:=5) hnew hos)
   simpa only[OV.fC,OV.gZ,OV.sZ,lW,dT,aD6]using hq
theorem aT0 (x:aB) (hs:x.s<=1048576):uT Tryz.prog 48 [.agg x.c] (QA x.o) :=
 aQJ x hs λy hy=>aT0 y bPL
termination_by SizeOf.sizeOf x
decreasing_by exact aB.wQ hy
@[go_sem] def a79:List Nat:=[0,2,3,4,28]
@[go_sem] def bQM:List Nat:=[40]
@[go_sem] def bQN:Marks:=λid=>match id with|1=>([17,18],(.op 0 (.op 1 (.op 2 (.op 3 (.op 4 (.op 5 (.op 6 (.op 7 (.op 8 (.op 9 (.op 10 (.op 11 (.op 12 (.op 13 (.op 14 (.op 15 (.op 16 (.op 17 (.op 18 .nil))))))))))))))))))),[])|5=>([1,8,10,12],(.op 0 (.op 2 (.op 3 (.op 4 (.op 5 (.op 6 (.op 7 (.op 1 (.op 8 (.op 9 (.op 10 (.op 11 (.op 12 .nil))))))))))))),[(1,8)])|_=>([],.nil,[])
theorem a0K (x:aB) (hs:x.s<=1048576) (hk:∀ y∈x.aL,uT Tryz.prog 116 [.ip 5 [y.c] 0 0] (QA y.o)):uT Tryz.prog 116 [.ip 5 [x.c] 0 0] (QA x.o):=by
 have hs':=x.u9
 rw[l8]at hs'
 simp only[aB.aS]
 refine aBC 44 a79 bQM bQN Tryz.func116 λh=>?_
 try simp -dsimp -implicitDefEqProofs only[go_sem,↓reduceIte,Tryz.f116,aO,aI]
 intro n1 qn1
 have aAO:=qn1
 intro n2 qn2
 obtain⟨aQK,o8,o9,bS1⟩:=bB (show ¬n2=n1 from qn2.1)
 have l4:=qn2.2
 try simp -dsimp -implicitDefEqProofs only[go_sem,↓reduceIte,Tryz.f116,aO,aI,o8,o9]
 try(with_reducible intro _)
 refine cZ a79 bQM bQN (λs:Nat×List (List OV)×aE×Option Nat=>[(0,.ip 5 [[I x.aP,I x.aW,I x.bR,I x.bI,fN 5 aB.c x.aL]] 0 0),(2,.op n1 5 0 0),(3,.op n2 5 0 0),(4,(I s.1))]) (λs=>(aR (aR (bY s.2.2.1 (.row 5 (OV.cells s.2.1)) s.2.2.2) n1 (.row 5 [[.v (.int .i64 0),.v (.int .i64 0),.v (.int .i64 0),.v (.int .i64 0),.v (.bD)]])) n2 (.row 5 [[.v (I x.aP),.v (I x.aW),.v (I x.bR),.v (I x.bI),.v (gW 5 s.2.1.length s.2.2.2)]]))) (λs=>s.1<=x.aL.length/\OR aB.o (x.aL.take s.1) s.2.1/\gB h (OV.bF s.2.1) s.2.2.1/\s.2.2.1 n1=none/\s.2.2.1 n2=none/\yJ s.2.2.1 s.2.1 s.2.2.2/\∀ n:Nat,s.2.2.2=some n->n≠n1/\n≠n2) (λs=>x.aL.length-s.1) (0,[],h,none) ?_ ?_
 ·exact⟨by simp[c4,b7],aDZ,fE _,trivial,gB.nil _,aAO,l4,rfl,by simp⟩
 rintro⟨k,es,g_,o_⟩ ⟨hkk,hor,hnew,aAO,l4,hos,hon⟩
 simp only at hkk hor hnew aAO l4 hos hon ⊢
 have hlen:es.length=k:=by have:=hor.length;simp at this;omega
 rcases bZ k x.aL.length with hlt|hge
 ·have ea:x.aL[k]?=some x.aL[k]:=cM hlt
  have hx:=hk x.aL[k] (eI hlt)
  cases o_ with
  |none =>
   rw[kD]at hos
   subst hos
   try simp -dsimp -implicitDefEqProofs only[go_sem,↓reduceIte,Tryz.f116,aO,aI,o8,o9,ea,hlt,aQ,b5,aB.aS]
   try(with_reducible intro _)
   refine aJ.wn2 (uT.sub gG hx) aAO ⟨aQK,l4⟩ ?_
   rintro r l_ gb ⟨e_b,oeb,rfl,rfl⟩ wb aAO l4
   have oob:=oeb
   rw[aB.pM]at oob
   obtain⟨aHR,rfl,pA⟩:=oob
   try simp -dsimp -implicitDefEqProofs only[go_sem,↓reduceIte,Tryz.f116,aO,aI,o8,o9,ea,hlt,aQ,b5,pA.flat,pA.one,OV.dY,OV.bS,OV.jB]
   repeat'(with_reducible first|refine And.intro aGT ?_)
   intro m qm
   obtain⟨aQL,aQM,aQN,bFK⟩:=bB (show ¬m=n2 from qm.1)
   obtain⟨aQO,aQP,aQQ,bFL⟩:=bB (show ¬m=n1 from qm.2.1)
   have z_m:=qm.2.2
   try simp -dsimp -implicitDefEqProofs only[go_sem,↓reduceIte,Tryz.f116,aO,aI,o8,o9,aQM,aQN,aQP,aQQ,ea,hlt,aQ,b5,pA.flat,pA.one,OV.dY,OV.bS,OV.jB]
   refine⟨(k+1,([]:List (List OV))++[[.v (.int .i64 x.aL[k].aP),.v (.int .i64 x.aL[k].aW),.v (.int .i64 x.aL[k].bR),.v (.int .i64 x.aL[k].bI),aHR]],gb,some m),?_⟩
   simp only
   refine⟨?_,aDZ,⟨by omega,OR.snoc hor hlt oeb,hnew.snoc wb,aAO,l4,z_m,(λn_ e_=>by obtain rfl:=gV e_;exact⟨aQO,aQL⟩)⟩,by omega⟩
   all_goals(repeat'(with_reducible refine And.intro ?_ ?_))
   all_goals first|rfl|trivial|(rw[IntWalk.i64_in _ aA];omega)
  |some n =>
   rw[jX]at hos
   have z_n:=hos
   have hn:=hon n rfl
   obtain⟨b0Z,aM6,aM7,bFM⟩:=bB (show ¬n=n1 from hn.1)
   obtain⟨b00,aM8,aM9,bFN⟩:=bB (show ¬n=n2 from hn.2)
   try simp -dsimp -implicitDefEqProofs only[go_sem,↓reduceIte,Tryz.f116,aO,aI,o8,o9,aM6,aM7,aM8,aM9,ea,hlt,aK,aY,aB.aS]
   try(with_reducible intro _)
   refine aJ.wn3 (uT.sub gG hx) z_n ⟨bFM,aAO⟩ ⟨aQK,bFN,l4⟩ ?_
   rintro r l_ gb ⟨e_b,oeb,rfl,rfl⟩ wb z_n aAO l4
   have oob:=oeb
   rw[aB.pM]at oob
   obtain⟨aHR,rfl,pA⟩:=oob
   try simp -dsimp -implicitDefEqProofs only[go_sem,↓reduceIte,Tryz.f116,aO,aI,o8,o9,aM6,aM7,aM8,aM9,ea,hlt,aK,aY,pA.flat,pA.one,OV.dY,OV.bS,OV.jB]
   repeat'(with_reducible first|refine And.intro aGT ?_)
   intro m qm
   obtain⟨aQL,aQM,aQN,bFK⟩:=bB (show ¬m=n2 from qm.1)
   obtain⟨aQO,aQP,aQQ,bFL⟩:=bB (show ¬m=n1 from qm.2.1)
   obtain⟨b8M,bS4,bS5,b8N⟩:=bB (show ¬m=n from qm.2.2.1)
   have z_m:=qm.2.2.2
   try simp -dsimp -implicitDefEqProofs only[go_sem,↓reduceIte,Tryz.f116,aO,aI,o8,o9,aM6,aM7,aM8,aM9,aQM,aQN,aQP,aQQ,bS4,bS5,ea,hlt,aK,aY,pA.flat,pA.one,OV.dY,OV.bS,OV.jB]
   refine⟨(k+1,es++[[.v (.int .i64 x.aL[k].aP),.v (.int .i64 x.aL[k].aW),.v (.int .i64 x.aL[k].bR),.v (.int .i64 x.aL[k].bI),aHR]],gb,some m),?_⟩
   simp only
   refine⟨?_,aDZ,⟨by omega,OR.snoc hor hlt oeb,hnew.snoc wb,aAO,l4,z_m,(λn_ e_=>by obtain rfl:=gV e_;exact⟨aQO,aQL⟩)⟩,by omega⟩
   all_goals(repeat'(with_reducible refine And.intro ?_ ?_))
   all_goals first|rfl|trivial|(rw[IntWalk.i64_in _ aA];omega)
 ·have hk2:k=x.aL.length:=by omega
  subst hk2
  rw[mR]at hor
  have b02:bY g_ (.row 5 (OV.cells es)) o_ n1=none:=fU aAO λn_ e_=>(hon n_ e_).1
  have b03:bY g_ (.row 5 (OV.cells es)) o_ n2=none:=fU l4 λn_ e_=>(hon n_ e_).2
  try simp -dsimp -implicitDefEqProofs only[go_sem,↓reduceIte,Tryz.f116,aO,aI,o8,o9,kH,s7,bX]
  try(with_reducible intro _)
  refine⟨_,(bY g_ (.row 5 (OV.cells es)) o_),_,Shift.of (Sub.agg (qV.cons (Sub.refl _) (qV.cons (Sub.refl _) (qV.cons (Sub.refl _) (qV.cons (Sub.refl _) (qV.cons aFT qV.nil)))))) aDZ,⟨[.v (I x.aP),.v (I x.aW),.v (I x.bR),.v (I x.bI),(gov 5 es o_)],?_,rfl,rfl⟩,?_⟩
  ·rw[aB.pM];exact⟨(gov 5 es o_),rfl,aCL hor hos⟩
  ·have hq:=(xK (sz:=5) hnew hos)
   simpa only[OV.fC,OV.gZ,OV.sZ,lW,dT,aD6]using hq
theorem a3I (x:aB) (hs:x.s<=1048576):uT Tryz.prog 116 [.ip 5 [x.c] 0 0] (QA x.o) :=
 a0K x hs λy hy=>a3I y bPL
termination_by SizeOf.sizeOf x
decreasing_by exact aB.wQ hy
end Go.Hl

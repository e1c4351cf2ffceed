/-
  Contracts of functions and laws of the layer over the walk.
-/
import Derived.Test.YtchbdakgjlnbgaaGreatDoorProg
import Derived.Shelf.Strconv.Itoa4
import Derived.Shelf.Strings.OnBuilder
import Derived.Shelf.LaysM
import Derived.KernelRfl
import Derived.Lib.Split
import Derived.Lib.ParseIntB
import Derived.Lib.ItoaNum
import Derived.Lib.ItoaMem
import Derived.Lib.Join
import Derived.Test.YtchbdakgjlnbgaaGreatDoorHlD
import Derived.Shelf.Strings.Split
import Derived.Shelf.Strings.Cut
import Derived.Shelf.Strconv.ParseIntPublic10
import Derived.Shelf.Slices.Turned
namespace Go.Hl
open Go.Proofs
set_option linter.unusedVariables false
set_option linter.unusedSimpArgs false
end Go.Hl
namespace Go.Proofs
open Go.Shelf
def Tryz.aYO:Go.Shelf.Ren:=⟨fun|173=>130|246=>173|283=>209|284=>210|285=>211|286=>212|129=>232|317=>231|318=>233|319=>234|320=>235|337=>251|338=>252|n=>n,fun|2=>2|3=>3|9=>9|4=>4|171=>237|0=>0|53=>238|37=>214|5=>5|173=>241|212=>275|51=>271|20=>20|213=>276|46=>236|232=>319|233=>320|n=>n,fun|17=>1|18=>4|19=>5|n=>n⟩
theorem Tryz.bGZ:Go.Proofs.LaysM.n173 Tryz.prog Tryz.aYO:={
 mixed:=by kernel_rfl
 f129:=Tryz.func232.trans (congrArg some (by kernel_rfl))
 f173:=Tryz.func130.trans (congrArg some (by kernel_rfl))
 f246:=Tryz.func173.trans (congrArg some (by kernel_rfl))
 f283:=Tryz.func209.trans (congrArg some (by kernel_rfl))
 f284:=Tryz.func210.trans (congrArg some (by kernel_rfl))
 f285:=Tryz.func211.trans (congrArg some (by kernel_rfl))
 f286:=Tryz.func212.trans (congrArg some (by kernel_rfl))
 f317:=Tryz.func231.trans (congrArg some (by kernel_rfl))
 f318:=Tryz.func233.trans (congrArg some (by kernel_rfl))
 f319:=Tryz.func234.trans (congrArg some (by kernel_rfl))
 f320:=Tryz.func235.trans (congrArg some (by kernel_rfl))
 f337:=Tryz.func251.trans (congrArg some (by kernel_rfl))
 f338:=Tryz.func252.trans (congrArg some (by kernel_rfl))
 t0:=Tryz.underlying0
 a0:=Tryz.isAgg0
 z0:=Tryz.sizeOf0
 v0:=Tryz.zeroValue0
 t2:=Tryz.underlying2
 a2:=Tryz.isAgg2
 z2:=Tryz.sizeOf2
 v2:=Tryz.zeroValue2
 t3:=Tryz.underlying3
 a3:=Tryz.isAgg3
 z3:=Tryz.sizeOf3
 v3:=Tryz.zeroValue3
 t4:=Tryz.underlying4
 a4:=Tryz.isAgg4
 z4:=Tryz.sizeOf4
 v4:=Tryz.zeroValue4
 t5:=Tryz.underlying5
 a5:=Tryz.isAgg5
 z5:=Tryz.sizeOf5
 v5:=Tryz.zeroValue5
 t9:=Tryz.underlying9
 a9:=Tryz.isAgg9
 z9:=Tryz.sizeOf9
 v9:=Tryz.zeroValue9
 t20:=Tryz.underlying20
 a20:=Tryz.isAgg20
 z20:=Tryz.sizeOf20
 v20:=Tryz.zeroValue20
 t37:=Tryz.underlying214
 a37:=Tryz.isAgg214
 z37:=Tryz.sizeOf214
 v37:=Tryz.zeroValue214
 t46:=Tryz.underlying236
 a46:=Tryz.isAgg236
 z46:=Tryz.sizeOf236
 v46:=Tryz.zeroValue236
 t51:=Tryz.underlying271
 a51:=Tryz.isAgg271
 z51:=Tryz.sizeOf271
 v51:=Tryz.zeroValue271
 t53:=Tryz.underlying238
 a53:=Tryz.isAgg238
 z53:=Tryz.sizeOf238
 v53:=Tryz.zeroValue238
 t171:=Tryz.underlying237
 a171:=Tryz.isAgg237
 z171:=Tryz.sizeOf237
 v171:=Tryz.zeroValue237
 t173:=Tryz.underlying241
 a173:=Tryz.isAgg241
 z173:=Tryz.sizeOf241
 v173:=Tryz.zeroValue241
 t212:=Tryz.underlying275
 a212:=Tryz.isAgg275
 z212:=Tryz.sizeOf275
 v212:=Tryz.zeroValue275
 t213:=Tryz.underlying276
 a213:=Tryz.isAgg276
 z213:=Tryz.sizeOf276
 t232:=Tryz.underlying319
 a232:=Tryz.isAgg319
 z232:=Tryz.sizeOf319
 v232:=Tryz.zeroValue319
 t233:=Tryz.underlying320
 a233:=Tryz.isAgg320
 z233:=Tryz.sizeOf320
 v233:=Tryz.zeroValue320
 g17:=by kernel_rfl
 g18:=by kernel_rfl
 g19:=by kernel_rfl
 i0:=by kernel_rfl
 i2:=by kernel_rfl
 i3:=by kernel_rfl
 i4:=by kernel_rfl
 i5:=by kernel_rfl
 i9:=by kernel_rfl
 i20:=by kernel_rfl
 i37:=by kernel_rfl
 i46:=by kernel_rfl
 i51:=by kernel_rfl
 i53:=by kernel_rfl
 i171:=by kernel_rfl
 i173:=by kernel_rfl
 i212:=by kernel_rfl
 i232:=by kernel_rfl
 i233:=by kernel_rfl
 m17:=by kernel_rfl
 m18:=by kernel_rfl
 m19:=by kernel_rfl }
open Go.RowKit Go.Sort Go.Lib in
theorem Tryz.strconv_FormatInt_10 (n:Int) (h0:-9223372036854775808<=n) (h1:n<=9223372036854775807) (w:World) (htab:Lib.TabIs Tryz.prog w "internal/strconv.uint64pow10" .u64 Lib.pow10Tab) :
  Calls Tryz.prog 130 #[.int .i64 n,.int .i64 10] w λe w'=>e=.returned (.string ⟨(Lib.itoa n).toArray⟩)/\∃ k os,w'=grow (w.drewN k) os:=Any.strconv_FormatInt_10 Tryz.bGZ n h0 h1 w htab
def Tryz.aO5:Go.Shelf.Ren:=⟨fun|156=>214|165=>238|166=>239|169=>240|240=>258|241=>259|276=>269|277=>270|n=>n,fun|31=>145|9=>9|3=>3|4=>4|0=>0|20=>20|72=>281|76=>283|70=>279|37=>214|75=>244|127=>310|164=>326|5=>5|80=>285|n=>n,fun|n=>n⟩
theorem Tryz.bAY:Go.Proofs.Lays.n156 Tryz.prog Tryz.aO5:={
 mixed:=by kernel_rfl
 f156:=Tryz.func214.trans (congrArg some (by kernel_rfl))
 f165:=Tryz.func238.trans (congrArg some (by kernel_rfl))
 f166:=Tryz.func239.trans (congrArg some (by kernel_rfl))
 f169:=Tryz.func240.trans (congrArg some (by kernel_rfl))
 f240:=Tryz.func258.trans (congrArg some (by kernel_rfl))
 f241:=Tryz.func259.trans (congrArg some (by kernel_rfl))
 f276:=Tryz.func269.trans (congrArg some (by kernel_rfl))
 f277:=Tryz.func270.trans (congrArg some (by kernel_rfl))
 t0:=Tryz.underlying0
 a0:=Tryz.isAgg0
 z0:=Tryz.sizeOf0
 v0:=Tryz.zeroValue0
 t3:=Tryz.underlying3
 a3:=Tryz.isAgg3
 z3:=Tryz.sizeOf3
 v3:=Tryz.zeroValue3
 t4:=Tryz.underlying4
 a4:=Tryz.isAgg4
 z4:=Tryz.sizeOf4
 v4:=Tryz.zeroValue4
 t9:=Tryz.underlying9
 a9:=Tryz.isAgg9
 z9:=Tryz.sizeOf9
 v9:=Tryz.zeroValue9
 t20:=Tryz.underlying20
 a20:=Tryz.isAgg20
 z20:=Tryz.sizeOf20
 v20:=Tryz.zeroValue20
 t31:=Tryz.underlying145
 a31:=Tryz.isAgg145
 z31:=Tryz.sizeOf145
 v31:=Tryz.zeroValue145
 t37:=Tryz.underlying214
 a37:=Tryz.isAgg214
 z37:=Tryz.sizeOf214
 v37:=Tryz.zeroValue214
 t70:=Tryz.underlying279
 a70:=Tryz.isAgg279
 z70:=Tryz.sizeOf279
 v70:=Tryz.zeroValue279
 t72:=Tryz.underlying281
 a72:=Tryz.isAgg281
 z72:=Tryz.sizeOf281
 v72:=Tryz.zeroValue281
 t75:=Tryz.underlying244
 a75:=Tryz.isAgg244
 z75:=Tryz.sizeOf244
 v75:=Tryz.zeroValue244
 t76:=Tryz.underlying283
 a76:=Tryz.isAgg283
 z76:=Tryz.sizeOf283
 v76:=Tryz.zeroValue283
 t127:=Tryz.underlying310
 a127:=Tryz.isAgg310
 z127:=Tryz.sizeOf310
 v127:=Tryz.zeroValue310
 t164:=Tryz.underlying326
 a164:=Tryz.isAgg326
 z164:=Tryz.sizeOf326
 v164:=Tryz.zeroValue326 }
theorem Tryz.aB8:Builder.Extra Tryz.prog Tryz.aO5:={
 sizeBuilder:=by kernel_rfl
 liesBuilder:=by kernel_rfl
 t5:=Tryz.underlying5
 a5:=Tryz.isAgg5
 z5:=Tryz.sizeOf5
 v5:=Tryz.zeroValue5
 infoByte:=by kernel_rfl
 cellsByte:=by kernel_rfl
 sizeByte:=by kernel_rfl
 neB5:=by decide }
open Go.RowKit in
theorem Tryz.strings_Join_none (a:Option Addr) (c:Nat) (sep:ByteArray) (w:World) :
  Calls Tryz.prog 214 #[.slice a 0 c,.string sep] w λe w'=>e=.returned (.string ⟨#[]⟩)/\w'=w:=Any.strings_Join_none Tryz.bAY Tryz.aB8 a c sep w
open Go.RowKit in
theorem Tryz.strings_Join (bk o c:Nat) (xs:List ByteArray) (sep:ByteArray) (w:World) (hcells:∀ (j:Nat) x,xs[j]?=some x->w.cell? ⟨bk,o+j,none⟩=some (.string x)) (hbk:bk<w.heap.size) (hN:xs.length<=140737488355328) (hcap:xs.length<=c) (hlen:(Lib.join (xs.map (·.data.toList)) sep.data.toList).length<=140737488355328) :
  Calls Tryz.prog 214 #[.slice (some ⟨bk,o,none⟩) xs.length c,.string sep] w λe w'=>e=.returned (.string ⟨(Lib.join (xs.map (·.data.toList)) sep.data.toList).toArray⟩)/\Below w.heap.size w w':=Any.strings_Join Tryz.bAY Tryz.aB8 bk o c xs sep w hcells hbk hN hcap hlen
end Go.Proofs
namespace Go.Hl
open Go.Proofs
set_option linter.unusedVariables false
set_option linter.unusedSimpArgs false
def mM (c:UInt8):List UInt8->List (List UInt8)
 | []=>[[]]
 |x::l=>if x=c then[]::mM c l else match mM c l with|[]=>[[x]]|a::r=>(x::a)::r
theorem bAZ (c:UInt8):mM c []=[[]]:=rfl
theorem aQU (c:UInt8) (l:List UInt8):mM c (c::l)=[]::mM c l:=by rw[mM,if_pos rfl]
theorem aJD (c:UInt8):∀ l,mM c l≠[]
 | []=>by simp[mM]
 |x::l=>by
  rw[mM];split
  ·simp
  ·split <;> simp
theorem aGG {c x:UInt8} (h:x≠c) (l:List UInt8):∃ a r,mM c l=a::r/\mM c (x::l)=(x::a)::r:=by
 cases e:mM c l with
 |nil=>exact absurd e (aJD c l)
 |cons a r=>exact⟨a,r,rfl,by rw[mM,if_neg h,e]⟩
theorem aEF {c:UInt8}:∀ (a:List UInt8) (l:List UInt8),c∉a->mM c (a++c::l)=a::mM c l
 | [],l,_=>aQU c l
 |x::a,l,h=>by
  simp only[List.mem_cons,not_or]at h
  obtain⟨p,r,h1,h2⟩:=aGG (c:=c) (x:=x) (λe=>h.1 e.symm) (a++c::l)
  rw[aEF a l h.2]at h1
  rw[List.cons_append,h2]
  injection h1 with h1 h3
  subst h1;subst h3;rfl
theorem vO {c:UInt8}:∀ (a:List UInt8),c∉a->mM c a=[a]
 | [],_=>rfl
 |x::a,h=>by
  simp only[List.mem_cons,not_or]at h
  obtain⟨p,r,h1,h2⟩:=aGG (c:=c) (x:=x) (λe=>h.1 e.symm) a
  rw[vO a h.2]at h1
  rw[h2]
  injection h1 with h1 h3
  subst h1;subst h3;rfl
theorem aK3 {c:UInt8}:∀ (l:List UInt8),∀ p∈mM c l,c∉p
 | [],p,hp=>by simp[mM]at hp;subst hp;simp
 |x::l,p,hp=>by
  by_cases e:x=c
  ·rw[mM,if_pos e]at hp
   rcases List.mem_cons.1 hp with rfl|hp
   ·simp
   ·exact aK3 l p hp
  ·obtain⟨a,r,h1,h2⟩:=aGG e l
   rw[h2]at hp
   rcases List.mem_cons.1 hp with rfl|hp
   ·simp only[List.mem_cons,not_or]
    exact⟨λq=>e q.symm,aK3 l a (by rw[h1];simp)⟩
   ·exact aK3 l p (by rw[h1];simp[hp])
theorem yB (c:UInt8):∀ l:List UInt8,(c∉l)∨∃ a r,c∉a/\l=a++c::r
 | []=>.inl (by simp)
 |x::l=>by
  by_cases e:x=c
  ·subst e;exact .inr ⟨[],l,by simp,rfl⟩
  ·rcases yB c l with h|⟨a,r,h1,h2⟩
   ·exact .inl (by simp only[List.mem_cons,not_or];exact⟨λq=>e q.symm,h⟩)
   ·exact .inr ⟨x::a,r,by simp only[List.mem_cons,not_or];exact⟨λq=>e q.symm,h1⟩,by rw[h2];rfl⟩
theorem aJE (a b:List UInt8) (r:List (List UInt8)) (s:List UInt8):Go.Lib.join (a::b::r) s=a++s++Go.Lib.join (b::r) s:=by simp[Go.Lib.join,List.intercalate]
theorem aGH (a r:List UInt8) (c:UInt8):(a++c::r).drop (a.length+1)=r:=by
 rw[show a++c::r=(a++[c])++r by simp,show a.length+1=(a++[c]).length by simp,List.drop_left]
theorem a17 (c:UInt8) (l:List UInt8):Go.Lib.join (mM c l) [c]=l:=by
 induction hn:l.length using Nat.strongRecOn generalizing l with
 | _ n ih =>
  rcases yB c l with h|⟨a,r,h1,rfl⟩
  ·rw[vO l h,Go.Lib.join_one]
  ·rw[aEF a r h1]
   cases e:mM c r with
   |nil=>exact absurd e (aJD c r)
   |cons b t =>
    rw[aJE,←e,ih r.length (by rw[←hn];simp;omega) r rfl];simp
theorem aGI (c:UInt8):∀ (ps:List (List UInt8)),ps≠[]->(∀ p∈ps,c∉p)->mM c (Go.Lib.join ps [c])=ps
 | [],h,_=>absurd rfl h
 | [a],_,h=>by rw[Go.Lib.join_one];exact vO a (h a (by simp))
 |a::b::r,_,h=>by
  rw[aJE,List.append_assoc,List.singleton_append,aEF a _ (h a (by simp)),aGI c (b::r) (by simp) λp hp=>h p (by simp[hp])]
theorem aNG (c x:UInt8) (l:List UInt8):[c].isPrefixOf (x::l)=(c == x):=by simp[List.isPrefixOf]
theorem index_hit (c:UInt8) (l:List UInt8):∀ a:List UInt8,c∉a->Go.Lib.index (a++c::l) [c]=a.length
 | [],_=>by rw[List.nil_append,Go.Lib.index,aNG,if_pos (by simp)];rfl
 |x::a,h=>by
  simp only[List.mem_cons,not_or]at h
  rw[List.cons_append,Go.Lib.index,aNG,if_neg (by simpa using h.1),index_hit c l a h.2]
  have:((a.length:Int) == -1)=false:=by rw[beq_eq_false_iff_ne];omega
  simp[this]
theorem aEG (c:UInt8):∀ a:List UInt8,c∉a->Go.Lib.index a [c]=-1
 | [],_=>by simp[Go.Lib.index]
 |x::a,h=>by
  simp only[List.mem_cons,not_or]at h
  rw[Go.Lib.index,aNG,if_neg (by simpa using h.1),aEG c a h.2];rfl
theorem aYP (c:UInt8) (a l:List UInt8) (h:c∉a):Go.Lib.cut (a++c::l) [c]=(a,l,true):=by
 rw[Go.Lib.cut,index_hit c l a h,if_pos (by omega)]
 simp[List.drop_append]
theorem aRR (c:UInt8) (a:List UInt8) (h:c∉a):Go.Lib.cut a [c]=(a,[],false):=by
 rw[Go.Lib.cut,aEG c a h,if_neg (by omega)]
theorem aRS (c:UInt8):∀ (k:Nat) (l:List UInt8),l.count c<=k->Go.Lib.splitK [c] 0 k l=mM c l
 |0,l,h=>by
  have:c∉l:=λhm=>by have:=List.count_pos_iff.2 hm;omega
  rw[Go.Lib.splitK,vO l this]
 |k+1,l,h=>by
  rcases yB c l with h1|⟨a,r,h1,rfl⟩
  ·rw[Go.Lib.splitK,aEG c l h1,vO l h1];rfl
  ·have e:((a.length:Int) == -1)=false:=by rw[beq_eq_false_iff_ne];omega
   rw[Go.Lib.splitK,index_hit c r a h1,e,if_neg (by simp),aEF a r h1]
   have hc:r.count c<=k:=by simp[List.count_append]at h;omega
   simp only[List.length_singleton,Int.toNat_natCast,Nat.add_zero]
   rw[List.take_left,aGH,aRS c k _ hc]
theorem count_le (c:UInt8):∀ (f:Nat) (l:List UInt8),l.length<f->Go.Lib.countFrom [c] f l=l.count c
 |0,l,h=>by omega
 |f+1,l,h=>by
  rcases yB c l with h1|⟨a,r,h1,rfl⟩
  ·rw[Go.Lib.countFrom,aEG c l h1,List.count_eq_zero.2 h1];rfl
  ·have e:((a.length:Int) == -1)=false:=by rw[beq_eq_false_iff_ne];omega
   rw[Go.Lib.countFrom,index_hit c r a h1,e,if_neg (by simp)]
   simp only[List.length_singleton,Int.toNat_natCast]
   rw[aGH,count_le c f _ (by simp at h ⊢;omega)]
   simp[List.count_append,List.count_eq_zero.2 h1];omega
theorem bEU (c:UInt8) (l:List UInt8):Go.Lib.split l [c]=mM c l:=by
 rw[Go.Lib.split,Go.Lib.count,count_le c _ l (by omega),aRS c _ l (Nat.le_refl _)]
theorem aEH {u:Nat} (h:u<10):Go.Lib.decDigits u=[UInt8.ofNat (48+u)]:=by rw[Go.Lib.decDigits,dif_pos h]
theorem aDI {u:Nat} (h:10<=u):Go.Lib.decDigits u=Go.Lib.decDigits (u / 10)++[UInt8.ofNat (48+u%10)]:=by rw[Go.Lib.decDigits,dif_neg (by omega)]
theorem yW {d:Nat} (h:d<10):(UInt8.ofNat (48+d)).toNat=48+d:=by
 show(48+d)%256=48+d
 omega
def bUH {α:Type} (x:Go.Lib.NumEnd Nat) (ok:Nat->Go.Lib.NumEnd α):Go.Lib.NumEnd α:=match x with | .ok a=>ok a|Go.Lib.NumEnd.syntax=>Go.Lib.NumEnd.syntax | .range=>.range
theorem aO6 (M:Nat) (c:UInt8):∀ (l:List UInt8) (acc:Nat),Go.Lib.parseUintM M acc (l++[c])=bUH (Go.Lib.parseUintM M acc l) λa=>Go.Lib.parseUintM M a [c]
 | [],acc=>rfl
 |x::l,acc=>by
  rw[List.cons_append,Go.Lib.parseUintM,Go.Lib.parseUintM]
  split
  ·split
   ·rfl
   ·split
    ·rfl
    ·exact aO6 M c l _
  ·rfl
theorem aRT {M acc d:Nat} (hd:d<10) (h1:acc<1844674407370955162) (h2:acc*10+d<=M):Go.Lib.parseUintM M acc [UInt8.ofNat (48+d)]=.ok (acc*10+d):=by
 rw[Go.Lib.parseUintM,yW hd,if_pos (by omega),if_neg (by omega),if_neg (by omega),Go.Lib.parseUintM]
 congr 1;omega
theorem a6K {M:Nat} (hM:M<18446744073709551616) (u:Nat) (h:u<=M):Go.Lib.parseUintM M 0 (Go.Lib.decDigits u)=.ok u:=by
 induction u using Nat.strongRecOn with
 | _ u ih =>
  by_cases e:u<10
  ·rw[aEH e,aRT e (by omega) (by omega)];congr 1;omega
  ·rw[aDI (by omega),aO6,ih (u / 10) (by omega) (by omega)]
   show Go.Lib.parseUintM M (u / 10) _=_
   rw[aRT (by omega) (by omega) (by omega)];congr 1;omega
theorem aRU (u:Nat):∃ d r,Go.Lib.decDigits u=UInt8.ofNat (48+d)::r/\d<10/\(r≠[]->1<=d):=by
 induction u using Nat.strongRecOn with
 | _ u ih =>
  by_cases e:u<10
  ·exact⟨u,[],aEH e,e,λh=>absurd rfl h⟩
  ·obtain⟨d,r,h1,h2,h3⟩:=ih (u / 10) (by omega)
   refine⟨d,r++[UInt8.ofNat (48+u%10)],by rw[aDI (by omega),h1];rfl,h2,λ_=>?_⟩
   by_cases hr:r=[]
   ·subst hr
    by_cases e2:u / 10<10
    ·rw[aEH e2]at h1
     have h4:UInt8.ofNat (48+u / 10)=UInt8.ofNat (48+d):=by injection h1
     have:=congrArg UInt8.toNat h4
     rw[yW e2,yW h2]at this;omega
    ·rw[aDI (by omega)]at h1
     have:=congrArg List.length h1
     have h5:=(ih (u / 10 / 10) (by omega))
     obtain⟨d',r',h6,_⟩:=h5
     rw[h6]at this;simp at this
   ·exact h3 hr
theorem aDJ (n:Int) (h:0<=n):Go.Lib.itoa n=Go.Lib.decDigits n.toNat:=by rw[Go.Lib.itoa,if_neg (by omega)]
theorem aO7 {n:Int} (h0:0<=n) (h1:n<=9223372036854775807):Go.Lib.parseIntB 64 (Go.Lib.itoa n)=.ok n:=by
 rw[aDJ n h0]
 obtain⟨d,r,hd,h2,_⟩:=aRU n.toNat
 have hp:=a6K (M:=2 ^ 64-1) (by decide) n.toNat (by omega)
 rw[hd]at hp ⊢
 have hv:=yW h2
 simp only[Go.Lib.parseIntB,hv]
 rw[if_neg (by omega),Go.Lib.parseUintB,if_neg (by simp),hp]
 simp only[show ¬(48+d=45)by omega,not_false_eq_true,true_and,false_and,if_false]
 rw[if_neg (by omega)]
 congr 1;omega
def rdN (s:List UInt8):Int:=match Go.Lib.parseIntB 64 s with | .ok v=>v|Go.Lib.NumEnd.syntax=>0 | .range=>Go.Lib.intSat 64 s
def s5 (hi:Int) (s:List UInt8):Prop:=0<=rdN s/\rdN s<=hi/\s=Go.Lib.itoa (rdN s)
instance (hi:Int) (s:List UInt8):Decidable (s5 hi s):=inferInstanceAs (Decidable (_/\_/\_))
theorem aRV {n:Int} (h0:0<=n) (h1:n<=9223372036854775807):rdN (Go.Lib.itoa n)=n:=by rw[rdN,aO7 h0 h1]
theorem aNH {n hi:Int} (h0:0<=n) (h1:n<=9223372036854775807):s5 hi (Go.Lib.itoa n)↔n<=hi:=by
 rw[s5,aRV h0 h1];exact⟨λh=>h.2.1,λh=>⟨h0,h,rfl⟩⟩
theorem bG0 {hi:Int} (h:hi<=9223372036854775807) (s:List UInt8):s5 hi s↔∃ n,0<=n/\n<=hi/\s=Go.Lib.itoa n :=
 ⟨λq=>⟨_,q⟩,λ⟨n,h0,h1,e⟩=>by rw[e];exact(aNH h0 (by omega)).2 h1⟩
theorem aRW (u:Nat):∀ c∈Go.Lib.decDigits u,48<=c.toNat/\c.toNat<=57:=by
 induction u using Nat.strongRecOn with
 | _ u ih =>
  intro c hc
  by_cases e:u<10
  ·rw[aEH e]at hc
   rw[List.mem_singleton.1 hc,yW e];omega
  ·rw[aDI (by omega)]at hc
   rcases List.mem_append.1 hc with hc|hc
   ·exact ih (u / 10) (by omega) c hc
   ·rw[List.mem_singleton.1 hc,yW (Nat.mod_lt _ (by omega))];omega
theorem bG1 (u:Nat):Go.Lib.decDigits u≠[]:=by obtain⟨d,r,h,_⟩:=aRU u;rw[h];simp
theorem bMS {n:Int} (h:0<=n):Go.Lib.itoa n≠[]:=by rw[aDJ n h];exact bG1 _
theorem bA0 {n:Int} (h:0<=n) {c:UInt8} (hc:c.toNat<48):c∉Go.Lib.itoa n:=λq=>by
 rw[aDJ n h]at q
 have:=aRW _ c q
 omega
def aDK (l:List UInt8):Nat:=l.foldl (λn c=>10*n+(c.toNat-48)) 0
theorem aIC (l:List UInt8) (c:UInt8):aDK (l++[c])=10*aDK l+(c.toNat-48):=by simp[aDK]
theorem bG2 (u:Nat):aDK (Go.Lib.decDigits u)=u:=by
 induction u using Nat.strongRecOn with
 | _ u ih =>
  by_cases e:u<10
  ·rw[aEH e];simp only[aDK,List.foldl_cons,List.foldl_nil];rw[yW e];omega
  ·rw[aDI (by omega),aIC,ih (u / 10) (by omega),yW (Nat.mod_lt _ (by omega))];omega
def aRX (l:List UInt8):Prop:=l≠[]/\(∀ c∈l,48<=c.toNat/\c.toNat<=57)/\(1<l.length->l[0]?≠some 48)
theorem a6L (u:Nat):aRX (Go.Lib.decDigits u):=by
 refine⟨bG1 u,aRW u,λh q=>?_⟩
 obtain⟨d,r,h1,h2,h3⟩:=aRU u
 rw[h1]at h q
 have h4:UInt8.ofNat (48+d)=48:=by simpa using q
 have h5:=congrArg UInt8.toNat h4
 rw[yW h2]at h5
 have:r≠[]:=by intro e;rw[e]at h;simp at h
 have:=h3 this
 have h6:(48:UInt8).toNat=48:=rfl
 omega
theorem bG3 (l:List UInt8) (h:aRX l):l=Go.Lib.decDigits (aDK l):=by
 induction hn:l.length using Nat.strongRecOn generalizing l with
 | _ n ih =>
  obtain⟨h1,h2,h3⟩:=h
  rcases List.eq_nil_or_concat l with e|⟨l',c,e⟩
  ·exact absurd e h1
  ·rw[List.concat_eq_append]at e
   subst e
   have hc:=h2 c (by simp)
   have ec:UInt8.ofNat (48+(c.toNat-48))=c:=by
    apply UInt8.toNat.inj
    rw[yW (by omega)];omega
   rw[aIC]
   by_cases e:l'=[]
   ·subst e
    rw[show aDK []=0 from rfl,Nat.mul_zero,Nat.zero_add,aEH (by omega),ec];rfl
   ·have hl:1<(l'++[c]).length:=by
     have:=List.length_pos_iff.2 e
     simp;omega
    have h4:=h3 hl
    have hd:aRX l':=⟨e,λx hx=>h2 x (by simp[hx]),λhl' q=>h4 (by rw[List.getElem?_append_left (by omega)];exact q)⟩
    have h5:=ih l'.length (by rw[←hn];simp) l' hd rfl
    have hv:1<=aDK l':=by
     rcases Nat.eq_zero_or_pos (aDK l')with e0|e0
     ·rw[e0,aEH (by omega)]at h5
      exact absurd (by rw[h5];rfl) h4
     ·exact e0
    rw[aDI (by omega),show(10*aDK l'+(c.toNat-48)) / 10=aDK l' by omega,show(10*aDK l'+(c.toNat-48))%10=c.toNat-48 by omega,ec,←h5]
theorem a18 (u:Nat):(Go.Lib.decDigits u).length<=9↔u<=999999999:=by
 have h:=Go.Lib.lt_pow_nDigits u
 rw[Go.Lib.decDigits_length]
 constructor
 ·intro q
  have:10 ^ Go.Lib.nDigits u<=10 ^ 9:=Nat.pow_le_pow_right (by decide) q
  omega
 ·intro q
  rcases Nat.lt_or_ge u 10 with e|e
  ·rw[Go.Lib.nDigits_small e];omega
  ·have h1:∀ k,k<=8->10 ^ k<=u->u<10 ^ (k+1)->Go.Lib.nDigits u<=9:=λk hk a b=>by rw[Go.Lib.nDigits_unique k u a b];omega
   rcases Nat.lt_or_ge u 100 with e1|e1
   ·exact h1 1 (by omega) (by omega) (by omega)
   rcases Nat.lt_or_ge u 1000 with e2|e2
   ·exact h1 2 (by omega) (by omega) (by omega)
   rcases Nat.lt_or_ge u 10000 with e3|e3
   ·exact h1 3 (by omega) (by omega) (by omega)
   rcases Nat.lt_or_ge u 100000 with e4|e4
   ·exact h1 4 (by omega) (by omega) (by omega)
   rcases Nat.lt_or_ge u 1000000 with e5|e5
   ·exact h1 5 (by omega) (by omega) (by omega)
   rcases Nat.lt_or_ge u 10000000 with e6|e6
   ·exact h1 6 (by omega) (by omega) (by omega)
   rcases Nat.lt_or_ge u 100000000 with e7|e7
   ·exact h1 7 (by omega) (by omega) (by omega)
   ·exact h1 8 (by omega) (by omega) (by omega)
theorem bG4 (l:List UInt8):(aRX l/\l.length<=9)↔∃ n:Int,0<=n/\n<=999999999/\l=Go.Lib.itoa n:=by
 constructor
 ·rintro⟨h1,h2⟩
  have h3:=bG3 l h1
  refine⟨aDK l,by omega,?_,by rw[aDJ _ (by omega)];exact h3⟩
  rw[h3,a18]at h2
  omega
 ·rintro⟨n,h0,h1,rfl⟩
  rw[aDJ n h0]
  exact⟨a6L _,(a18 _).2 (by omega)⟩
theorem bMT (l:List UInt8):(aRX l/\l.length<=9)↔s5 999999999 l:=by rw[bG4,bG0 (by decide)]
theorem bMU {l:List UInt8} (h:s5 999999999 l):(aDK l:Int)=rdN l:=by
 have h2:=h.2.2
 have h0:=h.1
 generalize rdN l=n at *
 rw[h2,aDJ n h0,bG2];omega
def hU:List Int->List UInt8
 | []=>[]
 |n::l=>32::Go.Lib.itoa n++hU l
theorem a6M (l m:List Int):hU (l++m)=hU l++hU m:=by
 induction l with
 |nil=>rfl
 |cons a l ih=>simp[hU,ih]
def aK4 (hi:Int) (l:List Int):Prop:=∀ n∈l,0<=n/\n<=hi
def rI (hi:Int) (ps:List (List UInt8)):Option (List Int):=if (∀ p∈ps,s5 hi p)then some (ps.map rdN)else none
theorem u3 {hi:Int} (h:hi<=9223372036854775807) {ps:List (List UInt8)} {l:List Int}:rI hi ps=some l↔ps=l.map Go.Lib.itoa/\aK4 hi l:=by
 rw[rI]
 constructor
 ·intro q
  split at q
  ·rename_i hp
   have:=Option.some.inj q
   subst this
   refine⟨?_,λn hn=>?_⟩
   ·rw[List.map_map]
    refine List.ext_getElem (by simp) λi h1 h2=>?_
    rw[List.getElem_map]
    exact(hp _ (List.getElem_mem h1)).2.2
   ·obtain⟨p,hp',rfl⟩:=List.mem_map.1 hn
    exact⟨(hp p hp').1,(hp p hp').2.1⟩
  ·cases q
 ·rintro⟨rfl,hb⟩
  rw[if_pos ?_,List.map_map]
  ·congr 1
   refine List.ext_getElem (by simp) λi h1 h2=>?_
   rw[List.getElem_map]
   have:=hb _ (List.getElem_mem h2)
   exact aRV this.1 (by omega)
  ·intro p hp
   obtain⟨n,hn,rfl⟩:=List.mem_map.1 hp
   have:=hb n hn
   exact(aNH this.1 (by omega)).2 this.2
def sV (most:Nat) (hi:Int) (text:List UInt8):Option (List Int):=if text=[]then some []else if (mM 32 text).length<=most then rI hi (mM 32 text)else none
theorem aEI (w:List UInt8):∀ l:List Int,Go.Lib.join (w::l.map Go.Lib.itoa) [32]=w++hU l
 | []=>by rw[List.map_nil,Go.Lib.join_one];simp[hU]
 |n::l=>by rw[List.map_cons,aJE,aEI (Go.Lib.itoa n) l];simp[hU]
theorem aNI {w:List UInt8} (hw:(32:UInt8)∉w) {l:List Int} (hl:∀ n∈l,0<=n):mM 32 (w++hU l)=w::l.map Go.Lib.itoa:=by
 rw[←aEI,aGI 32 _ (by simp)]
 intro p hp
 rcases List.mem_cons.1 hp with rfl|hp
 ·exact hw
 ·obtain⟨n,hn,rfl⟩:=List.mem_map.1 hp
  exact bA0 (hl n hn) (by decide)
theorem bEV {text w:List UInt8} {l:List Int} (h:mM 32 text=w::l.map Go.Lib.itoa):text=w++hU l/\(32:UInt8)∉w :=
 ⟨by rw[←aEI,←h,a17],aK3 text w (by rw[h];simp)⟩
theorem bEW {a b:List Int} (ha:aK4 9223372036854775807 a) (hb:aK4 9223372036854775807 b) (h:a.map Go.Lib.itoa=b.map Go.Lib.itoa):a=b:=by
 have h1:=(u3 (hi:=9223372036854775807) (by decide)).2 ⟨rfl,ha⟩
 have h2:=(u3 (hi:=9223372036854775807) (by decide)).2 ⟨rfl,hb⟩
 rw[h,h2]at h1
 exact(Option.some.inj h1).symm
theorem bEX {w w':List UInt8} {a b:List Int} (hw:(32:UInt8)∉w) (hw':(32:UInt8)∉w') (ha:aK4 9223372036854775807 a) (hb:aK4 9223372036854775807 b) (h:w++hU a=w'++hU b):w=w'/\a=b:=by
 have h1:=aNI hw λn hn=>(ha n hn).1
 have h2:=aNI hw' λn hn=>(hb n hn).1
 rw[h,h2]at h1
 injection h1 with h1 h3
 exact⟨h1.symm,(bEW hb ha h3).symm⟩
theorem aO8 {most:Nat} {hi:Int} (h:hi<=9223372036854775807) {w r:List UInt8} {l:List Int} (hl:l≠[]):(sV most hi r=some l)↔(w++32::r=w++hU l/\l.length<=most/\aK4 hi l):=by
 have key:w++32::r=w++hU l↔r=Go.Lib.join (l.map Go.Lib.itoa) [32]:=by
  cases l with
  |nil=>exact absurd rfl hl
  |cons n l =>
   rw[List.map_cons,aEI]
   simp[hU]
 rw[key,sV]
 constructor
 ·intro q
  split at q
  ·exact absurd (Option.some.inj q).symm hl
  ·split at q
   ·rename_i h1 h2
    obtain⟨h3,h4⟩:=(u3 h).1 q
    refine⟨by rw[←h3,a17],?_,h4⟩
    rw[h3,List.length_map]at h2;exact h2
   ·cases q
 ·rintro⟨rfl,h2,h3⟩
  have h4:mM 32 (Go.Lib.join (l.map Go.Lib.itoa) [32])=l.map Go.Lib.itoa:=aGI 32 _ (by simpa using hl) λp hp=>by
   obtain⟨n,hn,rfl⟩:=List.mem_map.1 hp
   exact bA0 (h3 n hn).1 (by decide)
  rw[h4,List.length_map,if_pos h2,(u3 h).2 ⟨rfl,h3⟩,if_neg]
  intro e
  rw[e]at h4
  rw[bAZ]at h4
  cases l with
  |nil=>exact absurd rfl hl
  |cons n l =>
   rw[List.map_cons]at h4
   injection h4 with h4 h5
   exact bMS (h3 n (by simp)).1 h4.symm
theorem bEY {most:Nat} {hi:Int} {r:List UInt8}:sV most hi r=some []↔r=[]:=by
 rw[sV]
 constructor
 ·intro q
  split at q
  ·assumption
  ·split at q
   ·rw[rI]at q
    split at q
    ·have:=Option.some.inj q
     exact absurd (List.map_eq_nil_iff.1 this) (aJD 32 r)
    ·cases q
   ·cases q
 ·intro q;rw[if_pos q]
theorem aFE {p:Prop} (h:p:=by kernel_rfl):p:=h
@[go_sem] theorem ty2:iK Tryz.prog 2=some ⟨1,false,8,[.int .i64 0],.int .i64⟩:=by kernel_rfl
@[go_sem] theorem ty3:iK Tryz.prog 3=some ⟨1,false,8,[.int .i64 0],.int .i64⟩:=by kernel_rfl
@[go_sem] theorem ty4:iK Tryz.prog 4=some ⟨1,false,1,[.bool false],.bool⟩:=by kernel_rfl
@[go_sem] theorem ty5:iK Tryz.prog 5=some ⟨1,false,1,[.int .u8 0],.int .u8⟩:=by kernel_rfl
@[go_sem] theorem ty9:iK Tryz.prog 9=some ⟨1,false,16,[.str []],.str⟩:=by kernel_rfl
@[go_sem] theorem cCY:iK Tryz.prog 21=some ⟨1,false,4,[.int .i32 0],.int .i32⟩:=by kernel_rfl
@[go_sem] theorem cCZ:iK Tryz.prog 22=some ⟨1,false,24,[.aU],.slice 155⟩:=by kernel_rfl
@[go_sem] theorem cC0:iK Tryz.prog 24=some ⟨1,true,24,[.aU],.st [(0,22,1)]⟩:=by kernel_rfl
@[go_sem] theorem cC1:iK Tryz.prog 25=some ⟨1,false,24,[.aU],.slice 2⟩:=by kernel_rfl
@[go_sem] theorem cC2:iK Tryz.prog 26=some ⟨1,false,24,[.aU],.slice 25⟩:=by kernel_rfl
@[go_sem] theorem cC3:iK Tryz.prog 28=some ⟨5,true,88,[.aU,.int .i64 0,.int .i64 0,.aU,.aU],.st [(0,24,1),(1,2,1),(2,2,1),(3,25,1),(4,26,1)]⟩:=by kernel_rfl
@[go_sem] theorem cC4:iK Tryz.prog 30=some ⟨1,false,24,[.aU],.slice 111⟩:=by kernel_rfl
@[go_sem] theorem cC5:iK Tryz.prog 32=some ⟨1,true,24,[.aU],.st [(0,30,1)]⟩:=by kernel_rfl
@[go_sem] theorem cC6:iK Tryz.prog 34=some ⟨5,true,88,[.aU,.int .i64 0,.int .i64 0,.aU,.aU],.st [(0,32,1),(1,2,1),(2,2,1),(3,25,1),(4,26,1)]⟩:=by kernel_rfl
@[go_sem] theorem cC7:iK Tryz.prog 35=some ⟨1,false,24,[.aU],.slice 4⟩:=by kernel_rfl
@[go_sem] theorem cC8:iK Tryz.prog 36=some ⟨1,false,24,[.aU],.slice 98⟩:=by kernel_rfl
@[go_sem] theorem cC9:iK Tryz.prog 38=some ⟨9,true,184,[.aU,.int .i64 0,.int .i64 0,.aU,.aU,.aU,.aU,.aU,.aU],.st [(0,34,5),(5,25,1),(6,35,1),(7,36,1),(8,25,1)]⟩:=by kernel_rfl
@[go_sem] theorem cDA:iK Tryz.prog 47=some ⟨1,false,24,[.aU],.slice 135⟩:=by kernel_rfl
@[go_sem] theorem cDB:iK Tryz.prog 49=some ⟨9,true,184,[.aU,.int .i64 0,.int .i64 0,.aU,.aU,.aU,.aU,.aU,.aU],.st [(0,28,5),(5,25,1),(6,35,1),(7,47,1),(8,25,1)]⟩:=by kernel_rfl
@[go_sem] theorem cDC:iK Tryz.prog 50=some ⟨1,false,24,[.aU],.slice 51⟩:=by kernel_rfl
@[go_sem] theorem cDD:iK Tryz.prog 51=some ⟨1,false,24,[.aU],.slice 137⟩:=by kernel_rfl
@[go_sem] theorem cDE:iK Tryz.prog 53=some ⟨18,true,344,[.aU,.int .i64 0,.int .i64 0,.aU,.aU,.aU,.int .i64 0,.int .i64 0,.aU,.aU,.aU,.aU,.aU,.aU,.str [],.int .i64 0,.aU,.aU],.st [(0,28,5),(5,49,9),(14,9,1),(15,2,1),(16,50,1),(17,51,1)]⟩:=by kernel_rfl
@[go_sem] theorem cDF:iK Tryz.prog 56=some ⟨1,false,24,[.aU],.slice 57⟩:=by kernel_rfl
@[go_sem] theorem cDG:iK Tryz.prog 57=some ⟨1,false,24,[.aU],.slice 100⟩:=by kernel_rfl
@[go_sem] theorem cDH:iK Tryz.prog 59=some ⟨18,true,344,[.aU,.int .i64 0,.int .i64 0,.aU,.aU,.aU,.int .i64 0,.int .i64 0,.aU,.aU,.aU,.aU,.aU,.aU,.str [],.int .i64 0,.aU,.aU],.st [(0,34,5),(5,38,9),(14,9,1),(15,2,1),(16,56,1),(17,57,1)]⟩:=by kernel_rfl
@[go_sem] theorem cDI:iK Tryz.prog 98=some ⟨3,true,40,[.int .i64 0,.int .i64 0,.aU],.st [(0,2,1),(1,2,1),(2,25,1)]⟩:=by kernel_rfl
@[go_sem] theorem cA2:iK Tryz.prog 100=some ⟨5,true,56,[.int .i64 0,.int .i64 0,.int .i64 0,.int .i64 0,.aU],.st [(0,2,1),(1,2,1),(2,98,3)]⟩:=by kernel_rfl
@[go_sem] theorem cA3:iK Tryz.prog 108=some ⟨1,false,8,[.lP],.ptr 32⟩:=by kernel_rfl
@[go_sem] theorem cA4:iK Tryz.prog 109=some ⟨1,false,24,[.aU],.slice 197⟩:=by kernel_rfl
@[go_sem] theorem cA5:iK Tryz.prog 111=some ⟨3,true,48,[.str [],.int .i64 0,.aU],.st [(0,9,1),(1,2,1),(2,109,1)]⟩:=by kernel_rfl
@[go_sem] theorem cA6:iK Tryz.prog 135=some ⟨3,true,40,[.int .i64 0,.int .i64 0,.aU],.st [(0,2,1),(1,2,1),(2,25,1)]⟩:=by kernel_rfl
@[go_sem] theorem cA7:iK Tryz.prog 137=some ⟨5,true,56,[.int .i64 0,.int .i64 0,.int .i64 0,.int .i64 0,.aU],.st [(0,2,1),(1,2,1),(2,135,3)]⟩:=by kernel_rfl
@[go_sem] theorem cA8:iK Tryz.prog 145=some ⟨1,false,24,[.aU],.slice 9⟩:=by kernel_rfl
@[go_sem] theorem cA9:iK Tryz.prog 153=some ⟨1,false,24,[.aU],.slice 223⟩:=by kernel_rfl
@[go_sem] theorem cBA:iK Tryz.prog 155=some ⟨3,true,48,[.str [],.int .i64 0,.aU],.st [(0,9,1),(1,2,1),(2,153,1)]⟩:=by kernel_rfl
@[go_sem] theorem cBB:iK Tryz.prog 197=some ⟨5,true,56,[.int .i64 0,.int .i64 0,.int .i64 0,.int .i64 0,.aU],.st [(0,2,1),(1,2,1),(2,2,1),(3,2,1),(4,109,1)]⟩:=by kernel_rfl
@[go_sem] theorem cBC:iK Tryz.prog 214=some ⟨1,false,24,[.aU],.slice 5⟩:=by kernel_rfl
@[go_sem] theorem cBD:iK Tryz.prog 223=some ⟨5,true,56,[.int .i64 0,.int .i64 0,.int .i64 0,.int .i64 0,.aU],.st [(0,2,1),(1,2,1),(2,2,1),(3,2,1),(4,153,1)]⟩:=by kernel_rfl
@[go_sem] theorem cBE:iK Tryz.prog 232=some ⟨2,true,32,[.aU,.int .i64 0],.st [(0,32,1),(1,2,1)]⟩:=by kernel_rfl
@[go_sem] theorem cBF:iK Tryz.prog 236=some ⟨1,false,8,[.int .u64 0],.int .u64⟩:=by kernel_rfl
@[go_sem] theorem cBG:iK Tryz.prog 237=some ⟨24,true,24,[.int .u8 0,.int .u8 0,.int .u8 0,.int .u8 0,.int .u8 0,.int .u8 0,.int .u8 0,.int .u8 0,.int .u8 0,.int .u8 0,.int .u8 0,.int .u8 0,.int .u8 0,.int .u8 0,.int .u8 0,.int .u8 0,.int .u8 0,.int .u8 0,.int .u8 0,.int .u8 0,.int .u8 0,.int .u8 0,.int .u8 0,.int .u8 0],.arr 24 5⟩:=by kernel_rfl
@[go_sem] theorem cBH:iK Tryz.prog 238=some ⟨1,false,8,[.int .u64 0],.int .u64⟩:=by kernel_rfl
@[go_sem] theorem cBI:iK Tryz.prog 244=some ⟨1,false,16,[.mB],.other⟩:=by kernel_rfl
@[go_sem] theorem cBJ:iK Tryz.prog 248=some ⟨1,false,24,[.aU],.slice 258⟩:=by kernel_rfl
@[go_sem] theorem cBK:iK Tryz.prog 249=some ⟨1,false,24,[.aU],.slice 256⟩:=by kernel_rfl
@[go_sem] theorem cBL:iK Tryz.prog 251=some ⟨4,true,80,[.int .i64 0,.aU,.aU,.aU],.st [(0,2,1),(1,248,1),(2,249,1),(3,25,1)]⟩:=by kernel_rfl
@[go_sem] theorem cBM:iK Tryz.prog 256=some ⟨2,true,16,[.int .i64 0,.bool false],.st [(0,2,1),(1,4,1)]⟩:=by kernel_rfl
@[go_sem] theorem cBN:iK Tryz.prog 258=some ⟨4,true,32,[.int .i64 0,.int .i64 0,.int .i64 0,.int .i64 0],.st [(0,2,1),(1,2,1),(2,2,1),(3,2,1)]⟩:=by kernel_rfl
@[go_sem] theorem cBO:iK Tryz.prog 271=some ⟨1,false,4,[.int .u32 0],.int .u32⟩:=by kernel_rfl
@[go_sem] theorem cBP:iK Tryz.prog 275=some ⟨20,true,160,[.int .u64 0,.int .u64 0,.int .u64 0,.int .u64 0,.int .u64 0,.int .u64 0,.int .u64 0,.int .u64 0,.int .u64 0,.int .u64 0,.int .u64 0,.int .u64 0,.int .u64 0,.int .u64 0,.int .u64 0,.int .u64 0,.int .u64 0,.int .u64 0,.int .u64 0,.int .u64 0],.arr 20 238⟩:=by kernel_rfl
@[go_sem] theorem cBQ:iK Tryz.prog 276=some ⟨65,true,65,[.int .u8 0,.int .u8 0,.int .u8 0,.int .u8 0,.int .u8 0,.int .u8 0,.int .u8 0,.int .u8 0,.int .u8 0,.int .u8 0,.int .u8 0,.int .u8 0,.int .u8 0,.int .u8 0,.int .u8 0,.int .u8 0,.int .u8 0,.int .u8 0,.int .u8 0,.int .u8 0,.int .u8 0,.int .u8 0,.int .u8 0,.int .u8 0,.int .u8 0,.int .u8 0,.int .u8 0,.int .u8 0,.int .u8 0,.int .u8 0,.int .u8 0,.int .u8 0,.int .u8 0,.int .u8 0,.int .u8 0,.int .u8 0,.int .u8 0,.int .u8 0,.int .u8 0,.int .u8 0,.int .u8 0,.int .u8 0,.int .u8 0,.int .u8 0,.int .u8 0,.int .u8 0,.int .u8 0,.int .u8 0,.int .u8 0,.int .u8 0,.int .u8 0,.int .u8 0,.int .u8 0,.int .u8 0,.int .u8 0,.int .u8 0,.int .u8 0,.int .u8 0,.int .u8 0,.int .u8 0,.int .u8 0,.int .u8 0,.int .u8 0,.int .u8 0,.int .u8 0],.arr 65 5⟩:=by kernel_rfl
@[go_sem] theorem cBR:iK Tryz.prog 279=some ⟨1,false,8,[.lP],.ptr 281⟩:=by kernel_rfl
@[go_sem] theorem cBS:iK Tryz.prog 281=some ⟨2,true,32,[.lP,.aU],.st [(0,279,1),(1,214,1)]⟩:=by kernel_rfl
@[go_sem] theorem cBT:iK Tryz.prog 288=some ⟨8,true,144,[.aU,.int .i64 0,.aU,.aU,.aU,.aU,.int .i64 0,.int .i64 0],.st [(0,32,1),(1,251,4),(5,25,1),(6,2,1),(7,2,1)]⟩:=by kernel_rfl
@[go_sem] theorem cBU:iK Tryz.prog 297=some ⟨4,true,32,[.lP,.int .i64 0,.int .i64 0,.int .i64 0],.st [(0,108,1),(1,3,1),(2,2,1),(3,2,1)]⟩:=by kernel_rfl
@[go_sem] theorem cBV:iK Tryz.prog 301=some ⟨6,true,112,[.lP,.int .i64 0,.aU,.aU,.aU,.aU],.st [(0,108,1),(1,251,4),(5,25,1)]⟩:=by kernel_rfl
@[go_sem] theorem cBW:iK Tryz.prog 310=some ⟨1,false,8,[.lP],.ptr 5⟩:=by kernel_rfl
@[go_sem] theorem cBX:iK Tryz.prog 313=some ⟨256,true,256,[.int .u8 0,.int .u8 0,.int .u8 0,.int .u8 0,.int .u8 0,.int .u8 0,.int .u8 0,.int .u8 0,.int .u8 0,.int .u8 0,.int .u8 0,.int .u8 0,.int .u8 0,.int .u8 0,.int .u8 0,.int .u8 0,.int .u8 0,.int .u8 0,.int .u8 0,.int .u8 0,.int .u8 0,.int .u8 0,.int .u8 0,.int .u8 0,.int .u8 0,.int .u8 0,.int .u8 0,.int .u8 0,.int .u8 0,.int .u8 0,.int .u8 0,.int .u8 0,.int .u8 0,.int .u8 0,.int .u8 0,.int .u8 0,.int .u8 0,.int .u8 0,.int .u8 0,.int .u8 0,.int .u8 0,.int .u8 0,.int .u8 0,.int .u8 0,.int .u8 0,.int .u8 0,.int .u8 0,.int .u8 0,.int .u8 0,.int .u8 0,.int .u8 0,.int .u8 0,.int .u8 0,.int .u8 0,.int .u8 0,.int .u8 0,.int .u8 0,.int .u8 0,.int .u8 0,.int .u8 0,.int .u8 0,.int .u8 0,.int .u8 0,.int .u8 0,.int .u8 0,.int .u8 0,.int .u8 0,.int .u8 0,.int .u8 0,.int .u8 0,.int .u8 0,.int .u8 0,.int .u8 0,.int .u8 0,.int .u8 0,.int .u8 0,.int .u8 0,.int .u8 0,.int .u8 0,.int .u8 0,.int .u8 0,.int .u8 0,.int .u8 0,.int .u8 0,.int .u8 0,.int .u8 0,.int .u8 0,.int .u8 0,.int .u8 0,.int .u8 0,.int .u8 0,.int .u8 0,.int .u8 0,.int .u8 0,.int .u8 0,.int .u8 0,.int .u8 0,.int .u8 0,.int .u8 0,.int .u8 0,.int .u8 0,.int .u8 0,.int .u8 0,.int .u8 0,.int .u8 0,.int .u8 0,.int .u8 0,.int .u8 0,.int .u8 0,.int .u8 0,.int .u8 0,.int .u8 0,.int .u8 0,.int .u8 0,.int .u8 0,.int .u8 0,.int .u8 0,.int .u8 0,.int .u8 0,.int .u8 0,.int .u8 0,.int .u8 0,.int .u8 0,.int .u8 0,.int .u8 0,.int .u8 0,.int .u8 0,.int .u8 0,.int .u8 0,.int .u8 0,.int .u8 0,.int .u8 0,.int .u8 0,.int .u8 0,.int .u8 0,.int .u8 0,.int .u8 0,.int .u8 0,.int .u8 0,.int .u8 0,.int .u8 0,.int .u8 0,.int .u8 0,.int .u8 0,.int .u8 0,.int .u8 0,.int .u8 0,.int .u8 0,.int .u8 0,.int .u8 0,.int .u8 0,.int .u8 0,.int .u8 0,.int .u8 0,.int .u8 0,.int .u8 0,.int .u8 0,.int .u8 0,.int .u8 0,.int .u8 0,.int .u8 0,.int .u8 0,.int .u8 0,.int .u8 0,.int .u8 0,.int .u8 0,.int .u8 0,.int .u8 0,.int .u8 0,.int .u8 0,.int .u8 0,.int .u8 0,.int .u8 0,.int .u8 0,.int .u8 0,.int .u8 0,.int .u8 0,.int .u8 0,.int .u8 0,.int .u8 0,.int .u8 0,.int .u8 0,.int .u8 0,.int .u8 0,.int .u8 0,.int .u8 0,.int .u8 0,.int .u8 0,.int .u8 0,.int .u8 0,.int .u8 0,.int .u8 0,.int .u8 0,.int .u8 0,.int .u8 0,.int .u8 0,.int .u8 0,.int .u8 0,.int .u8 0,.int .u8 0,.int .u8 0,.int .u8 0,.int .u8 0,.int .u8 0,.int .u8 0,.int .u8 0,.int .u8 0,.int .u8 0,.int .u8 0,.int .u8 0,.int .u8 0,.int .u8 0,.int .u8 0,.int .u8 0,.int .u8 0,.int .u8 0,.int .u8 0,.int .u8 0,.int .u8 0,.int .u8 0,.int .u8 0,.int .u8 0,.int .u8 0,.int .u8 0,.int .u8 0,.int .u8 0,.int .u8 0,.int .u8 0,.int .u8 0,.int .u8 0,.int .u8 0,.int .u8 0,.int .u8 0,.int .u8 0,.int .u8 0,.int .u8 0,.int .u8 0,.int .u8 0,.int .u8 0,.int .u8 0,.int .u8 0,.int .u8 0,.int .u8 0,.int .u8 0,.int .u8 0,.int .u8 0,.int .u8 0,.int .u8 0,.int .u8 0,.int .u8 0,.int .u8 0,.int .u8 0,.int .u8 0,.int .u8 0,.int .u8 0,.int .u8 0],.arr 256 5⟩:=by kernel_rfl
@[go_sem] theorem cBY:iK Tryz.prog 315=some ⟨2,true,2,[.int .u8 0,.int .u8 0],.st [(0,5,1),(1,5,1)]⟩:=by kernel_rfl
@[go_sem] theorem cBZ:iK Tryz.prog 316=some ⟨32,true,32,[.int .u8 0,.int .u8 0,.int .u8 0,.int .u8 0,.int .u8 0,.int .u8 0,.int .u8 0,.int .u8 0,.int .u8 0,.int .u8 0,.int .u8 0,.int .u8 0,.int .u8 0,.int .u8 0,.int .u8 0,.int .u8 0,.int .u8 0,.int .u8 0,.int .u8 0,.int .u8 0,.int .u8 0,.int .u8 0,.int .u8 0,.int .u8 0,.int .u8 0,.int .u8 0,.int .u8 0,.int .u8 0,.int .u8 0,.int .u8 0,.int .u8 0,.int .u8 0],.arr 16 315⟩:=by kernel_rfl
@[go_sem] theorem cB0:iK Tryz.prog 319=some ⟨32,true,32,[.int .u8 0,.int .u8 0,.int .u8 0,.int .u8 0,.int .u8 0,.int .u8 0,.int .u8 0,.int .u8 0,.int .u8 0,.int .u8 0,.int .u8 0,.int .u8 0,.int .u8 0,.int .u8 0,.int .u8 0,.int .u8 0,.int .u8 0,.int .u8 0,.int .u8 0,.int .u8 0,.int .u8 0,.int .u8 0,.int .u8 0,.int .u8 0,.int .u8 0,.int .u8 0,.int .u8 0,.int .u8 0,.int .u8 0,.int .u8 0,.int .u8 0,.int .u8 0],.arr 32 5⟩:=by kernel_rfl
@[go_sem] theorem cB1:iK Tryz.prog 320=some ⟨64,true,64,[.int .u8 0,.int .u8 0,.int .u8 0,.int .u8 0,.int .u8 0,.int .u8 0,.int .u8 0,.int .u8 0,.int .u8 0,.int .u8 0,.int .u8 0,.int .u8 0,.int .u8 0,.int .u8 0,.int .u8 0,.int .u8 0,.int .u8 0,.int .u8 0,.int .u8 0,.int .u8 0,.int .u8 0,.int .u8 0,.int .u8 0,.int .u8 0,.int .u8 0,.int .u8 0,.int .u8 0,.int .u8 0,.int .u8 0,.int .u8 0,.int .u8 0,.int .u8 0,.int .u8 0,.int .u8 0,.int .u8 0,.int .u8 0,.int .u8 0,.int .u8 0,.int .u8 0,.int .u8 0,.int .u8 0,.int .u8 0,.int .u8 0,.int .u8 0,.int .u8 0,.int .u8 0,.int .u8 0,.int .u8 0,.int .u8 0,.int .u8 0,.int .u8 0,.int .u8 0,.int .u8 0,.int .u8 0,.int .u8 0,.int .u8 0,.int .u8 0,.int .u8 0,.int .u8 0,.int .u8 0,.int .u8 0,.int .u8 0,.int .u8 0,.int .u8 0],.arr 64 5⟩:=by kernel_rfl
@[go_sem] theorem cB2:iK Tryz.prog 324=some ⟨3,true,48,[.str [],.str [],.mB],.st [(0,9,1),(1,9,1),(2,244,1)]⟩:=by kernel_rfl
@[go_sem] theorem cB3:iK Tryz.prog 336=some ⟨1,true,16,[.str []],.st [(0,9,1)]⟩:=by kernel_rfl
@[go_sem] def bS:Marks:=λ_=>([],.nil,[])
@[go_sem] def cD:List Nat:=[]
@[go_sem] def aAO:List Nat:=[2]
@[go_sem] def aHN:List Nat:=[0,1,4]
@[go_sem] def aWG:List Nat:=[2,3]
@[go_sem] def aDX:List Nat:=[1]
@[go_sem] def aN4:List Nat:=[0,2]
@[go_sem] def aGD:List Nat:=[0,2,3,4,11]
@[go_sem] def aZE:List Nat:=[0,1,2,3]
@[go_sem] def vL:List Nat:=[0,1,4,5,9]
@[go_sem] def bSM:List Nat:=[0,1,2,3,4]
@[go_sem] def aXL:List Nat:=[0,1,4,5,11,15,25]
@[go_sem] def aPW:List Nat:=[0,1,4,5,10,14,26]
@[go_sem] def aPX:Marks:=λid=>match id with|6=>([],(.op 0 (.op 1 (.op 2 (.op 3 (.op 4 (.op 5 (.op 6 (.op 7 (.op 8 (.op 9 .nil)))))))))),[])|_=>([],.nil,[])
@[go_sem] def aXM:Marks:=λid=>match id with|6=>([],(.op 0 (.op 1 (.op 2 (.op 3 (.op 4 (.op 5 (.op 6 (.op 7 (.op 8 .nil))))))))),[])|_=>([],.nil,[])
@[go_sem] def a39:List Nat:=[0,1,2,4]
@[go_sem] def bI9:List Nat:=[0,1,2,4,10]
@[go_sem] def cB4:List Nat:=[0,1,2,6,7,8,9,14,15,16,17,18,30]
@[go_sem] def aXN:List Nat:=[0,1,4,5,7,8,9,16]
@[go_sem] def bJA:List Nat:=[0,2,4]
@[go_sem] def bCL:List Nat:=[0,1,4,5,10,14,25]
@[go_sem] def bJB:List Nat:=[3]
@[go_sem] def aXO:List Nat:=[0,1,4,5,6,11]
@[go_sem] def bSN:List Nat:=[0,1,2,3,4,9,14,20]
@[go_sem] def bSO:List Nat:=[0,1,2,6]
@[go_sem] def bSP:List Nat:=[0,1,4,5,10,12,13,14,24]
@[go_sem] def bCM:List Nat:=[0,1,2,3,5,7,8,9,10]
@[go_sem] def bSQ:List Nat:=[0,1,4,7]
@[go_sem] def bSR:List Nat:=[5]
@[go_sem] def bSS:List Nat:=[0,1,2]
@[go_sem] def bCN:List Nat:=[0,1,2,6,7,8,16]
@[go_sem] def bCO:List Nat:=[9,29]
@[go_sem] def aPY:List Nat:=[0,1,2,6,7,8,9,10,18,49,67]
@[go_sem] def aPZ:List Nat:=[11,31]
@[go_sem] def aP0:Marks:=λid=>match id with|6=>([3],(.op 0 (.op 1 (.op 2 (.op 7 (.op 8 (.op 9 (.op 10 (.op 3 (.op 4 (.op 5 (.op 6 (.op 11 (.op 12 .nil))))))))))))),[])|8=>([11],(.op 0 (.op 1 (.op 2 (.op 3 (.op 4 (.op 5 (.op 6 (.op 7 (.op 8 (.op 9 (.op 10 (.op 11 (.op 12 .nil))))))))))))),[])|_=>([],.nil,[])
@[go_sem] def bCP:List Nat:=[0,1,2,4,6]
@[go_sem] def aP1:List Nat:=[0,1,4,5,9,19]
@[go_sem] def bST:List Nat:=[0,1,2,4,10,16,22]
@[go_sem] def b1W:List Nat:=[0,1,2,4,10,16,22,28,34]
@[go_sem] def b1X:List Nat:=[0,1,4,10]
theorem mix:Tryz.prog.follows .mixedOrders=true:=by kernel_rfl
abbrev I (n:Int):aC:=.int .i64 n
abbrev ints (l:List Int):aC:=.sl 1 (l.map λn=>[I n]) false
abbrev dA {α:Type} (sz:Nat) (c:α->List aC) (l:List α):aC:=.sl sz (l.map c) false
def InI (n:Int):Prop:=-9223372036854775808<=n/\n<=9223372036854775807
def lft (left:Int) (n:Nat):Int:=if left-n<0 then -1 else left-n
theorem yM (left:Int) (n:Nat):(lft left n=-1/\left-n<0)∨(lft left n=left-n/\0<=left-n):=by
 unfold lft;split
 ·exact .inl ⟨rfl,by assumption⟩
 ·exact .inr ⟨rfl,by omega⟩
theorem sJ {left:Int} {n:Nat} (h:left-n<0):lft left n=-1:=if_pos h
theorem aCG {left:Int} {n:Nat} (h:0<=left-n):lft left n=left-n:=if_neg aA
theorem aHO {left L:Int} {n:Nat} (h:lft left n=L):(L<0->left-n<0)/\(¬L<0->L=left-n):=by
 subst h;unfold lft;split <;> constructor <;> intros <;> omega
theorem kE {α:Type} (s:α->Nat) (l:List α) (k:Nat) (h:k<l.length):((l.take (k+1)).map s).sum=((l.take k).map s).sum+s l[k]:=by
 rw[kF h,xX,List.sum_append];simp only[nE,xL,aWR,List.sum_nil,al0]
theorem rN {α:Type} (s:α->Nat):∀ (l:List α) (k:Nat),((l.take k).map s).sum<=(l.map s).sum
 | [],k=>by simp
 |a::l,0=>by simp
 |a::l,k+1=>by have:=rN s l k;simp only[bA2,nE,aWR];omega
theorem pT {α:Type} (s:α->Nat) {l:List α} {x:α} (h:x∈l):s x<=(l.map s).sum:=by
 induction l with
 |nil=>simp at h
 |cons a l ih =>
  simp only[nE,aWR]
  rcases s7.1 h with rfl|h
  ·omega
  ·have:=ih h;omega
def rO {α:Type} (f:α->List aC) (z:List aC) (a:List α) (k:Nat):List (List Cell):=((a.take k).map f++List.replicate (a.length-k) z).map (List.map .v)
theorem a2X {α:Type} (f:α->List aC) (z:List aC) (a:List α):rO f z a 0=List.map (List.map .v) (List.replicate a.length z):=by simp[rO]
theorem aBM {α:Type} (f:α->List aC) (z:List aC) (a:List α):rO f z a a.length=(a.map f).map (List.map .v):=by simp[rO]
theorem rP {α:Type} (f:α->List aC) (z:List aC) (a:List α) (k:Nat) (h:k<a.length):(rO f z a k)[k]?=some (z.map .v):=by
 have:((a.take k).map f).length=k:=by simp;omega
 simp only[rO,s6]
 rw[aGJ aA,this]
 have h0:0<a.length-k:=by omega
 simp[h0]
theorem a7H {α:Type} (f:α->List aC) (z:List aC) (a:List α) (k:Nat) (h:k<a.length) (e:List Cell) (he:e=(f a[k]).map .v):(rO f z a k).set k e=rO f z a (k+1):=by
 subst he
 have h1:((a.take k).map f).length=k:=by simp;omega
 simp only[rO]
 rw[←a2D,bHJ _ _ aA,h1,aIY,kF h,show a.length-k=(a.length-(k+1))+1 by omega,bHC,bHK]
 simp only[xX,nE,xL,oW,tE,pR]
theorem aL9 {α:Type} {f:α->List aC} {z:List aC} {a:List α} {k:Nat} {h:Heap} {n sz:Nat} {e:List Cell} (hk:k<a.length) (he:e=(f a[k]).map .v) :
  (bL h n (.row sz (rO f z a (k+1)))).le (bL (bL h n (.row sz (rO f z a k))) n (.row sz ((rO f z a k).set k e))):=by
 rw[a7H f z a k hk e he,aF]
 exact Heap.le_refl _
theorem dD (h:Heap) (n m:Nat) (o:bQ):bL h n o m=if m=n then some o else h m:=rfl
theorem getElem_of_eq {α:Type} {a b:List α} (e:a=b) {k:Nat} (ha:k<a.length) {hb:k<b.length}:a[k]=b[k]:=by subst e;rfl
theorem yN {α:Type} {a b:List α} {k:Nat} (ha:k<a.length) (hb:k<b.length) (hp:a.take k=b.take k) (he:a[k]=b[k]):a.take (k+1)=b.take (k+1):=by
 rw[kF ha,kF hb,hp,he]
theorem uE {α:Type} {a b:List α} (hl:a.length=b.length) (h:a.take a.length=b.take a.length):a=b:=by
 rw[eJ,hl,eJ]at h;exact h
theorem vE (l:List (List aC)):jJ (l.map (List.map .v))=l:=by
 induction l with
 |nil=>rfl
 |cons e l ih =>
  have:aNK (e.map Cell.v)=e:=by
   induction e with
   |nil=>rfl
   |cons x e ih=>simp only[nE,aNK,Cell.val,ih]
  simp only[jJ,nE]at ih ⊢
  rw[ih,this]
theorem sK {h h':Heap} {n sz:Nat} (es:List (List aC)) (h0:h n=none) (hl:(bL h n (.row sz (es.map (List.map .v)))).le h') (len:Nat) (e:len=es.length):Shift (.os n sz 0 len) h' (.sl sz es false) h:=by
 subst e
 refine(Shift.of (Sub.refl _) hl).trans ((Shift.iE (bB _ _ _) (by simp[lY])).trans ?_)
 have:aC.iE n (jJ (es.map (List.map .v))) (.os n sz 0 es.length)=.sl sz es false:=by simp[aC.iE,vE]
 rw[this]
 exact eZ ((aW h0).2 ((aW h0).2 (Heap.le_refl h)))
theorem b9 {α β:Type} {f:α->β} {l:List α} {k:Nat} (h:k<l.length):(l.map f)[k]?=some (f l[k]):=by
 rw[s6,cJ h];rfl
theorem mN {α:Type} {P:α->Prop} {l:List α} {k:Nat} (h:k<l.length) (hp:∀ x∈l.take k,P x) (he:P l[k]):∀ x∈l.take (k+1),P x:=by
 rw[kF h]
 intro x hx
 rcases rF.1 hx with hx|hx
 ·exact hp x hx
 ·rw[vP.1 hx];exact he
def idxOf {α:Type} (p:α->Bool) (l:List α):Int:=match l.findIdx? p with|some i=>i|none=>-1
theorem yO {α:Type} {p:α->Bool} {l:List α} (h:∀ x∈l,p x=false):idxOf p l=-1:=by
 have:l.findIdx? p=none:=List.findIdx?_eq_none_iff.2 h
 simp only[idxOf,this]
theorem yP {α:Type} {p:α->Bool} {l:List α} {k:Nat} (hk:k<l.length) (h:∀ x∈l.take k,p x=false) (he:p l[k]=true):idxOf p l=k:=by
 have:l.findIdx? p=some k:=by
  rw[bQ2]
  refine⟨hk,he,λj hj=>?_⟩
  have:=h l[j] (List.mem_take_iff_getElem.2 ⟨j,by omega,rfl⟩)
  simp[this]
 simp only[idxOf,this]
theorem sM {α:Type} {p:α->Bool} {l:List α}:decide (0<=idxOf p l)=l.any p:=by
 unfold idxOf
 cases h:l.findIdx? p with
 |none =>
  have:=List.findIdx?_eq_none_iff.1 h
  simp only
  rw[Bool.eq_false_iff.2 (show l.any p≠true from ?_)]
  ·simp
  ·intro hx
   obtain⟨x,hx,hp⟩:=bHH.1 hx
   rw[this x hx]at hp;cases hp
 |some i =>
  obtain⟨hi,hp,_⟩:=bQ2.1 h
  have:l.any p=true:=bHH.2 ⟨_,dX hi,hp⟩
  rw[this];simp
def oI (n:Int):Prop:=0<=n/\n<=1000002
instance (n:Int):Decidable (oI n):=inferInstanceAs (Decidable (0<=n/\n<=1000002))
def rH (l:List Int):Prop:=∀ x∈l,oI x
instance (l:List Int):Decidable (rH l):=inferInstanceAs (Decidable (∀ x∈l,oI x))
theorem bCQ {α:Type} {P:α->Prop} [DecidablePred P] {l:List α} [Decidable (∀ x∈l,P x)]:(!l.any λx=>!decide (P x))=decide (∀ x∈l,P x):=by
 rw[Bool.eq_iff_iff]
 simp[List.any_eq_false]
inductive aB where
 |mk (bH:Int) (bZ:Int) (dR:Int) (dB:Int) (aP:(List aB))
def aB.bH:aB->Int
 | .mk bH bZ dR dB aP=>bH
def aB.bZ:aB->Int
 | .mk bH bZ dR dB aP=>bZ
def aB.dR:aB->Int
 | .mk bH bZ dR dB aP=>dR
def aB.dB:aB->Int
 | .mk bH bZ dR dB aP=>dB
def aB.aP:aB->(List aB)
 | .mk bH bZ dR dB aP=>aP
mutual
def aB.c:aB->List aC
 | .mk bH bZ dR dB aP=>[(.int .i64 bH),(.int .i64 bZ),(.int .i64 dR),(.int .i64 dB),.sl 5 (aB.cL aP) false]
def aB.cL:List aB->List (List aC)
 | []=>[]
 |x::l=>x.c::aB.cL l
end
mutual
def aB.s:aB->Nat
 | .mk bH bZ dR dB aP=>(aP.length+aB.sL aP)
def aB.sL:List aB->Nat
 | []=>0
 |x::l=>x.s+aB.sL l
end
theorem aB.bJC:∀ l,aB.cL l=l.map aB.c
 | []=>rfl
 |x::l=>by simp only[aB.cL,nE,aB.bJC l]
theorem aB.bJD:∀ l,aB.sL l=(l.map aB.s).sum
 | []=>rfl
 |x::l=>by simp only[aB.sL,nE,aWR,aB.bJD l]
theorem aB.aO (x:aB):x.c=[(.int .i64 x.bH),(.int .i64 x.bZ),(.int .i64 x.dR),(.int .i64 x.dB),(dA 5 aB.c x.aP)]:=by cases x;simp only[aB.c,aB.bJC,dA];rfl
theorem aB.gB (x:aB):x.s=(zZ aB.s x.aP):=by cases x;simp only[aB.s,aB.bJD,zZ];rfl
theorem aB.wV {x y:aB} (h:y∈x.aP):SizeOf.sizeOf y<SizeOf.sizeOf x:=by
 cases x
 have:=bHM h
 simp only[aB.aP]at this
 simp only[aB.mk.sizeOf_spec];omega
@[simp] theorem aB.aMA (x:aB):x.c.length=5:=by rw[aB.aO];rfl
inductive aB.wf:aB->Prop
 |mk (x:aB) (h0:InI x.bH) (h1:InI x.bZ) (h2:InI x.dR) (h3:InI x.dB) (hk:∀ y∈x.aP,y.wf):x.wf
theorem aB.eq_iff {a b:aB}:a=b↔a.bH=b.bH/\a.bZ=b.bZ/\a.dR=b.dR/\a.dB=b.dB/\a.aP=b.aP:=by cases a;cases b;simp[aB.bH,aB.bZ,aB.dR,aB.dB,aB.aP]
noncomputable instance:DecidableEq aB:=λa b=>Classical.propDecidable (a=b)
structure aX where
 fG:(List UInt8)
 bN:Int
 bG:(List aB)
def aX.c (x:aX):List aC:=[(.str x.fG),(.int .i64 x.bN),(dA 5 aB.c x.bG)]
def aX.s (x:aX):Nat:=x.fG.length+(zZ aB.s x.bG)
theorem aX.aO (x:aX):x.c=[(.str x.fG),(.int .i64 x.bN),(dA 5 aB.c x.bG)]:=rfl
theorem aX.gB (x:aX):x.s=x.fG.length+(zZ aB.s x.bG):=rfl
@[simp] theorem aX.aMA (x:aX):x.c.length=3:=by rw[aX.aO];rfl
def aX.wf (x:aX):Prop:=InI x.bN/\(∀ y∈x.bG,y.wf)
theorem aX.eq_iff {a b:aX}:a=b↔a.fG=b.fG/\a.bN=b.bN/\a.bG=b.bG:=by cases a;cases b;simp
noncomputable instance:DecidableEq aX:=λa b=>Classical.propDecidable (a=b)
structure aL where
 aJ:(List aX)
def aL.c (x:aL):List aC:=[(dA 3 aX.c x.aJ)]
def aL.s (x:aL):Nat:=(zZ aX.s x.aJ)
theorem aL.aO (x:aL):x.c=[(dA 3 aX.c x.aJ)]:=rfl
theorem aL.gB (x:aL):x.s=(zZ aX.s x.aJ):=rfl
@[simp] theorem aL.aMA (x:aL):x.c.length=1:=by rw[aL.aO];rfl
def aL.wf (x:aL):Prop:=(∀ y∈x.aJ,y.wf)
theorem aL.eq_iff {a b:aL}:a=b↔a.aJ=b.aJ:=by cases a;cases b;simp
noncomputable instance:DecidableEq aL:=λa b=>Classical.propDecidable (a=b)
structure dF where
 bR:aL
 bO:Int
 aQ:Int
 c7:(List Int)
 aV:(List (List Int))
def dF.c (x:dF):List aC:=[(dA 3 aX.c x.bR.aJ),(.int .i64 x.bO),(.int .i64 x.aQ),(dA 1 (λn=>[I n]) x.c7),(dA 1 (λx=>[dA 1 (λn=>[I n]) x]) x.aV)]
def dF.s (x:dF):Nat:=(aL.s x.bR)+x.c7.length+(zZ (λx:List Int=>x.length) x.aV)
theorem dF.aO (x:dF):x.c=[(dA 3 aX.c x.bR.aJ),(.int .i64 x.bO),(.int .i64 x.aQ),(dA 1 (λn=>[I n]) x.c7),(dA 1 (λx=>[dA 1 (λn=>[I n]) x]) x.aV)]:=rfl
theorem dF.gB (x:dF):x.s=(aL.s x.bR)+x.c7.length+(zZ (λx:List Int=>x.length) x.aV):=rfl
@[simp] theorem dF.aMA (x:dF):x.c.length=5:=by rw[dF.aO];rfl
def dF.wf (x:dF):Prop:=x.bR.wf/\InI x.bO/\InI x.aQ/\(∀ y∈x.c7,InI y)/\(∀ y∈x.aV,(∀ y'∈y,InI y'))
theorem dF.eq_iff {a b:dF}:a=b↔a.bR=b.bR/\a.bO=b.bO/\a.aQ=b.aQ/\a.c7=b.c7/\a.aV=b.aV:=by cases a;cases b;simp
noncomputable instance:DecidableEq dF:=λa b=>Classical.propDecidable (a=b)
structure cR where
 cU:Int
 iL:Int
 kQ:(List Int)
def cR.c (x:cR):List aC:=[(.int .i64 x.cU),(.int .i64 x.iL),(dA 1 (λn=>[I n]) x.kQ)]
def cR.s (x:cR):Nat:=x.kQ.length
theorem cR.aO (x:cR):x.c=[(.int .i64 x.cU),(.int .i64 x.iL),(dA 1 (λn=>[I n]) x.kQ)]:=rfl
theorem cR.gB (x:cR):x.s=x.kQ.length:=rfl
@[simp] theorem cR.aMA (x:cR):x.c.length=3:=by rw[cR.aO];rfl
def cR.wf (x:cR):Prop:=InI x.cU/\InI x.iL/\(∀ y∈x.kQ,InI y)
theorem cR.eq_iff {a b:cR}:a=b↔a.cU=b.cU/\a.iL=b.iL/\a.kQ=b.kQ:=by cases a;cases b;simp
noncomputable instance:DecidableEq cR:=λa b=>Classical.propDecidable (a=b)
structure aI where
 bC:dF
 aT:(List Int)
 bW:(List Bool)
 cQ:(List cR)
 cC:(List Int)
def aI.c (x:aI):List aC:=[(dA 3 aX.c x.bC.bR.aJ),(.int .i64 x.bC.bO),(.int .i64 x.bC.aQ),(dA 1 (λn=>[I n]) x.bC.c7),(dA 1 (λx=>[dA 1 (λn=>[I n]) x]) x.bC.aV),(dA 1 (λn=>[I n]) x.aT),(dA 1 (λb=>[.bool b]) x.bW),(dA 3 cR.c x.cQ),(dA 1 (λn=>[I n]) x.cC)]
def aI.s (x:aI):Nat:=(dF.s x.bC)+x.aT.length+x.bW.length+(zZ cR.s x.cQ)+x.cC.length
theorem aI.aO (x:aI):x.c=[(dA 3 aX.c x.bC.bR.aJ),(.int .i64 x.bC.bO),(.int .i64 x.bC.aQ),(dA 1 (λn=>[I n]) x.bC.c7),(dA 1 (λx=>[dA 1 (λn=>[I n]) x]) x.bC.aV),(dA 1 (λn=>[I n]) x.aT),(dA 1 (λb=>[.bool b]) x.bW),(dA 3 cR.c x.cQ),(dA 1 (λn=>[I n]) x.cC)]:=rfl
theorem aI.gB (x:aI):x.s=(dF.s x.bC)+x.aT.length+x.bW.length+(zZ cR.s x.cQ)+x.cC.length:=rfl
@[simp] theorem aI.aMA (x:aI):x.c.length=9:=by rw[aI.aO];rfl
def aI.wf (x:aI):Prop:=x.bC.wf/\(∀ y∈x.aT,InI y)/\(∀ y∈x.cQ,y.wf)/\(∀ y∈x.cC,InI y)
theorem aI.eq_iff {a b:aI}:a=b↔a.bC=b.bC/\a.aT=b.aT/\a.bW=b.bW/\a.cQ=b.cQ/\a.cC=b.cC:=by cases a;cases b;simp
noncomputable instance:DecidableEq aI:=λa b=>Classical.propDecidable (a=b)
structure dU where
 fW:Int
 tC:Int
 mO:cR
def dU.c (x:dU):List aC:=[(.int .i64 x.fW),(.int .i64 x.tC),(.int .i64 x.mO.cU),(.int .i64 x.mO.iL),(dA 1 (λn=>[I n]) x.mO.kQ)]
def dU.s (x:dU):Nat:=(cR.s x.mO)
theorem dU.aO (x:dU):x.c=[(.int .i64 x.fW),(.int .i64 x.tC),(.int .i64 x.mO.cU),(.int .i64 x.mO.iL),(dA 1 (λn=>[I n]) x.mO.kQ)]:=rfl
theorem dU.gB (x:dU):x.s=(cR.s x.mO):=rfl
@[simp] theorem dU.aMA (x:dU):x.c.length=5:=by rw[dU.aO];rfl
def dU.wf (x:dU):Prop:=InI x.fW/\InI x.tC/\x.mO.wf
noncomputable instance:DecidableEq dU:=λa b=>Classical.propDecidable (a=b)
structure aMB where
 yQ:dF
 jN:aI
 aMC:(List UInt8)
 bJE:Int
 aMD:(List (List dU))
 aME:(List dU)
def aMB.c (x:aMB):List aC:=[(dA 3 aX.c x.yQ.bR.aJ),(.int .i64 x.yQ.bO),(.int .i64 x.yQ.aQ),(dA 1 (λn=>[I n]) x.yQ.c7),(dA 1 (λx=>[dA 1 (λn=>[I n]) x]) x.yQ.aV),(dA 3 aX.c x.jN.bC.bR.aJ),(.int .i64 x.jN.bC.bO),(.int .i64 x.jN.bC.aQ),(dA 1 (λn=>[I n]) x.jN.bC.c7),(dA 1 (λx=>[dA 1 (λn=>[I n]) x]) x.jN.bC.aV),(dA 1 (λn=>[I n]) x.jN.aT),(dA 1 (λb=>[.bool b]) x.jN.bW),(dA 3 cR.c x.jN.cQ),(dA 1 (λn=>[I n]) x.jN.cC),(.str x.aMC),(.int .i64 x.bJE),(dA 1 (λx=>[dA 5 dU.c x]) x.aMD),(dA 5 dU.c x.aME)]
def aMB.s (x:aMB):Nat:=(dF.s x.yQ)+(aI.s x.jN)+x.aMC.length+(zZ (λx=>zZ dU.s x) x.aMD)+(zZ dU.s x.aME)
theorem aMB.aO (x:aMB):x.c=[(dA 3 aX.c x.yQ.bR.aJ),(.int .i64 x.yQ.bO),(.int .i64 x.yQ.aQ),(dA 1 (λn=>[I n]) x.yQ.c7),(dA 1 (λx=>[dA 1 (λn=>[I n]) x]) x.yQ.aV),(dA 3 aX.c x.jN.bC.bR.aJ),(.int .i64 x.jN.bC.bO),(.int .i64 x.jN.bC.aQ),(dA 1 (λn=>[I n]) x.jN.bC.c7),(dA 1 (λx=>[dA 1 (λn=>[I n]) x]) x.jN.bC.aV),(dA 1 (λn=>[I n]) x.jN.aT),(dA 1 (λb=>[.bool b]) x.jN.bW),(dA 3 cR.c x.jN.cQ),(dA 1 (λn=>[I n]) x.jN.cC),(.str x.aMC),(.int .i64 x.bJE),(dA 1 (λx=>[dA 5 dU.c x]) x.aMD),(dA 5 dU.c x.aME)]:=rfl
theorem aMB.gB (x:aMB):x.s=(dF.s x.yQ)+(aI.s x.jN)+x.aMC.length+(zZ (λx=>zZ dU.s x) x.aMD)+(zZ dU.s x.aME):=rfl
@[simp] theorem aMB.aMA (x:aMB):x.c.length=18:=by rw[aMB.aO];rfl
def aMB.wf (x:aMB):Prop:=x.yQ.wf/\x.jN.wf/\InI x.bJE/\(∀ y∈x.aMD,(∀ y'∈y,y'.wf))/\(∀ y∈x.aME,y.wf)
noncomputable instance:DecidableEq aMB:=λa b=>Classical.propDecidable (a=b)
set_option maxRecDepth 100000
theorem gC (n a b:Int):fQ Tryz.prog 65 [I n,I a,I b] (.bool (decide (a<=n/\n<=b))):=by
 refine eG 15 bSO cD bS Tryz.func65 λh=>?_
 simp -dsimp -implicitDefEqProofs only[go_sem,↓reduceIte,Tryz.f65]
 repeat'(with_reducible first|intro _|refine And.intro ?_ ?_)
 all_goals try(first|(simp[*];done)|omega|grind)
theorem within (n a b:Int):fQ Tryz.prog 52 [I n,I a,I b] (.bool (decide (a<=n/\n<=b))):=by
 refine eG 15 bSO cD bS Tryz.func52 λh=>?_
 simp -dsimp -implicitDefEqProofs only[go_sem,↓reduceIte,Tryz.f52]
 repeat'(with_reducible first|intro _|refine And.intro ?_ ?_)
 all_goals try(first|(simp[*];done)|omega|grind)
theorem nU (n:Int):fQ Tryz.prog 112 [I n] (.bool (decide (oI n))):=by
 refine eG 5 aN4 cD bS Tryz.func112 λh=>?_
 simp -dsimp -implicitDefEqProofs only[go_sem,↓reduceIte,Tryz.f112]
 first|refine aH.mk (gC n 0 1000002) ?_|refine aG.mk (gC n 0 1000002) ?_|refine aH.cN (gC n 0 1000002) ?_|refine aG.mk (cG.fO (gC n 0 1000002)) ?_
 simp -dsimp -implicitDefEqProofs only[go_sem,↓reduceIte,Tryz.f112]
 all_goals rfl
theorem qF (n:Int):fQ Tryz.prog 125 [I n] (.bool (decide (oI n))):=by
 refine eG 5 aN4 cD bS Tryz.func125 λh=>?_
 simp -dsimp -implicitDefEqProofs only[go_sem,↓reduceIte,Tryz.f125]
 first|refine aH.mk (within n 0 1000002) ?_|refine aG.mk (within n 0 1000002) ?_|refine aH.cN (within n 0 1000002) ?_|refine aG.mk (cG.fO (within n 0 1000002)) ?_
 simp -dsimp -implicitDefEqProofs only[go_sem,↓reduceIte,Tryz.f125]
 all_goals rfl
@[go_sem] def bJF:List Nat:=[0,2,3,7,15]
theorem jG (l:List Int):fQ Tryz.prog 66 [dA 1 (λn=>[I n]) l] (.bool (decide (rH l))):=by
 refine eG 16 bJF cD bS Tryz.func66 λh=>?_
 simp -dsimp -implicitDefEqProofs only[go_sem,↓reduceIte,Tryz.f66]
 refine cY bJF cD bS (λk:Nat=>[(0,dA 1 (λn=>[I n]) l),(3,I k)]) (λ_=>h) (λk=>k<=(l).length/\∀ x∈(l).take k,oI x) (λk=>(l).length-k) 0 qA ?_
 intro k ⟨hk,hp⟩
 rcases cX k (l).length with hlt|hge
 ·have ea:(l)[k]?=some (l)[k]:=cJ hlt
  simp -dsimp -implicitDefEqProofs only[go_sem,↓reduceIte,Tryz.f66,ea]
  repeat'(with_reducible first|intro _|refine And.intro ?_ ?_)
  all_goals try omega
  first|refine aH.mk (nU l[k]) ?_|refine aG.mk (nU l[k]) ?_|refine aH.cN (nU l[k]) ?_|refine aG.mk (cG.fO (nU l[k])) ?_
  simp -dsimp -implicitDefEqProofs only[go_sem,↓reduceIte,Tryz.f66]
  repeat'(with_reducible first|intro _|refine And.intro ?_ ?_)
  ·rename_i he
   exact(decide_eq_false λe=>he (e _ (dX hlt))).symm
  ·rename_i he
   refine⟨k+1,?_⟩
   repeat'(with_reducible refine And.intro ?_ ?_)
   all_goals try(rw[IntWalk.i64_in _ aA];first|rfl|omega)
   all_goals try omega
   all_goals try(repeat'(with_reducible first|exact Heap.le_refl _|refine(aW jI).2 ?_))
   exact mN hlt hp he
 ·have hk':k=(l).length:=by omega
  subst hk'
  rw[eJ]at hp
  simp -dsimp -implicitDefEqProofs only[go_sem,↓reduceIte,Tryz.f66,cO]
  intro _
  exact(decide_eq_true hp).symm
theorem a4A (a:List Int) (p:Int->Bool) (g:FuncId) (cap:List aC) {h0:Heap} (hc:∀ x∈a,cG Tryz.prog g ([(.int .i64 x)]++cap) (.bool (p x)) h0):cG Tryz.prog 101 [(dA 1 (λn=>[I n]) a),.fn (.func g) [] cap] (I (idxOf p a)) h0:=by
 refine aPO 19 aXN cD bS Tryz.func101 λh hle=>?_
 simp -dsimp -implicitDefEqProofs only[go_sem,↓reduceIte,Tryz.f101,Tryz.f101]
 intro _
 refine cY aXN cD bS (λk:Nat=>[(0,(dA 1 (λn=>[I n]) a)),(1,.fn (.func g) [] cap),(7,I a.length),(8,I k)]) (λ_=>h) (λk=>k<=a.length/\∀ x∈a.take k,p x=false) (λk=>a.length-k) 0 qA ?_
 intro k ⟨hk,hp⟩
 rcases cX k a.length with hlt|hge
 ·have ea:a[k]?=some a[k]:=cJ hlt
  simp -dsimp -implicitDefEqProofs only[go_sem,↓reduceIte,Tryz.f101,Tryz.f101,ea]
  repeat'(with_reducible first|intro _|refine And.intro ?_ ?_)
  all_goals try omega
  have hx:=hc a[k] (dX hlt)
  refine aH.cN (hx.mono hle) ?_
  cases hpk:p a[k]with
  |true =>
   simp -dsimp -implicitDefEqProofs only[go_sem,↓reduceIte,Tryz.f101,Tryz.f101]
   repeat'(with_reducible first|intro _|refine And.intro ?_ ?_)
   all_goals first|exact(yP hlt hp hpk).symm|rfl|(rw[yP hlt hp hpk])
  |false =>
   simp -dsimp -implicitDefEqProofs only[go_sem,↓reduceIte,Tryz.f101,Tryz.f101]
   refine⟨k+1,?_⟩
   repeat'(with_reducible refine And.intro ?_ ?_)
   all_goals try(rw[IntWalk.i64_in _ aA];first|rfl|omega)
   all_goals try omega
   exact mN (P:=λx=>p x=false) hlt hp hpk
 ·have hk':k=a.length:=by omega
  subst hk'
  rw[eJ]at hp
  simp -dsimp -implicitDefEqProofs only[go_sem,↓reduceIte,Tryz.f101,Tryz.f101,cO]
  all_goals first|exact(yO hp).symm|rw[yO hp]
theorem aCH (a:List Int) (p:Int->Bool) (g:FuncId) (cap:List aC) {h0:Heap} (hc:∀ x∈a,cG Tryz.prog g ([(.int .i64 x)]++cap) (.bool (p x)) h0):cG Tryz.prog 53 [(dA 1 (λn=>[I n]) a),.fn (.func g) [] cap] (.bool (a.any p)) h0:=by
 refine aPO 9 aHN cD bS Tryz.func53 λh hle=>?_
 simp -dsimp -implicitDefEqProofs only[go_sem,↓reduceIte,Tryz.f53,Tryz.f53]
 refine aH.cN ((a4A a p g cap hc).mono hle) ?_
 simp -dsimp -implicitDefEqProofs only[go_sem,↓reduceIte,Tryz.f53,Tryz.f53]
 all_goals first|done|exact sM|rw[sM]
theorem aCI (n:Int):fQ Tryz.prog 124 [I n] (.bool (!decide (oI n))):=by
 refine eG 6 aN4 cD bS Tryz.func124 λh=>?_
 simp -dsimp -implicitDefEqProofs only[go_sem,↓reduceIte,Tryz.f124]
 first|refine aH.mk (qF n) ?_|refine aG.mk (qF n) ?_|refine aH.cN (qF n) ?_|refine aG.mk (cG.fO (qF n)) ?_
 simp -dsimp -implicitDefEqProofs only[go_sem,↓reduceIte,Tryz.f124]
theorem gE (l:List Int) (c:Int):fQ Tryz.prog 73 [dA 1 (λn=>[I n]) l,I c] (.bool (decide ((l.length:Int)=c/\rH l))):=by
 refine eG 14 aHN cD bS Tryz.func73 λh=>?_
 simp -dsimp -implicitDefEqProofs only[go_sem,↓reduceIte,Tryz.f73]
 repeat'(with_reducible first|intro _|refine And.intro ?_ ?_)
 all_goals try(first|(simp[*];done)|omega|grind)
 first|refine aH.mk (aCH l (λn=>!decide (oI n)) 124 [] λx _=>(aCI x).bN7) ?_|refine aG.mk (aCH l (λn=>!decide (oI n)) 124 [] λx _=>(aCI x).bN7) ?_|refine aH.cN (aCH l (λn=>!decide (oI n)) 124 [] λx _=>(aCI x).bN7) ?_|refine aG.mk (cG.fO (aCH l (λn=>!decide (oI n)) 124 [] λx _=>(aCI x).bN7)) ?_
 simp -dsimp -implicitDefEqProofs only[go_sem,↓reduceIte,Tryz.f73]
 rename_i e
 rw[bCQ,decide_eq_decide]
 exact⟨λq=>⟨e,q⟩,λq=>q.2⟩
theorem bOD {n:Int} (h0:0<=n) (h:n<10):Go.Lib.itoa n=[UInt8.ofNat (48+n).toNat]:=by
 unfold Go.Lib.itoa
 rw[if_neg aA,Go.Lib.decDigits,dif_pos aA,show(48+n).toNat=48+n.toNat from by omega]
theorem bOE {n:Int} (h:10<=n):Go.Lib.itoa n=Go.Lib.itoa (n / 10)++[UInt8.ofNat (48+n%10).toNat]:=by
 unfold Go.Lib.itoa
 rw[if_neg aA,if_neg aA,Go.Lib.decDigits,dif_neg aA,show(48+n%10).toNat=48+n.toNat%10 from by omega,show(n / 10).toNat=n.toNat / 10 from by omega]
theorem aF4 {u k:Nat} (h:u<10 ^ k) (hk:1<=k):(Go.Lib.decDigits u).length<=k:=by
 induction k generalizing u with
 |zero=>omega
 |succ k ih =>
  rw[Go.Lib.decDigits]
  split
  ·simp
  ·rename_i hu
   rcases bHE k with e|e
   ·subst e;simp at h;omega
   ·have:=ih (u:=u / 10) (by rw[Nat.pow_succ]at h;omega) e
    simp;omega
theorem yR {n:Int} (h0:-9223372036854775808<=n) (h1:n<=9223372036854775807):(Go.Lib.itoa n).length<=21:=by
 unfold Go.Lib.itoa
 split
 ·have:=aF4 (u:=n.natAbs) (k:=20) aA aA
  simp;omega
 ·have:=aF4 (u:=n.toNat) (k:=20) aA aA
  omega
theorem bJG {E:Env} {h:Heap} {w:World} (x:LaidIn E h w):Go.Lib.TabIs Tryz.prog w "internal/strconv.uint64pow10" .u64 Go.Lib.pow10Tab :=
 let ⟨_,h1,h2⟩:=x.var (P:=Tryz.prog) (name:="internal/strconv.uint64pow10") aFE (p6 ..)
 h1.trans (congrArg some (h2.trans aFE))
theorem vF (n:Int) (h0:-9223372036854775808<=n) (h1:n<=9223372036854775807):fQ Tryz.prog 130 [I n,I 10] (.str (Go.Lib.itoa n)) :=
 bFR aFE λE h w vs R rl=>by
  match vs,rl with
  | [v0,v1],rl =>
   obtain⟨r0,r1,_⟩:=rl
   rw[kV r0,kV r1]
   refine(Go.Proofs.Tryz.strconv_FormatInt_10 n h0 h1 w (bJG R.laid)).mono λe w' ⟨he,hw⟩=>⟨_,he,λE' h' w'=>.str _ ?_,hw⟩
   have:=yR h0 h1
   simp only[maxLen]
   omega
theorem decimal (n:Int) (h:oI n):fQ Tryz.prog 80 [I n] (.str (Go.Lib.itoa n)):=by
 have h0:=h.1
 have h1:=h.2
 refine eG 5 aN4 cD bS Tryz.func80 λh=>?_
 simp -dsimp -implicitDefEqProofs only[go_sem,↓reduceIte,Tryz.f80]
 first|refine aH.mk (vF n aA aA) ?_|refine aG.mk (vF n aA aA) ?_|refine aH.cN (vF n aA aA) ?_|refine aG.mk (cG.fO (vF n aA aA)) ?_
 simp -dsimp -implicitDefEqProofs only[go_sem,↓reduceIte,Tryz.f80]
@[go_sem] def b1Y:List Nat:=[8,17]
@[go_sem] def b1Z:Marks:=λid=>match id with|3=>([],(.op 0 (.op 1 (.op 2 (.op 3 (.op 4 (.op 5 (.op 6 (.op 7 (.op 8 (.op 9 (.op 10 .nil))))))))))),[])|_=>([],.nil,[])
theorem aMF (m:Nat):∀ n:Int,0<=n->n<m->n<=999999999->fQ Tryz.prog 160 [I n] (.str (Go.Lib.itoa n)):=by
 induction m with
 |zero=>intro n a b;omega
 |succ m ih =>
 intro n h0 hm hn
 refine eG 20 bJA b1Y b1Z Tryz.func160 λh=>?_
 simp -dsimp -implicitDefEqProofs only[go_sem,↓reduceIte,Tryz.f160]
 repeat'(with_reducible first|intro _|refine And.intro ?_ ?_)
 all_goals try omega
 ·rw[bOD h0 fI,IntWalk.i64_in (48+n) aA,IntWalk.u8_in (48+n) aA]
 ·rw[a2E aA,IntWalk.i64_in (n / 10) aA]
  first|refine aH.mk (ih (n / 10) aA aA aA) ?_|refine aG.mk (ih (n / 10) aA aA aA) ?_|refine aH.cN (ih (n / 10) aA aA aA) ?_|refine aG.mk (cG.fO (ih (n / 10) aA aA aA)) ?_
  simp -dsimp -implicitDefEqProofs only[go_sem,↓reduceIte,Tryz.f160]
  repeat'(with_reducible first|intro _|refine And.intro ?_ ?_)
  all_goals try(first|omega|decide)
  ·have:=yR (n:=n / 10) aA aA
   omega
  ·rw[bOE (n:=n) aA,aGK aA,IntWalk.i64_in (48+n%10) aA,IntWalk.u8_in (48+n%10) aA]
theorem bVN {E:Env} {h:Heap} {w:World} {sz:Nat} {es:List (List aC)} {t:Bool} {v:Value} (hr:gG E h w (.sl sz es t) v) :
  (es=[]/\∃ a cap,v=.slice a 0 cap)∨∃ b o cap,v=.slice (some ⟨b,o,none⟩) es.length cap/\b<w.heap.size/\es.length<=cap/\∀ i j x,kS es i j=some x->∃ c,w.cell? ⟨b,o+i*sz+j,none⟩=some c/\gG E h w x c:=by
 cases hr with
 |sl0 _ _ a cap=>exact .inl ⟨rfl,a,cap,rfl⟩
 |sl _ _ _ b o cap cv hi hcap hmax ht hs hc h1 hr=>exact .inr ⟨b,o,cap,rfl,hi.1,hcap,λi j x q=>⟨_,hc i j x q,hr i j x q⟩⟩
@[go_sem] def b66:List Nat:=[0,1,4,5,7,8,10,12,13,15,22,29,39,40,41,42,49,63,64,65,66]
theorem b10 (xs:List (List UInt8)) (sep:List UInt8) (hN:xs.length<=140737488355328) (hlen:(Go.Lib.join xs sep).length<=140737488355328):fQ Tryz.prog 214 [dA 1 (λs=>[.str s]) xs,.str sep] (.str (Go.Lib.join xs sep)) :=
 aN3 aFE λE h w vs R rl=>by
  match vs,rl with
  | [v0,v1],rl =>
   obtain⟨r0,r1,_⟩:=rl
   obtain⟨rfl,hl⟩:=pW r1
   have hm:(xs.map λs:List UInt8=>(⟨s.toArray⟩:ByteArray)).map (λb=>b.data.toList)=xs:=by simp[List.map_map,Function.comp_def]
   have hr:∀ E' h' w',gG E' h' w' (.str (Go.Lib.join xs sep)) (.string ⟨(Go.Lib.join xs sep).toArray⟩):=λ_ _ _=>.str _ bBW
   rcases bVN r0 with⟨e,a,cap,rfl⟩|⟨b,o,cap,rfl,hb,hcap,hcs⟩
   ·have e:xs=[]:=by simpa using e
    subst e
    exact(Go.Proofs.Tryz.strings_Join_none a cap ⟨sep.toArray⟩ w).mono λe w' ⟨he,hw⟩=>⟨_,he,hr,hw▸Go.RowKit.Below.refl _ _⟩
   ·rw[lM]at hcap ⊢
    have:=Go.Proofs.Tryz.strings_Join b o cap (xs.map λs:List UInt8=>(⟨s.toArray⟩:ByteArray)) ⟨sep.toArray⟩ w (λj x hx=>by
     simp only[s6,zR]at hx
     obtain⟨s,hs,rfl⟩:=hx
     obtain⟨c,h1,h2⟩:=hcs j 0 (.str s) (by simp[kS,hs])
     rw[(pW h2).1]at h1
     simpa using h1) hb (by simpa using hN) (by simpa using hcap) (by rw[hm];exact hlen)
    rw[hm,lM]at this
    exact this.mono λe w' ⟨he,hw⟩=>⟨_,he,hr,hw⟩
theorem a4B {n:Int} (h:oI n):(Go.Lib.itoa n).length<=21:=yR (by have:=h.1;omega) (by have:=h.2;omega)
theorem aHP:∀ l:List Int,l≠[]->32::Go.Lib.join (l.map Go.Lib.itoa) [32]=hU l
 | [],h=>(h rfl).elim
 | [n],_=>by simp[hU,Go.Lib.join_one]
 |n::m::l,_=>by
  have:=aHP (m::l) bF
  rw[hU,←this]
  simp[Go.Lib.join,List.intercalate]
theorem aTO:∀ l:List Int,(∀ n∈l,oI n)->(hU l).length<=22*l.length
 | [],_=>by simp[hU]
 |n::l,h=>by
  have:=aTO l λn q=>h n (tF _ q)
  have:=a4B (h n (p6 ..))
  simp[hU];omega
theorem aP2:∀ l:List Int,aK4 999999999 l->(hU l).length<=22*l.length
 | [],_=>eV _
 |n::l,h=>by
  have h1:=aP2 l λm q=>h m (.tail _ q)
  have h2:=h n (.head _)
  have h3:=yR (n:=n) aA aA
  rw[hU]
  simp only[al6,tN]
  omega
theorem aXP (l:List Int) (h:∀ n∈l,oI n):(Go.Lib.join (l.map Go.Lib.itoa) [32]).length<=22*l.length:=by
 by_cases e:l=[]
 ·subst e;simp[Go.Lib.join_nil]
 ·have:=aTO l h
  rw[←aHP l e]at this
  simp at this ⊢;omega
theorem hgr {g h : Heap} (x : g.le h := by intro q_; simp only [dD, aN, aK, bI, aZ, aSD, aJH, aWW, aWX, aS, aY, OV.aR, List.nil_append, List.length_append, List.length_cons, List.length_nil, Nat.zero_add]; grind) : g.le h := x
theorem cDJ {a b : Prop} (hb : b) (ha : a := by first | omega | decide | rfl | trivial | exact Nat.le_of_eq (a2V _ _).symm | exact Nat.le_of_eq (aWY _).symm) : a ∧ b := ⟨ha, hb⟩
end Go.Hl
namespace Go.Proofs
open Go.Shelf
def Tryz.a4C:Go.Shelf.Ren:=⟨fun|145=>77|220=>128|219=>172|217=>205|225=>206|224=>207|267=>208|266=>229|314=>230|n=>n,fun|9=>9|4=>4|59=>123|3=>3|5=>5|46=>236|146=>272|51=>271|n=>n,fun|1=>0|n=>n⟩
theorem Tryz.bOF:Go.Proofs.Lays.n145 Tryz.prog Tryz.a4C:={
 mixed:=by kernel_rfl
 f145:=Tryz.func77.trans (congrArg some (by kernel_rfl))
 f217:=Tryz.func205.trans (congrArg some (by kernel_rfl))
 f219:=Tryz.func172.trans (congrArg some (by kernel_rfl))
 f220:=Tryz.func128.trans (congrArg some (by kernel_rfl))
 f224:=Tryz.func207.trans (congrArg some (by kernel_rfl))
 f225:=Tryz.func206.trans (congrArg some (by kernel_rfl))
 f266:=Tryz.func229.trans (congrArg some (by kernel_rfl))
 f267:=Tryz.func208.trans (congrArg some (by kernel_rfl))
 f314:=Tryz.func230.trans (congrArg some (by kernel_rfl))
 t3:=Tryz.underlying3
 a3:=Tryz.isAgg3
 z3:=Tryz.sizeOf3
 v3:=Tryz.zeroValue3
 t4:=Tryz.underlying4
 a4:=Tryz.isAgg4
 z4:=Tryz.sizeOf4
 v4:=Tryz.zeroValue4
 t5:=Tryz.underlying5
 a5:=Tryz.isAgg5
 z5:=Tryz.sizeOf5
 v5:=Tryz.zeroValue5
 t9:=Tryz.underlying9
 a9:=Tryz.isAgg9
 z9:=Tryz.sizeOf9
 v9:=Tryz.zeroValue9
 t46:=Tryz.underlying236
 a46:=Tryz.isAgg236
 z46:=Tryz.sizeOf236
 v46:=Tryz.zeroValue236
 t51:=Tryz.underlying271
 a51:=Tryz.isAgg271
 z51:=Tryz.sizeOf271
 v51:=Tryz.zeroValue271
 t59:=Tryz.underlying123
 a59:=Tryz.isAgg123
 z59:=Tryz.sizeOf123
 v59:=Tryz.zeroValue123
 t146:=Tryz.underlying272
 a146:=Tryz.isAgg272
 z146:=Tryz.sizeOf272
 v146:=Tryz.zeroValue272
 g1:=by kernel_rfl }
open Go.RowKit Go.Lib in
theorem Tryz.strings_Cut (s sep:ByteArray) (m:Int) (w:World) (hs:s.size<4294967281) (hm:w.cell? ⟨0,0,none⟩=some (.int .i64 m)) :
  Calls Tryz.prog 77 #[.string s,.string sep] w λe w'=>e=.returned (.tuple #[.string ⟨(Lib.cut s.data.toList sep.data.toList).1.toArray⟩,.string ⟨(Lib.cut s.data.toList sep.data.toList).2.1.toArray⟩,.bool (Lib.cut s.data.toList sep.data.toList).2.2])/\∃ n,w'=w.drewN n:=Any.strings_Cut Tryz.bOF s sep m w hs hm
def Tryz.a4D:Go.Shelf.Ren:=⟨fun|146=>174|221=>147|268=>184|138=>185|143=>186|195=>220|197=>221|218=>222|219=>172|260=>246|217=>205|225=>206|224=>207|267=>208|266=>229|314=>230|n=>n,fun|9=>9|31=>145|3=>3|4=>4|0=>0|105=>262|21=>21|5=>5|46=>236|119=>313|139=>316|138=>315|146=>272|51=>271|n=>n,fun|1=>0|3=>2|4=>3|n=>n⟩
theorem Tryz.bOG:Go.Proofs.Lays.n146 Tryz.prog Tryz.a4D:={
 mixed:=by kernel_rfl
 f138:=Tryz.func185.trans (congrArg some (by kernel_rfl))
 f143:=Tryz.func186.trans (congrArg some (by kernel_rfl))
 f146:=Tryz.func174.trans (congrArg some (by kernel_rfl))
 f195:=Tryz.func220.trans (congrArg some (by kernel_rfl))
 f197:=Tryz.func221.trans (congrArg some (by kernel_rfl))
 f217:=Tryz.func205.trans (congrArg some (by kernel_rfl))
 f218:=Tryz.func222.trans (congrArg some (by kernel_rfl))
 f219:=Tryz.func172.trans (congrArg some (by kernel_rfl))
 f221:=Tryz.func147.trans (congrArg some (by kernel_rfl))
 f224:=Tryz.func207.trans (congrArg some (by kernel_rfl))
 f225:=Tryz.func206.trans (congrArg some (by kernel_rfl))
 f260:=Tryz.func246.trans (congrArg some (by kernel_rfl))
 f266:=Tryz.func229.trans (congrArg some (by kernel_rfl))
 f267:=Tryz.func208.trans (congrArg some (by kernel_rfl))
 f268:=Tryz.func184.trans (congrArg some (by kernel_rfl))
 f314:=Tryz.func230.trans (congrArg some (by kernel_rfl))
 t0:=Tryz.underlying0
 a0:=Tryz.isAgg0
 z0:=Tryz.sizeOf0
 v0:=Tryz.zeroValue0
 t3:=Tryz.underlying3
 a3:=Tryz.isAgg3
 z3:=Tryz.sizeOf3
 v3:=Tryz.zeroValue3
 t4:=Tryz.underlying4
 a4:=Tryz.isAgg4
 z4:=Tryz.sizeOf4
 v4:=Tryz.zeroValue4
 t5:=Tryz.underlying5
 a5:=Tryz.isAgg5
 z5:=Tryz.sizeOf5
 v5:=Tryz.zeroValue5
 t9:=Tryz.underlying9
 a9:=Tryz.isAgg9
 z9:=Tryz.sizeOf9
 v9:=Tryz.zeroValue9
 t21:=Tryz.underlying21
 a21:=Tryz.isAgg21
 z21:=Tryz.sizeOf21
 v21:=Tryz.zeroValue21
 t31:=Tryz.underlying145
 a31:=Tryz.isAgg145
 z31:=Tryz.sizeOf145
 v31:=Tryz.zeroValue145
 t46:=Tryz.underlying236
 a46:=Tryz.isAgg236
 z46:=Tryz.sizeOf236
 v46:=Tryz.zeroValue236
 t51:=Tryz.underlying271
 a51:=Tryz.isAgg271
 z51:=Tryz.sizeOf271
 v51:=Tryz.zeroValue271
 t105:=Tryz.underlying262
 a105:=Tryz.isAgg262
 z105:=Tryz.sizeOf262
 v105:=Tryz.zeroValue262
 t119:=Tryz.underlying313
 a119:=Tryz.isAgg313
 z119:=Tryz.sizeOf313
 t138:=Tryz.underlying315
 a138:=Tryz.isAgg315
 z138:=Tryz.sizeOf315
 v138:=Tryz.zeroValue315
 t139:=Tryz.underlying316
 a139:=Tryz.isAgg316
 z139:=Tryz.sizeOf316
 v139:=Tryz.zeroValue316
 t146:=Tryz.underlying272
 a146:=Tryz.isAgg272
 z146:=Tryz.sizeOf272
 v146:=Tryz.zeroValue272
 g1:=by kernel_rfl
 g3:=by kernel_rfl
 g4:=by kernel_rfl }
open Go.RowKit Go.Lib in
theorem Tryz.strings_Split (s sep:ByteArray) (m:Int) (w:World) (hs:s.size<4294967281) (hm:w.cell? ⟨0,0,none⟩=some (.int .i64 m)) (h1:1<=sep.size) :
  Calls Tryz.prog 174 #[.string s,.string sep] w λe w' =>
   e=.returned (.slice (some ⟨w.heap.size,0,none⟩) (Lib.countB s sep+1) (Lib.countB s sep+1))/\w'=w.alloc (.cells ((Lib.splitB sep 0 (Lib.countB s sep) s).map Value.string).toArray 9):=Any.strings_Split Tryz.bOG (by kernel_rfl) s sep m w hs hm h1
def Tryz.aZF:Go.Shelf.Ren:=⟨fun|174=>213|247=>236|245=>237|287=>253|279=>254|280=>255|281=>256|282=>257|321=>264|322=>265|316=>266|171=>268|205=>267|243=>286|246=>173|283=>209|284=>210|285=>211|286=>212|129=>232|317=>231|318=>233|319=>234|320=>235|337=>251|338=>252|n=>n,fun|9=>9|3=>3|2=>2|75=>244|85=>245|4=>4|167=>304|5=>5|53=>238|175=>305|46=>236|168=>307|37=>214|0=>0|210=>324|21=>21|127=>310|145=>336|143=>334|171=>237|173=>241|212=>275|51=>271|20=>20|213=>276|232=>319|233=>320|80=>285|n=>n,fun|15=>6|16=>7|17=>1|18=>4|19=>5|n=>n⟩
theorem Tryz.aTP:Go.Proofs.LaysC.n174 Tryz.prog Tryz.aZF:={
 mixed:=by kernel_rfl
 f129:=Tryz.func232.trans (congrArg some (by kernel_rfl))
 f171:=Tryz.func268.trans (congrArg some (by kernel_rfl))
 f174:=Tryz.func213.trans (congrArg some (by kernel_rfl))
 f205:=Tryz.func267.trans (congrArg some (by kernel_rfl))
 f243:=Tryz.func286.trans (congrArg some (by kernel_rfl))
 f245:=Tryz.func237.trans (congrArg some (by kernel_rfl))
 f246:=Tryz.func173.trans (congrArg some (by kernel_rfl))
 f247:=Tryz.func236.trans (congrArg some (by kernel_rfl))
 f279:=Tryz.func254.trans (congrArg some (by kernel_rfl))
 f280:=Tryz.func255.trans (congrArg some (by kernel_rfl))
 f281:=Tryz.func256.trans (congrArg some (by kernel_rfl))
 f282:=Tryz.func257.trans (congrArg some (by kernel_rfl))
 f283:=Tryz.func209.trans (congrArg some (by kernel_rfl))
 f284:=Tryz.func210.trans (congrArg some (by kernel_rfl))
 f285:=Tryz.func211.trans (congrArg some (by kernel_rfl))
 f286:=Tryz.func212.trans (congrArg some (by kernel_rfl))
 f287:=Tryz.func253.trans (congrArg some (by kernel_rfl))
 f316:=Tryz.func266.trans (congrArg some (by kernel_rfl))
 f317:=Tryz.func231.trans (congrArg some (by kernel_rfl))
 f318:=Tryz.func233.trans (congrArg some (by kernel_rfl))
 f319:=Tryz.func234.trans (congrArg some (by kernel_rfl))
 f320:=Tryz.func235.trans (congrArg some (by kernel_rfl))
 f321:=Tryz.func264.trans (congrArg some (by kernel_rfl))
 f322:=Tryz.func265.trans (congrArg some (by kernel_rfl))
 f337:=Tryz.func251.trans (congrArg some (by kernel_rfl))
 f338:=Tryz.func252.trans (congrArg some (by kernel_rfl))
 t0:=Tryz.underlying0
 a0:=Tryz.isAgg0
 z0:=Tryz.sizeOf0
 v0:=Tryz.zeroValue0
 t2:=Tryz.underlying2
 a2:=Tryz.isAgg2
 z2:=Tryz.sizeOf2
 v2:=Tryz.zeroValue2
 t3:=Tryz.underlying3
 a3:=Tryz.isAgg3
 z3:=Tryz.sizeOf3
 v3:=Tryz.zeroValue3
 t4:=Tryz.underlying4
 a4:=Tryz.isAgg4
 z4:=Tryz.sizeOf4
 v4:=Tryz.zeroValue4
 t5:=Tryz.underlying5
 a5:=Tryz.isAgg5
 z5:=Tryz.sizeOf5
 v5:=Tryz.zeroValue5
 t9:=Tryz.underlying9
 a9:=Tryz.isAgg9
 z9:=Tryz.sizeOf9
 v9:=Tryz.zeroValue9
 t20:=Tryz.underlying20
 a20:=Tryz.isAgg20
 z20:=Tryz.sizeOf20
 v20:=Tryz.zeroValue20
 t21:=Tryz.underlying21
 a21:=Tryz.isAgg21
 z21:=Tryz.sizeOf21
 v21:=Tryz.zeroValue21
 t37:=Tryz.underlying214
 a37:=Tryz.isAgg214
 z37:=Tryz.sizeOf214
 v37:=Tryz.zeroValue214
 t46:=Tryz.underlying236
 a46:=Tryz.isAgg236
 z46:=Tryz.sizeOf236
 v46:=Tryz.zeroValue236
 t51:=Tryz.underlying271
 a51:=Tryz.isAgg271
 z51:=Tryz.sizeOf271
 v51:=Tryz.zeroValue271
 t53:=Tryz.underlying238
 a53:=Tryz.isAgg238
 z53:=Tryz.sizeOf238
 v53:=Tryz.zeroValue238
 t75:=Tryz.underlying244
 a75:=Tryz.isAgg244
 z75:=Tryz.sizeOf244
 v75:=Tryz.zeroValue244
 t85:=Tryz.underlying245
 a85:=Tryz.isAgg245
 z85:=Tryz.sizeOf245
 v85:=Tryz.zeroValue245
 t127:=Tryz.underlying310
 a127:=Tryz.isAgg310
 z127:=Tryz.sizeOf310
 v127:=Tryz.zeroValue310
 t143:=Tryz.underlying334
 a143:=Tryz.isAgg334
 z143:=Tryz.sizeOf334
 v143:=Tryz.zeroValue334
 t145:=Tryz.underlying336
 a145:=Tryz.isAgg336
 z145:=Tryz.sizeOf336
 v145:=Tryz.zeroValue336
 t167:=Tryz.underlying304
 a167:=Tryz.isAgg304
 z167:=Tryz.sizeOf304
 v167:=Tryz.zeroValue304
 t168:=Tryz.underlying307
 a168:=Tryz.isAgg307
 z168:=Tryz.sizeOf307
 v168:=Tryz.zeroValue307
 t171:=Tryz.underlying237
 a171:=Tryz.isAgg237
 z171:=Tryz.sizeOf237
 v171:=Tryz.zeroValue237
 t173:=Tryz.underlying241
 a173:=Tryz.isAgg241
 z173:=Tryz.sizeOf241
 v173:=Tryz.zeroValue241
 t175:=Tryz.underlying305
 a175:=Tryz.isAgg305
 z175:=Tryz.sizeOf305
 v175:=Tryz.zeroValue305
 t210:=Tryz.underlying324
 a210:=Tryz.isAgg324
 z210:=Tryz.sizeOf324
 v210:=Tryz.zeroValue324
 t212:=Tryz.underlying275
 a212:=Tryz.isAgg275
 z212:=Tryz.sizeOf275
 v212:=Tryz.zeroValue275
 t213:=Tryz.underlying276
 a213:=Tryz.isAgg276
 z213:=Tryz.sizeOf276
 t232:=Tryz.underlying319
 a232:=Tryz.isAgg319
 z232:=Tryz.sizeOf319
 v232:=Tryz.zeroValue319
 t233:=Tryz.underlying320
 a233:=Tryz.isAgg320
 z233:=Tryz.sizeOf320
 v233:=Tryz.zeroValue320
 g15:=by kernel_rfl
 g16:=by kernel_rfl
 g17:=by kernel_rfl
 g18:=by kernel_rfl
 g19:=by kernel_rfl
 t80:=Tryz.underlying285
 a80:=Tryz.isAgg285
 z80:=Tryz.sizeOf285
 v80:=Tryz.zeroValue285
 i0:=by kernel_rfl
 i2:=by kernel_rfl
 i3:=by kernel_rfl
 i4:=by kernel_rfl
 i5:=by kernel_rfl
 i9:=by kernel_rfl
 i20:=by kernel_rfl
 i21:=by kernel_rfl
 i37:=by kernel_rfl
 i46:=by kernel_rfl
 i51:=by kernel_rfl
 i53:=by kernel_rfl
 i75:=by kernel_rfl
 i80:=by kernel_rfl
 i85:=by kernel_rfl
 i127:=by kernel_rfl
 i143:=by kernel_rfl
 i145:=by kernel_rfl
 i167:=by kernel_rfl
 i168:=by kernel_rfl
 i171:=by kernel_rfl
 i173:=by kernel_rfl
 i175:=by kernel_rfl
 i210:=by kernel_rfl
 i212:=by kernel_rfl
 i232:=by kernel_rfl
 i233:=by kernel_rfl
 m15:=by kernel_rfl
 m16:=by kernel_rfl
 m17:=by kernel_rfl
 m18:=by kernel_rfl
 m19:=by kernel_rfl
 c0:=by kernel_rfl
 c2:=by kernel_rfl
 c3:=by kernel_rfl
 c4:=by kernel_rfl
 c5:=by kernel_rfl
 c9:=by kernel_rfl
 c20:=by kernel_rfl
 c21:=by kernel_rfl
 c37:=by kernel_rfl
 c46:=by kernel_rfl
 c51:=by kernel_rfl
 c53:=by kernel_rfl
 c75:=by kernel_rfl
 c80:=by kernel_rfl
 c85:=by kernel_rfl
 c127:=by kernel_rfl
 c143:=by kernel_rfl
 c145:=by kernel_rfl
 c167:=by kernel_rfl
 c168:=by kernel_rfl
 c171:=by kernel_rfl
 c173:=by kernel_rfl
 c175:=by kernel_rfl
 c210:=by kernel_rfl
 c212:=by kernel_rfl
 c213:=by kernel_rfl
 c232:=by kernel_rfl
 c233:=by kernel_rfl }
open Go.RowKit in
theorem Tryz.strconv_ParseInt_10_at64_ok (s:ByteArray) (hmax:s.size<=9223372036854775806) (v:Int) (h:Lib.parseIntB 64 s.data.toList=.ok v) (w:World) :
  Calls Tryz.prog 213 #[.string s,.int .i64 10,.int .i64 64] w λe w'=>e=.returned (.tuple #[.int .i64 v,.nilIface])/\(w'=w∨∃ t,w'=Lib.bytesWorld w 5 t):=Any.strconv_ParseInt_10_at64_ok Tryz.aTP s hmax v h w
open Go.RowKit in
theorem Tryz.strconv_ParseInt_10_at64_syntax (s:ByteArray) (hlim:s.size<=281474976710656) (h:Lib.parseIntB 64 s.data.toList=Go.Lib.NumEnd.syntax) (ev:Value) (w:World) (hv:w.cell? ⟨6,0,none⟩=some ev) (hev:ev=.nilIface∨∃ te pe,ev=.iface te pe) :
  Calls Tryz.prog 213 #[.string s,.int .i64 10,.int .i64 64] w λe w'=>∃ N,e=.returned (.tuple #[.int .i64 (0),.iface 307 (.pointer (some ⟨N,0,none⟩))])/\w.heap.size<=N/\w'.heap[N]?=some (.cells #[.string ⟨#[80,97,114,115,101,73,110,116]⟩,.string s,ev] 324 (0,0))/\Below w.heap.size w w':=Any.strconv_ParseInt_10_at64_syntax Tryz.aTP s hlim h ev w hv hev
open Go.RowKit in
theorem Tryz.strconv_ParseInt_10_at64_range (s:ByteArray) (hlim:s.size<=281474976710656) (h:Lib.parseIntB 64 s.data.toList=.range) (ev:Value) (w:World) (hv:w.cell? ⟨7,0,none⟩=some ev) (hev:ev=.nilIface∨∃ te pe,ev=.iface te pe) :
  Calls Tryz.prog 213 #[.string s,.int .i64 10,.int .i64 64] w λe w'=>∃ N,e=.returned (.tuple #[.int .i64 (Lib.intSat 64 s.data.toList),.iface 307 (.pointer (some ⟨N,0,none⟩))])/\w.heap.size<=N/\w'.heap[N]?=some (.cells #[.string ⟨#[80,97,114,115,101,73,110,116]⟩,.string s,ev] 324 (0,0))/\Below w.heap.size w w':=Any.strconv_ParseInt_10_at64_range Tryz.aTP s hlim h ev w hv hev
end Go.Proofs
namespace Go.Hl
open Go.Proofs
set_option linter.unusedVariables false
set_option linter.unusedSimpArgs false
theorem a4E {E:Env} {h:Heap} {w:World} (x:LaidIn E h w):∃ m,w.cell? ⟨0,0,none⟩=some (.int .i64 m):=by
 obtain⟨cs,h1,m,h2⟩:=x.cell (g:=0) (Q:=λcs=>∃ m,cs[0]?=some (.int .i64 m)) (by unfold pV;exact tF _ (tF _ (tF _ p6)))
 exact⟨m,(h1 0).trans h2⟩
theorem bJH {E:Env} {h:Heap} {w:World} (x:LaidIn E h w):∃ v,w.cell? ⟨6,0,none⟩=some v/\(v=.nilIface∨∃ te pe,v=.iface te pe):=by
 obtain⟨cs,h1,v,h2,h3⟩:=x.cell (g:=6) (Q:=λcs=>∃ v,cs[0]?=some v/\(v=.nilIface∨∃ te pe,v=.iface te pe)) (by unfold pV;exact tF _ p6)
 exact⟨v,(h1 0).trans h2,h3⟩
theorem bJI {E:Env} {h:Heap} {w:World} (x:LaidIn E h w):∃ v,w.cell? ⟨7,0,none⟩=some v/\(v=.nilIface∨∃ te pe,v=.iface te pe):=by
 obtain⟨cs,h1,v,h2,h3⟩:=x.cell (g:=7) (Q:=λcs=>∃ v,cs[0]?=some v/\(v=.nilIface∨∃ te pe,v=.iface te pe)) (by unfold pV;exact tF _ (tF _ p6))
 exact⟨v,(h1 0).trans h2,h3⟩
theorem a4F (B:Nat) (w:World) (n:Nat):Go.RowKit.Below B w (w.drewN n):=⟨rfl,rfl,rfl,eV _,λ_ _=>rfl⟩
theorem bCR (a sep:List UInt8):(Go.Lib.cut a sep).1.length<=a.length/\(Go.Lib.cut a sep).2.1.length<=a.length:=by
 unfold Go.Lib.cut
 split
 ·simp only[pN,aQG];omega
 ·simp
theorem eW.iJ {E:Env} {h:Heap} {w:World} {xs:List aC} {vs:List Value} (r:eW E h w xs vs):gG E h w (.iJ xs) (.tuple vs.toArray):=.iJ _ _ r.length r.get
@[go_sem] def b8R:List Nat:=[0,1,4,5,6]
theorem b11 (a sep:List UInt8) (ha:a.length<4294967281):fQ Tryz.prog 77 [.str a,.str sep] (.iJ [.str (Go.Lib.cut a sep).1,.str (Go.Lib.cut a sep).2.1,.bool (Go.Lib.cut a sep).2.2]) :=
 aN3 aFE λE h w vs R rl=>by
  match vs,rl with
  | [v0,v1],rl =>
   obtain⟨r0,r1,_⟩:=rl
   obtain⟨rfl,h0⟩:=pW r0
   obtain⟨rfl,h1⟩:=pW r1
   obtain⟨m,hm⟩:=a4E R.laid
   have hl:=bCR a sep
   refine(Go.Proofs.Tryz.strings_Cut ⟨a.toArray⟩ ⟨sep.toArray⟩ m w (by simpa[ByteArray.size]using ha) hm).mono λe w' ⟨he,n,hw⟩=>⟨_,he,λE' h' w'=>?_,hw▸a4F _ w n⟩
   exact eW.iJ (xs:=[_,_,_]) (vs:=[_,_,_]) ⟨.str _ bBW,.str _ bBW,.bool _,trivial⟩
def a4G (s:List UInt8):aC:=match Go.Lib.parseIntB 64 s with | .ok _=>.mB|_=>.iface 307 .any
@[go_sem] def b67:List Nat:=[0,1,2,6,7,8,17]
theorem bJJ (s:List UInt8) (hs:s.length<=281474976710656):fQ Tryz.prog 213 [.str s,I 10,I 64] (.iJ [I (rdN s),a4G s]) :=
 aN3 aFE λE h w vs R rl=>by
  match vs,rl with
  | [v0,v1,v2],rl =>
   obtain⟨r0,r1,r2,_⟩:=rl
   obtain⟨rfl,h0⟩:=pW r0
   rw[kV r1,kV r2]
   have hz:(⟨s.toArray⟩:ByteArray).size<=281474976710656:=by simpa[ByteArray.size]using hs
   unfold rdN a4G
   cases e:Go.Lib.parseIntB 64 s with
   |ok v =>
    refine(Go.Proofs.Tryz.strconv_ParseInt_10_at64_ok ⟨s.toArray⟩ aA v e w).mono λe w' ⟨he,hw⟩=>⟨_,he,λE' h' w'=>eW.iJ (xs:=[_,_]) (vs:=[_,_]) ⟨.int _ _,.mB,trivial⟩,?_⟩
    rcases hw with rfl|⟨t,rfl⟩
    ·exact Go.RowKit.Below.refl _ _
    ·exact⟨rfl,rfl,rfl,by rw[Go.Lib.bytesWorld_size];omega,λj hj=>Go.Lib.bytesWorld_at_old w _ t j hj⟩
   |range =>
    obtain⟨ev,hv,hev⟩:=bJI R.laid
    exact(Go.Proofs.Tryz.strconv_ParseInt_10_at64_range ⟨s.toArray⟩ hz e _ w hv hev).mono λe w' ⟨N,he,_,_,hw⟩=>⟨_,he,λE' h' w'=>eW.iJ (xs:=[_,_]) (vs:=[_,_]) ⟨.int _ _,.iface _ _ _ (.any _),trivial⟩,hw⟩
   | _ =>
    obtain⟨ev,hv,hev⟩:=bJH R.laid
    exact(Go.Proofs.Tryz.strconv_ParseInt_10_at64_syntax ⟨s.toArray⟩ hz e _ w hv hev).mono λe w' ⟨N,he,_,_,hw⟩=>⟨_,he,λE' h' w'=>eW.iJ (xs:=[_,_]) (vs:=[_,_]) ⟨.int _ _,.iface _ _ _ (.any _),trivial⟩,hw⟩
theorem bJK {P:Program} {f:FuncId} {args:List aC} {l:List (List UInt8)} (hc:jM P f=true) (hlen:l.length<=maxLen) (hs:∀ s∈l,s.length<=maxLen)
  (H:∀ E h w vs,Rel E h w->eW E h w args vs->Calls P f vs.toArray w λe w'=>∃ t,e=.returned (.slice (some ⟨w.heap.size,0,none⟩) l.length l.length)/\w'=w.alloc (.cells (l.map λs=>Value.string ⟨s.toArray⟩).toArray t)):fQ P f args (dA 1 (λs=>[.str s]) l):=λh =>
 ⟨hc,λE w vs R rl=>(H E h w vs R rl).mono λe w' q=>by
  obtain⟨t,rfl,rfl⟩:=q
  have bel:Go.RowKit.Below w.heap.size w (w.alloc (.cells (l.map λs=>Value.string ⟨s.toArray⟩).toArray t)):=(Go.RowKit.Below.refl _ w).alloc (eV _) _
  have hb:(w.alloc (.cells (l.map λs=>Value.string ⟨s.toArray⟩).toArray t)).heap[w.heap.size]?=some (.cells (l.map λs=>Value.string ⟨s.toArray⟩).toArray t):=by
   show(w.heap.push _)[w.heap.size]?=_
   simp
  refine⟨_,h,E,⟨rfl,rfl⟩,aTN bel,aXK R bel,?_⟩
  have hat:∀ (i j:Nat) (x:aC),kS (l.map λs=>[aC.str s]) i j=some x->∃ s,l[i]?=some s/\j=0/\x=.str s:=λi j x hx=>by
   obtain⟨e,he,hj⟩:=nX hx
   rw[s6]at he
   obtain⟨s,hs,rfl⟩:=zR.1 he
   cases j with
   |zero=>exact⟨s,hs,rfl,(eN hj).symm⟩
   |succ j=>simp at hj
  have:=gG.sl (E:=E) (h:=h) (w:=w.alloc (.cells (l.map λs=>Value.string ⟨s.toArray⟩).toArray t)) 1 (l.map λs=>[aC.str s]) false w.heap.size 0 l.length (λi _=>((l.map λs=>Value.string ⟨s.toArray⟩)[i]?).getD .nilFunc) ⟨by show _<(w.heap.push _).size;simp,λn o hn ho hf=>cO _ (R.lt n o _ hn ho hf)⟩ bF hlen (λq=>by cases q) (λe he=>by obtain⟨s,_,rfl⟩:=yC.1 he;rfl)
   (λi j x hx=>by
    obtain⟨s,h1,rfl,rfl⟩:=hat i j x hx
    simp only[World.cell?,hb]
    simp[h1])
   (λi j x hx=>by
    obtain⟨s,h1,rfl,rfl⟩:=hat i j x hx
    simp[h1,Value.oneCell'])
   (λi j x hx=>by
    obtain⟨s,h1,rfl,rfl⟩:=hat i j x hx
    simp only[s6,h1,aQH,a6R]
    exact .str s (hs s (vJ h1)))
  rw[lM]at this
  exact this⟩
theorem aQ1 (c:UInt8) (a:List UInt8):(mM c a).length<=a.length+1/\∀ s∈mM c a,s.length<=a.length:=by
 induction hn:a.length using Nat.strongRecOn generalizing a with
 | _ n ih =>
  rcases yB c a with h|⟨p,r,h1,rfl⟩
  ·rw[vO a h];exact⟨by simp,λs hs=>by rw[vP.1 hs];omega⟩
  ·rw[aEF p r h1]
   obtain⟨h2,h3⟩:=ih r.length (by rw[←hn];simp;omega) r rfl
   simp only[tN,al6]at hn
   refine⟨by simp only[al6];omega,λs hs=>?_⟩
   rcases s7.1 hs with rfl|hs
   ·omega
   ·have:=h3 s hs;omega
theorem aP3 (a:List UInt8) (c:UInt8):(Go.Lib.splitB ⟨[c].toArray⟩ 0 (Go.Lib.countB ⟨a.toArray⟩ ⟨[c].toArray⟩) ⟨a.toArray⟩).map Value.string=(mM c a).map λs=>Value.string ⟨s.toArray⟩:=by
 have h1:=Go.Lib.splitB_data ⟨[c].toArray⟩ 0 (Go.Lib.countB ⟨a.toArray⟩ ⟨[c].toArray⟩) ⟨a.toArray⟩
 have h2:Go.Lib.splitK [c] 0 (Go.Lib.countB ⟨a.toArray⟩ ⟨[c].toArray⟩) a=mM c a:=bEU c a
 rw[←h2,←h1,List.map_map]
 refine bM6 λb _=>?_
 simp
theorem bVO (a:List UInt8) (c:UInt8) (ha:a.length<4294967281):fQ Tryz.prog 174 [.str a,.str [c]] (dA 1 (λs=>[.str s]) (mM c a)):=by
 have hl:=aQ1 c a
 refine bJK aFE bBW (λs hs=>by have:=hl.2 s hs;simp only[maxLen];omega) λE h w vs R rl=>?_
 match vs,rl with
 | [v0,v1],rl =>
  obtain⟨r0,r1,_⟩:=rl
  obtain⟨rfl,h0⟩:=pW r0
  obtain⟨rfl,h1⟩:=pW r1
  obtain⟨m,hm⟩:=a4E R.laid
  have hn:Go.Lib.countB ⟨a.toArray⟩ ⟨[c].toArray⟩+1=(mM c a).length:=by
   have h2:=Go.Lib.splitB_all ⟨[c].toArray⟩ (by show 1<=[c].length;simp) 0 _ ⟨a.toArray⟩ rfl
   have h3:=congrArg List.length (aP3 a c)
   rw[lM,lM]at h3
   rw[←h3];exact h2.symm
  refine(Go.Proofs.Tryz.strings_Split ⟨a.toArray⟩ ⟨[c].toArray⟩ m w (by simpa[ByteArray.size]using ha) hm (by show 1<=[c].length;simp)).mono λe w' ⟨he,hw⟩=>⟨9,?_,?_⟩
  ·rw[he,hn]
  ·rw[hw,aP3]
theorem a4H {c:UInt8} {s:List UInt8} {f i:Nat} (hf:f<=i) (hi:s[i]?=some c) (hn:c∉(s.drop f).take (i-f)):mM c (s.drop f)=(s.drop f).take (i-f)::mM c (s.drop (i+1)):=by
 have h1:s.drop f=(s.drop f).take (i-f)++c::s.drop (i+1):=by
  have h2:=(aR1 (i-f) (s.drop f)).symm
  rw[a2B,show f+(i-f)=i by omega]at h2
  have h3:i<s.length:=(oG.1 hi).1
  rw[bA3 h3]at h2
  rw[cJ h3]at hi
  rw[eN hi]at h2
  exact h2
 exact(congrArg (mM c) h1).trans (aEF _ _ hn)
theorem aJS {c:UInt8} {s:List UInt8} {f i:Nat} {x:UInt8} (hf:f<=i) (hi:s[i]?=some x) (hx:¬x=c) (hn:c∉(s.drop f).take (i-f)):c∉(s.drop f).take (i+1-f):=by
 rw[show i+1-f=(i-f)+1 by omega,List.take_add_one]
 rw[aYT,show f+(i-f)=i by omega,hi]
 simp only[rF,not_or]
 exact⟨hn,by simp only[Option.toList_some,vP];exact λq=>hx q.symm⟩
set_option maxRecDepth 100000
theorem aMG {α:Type} {c:α->aC} {l:List α} {sz n len:Nat} {h h':Heap} (w:aC->aC) (hn:h n=none) (hl:(bL h n (.row sz ((l.map λx=>[c x]).map (List.map .v)))).le h') (e:len=l.length) :
  ∃ r1 g l1,Shift (w (.os n sz 0 len)) h' r1 g/\QS (OS (oP c) sz l) w r1 l1/\eO h l1 g:=by
 subst e
 refine⟨w (OV.sl n sz (l.map λx=>[.v (c x)])).val,bL h n (.row sz ((l.map λx=>[c x]).map (List.map .v))),_,?_,⟨_,OS.mk (uA l),rfl,rfl⟩,?_⟩
 ·rw[OV.kY];exact Shift.of (Sub.refl _) hl
 ·rw[OV.fF,wS,sG];exact eO.one hn
theorem zF {α:Type} {c:α->aC} {l:List α} {sz:Nat} {h h':Heap} {x:aC} (w:aC->aC) (hw:bVM w) (hx:Sub x (.sl sz [] true)) (hl:h.le h') (e:l=[]) :
  ∃ r1 g l1,Shift (w x) h' r1 g/\QS (OS (oP c) sz l) w r1 l1/\eO h l1 g:=by
 subst e
 refine⟨w (OV.nil sz).val,h,_,Shift.of (hw _ _ hx) hl,⟨_,OS.nil,rfl,rfl⟩,?_⟩
 rw[OV.kG];exact eO.nil h
@[go_sem] def bCS:List Nat:=[0,1,4,5,6,7,12,19]
@[go_sem] def bSU:List Nat:=[8,25,33]
theorem bFS (s:List UInt8) (c:UInt8) (hs:s.length<=1048600):qK Tryz.prog 116 [.str s,.int .u8 c.toNat] (QS (OS (oP .str) 1 (mM c s))):=by
 refine tA 35 bCS bSU bS Tryz.func116 λh=>?_
 simp -dsimp -implicitDefEqProofs only[go_sem,↓reduceIte,Tryz.f116]
 repeat'(with_reducible first|intro _|refine And.intro ?_ ?_)
 all_goals try(first|omega|decide)
 refine cY bCS bSU bS (λx:Nat×Nat×List (List UInt8)×Option Nat=>[(0,.str s),(1,.int .u8 c.toNat),(5,nW 1 x.2.2.1.length x.2.2.2),(6,I x.2.1),(7,I x.1)]) (λx=>dG h (.row 1 ((x.2.2.1.map λn=>[.str n]).map (List.map .v))) x.2.2.2) (λx=>(x.2.1<=x.1/\x.1<=s.length)/\lK h x.2.2.1 x.2.2.2/\mM c s=x.2.2.1++mM c (s.drop x.2.1)/\c∉(s.drop x.2.1).take (x.1-x.2.1)) (λx=>s.length-x.1) (0,0,[],none) bBM ?_
 rintro⟨k,f,out,o⟩ ⟨⟨hf,hk⟩,ho,he,hn⟩
 simp only at hf hk ho he hn ⊢
 have hol:out.length<=s.length:=by
  have h1:=(aQ1 c s).1
  have h2:=congrArg List.length he
  have h3:=bUI.2 (aJD c (s.drop f))
  rw[tN]at h2;omega
 rcases cX k s.length with hlt|hge
 ·have ea:s[k]?=some s[k]:=cJ hlt
  have hc:s[k].toNat=c.toNat->s[k]?=some c:=λq=>by rw[ea];congr 1;exact a2F q
  have hd:¬s[k].toNat=c.toNat->¬s[k]=c:=λq e=>q iX
  have hy:∀ q:s[k].toNat=c.toNat,mM c s=(out++[List.drop f (List.take k s)])++mM c (s.drop (k+1)):=λq=>by
   rw[he,a4H hf (hc q) hn,oW,bMY];rfl
  cases o with
  |none =>
   rw[cZ]at ho
   subst ho
   simp -dsimp -implicitDefEqProofs only[go_sem,↓reduceIte,Tryz.f116,dK,aN,ea]
   intro _
   refine⟨λ_=>⟨λq=>⟨hf,hk,by decide,by decide,by decide,λn hn2=>⟨(k+1,k+1,[List.drop f (List.take k s)],some n),?_⟩⟩,λq=>⟨(k+1,f,[],none),?_⟩⟩,λq=>absurd hlt q⟩
   ·simp only[aK,bU,bY]
    exact⟨⟨rfl,IntWalk.i64_in _ aA,IntWalk.i64_in _ aA⟩,Heap.le_refl _,⟨⟨eV _,hlt⟩,hn2,hy q,by simp⟩,by omega⟩
   ·simp only[aN,dK,cZ]
    exact⟨⟨trivial,trivial,IntWalk.i64_in _ aA⟩,Heap.le_refl _,⟨⟨by omega,hlt⟩,trivial,he,aJS hf ea (hd q) hn⟩,by omega⟩
  |some n =>
   rw[bY]at ho
   simp -dsimp -implicitDefEqProofs only[go_sem,↓reduceIte,Tryz.f116,bU,aK,ea]
   intro _
   refine⟨λ_=>⟨λq=>⟨hf,hk,by decide,by decide,by decide,eV _,by omega,by omega,λb hb=>⟨(k+1,k+1,out++[List.drop f (List.take k s)],some b),?_⟩⟩,λq=>⟨(k+1,f,out,some n),?_⟩⟩,λq=>absurd hlt q⟩
   ·simp only[aK,bU,bY]
    refine⟨⟨by rw[tN];rfl,IntWalk.i64_in _ aA,IntWalk.i64_in _ aA⟩,?_,⟨⟨eV _,hlt⟩,hb.2,hy q,by simp⟩,by omega⟩
    rw[jE];exact pC ho
   ·simp only[aK,bU,bY]
    exact⟨⟨trivial,trivial,IntWalk.i64_in _ aA⟩,Heap.le_refl _,⟨⟨by omega,hlt⟩,ho,he,aJS hf ea (hd q) hn⟩,by omega⟩
 ·have hk':k=s.length:=by omega
  subst hk'
  have hy:mM c s=out++[List.drop f (List.take s.length s)]:=by
   rw[he,eJ]
   rw[←aQG,eJ]at hn
   rw[vO _ hn]
  cases o with
  |none =>
   rw[cZ]at ho
   subst ho
   simp -dsimp -implicitDefEqProofs only[go_sem,↓reduceIte,Tryz.f116,cO,dK,aN]
   intro _
   refine⟨hf,eV _,by decide,by decide,by decide,λn hn2=>?_⟩
   rw[hy]
   exact aQY (l:=[List.drop f (List.take s.length s)]) hn2
  |some n =>
   rw[bY]at ho
   simp -dsimp -implicitDefEqProofs only[go_sem,↓reduceIte,Tryz.f116,cO,bU,aK]
   intro _
   refine⟨hf,eV _,by decide,by decide,by decide,eV _,by omega,by omega,λb hb=>?_⟩
   rw[hy,jE]
   exact aMG (λx=>x) hb.2 (pC ho) bF
theorem bJL (s:List UInt8) (c:UInt8) (hs:s.length<=1048600):fQ Tryz.prog 116 [.str s,.int .u8 c.toNat] (dA 1 (λs=>[.str s]) (mM c s)):=QS.fO (bFS s c hs) λy hy=>OS.nD (c:=λn=>[.str n]) (λ_ _ q=>yJ q) hy
theorem aMH (n:Int) (h0:-9223372036854775808<=n) (h1:n<=9223372036854775807):fQ Tryz.prog 80 [I n] (.str (Go.Lib.itoa n)):=by
 refine eG 5 aN4 cD bS Tryz.func80 λh=>?_
 simp -dsimp -implicitDefEqProofs only[go_sem,↓reduceIte,Tryz.f80]
 first|refine aH.mk (vF n h0 h1) ?_|refine aG.mk (vF n h0 h1) ?_|refine aH.cN (vF n h0 h1) ?_|refine aG.mk (cG.fO (vF n h0 h1)) ?_
 simp -dsimp -implicitDefEqProofs only[go_sem,↓reduceIte,Tryz.f80]
theorem aZG {s:List UInt8} {v:Int} (h:Go.Lib.parseIntB 64 s=.ok v):-9223372036854775808<=v/\v<=9223372036854775807:=by
 unfold Go.Lib.parseIntB at h
 split at h
 ·cases h
 ·simp only at h
  split at h
  ·cases h
  ·cases h
  ·rename_i u hu
   split at h
   ·cases h
   ·split at h
    ·cases h
    ·rename_i h1 h2
     have:=Go.Lib.NumEnd.ok.inj h
     subst this
     simp only[Nat.reducePow,Nat.reduceSub]at h1 h2
     split
     ·have:u<=9223372036854775808:=by
       rename_i q
       exact Nat.le_of_not_lt λz=>h2 ⟨q,z⟩
      omega
     ·have:u<9223372036854775808:=by
       rename_i q
       exact Nat.lt_of_not_le λz=>h1 ⟨q,z⟩
      omega
theorem a7I {hi:Int} (hhi:hi<=9223372036854775807) {s:List UInt8} (h:s5 hi s):Go.Lib.parseIntB 64 s=.ok (rdN s):=by
 have h1:=h.2.2
 have:=aO7 h.1 (by have:=h.2.1;omega)
 rw[←h1]at this
 exact this
theorem aZH:aDR Tryz.prog 244=true:=by kernel_rfl
@[go_sem] def aZI:List Nat:=[0,1,2,6,7,8,9]
theorem a4I (s:List UInt8) (hi:Int) (hs:s.length<=1048600) (hhi:hi<=1000000001):fQ Tryz.prog 175 [.str s,I 0,I hi] (.iJ [I (rdN s),.bool (decide (s5 hi s))]):=by
 have hp:=bJJ s aA
 have hr:=a7I (hi:=hi) (s:=s) aA
 cases e:Go.Lib.parseIntB 64 s with
 |ok v =>
  have hv:=aZG e
  have hn:rdN s=v:=by rw[rdN,e]
  have he:a4G s=.mB:=by rw[a4G,e]
  have hl:=yR hv.1 hv.2
  rw[he,hn]at hp
  rw[hn]
  refine eG 30 aZI cD bS Tryz.func175 λh=>?_
  simp -dsimp -implicitDefEqProofs only[go_sem,↓reduceIte,Tryz.f175]
  first|refine aH.mk (hp) ?_|refine aG.mk (hp) ?_|refine aH.cN (hp) ?_|refine aG.mk (cG.fO (hp)) ?_
  simp -dsimp -implicitDefEqProofs only[go_sem,↓reduceIte,Tryz.f175]
  simp -dsimp -implicitDefEqProofs only[go_sem,↓reduceIte,Tryz.f175,aZH]
  first|refine aH.mk (aMH v hv.1 hv.2) ?_|refine aG.mk (aMH v hv.1 hv.2) ?_|refine aH.cN (aMH v hv.1 hv.2) ?_|refine aG.mk (cG.fO (aMH v hv.1 hv.2)) ?_
  simp -dsimp -implicitDefEqProofs only[go_sem,↓reduceIte,Tryz.f175]
  have hq:s5 hi s↔(Go.Lib.itoa v=s/\(0<=v/\v<=hi)):=by rw[s5,hn];exact⟨λq=>⟨q.2.2.symm,q.1,q.2.1⟩,λq=>⟨q.2.1,q.2.2,q.1.symm⟩⟩
  refine⟨λq=>?_,λq=>?_⟩
  ·first|refine aH.mk (within v 0 hi) ?_|refine aG.mk (within v 0 hi) ?_|refine aH.cN (within v 0 hi) ?_|refine aG.mk (cG.fO (within v 0 hi)) ?_
   simp -dsimp -implicitDefEqProofs only[go_sem,↓reduceIte,Tryz.f175]
   exact congrArg (λb=>aC.iJ [I v,.bool b]) (decide_eq_decide.2 ⟨λz=>hq.2 ⟨q,z⟩,λz=>(hq.1 z).2⟩)
  ·exact congrArg (λb=>aC.iJ [I v,.bool b]) (decide_eq_false λz=>q (hq.1 z).1).symm
 |range =>
  have hn:¬s5 hi s:=λq=>by rw[hr q]at e;cases e
  have he:a4G s=.iface 307 .any:=by rw[a4G,e]
  rw[he]at hp
  rw[decide_eq_false hn]
  refine eG 30 aZI cD bS Tryz.func175 λh=>?_
  simp -dsimp -implicitDefEqProofs only[go_sem,↓reduceIte,Tryz.f175]
  first|refine aH.mk (hp) ?_|refine aG.mk (hp) ?_|refine aH.cN (hp) ?_|refine aG.mk (cG.fO (hp)) ?_
  simp -dsimp -implicitDefEqProofs only[go_sem,↓reduceIte,Tryz.f175]
  simp -dsimp -implicitDefEqProofs only[go_sem,↓reduceIte,Tryz.f175,aZH]
 | _ =>
  have hn:¬s5 hi s:=λq=>by rw[hr q]at e;cases e
  have he:a4G s=.iface 307 .any:=by rw[a4G,e]
  rw[he]at hp
  rw[decide_eq_false hn]
  refine eG 30 aZI cD bS Tryz.func175 λh=>?_
  simp -dsimp -implicitDefEqProofs only[go_sem,↓reduceIte,Tryz.f175]
  first|refine aH.mk (hp) ?_|refine aG.mk (hp) ?_|refine aH.cN (hp) ?_|refine aG.mk (cG.fO (hp)) ?_
  simp -dsimp -implicitDefEqProofs only[go_sem,↓reduceIte,Tryz.f175]
  simp -dsimp -implicitDefEqProofs only[go_sem,↓reduceIte,Tryz.f175,aZH]
theorem bFT {most:Nat} {hi:Int} {text:List UInt8} {l:List Int} (h:sV most hi text=some l):l.length<=most:=by
 rw[sV]at h
 split at h
 ·rw[←eN h];simp
 ·split at h
  ·rw[rI]at h
   split at h
   ·rw[←eN h,lM];assumption
   ·cases h
  ·cases h
@[go_sem] def bCT:List Nat:=[0,1,2,3,4,10,11,12,14,15,16,19,23,24,25,26,43]
@[go_sem] def bSV:List Nat:=[17,46]
theorem bFU (text:List UInt8) (most:Nat) (hi:Int) (hs:text.length<=1048600) (hhi:hi<=1000000001) (hm:most<=1048600):qK Tryz.prog 131 [.str text,.str [32],I most,I 0,I hi] (QS (OS (oP I) 1 ((sV most hi text).getD [])) (λy=>.iJ [y,.bool (sV most hi text).isSome])):=by
 have hsl:=aQ1 32 text
 have hsp:=bVO text 32 aA
 refine tA 50 bCT bSV bS Tryz.func131 λh=>?_
 simp -dsimp -implicitDefEqProofs only[go_sem,↓reduceIte,Tryz.f131]
 repeat'(with_reducible first|intro _|refine And.intro ?_ ?_)
 all_goals try(first|omega|decide)
 ·have h1:sV most hi text=some []:=by rw[sV,if_pos fI]
  rw[h1]
  exact zF (λy=>.iJ [y,.bool true]) (jF [] [_]) (Sub.refl _) (Heap.le_refl _) rfl
 ·rename_i hne
  first|refine aH.mk (hsp) ?_|refine aG.mk (hsp) ?_|refine aH.cN (hsp) ?_|refine aG.mk (cG.fO (hsp)) ?_
  simp -dsimp -implicitDefEqProofs only[go_sem,↓reduceIte,Tryz.f131]
  repeat'(with_reducible first|intro _|refine And.intro ?_ ?_)
  refine cY bCT bSV bS (λx:Nat×Option Nat=>[(2,I most),(3,I 0),(4,I hi),(12,nW 1 x.1 x.2),(23,dA 1 (λs=>[.str s]) (mM 32 text)),(24,I (mM 32 text).length),(25,I x.1)]) (λx=>dG h (.row 1 (((((mM 32 text).take x.1).map rdN).map λn=>[I n]).map (List.map .v))) x.2) (λx=>(x.1<=(mM 32 text).length/\x.1<=most)/\lK h ((mM 32 text).take x.1) x.2/\∀ p∈(mM 32 text).take x.1,s5 hi p) (λx=>(mM 32 text).length-x.1) (0,none) bBM ?_
  rintro⟨k,o⟩ ⟨⟨hk,hkm⟩,ho,hok⟩
  simp only at hk hkm ho hok ⊢
  rcases cX k (mM 32 text).length with hlt|hge
  ·have ea:(mM 32 text)[k]?=some (mM 32 text)[k]:=cJ hlt
   have hpl:=hsl.2 _ (dX hlt)
   have hrd:=a4I (mM 32 text)[k] hi aA hhi
   have hnone:¬(s5 hi (mM 32 text)[k]/\¬k=most)->sV most hi text=none:=λq=>by
    rw[sV,if_neg hne]
    split
    ·rw[rI,if_neg]
     intro z
     exact q ⟨z _ (dX hlt),by omega⟩
    ·rfl
   have aZJ:s5 hi (mM 32 text)[k]->∀ p∈(mM 32 text).take (k+1),s5 hi p:=λq p hp=>by
    rw[kF hlt]at hp
    rcases rF.1 hp with hp|hp
    ·exact hok p hp
    ·rw[vP.1 hp];exact q
   have hmap:((mM 32 text).take (k+1)).map rdN=((mM 32 text).take k).map rdN++[rdN (mM 32 text)[k]]:=by
    rw[kF hlt,xX];rfl
   cases o with
   |none =>
    simp -dsimp -implicitDefEqProofs only[go_sem,↓reduceIte,Tryz.f131,dK,aN,ea]
    refine⟨λ_=>⟨hlt,?_⟩,λq=>absurd hlt q⟩
    first|refine aH.mk (hrd) ?_|refine aG.mk (hrd) ?_|refine aH.cN (hrd) ?_|refine aG.mk (cG.fO (hrd)) ?_
    simp -dsimp -implicitDefEqProofs only[go_sem,↓reduceIte,Tryz.f131]
    rw[cZ]at ho
    have hk0:k=0:=by
     have:=congrArg List.length ho
     rw[pN,al7]at this
     omega
    subst hk0
    refine⟨λhq=>⟨λh0=>?_,λh0=>⟨by decide,by decide,by decide,λn hn=>⟨(0+1,some n),?_⟩⟩⟩,λhq=>?_⟩
    ·rw[hnone λz=>z.2 aA]
     exact zF (λy=>.iJ [y,.bool false]) (jF [] [_]) (Sub.nil 1 true) (Heap.le_refl _) rfl
    ·simp only[aK,bU,bY]
     rw[hmap,ho]
     exact⟨⟨trivial,rfl⟩,Heap.le_refl _,⟨⟨by omega,by omega⟩,hn,aZJ hq⟩,by omega⟩
    ·rw[hnone λz=>hq z.1]
     exact zF (λy=>.iJ [y,.bool false]) (jF [] [_]) (Sub.nil 1 true) (Heap.le_refl _) rfl
   |some n =>
    simp -dsimp -implicitDefEqProofs only[go_sem,↓reduceIte,Tryz.f131,bU,aK,ea]
    refine⟨λ_=>⟨hlt,?_⟩,λq=>absurd hlt q⟩
    first|refine aH.mk (hrd) ?_|refine aG.mk (hrd) ?_|refine aH.cN (hrd) ?_|refine aG.mk (cG.fO (hrd)) ?_
    simp -dsimp -implicitDefEqProofs only[go_sem,↓reduceIte,Tryz.f131]
    rw[bY]at ho
    have hle:h.le (bL h n (.row 1 (((((mM 32 text).take k).map rdN).map λn=>[I n]).map (List.map .v)))):=Heap.aW ho (Heap.le_refl _)
    refine⟨λhq _=>⟨λh0=>?_,λh0=>⟨by decide,by decide,by decide,by rw[pN];omega,by omega,by omega,λb hb=>⟨(k+1,some b),?_⟩⟩⟩,λhq=>?_⟩
    ·rw[hnone λz=>z.2 aA]
     exact zF (λy=>.iJ [y,.bool false]) (jF [] [_]) (Sub.nil 1 true) hle rfl
    ·simp only[aK,bU,bY,hmap]
     refine⟨⟨trivial,IntWalk.i64_in _ aA⟩,?_,⟨⟨by omega,by omega⟩,hb.2,aZJ hq⟩,by omega⟩
     have hg:=jE I (((mM 32 text).take k).map rdN) (rdN (mM 32 text)[k])
     rw[lM,pN,a2G hk]at hg
     rw[hg];exact pC ho
    ·rw[hnone λz=>hq z.1]
     exact zF (λy=>.iJ [y,.bool false]) (jF [] [_]) (Sub.nil 1 true) hle rfl
  ·have hk':k=(mM 32 text).length:=by omega
   have hR:sV most hi text=some ((mM 32 text).map rdN):=by
    rw[sV,if_neg hne,if_pos aA,rI,if_pos]
    intro p hp
    rw[hk',eJ]at hok
    exact hok p hp
   rw[hR]
   rw[hk']at ho ⊢
   rw[eJ]at ho ⊢
   cases o with
   |none =>
    simp -dsimp -implicitDefEqProofs only[go_sem,↓reduceIte,Tryz.f131,dK,aN,cO]
    exact zF (λy=>.iJ [y,.bool true]) (jF [] [_]) (Sub.refl _) (Heap.le_refl _) (by rw[cZ]at ho;rw[ho];rfl)
   |some n =>
    simp -dsimp -implicitDefEqProofs only[go_sem,↓reduceIte,Tryz.f131,bU,aK,cO]
    rw[bY]at ho
    exact aMG (λy=>.iJ [y,.bool true]) ho (Heap.le_refl _) bF
theorem bJM (text:List UInt8) (most:Nat) (hi:Int) (hs:text.length<=1048600) (hhi:hi<=1000000001) (hm:most<=1048600):fQ Tryz.prog 131 [.str text,.str [32],I most,I 0,I hi] (.iJ [dA 1 (λn=>[I n]) ((sV most hi text).getD []),.bool (sV most hi text).isSome]) :=
 QS.bFP (w:=λy=>.iJ [y,.bool (sV most hi text).isSome]) (bFU text most hi hs hhi hm) (λy hy=>OS.nD (c:=λn=>[I n]) (λ_ _ q=>yJ q) hy) (aHJ [] [_])
theorem a7J:∀ (l:List UInt8),(∀ c∈l,48<=c.toNat/\c.toNat<=57)->aDK l<10 ^ l.length:=by
 intro l
 induction hn:l.length using Nat.strongRecOn generalizing l with
 | _ n ih =>
  intro h
  rcases List.eq_nil_or_concat l with e|⟨l',c,e⟩
  ·subst e;subst hn;decide
  ·rw[List.concat_eq_append]at e
   subst e
   have hc:=h c bF
   have h2:=ih l'.length (by rw[←hn];simp) l' rfl λx hx=>h x (by simp[hx])
   rw[aIC,←hn,tN,aB9,Nat.pow_succ]
   omega
theorem aZK {s:List UInt8} (h:¬s5 999999999 s):aC.iJ [I 0,.bool false]=.iJ [I (if s5 999999999 s then rdN s else 0),.bool (decide (s5 999999999 s))]:=by rw[if_neg h,decide_eq_false h]
theorem bOI {k:Nat} (h:k<=9):10 ^ k<=1000000000:=by
 have:=Nat.pow_le_pow_right (n:=10) dQ h
 omega
@[go_sem] def aMI:List Nat:=[0,2,3,4,5,23,27,39]
theorem aF5 (s:List UInt8) (hs:s.length<=1048600):fQ Tryz.prog 121 [.str s] (.iJ [I (if s5 999999999 s then rdN s else 0),.bool (decide (s5 999999999 s))]):=by
 have hiff:=bMT s
 cases s with
 |nil =>
  have hn:¬s5 999999999 []:=λq=>(hiff.2 q).1.1 rfl
  have:=aZK hn
  refine eG 49 aMI cD bS Tryz.func121 λh=>?_
  simp -dsimp -implicitDefEqProofs only[go_sem,↓reduceIte,Tryz.f121]
  simpa using this
 |cons c r =>
  have len:(c::r).length=r.length+1:=rfl
  have h0:(c::r)[Int.toNat 0]?=some c:=rfl
  have h00:(c::r)[0]?=some c:=rfl
  generalize (c::r)=s at *
  by_cases h9:9<s.length
  ·have hn:¬s5 999999999 s:=λq=>by have:=(hiff.2 q).2;omega
   have:=aZK hn
   refine eG 49 aMI cD bS Tryz.func121 λh=>?_
   simp -dsimp -implicitDefEqProofs only[go_sem,↓reduceIte,Tryz.f121]
   repeat'(with_reducible first|intro _|refine And.intro ?_ ?_)
   all_goals first|omega|exact this
  by_cases hz:1<s.length/\c=48
  ·have hn:¬s5 999999999 s:=λq=>(hiff.2 q).1.2.2 hz.1 (by rw[h00,hz.2])
   have:=aZK hn
   have h1:=hz.1
   refine eG 49 aMI cD bS Tryz.func121 λh=>?_
   simp -dsimp -implicitDefEqProofs only[go_sem,↓reduceIte,Tryz.f121,h0]
   repeat'(with_reducible first|intro _|refine And.intro ?_ ?_)
   all_goals first | omega | exact this | (exfalso; have e48 : c.toNat = 48 := by rw [hz.2]; rfl
                                           omega)
  ·refine eG 49 aMI cD bS Tryz.func121 λh=>?_
   simp -dsimp -implicitDefEqProofs only[go_sem,↓reduceIte,Tryz.f121,h0]
   repeat'(with_reducible first|intro _|refine And.intro ?_ ?_)
   all_goals try omega
   all_goals try(exfalso;exact hz ⟨by omega,a2F (by show c.toNat=48;omega)⟩)
   all_goals
    refine cY aMI cD bS (λk:Nat=>[(0,.str s),(4,I (aDK (s.take k))),(5,I k)]) (λ_=>h) (λk=>k<=s.length/\∀ x∈s.take k,48<=x.toNat/\x.toNat<=57) (λk=>s.length-k) 0 (by simp[eE,dJ,Heap.le_refl,aDK]) ?_
   all_goals
    rintro k ⟨hk,hd⟩
    rcases cX k s.length with hlt|hge
    ·have ea:s[k]?=some s[k]:=cJ hlt
     have hb:=a7J _ hd
     rw[pN,a2G hk]at hb
     have hp:=bOI (k:=k) aA
     have hsn:aDK (s.take (k+1))=10*aDK (s.take k)+(s[k].toNat-48):=by rw[kF hlt,aIC]
     have hno:¬(48<=s[k].toNat/\s[k].toNat<=57)->¬s5 999999999 s:=λq z=>q ((hiff.2 z).1.2.1 _ (dX hlt))
     have hyes:48<=s[k].toNat/\s[k].toNat<=57->∀ x∈s.take (k+1),48<=x.toNat/\x.toNat<=57:=λq x hx=>by
      rw[kF hlt]at hx
      rcases rF.1 hx with hx|hx
      ·exact hd x hx
      ·rw[vP.1 hx];exact q
     simp -dsimp -implicitDefEqProofs only[go_sem,↓reduceIte,Tryz.f121,ea]
     repeat'(with_reducible first|intro _|refine And.intro ?_ ?_)
     all_goals try omega
     all_goals try(exact aZK (hno aA))
     refine⟨k+1,⟨?_,IntWalk.i64_in _ aA⟩,⟨hlt,hyes aA⟩,by omega⟩
     rw[IntWalk.u8_in _ aA,IntWalk.i64_in ((s[k].toNat:Int)-48) aA,IntWalk.i64_in (10*(aDK (List.take k s):Int)) aA,IntWalk.i64_in _ aA,hsn]
     omega
    ·have hk':k=s.length:=by omega
     rw[hk',eJ]at hd
     have hok:s5 999999999 s:=by
      refine hiff.1 ⟨⟨λe=>by rw[e]at len;simp at len,hd,λh1 q=>?_⟩,by omega⟩
      rw[h00]at q
      exact hz ⟨h1,eN q⟩
     rw[hk',eJ]
     simp -dsimp -implicitDefEqProofs only[go_sem,↓reduceIte,Tryz.f121,cO,eK]
     repeat'(with_reducible first|intro _|refine And.intro ?_ ?_)
     rw[if_pos hok,decide_eq_true hok,bMU hok]
theorem bJN {α:Type} (f:α->Bool):∀ l:List α,(∀ p∈l,f p=true)->l.takeWhile f=l
 | [],_=>rfl
 |a::l,h=>by rw[bHN,if_pos (h a bF),bJN f l λp hp=>h p (by simp[hp])]
theorem bSW {α:Type} (f:α->Bool):∀ (l:List α) (k:Nat) (x:α),l[k]?=some x->(∀ p∈l.take k,f p=true)->f x=false->l.takeWhile f=l.take k
 | [],k,x,h,_,_=>by simp at h
 |a::l,0,x,h,_,hx=>by
  simp at h;subst h
  rw[bHN,if_neg (by simp[hx])];rfl
 |a::l,k+1,x,h,hp,hx=>by
  rw[bHN,if_pos (hp a bF),bA2,bSW f l k x (by simpa using h) (λp q=>hp p (by simp[q])) hx]
def aXQ (ps:List (List UInt8)):List Int:=(ps.takeWhile λp=>decide (s5 999999999 p)).map rdN
theorem aXR {ps:List (List UInt8)} {l:List Int} (h:rI 999999999 ps=some l):aXQ ps=l:=by
 rw[rI]at h
 split at h
 ·rename_i hp
  rw[←eN h,aXQ]
  congr 1
  exact bJN _ _ λp hq=>decide_eq_true (hp p hq)
 ·cases h
@[go_sem] def bCU:List Nat:=[0,2,3,4,5,6,7,12,28]
@[go_sem] def bSX:List Nat:=[8,32]
theorem aQP (ps:List (List UInt8)) (t:Bool) (hl:ps.length<=1048600) (hs:∀ p∈ps,p.length<=1048600):qK Tryz.prog 117 [.sl 1 (ps.map λs=>[.str s]) t] (QS (OS (oP I) 1 (aXQ ps)) (λy=>.iJ [y,.bool (rI 999999999 ps).isSome])):=by
 refine tA 35 bCU bSX bS Tryz.func117 λh=>?_
 simp -dsimp -implicitDefEqProofs only[go_sem,↓reduceIte,Tryz.f117]
 repeat'(with_reducible first|intro _|refine And.intro ?_ ?_)
 all_goals try(first|omega|decide)
 refine cY bCU bSX bS (λx:Nat×Option Nat=>[(0,.sl 1 (ps.map λs=>[.str s]) t),(4,nW 1 x.1 x.2),(5,I x.1)]) (λx=>dG h (.row 1 ((((ps.take x.1).map rdN).map λn=>[I n]).map (List.map .v))) x.2) (λx=>x.1<=ps.length/\lK h (ps.take x.1) x.2/\∀ p∈ps.take x.1,s5 999999999 p) (λx=>ps.length-x.1) (0,none) bBM ?_
 rintro⟨k,o⟩ ⟨hk,ho,hok⟩
 simp only at hk ho hok ⊢
 rcases cX k ps.length with hlt|hge
 ·have ea:ps[k]?=some ps[k]:=cJ hlt
  have hrd:=aF5 ps[k] (hs _ (dX hlt))
  by_cases hq:s5 999999999 ps[k]
  ·rw[if_pos hq,decide_eq_true hq]at hrd
   have h0:=hq.1
   have aZJ:∀ p∈ps.take (k+1),s5 999999999 p:=λp hp=>by
    rw[kF hlt]at hp
    rcases rF.1 hp with hp|hp
    ·exact hok p hp
    ·rw[vP.1 hp];exact hq
   have hmap:(ps.take (k+1)).map rdN=(ps.take k).map rdN++[rdN ps[k]]:=by
    rw[kF hlt,xX];rfl
   cases o with
   |none =>
    rw[cZ]at ho
    have hk0:k=0:=by
     have:=congrArg List.length ho
     rw[pN,al7]at this
     omega
    subst hk0
    simp -dsimp -implicitDefEqProofs only[go_sem,↓reduceIte,Tryz.f117,dK,aN,ea]
    refine λ_=>⟨λ_=>⟨hlt,?_⟩,λq=>absurd hlt q⟩
    first|refine aH.mk (hrd) ?_|refine aG.mk (hrd) ?_|refine aH.cN (hrd) ?_|refine aG.mk (cG.fO (hrd)) ?_
    simp -dsimp -implicitDefEqProofs only[go_sem,↓reduceIte,Tryz.f117]
    refine⟨λq=>absurd h0 aA,λ_=>⟨by decide,by decide,by decide,λn hn=>⟨(0+1,some n),?_⟩⟩⟩
    simp only[aK,bU,bY]
    rw[hmap,ho]
    exact⟨⟨trivial,rfl⟩,Heap.le_refl _,⟨by omega,hn,aZJ⟩,by omega⟩
   |some n =>
    rw[bY]at ho
    simp -dsimp -implicitDefEqProofs only[go_sem,↓reduceIte,Tryz.f117,bU,aK,ea]
    refine λ_=>⟨λ_=>⟨hlt,?_⟩,λq=>absurd hlt q⟩
    first|refine aH.mk (hrd) ?_|refine aG.mk (hrd) ?_|refine aH.cN (hrd) ?_|refine aG.mk (cG.fO (hrd)) ?_
    simp -dsimp -implicitDefEqProofs only[go_sem,↓reduceIte,Tryz.f117]
    refine⟨λq=>absurd h0 aA,λ_=>⟨by decide,by decide,by decide,by rw[pN];omega,by omega,by omega,λb hb=>⟨(k+1,some b),?_⟩⟩⟩
    simp only[aK,bU,bY,hmap]
    refine⟨⟨trivial,IntWalk.i64_in _ aA⟩,?_,⟨by omega,hb.2,aZJ⟩,by omega⟩
    have hg:=jE I ((ps.take k).map rdN) (rdN ps[k])
    rw[lM,pN,a2G hk]at hg
    rw[hg];exact pC ho
  ·rw[if_neg hq,decide_eq_false hq]at hrd
   have hnn:rI 999999999 ps=none:=by rw[rI,if_neg λz=>hq (z _ (dX hlt))]
   have hgl:aXQ ps=(ps.take k).map rdN:=by rw[aXQ,bSW _ ps k ps[k] ea (λp hp=>decide_eq_true (hok p hp)) (decide_eq_false hq)]
   rw[hnn,hgl]
   cases o with
   |none =>
    rw[cZ]at ho
    have hk0:k=0:=by
     have:=congrArg List.length ho
     rw[pN,al7]at this
     omega
    subst hk0
    simp -dsimp -implicitDefEqProofs only[go_sem,↓reduceIte,Tryz.f117,dK,aN,ea]
    refine λ_=>⟨λ_=>⟨hlt,?_⟩,λq=>absurd hlt q⟩
    first|refine aH.mk (hrd) ?_|refine aG.mk (hrd) ?_|refine aH.cN (hrd) ?_|refine aG.mk (cG.fO (hrd)) ?_
    simp -dsimp -implicitDefEqProofs only[go_sem,↓reduceIte,Tryz.f117]
    exact zF (λy=>.iJ [y,.bool false]) (jF [] [_]) (Sub.refl _) (Heap.le_refl _) (by first|rfl|(rw[ho];rfl))
   |some n =>
    rw[bY]at ho
    simp -dsimp -implicitDefEqProofs only[go_sem,↓reduceIte,Tryz.f117,bU,aK,ea]
    refine λ_=>⟨λ_=>⟨hlt,?_⟩,λq=>absurd hlt q⟩
    first|refine aH.mk (hrd) ?_|refine aG.mk (hrd) ?_|refine aH.cN (hrd) ?_|refine aG.mk (cG.fO (hrd)) ?_
    simp -dsimp -implicitDefEqProofs only[go_sem,↓reduceIte,Tryz.f117]
    exact aMG (λy=>.iJ [y,.bool false]) ho (Heap.le_refl _) (by simp[a2G hk])
 ·have hk':k=ps.length:=by omega
  rw[hk',eJ]at hok ho
  have hnn:rI 999999999 ps=some (ps.map rdN):=by rw[rI,if_pos hok]
  rw[hnn,aXR hnn,hk',eJ]
  cases o with
  |none =>
   simp -dsimp -implicitDefEqProofs only[go_sem,↓reduceIte,Tryz.f117,dK,aN,cO]
   intro _
   exact zF (λy=>.iJ [y,.bool true]) (jF [] [_]) (Sub.refl _) (Heap.le_refl _) (by rw[cZ]at ho;rw[ho];rfl)
  |some n =>
   simp -dsimp -implicitDefEqProofs only[go_sem,↓reduceIte,Tryz.f117,bU,aK,cO]
   rw[bY]at ho
   intro _
   exact aMG (λy=>.iJ [y,.bool true]) ho (Heap.le_refl _) bF
theorem aTQ (ps:List (List UInt8)) (t:Bool) (hl:ps.length<=1048600) (hs:∀ p∈ps,p.length<=1048600):fQ Tryz.prog 117 [.sl 1 (ps.map λs=>[.str s]) t] (.iJ [dA 1 (λn=>[I n]) (aXQ ps),.bool (rI 999999999 ps).isSome]) :=
 QS.bFP (w:=λy=>.iJ [y,.bool (rI 999999999 ps).isSome]) (aQP ps t hl hs) (λy hy=>OS.nD (c:=λn=>[I n]) (λ_ _ q=>yJ q) hy) (aHJ [] [_])
theorem a4J (l:List aB) (h1:l.length<=1048576) (hc:∀ x∈l,fQ Tryz.prog 199 [(.agg (aB.c x))] (.agg (aB.c x))):fQ Tryz.prog 165 [(dA 5 aB.c l)] (dA 5 aB.c l):=by
 refine aB4 23 aGD cD bS Tryz.func165 λh=>?_
 simp -dsimp -implicitDefEqProofs only[go_sem,Tryz.f165,↓reduceIte]
 refine λ_=>⟨by omega,by omega,by omega,by omega,λn hn=>?_⟩
 refine cY aGD cD bS (λk:Nat=>[(0,(dA 5 aB.c l)),(3,.os n 5 0 l.length),(4,I k)]) (λk=>bL h n (.row 5 (rO aB.c [.int .i64 0,.int .i64 0,.int .i64 0,.int .i64 0,.aU] l k))) (λk=>k<=l.length) (λk=>l.length-k) 0 a2W ?_
 intro k hk
 rcases cX k l.length with hlt|hge
 ·have ea:l[k]?=some l[k]:=cJ hlt
  simp -dsimp -implicitDefEqProofs only[go_sem,↓reduceIte,Tryz.f165,ea,rP _ _ _ _ hlt,aB.aO]
  refine λ_=>⟨λ_=>⟨hlt,?_⟩,λhn=>absurd hlt hn⟩
  have hx:=hc l[k] (dX hlt)
  simp only[aB.aO]at hx
  refine aH.mk hx ?_
  simp -dsimp -implicitDefEqProofs only[go_sem,↓reduceIte,Tryz.f165,rP _ _ _ _ hlt]
  refine⟨hlt,k+1,by rw[IntWalk.i64_in _ aA];rfl,?_,by omega,by omega⟩
  exact aL9 hlt (by first|rfl|(simp only[nE,xL,aB.aO]))
 ·have hk':k=l.length:=by omega
  subst hk'
  simp -dsimp -implicitDefEqProofs only[go_sem,↓reduceIte,Tryz.f165,cO]
  rw[aBM]
  exact λ_=>sK _ hn (Heap.le_refl _) _ bF
theorem aZL (x:aB) (hs:x.s<=1048576) (hk:fQ Tryz.prog 165 [(dA 5 aB.c x.aP)] (dA 5 aB.c x.aP)):fQ Tryz.prog 199 [.agg x.c] (.agg x.c):=by
 rw[aB.gB]at hs
 simp only[aB.aO]
 refine aB4 21 aZE aDX bS Tryz.func199 λh=>?_
 simp -dsimp -implicitDefEqProofs only[go_sem,Tryz.f199,↓reduceIte]
 intro n2 h2 n3 h3
 have e1:(n2=n3)=False:=eq_false λe=>h3.1 e.symm
 have e2:(n3=n2)=False:=eq_false h3.1
 have hzfKids:(x.aP).length+((x.aP).map aB.s).sum=(zZ aB.s x.aP):=rfl
 refine aH.mk hk ?_
 simp -dsimp -implicitDefEqProofs only[go_sem,↓reduceIte,Tryz.f199,aF,dD,e1,e2]
 exact eZ bBF
theorem bCV (x:aB) (hs:x.s<=1048576):fQ Tryz.prog 199 [.agg x.c] (.agg x.c) :=
 aZL x hs (a4J x.aP (by rw[aB.gB]at hs;rw[gI]at hs;omega) λy hy=>bCV y bRO)
termination_by SizeOf.sizeOf x
decreasing_by exact aB.wV hy
theorem bOJ (x:aX) (hs:x.s<=1048576):fQ Tryz.prog 122 [.agg x.c] (.agg x.c):=by
 rw[aX.gB]at hs
 simp only[aX.aO]
 refine aB4 15 aZE aDX bS Tryz.func122 λh=>?_
 simp -dsimp -implicitDefEqProofs only[go_sem,Tryz.f122,↓reduceIte]
 intro n2 h2 n3 h3
 have e1:(n2=n3)=False:=eq_false λe=>h3.1 e.symm
 have e2:(n3=n2)=False:=eq_false h3.1
 have hzfOuts:(x.bG).length+((x.bG).map aB.s).sum=(zZ aB.s x.bG):=rfl
 refine aH.mk (a4J x.bG aA (λy hy=>bCV y bRM)) ?_
 simp -dsimp -implicitDefEqProofs only[go_sem,↓reduceIte,Tryz.f122,aF,dD,e1,e2]
 exact eZ bBF
theorem bJO (l:List aX) (h1:l.length<=1048576) (hc:∀ x∈l,fQ Tryz.prog 122 [(.agg (aX.c x))] (.agg (aX.c x))):fQ Tryz.prog 71 [(dA 3 aX.c l)] (dA 3 aX.c l):=by
 refine aB4 23 aGD cD bS Tryz.func71 λh=>?_
 simp -dsimp -implicitDefEqProofs only[go_sem,Tryz.f71,↓reduceIte]
 refine λ_=>⟨by omega,by omega,by omega,by omega,λn hn=>?_⟩
 refine cY aGD cD bS (λk:Nat=>[(0,(dA 3 aX.c l)),(3,.os n 3 0 l.length),(4,I k)]) (λk=>bL h n (.row 3 (rO aX.c [.str [],.int .i64 0,.aU] l k))) (λk=>k<=l.length) (λk=>l.length-k) 0 a2W ?_
 intro k hk
 rcases cX k l.length with hlt|hge
 ·have ea:l[k]?=some l[k]:=cJ hlt
  simp -dsimp -implicitDefEqProofs only[go_sem,↓reduceIte,Tryz.f71,ea,rP _ _ _ _ hlt,aX.aO]
  refine λ_=>⟨λ_=>⟨hlt,?_⟩,λhn=>absurd hlt hn⟩
  have hx:=hc l[k] (dX hlt)
  simp only[aX.aO]at hx
  refine aH.mk hx ?_
  simp -dsimp -implicitDefEqProofs only[go_sem,↓reduceIte,Tryz.f71,rP _ _ _ _ hlt]
  refine⟨hlt,k+1,by rw[IntWalk.i64_in _ aA];rfl,?_,by omega,by omega⟩
  exact aL9 hlt (by first|rfl|(simp only[nE,xL,aX.aO]))
 ·have hk':k=l.length:=by omega
  subst hk'
  simp -dsimp -implicitDefEqProofs only[go_sem,↓reduceIte,Tryz.f71,cO]
  rw[aBM]
  exact λ_=>sK _ hn (Heap.le_refl _) _ bF
theorem a7K (x:aL) (hs:x.s<=1048576):fQ Tryz.prog 24 [.agg x.c] (.agg x.c):=by
 rw[aL.gB]at hs
 simp only[aL.aO]
 refine aB4 9 aZE aDX bS Tryz.func24 λh=>?_
 simp -dsimp -implicitDefEqProofs only[go_sem,Tryz.f24,↓reduceIte]
 intro n2 h2 n3 h3
 have e1:(n2=n3)=False:=eq_false λe=>h3.1 e.symm
 have e2:(n3=n2)=False:=eq_false h3.1
 have hzfFuncs:(x.aJ).length+((x.aJ).map aX.s).sum=(zZ aX.s x.aJ):=rfl
 refine aH.mk (bJO x.aJ aA (λy hy=>bOJ y bRL)) ?_
 simp -dsimp -implicitDefEqProofs only[go_sem,↓reduceIte,Tryz.f24,aF,dD,e1,e2]
 exact eZ bBF
theorem aXS (l:List Int) (h1:l.length<=1048576):fQ Tryz.prog 25 [(dA 1 (λn=>[I n]) l)] (dA 1 (λn=>[I n]) l):=by
 refine aB4 22 aGD cD bS Tryz.func25 λh=>?_
 simp -dsimp -implicitDefEqProofs only[go_sem,Tryz.f25,↓reduceIte]
 refine λ_=>⟨by omega,by omega,by omega,by omega,λn hn=>?_⟩
 refine cY aGD cD bS (λk:Nat=>[(0,(dA 1 (λn=>[I n]) l)),(3,.os n 1 0 l.length),(4,I k)]) (λk=>bL h n (.row 1 (rO (λn=>[I n]) [.int .i64 0] l k))) (λk=>k<=l.length) (λk=>l.length-k) 0 a2W ?_
 intro k hk
 rcases cX k l.length with hlt|hge
 ·have ea:l[k]?=some l[k]:=cJ hlt
  simp -dsimp -implicitDefEqProofs only[go_sem,↓reduceIte,Tryz.f25,ea,rP _ _ _ _ hlt]
  refine λ_=>⟨λ_=>⟨hlt,hlt,k+1,by rw[IntWalk.i64_in _ aA];rfl,?_,by omega,by omega⟩,λhn=>absurd hlt hn⟩
  exact aL9 hlt rfl
 ·have hk':k=l.length:=by omega
  subst hk'
  simp -dsimp -implicitDefEqProofs only[go_sem,↓reduceIte,Tryz.f25,cO]
  rw[aBM]
  exact λ_=>sK _ hn (Heap.le_refl _) _ bF
theorem a7L (l:List (List Int)) (h1:l.length<=1048576) (hc:∀ x∈l,fQ Tryz.prog 25 [(dA 1 (λn=>[I n]) x)] (dA 1 (λn=>[I n]) x)):fQ Tryz.prog 26 [(dA 1 (λx=>[dA 1 (λn=>[I n]) x]) l)] (dA 1 (λx=>[dA 1 (λn=>[I n]) x]) l):=by
 refine aB4 23 aGD cD bS Tryz.func26 λh=>?_
 simp -dsimp -implicitDefEqProofs only[go_sem,Tryz.f26,↓reduceIte]
 refine λ_=>⟨by omega,by omega,by omega,by omega,λn hn=>?_⟩
 refine cY aGD cD bS (λk:Nat=>[(0,(dA 1 (λx=>[dA 1 (λn=>[I n]) x]) l)),(3,.os n 1 0 l.length),(4,I k)]) (λk=>bL h n (.row 1 (rO (λx=>[dA 1 (λn=>[I n]) x]) [.aU] l k))) (λk=>k<=l.length) (λk=>l.length-k) 0 a2W ?_
 intro k hk
 rcases cX k l.length with hlt|hge
 ·have ea:l[k]?=some l[k]:=cJ hlt
  simp -dsimp -implicitDefEqProofs only[go_sem,↓reduceIte,Tryz.f26,ea,rP _ _ _ _ hlt]
  refine λ_=>⟨λ_=>⟨hlt,?_⟩,λhn=>absurd hlt hn⟩
  have hx:=hc l[k] (dX hlt)
  refine aH.mk hx ?_
  simp -dsimp -implicitDefEqProofs only[go_sem,↓reduceIte,Tryz.f26,rP _ _ _ _ hlt]
  refine⟨hlt,k+1,by rw[IntWalk.i64_in _ aA];rfl,?_,by omega,by omega⟩
  exact aL9 hlt (by first|rfl|(simp only[nE,xL]))
 ·have hk':k=l.length:=by omega
  subst hk'
  simp -dsimp -implicitDefEqProofs only[go_sem,↓reduceIte,Tryz.f26,cO]
  rw[aBM]
  exact λ_=>sK _ hn (Heap.le_refl _) _ bF
theorem aTR (x:dF) (hs:x.s<=1048576):fQ Tryz.prog 7 [.agg x.c] (.agg x.c):=by
 rw[dF.gB]at hs
 simp only[dF.aO]
 refine aB4 23 aZE aDX bS Tryz.func7 λh=>?_
 simp -dsimp -implicitDefEqProofs only[go_sem,Tryz.f7,↓reduceIte]
 intro n2 h2 n3 h3
 have e1:(n2=n3)=False:=eq_false λe=>h3.1 e.symm
 have e2:(n3=n2)=False:=eq_false h3.1
 have hzfTerms:(x.aV).length+((x.aV).map (λx:List Int=>x.length)).sum=(zZ (λx:List Int=>x.length) x.aV):=rfl
 refine aH.mk (a7K x.bR aA) ?_
 simp -dsimp -implicitDefEqProofs only[go_sem,↓reduceIte,Tryz.f7,aF,dD,e1,e2,aL.aO]
 refine aH.mk (aXS x.c7 aA) ?_
 simp -dsimp -implicitDefEqProofs only[go_sem,↓reduceIte,Tryz.f7,aF,dD,e1,e2]
 refine aH.mk (a7L x.aV aA (λy hy=>aXS y bRB)) ?_
 simp -dsimp -implicitDefEqProofs only[go_sem,↓reduceIte,Tryz.f7,aF,dD,e1,e2]
 exact eZ bBF
end Go.Hl

/-
  Contracts of functions and laws of the layer over the walk.
-/
import Derived.Test.YtchbdakgjlnbgaaGreatDoorProg
import Derived.Shelf.Strconv.Itoa4
import Derived.Shelf.Strings.OnBuilder
import Derived.Shelf.LaysM
import Derived.KernelRfl
import Derived.Lib.Split
import Derived.Lib.ParseIntB
import Derived.Lib.ItoaNum
import Derived.Lib.ItoaMem
import Derived.Lib.Join
import Derived.Test.YtchbdakgjlnbgaaGreatDoorHlD
import Derived.Shelf.Strings.Split
import Derived.Shelf.Strings.Cut
import Derived.Shelf.Strconv.ParseIntPublic10
import Derived.Shelf.Slices.Turned
namespace Go.Hl
open Go.Proofs
set_option linter.unusedVariables false
set_option linter.unusedSimpArgs false
end Go.Hl
namespace Go.Proofs
open Go.Shelf
def Tryz.aWC:Go.Shelf.Ren:=⟨fun|173=>130|246=>173|283=>209|284=>210|285=>211|286=>212|129=>232|317=>231|318=>233|319=>234|320=>235|337=>251|338=>252|n=>n,fun|2=>2|3=>3|9=>9|4=>4|171=>237|0=>0|53=>238|37=>214|5=>5|173=>241|212=>275|51=>271|20=>20|213=>276|46=>236|232=>319|233=>320|n=>n,fun|17=>1|18=>4|19=>5|n=>n⟩
theorem Tryz.bET:Go.Proofs.LaysM.n173 Tryz.prog Tryz.aWC:={
 mixed:=by kernel_rfl
 f129:=Tryz.func232.trans (congrArg some (by kernel_rfl))
 f173:=Tryz.func130.trans (congrArg some (by kernel_rfl))
 f246:=Tryz.func173.trans (congrArg some (by kernel_rfl))
 f283:=Tryz.func209.trans (congrArg some (by kernel_rfl))
 f284:=Tryz.func210.trans (congrArg some (by kernel_rfl))
 f285:=Tryz.func211.trans (congrArg some (by kernel_rfl))
 f286:=Tryz.func212.trans (congrArg some (by kernel_rfl))
 f317:=Tryz.func231.trans (congrArg some (by kernel_rfl))
 f318:=Tryz.func233.trans (congrArg some (by kernel_rfl))
 f319:=Tryz.func234.trans (congrArg some (by kernel_rfl))
 f320:=Tryz.func235.trans (congrArg some (by kernel_rfl))
 f337:=Tryz.func251.trans (congrArg some (by kernel_rfl))
 f338:=Tryz.func252.trans (congrArg some (by kernel_rfl))
 t0:=Tryz.underlying0
 a0:=Tryz.isAgg0
 z0:=Tryz.sizeOf0
 v0:=Tryz.zeroValue0
 t2:=Tryz.underlying2
 a2:=Tryz.isAgg2
 z2:=Tryz.sizeOf2
 v2:=Tryz.zeroValue2
 t3:=Tryz.underlying3
 a3:=Tryz.isAgg3
 z3:=Tryz.sizeOf3
 v3:=Tryz.zeroValue3
 t4:=Tryz.underlying4
 a4:=Tryz.isAgg4
 z4:=Tryz.sizeOf4
 v4:=Tryz.zeroValue4
 t5:=Tryz.underlying5
 a5:=Tryz.isAgg5
 z5:=Tryz.sizeOf5
 v5:=Tryz.zeroValue5
 t9:=Tryz.underlying9
 a9:=Tryz.isAgg9
 z9:=Tryz.sizeOf9
 v9:=Tryz.zeroValue9
 t20:=Tryz.underlying20
 a20:=Tryz.isAgg20
 z20:=Tryz.sizeOf20
 v20:=Tryz.zeroValue20
 t37:=Tryz.underlying214
 a37:=Tryz.isAgg214
 z37:=Tryz.sizeOf214
 v37:=Tryz.zeroValue214
 t46:=Tryz.underlying236
 a46:=Tryz.isAgg236
 z46:=Tryz.sizeOf236
 v46:=Tryz.zeroValue236
 t51:=Tryz.underlying271
 a51:=Tryz.isAgg271
 z51:=Tryz.sizeOf271
 v51:=Tryz.zeroValue271
 t53:=Tryz.underlying238
 a53:=Tryz.isAgg238
 z53:=Tryz.sizeOf238
 v53:=Tryz.zeroValue238
 t171:=Tryz.underlying237
 a171:=Tryz.isAgg237
 z171:=Tryz.sizeOf237
 v171:=Tryz.zeroValue237
 t173:=Tryz.underlying241
 a173:=Tryz.isAgg241
 z173:=Tryz.sizeOf241
 v173:=Tryz.zeroValue241
 t212:=Tryz.underlying275
 a212:=Tryz.isAgg275
 z212:=Tryz.sizeOf275
 v212:=Tryz.zeroValue275
 t213:=Tryz.underlying276
 a213:=Tryz.isAgg276
 z213:=Tryz.sizeOf276
 t232:=Tryz.underlying319
 a232:=Tryz.isAgg319
 z232:=Tryz.sizeOf319
 v232:=Tryz.zeroValue319
 t233:=Tryz.underlying320
 a233:=Tryz.isAgg320
 z233:=Tryz.sizeOf320
 v233:=Tryz.zeroValue320
 g17:=by kernel_rfl
 g18:=by kernel_rfl
 g19:=by kernel_rfl
 i0:=by kernel_rfl
 i2:=by kernel_rfl
 i3:=by kernel_rfl
 i4:=by kernel_rfl
 i5:=by kernel_rfl
 i9:=by kernel_rfl
 i20:=by kernel_rfl
 i37:=by kernel_rfl
 i46:=by kernel_rfl
 i51:=by kernel_rfl
 i53:=by kernel_rfl
 i171:=by kernel_rfl
 i173:=by kernel_rfl
 i212:=by kernel_rfl
 i232:=by kernel_rfl
 i233:=by kernel_rfl
 m17:=by kernel_rfl
 m18:=by kernel_rfl
 m19:=by kernel_rfl }
open Go.RowKit Go.Sort Go.Lib in
theorem Tryz.strconv_FormatInt_10 (n:Int) (h0:-9223372036854775808<=n) (h1:n<=9223372036854775807) (w:World) (htab:Lib.TabIs Tryz.prog w "internal/strconv.uint64pow10" .u64 Lib.pow10Tab) :
  Calls Tryz.prog 130 #[.int .i64 n,.int .i64 10] w λe w'=>e=.returned (.string ⟨(Lib.itoa n).toArray⟩)/\∃ k os,w'=grow (w.drewN k) os:=Any.strconv_FormatInt_10 Tryz.bET n h0 h1 w htab
def Tryz.aMY:Go.Shelf.Ren:=⟨fun|156=>214|165=>238|166=>239|169=>240|240=>258|241=>259|276=>269|277=>270|n=>n,fun|31=>145|9=>9|3=>3|4=>4|0=>0|20=>20|72=>281|76=>283|70=>279|37=>214|75=>244|127=>310|164=>326|5=>5|80=>285|n=>n,fun|n=>n⟩
theorem Tryz.a8H:Go.Proofs.Lays.n156 Tryz.prog Tryz.aMY:={
 mixed:=by kernel_rfl
 f156:=Tryz.func214.trans (congrArg some (by kernel_rfl))
 f165:=Tryz.func238.trans (congrArg some (by kernel_rfl))
 f166:=Tryz.func239.trans (congrArg some (by kernel_rfl))
 f169:=Tryz.func240.trans (congrArg some (by kernel_rfl))
 f240:=Tryz.func258.trans (congrArg some (by kernel_rfl))
 f241:=Tryz.func259.trans (congrArg some (by kernel_rfl))
 f276:=Tryz.func269.trans (congrArg some (by kernel_rfl))
 f277:=Tryz.func270.trans (congrArg some (by kernel_rfl))
 t0:=Tryz.underlying0
 a0:=Tryz.isAgg0
 z0:=Tryz.sizeOf0
 v0:=Tryz.zeroValue0
 t3:=Tryz.underlying3
 a3:=Tryz.isAgg3
 z3:=Tryz.sizeOf3
 v3:=Tryz.zeroValue3
 t4:=Tryz.underlying4
 a4:=Tryz.isAgg4
 z4:=Tryz.sizeOf4
 v4:=Tryz.zeroValue4
 t9:=Tryz.underlying9
 a9:=Tryz.isAgg9
 z9:=Tryz.sizeOf9
 v9:=Tryz.zeroValue9
 t20:=Tryz.underlying20
 a20:=Tryz.isAgg20
 z20:=Tryz.sizeOf20
 v20:=Tryz.zeroValue20
 t31:=Tryz.underlying145
 a31:=Tryz.isAgg145
 z31:=Tryz.sizeOf145
 v31:=Tryz.zeroValue145
 t37:=Tryz.underlying214
 a37:=Tryz.isAgg214
 z37:=Tryz.sizeOf214
 v37:=Tryz.zeroValue214
 t70:=Tryz.underlying279
 a70:=Tryz.isAgg279
 z70:=Tryz.sizeOf279
 v70:=Tryz.zeroValue279
 t72:=Tryz.underlying281
 a72:=Tryz.isAgg281
 z72:=Tryz.sizeOf281
 v72:=Tryz.zeroValue281
 t75:=Tryz.underlying244
 a75:=Tryz.isAgg244
 z75:=Tryz.sizeOf244
 v75:=Tryz.zeroValue244
 t76:=Tryz.underlying283
 a76:=Tryz.isAgg283
 z76:=Tryz.sizeOf283
 v76:=Tryz.zeroValue283
 t127:=Tryz.underlying310
 a127:=Tryz.isAgg310
 z127:=Tryz.sizeOf310
 v127:=Tryz.zeroValue310
 t164:=Tryz.underlying326
 a164:=Tryz.isAgg326
 z164:=Tryz.sizeOf326
 v164:=Tryz.zeroValue326 }
theorem Tryz.z8:Builder.Extra Tryz.prog Tryz.aMY:={
 sizeBuilder:=by kernel_rfl
 liesBuilder:=by kernel_rfl
 t5:=Tryz.underlying5
 a5:=Tryz.isAgg5
 z5:=Tryz.sizeOf5
 v5:=Tryz.zeroValue5
 infoByte:=by kernel_rfl
 cellsByte:=by kernel_rfl
 sizeByte:=by kernel_rfl
 neB5:=by decide }
open Go.RowKit in
theorem Tryz.strings_Join_none (a:Option Addr) (c:Nat) (sep:ByteArray) (w:World) :
  Calls Tryz.prog 214 #[.slice a 0 c,.string sep] w λe w'=>e=.returned (.string ⟨#[]⟩)/\w'=w:=Any.strings_Join_none Tryz.a8H Tryz.z8 a c sep w
open Go.RowKit in
theorem Tryz.strings_Join (bk o c:Nat) (xs:List ByteArray) (sep:ByteArray) (w:World) (hcells:∀ (j:Nat) x,xs[j]?=some x->w.cell? ⟨bk,o+j,none⟩=some (.string x)) (hbk:bk<w.heap.size) (hN:xs.length<=140737488355328) (hcap:xs.length<=c) (hlen:(Lib.join (xs.map (·.data.toList)) sep.data.toList).length<=140737488355328) :
  Calls Tryz.prog 214 #[.slice (some ⟨bk,o,none⟩) xs.length c,.string sep] w λe w'=>e=.returned (.string ⟨(Lib.join (xs.map (·.data.toList)) sep.data.toList).toArray⟩)/\Below w.heap.size w w':=Any.strings_Join Tryz.a8H Tryz.z8 bk o c xs sep w hcells hbk hN hcap hlen
end Go.Proofs
namespace Go.Hl
open Go.Proofs
set_option linter.unusedVariables false
set_option linter.unusedSimpArgs false
def mH (c:UInt8):List UInt8->List (List UInt8)
 | []=>[[]]
 |x::l=>if x=c then[]::mH c l else match mH c l with|[]=>[[x]]|a::r=>(x::a)::r
theorem a8I (c:UInt8):mH c []=[[]]:=rfl
theorem aON (c:UInt8) (l:List UInt8):mH c (c::l)=[]::mH c l:=by rw[mH,if_pos rfl]
theorem aG7 (c:UInt8):∀ l,mH c l≠[]
 | []=>by simp[mH]
 |x::l=>by
  rw[mH];split
  ·simp
  ·split <;> simp
theorem aEA {c x:UInt8} (h:x≠c) (l:List UInt8):∃ a r,mH c l=a::r/\mH c (x::l)=(x::a)::r:=by
 cases e:mH c l with
 |nil=>exact absurd e (aG7 c l)
 |cons a r=>exact⟨a,r,rfl,by rw[mH,if_neg h,e]⟩
theorem aCE {c:UInt8}:∀ (a:List UInt8) (l:List UInt8),c∉a->mH c (a++c::l)=a::mH c l
 | [],l,_=>aON c l
 |x::a,l,h=>by
  simp only[List.mem_cons,not_or]at h
  obtain⟨p,r,h1,h2⟩:=aEA (c:=c) (x:=x) (λe=>h.1 e.symm) (a++c::l)
  rw[aCE a l h.2]at h1
  rw[List.cons_append,h2]
  injection h1 with h1 h3
  subst h1;subst h3;rfl
theorem tV {c:UInt8}:∀ (a:List UInt8),c∉a->mH c a=[a]
 | [],_=>rfl
 |x::a,h=>by
  simp only[List.mem_cons,not_or]at h
  obtain⟨p,r,h1,h2⟩:=aEA (c:=c) (x:=x) (λe=>h.1 e.symm) a
  rw[tV a h.2]at h1
  rw[h2]
  injection h1 with h1 h3
  subst h1;subst h3;rfl
theorem aIY {c:UInt8}:∀ (l:List UInt8),∀ p∈mH c l,c∉p
 | [],p,hp=>by simp[mH]at hp;subst hp;simp
 |x::l,p,hp=>by
  by_cases e:x=c
  ·rw[mH,if_pos e]at hp
   rcases List.mem_cons.1 hp with rfl|hp
   ·simp
   ·exact aIY l p hp
  ·obtain⟨a,r,h1,h2⟩:=aEA e l
   rw[h2]at hp
   rcases List.mem_cons.1 hp with rfl|hp
   ·simp only[List.mem_cons,not_or]
    exact⟨λq=>e q.symm,aIY l a (by rw[h1];simp)⟩
   ·exact aIY l p (by rw[h1];simp[hp])
theorem pD (c:UInt8):∀ l:List UInt8,(c∉l)∨∃ a r,c∉a/\l=a++c::r
 | []=>.inl (by simp)
 |x::l=>by
  by_cases e:x=c
  ·subst e;exact .inr ⟨[],l,by simp,rfl⟩
  ·rcases pD c l with h|⟨a,r,h1,h2⟩
   ·exact .inl (by simp only[List.mem_cons,not_or];exact⟨λq=>e q.symm,h⟩)
   ·exact .inr ⟨x::a,r,by simp only[List.mem_cons,not_or];exact⟨λq=>e q.symm,h1⟩,by rw[h2];rfl⟩
theorem aG8 (a b:List UInt8) (r:List (List UInt8)) (s:List UInt8):Go.Lib.join (a::b::r) s=a++s++Go.Lib.join (b::r) s:=by simp[Go.Lib.join,List.intercalate]
theorem yS (a r:List UInt8) (c:UInt8):(a++c::r).drop (a.length+1)=r:=by
 rw[show a++c::r=(a++[c])++r by simp,show a.length+1=(a++[c]).length by simp,List.drop_left]
theorem aZJ (c:UInt8) (l:List UInt8):Go.Lib.join (mH c l) [c]=l:=by
 induction hn:l.length using Nat.strongRecOn generalizing l with
 | _ n ih =>
  rcases pD c l with h|⟨a,r,h1,rfl⟩
  ·rw[tV l h,Go.Lib.join_one]
  ·rw[aCE a r h1]
   cases e:mH c r with
   |nil=>exact absurd e (aG7 c r)
   |cons b t =>
    rw[aG8,←e,ih r.length (by rw[←hn];simp;omega) r rfl];simp
theorem aEB (c:UInt8):∀ (ps:List (List UInt8)),ps≠[]->(∀ p∈ps,c∉p)->mH c (Go.Lib.join ps [c])=ps
 | [],h,_=>absurd rfl h
 | [a],_,h=>by rw[Go.Lib.join_one];exact tV a (h a (by simp))
 |a::b::r,_,h=>by
  rw[aG8,List.append_assoc,List.singleton_append,aCE a _ (h a (by simp)),aEB c (b::r) (by simp) λp hp=>h p (by simp[hp])]
theorem aLB (c x:UInt8) (l:List UInt8):[c].isPrefixOf (x::l)=(c == x):=by simp[List.isPrefixOf]
theorem index_hit (c:UInt8) (l:List UInt8):∀ a:List UInt8,c∉a->Go.Lib.index (a++c::l) [c]=a.length
 | [],_=>by rw[List.nil_append,Go.Lib.index,aLB,if_pos (by simp)];rfl
 |x::a,h=>by
  simp only[List.mem_cons,not_or]at h
  rw[List.cons_append,Go.Lib.index,aLB,if_neg (by simpa using h.1),index_hit c l a h.2]
  have:((a.length:Int) == -1)=false:=by rw[beq_eq_false_iff_ne];omega
  simp[this]
theorem yT (c:UInt8):∀ a:List UInt8,c∉a->Go.Lib.index a [c]=-1
 | [],_=>by simp[Go.Lib.index]
 |x::a,h=>by
  simp only[List.mem_cons,not_or]at h
  rw[Go.Lib.index,aLB,if_neg (by simpa using h.1),yT c a h.2];rfl
theorem aWD (c:UInt8) (a l:List UInt8) (h:c∉a):Go.Lib.cut (a++c::l) [c]=(a,l,true):=by
 rw[Go.Lib.cut,index_hit c l a h,if_pos (by omega)]
 simp[List.drop_append]
theorem aPK (c:UInt8) (a:List UInt8) (h:c∉a):Go.Lib.cut a [c]=(a,[],false):=by
 rw[Go.Lib.cut,yT c a h,if_neg (by omega)]
theorem aPL (c:UInt8):∀ (k:Nat) (l:List UInt8),l.count c<=k->Go.Lib.splitK [c] 0 k l=mH c l
 |0,l,h=>by
  have:c∉l:=λhm=>by have:=List.count_pos_iff.2 hm;omega
  rw[Go.Lib.splitK,tV l this]
 |k+1,l,h=>by
  rcases pD c l with h1|⟨a,r,h1,rfl⟩
  ·rw[Go.Lib.splitK,yT c l h1,tV l h1];rfl
  ·have e:((a.length:Int) == -1)=false:=by rw[beq_eq_false_iff_ne];omega
   rw[Go.Lib.splitK,index_hit c r a h1,e,if_neg (by simp),aCE a r h1]
   have hc:r.count c<=k:=by simp[List.count_append]at h;omega
   simp only[List.length_singleton,Int.toNat_natCast,Nat.add_zero]
   rw[List.take_left,yS,aPL c k _ hc]
theorem count_le (c:UInt8):∀ (f:Nat) (l:List UInt8),l.length<f->Go.Lib.countFrom [c] f l=l.count c
 |0,l,h=>by omega
 |f+1,l,h=>by
  rcases pD c l with h1|⟨a,r,h1,rfl⟩
  ·rw[Go.Lib.countFrom,yT c l h1,List.count_eq_zero.2 h1];rfl
  ·have e:((a.length:Int) == -1)=false:=by rw[beq_eq_false_iff_ne];omega
   rw[Go.Lib.countFrom,index_hit c r a h1,e,if_neg (by simp)]
   simp only[List.length_singleton,Int.toNat_natCast]
   rw[yS,count_le c f _ (by simp at h ⊢;omega)]
   simp[List.count_append,List.count_eq_zero.2 h1];omega
theorem bCO (c:UInt8) (l:List UInt8):Go.Lib.split l [c]=mH c l:=by
 rw[Go.Lib.split,Go.Lib.count,count_le c _ l (by omega),aPL c _ l (Nat.le_refl _)]
theorem aCF {u:Nat} (h:u<10):Go.Lib.decDigits u=[UInt8.ofNat (48+u)]:=by rw[Go.Lib.decDigits,dif_pos h]
theorem aBI {u:Nat} (h:10<=u):Go.Lib.decDigits u=Go.Lib.decDigits (u / 10)++[UInt8.ofNat (48+u%10)]:=by rw[Go.Lib.decDigits,dif_neg (by omega)]
theorem wK {d:Nat} (h:d<10):(UInt8.ofNat (48+d)).toNat=48+d:=by
 show(48+d)%256=48+d
 omega
def bRZ {α:Type} (x:Go.Lib.NumEnd Nat) (ok:Nat->Go.Lib.NumEnd α):Go.Lib.NumEnd α:=match x with | .ok a=>ok a|Go.Lib.NumEnd.syntax=>Go.Lib.NumEnd.syntax | .range=>.range
theorem aMZ (M:Nat) (c:UInt8):∀ (l:List UInt8) (acc:Nat),Go.Lib.parseUintM M acc (l++[c])=bRZ (Go.Lib.parseUintM M acc l) λa=>Go.Lib.parseUintM M a [c]
 | [],acc=>rfl
 |x::l,acc=>by
  rw[List.cons_append,Go.Lib.parseUintM,Go.Lib.parseUintM]
  split
  ·split
   ·rfl
   ·split
    ·rfl
    ·exact aMZ M c l _
  ·rfl
theorem aPM {M acc d:Nat} (hd:d<10) (h1:acc<1844674407370955162) (h2:acc*10+d<=M):Go.Lib.parseUintM M acc [UInt8.ofNat (48+d)]=.ok (acc*10+d):=by
 rw[Go.Lib.parseUintM,wK hd,if_pos (by omega),if_neg (by omega),if_neg (by omega),Go.Lib.parseUintM]
 congr 1;omega
theorem a3Y {M:Nat} (hM:M<18446744073709551616) (u:Nat) (h:u<=M):Go.Lib.parseUintM M 0 (Go.Lib.decDigits u)=.ok u:=by
 induction u using Nat.strongRecOn with
 | _ u ih =>
  by_cases e:u<10
  ·rw[aCF e,aPM e (by omega) (by omega)];congr 1;omega
  ·rw[aBI (by omega),aMZ,ih (u / 10) (by omega) (by omega)]
   show Go.Lib.parseUintM M (u / 10) _=_
   rw[aPM (by omega) (by omega) (by omega)];congr 1;omega
theorem aPN (u:Nat):∃ d r,Go.Lib.decDigits u=UInt8.ofNat (48+d)::r/\d<10/\(r≠[]->1<=d):=by
 induction u using Nat.strongRecOn with
 | _ u ih =>
  by_cases e:u<10
  ·exact⟨u,[],aCF e,e,λh=>absurd rfl h⟩
  ·obtain⟨d,r,h1,h2,h3⟩:=ih (u / 10) (by omega)
   refine⟨d,r++[UInt8.ofNat (48+u%10)],by rw[aBI (by omega),h1];rfl,h2,λ_=>?_⟩
   by_cases hr:r=[]
   ·subst hr
    by_cases e2:u / 10<10
    ·rw[aCF e2]at h1
     have h4:UInt8.ofNat (48+u / 10)=UInt8.ofNat (48+d):=by injection h1
     have:=congrArg UInt8.toNat h4
     rw[wK e2,wK h2]at this;omega
    ·rw[aBI (by omega)]at h1
     have:=congrArg List.length h1
     have h5:=(ih (u / 10 / 10) (by omega))
     obtain⟨d',r',h6,_⟩:=h5
     rw[h6]at this;simp at this
   ·exact h3 hr
theorem aBJ (n:Int) (h:0<=n):Go.Lib.itoa n=Go.Lib.decDigits n.toNat:=by rw[Go.Lib.itoa,if_neg (by omega)]
theorem aM0 {n:Int} (h0:0<=n) (h1:n<=9223372036854775807):Go.Lib.parseIntB 64 (Go.Lib.itoa n)=.ok n:=by
 rw[aBJ n h0]
 obtain⟨d,r,hd,h2,_⟩:=aPN n.toNat
 have hp:=a3Y (M:=2 ^ 64-1) (by decide) n.toNat (by omega)
 rw[hd]at hp ⊢
 have hv:=wK h2
 simp only[Go.Lib.parseIntB,hv]
 rw[if_neg (by omega),Go.Lib.parseUintB,if_neg (by simp),hp]
 simp only[show ¬(48+d=45)by omega,not_false_eq_true,true_and,false_and,if_false]
 rw[if_neg (by omega)]
 congr 1;omega
def rdN (s:List UInt8):Int:=match Go.Lib.parseIntB 64 s with | .ok v=>v|Go.Lib.NumEnd.syntax=>0 | .range=>Go.Lib.intSat 64 s
def rK (hi:Int) (s:List UInt8):Prop:=0<=rdN s/\rdN s<=hi/\s=Go.Lib.itoa (rdN s)
instance (hi:Int) (s:List UInt8):Decidable (rK hi s):=inferInstanceAs (Decidable (_/\_/\_))
theorem aPO {n:Int} (h0:0<=n) (h1:n<=9223372036854775807):rdN (Go.Lib.itoa n)=n:=by rw[rdN,aM0 h0 h1]
theorem aLC {n hi:Int} (h0:0<=n) (h1:n<=9223372036854775807):rK hi (Go.Lib.itoa n)↔n<=hi:=by
 rw[rK,aPO h0 h1];exact⟨λh=>h.2.1,λh=>⟨h0,h,rfl⟩⟩
theorem bEU {hi:Int} (h:hi<=9223372036854775807) (s:List UInt8):rK hi s↔∃ n,0<=n/\n<=hi/\s=Go.Lib.itoa n :=
 ⟨λq=>⟨_,q⟩,λ⟨n,h0,h1,e⟩=>by rw[e];exact(aLC h0 (by omega)).2 h1⟩
theorem aPP (u:Nat):∀ c∈Go.Lib.decDigits u,48<=c.toNat/\c.toNat<=57:=by
 induction u using Nat.strongRecOn with
 | _ u ih =>
  intro c hc
  by_cases e:u<10
  ·rw[aCF e]at hc
   rw[List.mem_singleton.1 hc,wK e];omega
  ·rw[aBI (by omega)]at hc
   rcases List.mem_append.1 hc with hc|hc
   ·exact ih (u / 10) (by omega) c hc
   ·rw[List.mem_singleton.1 hc,wK (Nat.mod_lt _ (by omega))];omega
theorem bEV (u:Nat):Go.Lib.decDigits u≠[]:=by obtain⟨d,r,h,_⟩:=aPN u;rw[h];simp
theorem bKC {n:Int} (h:0<=n):Go.Lib.itoa n≠[]:=by rw[aBJ n h];exact bEV _
theorem a8J {n:Int} (h:0<=n) {c:UInt8} (hc:c.toNat<48):c∉Go.Lib.itoa n:=λq=>by
 rw[aBJ n h]at q
 have:=aPP _ c q
 omega
def aBK (l:List UInt8):Nat:=l.foldl (λn c=>10*n+(c.toNat-48)) 0
theorem aF4 (l:List UInt8) (c:UInt8):aBK (l++[c])=10*aBK l+(c.toNat-48):=by simp[aBK]
theorem bEW (u:Nat):aBK (Go.Lib.decDigits u)=u:=by
 induction u using Nat.strongRecOn with
 | _ u ih =>
  by_cases e:u<10
  ·rw[aCF e];simp only[aBK,List.foldl_cons,List.foldl_nil];rw[wK e];omega
  ·rw[aBI (by omega),aF4,ih (u / 10) (by omega),wK (Nat.mod_lt _ (by omega))];omega
def aPQ (l:List UInt8):Prop:=l≠[]/\(∀ c∈l,48<=c.toNat/\c.toNat<=57)/\(1<l.length->l[0]?≠some 48)
theorem a3Z (u:Nat):aPQ (Go.Lib.decDigits u):=by
 refine⟨bEV u,aPP u,λh q=>?_⟩
 obtain⟨d,r,h1,h2,h3⟩:=aPN u
 rw[h1]at h q
 have h4:UInt8.ofNat (48+d)=48:=by simpa using q
 have h5:=congrArg UInt8.toNat h4
 rw[wK h2]at h5
 have:r≠[]:=by intro e;rw[e]at h;simp at h
 have:=h3 this
 have h6:(48:UInt8).toNat=48:=rfl
 omega
theorem bEX (l:List UInt8) (h:aPQ l):l=Go.Lib.decDigits (aBK l):=by
 induction hn:l.length using Nat.strongRecOn generalizing l with
 | _ n ih =>
  obtain⟨h1,h2,h3⟩:=h
  rcases List.eq_nil_or_concat l with e|⟨l',c,e⟩
  ·exact absurd e h1
  ·rw[List.concat_eq_append]at e
   subst e
   have hc:=h2 c (by simp)
   have ec:UInt8.ofNat (48+(c.toNat-48))=c:=by
    apply UInt8.toNat.inj
    rw[wK (by omega)];omega
   rw[aF4]
   by_cases e:l'=[]
   ·subst e
    rw[show aBK []=0 from rfl,Nat.mul_zero,Nat.zero_add,aCF (by omega),ec];rfl
   ·have hl:1<(l'++[c]).length:=by
     have:=List.length_pos_iff.2 e
     simp;omega
    have h4:=h3 hl
    have hd:aPQ l':=⟨e,λx hx=>h2 x (by simp[hx]),λhl' q=>h4 (by rw[List.getElem?_append_left (by omega)];exact q)⟩
    have h5:=ih l'.length (by rw[←hn];simp) l' hd rfl
    have hv:1<=aBK l':=by
     rcases Nat.eq_zero_or_pos (aBK l')with e0|e0
     ·rw[e0,aCF (by omega)]at h5
      exact absurd (by rw[h5];rfl) h4
     ·exact e0
    rw[aBI (by omega),show(10*aBK l'+(c.toNat-48)) / 10=aBK l' by omega,show(10*aBK l'+(c.toNat-48))%10=c.toNat-48 by omega,ec,←h5]
theorem aZK (u:Nat):(Go.Lib.decDigits u).length<=9↔u<=999999999:=by
 have h:=Go.Lib.lt_pow_nDigits u
 rw[Go.Lib.decDigits_length]
 constructor
 ·intro q
  have:10 ^ Go.Lib.nDigits u<=10 ^ 9:=Nat.pow_le_pow_right (by decide) q
  omega
 ·intro q
  rcases Nat.lt_or_ge u 10 with e|e
  ·rw[Go.Lib.nDigits_small e];omega
  ·have h1:∀ k,k<=8->10 ^ k<=u->u<10 ^ (k+1)->Go.Lib.nDigits u<=9:=λk hk a b=>by rw[Go.Lib.nDigits_unique k u a b];omega
   rcases Nat.lt_or_ge u 100 with e1|e1
   ·exact h1 1 (by omega) (by omega) (by omega)
   rcases Nat.lt_or_ge u 1000 with e2|e2
   ·exact h1 2 (by omega) (by omega) (by omega)
   rcases Nat.lt_or_ge u 10000 with e3|e3
   ·exact h1 3 (by omega) (by omega) (by omega)
   rcases Nat.lt_or_ge u 100000 with e4|e4
   ·exact h1 4 (by omega) (by omega) (by omega)
   rcases Nat.lt_or_ge u 1000000 with e5|e5
   ·exact h1 5 (by omega) (by omega) (by omega)
   rcases Nat.lt_or_ge u 10000000 with e6|e6
   ·exact h1 6 (by omega) (by omega) (by omega)
   rcases Nat.lt_or_ge u 100000000 with e7|e7
   ·exact h1 7 (by omega) (by omega) (by omega)
   ·exact h1 8 (by omega) (by omega) (by omega)
theorem bEY (l:List UInt8):(aPQ l/\l.length<=9)↔∃ n:Int,0<=n/\n<=999999999/\l=Go.Lib.itoa n:=by
 constructor
 ·rintro⟨h1,h2⟩
  have h3:=bEX l h1
  refine⟨aBK l,by omega,?_,by rw[aBJ _ (by omega)];exact h3⟩
  rw[h3,aZK]at h2
  omega
 ·rintro⟨n,h0,h1,rfl⟩
  rw[aBJ n h0]
  exact⟨a3Z _,(aZK _).2 (by omega)⟩
theorem bKD (l:List UInt8):(aPQ l/\l.length<=9)↔rK 999999999 l:=by rw[bEY,bEU (by decide)]
theorem bKE {l:List UInt8} (h:rK 999999999 l):(aBK l:Int)=rdN l:=by
 have h2:=h.2.2
 have h0:=h.1
 generalize rdN l=n at *
 rw[h2,aBJ n h0,bEW];omega
def gL:List Int->List UInt8
 | []=>[]
 |n::l=>32::Go.Lib.itoa n++gL l
theorem a30 (l m:List Int):gL (l++m)=gL l++gL m:=by
 induction l with
 |nil=>rfl
 |cons a l ih=>simp[gL,ih]
def aIZ (hi:Int) (l:List Int):Prop:=∀ n∈l,0<=n/\n<=hi
def p6 (hi:Int) (ps:List (List UInt8)):Option (List Int):=if (∀ p∈ps,rK hi p)then some (ps.map rdN)else none
theorem s9 {hi:Int} (h:hi<=9223372036854775807) {ps:List (List UInt8)} {l:List Int}:p6 hi ps=some l↔ps=l.map Go.Lib.itoa/\aIZ hi l:=by
 rw[p6]
 constructor
 ·intro q
  split at q
  ·rename_i hp
   have:=Option.some.inj q
   subst this
   refine⟨?_,λn hn=>?_⟩
   ·rw[List.map_map]
    refine List.ext_getElem (by simp) λi h1 h2=>?_
    rw[List.getElem_map]
    exact(hp _ (List.getElem_mem h1)).2.2
   ·obtain⟨p,hp',rfl⟩:=List.mem_map.1 hn
    exact⟨(hp p hp').1,(hp p hp').2.1⟩
  ·cases q
 ·rintro⟨rfl,hb⟩
  rw[if_pos ?_,List.map_map]
  ·congr 1
   refine List.ext_getElem (by simp) λi h1 h2=>?_
   rw[List.getElem_map]
   have:=hb _ (List.getElem_mem h2)
   exact aPO this.1 (by omega)
  ·intro p hp
   obtain⟨n,hn,rfl⟩:=List.mem_map.1 hp
   have:=hb n hn
   exact(aLC this.1 (by omega)).2 this.2
def rF (most:Nat) (hi:Int) (text:List UInt8):Option (List Int):=if text=[]then some []else if (mH 32 text).length<=most then p6 hi (mH 32 text)else none
theorem aCG (w:List UInt8):∀ l:List Int,Go.Lib.join (w::l.map Go.Lib.itoa) [32]=w++gL l
 | []=>by rw[List.map_nil,Go.Lib.join_one];simp[gL]
 |n::l=>by rw[List.map_cons,aG8,aCG (Go.Lib.itoa n) l];simp[gL]
theorem aLD {w:List UInt8} (hw:(32:UInt8)∉w) {l:List Int} (hl:∀ n∈l,0<=n):mH 32 (w++gL l)=w::l.map Go.Lib.itoa:=by
 rw[←aCG,aEB 32 _ (by simp)]
 intro p hp
 rcases List.mem_cons.1 hp with rfl|hp
 ·exact hw
 ·obtain⟨n,hn,rfl⟩:=List.mem_map.1 hp
  exact a8J (hl n hn) (by decide)
theorem bCP {text w:List UInt8} {l:List Int} (h:mH 32 text=w::l.map Go.Lib.itoa):text=w++gL l/\(32:UInt8)∉w :=
 ⟨by rw[←aCG,←h,aZJ],aIY text w (by rw[h];simp)⟩
theorem bCQ {a b:List Int} (ha:aIZ 9223372036854775807 a) (hb:aIZ 9223372036854775807 b) (h:a.map Go.Lib.itoa=b.map Go.Lib.itoa):a=b:=by
 have h1:=(s9 (hi:=9223372036854775807) (by decide)).2 ⟨rfl,ha⟩
 have h2:=(s9 (hi:=9223372036854775807) (by decide)).2 ⟨rfl,hb⟩
 rw[h,h2]at h1
 exact(Option.some.inj h1).symm
theorem bCR {w w':List UInt8} {a b:List Int} (hw:(32:UInt8)∉w) (hw':(32:UInt8)∉w') (ha:aIZ 9223372036854775807 a) (hb:aIZ 9223372036854775807 b) (h:w++gL a=w'++gL b):w=w'/\a=b:=by
 have h1:=aLD hw λn hn=>(ha n hn).1
 have h2:=aLD hw' λn hn=>(hb n hn).1
 rw[h,h2]at h1
 injection h1 with h1 h3
 exact⟨h1.symm,(bCQ hb ha h3).symm⟩
theorem aM1 {most:Nat} {hi:Int} (h:hi<=9223372036854775807) {w r:List UInt8} {l:List Int} (hl:l≠[]):(rF most hi r=some l)↔(w++32::r=w++gL l/\l.length<=most/\aIZ hi l):=by
 have key:w++32::r=w++gL l↔r=Go.Lib.join (l.map Go.Lib.itoa) [32]:=by
  cases l with
  |nil=>exact absurd rfl hl
  |cons n l =>
   rw[List.map_cons,aCG]
   simp[gL]
 rw[key,rF]
 constructor
 ·intro q
  split at q
  ·exact absurd (Option.some.inj q).symm hl
  ·split at q
   ·rename_i h1 h2
    obtain⟨h3,h4⟩:=(s9 h).1 q
    refine⟨by rw[←h3,aZJ],?_,h4⟩
    rw[h3,List.length_map]at h2;exact h2
   ·cases q
 ·rintro⟨rfl,h2,h3⟩
  have h4:mH 32 (Go.Lib.join (l.map Go.Lib.itoa) [32])=l.map Go.Lib.itoa:=aEB 32 _ (by simpa using hl) λp hp=>by
   obtain⟨n,hn,rfl⟩:=List.mem_map.1 hp
   exact a8J (h3 n hn).1 (by decide)
  rw[h4,List.length_map,if_pos h2,(s9 h).2 ⟨rfl,h3⟩,if_neg]
  intro e
  rw[e]at h4
  rw[a8I]at h4
  cases l with
  |nil=>exact absurd rfl hl
  |cons n l =>
   rw[List.map_cons]at h4
   injection h4 with h4 h5
   exact bKC (h3 n (by simp)).1 h4.symm
theorem bCS {most:Nat} {hi:Int} {r:List UInt8}:rF most hi r=some []↔r=[]:=by
 rw[rF]
 constructor
 ·intro q
  split at q
  ·assumption
  ·split at q
   ·rw[p6]at q
    split at q
    ·have:=Option.some.inj q
     exact absurd (List.map_eq_nil_iff.1 this) (aG7 32 r)
    ·cases q
   ·cases q
 ·intro q;rw[if_pos q]
theorem aBB {p:Prop} (h:p:=by kernel_rfl):p:=h
@[go_sem] theorem ty2:gZ Tryz.prog 2=some ⟨1,false,8,[.int .i64 0],.int .i64⟩:=by kernel_rfl
@[go_sem] theorem ty3:gZ Tryz.prog 3=some ⟨1,false,8,[.int .i64 0],.int .i64⟩:=by kernel_rfl
@[go_sem] theorem ty4:gZ Tryz.prog 4=some ⟨1,false,1,[.bool false],.bool⟩:=by kernel_rfl
@[go_sem] theorem ty5:gZ Tryz.prog 5=some ⟨1,false,1,[.int .u8 0],.int .u8⟩:=by kernel_rfl
@[go_sem] theorem ty9:gZ Tryz.prog 9=some ⟨1,false,16,[.str []],.str⟩:=by kernel_rfl
@[go_sem] theorem b97:gZ Tryz.prog 21=some ⟨1,false,4,[.int .i32 0],.int .i32⟩:=by kernel_rfl
@[go_sem] theorem b98:gZ Tryz.prog 22=some ⟨1,false,24,[.aV],.slice 155⟩:=by kernel_rfl
@[go_sem] theorem b99:gZ Tryz.prog 24=some ⟨1,true,24,[.aV],.st [(0,22,1)]⟩:=by kernel_rfl
@[go_sem] theorem cAA:gZ Tryz.prog 25=some ⟨1,false,24,[.aV],.slice 2⟩:=by kernel_rfl
@[go_sem] theorem cAB:gZ Tryz.prog 26=some ⟨1,false,24,[.aV],.slice 25⟩:=by kernel_rfl
@[go_sem] theorem cAC:gZ Tryz.prog 28=some ⟨5,true,88,[.aV,.int .i64 0,.int .i64 0,.aV,.aV],.st [(0,24,1),(1,2,1),(2,2,1),(3,25,1),(4,26,1)]⟩:=by kernel_rfl
@[go_sem] theorem cAD:gZ Tryz.prog 30=some ⟨1,false,24,[.aV],.slice 111⟩:=by kernel_rfl
@[go_sem] theorem cAE:gZ Tryz.prog 32=some ⟨1,true,24,[.aV],.st [(0,30,1)]⟩:=by kernel_rfl
@[go_sem] theorem cAF:gZ Tryz.prog 34=some ⟨5,true,88,[.aV,.int .i64 0,.int .i64 0,.aV,.aV],.st [(0,32,1),(1,2,1),(2,2,1),(3,25,1),(4,26,1)]⟩:=by kernel_rfl
@[go_sem] theorem cAG:gZ Tryz.prog 35=some ⟨1,false,24,[.aV],.slice 4⟩:=by kernel_rfl
@[go_sem] theorem cAH:gZ Tryz.prog 36=some ⟨1,false,24,[.aV],.slice 98⟩:=by kernel_rfl
@[go_sem] theorem cAI:gZ Tryz.prog 38=some ⟨9,true,184,[.aV,.int .i64 0,.int .i64 0,.aV,.aV,.aV,.aV,.aV,.aV],.st [(0,34,5),(5,25,1),(6,35,1),(7,36,1),(8,25,1)]⟩:=by kernel_rfl
@[go_sem] theorem cAJ:gZ Tryz.prog 47=some ⟨1,false,24,[.aV],.slice 135⟩:=by kernel_rfl
@[go_sem] theorem cAK:gZ Tryz.prog 49=some ⟨9,true,184,[.aV,.int .i64 0,.int .i64 0,.aV,.aV,.aV,.aV,.aV,.aV],.st [(0,28,5),(5,25,1),(6,35,1),(7,47,1),(8,25,1)]⟩:=by kernel_rfl
@[go_sem] theorem cAL:gZ Tryz.prog 50=some ⟨1,false,24,[.aV],.slice 51⟩:=by kernel_rfl
@[go_sem] theorem cAM:gZ Tryz.prog 51=some ⟨1,false,24,[.aV],.slice 137⟩:=by kernel_rfl
@[go_sem] theorem cAN:gZ Tryz.prog 53=some ⟨18,true,344,[.aV,.int .i64 0,.int .i64 0,.aV,.aV,.aV,.int .i64 0,.int .i64 0,.aV,.aV,.aV,.aV,.aV,.aV,.str [],.int .i64 0,.aV,.aV],.st [(0,28,5),(5,49,9),(14,9,1),(15,2,1),(16,50,1),(17,51,1)]⟩:=by kernel_rfl
@[go_sem] theorem cAO:gZ Tryz.prog 56=some ⟨1,false,24,[.aV],.slice 57⟩:=by kernel_rfl
@[go_sem] theorem cAP:gZ Tryz.prog 57=some ⟨1,false,24,[.aV],.slice 100⟩:=by kernel_rfl
@[go_sem] theorem cAQ:gZ Tryz.prog 59=some ⟨18,true,344,[.aV,.int .i64 0,.int .i64 0,.aV,.aV,.aV,.int .i64 0,.int .i64 0,.aV,.aV,.aV,.aV,.aV,.aV,.str [],.int .i64 0,.aV,.aV],.st [(0,34,5),(5,38,9),(14,9,1),(15,2,1),(16,56,1),(17,57,1)]⟩:=by kernel_rfl
@[go_sem] theorem cAR:gZ Tryz.prog 98=some ⟨3,true,40,[.int .i64 0,.int .i64 0,.aV],.st [(0,2,1),(1,2,1),(2,25,1)]⟩:=by kernel_rfl
@[go_sem] theorem b8D:gZ Tryz.prog 100=some ⟨5,true,56,[.int .i64 0,.int .i64 0,.int .i64 0,.int .i64 0,.aV],.st [(0,2,1),(1,2,1),(2,98,3)]⟩:=by kernel_rfl
@[go_sem] theorem b8E:gZ Tryz.prog 108=some ⟨1,false,8,[.lB],.ptr 32⟩:=by kernel_rfl
@[go_sem] theorem b8F:gZ Tryz.prog 109=some ⟨1,false,24,[.aV],.slice 197⟩:=by kernel_rfl
@[go_sem] theorem b8G:gZ Tryz.prog 111=some ⟨3,true,48,[.str [],.int .i64 0,.aV],.st [(0,9,1),(1,2,1),(2,109,1)]⟩:=by kernel_rfl
@[go_sem] theorem b8H:gZ Tryz.prog 135=some ⟨3,true,40,[.int .i64 0,.int .i64 0,.aV],.st [(0,2,1),(1,2,1),(2,25,1)]⟩:=by kernel_rfl
@[go_sem] theorem b8I:gZ Tryz.prog 137=some ⟨5,true,56,[.int .i64 0,.int .i64 0,.int .i64 0,.int .i64 0,.aV],.st [(0,2,1),(1,2,1),(2,135,3)]⟩:=by kernel_rfl
@[go_sem] theorem b8J:gZ Tryz.prog 145=some ⟨1,false,24,[.aV],.slice 9⟩:=by kernel_rfl
@[go_sem] theorem b8K:gZ Tryz.prog 153=some ⟨1,false,24,[.aV],.slice 223⟩:=by kernel_rfl
@[go_sem] theorem b8L:gZ Tryz.prog 155=some ⟨3,true,48,[.str [],.int .i64 0,.aV],.st [(0,9,1),(1,2,1),(2,153,1)]⟩:=by kernel_rfl
@[go_sem] theorem b8M:gZ Tryz.prog 197=some ⟨5,true,56,[.int .i64 0,.int .i64 0,.int .i64 0,.int .i64 0,.aV],.st [(0,2,1),(1,2,1),(2,2,1),(3,2,1),(4,109,1)]⟩:=by kernel_rfl
@[go_sem] theorem b8N:gZ Tryz.prog 214=some ⟨1,false,24,[.aV],.slice 5⟩:=by kernel_rfl
@[go_sem] theorem b8O:gZ Tryz.prog 223=some ⟨5,true,56,[.int .i64 0,.int .i64 0,.int .i64 0,.int .i64 0,.aV],.st [(0,2,1),(1,2,1),(2,2,1),(3,2,1),(4,153,1)]⟩:=by kernel_rfl
@[go_sem] theorem b8P:gZ Tryz.prog 232=some ⟨2,true,32,[.aV,.int .i64 0],.st [(0,32,1),(1,2,1)]⟩:=by kernel_rfl
@[go_sem] theorem b8Q:gZ Tryz.prog 236=some ⟨1,false,8,[.int .u64 0],.int .u64⟩:=by kernel_rfl
@[go_sem] theorem b8R:gZ Tryz.prog 237=some ⟨24,true,24,List.replicate 24 (.int .u8 0),.arr 24 5⟩:=by kernel_rfl
@[go_sem] theorem b8S:gZ Tryz.prog 238=some ⟨1,false,8,[.int .u64 0],.int .u64⟩:=by kernel_rfl
@[go_sem] theorem b8T:gZ Tryz.prog 244=some ⟨1,false,16,[.lS],.other⟩:=by kernel_rfl
@[go_sem] theorem b8U:gZ Tryz.prog 248=some ⟨1,false,24,[.aV],.slice 258⟩:=by kernel_rfl
@[go_sem] theorem b8V:gZ Tryz.prog 249=some ⟨1,false,24,[.aV],.slice 256⟩:=by kernel_rfl
@[go_sem] theorem b8W:gZ Tryz.prog 251=some ⟨4,true,80,[.int .i64 0,.aV,.aV,.aV],.st [(0,2,1),(1,248,1),(2,249,1),(3,25,1)]⟩:=by kernel_rfl
@[go_sem] theorem b8X:gZ Tryz.prog 256=some ⟨2,true,16,[.int .i64 0,.bool false],.st [(0,2,1),(1,4,1)]⟩:=by kernel_rfl
@[go_sem] theorem b8Y:gZ Tryz.prog 258=some ⟨4,true,32,[.int .i64 0,.int .i64 0,.int .i64 0,.int .i64 0],.st [(0,2,1),(1,2,1),(2,2,1),(3,2,1)]⟩:=by kernel_rfl
@[go_sem] theorem b8Z:gZ Tryz.prog 271=some ⟨1,false,4,[.int .u32 0],.int .u32⟩:=by kernel_rfl
@[go_sem] theorem b80:gZ Tryz.prog 275=some ⟨20,true,160,List.replicate 20 (.int .u64 0),.arr 20 238⟩:=by kernel_rfl
@[go_sem] theorem b81:gZ Tryz.prog 276=some ⟨65,true,65,List.replicate 65 (.int .u8 0),.arr 65 5⟩:=by kernel_rfl
@[go_sem] theorem b82:gZ Tryz.prog 279=some ⟨1,false,8,[.lB],.ptr 281⟩:=by kernel_rfl
@[go_sem] theorem b83:gZ Tryz.prog 281=some ⟨2,true,32,[.lB,.aV],.st [(0,279,1),(1,214,1)]⟩:=by kernel_rfl
@[go_sem] theorem b84:gZ Tryz.prog 288=some ⟨8,true,144,[.aV,.int .i64 0,.aV,.aV,.aV,.aV,.int .i64 0,.int .i64 0],.st [(0,32,1),(1,251,4),(5,25,1),(6,2,1),(7,2,1)]⟩:=by kernel_rfl
@[go_sem] theorem b85:gZ Tryz.prog 297=some ⟨4,true,32,[.lB,.int .i64 0,.int .i64 0,.int .i64 0],.st [(0,108,1),(1,3,1),(2,2,1),(3,2,1)]⟩:=by kernel_rfl
@[go_sem] theorem b86:gZ Tryz.prog 301=some ⟨6,true,112,[.lB,.int .i64 0,.aV,.aV,.aV,.aV],.st [(0,108,1),(1,251,4),(5,25,1)]⟩:=by kernel_rfl
@[go_sem] theorem b87:gZ Tryz.prog 310=some ⟨1,false,8,[.lB],.ptr 5⟩:=by kernel_rfl
@[go_sem] theorem b88:gZ Tryz.prog 313=some ⟨256,true,256,List.replicate 256 (.int .u8 0),.arr 256 5⟩:=by kernel_rfl
@[go_sem] theorem b89:gZ Tryz.prog 315=some ⟨2,true,2,[.int .u8 0,.int .u8 0],.st [(0,5,1),(1,5,1)]⟩:=by kernel_rfl
@[go_sem] theorem b9A:gZ Tryz.prog 316=some ⟨32,true,32,List.replicate 32 (.int .u8 0),.arr 16 315⟩:=by kernel_rfl
@[go_sem] theorem b9B:gZ Tryz.prog 319=some ⟨32,true,32,List.replicate 32 (.int .u8 0),.arr 32 5⟩:=by kernel_rfl
@[go_sem] theorem b9C:gZ Tryz.prog 320=some ⟨64,true,64,List.replicate 64 (.int .u8 0),.arr 64 5⟩:=by kernel_rfl
@[go_sem] theorem b9D:gZ Tryz.prog 324=some ⟨3,true,48,[.str [],.str [],.lS],.st [(0,9,1),(1,9,1),(2,244,1)]⟩:=by kernel_rfl
@[go_sem] theorem b9E:gZ Tryz.prog 336=some ⟨1,true,16,[.str []],.st [(0,9,1)]⟩:=by kernel_rfl
@[go_sem] def b9:Marks:=λ_=>([],.nil,[])
@[go_sem] def cG:List Nat:=[]
@[go_sem] def zG:List Nat:=[0,1,4]
@[go_sem] def wE:List Nat:=[1]
@[go_sem] def aDC:List Nat:=[2,3]
@[go_sem] def aBW:List Nat:=[2]
@[go_sem] def aL3:List Nat:=[0,2]
@[go_sem] def aT1:List Nat:=[0,1,2,3]
@[go_sem] def aD6:List Nat:=[0,2,3,4,11]
@[go_sem] def a4W:List Nat:=[0,1,2,3,4]
@[go_sem] def aAG:Marks:=λid=>match id with|6=>([],(.op 0 (.op 1 (.op 2 (.op 3 (.op 4 (.op 5 (.op 6 (.op 7 (.op 8 (.op 9 .nil)))))))))),[])|_=>([],.nil,[])
@[go_sem] def aDZ:List Nat:=[0,1,4,5,11,15,25]
@[go_sem] def aD0:List Nat:=[0,1,4,5,10,14,26]
@[go_sem] def aGZ:Marks:=λid=>match id with|6=>([],(.op 0 (.op 1 (.op 2 (.op 3 (.op 4 (.op 5 (.op 6 (.op 7 (.op 8 .nil))))))))),[])|_=>([],.nil,[])
@[go_sem] def aNQ:List Nat:=[0,1,4,5,7,8,9,16]
@[go_sem] def a98:List Nat:=[0,2,4]
@[go_sem] def aNR:List Nat:=[0,1,2,6,7,8,9,14,15,16,17,18,30]
@[go_sem] def a99:List Nat:=[0,1,2,4,10]
@[go_sem] def aU4:List Nat:=[0,1,4,5,10,14,25]
@[go_sem] def bGT:List Nat:=[5]
@[go_sem] def bGU:List Nat:=[3]
@[go_sem] def bGV:List Nat:=[0,1,2]
@[go_sem] def aU5:List Nat:=[0,1,4,5,9]
@[go_sem] def aU6:List Nat:=[0,1,4,5,6,11]
@[go_sem] def bGW:List Nat:=[0,1,2,3,4,9,14,20]
@[go_sem] def bP0:List Nat:=[0,1,2,6]
@[go_sem] def bAA:List Nat:=[0,1,4,5,10,12,13,14,24]
@[go_sem] def bAB:List Nat:=[0,1,2,3,5,7,8,9,10]
@[go_sem] def bP1:List Nat:=[0,1,4,7]
@[go_sem] def bP2:List Nat:=[0,1,3]
@[go_sem] def bP3:List Nat:=[0,1,2,4]
@[go_sem] def bAC:List Nat:=[0,1,2,6,7,8,16]
@[go_sem] def bAD:List Nat:=[9,29]
@[go_sem] def aNS:List Nat:=[0,1,2,6,7,8,9,10,18,49,67]
@[go_sem] def aNT:List Nat:=[11,31]
@[go_sem] def aNU:Marks:=λid=>match id with|6=>([3],(.op 0 (.op 1 (.op 2 (.op 7 (.op 8 (.op 9 (.op 10 (.op 3 (.op 4 (.op 5 (.op 6 (.op 11 (.op 12 .nil))))))))))))),[])|8=>([11],(.op 0 (.op 1 (.op 2 (.op 3 (.op 4 (.op 5 (.op 6 (.op 7 (.op 8 (.op 9 (.op 10 (.op 11 (.op 12 .nil))))))))))))),[])|_=>([],.nil,[])
@[go_sem] def bAE:List Nat:=[0,1,2,4,6]
@[go_sem] def bP4:List Nat:=[0,1,4,10]
theorem mix:Tryz.prog.follows .mixedOrders=true:=by kernel_rfl
abbrev I (n:Int):aC:=.int .i64 n
abbrev ints (l:List Int):aC:=.sl 1 (l.map λn=>[I n]) false
abbrev cI {α:Type} (sz:Nat) (c:α->List aC) (l:List α):aC:=.sl sz (l.map c) false
def InI (n:Int):Prop:=-9223372036854775808<=n/\n<=9223372036854775807
def wV (left:Int) (n:Nat):Int:=if left-n<0 then -1 else left-n
theorem mS (left:Int) (n:Nat):(wV left n=-1/\left-n<0)∨(wV left n=left-n/\0<=left-n):=by
 unfold wV;split
 ·exact .inl ⟨rfl,by assumption⟩
 ·exact .inr ⟨rfl,by omega⟩
theorem gP {left:Int} {n:Nat} (h:left-n<0):wV left n=-1:=if_pos h
theorem nW {left:Int} {n:Nat} (h:0<=left-n):wV left n=left-n:=if_neg aA
theorem nC {left L:Int} {n:Nat} (h:wV left n=L):(L<0->left-n<0)/\(¬L<0->L=left-n):=by
 subst h;unfold wV;split <;> constructor <;> intros <;> omega
theorem gS {α:Type} (s:α->Nat) (l:List α) (k:Nat) (h:k<l.length):((l.take (k+1)).map s).sum=((l.take k).map s).sum+s l[k]:=by
 rw[kP h,tA,List.sum_append];simp only[lU,tP,aZQ,List.sum_nil,a34]
theorem lT {α:Type} (s:α->Nat):∀ (l:List α) (k:Nat),((l.take k).map s).sum<=(l.map s).sum
 | [],k=>by simp
 |a::l,0=>by simp
 |a::l,k+1=>by have:=lT s l k;simp only[a8K,lU,aZQ];omega
theorem k6 {α:Type} (s:α->Nat) {l:List α} {x:α} (h:x∈l):s x<=(l.map s).sum:=by
 induction l with
 |nil=>simp at h
 |cons a l ih =>
  simp only[lU,aZQ]
  rcases p7.1 h with rfl|h
  ·omega
  ·have:=ih h;omega
def oA {α:Type} (f:α->List aC) (z:List aC) (a:List α) (k:Nat):List (List Cell):=((a.take k).map f++List.replicate (a.length-k) z).map (List.map .v)
theorem aZ9 {α:Type} (f:α->List aC) (z:List aC) (a:List α):oA f z a 0=List.map (List.map .v) (List.replicate a.length z):=by simp[oA]
theorem qE {α:Type} (f:α->List aC) (z:List aC) (a:List α):oA f z a a.length=(a.map f).map (List.map .v):=by simp[oA]
theorem kA {α:Type} (f:α->List aC) (z:List aC) (a:List α) (k:Nat) (h:k<a.length):(oA f z a k)[k]?=some (z.map .v):=by
 have:((a.take k).map f).length=k:=by simp;omega
 simp only[oA,rM]
 rw[aEC aA,this]
 have h0:0<a.length-k:=by omega
 simp[h0]
theorem a4X {α:Type} (f:α->List aC) (z:List aC) (a:List α) (k:Nat) (h:k<a.length) (e:List Cell) (he:e=(f a[k]).map .v):(oA f z a k).set k e=oA f z a (k+1):=by
 subst he
 have h1:((a.take k).map f).length=k:=by simp;omega
 simp only[oA]
 rw[←aZP,List.set_append_right _ _ aA,h1,aLH,kP h,show a.length-k=(a.length-(k+1))+1 by omega,bKK,List.set_cons_zero]
 simp only[tA,lU,tP,qT,aED,al0]
theorem aAH {α:Type} {f:α->List aC} {z:List aC} {a:List α} {k:Nat} {h:Heap} {n sz:Nat} {e:List Cell} (hk:k<a.length) (he:e=(f a[k]).map .v) :
  (bT h n (.row sz (oA f z a (k+1)))).le (bT (bT h n (.row sz (oA f z a k))) n (.row sz ((oA f z a k).set k e))):=by
 rw[a4X f z a k hk e he,aF]
 exact Heap.le_refl _
theorem dC (h:Heap) (n m:Nat) (o:cF):bT h n o m=if m=n then some o else h m:=rfl
theorem getElem_of_eq {α:Type} {a b:List α} (e:a=b) {k:Nat} (ha:k<a.length) {hb:k<b.length}:a[k]=b[k]:=by subst e;rfl
theorem gT {α:Type} {a b:List α} {k:Nat} (ha:k<a.length) (hb:k<b.length) (hp:a.take k=b.take k) (he:a[k]=b[k]):a.take (k+1)=b.take (k+1):=by
 rw[kP ha,kP hb,hp,he]
theorem fW {α:Type} {a b:List α} (hl:a.length=b.length) (h:a.take a.length=b.take a.length):a=b:=by
 rw[eL,hl,eL]at h;exact h
theorem tJ (l:List (List aC)):jD (l.map (List.map .v))=l:=by
 induction l with
 |nil=>rfl
 |cons e l ih =>
  have:aLI (e.map Cell.v)=e:=by
   induction e with
   |nil=>rfl
   |cons x e ih=>simp only[lU,aLI,Cell.val,ih]
  simp only[jD,lU]at ih ⊢
  rw[ih,this]
theorem lV {h h':Heap} {n sz:Nat} (es:List (List aC)) (h0:h n=none) (hl:(bT h n (.row sz (es.map (List.map .v)))).le h') (len:Nat) (e:len=es.length):Shift (.os n sz 0 len) h' (.sl sz es false) h:=by
 subst e
 refine(Shift.of (Sub.refl _) hl).trans ((Shift.gU (bG _ _ _) (by simp[lJ])).trans ?_)
 have:aC.gU n (jD (es.map (List.map .v))) (.os n sz 0 es.length)=.sl sz es false:=by simp[aC.gU,tJ]
 rw[this]
 exact eD ((aW h0).2 ((aW h0).2 (Heap.le_refl h)))
theorem bF {α β:Type} {f:α->β} {l:List α} {k:Nat} (h:k<l.length):(l.map f)[k]?=some (f l[k]):=by
 rw[rM,b6 h];rfl
theorem iY {α:Type} {P:α->Prop} {l:List α} {k:Nat} (h:k<l.length) (hp:∀ x∈l.take k,P x) (he:P l[k]):∀ x∈l.take (k+1),P x:=by
 rw[kP h]
 intro x hx
 rcases pH.1 hx with hx|hx
 ·exact hp x hx
 ·rw[rG.1 hx];exact he
def idxOf {α:Type} (p:α->Bool) (l:List α):Int:=match l.findIdx? p with|some i=>i|none=>-1
theorem qF {α:Type} {p:α->Bool} {l:List α} (h:∀ x∈l,p x=false):idxOf p l=-1:=by
 have:l.findIdx? p=none:=List.findIdx?_eq_none_iff.2 h
 simp only[idxOf,this]
theorem qG {α:Type} {p:α->Bool} {l:List α} {k:Nat} (hk:k<l.length) (h:∀ x∈l.take k,p x=false) (he:p l[k]=true):idxOf p l=k:=by
 have:l.findIdx? p=some k:=by
  rw[bOQ]
  refine⟨hk,he,λj hj=>?_⟩
  have:=h l[j] (List.mem_take_iff_getElem.2 ⟨j,by omega,rfl⟩)
  simp[this]
 simp only[idxOf,this]
theorem nD {α:Type} {p:α->Bool} {l:List α}:decide (0<=idxOf p l)=l.any p:=by
 unfold idxOf
 cases h:l.findIdx? p with
 |none =>
  have:=List.findIdx?_eq_none_iff.1 h
  simp only
  rw[Bool.eq_false_iff.2 (show l.any p≠true from ?_)]
  ·simp
  ·intro hx
   obtain⟨x,hx,hp⟩:=bFA.1 hx
   rw[this x hx]at hp;cases hp
 |some i =>
  obtain⟨hi,hp,_⟩:=bOQ.1 h
  have:l.any p=true:=bFA.2 ⟨_,dG hi,hp⟩
  rw[this];simp
def nJ (n:Int):Prop:=0<=n/\n<=1000002
instance (n:Int):Decidable (nJ n):=inferInstanceAs (Decidable (0<=n/\n<=1000002))
def p4 (l:List Int):Prop:=∀ x∈l,nJ x
instance (l:List Int):Decidable (p4 l):=inferInstanceAs (Decidable (∀ x∈l,nJ x))
theorem aOT {α:Type} {P:α->Prop} [DecidablePred P] {l:List α} [Decidable (∀ x∈l,P x)]:(!l.any λx=>!decide (P x))=decide (∀ x∈l,P x):=by
 rw[Bool.eq_iff_iff]
 simp[List.any_eq_false]
inductive aB where
 |mk (bH:Int) (cC:Int) (dO:Int) (dF:Int) (aO:(List aB))
def aB.bH:aB->Int
 | .mk bH cC dO dF aO=>bH
def aB.cC:aB->Int
 | .mk bH cC dO dF aO=>cC
def aB.dO:aB->Int
 | .mk bH cC dO dF aO=>dO
def aB.dF:aB->Int
 | .mk bH cC dO dF aO=>dF
def aB.aO:aB->(List aB)
 | .mk bH cC dO dF aO=>aO
mutual
def aB.c:aB->List aC
 | .mk bH cC dO dF aO=>[(.int .i64 bH),(.int .i64 cC),(.int .i64 dO),(.int .i64 dF),.sl 5 (aB.cL aO) false]
def aB.cL:List aB->List (List aC)
 | []=>[]
 |x::l=>x.c::aB.cL l
end
mutual
def aB.s:aB->Nat
 | .mk bH cC dO dF aO=>(aO.length+aB.sL aO)
def aB.sL:List aB->Nat
 | []=>0
 |x::l=>x.s+aB.sL l
end
theorem aB.bGX:∀ l,aB.cL l=l.map aB.c
 | []=>rfl
 |x::l=>by simp only[aB.cL,lU,aB.bGX l]
theorem aB.bGY:∀ l,aB.sL l=(l.map aB.s).sum
 | []=>rfl
 |x::l=>by simp only[aB.sL,lU,aZQ,aB.bGY l]
theorem aB.aM (x:aB):x.c=[(.int .i64 x.bH),(.int .i64 x.cC),(.int .i64 x.dO),(.int .i64 x.dF),(cI 5 aB.c x.aO)]:=by cases x;simp only[aB.c,aB.bGX,cI];rfl
theorem aB.fQ (x:aB):x.s=(rR aB.s x.aO):=by cases x;simp only[aB.s,aB.bGY,rR];rfl
theorem aB.u6 {x y:aB} (h:y∈x.aO):SizeOf.sizeOf y<SizeOf.sizeOf x:=by
 cases x
 have:=List.sizeOf_lt_of_mem h
 simp only[aB.aO]at this
 simp only[aB.mk.sizeOf_spec];omega
@[simp] theorem aB.aJ8 (x:aB):x.c.length=5:=by rw[aB.aM];rfl
inductive aB.wf:aB->Prop
 |mk (x:aB) (h0:InI x.bH) (h1:InI x.cC) (h2:InI x.dO) (h3:InI x.dF) (hk:∀ y∈x.aO,y.wf):x.wf
theorem aB.eq_iff {a b:aB}:a=b↔a.bH=b.bH/\a.cC=b.cC/\a.dO=b.dO/\a.dF=b.dF/\a.aO=b.aO:=by cases a;cases b;simp[aB.bH,aB.cC,aB.dO,aB.dF,aB.aO]
noncomputable instance:DecidableEq aB:=λa b=>Classical.propDecidable (a=b)
structure aX where
 fT:(List UInt8)
 bV:Int
 bB:(List aB)
def aX.c (x:aX):List aC:=[(.str x.fT),(.int .i64 x.bV),(cI 5 aB.c x.bB)]
def aX.s (x:aX):Nat:=x.fT.length+(rR aB.s x.bB)
theorem aX.aM (x:aX):x.c=[(.str x.fT),(.int .i64 x.bV),(cI 5 aB.c x.bB)]:=rfl
theorem aX.fQ (x:aX):x.s=x.fT.length+(rR aB.s x.bB):=rfl
@[simp] theorem aX.aJ8 (x:aX):x.c.length=3:=by rw[aX.aM];rfl
def aX.wf (x:aX):Prop:=InI x.bV/\(∀ y∈x.bB,y.wf)
theorem aX.eq_iff {a b:aX}:a=b↔a.fT=b.fT/\a.bV=b.bV/\a.bB=b.bB:=by cases a;cases b;simp
noncomputable instance:DecidableEq aX:=λa b=>Classical.propDecidable (a=b)
structure aK where
 aJ:(List aX)
def aK.c (x:aK):List aC:=[(cI 3 aX.c x.aJ)]
def aK.s (x:aK):Nat:=(rR aX.s x.aJ)
theorem aK.aM (x:aK):x.c=[(cI 3 aX.c x.aJ)]:=rfl
theorem aK.fQ (x:aK):x.s=(rR aX.s x.aJ):=rfl
@[simp] theorem aK.aJ8 (x:aK):x.c.length=1:=by rw[aK.aM];rfl
def aK.wf (x:aK):Prop:=(∀ y∈x.aJ,y.wf)
theorem aK.eq_iff {a b:aK}:a=b↔a.aJ=b.aJ:=by cases a;cases b;simp
noncomputable instance:DecidableEq aK:=λa b=>Classical.propDecidable (a=b)
structure dN where
 bN:aK
 b5:Int
 aU:Int
 cT:(List Int)
 aQ:(List (List Int))
def dN.c (x:dN):List aC:=[(cI 3 aX.c x.bN.aJ),(.int .i64 x.b5),(.int .i64 x.aU),(cI 1 (λn=>[I n]) x.cT),(cI 1 (λx=>[cI 1 (λn=>[I n]) x]) x.aQ)]
def dN.s (x:dN):Nat:=(aK.s x.bN)+x.cT.length+(rR (λx:List Int=>x.length) x.aQ)
theorem dN.aM (x:dN):x.c=[(cI 3 aX.c x.bN.aJ),(.int .i64 x.b5),(.int .i64 x.aU),(cI 1 (λn=>[I n]) x.cT),(cI 1 (λx=>[cI 1 (λn=>[I n]) x]) x.aQ)]:=rfl
theorem dN.fQ (x:dN):x.s=(aK.s x.bN)+x.cT.length+(rR (λx:List Int=>x.length) x.aQ):=rfl
@[simp] theorem dN.aJ8 (x:dN):x.c.length=5:=by rw[dN.aM];rfl
def dN.wf (x:dN):Prop:=x.bN.wf/\InI x.b5/\InI x.aU/\(∀ y∈x.cT,InI y)/\(∀ y∈x.aQ,(∀ y'∈y,InI y'))
theorem dN.eq_iff {a b:dN}:a=b↔a.bN=b.bN/\a.b5=b.b5/\a.aU=b.aU/\a.cT=b.cT/\a.aQ=b.aQ:=by cases a;cases b;simp
noncomputable instance:DecidableEq dN:=λa b=>Classical.propDecidable (a=b)
structure bR where
 cX:Int
 jA:Int
 iQ:(List Int)
def bR.c (x:bR):List aC:=[(.int .i64 x.cX),(.int .i64 x.jA),(cI 1 (λn=>[I n]) x.iQ)]
def bR.s (x:bR):Nat:=x.iQ.length
theorem bR.aM (x:bR):x.c=[(.int .i64 x.cX),(.int .i64 x.jA),(cI 1 (λn=>[I n]) x.iQ)]:=rfl
theorem bR.fQ (x:bR):x.s=x.iQ.length:=rfl
@[simp] theorem bR.aJ8 (x:bR):x.c.length=3:=by rw[bR.aM];rfl
def bR.wf (x:bR):Prop:=InI x.cX/\InI x.jA/\(∀ y∈x.iQ,InI y)
theorem bR.eq_iff {a b:bR}:a=b↔a.cX=b.cX/\a.jA=b.jA/\a.iQ=b.iQ:=by cases a;cases b;simp
noncomputable instance:DecidableEq bR:=λa b=>Classical.propDecidable (a=b)
structure aI where
 bA:dN
 aP:(List Int)
 bM:(List Bool)
 bW:(List bR)
 bI:(List Int)
def aI.c (x:aI):List aC:=[(cI 3 aX.c x.bA.bN.aJ),(.int .i64 x.bA.b5),(.int .i64 x.bA.aU),(cI 1 (λn=>[I n]) x.bA.cT),(cI 1 (λx=>[cI 1 (λn=>[I n]) x]) x.bA.aQ),(cI 1 (λn=>[I n]) x.aP),(cI 1 (λb=>[.bool b]) x.bM),(cI 3 bR.c x.bW),(cI 1 (λn=>[I n]) x.bI)]
def aI.s (x:aI):Nat:=(dN.s x.bA)+x.aP.length+x.bM.length+(rR bR.s x.bW)+x.bI.length
theorem aI.aM (x:aI):x.c=[(cI 3 aX.c x.bA.bN.aJ),(.int .i64 x.bA.b5),(.int .i64 x.bA.aU),(cI 1 (λn=>[I n]) x.bA.cT),(cI 1 (λx=>[cI 1 (λn=>[I n]) x]) x.bA.aQ),(cI 1 (λn=>[I n]) x.aP),(cI 1 (λb=>[.bool b]) x.bM),(cI 3 bR.c x.bW),(cI 1 (λn=>[I n]) x.bI)]:=rfl
theorem aI.fQ (x:aI):x.s=(dN.s x.bA)+x.aP.length+x.bM.length+(rR bR.s x.bW)+x.bI.length:=rfl
@[simp] theorem aI.aJ8 (x:aI):x.c.length=9:=by rw[aI.aM];rfl
def aI.wf (x:aI):Prop:=x.bA.wf/\(∀ y∈x.aP,InI y)/\(∀ y∈x.bW,y.wf)/\(∀ y∈x.bI,InI y)
theorem aI.eq_iff {a b:aI}:a=b↔a.bA=b.bA/\a.aP=b.aP/\a.bM=b.bM/\a.bW=b.bW/\a.bI=b.bI:=by cases a;cases b;simp
noncomputable instance:DecidableEq aI:=λa b=>Classical.propDecidable (a=b)
structure aT where
 fI:Int
 pQ:Int
 jY:bR
def aT.c (x:aT):List aC:=[(.int .i64 x.fI),(.int .i64 x.pQ),(.int .i64 x.jY.cX),(.int .i64 x.jY.jA),(cI 1 (λn=>[I n]) x.jY.iQ)]
def aT.s (x:aT):Nat:=(bR.s x.jY)
theorem aT.aM (x:aT):x.c=[(.int .i64 x.fI),(.int .i64 x.pQ),(.int .i64 x.jY.cX),(.int .i64 x.jY.jA),(cI 1 (λn=>[I n]) x.jY.iQ)]:=rfl
theorem aT.fQ (x:aT):x.s=(bR.s x.jY):=rfl
@[simp] theorem aT.aJ8 (x:aT):x.c.length=5:=by rw[aT.aM];rfl
def aT.wf (x:aT):Prop:=InI x.fI/\InI x.pQ/\x.jY.wf
theorem aT.eq_iff {a b:aT}:a=b↔a.fI=b.fI/\a.pQ=b.pQ/\a.jY=b.jY:=by cases a;cases b;simp
noncomputable instance:DecidableEq aT:=λa b=>Classical.propDecidable (a=b)
structure jQ where
 jR:dN
 cA:aI
 iP:(List UInt8)
 aFD:Int
 cH:(List (List aT))
 gV:(List aT)
def jQ.c (x:jQ):List aC:=[(cI 3 aX.c x.jR.bN.aJ),(.int .i64 x.jR.b5),(.int .i64 x.jR.aU),(cI 1 (λn=>[I n]) x.jR.cT),(cI 1 (λx=>[cI 1 (λn=>[I n]) x]) x.jR.aQ),(cI 3 aX.c x.cA.bA.bN.aJ),(.int .i64 x.cA.bA.b5),(.int .i64 x.cA.bA.aU),(cI 1 (λn=>[I n]) x.cA.bA.cT),(cI 1 (λx=>[cI 1 (λn=>[I n]) x]) x.cA.bA.aQ),(cI 1 (λn=>[I n]) x.cA.aP),(cI 1 (λb=>[.bool b]) x.cA.bM),(cI 3 bR.c x.cA.bW),(cI 1 (λn=>[I n]) x.cA.bI),(.str x.iP),(.int .i64 x.aFD),(cI 1 (λx=>[cI 5 aT.c x]) x.cH),(cI 5 aT.c x.gV)]
def jQ.s (x:jQ):Nat:=(dN.s x.jR)+(aI.s x.cA)+x.iP.length+(rR (λx=>rR aT.s x) x.cH)+(rR aT.s x.gV)
theorem jQ.aM (x:jQ):x.c=[(cI 3 aX.c x.jR.bN.aJ),(.int .i64 x.jR.b5),(.int .i64 x.jR.aU),(cI 1 (λn=>[I n]) x.jR.cT),(cI 1 (λx=>[cI 1 (λn=>[I n]) x]) x.jR.aQ),(cI 3 aX.c x.cA.bA.bN.aJ),(.int .i64 x.cA.bA.b5),(.int .i64 x.cA.bA.aU),(cI 1 (λn=>[I n]) x.cA.bA.cT),(cI 1 (λx=>[cI 1 (λn=>[I n]) x]) x.cA.bA.aQ),(cI 1 (λn=>[I n]) x.cA.aP),(cI 1 (λb=>[.bool b]) x.cA.bM),(cI 3 bR.c x.cA.bW),(cI 1 (λn=>[I n]) x.cA.bI),(.str x.iP),(.int .i64 x.aFD),(cI 1 (λx=>[cI 5 aT.c x]) x.cH),(cI 5 aT.c x.gV)]:=rfl
theorem jQ.fQ (x:jQ):x.s=(dN.s x.jR)+(aI.s x.cA)+x.iP.length+(rR (λx=>rR aT.s x) x.cH)+(rR aT.s x.gV):=rfl
@[simp] theorem jQ.aJ8 (x:jQ):x.c.length=18:=by rw[jQ.aM];rfl
def jQ.wf (x:jQ):Prop:=x.jR.wf/\x.cA.wf/\InI x.aFD/\(∀ y∈x.cH,(∀ y'∈y,y'.wf))/\(∀ y∈x.gV,y.wf)
theorem jQ.eq_iff {a b:jQ}:a=b↔a.jR=b.jR/\a.cA=b.cA/\a.iP=b.iP/\a.aFD=b.aFD/\a.cH=b.cH/\a.gV=b.gV:=by cases a;cases b;simp
noncomputable instance:DecidableEq jQ:=λa b=>Classical.propDecidable (a=b)
set_option maxRecDepth 100000
theorem eI (n a b:Int):dQ Tryz.prog 65 [I n,I a,I b] (.bool (decide (a<=n/\n<=b))):=by
 refine dI 15 bP0 cG b9 Tryz.func65 λh=>?_
 simp -dsimp -implicitDefEqProofs only[go_sem,↓reduceIte,Tryz.f65]
 repeat'(with_reducible first|intro _|refine And.intro ?_ ?_)
 all_goals try(first|(simp[*];done)|omega|grind)
theorem within (n a b:Int):dQ Tryz.prog 52 [I n,I a,I b] (.bool (decide (a<=n/\n<=b))):=by
 refine dI 15 bP0 cG b9 Tryz.func52 λh=>?_
 simp -dsimp -implicitDefEqProofs only[go_sem,↓reduceIte,Tryz.f52]
 repeat'(with_reducible first|intro _|refine And.intro ?_ ?_)
 all_goals try(first|(simp[*];done)|omega|grind)
theorem mT (n:Int):dQ Tryz.prog 112 [I n] (.bool (decide (nJ n))):=by
 refine dI 5 aL3 cG b9 Tryz.func112 λh=>?_
 simp -dsimp -implicitDefEqProofs only[go_sem,↓reduceIte,Tryz.f112]
 first|refine aH.mk (eI n 0 1000002) ?_|refine aE.mk (eI n 0 1000002) ?_|refine aH.b7 (eI n 0 1000002) ?_|refine aE.mk (bX.eA (eI n 0 1000002)) ?_
 simp -dsimp -implicitDefEqProofs only[go_sem,↓reduceIte,Tryz.f112]
 all_goals rfl
theorem pA (n:Int):dQ Tryz.prog 125 [I n] (.bool (decide (nJ n))):=by
 refine dI 5 aL3 cG b9 Tryz.func125 λh=>?_
 simp -dsimp -implicitDefEqProofs only[go_sem,↓reduceIte,Tryz.f125]
 first|refine aH.mk (within n 0 1000002) ?_|refine aE.mk (within n 0 1000002) ?_|refine aH.b7 (within n 0 1000002) ?_|refine aE.mk (bX.eA (within n 0 1000002)) ?_
 simp -dsimp -implicitDefEqProofs only[go_sem,↓reduceIte,Tryz.f125]
 all_goals rfl
@[go_sem] def bGZ:List Nat:=[0,2,3,7,15]
theorem jB (l:List Int):dQ Tryz.prog 66 [cI 1 (λn=>[I n]) l] (.bool (decide (p4 l))):=by
 refine dI 16 bGZ cG b9 Tryz.func66 λh=>?_
 simp -dsimp -implicitDefEqProofs only[go_sem,↓reduceIte,Tryz.f66]
 refine cY bGZ cG b9 (λk:Nat=>[(0,cI 1 (λn=>[I n]) l),(3,I k)]) (λ_=>h) (λk=>k<=(l).length/\∀ x∈(l).take k,nJ x) (λk=>(l).length-k) 0 pV ?_
 intro k ⟨hk,hp⟩
 rcases cP k (l).length with hlt|hge
 ·have ea:(l)[k]?=some (l)[k]:=b6 hlt
  simp -dsimp -implicitDefEqProofs only[go_sem,↓reduceIte,Tryz.f66,ea]
  repeat'(with_reducible first|intro _|refine And.intro ?_ ?_)
  all_goals try omega
  first|refine aH.mk (mT l[k]) ?_|refine aE.mk (mT l[k]) ?_|refine aH.b7 (mT l[k]) ?_|refine aE.mk (bX.eA (mT l[k])) ?_
  simp -dsimp -implicitDefEqProofs only[go_sem,↓reduceIte,Tryz.f66]
  repeat'(with_reducible first|intro _|refine And.intro ?_ ?_)
  ·rename_i he
   exact(decide_eq_false λe=>he (e _ (dG hlt))).symm
  ·rename_i he
   refine⟨k+1,?_⟩
   repeat'(with_reducible refine And.intro ?_ ?_)
   all_goals try(rw[IntWalk.i64_in _ aA];first|rfl|omega)
   all_goals try omega
   all_goals try(repeat'(with_reducible first|exact Heap.le_refl _|refine(aW gH).2 ?_))
   exact iY hlt hp he
 ·have hk':k=(l).length:=by omega
  subst hk'
  rw[eL]at hp
  simp -dsimp -implicitDefEqProofs only[go_sem,↓reduceIte,Tryz.f66,cN]
  intro _
  exact(decide_eq_true hp).symm
theorem a1M (a:List Int) (p:Int->Bool) (g:FuncId) (cap:List aC) {h0:Heap} (hc:∀ x∈a,bX Tryz.prog g ([(.int .i64 x)]++cap) (.bool (p x)) h0):bX Tryz.prog 101 [(cI 1 (λn=>[I n]) a),.fn (.func g) [] cap] (I (idxOf p a)) h0:=by
 refine aGX 19 aNQ cG b9 Tryz.func101 λh hle=>?_
 simp -dsimp -implicitDefEqProofs only[go_sem,↓reduceIte,Tryz.f101,Tryz.f101]
 intro _
 refine cY aNQ cG b9 (λk:Nat=>[(0,(cI 1 (λn=>[I n]) a)),(1,.fn (.func g) [] cap),(7,I a.length),(8,I k)]) (λ_=>h) (λk=>k<=a.length/\∀ x∈a.take k,p x=false) (λk=>a.length-k) 0 pV ?_
 intro k ⟨hk,hp⟩
 rcases cP k a.length with hlt|hge
 ·have ea:a[k]?=some a[k]:=b6 hlt
  simp -dsimp -implicitDefEqProofs only[go_sem,↓reduceIte,Tryz.f101,Tryz.f101,ea]
  repeat'(with_reducible first|intro _|refine And.intro ?_ ?_)
  all_goals try omega
  have hx:=hc a[k] (dG hlt)
  refine aH.b7 (hx.mono hle) ?_
  cases hpk:p a[k]with
  |true =>
   simp -dsimp -implicitDefEqProofs only[go_sem,↓reduceIte,Tryz.f101,Tryz.f101]
   repeat'(with_reducible first|intro _|refine And.intro ?_ ?_)
   all_goals first|exact(qG hlt hp hpk).symm|rfl|(rw[qG hlt hp hpk])
  |false =>
   simp -dsimp -implicitDefEqProofs only[go_sem,↓reduceIte,Tryz.f101,Tryz.f101]
   refine⟨k+1,?_⟩
   repeat'(with_reducible refine And.intro ?_ ?_)
   all_goals try(rw[IntWalk.i64_in _ aA];first|rfl|omega)
   all_goals try omega
   exact iY (P:=λx=>p x=false) hlt hp hpk
 ·have hk':k=a.length:=by omega
  subst hk'
  rw[eL]at hp
  simp -dsimp -implicitDefEqProofs only[go_sem,↓reduceIte,Tryz.f101,Tryz.f101,cN]
  all_goals first|exact(qF hp).symm|rw[qF hp]
theorem wW (a:List Int) (p:Int->Bool) (g:FuncId) (cap:List aC) {h0:Heap} (hc:∀ x∈a,bX Tryz.prog g ([(.int .i64 x)]++cap) (.bool (p x)) h0):bX Tryz.prog 53 [(cI 1 (λn=>[I n]) a),.fn (.func g) [] cap] (.bool (a.any p)) h0:=by
 refine aGX 9 zG cG b9 Tryz.func53 λh hle=>?_
 simp -dsimp -implicitDefEqProofs only[go_sem,↓reduceIte,Tryz.f53,Tryz.f53]
 refine aH.b7 ((a1M a p g cap hc).mono hle) ?_
 simp -dsimp -implicitDefEqProofs only[go_sem,↓reduceIte,Tryz.f53,Tryz.f53]
 all_goals first|done|exact nD|rw[nD]
theorem aAI (n:Int):dQ Tryz.prog 124 [I n] (.bool (!decide (nJ n))):=by
 refine dI 6 aL3 cG b9 Tryz.func124 λh=>?_
 simp -dsimp -implicitDefEqProofs only[go_sem,↓reduceIte,Tryz.f124]
 first|refine aH.mk (pA n) ?_|refine aE.mk (pA n) ?_|refine aH.b7 (pA n) ?_|refine aE.mk (bX.eA (pA n)) ?_
 simp -dsimp -implicitDefEqProofs only[go_sem,↓reduceIte,Tryz.f124]
theorem fX (l:List Int) (c:Int):dQ Tryz.prog 73 [cI 1 (λn=>[I n]) l,I c] (.bool (decide ((l.length:Int)=c/\p4 l))):=by
 refine dI 14 zG cG b9 Tryz.func73 λh=>?_
 simp -dsimp -implicitDefEqProofs only[go_sem,↓reduceIte,Tryz.f73]
 repeat'(with_reducible first|intro _|refine And.intro ?_ ?_)
 all_goals try(first|(simp[*];done)|omega|grind)
 first|refine aH.mk (wW l (λn=>!decide (nJ n)) 124 [] λx _=>(aAI x).bDC) ?_|refine aE.mk (wW l (λn=>!decide (nJ n)) 124 [] λx _=>(aAI x).bDC) ?_|refine aH.b7 (wW l (λn=>!decide (nJ n)) 124 [] λx _=>(aAI x).bDC) ?_|refine aE.mk (bX.eA (wW l (λn=>!decide (nJ n)) 124 [] λx _=>(aAI x).bDC)) ?_
 simp -dsimp -implicitDefEqProofs only[go_sem,↓reduceIte,Tryz.f73]
 rename_i e
 rw[aOT,decide_eq_decide]
 exact⟨λq=>⟨e,q⟩,λq=>q.2⟩
theorem bLW {n:Int} (h0:0<=n) (h:n<10):Go.Lib.itoa n=[UInt8.ofNat (48+n).toNat]:=by
 unfold Go.Lib.itoa
 rw[if_neg aA,Go.Lib.decDigits,dif_pos aA,show(48+n).toNat=48+n.toNat from by omega]
theorem bLX {n:Int} (h:10<=n):Go.Lib.itoa n=Go.Lib.itoa (n / 10)++[UInt8.ofNat (48+n%10).toNat]:=by
 unfold Go.Lib.itoa
 rw[if_neg aA,if_neg aA,Go.Lib.decDigits,dif_neg aA,show(48+n%10).toNat=48+n.toNat%10 from by omega,show(n / 10).toNat=n.toNat / 10 from by omega]
theorem aD1 {u k:Nat} (h:u<10 ^ k) (hk:1<=k):(Go.Lib.decDigits u).length<=k:=by
 induction k generalizing u with
 |zero=>omega
 |succ k ih =>
  rw[Go.Lib.decDigits]
  split
  ·simp
  ·rename_i hu
   rcases aTN k with e|e
   ·subst e;simp at h;omega
   ·have:=ih (u:=u / 10) (by rw[Nat.pow_succ]at h;omega) e
    simp;omega
theorem wF {n:Int} (h0:-9223372036854775808<=n) (h1:n<=9223372036854775807):(Go.Lib.itoa n).length<=21:=by
 unfold Go.Lib.itoa
 split
 ·have:=aD1 (u:=n.natAbs) (k:=20) aA aA
  simp;omega
 ·have:=aD1 (u:=n.toNat) (k:=20) aA aA
  omega
theorem bG0 {E:Env} {h:Heap} {w:World} (x:LaidIn E h w):Go.Lib.TabIs Tryz.prog w "internal/strconv.uint64pow10" .u64 Go.Lib.pow10Tab :=
 let ⟨_,h1,h2⟩:=x.var (P:=Tryz.prog) (name:="internal/strconv.uint64pow10") aBB (al5 ..)
 h1.trans (congrArg some (h2.trans aBB))
theorem tK (n:Int) (h0:-9223372036854775808<=n) (h1:n<=9223372036854775807):dQ Tryz.prog 130 [I n,I 10] (.str (Go.Lib.itoa n)) :=
 bDI aBB λE h w vs R rl=>by
  match vs,rl with
  | [v0,v1],rl =>
   obtain⟨r0,r1,_⟩:=rl
   rw[j4 r0,j4 r1]
   refine(Go.Proofs.Tryz.strconv_FormatInt_10 n h0 h1 w (bG0 R.laid)).mono λe w' ⟨he,hw⟩=>⟨_,he,λE' h' w'=>.str _ ?_,hw⟩
   have:=wF h0 h1
   simp only[maxLen]
   omega
theorem decimal (n:Int) (h:nJ n):dQ Tryz.prog 80 [I n] (.str (Go.Lib.itoa n)):=by
 have h0:=h.1
 have h1:=h.2
 refine dI 5 aL3 cG b9 Tryz.func80 λh=>?_
 simp -dsimp -implicitDefEqProofs only[go_sem,↓reduceIte,Tryz.f80]
 first|refine aH.mk (tK n aA aA) ?_|refine aE.mk (tK n aA aA) ?_|refine aH.b7 (tK n aA aA) ?_|refine aE.mk (bX.eA (tK n aA aA)) ?_
 simp -dsimp -implicitDefEqProofs only[go_sem,↓reduceIte,Tryz.f80]
@[go_sem] def bZB:List Nat:=[8,17]
@[go_sem] def bZC:Marks:=λid=>match id with|3=>([],(.op 0 (.op 1 (.op 2 (.op 3 (.op 4 (.op 5 (.op 6 (.op 7 (.op 8 (.op 9 (.op 10 .nil))))))))))),[])|_=>([],.nil,[])
theorem aJ9 (m:Nat):∀ n:Int,0<=n->n<m->n<=999999999->dQ Tryz.prog 160 [I n] (.str (Go.Lib.itoa n)):=by
 induction m with
 |zero=>intro n a b;omega
 |succ m ih =>
 intro n h0 hm hn
 refine dI 20 a98 bZB bZC Tryz.func160 λh=>?_
 simp -dsimp -implicitDefEqProofs only[go_sem,↓reduceIte,Tryz.f160]
 repeat'(with_reducible first|intro _|refine And.intro ?_ ?_)
 all_goals try omega
 ·rw[bLW h0 gB,IntWalk.i64_in (48+n) aA,IntWalk.u8_in (48+n) aA]
 ·rw[a8M aA,IntWalk.i64_in (n / 10) aA]
  first|refine aH.mk (ih (n / 10) aA aA aA) ?_|refine aE.mk (ih (n / 10) aA aA aA) ?_|refine aH.b7 (ih (n / 10) aA aA aA) ?_|refine aE.mk (bX.eA (ih (n / 10) aA aA aA)) ?_
  simp -dsimp -implicitDefEqProofs only[go_sem,↓reduceIte,Tryz.f160]
  repeat'(with_reducible first|intro _|refine And.intro ?_ ?_)
  all_goals try(first|omega|decide)
  ·have:=wF (n:=n / 10) aA aA
   omega
  ·rw[bLX (n:=n) aA,aGP aA,IntWalk.i64_in (48+n%10) aA,IntWalk.u8_in (48+n%10) aA]
theorem bS3 {E:Env} {h:Heap} {w:World} {sz:Nat} {es:List (List aC)} {t:Bool} {v:Value} (hr:fY E h w (.sl sz es t) v) :
  (es=[]/\∃ a cap,v=.slice a 0 cap)∨∃ b o cap,v=.slice (some ⟨b,o,none⟩) es.length cap/\b<w.heap.size/\es.length<=cap/\∀ i j x,kE es i j=some x->∃ c,w.cell? ⟨b,o+i*sz+j,none⟩=some c/\fY E h w x c:=by
 cases hr with
 |sl0 _ _ a cap=>exact .inl ⟨rfl,a,cap,rfl⟩
 |sl _ _ _ b o cap cv hi hcap hmax ht hs hc h1 hr=>exact .inr ⟨b,o,cap,rfl,hi.1,hcap,λi j x q=>⟨_,hc i j x q,hr i j x q⟩⟩
@[go_sem] def b4E:List Nat:=[0,1,4,5,7,8,10,12,13,15,22,29,39,40,41,42,49,63,64,65,66]
theorem bZD (xs:List (List UInt8)) (sep:List UInt8) (hN:xs.length<=140737488355328) (hlen:(Go.Lib.join xs sep).length<=140737488355328):dQ Tryz.prog 214 [cI 1 (λs=>[.str s]) xs,.str sep] (.str (Go.Lib.join xs sep)) :=
 aL2 aBB λE h w vs R rl=>by
  match vs,rl with
  | [v0,v1],rl =>
   obtain⟨r0,r1,_⟩:=rl
   obtain⟨rfl,hl⟩:=mZ r1
   have hm:(xs.map λs:List UInt8=>(⟨s.toArray⟩:ByteArray)).map (λb=>b.data.toList)=xs:=by simp[aZO,Function.comp_def]
   have hr:∀ E' h' w',fY E' h' w' (.str (Go.Lib.join xs sep)) (.string ⟨(Go.Lib.join xs sep).toArray⟩):=λ_ _ _=>.str _ a0D
   rcases bS3 r0 with⟨e,a,cap,rfl⟩|⟨b,o,cap,rfl,hb,hcap,hcs⟩
   ·have e:xs=[]:=by simpa using e
    subst e
    exact(Go.Proofs.Tryz.strings_Join_none a cap ⟨sep.toArray⟩ w).mono λe w' ⟨he,hw⟩=>⟨_,he,hr,hw▸Go.RowKit.Below.refl _ _⟩
   ·rw[k5]at hcap ⊢
    have:=Go.Proofs.Tryz.strings_Join b o cap (xs.map λs:List UInt8=>(⟨s.toArray⟩:ByteArray)) ⟨sep.toArray⟩ w (λj x hx=>by
     simp only[rM,xD]at hx
     obtain⟨s,hs,rfl⟩:=hx
     obtain⟨c,h1,h2⟩:=hcs j 0 (.str s) (by simp[kE,hs])
     rw[(mZ h2).1]at h1
     simpa using h1) hb (by simpa using hN) (by simpa using hcap) (by rw[hm];exact hlen)
    rw[hm,k5]at this
    exact this.mono λe w' ⟨he,hw⟩=>⟨_,he,hr,hw⟩
theorem a1N {n:Int} (h:nJ n):(Go.Lib.itoa n).length<=21:=wF (by have:=h.1;omega) (by have:=h.2;omega)
theorem aFE:∀ l:List Int,l≠[]->32::Go.Lib.join (l.map Go.Lib.itoa) [32]=gL l
 | [],h=>(h rfl).elim
 | [n],_=>by simp[gL,Go.Lib.join_one]
 |n::m::l,_=>by
  have:=aFE (m::l) aS
  rw[gL,←this]
  simp[Go.Lib.join,List.intercalate]
theorem aQ8:∀ l:List Int,(∀ n∈l,nJ n)->(gL l).length<=22*l.length
 | [],_=>by simp[gL]
 |n::l,h=>by
  have:=aQ8 l λn q=>h n (al6 _ q)
  have:=a1N (h n (al5 ..))
  simp[gL];omega
theorem aNV:∀ l:List Int,aIZ 999999999 l->(gL l).length<=22*l.length
 | [],_=>fL _
 |n::l,h=>by
  have h1:=aNV l λm q=>h m (.tail _ q)
  have h2:=h n (.head _)
  have h3:=wF (n:=n) aA aA
  rw[gL]
  simp only[al2,rL]
  omega
theorem aU7 (l:List Int) (h:∀ n∈l,nJ n):(Go.Lib.join (l.map Go.Lib.itoa) [32]).length<=22*l.length:=by
 by_cases e:l=[]
 ·subst e;simp[Go.Lib.join_nil]
 ·have:=aQ8 l h
  rw[←aFE l e]at this
  simp at this ⊢;omega
theorem hgr {g h : Heap} (x : g.le h := by intro q_; simp only [dC, aN, aL, bJ, aY, aP5, aHA, aUG, aUH, bO, bY, OV.bE, List.nil_append, List.length_append, List.length_cons, List.length_nil, Nat.zero_add]; grind) : g.le h := x
theorem cAS {a b : Prop} (hb : b) (ha : a := by first | omega | decide | rfl | trivial | exact Nat.le_of_eq (aZ8 _ _).symm | exact Nat.le_of_eq (aUI _).symm) : a ∧ b := ⟨ha, hb⟩
end Go.Hl
namespace Go.Proofs
open Go.Shelf
def Tryz.a1O:Go.Shelf.Ren:=⟨fun|145=>77|220=>128|219=>172|217=>205|225=>206|224=>207|267=>208|266=>229|314=>230|n=>n,fun|9=>9|4=>4|59=>123|3=>3|5=>5|46=>236|146=>272|51=>271|n=>n,fun|1=>0|n=>n⟩
theorem Tryz.bLY:Go.Proofs.Lays.n145 Tryz.prog Tryz.a1O:={
 mixed:=by kernel_rfl
 f145:=Tryz.func77.trans (congrArg some (by kernel_rfl))
 f217:=Tryz.func205.trans (congrArg some (by kernel_rfl))
 f219:=Tryz.func172.trans (congrArg some (by kernel_rfl))
 f220:=Tryz.func128.trans (congrArg some (by kernel_rfl))
 f224:=Tryz.func207.trans (congrArg some (by kernel_rfl))
 f225:=Tryz.func206.trans (congrArg some (by kernel_rfl))
 f266:=Tryz.func229.trans (congrArg some (by kernel_rfl))
 f267:=Tryz.func208.trans (congrArg some (by kernel_rfl))
 f314:=Tryz.func230.trans (congrArg some (by kernel_rfl))
 t3:=Tryz.underlying3
 a3:=Tryz.isAgg3
 z3:=Tryz.sizeOf3
 v3:=Tryz.zeroValue3
 t4:=Tryz.underlying4
 a4:=Tryz.isAgg4
 z4:=Tryz.sizeOf4
 v4:=Tryz.zeroValue4
 t5:=Tryz.underlying5
 a5:=Tryz.isAgg5
 z5:=Tryz.sizeOf5
 v5:=Tryz.zeroValue5
 t9:=Tryz.underlying9
 a9:=Tryz.isAgg9
 z9:=Tryz.sizeOf9
 v9:=Tryz.zeroValue9
 t46:=Tryz.underlying236
 a46:=Tryz.isAgg236
 z46:=Tryz.sizeOf236
 v46:=Tryz.zeroValue236
 t51:=Tryz.underlying271
 a51:=Tryz.isAgg271
 z51:=Tryz.sizeOf271
 v51:=Tryz.zeroValue271
 t59:=Tryz.underlying123
 a59:=Tryz.isAgg123
 z59:=Tryz.sizeOf123
 v59:=Tryz.zeroValue123
 t146:=Tryz.underlying272
 a146:=Tryz.isAgg272
 z146:=Tryz.sizeOf272
 v146:=Tryz.zeroValue272
 g1:=by kernel_rfl }
open Go.RowKit Go.Lib in
theorem Tryz.strings_Cut (s sep:ByteArray) (m:Int) (w:World) (hs:s.size<4294967281) (hm:w.cell? ⟨0,0,none⟩=some (.int .i64 m)) :
  Calls Tryz.prog 77 #[.string s,.string sep] w λe w'=>e=.returned (.tuple #[.string ⟨(Lib.cut s.data.toList sep.data.toList).1.toArray⟩,.string ⟨(Lib.cut s.data.toList sep.data.toList).2.1.toArray⟩,.bool (Lib.cut s.data.toList sep.data.toList).2.2])/\∃ n,w'=w.drewN n:=Any.strings_Cut Tryz.bLY s sep m w hs hm
def Tryz.a1P:Go.Shelf.Ren:=⟨fun|146=>174|221=>147|268=>184|138=>185|143=>186|195=>220|197=>221|218=>222|219=>172|260=>246|217=>205|225=>206|224=>207|267=>208|266=>229|314=>230|n=>n,fun|9=>9|31=>145|3=>3|4=>4|0=>0|105=>262|21=>21|5=>5|46=>236|119=>313|139=>316|138=>315|146=>272|51=>271|n=>n,fun|1=>0|3=>2|4=>3|n=>n⟩
theorem Tryz.bLZ:Go.Proofs.Lays.n146 Tryz.prog Tryz.a1P:={
 mixed:=by kernel_rfl
 f138:=Tryz.func185.trans (congrArg some (by kernel_rfl))
 f143:=Tryz.func186.trans (congrArg some (by kernel_rfl))
 f146:=Tryz.func174.trans (congrArg some (by kernel_rfl))
 f195:=Tryz.func220.trans (congrArg some (by kernel_rfl))
 f197:=Tryz.func221.trans (congrArg some (by kernel_rfl))
 f217:=Tryz.func205.trans (congrArg some (by kernel_rfl))
 f218:=Tryz.func222.trans (congrArg some (by kernel_rfl))
 f219:=Tryz.func172.trans (congrArg some (by kernel_rfl))
 f221:=Tryz.func147.trans (congrArg some (by kernel_rfl))
 f224:=Tryz.func207.trans (congrArg some (by kernel_rfl))
 f225:=Tryz.func206.trans (congrArg some (by kernel_rfl))
 f260:=Tryz.func246.trans (congrArg some (by kernel_rfl))
 f266:=Tryz.func229.trans (congrArg some (by kernel_rfl))
 f267:=Tryz.func208.trans (congrArg some (by kernel_rfl))
 f268:=Tryz.func184.trans (congrArg some (by kernel_rfl))
 f314:=Tryz.func230.trans (congrArg some (by kernel_rfl))
 t0:=Tryz.underlying0
 a0:=Tryz.isAgg0
 z0:=Tryz.sizeOf0
 v0:=Tryz.zeroValue0
 t3:=Tryz.underlying3
 a3:=Tryz.isAgg3
 z3:=Tryz.sizeOf3
 v3:=Tryz.zeroValue3
 t4:=Tryz.underlying4
 a4:=Tryz.isAgg4
 z4:=Tryz.sizeOf4
 v4:=Tryz.zeroValue4
 t5:=Tryz.underlying5
 a5:=Tryz.isAgg5
 z5:=Tryz.sizeOf5
 v5:=Tryz.zeroValue5
 t9:=Tryz.underlying9
 a9:=Tryz.isAgg9
 z9:=Tryz.sizeOf9
 v9:=Tryz.zeroValue9
 t21:=Tryz.underlying21
 a21:=Tryz.isAgg21
 z21:=Tryz.sizeOf21
 v21:=Tryz.zeroValue21
 t31:=Tryz.underlying145
 a31:=Tryz.isAgg145
 z31:=Tryz.sizeOf145
 v31:=Tryz.zeroValue145
 t46:=Tryz.underlying236
 a46:=Tryz.isAgg236
 z46:=Tryz.sizeOf236
 v46:=Tryz.zeroValue236
 t51:=Tryz.underlying271
 a51:=Tryz.isAgg271
 z51:=Tryz.sizeOf271
 v51:=Tryz.zeroValue271
 t105:=Tryz.underlying262
 a105:=Tryz.isAgg262
 z105:=Tryz.sizeOf262
 v105:=Tryz.zeroValue262
 t119:=Tryz.underlying313
 a119:=Tryz.isAgg313
 z119:=Tryz.sizeOf313
 t138:=Tryz.underlying315
 a138:=Tryz.isAgg315
 z138:=Tryz.sizeOf315
 v138:=Tryz.zeroValue315
 t139:=Tryz.underlying316
 a139:=Tryz.isAgg316
 z139:=Tryz.sizeOf316
 v139:=Tryz.zeroValue316
 t146:=Tryz.underlying272
 a146:=Tryz.isAgg272
 z146:=Tryz.sizeOf272
 v146:=Tryz.zeroValue272
 g1:=by kernel_rfl
 g3:=by kernel_rfl
 g4:=by kernel_rfl }
open Go.RowKit Go.Lib in
theorem Tryz.strings_Split (s sep:ByteArray) (m:Int) (w:World) (hs:s.size<4294967281) (hm:w.cell? ⟨0,0,none⟩=some (.int .i64 m)) (h1:1<=sep.size) :
  Calls Tryz.prog 174 #[.string s,.string sep] w λe w' =>
   e=.returned (.slice (some ⟨w.heap.size,0,none⟩) (Lib.countB s sep+1) (Lib.countB s sep+1))/\w'=w.alloc (.cells ((Lib.splitB sep 0 (Lib.countB s sep) s).map Value.string).toArray 9):=Any.strings_Split Tryz.bLZ (by kernel_rfl) s sep m w hs hm h1
def Tryz.aW2:Go.Shelf.Ren:=⟨fun|174=>213|247=>236|245=>237|287=>253|279=>254|280=>255|281=>256|282=>257|321=>264|322=>265|316=>266|171=>268|205=>267|243=>286|246=>173|283=>209|284=>210|285=>211|286=>212|129=>232|317=>231|318=>233|319=>234|320=>235|337=>251|338=>252|n=>n,fun|9=>9|3=>3|2=>2|75=>244|85=>245|4=>4|167=>304|5=>5|53=>238|175=>305|46=>236|168=>307|37=>214|0=>0|210=>324|21=>21|127=>310|145=>336|143=>334|171=>237|173=>241|212=>275|51=>271|20=>20|213=>276|232=>319|233=>320|80=>285|n=>n,fun|15=>6|16=>7|17=>1|18=>4|19=>5|n=>n⟩
theorem Tryz.aQ9:Go.Proofs.LaysC.n174 Tryz.prog Tryz.aW2:={
 mixed:=by kernel_rfl
 f129:=Tryz.func232.trans (congrArg some (by kernel_rfl))
 f171:=Tryz.func268.trans (congrArg some (by kernel_rfl))
 f174:=Tryz.func213.trans (congrArg some (by kernel_rfl))
 f205:=Tryz.func267.trans (congrArg some (by kernel_rfl))
 f243:=Tryz.func286.trans (congrArg some (by kernel_rfl))
 f245:=Tryz.func237.trans (congrArg some (by kernel_rfl))
 f246:=Tryz.func173.trans (congrArg some (by kernel_rfl))
 f247:=Tryz.func236.trans (congrArg some (by kernel_rfl))
 f279:=Tryz.func254.trans (congrArg some (by kernel_rfl))
 f280:=Tryz.func255.trans (congrArg some (by kernel_rfl))
 f281:=Tryz.func256.trans (congrArg some (by kernel_rfl))
 f282:=Tryz.func257.trans (congrArg some (by kernel_rfl))
 f283:=Tryz.func209.trans (congrArg some (by kernel_rfl))
 f284:=Tryz.func210.trans (congrArg some (by kernel_rfl))
 f285:=Tryz.func211.trans (congrArg some (by kernel_rfl))
 f286:=Tryz.func212.trans (congrArg some (by kernel_rfl))
 f287:=Tryz.func253.trans (congrArg some (by kernel_rfl))
 f316:=Tryz.func266.trans (congrArg some (by kernel_rfl))
 f317:=Tryz.func231.trans (congrArg some (by kernel_rfl))
 f318:=Tryz.func233.trans (congrArg some (by kernel_rfl))
 f319:=Tryz.func234.trans (congrArg some (by kernel_rfl))
 f320:=Tryz.func235.trans (congrArg some (by kernel_rfl))
 f321:=Tryz.func264.trans (congrArg some (by kernel_rfl))
 f322:=Tryz.func265.trans (congrArg some (by kernel_rfl))
 f337:=Tryz.func251.trans (congrArg some (by kernel_rfl))
 f338:=Tryz.func252.trans (congrArg some (by kernel_rfl))
 t0:=Tryz.underlying0
 a0:=Tryz.isAgg0
 z0:=Tryz.sizeOf0
 v0:=Tryz.zeroValue0
 t2:=Tryz.underlying2
 a2:=Tryz.isAgg2
 z2:=Tryz.sizeOf2
 v2:=Tryz.zeroValue2
 t3:=Tryz.underlying3
 a3:=Tryz.isAgg3
 z3:=Tryz.sizeOf3
 v3:=Tryz.zeroValue3
 t4:=Tryz.underlying4
 a4:=Tryz.isAgg4
 z4:=Tryz.sizeOf4
 v4:=Tryz.zeroValue4
 t5:=Tryz.underlying5
 a5:=Tryz.isAgg5
 z5:=Tryz.sizeOf5
 v5:=Tryz.zeroValue5
 t9:=Tryz.underlying9
 a9:=Tryz.isAgg9
 z9:=Tryz.sizeOf9
 v9:=Tryz.zeroValue9
 t20:=Tryz.underlying20
 a20:=Tryz.isAgg20
 z20:=Tryz.sizeOf20
 v20:=Tryz.zeroValue20
 t21:=Tryz.underlying21
 a21:=Tryz.isAgg21
 z21:=Tryz.sizeOf21
 v21:=Tryz.zeroValue21
 t37:=Tryz.underlying214
 a37:=Tryz.isAgg214
 z37:=Tryz.sizeOf214
 v37:=Tryz.zeroValue214
 t46:=Tryz.underlying236
 a46:=Tryz.isAgg236
 z46:=Tryz.sizeOf236
 v46:=Tryz.zeroValue236
 t51:=Tryz.underlying271
 a51:=Tryz.isAgg271
 z51:=Tryz.sizeOf271
 v51:=Tryz.zeroValue271
 t53:=Tryz.underlying238
 a53:=Tryz.isAgg238
 z53:=Tryz.sizeOf238
 v53:=Tryz.zeroValue238
 t75:=Tryz.underlying244
 a75:=Tryz.isAgg244
 z75:=Tryz.sizeOf244
 v75:=Tryz.zeroValue244
 t85:=Tryz.underlying245
 a85:=Tryz.isAgg245
 z85:=Tryz.sizeOf245
 v85:=Tryz.zeroValue245
 t127:=Tryz.underlying310
 a127:=Tryz.isAgg310
 z127:=Tryz.sizeOf310
 v127:=Tryz.zeroValue310
 t143:=Tryz.underlying334
 a143:=Tryz.isAgg334
 z143:=Tryz.sizeOf334
 v143:=Tryz.zeroValue334
 t145:=Tryz.underlying336
 a145:=Tryz.isAgg336
 z145:=Tryz.sizeOf336
 v145:=Tryz.zeroValue336
 t167:=Tryz.underlying304
 a167:=Tryz.isAgg304
 z167:=Tryz.sizeOf304
 v167:=Tryz.zeroValue304
 t168:=Tryz.underlying307
 a168:=Tryz.isAgg307
 z168:=Tryz.sizeOf307
 v168:=Tryz.zeroValue307
 t171:=Tryz.underlying237
 a171:=Tryz.isAgg237
 z171:=Tryz.sizeOf237
 v171:=Tryz.zeroValue237
 t173:=Tryz.underlying241
 a173:=Tryz.isAgg241
 z173:=Tryz.sizeOf241
 v173:=Tryz.zeroValue241
 t175:=Tryz.underlying305
 a175:=Tryz.isAgg305
 z175:=Tryz.sizeOf305
 v175:=Tryz.zeroValue305
 t210:=Tryz.underlying324
 a210:=Tryz.isAgg324
 z210:=Tryz.sizeOf324
 v210:=Tryz.zeroValue324
 t212:=Tryz.underlying275
 a212:=Tryz.isAgg275
 z212:=Tryz.sizeOf275
 v212:=Tryz.zeroValue275
 t213:=Tryz.underlying276
 a213:=Tryz.isAgg276
 z213:=Tryz.sizeOf276
 t232:=Tryz.underlying319
 a232:=Tryz.isAgg319
 z232:=Tryz.sizeOf319
 v232:=Tryz.zeroValue319
 t233:=Tryz.underlying320
 a233:=Tryz.isAgg320
 z233:=Tryz.sizeOf320
 v233:=Tryz.zeroValue320
 g15:=by kernel_rfl
 g16:=by kernel_rfl
 g17:=by kernel_rfl
 g18:=by kernel_rfl
 g19:=by kernel_rfl
 t80:=Tryz.underlying285
 a80:=Tryz.isAgg285
 z80:=Tryz.sizeOf285
 v80:=Tryz.zeroValue285
 i0:=by kernel_rfl
 i2:=by kernel_rfl
 i3:=by kernel_rfl
 i4:=by kernel_rfl
 i5:=by kernel_rfl
 i9:=by kernel_rfl
 i20:=by kernel_rfl
 i21:=by kernel_rfl
 i37:=by kernel_rfl
 i46:=by kernel_rfl
 i51:=by kernel_rfl
 i53:=by kernel_rfl
 i75:=by kernel_rfl
 i80:=by kernel_rfl
 i85:=by kernel_rfl
 i127:=by kernel_rfl
 i143:=by kernel_rfl
 i145:=by kernel_rfl
 i167:=by kernel_rfl
 i168:=by kernel_rfl
 i171:=by kernel_rfl
 i173:=by kernel_rfl
 i175:=by kernel_rfl
 i210:=by kernel_rfl
 i212:=by kernel_rfl
 i232:=by kernel_rfl
 i233:=by kernel_rfl
 m15:=by kernel_rfl
 m16:=by kernel_rfl
 m17:=by kernel_rfl
 m18:=by kernel_rfl
 m19:=by kernel_rfl
 c0:=by kernel_rfl
 c2:=by kernel_rfl
 c3:=by kernel_rfl
 c4:=by kernel_rfl
 c5:=by kernel_rfl
 c9:=by kernel_rfl
 c20:=by kernel_rfl
 c21:=by kernel_rfl
 c37:=by kernel_rfl
 c46:=by kernel_rfl
 c51:=by kernel_rfl
 c53:=by kernel_rfl
 c75:=by kernel_rfl
 c80:=by kernel_rfl
 c85:=by kernel_rfl
 c127:=by kernel_rfl
 c143:=by kernel_rfl
 c145:=by kernel_rfl
 c167:=by kernel_rfl
 c168:=by kernel_rfl
 c171:=by kernel_rfl
 c173:=by kernel_rfl
 c175:=by kernel_rfl
 c210:=by kernel_rfl
 c212:=by kernel_rfl
 c213:=by kernel_rfl
 c232:=by kernel_rfl
 c233:=by kernel_rfl }
open Go.RowKit in
theorem Tryz.strconv_ParseInt_10_at64_ok (s:ByteArray) (hmax:s.size<=9223372036854775806) (v:Int) (h:Lib.parseIntB 64 s.data.toList=.ok v) (w:World) :
  Calls Tryz.prog 213 #[.string s,.int .i64 10,.int .i64 64] w λe w'=>e=.returned (.tuple #[.int .i64 v,.nilIface])/\(w'=w∨∃ t,w'=Lib.bytesWorld w 5 t):=Any.strconv_ParseInt_10_at64_ok Tryz.aQ9 s hmax v h w
open Go.RowKit in
theorem Tryz.strconv_ParseInt_10_at64_syntax (s:ByteArray) (hlim:s.size<=281474976710656) (h:Lib.parseIntB 64 s.data.toList=Go.Lib.NumEnd.syntax) (ev:Value) (w:World) (hv:w.cell? ⟨6,0,none⟩=some ev) (hev:ev=.nilIface∨∃ te pe,ev=.iface te pe) :
  Calls Tryz.prog 213 #[.string s,.int .i64 10,.int .i64 64] w λe w'=>∃ N,e=.returned (.tuple #[.int .i64 (0),.iface 307 (.pointer (some ⟨N,0,none⟩))])/\w.heap.size<=N/\w'.heap[N]?=some (.cells #[.string ⟨#[80,97,114,115,101,73,110,116]⟩,.string s,ev] 324 (0,0))/\Below w.heap.size w w':=Any.strconv_ParseInt_10_at64_syntax Tryz.aQ9 s hlim h ev w hv hev
open Go.RowKit in
theorem Tryz.strconv_ParseInt_10_at64_range (s:ByteArray) (hlim:s.size<=281474976710656) (h:Lib.parseIntB 64 s.data.toList=.range) (ev:Value) (w:World) (hv:w.cell? ⟨7,0,none⟩=some ev) (hev:ev=.nilIface∨∃ te pe,ev=.iface te pe) :
  Calls Tryz.prog 213 #[.string s,.int .i64 10,.int .i64 64] w λe w'=>∃ N,e=.returned (.tuple #[.int .i64 (Lib.intSat 64 s.data.toList),.iface 307 (.pointer (some ⟨N,0,none⟩))])/\w.heap.size<=N/\w'.heap[N]?=some (.cells #[.string ⟨#[80,97,114,115,101,73,110,116]⟩,.string s,ev] 324 (0,0))/\Below w.heap.size w w':=Any.strconv_ParseInt_10_at64_range Tryz.aQ9 s hlim h ev w hv hev
end Go.Proofs
namespace Go.Hl
open Go.Proofs
set_option linter.unusedVariables false
set_option linter.unusedSimpArgs false
theorem aRA {E:Env} {h:Heap} {w:World} (x:LaidIn E h w):∃ m,w.cell? ⟨0,0,none⟩=some (.int .i64 m):=by
 obtain⟨cs,h1,m,h2⟩:=x.cell (g:=0) (Q:=λcs=>∃ m,cs[0]?=some (.int .i64 m)) (by unfold oO;exact al6 _ (al6 _ (al6 _ al5)))
 exact⟨m,(h1 0).trans h2⟩
theorem bG1 {E:Env} {h:Heap} {w:World} (x:LaidIn E h w):∃ v,w.cell? ⟨6,0,none⟩=some v/\(v=.nilIface∨∃ te pe,v=.iface te pe):=by
 obtain⟨cs,h1,v,h2,h3⟩:=x.cell (g:=6) (Q:=λcs=>∃ v,cs[0]?=some v/\(v=.nilIface∨∃ te pe,v=.iface te pe)) (by unfold oO;exact al6 _ al5)
 exact⟨v,(h1 0).trans h2,h3⟩
theorem bG2 {E:Env} {h:Heap} {w:World} (x:LaidIn E h w):∃ v,w.cell? ⟨7,0,none⟩=some v/\(v=.nilIface∨∃ te pe,v=.iface te pe):=by
 obtain⟨cs,h1,v,h2,h3⟩:=x.cell (g:=7) (Q:=λcs=>∃ v,cs[0]?=some v/\(v=.nilIface∨∃ te pe,v=.iface te pe)) (by unfold oO;exact al6 _ (al6 _ al5))
 exact⟨v,(h1 0).trans h2,h3⟩
theorem a1Q (B:Nat) (w:World) (n:Nat):Go.RowKit.Below B w (w.drewN n):=⟨rfl,rfl,rfl,fL _,λ_ _=>rfl⟩
theorem bAF (a sep:List UInt8):(Go.Lib.cut a sep).1.length<=a.length/\(Go.Lib.cut a sep).2.1.length<=a.length:=by
 unfold Go.Lib.cut
 split
 ·simp only[nX,aLG];omega
 ·simp
theorem eT.iF {E:Env} {h:Heap} {w:World} {xs:List aC} {vs:List Value} (r:eT E h w xs vs):fY E h w (.iF xs) (.tuple vs.toArray):=.iF _ _ r.length r.get
@[go_sem] def b52:List Nat:=[0,1,4,5,6]
theorem bZE (a sep:List UInt8) (ha:a.length<4294967281):dQ Tryz.prog 77 [.str a,.str sep] (.iF [.str (Go.Lib.cut a sep).1,.str (Go.Lib.cut a sep).2.1,.bool (Go.Lib.cut a sep).2.2]) :=
 aL2 aBB λE h w vs R rl=>by
  match vs,rl with
  | [v0,v1],rl =>
   obtain⟨r0,r1,_⟩:=rl
   obtain⟨rfl,h0⟩:=mZ r0
   obtain⟨rfl,h1⟩:=mZ r1
   obtain⟨m,hm⟩:=aRA R.laid
   have hl:=bAF a sep
   refine(Go.Proofs.Tryz.strings_Cut ⟨a.toArray⟩ ⟨sep.toArray⟩ m w (by simpa[ByteArray.size]using ha) hm).mono λe w' ⟨he,n,hw⟩=>⟨_,he,λE' h' w'=>?_,hw▸a1Q _ w n⟩
   exact eT.iF (xs:=[_,_,_]) (vs:=[_,_,_]) ⟨.str _ a0D,.str _ a0D,.bool _,trivial⟩
def a1R (s:List UInt8):aC:=match Go.Lib.parseIntB 64 s with | .ok _=>.lS|_=>.iface 307 .any
@[go_sem] def b4F:List Nat:=[0,1,2,6,7,8,17]
theorem bG3 (s:List UInt8) (hs:s.length<=281474976710656):dQ Tryz.prog 213 [.str s,I 10,I 64] (.iF [I (rdN s),a1R s]) :=
 aL2 aBB λE h w vs R rl=>by
  match vs,rl with
  | [v0,v1,v2],rl =>
   obtain⟨r0,r1,r2,_⟩:=rl
   obtain⟨rfl,h0⟩:=mZ r0
   rw[j4 r1,j4 r2]
   have hz:(⟨s.toArray⟩:ByteArray).size<=281474976710656:=by simpa[ByteArray.size]using hs
   unfold rdN a1R
   cases e:Go.Lib.parseIntB 64 s with
   |ok v =>
    refine(Go.Proofs.Tryz.strconv_ParseInt_10_at64_ok ⟨s.toArray⟩ aA v e w).mono λe w' ⟨he,hw⟩=>⟨_,he,λE' h' w'=>eT.iF (xs:=[_,_]) (vs:=[_,_]) ⟨.int _ _,.lS,trivial⟩,?_⟩
    rcases hw with rfl|⟨t,rfl⟩
    ·exact Go.RowKit.Below.refl _ _
    ·exact⟨rfl,rfl,rfl,by rw[Go.Lib.bytesWorld_size];omega,λj hj=>Go.Lib.bytesWorld_at_old w _ t j hj⟩
   |range =>
    obtain⟨ev,hv,hev⟩:=bG2 R.laid
    exact(Go.Proofs.Tryz.strconv_ParseInt_10_at64_range ⟨s.toArray⟩ hz e _ w hv hev).mono λe w' ⟨N,he,_,_,hw⟩=>⟨_,he,λE' h' w'=>eT.iF (xs:=[_,_]) (vs:=[_,_]) ⟨.int _ _,.iface _ _ _ (.any _),trivial⟩,hw⟩
   | _ =>
    obtain⟨ev,hv,hev⟩:=bG1 R.laid
    exact(Go.Proofs.Tryz.strconv_ParseInt_10_at64_syntax ⟨s.toArray⟩ hz e _ w hv hev).mono λe w' ⟨N,he,_,_,hw⟩=>⟨_,he,λE' h' w'=>eT.iF (xs:=[_,_]) (vs:=[_,_]) ⟨.int _ _,.iface _ _ _ (.any _),trivial⟩,hw⟩
theorem a1S {P:Program} {f:FuncId} {args:List aC} {l:List (List UInt8)} (hc:jG P f=true) (hlen:l.length<=maxLen) (hs:∀ s∈l,s.length<=maxLen)
  (H:∀ E h w vs,Rel E h w->eT E h w args vs->Calls P f vs.toArray w λe w'=>∃ t,e=.returned (.slice (some ⟨w.heap.size,0,none⟩) l.length l.length)/\w'=w.alloc (.cells (l.map λs=>Value.string ⟨s.toArray⟩).toArray t)):dQ P f args (cI 1 (λs=>[.str s]) l):=λh =>
 ⟨hc,λE w vs R rl=>(H E h w vs R rl).mono λe w' q=>by
  obtain⟨t,rfl,rfl⟩:=q
  have bel:Go.RowKit.Below w.heap.size w (w.alloc (.cells (l.map λs=>Value.string ⟨s.toArray⟩).toArray t)):=(Go.RowKit.Below.refl _ w).alloc (fL _) _
  have hb:(w.alloc (.cells (l.map λs=>Value.string ⟨s.toArray⟩).toArray t)).heap[w.heap.size]?=some (.cells (l.map λs=>Value.string ⟨s.toArray⟩).toArray t):=by
   show(w.heap.push _)[w.heap.size]?=_
   simp
  refine⟨_,h,E,⟨rfl,rfl⟩,aQ7 bel,aU3 R bel,?_⟩
  have hat:∀ (i j:Nat) (x:aC),kE (l.map λs=>[aC.str s]) i j=some x->∃ s,l[i]?=some s/\j=0/\x=.str s:=λi j x hx=>by
   obtain⟨e,he,hj⟩:=mY hx
   rw[rM]at he
   obtain⟨s,hs,rfl⟩:=xD.1 he
   cases j with
   |zero=>exact⟨s,hs,rfl,(dY hj).symm⟩
   |succ j=>simp at hj
  have:=fY.sl (E:=E) (h:=h) (w:=w.alloc (.cells (l.map λs=>Value.string ⟨s.toArray⟩).toArray t)) 1 (l.map λs=>[aC.str s]) false w.heap.size 0 l.length (λi _=>((l.map λs=>Value.string ⟨s.toArray⟩)[i]?).getD .nilFunc) ⟨by show _<(w.heap.push _).size;simp,λn o hn ho hf=>cN _ (R.lt n o _ hn ho hf)⟩ aS hlen (λq=>by cases q) (λe he=>by obtain⟨s,_,rfl⟩:=vZ.1 he;rfl)
   (λi j x hx=>by
    obtain⟨s,h1,rfl,rfl⟩:=hat i j x hx
    simp only[World.cell?,hb]
    simp[h1])
   (λi j x hx=>by
    obtain⟨s,h1,rfl,rfl⟩:=hat i j x hx
    simp[h1,Value.oneCell'])
   (λi j x hx=>by
    obtain⟨s,h1,rfl,rfl⟩:=hat i j x hx
    simp only[rM,h1,aOA,a39]
    exact .str s (hs s (rS h1)))
  rw[k5]at this
  exact this⟩
theorem aOU (c:UInt8) (a:List UInt8):(mH c a).length<=a.length+1/\∀ s∈mH c a,s.length<=a.length:=by
 induction hn:a.length using Nat.strongRecOn generalizing a with
 | _ n ih =>
  rcases pD c a with h|⟨p,r,h1,rfl⟩
  ·rw[tV a h];exact⟨by simp,λs hs=>by rw[rG.1 hs];omega⟩
  ·rw[aCE p r h1]
   obtain⟨h2,h3⟩:=ih r.length (by rw[←hn];simp;omega) r rfl
   simp only[rL,al2]at hn
   refine⟨by simp only[al2];omega,λs hs=>?_⟩
   rcases p7.1 hs with rfl|hs
   ·omega
   ·have:=h3 s hs;omega
theorem aNW (a:List UInt8) (c:UInt8):(Go.Lib.splitB ⟨[c].toArray⟩ 0 (Go.Lib.countB ⟨a.toArray⟩ ⟨[c].toArray⟩) ⟨a.toArray⟩).map Value.string=(mH c a).map λs=>Value.string ⟨s.toArray⟩:=by
 have h1:=Go.Lib.splitB_data ⟨[c].toArray⟩ 0 (Go.Lib.countB ⟨a.toArray⟩ ⟨[c].toArray⟩) ⟨a.toArray⟩
 have h2:Go.Lib.splitK [c] 0 (Go.Lib.countB ⟨a.toArray⟩ ⟨[c].toArray⟩) a=mH c a:=bCO c a
 rw[←h2,←h1,aZO]
 refine bFB λb _=>?_
 simp
theorem bS4 (a:List UInt8) (c:UInt8) (ha:a.length<4294967281):dQ Tryz.prog 174 [.str a,.str [c]] (cI 1 (λs=>[.str s]) (mH c a)):=by
 have hl:=aOU c a
 refine a1S aBB a0D (λs hs=>by have:=hl.2 s hs;simp only[maxLen];omega) λE h w vs R rl=>?_
 match vs,rl with
 | [v0,v1],rl =>
  obtain⟨r0,r1,_⟩:=rl
  obtain⟨rfl,h0⟩:=mZ r0
  obtain⟨rfl,h1⟩:=mZ r1
  obtain⟨m,hm⟩:=aRA R.laid
  have hn:Go.Lib.countB ⟨a.toArray⟩ ⟨[c].toArray⟩+1=(mH c a).length:=by
   have h2:=Go.Lib.splitB_all ⟨[c].toArray⟩ aUO 0 _ ⟨a.toArray⟩ rfl
   have h3:=congrArg List.length (aNW a c)
   rw[k5,k5]at h3
   rw[←h3];exact h2.symm
  refine(Go.Proofs.Tryz.strings_Split ⟨a.toArray⟩ ⟨[c].toArray⟩ m w (by simpa[ByteArray.size]using ha) hm aUO).mono λe w' ⟨he,hw⟩=>⟨9,?_,?_⟩
  ·rw[he,hn]
  ·rw[hw,aNW]
theorem a1T {c:UInt8} {s:List UInt8} {f i:Nat} (hf:f<=i) (hi:s[i]?=some c) (hn:c∉(s.drop f).take (i-f)):mH c (s.drop f)=(s.drop f).take (i-f)::mH c (s.drop (i+1)):=by
 have h1:s.drop f=(s.drop f).take (i-f)++c::s.drop (i+1):=by
  have h2:=(aPV (i-f) (s.drop f)).symm
  rw[aM3,show f+(i-f)=i by omega]at h2
  have h3:i<s.length:=(mU.1 hi).1
  rw[aZR h3]at h2
  rw[b6 h3]at hi
  rw[dY hi]at h2
  exact h2
 exact(congrArg (mH c) h1).trans (aCE _ _ hn)
theorem aHN {c:UInt8} {s:List UInt8} {f i:Nat} {x:UInt8} (hf:f<=i) (hi:s[i]?=some x) (hx:¬x=c) (hn:c∉(s.drop f).take (i-f)):c∉(s.drop f).take (i+1-f):=by
 rw[show i+1-f=(i-f)+1 by omega,List.take_add_one]
 rw[aPR,show f+(i-f)=i by omega,hi]
 simp only[pH,not_or]
 exact⟨hn,by simp only[Option.toList_some,rG];exact λq=>hx q.symm⟩
set_option maxRecDepth 100000
theorem aKA {α:Type} {c:α->aC} {l:List α} {sz n len:Nat} {h h':Heap} (w:aC->aC) (hn:h n=none) (hl:(bT h n (.row sz ((l.map λx=>[c x]).map (List.map .v)))).le h') (e:len=l.length) :
  ∃ r1 g l1,Shift (w (.os n sz 0 len)) h' r1 g/\QS (OS (oP c) sz l) w r1 l1/\eW h l1 g:=by
 subst e
 refine⟨w (OV.sl n sz (l.map λx=>[.v (c x)])).val,bT h n (.row sz ((l.map λx=>[c x]).map (List.map .v))),_,?_,⟨_,OS.mk (sE l),rfl,rfl⟩,?_⟩
 ·rw[OV.jX];exact Shift.of (Sub.refl _) hl
 ·rw[OV.lM,wT,tH];exact eW.one hn
theorem wX {α:Type} {c:α->aC} {l:List α} {sz:Nat} {h h':Heap} {x:aC} (w:aC->aC) (hw:bS2 w) (hx:Sub x (.sl sz [] true)) (hl:h.le h') (e:l=[]) :
  ∃ r1 g l1,Shift (w x) h' r1 g/\QS (OS (oP c) sz l) w r1 l1/\eW h l1 g:=by
 subst e
 refine⟨w (OV.nil sz).val,h,_,Shift.of (hw _ _ hx) hl,⟨_,OS.nil,rfl,rfl⟩,?_⟩
 rw[OV.lY];exact eW.nil h
@[go_sem] def bAG:List Nat:=[0,1,4,5,6,7,12,19]
@[go_sem] def bP5:List Nat:=[8,25,33]
theorem bDJ (s:List UInt8) (c:UInt8) (hs:s.length<=1048600):tU Tryz.prog 116 [.str s,.int .u8 c.toNat] (QS (OS (oP .str) 1 (mH c s))):=by
 refine x9 35 bAG bP5 b9 Tryz.func116 λh=>?_
 simp -dsimp -implicitDefEqProofs only[go_sem,↓reduceIte,Tryz.f116]
 repeat'(with_reducible first|intro _|refine And.intro ?_ ?_)
 all_goals try(first|omega|decide)
 refine cY bAG bP5 b9 (λx:Nat×Nat×List (List UInt8)×Option Nat=>[(0,.str s),(1,.int .u8 c.toNat),(5,mX 1 x.2.2.1.length x.2.2.2),(6,I x.2.1),(7,I x.1)]) (λx=>c7 h (.row 1 ((x.2.2.1.map λn=>[.str n]).map (List.map .v))) x.2.2.2) (λx=>(x.2.1<=x.1/\x.1<=s.length)/\k7 h x.2.2.1 x.2.2.2/\mH c s=x.2.2.1++mH c (s.drop x.2.1)/\c∉(s.drop x.2.1).take (x.1-x.2.1)) (λx=>s.length-x.1) (0,0,[],none) a86 ?_
 rintro⟨k,f,out,o⟩ ⟨⟨hf,hk⟩,ho,he,hn⟩
 simp only at hf hk ho he hn ⊢
 have hol:out.length<=s.length:=by
  have h1:=(aOU c s).1
  have h2:=congrArg List.length he
  have h3:=bR0.2 (aG7 c (s.drop f))
  rw[rL]at h2;omega
 rcases cP k s.length with hlt|hge
 ·have ea:s[k]?=some s[k]:=b6 hlt
  have hc:s[k].toNat=c.toNat->s[k]?=some c:=λq=>by rw[ea];congr 1;exact aZS q
  have hd:¬s[k].toNat=c.toNat->¬s[k]=c:=λq e=>q fD
  have hy:∀ q:s[k].toNat=c.toNat,mH c s=(out++[List.drop f (List.take k s)])++mH c (s.drop (k+1)):=λq=>by
   rw[he,a1T hf (hc q) hn,qT,bE4];rfl
  cases o with
  |none =>
   rw[cZ]at ho
   subst ho
   simp -dsimp -implicitDefEqProofs only[go_sem,↓reduceIte,Tryz.f116,dD,aN,ea]
   intro _
   refine⟨λ_=>⟨λq=>⟨hf,hk,by decide,by decide,by decide,λn hn2=>⟨(k+1,k+1,[List.drop f (List.take k s)],some n),?_⟩⟩,λq=>⟨(k+1,f,[],none),?_⟩⟩,λq=>absurd hlt q⟩
   ·simp only[aL,bZ,b8]
    exact⟨⟨rfl,IntWalk.i64_in _ aA,IntWalk.i64_in _ aA⟩,Heap.le_refl _,⟨⟨fL _,hlt⟩,hn2,hy q,by simp⟩,by omega⟩
   ·simp only[aN,dD,cZ]
    exact⟨⟨trivial,trivial,IntWalk.i64_in _ aA⟩,Heap.le_refl _,⟨⟨by omega,hlt⟩,trivial,he,aHN hf ea (hd q) hn⟩,by omega⟩
  |some n =>
   rw[b8]at ho
   simp -dsimp -implicitDefEqProofs only[go_sem,↓reduceIte,Tryz.f116,bZ,aL,ea]
   intro _
   refine⟨λ_=>⟨λq=>⟨hf,hk,by decide,by decide,by decide,fL _,by omega,by omega,λb hb=>⟨(k+1,k+1,out++[List.drop f (List.take k s)],some b),?_⟩⟩,λq=>⟨(k+1,f,out,some n),?_⟩⟩,λq=>absurd hlt q⟩
   ·simp only[aL,bZ,b8]
    refine⟨⟨by rw[rL];rfl,IntWalk.i64_in _ aA,IntWalk.i64_in _ aA⟩,?_,⟨⟨fL _,hlt⟩,hb.2,hy q,by simp⟩,by omega⟩
    rw[iX];exact nP ho
   ·simp only[aL,bZ,b8]
    exact⟨⟨trivial,trivial,IntWalk.i64_in _ aA⟩,Heap.le_refl _,⟨⟨by omega,hlt⟩,ho,he,aHN hf ea (hd q) hn⟩,by omega⟩
 ·have hk':k=s.length:=by omega
  subst hk'
  have hy:mH c s=out++[List.drop f (List.take s.length s)]:=by
   rw[he,eL]
   rw[←aLG,eL]at hn
   rw[tV _ hn]
  cases o with
  |none =>
   rw[cZ]at ho
   subst ho
   simp -dsimp -implicitDefEqProofs only[go_sem,↓reduceIte,Tryz.f116,cN,dD,aN]
   intro _
   refine⟨hf,fL _,by decide,by decide,by decide,λn hn2=>?_⟩
   rw[hy]
   exact aOR (l:=[List.drop f (List.take s.length s)]) hn2
  |some n =>
   rw[b8]at ho
   simp -dsimp -implicitDefEqProofs only[go_sem,↓reduceIte,Tryz.f116,cN,bZ,aL]
   intro _
   refine⟨hf,fL _,by decide,by decide,by decide,fL _,by omega,by omega,λb hb=>?_⟩
   rw[hy,iX]
   exact aKA (λx=>x) hb.2 (nP ho) aS
theorem bG4 (s:List UInt8) (c:UInt8) (hs:s.length<=1048600):dQ Tryz.prog 116 [.str s,.int .u8 c.toNat] (cI 1 (λs=>[.str s]) (mH c s)):=QS.eA (bDJ s c hs) λy hy=>OS.u3 (c:=λn=>[.str n]) (λ_ _ q=>zF q) hy
theorem aKB (n:Int) (h0:-9223372036854775808<=n) (h1:n<=9223372036854775807):dQ Tryz.prog 80 [I n] (.str (Go.Lib.itoa n)):=by
 refine dI 5 aL3 cG b9 Tryz.func80 λh=>?_
 simp -dsimp -implicitDefEqProofs only[go_sem,↓reduceIte,Tryz.f80]
 first|refine aH.mk (tK n h0 h1) ?_|refine aE.mk (tK n h0 h1) ?_|refine aH.b7 (tK n h0 h1) ?_|refine aE.mk (bX.eA (tK n h0 h1)) ?_
 simp -dsimp -implicitDefEqProofs only[go_sem,↓reduceIte,Tryz.f80]
theorem aW3 {s:List UInt8} {v:Int} (h:Go.Lib.parseIntB 64 s=.ok v):-9223372036854775808<=v/\v<=9223372036854775807:=by
 unfold Go.Lib.parseIntB at h
 split at h
 ·cases h
 ·simp only at h
  split at h
  ·cases h
  ·cases h
  ·rename_i u hu
   split at h
   ·cases h
   ·split at h
    ·cases h
    ·rename_i h1 h2
     have:=Go.Lib.NumEnd.ok.inj h
     subst this
     simp only[Nat.reducePow,Nat.reduceSub]at h1 h2
     split
     ·have:u<=9223372036854775808:=by
       rename_i q
       exact Nat.le_of_not_lt λz=>h2 ⟨q,z⟩
      omega
     ·have:u<9223372036854775808:=by
       rename_i q
       exact Nat.lt_of_not_le λz=>h1 ⟨q,z⟩
      omega
theorem a4Y {hi:Int} (hhi:hi<=9223372036854775807) {s:List UInt8} (h:rK hi s):Go.Lib.parseIntB 64 s=.ok (rdN s):=by
 have h1:=h.2.2
 have:=aM0 h.1 (by have:=h.2.1;omega)
 rw[←h1]at this
 exact this
theorem aW4:aBQ Tryz.prog 244=true:=by kernel_rfl
@[go_sem] def aW5:List Nat:=[0,1,2,6,7,8,9]
theorem a1U (s:List UInt8) (hi:Int) (hs:s.length<=1048600) (hhi:hi<=1000000001):dQ Tryz.prog 175 [.str s,I 0,I hi] (.iF [I (rdN s),.bool (decide (rK hi s))]):=by
 have hp:=bG3 s aA
 have hr:=a4Y (hi:=hi) (s:=s) aA
 cases e:Go.Lib.parseIntB 64 s with
 |ok v =>
  have hv:=aW3 e
  have hn:rdN s=v:=by rw[rdN,e]
  have he:a1R s=.lS:=by rw[a1R,e]
  have hl:=wF hv.1 hv.2
  rw[he,hn]at hp
  rw[hn]
  refine dI 30 aW5 cG b9 Tryz.func175 λh=>?_
  simp -dsimp -implicitDefEqProofs only[go_sem,↓reduceIte,Tryz.f175]
  first|refine aH.mk (hp) ?_|refine aE.mk (hp) ?_|refine aH.b7 (hp) ?_|refine aE.mk (bX.eA (hp)) ?_
  simp -dsimp -implicitDefEqProofs only[go_sem,↓reduceIte,Tryz.f175]
  simp -dsimp -implicitDefEqProofs only[go_sem,↓reduceIte,Tryz.f175,aW4]
  first|refine aH.mk (aKB v hv.1 hv.2) ?_|refine aE.mk (aKB v hv.1 hv.2) ?_|refine aH.b7 (aKB v hv.1 hv.2) ?_|refine aE.mk (bX.eA (aKB v hv.1 hv.2)) ?_
  simp -dsimp -implicitDefEqProofs only[go_sem,↓reduceIte,Tryz.f175]
  have hq:rK hi s↔(Go.Lib.itoa v=s/\(0<=v/\v<=hi)):=by rw[rK,hn];exact⟨λq=>⟨q.2.2.symm,q.1,q.2.1⟩,λq=>⟨q.2.1,q.2.2,q.1.symm⟩⟩
  refine⟨λq=>?_,λq=>?_⟩
  ·first|refine aH.mk (within v 0 hi) ?_|refine aE.mk (within v 0 hi) ?_|refine aH.b7 (within v 0 hi) ?_|refine aE.mk (bX.eA (within v 0 hi)) ?_
   simp -dsimp -implicitDefEqProofs only[go_sem,↓reduceIte,Tryz.f175]
   exact congrArg (λb=>aC.iF [I v,.bool b]) (decide_eq_decide.2 ⟨λz=>hq.2 ⟨q,z⟩,λz=>(hq.1 z).2⟩)
  ·exact congrArg (λb=>aC.iF [I v,.bool b]) (decide_eq_false λz=>q (hq.1 z).1).symm
 |range =>
  have hn:¬rK hi s:=λq=>by rw[hr q]at e;cases e
  have he:a1R s=.iface 307 .any:=by rw[a1R,e]
  rw[he]at hp
  rw[decide_eq_false hn]
  refine dI 30 aW5 cG b9 Tryz.func175 λh=>?_
  simp -dsimp -implicitDefEqProofs only[go_sem,↓reduceIte,Tryz.f175]
  first|refine aH.mk (hp) ?_|refine aE.mk (hp) ?_|refine aH.b7 (hp) ?_|refine aE.mk (bX.eA (hp)) ?_
  simp -dsimp -implicitDefEqProofs only[go_sem,↓reduceIte,Tryz.f175]
  simp -dsimp -implicitDefEqProofs only[go_sem,↓reduceIte,Tryz.f175,aW4]
 | _ =>
  have hn:¬rK hi s:=λq=>by rw[hr q]at e;cases e
  have he:a1R s=.iface 307 .any:=by rw[a1R,e]
  rw[he]at hp
  rw[decide_eq_false hn]
  refine dI 30 aW5 cG b9 Tryz.func175 λh=>?_
  simp -dsimp -implicitDefEqProofs only[go_sem,↓reduceIte,Tryz.f175]
  first|refine aH.mk (hp) ?_|refine aE.mk (hp) ?_|refine aH.b7 (hp) ?_|refine aE.mk (bX.eA (hp)) ?_
  simp -dsimp -implicitDefEqProofs only[go_sem,↓reduceIte,Tryz.f175]
  simp -dsimp -implicitDefEqProofs only[go_sem,↓reduceIte,Tryz.f175,aW4]
theorem bDK {most:Nat} {hi:Int} {text:List UInt8} {l:List Int} (h:rF most hi text=some l):l.length<=most:=by
 rw[rF]at h
 split at h
 ·rw[←dY h];simp
 ·split at h
  ·rw[p6]at h
   split at h
   ·rw[←dY h,k5];assumption
   ·cases h
  ·cases h
@[go_sem] def bAH:List Nat:=[0,1,2,3,4,10,11,12,14,15,16,19,23,24,25,26,43]
@[go_sem] def bP6:List Nat:=[17,46]
theorem bDL (text:List UInt8) (most:Nat) (hi:Int) (hs:text.length<=1048600) (hhi:hi<=1000000001) (hm:most<=1048600):tU Tryz.prog 131 [.str text,.str [32],I most,I 0,I hi] (QS (OS (oP I) 1 ((rF most hi text).getD [])) (λy=>.iF [y,.bool (rF most hi text).isSome])):=by
 have hsl:=aOU 32 text
 have hsp:=bS4 text 32 aA
 refine x9 50 bAH bP6 b9 Tryz.func131 λh=>?_
 simp -dsimp -implicitDefEqProofs only[go_sem,↓reduceIte,Tryz.f131]
 repeat'(with_reducible first|intro _|refine And.intro ?_ ?_)
 all_goals try(first|omega|decide)
 ·have h1:rF most hi text=some []:=by rw[rF,if_pos gB]
  rw[h1]
  exact wX (λy=>.iF [y,.bool true]) (kJ [] [_]) (Sub.refl _) (Heap.le_refl _) rfl
 ·rename_i hne
  first|refine aH.mk (hsp) ?_|refine aE.mk (hsp) ?_|refine aH.b7 (hsp) ?_|refine aE.mk (bX.eA (hsp)) ?_
  simp -dsimp -implicitDefEqProofs only[go_sem,↓reduceIte,Tryz.f131]
  repeat'(with_reducible first|intro _|refine And.intro ?_ ?_)
  refine cY bAH bP6 b9 (λx:Nat×Option Nat=>[(2,I most),(3,I 0),(4,I hi),(12,mX 1 x.1 x.2),(23,cI 1 (λs=>[.str s]) (mH 32 text)),(24,I (mH 32 text).length),(25,I x.1)]) (λx=>c7 h (.row 1 (((((mH 32 text).take x.1).map rdN).map λn=>[I n]).map (List.map .v))) x.2) (λx=>(x.1<=(mH 32 text).length/\x.1<=most)/\k7 h ((mH 32 text).take x.1) x.2/\∀ p∈(mH 32 text).take x.1,rK hi p) (λx=>(mH 32 text).length-x.1) (0,none) a86 ?_
  rintro⟨k,o⟩ ⟨⟨hk,hkm⟩,ho,hok⟩
  simp only at hk hkm ho hok ⊢
  rcases cP k (mH 32 text).length with hlt|hge
  ·have ea:(mH 32 text)[k]?=some (mH 32 text)[k]:=b6 hlt
   have hpl:=hsl.2 _ (dG hlt)
   have hrd:=a1U (mH 32 text)[k] hi aA hhi
   have hnone:¬(rK hi (mH 32 text)[k]/\¬k=most)->rF most hi text=none:=λq=>by
    rw[rF,if_neg hne]
    split
    ·rw[p6,if_neg]
     intro z
     exact q ⟨z _ (dG hlt),by omega⟩
    ·rfl
   have aW6:rK hi (mH 32 text)[k]->∀ p∈(mH 32 text).take (k+1),rK hi p:=λq p hp=>by
    rw[kP hlt]at hp
    rcases pH.1 hp with hp|hp
    ·exact hok p hp
    ·rw[rG.1 hp];exact q
   have hmap:((mH 32 text).take (k+1)).map rdN=((mH 32 text).take k).map rdN++[rdN (mH 32 text)[k]]:=by
    rw[kP hlt,tA];rfl
   cases o with
   |none =>
    simp -dsimp -implicitDefEqProofs only[go_sem,↓reduceIte,Tryz.f131,dD,aN,ea]
    refine⟨λ_=>⟨hlt,?_⟩,λq=>absurd hlt q⟩
    first|refine aH.mk (hrd) ?_|refine aE.mk (hrd) ?_|refine aH.b7 (hrd) ?_|refine aE.mk (bX.eA (hrd)) ?_
    simp -dsimp -implicitDefEqProofs only[go_sem,↓reduceIte,Tryz.f131]
    rw[cZ]at ho
    have hk0:k=0:=by
     have:=congrArg List.length ho
     rw[nX,al3]at this
     omega
    subst hk0
    refine⟨λhq=>⟨λh0=>?_,λh0=>⟨by decide,by decide,by decide,λn hn=>⟨(0+1,some n),?_⟩⟩⟩,λhq=>?_⟩
    ·rw[hnone λz=>z.2 aA]
     exact wX (λy=>.iF [y,.bool false]) (kJ [] [_]) (Sub.nil 1 true) (Heap.le_refl _) rfl
    ·simp only[aL,bZ,b8]
     rw[hmap,ho]
     exact⟨⟨trivial,rfl⟩,Heap.le_refl _,⟨⟨by omega,by omega⟩,hn,aW6 hq⟩,by omega⟩
    ·rw[hnone λz=>hq z.1]
     exact wX (λy=>.iF [y,.bool false]) (kJ [] [_]) (Sub.nil 1 true) (Heap.le_refl _) rfl
   |some n =>
    simp -dsimp -implicitDefEqProofs only[go_sem,↓reduceIte,Tryz.f131,bZ,aL,ea]
    refine⟨λ_=>⟨hlt,?_⟩,λq=>absurd hlt q⟩
    first|refine aH.mk (hrd) ?_|refine aE.mk (hrd) ?_|refine aH.b7 (hrd) ?_|refine aE.mk (bX.eA (hrd)) ?_
    simp -dsimp -implicitDefEqProofs only[go_sem,↓reduceIte,Tryz.f131]
    rw[b8]at ho
    have hle:h.le (bT h n (.row 1 (((((mH 32 text).take k).map rdN).map λn=>[I n]).map (List.map .v)))):=Heap.aW ho (Heap.le_refl _)
    refine⟨λhq _=>⟨λh0=>?_,λh0=>⟨by decide,by decide,by decide,by rw[nX];omega,by omega,by omega,λb hb=>⟨(k+1,some b),?_⟩⟩⟩,λhq=>?_⟩
    ·rw[hnone λz=>z.2 aA]
     exact wX (λy=>.iF [y,.bool false]) (kJ [] [_]) (Sub.nil 1 true) hle rfl
    ·simp only[aL,bZ,b8,hmap]
     refine⟨⟨trivial,IntWalk.i64_in _ aA⟩,?_,⟨⟨by omega,by omega⟩,hb.2,aW6 hq⟩,by omega⟩
     have hg:=iX I (((mH 32 text).take k).map rdN) (rdN (mH 32 text)[k])
     rw[k5,nX,aZT hk]at hg
     rw[hg];exact nP ho
    ·rw[hnone λz=>hq z.1]
     exact wX (λy=>.iF [y,.bool false]) (kJ [] [_]) (Sub.nil 1 true) hle rfl
  ·have hk':k=(mH 32 text).length:=by omega
   have hR:rF most hi text=some ((mH 32 text).map rdN):=by
    rw[rF,if_neg hne,if_pos aA,p6,if_pos]
    intro p hp
    rw[hk',eL]at hok
    exact hok p hp
   rw[hR]
   rw[hk']at ho ⊢
   rw[eL]at ho ⊢
   cases o with
   |none =>
    simp -dsimp -implicitDefEqProofs only[go_sem,↓reduceIte,Tryz.f131,dD,aN,cN]
    exact wX (λy=>.iF [y,.bool true]) (kJ [] [_]) (Sub.refl _) (Heap.le_refl _) (by rw[cZ]at ho;rw[ho];rfl)
   |some n =>
    simp -dsimp -implicitDefEqProofs only[go_sem,↓reduceIte,Tryz.f131,bZ,aL,cN]
    rw[b8]at ho
    exact aKA (λy=>.iF [y,.bool true]) ho (Heap.le_refl _) aS
theorem bG5 (text:List UInt8) (most:Nat) (hi:Int) (hs:text.length<=1048600) (hhi:hi<=1000000001) (hm:most<=1048600):dQ Tryz.prog 131 [.str text,.str [32],I most,I 0,I hi] (.iF [cI 1 (λn=>[I n]) ((rF most hi text).getD []),.bool (rF most hi text).isSome]) :=
 QS.bDG (w:=λy=>.iF [y,.bool (rF most hi text).isSome]) (bDL text most hi hs hhi hm) (λy hy=>OS.u3 (c:=λn=>[I n]) (λ_ _ q=>zF q) hy) (aJ6 [] [_])
theorem a4Z:∀ (l:List UInt8),(∀ c∈l,48<=c.toNat/\c.toNat<=57)->aBK l<10 ^ l.length:=by
 intro l
 induction hn:l.length using Nat.strongRecOn generalizing l with
 | _ n ih =>
  intro h
  rcases List.eq_nil_or_concat l with e|⟨l',c,e⟩
  ·subst e;subst hn;decide
  ·rw[List.concat_eq_append]at e
   subst e
   have hc:=h c aS
   have h2:=ih l'.length (by rw[←hn];simp) l' rfl λx hx=>h x (by simp[hx])
   rw[aF4,←hn,rL,yV,Nat.pow_succ]
   omega
theorem aW7 {s:List UInt8} (h:¬rK 999999999 s):aC.iF [I 0,.bool false]=.iF [I (if rK 999999999 s then rdN s else 0),.bool (decide (rK 999999999 s))]:=by rw[if_neg h,decide_eq_false h]
theorem bL0 {k:Nat} (h:k<=9):10 ^ k<=1000000000:=by
 have:=Nat.pow_le_pow_right (n:=10) dH h
 omega
@[go_sem] def aKC:List Nat:=[0,2,3,4,5,23,27,39]
theorem aD2 (s:List UInt8) (hs:s.length<=1048600):dQ Tryz.prog 121 [.str s] (.iF [I (if rK 999999999 s then rdN s else 0),.bool (decide (rK 999999999 s))]):=by
 have hiff:=bKD s
 cases s with
 |nil =>
  have hn:¬rK 999999999 []:=λq=>(hiff.2 q).1.1 rfl
  have:=aW7 hn
  refine dI 49 aKC cG b9 Tryz.func121 λh=>?_
  simp -dsimp -implicitDefEqProofs only[go_sem,↓reduceIte,Tryz.f121]
  simpa using this
 |cons c r =>
  have len:(c::r).length=r.length+1:=rfl
  have h0:(c::r)[Int.toNat 0]?=some c:=rfl
  have h00:(c::r)[0]?=some c:=rfl
  generalize (c::r)=s at *
  by_cases h9:9<s.length
  ·have hn:¬rK 999999999 s:=λq=>by have:=(hiff.2 q).2;omega
   have:=aW7 hn
   refine dI 49 aKC cG b9 Tryz.func121 λh=>?_
   simp -dsimp -implicitDefEqProofs only[go_sem,↓reduceIte,Tryz.f121]
   repeat'(with_reducible first|intro _|refine And.intro ?_ ?_)
   all_goals first|omega|exact this
  by_cases hz:1<s.length/\c=48
  ·have hn:¬rK 999999999 s:=λq=>(hiff.2 q).1.2.2 hz.1 (by rw[h00,hz.2])
   have:=aW7 hn
   have h1:=hz.1
   refine dI 49 aKC cG b9 Tryz.func121 λh=>?_
   simp -dsimp -implicitDefEqProofs only[go_sem,↓reduceIte,Tryz.f121,h0]
   repeat'(with_reducible first|intro _|refine And.intro ?_ ?_)
   all_goals first | omega | exact this | (exfalso; have e48 : c.toNat = 48 := by rw [hz.2]; rfl
                                           omega)
  ·refine dI 49 aKC cG b9 Tryz.func121 λh=>?_
   simp -dsimp -implicitDefEqProofs only[go_sem,↓reduceIte,Tryz.f121,h0]
   repeat'(with_reducible first|intro _|refine And.intro ?_ ?_)
   all_goals try omega
   all_goals try(exfalso;exact hz ⟨by omega,aZS (by show c.toNat=48;omega)⟩)
   all_goals
    refine cY aKC cG b9 (λk:Nat=>[(0,.str s),(4,I (aBK (s.take k))),(5,I k)]) (λ_=>h) (λk=>k<=s.length/\∀ x∈s.take k,48<=x.toNat/\x.toNat<=57) (λk=>s.length-k) 0 (by simp[dT,dB,Heap.le_refl,aBK]) ?_
   all_goals
    rintro k ⟨hk,hd⟩
    rcases cP k s.length with hlt|hge
    ·have ea:s[k]?=some s[k]:=b6 hlt
     have hb:=a4Z _ hd
     rw[nX,aZT hk]at hb
     have hp:=bL0 (k:=k) aA
     have hsn:aBK (s.take (k+1))=10*aBK (s.take k)+(s[k].toNat-48):=by rw[kP hlt,aF4]
     have hno:¬(48<=s[k].toNat/\s[k].toNat<=57)->¬rK 999999999 s:=λq z=>q ((hiff.2 z).1.2.1 _ (dG hlt))
     have hyes:48<=s[k].toNat/\s[k].toNat<=57->∀ x∈s.take (k+1),48<=x.toNat/\x.toNat<=57:=λq x hx=>by
      rw[kP hlt]at hx
      rcases pH.1 hx with hx|hx
      ·exact hd x hx
      ·rw[rG.1 hx];exact q
     simp -dsimp -implicitDefEqProofs only[go_sem,↓reduceIte,Tryz.f121,ea]
     repeat'(with_reducible first|intro _|refine And.intro ?_ ?_)
     all_goals try omega
     all_goals try(exact aW7 (hno aA))
     refine⟨k+1,⟨?_,IntWalk.i64_in _ aA⟩,⟨hlt,hyes aA⟩,by omega⟩
     rw[IntWalk.u8_in _ aA,IntWalk.i64_in ((s[k].toNat:Int)-48) aA,IntWalk.i64_in (10*(aBK (List.take k s):Int)) aA,IntWalk.i64_in _ aA,hsn]
     omega
    ·have hk':k=s.length:=by omega
     rw[hk',eL]at hd
     have hok:rK 999999999 s:=by
      refine hiff.1 ⟨⟨λe=>by rw[e]at len;simp at len,hd,λh1 q=>?_⟩,by omega⟩
      rw[h00]at q
      exact hz ⟨h1,dY q⟩
     rw[hk',eL]
     simp -dsimp -implicitDefEqProofs only[go_sem,↓reduceIte,Tryz.f121,cN,fP]
     repeat'(with_reducible first|intro _|refine And.intro ?_ ?_)
     rw[if_pos hok,decide_eq_true hok,bKE hok]
theorem bG6 {α:Type} (f:α->Bool):∀ l:List α,(∀ p∈l,f p=true)->l.takeWhile f=l
 | [],_=>rfl
 |a::l,h=>by rw[bFE,if_pos (h a aS),bG6 f l λp hp=>h p (by simp[hp])]
theorem bP7 {α:Type} (f:α->Bool):∀ (l:List α) (k:Nat) (x:α),l[k]?=some x->(∀ p∈l.take k,f p=true)->f x=false->l.takeWhile f=l.take k
 | [],k,x,h,_,_=>by simp at h
 |a::l,0,x,h,_,hx=>by
  simp at h;subst h
  rw[bFE,if_neg (by simp[hx])];rfl
 |a::l,k+1,x,h,hp,hx=>by
  rw[bFE,if_pos (hp a aS),a8K,bP7 f l k x (by simpa using h) (λp q=>hp p (by simp[q])) hx]
def aU8 (ps:List (List UInt8)):List Int:=(ps.takeWhile λp=>decide (rK 999999999 p)).map rdN
theorem aU9 {ps:List (List UInt8)} {l:List Int} (h:p6 999999999 ps=some l):aU8 ps=l:=by
 rw[p6]at h
 split at h
 ·rename_i hp
  rw[←dY h,aU8]
  congr 1
  exact bG6 _ _ λp hq=>decide_eq_true (hp p hq)
 ·cases h
@[go_sem] def bAI:List Nat:=[0,2,3,4,5,6,7,12,28]
@[go_sem] def bP8:List Nat:=[8,32]
theorem aOI (ps:List (List UInt8)) (t:Bool) (hl:ps.length<=1048600) (hs:∀ p∈ps,p.length<=1048600):tU Tryz.prog 117 [.sl 1 (ps.map λs=>[.str s]) t] (QS (OS (oP I) 1 (aU8 ps)) (λy=>.iF [y,.bool (p6 999999999 ps).isSome])):=by
 refine x9 35 bAI bP8 b9 Tryz.func117 λh=>?_
 simp -dsimp -implicitDefEqProofs only[go_sem,↓reduceIte,Tryz.f117]
 repeat'(with_reducible first|intro _|refine And.intro ?_ ?_)
 all_goals try(first|omega|decide)
 refine cY bAI bP8 b9 (λx:Nat×Option Nat=>[(0,.sl 1 (ps.map λs=>[.str s]) t),(4,mX 1 x.1 x.2),(5,I x.1)]) (λx=>c7 h (.row 1 ((((ps.take x.1).map rdN).map λn=>[I n]).map (List.map .v))) x.2) (λx=>x.1<=ps.length/\k7 h (ps.take x.1) x.2/\∀ p∈ps.take x.1,rK 999999999 p) (λx=>ps.length-x.1) (0,none) a86 ?_
 rintro⟨k,o⟩ ⟨hk,ho,hok⟩
 simp only at hk ho hok ⊢
 rcases cP k ps.length with hlt|hge
 ·have ea:ps[k]?=some ps[k]:=b6 hlt
  have hrd:=aD2 ps[k] (hs _ (dG hlt))
  by_cases hq:rK 999999999 ps[k]
  ·rw[if_pos hq,decide_eq_true hq]at hrd
   have h0:=hq.1
   have aW6:∀ p∈ps.take (k+1),rK 999999999 p:=λp hp=>by
    rw[kP hlt]at hp
    rcases pH.1 hp with hp|hp
    ·exact hok p hp
    ·rw[rG.1 hp];exact hq
   have hmap:(ps.take (k+1)).map rdN=(ps.take k).map rdN++[rdN ps[k]]:=by
    rw[kP hlt,tA];rfl
   cases o with
   |none =>
    rw[cZ]at ho
    have hk0:k=0:=by
     have:=congrArg List.length ho
     rw[nX,al3]at this
     omega
    subst hk0
    simp -dsimp -implicitDefEqProofs only[go_sem,↓reduceIte,Tryz.f117,dD,aN,ea]
    refine λ_=>⟨λ_=>⟨hlt,?_⟩,λq=>absurd hlt q⟩
    first|refine aH.mk (hrd) ?_|refine aE.mk (hrd) ?_|refine aH.b7 (hrd) ?_|refine aE.mk (bX.eA (hrd)) ?_
    simp -dsimp -implicitDefEqProofs only[go_sem,↓reduceIte,Tryz.f117]
    refine⟨λq=>absurd h0 aA,λ_=>⟨by decide,by decide,by decide,λn hn=>⟨(0+1,some n),?_⟩⟩⟩
    simp only[aL,bZ,b8]
    rw[hmap,ho]
    exact⟨⟨trivial,rfl⟩,Heap.le_refl _,⟨by omega,hn,aW6⟩,by omega⟩
   |some n =>
    rw[b8]at ho
    simp -dsimp -implicitDefEqProofs only[go_sem,↓reduceIte,Tryz.f117,bZ,aL,ea]
    refine λ_=>⟨λ_=>⟨hlt,?_⟩,λq=>absurd hlt q⟩
    first|refine aH.mk (hrd) ?_|refine aE.mk (hrd) ?_|refine aH.b7 (hrd) ?_|refine aE.mk (bX.eA (hrd)) ?_
    simp -dsimp -implicitDefEqProofs only[go_sem,↓reduceIte,Tryz.f117]
    refine⟨λq=>absurd h0 aA,λ_=>⟨by decide,by decide,by decide,by rw[nX];omega,by omega,by omega,λb hb=>⟨(k+1,some b),?_⟩⟩⟩
    simp only[aL,bZ,b8,hmap]
    refine⟨⟨trivial,IntWalk.i64_in _ aA⟩,?_,⟨by omega,hb.2,aW6⟩,by omega⟩
    have hg:=iX I ((ps.take k).map rdN) (rdN ps[k])
    rw[k5,nX,aZT hk]at hg
    rw[hg];exact nP ho
  ·rw[if_neg hq,decide_eq_false hq]at hrd
   have hnn:p6 999999999 ps=none:=by rw[p6,if_neg λz=>hq (z _ (dG hlt))]
   have hgl:aU8 ps=(ps.take k).map rdN:=by rw[aU8,bP7 _ ps k ps[k] ea (λp hp=>decide_eq_true (hok p hp)) (decide_eq_false hq)]
   rw[hnn,hgl]
   cases o with
   |none =>
    rw[cZ]at ho
    have hk0:k=0:=by
     have:=congrArg List.length ho
     rw[nX,al3]at this
     omega
    subst hk0
    simp -dsimp -implicitDefEqProofs only[go_sem,↓reduceIte,Tryz.f117,dD,aN,ea]
    refine λ_=>⟨λ_=>⟨hlt,?_⟩,λq=>absurd hlt q⟩
    first|refine aH.mk (hrd) ?_|refine aE.mk (hrd) ?_|refine aH.b7 (hrd) ?_|refine aE.mk (bX.eA (hrd)) ?_
    simp -dsimp -implicitDefEqProofs only[go_sem,↓reduceIte,Tryz.f117]
    exact wX (λy=>.iF [y,.bool false]) (kJ [] [_]) (Sub.refl _) (Heap.le_refl _) (by first|rfl|(rw[ho];rfl))
   |some n =>
    rw[b8]at ho
    simp -dsimp -implicitDefEqProofs only[go_sem,↓reduceIte,Tryz.f117,bZ,aL,ea]
    refine λ_=>⟨λ_=>⟨hlt,?_⟩,λq=>absurd hlt q⟩
    first|refine aH.mk (hrd) ?_|refine aE.mk (hrd) ?_|refine aH.b7 (hrd) ?_|refine aE.mk (bX.eA (hrd)) ?_
    simp -dsimp -implicitDefEqProofs only[go_sem,↓reduceIte,Tryz.f117]
    exact aKA (λy=>.iF [y,.bool false]) ho (Heap.le_refl _) (by simp[aZT hk])
 ·have hk':k=ps.length:=by omega
  rw[hk',eL]at hok ho
  have hnn:p6 999999999 ps=some (ps.map rdN):=by rw[p6,if_pos hok]
  rw[hnn,aU9 hnn,hk',eL]
  cases o with
  |none =>
   simp -dsimp -implicitDefEqProofs only[go_sem,↓reduceIte,Tryz.f117,dD,aN,cN]
   intro _
   exact wX (λy=>.iF [y,.bool true]) (kJ [] [_]) (Sub.refl _) (Heap.le_refl _) (by rw[cZ]at ho;rw[ho];rfl)
  |some n =>
   simp -dsimp -implicitDefEqProofs only[go_sem,↓reduceIte,Tryz.f117,bZ,aL,cN]
   rw[b8]at ho
   intro _
   exact aKA (λy=>.iF [y,.bool true]) ho (Heap.le_refl _) aS
theorem aRB (ps:List (List UInt8)) (t:Bool) (hl:ps.length<=1048600) (hs:∀ p∈ps,p.length<=1048600):dQ Tryz.prog 117 [.sl 1 (ps.map λs=>[.str s]) t] (.iF [cI 1 (λn=>[I n]) (aU8 ps),.bool (p6 999999999 ps).isSome]) :=
 QS.bDG (w:=λy=>.iF [y,.bool (p6 999999999 ps).isSome]) (aOI ps t hl hs) (λy hy=>OS.u3 (c:=λn=>[I n]) (λ_ _ q=>zF q) hy) (aJ6 [] [_])
end Go.Hl

/-
  Contracts of functions and laws of the layer over the walk.
-/
import Derived.WalkKit
import Derived.IntWalk
namespace Go.Hl
set_option linter.unusedVariables false
set_option linter.unusedSimpArgs false
set_option linter.defProp false
def qH:=@List.map_cons
def x4:=@List.map_nil
def k8:=@List.length_append
def al3:=@List.length_cons
def yZ:=@List.length_nil
def al5:=@Array.getElem?_toList
def al6:=@List.mem_of_getElem?
def al7:=@List.mem_append_right
def al8:=@List.mem_append_left
def j4:=@Nat.le_refl
def iG:=@List.length_map
def jQ:=@List.getElem?_eq_some_iff
def aD2:=@Nat.le_trans
def aUM:=@Nat.lt_of_lt_of_le
def aH0:=@Array.getElem?_eq_some_iff
def nI:=@List.getElem?_map
def eO:=@Option.some.inj
def aWR:=@List.getElem?_cons_zero
def aPK:=@Option.bind_some
def aWS:=@List.flatten_cons
def aWT:=@Nat.zero_mul
def aD3:=@Nat.zero_add
def tW:=@List.getElem?_append_left
def zE:=@List.getElem?_append_right
def sI:=@Nat.add_mul
def rC:=@List.mem_map
def nJ:=@Option.map_eq_some_iff
def a1C:=@List.getElem?_of_mem
def cP:=@List.getElem?_eq_getElem
def tK:=@List.all_eq_true
def eF:=@List.getElem_mem
def aJ0:=@Bool.false_eq_true
def aPL:=@Nat.add_zero
def aUN:=@List.getElem?_range
def aD4:=@Option.map_some
def aPM:=@Option.some.injEq
def aJ1:=@List.getElem?_take_of_lt
def aME:=@List.getElem?_drop
def aJ2:=@Prod.mk.inj
def aUO:=@List.getElem?_set_self
def a1D:=@List.getElem?_set_ne
def aUP:=@Nat.mul_le_mul_right
def aWU:=@Nat.succ_mul
def aJ3:=@Nat.mul_comm
def a1E:=@Nat.div_eq_of_lt
def sJ:=@Ne.symm
def a1F:=@List.mem_or_eq_of_mem_set
def aPN:=@Array.getElem?_setIfInBounds_ne
def lH:=@Bool.and_eq_true
def oH:=@List.mem_cons
def a1G:=@Nat.add_assoc
def aWV:=@Option.map_none
def a1H:=@Int.toNat_zero
def zF:=@Nat.sub_self
def aWW:=@List.drop_eq_nil_of_le
def aJ4:=@List.mem_of_mem_take
def aWX:=@List.mem_of_mem_drop
def a1I:=@List.replicate_succ
def aE7:=@Array.getElem?_eq_getElem
def aUQ:=@List.eq_of_mem_replicate
def rM:=@List.mem_cons_of_mem
def a1J:=@Nat.eq_zero_or_pos
def a1K:=@Nat.div_add_mod
def aE8:=@List.length_eq_zero_iff
def a1L:=@Option.isSome_none
def aJ5:=@List.length_pos_iff
def mS:=@List.mem_append
def a7H:=@Array.size_append
def a7I:=@List.size_toArray
def gM:=@Nat.zero_le
def aD5:=@Option.getD_some
def aWY:=@Array.getElem?_append_left
def aPO:=@List.getElem?_toArray
def aH1:=@List.append_assoc
def aPP:=@Bool.not_eq_true'
def aCB:=@Int.le_refl
def aUR:=@List.getElem?_eq_none
def aJ6:=@Bool.false_or
def u4:=@List.mem_cons_self
def aWZ:=@Bool.not_true
def aW0:=@List.any_eq_true
def a1M:=@List.contains_iff_mem
def aUS:=@List.mem_range
def aUT:=@List.map_congr_left
def aW1:=@Array.all_eq_true_iff_forall_mem
def aMF:=@Classical.byContradiction
def eC:=@List.nil_append
def aE9:=@List.cons_append
def fX:=@List.toList_toArray
def eV:=@List.append_nil
def tX:=@Int.toNat_natCast
def aUU:=@List.drop_zero
def a7J:=@List.take_succ_cons
def qI:=@List.length_take
def kC:=@List.take_of_length_le
def a7K:=@List.eq_nil_of_length_eq_zero
def zG:=@List.map_append
def aUV:=@List.nodup_append
def pD:=@List.take_succ_eq_append_getElem
def aPQ:=@List.sum_cons
def jG:=@List.take_length
def nQ:=@List.mem_singleton
def a5N:=@List.findIdx?_eq_some_iff_getElem
def aW2:=@List.any_eq_false
def cQ:=@Nat.lt_or_ge
def cV:=@Nat.lt_irrefl
def aDB:=@List.map_map
def aRK:=@List.singleton_append
def aRL:=@Int.tdiv_eq_ediv_of_nonneg
def tY:=@Int.tmod_eq_emod_of_nonneg
def gA:=@List.getD_eq_getElem?_getD
def aFA:=@Nat.lt_succ_iff_lt_or_eq
def fW:=@Int.lt_irrefl
def b6:=@Nat.zero_lt_one
def aAK:=@List.mem_iff_getElem
def aIT:=@Int.pow_zero
def aMG:=@Int.pow_succ
def aIU:=@Int.mul_emod
def aIV:=@List.prefix_refl
def aW3:=@List.prefix_append
def lV:=@List.length_singleton
def mZ:=@Nat.le_succ
def aRM:=@Int.emod_eq_of_lt
def aMH:=@List.ext_getElem
def aFB:=@Option.isSome_some
def dP:=@Option.toArray_none
def dQ:=@Option.toArray_some
def dR:=@List.filterMap_cons
def dS:=@List.filterMap_nil
def dT:=@List.elem_cons_self
def aIW:=@List.getElem_map
theorem sK {p:Prop} (h:p:=by repeat'(first|exact tL.nil|refine tL.cons ?_ ?_|exact Sub.refl _|(rw[aB.aU];exact Sub.refl _)|exact Sub.a1N rfl rfl rfl|exact Sub.ip (aRN aA) cK|exact Sub.a1N (aRN aA) rfl rfl|exact Sub.ip (by simp[*]) cK|exact Sub.a1N (by simp[*]) (by rfl) (by rfl))):p:=h
theorem a1O {p:Prop} (h:p:=by repeat'(first|exact lW _ _|refine oI (by simp only[gI,↓reduceIte,eq_self,if_true,gB,qJ,lX,gC,dF,cM,qK,dG,lY,lZ,cN,l0]) ?_|refine kD wU ?_)):p:=h
theorem a1P {p:Prop} (h:p:=by repeat'(first|exact lW _ _|refine oI (by simp only[gI,↓reduceIte,eq_self,if_true,gB,lX,gC,cM,lZ,cN]) ?_|refine kD wU ?_)):p:=h
theorem a7L {p:Prop} (h:p:=by repeat'(first|exact lW _ _|refine oI (by simp only[gI,↓reduceIte,eq_self,if_true,cM,dF,cN,l0,dG,lY]) ?_|refine kD wU ?_)):p:=h
theorem a7M {p:Prop} (h:p:=by repeat'(first|exact lW _ _|refine oI (by simp only[gI,↓reduceIte,eq_self,if_true,cM,cN,qH,x4]) ?_|refine kD wU ?_)):p:=h
theorem bDC {p:Prop} (h:p:=by refine⟨by simp[dM,cE,aB.aU,hk],by repeat'(with_reducible first|exact Heap.le_refl _|refine(bA iI).2 ?_),by simp⟩):p:=h
theorem a1Q {p:Prop} (h:p:=by refine⟨by simp[dM,cE,aF.aU],by repeat'(with_reducible first|exact Heap.le_refl _|refine(bA iI).2 ?_),by simp⟩):p:=h
theorem bDD {p:Prop} (h:p:=by repeat'(first|exact lW _ _|refine oI (by simp only[gI,↓reduceIte,eq_self,if_true,dF,dG]) ?_|refine kD wU ?_)):p:=h
theorem bDE {p:Prop} (h:p:=by repeat'(first|exact lW _ _|refine oI (by simp only[gI,↓reduceIte,eq_self,if_true,qL,qM]) ?_|refine kD wU ?_)):p:=h
theorem bDF {p:Prop} (h:p:=by have:=(hok.1 z).2 k hlt;rwa [show gL e.aN k vars=vars from if_neg aA]at this):p:=h
theorem iI {p:Prop} (h:p:=by first|assumption|exact And.right jH|exact aMI.2 jH):p:=h
theorem aRO {p:Prop} (h:p:=by rw[aE _ _ _ _ kP,aE _ _ _ _ gQ,aE _ _ _ _ x6];exact zs):p:=h
theorem aRP {p:Prop} (h:p:=by rw[aE _ _ _ _ oJ,aE _ _ _ _ oK,aE _ _ _ _ aEF];exact zg):p:=h
theorem a5O {p:Prop} (h:p:=by rcases hn with hn|hn;exact .inr (.inl hn);exact .inr (.inr (.inl hn))):p:=h
theorem pW {p:Prop} (h:p:=by simp only[k8,al3,yZ];omega):p:=h
theorem a5P {p:Prop} (h:p:=by rw[aE _ _ _ _ jI,aH,show S.r.guards=[]from hg0];rfl):p:=h
theorem aRQ {p:Prop} (h:p:=by rw[aE _ _ _ _ gU,aH,show S.r.code=[]from hc0];rfl):p:=h
theorem a5Q {p:Prop} (h:p:=by rw[←al5]at hk;exact al6 hk):p:=h
theorem aRR {p:Prop} (h:p:=by rw[aE _ _ _ _ x7,aE _ _ _ _ aAL];exact z19):p:=h
theorem aRS {p:Prop} (h:p:=by rw[aE _ _ _ _ kP,aE _ _ _ _ gQ];exact zs):p:=h
theorem aRT {p:Prop} (h:p:=by rw[aE _ _ _ _ a1R,aE _ _ _ _ x8,aH]):p:=h
theorem aRU {p:Prop} (h:p:=by rw[aE _ _ _ _ oJ,aE _ _ _ _ oK];exact zg):p:=h
theorem a5R {p:Prop} (h:p:=by rw[r3.1,F.kids];exact F.oks _ (al6 F.out)):p:=h
theorem a5S {p:Prop} (h:p:=by rw[a2.1 rr.toNat (by unfold l8 at r3;omega) g2];exact hz):p:=h
theorem wU {p:Prop} (h:p:=by first|exact .inr jH|exact .inl cK):p:=h
theorem aRV {p:Prop} (h:p:=by rw[hvl,f5];exact F.oks _ (al6 F.out)):p:=h
theorem aW5 {p:Prop} (h:p:=by rw[k8];show env.length+1<=_;omega):p:=h
theorem aDC {p:Prop} (h:p:=by rw[aE _ _ _ _ gU,aH,wV];rfl):p:=h
theorem aRW {p:Prop} (h:p:=by rw[OV.dD];exact al7 _ hp):p:=h
theorem aRX {p:Prop} (h:p:=by rw[OV.dD];exact al8 _ hp):p:=h
theorem aFC {p:Prop} (h:p:=by rw[pT _ hc'];exact jJ _ _ hc'):p:=h
theorem aMJ {p:Prop} (h:p:=by rw[dY];have:=hor.length;omega):p:=h
theorem aRY {p:Prop} (h:p:=by unfold dK at hlen;simp at hlen;omega):p:=h
theorem aAM {p:Prop} (h:p:=by rw[pT _ hc];exact jJ _ _ hc):p:=h
theorem aIX {p:Prop} (h:p:=by intro e;rw[e]at hz;simp at hz;omega):p:=h
theorem aRZ {p:Prop} (h:p:=by rw[aE _ _ _ _ gQ];exact hB1):p:=h
theorem aR0 {p:Prop} (h:p:=by rw[aE _ _ _ _ oK];exact hB2):p:=h
theorem aR1 {p:Prop} (h:p:=by rw[aE _ _ _ _ x7];exact z19):p:=h
theorem aR2 {p:Prop} (h:p:=by rw[aE _ _ _ _ aAN];exact z18):p:=h
theorem aIY {p:Prop} (h:p:=by rw[aE _ _ _ _ x8,aH]):p:=h
theorem y5 {p:Prop} (h:p:=by rw[iJ];exact j4 _):p:=h
theorem aMK {p:Prop} (h:p:=by rw[aE _ _ _ _ iA,aH]):p:=h
theorem aR4 {p:Prop} (h:p:=by rw[hv.1,f9.2.2];exact Fc.oks x hx):p:=h
theorem aW6 {p:Prop} (h:p:=by rw[aE _ _ _ _ iV,aH]):p:=h
theorem aW7 {p:Prop} (h:p:=by rw[hv.1,f9.2.2];exact F.oks x hx):p:=h
theorem qU {p:Prop} (h:p:=by rw[aJ];exact Heap.le_refl _):p:=h
theorem aAO {p:Prop} (h:p:=by rw[k8];exact o1):p:=h
theorem aAP {p:Prop} (h:p:=by simp[dM,cE,Heap.le_refl]):p:=h
theorem aDD {p:Prop} (h:p:=by have:=hm2 bU;omega):p:=h
theorem aW8 {p:Prop} (h:p:=by simp only[aB.aN];omega):p:=h
theorem aR5 {p:Prop} (h:p:=by have:=aB.aFD hy;omega):p:=h
theorem aAQ {p:Prop} (h:p:=by unfold fD at hin;omega):p:=h
theorem aW9 {p:Prop} (h:p:=by simp[j5,kQ,gK]):p:=h
theorem aR6 {p:Prop} (h:p:=by simp only[Low,Dig];omega):p:=h
theorem aXA {p:Prop} (h:p:=by simpa[Env.add,e]using hb):p:=h
theorem aML {p:Prop} (h:p:=by simp only[maxLen];omega):p:=h
theorem aMM {p:Prop} (h:p:=by rw[aFE];exact hab):p:=h
theorem tZ {p:Prop} (h:p:=by unfold kE fZ;omega):p:=h
theorem aMN {p:Prop} (h:p:=by rw[hop aA,h1]):p:=h
theorem aMO {p:Prop} (h:p:=by have:=ht.lens;omega):p:=h
theorem aDE {p:Prop} (h:p:=by rw[←hV];exact aFF):p:=h
theorem aIZ {p:Prop} (h:p:=by exact Heap.le_refl _):p:=h
theorem aMP {p:Prop} (h:p:=by rw[iG]):p:=h
theorem aR7 {p:Prop} (h:p:=by rw[l3];omega):p:=h
theorem aR8 {p:Prop} (h:p:=by rw[nb.2.1,na.2.1]):p:=h
theorem aI0 {p:Prop} (h:p:=by rw[na.2.1];omega):p:=h
theorem nR {p:Prop} (h:p:=by rw[sO.1];omega):p:=h
theorem pH {p:Prop} (h:p:=by unfold fZ;omega):p:=h
theorem uA {p:Prop} (h:p:=by rw[sO.1,tM.1]):p:=h
theorem aDF {p:Prop} (h:p:=by rw[hsk.1];omega):p:=h
theorem aI1 {p:Prop} (h:p:=by rw[wR.1];omega):p:=h
theorem aR9 {p:Prop} (h:p:=by rw[wR.1,hv1.1]):p:=h
theorem aMQ {p:Prop} (h:p:=by simp only;omega):p:=h
theorem aAR {p:Prop} (h:p:=by simpa using hv):p:=h
theorem aMR {p:Prop} (h:p:=by simpa using hx):p:=h
theorem aMS {p:Prop} (h:p:=by simpa using hk):p:=h
theorem rN {p:Prop} (h:p:=by simp;omega):p:=h
theorem jH {p:Prop} (h:p:=by assumption):p:=h
theorem aFG {p:Prop} (h:p:=by simp[hn]):p:=h
theorem bU {p:Prop} (h:p:=by decide):p:=h
theorem rO {p:Prop} (h:p:=by rw[q]):p:=h
theorem aA {p:Prop} (h:p:=by omega):p:=h
theorem cK {p:Prop} (h:p:=by simp):p:=h
theorem zH {a b:Prop} (h:a) (e:a->b:=by intro q;repeat first|exact q|exact q.1|replace q:=q.2):b:=e h
theorem c7 {a b:Nat} (h:¬a=b):¬a=b/\(a=b)=False/\(b=a)=False/\¬b=a:=⟨h,eq_false h,eq_false λe=>h e.symm,λe=>h e.symm⟩
inductive aC where
 |any
 |bool (b:Bool)
 |int (k:IntKind) (n:Int)
 |str (s:List UInt8)
 |gV
 |aW
 |qV
 |gX
 |mT
 |sl (sz:Nat) (es:List (List aC)) (tight:Bool)
 |ip (sz:Nat) (es:List (List aC)) (i off:Nat)
 |os (n sz i len:Nat)
 |op (n sz i off:Nat)
 |agg (cs:List aC)
 |eW (cs:List aC)
 |fn (f:Fn) (first cap:List aC)
 |iface (t:TypeId) (v:aC)
 |mp (n:Nat)
 deriving Inhabited
inductive Cell where
 |v (x:aC)
 |own (sz:Nat) (es:List (List Cell))
 deriving Inhabited
inductive bW where
 |row (sz:Nat) (es:List (List Cell))
 |map (kt et:TypeId) (l:List (aC×aC))
 |raw (t:TypeId) (cs:Array Value)
 |abs (Q:Nat->(Nat->Prop)->World->Prop)
 |gone
 deriving Inhabited
abbrev Heap:=Nat->Option bW
def bW.live:bW->Prop
 | .gone=>False
 | _=>True
def aR (h:Heap) (n:Nat) (o:bW):Heap:=λm=>if m=n then some o else h m
structure Env where
 loc:Nat->Option (Nat×Nat)
 fp:Nat->Nat->Prop
 used:Nat->Prop
def oE (E:Env) (h:Heap) (w:World) (b:Nat):Prop :=
 b<w.heap.size/\∀ n o,h n=some o->o.live->¬E.fp n b
def gT {α:Type} (es:List (List α)) (i j:Nat):Option α:=(es[i]?).bind (·[j]?)
theorem kF {α:Type} {es:List (List α)} {i j:Nat} {x:α} (h:gT es i j=some x):∃ e,es[i]?=some e/\e[j]?=some x:=by
 unfold gT at h
 cases he:es[i]? with
 |none=>simp[he]at h
 |some e=>exact⟨e,rfl,by simpa[he]using h⟩
theorem aXB {α:Type} {es:List (List α)} {i j:Nat} {x:α} (h:gT es i j=some x):i<es.length:=by
 obtain⟨e,he,_⟩:=kF h
 exact(jQ.1 he).1
theorem aEI {α:Type} {es:List (List α)} {sz i j:Nat} {x:α} (hs:∀ e∈es,e.length=sz) (h:gT es i j=some x):j<sz:=by
 obtain⟨e,he,hj⟩:=kF h
 have:=hs e (al6 he)
 have:=(jQ.1 hj).1
 omega
inductive dU (E:Env) (h:Heap) (w:World):aC->Value->Prop where
 |any (v:Value):dU E h w .any v
 |bool (b:Bool):dU E h w (.bool b) (.bool b)
 |int (k:IntKind) (n:Int):dU E h w (.int k n) (.int k n)
 |str (s:List UInt8) (hl:s.length<=maxLen):dU E h w (.str s) (.string ⟨s.toArray⟩)
 |gV:dU E h w .gV (.pointer none)
 |aW:dU E h w .aW (.slice none 0 0)
 |qV:dU E h w .qV .nilFunc
 |gX:dU E h w .gX .nilIface
 |mT:dU E h w .mT (.map none)
 |y6 (sz:Nat) (t:Bool) (a:Option Addr) (cap:Nat) (ht:t=true->cap=0) (hmax:cap<=maxLen) (ha:True):dU E h w (.sl sz [] t) (.slice a 0 cap)
 |sl (sz:Nat) (es:List (List aC)) (t:Bool) (b o cap:Nat) (cv:Nat->Nat->Value) (hi:oE E h w b) (hcap:es.length<=cap) (hmax:cap<=maxLen)
   (ht:t=true->cap=es.length) (hs:∀ e∈es,e.length=sz)
   (hc:∀ i j x,gT es i j=some x->w.cell? ⟨b,o+i*sz+j,none⟩=some (cv i j)) (h1:∀ i j x,gT es i j=some x->(cv i j).oneCell'=true)
   (hr:∀ i j x,gT es i j=some x->dU E h w x (cv i j)):dU E h w (.sl sz es t) (.slice (some ⟨b,o,none⟩) es.length cap)
 |ip (sz:Nat) (es:List (List aC)) (i off b o:Nat) (cv:Nat->Nat->Value) (hi:oE E h w b) (hs:∀ e∈es,e.length=sz)
   (hc:∀ i j x,gT es i j=some x->w.cell? ⟨b,o+i*sz+j,none⟩=some (cv i j)) (h1:∀ i j x,gT es i j=some x->(cv i j).oneCell'=true)
   (hr:∀ i j x,gT es i j=some x->dU E h w x (cv i j)):dU E h w (.ip sz es i off) (.pointer (some ⟨b,o+i*sz+off,none⟩))
 |os (n sz i len b o cap:Nat) (t:TypeId) (m:Nat) (hd:E.used n) (hl:E.loc n=some (b,o)) (hlc:len<=cap) (hmax:cap<=maxLen)
   (hsh:w.shape? b=some (t,m)) (hm:o+(i+cap)*sz<=m):dU E h w (.os n sz i len) (.slice (some ⟨b,o+i*sz,none⟩) len cap)
 |os0 (n sz:Nat) (hd:E.used n) (hl:E.loc n=none):dU E h w (.os n sz 0 0) (.slice none 0 0)
 |op (n sz i off b o:Nat) (hd:E.used n) (hl:E.loc n=some (b,o)):dU E h w (.op n sz i off) (.pointer (some ⟨b,o+i*sz+off,none⟩))
 |agg (cs:List aC) (vs:List Value) (hl:cs.length=vs.length) (hr:∀ (i:Nat) (x:aC) (v:Value),cs[i]?=some x->vs[i]?=some v->dU E h w x v):dU E h w (.agg cs) (.agg vs.toArray)
 |eW (cs:List aC) (vs:List Value) (hl:cs.length=vs.length) (hr:∀ (i:Nat) (x:aC) (v:Value),cs[i]?=some x->vs[i]?=some v->dU E h w x v):dU E h w (.eW cs) (.tuple vs.toArray)
 |fn (f:Fn) (cs ds:List aC) (vs us:List Value) (hl:cs.length=vs.length) (hr:∀ (i:Nat) (x:aC) (v:Value),cs[i]?=some x->vs[i]?=some v->dU E h w x v)
   (hl':ds.length=us.length) (hr':∀ (i:Nat) (x:aC) (v:Value),ds[i]?=some x->us[i]?=some v->dU E h w x v):dU E h w (.fn f cs ds) (.func f vs.toArray us.toArray)
 |iface (t:TypeId) (x:aC) (v:Value) (hr:dU E h w x v):dU E h w (.iface t x) (.iface t v)
 |mp (n b o:Nat) (hd:E.used n) (hl:E.loc n=some (b,o)):dU E h w (.mp n) (.map (some b))
def cU (E:Env) (h:Heap) (w:World):List aC->List Value->Prop
 | [],[]=>True
 |x::xs,v::vs=>dU E h w x v/\cU E h w xs vs
 | _,_=>False
theorem cU.length {E:Env} {h:Heap} {w:World}:∀ {xs:List aC} {vs:List Value},cU E h w xs vs->xs.length=vs.length
 | [],[],_=>rfl
 |x::xs,v::vs,hh=>by simpa using cU.length hh.2
 | [],_::_,hh=>hh.elim
 | _::_,[],hh=>hh.elim
theorem cU.get {E:Env} {h:Heap} {w:World}:∀ {xs:List aC} {vs:List Value},cU E h w xs vs ->
  ∀ (i:Nat) (x:aC) (v:Value),xs[i]?=some x->vs[i]?=some v->dU E h w x v
 | [],[],_,i,x,v,hx,_=>by simp at hx
 |x::xs,v::vs,hh,0,y,u,hx,hv=>by simp at hx hv;subst hx;subst hv;exact hh.1
 |x::xs,v::vs,hh,i+1,y,u,hx,hv=>cU.get hh.2 i y u aMR aAR
 | [],_::_,hh,_,_,_,_,_=>hh.elim
 | _::_,[],hh,_,_,_,_,_=>hh.elim
theorem cU.mk {E:Env} {h:Heap} {w:World}:∀ {xs:List aC} {vs:List Value},xs.length=vs.length ->
  (∀ (i:Nat) (x:aC) (v:Value),xs[i]?=some x->vs[i]?=some v->dU E h w x v)->cU E h w xs vs
 | [],[],_,_=>trivial
 |x::xs,v::vs,hl,hr=>⟨hr 0 x v rfl rfl,cU.mk (by simpa using hl) (λi y u hy hu=>hr (i+1) y u (by simpa using hy) (by simpa using hu))⟩
 | [],_::_,hl,_=>by simp at hl
 | _::_,[],hl,_=>by simp at hl
theorem cU.append {E:Env} {h:Heap} {w:World}:∀ {xs:List aC} {vs:List Value} {ys:List aC} {us:List Value},
  cU E h w xs vs->cU E h w ys us->cU E h w (xs++ys) (vs++us)
 | [],[],_,_,_,hy=>hy
 |x::xs,v::vs,_,_,hx,hy=>⟨hx.1,cU.append hx.2 hy⟩
 | [],_::_,_,_,hx,_=>hx.elim
 | _::_,[],_,_,hx,_=>hx.elim
inductive tN (E:Env) (h:Heap) (w:World):Cell->Value->(Nat->Prop)->Prop where
 |v (x:aC) (c:Value) (S:Nat->Prop) (h1:c.oneCell'=true) (hx:dU E h w x c):tN E h w (.v x) c S
 |aPS (sz:Nat) (a:Option Addr) (cap:Nat) (S:Nat->Prop) (hmax:cap<=maxLen) (ha:True):tN E h w (.own sz []) (.slice a 0 cap) S
 |own (sz:Nat) (es:List (List Cell)) (b o cap:Nat) (S:Nat->Prop) (cs:Array Value) (t:TypeId) (cv:Nat->Nat->Value) (T:Nat->Nat->Nat->Prop)
   (hb:S b) (hh:w.heap[b]?=some (.cells cs t (0,0))) (hlc:es.length<=cap) (hmax:cap<=maxLen) (hm:o+cap*sz<=cs.size) (hs:∀ e∈es,e.length=sz)
   (hT:∀ i j c,T i j c->S c/\c≠b) (hD:∀ i j i' j' c,T i j c->T i' j' c->i=i'/\j=j')
   (hc:∀ i j x,gT es i j=some x->cs[o+i*sz+j]?=some (cv i j))
   (hr:∀ i j x,gT es i j=some x->tN E h w x (cv i j) (T i j)):tN E h w (.own sz es) (.slice (some ⟨b,o,none⟩) es.length cap) S
structure aI2 (E:Env) (h:Heap) (w:World) (b o sz:Nat) (es:List (List Cell)) (S:Nat->Prop):Prop where
 hb:S b
 size:∀ e∈es,e.length=sz
 mem:∃ (cs:Array Value) (t:TypeId) (cv:Nat->Nat->Value) (T:Nat->Nat->Nat->Prop),
  w.heap[b]?=some (.cells cs t (0,0))/\o+es.length*sz<=cs.size /\
  (∀ i j c,T i j c->S c/\c≠b)/\(∀ i j i' j' c,T i j c->T i' j' c->i=i'/\j=j') /\
  (∀ i j x,gT es i j=some x->cs[o+i*sz+j]?=some (cv i j))/\(∀ i j x,gT es i j=some x->tN E h w x (cv i j) (T i j))
def aSA (E:Env) (h:Heap) (w:World) (b:Nat) (l:List (aC×aC)) (S:Nat->Prop):Prop :=
 S b/\∃ (es:Array MapEntry) (clock:Nat),w.heap[b]?=some (.map es clock)/\(∀ e∈es,e.born<clock) /\
  cU E h w (l.map (·.1)) (es.toList.map (·.key))/\cU E h w (l.map (·.2)) (es.toList.map (·.val))
def zI (E:Env) (h:Heap) (w:World) (n:Nat):bW->Prop
 | .row sz es=>(∃ b o,E.loc n=some (b,o)/\aI2 E h w b o sz es (E.fp n))∨(es=[]/\E.loc n=none)
 | .map _ _ l=>∃ b o,E.loc n=some (b,o)/\aSA E h w b l (E.fp n)
 | .raw t cs=>∃ b,E.loc n=some (b,0)/\E.fp n b/\w.heap[b]?=some (.cells cs t (0,0))
 | .abs Q=>∃ b,E.loc n=some (b,0)/\E.fp n b/\∃ w0:World,Q b (E.fp n) w0/\∀ c,E.fp n c->w.heap[c]?=w0.heap[c]?
 | .gone=>True
def aXC:Option TypeId:=some 122
def kR:List (Nat×(Array Value->Prop)):=[(0,λcs=>cs=#[.int .u64 1,.int .u64 10,.int .u64 100,.int .u64 1000,.int .u64 10000,.int .u64 100000,.int .u64 1000000,.int .u64 10000000,.int .u64 100000000,.int .u64 1000000000,.int .u64 10000000000,.int .u64 100000000000,.int .u64 1000000000000,.int .u64 10000000000000,.int .u64 100000000000000,.int .u64 1000000000000000,.int .u64 10000000000000000,.int .u64 100000000000000000,.int .u64 1000000000000000000,.int .u64 10000000000000000000]),(6,λcs=>∃ v,cs[0]?=some v/\(v=.nilIface∨∃ te pe,v=.iface te pe)),(7,λcs=>∃ v,cs[0]?=some v/\(v=.nilIface∨∃ te pe,v=.iface te pe)),(1,λcs=>∃ m,cs[0]?=some (.int .i64 m))]
def LaidIn (E:Env) (h:Heap) (w:World):Prop:=∀ p∈kR,oE E h w p.1/\∃ cs t f,w.heap[p.1]?=some (.cells cs t f)/\p.2 cs
structure Rel (E:Env) (h:Heap) (w:World):Prop where
 fin:∃ N,∀ n,N<=n->¬E.used n
 dom:∀ n,h n≠none->E.used n
 lt:∀ n o b,h n=some o->o.live->E.fp n b->b<w.heap.size
 apart:∀ n o m o' b,h n=some o->o.live->h m=some o'->o'.live->E.fp n b->E.fp m b->n=m
 obj:∀ n o,h n=some o->zI E h w n o
 laid:LaidIn E h w
structure Ev (E:Env) (h:Heap) (w:World) (E':Env) (h':Heap) (w':World):Prop where
 size:w.heap.size<=w'.heap.size
 keep:∀ b,oE E h w b->w'.heap[b]?=w.heap[b]?/\oE E' h' w' b
 shape:∀ b,b<w.heap.size->w'.shape? b=w.shape? b
 loc:∀ n,E.used n->E'.loc n=E.loc n/\E'.used n
 os:w'.os=w.os
 out:w'.output=w.output
theorem LaidIn.ev {E E':Env} {h h':Heap} {w w':World} (ev:Ev E h w E' h' w') (x:LaidIn E h w):LaidIn E' h' w':=λp hp =>
 ⟨(ev.keep p.1 (x p hp).1).2,(x p hp).2.imp λcs ⟨t,f,ht,q⟩=>⟨t,f,by rw[(ev.keep p.1 (x p hp).1).1];exact ht,q⟩⟩
theorem LaidIn.rP {E:Env} {g h:Heap} {w:World} (hi:∀ b,oE E h w b->oE E g w b) (x:LaidIn E h w):LaidIn E g w:=λp hp=>⟨hi _ (x p hp).1,(x p hp).2⟩
theorem Ev.refl (E:Env) (h:Heap) (w:World):Ev E h w E h w :=
 ⟨j4 _,λ_ hb=>⟨rfl,hb⟩,λ_ _=>rfl,λ_ hn=>⟨rfl,hn⟩,rfl,rfl⟩
theorem Ev.trans {E E' E'':Env} {h h' h'':Heap} {w w' w'':World} (a:Ev E h w E' h' w') (b:Ev E' h' w' E'' h'' w''):Ev E h w E'' h'' w'' where
 size:=aD2 a.size b.size
 keep:=λx hx=>⟨(b.keep x (a.keep x hx).2).1.trans (a.keep x hx).1,(b.keep x (a.keep x hx).2).2⟩
 shape:=λx hx=>(b.shape x (aUM hx a.size)).trans (a.shape x hx)
 loc:=λn hn=>⟨(b.loc n (a.loc n hn).2).1.trans (a.loc n hn).1,(b.loc n (a.loc n hn).2).2⟩
 os:=b.os.trans a.os
 out:=b.out.trans a.out
theorem tO {w w':World} {b:Nat} (h:w'.heap[b]?=w.heap[b]?) (o:Nat) (s:Option Nat):w'.cell? ⟨b,o,s⟩=w.cell? ⟨b,o,s⟩:=by
 simp only[World.cell?,h]
theorem aFH {w:World} {b:Nat} {x:TypeId×Nat} (h:w.shape? b=some x):b<w.heap.size:=by
 unfold World.shape? at h
 cases hb:w.heap[b]? with
 |none=>simp[hb]at h
 |some y=>exact(aH0.1 hb).1
theorem dU.ev {E E':Env} {h h':Heap} {w w':World} (ev:Ev E h w E' h' w') {x:aC} {v:Value} (r:dU E h w x v):dU E' h' w' x v:=by
 induction r with
 |any v=>exact .any v
 |bool b=>exact .bool b
 |int k n=>exact .int k n
 |str s hl=>exact .str s hl
 |gV=>exact .gV
 |aW=>exact .aW
 |qV=>exact .qV
 |gX=>exact .gX
 |mT=>exact .mT
 |y6 sz t a cap ht hmax ha=>exact .y6 sz t a cap ht hmax ha
 |sl sz es t b o cap cv hi hcap hmax ht hs hc h1 hr ih =>
  exact .sl sz es t b o cap cv (ev.keep b hi).2 hcap hmax ht hs (λi j x hx=>by rw[tO (ev.keep b hi).1];exact hc i j x hx) h1 ih
 |ip sz es i off b o cv hi hs hc h1 hr ih =>
  exact .ip sz es i off b o cv (ev.keep b hi).2 hs (λi j x hx=>by rw[tO (ev.keep b hi).1];exact hc i j x hx) h1 ih
 |os n sz i len b o cap t m hd hl hlc hmax hsh hm =>
  exact .os n sz i len b o cap t m (ev.loc n hd).2 ((ev.loc n hd).1.trans hl) hlc hmax ((ev.shape b (aFH hsh)).trans hsh) hm
 |os0 n sz hd hl=>exact .os0 n sz (ev.loc n hd).2 ((ev.loc n hd).1.trans hl)
 |op n sz i off b o hd hl=>exact .op n sz i off b o (ev.loc n hd).2 ((ev.loc n hd).1.trans hl)
 |agg cs vs hl hr ih=>exact .agg cs vs hl ih
 |eW cs vs hl hr ih=>exact .eW cs vs hl ih
 |fn f cs ds vs us hl hr hl' hr' ih ih'=>exact .fn f cs ds vs us hl ih hl' ih'
 |iface t x v hr ih=>exact .iface t x v ih
 |mp n b o hd hl=>exact .mp n b o (ev.loc n hd).2 ((ev.loc n hd).1.trans hl)
theorem cU.ev {E E':Env} {h h':Heap} {w w':World} (ev:Ev E h w E' h' w'):∀ {xs:List aC} {vs:List Value},cU E h w xs vs->cU E' h' w' xs vs
 | [],[],_=>trivial
 | _::_,_::_,hh=>⟨hh.1.ev ev,cU.ev ev hh.2⟩
 | [],_::_,hh=>hh.elim
 | _::_,[],hh=>hh.elim
@[simp] theorem aH (h:Heap) (n:Nat) (o:bW):aR h n o n=some o:=by simp[aR]
theorem aE (h:Heap) (n m:Nat) (o:bW) (hn:m≠n):aR h n o m=h m:=by simp[aR,hn]
theorem gI (h:Heap) (n m:Nat) (o:bW):aR h n o m=if m=n then some o else h m:=rfl
@[simp] theorem aJ (h:Heap) (n:Nat) (o o':bW):aR (aR h n o) n o'=aR h n o':=by
 funext m;simp only[aR];split <;> rfl
def Heap.le (g h:Heap):Prop:=∀ n,g n=none∨g n=h n
theorem Heap.le_refl (h:Heap):h.le h:=λ_=>.inr rfl
theorem Heap.le_trans {a b c:Heap} (x:a.le b) (y:b.le c):a.le c:=λn=>by
 rcases x n with h|h
 ·exact .inl h
 ·rcases y n with k|k
  ·exact .inl (h.trans k)
  ·exact .inr (h.trans k)
theorem Heap.bA {g h:Heap} {n:Nat} {o:bW} (hg:g n=none) (hl:g.le h):g.le (aR h n o):=λm=>by
 by_cases e:m=n
 ·subst e;exact .inl hg
 ·rw[aE _ _ _ _ e];exact hl m
def aC.oL:Value->aC
 | .bool b=>.bool b
 | .int k n=>.int k n
 | .string s=>if s.size<=maxLen then .str s.data.toList else .any
 | .pointer none=>.gV
 | .slice none 0 0=>.aW
 | .nilFunc=>.qV
 | .nilIface=>.gX
 | .map none=>.mT
 | _=>.any
def aC.ofValue:Value->aC
 | .bool b=>.bool b
 | .int k n=>.int k n
 | .string s=>if s.size<=maxLen then .str s.data.toList else .any
 | .pointer none=>.gV
 | .slice none 0 0=>.aW
 | .nilFunc=>.qV
 | .nilIface=>.gX
 | .map none=>.mT
 | .agg vs=>.agg (vs.toList.map aC.oL)
 | _=>.any
theorem dU.oL (E:Env) (h:Heap) (w:World) (v:Value):dU E h w (aC.oL v) v:=by
 unfold aC.oL
 split <;> try constructor
 split
 ·rename_i s hs
  have:s=⟨s.data.toList.toArray⟩:=by cases s;simp
  rw[this]
  exact .str _ (by simpa using hs)
 ·exact .any _
theorem dU.ofValue (E:Env) (h:Heap) (w:World) (v:Value):dU E h w (aC.ofValue v) v:=by
 have h1:=dU.oL E h w v
 unfold aC.oL at h1
 unfold aC.ofValue
 split <;> try exact h1
 ·rename_i vs
  have:=dU.agg (E:=E) (h:=h) (w:=w) (vs.toList.map aC.oL) vs.toList cK (λi x v hx hv=>by
   rw[nI,hv]at hx
   obtain rfl:=eO hx
   exact dU.oL E h w v)
  simpa using this
 ·exact .any _
inductive TyD where
 |int (k:IntKind)
 |bool
 |str
 |ptr (e:TypeId)
 |slice (e:TypeId)
 |arr (n:Nat) (e:TypeId)
 |st (fs:List (Nat×TypeId×Nat))
 |map (k e:TypeId)
 |other
structure j6 where
 sz:Nat
 agg:Bool
 bytes:Nat
 zero:List aC
 d:TyD
def tyD (P:Program):TypeDesc->TyD
 | .int k=>.int k
 | .bool=>.bool
 | .string=>.str
 | .pointer e=>.ptr e
 | .slice e=>.slice e
 | .array n e=>.arr n e
 | .struct fs=>if fs.toList.all (λf=>(P.info? f.type).isSome)then .st (fs.toList.map λf=>(f.offset,f.type,P.cellsOf f.type))else .other
 | .map k e=>.map k e
 | _=>.other
def fE (P:Program) (t:TypeId):Option j6 :=
 match P.info? t,P.underlying t with
 |some i,some u=>some {
   sz:=i.size
   agg:=match u with | .struct _ | .array _ _=>true|_=>false
   bytes:=i.bytes
   zero:=match i.zero with|some v=>v.cells.toList.map aC.ofValue|none=>[]
   d:=tyD P u }
 | _,_=>none
theorem pX {P:Program} {t:TypeId} {r:j6} (h:fE P t=some r):∃ i u,P.info? t=some i/\P.underlying t=some u /\
  r.sz=i.size/\r.bytes=i.bytes/\r.d=tyD P u/\r.agg=(match u with | .struct _ | .array _ _=>true|_=>false) /\
  r.zero=(match i.zero with|some v=>v.cells.toList.map aC.ofValue|none=>[]):=by
 unfold fE at h
 split at h
 ·rename_i i u hi hu
  obtain rfl:=eO h
  exact⟨i,u,hi,hu,rfl,rfl,rfl,rfl,rfl⟩
 ·simp at h
def uB (P:Program) (o:Oper) (ρ:Operand->Value) (w:World) (R:Value->World->Prop):Prop :=
 match (execOp ρ o).run P w with
 | .ok (.value v) w'=>R v w'
 | .ok .skip w'=>R undef w'
 | .ok (.enter f args) w'=>Calls P f args w' λe w''=>match e with | .returned v=>R v w''|_=>False
 | _=>False
theorem uB.wp {P:Program} {o:Oper} {a:Act} {w:World} {next:Act->World->Prop} {Q:Exit->Act->World->Prop}
  (h:uB P o a.eval w λv w'=>next (a.put o.dst v) w'):o.wp P a w next Q:=by
 unfold uB at h
 unfold Oper.wp
 generalize (execOp a.eval o).run P w=r at *
 cases r with
 |halt x w'=>exact h.elim
 |ok n w' =>
  cases n <;> first
   |exact h.elim
   |exact h
   |exact Calls.mono h λe w' he=>by cases e <;> first|exact he|exact he.elim
theorem uB.iC {P:Program} {o:Oper} {ρ:Operand->Value} {w w':World} {v:Value} {R:Value->World->Prop}
  (hr:(execOp ρ o).run P w=.ok (.value v) w') (h:R v w'):uB P o ρ w R:=by
 unfold uB;rw[hr];exact h
theorem uB.a1S {P:Program} {o:Oper} {ρ:Operand->Value} {w w':World} {R:Value->World->Prop}
  (hr:(execOp ρ o).run P w=.ok .skip w') (h:R undef w'):uB P o ρ w R:=by
 unfold uB;rw[hr];exact h
def aAS (K:aC->Heap->Prop) (E:Env) (h:Heap) (w:World) (v:Value) (w':World):Prop :=
 ∃ r h' E',K r h'/\Ev E h w E' h' w'/\Rel E' h' w'/\dU E' h' w' r v
theorem aAS.mono {K K':aC->Heap->Prop} {E:Env} {h:Heap} {w:World} {v:Value} {w':World} (hk:∀ r h',K r h'->K' r h')
  (a:aAS K E h w v w'):aAS K' E h w v w':=let ⟨r,h',E',k,rest⟩:=a;⟨r,h',E',hk _ _ k,rest⟩
theorem aAS.same {K:aC->Heap->Prop} {E:Env} {h:Heap} {w:World} {v:Value} {r:aC} (hk:K r h) (hrel:Rel E h w) (hr:dU E h w r v):aAS K E h w v w :=
 ⟨r,h,E,hk,.refl _ _ _,hrel,hr⟩
def l9 (P:Program) (o:Oper) (ρ:Operand->aC) (h:Heap) (K:aC->Heap->Prop):Prop :=
 ∀ E w (ρc:Operand->Value),Rel E h w->(∀ x,dU E h w (ρ x) (ρc x))->uB P o ρc w (aAS K E h w)
theorem uB.mono {P:Program} {o:Oper} {ρ:Operand->Value} {w:World} {R R':Value->World->Prop} (h:uB P o ρ w R) (hr:∀ v w',R v w'->R' v w'):uB P o ρ w R':=by
 unfold uB at *
 split at h
 ·exact hr _ _ h
 ·exact hr _ _ h
 ·exact Calls.mono h λe w' he=>by cases e <;> first|exact hr _ _ he|exact he
 ·exact h
theorem l9.mono {P:Program} {o:Oper} {ρ:Operand->aC} {h:Heap} {K K':aC->Heap->Prop} (hk:∀ r h',K r h'->K' r h') (a:l9 P o ρ h K):l9 P o ρ h K' :=
 λE w ρc hR hρ=>(a E w ρc hR hρ).mono λv w'=>aAS.mono hk
def aJ7 (P:Program) (f:FuncId) (args:List aC) (h:Heap) (K:aC->Heap->Prop):Prop :=
 ∀ E w vs,Rel E h w->cU E h w args vs->Calls P f vs.toArray w λe w'=>match e with | .returned v=>aAS K E h w v w'|_=>False
theorem aJ7.mono {P:Program} {f:FuncId} {args:List aC} {h:Heap} {K K':aC->Heap->Prop} (hk:∀ r h',K r h'->K' r h') (a:aJ7 P f args h K):aJ7 P f args h K' :=
 λE w vs hR hv=>Calls.mono (a E w vs hR hv) λe w' he=>by cases e <;> first|exact aAS.mono hk he|exact he
section pure
variable {P:Program} {o:Oper} {ρ:Operand->aC} {h:Heap} {K:aC->Heap->Prop}
theorem bV {r:aC} (hk:K r h) (hx:∀ E w (ρc:Operand->Value),Rel E h w->(∀ x,dU E h w (ρ x) (ρc x))->∃ v,(execOp ρc o).run P w=.ok (.value v) w/\dU E h w r v):l9 P o ρ h K:=by
 intro E w ρc hR hρ
 obtain⟨v,hv,hr⟩:=hx E w ρc hR hρ
 exact .iC hv (.same hk hR hr)
theorem aXD (x:Operand) (ho:o.op=.move x) (hk:K (ρ x) h):l9 P o ρ h K :=
 bV hk λE w ρc _ hρ=>⟨ρc x,by simp[execOp,ho],hρ x⟩
theorem aPT (x:Operand) (ho:o.op=.assign x) (hk:K (ρ x) h):l9 P o ρ h K :=
 bV hk λE w ρc _ hρ=>⟨ρc x,by simp[execOp,ho],hρ x⟩
theorem pY {E:Env} {w:World} {b:Bool} {v:Value} (hr:dU E h w (.bool b) v):v=.bool b:=by cases hr;rfl
theorem fS {E:Env} {w:World} {k:IntKind} {n:Int} {v:Value} (hr:dU E h w (.int k n) v):v=.int k n:=by cases hr;rfl
theorem jO {E:Env} {w:World} {s:List UInt8} {v:Value} (hr:dU E h w (.str s) v):v=.string ⟨s.toArray⟩/\s.length<=maxLen:=by cases hr;exact⟨rfl,by assumption⟩
theorem aXE (c a b:Operand) (t:Bool) (ho:o.op=.pick c a b) (hc:ρ c=.bool t) (hk:K (if t then ρ a else ρ b) h):l9 P o ρ h K :=
 bV hk λE w ρc _ hρ=>by
  have:=pY (hc▸hρ c)
  refine⟨if t then ρc a else ρc b,by simp[execOp,ho,this,asBool],?_⟩
  cases t
  ·exact hρ b
  ·exact hρ a
def lI (op:BinOp):aC->aC->Option aC
 | .int k a,.int k' b =>
  if k=k' then
   match op with
   | .add=>some (.int k (k.wrap (a+b)))
   | .sub=>some (.int k (k.wrap (a-b)))
   | .mul=>some (.int k (k.wrap (a*b)))
   | .eql=>some (.bool (decide (a=b)))
   | .neq=>some (.bool (!decide (a=b)))
   | .lss=>some (.bool (decide (a<b)))
   | .leq=>some (.bool (decide (a<=b)))
   | .gtr=>some (.bool (decide (a > b)))
   | .geq=>some (.bool (decide (a ≥ b)))
   | .and=>some (.int k (k.wrap (BitVec.ofInt k.bits a &&& BitVec.ofInt k.bits b).toNat))
   | .or=>some (.int k (k.wrap (BitVec.ofInt k.bits a ||| BitVec.ofInt k.bits b).toNat))
   | .andNot=>some (.int k (k.wrap (BitVec.ofInt k.bits a &&& ~~~ BitVec.ofInt k.bits b).toNat))
   | _=>none
  else none
 | .str a,.str b =>
  match op with
  | .eql=>some (.bool (decide (a=b)))
  | .neq=>some (.bool (!decide (a=b)))
  | _=>none
 | _,_=>none
theorem a1T (op:BinOp) (t ty:TypeId) (x y:Operand) (r:aC) (ho:o.op=.binOp op t x y ty) (hb:lI op (ρ x) (ρ y)=some r) (hk:K r h):l9 P o ρ h K :=
 bV hk λE w ρc _ hρ=>by
  have hx:=hρ x
  have hy:=hρ y
  unfold lI at hb
  split at hb
  ·rename_i k a k' b ex ey
   rw[ex]at hx;rw[ey]at hy
   have hx:=fS hx
   have hy:=fS hy
   split at hb
   ·rename_i hkk
    subst hkk
    have hg:(eqGuard op t x y (ρc x) (ρc y)).run P w=.ok () w:=by
     rw[hx,hy];cases op <;> simp[eqGuard]
    split at hb <;> first|(simp at hb;done)|(
     obtain rfl:=eO hb
     refine⟨_,by simp only[execOp,ho,Sem.run_bind,hg,Result.andThen_ok,hx,hy,binOp,Op.intArith,Op.intCmp,Op.intBits,ne_eq,not_true_eq_false,if_false,Sem.run_pure];rfl,?_⟩
     constructor)
   ·simp at hb
  ·rename_i a b ex ey
   rw[ex]at hx;rw[ey]at hy
   obtain⟨hx,_⟩:=jO hx
   obtain⟨hy,_⟩:=jO hy
   have hg:(eqGuard op t x y (ρc x) (ρc y)).run P w=.ok () w:=by
    rw[hx,hy];cases op <;> simp[eqGuard]
   have e1:(⟨a.toArray⟩:ByteArray).toList=a:=by rw[ByteArray.toList_eq]
   have e2:(⟨b.toArray⟩:ByteArray).toList=b:=by rw[ByteArray.toList_eq]
   split at hb <;> first|(simp at hb;done)|(
    obtain rfl:=eO hb
    refine⟨_,by simp only[execOp,ho,Sem.run_bind,hg,Result.andThen_ok,hx,hy,binOp,Op.stringOp,Sem.run_pure,e1,e2];rfl,?_⟩
    first|exact .bool _|skip)
   all_goals(rw[show(a == b)=decide (a=b)from Bool.eq_iff_iff.2 (by rw[beq_iff_eq,decide_eq_true_eq])];constructor)
  ·simp at hb
end pure
set_option linter.unusedVariables false
set_option linter.unusedSimpArgs false
theorem tN.ev {E E':Env} {h h':Heap} {w w':World} (ev:Ev E h w E' h' w') {x:Cell} {v:Value} {S:Nat->Prop} (r:tN E h w x v S)
  (hS:∀ c,S c->w'.heap[c]?=w.heap[c]?):tN E' h' w' x v S:=by
 induction r with
 |v x c S h1 hx=>exact .v x c S h1 (hx.ev ev)
 |aPS sz a cap S hmax ha=>exact .aPS sz a cap S hmax ha
 |own sz es b o cap S cs t cv T hb hh hlc hmax hm hs hT hD hc hr ih =>
  exact .own sz es b o cap S cs t cv T hb ((hS b hb).trans hh) hlc hmax hm hs hT hD hc λi j x hx=>ih i j x hx λc hc=>hS c (hT i j c hc).1
theorem tN.mono {E:Env} {h:Heap} {w:World} {x:Cell} {v:Value} {S S':Nat->Prop} (r:tN E h w x v S) (hs:∀ c,S c->S' c):tN E h w x v S':=by
 cases r with
 |v _ _ _ h1 hx=>exact .v _ _ _ h1 hx
 |aPS sz a cap _ hmax ha=>exact .aPS sz a cap _ hmax ha
 |own sz es b o cap _ cs t cv T hb hh hlc hmax hm hs' hT hD hc hr =>
  exact .own sz es b o cap _ cs t cv T (hs _ hb) hh hlc hmax hm hs' (λi j c hc=>⟨hs _ (hT i j c hc).1,(hT i j c hc).2⟩) hD hc hr
theorem tN.one {E:Env} {h:Heap} {w:World} {x:Cell} {v:Value} {S:Nat->Prop} (r:tN E h w x v S):v.oneCell'=true:=by
 cases r <;> first|assumption|rfl
theorem aI2.ev {E E':Env} {h h':Heap} {w w':World} (ev:Ev E h w E' h' w') {b o sz:Nat} {es:List (List Cell)} {S:Nat->Prop} (r:aI2 E h w b o sz es S)
  (hS:∀ c,S c->w'.heap[c]?=w.heap[c]?):aI2 E' h' w' b o sz es S:=by
 obtain⟨hb,hs,cs,t,cv,T,hh,hm,hT,hD,hc,hr⟩:=r
 exact⟨hb,hs,cs,t,cv,T,(hS b hb).trans hh,hm,hT,hD,hc,λi j x hx=>(hr i j x hx).ev ev λc hc=>hS c (hT i j c hc).1⟩
theorem aSA.ev {E E':Env} {h h':Heap} {w w':World} (ev:Ev E h w E' h' w') {b:Nat} {l:List (aC×aC)} {S:Nat->Prop} (r:aSA E h w b l S)
  (hS:∀ c,S c->w'.heap[c]?=w.heap[c]?):aSA E' h' w' b l S:=by
 obtain⟨hb,es,clock,hh,hk,h1,h2⟩:=r
 exact⟨hb,es,clock,(hS b hb).trans hh,hk,h1.ev ev,h2.ev ev⟩
theorem zI.ev {E E':Env} {h h':Heap} {w w':World} (ev:Ev E h w E' h' w') {n:Nat} {o:bW} (hl:E'.loc n=E.loc n) (hfp:E'.fp n=E.fp n)
  (hS:∀ c,o.live->E.fp n c->w'.heap[c]?=w.heap[c]?) (r:zI E h w n o):zI E' h' w' n o:=by
 cases o with
 |row sz es =>
  rcases r with⟨b,o,hb,hr⟩|⟨he,hn⟩
  ·exact .inl ⟨b,o,hl.trans hb,by rw[hfp];exact hr.ev ev (λc hc=>hS c trivial hc)⟩
  ·exact .inr ⟨he,hl.trans hn⟩
 |map kt et l =>
  obtain⟨b,o,hb,hr⟩:=r
  exact⟨b,o,hl.trans hb,by rw[hfp];exact hr.ev ev (λc hc=>hS c trivial hc)⟩
 |raw t cs =>
  obtain⟨b,hb,hf,hr⟩:=r
  exact⟨b,hl.trans hb,by rw[hfp];exact hf,(hS b trivial hf).trans hr⟩
 |abs Q =>
  obtain⟨b,hb,hf,w0,hq,ha⟩:=r
  exact⟨b,hl.trans hb,by rw[hfp];exact hf,w0,by rw[hfp];exact hq,λc hc=>by rw[hfp]at hc;exact(hS c trivial hc).trans (ha c hc)⟩
 |gone=>trivial
def rQ (w:World) (o:Obj) (d:Nat):World:={ heap:=w.heap.push o,tape:=w.tape,drawn:=d,os:=w.os,output:=w.output }
theorem l3 (w:World) (o:Obj) (d:Nat):(rQ w o d).heap.size=w.heap.size+1:=by simp[rQ]
theorem lM (w:World) (o:Obj) (d b:Nat) (hb:b<w.heap.size):(rQ w o d).heap[b]?=w.heap[b]?:=by
 simp only[rQ,Array.getElem?_push];rw[if_neg aA]
theorem sP (w:World) (o:Obj) (d:Nat):(rQ w o d).heap[w.heap.size]?=some o:=by simp[rQ]
def Env.add (E:Env) (n b:Nat):Env where
 loc:=λm=>if m=n then some (b,0)else E.loc m
 fp:=λm c=>if m=n then c=b else E.fp m c
 used:=λm=>m=n∨E.used m
theorem Rel.none {E:Env} {h:Heap} {w:World} (R:Rel E h w) {n:Nat} (hn:¬E.used n):h n=none:=by
 cases e:h n with
 |none=>rfl
 |some o=>exact absurd (R.dom n (by simp[e])) hn
theorem Rel.fresh {E:Env} {h:Heap} {w:World} (R:Rel E h w):∃ n,¬E.used n:=let ⟨N,hN⟩:=R.fin;⟨N,hN N (j4 _)⟩
theorem Ev.alloc {E:Env} {h:Heap} {w:World} (R:Rel E h w) {n:Nat} (hn:¬E.used n) (o:Obj) (x:bW) (d:Nat) :
  Ev E h w (E.add n w.heap.size) (aR h n x) (rQ w o d):=by
 have hne:∀ m,E.used m->m≠n:=λm hm e=>hn (e▸hm)
 have hheap:∀ b,b<w.heap.size->(rQ w o d).heap[b]?=w.heap[b]?:=lM w o d
 refine⟨by rw[l3];omega,λb hb=>⟨hheap b hb.1,⟨by have:=hb.1;rw[l3];omega,?_⟩⟩,λb hb=>by simp only[World.shape?,hheap b hb],λm hm=>?_,rfl,rfl⟩
 ·intro m y hm hy hf
  by_cases e:m=n
  ·subst e;have hf:b=w.heap.size:=by simpa[Env.add]using hf
   have:=hb.1;omega
  ·rw[aE _ _ _ _ e]at hm;exact hb.2 m y hm hy (by simpa[Env.add,e]using hf)
 ·have e:=hne m hm
  exact⟨by simp[Env.add,e],.inr hm⟩
theorem Rel.aI3 {E:Env} {h:Heap} {w:World} (R:Rel E h w) {n:Nat} (hn:¬E.used n) (o:Obj) (x:bW) (d:Nat)
  (hx:zI (E.add n w.heap.size) (aR h n x) (rQ w o d) n x):Rel (E.add n w.heap.size) (aR h n x) (rQ w o d):=by
 have ev:=Ev.alloc R hn o x d
 have hheap:∀ b,b<w.heap.size->(rQ w o d).heap[b]?=w.heap[b]?:=lM w o d
 refine⟨?_,?_,?_,?_,?_,R.laid.ev ev⟩
 ·obtain⟨N,hN⟩:=R.fin
  exact ⟨max N (n + 1), fun m hm => by rintro (e | e); · omega
                                       · exact hN m aA e⟩
 ·intro m hm
  by_cases e:m=n
  ·exact .inl e
  ·rw[aE _ _ _ _ e]at hm;exact .inr (R.dom m hm)
 ·intro m y b hm hy hb
  by_cases e:m=n
  ·subst e;have hb:b=w.heap.size:=by simpa[Env.add]using hb
   rw[l3];omega
  ·rw[aE _ _ _ _ e]at hm
   have:=R.lt m y b hm hy aXA
   rw[l3];omega
 ·intro m y m' y' b hm hy hm' hy' hb hb'
  by_cases e:m=n <;> by_cases e':m'=n
  ·rw[e,e']
  ·subst e;rw[aE _ _ _ _ e']at hm'
   have hb:b=w.heap.size:=by simpa[Env.add]using hb
   have:=R.lt m' y' b hm' hy' (by simpa[Env.add,e']using hb');omega
  ·subst e';rw[aE _ _ _ _ e]at hm
   have hb':b=w.heap.size:=by simpa[Env.add]using hb'
   have:=R.lt m y b hm hy aXA;omega
  ·rw[aE _ _ _ _ e]at hm;rw[aE _ _ _ _ e']at hm'
   exact R.apart m y m' y' b hm hy hm' hy' aXA (by simpa[Env.add,e']using hb')
 ·intro m y hm
  by_cases e:m=n
  ·subst e;rw[aH]at hm;obtain rfl:=eO hm;exact hx
  ·rw[aE _ _ _ _ e]at hm
   exact(R.obj m y hm).ev ev (by simp[Env.add,e]) (by funext c;simp[Env.add,e]) λc hy hc=>hheap c (R.lt m y c hm hy hc)
theorem sQ {α:Type} {sz:Nat}:∀ (es:List (List α)),(∀ e∈es,e.length=sz)->∀ i j x,gT es i j=some x->es.flatten[i*sz+j]?=some x
 | [],_,i,j,x,hx=>by simp[gT]at hx
 |e::es,hs,0,j,x,hx=>by
  simp only[gT,aWR,aPK]at hx
  have hl:=(jQ.1 hx).1
  simp only[aWS,aWT,aD3]
  rw[tW hl];exact hx
 |e::es,hs,i+1,j,x,hx=>by
  have he:=hs e cK
  have ih:=sQ es (λe he=>hs e (by simp[he])) i j x (by simpa[gT]using hx)
  simp only[aWS]
  rw[zE (by rw[he,sI];omega)]
  rw[←ih];congr 1;rw[he,sI];omega
theorem length_flatten {α:Type} {sz:Nat}:∀ (es:List (List α)),(∀ e∈es,e.length=sz)->es.flatten.length=es.length*sz
 | [],_=>by simp
 |e::es,hs=>by
  have he:=hs e cK
  have ih:=length_flatten es (λe he=>hs e (by simp[he]))
  simp[he,ih,sI];omega
theorem pU {α β:Type} (f:α->β) (es:List (List α)) (i j:Nat):gT (es.map (List.map f)) i j=(gT es i j).map f:=by
 unfold gT
 rw[nI]
 cases es[i]? <;> simp
theorem Rel.aUW {E:Env} {h:Heap} {w:World} (R:Rel E h w) {n:Nat} (hn:¬E.used n) (sz:Nat) (es:List (List aC)) (hs:∀ e∈es,e.length=sz)
  (cs:Array Value) (t:TypeId) (d:Nat) (cv:Nat->Nat->Value) (hm:es.length*sz<=cs.size)
  (hc:∀ i j x,gT es i j=some x->cs[i*sz+j]?=some (cv i j)/\(cv i j).oneCell'=true/\dU E h w x (cv i j)) :
  Rel (E.add n w.heap.size) (aR h n (.row sz (es.map (List.map .v)))) (rQ w (.cells cs t) d):=by
 refine R.aI3 hn _ _ d (.inl ⟨w.heap.size,0,by simp[Env.add],?_⟩)
 have ev:=Ev.alloc R hn (.cells cs t) (.row sz (es.map (List.map .v))) d
 refine⟨by simp[Env.add],?_,cs,t,cv,λ_ _ _=>False,?_,by simpa using hm,λ_ _ _ hf=>hf.elim,λ_ _ _ _ _ hf=>hf.elim,?_,?_⟩
 ·intro e he
  obtain⟨e',he',rfl⟩:=rC.1 he
  simpa using hs e' he'
 ·exact sP _ _ _
 ·intro i j x hx
  rw[pU]at hx
  obtain⟨y,hy,rfl⟩:=nJ.1 hx
  simpa using(hc i j y hy).1
 ·intro i j x hx
  rw[pU]at hx
  obtain⟨y,hy,rfl⟩:=nJ.1 hx
  exact .v _ _ _ (hc i j y hy).2.1 ((hc i j y hy).2.2.ev ev)
theorem Ev.write {E:Env} {h:Heap} {w w':World} (R:Rel E h w) {n b:Nat} {x:bW} (hn:h n=some x) (hx:x.live) (hb:E.fp n b) (x':bW) (hx':x'.live)
  (hsize:w'.heap.size=w.heap.size) (hoth:∀ c,c≠b->w'.heap[c]?=w.heap[c]?) (hsh:w'.shape? b=w.shape? b) (hos:w'.os=w.os) (hout:w'.output=w.output) :
  Ev E h w E (aR h n x') w':=by
 refine⟨by omega,λc hc=>⟨hoth c λe=>hc.2 n x hn hx (e▸hb),⟨by have:=hc.1;omega,?_⟩⟩,λc hc=>?_,λm hm=>⟨rfl,?_⟩,hos,hout⟩
 ·intro m y hm hy
  by_cases e:m=n
  ·subst e;exact hc.2 m x hn hx
  ·rw[aE _ _ _ _ e]at hm;exact hc.2 m y hm hy
 ·by_cases e:c=b
  ·rw[e];exact hsh
  ·simp only[World.shape?,hoth c e]
 ·exact hm
theorem Rel.write {E:Env} {h:Heap} {w w':World} (R:Rel E h w) {n b:Nat} {x:bW} (hn:h n=some x) (hx:x.live) (hb:E.fp n b) (x':bW) (hx':x'.live)
  (hsize:w'.heap.size=w.heap.size) (hoth:∀ c,c≠b->w'.heap[c]?=w.heap[c]?) (hsh:w'.shape? b=w.shape? b) (hos:w'.os=w.os) (hout:w'.output=w.output)
  (hO:zI E (aR h n x') w' n x'):Rel E (aR h n x') w':=by
 have ev:=Ev.write R hn hx hb x' hx' hsize hoth hsh hos hout
 refine⟨R.fin,?_,?_,?_,?_,R.laid.ev ev⟩
 ·intro m hm
  by_cases e:m=n
  ·subst e;exact R.dom m aFG
  ·rw[aE _ _ _ _ e]at hm;exact R.dom m hm
 ·intro m y c hm hy hc
  rw[hsize]
  by_cases e:m=n
  ·subst e;exact R.lt m x c hn hx hc
  ·rw[aE _ _ _ _ e]at hm;exact R.lt m y c hm hy hc
 ·intro m y m' y' c hm hy hm' hy' hc hc'
  by_cases e:m=n <;> by_cases e':m'=n
  ·rw[e,e']
  ·subst e;rw[aE _ _ _ _ e']at hm';exact R.apart m x m' y' c hn hx hm' hy' hc hc'
  ·subst e';rw[aE _ _ _ _ e]at hm;exact R.apart m y m' x c hm hy hn hx hc hc'
  ·rw[aE _ _ _ _ e]at hm;rw[aE _ _ _ _ e']at hm';exact R.apart m y m' y' c hm hy hm' hy' hc hc'
 ·intro m y hm
  by_cases e:m=n
  ·subst e;rw[aH]at hm;obtain rfl:=eO hm;exact hO
  ·rw[aE _ _ _ _ e]at hm
   exact(R.obj m y hm).ev ev rfl rfl λc hy hc=>hoth c λeb=>e (R.apart m y n x b hm hy hn hx (eb▸hc) hb)
theorem oE.le {E:Env} {g h:Heap} {w:World} {b:Nat} (hl:g.le h) (i:oE E h w b):oE E g w b :=
 ⟨i.1, fun n o hn ho => i.2 n o (by rcases hl n with e | e
                                    · rw[e]at hn;simp at hn
                                    · rw[←e];exact hn) ho⟩
theorem dU.rP {E:Env} {g h:Heap} {w:World} (hi:∀ b,oE E h w b->oE E g w b) {x:aC} {v:Value} (r:dU E h w x v):dU E g w x v:=by
 induction r with
 |any v=>exact .any v
 |bool b=>exact .bool b
 |int k n=>exact .int k n
 |str s hl=>exact .str s hl
 |gV=>exact .gV
 |aW=>exact .aW
 |qV=>exact .qV
 |gX=>exact .gX
 |mT=>exact .mT
 |y6 sz t a cap ht hmax ha=>exact .y6 sz t a cap ht hmax ha
 |sl sz es t b o cap cv hb hcap hmax ht hs hc h1 hr ih=>exact .sl sz es t b o cap cv (hi b hb) hcap hmax ht hs hc h1 ih
 |ip sz es i off b o cv hb hs hc h1 hr ih=>exact .ip sz es i off b o cv (hi b hb) hs hc h1 ih
 |os n sz i len b o cap t m hd hl hlc hmax hsh hm=>exact .os n sz i len b o cap t m hd hl hlc hmax hsh hm
 |os0 n sz hd hl=>exact .os0 n sz hd hl
 |op n sz i off b o hd hl=>exact .op n sz i off b o hd hl
 |agg cs vs hl hr ih=>exact .agg cs vs hl ih
 |eW cs vs hl hr ih=>exact .eW cs vs hl ih
 |fn f cs ds vs us hl hr hl' hr' ih ih'=>exact .fn f cs ds vs us hl ih hl' ih'
 |iface t x v hr ih=>exact .iface t x v ih
 |mp n b o hd hl=>exact .mp n b o hd hl
theorem cU.rP {E:Env} {g h:Heap} {w:World} (hi:∀ b,oE E h w b->oE E g w b):∀ {xs:List aC} {vs:List Value},cU E h w xs vs->cU E g w xs vs
 | [],[],_=>trivial
 | _::_,_::_,hh=>⟨hh.1.rP hi,cU.rP hi hh.2⟩
 | [],_::_,hh=>hh.elim
 | _::_,[],hh=>hh.elim
theorem tN.rP {E:Env} {g h:Heap} {w:World} (hi:∀ b,oE E h w b->oE E g w b) {x:Cell} {v:Value} {S:Nat->Prop} (r:tN E h w x v S):tN E g w x v S:=by
 induction r with
 |v x c S h1 hx=>exact .v x c S h1 (hx.rP hi)
 |aPS sz a cap S hmax ha=>exact .aPS sz a cap S hmax ha
 |own sz es b o cap S cs t cv T hb hh hlc hmax hm hs hT hD hc hr ih=>exact .own sz es b o cap S cs t cv T hb hh hlc hmax hm hs hT hD hc ih
theorem zI.rP {E:Env} {g h:Heap} {w:World} (hi:∀ b,oE E h w b->oE E g w b) {n:Nat} {o:bW} (r:zI E h w n o):zI E g w n o:=by
 cases o with
 |row sz es =>
  rcases r with⟨b,o,hb,hbS,hs,cs,t,cv,T,hh,hm,hT,hD,hcc,hrr⟩|r
  ·exact .inl ⟨b,o,hb,hbS,hs,cs,t,cv,T,hh,hm,hT,hD,hcc,λi j x hx=>(hrr i j x hx).rP hi⟩
  ·exact .inr r
 |map kt et l =>
  obtain⟨b,o,hb,hbS,es,clock,hh,hk,h1,h2⟩:=r
  exact⟨b,o,hb,hbS,es,clock,hh,hk,h1.rP hi,h2.rP hi⟩
 |raw t cs=>exact r
 |abs Q=>exact r
 |gone=>trivial
theorem Rel.forget {E:Env} {g h:Heap} {w:World} (R:Rel E h w) (hl:g.le h):Rel E g w:=by
 have hgl:∀ n o,g n=some o->h n=some o:=λn o hg=>by
  rcases hl n with e|e
  ·rw[e]at hg;simp at hg
  ·rw[←e];exact hg
 refine⟨R.fin,λn hn=>R.dom n ?_,λn o b hn=>R.lt n o b (hgl n o hn),λn o m o' b hn ho hm=>R.apart n o m o' b (hgl n o hn) ho (hgl m o' hm),
  λn o hn=>(R.obj n o (hgl n o hn)).rP λb=>oE.le hl,R.laid.rP λb=>oE.le hl⟩
 rcases hl n with e|e
 ·exact absurd e hn
 ·rw[←e];exact hn
theorem Ev.forget {E E':Env} {h h' g:Heap} {w w':World} (ev:Ev E h w E' h' w') (hl:g.le h'):Ev E h w E' g w' :=
 ⟨ev.size,λb hb=>⟨(ev.keep b hb).1,(ev.keep b hb).2.le hl⟩,ev.shape,ev.loc,ev.os,ev.out⟩
theorem aAT {E:Env} {h:Heap} {w:World} (n:Nat) (b:Nat) (i:oE E h w b):oE E (aR h n .gone) w b :=
 ⟨i.1,λm o hm ho=>by
  by_cases e:m=n
  ·subst e;rw[aH]at hm;obtain rfl:=eO hm;exact ho.elim
  ·rw[aE _ _ _ _ e]at hm;exact i.2 m o hm ho⟩
theorem aDG {E:Env} {h:Heap} {w:World} (R:Rel E h w) {n:Nat} {x:bW} (hn:h n=some x) (hx:x.live) (b:Nat) (hb:E.fp n b):oE E (aR h n .gone) w b :=
 ⟨R.lt n x b hn hx hb,λm o hm ho hf=>by
  by_cases e:m=n
  ·subst e;rw[aH]at hm;obtain rfl:=eO hm;exact ho.elim
  ·rw[aE _ _ _ _ e]at hm;exact e (R.apart m o n x b hm ho hn hx hf hb)⟩
theorem Rel.gone {E:Env} {h:Heap} {w:World} (R:Rel E h w) {n:Nat} {x:bW} (hn:h n=some x):Rel E (aR h n .gone) w:=by
 refine⟨R.fin,λm hm=>?_,?_,?_,?_,R.laid.rP λb=>aAT n b⟩
 ·by_cases e:m=n
  ·subst e;exact R.dom m aFG
  ·rw[aE _ _ _ _ e]at hm;exact R.dom m hm
 ·intro m o b hm ho
  by_cases e:m=n
  ·subst e;rw[aH]at hm;obtain rfl:=eO hm;exact ho.elim
  ·rw[aE _ _ _ _ e]at hm;exact R.lt m o b hm ho
 ·intro m o m' o' b hm ho hm' ho'
  by_cases e:m=n
  ·subst e;rw[aH]at hm;obtain rfl:=eO hm;exact ho.elim
  ·by_cases e':m'=n
   ·subst e';rw[aH]at hm';obtain rfl:=eO hm';exact ho'.elim
   ·rw[aE _ _ _ _ e]at hm;rw[aE _ _ _ _ e']at hm';exact R.apart m o m' o' b hm ho hm' ho'
 ·intro m o hm
  by_cases e:m=n
  ·subst e;rw[aH]at hm;obtain rfl:=eO hm;trivial
  ·rw[aE _ _ _ _ e]at hm;exact(R.obj m o hm).rP λb=>aAT n b
theorem Ev.gone {E:Env} {h:Heap} {w:World} (n:Nat):Ev E h w E (aR h n .gone) w :=
 ⟨j4 _,λb hb=>⟨rfl,aAT n b hb⟩,λ_ _=>rfl,λ_ hn=>⟨rfl,hn⟩,rfl,rfl⟩
mutual
def Cell.val:Cell->aC
 | .v x=>x
 | .own sz es=>.sl sz (fF es) false
def fF:List (List Cell)->List (List aC)
 | []=>[]
 |e::es=>aCD e::fF es
def aCD:List Cell->List aC
 | []=>[]
 |c::cs=>c.val::aCD cs
end
theorem aI4:∀ (e:List Cell),aCD e=e.map Cell.val
 | []=>rfl
 |c::cs=>by simp[aCD,aI4 cs]
theorem u5:∀ (es:List (List Cell)),fF es=es.map (List.map Cell.val)
 | []=>rfl
 |e::es=>by simp[fF,u5 es,aI4]
theorem pZ (es:List (List Cell)) (i j:Nat):gT (fF es) i j=(gT es i j).map Cell.val:=by
 rw[u5,pU]
theorem rR (es:List (List Cell)):(fF es).length=es.length:=by rw[u5,iG]
theorem u6 {sz:Nat} {es:List (List Cell)} (hs:∀ e∈es,e.length=sz):∀ e∈fF es,e.length=sz:=by
 intro e he
 rw[u5]at he
 obtain⟨e',he',rfl⟩:=rC.1 he
 simpa using hs e' he'
theorem tN.rS {E:Env} {h g:Heap} {w:World} {x:Cell} {v:Value} {S:Nat->Prop} (hi:∀ b,oE E h w b->oE E g w b)
  (r:tN E h w x v S) (hS:∀ c,S c->oE E g w c):dU E g w x.val v:=by
 induction r with
 |v x c S h1 hx=>exact hx.rP hi
 |aPS sz a cap S hmax ha =>
  simp only[Cell.val,fF]
  exact .y6 sz false a cap (λe=>by simp at e) hmax ha
 |own sz es b o cap S cs t cv T hb hh hlc hmax hm hs hT hD hc hr ih =>
  simp only[Cell.val]
  have:=dU.sl (E:=E) (h:=g) (w:=w) sz (fF es) false b o cap cv (hS b hb) (by rw[rR];exact hlc) hmax (λe=>by simp at e) (u6 hs)
   (λi j x hx=>by
    rw[pZ]at hx
    obtain⟨y,hy,rfl⟩:=nJ.1 hx
    simp only[World.cell?,hh];exact hc i j y hy)
   (λi j x hx=>by
    rw[pZ]at hx
    obtain⟨y,hy,rfl⟩:=nJ.1 hx
    exact(hr i j y hy).one)
   (λi j x hx=>by
    rw[pZ]at hx
    obtain⟨y,hy,rfl⟩:=nJ.1 hx
    exact ih i j y hy λc hc=>hS c (hT i j c hc).1)
  rw[rR]at this
  exact this
section types
variable {P:Program} {w:World} {t:TypeId} {r:j6}
theorem fG (h:fE P t=some r):(sizeOf t).run P w=.ok r.sz w:=by
 obtain⟨i,u,hi,hu,h1,_⟩:=pX h
 simp[sizeOf,typeInfo,hi,h1]
theorem aPU (h:fE P t=some r):(isAgg t).run P w=.ok r.agg w:=by
 obtain⟨i,u,hi,hu,h1,h2,h3,h4,h5⟩:=pX h
 rw[h4]
 cases u <;> simp[isAgg,underlying,hu]
theorem bS (h:fE P t=some r):∃ u,P.underlying t=some u/\tyD P u=r.d/\(underlying t).run P w=.ok u w:=by
 obtain⟨i,u,hi,hu,h1,h2,h3,h4,h5⟩:=pX h
 exact⟨u,hu,h3.symm,by simp[underlying,hu]⟩
theorem nS (h:fE P t=some r) (hz:r.zero≠[]):∃ z,(zeroValue t).run P w=.ok z w/\z.cells.toList.map aC.ofValue=r.zero:=by
 obtain⟨i,u,hi,hu,h1,h2,h3,h4,h5⟩:=pX h
 cases e:i.zero with
 |none=>rw[h5,e]at hz;exact absurd rfl hz
 |some z=>exact⟨z,by simp[zeroValue,typeInfo,hi,e],by rw[h5,e]⟩
theorem fQ {u:TypeDesc} {e:TypeId} (h:tyD P u=.slice e):u=.slice e:=by
 cases u <;> simp[tyD]at h ⊢ <;> first|exact h|(split at h <;> simp at h)
theorem a1U {u:TypeDesc} {n:Nat} {e:TypeId} (h:tyD P u=.arr n e):u=.array n e:=by
 cases u <;> simp[tyD]at h ⊢ <;> first|exact h|(split at h <;> simp at h)
theorem aAU {u:TypeDesc} (h:tyD P u=.str):u=.string:=by
 cases u <;> simp[tyD]at h ⊢ <;> (split at h <;> simp at h)
theorem aXF {u:TypeDesc} (h:tyD P u=.bool):u=.bool:=by
 cases u <;> simp[tyD]at h ⊢ <;> (split at h <;> simp at h)
theorem aSB {u:TypeDesc} {k:IntKind} (h:tyD P u=.int k):u=.int k:=by
 cases u <;> simp[tyD]at h ⊢ <;> first|exact h|(split at h <;> simp at h)
theorem aXG {u:TypeDesc} {fs:List (Nat×TypeId×Nat)} (h:tyD P u=.st fs):∃ gs:Array Field,u=.struct gs/\gs.toList.all (λf=>(P.info? f.type).isSome)=true/\gs.toList.map (λf=>(f.offset,f.type,P.cellsOf f.type))=fs:=by
 cases u with
 |struct gs =>
  simp only[tyD]at h
  split at h
  ·rename_i hg;exact⟨gs,rfl,hg,by simpa using h⟩
  ·simp at h
 | _=>simp[tyD]at h
theorem wW {f:Field} (h:(P.info? f.type).isSome=true):(sizeOf f.type).run P w=.ok (P.cellsOf f.type) w:=by
 cases e:P.info? f.type with
 |none=>simp[e]at h
 |some i=>simp[sizeOf,typeInfo,e,Program.cellsOf]
end types
def aC.flat:aC->Bool
 | .any | .agg _ | .eW _=>false
 | _=>true
def aC.cells:aC->List aC
 | .agg cs=>cs
 |x=>[x]
theorem dU.oM {E:Env} {h:Heap} {w:World} {x:aC} {v:Value} (r:dU E h w x v) (hf:x.flat=true):v.oneCell'=true/\v.cells=#[v]:=by
 cases r <;> simp[aC.flat]at hf <;> exact⟨rfl,rfl⟩
theorem dU.aCE {E:Env} {h:Heap} {w:World} {x:aC} {v:Value} (r:dU E h w x v) (hf:x.cells.all aC.flat=true) :
  cU E h w x.cells v.cells.toList/\∀ c∈v.cells.toList,c.oneCell'=true:=by
 cases hx:x with
 |agg cs =>
  subst hx
  cases r with
  |agg _ vs hl hr =>
   have hL:cU E h w cs vs:=cU.mk hl hr
   refine⟨by simpa[aC.cells,Value.cells]using hL,?_⟩
   intro c hc
   have hc:c∈vs:=by simpa[Value.cells]using hc
   obtain⟨i,hi⟩:=a1C hc
   have hlt:i<cs.length:=by rw[hl];exact(jQ.1 hi).1
   have hx:cs[i]?=some cs[i]:=cP hlt
   have:=hr i _ c hx hi
   exact(this.oM (by simp only[aC.cells]at hf;exact tK.1 hf _ (eF hlt))).1
 | _ =>
  subst hx
  first
   |(simp[aC.cells,aC.flat]at hf;done)
   |(obtain⟨h1,h2⟩:=r.oM rfl
     rw[h2]
     exact⟨⟨r,trivial⟩,λc hc=>by simp at hc;rw[hc];exact h1⟩)
def wX:List Cell->Option (List aC)
 | []=>some []
 | .v x::cs=>(wX cs).map (x::·)
 | .own _ _::_=>none
theorem zJ:∀ {l:List Cell} {xs:List aC},wX l=some xs->l=xs.map .v
 | [],xs,h=>by simp[wX]at h;subst h;rfl
 | .v x::cs,xs,h=>by
  simp only[wX,nJ]at h
  obtain⟨ys,hy,rfl⟩:=h
  simp[zJ hy]
 | .own _ _::_,xs,h=>by simp[wX]at h
def ld (r:j6) (e:List aC) (off:Nat):Option aC :=
 if r.agg then(if off+r.sz<=e.length then some (.agg ((e.drop off).take r.sz))else none)else e[off]?
def aDH (r:j6) (e:List Cell) (off:Nat):Option aC :=
 if r.agg then(if off+r.sz<=e.length then(wX ((e.drop off).take r.sz)).map .agg else none)
 else match e[off]? with|some (.v x)=>some x|_=>none
theorem aAV {P:Program} {w:World} {t:TypeId} {r:j6} (ht:fE P t=some r) {b o:Nat} (f:Nat->Value)
  (hc:∀ j,j<(if r.agg then r.sz else 1)->w.cell? ⟨b,o+j,none⟩=some (f j)) :
  (loadVar t ⟨b,o,none⟩).run P w=.ok (if r.agg then .agg ((List.range r.sz).map f).toArray else f 0) w:=by
 simp only[loadVar,Sem.run_bind,aPU ht,Result.andThen_ok]
 cases ha:r.agg with
 |true =>
  simp only[ha,if_true]at hc ⊢
  simp only[Sem.run_bind,fG ht,Result.andThen_ok]
  rw[run_loadCells w ⟨b,o,none⟩ r.sz f (λj hj=>by rw[←hc j hj];simp only[Addr.add];split <;> simp_all)]
  simp
 |false =>
  simp only[ha,aJ0,if_false]at hc ⊢
  have:=hc 0 aA
  simp only[aPL]at this
  simp[this]
section
variable {P:Program} {o:Oper} {ρ:Operand->aC} {h:Heap} {K:aC->Heap->Prop}
theorem aDI {E:Env} {w:World} {v:Value} (t:TypeId) (r:j6) (sz i off:Nat) (es:List (List aC)) (e:List aC) (x:aC) (ht:fE P t=some r)
  (hr:dU E h w (.ip sz es i off) v) (he:es[i]?=some e) (hx:ld r e off=some x):∃ b o c,v=.pointer (some ⟨b,o,none⟩)/\(loadVar t ⟨b,o,none⟩).run P w=.ok c w/\dU E h w x c:=by
  cases hr with
  |ip _ _ _ _ b o' cv hi hs hc h1 hrr =>
   have hsz:=hs e (al6 he)
   have hat:∀ j y,e[j]?=some y->gT es i j=some y:=λj y hy=>by simp[gT,he,hy]
   have hcell:∀ j,j<(if r.agg then r.sz else 1)->off+j<e.length:=by
    intro j hj
    unfold ld at hx
    cases hg:r.agg with
    |true =>
     simp only[hg,if_true]at hx hj
     split at hx
     ·omega
     ·simp at hx
    |false =>
     simp only[hg,aJ0,if_false]at hx hj
     have:=(jQ.1 hx).1
     omega
   have hload:=aAV (P:=P) (w:=w) ht (b:=b) (o:=o'+i*sz+off) (λj=>cv i (off+j)) (λj hj=>by
    have:=hc i (off+j) _ (hat (off+j) _ (cP (hcell j hj)))
    rw[←this];congr 2;omega)
   refine⟨_,_,_,rfl,hload,?_⟩
   unfold ld at hx
   cases hg:r.agg with
   |true =>
    simp only[hg,if_true]at hx hcell ⊢
    split at hx
    ·rename_i hle
     obtain rfl:=eO hx
     refine .agg _ _ rN ?_
     intro j y v hy hv
     have hj:j<r.sz:=by have:=(jQ.1 hv).1;simpa using this
     simp only[nI,aUN hj,aD4,aPM]at hv
     subst hv
     rw[aJ1 hj,aME]at hy
     exact hrr i (off+j) y (hat _ _ hy)
    ·simp at hx
   |false =>
    simp only[hg,aJ0,if_false,aPL]at hx hcell ⊢
    exact hrr i off x (hat _ _ hx)
theorem aMT (t:TypeId) (a:Operand) (r:j6) (sz i off:Nat) (es:List (List aC)) (e:List aC) (x:aC) (ho:o.op=.load t a) (ht:fE P t=some r)
  (ha:ρ a=.ip sz es i off) (he:es[i]?=some e) (hx:ld r e off=some x) (hk:K x h):l9 P o ρ h K :=
 bV hk λE w ρc _ hρ=>by
  obtain⟨b,k,c,hv,hrun,hc⟩:=aDI (P:=P) t r sz i off es e x ht (ha▸hρ a) he hx
  exact⟨c,by simp only[execOp,ho,Instr.loadAt,hv,Instr.sureAddr,Sem.run_bind,Sem.run_pure,Result.andThen_ok,hrun],hc⟩
theorem wY {E:Env} {w:World} (R:Rel E h w) {n sz:Nat} {es:List (List Cell)} (hn:h n=some (.row sz es)) (hne:es≠[]∨∃ x,E.loc n=some x) :
  ∃ b o,E.loc n=some (b,o)/\aI2 E h w b o sz es (E.fp n):=by
 rcases R.obj n _ hn with h1|h1
 ·exact h1
 ·rcases hne with h2|⟨x,h2⟩
  ·exact absurd h1.1 h2
  ·rw[h1.2]at h2;simp at h2
theorem aI5 {α:Type} {es:List α} {i:Nat} {e:α} (h:es[i]?=some e):es≠[]:=by rintro rfl;simp at h
theorem aDJ {E:Env} {w:World} {v:Value} (R:Rel E h w) (t:TypeId) (r:j6) (n sz i off:Nat) (es:List (List Cell)) (e:List Cell) (x:aC) (ht:fE P t=some r)
  (hr:dU E h w (.op n sz i off) v) (hn:h n=some (.row sz es)) (he:es[i]?=some e) (hx:aDH r e off=some x):∃ b o c,v=.pointer (some ⟨b,o,none⟩)/\(loadVar t ⟨b,o,none⟩).run P w=.ok c w/\dU E h w x c:=by
  obtain⟨b,o',hl,hb,hs,cs,ct,cv,T,hh,hm,hT,hD,hc,hrr⟩:=wY R hn (.inl (aI5 he))
  cases hr with
  |op _ _ _ _ b' o'' hd hl' =>
   rw[hl]at hl'
   obtain⟨rfl,rfl⟩:=aJ2 (eO hl')
   have hsz:=hs e (al6 he)
   have hat:∀ j y,e[j]?=some y->gT es i j=some y:=λj y hy=>by simp[gT,he,hy]
   have hcell:∀ j,j<(if r.agg then r.sz else 1)->off+j<e.length:=by
    intro j hj
    unfold aDH at hx
    cases hg:r.agg with
    |true =>
     simp only[hg,if_true]at hx hj
     split at hx
     ·omega
     ·simp at hx
    |false =>
     simp only[hg,aJ0,if_false]at hx hj
     split at hx
     ·rename_i he'
      have:=(jQ.1 he').1
      omega
     ·simp at hx
   have hload:=aAV (P:=P) (w:=w) ht (b:=b) (o:=o'+i*sz+off) (λj=>cv i (off+j)) (λj hj=>by
    have:=hc i (off+j) _ (hat (off+j) _ (cP (hcell j hj)))
    simp only[World.cell?,hh];rw[←this];simp;congr 1;omega)
   refine⟨_,_,_,rfl,hload,?_⟩
   have hval:∀ j y,e[j]?=some (.v y)->dU E h w y (cv i j):=λj y hy=>by
    have:=hrr i j _ (hat _ _ hy)
    generalize cv i j=c at this
    generalize T i j=S at this
    cases this with
    |v _ _ _ _ hx=>exact hx
   unfold aDH at hx
   cases hg:r.agg with
   |true =>
    simp only[hg,if_true]at hx hcell ⊢
    split at hx
    ·rename_i hle
     obtain⟨xs,hxs,rfl⟩:=nJ.1 hx
     have hxs:=zJ hxs
     have hlen:xs.length=r.sz:=by have:=congrArg List.length hxs;simp at this;omega
     refine .agg _ _ (by simp[hlen]) ?_
     intro j y v hy hv
     have hj:j<r.sz:=by have:=(jQ.1 hv).1;simpa using this
     simp only[nI,aUN hj,aD4,aPM]at hv
     subst hv
     refine hval (off+j) y ?_
     have:((e.drop off).take r.sz)[j]?=some (.v y):=by rw[hxs,nI,hy];rfl
     rwa [aJ1 hj,aME]at this
    ·simp at hx
   |false =>
    simp only[hg,aJ0,if_false,aPL]at hx hcell ⊢
    split at hx
    ·rename_i y he'
     obtain rfl:=eO hx
     exact hval off _ he'
    ·simp at hx
theorem aMU (t:TypeId) (a:Operand) (r:j6) (n sz i off:Nat) (es:List (List Cell)) (e:List Cell) (x:aC) (ho:o.op=.load t a) (ht:fE P t=some r)
  (ha:ρ a=.op n sz i off) (hn:h n=some (.row sz es)) (he:es[i]?=some e) (hx:aDH r e off=some x) (hk:K x h):l9 P o ρ h K :=
 bV hk λE w ρc R hρ=>by
  obtain⟨b,k,c,hv,hrun,hc⟩:=aDJ (P:=P) R t r n sz i off es e x ht (ha▸hρ a) hn he hx
  exact⟨c,by simp only[execOp,ho,Instr.loadAt,hv,Instr.sureAddr,Sem.run_bind,Sem.run_pure,Result.andThen_ok,hrun],hc⟩
end
set_option linter.unusedVariables false
set_option linter.unusedSimpArgs false
def nF (e:List Cell) (off:Nat):List aC->List Cell
 | []=>e
 |v::vs=>nF (e.set off (.v v)) (off+1) vs
theorem lD {w:World} {b:Nat} {cs:Array Value} {t:TypeId} {f:Nat×Nat} (h:w.heap[b]?=some (.cells cs t f)):w.shape? b=some (t,cs.size):=by
 simp[World.shape?,h]
theorem aDK {es:List (List Cell)} {i j i' j':Nat} {e:List Cell} {c x:Cell} (he:es[i]?=some e) (hx:gT (es.set i (e.set j c)) i' j'=some x) :
  (i'=i/\j'=j/\x=c)∨(¬(i'=i/\j'=j)/\gT es i' j'=some x):=by
 have hi:=(jQ.1 he).1
 unfold gT at *
 by_cases e1:i'=i
 ·subst e1
  rw[aUO hi]at hx
  simp only[aPK]at hx
  by_cases e2:j'=j
  ·subst e2
   left
   have hj:j'<e.length:=by have:=(jQ.1 hx).1;simpa using this
   rw[aUO hj]at hx
   exact⟨rfl,rfl,(eO hx).symm⟩
  ·right
   rw[a1D (λe3=>e2 e3.symm)]at hx
   exact⟨λh=>e2 h.2,by rw[he];exact hx⟩
 ·right
  rw[a1D (λe2=>e1 e2.symm)]at hx
  exact⟨λh=>e1 h.1,hx⟩
theorem zK {i n sz j:Nat} (hi:i<n) (hj:j<sz):i*sz+j<n*sz:=by
 have:=aUP sz (Nat.succ_le_of_lt hi)
 rw[aWU]at this
 omega
theorem a1V {sz i j i' j':Nat} (hj:j<sz) (hj':j'<sz) (h:i*sz+j=i'*sz+j'):i=i'/\j=j':=by
 have h1:(i*sz+j) / sz=i:=by rw[aJ3,Nat.mul_add_div aA,a1E hj];omega
 have h2:(i'*sz+j') / sz=i':=by rw[aJ3,Nat.mul_add_div aA,a1E hj'];omega
 have:i=i':=by rw[←h1,←h2,h]
 subst this
 exact⟨rfl,by omega⟩
theorem aUX {P:Program} {E:Env} {h:Heap} {w:World} (R:Rel E h w) {n sz:Nat} {es:List (List Cell)} (hn:h n=some (.row sz es)) {b o:Nat} (hl:E.loc n=some (b,o))
  {i j:Nat} {e:List Cell} (he:es[i]?=some e) (hj:j<e.length) {x:aC} {c:Value} (hone:c.oneCell'=true) (hx:dU E h w x c) :
  (store ⟨b,o+i*sz+j,none⟩ c).run P w=.ok () (w.setCell ⟨b,o+i*sz+j,none⟩ c) /\
  Ev E h w E (aR h n (.row sz (es.set i (e.set j (.v x))))) (w.setCell ⟨b,o+i*sz+j,none⟩ c) /\
  Rel E (aR h n (.row sz (es.set i (e.set j (.v x))))) (w.setCell ⟨b,o+i*sz+j,none⟩ c):=by
 obtain⟨b',o',hl',hb,hs,cs,ct,cv,T,hh,hm,hT,hD,hc,hrr⟩:=wY R hn (.inl (aI5 he))
 rw[hl]at hl'
 obtain⟨rfl,rfl⟩:=aJ2 (eO hl')
 have hsz:=hs e (al6 he)
 have hi:=(jQ.1 he).1
 have hat:gT es i j=some e[j]:=by simp[gT,he,cP hj]
 have hcell:=hc i j _ hat
 have hlt:o+i*sz+j<cs.size:=(aH0.1 hcell).1
 have hw?:w.cell? ⟨b,o+i*sz+j,none⟩=some (cv i j):=by simp only[World.cell?,hh];simpa using hcell
 have hfz:w.frozen? ⟨b,o+i*sz+j,none⟩=false:=by simp[World.frozen?,hh]
 have hrun:(store ⟨b,o+i*sz+j,none⟩ c).run P w=.ok () (w.setCell ⟨b,o+i*sz+j,none⟩ c):=by
  rw[run_store P w _ _ _ hone,hw?];simp[hfz]
 have hheap:(w.setCell ⟨b,o+i*sz+j,none⟩ c).heap[b]?=some (.cells (cs.setIfInBounds (o+i*sz+j) c) ct (0,0)):=by
  simp[World.setCell,Array.getElem?_modify,hh]
 have hoth:∀ k,k≠b->(w.setCell ⟨b,o+i*sz+j,none⟩ c).heap[k]?=w.heap[k]?:=λk hk=>by
  simp[World.setCell,Array.getElem?_modify,sJ hk]
 have hsh:(w.setCell ⟨b,o+i*sz+j,none⟩ c).shape? b=w.shape? b:=by rw[lD hheap,lD hh];simp
 have ev:=Ev.write R hn trivial hb (.row sz (es.set i (e.set j (.v x)))) trivial (World.size_setCell _ _ _) hoth hsh rfl rfl
 refine⟨hrun,ev,R.write hn trivial hb _ trivial (World.size_setCell _ _ _) hoth hsh rfl rfl (.inl ⟨b,o,hl,hb,?_,cs.setIfInBounds (o+i*sz+j) c,ct,
  λi' j'=>if i'=i/\j'=j then c else cv i' j',T,hheap,by simpa using hm,hT,hD,?_,?_⟩)⟩
 ·intro e' he'
  rcases a1F he' with h1|h1
  ·exact hs e' h1
  ·rw[h1];simpa using hsz
 ·intro i' j' y hy
  rcases aDK he hy with⟨rfl,rfl,rfl⟩|⟨hne,hy'⟩
  ·simp[Array.getElem?_setIfInBounds,hlt]
  ·have hj':=aEI hs hy'
   have:o+i*sz+j≠o+i'*sz+j':=λe=>hne (by
    have:=a1V (sz:=sz) (i:=i) (j:=j) (i':=i') (j':=j') aA hj' aA
    exact⟨this.1.symm,this.2.symm⟩)
   simp only[if_neg hne]
   rw[aPN this]
   exact hc i' j' y hy'
 ·intro i' j' y hy
  rcases aDK he hy with⟨rfl,rfl,rfl⟩|⟨hne,hy'⟩
  ·simp only[and_self,if_true]
   exact .v _ _ _ hone (hx.ev ev)
  ·simp only[if_neg hne]
   exact(hrr i' j' y hy').ev ev λk hk=>hoth k (hT i' j' k hk).2
theorem aJ8 (es:List (List Cell)) (i:Nat) (a b:List Cell):(es.set i a).set i b=es.set i b:=by simp
theorem aFI {P:Program} {n sz:Nat} {b o i:Nat}:∀ (xs:List aC) (vs:List Value) {E:Env} {h:Heap} {w:World} (R:Rel E h w) {es:List (List Cell)} (hn:h n=some (.row sz es)) (hl:E.loc n=some (b,o))
  {j k:Nat} {e:List Cell} (he:es[i]?=some e) (hj:j+k+xs.length<=e.length) (hone:∀ c∈vs,c.oneCell'=true) (hx:cU E h w xs vs),
  ∃ w',(storeCells ⟨b,o+i*sz+j,none⟩ vs k).run P w=.ok () w'/\Ev E h w E (aR h n (.row sz (es.set i (nF e (j+k) xs)))) w'/\Rel E (aR h n (.row sz (es.set i (nF e (j+k) xs)))) w'
 | [],[],E,h,w,R,es,hn,hl,j,k,e,he,hj,hone,hx=>by
  refine⟨w,by simp[storeCells],?_⟩
  have hi:=(jQ.1 he).1
  have:es.set i (nF e (j+k) [])=es:=by
   have:es[i]=e:=(jQ.1 he).2
   simp[nF,←this]
  rw[this]
  have:aR h n (.row sz es)=h:=by funext m;simp only[aR];split <;> simp_all
  rw[this]
  exact⟨.refl _ _ _,R⟩
 |x::xs,c::vs,E,h,w,R,es,hn,hl,j,k,e,he,hj,hone,hx=>by
  have hlen:j+k<e.length:=by simp at hj;omega
  obtain⟨h1,h2,h3⟩:=aUX (P:=P) R hn hl he hlen (hone c cK) hx.1
  have hi:=(jQ.1 he).1
  have he':(es.set i (e.set (j+k) (.v x)))[i]?=some (e.set (j+k) (.v x)):=by rw[aUO hi]
  obtain⟨w',hw',ev',R'⟩:=aFI xs vs h3 (aH _ _ _) hl (j:=j) (k:=k+1) he' (by simp at hj ⊢;omega) (λc hc=>hone c (by simp[hc])) (hx.2.ev h2)
  rw[aJ,aJ8]at ev' R'
  have hst:nF e (j+k) (x::xs)=nF (e.set (j+k) (.v x)) (j+(k+1)) xs:=by simp only[nF];rfl
  rw[hst]
  refine⟨w',?_,h2.trans ev',R'⟩
  simp only[storeCells,Sem.run_bind]
  have ha:(⟨b,o+i*sz+j,none⟩:Addr).add k=⟨b,o+i*sz+(j+k),none⟩:=by
   simp only[Addr.add];split
   ·subst_vars;rfl
   ·simp
  rw[ha,h1]
  exact hw'
 | [],_::_,_,_,_,_,_,_,_,_,_,_,_,_,_,hx=>hx.elim
 | _::_,[],_,_,_,_,_,_,_,_,_,_,_,_,_,hx=>hx.elim
section
variable {P:Program} {o:Oper} {ρ:Operand->aC} {h:Heap} {K:aC->Heap->Prop}
theorem aUY (t:TypeId) (a v:Operand) (r:j6) (n sz i off:Nat) (es:List (List Cell)) (e:List Cell) (ho:o.op=.store t a v) (ht:fE P t=some r)
  (ha:ρ a=.op n sz i off) (hn:h n=some (.row sz es)) (he:es[i]?=some e) (hf:(ρ v).cells.all aC.flat=true) (hsz:(ρ v).cells.length=r.sz) (hoff:off+r.sz<=e.length)
  (hk:K .any (aR h n (.row sz (es.set i (nF e off (ρ v).cells))))):l9 P o ρ h K:=by
 intro E w ρc R hρ
 have hr:=hρ a
 rw[ha]at hr
 cases hv:ρc a <;> rw[hv]at hr <;> try(cases hr;done)
 cases hr with
 |op _ _ _ _ b o' hd hl =>
  obtain⟨hL,h1⟩:=(hρ v).aCE hf
  obtain⟨w',hrun,ev,R'⟩:=aFI (P:=P) _ _ R hn hl (j:=off) (k:=0) he aA h1 hL
  simp only[aPL]at ev R'
  have hsize:(ρc v).cells.size=r.sz:=by have:=hL.length;simp at this;omega
  refine .a1S (w':=w') ?_ ⟨.any,_,E,hk,ev,R',.any _⟩
  simp only[execOp,ho,Instr.storeAt,hv,Instr.sureAddr,Sem.run_bind,Sem.run_pure,Result.andThen_ok,storeVar,fG ht,hsize,ne_eq,not_true_eq_false,if_false,hrun,Sem.run_ite]
end
theorem sR {es:List (List aC)} {sz i j:Nat} {x:aC} (hs:∀ e∈es,e.length=sz) (hx:gT es i j=some x):i*sz+j<es.length*sz :=
 zK (aXB hx) (aEI hs hx)
theorem Rel.aFJ {E:Env} {h:Heap} {w:World} (R:Rel E h w) {n:Nat} (hn:¬E.used n) (sz:Nat) (es:List (List aC)) (hs:∀ e∈es,e.length=sz)
  (cs:Array Value) (t:TypeId) (d:Nat) (vs rest:List Value) (hcs:cs.toList=vs++rest) (hL:cU E h w es.flatten vs) (h1:∀ c∈vs,c.oneCell'=true) :
  Rel (E.add n w.heap.size) (aR h n (.row sz (es.map (List.map .v)))) (rQ w (.cells cs t) d):=by
 have hlen:vs.length=es.length*sz:=by rw[←hL.length,length_flatten es hs]
 have hget:∀ k,k<vs.length->cs[k]?=vs[k]?:=λk hk=>by
  rw[←al5,hcs,tW hk]
 refine R.aUW hn sz es hs cs t d (λi j=>(vs[i*sz+j]?).getD undef) ?_ ?_
 ·rw[←hlen,←Array.length_toList,hcs];simp
 ·intro i j x hx
  have hlt:=sR hs hx
  have hk:i*sz+j<vs.length:=by omega
  have hv:vs[i*sz+j]?=some vs[i*sz+j]:=cP hk
  refine⟨by rw[hget _ hk,hv];simp,by rw[hv];exact h1 _ (eF hk),?_⟩
  rw[hv]
  exact hL.get _ _ _ (sQ es hs i j x hx) hv
section
variable {P:Program} {o:Oper} {ρ:Operand->aC} {h:Heap} {K:aC->Heap->Prop}
theorem nT (w:World) (o:Obj):{ w with heap:=w.heap.push o }=rQ w o w.drawn:=rfl
theorem aDL (sz:Nat) (e:List aC) (he:e.length=sz) (hk:∀ n,h n=none->K (.op n sz 0 0) (aR h n (.row sz [e.map .v])))
  (hx:∀ E w (ρc:Operand->Value),Rel E h w->(∀ x,dU E h w (ρ x) (ρc x))->∃ (cs:Array Value) (t:TypeId) (d:Nat),
   (execOp ρc o).run P w=.ok (.value (.pointer (some ⟨w.heap.size,0,none⟩))) (rQ w (.cells cs t) d)/\cU E h w e cs.toList/\∀ c∈cs.toList,c.oneCell'=true):l9 P o ρ h K:=by
 intro E w ρc R hρ
 obtain⟨cs,t,d,hrun,hL,h1⟩:=hx E w ρc R hρ
 obtain⟨n,hn⟩:=R.fresh
 refine .iC hrun ⟨.op n sz 0 0,_,E.add n w.heap.size,hk n (R.none hn),Ev.alloc R hn _ _ _,?_,?_⟩
 ·exact R.aFJ hn sz [e] (by simpa using he) cs t d cs.toList [] cK (by simpa using hL) h1
 ·have:=dU.op (E:=E.add n w.heap.size) (h:=aR h n (.row sz [e.map .v])) (w:=rQ w (.cells cs t) d) n sz 0 0 w.heap.size 0 (.inl rfl) (by simp[Env.add])
  simpa using this
theorem tP (sz len:Nat) (es:List (List aC)) (hs:∀ e∈es,e.length=sz) (hk:∀ n,h n=none->K (.os n sz 0 len) (aR h n (.row sz (es.map (List.map .v)))))
  (hx:∀ E w (ρc:Operand->Value),Rel E h w->(∀ x,dU E h w (ρ x) (ρc x))->∃ (cs:Array Value) (t:TypeId) (d cap:Nat) (vs rest:List Value),
   (execOp ρc o).run P w=.ok (.value (.slice (some ⟨w.heap.size,0,none⟩) len cap)) (rQ w (.cells cs t) d)/\len<=cap/\cap<=maxLen/\cap*sz<=cs.size /\
   cs.toList=vs++rest/\cU E h w es.flatten vs/\∀ c∈vs,c.oneCell'=true):l9 P o ρ h K:=by
 intro E w ρc R hρ
 obtain⟨cs,t,d,cap,vs,rest,hrun,hlc,hmax,hm,hcs,hL,h1⟩:=hx E w ρc R hρ
 obtain⟨n,hn⟩:=R.fresh
 refine .iC hrun ⟨.os n sz 0 len,_,E.add n w.heap.size,hk n (R.none hn),Ev.alloc R hn _ _ _,?_,?_⟩
 ·exact R.aFJ hn sz es hs cs t d vs rest hcs hL h1
 ·have:=dU.os (E:=E.add n w.heap.size) (h:=aR h n (.row sz (es.map (List.map .v)))) (w:=rQ w (.cells cs t) d) n sz 0 len w.heap.size 0 cap t cs.size (.inl rfl) (by simp[Env.add]) hlc hmax
   (by simp only[World.shape?,sP]) (by simpa using hm)
  simpa using this
theorem a1W (t:TypeId) (x:Operand) (ho:o.op=.box t x) (hf:(ρ x).cells.all aC.flat=true)
  (hk:∀ n,h n=none->K (.op n (ρ x).cells.length 0 0) (aR h n (.row (ρ x).cells.length [(ρ x).cells.map .v]))):l9 P o ρ h K :=
 aDL _ (ρ x).cells rfl hk λE w ρc R hρ=>by
  obtain⟨hL,h1⟩:=(hρ x).aCE hf
  refine⟨(ρc x).cells,t,w.drawn,?_,hL,h1⟩
  simp only[execOp,ho,Instr.box,newVar,newRow,Sem.run_bind,run_newObj,Result.andThen_ok,Sem.run_pure,nT]
theorem aMV (t:TypeId) (x:Operand) (ho:o.op=.box t x) (hc:(ρ x).cells=[.gV,.aW])
  (hk:∀ n,h n=none->K (.op n 2 0 0) (aR h n (.raw t #[.pointer none,.slice none 0 0]))):l9 P o ρ h K:=by
 intro E w ρc R hρ
 obtain⟨hL,h1⟩:=(hρ x).aCE (by rw[hc];rfl)
 rw[hc]at hL
 have hcs:(ρc x).cells=#[.pointer none,.slice none 0 0]:=by
  have hl:=hL.length
  match hv:(ρc x).cells.toList,hL with
  | [a,b],hL =>
   have ha:a=.pointer none:=by have:=hL.1;cases a <;> (try cases this) <;> rfl
   have hb:b=.slice none 0 0:=by have:=hL.2.1;cases b <;> (try cases this) <;> rfl
   apply Array.toList_inj.1
   rw[hv,ha,hb]
 obtain⟨n,hn⟩:=R.fresh
 refine .iC (v:=.pointer (some ⟨w.heap.size,0,none⟩)) (w':=rQ w (.cells #[.pointer none,.slice none 0 0] t) w.drawn) ?_ ⟨.op n 2 0 0,_,E.add n w.heap.size,hk n (R.none hn),Ev.alloc R hn _ _ _,R.aI3 hn _ _ _ ⟨w.heap.size,by simp[Env.add],by simp[Env.add],sP _ _ _⟩,?_⟩
 ·simp only[execOp,ho,Instr.box,newVar,newRow,Sem.run_bind,run_newObj,Result.andThen_ok,Sem.run_pure,nT,hcs]
 ·have:=dU.op (E:=E.add n w.heap.size) (h:=aR h n (.raw t #[.pointer none,.slice none 0 0])) (w:=rQ w (.cells #[.pointer none,.slice none 0 0] t) w.drawn) n 2 0 0 w.heap.size 0 (.inl rfl) (by simp[Env.add])
  simpa using this
theorem oN (E:Env) (h:Heap) (w:World):∀ (l:List Value),cU E h w (l.map aC.ofValue) l
 | []=>trivial
 |v::l=>⟨.ofValue E h w v,oN E h w l⟩
theorem cU.oM {E:Env} {w:World}:∀ {xs:List aC} {vs:List Value},cU E h w xs vs->xs.all aC.flat=true->∀ c∈vs,c.oneCell'=true
 | [],[],_,_,c,hc=>by simp at hc
 |x::xs,v::vs,hL,hf,c,hc=>by
  simp only[List.all_cons,lH]at hf
  rcases oH.1 hc with e|e
  ·rw[e];exact(hL.1.oM hf.1).1
  ·exact cU.oM hL.2 hf.2 c e
 | [],_::_,hL,_,_,_=>hL.elim
 | _::_,[],hL,_,_,_=>hL.elim
theorem aUZ (t:TypeId) (r:j6) (ho:o.op=.alloc t) (ht:fE P t=some r) (hz:r.zero≠[]) (hf:r.zero.all aC.flat=true)
  (hk:∀ n,h n=none->K (.op n r.zero.length 0 0) (aR h n (.row r.zero.length [r.zero.map .v]))):l9 P o ρ h K :=
 aDL _ r.zero rfl hk λE w ρc R hρ=>by
  obtain⟨z,hrun,hzz⟩:=nS (w:=w) ht hz
  have hL:cU E h w r.zero z.cells.toList:=by rw[←hzz];exact oN E h w _
  refine⟨z.cells,t,w.drawn,?_,hL,hL.oM hf⟩
  simp only[execOp,ho,Instr.alloc,newVar,newRow,Sem.run_bind,run_newObj,hrun,Result.andThen_ok,Sem.run_pure,nT]
theorem addr_add (b o k:Nat):(⟨b,o,none⟩:Addr).add k=⟨b,o+k,none⟩:=by
 simp only[Addr.add];split
 ·subst_vars;rfl
 ·rfl
theorem y7 (t:TypeId) (x:Operand) (f:Nat) (r:j6) (fs:List (Nat×TypeId×Nat)) (off sz':Nat) (ft:TypeId) (v:aC) (ho:o.op=.fieldAddr t x f) (ht:fE P t=some r) (hd:r.d=.st fs)
  (hf:fs[f]?=some (off,ft,sz')) (hsz:sz'≠0) (hv:(∃ n sz i k,ρ x=.op n sz i k/\v=.op n sz i (k+off))∨(∃ sz es i k,ρ x=.ip sz es i k/\v=.ip sz es i (k+off))) (hk:K v h):l9 P o ρ h K :=
 bV hk λE w ρc R hρ=>by
  have hr:=hρ x
  obtain⟨u,hu,hud,hrun⟩:=bS (w:=w) ht
  obtain⟨gs,rfl,hall,hgs⟩:=aXG (hud.trans hd)
  rw[←hgs]at hf
  simp only[nI,nJ,Prod.mk.injEq]at hf
  obtain⟨g,hg,rfl,rfl,rfl⟩:=hf
  have hinfo:(P.info? g.type).isSome=true:=tK.1 hall _ (al6 hg)
  have hsize:=wW (w:=w) hinfo
  have hg':gs[f]?=some g:=by simpa using hg
  have key:∀ b k,ρc x=.pointer (some ⟨b,k,none⟩)->(execOp ρc o).run P w=.ok (.value (.pointer (some ⟨b,k+g.offset,none⟩))) w:=by
   intro b k hb
   simp only[execOp,ho,Instr.fieldAt,hb,Sem.run_bind,hrun,Result.andThen_ok,hg',Instr.sureAddr,Sem.run_pure,fieldPlace,hsize,Sem.run_ite,hsz,if_false,addr_add]
  rcases hv with⟨n,sz,i,k,e,rfl⟩|⟨sz,es,i,k,e,rfl⟩
  ·rw[e]at hr
   cases hv:ρc x <;> rw[hv]at hr <;> try(cases hr;done)
   cases hr with
   |op _ _ _ _ b o' hd' hl =>
    refine⟨_,key _ _ hv,?_⟩
    have:=dU.op (E:=E) (h:=h) (w:=w) n sz i (k+g.offset) b o' hd' hl
    rwa [←a1G]at this
  ·rw[e]at hr
   cases hv:ρc x <;> rw[hv]at hr <;> try(cases hr;done)
   cases hr with
   |ip _ _ _ _ b o' cv hi hs hc h1 hrr =>
    refine⟨_,key _ _ hv,?_⟩
    have:=dU.ip (E:=E) (h:=h) (w:=w) sz es i (k+g.offset) b o' cv hi hs hc h1 hrr
    rwa [←a1G]at this
theorem aCF (t et:TypeId) (x i:Operand) (r re:j6) (sz:Nat) (es:List (List aC)) (tg:Bool) (k:IntKind) (n:Int) (ho:o.op=.indexAddr t x i) (ht:fE P t=some r) (hd:r.d=.slice et)
  (he:fE P et=some re) (hsz:re.sz=sz) (hx:ρ x=.sl sz es tg) (hi:ρ i=.int k n) (h0:0<=n) (hn:n<es.length) (hk:K (.ip sz es n.toNat 0) h):l9 P o ρ h K :=
 bV hk λE w ρc R hρ=>by
  have hr:=hρ x
  have hri:=fS (hi▸hρ i)
  rw[hx]at hr
  obtain⟨u,hu,hud,hrun⟩:=bS (w:=w) ht
  obtain rfl:=fQ (hud.trans hd)
  have hsize:=fG (w:=w) he
  cases hv:ρc x <;> rw[hv]at hr <;> try(cases hr;done)
  cases hr with
  |y6=>simp at hn;omega
  |sl _ _ _ b o' cap cv hI hcap hmax htt hs hc h1 hrr =>
   refine⟨.pointer (some ⟨b,o'+n.toNat*sz,none⟩),?_,?_⟩
   ·simp only[execOp,ho,Instr.indexAt,hri,hv,asIntOf,Sem.run_bind,Sem.run_pure,Result.andThen_ok,hrun]
    have:(0<=n/\n<(es.length:Int)):=⟨h0,hn⟩
    simp[this,hsize,hsz,addr_add]
   ·have:=dU.ip (E:=E) (h:=h) (w:=w) sz es n.toNat 0 b o' cv hI hs hc h1 hrr
    simpa using this
theorem aCG (t et:TypeId) (x i:Operand) (r re:j6) (m sz i0 len:Nat) (k:IntKind) (n:Int) (ho:o.op=.indexAddr t x i) (ht:fE P t=some r) (hd:r.d=.slice et)
  (he:fE P et=some re) (hsz:re.sz=sz) (hx:ρ x=.os m sz i0 len) (hi:ρ i=.int k n) (h0:0<=n) (hn:n<len) (hk:K (.op m sz (i0+n.toNat) 0) h):l9 P o ρ h K :=
 bV hk λE w ρc R hρ=>by
  have hr:=hρ x
  have hri:=fS (hi▸hρ i)
  rw[hx]at hr
  obtain⟨u,hu,hud,hrun⟩:=bS (w:=w) ht
  obtain rfl:=fQ (hud.trans hd)
  have hsize:=fG (w:=w) he
  cases hv:ρc x <;> rw[hv]at hr <;> try(cases hr;done)
  cases hr with
  |os0=>simp at hn;omega
  |os _ _ _ _ b o' cap tt mm hd' hl hlc hmax hsh hm =>
   refine⟨.pointer (some ⟨b,o'+(i0+n.toNat)*sz,none⟩),?_,?_⟩
   ·simp only[execOp,ho,Instr.indexAt,hri,hv,asIntOf,Sem.run_bind,Sem.run_pure,Result.andThen_ok,hrun]
    have:(0<=n/\n<(len:Int)):=⟨h0,hn⟩
    simp[this,hsize,hsz,addr_add,sI,a1G]
   ·have:=dU.op (E:=E) (h:=h) (w:=w) m sz (i0+n.toNat) 0 b o' hd' hl
    simpa using this
theorem aEJ (t:TypeId) (x:Operand) (r:j6) (n:Nat) (ats:Array TypeId) (ho:o.op=.call { callee:=.builtin .len,args:=#[x],argTypes:=ats }) (hat:ats[0]?=some t) (ht:fE P t=some r)
  (hx:(∃ e sz es tg,r.d=.slice e/\ρ x=.sl sz es tg/\n=es.length)∨(∃ e m sz i,r.d=.slice e/\ρ x=.os m sz i n)∨(∃ e,r.d=.slice e/\ρ x=.aW/\n=0)∨(∃ s,r.d=.str/\ρ x=.str s/\n=s.length))
  (hk:n<=9223372036854775807->K (.int .i64 n) h):l9 P o ρ h K:=by
 intro E w ρc R hρ
 have hr:=hρ x
 obtain⟨u,hu,hud,hrun⟩:=bS (w:=w) ht
 have hml:maxLen=9223372036854775807:=rfl
 suffices hs:n<=9223372036854775807/\(execOp ρc o).run P w=.ok (.value (.int .i64 n)) w from .iC hs.2 (.same (hk hs.1) R (.int _ _))
 have hat':∃ a,ats[0]?=some a/\a=t:=⟨t,hat,rfl⟩
 rcases hx with⟨e,sz,es,tg,hd,hx,rfl⟩|⟨e,m,sz,i,hd,hx⟩|⟨e,hd,hx,rfl⟩|⟨s,hd,hx,rfl⟩
 ·obtain rfl:=fQ (hud.trans hd)
  rw[hx]at hr
  cases hv:ρc x <;> rw[hv]at hr <;> try(cases hr;done)
  cases hr with
  |y6=>exact⟨by simp,by simp[execOp,ho,resolve,invoke,builtin,Builtin.len_,hat,hv,hrun,goInt]⟩
  |sl _ _ _ b o' cap cv hI hcap hmax htt hs hc h1 hrr =>
   exact⟨by omega,by simp[execOp,ho,resolve,invoke,builtin,Builtin.len_,hat,hv,hrun,goInt]⟩
 ·obtain rfl:=fQ (hud.trans hd)
  rw[hx]at hr
  cases hv:ρc x <;> rw[hv]at hr <;> try(cases hr;done)
  cases hr with
  |os0=>exact⟨by simp,by simp[execOp,ho,resolve,invoke,builtin,Builtin.len_,hat,hv,hrun,goInt]⟩
  |os _ _ _ _ b o' cap tt mm hd' hl hlc hmax hsh hm =>
   exact⟨by omega,by simp[execOp,ho,resolve,invoke,builtin,Builtin.len_,hat,hv,hrun,goInt]⟩
 ·obtain rfl:=fQ (hud.trans hd)
  rw[hx]at hr
  cases hv:ρc x <;> rw[hv]at hr <;> try(cases hr;done)
  cases hr with
  |aW=>exact⟨by omega,by simp[execOp,ho,resolve,invoke,builtin,Builtin.len_,hat,hv,hrun,goInt]⟩
 ·obtain rfl:=aAU (hud.trans hd)
  rw[hx]at hr
  cases hv:ρc x <;> rw[hv]at hr <;> try(cases hr;done)
  cases hr with
  |str _ hl=>exact⟨by omega,by simp[execOp,ho,resolve,invoke,builtin,Builtin.len_,hat,hv,hrun,goInt];rfl⟩
theorem aH5 (t:TypeId) (x i:Operand) (r:j6) (s:List UInt8) (k:IntKind) (n:Int) (c:UInt8) (ho:o.op=.index t x i) (ht:fE P t=some r) (hd:r.d=.str)
  (hx:ρ x=.str s) (hi:ρ i=.int k n) (h0:0<=n) (hc:s[n.toNat]?=some c) (hk:K (.int .u8 c.toNat) h):l9 P o ρ h K :=
 bV hk λE w ρc R hρ=>by
  obtain⟨hv,_⟩:=jO (hx▸hρ x)
  have hri:=fS (hi▸hρ i)
  obtain⟨u,hu,hud,hrun⟩:=bS (w:=w) ht
  obtain rfl:=aAU (hud.trans hd)
  refine⟨.int .u8 c.toNat,?_,.int _ _⟩
  have:(⟨s.toArray⟩:ByteArray)[n.toNat]?=some c:=by
   have hlt:=(jQ.1 hc).1
   have hge:=(jQ.1 hc).2
   rw[getElem?_pos (⟨s.toArray⟩:ByteArray) n.toNat (by simpa[ByteArray.size]using hlt)]
   congr 1
  simp[execOp,ho,Instr.index,hri,hv,asIntOf,hrun,h0,this]
theorem aMW (t:Operand) (i:Nat) (cs:List aC) (x:aC) (ho:o.op=.extract t i) (ht:ρ t=.eW cs) (hx:cs[i]?=some x) (hk:K x h):l9 P o ρ h K :=
 bV hk λE w ρc R hρ=>by
  have hr:=hρ t
  rw[ht]at hr
  cases hv:ρc t <;> rw[hv]at hr <;> try(cases hr;done)
  cases hr with
  |eW _ vs hl hrr =>
   have hlt:i<vs.length:=by rw[←hl];exact(jQ.1 hx).1
   have hvi:vs[i]?=some vs[i]:=cP hlt
   exact⟨vs[i],by simp[execOp,ho,Instr.extract,hv,hvi],hrr i _ _ hx hvi⟩
theorem a1X (t:TypeId) (x:Operand) (b:Bool) (ho:o.op=.unOp .not t x) (hx:ρ x=.bool b) (hk:K (.bool (!b)) h):l9 P o ρ h K :=
 bV hk λE w ρc R hρ=>by
  have hv:=pY (hx▸hρ x)
  exact⟨.bool (!b),by simp[execOp,ho,hv,Op.unary],.bool _⟩
theorem a1Y (t:TypeId) (x:Operand) (k:IntKind) (n:Int) (ho:o.op=.unOp .neg t x) (hx:ρ x=.int k n) (hk:K (.int k (k.wrap (0-n))) h):l9 P o ρ h K :=
 bV hk λE w ρc R hρ=>by
  have hv:=fS (hx▸hρ x)
  exact⟨.int k (k.wrap (0-n)),by simp[execOp,ho,hv,Op.unary,Op.intArith],.int _ _⟩
theorem aAW (x:Operand) (ho:o.op=.nilCheck x) (hx:(∃ n sz i k,ρ x=.op n sz i k)∨(∃ sz es i k,ρ x=.ip sz es i k)) (hk:K (ρ x) h):l9 P o ρ h K :=
 bV hk λE w ρc R hρ=>by
  have hr:=hρ x
  refine⟨ρc x,?_,hr⟩
  rcases hx with⟨n,sz,i,k,e⟩|⟨sz,es,i,k,e⟩ <;> rw[e]at hr <;> (cases hv:ρc x <;> rw[hv]at hr <;> try(cases hr;done)) <;> cases hr <;> simp[execOp,ho,hv]
theorem aD6 (s d:TypeId) (x:Operand) (rs rd:j6) (k k':IntKind) (n:Int) (ho:o.op=.convert s d x) (hs:fE P s=some rs) (hd:fE P d=some rd) (hk':rd.d=.int k')
  (hx:ρ x=.int k n) (hk:K (.int k' (k'.wrap n)) h):l9 P o ρ h K :=
 bV hk λE w ρc R hρ=>by
  have hv:=fS (hx▸hρ x)
  obtain⟨u,hu,hud,hrun⟩:=bS (w:=w) hs
  obtain⟨u',hu',hud',hrun'⟩:=bS (w:=w) hd
  obtain rfl:=aSB (hud'.trans hk')
  exact⟨.int k' (k'.wrap n),by simp[execOp,ho,convert,hv,hrun,hrun',Conv.intToInt],.int _ _⟩
theorem aAX {E:Env} {w:World} {ρc:Operand->Value} (hρ:∀ x,dU E h w (ρ x) (ρc x)):∀ (l:List Operand),cU E h w (l.map ρ) (l.map ρc)
 | []=>trivial
 |x::l=>⟨hρ x,aAX hρ l⟩
theorem aJ9 (fn:Fn) (fs cs:Array Operand) (ho:o.op=.makeFunc fn fs cs) (hk:K (.fn fn (fs.toList.map ρ) (cs.toList.map ρ)) h):l9 P o ρ h K :=
 bV hk λE w ρc R hρ=>by
  refine⟨.func fn (fs.map ρc) (cs.map ρc),by simp[execOp,ho,Instr.makeFunc],?_⟩
  have h1:=aAX hρ fs.toList
  have h2:=aAX hρ cs.toList
  have:=dU.fn (E:=E) (h:=h) (w:=w) fn _ _ _ _ h1.length h1.get h2.length h2.get
  have e:∀ (a:Array Operand),(a.toList.map ρc).toArray=a.map ρc:=λa=>by cases a;simp
  rwa [e,e]at this
end
section
variable {P:Program} {o:Oper} {ρ:Operand->aC} {h:Heap} {K:aC->Heap->Prop}
theorem aAY (op:BinOp) (t ty:TypeId) (x y:Operand) (r:j6) (a b:Bool) (v:aC) (ho:o.op=.binOp op t x y ty) (ht:fE P t=some r) (hd:r.d=.bool) (hx:ρ x=.bool a) (hy:ρ y=.bool b)
  (hop:(op=.eql/\v=.bool (a == b))∨(op=.neq/\v=.bool (a != b))) (hk:K v h):l9 P o ρ h K :=
 bV hk λE w ρc R hρ=>by
  have hxv:=pY (hx▸hρ x)
  have hyv:=pY (hy▸hρ y)
  obtain⟨u,hu,hud,hrun⟩:=bS (w:=w) ht
  obtain rfl:=aXF (hud.trans hd)
  have hg:(eqGuard op t x y (.bool a) (.bool b)).run P w=.ok () w:=by
   cases op <;> simp[eqGuard]
  have hq:(Op.equal t (.bool a) (.bool b)).run P w=.ok (a == b) w:=run_equalIn_bool' w 9999 t a b hu
  rcases hop with⟨rfl,rfl⟩|⟨rfl,rfl⟩
  ·exact⟨.bool (a == b),by simp only[execOp,ho,Sem.run_bind,hxv,hyv,hg,Result.andThen_ok,binOp,hq,Sem.run_pure],.bool _⟩
  ·exact⟨.bool (a != b),by simp only[execOp,ho,Sem.run_bind,hxv,hyv,hg,Result.andThen_ok,binOp,hq,Sem.run_pure];rfl,.bool _⟩
theorem aSC (op:BinOp) (t ty:TypeId) (x y:Operand) (k:IntKind) (a b:Int) (v:aC) (ho:o.op=.binOp op t x y ty) (hx:ρ x=.int k a) (hy:ρ y=.int k b) (hb:b≠0)
  (hop:(op=.quo/\v=.int k (k.wrap (a.tdiv b)))∨(op=.rem/\v=.int k (a.tmod b))) (hk:K v h):l9 P o ρ h K :=
 bV hk λE w ρc R hρ=>by
  have hxv:=fS (hx▸hρ x)
  have hyv:=fS (hy▸hρ y)
  rcases hop with⟨rfl,rfl⟩|⟨rfl,rfl⟩
  ·exact⟨.int k (k.wrap (a.tdiv b)),by simp[execOp,ho,hxv,hyv,eqGuard,binOp,Op.intDiv,hb],.int _ _⟩
  ·exact⟨.int k (a.tmod b),by simp[execOp,ho,hxv,hyv,eqGuard,binOp,Op.intDiv,hb],.int _ _⟩
theorem aI6 (op:BinOp) (t ty:TypeId) (x y:Operand) (k k':IntKind) (a b:Int) (v:aC) (ho:o.op=.binOp op t x y ty) (hx:ρ x=.int k a) (hy:ρ y=.int k' b) (hb:0<=b)
  (hop:(op=.shl/\v=.int k (k.wrap (a*2 ^ (min b.toNat k.bits))))∨(op=.shr/\v=.int k (a.fdiv (2 ^ (min b.toNat k.bits))))) (hk:K v h):l9 P o ρ h K :=
 bV hk λE w ρc R hρ=>by
  have hxv:=fS (hx▸hρ x)
  have hyv:=fS (hy▸hρ y)
  have hb':¬b<0:=by omega
  rcases hop with⟨rfl,rfl⟩|⟨rfl,rfl⟩
  ·exact⟨_,by simp only[execOp,ho,hxv,hyv,eqGuard,binOp,Op.shift,hb',if_false];simp,.int _ _⟩
  ·exact⟨_,by simp only[execOp,ho,hxv,hyv,eqGuard,binOp,Op.shift,hb',if_false];simp,.int _ _⟩
theorem a1Z (x y:Operand) (ats:Array TypeId) (k:IntKind) (a b:Int) (ho:o.op=.call { callee:=.builtin .max,args:=#[x,y],argTypes:=ats }) (hx:ρ x=.int k a) (hy:ρ y=.int k b)
  (hk:K (.int k (max a b)) h):l9 P o ρ h K :=
 bV hk λE w ρc R hρ=>by
  have hxv:=fS (hx▸hρ x)
  have hyv:=fS (hy▸hρ y)
  have e:(if b > a then b else a)=max a b:=by rw[Int.max_def];split <;> split <;> omega
  exact⟨.int k (max a b),by simp[execOp,ho,resolve,invoke,builtin,Builtin.max_,hxv,hyv,Builtin.max2,e],.int _ _⟩
def iK (d:Nat):Option aC->Option Int
 |none=>some d
 |some (.int _ n)=>some n
 | _=>none
theorem mA {w:World} {k:IntKind} {i:Int} {y:Nat} {code:BoundsCode} (h0:0<=i) (h1:i<=y):(Instr.sliceBound (.int k i) y code).run P w=.ok i.toNat w:=by
 simp[Instr.sliceBound,asIntOf,h0,h1]
theorem rT {w:World} {E:Env} (R:Rel E h w) {ρc:Operand->Value} (hρ:∀ x,dU E h w (ρ x) (ρc x)) (isS:Bool) (len cap:Nat) (lo hi mx:Option Operand) (l r m:Int)
  (hl:iK 0 (lo.map ρ)=some l) (hh:iK len (hi.map ρ)=some r) (hm:iK cap (mx.map ρ)=some m) (hmh:mx.isSome=true->hi.isSome=true)
  (h0:0<=l) (h1:l<=r) (h2:r<=m) (h3:m<=cap) :
  (Instr.sliceBounds isS len cap (lo.map ρc) (hi.map ρc) (mx.map ρc)).run P w=.ok (l.toNat,r.toNat,m.toNat) w:=by
 have hint:∀ (x:Operand) (d:Nat) (z:Int),iK d (some (ρ x))=some z->∃ k,ρc x=.int k z:=by
  intro x d z hz
  have hr:=hρ x
  generalize ρ x=v at *
  cases v <;> simp[iK]at hz
  subst hz
  exact⟨_,fS hr⟩
 have hbn:∀ d:Nat,iK d none=some (d:Int):=λ_=>rfl
 cases mx with
 |none =>
  obtain rfl:(cap:Int)=m:=by simpa[iK]using hm
  cases hi with
  |none =>
   obtain rfl:(len:Int)=r:=by simpa[iK]using hh
   cases lo with
   |none => obtain rfl : (0 : Int) = l := by simpa [iK] using hl
            simp[Instr.sliceBounds]
   |some x =>
    obtain⟨k,hx⟩:=hint x _ _ hl
    simp[Instr.sliceBounds,hx,mA h0 h1]
  |some y =>
   obtain⟨k',hy⟩:=hint y _ _ hh
   have e:((r.toNat:Nat):Int)=r:=by omega
   cases lo with
   |none => obtain rfl : (0 : Int) = l := by simpa [iK] using hl
            simp[Instr.sliceBounds,hy,mA (show 0<=r by omega) h2]
   |some x =>
    obtain⟨k,hx⟩:=hint x _ _ hl
    simp[Instr.sliceBounds,hx,hy,mA (show 0<=r by omega) h2,mA h0 (show l<=(r.toNat:Nat)by omega)]
 |some z =>
  obtain⟨kz,hz⟩:=hint z _ _ hm
  cases hi with
  |none=>simp at hmh
  |some y =>
   obtain⟨k',hy⟩:=hint y _ _ hh
   cases lo with
   |none => obtain rfl : (0 : Int) = l := by simpa [iK] using hl
            simp[Instr.sliceBounds,hy,hz,mA (show 0<=m by omega) h3,mA (show 0<=r by omega) (show r<=(m.toNat:Nat)by omega)]
   |some x =>
    obtain⟨k,hx⟩:=hint x _ _ hl
    simp[Instr.sliceBounds,hx,hy,hz,mA (show 0<=m by omega) h3,mA (show 0<=r by omega) (show r<=(m.toNat:Nat)by omega),mA h0 (show l<=(r.toNat:Nat)by omega)]
theorem aH6 (t:TypeId) (x:Operand) (lo hi:Option Operand) (r:j6) (s:List UInt8) (l m:Int) (ho:o.op=.slice t x lo hi none) (ht:fE P t=some r) (hd:r.d=.str) (hx:ρ x=.str s)
  (hl:iK 0 (lo.map ρ)=some l) (hh:iK s.length (hi.map ρ)=some m) (h0:0<=l) (h1:l<=m) (h2:m<=s.length) (hk:K (.str ((s.take m.toNat).drop l.toNat)) h):l9 P o ρ h K :=
 bV hk λE w ρc R hρ=>by
  obtain⟨hv,hmax⟩:=jO (hx▸hρ x)
  obtain⟨u,hu,hud,hrun⟩:=bS (w:=w) ht
  obtain rfl:=aAU (hud.trans hd)
  have hb:=rT (P:=P) R hρ false s.length s.length lo hi none l m s.length hl hh rfl cK h0 h1 h2 aA
  refine⟨.string ⟨((s.take m.toNat).drop l.toNat).toArray⟩,?_,.str _ rN⟩
  have hsz:(⟨s.toArray⟩:ByteArray).size=s.length:=by simp[ByteArray.size]
  have hex:(⟨s.toArray⟩:ByteArray).extract l.toNat m.toNat=⟨((s.take m.toNat).drop l.toNat).toArray⟩:=by
   apply ByteArray.ext
   rw[ByteArray.data_extract]
   simp[List.extract_eq_take_drop,List.drop_take]
  simp only[aWV]at hb
  simp[execOp,ho,Instr.sliceAt,Instr.slice,hrun,hv,hsz,hb,hex]
theorem aKA (t et:TypeId) (x:Operand) (lo hi:Option Operand) (r re:j6) (sz:Nat) (es:List (List aC)) (tg:Bool) (l m:Int) (ho:o.op=.slice t x lo hi none) (ht:fE P t=some r) (hd:r.d=.slice et)
  (he:fE P et=some re) (hsz:re.sz=sz) (hx:ρ x=.sl sz es tg)
  (hl:iK 0 (lo.map ρ)=some l) (hh:iK es.length (hi.map ρ)=some m) (h0:0<=l) (h1:l<=m) (h2:m<=es.length)
  (hk:K (.sl sz ((es.take m.toNat).drop l.toNat) (tg && decide (m=es.length))) h):l9 P o ρ h K :=
 bV hk λE w ρc R hρ=>by
  have hr:=hρ x
  rw[hx]at hr
  obtain⟨u,hu,hud,hrun⟩:=bS (w:=w) ht
  obtain rfl:=fQ (hud.trans hd)
  have hsize:=fG (w:=w) he
  have hml:maxLen=9223372036854775807:=rfl
  have key:∀ (a:Option Addr) (cap:Nat),ρc x=.slice a es.length cap->es.length<=cap ->
    (execOp ρc o).run P w=.ok (.value (.slice (if cap=l.toNat then a else a.map (·.add (l.toNat*sz))) (m.toNat-l.toNat) (cap-l.toNat))) w:=by
   intro a cap hv hc
   have hb:=rT (P:=P) R hρ true es.length cap lo hi none l m cap hl hh rfl cK h0 h1 aA aA
   simp only[aWV]at hb
   have e:((cap:Int)).toNat=cap:=by omega
   simp[execOp,ho,Instr.sliceAt,Instr.slice,hrun,hv,hb,hsize,hsz,e]
  cases hv:ρc x <;> rw[hv]at hr <;> try(cases hr;done)
  cases hr with
  |y6 _ _ _ _ htt hmax ha =>
   have qN:l=0:=by simp at h2;omega
   have hm0:m=0:=by simp at h2;omega
   subst qN hm0
   refine⟨_,key _ _ aAR cK,?_⟩
   simp only[a1H,List.take_zero,List.drop_nil,Nat.sub_zero,aWT,zF,yZ]
   exact .y6 sz _ _ _ (λe=>htt (by simp at e;exact e)) hmax trivial
  |sl _ _ _ b o' cap cv hI hcap hmax htt hs hc h1' hrr =>
   rename_i cap
   refine⟨_,key _ cap hv hcap,?_⟩
   have hlen:((es.take m.toNat).drop l.toNat).length=m.toNat-l.toNat:=by simp;omega
   by_cases hemp:m.toNat=l.toNat
   ·have e1:(es.take m.toNat).drop l.toNat=[]:=aWW rN
    rw[e1,hemp,zF]
    refine .y6 sz _ _ _ (λe=>?_) aA trivial
    simp at e;have:=htt e.1;omega
   ·have hne:¬cap=l.toNat:=by omega
    rw[if_neg hne,←hlen]
    simp only[aD4,addr_add]
    have hat:∀ i j y,gT ((es.take m.toNat).drop l.toNat) i j=some y->gT es (l.toNat+i) j=some y:=by
     intro i j y hy
     obtain⟨e,h1,h2⟩:=kF hy
     rw[aME]at h1
     have hlt:l.toNat+i<m.toNat:=by have:=(jQ.1 h1).1;simp at this;omega
     rw[aJ1 hlt]at h1
     simp[gT,h1,h2]
    refine .sl sz _ _ b (o'+l.toNat*sz) (cap-l.toNat) (λi j=>cv (l.toNat+i) j) hI aA aA (λe=>?_) ?_ ?_ ?_ ?_
    ·simp at e;have:=htt e.1;omega
    ·intro e he
     exact hs e (aJ4 (aWX he))
    ·intro i j y hy
     rw[←hc _ _ _ (hat i j y hy)];congr 2;rw[sI];omega
    ·intro i j y hy;exact h1' _ _ _ (hat i j y hy)
    ·intro i j y hy;exact hrr _ _ _ (hat i j y hy)
end
theorem aAZ {α:Type} (l:List α) (hl:0<l.length):∀ (c k:Nat),k<c*l.length->(List.replicate c l).flatten[k]?=l[k%l.length]?
 |0,k,hk=>by simp at hk
 |c+1,k,hk=>by
  rw[a1I,aWS]
  by_cases h:k<l.length
  ·rw[tW h,Nat.mod_eq_of_lt h]
  ·rw[zE aA,aAZ l hl c (k-l.length) (by rw[aWU]at hk;omega)]
   congr 1
   rw[Nat.mod_eq_sub_mod (Nat.le_of_not_lt h)]
theorem aU0 (z:Array Value) (hz:0<z.size) (c k:Nat) (hk:k<c*z.size):((Array.range (c*z.size)).map (λi=>z[i%z.size]!)).toList[k]?=z.toList[k%z.size]?:=by
 have hm:k%z.size<z.size:=Nat.mod_lt _ hz
 simp only[Array.toList_map,Array.toList_range,nI,aUN hk,aD4]
 rw[getElem!_pos z _ hm,al5,aE7 hm]
theorem cU.aXH {E:Env} {h:Heap} {w:World} {xs:List aC} {z:Array Value} (hL:cU E h w xs z.toList) (hx:0<xs.length) (c:Nat) :
  cU E h w (List.replicate c xs).flatten ((Array.range (c*z.size)).map (λi=>z[i%z.size]!)).toList:=by
 have hsz:z.size=xs.length:=by have:=hL.length;simp at this;omega
 refine cU.mk (by simp[hsz]) ?_
 intro k x v hkx hkv
 have hk:k<c*xs.length:=by have:=(jQ.1 hkx).1;simpa using this
 rw[aAZ xs hx c k hk]at hkx
 rw[aU0 z aA c k (by rw[hsz];exact hk),hsz]at hkv
 exact hL.get _ _ _ hkx hkv
section
variable {P:Program} {o:Oper} {ρ:Operand->aC} {h:Heap} {K:aC->Heap->Prop}
theorem aH7 (t et:TypeId) (l c:Operand) (r re:j6) (k k':IntKind) (a b:Int) (ho:o.op=.makeSlice t l c) (ht:fE P t=some r) (hd:r.d=.slice et) (he:fE P et=some re)
  (hz:re.zero.length=re.sz) (hz0:0<re.sz) (hf:re.zero.all aC.flat=true) (hl:ρ l=.int k a) (hc:ρ c=.int k' b) (h0:0<=a) (hab:a<=b) (hb:b<=281474976710656) (hbb:re.bytes*b<=281474976710656)
  (hk:∀ n,h n=none->K (.os n re.sz 0 a.toNat) (aR h n (.row re.sz ((List.replicate b.toNat re.zero).map (List.map .v))))):l9 P o ρ h K:=by
 refine tP re.sz a.toNat (List.replicate b.toNat re.zero) (λe he=>by rw[aUQ he,hz]) hk ?_
 intro E w ρc R hρ
 have hal:=fS (hl▸hρ l)
 have hac:=fS (hc▸hρ c)
 obtain⟨u,hu,hud,hrun⟩:=bS (w:=w) ht
 obtain rfl:=fQ (hud.trans hd)
 have hsize:=fG (w:=w) he
 obtain⟨z,hzr,hzz⟩:=nS (w:=w) he aIX
 obtain⟨i,u',hi,hu',hsz,hby,_⟩:=pX he
 have hL:cU E h w re.zero z.cells.toList:=by rw[←hzz];exact oN E h w _
 have hzs:z.cells.size=re.sz:=by have:=hL.length;simp at this;omega
 have wa:IntKind.i64.wrap a=a:=IntWalk.i64_in a aA
 have wb:IntKind.i64.wrap b=b:=IntWalk.i64_in b aA
 refine⟨(Array.range (b.toNat*z.cells.size)).map (λi=>z.cells[i%z.cells.size]!),et,w.drawn,b.toNat,_,[],?_,by omega,by unfold maxLen;omega,by simp[hzs],by simp,hL.aXH aA b.toNat,?_⟩
 ·have hti:(typeInfo et).run P w=.ok i w:=by simp[typeInfo,hi]
  have n1:¬(b<0):=by omega
  have n2:¬(281474976710656<(i.bytes:Int)*b):=by rw[←hby];omega
  have n3:¬(a<0):=by omega
  have n4:¬(b<a):=by omega
  simp only[execOp,ho,Instr.makeSlice,Sem.run_bind,hrun,Result.andThen_ok,asInt,hal,hac,asIntOf,Sem.run_pure,hti,wa,wb]
  by_cases hbz:b.toNat=0
  ·simp[n1,n2,n3,n4,hsize,hzs,hbz,newRow,nT]
   have e0:Array.range 0=#[]:=by simp
   simp only[e0,Array.map_empty];rfl
  ·simp[n1,n2,n3,n4,hsize,hzs,hbz,newRow,nT,hzr]
   rw[if_neg (Nat.mul_ne_zero hbz aA)]
   rfl
 ·exact(hL.aXH aA b.toNat).oM (by
   rw[tK]
   intro x hx
   obtain⟨l,hl,hx⟩:=List.mem_flatten.1 hx
   rw[aUQ hl]at hx
   exact tK.1 hf x hx)
end
theorem Ev.rQ {E:Env} {h:Heap} {w:World} (o:Obj) (d:Nat):Ev E h w E h (rQ w o d) :=
 ⟨by rw[l3];omega,λb hb=>⟨lM w o d b hb.1,⟨by have:=hb.1;rw[l3];omega,hb.2⟩⟩,λb hb=>by simp only[World.shape?,lM w o d b hb],λ_ hn=>⟨rfl,hn⟩,rfl,rfl⟩
theorem Rel.rQ {E:Env} {h:Heap} {w:World} (R:Rel E h w) (o:Obj) (d:Nat):Rel E h (rQ w o d) :=
 ⟨R.fin,R.dom,λn x b hn hx hb=>by have:=R.lt n x b hn hx hb;rw[l3];omega,R.apart,
  λn x hn=>(R.obj n x hn).ev (Ev.rQ o d) rfl rfl λc hx hc=>lM w o d c (R.lt n x c hn hx hc),R.laid.ev (Ev.rQ o d)⟩
theorem aSD {E:Env} {h:Heap} {w:World} (R:Rel E h w) (o:Obj) (d:Nat):oE E h (Hl.rQ w o d) w.heap.size :=
 ⟨by rw[l3];omega,λn x hn hx hf=>by have:=R.lt n x _ hn hx hf;omega⟩
theorem aSE {E:Env} {h:Heap} {w:World} (R:Rel E h w) {sz:Nat} {es:List (List aC)} (hs:∀ e∈es,e.length=sz) {cs:Array Value} {t:TypeId} {d:Nat} {vs rest:List Value} (hcs:cs.toList=vs++rest) (hL:cU E h w es.flatten vs) (h1:∀ c∈vs,c.oneCell'=true) :
  ∃ cv:Nat->Nat->Value,(∀ i j x,gT es i j=some x->(Hl.rQ w (.cells cs t) d).cell? ⟨w.heap.size,0+i*sz+j,none⟩=some (cv i j))/\(∀ i j x,gT es i j=some x->(cv i j).oneCell'=true)/\(∀ i j x,gT es i j=some x->dU E h (Hl.rQ w (.cells cs t) d) x (cv i j)):=by
 have hlen:vs.length=es.length*sz:=by rw[←hL.length,length_flatten es hs]
 refine⟨λi j=>(vs[i*sz+j]?).getD undef,λi j x hx=>?_,λi j x hx=>?_,λi j x hx=>?_⟩ <;>
  (have hlt:=sR hs hx
   have hk:i*sz+j<vs.length:=by omega
   have hv:vs[i*sz+j]?=some vs[i*sz+j]:=cP hk)
 ·simp only[World.cell?,sP,aD3]
  rw[←al5,hcs,tW hk,hv];simp
 ·simp only[hv];exact h1 _ (eF hk)
 ·simp only[hv];exact(hL.get _ _ _ (sQ es hs i j x hx) hv).ev (Ev.rQ _ _)
section
variable {P:Program} {o:Oper} {ρ:Operand->aC} {h:Heap} {K:aC->Heap->Prop}
theorem aMX (t:TypeId) (x:Operand) (ho:o.op=.box t x) (hf:(ρ x).cells.all aC.flat=true) (hk:K (.ip (ρ x).cells.length [(ρ x).cells] 0 0) h):l9 P o ρ h K:=by
 intro E w ρc R hρ
 obtain⟨hL,h1⟩:=(hρ x).aCE hf
 have hs:∀ e∈[(ρ x).cells],e.length=(ρ x).cells.length:=by simp
 obtain⟨cv,c1,c2,c3⟩:=aSE (t:=t) (d:=w.drawn) R hs (cs:=(ρc x).cells) (vs:=(ρc x).cells.toList) (rest:=[]) cK (by simpa using hL) h1
 refine .iC (v:=.pointer (some ⟨w.heap.size,0,none⟩)) (w':=Hl.rQ w (.cells (ρc x).cells t) w.drawn) ?_ ⟨_,h,E,hk,Ev.rQ _ _,R.rQ _ _,?_⟩
 ·simp only[execOp,ho,Instr.box,newVar,newRow,Sem.run_bind,run_newObj,Result.andThen_ok,Sem.run_pure,nT]
 ·have:=dU.ip (E:=E) (h:=h) (w:=Hl.rQ w (.cells (ρc x).cells t) w.drawn) (ρ x).cells.length [(ρ x).cells] 0 0 w.heap.size 0 cv (aSD R _ _) hs c1 c2 c3
  simpa using this
def rU (es:List (List aC)):List (Nat×aC)->List (List aC)
 | []=>es
 |(i,v)::r=>rU (es.set i v.cells) r
def pJ (len sz:Nat):List (Nat×aC)->Bool
 | []=>true
 |(i,v)::r=>decide (i<len) && decide (v.cells.length=sz) && v.cells.all aC.flat && pJ len sz r
theorem u7:∀ (ps:List (Nat×aC)) (es:List (List aC)),(rU es ps).length=es.length
 | [],_=>rfl
 |(i,v)::r,es=>by simp[rU,u7 r]
theorem u9 {sz len:Nat}:∀ (ps:List (Nat×aC)) (es:List (List aC)),pJ len sz ps=true->(∀ e∈es,e.length=sz)->∀ e∈rU es ps,e.length=sz
 | [],_,_,h=>h
 |(i,v)::r,es,hf,h=>by
  simp only[pJ,lH,decide_eq_true_eq]at hf
  refine u9 r _ hf.2 λe he=>?_
  rcases a1F he with h1|h1
  ·exact h e h1
  ·rw[h1];exact hf.1.1.2
theorem wI (vs:Array Value) (off:Nat) (cs:Array Value) (k:Nat) (hle:off+vs.size<=cs.size) :
  (vs.zipIdx.foldl (λcs (cj:Value×Nat)=>cs.setIfInBounds (off+cj.2) cj.1) cs)[k]?=if off<=k/\k<off+vs.size then vs[k-off]? else cs[k]?:=by
 have key:∀ (l:List Value) (n:Nat) (cs:Array Value),off+n+l.length<=cs.size ->
   ((l.zipIdx n).foldl (λcs (cj:Value×Nat)=>cs.setIfInBounds (off+cj.2) cj.1) cs)[k]?=if off+n<=k/\k<off+n+l.length then l[k-(off+n)]? else cs[k]?:=by
  intro l
  induction l with
  |nil=>intro n cs _;rw[if_neg cK];rfl
  |cons v l ih =>
   intro n cs hl
   simp only[List.zipIdx_cons,List.foldl_cons]
   rw[ih (n+1) _ (by rw[Array.size_setIfInBounds];simp at hl;omega)]
   simp only[al3]at hl ⊢
   by_cases h1:off+(n+1)<=k/\k<off+(n+1)+l.length
   ·rw[if_pos h1,if_pos aA,show k-(off+n)=(k-(off+(n+1)))+1 by omega];simp
   ·rw[if_neg h1]
    by_cases h2:k=off+n
    ·subst h2
     have hlt:off+n<cs.size:=by omega
     rw[if_pos aA];simp[Array.getElem?_setIfInBounds,hlt]
    ·rw[if_neg aA,aPN aA]
 have:=key vs.toList 0 cs (by simpa using hle)
 rw[←Array.foldl_toList,Array.toList_zipIdx]
 simpa using this
theorem uC (vs:Array Value) (off:Nat) (cs:Array Value):(vs.zipIdx.foldl (λcs (cj:Value×Nat)=>cs.setIfInBounds (off+cj.2) cj.1) cs).size=cs.size:=by
 have key:∀ (l:List (Value×Nat)) (cs:Array Value),(l.foldl (λcs (cj:Value×Nat)=>cs.setIfInBounds (off+cj.2) cj.1) cs).size=cs.size:=by
  intro l
  induction l with
  |nil=>intro cs;rfl
  |cons v l ih=>intro cs;simp only[List.foldl_cons];rw[ih];simp
 rw[←Array.foldl_toList]
 exact key _ cs
theorem uD {α:Type} {sz:Nat}:∀ (es:List (List α)),(∀ e∈es,e.length=sz)->∀ k,k<es.length*sz->es.flatten[k]?=gT es (k / sz) (k%sz)
 | [],_,k,hk=>by simp at hk
 |e::es,hs,k,hk=>by
  have he:=hs e cK
  have hs':=λe he=>hs e (rM _ he)
  have hsz:0<sz:=by
   rcases a1J sz with h|h
   ·subst h;simp at hk
   ·exact h
  rw[aWS]
  by_cases h:k<sz
  ·rw[tW aA,a1E h,Nat.mod_eq_of_lt h];simp[gT]
  ·rw[zE aA,he,uD es hs' (k-sz) (by simp[aWU]at hk;omega)]
   have h1:k / sz=(k-sz) / sz+1:=by rw[Nat.div_eq_sub_div hsz aA]
   have h2:k%sz=(k-sz)%sz:=Nat.mod_eq_sub_mod aA
   rw[h1,h2];simp[gT]
theorem aMY {E:Env} {w:World} {sz len:Nat} {ρc:Operand->Value} (hρ:∀ x,dU E h w (ρ x) (ρc x)):∀ (ps:List (Nat×Operand)) (es:List (List aC)) (cs:Array Value),pJ len sz (ps.map λp=>(p.1,ρ p.2))=true->es.length=len->(∀ e∈es,e.length=sz) ->
  cU E h w es.flatten cs.toList->(∀ c∈cs.toList,c.oneCell'=true) ->
  ∃ cs',Instr.fill (λi=>some (i*sz,sz)) cs (ps.map λp=>(p.1,ρc p.2))=some cs'/\cU E h w (rU es (ps.map λp=>(p.1,ρ p.2))).flatten cs'.toList/\∀ c∈cs'.toList,c.oneCell'=true
 | [],es,cs,_,_,_,hL,h1=>⟨cs,rfl,hL,h1⟩
 |(i,x)::ps,es,cs,hf,hlen,hs,hL,h1=>by
  simp only[qH,pJ,lH,decide_eq_true_eq]at hf
  obtain⟨⟨⟨hi,hsz⟩,hfl⟩,hf⟩:=hf
  obtain⟨hcL,hc1⟩:=(hρ x).aCE hfl
  have hvs:(ρc x).cells.size=sz:=by have:=hcL.length;simp at this;omega
  have hcsz:cs.size=es.length*sz:=by have:=hL.length;rw[length_flatten es hs]at this;simpa using this.symm
  have hfit:i*sz+sz<=cs.size:=by
   rw[hcsz,hlen]
   have:=aUP sz (Nat.succ_le_of_lt hi)
   rw[aWU]at this;exact this
  have hget:=λk=>wI (ρc x).cells (i*sz) cs k (by rw[hvs];exact hfit)
  have hsize:=uC (ρc x).cells (i*sz) cs
  have hs':∀ e∈es.set i (ρ x).cells,e.length=sz:=λe he=>by
   rcases a1F he with h1|h1
   ·exact hs e h1
   ·rw[h1];exact hsz
  have hin:i*sz<=i*sz:=j4 _
  obtain⟨cs',r1,r2,r3⟩:=aMY hρ ps (es.set i (ρ x).cells) hf (by simpa using hlen) hs' (cs:=(ρc x).cells.zipIdx.foldl (λcs (cj:Value×Nat)=>cs.setIfInBounds (i*sz+cj.2) cj.1) cs) (by
   refine cU.mk (by rw[length_flatten _ hs',List.length_set,←hcsz,←hsize];rfl) ?_
   intro k y v hy hv
   rw[al5,hget k]at hv
   have hk:k<es.length*sz:=by have:=(jQ.1 hy).1;rw[length_flatten _ hs']at this;simpa using this
   have bJT:0<sz:=by
    rcases a1J sz with h|h
    ·subst h;simp at hk
    ·exact h
   rw[uD _ hs' k aMS]at hy
   by_cases hr:i*sz<=k/\k<i*sz+(ρc x).cells.size
   ·rw[if_pos hr]at hv
    have hd:k / sz=i:=by
     rw[hvs]at hr
     exact Nat.div_eq_of_lt_le (by rw[aJ3]at hr ⊢;omega) (by rw[aWU];omega)
    have hm:k%sz=k-i*sz:=by
     have:=a1K k sz
     rw[hd,aJ3]at this;omega
    rw[hd,hm]at hy
    unfold gT at hy
    rw[aUO (by rw[hlen];exact hi)]at hy
    exact hcL.get _ _ _ (by simpa using hy) aAR
   ·rw[if_neg hr]at hv
    have hd:k / sz≠i:=by
     intro e
     have hdm:=a1K k sz
     have:=Nat.mod_lt k bJT
     rw[e,aJ3]at hdm
     rw[hvs]at hr;omega
    unfold gT at hy
    rw[a1D (sJ hd)]at hy
    exact hL.get k _ _ (by rw[uD es hs k hk];exact hy) aAR) (by
   intro c hc
   obtain⟨k,hk⟩:=a1C hc
   rw[al5,hget k]at hk
   split at hk
   ·exact hc1 c a5Q
   ·exact h1 c a5Q)
  refine⟨cs',?_,r2,r3⟩
  simp only[qH,Instr.fill,hvs]
  rw[if_neg rN]
  exact r1
theorem wZ {E:Env} {w:World} {ρc:Operand->Value} (hρ:∀ x,dU E h w (ρ x) (ρc x)) (t et:TypeId) (len:Nat) (ps:Array (Nat×Operand)) (r re:j6) (ho:o.op=.buildSlice t len ps) (ht:fE P t=some r) (hd:r.d=.slice et) (he:fE P et=some re)
  (hz:re.zero.length=re.sz) (hz0:0<re.sz) (hf:re.zero.all aC.flat=true) (hlen:len*re.sz<=16777216) (hfill:pJ len re.sz (ps.toList.map λp=>(p.1,ρ p.2))=true) :
  ∃ (cs:Array Value),(execOp ρc o).run P w=.ok (.value (.slice (some ⟨w.heap.size,0,none⟩) len len)) (rQ w (.cells cs et) w.drawn) /\
   cU E h w (rU (List.replicate len re.zero) (ps.toList.map λp=>(p.1,ρ p.2))).flatten cs.toList/\∀ c∈cs.toList,c.oneCell'=true:=by
 obtain⟨u,hu,hud,hrun⟩:=bS (w:=w) ht
 obtain rfl:=fQ (hud.trans hd)
 have hsize:=fG (w:=w) he
 obtain⟨z,hzr,hzz⟩:=nS (w:=w) he aIX
 have hL:cU E h w re.zero z.cells.toList:=by rw[←hzz];exact oN E h w _
 have hzs:z.cells.size=re.sz:=by have:=hL.length;simp at this;omega
 have hflat:=hL.aXH aA len
 have hone:=hflat.oM (by
  rw[tK]
  intro x hx
  obtain⟨l,hl,hx⟩:=List.mem_flatten.1 hx
  rw[aUQ hl]at hx
  exact tK.1 hf x hx)
 have hs:∀ e∈List.replicate len re.zero,e.length=re.sz:=λe he=>by rw[aUQ he,hz]
 obtain⟨cs,h1,h2,h3⟩:=aMY hρ ps.toList (List.replicate len re.zero) _ hfill cK hs hflat hone
 refine⟨cs,?_,h2,h3⟩
 have hmap:(ps.map λ(i,x)=>(i,ρc x)).toList=ps.toList.map λp=>(p.1,ρc p.2):=by simp
 rw[hzs]at h1
 have n1:¬(len*re.sz > 2 ^ 24):=by simp;omega
 simp only[execOp,ho,Instr.buildSlice,Sem.run_bind,hrun,Result.andThen_ok,hsize,hmap,if_neg n1,Sem.run_ite]
 by_cases qN:len*re.sz=0
 ·have aXI:len=0:=by
   rcases Nat.mul_eq_zero.1 qN with h|h
   ·exact h
   ·omega
  subst aXI
  simp only[aWT]at h1 ⊢
  have e0:Array.range 0=#[]:=by simp
  simp only[e0,Array.map_empty]at h1 ⊢
  simp[h1,newRow,nT]
  rfl
 ·simp only[qN,if_false,Sem.run_bind,hzr,Result.andThen_ok,Sem.run_pure,hzs]
  simp[h1,newRow,nT]
  rfl
theorem aFK (t et:TypeId) (len:Nat) (ps:Array (Nat×Operand)) (r re:j6) (ho:o.op=.buildSlice t len ps) (ht:fE P t=some r) (hd:r.d=.slice et) (he:fE P et=some re)
  (hz:re.zero.length=re.sz) (hz0:0<re.sz) (hf:re.zero.all aC.flat=true) (hlen:len*re.sz<=16777216) (hfill:pJ len re.sz (ps.toList.map λp=>(p.1,ρ p.2))=true)
  (hk:∀ n,h n=none->K (.os n re.sz 0 len) (aR h n (.row re.sz ((rU (List.replicate len re.zero) (ps.toList.map λp=>(p.1,ρ p.2))).map (List.map .v))))):l9 P o ρ h K:=by
 have hs:∀ e∈List.replicate len re.zero,e.length=re.sz:=λe he=>by rw[aUQ he,hz]
 refine tP re.sz len (rU (List.replicate len re.zero) (ps.toList.map λp=>(p.1,ρ p.2))) (u9 _ _ hfill hs) hk ?_
 intro E w ρc R hρ
 obtain⟨cs,h1,h2,h3⟩:=wZ (P:=P) hρ t et len ps r re ho ht hd he hz hz0 hf hlen hfill
 have hcs:cs.size=len*re.sz:=by
  have:=h2.length
  rw[length_flatten _ (u9 _ _ hfill hs),u7]at this
  simpa using this.symm
 have:len<=len*re.sz:=Nat.le_mul_of_pos_right len hz0
 exact⟨cs,et,w.drawn,len,cs.toList,[],h1,j4 _,by unfold maxLen;omega,by omega,by simp,h2,h3⟩
theorem zL (t et:TypeId) (len:Nat) (ps:Array (Nat×Operand)) (r re:j6) (ho:o.op=.buildSlice t len ps) (ht:fE P t=some r) (hd:r.d=.slice et) (he:fE P et=some re)
  (hz:re.zero.length=re.sz) (hz0:0<re.sz) (hf:re.zero.all aC.flat=true) (hlen:len*re.sz<=16777216) (hfill:pJ len re.sz (ps.toList.map λp=>(p.1,ρ p.2))=true)
  (hk:K (.sl re.sz (rU (List.replicate len re.zero) (ps.toList.map λp=>(p.1,ρ p.2))) true) h):l9 P o ρ h K:=by
 have hs:∀ e∈List.replicate len re.zero,e.length=re.sz:=λe he=>by rw[aUQ he,hz]
 have hs':=u9 (sz:=re.sz) _ _ hfill hs
 intro E w ρc R hρ
 obtain⟨cs,h1,h2,h3⟩:=wZ (P:=P) hρ t et len ps r re ho ht hd he hz hz0 hf hlen hfill
 obtain⟨cv,c1,c2,c3⟩:=aSE (t:=et) (d:=w.drawn) R hs' (cs:=cs) (vs:=cs.toList) (rest:=[]) cK h2 h3
 refine .iC h1 ⟨_,h,E,hk,Ev.rQ _ _,R.rQ _ _,?_⟩
 have hl:(rU (List.replicate len re.zero) (ps.toList.map λp=>(p.1,ρ p.2))).length=len:=by rw[u7,List.length_replicate]
 have:len<=len*re.sz:=Nat.le_mul_of_pos_right len hz0
 have:=dU.sl (E:=E) (h:=h) (w:=Hl.rQ w (.cells cs et) w.drawn) re.sz _ true w.heap.size 0 len cv (aSD R _ _) aA (by unfold maxLen;omega) (λ_=>hl.symm) hs' c1 c2 c3
 rw[hl]at this
 exact this
end
def rJ:List (List Cell)->Option (List (List aC))
 | []=>some []
 |e::es=>match wX e,rJ es with
  |some x,some xs=>some (x::xs)
  | _,_=>none
theorem zA:∀ {es:List (List Cell)} {xs:List (List aC)},rJ es=some xs->es=xs.map (List.map .v)
 | [],xs,h=>by simp[rJ]at h;subst h;rfl
 |e::es,xs,h=>by
  unfold rJ at h
  split at h
  ·rename_i x xs' hx hxs
   obtain rfl:=eO h
   simp[zJ hx,zA hxs]
  ·simp at h
def sS (h:Heap) (sz:Nat):aC->Option (List (List aC))
 | .sl sz' ys _=>if sz'=sz then some ys else none
 | .aW=>some []
 | .str s=>if sz=1 then some (s.map λc=>[.int .u8 c.toNat])else none
 | .os m sz' j k=>match h m with
  |some (.row sz'' es)=>if sz'=sz/\sz''=sz/\j+k<=es.length then rJ ((es.drop j).take k)else none
  | _=>none
 | _=>none
theorem aFL {E:Env} {h:Heap} {w:World} {b o sz:Nat} {es:List (List aC)} (hs:∀ e∈es,e.length=sz) {cv:Nat->Nat->Value}
  (hc:∀ i j x,gT es i j=some x->w.cell? ⟨b,o+i*sz+j,none⟩=some (cv i j)) (h1:∀ i j x,gT es i j=some x->(cv i j).oneCell'=true) (hr:∀ i j x,gT es i j=some x->dU E h w x (cv i j)) :
  ∃ vs:List Value,cU E h w es.flatten vs/\(∀ c∈vs,c.oneCell'=true)/\∀ j v,vs[j]?=some v->w.cell? ((⟨b,o,none⟩:Addr).add j)=some v:=by
 have hlen:=length_flatten es hs
 refine⟨(List.range (es.length*sz)).map λk=>cv (k / sz) (k%sz),?_,?_,?_⟩
 ·refine cU.mk (by simp[hlen]) ?_
  intro k x v hx hv
  have hk:k<es.length*sz:=by rw[←hlen];exact(jQ.1 hx).1
  rw[nI,aUN hk]at hv
  obtain rfl:=eO hv
  rw[uD es hs k hk]at hx
  exact hr _ _ _ hx
 ·intro c hc'
  obtain⟨k,hk,rfl⟩:=rC.1 hc'
  have hk:k<es.length*sz:=by simpa using hk
  have hx:es.flatten[k]?=some (es.flatten[k]'aA):=cP aA
  rw[uD es hs k hk]at hx
  exact h1 _ _ _ hx
 ·intro k v hv
  have hk:k<es.length*sz:=by have:=(jQ.1 hv).1;simpa using this
  rw[nI,aUN hk]at hv
  obtain rfl:=eO hv
  have hx:es.flatten[k]?=some (es.flatten[k]'aA):=cP aA
  rw[uD es hs k hk]at hx
  rw[addr_add,←hc _ _ _ hx]
  congr 2
  have:=a1K k sz
  rw[aJ3]at this;omega
theorem zM {w w':World} (h:w'.heap=w.heap) (a:Addr):w'.cell? a=w.cell? a:=by simp only[World.cell?,h]
def aXJ (P:Program) (E:Env) (h:Heap) (w:World) (sz:Nat) (ys:List (List aC)) (v:Value):Prop :=
  ∃ news:List Value,(∀ e∈ys,e.length=sz)/\(∀ w',(Builtin.lenOf v).run P w'=.ok ys.length w')/\(∀ w',w'.heap=w.heap->(Builtin.firstCells sz ys.length v).run P w'=.ok news.toArray w') /\
   cU E h w ys.flatten news/\(∀ c∈news,c.oneCell'=true)/\ys.length<=maxLen
theorem aEK {P:Program} {E:Env} {h:Heap} {w:World} (R:Rel E h w) {sz:Nat} {x:aC} {v:Value} {ys:List (List aC)} (hx:sS h sz x=some ys) (r:dU E h w x v):aXJ P E h w sz ys v:=by
 unfold sS at hx
 have slices:∀ (b o len cap:Nat) (cv:Nat->Nat->Value),v=.slice (some ⟨b,o,none⟩) len cap->len=ys.length->len<=maxLen->(∀ e∈ys,e.length=sz)->(∀ i j x,gT ys i j=some x->w.cell? ⟨b,o+i*sz+j,none⟩=some (cv i j)) ->
   (∀ i j x,gT ys i j=some x->(cv i j).oneCell'=true)->(∀ i j x,gT ys i j=some x->dU E h w x (cv i j))->aXJ P E h w sz ys v:=by
  intro b o len cap cv hv hl hmax hs hc h1 hr
  obtain⟨vs,hL,hone,hcell⟩:=aFL hs hc h1 hr
  refine⟨vs,hs,λw'=>by rw[hv,←hl];simp[Builtin.lenOf],λw' hw=>?_,hL,hone,by omega⟩
  rw[hv]
  refine run_firstCells_some w' sz ys.length _ _ _ vs (by rw[←hL.length,length_flatten ys hs]) λj u hu=>?_
  rw[zM hw];exact hcell j u hu
 split at hx
 ·rename_i sz' ys' t
  split at hx
  ·rename_i e
   subst e
   obtain rfl:=eO hx
   cases r with
   |y6 _ _ a cap ht hmax ha =>
    refine⟨[],by simp,λw'=>by simp[Builtin.lenOf],λw' hw=>?_,trivial,by simp,by simp⟩
    cases a with
    |none=>simp[Builtin.firstCells]
    |some a=>simp[Builtin.firstCells,loadCells,loadCellsFrom]
   |sl _ _ _ b o cap cv hi hcap hmax ht hs hc h1 hr=>exact slices b o _ _ cv rfl rfl aA hs hc h1 hr
  ·simp at hx
 ·obtain rfl:=eO hx
  cases r
  exact⟨[],by simp,λw'=>by simp[Builtin.lenOf],λw' hw=>by simp[Builtin.firstCells],trivial,by simp,by simp⟩
 ·rename_i s
  split at hx
  ·rename_i e
   subst e
   obtain rfl:=eO hx
   cases r with
   |str _ hl =>
    refine⟨s.map λc=>.int .u8 c.toNat,by simp,λw'=>by simp[Builtin.lenOf,ByteArray.size],λw' hw=>?_,?_,by simp[Value.oneCell'],by simpa using hl⟩
    ·simp only[Builtin.firstCells,iG]
     have:(ByteArray.mk s.toArray).extract 0 s.length=⟨s.toArray⟩:=by
      apply ByteArray.ext
      rw[ByteArray.data_extract];simp
     rw[this];simp
    ·refine cU.mk (by rw[length_flatten (sz:=1) _ cK];simp) ?_
     have:∀ (s:List UInt8),(s.map λc=>[aC.int .u8 c.toNat]).flatten=s.map λc=>aC.int .u8 c.toNat:=λs=>by
      induction s with
      |nil=>rfl
      |cons c s ih=>simp[ih]
     rw[this]
     intro i x v hx hv
     rw[nI]at hx hv
     obtain⟨c,hc,rfl⟩:=nJ.1 hx
     rw[hc]at hv
     obtain rfl:=eO hv
     exact .int _ _
  ·simp at hx
 ·rename_i m sz' j k
  split at hx
  ·rename_i sz'' es hm
   split at hx
   ·rename_i e
    obtain⟨rfl,rfl,hjk⟩:=e
    have hpl:=zA hx
    have hlen:ys.length=k:=by have:=congrArg List.length hpl;simp at this;omega
    cases r with
    |os0 _ _ hd hl =>
     have:ys=[]:=aE8.1 hlen
     subst this
     exact⟨[],by simp,λw'=>by simp[Builtin.lenOf],λw' hw=>by simp[Builtin.firstCells],trivial,by simp,by simp⟩
    |os _ _ _ _ b o cap t mm hd hl hlc hmax hsh hm' =>
     obtain⟨b',o',hl',hbS,hs,cs,ct,cv,T,hh,hmm,hT,hD,hc,hrr⟩:=wY R hm (.inr ⟨_,hl⟩)
     rw[hl]at hl'
     obtain⟨rfl,rfl⟩:=aJ2 (eO hl')
     have hat:∀ i' j' y,gT ys i' j'=some y->gT es (j+i') j'=some (.v y):=by
      intro i' j' y hy
      have h1:gT (ys.map (List.map Cell.v)) i' j'=some (.v y):=by rw[pU,hy];rfl
      rw[←hpl]at h1
      obtain⟨e,h2,h3⟩:=kF h1
      have hlt:i'<k:=by have:=(jQ.1 h2).1;simp at this;omega
      rw[aJ1 hlt,aME]at h2
      simp[gT,h2,h3]
     refine slices b _ k cap (λi' j'=>cv (j+i') j') rfl hlen.symm aA ?_ ?_ ?_ ?_
     ·intro e he
      have:e.map Cell.v∈(es.drop j).take k:=by rw[hpl];exact rC.2 ⟨e,he,rfl⟩
      have:=hs _ (aWX (aJ4 this))
      simpa using this
     ·intro i' j' y hy
      have:=hc _ _ _ (hat i' j' y hy)
      simp only[World.cell?,hh,a1L,aJ0,if_false]
      rw[←this];congr 1;rw[sI];omega
     ·intro i' j' y hy;exact(hrr _ _ _ (hat i' j' y hy)).one
     ·intro i' j' y hy
      have:=hrr _ _ _ (hat i' j' y hy)
      generalize cv (j+i') j'=c at this
      generalize T (j+i') j'=S at this
      cases this with
      |v _ _ _ _ hx=>exact hx
   ·simp at hx
  ·simp at hx
 ·simp at hx
def a7N (P:Program) (t:TypeId):Option TyD:=(fE P t).map (·.d)
def w6 (P:Program) (t:Option TypeId):Bool :=
 match t with
 |some t=>match a7N P t with
  |some (.slice _)=>true
  |some .str=>true
  | _=>false
 |none=>false
theorem aCH {P:Program} {w:World} {t:Option TypeId} (h:w6 P t=true) :
  ∃ t',t=some t'/\((∃ e,(underlying t').run P w=.ok (.slice e) w)∨(underlying t').run P w=.ok .string w):=by
 unfold w6 at h
 cases t with
 |none=>simp at h
 |some t =>
  refine⟨t,rfl,?_⟩
  simp only[a7N]at h
  cases hr:fE P t with
  |none=>simp[hr]at h
  |some r =>
   simp only[hr,aD4]at h
   obtain⟨u,hu,hud,hrun⟩:=bS (w:=w) hr
   split at h
   ·rename_i e he
    obtain rfl:=fQ (hud.trans (eO he))
    exact .inl ⟨e,hrun⟩
   ·rename_i he
    obtain rfl:=aAU (hud.trans (eO he))
    exact .inr hrun
   ·simp at h
section
variable {P:Program} {o:Oper} {ρ:Operand->aC} {h:Heap} {K:aC->Heap->Prop}
theorem w9 {w:World} {t et:TypeId} {t1:Option TypeId} {r re:j6} (ht:fE P t=some r) (hd:r.d=.slice et) (he:fE P et=some re) (h1:w6 P t1=true) (ats:Array TypeId) (a0:ats[0]?=some t) (a1:ats[1]?=t1) (ty:TypeId)
  {base:Option Addr} {sLen sCap n:Nat} {v:Value} {olds news:List Value} {z:Value} (hz:(∀ w,(zeroValue et).run P w=.ok z w)) (hlen:∀ w',(Builtin.lenOf v).run P w'=.ok n w')
  (hold:∀ w',w'.heap=w.heap->(Builtin.firstCells re.sz sLen (.slice base sLen sCap)).run P w'=.ok olds.toArray w') (hnew:∀ w',w'.heap=w.heap->(Builtin.firstCells re.sz n v).run P w'=.ok news.toArray w')
  (hg:sCap<sLen+n) (hb:(sLen+n)*re.bytes<=140737488355328) (hmax:sLen+n<=maxLen) :
  ∃ cap d,sLen+n<=cap/\cap<=maxLen/\(Builtin.append_ ats ty #[.slice base sLen sCap,v]).run P w =
   .ok (.slice (some ⟨w.heap.size,0,none⟩) (sLen+n) cap) (rQ w (.cells ((olds++news).toArray++Builtin.zeroCells z.cells (cap-(sLen+n))) et) d):=by
 obtain⟨u,hu,hud,hrun⟩:=bS (w:=w) ht
 obtain rfl:=fQ (hud.trans hd)
 have hsize:∀ w,(sizeOf et).run P w=.ok re.sz w:=λw=>fG he
 obtain⟨i,u',hi,hu',hsz,hby,_⟩:=pX he
 obtain⟨t',rfl,hu1⟩:=aCH (w:=w) h1
 have hti:∀ w,(typeInfo et).run P w=.ok i w:=λw=>by simp[typeInfo,hi]
 have hge:=grownCap_ge w (sLen+n) sCap et
 have hcm:=grownCap_le_maxLen w (sLen+n) sCap et hmax
 refine⟨grownCap w (sLen+n) sCap et,w.drawn+1,hge,hcm,?_⟩
 have hml:maxLen=9223372036854775807:=rfl
 have n1:¬(sLen+n<=sCap):=by omega
 have n3:¬(281474976710656<Builtin.nextslicecap (sLen+n) sCap*i.bytes):=by
  have:=growslice_fits hg (by rw[←hby];exact hb:(sLen+n)*i.bytes<=140737488355328)
  omega
 have n2:¬(9223372036854775807<((sLen:Int)+(n:Int))):=by omega
 have hw:(w.drew).heap=w.heap:=rfl
 have hassoc:∀ zc:Array Value,olds.toArray++(news.toArray++zc)=(olds++news).toArray++zc:=λzc=>by apply Array.ext';simp
 rcases hu1 with⟨e,hu1⟩|hu1
 ·simp[Builtin.append_,a0,a1,hrun,hsize,hu1,hlen,n1,n2,n3,hti,Question.forced,grownCap,hold _ hw,hnew _ hw,hz,newRow,hassoc]
  rfl
 ·simp[Builtin.append_,a0,a1,hrun,hsize,hu1,hlen,n1,n2,n3,hti,Question.forced,grownCap,hold _ hw,hnew _ hw,hz,newRow,hassoc]
  rfl
end
section
variable {P:Program} {o:Oper} {ρ:Operand->aC} {h:Heap} {K:aC->Heap->Prop}
theorem nU {ρc:Operand->Value} {w:World} (x y:Operand) (ats:Array TypeId) (ho:o.op=.call { callee:=.builtin .append,args:=#[x,y],argTypes:=ats }) :
  (execOp ρc o).run P w=((Builtin.append_ ats o.type #[ρc x,ρc y]).run P w).andThen λv w'=>.ok (.value v) w':=by
 simp[execOp,ho,resolve,invoke,builtin]
def aA0 (sz:Nat):aC->Option (List (List aC))
 | .aW=>some []
 | .sl sz' es true=>if sz'=sz then some es else none
 | _=>none
theorem zN (z:Array Value) (n:Nat):(Builtin.zeroCells z n).size=n*z.size:=by simp[Builtin.zeroCells]
theorem aFM (x y:Operand) (ats:Array TypeId) (t et:TypeId) (r re:j6) (olds ys:List (List aC)) (ho:o.op=.call { callee:=.builtin .append,args:=#[x,y],argTypes:=ats })
  (a0:ats[0]?=some t) (ht:fE P t=some r) (hd:r.d=.slice et) (he:fE P et=some re) (hz:re.zero.length=re.sz) (hz0:0<re.sz) (h1:w6 P ats[1]?=true)
  (hx:aA0 re.sz (ρ x)=some olds) (hy:sS h re.sz (ρ y)=some ys) (hne:ys≠[]) (hb:(olds.length+ys.length)*re.bytes<=140737488355328) (hmax:olds.length+ys.length<=9223372036854775807)
  (hk:∀ n,h n=none->K (.os n re.sz 0 (olds.length+ys.length)) (aR h n (.row re.sz ((olds++ys).map (List.map .v))))):l9 P o ρ h K:=by
 have hml:maxLen=9223372036854775807:=rfl
 have aXI:0<ys.length:=aJ5.2 hne
 have dst:∀ E w v,dU E h w (ρ x) v->∃ (base:Option Addr) (cap:Nat) (vs:List Value),v=.slice base olds.length cap/\cap<olds.length+ys.length/\(∀ e∈olds,e.length=re.sz)/\cU E h w olds.flatten vs/\(∀ c∈vs,c.oneCell'=true) /\
   ∀ w',w'.heap=w.heap->(Builtin.firstCells re.sz olds.length (.slice base olds.length cap)).run P w'=.ok vs.toArray w':=by
  intro E w v hr
  unfold aA0 at hx
  split at hx
  ·rename_i hxv
   obtain rfl:=eO hx
   rw[hxv]at hr
   cases hr
   exact⟨none,0,[],rfl,by simpa using aXI,by simp,trivial,by simp,λw' _=>by simp[Builtin.firstCells]⟩
  ·rename_i sz' es hxv
   split at hx
   ·rename_i e
    obtain rfl:=eO hx
    rw[hxv]at hr
    cases hr with
    |y6 _ _ a cap htt hm ha =>
     have:=htt rfl
     refine⟨_,_,[],rfl,by simp;omega,by simp,trivial,by simp,λw' _=>?_⟩
     cases a <;> simp[Builtin.firstCells,loadCells,loadCellsFrom]
    |sl _ _ _ b o' cap cv hI hcap hm htt hs hc hone hrr =>
     have:=htt rfl
     subst e
     obtain⟨vs,hL,hv1,hcell⟩:=aFL hs hc hone hrr
     refine⟨_,_,vs,rfl,by omega,hs,hL,hv1,λw' hw=>?_⟩
     refine run_firstCells_some w' _ _ _ _ _ vs (by rw[←hL.length,length_flatten _ hs]) λj u hu=>?_
     rw[zM hw];exact hcell j u hu
   ·simp at hx
  ·simp at hx

 intro E w ρc R hρ
 obtain⟨base,cap,vs,hv,hcap,hso,hLo,hv1,hfo⟩:=dst E w _ (hρ x)
 obtain⟨news,hsn,hlen,hfn,hLn,hn1,_⟩:=aEK (P:=P) R hy (hρ y)
 have hs:∀ e∈olds++ys,e.length=re.sz:=λe he=>by
  rcases mS.1 he with h|h
  ·exact hso e h
  ·exact hsn e h
 refine tP re.sz (olds.length+ys.length) (olds++ys) hs hk ?_ E w ρc R hρ
 intro E w ρc R hρ
 obtain⟨base,cap,vs,hv,hcap,hso,hLo,hv1,hfo⟩:=dst E w _ (hρ x)
 obtain⟨news,hsn,hlen,hfn,hLn,hn1,_⟩:=aEK (P:=P) R hy (hρ y)
 obtain⟨z,hzr,hzz⟩:=nS (w:=w) he aIX
 have hzr':∀ w,(zeroValue et).run P w=.ok z w:=by
  intro w'
  obtain⟨z',hzr',hzz'⟩:=nS (w:=w') he aIX
  have:z'=z:=by
   obtain⟨i,u,hi,_⟩:=pX he
   simp only[zeroValue,typeInfo,Sem.run_bind,run_program,Result.andThen_ok,hi,Sem.run_pure]at hzr hzr'
   cases hiz:i.zero with
   |none=>simp[hiz]at hzr
   |some z0=>simp[hiz]at hzr hzr';rw[←hzr,←hzr']
  rw[←this];exact hzr'
 have hzs:z.cells.size=re.sz:=by have:=congrArg List.length hzz;simp[hz]at this;exact this
 obtain⟨ncap,d,g1,g2,grun⟩:=w9 (w:=w) (t1:=ats[1]?) ht hd he h1 ats a0 rfl o.type (base:=base) (sLen:=olds.length) (sCap:=cap) (n:=ys.length) (v:=ρc y) (olds:=vs) (news:=news) (z:=z) hzr' hlen hfo hfn hcap hb aA
 refine⟨(vs++news).toArray++Builtin.zeroCells z.cells (ncap-(olds.length+ys.length)),et,d,ncap,vs++news,(Builtin.zeroCells z.cells (ncap-(olds.length+ys.length))).toList,?_,g1,g2,?_,by simp,by rw[List.flatten_append];exact hLo.append hLn,λc hc=>?_⟩
 ·rw[nU x y ats ho,hv,grun];rfl
 ·have e1:=hLo.length
  have e2:=hLn.length
  rw[length_flatten _ hso]at e1
  rw[length_flatten _ hsn]at e2
  rw[a7H,zN,hzs,a7I,k8,←e1,←e2,←sI,←sI]
  have:olds.length+ys.length+(ncap-(olds.length+ys.length))=ncap:=by omega
  rw[this];exact j4 _
 ·rcases mS.1 hc with h|h
  ·exact hv1 c h
  ·exact hn1 c h
theorem aD7 (x y:Operand) (ats:Array TypeId) (t et:TypeId) (r re:j6) (ho:o.op=.call { callee:=.builtin .append,args:=#[x,y],argTypes:=ats })
  (a0:ats[0]?=some t) (ht:fE P t=some r) (hd:r.d=.slice et) (he:fE P et=some re) (h1:w6 P ats[1]?=true)
  (hx:(aA0 re.sz (ρ x)).isSome=true) (hy:sS h re.sz (ρ y)=some []) (hk:K (ρ x) h):l9 P o ρ h K :=
 bV hk λE w ρc R hρ=>by
  obtain⟨news,hsn,hlen,hfn,hLn,hn1,_⟩:=aEK (P:=P) R hy (hρ y)
  have hnil:news=[]:=by have:=hLn.length;simp at this;exact aE8.1 this.symm
  subst hnil
  obtain⟨u,hu,hud,hrun⟩:=bS (w:=w) ht
  obtain rfl:=fQ (hud.trans hd)
  have hsize:∀ w,(sizeOf et).run P w=.ok re.sz w:=λw=>fG he
  have dst:∃ (base:Option Addr) (n cap:Nat),ρc x=.slice base n cap/\n<=cap:=by
   have hr:=hρ x
   unfold aA0 at hx
   split at hx
   ·rename_i e;rw[e]at hr;generalize ρc x=v at hr ⊢;cases hr;exact⟨none,0,0,rfl,j4 _⟩
   ·rename_i e;rw[e]at hr;generalize ρc x=v at hr ⊢
    cases hr with
    |y6=>exact⟨_,_,_,rfl,gM _⟩
    |sl=>exact⟨_,_,_,rfl,by assumption⟩
   ·cases hx
  obtain⟨base,n,cap,hv,hc⟩:=dst
  obtain⟨t',ht',hu1⟩:=aCH (w:=w) h1
  refine⟨ρc x,?_,hρ x⟩
  have hfn':=hfn w rfl
  have hlen':=hlen w
  simp only[yZ]at hfn' hlen'
  rw[nU x y ats ho,hv]
  rcases hu1 with⟨e,hu1⟩|hu1
  ·cases base <;> simp[Builtin.append_,a0,ht',hrun,hsize,hu1,hlen',hc,hfn',storeCells]
  ·cases base <;> simp[Builtin.append_,a0,ht',hrun,hsize,hu1,hlen',hc,hfn',storeCells]
end
def Env.mv (E:Env) (b:Nat) (l:Option (Nat×Nat)) (S:Nat->Prop):Env where
 loc:=λm=>if m=b then l else E.loc m
 fp:=λm c=>if m=b then S c else E.fp m c
 used:=λm=>m=b∨E.used m
theorem Ev.mv {E:Env} {h:Heap} {w w':World} (R:Rel E h w) {n:Nat} {x:bW} (hn:h n=some x) (hx:x.live) {b:Nat} (hb:¬E.used b) (l:Option (Nat×Nat)) (S:Nat->Prop) (x':bW)
  (hS:∀ c,S c->E.fp n c∨w.heap.size<=c) (hsize:w.heap.size<=w'.heap.size) (hheap:∀ c,c<w.heap.size->¬E.fp n c->w'.heap[c]?=w.heap[c]?) (hsh:∀ c,c<w.heap.size->w'.shape? c=w.shape? c) (hos:w'.os=w.os) (hout:w'.output=w.output) :
  Ev E h w (E.mv b l S) (aR (aR h n .gone) b x') w':=by
 have hnb:n≠b:=λe=>hb (e▸R.dom n aFG)
 refine⟨hsize,λc hc=>⟨hheap c hc.1 (hc.2 n x hn hx),⟨by have:=hc.1;omega,?_⟩⟩,hsh,λm hm=>?_,hos,hout⟩
 ·intro m y hm hy hf
  by_cases e:m=b
  ·subst e
   have hf:S c:=by simpa[Env.mv]using hf
   rcases hS c hf with h1|h1
   ·exact hc.2 n x hn hx h1
   ·have:=hc.1;omega
  ·rw[aE _ _ _ _ e]at hm
   have hf:E.fp m c:=by simpa[Env.mv,e]using hf
   by_cases e2:m=n
   ·subst e2;rw[aH]at hm;obtain rfl:=eO hm;exact hy.elim
   ·rw[aE _ _ _ _ e2]at hm;exact hc.2 m y hm hy hf
 ·have e:m≠b:=λe=>hb (e▸hm)
  exact⟨by simp[Env.mv,e],.inr hm⟩
theorem Rel.mv {E:Env} {h:Heap} {w w':World} (R:Rel E h w) {n:Nat} {x:bW} (hn:h n=some x) (hx:x.live) {b:Nat} (hb:¬E.used b) (l:Option (Nat×Nat)) (S:Nat->Prop) (x':bW)
  (hS:∀ c,S c->E.fp n c∨w.heap.size<=c) (hS':∀ c,S c->c<w'.heap.size) (hsize:w.heap.size<=w'.heap.size) (hheap:∀ c,c<w.heap.size->¬E.fp n c->w'.heap[c]?=w.heap[c]?) (hsh:∀ c,c<w.heap.size->w'.shape? c=w.shape? c) (hos:w'.os=w.os) (hout:w'.output=w.output)
  (hO:zI (E.mv b l S) (aR (aR h n .gone) b x') w' b x'):Rel (E.mv b l S) (aR (aR h n .gone) b x') w':=by
 have ev:=Ev.mv R hn hx hb l S x' hS hsize hheap hsh hos hout
 have hnb:n≠b:=λe=>hb (e▸R.dom n aFG)
 have hcase:∀ m y,aR (aR h n .gone) b x' m=some y->y.live->(m=b/\y=x')∨(m≠b/\m≠n/\h m=some y):=by
  intro m y hm hy
  by_cases e:m=b
  ·subst e;rw[aH]at hm;exact .inl ⟨rfl,(eO hm).symm⟩
  ·rw[aE _ _ _ _ e]at hm
   by_cases e2:m=n
   ·subst e2;rw[aH]at hm;obtain rfl:=eO hm;exact hy.elim
   ·rw[aE _ _ _ _ e2]at hm;exact .inr ⟨e,e2,hm⟩
 refine⟨?_,?_,?_,?_,?_,R.laid.ev ev⟩
 ·obtain⟨N,hN⟩:=R.fin
  exact ⟨max N (b + 1), fun m hm => by rintro (e | e); · omega
                                       · exact hN m aA e⟩
 ·intro m hm
  by_cases e:m=b
  ·exact .inl e
  ·rw[aE _ _ _ _ e]at hm
   by_cases e2:m=n
   ·subst e2;exact .inr (R.dom m aFG)
   ·rw[aE _ _ _ _ e2]at hm;exact .inr (R.dom m hm)
 ·intro m y c hm hy hf
  rcases hcase m y hm hy with⟨rfl,rfl⟩|⟨e,e2,hm'⟩
  ·exact hS' c (by simpa[Env.mv]using hf)
  ·have:=R.lt m y c hm' hy (by simpa[Env.mv,e]using hf);omega
 ·intro m y m' y' c hm hy hm' hy' hf hf'
  rcases hcase m y hm hy with⟨rfl,rfl⟩|⟨e,e2,h1⟩ <;> rcases hcase m' y' hm' hy' with⟨rfl,rfl⟩|⟨e',e2',h1'⟩
  ·rfl
  ·have hf:S c:=by simpa[Env.mv]using hf
   have hf':E.fp m' c:=by simpa[Env.mv,e']using hf'
   rcases hS c hf with h2|h2
   ·exact absurd (R.apart n x m' y' c hn hx h1' hy' h2 hf').symm e2'
   ·have:=R.lt m' y' c h1' hy' hf';omega
  ·have hf':S c:=by simpa[Env.mv]using hf'
   have hf:E.fp m c:=by simpa[Env.mv,e]using hf
   rcases hS c hf' with h2|h2
   ·exact absurd (R.apart n x m y c hn hx h1 hy h2 hf).symm e2
   ·have:=R.lt m y c h1 hy hf;omega
  ·exact R.apart m y m' y' c h1 hy h1' hy' (by simpa[Env.mv,e]using hf) (by simpa[Env.mv,e']using hf')
 ·intro m y hm
  by_cases e:m=b
  ·subst e;rw[aH]at hm;obtain rfl:=eO hm;exact hO
  ·rw[aE _ _ _ _ e]at hm
   by_cases e2:m=n
   ·subst e2;rw[aH]at hm;obtain rfl:=eO hm;trivial
   ·rw[aE _ _ _ _ e2]at hm
    refine(R.obj m y hm).ev ev (by simp[Env.mv,e]) (by funext c;simp[Env.mv,e]) λc hy hc=>hheap c (R.lt m y c hm hy hc) λhf=>e2 (R.apart m y n x c hm hy hn hx hc hf)
theorem aFN {α:Type} {a b:List (List α)} {i j:Nat} {x:α} (h:gT (a++b) i j=some x):(i<a.length/\gT a i j=some x)∨(a.length<=i/\gT b (i-a.length) j=some x):=by
 unfold gT at *
 by_cases hi:i<a.length
 ·rw[tW hi]at h;exact .inl ⟨hi,h⟩
 ·rw[zE aA]at h;exact .inr ⟨by omega,h⟩
theorem aI8 {α:Type} {es:List (List α)} {i len k j:Nat} {x:α} (h:gT ((es.drop i).take len) k j=some x):k<len/\gT es (i+k) j=some x:=by
 obtain⟨e,h1,h2⟩:=kF h
 have hlt:k<len:=by have:=(jQ.1 h1).1;simp at this;omega
 rw[aJ1 hlt,aME]at h1
 exact⟨hlt,by simp[gT,h1,h2]⟩
theorem aMZ {ys:List (List aC)} {i j:Nat} {x:Cell} (h:gT (ys.map (List.map Cell.v)) i j=some x):∃ y,gT ys i j=some y/\x=.v y:=by
 rw[pU]at h
 obtain⟨y,hy,rfl⟩:=nJ.1 h
 exact⟨y,hy,rfl⟩
theorem aSG {E:Env} {h:Heap} {w:World} {ys:List (List aC)} {sz:Nat} (hs:∀ e∈ys,e.length=sz) {vs:List Value} (hL:cU E h w ys.flatten vs) (h1:∀ c∈vs,c.oneCell'=true) {i j:Nat} {y:aC} (hy:gT ys i j=some y) :
  ∃ c,vs[i*sz+j]?=some c/\dU E h w y c/\c.oneCell'=true:=by
 have hlt:=sR hs hy
 have hlen:vs.length=ys.length*sz:=by rw[←hL.length,length_flatten ys hs]
 have hv:vs[i*sz+j]?=some (vs[i*sz+j]'aA):=cP aA
 exact⟨_,hv,hL.get _ _ _ (sQ ys hs i j y hy) hv,h1 _ (eF _)⟩
theorem vA {E E':Env} {h h':Heap} {w w':World} (ev:Ev E h w E' h' w') {b₀ sz i len:Nat} {es:List (List Cell)} {S:Nat->Prop} (hs:∀ e∈es,e.length=sz) {cv:Nat->Nat->Value} {T:Nat->Nat->Nat->Prop}
  (hT:∀ i j c,T i j c->S c/\c≠b₀) (hD:∀ i j i' j' c,T i j c->T i' j' c->i=i'/\j=j') (hrr:∀ i j x,gT es i j=some x->tN E h w x (cv i j) (T i j)) (hle:i+len<=es.length)
  {ys:List (List aC)} (hsn:∀ e∈ys,e.length=sz) {news:List Value} (hLn:cU E h w ys.flatten news) (hn1:∀ c∈news,c.oneCell'=true)
  {blk o:Nat} {S':Nat->Prop} {cs:Array Value} {ct:TypeId} (hb:S' blk) (hS':∀ c,S c->c≠b₀->S' c/\c≠blk) (hkeep:∀ c,S c->c≠b₀->w'.heap[c]?=w.heap[c]?) (hh:w'.heap[blk]?=some (.cells cs ct (0,0))) (hm:o+(len+ys.length)*sz<=cs.size)
  (hold:∀ k j x,k<len->gT es (i+k) j=some x->cs[o+k*sz+j]?=some (cv (i+k) j)) (hnew:∀ k,k<ys.length*sz->cs[o+len*sz+k]?=news[k]?) :
  aI2 E' h' w' blk o sz ((es.drop i).take len++ys.map (List.map .v)) S':=by
 have hlen:((es.drop i).take len).length=len:=by simp;omega
 have hnl:news.length=ys.length*sz:=by rw[←hLn.length,length_flatten ys hsn]
 refine⟨hb,?_,cs,ct,λk j=>if k<len then cv (i+k) j else(news[(k-len)*sz+j]?).getD undef,λk j c=>k<len/\T (i+k) j c,hh,?_,?_,?_,?_,?_⟩
 ·intro e he
  rcases mS.1 he with h1|h1
  ·exact hs e (aWX (aJ4 h1))
  ·obtain⟨e',he',rfl⟩:=rC.1 h1
   simpa using hsn e' he'
 ·simpa[hlen]using hm
 ·intro k j c ⟨_,hc⟩
  obtain⟨h1,h2⟩:=hT _ _ c hc
  exact hS' c h1 h2
 ·intro k j k' j' c ⟨_,hc⟩ ⟨_,hc'⟩
  have:=hD _ _ _ _ c hc hc'
  exact⟨by omega,this.2⟩
 ·intro k j x hx
  rcases aFN hx with⟨h1,h2⟩|⟨h1,h2⟩
  ·obtain⟨h3,h4⟩:=aI8 h2
   simp only[if_pos h3];exact hold k j x h3 h4
  ·rw[hlen]at h1 h2
   obtain⟨y,hy,rfl⟩:=aMZ h2
   simp only[if_neg (show ¬k<len by omega)]
   obtain⟨c,hc,_,_⟩:=aSG hsn hLn hn1 hy
   have hlt:=sR hsn hy
   have:=hnew ((k-len)*sz+j) hlt
   rw[hc]at this ⊢
   rw[aD5,←this]
   congr 1
   have:k*sz=len*sz+(k-len)*sz:=by rw[←sI];congr 1;omega
   omega
 ·intro k j x hx
  rcases aFN hx with⟨h1,h2⟩|⟨h1,h2⟩
  ·obtain⟨h3,h4⟩:=aI8 h2
   simp only[if_pos h3]
   refine((hrr _ _ _ h4).ev ev λc hc=>?_).mono λc hc=>⟨h3,hc⟩
   obtain⟨h5,h6⟩:=hT _ _ c hc
   exact hkeep c h5 h6
  ·rw[hlen]at h1 h2
   obtain⟨y,hy,rfl⟩:=aMZ h2
   simp only[if_neg (show ¬k<len by omega)]
   obtain⟨c,hc,hr,hone⟩:=aSG hsn hLn hn1 hy
   rw[hc]
   exact .v _ _ _ hone (hr.ev ev)
section
variable {P:Program} {o:Oper} {ρ:Operand->aC} {h:Heap} {K:aC->Heap->Prop}
theorem aH8 (x y:Operand) (ats:Array TypeId) (t et:TypeId) (r re:j6) (n sz i len:Nat) (es:List (List Cell)) (ys:List (List aC)) (ho:o.op=.call { callee:=.builtin .append,args:=#[x,y],argTypes:=ats })
  (a0:ats[0]?=some t) (ht:fE P t=some r) (hd:r.d=.slice et) (he:fE P et=some re) (hz:re.zero.length=re.sz) (hz0:0<re.sz) (h1:w6 P ats[1]?=true)
  (hx:ρ x=.os n sz i len) (hsz:re.sz=sz) (hn:h n=some (.row sz es)) (hle:i+len<=es.length) (hy:sS h sz (ρ y)=some ys) (hb:(len+ys.length)*re.bytes<=140737488355328) (hmax:len+ys.length<=9223372036854775807)
  (hk:∀ b,h b=none->K (.os b sz 0 (len+ys.length)) (aR (aR h n .gone) b (.row sz ((es.drop i).take len++ys.map (List.map .v))))):l9 P o ρ h K:=by
 have hml:maxLen=9223372036854775807:=rfl
 subst hsz
 intro E w ρc R hρ
 obtain⟨news,hsn,hlen,hfn,hLn,hn1,_⟩:=aEK (P:=P) R hy (hρ y)
 have hnl:news.length=ys.length*re.sz:=by rw[←hLn.length,length_flatten ys hsn]
 obtain⟨b,hbu⟩:=R.fresh
 have hK:=hk b (R.none hbu)
 obtain⟨u,hu,hud,hrun⟩:=bS (w:=w) ht
 obtain rfl:=fQ (hud.trans hd)
 have hsize:∀ w,(sizeOf et).run P w=.ok re.sz w:=λw=>fG he
 obtain⟨t',ht',hu1⟩:=aCH (w:=w) h1
 obtain⟨z,hzr,hzz⟩:=nS (w:=w) he aIX
 have hzr':∀ w,(zeroValue et).run P w=.ok z w:=by
  intro w'
  obtain⟨z',hzr',hzz'⟩:=nS (w:=w') he aIX
  have:z'=z:=by
   obtain⟨i,u,hi,_⟩:=pX he
   simp only[zeroValue,typeInfo,Sem.run_bind,run_program,Result.andThen_ok,hi,Sem.run_pure]at hzr hzr'
   cases hiz:i.zero with
   |none=>simp[hiz]at hzr
   |some z0=>simp[hiz]at hzr hzr';rw[←hzr,←hzr']
  rw[←this];exact hzr'
 have hzs:z.cells.size=re.sz:=by have:=congrArg List.length hzz;simp[hz]at this;exact this
 have hr:=hρ x
 rw[hx]at hr
 cases hv:ρc x <;> rw[hv]at hr <;> try(cases hr;done)
 cases hr with
 |os0 _ _ hd0 qN =>
  have hes:es=[]:=by
   rcases R.obj n _ hn with⟨b0,o0,h0,_⟩|⟨h0,_⟩
   ·rw[qN]at h0;simp at h0
   ·exact h0
  subst hes
  by_cases hys:ys=[]
  ·subst hys
   have hnn:news=[]:=aE8.1 (by simpa using hnl)
   have hrunA:(execOp ρc o).run P w=.ok (.value (.slice none 0 0)) w:=by
    rw[nU x y ats ho,hv]
    have eP:=hfn w rfl
    have qN:=hlen w
    simp only[yZ]at eP qN
    rcases hu1 with⟨e,hu1⟩|hu1 <;> simp[Builtin.append_,a0,ht',hrun,hsize,hu1,qN,eP,storeCells]
   have evm:=Ev.mv R hn trivial hbu none (λ_=>False) (.row re.sz []) (λ_ hf=>hf.elim) (j4 _) (λ_ _ _=>rfl) (λ_ _=>rfl) rfl rfl
   have Rm:=Rel.mv R hn trivial hbu none (λ_=>False) (.row re.sz []) (λ_ hf=>hf.elim) (λ_ hf=>hf.elim) (j4 _) (λ_ _ _=>rfl) (λ_ _=>rfl) rfl rfl (.inr ⟨rfl,by simp[Env.mv]⟩)
   refine .iC hrunA ⟨_,_,E.mv b none (λ_=>False),hK,?_,?_,?_⟩
   ·exact evm
   ·exact Rm
   ·exact .os0 b re.sz (.inl rfl) (by simp[Env.mv])
  ·have hpos:0<ys.length:=aJ5.2 hys
   obtain⟨ncap,d,g1,g2,grun⟩:=w9 (w:=w) (t1:=ats[1]?) ht hd he h1 ats a0 rfl o.type (base:=none) (sLen:=0) (sCap:=0) (n:=ys.length) (v:=ρc y) (olds:=[]) (news:=news) (z:=z) hzr' hlen
    (λw' _=>by simp[Builtin.firstCells]) hfn aA (by simpa using hb) aA
   have hrunA:(execOp ρc o).run P w=.ok (.value (.slice (some ⟨w.heap.size,0,none⟩) (0+ys.length) ncap)) (rQ w (.cells (([]++news).toArray++Builtin.zeroCells z.cells (ncap-(0+ys.length))) et) d):=by
    rw[nU x y ats ho,hv,grun];rfl
   have hcs:(([]++news).toArray++Builtin.zeroCells z.cells (ncap-(0+ys.length))).size=ncap*re.sz:=by
    rw[a7H,zN,hzs,a7I,k8,hnl,yZ,aD3,←sI];congr 1;omega
   have evm:=Ev.mv (w':=rQ w (.cells (([]++news).toArray++Builtin.zeroCells z.cells (ncap-(0+ys.length))) et) d) R hn trivial hbu (some (w.heap.size,0)) (λc=>c=w.heap.size) (.row re.sz ((([]:List (List Cell)).drop 0).take 0++ys.map (List.map .v))) (λc hc=>.inr aA) aR7
    (λc hc _=>lM _ _ _ c hc) (λc hc=>by simp only[World.shape?,lM _ _ _ c hc]) rfl rfl
   have Rm:=Rel.mv (w':=rQ w (.cells (([]++news).toArray++Builtin.zeroCells z.cells (ncap-(0+ys.length))) et) d) R hn trivial hbu (some (w.heap.size,0)) (λc=>c=w.heap.size) (.row re.sz ((([]:List (List Cell)).drop 0).take 0++ys.map (List.map .v))) (λc hc=>.inr aA) (λc hc=>by rw[l3];omega) aR7
    (λc hc _=>lM _ _ _ c hc) (λc hc=>by simp only[World.shape?,lM _ _ _ c hc]) rfl rfl
    (.inl ⟨w.heap.size,0,by simp[Env.mv],by
     have hfp:(E.mv b (some (w.heap.size,0)) (λc=>c=w.heap.size)).fp b=(λc=>c=w.heap.size):=by funext c;simp[Env.mv]
     rw[hfp]
     exact vA evm (b₀:=w.heap.size) (i:=0) (len:=0) (es:=[]) (S:=λ_=>False) (cv:=λ_ _=>undef) (T:=λ_ _ _=>False) cK (λ_ _ _ hf=>hf.elim) (λ_ _ _ _ _ hf=>hf.elim) (λi j x hx=>by simp[gT]at hx) cK hsn hLn hn1 rfl (λ_ hf=>hf.elim) (λ_ hf=>hf.elim) (sP _ _ _)
      (by rw[hcs];simp only[aD3];exact aUP _ aA) (λk j x hk=>by omega) (λk hk=>by
       simp only[aD3,aWT]
       rw[aWY rN];simp)⟩)
   refine .iC hrunA ⟨_,_,_,hK,evm,Rm,?_⟩
   have:=dU.os (E:=E.mv b (some (w.heap.size,0)) (λc=>c=w.heap.size)) (h:=aR (aR h n .gone) b (.row re.sz ((([]:List (List Cell)).drop 0).take 0++ys.map (List.map .v)))) (w:=rQ w (.cells (([]++news).toArray++Builtin.zeroCells z.cells (ncap-(0+ys.length))) et) d)
    b re.sz 0 (0+ys.length) w.heap.size 0 ncap et (ncap*re.sz) (.inl rfl) (by simp[Env.mv]) aA g2 (by simp only[World.shape?,sP,hcs]) cK
   simpa using this
 |os _ _ _ _ b₀ o₀ cap' tt mm hd0 qN hlc hcm hsh hmm =>
  rename_i cap
  obtain⟨b1,o1,hl1,hbS,hs,cur,ct,cv,T,hh,hmr,hT,hD,hc,hrr⟩:=wY R hn (.inr ⟨_,qN⟩)
  rw[qN]at hl1
  obtain⟨rfl,rfl⟩:=aJ2 (eO hl1)
  have hcsz:cur.size=mm:=by rw[lD hh]at hsh;exact(aJ2 (eO hsh)).2
  have hb0:b₀<w.heap.size:=aFH hsh
  have hfplt:∀ c,E.fp n c->c<w.heap.size:=λc hc=>R.lt n _ c hn trivial hc
  have hrow:∀ k j,k<len->j<re.sz->∃ y,gT es (i+k) j=some y:=λk j hk hj=>by
   have hlt:i+k<es.length:=by omega
   have hel:=hs es[i+k] (eF hlt)
   exact⟨es[i+k][j],by simp[gT,cP hlt,cP (show j<es[i+k].length by omega)]⟩
  by_cases hroom:len+ys.length<=cap
  ·
   have hbase:(⟨b₀,o₀+i*re.sz,none⟩:Addr).add (len*re.sz)=⟨b₀,o₀+i*re.sz+len*re.sz,none⟩:=addr_add _ _ _
   have hspace:o₀+i*re.sz+len*re.sz+news.length<=cur.size:=by
    have:o₀+(i+(len+ys.length))*re.sz<=o₀+(i+cap)*re.sz:=by
     have:=aUP re.sz (show i+(len+ys.length)<=i+cap by omega)
     omega
    rw[hnl];simp only[sI]at *;omega
   have hst:=run_storeCells_at P b₀ (o₀+i*re.sz+len*re.sz) ct news 0 cur w hh (by simpa using hspace) hn1
   simp only[aPL]at hst
   generalize hcs':(cur.toList.take (o₀+i*re.sz+len*re.sz)++news++cur.toList.drop (o₀+i*re.sz+len*re.sz+news.length)).toArray=cs' at hst
   have hcs'sz:cs'.size=cur.size:=by rw[←hcs'];simp;omega
   have hrunA:(execOp ρc o).run P w=.ok (.value (.slice (some ⟨b₀,o₀+i*re.sz,none⟩) (len+ys.length) cap)) (w.setRow b₀ cs'):=by
    rw[nU x y ats ho,hv]
    have eP:=hfn w rfl
    rcases hu1 with⟨e,hu1⟩|hu1 <;> simp[Builtin.append_,a0,ht',hrun,hsize,hu1,hlen,eP,hroom,hbase,hst]
   have hheap':(w.setRow b₀ cs').heap[b₀]?=some (.cells cs' ct (0,0)):=setRow_heap w b₀ cur cs' ct (0,0) hh
   have hoth:∀ c,c≠b₀->(w.setRow b₀ cs').heap[c]?=w.heap[c]?:=λc hc=>setRow_other w b₀ c cs' hc
   have hshape:∀ c,c<w.heap.size->(w.setRow b₀ cs').shape? c=w.shape? c:=λc _=>by
    by_cases e:c=b₀
    ·subst e;rw[lD hheap',lD hh,hcs'sz]
    ·simp only[World.shape?,hoth c e]
   have hkp:∀ c,c<w.heap.size->¬E.fp n c->(w.setRow b₀ cs').heap[c]?=w.heap[c]?:=λc _ hf=>hoth c λe=>hf (e▸hbS)
   have evm:=Ev.mv (w':=w.setRow b₀ cs') R hn trivial hbu (some (b₀,o₀+i*re.sz)) (E.fp n) (.row re.sz ((es.drop i).take len++ys.map (List.map .v))) (λc hc=>.inl hc) cK hkp hshape rfl rfl
   have hfp:(E.mv b (some (b₀,o₀+i*re.sz)) (E.fp n)).fp b=E.fp n:=by funext c;simp[Env.mv]
   have Rm:=Rel.mv (w':=w.setRow b₀ cs') R hn trivial hbu (some (b₀,o₀+i*re.sz)) (E.fp n) (.row re.sz ((es.drop i).take len++ys.map (List.map .v))) (λc hc=>.inl hc) (λc hc=>by rw[setRow_size];exact hfplt c hc) cK hkp hshape rfl rfl
    (.inl ⟨b₀,o₀+i*re.sz,by simp[Env.mv],by
     rw[hfp]
     refine vA evm (b₀:=b₀) hs hT hD hrr hle hsn hLn hn1 hbS (λc hc hne=>⟨hc,hne⟩) (λc _ hne=>hoth c hne) hheap' ?_ ?_ ?_
     ·rw[hcs'sz];rw[hnl]at hspace;simp only[sI]at *;omega
     ·intro k j x hk hx
      have hj:=aEI hs hx
      have hin:=zK hk hj
      rw[←hcs']
      simp only[aPO]
      rw[aH1,tW rN,aJ1 aA,al5]
      rw[←hc _ _ _ hx];congr 1;simp only[sI];omega
     ·intro k hk
      rw[←hcs']
      simp only[aPO]
      have hl1:(cur.toList.take (o₀+i*re.sz+len*re.sz)).length=o₀+i*re.sz+len*re.sz:=by simp;omega
      rw[aH1,zE (by rw[hl1];omega),hl1,tW aA]
      congr 1;omega⟩)
   refine .iC hrunA ⟨_,_,_,hK,evm,Rm,?_⟩
   have:=dU.os (E:=E.mv b (some (b₀,o₀+i*re.sz)) (E.fp n)) (h:=aR (aR h n .gone) b (.row re.sz ((es.drop i).take len++ys.map (List.map .v)))) (w:=w.setRow b₀ cs')
    b re.sz 0 (len+ys.length) b₀ (o₀+i*re.sz) cap ct cur.size (.inl rfl) (by simp[Env.mv]) hroom hcm (by rw[lD hheap',hcs'sz]) (by rw[hcsz];simp only[sI]at *;omega)
   simpa using this
  ·
   have holds:∀ k,k<len*re.sz->∃ y,gT es (i+k / re.sz) (k%re.sz)=some y:=λk hk=>by
    have h1:k / re.sz<len:=by rw[Nat.div_lt_iff_lt_mul hz0];exact hk
    exact hrow _ _ h1 (Nat.mod_lt _ hz0)
   generalize hod:(List.range (len*re.sz)).map (λk=>cv (i+k / re.sz) (k%re.sz))=olds
   have hol:olds.length=len*re.sz:=by rw[←hod];simp
   have hog:∀ k,k<len*re.sz->olds[k]?=some (cv (i+k / re.sz) (k%re.sz)):=λk hk=>by rw[←hod,nI,aUN hk];rfl
   obtain⟨ncap,d,g1,g2,grun⟩:=w9 (w:=w) (t1:=ats[1]?) ht hd he h1 ats a0 rfl o.type (base:=some ⟨b₀,o₀+i*re.sz,none⟩) (sLen:=len) (sCap:=cap) (n:=ys.length) (v:=ρc y) (olds:=olds) (news:=news) (z:=z) hzr' hlen
    (λw' hw'=>run_firstCells_some w' _ _ _ _ _ olds hol λk v hv=>by
     have hk:k<len*re.sz:=by have:=(jQ.1 hv).1;omega
     rw[hog k hk]at hv
     obtain rfl:=eO hv
     obtain⟨y,hy⟩:=holds k hk
     rw[zM hw',addr_add]
     simp only[World.cell?,hh,a1L,aJ0,if_false]
     rw[←hc _ _ _ hy];congr 1
     have:=a1K k re.sz
     rw[aJ3]at this
     simp only[sI];omega) hfn aA hb aA
   generalize hcs':(olds++news).toArray++Builtin.zeroCells z.cells (ncap-(len+ys.length))=cs' at grun
   have hcs'sz:cs'.size=ncap*re.sz:=by
    rw[←hcs',a7H,zN,hzs,a7I,k8,hnl,hol,←sI,←sI];congr 1;omega
   have hrunA:(execOp ρc o).run P w=.ok (.value (.slice (some ⟨w.heap.size,0,none⟩) (len+ys.length) ncap)) (rQ w (.cells cs' et) d):=by
    rw[nU x y ats ho,hv,grun];rfl
   have evm:=Ev.mv (w':=rQ w (.cells cs' et) d) R hn trivial hbu (some (w.heap.size,0)) (λc=>c=w.heap.size∨(E.fp n c/\c≠b₀)) (.row re.sz ((es.drop i).take len++ys.map (List.map .v)))
    (λc hc=>by rcases hc with h|h;exact .inr aA;exact .inl h.1) aR7 (λc hc _=>lM _ _ _ c hc) (λc hc=>by simp only[World.shape?,lM _ _ _ c hc]) rfl rfl
   have hfp:(E.mv b (some (w.heap.size,0)) (λc=>c=w.heap.size∨(E.fp n c/\c≠b₀))).fp b=(λc=>c=w.heap.size∨(E.fp n c/\c≠b₀)):=by funext c;simp[Env.mv]
   have Rm:=Rel.mv (w':=rQ w (.cells cs' et) d) R hn trivial hbu (some (w.heap.size,0)) (λc=>c=w.heap.size∨(E.fp n c/\c≠b₀)) (.row re.sz ((es.drop i).take len++ys.map (List.map .v)))
    (λc hc=>by rcases hc with h|h;exact .inr aA;exact .inl h.1) (λc hc=>by rw[l3];rcases hc with h|h;omega;have:=hfplt c h.1;omega) aR7 (λc hc _=>lM _ _ _ c hc) (λc hc=>by simp only[World.shape?,lM _ _ _ c hc]) rfl rfl
    (.inl ⟨w.heap.size,0,by simp[Env.mv],by
     rw[hfp]
     refine vA evm (b₀:=b₀) hs hT hD hrr hle hsn hLn hn1 (.inl rfl) (λc hc hne=>⟨.inr ⟨hc,hne⟩,by have:=hfplt c hc;omega⟩) (λc hc _=>lM _ _ _ c (hfplt c hc)) (sP _ _ _) ?_ ?_ ?_
     ·rw[hcs'sz,aD3];exact aUP _ g1
     ·intro k j x hk hx
      have hj:=aEI hs hx
      have hin:=zK hk hj
      rw[←hcs',aWY rN]
      simp only[aPO,aD3]
      rw[tW aA,hog _ hin]
      congr 2
      ·rw[aJ3,Nat.mul_add_div hz0,a1E hj];rfl
      ·rw[aJ3,Nat.mul_add_mod,Nat.mod_eq_of_lt hj]
     ·intro k hk
      rw[←hcs',aWY rN]
      simp only[aPO,aD3]
      rw[zE aA,hol]
      congr 1;omega⟩)
   refine .iC hrunA ⟨_,_,_,hK,evm,Rm,?_⟩
   have:=dU.os (E:=E.mv b (some (w.heap.size,0)) (λc=>c=w.heap.size∨(E.fp n c/\c≠b₀))) (h:=aR (aR h n .gone) b (.row re.sz ((es.drop i).take len++ys.map (List.map .v)))) (w:=rQ w (.cells cs' et) d)
    b re.sz 0 (len+ys.length) w.heap.size 0 ncap et (ncap*re.sz) (.inl rfl) (by simp[Env.mv]) g1 g2 (by simp only[World.shape?,sP,hcs'sz]) cK
   simpa using this
end
end Go.Hl

/-
  Contracts of functions and laws of the layer over the walk.
-/
import Derived.WalkKit
import Derived.IntWalk
namespace Go.Hl
set_option linter.unusedVariables false
set_option linter.unusedSimpArgs false
set_option linter.defProp false
def qR:=@List.map_cons
def w9:=@List.map_nil
def e8:=@List.getD_eq_getElem?_getD
def fC:=@List.getElem?_eq_getElem
def lF:=@List.getElem_mem
def al5:=@Array.getElem?_toList
def s5:=@List.mem_of_getElem?
def sO:=@List.getElem?_map
def al8:=@List.getElem?_range
def nT:=@List.length_append
def xA:=@List.mem_append_right
def aAK:=@List.mem_append_left
def gX:=@List.length_map
def bY:=@Nat.le_refl
def iY:=@List.getElem?_eq_some_iff
def aDW:=@Nat.le_trans
def aRG:=@Array.getElem?_eq_some_iff
def gO:=@Option.some.inj
def aI9:=@List.getElem?_cons_zero
def a13:=@Option.bind_some
def a9T:=@List.flatten_cons
def a37:=@Nat.zero_mul
def aHQ:=@Nat.zero_add
def uP:=@List.getElem?_append_left
def yD:=@List.getElem?_append_right
def uQ:=@Nat.add_mul
def lZ:=@List.mem_map
def r7:=@Option.map_eq_some_iff
def a9U:=@List.getElem?_of_mem
def vF:=@List.all_eq_true
def aOH:=@Bool.false_eq_true
def aU4:=@Nat.add_zero
def aDX:=@Option.map_some
def a14:=@Option.some.injEq
def aJA:=@List.getElem?_take_of_lt
def aRH:=@List.getElem?_drop
def aOI:=@Prod.mk.inj
def nH:=@List.getElem?_set_self
def mG:=@List.getElem?_set_ne
def a38:=@Nat.mul_le_mul_right
def a39:=@Nat.succ_mul
def aJB:=@Nat.mul_comm
def a9V:=@Nat.div_eq_of_lt
def iK:=@Ne.symm
def s6:=@List.mem_or_eq_of_mem_set
def aU5:=@Array.getElem?_setIfInBounds_ne
def mK:=@Bool.and_eq_true
def pP:=@List.mem_cons
def aU6:=@Nat.add_assoc
def a4A:=@Option.map_none
def aMA:=@Int.toNat_zero
def a4B:=@Nat.sub_zero
def sP:=@Nat.sub_self
def rU:=@List.length_nil
def a4C:=@List.drop_eq_nil_of_le
def aU7:=@List.mem_of_mem_take
def a4D:=@List.mem_of_mem_drop
def aJC:=@List.replicate_succ
def aJD:=@Array.getElem?_eq_getElem
def a15:=@List.eq_of_mem_replicate
def aB9:=@List.length_cons
def wN:=@List.mem_cons_of_mem
def a16:=@Nat.eq_zero_or_pos
def p7:=@List.length_set
def a9W:=@Nat.div_add_mod
def aFR:=@List.length_replicate
def aHR:=@List.length_eq_zero_iff
def bGO:=@Option.isSome_none
def nY:=@List.mem_append
def bGP:=@Array.size_append
def bGQ:=@List.size_toArray
def eM:=@Nat.zero_le
def aDY:=@Option.getD_some
def bGR:=@Array.getElem?_append_left
def aU8:=@List.getElem?_toArray
def aOJ:=@List.append_assoc
def a17:=@Bool.not_eq_true'
def aFS:=@Int.le_refl
def aJE:=@List.getElem?_eq_none
def a9X:=@Bool.false_and
def aMB:=@Bool.false_or
def aAL:=@List.mem_cons_self
def a4E:=@Bool.not_true
def a4F:=@List.any_eq_true
def a9Y:=@List.contains_iff_mem
def aDZ:=@List.mem_range
def aCA:=@List.map_congr_left
def a4G:=@Array.all_eq_true_iff_forall_mem
def a4H:=@Classical.byContradiction
def dZ:=@List.nil_append
def aU9:=@List.cons_append
def fQ:=@List.toList_toArray
def dR:=@List.append_nil
def r8:=@Int.toNat_natCast
def aRI:=@List.drop_zero
def bGS:=@List.take_succ_cons
def nU:=@List.length_take
def hJ:=@List.take_of_length_le
def bGT:=@List.take_append_drop
def bGU:=@List.eq_nil_of_length_eq_zero
def mY:=@List.map_append
def xB:=@List.nodup_append
def aD0:=@List.nodup_cons
def zZ:=@List.map_map
def aJF:=@List.map_set
def sQ:=@List.getElem?_replicate
def iW:=@List.take_succ_eq_append_getElem
def aXB:=@List.set_cons_zero
def aJG:=@List.sum_cons
def iO:=@List.mem_singleton
def bEC:=@List.findIdx?_eq_some_iff_getElem
def bT:=@Nat.lt_or_ge
def nM:=@List.take_length
def bV:=@Nat.lt_irrefl
def aMU:=@Nat.lt_succ_iff_lt_or_eq
def cY:=@Int.lt_irrefl
def uR:=@Int.tmod_eq_emod_of_nonneg
def aX:=@Nat.zero_lt_one
def aCE:=@List.mem_iff_getElem
def aGW:=@List.mem_replicate
def aJH:=@Int.pow_zero
def aJI:=@Int.pow_succ
def aCF:=@Int.mul_emod
def aXC:=@Int.emod_emod_of_dvd
def aCG:=@Int.one_mul
def aJJ:=@Int.mul_comm
def aXD:=@Int.mul_assoc
def aXE:=@Int.tdiv_eq_ediv_of_nonneg
def qD:=@Nat.le_succ
def aXF:=@Int.emod_eq_of_lt
def tI:=@List.ext_getElem
def aXG:=@List.not_mem_nil
def tJ:=@List.getElem_map
def aRJ:=@Nat.not_lt_zero
def aXH:=@List.range_succ
def aMV:=@List.prefix_refl
def a4I:=@List.prefix_append
def nN:=@List.length_singleton
def aMW:=@Int.zero_add
def sR:=@Nat.lt_succ_self
def aXI:=@List.getElem?_zipWith
def dA:=@Option.toArray_none
def dB:=@Option.toArray_some
def dC:=@List.filterMap_cons
def dD:=@List.filterMap_nil
def dF:=@List.elem_cons_self
def aJK:=@Nat.pow_succ
def aXJ:=@List.map_replicate
def aXK:=@List.getElem?_inj
def a4J:=@List.replicate_succ'
def tK:=@Int.zero_mul
def aJL:=@Int.mul_zero
def aGX:=@Int.add_zero
def aRK:=@Nat.mul_one
def aXL:=@List.length_range
def aRL:=@List.map_singleton
def aD1:=@List.getElem_set
def aMX:=@List.getElem_range
def a4K:=@List.nodup_iff_pairwise_ne
def a4L:=@List.pairwise_iff_getElem
def a4M:=@List.getElem_append_left
def a4N:=@List.getElem_append_right
def aCH:=@Nat.le_antisymm
theorem vG {p:Prop} (h:p:=by repeat'(first|exact aCV.nil|refine aCV.cons ?_ ?_|exact Sub.refl _|(rw[aC.aY];exact Sub.refl _)|exact Sub.a9Z rfl rfl rfl|exact Sub.ip (aXM aA) eC|exact Sub.a9Z (aXM aA) rfl rfl|exact Sub.ip (by simp[*]) eC|exact Sub.a9Z (by simp[*]) (by rfl) (by rfl))):p:=h
theorem bGV {p:Prop} (h:p:=by repeat'(first|exact nZ _ _|refine qS (by simp only[fN,↓reduceIte,eq_self,if_true,fV,jI,fW,lM,jJ,lN]) ?_|refine l6 aAM ?_)):p:=h
theorem bGW {p:Prop} (h:p:=by repeat'(first|exact nZ _ _|refine qS (by simp only[fN,↓reduceIte,eq_self,if_true,fV,fW,qR,w9]) ?_|refine l6 aAM ?_)):p:=h
theorem bMS {p:Prop} (h:p:=by refine⟨by simp[cR,bZ,aC.aY,hk],by repeat'(with_reducible first|exact aB.le_refl _|refine(bM jY).2 ?_),by simp⟩):p:=h
theorem a90 {p:Prop} (h:p:=by refine⟨by simp[cR,bZ,aF.aY],by repeat'(with_reducible first|exact aB.le_refl _|refine(bM jY).2 ?_),by simp⟩):p:=h
theorem bMT {p:Prop} (h:p:=by repeat'(first|exact nZ _ _|refine qS (by simp only[fN,↓reduceIte,eq_self,if_true,jI,jJ]) ?_|refine l6 aAM ?_)):p:=h
theorem bMU {p:Prop} (h:p:=by repeat'(first|exact nZ _ _|refine qS (by simp only[fN,↓reduceIte,eq_self,if_true,iL,iM]) ?_|refine l6 aAM ?_)):p:=h
theorem bMV {p:Prop} (h:p:=by repeat'(first|exact nZ _ _|refine qS (by simp only[fN,↓reduceIte,eq_self,if_true,lM,lN]) ?_|refine l6 aAM ?_)):p:=h
theorem bMW {p:Prop} (h:p:=by have:=(hok.1 z).2 k hlt;rwa [show jE e.aS k vars=vars from if_neg aA]at this):p:=h
theorem a91 {p:Prop} (h:p:=by rw[e8,fC aA];exact lF _):p:=h
theorem jY {p:Prop} (h:p:=by first|assumption|exact And.right kX|exact aRM.2 kX):p:=h
theorem a4O {p:Prop} (h:p:=by rw[e8,fC hol];exact lF _):p:=h
theorem aXN {p:Prop} (h:p:=by rw[aD _ _ _ _ mM,aD _ _ _ _ mN,aD _ _ _ _ yE];exact zs):p:=h
theorem aXO {p:Prop} (h:p:=by rw[aD _ _ _ _ qT,aD _ _ _ _ qU,aD _ _ _ _ aH8];exact zg):p:=h
theorem bED {p:Prop} (h:p:=by rcases hn with hn|hn;exact .inr (.inl hn);exact .inr (.inr (.inl hn))):p:=h
theorem bEE {p:Prop} (h:p:=by rw[←al5]at hk;exact s5 hk):p:=h
theorem bEF {p:Prop} (h:p:=by rw[mulL,sO,al8 aA];rfl):p:=h
theorem aXP {p:Prop} (h:p:=by rw[aD _ _ _ _ aBQ,aD _ _ _ _ aD2];exact z19):p:=h
theorem aXQ {p:Prop} (h:p:=by rw[aD _ _ _ _ mM,aD _ _ _ _ mN];exact zs):p:=h
theorem aXR {p:Prop} (h:p:=by rw[aD _ _ _ _ a92,aD _ _ _ _ tP,aI]):p:=h
theorem aXS {p:Prop} (h:p:=by rw[aD _ _ _ _ qT,aD _ _ _ _ qU];exact zg):p:=h
theorem bEG {p:Prop} (h:p:=by rw[r3.1,F.kids];exact F.oks _ (s5 F.out)):p:=h
theorem bEH {p:Prop} (h:p:=by rw[a2.1 rr.toNat (by unfold rR at r3;omega) g2];exact hz):p:=h
theorem aAM {p:Prop} (h:p:=by first|exact .inr kX|exact .inl eC):p:=h
theorem aXT {p:Prop} (h:p:=by rw[hvl,f5];exact F.oks _ (s5 F.out)):p:=h
theorem a4Q {p:Prop} (h:p:=by rw[nT];show env.length+1<=_;omega):p:=h
theorem aXU {p:Prop} (h:p:=by rw[OV.b5];exact xA _ hp):p:=h
theorem aXV {p:Prop} (h:p:=by rw[OV.b5];exact aAK _ hp):p:=h
theorem aJM {p:Prop} (h:p:=by rw[sJ _ hc'];exact lB _ _ hc'):p:=h
theorem aRN {p:Prop} (h:p:=by unfold eO at hlen;simp at hlen;omega):p:=h
theorem aRO {p:Prop} (h:p:=by rw[cP];have:=hor.length;omega):p:=h
theorem aXW {p:Prop} (h:p:=by rw[gX];exact bY _):p:=h
theorem aD3 {p:Prop} (h:p:=by rw[sJ _ hc];exact lB _ _ hc):p:=h
theorem aMY {p:Prop} (h:p:=by intro e;rw[e]at hz;simp at hz;omega):p:=h
theorem aXX {p:Prop} (h:p:=by rw[aD _ _ _ _ mN];exact hB1):p:=h
theorem aXY {p:Prop} (h:p:=by rw[aD _ _ _ _ qU];exact hB2):p:=h
theorem aXZ {p:Prop} (h:p:=by rw[aD _ _ _ _ aBQ];exact z19):p:=h
theorem aX0 {p:Prop} (h:p:=by rw[aD _ _ _ _ aD5];exact z18):p:=h
theorem aMZ {p:Prop} (h:p:=by rw[aD _ _ _ _ tP,aI]):p:=h
theorem aRP {p:Prop} (h:p:=by rw[aD _ _ _ _ nI,aI]):p:=h
theorem aX2 {p:Prop} (h:p:=by rw[r9];exact bY _):p:=h
theorem a4R {p:Prop} (h:p:=by split;omega;split;omega;exact hi):p:=h
theorem a4S {p:Prop} (h:p:=by rw[hv.1,f9.2.2];exact F.oks x hx):p:=h
theorem tL {p:Prop} (h:p:=by rw[aL];exact aB.le_refl _):p:=h
theorem aGY {p:Prop} (h:p:=by rw[nT];exact o1):p:=h
theorem aRQ {p:Prop} (h:p:=by simp[cR,bZ,aB.le_refl]):p:=h
theorem a4T {p:Prop} (h:p:=by rw[sO,ef];rfl):p:=h
theorem aX3 {p:Prop} (h:p:=by have:=hm2 b6;omega):p:=h
theorem a4U {p:Prop} (h:p:=by simp only[aC.aS];omega):p:=h
theorem aX4 {p:Prop} (h:p:=by have:=aC.aM0 hy;omega):p:=h
theorem aD6 {p:Prop} (h:p:=by unfold bN at hin;omega):p:=h
theorem a4V {p:Prop} (h:p:=by simp[jK,kK,j7]):p:=h
theorem aX5 {p:Prop} (h:p:=by simp only[Low,Dig];omega):p:=h
theorem a4W {p:Prop} (h:p:=by simpa[Env.add,e]using hb):p:=h
theorem aRR {p:Prop} (h:p:=by rw[qV];exact hab):p:=h
theorem aRS {p:Prop} (h:p:=by rw[hop aA,h1]):p:=h
theorem aRT {p:Prop} (h:p:=by simp[jK,kK]):p:=h
theorem aX7 {p:Prop} (h:p:=by rw[gE];omega):p:=h
theorem aGZ {p:Prop} (h:p:=by rw[←hV];exact aJN):p:=h
theorem aM1 {p:Prop} (h:p:=by exact aB.le_refl _):p:=h
theorem aX8 {p:Prop} (h:p:=by rw[oA];omega):p:=h
theorem aX9 {p:Prop} (h:p:=by rw[gX]):p:=h
theorem aYA {p:Prop} (h:p:=by rw[nb.2.1,na.2.1]):p:=h
theorem aM2 {p:Prop} (h:p:=by rw[na.2.1];omega):p:=h
theorem aM3 {p:Prop} (h:p:=by rw[hown.1];omega):p:=h
theorem aYB {p:Prop} (h:p:=by rw[hicv.1];omega):p:=h
theorem aYC {p:Prop} (h:p:=by rw[hDq.1,hicv.1]):p:=h
theorem nO {p:Prop} (h:p:=by unfold iE;omega):p:=h
theorem qE {p:Prop} (h:p:=by rw[vK.1];omega):p:=h
theorem tM {p:Prop} (h:p:=by rw[hsk.1];omega):p:=h
theorem xC {p:Prop} (h:p:=by rw[vK.1,wO.1]):p:=h
theorem aG0 {p:Prop} (h:p:=by rw[hBq.1];omega):p:=h
theorem aM4 {p:Prop} (h:p:=by rw[hv0.1];omega):p:=h
theorem aYD {p:Prop} (h:p:=by simp[aV.aY]):p:=h
theorem aYE {p:Prop} (h:p:=by rw[hv0.1,hv1.1]):p:=h
theorem aYF {p:Prop} (h:p:=by rw[hpm.1,hiq.1]):p:=h
theorem aYG {p:Prop} (h:p:=by rw[hiq.1];omega):p:=h
theorem aYH {p:Prop} (h:p:=by rw[hBc.1,hBq.1]):p:=h
theorem aD7 {p:Prop} (h:p:=by simpa using hv):p:=h
theorem aRU {p:Prop} (h:p:=by simpa using hx):p:=h
theorem aRV {p:Prop} (h:p:=by simpa using hl):p:=h
theorem vL {p:Prop} (h:p:=by simp;omega):p:=h
theorem kX {p:Prop} (h:p:=by assumption):p:=h
theorem b6 {p:Prop} (h:p:=by decide):p:=h
theorem aA {p:Prop} (h:p:=by omega):p:=h
theorem xD {p:Prop} (h:p:=by grind):p:=h
theorem eC {p:Prop} (h:p:=by simp):p:=h
theorem pjx {a b:Prop} (h:a) (e:a->b:=by intro q;repeat first|exact q|exact q.1|replace q:=q.2):b:=e h
theorem cW {a b:Nat} (h:¬a=b):¬a=b/\(a=b)=False/\(b=a)=False/\¬b=a:=⟨h,eq_false h,eq_false λe=>h e.symm,λe=>h e.symm⟩
inductive aE where
 |any
 |bool (b:Bool)
 |int (k:IntKind) (n:Int)
 |str (s:List UInt8)
 |j8
 |bS
 |tN
 |l7
 |pK
 |sl (sz:Nat) (es:List (List aE)) (tight:Bool)
 |ip (sz:Nat) (es:List (List aE)) (i off:Nat)
 |os (n sz i len:Nat)
 |op (n sz i off:Nat)
 |agg (cs:List aE)
 |gK (cs:List aE)
 |fn (f:Fn) (first cap:List aE)
 |iface (t:TypeId) (v:aE)
 |mp (n:Nat)
 deriving Inhabited
inductive Cell where
 |v (x:aE)
 |own (sz:Nat) (es:List (List Cell))
 deriving Inhabited
inductive bU where
 |row (sz:Nat) (es:List (List Cell))
 |map (kt et:TypeId) (l:List (aE×aE))
 |raw (t:TypeId) (cs:Array Value)
 |abs (Q:Nat->(Nat->Prop)->World->Prop)
 |gone
 deriving Inhabited
abbrev aB:=Nat->Option bU
def bU.live:bU->Prop
 | .gone=>False
 | _=>True
def aT (h:aB) (n:Nat) (o:bU):aB:=λm=>if m=n then some o else h m
structure Env where
 loc:Nat->Option (Nat×Nat)
 fp:Nat->Nat->Prop
 used:Nat->Prop
def oU (E:Env) (h:aB) (w:World) (b:Nat):Prop :=
 b<w.heap.size/\∀ n o,h n=some o->o.live->¬E.fp n b
def iU {α:Type} (es:List (List α)) (i j:Nat):Option α:=(es[i]?).bind (·[j]?)
theorem lC {α:Type} {es:List (List α)} {i j:Nat} {x:α} (h:iU es i j=some x):∃ e,es[i]?=some e/\e[j]?=some x:=by
 unfold iU at h
 cases he:es[i]? with
 |none=>simp[he]at h
 |some e=>exact⟨e,rfl,by simpa[he]using h⟩
theorem a4X {α:Type} {es:List (List α)} {i j:Nat} {x:α} (h:iU es i j=some x):i<es.length:=by
 obtain⟨e,he,_⟩:=lC h
 exact(iY.1 he).1
theorem aIA {α:Type} {es:List (List α)} {sz i j:Nat} {x:α} (hs:∀ e∈es,e.length=sz) (h:iU es i j=some x):j<sz:=by
 obtain⟨e,he,hj⟩:=lC h
 have:=hs e (s5 he)
 have:=(iY.1 hj).1
 omega
inductive fG (E:Env) (h:aB) (w:World):aE->Value->Prop where
 |any (v:Value):fG E h w .any v
 |bool (b:Bool):fG E h w (.bool b) (.bool b)
 |int (k:IntKind) (n:Int):fG E h w (.int k n) (.int k n)
 |str (s:List UInt8) (hl:s.length<=maxLen):fG E h w (.str s) (.string ⟨s.toArray⟩)
 |j8:fG E h w .j8 (.pointer none)
 |bS:fG E h w .bS (.slice none 0 0)
 |tN:fG E h w .tN .nilFunc
 |l7:fG E h w .l7 .nilIface
 |pK:fG E h w .pK (.map none)
 |sl0 (sz:Nat) (t:Bool) (a:Option Addr) (cap:Nat) (ht:t=true->cap=0) (hmax:cap<=maxLen) (ha:True):fG E h w (.sl sz [] t) (.slice a 0 cap)
 |sl (sz:Nat) (es:List (List aE)) (t:Bool) (b o cap:Nat) (cv:Nat->Nat->Value) (hi:oU E h w b) (hcap:es.length<=cap) (hmax:cap<=maxLen)
   (ht:t=true->cap=es.length) (hs:∀ e∈es,e.length=sz)
   (hc:∀ i j x,iU es i j=some x->w.cell? ⟨b,o+i*sz+j,none⟩=some (cv i j)) (h1:∀ i j x,iU es i j=some x->(cv i j).oneCell'=true)
   (hr:∀ i j x,iU es i j=some x->fG E h w x (cv i j)):fG E h w (.sl sz es t) (.slice (some ⟨b,o,none⟩) es.length cap)
 |ip (sz:Nat) (es:List (List aE)) (i off b o:Nat) (cv:Nat->Nat->Value) (hi:oU E h w b) (hs:∀ e∈es,e.length=sz)
   (hc:∀ i j x,iU es i j=some x->w.cell? ⟨b,o+i*sz+j,none⟩=some (cv i j)) (h1:∀ i j x,iU es i j=some x->(cv i j).oneCell'=true)
   (hr:∀ i j x,iU es i j=some x->fG E h w x (cv i j)):fG E h w (.ip sz es i off) (.pointer (some ⟨b,o+i*sz+off,none⟩))
 |os (n sz i len b o cap:Nat) (t:TypeId) (m:Nat) (hd:E.used n) (hl:E.loc n=some (b,o)) (hlc:len<=cap) (hmax:cap<=maxLen)
   (hsh:w.shape? b=some (t,m)) (hm:o+(i+cap)*sz<=m):fG E h w (.os n sz i len) (.slice (some ⟨b,o+i*sz,none⟩) len cap)
 |os0 (n sz:Nat) (hd:E.used n) (hl:E.loc n=none):fG E h w (.os n sz 0 0) (.slice none 0 0)
 |op (n sz i off b o:Nat) (hd:E.used n) (hl:E.loc n=some (b,o)):fG E h w (.op n sz i off) (.pointer (some ⟨b,o+i*sz+off,none⟩))
 |agg (cs:List aE) (vs:List Value) (hl:cs.length=vs.length) (hr:∀ (i:Nat) (x:aE) (v:Value),cs[i]?=some x->vs[i]?=some v->fG E h w x v):fG E h w (.agg cs) (.agg vs.toArray)
 |gK (cs:List aE) (vs:List Value) (hl:cs.length=vs.length) (hr:∀ (i:Nat) (x:aE) (v:Value),cs[i]?=some x->vs[i]?=some v->fG E h w x v):fG E h w (.gK cs) (.tuple vs.toArray)
 |fn (f:Fn) (cs ds:List aE) (vs us:List Value) (hl:cs.length=vs.length) (hr:∀ (i:Nat) (x:aE) (v:Value),cs[i]?=some x->vs[i]?=some v->fG E h w x v)
   (hl':ds.length=us.length) (hr':∀ (i:Nat) (x:aE) (v:Value),ds[i]?=some x->us[i]?=some v->fG E h w x v):fG E h w (.fn f cs ds) (.func f vs.toArray us.toArray)
 |iface (t:TypeId) (x:aE) (v:Value) (hr:fG E h w x v):fG E h w (.iface t x) (.iface t v)
 |mp (n b o:Nat) (hd:E.used n) (hl:E.loc n=some (b,o)):fG E h w (.mp n) (.map (some b))
def eF (E:Env) (h:aB) (w:World):List aE->List Value->Prop
 | [],[]=>True
 |x::xs,v::vs=>fG E h w x v/\eF E h w xs vs
 | _,_=>False
theorem eF.length {E:Env} {h:aB} {w:World}:∀ {xs:List aE} {vs:List Value},eF E h w xs vs->xs.length=vs.length
 | [],[],_=>rfl
 |x::xs,v::vs,hh=>by simpa using eF.length hh.2
 | [],_::_,hh=>hh.elim
 | _::_,[],hh=>hh.elim
theorem eF.get {E:Env} {h:aB} {w:World}:∀ {xs:List aE} {vs:List Value},eF E h w xs vs ->
  ∀ (i:Nat) (x:aE) (v:Value),xs[i]?=some x->vs[i]?=some v->fG E h w x v
 | [],[],_,i,x,v,hx,_=>by simp at hx
 |x::xs,v::vs,hh,0,y,u,hx,hv=>by simp at hx hv;subst hx;subst hv;exact hh.1
 |x::xs,v::vs,hh,i+1,y,u,hx,hv=>eF.get hh.2 i y u aRU aD7
 | [],_::_,hh,_,_,_,_,_=>hh.elim
 | _::_,[],hh,_,_,_,_,_=>hh.elim
theorem eF.mk {E:Env} {h:aB} {w:World}:∀ {xs:List aE} {vs:List Value},xs.length=vs.length ->
  (∀ (i:Nat) (x:aE) (v:Value),xs[i]?=some x->vs[i]?=some v->fG E h w x v)->eF E h w xs vs
 | [],[],_,_=>trivial
 |x::xs,v::vs,hl,hr=>⟨hr 0 x v rfl rfl,eF.mk aRV (λi y u hy hu=>hr (i+1) y u (by simpa using hy) (by simpa using hu))⟩
 | [],_::_,hl,_=>by simp at hl
 | _::_,[],hl,_=>by simp at hl
theorem eF.append {E:Env} {h:aB} {w:World}:∀ {xs:List aE} {vs:List Value} {ys:List aE} {us:List Value},
  eF E h w xs vs->eF E h w ys us->eF E h w (xs++ys) (vs++us)
 | [],[],_,_,_,hy=>hy
 |x::xs,v::vs,_,_,hx,hy=>⟨hx.1,eF.append hx.2 hy⟩
 | [],_::_,_,_,hx,_=>hx.elim
 | _::_,[],_,_,hx,_=>hx.elim
inductive wP (E:Env) (h:aB) (w:World):Cell->Value->(Nat->Prop)->Prop where
 |v (x:aE) (c:Value) (S:Nat->Prop) (h1:c.oneCell'=true) (hx:fG E h w x c):wP E h w (.v x) c S
 |aVA (sz:Nat) (a:Option Addr) (cap:Nat) (S:Nat->Prop) (hmax:cap<=maxLen) (ha:True):wP E h w (.own sz []) (.slice a 0 cap) S
 |own (sz:Nat) (es:List (List Cell)) (b o cap:Nat) (S:Nat->Prop) (cs:Array Value) (t:TypeId) (cv:Nat->Nat->Value) (T:Nat->Nat->Nat->Prop)
   (hb:S b) (hh:w.heap[b]?=some (.cells cs t (0,0))) (hlc:es.length<=cap) (hmax:cap<=maxLen) (hm:o+cap*sz<=cs.size) (hs:∀ e∈es,e.length=sz)
   (hT:∀ i j c,T i j c->S c/\c≠b) (hD:∀ i j i' j' c,T i j c->T i' j' c->i=i'/\j=j')
   (hc:∀ i j x,iU es i j=some x->cs[o+i*sz+j]?=some (cv i j))
   (hr:∀ i j x,iU es i j=some x->wP E h w x (cv i j) (T i j)):wP E h w (.own sz es) (.slice (some ⟨b,o,none⟩) es.length cap) S
structure aJO (E:Env) (h:aB) (w:World) (b o sz:Nat) (es:List (List Cell)) (S:Nat->Prop):Prop where
 hb:S b
 size:∀ e∈es,e.length=sz
 mem:∃ (cs:Array Value) (t:TypeId) (cv:Nat->Nat->Value) (T:Nat->Nat->Nat->Prop),
  w.heap[b]?=some (.cells cs t (0,0))/\o+es.length*sz<=cs.size /\
  (∀ i j c,T i j c->S c/\c≠b)/\(∀ i j i' j' c,T i j c->T i' j' c->i=i'/\j=j') /\
  (∀ i j x,iU es i j=some x->cs[o+i*sz+j]?=some (cv i j))/\(∀ i j x,iU es i j=some x->wP E h w x (cv i j) (T i j))
def aYI (E:Env) (h:aB) (w:World) (b:Nat) (l:List (aE×aE)) (S:Nat->Prop):Prop :=
 S b/\∃ (es:Array MapEntry) (clock:Nat),w.heap[b]?=some (.map es clock)/\(∀ e∈es,e.born<clock) /\
  eF E h w (l.map (·.1)) (es.toList.map (·.key))/\eF E h w (l.map (·.2)) (es.toList.map (·.val))
def aD8 (E:Env) (h:aB) (w:World) (n:Nat):bU->Prop
 | .row sz es=>(∃ b o,E.loc n=some (b,o)/\aJO E h w b o sz es (E.fp n))∨(es=[]/\E.loc n=none)
 | .map _ _ l=>∃ b o,E.loc n=some (b,o)/\aYI E h w b l (E.fp n)
 | .raw t cs=>∃ b,E.loc n=some (b,0)/\E.fp n b/\w.heap[b]?=some (.cells cs t (0,0))
 | .abs Q=>∃ b,E.loc n=some (b,0)/\E.fp n b/\∃ w0:World,Q b (E.fp n) w0/\∀ c,E.fp n c->w.heap[c]?=w0.heap[c]?
 | .gone=>True
def a4Y:Option TypeId:=none
def aJP:List (Nat×(Array Value->Prop)):=[]
def aAN (E:Env) (h:aB) (w:World):Prop:=∀ p∈aJP,oU E h w p.1/\∃ cs t f,w.heap[p.1]?=some (.cells cs t f)/\p.2 cs
structure Rel (E:Env) (h:aB) (w:World):Prop where
 fin:∃ N,∀ n,N<=n->¬E.used n
 dom:∀ n,h n≠none->E.used n
 lt:∀ n o b,h n=some o->o.live->E.fp n b->b<w.heap.size
 apart:∀ n o m o' b,h n=some o->o.live->h m=some o'->o'.live->E.fp n b->E.fp m b->n=m
 obj:∀ n o,h n=some o->aD8 E h w n o
 laid:aAN E h w
structure Ev (E:Env) (h:aB) (w:World) (E':Env) (h':aB) (w':World):Prop where
 size:w.heap.size<=w'.heap.size
 keep:∀ b,oU E h w b->w'.heap[b]?=w.heap[b]?/\oU E' h' w' b
 shape:∀ b,b<w.heap.size->w'.shape? b=w.shape? b
 loc:∀ n,E.used n->E'.loc n=E.loc n/\E'.used n
 os:w'.os=w.os
 out:w'.output=w.output
theorem aAN.ev {E E':Env} {h h':aB} {w w':World} (ev:Ev E h w E' h' w') (x:aAN E h w):aAN E' h' w':=λp hp =>
 ⟨(ev.keep p.1 (x p hp).1).2,(x p hp).2.imp λcs ⟨t,f,ht,q⟩=>⟨t,f,by rw[(ev.keep p.1 (x p hp).1).1];exact ht,q⟩⟩
theorem aAN.pV {E:Env} {g h:aB} {w:World} (hi:∀ b,oU E h w b->oU E g w b) (x:aAN E h w):aAN E g w:=λp hp=>⟨hi _ (x p hp).1,(x p hp).2⟩
theorem Ev.refl (E:Env) (h:aB) (w:World):Ev E h w E h w :=
 ⟨bY _,λ_ hb=>⟨rfl,hb⟩,λ_ _=>rfl,λ_ hn=>⟨rfl,hn⟩,rfl,rfl⟩
theorem Ev.trans {E E' E'':Env} {h h' h'':aB} {w w' w'':World} (a:Ev E h w E' h' w') (b:Ev E' h' w' E'' h'' w''):Ev E h w E'' h'' w'' where
 size:=aDW a.size b.size
 keep:=λx hx=>⟨(b.keep x (a.keep x hx).2).1.trans (a.keep x hx).1,(b.keep x (a.keep x hx).2).2⟩
 shape:=λx hx=>(b.shape x (Nat.lt_of_lt_of_le hx a.size)).trans (a.shape x hx)
 loc:=λn hn=>⟨(b.loc n (a.loc n hn).2).1.trans (a.loc n hn).1,(b.loc n (a.loc n hn).2).2⟩
 os:=b.os.trans a.os
 out:=b.out.trans a.out
theorem wQ {w w':World} {b:Nat} (h:w'.heap[b]?=w.heap[b]?) (o:Nat) (s:Option Nat):w'.cell? ⟨b,o,s⟩=w.cell? ⟨b,o,s⟩:=by
 simp only[World.cell?,h]
theorem aJQ {w:World} {b:Nat} {x:TypeId×Nat} (h:w.shape? b=some x):b<w.heap.size:=by
 unfold World.shape? at h
 cases hb:w.heap[b]? with
 |none=>simp[hb]at h
 |some y=>exact(aRG.1 hb).1
theorem fG.ev {E E':Env} {h h':aB} {w w':World} (ev:Ev E h w E' h' w') {x:aE} {v:Value} (r:fG E h w x v):fG E' h' w' x v:=by
 induction r with
 |any v=>exact .any v
 |bool b=>exact .bool b
 |int k n=>exact .int k n
 |str s hl=>exact .str s hl
 |j8=>exact .j8
 |bS=>exact .bS
 |tN=>exact .tN
 |l7=>exact .l7
 |pK=>exact .pK
 |sl0 sz t a cap ht hmax ha=>exact .sl0 sz t a cap ht hmax ha
 |sl sz es t b o cap cv hi hcap hmax ht hs hc h1 hr ih =>
  exact .sl sz es t b o cap cv (ev.keep b hi).2 hcap hmax ht hs (λi j x hx=>by rw[wQ (ev.keep b hi).1];exact hc i j x hx) h1 ih
 |ip sz es i off b o cv hi hs hc h1 hr ih =>
  exact .ip sz es i off b o cv (ev.keep b hi).2 hs (λi j x hx=>by rw[wQ (ev.keep b hi).1];exact hc i j x hx) h1 ih
 |os n sz i len b o cap t m hd hl hlc hmax hsh hm =>
  exact .os n sz i len b o cap t m (ev.loc n hd).2 ((ev.loc n hd).1.trans hl) hlc hmax ((ev.shape b (aJQ hsh)).trans hsh) hm
 |os0 n sz hd hl=>exact .os0 n sz (ev.loc n hd).2 ((ev.loc n hd).1.trans hl)
 |op n sz i off b o hd hl=>exact .op n sz i off b o (ev.loc n hd).2 ((ev.loc n hd).1.trans hl)
 |agg cs vs hl hr ih=>exact .agg cs vs hl ih
 |gK cs vs hl hr ih=>exact .gK cs vs hl ih
 |fn f cs ds vs us hl hr hl' hr' ih ih'=>exact .fn f cs ds vs us hl ih hl' ih'
 |iface t x v hr ih=>exact .iface t x v ih
 |mp n b o hd hl=>exact .mp n b o (ev.loc n hd).2 ((ev.loc n hd).1.trans hl)
theorem eF.ev {E E':Env} {h h':aB} {w w':World} (ev:Ev E h w E' h' w'):∀ {xs:List aE} {vs:List Value},eF E h w xs vs->eF E' h' w' xs vs
 | [],[],_=>trivial
 | _::_,_::_,hh=>⟨hh.1.ev ev,eF.ev ev hh.2⟩
 | [],_::_,hh=>hh.elim
 | _::_,[],hh=>hh.elim
@[simp] theorem aI (h:aB) (n:Nat) (o:bU):aT h n o n=some o:=by simp[aT]
theorem aD (h:aB) (n m:Nat) (o:bU) (hn:m≠n):aT h n o m=h m:=by simp[aT,hn]
theorem fN (h:aB) (n m:Nat) (o:bU):aT h n o m=if m=n then some o else h m:=rfl
@[simp] theorem aL (h:aB) (n:Nat) (o o':bU):aT (aT h n o) n o'=aT h n o':=by
 funext m;simp only[aT];split <;> rfl
def aB.le (g h:aB):Prop:=∀ n,g n=none∨g n=h n
theorem aB.le_refl (h:aB):h.le h:=λ_=>.inr rfl
theorem aB.le_trans {a b c:aB} (x:a.le b) (y:b.le c):a.le c:=λn=>by
 rcases x n with h|h
 ·exact .inl h
 ·rcases y n with k|k
  ·exact .inl (h.trans k)
  ·exact .inr (h.trans k)
theorem aB.bM {g h:aB} {n:Nat} {o:bU} (hg:g n=none) (hl:g.le h):g.le (aT h n o):=λm=>by
 by_cases e:m=n
 ·subst e;exact .inl hg
 ·rw[aD _ _ _ _ e];exact hl m
def aE.qW:Value->aE
 | .bool b=>.bool b
 | .int k n=>.int k n
 | .string s=>if s.size<=maxLen then .str s.data.toList else .any
 | .pointer none=>.j8
 | .slice none 0 0=>.bS
 | .nilFunc=>.tN
 | .nilIface=>.l7
 | .map none=>.pK
 | _=>.any
def aE.ofValue:Value->aE
 | .bool b=>.bool b
 | .int k n=>.int k n
 | .string s=>if s.size<=maxLen then .str s.data.toList else .any
 | .pointer none=>.j8
 | .slice none 0 0=>.bS
 | .nilFunc=>.tN
 | .nilIface=>.l7
 | .map none=>.pK
 | .agg vs=>.agg (vs.toList.map aE.qW)
 | _=>.any
theorem fG.qW (E:Env) (h:aB) (w:World) (v:Value):fG E h w (aE.qW v) v:=by
 unfold aE.qW
 split <;> try constructor
 split
 ·rename_i s hs
  have:s=⟨s.data.toList.toArray⟩:=by cases s;simp
  rw[this]
  exact .str _ (by simpa using hs)
 ·exact .any _
theorem fG.ofValue (E:Env) (h:aB) (w:World) (v:Value):fG E h w (aE.ofValue v) v:=by
 have h1:=fG.qW E h w v
 unfold aE.qW at h1
 unfold aE.ofValue
 split <;> try exact h1
 ·rename_i vs
  have:=fG.agg (E:=E) (h:=h) (w:=w) (vs.toList.map aE.qW) vs.toList eC (λi x v hx hv=>by
   rw[sO,hv]at hx
   obtain rfl:=gO hx
   exact fG.qW E h w v)
  simpa using this
 ·exact .any _
inductive TyD where
 |int (k:IntKind)
 |bool
 |str
 |ptr (e:TypeId)
 |slice (e:TypeId)
 |arr (n:Nat) (e:TypeId)
 |st (fs:List (Nat×TypeId×Nat))
 |map (k e:TypeId)
 |other
structure lU where
 sz:Nat
 agg:Bool
 bytes:Nat
 zero:List aE
 d:TyD
def tyD (P:Program):TypeDesc->TyD
 | .int k=>.int k
 | .bool=>.bool
 | .string=>.str
 | .pointer e=>.ptr e
 | .slice e=>.slice e
 | .array n e=>.arr n e
 | .struct fs=>if fs.toList.all (λf=>(P.info? f.type).isSome)then .st (fs.toList.map λf=>(f.offset,f.type,P.cellsOf f.type))else .other
 | .map k e=>.map k e
 | _=>.other
def iP (P:Program) (t:TypeId):Option lU :=
 match P.info? t,P.underlying t with
 |some i,some u=>some {
   sz:=i.size
   agg:=match u with | .struct _ | .array _ _=>true|_=>false
   bytes:=i.bytes
   zero:=match i.zero with|some v=>v.cells.toList.map aE.ofValue|none=>[]
   d:=tyD P u }
 | _,_=>none
theorem sS {P:Program} {t:TypeId} {r:lU} (h:iP P t=some r):∃ i u,P.info? t=some i/\P.underlying t=some u /\
  r.sz=i.size/\r.bytes=i.bytes/\r.d=tyD P u/\r.agg=(match u with | .struct _ | .array _ _=>true|_=>false) /\
  r.zero=(match i.zero with|some v=>v.cells.toList.map aE.ofValue|none=>[]):=by
 unfold iP at h
 split at h
 ·rename_i i u hi hu
  obtain rfl:=gO h
  exact⟨i,u,hi,hu,rfl,rfl,rfl,rfl,rfl⟩
 ·simp at h
def xE (P:Program) (o:Oper) (ρ:Operand->Value) (w:World) (R:Value->World->Prop):Prop :=
 match (execOp ρ o).run P w with
 | .ok (.value v) w'=>R v w'
 | .ok .skip w'=>R undef w'
 | .ok (.enter f args) w'=>Calls P f args w' λe w''=>match e with | .returned v=>R v w''|_=>False
 | _=>False
theorem xE.wp {P:Program} {o:Oper} {a:Act} {w:World} {next:Act->World->Prop} {Q:Exit->Act->World->Prop}
  (h:xE P o a.eval w λv w'=>next (a.put o.dst v) w'):o.wp P a w next Q:=by
 unfold xE at h
 unfold Oper.wp
 generalize (execOp a.eval o).run P w=r at *
 cases r with
 |halt x w'=>exact h.elim
 |ok n w' =>
  cases n <;> first
   |exact h.elim
   |exact h
   |exact Calls.mono h λe w' he=>by cases e <;> first|exact he|exact he.elim
theorem xE.jR {P:Program} {o:Oper} {ρ:Operand->Value} {w w':World} {v:Value} {R:Value->World->Prop}
  (hr:(execOp ρ o).run P w=.ok (.value v) w') (h:R v w'):xE P o ρ w R:=by
 unfold xE;rw[hr];exact h
theorem xE.a93 {P:Program} {o:Oper} {ρ:Operand->Value} {w w':World} {R:Value->World->Prop}
  (hr:(execOp ρ o).run P w=.ok .skip w') (h:R undef w'):xE P o ρ w R:=by
 unfold xE;rw[hr];exact h
def aD9 (K:aE->aB->Prop) (E:Env) (h:aB) (w:World) (v:Value) (w':World):Prop :=
 ∃ r h' E',K r h'/\Ev E h w E' h' w'/\Rel E' h' w'/\fG E' h' w' r v
theorem aD9.mono {K K':aE->aB->Prop} {E:Env} {h:aB} {w:World} {v:Value} {w':World} (hk:∀ r h',K r h'->K' r h')
  (a:aD9 K E h w v w'):aD9 K' E h w v w':=let ⟨r,h',E',k,rest⟩:=a;⟨r,h',E',hk _ _ k,rest⟩
theorem aD9.same {K:aE->aB->Prop} {E:Env} {h:aB} {w:World} {v:Value} {r:aE} (hk:K r h) (hrel:Rel E h w) (hr:fG E h w r v):aD9 K E h w v w :=
 ⟨r,h,E,hk,.refl _ _ _,hrel,hr⟩
def pI (P:Program) (o:Oper) (ρ:Operand->aE) (h:aB) (K:aE->aB->Prop):Prop :=
 ∀ E w (ρc:Operand->Value),Rel E h w->(∀ x,fG E h w (ρ x) (ρc x))->xE P o ρc w (aD9 K E h w)
theorem xE.mono {P:Program} {o:Oper} {ρ:Operand->Value} {w:World} {R R':Value->World->Prop} (h:xE P o ρ w R) (hr:∀ v w',R v w'->R' v w'):xE P o ρ w R':=by
 unfold xE at *
 split at h
 ·exact hr _ _ h
 ·exact hr _ _ h
 ·exact Calls.mono h λe w' he=>by cases e <;> first|exact hr _ _ he|exact he
 ·exact h
theorem pI.mono {P:Program} {o:Oper} {ρ:Operand->aE} {h:aB} {K K':aE->aB->Prop} (hk:∀ r h',K r h'->K' r h') (a:pI P o ρ h K):pI P o ρ h K' :=
 λE w ρc hR hρ=>(a E w ρc hR hρ).mono λv w'=>aD9.mono hk
def aOK (P:Program) (f:FuncId) (args:List aE) (h:aB) (K:aE->aB->Prop):Prop :=
 ∀ E w vs,Rel E h w->eF E h w args vs->Calls P f vs.toArray w λe w'=>match e with | .returned v=>aD9 K E h w v w'|_=>False
theorem aOK.mono {P:Program} {f:FuncId} {args:List aE} {h:aB} {K K':aE->aB->Prop} (hk:∀ r h',K r h'->K' r h') (a:aOK P f args h K):aOK P f args h K' :=
 λE w vs hR hv=>Calls.mono (a E w vs hR hv) λe w' he=>by cases e <;> first|exact aD9.mono hk he|exact he
section pure
variable {P:Program} {o:Oper} {ρ:Operand->aE} {h:aB} {K:aE->aB->Prop}
theorem cI {r:aE} (hk:K r h) (hx:∀ E w (ρc:Operand->Value),Rel E h w->(∀ x,fG E h w (ρ x) (ρc x))->∃ v,(execOp ρc o).run P w=.ok (.value v) w/\fG E h w r v):pI P o ρ h K:=by
 intro E w ρc hR hρ
 obtain⟨v,hv,hr⟩:=hx E w ρc hR hρ
 exact .jR hv (.same hk hR hr)
theorem a4Z (x:Operand) (ho:o.op=.move x) (hk:K (ρ x) h):pI P o ρ h K :=
 cI hk λE w ρc _ hρ=>⟨ρc x,by simp[execOp,ho],hρ x⟩
theorem aVB (x:Operand) (ho:o.op=.assign x) (hk:K (ρ x) h):pI P o ρ h K :=
 cI hk λE w ρc _ hρ=>⟨ρc x,by simp[execOp,ho],hρ x⟩
theorem xF {E:Env} {w:World} {b:Bool} {v:Value} (hr:fG E h w (.bool b) v):v=.bool b:=by cases hr;rfl
theorem lO {E:Env} {w:World} {k:IntKind} {n:Int} {v:Value} (hr:fG E h w (.int k n) v):v=.int k n:=by cases hr;rfl
theorem vM {E:Env} {w:World} {s:List UInt8} {v:Value} (hr:fG E h w (.str s) v):v=.string ⟨s.toArray⟩/\s.length<=maxLen:=by cases hr;exact⟨rfl,by assumption⟩
theorem a40 (c a b:Operand) (t:Bool) (ho:o.op=.pick c a b) (hc:ρ c=.bool t) (hk:K (if t then ρ a else ρ b) h):pI P o ρ h K :=
 cI hk λE w ρc _ hρ=>by
  have:=xF (hc▸hρ c)
  refine⟨if t then ρc a else ρc b,by simp[execOp,ho,this,asBool],?_⟩
  cases t
  ·exact hρ b
  ·exact hρ a
def nJ (op:BinOp):aE->aE->Option aE
 | .int k a,.int k' b =>
  if k=k' then
   match op with
   | .add=>some (.int k (k.wrap (a+b)))
   | .sub=>some (.int k (k.wrap (a-b)))
   | .mul=>some (.int k (k.wrap (a*b)))
   | .eql=>some (.bool (decide (a=b)))
   | .neq=>some (.bool (!decide (a=b)))
   | .lss=>some (.bool (decide (a<b)))
   | .leq=>some (.bool (decide (a<=b)))
   | .gtr=>some (.bool (decide (a > b)))
   | .geq=>some (.bool (decide (a ≥ b)))
   | .and=>some (.int k (k.wrap (BitVec.ofInt k.bits a &&& BitVec.ofInt k.bits b).toNat))
   | .or=>some (.int k (k.wrap (BitVec.ofInt k.bits a ||| BitVec.ofInt k.bits b).toNat))
   | .andNot=>some (.int k (k.wrap (BitVec.ofInt k.bits a &&& ~~~ BitVec.ofInt k.bits b).toNat))
   | _=>none
  else none
 | .str a,.str b =>
  match op with
  | .eql=>some (.bool (decide (a=b)))
  | .neq=>some (.bool (!decide (a=b)))
  | _=>none
 | _,_=>none
theorem a94 (op:BinOp) (t ty:TypeId) (x y:Operand) (r:aE) (ho:o.op=.binOp op t x y ty) (hb:nJ op (ρ x) (ρ y)=some r) (hk:K r h):pI P o ρ h K :=
 cI hk λE w ρc _ hρ=>by
  have hx:=hρ x
  have hy:=hρ y
  unfold nJ at hb
  split at hb
  ·rename_i k a k' b ex ey
   rw[ex]at hx;rw[ey]at hy
   have hx:=lO hx
   have hy:=lO hy
   split at hb
   ·rename_i hkk
    subst hkk
    have hg:(eqGuard op t x y (ρc x) (ρc y)).run P w=.ok () w:=by
     rw[hx,hy];cases op <;> simp[eqGuard]
    split at hb <;> first|(simp at hb;done)|(
     obtain rfl:=gO hb
     refine⟨_,by simp only[execOp,ho,Sem.run_bind,hg,Result.andThen_ok,hx,hy,binOp,Op.intArith,Op.intCmp,Op.intBits,ne_eq,not_true_eq_false,if_false,Sem.run_pure];rfl,?_⟩
     constructor)
   ·simp at hb
  ·rename_i a b ex ey
   rw[ex]at hx;rw[ey]at hy
   obtain⟨hx,_⟩:=vM hx
   obtain⟨hy,_⟩:=vM hy
   have hg:(eqGuard op t x y (ρc x) (ρc y)).run P w=.ok () w:=by
    rw[hx,hy];cases op <;> simp[eqGuard]
   have e1:(⟨a.toArray⟩:ByteArray).toList=a:=by rw[ByteArray.toList_eq]
   have e2:(⟨b.toArray⟩:ByteArray).toList=b:=by rw[ByteArray.toList_eq]
   split at hb <;> first|(simp at hb;done)|(
    obtain rfl:=gO hb
    refine⟨_,by simp only[execOp,ho,Sem.run_bind,hg,Result.andThen_ok,hx,hy,binOp,Op.stringOp,Sem.run_pure,e1,e2];rfl,?_⟩
    first|exact .bool _|skip)
   all_goals(rw[show(a == b)=decide (a=b)from Bool.eq_iff_iff.2 (by rw[beq_iff_eq,decide_eq_true_eq])];constructor)
  ·simp at hb
end pure
set_option linter.unusedVariables false
set_option linter.unusedSimpArgs false
theorem wP.ev {E E':Env} {h h':aB} {w w':World} (ev:Ev E h w E' h' w') {x:Cell} {v:Value} {S:Nat->Prop} (r:wP E h w x v S)
  (hS:∀ c,S c->w'.heap[c]?=w.heap[c]?):wP E' h' w' x v S:=by
 induction r with
 |v x c S h1 hx=>exact .v x c S h1 (hx.ev ev)
 |aVA sz a cap S hmax ha=>exact .aVA sz a cap S hmax ha
 |own sz es b o cap S cs t cv T hb hh hlc hmax hm hs hT hD hc hr ih =>
  exact .own sz es b o cap S cs t cv T hb ((hS b hb).trans hh) hlc hmax hm hs hT hD hc λi j x hx=>ih i j x hx λc hc=>hS c (hT i j c hc).1
theorem wP.mono {E:Env} {h:aB} {w:World} {x:Cell} {v:Value} {S S':Nat->Prop} (r:wP E h w x v S) (hs:∀ c,S c->S' c):wP E h w x v S':=by
 cases r with
 |v _ _ _ h1 hx=>exact .v _ _ _ h1 hx
 |aVA sz a cap _ hmax ha=>exact .aVA sz a cap _ hmax ha
 |own sz es b o cap _ cs t cv T hb hh hlc hmax hm hs' hT hD hc hr =>
  exact .own sz es b o cap _ cs t cv T (hs _ hb) hh hlc hmax hm hs' (λi j c hc=>⟨hs _ (hT i j c hc).1,(hT i j c hc).2⟩) hD hc hr
theorem wP.one {E:Env} {h:aB} {w:World} {x:Cell} {v:Value} {S:Nat->Prop} (r:wP E h w x v S):v.oneCell'=true:=by
 cases r <;> first|assumption|rfl
theorem aJO.ev {E E':Env} {h h':aB} {w w':World} (ev:Ev E h w E' h' w') {b o sz:Nat} {es:List (List Cell)} {S:Nat->Prop} (r:aJO E h w b o sz es S)
  (hS:∀ c,S c->w'.heap[c]?=w.heap[c]?):aJO E' h' w' b o sz es S:=by
 obtain⟨hb,hs,cs,t,cv,T,hh,hm,hT,hD,hc,hr⟩:=r
 exact⟨hb,hs,cs,t,cv,T,(hS b hb).trans hh,hm,hT,hD,hc,λi j x hx=>(hr i j x hx).ev ev λc hc=>hS c (hT i j c hc).1⟩
theorem aYI.ev {E E':Env} {h h':aB} {w w':World} (ev:Ev E h w E' h' w') {b:Nat} {l:List (aE×aE)} {S:Nat->Prop} (r:aYI E h w b l S)
  (hS:∀ c,S c->w'.heap[c]?=w.heap[c]?):aYI E' h' w' b l S:=by
 obtain⟨hb,es,clock,hh,hk,h1,h2⟩:=r
 exact⟨hb,es,clock,(hS b hb).trans hh,hk,h1.ev ev,h2.ev ev⟩
theorem aD8.ev {E E':Env} {h h':aB} {w w':World} (ev:Ev E h w E' h' w') {n:Nat} {o:bU} (hl:E'.loc n=E.loc n) (hfp:E'.fp n=E.fp n)
  (hS:∀ c,o.live->E.fp n c->w'.heap[c]?=w.heap[c]?) (r:aD8 E h w n o):aD8 E' h' w' n o:=by
 cases o with
 |row sz es =>
  rcases r with⟨b,o,hb,hr⟩|⟨he,hn⟩
  ·exact .inl ⟨b,o,hl.trans hb,by rw[hfp];exact hr.ev ev (λc hc=>hS c trivial hc)⟩
  ·exact .inr ⟨he,hl.trans hn⟩
 |map kt et l =>
  obtain⟨b,o,hb,hr⟩:=r
  exact⟨b,o,hl.trans hb,by rw[hfp];exact hr.ev ev (λc hc=>hS c trivial hc)⟩
 |raw t cs =>
  obtain⟨b,hb,hf,hr⟩:=r
  exact⟨b,hl.trans hb,by rw[hfp];exact hf,(hS b trivial hf).trans hr⟩
 |abs Q =>
  obtain⟨b,hb,hf,w0,hq,ha⟩:=r
  exact⟨b,hl.trans hb,by rw[hfp];exact hf,w0,by rw[hfp];exact hq,λc hc=>by rw[hfp]at hc;exact(hS c trivial hc).trans (ha c hc)⟩
 |gone=>trivial
def uS (w:World) (o:Obj) (d:Nat):World:={ heap:=w.heap.push o,tape:=w.tape,drawn:=d,os:=w.os,output:=w.output }
theorem oA (w:World) (o:Obj) (d:Nat):(uS w o d).heap.size=w.heap.size+1:=by simp[uS]
theorem nP (w:World) (o:Obj) (d b:Nat) (hb:b<w.heap.size):(uS w o d).heap[b]?=w.heap[b]?:=by
 simp only[uS,Array.getElem?_push];rw[if_neg aA]
theorem vN (w:World) (o:Obj) (d:Nat):(uS w o d).heap[w.heap.size]?=some o:=by simp[uS]
def Env.add (E:Env) (n b:Nat):Env where
 loc:=λm=>if m=n then some (b,0)else E.loc m
 fp:=λm c=>if m=n then c=b else E.fp m c
 used:=λm=>m=n∨E.used m
theorem Rel.none {E:Env} {h:aB} {w:World} (R:Rel E h w) {n:Nat} (hn:¬E.used n):h n=none:=by
 cases e:h n with
 |none=>rfl
 |some o=>exact absurd (R.dom n (by simp[e])) hn
theorem Rel.fresh {E:Env} {h:aB} {w:World} (R:Rel E h w):∃ n,¬E.used n:=let ⟨N,hN⟩:=R.fin;⟨N,hN N (bY _)⟩
theorem Ev.alloc {E:Env} {h:aB} {w:World} (R:Rel E h w) {n:Nat} (hn:¬E.used n) (o:Obj) (x:bU) (d:Nat) :
  Ev E h w (E.add n w.heap.size) (aT h n x) (uS w o d):=by
 have hne:∀ m,E.used m->m≠n:=λm hm e=>hn (e▸hm)
 have hheap:∀ b,b<w.heap.size->(uS w o d).heap[b]?=w.heap[b]?:=nP w o d
 refine⟨by rw[oA];omega,λb hb=>⟨hheap b hb.1,⟨by have:=hb.1;rw[oA];omega,?_⟩⟩,λb hb=>by simp only[World.shape?,hheap b hb],λm hm=>?_,rfl,rfl⟩
 ·intro m y hm hy hf
  by_cases e:m=n
  ·subst e;have hf:b=w.heap.size:=by simpa[Env.add]using hf
   have:=hb.1;omega
  ·rw[aD _ _ _ _ e]at hm;exact hb.2 m y hm hy (by simpa[Env.add,e]using hf)
 ·have e:=hne m hm
  exact⟨by simp[Env.add,e],.inr hm⟩
theorem Rel.aM5 {E:Env} {h:aB} {w:World} (R:Rel E h w) {n:Nat} (hn:¬E.used n) (o:Obj) (x:bU) (d:Nat)
  (hx:aD8 (E.add n w.heap.size) (aT h n x) (uS w o d) n x):Rel (E.add n w.heap.size) (aT h n x) (uS w o d):=by
 have ev:=Ev.alloc R hn o x d
 have hheap:∀ b,b<w.heap.size->(uS w o d).heap[b]?=w.heap[b]?:=nP w o d
 refine⟨?_,?_,?_,?_,?_,R.laid.ev ev⟩
 ·obtain⟨N,hN⟩:=R.fin
  exact ⟨max N (n + 1), fun m hm => by rintro (e | e); · omega
                                       · exact hN m aA e⟩
 ·intro m hm
  by_cases e:m=n
  ·exact .inl e
  ·rw[aD _ _ _ _ e]at hm;exact .inr (R.dom m hm)
 ·intro m y b hm hy hb
  by_cases e:m=n
  ·subst e;have hb:b=w.heap.size:=by simpa[Env.add]using hb
   rw[oA];omega
  ·rw[aD _ _ _ _ e]at hm
   have:=R.lt m y b hm hy a4W
   rw[oA];omega
 ·intro m y m' y' b hm hy hm' hy' hb hb'
  by_cases e:m=n <;> by_cases e':m'=n
  ·rw[e,e']
  ·subst e;rw[aD _ _ _ _ e']at hm'
   have hb:b=w.heap.size:=by simpa[Env.add]using hb
   have:=R.lt m' y' b hm' hy' (by simpa[Env.add,e']using hb');omega
  ·subst e';rw[aD _ _ _ _ e]at hm
   have hb':b=w.heap.size:=by simpa[Env.add]using hb'
   have:=R.lt m y b hm hy a4W;omega
  ·rw[aD _ _ _ _ e]at hm;rw[aD _ _ _ _ e']at hm'
   exact R.apart m y m' y' b hm hy hm' hy' a4W (by simpa[Env.add,e']using hb')
 ·intro m y hm
  by_cases e:m=n
  ·subst e;rw[aI]at hm;obtain rfl:=gO hm;exact hx
  ·rw[aD _ _ _ _ e]at hm
   exact(R.obj m y hm).ev ev (by simp[Env.add,e]) (by funext c;simp[Env.add,e]) λc hy hc=>hheap c (R.lt m y c hm hy hc)
theorem vO {α:Type} {sz:Nat}:∀ (es:List (List α)),(∀ e∈es,e.length=sz)->∀ i j x,iU es i j=some x->es.flatten[i*sz+j]?=some x
 | [],_,i,j,x,hx=>by simp[iU]at hx
 |e::es,hs,0,j,x,hx=>by
  simp only[iU,aI9,a13]at hx
  have hl:=(iY.1 hx).1
  simp only[a9T,a37,aHQ]
  rw[uP hl];exact hx
 |e::es,hs,i+1,j,x,hx=>by
  have he:=hs e eC
  have ih:=vO es (λe he=>hs e (by simp[he])) i j x (by simpa[iU]using hx)
  simp only[a9T]
  rw[yD (by rw[he,uQ];omega)]
  rw[←ih];congr 1;rw[he,uQ];omega
theorem length_flatten {α:Type} {sz:Nat}:∀ (es:List (List α)),(∀ e∈es,e.length=sz)->es.flatten.length=es.length*sz
 | [],_=>by simp
 |e::es,hs=>by
  have he:=hs e eC
  have ih:=length_flatten es (λe he=>hs e (by simp[he]))
  simp[he,ih,uQ];omega
theorem nQ {α β:Type} (f:α->β) (es:List (List α)) (i j:Nat):iU (es.map (List.map f)) i j=(iU es i j).map f:=by
 unfold iU
 rw[sO]
 cases es[i]? <;> simp
theorem Rel.a18 {E:Env} {h:aB} {w:World} (R:Rel E h w) {n:Nat} (hn:¬E.used n) (sz:Nat) (es:List (List aE)) (hs:∀ e∈es,e.length=sz)
  (cs:Array Value) (t:TypeId) (d:Nat) (cv:Nat->Nat->Value) (hm:es.length*sz<=cs.size)
  (hc:∀ i j x,iU es i j=some x->cs[i*sz+j]?=some (cv i j)/\(cv i j).oneCell'=true/\fG E h w x (cv i j)) :
  Rel (E.add n w.heap.size) (aT h n (.row sz (es.map (List.map .v)))) (uS w (.cells cs t) d):=by
 refine R.aM5 hn _ _ d (.inl ⟨w.heap.size,0,by simp[Env.add],?_⟩)
 have ev:=Ev.alloc R hn (.cells cs t) (.row sz (es.map (List.map .v))) d
 refine⟨by simp[Env.add],?_,cs,t,cv,λ_ _ _=>False,?_,by simpa using hm,λ_ _ _ hf=>hf.elim,λ_ _ _ _ _ hf=>hf.elim,?_,?_⟩
 ·intro e he
  obtain⟨e',he',rfl⟩:=lZ.1 he
  simpa using hs e' he'
 ·exact vN _ _ _
 ·intro i j x hx
  rw[nQ]at hx
  obtain⟨y,hy,rfl⟩:=r7.1 hx
  simpa using(hc i j y hy).1
 ·intro i j x hx
  rw[nQ]at hx
  obtain⟨y,hy,rfl⟩:=r7.1 hx
  exact .v _ _ _ (hc i j y hy).2.1 ((hc i j y hy).2.2.ev ev)
theorem Ev.write {E:Env} {h:aB} {w w':World} (R:Rel E h w) {n b:Nat} {x:bU} (hn:h n=some x) (hx:x.live) (hb:E.fp n b) (x':bU) (hx':x'.live)
  (hsize:w'.heap.size=w.heap.size) (hoth:∀ c,c≠b->w'.heap[c]?=w.heap[c]?) (hsh:w'.shape? b=w.shape? b) (hos:w'.os=w.os) (hout:w'.output=w.output) :
  Ev E h w E (aT h n x') w':=by
 refine⟨by omega,λc hc=>⟨hoth c λe=>hc.2 n x hn hx (e▸hb),⟨by have:=hc.1;omega,?_⟩⟩,λc hc=>?_,λm hm=>⟨rfl,?_⟩,hos,hout⟩
 ·intro m y hm hy
  by_cases e:m=n
  ·subst e;exact hc.2 m x hn hx
  ·rw[aD _ _ _ _ e]at hm;exact hc.2 m y hm hy
 ·by_cases e:c=b
  ·rw[e];exact hsh
  ·simp only[World.shape?,hoth c e]
 ·exact hm
theorem Rel.write {E:Env} {h:aB} {w w':World} (R:Rel E h w) {n b:Nat} {x:bU} (hn:h n=some x) (hx:x.live) (hb:E.fp n b) (x':bU) (hx':x'.live)
  (hsize:w'.heap.size=w.heap.size) (hoth:∀ c,c≠b->w'.heap[c]?=w.heap[c]?) (hsh:w'.shape? b=w.shape? b) (hos:w'.os=w.os) (hout:w'.output=w.output)
  (hO:aD8 E (aT h n x') w' n x'):Rel E (aT h n x') w':=by
 have ev:=Ev.write R hn hx hb x' hx' hsize hoth hsh hos hout
 refine⟨R.fin,?_,?_,?_,?_,R.laid.ev ev⟩
 ·intro m hm
  by_cases e:m=n
  ·subst e;exact R.dom m (by simp[hn])
  ·rw[aD _ _ _ _ e]at hm;exact R.dom m hm
 ·intro m y c hm hy hc
  rw[hsize]
  by_cases e:m=n
  ·subst e;exact R.lt m x c hn hx hc
  ·rw[aD _ _ _ _ e]at hm;exact R.lt m y c hm hy hc
 ·intro m y m' y' c hm hy hm' hy' hc hc'
  by_cases e:m=n <;> by_cases e':m'=n
  ·rw[e,e']
  ·subst e;rw[aD _ _ _ _ e']at hm';exact R.apart m x m' y' c hn hx hm' hy' hc hc'
  ·subst e';rw[aD _ _ _ _ e]at hm;exact R.apart m y m' x c hm hy hn hx hc hc'
  ·rw[aD _ _ _ _ e]at hm;rw[aD _ _ _ _ e']at hm';exact R.apart m y m' y' c hm hy hm' hy' hc hc'
 ·intro m y hm
  by_cases e:m=n
  ·subst e;rw[aI]at hm;obtain rfl:=gO hm;exact hO
  ·rw[aD _ _ _ _ e]at hm
   exact(R.obj m y hm).ev ev rfl rfl λc hy hc=>hoth c λeb=>e (R.apart m y n x b hm hy hn hx (eb▸hc) hb)
theorem oU.le {E:Env} {g h:aB} {w:World} {b:Nat} (hl:g.le h) (i:oU E h w b):oU E g w b :=
 ⟨i.1, fun n o hn ho => i.2 n o (by rcases hl n with e | e
                                    · rw[e]at hn;simp at hn
                                    · rw[←e];exact hn) ho⟩
theorem fG.pV {E:Env} {g h:aB} {w:World} (hi:∀ b,oU E h w b->oU E g w b) {x:aE} {v:Value} (r:fG E h w x v):fG E g w x v:=by
 induction r with
 |any v=>exact .any v
 |bool b=>exact .bool b
 |int k n=>exact .int k n
 |str s hl=>exact .str s hl
 |j8=>exact .j8
 |bS=>exact .bS
 |tN=>exact .tN
 |l7=>exact .l7
 |pK=>exact .pK
 |sl0 sz t a cap ht hmax ha=>exact .sl0 sz t a cap ht hmax ha
 |sl sz es t b o cap cv hb hcap hmax ht hs hc h1 hr ih=>exact .sl sz es t b o cap cv (hi b hb) hcap hmax ht hs hc h1 ih
 |ip sz es i off b o cv hb hs hc h1 hr ih=>exact .ip sz es i off b o cv (hi b hb) hs hc h1 ih
 |os n sz i len b o cap t m hd hl hlc hmax hsh hm=>exact .os n sz i len b o cap t m hd hl hlc hmax hsh hm
 |os0 n sz hd hl=>exact .os0 n sz hd hl
 |op n sz i off b o hd hl=>exact .op n sz i off b o hd hl
 |agg cs vs hl hr ih=>exact .agg cs vs hl ih
 |gK cs vs hl hr ih=>exact .gK cs vs hl ih
 |fn f cs ds vs us hl hr hl' hr' ih ih'=>exact .fn f cs ds vs us hl ih hl' ih'
 |iface t x v hr ih=>exact .iface t x v ih
 |mp n b o hd hl=>exact .mp n b o hd hl
theorem eF.pV {E:Env} {g h:aB} {w:World} (hi:∀ b,oU E h w b->oU E g w b):∀ {xs:List aE} {vs:List Value},eF E h w xs vs->eF E g w xs vs
 | [],[],_=>trivial
 | _::_,_::_,hh=>⟨hh.1.pV hi,eF.pV hi hh.2⟩
 | [],_::_,hh=>hh.elim
 | _::_,[],hh=>hh.elim
theorem wP.pV {E:Env} {g h:aB} {w:World} (hi:∀ b,oU E h w b->oU E g w b) {x:Cell} {v:Value} {S:Nat->Prop} (r:wP E h w x v S):wP E g w x v S:=by
 induction r with
 |v x c S h1 hx=>exact .v x c S h1 (hx.pV hi)
 |aVA sz a cap S hmax ha=>exact .aVA sz a cap S hmax ha
 |own sz es b o cap S cs t cv T hb hh hlc hmax hm hs hT hD hc hr ih=>exact .own sz es b o cap S cs t cv T hb hh hlc hmax hm hs hT hD hc ih
theorem aD8.pV {E:Env} {g h:aB} {w:World} (hi:∀ b,oU E h w b->oU E g w b) {n:Nat} {o:bU} (r:aD8 E h w n o):aD8 E g w n o:=by
 cases o with
 |row sz es =>
  rcases r with⟨b,o,hb,hbS,hs,cs,t,cv,T,hh,hm,hT,hD,hcc,hrr⟩|r
  ·exact .inl ⟨b,o,hb,hbS,hs,cs,t,cv,T,hh,hm,hT,hD,hcc,λi j x hx=>(hrr i j x hx).pV hi⟩
  ·exact .inr r
 |map kt et l =>
  obtain⟨b,o,hb,hbS,es,clock,hh,hk,h1,h2⟩:=r
  exact⟨b,o,hb,hbS,es,clock,hh,hk,h1.pV hi,h2.pV hi⟩
 |raw t cs=>exact r
 |abs Q=>exact r
 |gone=>trivial
theorem Rel.forget {E:Env} {g h:aB} {w:World} (R:Rel E h w) (hl:g.le h):Rel E g w:=by
 have hgl:∀ n o,g n=some o->h n=some o:=λn o hg=>by
  rcases hl n with e|e
  ·rw[e]at hg;simp at hg
  ·rw[←e];exact hg
 refine⟨R.fin,λn hn=>R.dom n ?_,λn o b hn=>R.lt n o b (hgl n o hn),λn o m o' b hn ho hm=>R.apart n o m o' b (hgl n o hn) ho (hgl m o' hm),
  λn o hn=>(R.obj n o (hgl n o hn)).pV λb=>oU.le hl,R.laid.pV λb=>oU.le hl⟩
 rcases hl n with e|e
 ·exact absurd e hn
 ·rw[←e];exact hn
theorem Ev.forget {E E':Env} {h h' g:aB} {w w':World} (ev:Ev E h w E' h' w') (hl:g.le h'):Ev E h w E' g w' :=
 ⟨ev.size,λb hb=>⟨(ev.keep b hb).1,(ev.keep b hb).2.le hl⟩,ev.shape,ev.loc,ev.os,ev.out⟩
theorem aAO {E:Env} {h:aB} {w:World} (n:Nat) (b:Nat) (i:oU E h w b):oU E (aT h n .gone) w b :=
 ⟨i.1,λm o hm ho=>by
  by_cases e:m=n
  ·subst e;rw[aI]at hm;obtain rfl:=gO hm;exact ho.elim
  ·rw[aD _ _ _ _ e]at hm;exact i.2 m o hm ho⟩
theorem aG2 {E:Env} {h:aB} {w:World} (R:Rel E h w) {n:Nat} {x:bU} (hn:h n=some x) (hx:x.live) (b:Nat) (hb:E.fp n b):oU E (aT h n .gone) w b :=
 ⟨R.lt n x b hn hx hb,λm o hm ho hf=>by
  by_cases e:m=n
  ·subst e;rw[aI]at hm;obtain rfl:=gO hm;exact ho.elim
  ·rw[aD _ _ _ _ e]at hm;exact e (R.apart m o n x b hm ho hn hx hf hb)⟩
theorem Rel.gone {E:Env} {h:aB} {w:World} (R:Rel E h w) {n:Nat} {x:bU} (hn:h n=some x):Rel E (aT h n .gone) w:=by
 refine⟨R.fin,λm hm=>?_,?_,?_,?_,R.laid.pV λb=>aAO n b⟩
 ·by_cases e:m=n
  ·subst e;exact R.dom m (by simp[hn])
  ·rw[aD _ _ _ _ e]at hm;exact R.dom m hm
 ·intro m o b hm ho
  by_cases e:m=n
  ·subst e;rw[aI]at hm;obtain rfl:=gO hm;exact ho.elim
  ·rw[aD _ _ _ _ e]at hm;exact R.lt m o b hm ho
 ·intro m o m' o' b hm ho hm' ho'
  by_cases e:m=n
  ·subst e;rw[aI]at hm;obtain rfl:=gO hm;exact ho.elim
  ·by_cases e':m'=n
   ·subst e';rw[aI]at hm';obtain rfl:=gO hm';exact ho'.elim
   ·rw[aD _ _ _ _ e]at hm;rw[aD _ _ _ _ e']at hm';exact R.apart m o m' o' b hm ho hm' ho'
 ·intro m o hm
  by_cases e:m=n
  ·subst e;rw[aI]at hm;obtain rfl:=gO hm;trivial
  ·rw[aD _ _ _ _ e]at hm;exact(R.obj m o hm).pV λb=>aAO n b
theorem Ev.gone {E:Env} {h:aB} {w:World} (n:Nat):Ev E h w E (aT h n .gone) w :=
 ⟨bY _,λb hb=>⟨rfl,aAO n b hb⟩,λ_ _=>rfl,λ_ hn=>⟨rfl,hn⟩,rfl,rfl⟩
mutual
def Cell.val:Cell->aE
 | .v x=>x
 | .own sz es=>.sl sz (fD es) false
def fD:List (List Cell)->List (List aE)
 | []=>[]
 |e::es=>aFT e::fD es
def aFT:List Cell->List aE
 | []=>[]
 |c::cs=>c.val::aFT cs
end
theorem aM6:∀ (e:List Cell),aFT e=e.map Cell.val
 | []=>rfl
 |c::cs=>by simp[aFT,aM6 cs]
theorem yF:∀ (es:List (List Cell)),fD es=es.map (List.map Cell.val)
 | []=>rfl
 |e::es=>by simp[fD,yF es,aM6]
theorem sT (es:List (List Cell)) (i j:Nat):iU (fD es) i j=(iU es i j).map Cell.val:=by
 rw[yF,nQ]
theorem uT (es:List (List Cell)):(fD es).length=es.length:=by rw[yF,gX]
theorem yG {sz:Nat} {es:List (List Cell)} (hs:∀ e∈es,e.length=sz):∀ e∈fD es,e.length=sz:=by
 intro e he
 rw[yF]at he
 obtain⟨e',he',rfl⟩:=lZ.1 he
 simpa using hs e' he'
theorem wP.s7 {E:Env} {h g:aB} {w:World} {x:Cell} {v:Value} {S:Nat->Prop} (hi:∀ b,oU E h w b->oU E g w b)
  (r:wP E h w x v S) (hS:∀ c,S c->oU E g w c):fG E g w x.val v:=by
 induction r with
 |v x c S h1 hx=>exact hx.pV hi
 |aVA sz a cap S hmax ha =>
  simp only[Cell.val,fD]
  exact .sl0 sz false a cap (λe=>by simp at e) hmax ha
 |own sz es b o cap S cs t cv T hb hh hlc hmax hm hs hT hD hc hr ih =>
  simp only[Cell.val]
  have:=fG.sl (E:=E) (h:=g) (w:=w) sz (fD es) false b o cap cv (hS b hb) (by rw[uT];exact hlc) hmax (λe=>by simp at e) (yG hs)
   (λi j x hx=>by
    rw[sT]at hx
    obtain⟨y,hy,rfl⟩:=r7.1 hx
    simp only[World.cell?,hh];exact hc i j y hy)
   (λi j x hx=>by
    rw[sT]at hx
    obtain⟨y,hy,rfl⟩:=r7.1 hx
    exact(hr i j y hy).one)
   (λi j x hx=>by
    rw[sT]at hx
    obtain⟨y,hy,rfl⟩:=r7.1 hx
    exact ih i j y hy λc hc=>hS c (hT i j c hc).1)
  rw[uT]at this
  exact this
section types
variable {P:Program} {w:World} {t:TypeId} {r:lU}
theorem gV (h:iP P t=some r):(sizeOf t).run P w=.ok r.sz w:=by
 obtain⟨i,u,hi,hu,h1,_⟩:=sS h
 simp[sizeOf,typeInfo,hi,h1]
theorem aVC (h:iP P t=some r):(isAgg t).run P w=.ok r.agg w:=by
 obtain⟨i,u,hi,hu,h1,h2,h3,h4,h5⟩:=sS h
 rw[h4]
 cases u <;> simp[isAgg,underlying,hu]
theorem cD (h:iP P t=some r):∃ u,P.underlying t=some u/\tyD P u=r.d/\(underlying t).run P w=.ok u w:=by
 obtain⟨i,u,hi,hu,h1,h2,h3,h4,h5⟩:=sS h
 exact⟨u,hu,h3.symm,by simp[underlying,hu]⟩
theorem qF (h:iP P t=some r) (hz:r.zero≠[]):∃ z,(zeroValue t).run P w=.ok z w/\z.cells.toList.map aE.ofValue=r.zero:=by
 obtain⟨i,u,hi,hu,h1,h2,h3,h4,h5⟩:=sS h
 cases e:i.zero with
 |none=>rw[h5,e]at hz;exact absurd rfl hz
 |some z=>exact⟨z,by simp[zeroValue,typeInfo,hi,e],by rw[h5,e]⟩
theorem iF {u:TypeDesc} {e:TypeId} (h:tyD P u=.slice e):u=.slice e:=by
 cases u <;> simp[tyD]at h ⊢ <;> first|exact h|(split at h <;> simp at h)
theorem a95 {u:TypeDesc} {n:Nat} {e:TypeId} (h:tyD P u=.arr n e):u=.array n e:=by
 cases u <;> simp[tyD]at h ⊢ <;> first|exact h|(split at h <;> simp at h)
theorem aEA {u:TypeDesc} (h:tyD P u=.str):u=.string:=by
 cases u <;> simp[tyD]at h ⊢ <;> (split at h <;> simp at h)
theorem a41 {u:TypeDesc} (h:tyD P u=.bool):u=.bool:=by
 cases u <;> simp[tyD]at h ⊢ <;> (split at h <;> simp at h)
theorem aYJ {u:TypeDesc} {k:IntKind} (h:tyD P u=.int k):u=.int k:=by
 cases u <;> simp[tyD]at h ⊢ <;> first|exact h|(split at h <;> simp at h)
theorem a42 {u:TypeDesc} {fs:List (Nat×TypeId×Nat)} (h:tyD P u=.st fs):∃ gs:Array Field,u=.struct gs/\gs.toList.all (λf=>(P.info? f.type).isSome)=true/\gs.toList.map (λf=>(f.offset,f.type,P.cellsOf f.type))=fs:=by
 cases u with
 |struct gs =>
  simp only[tyD]at h
  split at h
  ·rename_i hg;exact⟨gs,rfl,hg,by simpa using h⟩
  ·simp at h
 | _=>simp[tyD]at h
theorem aAP {f:Field} (h:(P.info? f.type).isSome=true):(sizeOf f.type).run P w=.ok (P.cellsOf f.type) w:=by
 cases e:P.info? f.type with
 |none=>simp[e]at h
 |some i=>simp[sizeOf,typeInfo,e,Program.cellsOf]
end types
def aE.flat:aE->Bool
 | .any | .agg _ | .gK _=>false
 | _=>true
def aE.cells:aE->List aE
 | .agg cs=>cs
 |x=>[x]
theorem fG.qX {E:Env} {h:aB} {w:World} {x:aE} {v:Value} (r:fG E h w x v) (hf:x.flat=true):v.oneCell'=true/\v.cells=#[v]:=by
 cases r <;> simp[aE.flat]at hf <;> exact⟨rfl,rfl⟩
theorem fG.aFU {E:Env} {h:aB} {w:World} {x:aE} {v:Value} (r:fG E h w x v) (hf:x.cells.all aE.flat=true) :
  eF E h w x.cells v.cells.toList/\∀ c∈v.cells.toList,c.oneCell'=true:=by
 cases hx:x with
 |agg cs =>
  subst hx
  cases r with
  |agg _ vs hl hr =>
   have hL:eF E h w cs vs:=eF.mk hl hr
   refine⟨by simpa[aE.cells,Value.cells]using hL,?_⟩
   intro c hc
   have hc:c∈vs:=by simpa[Value.cells]using hc
   obtain⟨i,hi⟩:=a9U hc
   have hlt:i<cs.length:=by rw[hl];exact(iY.1 hi).1
   have hx:cs[i]?=some cs[i]:=fC hlt
   have:=hr i _ c hx hi
   exact(this.qX (by simp only[aE.cells]at hf;exact vF.1 hf _ (lF hlt))).1
 | _ =>
  subst hx
  first
   |(simp[aE.cells,aE.flat]at hf;done)
   |(obtain⟨h1,h2⟩:=r.qX rfl
     rw[h2]
     exact⟨⟨r,trivial⟩,λc hc=>by simp at hc;rw[hc];exact h1⟩)
def aAQ:List Cell->Option (List aE)
 | []=>some []
 | .v x::cs=>(aAQ cs).map (x::·)
 | .own _ _::_=>none
theorem aCX:∀ {l:List Cell} {xs:List aE},aAQ l=some xs->l=xs.map .v
 | [],xs,h=>by simp[aAQ]at h;subst h;rfl
 | .v x::cs,xs,h=>by
  simp only[aAQ,r7]at h
  obtain⟨ys,hy,rfl⟩:=h
  simp[aCX hy]
 | .own _ _::_,xs,h=>by simp[aAQ]at h
def ld (r:lU) (e:List aE) (off:Nat):Option aE :=
 if r.agg then(if off+r.sz<=e.length then some (.agg ((e.drop off).take r.sz))else none)else e[off]?
def aG3 (r:lU) (e:List Cell) (off:Nat):Option aE :=
 if r.agg then(if off+r.sz<=e.length then(aAQ ((e.drop off).take r.sz)).map .agg else none)
 else match e[off]? with|some (.v x)=>some x|_=>none
theorem aEB {P:Program} {w:World} {t:TypeId} {r:lU} (ht:iP P t=some r) {b o:Nat} (f:Nat->Value)
  (hc:∀ j,j<(if r.agg then r.sz else 1)->w.cell? ⟨b,o+j,none⟩=some (f j)) :
  (loadVar t ⟨b,o,none⟩).run P w=.ok (if r.agg then .agg ((List.range r.sz).map f).toArray else f 0) w:=by
 simp only[loadVar,Sem.run_bind,aVC ht,Result.andThen_ok]
 cases ha:r.agg with
 |true =>
  simp only[ha,if_true]at hc ⊢
  simp only[Sem.run_bind,gV ht,Result.andThen_ok]
  rw[run_loadCells w ⟨b,o,none⟩ r.sz f (λj hj=>by rw[←hc j hj];simp only[Addr.add];split <;> simp_all)]
  simp
 |false =>
  simp only[ha,aOH,if_false]at hc ⊢
  have:=hc 0 aA
  simp only[aU4]at this
  simp[this]
section
variable {P:Program} {o:Oper} {ρ:Operand->aE} {h:aB} {K:aE->aB->Prop}
theorem aG4 {E:Env} {w:World} {v:Value} (t:TypeId) (r:lU) (sz i off:Nat) (es:List (List aE)) (e:List aE) (x:aE) (ht:iP P t=some r)
  (hr:fG E h w (.ip sz es i off) v) (he:es[i]?=some e) (hx:ld r e off=some x):∃ b o c,v=.pointer (some ⟨b,o,none⟩)/\(loadVar t ⟨b,o,none⟩).run P w=.ok c w/\fG E h w x c:=by
  cases hr with
  |ip _ _ _ _ b o' cv hi hs hc h1 hrr =>
   have hsz:=hs e (s5 he)
   have hat:∀ j y,e[j]?=some y->iU es i j=some y:=λj y hy=>by simp[iU,he,hy]
   have hcell:∀ j,j<(if r.agg then r.sz else 1)->off+j<e.length:=by
    intro j hj
    unfold ld at hx
    cases hg:r.agg with
    |true =>
     simp only[hg,if_true]at hx hj
     split at hx
     ·omega
     ·simp at hx
    |false =>
     simp only[hg,aOH,if_false]at hx hj
     have:=(iY.1 hx).1
     omega
   have hload:=aEB (P:=P) (w:=w) ht (b:=b) (o:=o'+i*sz+off) (λj=>cv i (off+j)) (λj hj=>by
    have:=hc i (off+j) _ (hat (off+j) _ (fC (hcell j hj)))
    rw[←this];congr 2;omega)
   refine⟨_,_,_,rfl,hload,?_⟩
   unfold ld at hx
   cases hg:r.agg with
   |true =>
    simp only[hg,if_true]at hx hcell ⊢
    split at hx
    ·rename_i hle
     obtain rfl:=gO hx
     refine .agg _ _ vL ?_
     intro j y v hy hv
     have hj:j<r.sz:=by have:=(iY.1 hv).1;simpa using this
     simp only[sO,al8 hj,aDX,a14]at hv
     subst hv
     rw[aJA hj,aRH]at hy
     exact hrr i (off+j) y (hat _ _ hy)
    ·simp at hx
   |false =>
    simp only[hg,aOH,if_false,aU4]at hx hcell ⊢
    exact hrr i off x (hat _ _ hx)
theorem aRW (t:TypeId) (a:Operand) (r:lU) (sz i off:Nat) (es:List (List aE)) (e:List aE) (x:aE) (ho:o.op=.load t a) (ht:iP P t=some r)
  (ha:ρ a=.ip sz es i off) (he:es[i]?=some e) (hx:ld r e off=some x) (hk:K x h):pI P o ρ h K :=
 cI hk λE w ρc _ hρ=>by
  obtain⟨b,k,c,hv,hrun,hc⟩:=aG4 (P:=P) t r sz i off es e x ht (ha▸hρ a) he hx
  exact⟨c,by simp only[execOp,ho,Instr.loadAt,hv,Instr.sureAddr,Sem.run_bind,Sem.run_pure,Result.andThen_ok,hrun],hc⟩
theorem aAR {E:Env} {w:World} (R:Rel E h w) {n sz:Nat} {es:List (List Cell)} (hn:h n=some (.row sz es)) (hne:es≠[]∨∃ x,E.loc n=some x) :
  ∃ b o,E.loc n=some (b,o)/\aJO E h w b o sz es (E.fp n):=by
 rcases R.obj n _ hn with h1|h1
 ·exact h1
 ·rcases hne with h2|⟨x,h2⟩
  ·exact absurd h1.1 h2
  ·rw[h1.2]at h2;simp at h2
theorem aM7 {α:Type} {es:List α} {i:Nat} {e:α} (h:es[i]?=some e):es≠[]:=by rintro rfl;simp at h
theorem aG5 {E:Env} {w:World} {v:Value} (R:Rel E h w) (t:TypeId) (r:lU) (n sz i off:Nat) (es:List (List Cell)) (e:List Cell) (x:aE) (ht:iP P t=some r)
  (hr:fG E h w (.op n sz i off) v) (hn:h n=some (.row sz es)) (he:es[i]?=some e) (hx:aG3 r e off=some x):∃ b o c,v=.pointer (some ⟨b,o,none⟩)/\(loadVar t ⟨b,o,none⟩).run P w=.ok c w/\fG E h w x c:=by
  obtain⟨b,o',hl,hb,hs,cs,ct,cv,T,hh,hm,hT,hD,hc,hrr⟩:=aAR R hn (.inl (aM7 he))
  cases hr with
  |op _ _ _ _ b' o'' hd hl' =>
   rw[hl]at hl'
   obtain⟨rfl,rfl⟩:=aOI (gO hl')
   have hsz:=hs e (s5 he)
   have hat:∀ j y,e[j]?=some y->iU es i j=some y:=λj y hy=>by simp[iU,he,hy]
   have hcell:∀ j,j<(if r.agg then r.sz else 1)->off+j<e.length:=by
    intro j hj
    unfold aG3 at hx
    cases hg:r.agg with
    |true =>
     simp only[hg,if_true]at hx hj
     split at hx
     ·omega
     ·simp at hx
    |false =>
     simp only[hg,aOH,if_false]at hx hj
     split at hx
     ·rename_i he'
      have:=(iY.1 he').1
      omega
     ·simp at hx
   have hload:=aEB (P:=P) (w:=w) ht (b:=b) (o:=o'+i*sz+off) (λj=>cv i (off+j)) (λj hj=>by
    have:=hc i (off+j) _ (hat (off+j) _ (fC (hcell j hj)))
    simp only[World.cell?,hh];rw[←this];simp;congr 1;omega)
   refine⟨_,_,_,rfl,hload,?_⟩
   have hval:∀ j y,e[j]?=some (.v y)->fG E h w y (cv i j):=λj y hy=>by
    have:=hrr i j _ (hat _ _ hy)
    generalize cv i j=c at this
    generalize T i j=S at this
    cases this with
    |v _ _ _ _ hx=>exact hx
   unfold aG3 at hx
   cases hg:r.agg with
   |true =>
    simp only[hg,if_true]at hx hcell ⊢
    split at hx
    ·rename_i hle
     obtain⟨xs,hxs,rfl⟩:=r7.1 hx
     have hxs:=aCX hxs
     have hlen:xs.length=r.sz:=by have:=congrArg List.length hxs;simp at this;omega
     refine .agg _ _ (by simp[hlen]) ?_
     intro j y v hy hv
     have hj:j<r.sz:=by have:=(iY.1 hv).1;simpa using this
     simp only[sO,al8 hj,aDX,a14]at hv
     subst hv
     refine hval (off+j) y ?_
     have:((e.drop off).take r.sz)[j]?=some (.v y):=by rw[hxs,sO,hy];rfl
     rwa [aJA hj,aRH]at this
    ·simp at hx
   |false =>
    simp only[hg,aOH,if_false,aU4]at hx hcell ⊢
    split at hx
    ·rename_i y he'
     obtain rfl:=gO hx
     exact hval off _ he'
    ·simp at hx
theorem aRX (t:TypeId) (a:Operand) (r:lU) (n sz i off:Nat) (es:List (List Cell)) (e:List Cell) (x:aE) (ho:o.op=.load t a) (ht:iP P t=some r)
  (ha:ρ a=.op n sz i off) (hn:h n=some (.row sz es)) (he:es[i]?=some e) (hx:aG3 r e off=some x) (hk:K x h):pI P o ρ h K :=
 cI hk λE w ρc R hρ=>by
  obtain⟨b,k,c,hv,hrun,hc⟩:=aG5 (P:=P) R t r n sz i off es e x ht (ha▸hρ a) hn he hx
  exact⟨c,by simp only[execOp,ho,Instr.loadAt,hv,Instr.sureAddr,Sem.run_bind,Sem.run_pure,Result.andThen_ok,hrun],hc⟩
end
set_option linter.unusedVariables false
set_option linter.unusedSimpArgs false
def pW (e:List Cell) (off:Nat):List aE->List Cell
 | []=>e
 |v::vs=>pW (e.set off (.v v)) (off+1) vs
theorem nB {w:World} {b:Nat} {cs:Array Value} {t:TypeId} {f:Nat×Nat} (h:w.heap[b]?=some (.cells cs t f)):w.shape? b=some (t,cs.size):=by
 simp[World.shape?,h]
theorem aG6 {es:List (List Cell)} {i j i' j':Nat} {e:List Cell} {c x:Cell} (he:es[i]?=some e) (hx:iU (es.set i (e.set j c)) i' j'=some x) :
  (i'=i/\j'=j/\x=c)∨(¬(i'=i/\j'=j)/\iU es i' j'=some x):=by
 have hi:=(iY.1 he).1
 unfold iU at *
 by_cases e1:i'=i
 ·subst e1
  rw[nH hi]at hx
  simp only[a13]at hx
  by_cases e2:j'=j
  ·subst e2
   left
   have hj:j'<e.length:=by have:=(iY.1 hx).1;simpa using this
   rw[nH hj]at hx
   exact⟨rfl,rfl,(gO hx).symm⟩
  ·right
   rw[mG (λe3=>e2 e3.symm)]at hx
   exact⟨λh=>e2 h.2,by rw[he];exact hx⟩
 ·right
  rw[mG (λe2=>e1 e2.symm)]at hx
  exact⟨λh=>e1 h.1,hx⟩
theorem aCY {i n sz j:Nat} (hi:i<n) (hj:j<sz):i*sz+j<n*sz:=by
 have:=a38 sz (Nat.succ_le_of_lt hi)
 rw[a39]at this
 omega
theorem a96 {sz i j i' j':Nat} (hj:j<sz) (hj':j'<sz) (h:i*sz+j=i'*sz+j'):i=i'/\j=j':=by
 have h1:(i*sz+j) / sz=i:=by rw[aJB,Nat.mul_add_div aA,a9V hj];omega
 have h2:(i'*sz+j') / sz=i':=by rw[aJB,Nat.mul_add_div aA,a9V hj'];omega
 have:i=i':=by rw[←h1,←h2,h]
 subst this
 exact⟨rfl,by omega⟩
theorem a19 {P:Program} {E:Env} {h:aB} {w:World} (R:Rel E h w) {n sz:Nat} {es:List (List Cell)} (hn:h n=some (.row sz es)) {b o:Nat} (hl:E.loc n=some (b,o))
  {i j:Nat} {e:List Cell} (he:es[i]?=some e) (hj:j<e.length) {x:aE} {c:Value} (hone:c.oneCell'=true) (hx:fG E h w x c) :
  (store ⟨b,o+i*sz+j,none⟩ c).run P w=.ok () (w.setCell ⟨b,o+i*sz+j,none⟩ c) /\
  Ev E h w E (aT h n (.row sz (es.set i (e.set j (.v x))))) (w.setCell ⟨b,o+i*sz+j,none⟩ c) /\
  Rel E (aT h n (.row sz (es.set i (e.set j (.v x))))) (w.setCell ⟨b,o+i*sz+j,none⟩ c):=by
 obtain⟨b',o',hl',hb,hs,cs,ct,cv,T,hh,hm,hT,hD,hc,hrr⟩:=aAR R hn (.inl (aM7 he))
 rw[hl]at hl'
 obtain⟨rfl,rfl⟩:=aOI (gO hl')
 have hsz:=hs e (s5 he)
 have hi:=(iY.1 he).1
 have hat:iU es i j=some e[j]:=by simp[iU,he,fC hj]
 have hcell:=hc i j _ hat
 have hlt:o+i*sz+j<cs.size:=(aRG.1 hcell).1
 have hw?:w.cell? ⟨b,o+i*sz+j,none⟩=some (cv i j):=by simp only[World.cell?,hh];simpa using hcell
 have hfz:w.frozen? ⟨b,o+i*sz+j,none⟩=false:=by simp[World.frozen?,hh]
 have hrun:(store ⟨b,o+i*sz+j,none⟩ c).run P w=.ok () (w.setCell ⟨b,o+i*sz+j,none⟩ c):=by
  rw[run_store P w _ _ _ hone,hw?];simp[hfz]
 have hheap:(w.setCell ⟨b,o+i*sz+j,none⟩ c).heap[b]?=some (.cells (cs.setIfInBounds (o+i*sz+j) c) ct (0,0)):=by
  simp[World.setCell,Array.getElem?_modify,hh]
 have hoth:∀ k,k≠b->(w.setCell ⟨b,o+i*sz+j,none⟩ c).heap[k]?=w.heap[k]?:=λk hk=>by
  simp[World.setCell,Array.getElem?_modify,iK hk]
 have hsh:(w.setCell ⟨b,o+i*sz+j,none⟩ c).shape? b=w.shape? b:=by rw[nB hheap,nB hh];simp
 have ev:=Ev.write R hn trivial hb (.row sz (es.set i (e.set j (.v x)))) trivial (World.size_setCell _ _ _) hoth hsh rfl rfl
 refine⟨hrun,ev,R.write hn trivial hb _ trivial (World.size_setCell _ _ _) hoth hsh rfl rfl (.inl ⟨b,o,hl,hb,?_,cs.setIfInBounds (o+i*sz+j) c,ct,
  λi' j'=>if i'=i/\j'=j then c else cv i' j',T,hheap,by simpa using hm,hT,hD,?_,?_⟩)⟩
 ·intro e' he'
  rcases s6 he' with h1|h1
  ·exact hs e' h1
  ·rw[h1];simpa using hsz
 ·intro i' j' y hy
  rcases aG6 he hy with⟨rfl,rfl,rfl⟩|⟨hne,hy'⟩
  ·simp[Array.getElem?_setIfInBounds,hlt]
  ·have hj':=aIA hs hy'
   have:o+i*sz+j≠o+i'*sz+j':=λe=>hne (by
    have:=a96 (sz:=sz) (i:=i) (j:=j) (i':=i') (j':=j') aA hj' aA
    exact⟨this.1.symm,this.2.symm⟩)
   simp only[if_neg hne]
   rw[aU5 this]
   exact hc i' j' y hy'
 ·intro i' j' y hy
  rcases aG6 he hy with⟨rfl,rfl,rfl⟩|⟨hne,hy'⟩
  ·simp only[and_self,if_true]
   exact .v _ _ _ hone (hx.ev ev)
  ·simp only[if_neg hne]
   exact(hrr i' j' y hy').ev ev λk hk=>hoth k (hT i' j' k hk).2
theorem aOL (es:List (List Cell)) (i:Nat) (a b:List Cell):(es.set i a).set i b=es.set i b:=by simp
theorem aJR {P:Program} {n sz:Nat} {b o i:Nat}:∀ (xs:List aE) (vs:List Value) {E:Env} {h:aB} {w:World} (R:Rel E h w) {es:List (List Cell)} (hn:h n=some (.row sz es)) (hl:E.loc n=some (b,o))
  {j k:Nat} {e:List Cell} (he:es[i]?=some e) (hj:j+k+xs.length<=e.length) (hone:∀ c∈vs,c.oneCell'=true) (hx:eF E h w xs vs),
  ∃ w',(storeCells ⟨b,o+i*sz+j,none⟩ vs k).run P w=.ok () w'/\Ev E h w E (aT h n (.row sz (es.set i (pW e (j+k) xs)))) w'/\Rel E (aT h n (.row sz (es.set i (pW e (j+k) xs)))) w'
 | [],[],E,h,w,R,es,hn,hl,j,k,e,he,hj,hone,hx=>by
  refine⟨w,by simp[storeCells],?_⟩
  have hi:=(iY.1 he).1
  have:es.set i (pW e (j+k) [])=es:=by
   have:es[i]=e:=(iY.1 he).2
   simp[pW,←this]
  rw[this]
  have:aT h n (.row sz es)=h:=by funext m;simp only[aT];split <;> simp_all
  rw[this]
  exact⟨.refl _ _ _,R⟩
 |x::xs,c::vs,E,h,w,R,es,hn,hl,j,k,e,he,hj,hone,hx=>by
  have hlen:j+k<e.length:=by simp at hj;omega
  obtain⟨h1,h2,h3⟩:=a19 (P:=P) R hn hl he hlen (hone c eC) hx.1
  have hi:=(iY.1 he).1
  have he':(es.set i (e.set (j+k) (.v x)))[i]?=some (e.set (j+k) (.v x)):=by rw[nH hi]
  obtain⟨w',hw',ev',R'⟩:=aJR xs vs h3 (aI _ _ _) hl (j:=j) (k:=k+1) he' (by simp at hj ⊢;omega) (λc hc=>hone c (by simp[hc])) (hx.2.ev h2)
  rw[aL,aOL]at ev' R'
  have hst:pW e (j+k) (x::xs)=pW (e.set (j+k) (.v x)) (j+(k+1)) xs:=by simp only[pW];rfl
  rw[hst]
  refine⟨w',?_,h2.trans ev',R'⟩
  simp only[storeCells,Sem.run_bind]
  have ha:(⟨b,o+i*sz+j,none⟩:Addr).add k=⟨b,o+i*sz+(j+k),none⟩:=by
   simp only[Addr.add];split
   ·subst_vars;rfl
   ·simp
  rw[ha,h1]
  exact hw'
 | [],_::_,_,_,_,_,_,_,_,_,_,_,_,_,_,hx=>hx.elim
 | _::_,[],_,_,_,_,_,_,_,_,_,_,_,_,_,hx=>hx.elim
section
variable {P:Program} {o:Oper} {ρ:Operand->aE} {h:aB} {K:aE->aB->Prop}
theorem a2A (t:TypeId) (a v:Operand) (r:lU) (n sz i off:Nat) (es:List (List Cell)) (e:List Cell) (ho:o.op=.store t a v) (ht:iP P t=some r)
  (ha:ρ a=.op n sz i off) (hn:h n=some (.row sz es)) (he:es[i]?=some e) (hf:(ρ v).cells.all aE.flat=true) (hsz:(ρ v).cells.length=r.sz) (hoff:off+r.sz<=e.length)
  (hk:K .any (aT h n (.row sz (es.set i (pW e off (ρ v).cells))))):pI P o ρ h K:=by
 intro E w ρc R hρ
 have hr:=hρ a
 rw[ha]at hr
 cases hv:ρc a <;> rw[hv]at hr <;> try(cases hr;done)
 cases hr with
 |op _ _ _ _ b o' hd hl =>
  obtain⟨hL,h1⟩:=(hρ v).aFU hf
  obtain⟨w',hrun,ev,R'⟩:=aJR (P:=P) _ _ R hn hl (j:=off) (k:=0) he aA h1 hL
  simp only[aU4]at ev R'
  have hsize:(ρc v).cells.size=r.sz:=by have:=hL.length;simp at this;omega
  refine .a93 (w':=w') ?_ ⟨.any,_,E,hk,ev,R',.any _⟩
  simp only[execOp,ho,Instr.storeAt,hv,Instr.sureAddr,Sem.run_bind,Sem.run_pure,Result.andThen_ok,storeVar,gV ht,hsize,ne_eq,not_true_eq_false,if_false,hrun,Sem.run_ite]
end
theorem vP {es:List (List aE)} {sz i j:Nat} {x:aE} (hs:∀ e∈es,e.length=sz) (hx:iU es i j=some x):i*sz+j<es.length*sz :=
 aCY (a4X hx) (aIA hs hx)
theorem Rel.aJS {E:Env} {h:aB} {w:World} (R:Rel E h w) {n:Nat} (hn:¬E.used n) (sz:Nat) (es:List (List aE)) (hs:∀ e∈es,e.length=sz)
  (cs:Array Value) (t:TypeId) (d:Nat) (vs rest:List Value) (hcs:cs.toList=vs++rest) (hL:eF E h w es.flatten vs) (h1:∀ c∈vs,c.oneCell'=true) :
  Rel (E.add n w.heap.size) (aT h n (.row sz (es.map (List.map .v)))) (uS w (.cells cs t) d):=by
 have hlen:vs.length=es.length*sz:=by rw[←hL.length,length_flatten es hs]
 have hget:∀ k,k<vs.length->cs[k]?=vs[k]?:=λk hk=>by
  rw[←al5,hcs,uP hk]
 refine R.a18 hn sz es hs cs t d (λi j=>(vs[i*sz+j]?).getD undef) ?_ ?_
 ·rw[←hlen,←Array.length_toList,hcs];simp
 ·intro i j x hx
  have hlt:=vP hs hx
  have hk:i*sz+j<vs.length:=by omega
  have hv:vs[i*sz+j]?=some vs[i*sz+j]:=fC hk
  refine⟨by rw[hget _ hk,hv];simp,by rw[hv];exact h1 _ (lF hk),?_⟩
  rw[hv]
  exact hL.get _ _ _ (vO es hs i j x hx) hv
section
variable {P:Program} {o:Oper} {ρ:Operand->aE} {h:aB} {K:aE->aB->Prop}
theorem qG (w:World) (o:Obj):{ w with heap:=w.heap.push o }=uS w o w.drawn:=rfl
theorem aG7 (sz:Nat) (e:List aE) (he:e.length=sz) (hk:∀ n,h n=none->K (.op n sz 0 0) (aT h n (.row sz [e.map .v])))
  (hx:∀ E w (ρc:Operand->Value),Rel E h w->(∀ x,fG E h w (ρ x) (ρc x))->∃ (cs:Array Value) (t:TypeId) (d:Nat),
   (execOp ρc o).run P w=.ok (.value (.pointer (some ⟨w.heap.size,0,none⟩))) (uS w (.cells cs t) d)/\eF E h w e cs.toList/\∀ c∈cs.toList,c.oneCell'=true):pI P o ρ h K:=by
 intro E w ρc R hρ
 obtain⟨cs,t,d,hrun,hL,h1⟩:=hx E w ρc R hρ
 obtain⟨n,hn⟩:=R.fresh
 refine .jR hrun ⟨.op n sz 0 0,_,E.add n w.heap.size,hk n (R.none hn),Ev.alloc R hn _ _ _,?_,?_⟩
 ·exact R.aJS hn sz [e] (by simpa using he) cs t d cs.toList [] eC (by simpa using hL) h1
 ·have:=fG.op (E:=E.add n w.heap.size) (h:=aT h n (.row sz [e.map .v])) (w:=uS w (.cells cs t) d) n sz 0 0 w.heap.size 0 (.inl rfl) (by simp[Env.add])
  simpa using this
theorem wR (sz len:Nat) (es:List (List aE)) (hs:∀ e∈es,e.length=sz) (hk:∀ n,h n=none->K (.os n sz 0 len) (aT h n (.row sz (es.map (List.map .v)))))
  (hx:∀ E w (ρc:Operand->Value),Rel E h w->(∀ x,fG E h w (ρ x) (ρc x))->∃ (cs:Array Value) (t:TypeId) (d cap:Nat) (vs rest:List Value),
   (execOp ρc o).run P w=.ok (.value (.slice (some ⟨w.heap.size,0,none⟩) len cap)) (uS w (.cells cs t) d)/\len<=cap/\cap<=maxLen/\cap*sz<=cs.size /\
   cs.toList=vs++rest/\eF E h w es.flatten vs/\∀ c∈vs,c.oneCell'=true):pI P o ρ h K:=by
 intro E w ρc R hρ
 obtain⟨cs,t,d,cap,vs,rest,hrun,hlc,hmax,hm,hcs,hL,h1⟩:=hx E w ρc R hρ
 obtain⟨n,hn⟩:=R.fresh
 refine .jR hrun ⟨.os n sz 0 len,_,E.add n w.heap.size,hk n (R.none hn),Ev.alloc R hn _ _ _,?_,?_⟩
 ·exact R.aJS hn sz es hs cs t d vs rest hcs hL h1
 ·have:=fG.os (E:=E.add n w.heap.size) (h:=aT h n (.row sz (es.map (List.map .v)))) (w:=uS w (.cells cs t) d) n sz 0 len w.heap.size 0 cap t cs.size (.inl rfl) (by simp[Env.add]) hlc hmax
   (by simp only[World.shape?,vN]) (by simpa using hm)
  simpa using this
theorem a97 (t:TypeId) (x:Operand) (ho:o.op=.box t x) (hf:(ρ x).cells.all aE.flat=true)
  (hk:∀ n,h n=none->K (.op n (ρ x).cells.length 0 0) (aT h n (.row (ρ x).cells.length [(ρ x).cells.map .v]))):pI P o ρ h K :=
 aG7 _ (ρ x).cells rfl hk λE w ρc R hρ=>by
  obtain⟨hL,h1⟩:=(hρ x).aFU hf
  refine⟨(ρc x).cells,t,w.drawn,?_,hL,h1⟩
  simp only[execOp,ho,Instr.box,newVar,newRow,Sem.run_bind,run_newObj,Result.andThen_ok,Sem.run_pure,qG]
theorem aRY (t:TypeId) (x:Operand) (ho:o.op=.box t x) (hc:(ρ x).cells=[.j8,.bS])
  (hk:∀ n,h n=none->K (.op n 2 0 0) (aT h n (.raw t #[.pointer none,.slice none 0 0]))):pI P o ρ h K:=by
 intro E w ρc R hρ
 obtain⟨hL,h1⟩:=(hρ x).aFU (by rw[hc];rfl)
 rw[hc]at hL
 have hcs:(ρc x).cells=#[.pointer none,.slice none 0 0]:=by
  have hl:=hL.length
  match hv:(ρc x).cells.toList,hL with
  | [a,b],hL =>
   have ha:a=.pointer none:=by have:=hL.1;cases a <;> (try cases this) <;> rfl
   have hb:b=.slice none 0 0:=by have:=hL.2.1;cases b <;> (try cases this) <;> rfl
   apply Array.toList_inj.1
   rw[hv,ha,hb]
 obtain⟨n,hn⟩:=R.fresh
 refine .jR (v:=.pointer (some ⟨w.heap.size,0,none⟩)) (w':=uS w (.cells #[.pointer none,.slice none 0 0] t) w.drawn) ?_ ⟨.op n 2 0 0,_,E.add n w.heap.size,hk n (R.none hn),Ev.alloc R hn _ _ _,R.aM5 hn _ _ _ ⟨w.heap.size,by simp[Env.add],by simp[Env.add],vN _ _ _⟩,?_⟩
 ·simp only[execOp,ho,Instr.box,newVar,newRow,Sem.run_bind,run_newObj,Result.andThen_ok,Sem.run_pure,qG,hcs]
 ·have:=fG.op (E:=E.add n w.heap.size) (h:=aT h n (.raw t #[.pointer none,.slice none 0 0])) (w:=uS w (.cells #[.pointer none,.slice none 0 0] t) w.drawn) n 2 0 0 w.heap.size 0 (.inl rfl) (by simp[Env.add])
  simpa using this
theorem qY (E:Env) (h:aB) (w:World):∀ (l:List Value),eF E h w (l.map aE.ofValue) l
 | []=>trivial
 |v::l=>⟨.ofValue E h w v,qY E h w l⟩
theorem eF.qX {E:Env} {w:World}:∀ {xs:List aE} {vs:List Value},eF E h w xs vs->xs.all aE.flat=true->∀ c∈vs,c.oneCell'=true
 | [],[],_,_,c,hc=>by simp at hc
 |x::xs,v::vs,hL,hf,c,hc=>by
  simp only[List.all_cons,mK]at hf
  rcases pP.1 hc with e|e
  ·rw[e];exact(hL.1.qX hf.1).1
  ·exact eF.qX hL.2 hf.2 c e
 | [],_::_,hL,_,_,_=>hL.elim
 | _::_,[],hL,_,_,_=>hL.elim
theorem a2B (t:TypeId) (r:lU) (ho:o.op=.alloc t) (ht:iP P t=some r) (hz:r.zero≠[]) (hf:r.zero.all aE.flat=true)
  (hk:∀ n,h n=none->K (.op n r.zero.length 0 0) (aT h n (.row r.zero.length [r.zero.map .v]))):pI P o ρ h K :=
 aG7 _ r.zero rfl hk λE w ρc R hρ=>by
  obtain⟨z,hrun,hzz⟩:=qF (w:=w) ht hz
  have hL:eF E h w r.zero z.cells.toList:=by rw[←hzz];exact qY E h w _
  refine⟨z.cells,t,w.drawn,?_,hL,hL.qX hf⟩
  simp only[execOp,ho,Instr.alloc,newVar,newRow,Sem.run_bind,run_newObj,hrun,Result.andThen_ok,Sem.run_pure,qG]
theorem l8 (b o k:Nat):(⟨b,o,none⟩:Addr).add k=⟨b,o+k,none⟩:=by
 simp only[Addr.add];split
 ·subst_vars;rfl
 ·rfl
theorem aCJ (t:TypeId) (x:Operand) (f:Nat) (r:lU) (fs:List (Nat×TypeId×Nat)) (off sz':Nat) (ft:TypeId) (v:aE) (ho:o.op=.fieldAddr t x f) (ht:iP P t=some r) (hd:r.d=.st fs)
  (hf:fs[f]?=some (off,ft,sz')) (hsz:sz'≠0) (hv:(∃ n sz i k,ρ x=.op n sz i k/\v=.op n sz i (k+off))∨(∃ sz es i k,ρ x=.ip sz es i k/\v=.ip sz es i (k+off))) (hk:K v h):pI P o ρ h K :=
 cI hk λE w ρc R hρ=>by
  have hr:=hρ x
  obtain⟨u,hu,hud,hrun⟩:=cD (w:=w) ht
  obtain⟨gs,rfl,hall,hgs⟩:=a42 (hud.trans hd)
  rw[←hgs]at hf
  simp only[sO,r7,Prod.mk.injEq]at hf
  obtain⟨g,hg,rfl,rfl,rfl⟩:=hf
  have hinfo:(P.info? g.type).isSome=true:=vF.1 hall _ (s5 hg)
  have hsize:=aAP (w:=w) hinfo
  have hg':gs[f]?=some g:=by simpa using hg
  have key:∀ b k,ρc x=.pointer (some ⟨b,k,none⟩)->(execOp ρc o).run P w=.ok (.value (.pointer (some ⟨b,k+g.offset,none⟩))) w:=by
   intro b k hb
   simp only[execOp,ho,Instr.fieldAt,hb,Sem.run_bind,hrun,Result.andThen_ok,hg',Instr.sureAddr,Sem.run_pure,fieldPlace,hsize,Sem.run_ite,hsz,if_false,l8]
  rcases hv with⟨n,sz,i,k,e,rfl⟩|⟨sz,es,i,k,e,rfl⟩
  ·rw[e]at hr
   cases hv:ρc x <;> rw[hv]at hr <;> try(cases hr;done)
   cases hr with
   |op _ _ _ _ b o' hd' hl =>
    refine⟨_,key _ _ hv,?_⟩
    have:=fG.op (E:=E) (h:=h) (w:=w) n sz i (k+g.offset) b o' hd' hl
    rwa [←aU6]at this
  ·rw[e]at hr
   cases hv:ρc x <;> rw[hv]at hr <;> try(cases hr;done)
   cases hr with
   |ip _ _ _ _ b o' cv hi hs hc h1 hrr =>
    refine⟨_,key _ _ hv,?_⟩
    have:=fG.ip (E:=E) (h:=h) (w:=w) sz es i (k+g.offset) b o' cv hi hs hc h1 hrr
    rwa [←aU6]at this
theorem aFV (t et:TypeId) (x i:Operand) (r re:lU) (sz:Nat) (es:List (List aE)) (tg:Bool) (k:IntKind) (n:Int) (ho:o.op=.indexAddr t x i) (ht:iP P t=some r) (hd:r.d=.slice et)
  (he:iP P et=some re) (hsz:re.sz=sz) (hx:ρ x=.sl sz es tg) (hi:ρ i=.int k n) (h0:0<=n) (hn:n<es.length) (hk:K (.ip sz es n.toNat 0) h):pI P o ρ h K :=
 cI hk λE w ρc R hρ=>by
  have hr:=hρ x
  have hri:=lO (hi▸hρ i)
  rw[hx]at hr
  obtain⟨u,hu,hud,hrun⟩:=cD (w:=w) ht
  obtain rfl:=iF (hud.trans hd)
  have hsize:=gV (w:=w) he
  cases hv:ρc x <;> rw[hv]at hr <;> try(cases hr;done)
  cases hr with
  |sl0=>simp at hn;omega
  |sl _ _ _ b o' cap cv hI hcap hmax htt hs hc h1 hrr =>
   refine⟨.pointer (some ⟨b,o'+n.toNat*sz,none⟩),?_,?_⟩
   ·simp only[execOp,ho,Instr.indexAt,hri,hv,asIntOf,Sem.run_bind,Sem.run_pure,Result.andThen_ok,hrun]
    have:(0<=n/\n<(es.length:Int)):=⟨h0,hn⟩
    simp[this,hsize,hsz,l8]
   ·have:=fG.ip (E:=E) (h:=h) (w:=w) sz es n.toNat 0 b o' cv hI hs hc h1 hrr
    simpa using this
theorem aFW (t et:TypeId) (x i:Operand) (r re:lU) (m sz i0 len:Nat) (k:IntKind) (n:Int) (ho:o.op=.indexAddr t x i) (ht:iP P t=some r) (hd:r.d=.slice et)
  (he:iP P et=some re) (hsz:re.sz=sz) (hx:ρ x=.os m sz i0 len) (hi:ρ i=.int k n) (h0:0<=n) (hn:n<len) (hk:K (.op m sz (i0+n.toNat) 0) h):pI P o ρ h K :=
 cI hk λE w ρc R hρ=>by
  have hr:=hρ x
  have hri:=lO (hi▸hρ i)
  rw[hx]at hr
  obtain⟨u,hu,hud,hrun⟩:=cD (w:=w) ht
  obtain rfl:=iF (hud.trans hd)
  have hsize:=gV (w:=w) he
  cases hv:ρc x <;> rw[hv]at hr <;> try(cases hr;done)
  cases hr with
  |os0=>simp at hn;omega
  |os _ _ _ _ b o' cap tt mm hd' hl hlc hmax hsh hm =>
   refine⟨.pointer (some ⟨b,o'+(i0+n.toNat)*sz,none⟩),?_,?_⟩
   ·simp only[execOp,ho,Instr.indexAt,hri,hv,asIntOf,Sem.run_bind,Sem.run_pure,Result.andThen_ok,hrun]
    have:(0<=n/\n<(len:Int)):=⟨h0,hn⟩
    simp[this,hsize,hsz,l8,uQ,aU6]
   ·have:=fG.op (E:=E) (h:=h) (w:=w) m sz (i0+n.toNat) 0 b o' hd' hl
    simpa using this
theorem aIB (t:TypeId) (x:Operand) (r:lU) (n:Nat) (ats:Array TypeId) (ho:o.op=.call { callee:=.builtin .len,args:=#[x],argTypes:=ats }) (hat:ats[0]?=some t) (ht:iP P t=some r)
  (hx:(∃ e sz es tg,r.d=.slice e/\ρ x=.sl sz es tg/\n=es.length)∨(∃ e m sz i,r.d=.slice e/\ρ x=.os m sz i n)∨(∃ e,r.d=.slice e/\ρ x=.bS/\n=0)∨(∃ s,r.d=.str/\ρ x=.str s/\n=s.length))
  (hk:n<=9223372036854775807->K (.int .i64 n) h):pI P o ρ h K:=by
 intro E w ρc R hρ
 have hr:=hρ x
 obtain⟨u,hu,hud,hrun⟩:=cD (w:=w) ht
 have hml:maxLen=9223372036854775807:=rfl
 suffices hs:n<=9223372036854775807/\(execOp ρc o).run P w=.ok (.value (.int .i64 n)) w from .jR hs.2 (.same (hk hs.1) R (.int _ _))
 have hat':∃ a,ats[0]?=some a/\a=t:=⟨t,hat,rfl⟩
 rcases hx with⟨e,sz,es,tg,hd,hx,rfl⟩|⟨e,m,sz,i,hd,hx⟩|⟨e,hd,hx,rfl⟩|⟨s,hd,hx,rfl⟩
 ·obtain rfl:=iF (hud.trans hd)
  rw[hx]at hr
  cases hv:ρc x <;> rw[hv]at hr <;> try(cases hr;done)
  cases hr with
  |sl0=>exact⟨by simp,by simp[execOp,ho,resolve,invoke,builtin,Builtin.len_,hat,hv,hrun,goInt]⟩
  |sl _ _ _ b o' cap cv hI hcap hmax htt hs hc h1 hrr =>
   exact⟨by omega,by simp[execOp,ho,resolve,invoke,builtin,Builtin.len_,hat,hv,hrun,goInt]⟩
 ·obtain rfl:=iF (hud.trans hd)
  rw[hx]at hr
  cases hv:ρc x <;> rw[hv]at hr <;> try(cases hr;done)
  cases hr with
  |os0=>exact⟨by simp,by simp[execOp,ho,resolve,invoke,builtin,Builtin.len_,hat,hv,hrun,goInt]⟩
  |os _ _ _ _ b o' cap tt mm hd' hl hlc hmax hsh hm =>
   exact⟨by omega,by simp[execOp,ho,resolve,invoke,builtin,Builtin.len_,hat,hv,hrun,goInt]⟩
 ·obtain rfl:=iF (hud.trans hd)
  rw[hx]at hr
  cases hv:ρc x <;> rw[hv]at hr <;> try(cases hr;done)
  cases hr with
  |bS=>exact⟨by omega,by simp[execOp,ho,resolve,invoke,builtin,Builtin.len_,hat,hv,hrun,goInt]⟩
 ·obtain rfl:=aEA (hud.trans hd)
  rw[hx]at hr
  cases hv:ρc x <;> rw[hv]at hr <;> try(cases hr;done)
  cases hr with
  |str _ hl=>exact⟨by omega,by simp[execOp,ho,resolve,invoke,builtin,Builtin.len_,hat,hv,hrun,goInt];rfl⟩
theorem aMD (t:TypeId) (x i:Operand) (r:lU) (s:List UInt8) (k:IntKind) (n:Int) (c:UInt8) (ho:o.op=.index t x i) (ht:iP P t=some r) (hd:r.d=.str)
  (hx:ρ x=.str s) (hi:ρ i=.int k n) (h0:0<=n) (hc:s[n.toNat]?=some c) (hk:K (.int .u8 c.toNat) h):pI P o ρ h K :=
 cI hk λE w ρc R hρ=>by
  obtain⟨hv,_⟩:=vM (hx▸hρ x)
  have hri:=lO (hi▸hρ i)
  obtain⟨u,hu,hud,hrun⟩:=cD (w:=w) ht
  obtain rfl:=aEA (hud.trans hd)
  refine⟨.int .u8 c.toNat,?_,.int _ _⟩
  have:(⟨s.toArray⟩:ByteArray)[n.toNat]?=some c:=by
   have hlt:=(iY.1 hc).1
   have hge:=(iY.1 hc).2
   rw[getElem?_pos (⟨s.toArray⟩:ByteArray) n.toNat (by simpa[ByteArray.size]using hlt)]
   congr 1
  simp[execOp,ho,Instr.index,hri,hv,asIntOf,hrun,h0,this]
theorem aRZ (t:Operand) (i:Nat) (cs:List aE) (x:aE) (ho:o.op=.extract t i) (ht:ρ t=.gK cs) (hx:cs[i]?=some x) (hk:K x h):pI P o ρ h K :=
 cI hk λE w ρc R hρ=>by
  have hr:=hρ t
  rw[ht]at hr
  cases hv:ρc t <;> rw[hv]at hr <;> try(cases hr;done)
  cases hr with
  |gK _ vs hl hrr =>
   have hlt:i<vs.length:=by rw[←hl];exact(iY.1 hx).1
   have hvi:vs[i]?=some vs[i]:=fC hlt
   exact⟨vs[i],by simp[execOp,ho,Instr.extract,hv,hvi],hrr i _ _ hx hvi⟩
theorem a98 (t:TypeId) (x:Operand) (b:Bool) (ho:o.op=.unOp .not t x) (hx:ρ x=.bool b) (hk:K (.bool (!b)) h):pI P o ρ h K :=
 cI hk λE w ρc R hρ=>by
  have hv:=xF (hx▸hρ x)
  exact⟨.bool (!b),by simp[execOp,ho,hv,Op.unary],.bool _⟩
theorem a99 (t:TypeId) (x:Operand) (k:IntKind) (n:Int) (ho:o.op=.unOp .neg t x) (hx:ρ x=.int k n) (hk:K (.int k (k.wrap (0-n))) h):pI P o ρ h K :=
 cI hk λE w ρc R hρ=>by
  have hv:=lO (hx▸hρ x)
  exact⟨.int k (k.wrap (0-n)),by simp[execOp,ho,hv,Op.unary,Op.intArith],.int _ _⟩
theorem aEC (x:Operand) (ho:o.op=.nilCheck x) (hx:(∃ n sz i k,ρ x=.op n sz i k)∨(∃ sz es i k,ρ x=.ip sz es i k)) (hk:K (ρ x) h):pI P o ρ h K :=
 cI hk λE w ρc R hρ=>by
  have hr:=hρ x
  refine⟨ρc x,?_,hr⟩
  rcases hx with⟨n,sz,i,k,e⟩|⟨sz,es,i,k,e⟩ <;> rw[e]at hr <;> (cases hv:ρc x <;> rw[hv]at hr <;> try(cases hr;done)) <;> cases hr <;> simp[execOp,ho,hv]
theorem aHS (s d:TypeId) (x:Operand) (rs rd:lU) (k k':IntKind) (n:Int) (ho:o.op=.convert s d x) (hs:iP P s=some rs) (hd:iP P d=some rd) (hk':rd.d=.int k')
  (hx:ρ x=.int k n) (hk:K (.int k' (k'.wrap n)) h):pI P o ρ h K :=
 cI hk λE w ρc R hρ=>by
  have hv:=lO (hx▸hρ x)
  obtain⟨u,hu,hud,hrun⟩:=cD (w:=w) hs
  obtain⟨u',hu',hud',hrun'⟩:=cD (w:=w) hd
  obtain rfl:=aYJ (hud'.trans hk')
  exact⟨.int k' (k'.wrap n),by simp[execOp,ho,convert,hv,hrun,hrun',Conv.intToInt],.int _ _⟩
theorem aED {E:Env} {w:World} {ρc:Operand->Value} (hρ:∀ x,fG E h w (ρ x) (ρc x)):∀ (l:List Operand),eF E h w (l.map ρ) (l.map ρc)
 | []=>trivial
 |x::l=>⟨hρ x,aED hρ l⟩
theorem aOM (fn:Fn) (fs cs:Array Operand) (ho:o.op=.makeFunc fn fs cs) (hk:K (.fn fn (fs.toList.map ρ) (cs.toList.map ρ)) h):pI P o ρ h K :=
 cI hk λE w ρc R hρ=>by
  refine⟨.func fn (fs.map ρc) (cs.map ρc),by simp[execOp,ho,Instr.makeFunc],?_⟩
  have h1:=aED hρ fs.toList
  have h2:=aED hρ cs.toList
  have:=fG.fn (E:=E) (h:=h) (w:=w) fn _ _ _ _ h1.length h1.get h2.length h2.get
  have e:∀ (a:Array Operand),(a.toList.map ρc).toArray=a.map ρc:=λa=>by cases a;simp
  rwa [e,e]at this
end
section
variable {P:Program} {o:Oper} {ρ:Operand->aE} {h:aB} {K:aE->aB->Prop}
theorem aEE (op:BinOp) (t ty:TypeId) (x y:Operand) (r:lU) (a b:Bool) (v:aE) (ho:o.op=.binOp op t x y ty) (ht:iP P t=some r) (hd:r.d=.bool) (hx:ρ x=.bool a) (hy:ρ y=.bool b)
  (hop:(op=.eql/\v=.bool (a == b))∨(op=.neq/\v=.bool (a != b))) (hk:K v h):pI P o ρ h K :=
 cI hk λE w ρc R hρ=>by
  have hxv:=xF (hx▸hρ x)
  have hyv:=xF (hy▸hρ y)
  obtain⟨u,hu,hud,hrun⟩:=cD (w:=w) ht
  obtain rfl:=a41 (hud.trans hd)
  have hg:(eqGuard op t x y (.bool a) (.bool b)).run P w=.ok () w:=by
   cases op <;> simp[eqGuard]
  have hq:(Op.equal t (.bool a) (.bool b)).run P w=.ok (a == b) w:=run_equalIn_bool' w 9999 t a b hu
  rcases hop with⟨rfl,rfl⟩|⟨rfl,rfl⟩
  ·exact⟨.bool (a == b),by simp only[execOp,ho,Sem.run_bind,hxv,hyv,hg,Result.andThen_ok,binOp,hq,Sem.run_pure],.bool _⟩
  ·exact⟨.bool (a != b),by simp only[execOp,ho,Sem.run_bind,hxv,hyv,hg,Result.andThen_ok,binOp,hq,Sem.run_pure];rfl,.bool _⟩
theorem aYK (op:BinOp) (t ty:TypeId) (x y:Operand) (k:IntKind) (a b:Int) (v:aE) (ho:o.op=.binOp op t x y ty) (hx:ρ x=.int k a) (hy:ρ y=.int k b) (hb:b≠0)
  (hop:(op=.quo/\v=.int k (k.wrap (a.tdiv b)))∨(op=.rem/\v=.int k (a.tmod b))) (hk:K v h):pI P o ρ h K :=
 cI hk λE w ρc R hρ=>by
  have hxv:=lO (hx▸hρ x)
  have hyv:=lO (hy▸hρ y)
  rcases hop with⟨rfl,rfl⟩|⟨rfl,rfl⟩
  ·exact⟨.int k (k.wrap (a.tdiv b)),by simp[execOp,ho,hxv,hyv,eqGuard,binOp,Op.intDiv,hb],.int _ _⟩
  ·exact⟨.int k (a.tmod b),by simp[execOp,ho,hxv,hyv,eqGuard,binOp,Op.intDiv,hb],.int _ _⟩
theorem aM8 (op:BinOp) (t ty:TypeId) (x y:Operand) (k k':IntKind) (a b:Int) (v:aE) (ho:o.op=.binOp op t x y ty) (hx:ρ x=.int k a) (hy:ρ y=.int k' b) (hb:0<=b)
  (hop:(op=.shl/\v=.int k (k.wrap (a*2 ^ (min b.toNat k.bits))))∨(op=.shr/\v=.int k (a.fdiv (2 ^ (min b.toNat k.bits))))) (hk:K v h):pI P o ρ h K :=
 cI hk λE w ρc R hρ=>by
  have hxv:=lO (hx▸hρ x)
  have hyv:=lO (hy▸hρ y)
  have hb':¬b<0:=by omega
  rcases hop with⟨rfl,rfl⟩|⟨rfl,rfl⟩
  ·exact⟨_,by simp only[execOp,ho,hxv,hyv,eqGuard,binOp,Op.shift,hb',if_false];simp,.int _ _⟩
  ·exact⟨_,by simp only[execOp,ho,hxv,hyv,eqGuard,binOp,Op.shift,hb',if_false];simp,.int _ _⟩
theorem bAA (x y:Operand) (ats:Array TypeId) (k:IntKind) (a b:Int) (ho:o.op=.call { callee:=.builtin .max,args:=#[x,y],argTypes:=ats }) (hx:ρ x=.int k a) (hy:ρ y=.int k b)
  (hk:K (.int k (max a b)) h):pI P o ρ h K :=
 cI hk λE w ρc R hρ=>by
  have hxv:=lO (hx▸hρ x)
  have hyv:=lO (hy▸hρ y)
  have e:(if b > a then b else a)=max a b:=by rw[Int.max_def];split <;> split <;> omega
  exact⟨.int k (max a b),by simp[execOp,ho,resolve,invoke,builtin,Builtin.max_,hxv,hyv,Builtin.max2,e],.int _ _⟩
def j9 (d:Nat):Option aE->Option Int
 |none=>some d
 |some (.int _ n)=>some n
 | _=>none
theorem oV {w:World} {k:IntKind} {i:Int} {y:Nat} {code:BoundsCode} (h0:0<=i) (h1:i<=y):(Instr.sliceBound (.int k i) y code).run P w=.ok i.toNat w:=by
 simp[Instr.sliceBound,asIntOf,h0,h1]
theorem uU {w:World} {E:Env} (R:Rel E h w) {ρc:Operand->Value} (hρ:∀ x,fG E h w (ρ x) (ρc x)) (isS:Bool) (len cap:Nat) (lo hi mx:Option Operand) (l r m:Int)
  (hl:j9 0 (lo.map ρ)=some l) (hh:j9 len (hi.map ρ)=some r) (hm:j9 cap (mx.map ρ)=some m) (hmh:mx.isSome=true->hi.isSome=true)
  (h0:0<=l) (h1:l<=r) (h2:r<=m) (h3:m<=cap) :
  (Instr.sliceBounds isS len cap (lo.map ρc) (hi.map ρc) (mx.map ρc)).run P w=.ok (l.toNat,r.toNat,m.toNat) w:=by
 have hint:∀ (x:Operand) (d:Nat) (z:Int),j9 d (some (ρ x))=some z->∃ k,ρc x=.int k z:=by
  intro x d z hz
  have hr:=hρ x
  generalize ρ x=v at *
  cases v <;> simp[j9]at hz
  subst hz
  exact⟨_,lO hr⟩
 have hbn:∀ d:Nat,j9 d none=some (d:Int):=λ_=>rfl
 cases mx with
 |none =>
  obtain rfl:(cap:Int)=m:=by simpa[j9]using hm
  cases hi with
  |none =>
   obtain rfl:(len:Int)=r:=by simpa[j9]using hh
   cases lo with
   |none => obtain rfl : (0 : Int) = l := by simpa [j9] using hl
            simp[Instr.sliceBounds]
   |some x =>
    obtain⟨k,hx⟩:=hint x _ _ hl
    simp[Instr.sliceBounds,hx,oV h0 h1]
  |some y =>
   obtain⟨k',hy⟩:=hint y _ _ hh
   have e:((r.toNat:Nat):Int)=r:=by omega
   cases lo with
   |none => obtain rfl : (0 : Int) = l := by simpa [j9] using hl
            simp[Instr.sliceBounds,hy,oV (show 0<=r by omega) h2]
   |some x =>
    obtain⟨k,hx⟩:=hint x _ _ hl
    simp[Instr.sliceBounds,hx,hy,oV (show 0<=r by omega) h2,oV h0 (show l<=(r.toNat:Nat)by omega)]
 |some z =>
  obtain⟨kz,hz⟩:=hint z _ _ hm
  cases hi with
  |none=>simp at hmh
  |some y =>
   obtain⟨k',hy⟩:=hint y _ _ hh
   cases lo with
   |none => obtain rfl : (0 : Int) = l := by simpa [j9] using hl
            simp[Instr.sliceBounds,hy,hz,oV (show 0<=m by omega) h3,oV (show 0<=r by omega) (show r<=(m.toNat:Nat)by omega)]
   |some x =>
    obtain⟨k,hx⟩:=hint x _ _ hl
    simp[Instr.sliceBounds,hx,hy,hz,oV (show 0<=m by omega) h3,oV (show 0<=r by omega) (show r<=(m.toNat:Nat)by omega),oV h0 (show l<=(r.toNat:Nat)by omega)]
theorem aME (t:TypeId) (x:Operand) (lo hi:Option Operand) (r:lU) (s:List UInt8) (l m:Int) (ho:o.op=.slice t x lo hi none) (ht:iP P t=some r) (hd:r.d=.str) (hx:ρ x=.str s)
  (hl:j9 0 (lo.map ρ)=some l) (hh:j9 s.length (hi.map ρ)=some m) (h0:0<=l) (h1:l<=m) (h2:m<=s.length) (hk:K (.str ((s.take m.toNat).drop l.toNat)) h):pI P o ρ h K :=
 cI hk λE w ρc R hρ=>by
  obtain⟨hv,hmax⟩:=vM (hx▸hρ x)
  obtain⟨u,hu,hud,hrun⟩:=cD (w:=w) ht
  obtain rfl:=aEA (hud.trans hd)
  have hb:=uU (P:=P) R hρ false s.length s.length lo hi none l m s.length hl hh rfl eC h0 h1 h2 aA
  refine⟨.string ⟨((s.take m.toNat).drop l.toNat).toArray⟩,?_,.str _ vL⟩
  have hsz:(⟨s.toArray⟩:ByteArray).size=s.length:=by simp[ByteArray.size]
  have hex:(⟨s.toArray⟩:ByteArray).extract l.toNat m.toNat=⟨((s.take m.toNat).drop l.toNat).toArray⟩:=by
   apply ByteArray.ext
   rw[ByteArray.data_extract]
   simp[List.extract_eq_take_drop,List.drop_take]
  simp only[a4A]at hb
  simp[execOp,ho,Instr.sliceAt,Instr.slice,hrun,hv,hsz,hb,hex]
theorem aON (t et:TypeId) (x:Operand) (lo hi:Option Operand) (r re:lU) (sz:Nat) (es:List (List aE)) (tg:Bool) (l m:Int) (ho:o.op=.slice t x lo hi none) (ht:iP P t=some r) (hd:r.d=.slice et)
  (he:iP P et=some re) (hsz:re.sz=sz) (hx:ρ x=.sl sz es tg)
  (hl:j9 0 (lo.map ρ)=some l) (hh:j9 es.length (hi.map ρ)=some m) (h0:0<=l) (h1:l<=m) (h2:m<=es.length)
  (hk:K (.sl sz ((es.take m.toNat).drop l.toNat) (tg && decide (m=es.length))) h):pI P o ρ h K :=
 cI hk λE w ρc R hρ=>by
  have hr:=hρ x
  rw[hx]at hr
  obtain⟨u,hu,hud,hrun⟩:=cD (w:=w) ht
  obtain rfl:=iF (hud.trans hd)
  have hsize:=gV (w:=w) he
  have hml:maxLen=9223372036854775807:=rfl
  have key:∀ (a:Option Addr) (cap:Nat),ρc x=.slice a es.length cap->es.length<=cap ->
    (execOp ρc o).run P w=.ok (.value (.slice (if cap=l.toNat then a else a.map (·.add (l.toNat*sz))) (m.toNat-l.toNat) (cap-l.toNat))) w:=by
   intro a cap hv hc
   have hb:=uU (P:=P) R hρ true es.length cap lo hi none l m cap hl hh rfl eC h0 h1 aA aA
   simp only[a4A]at hb
   have e:((cap:Int)).toNat=cap:=by omega
   simp[execOp,ho,Instr.sliceAt,Instr.slice,hrun,hv,hb,hsize,hsz,e]
  cases hv:ρc x <;> rw[hv]at hr <;> try(cases hr;done)
  cases hr with
  |sl0 _ _ _ _ htt hmax ha =>
   have hl0:l=0:=by simp at h2;omega
   have hm0:m=0:=by simp at h2;omega
   subst hl0 hm0
   refine⟨_,key _ _ aD7 eC,?_⟩
   simp only[aMA,List.take_zero,List.drop_nil,a4B,a37,sP,rU]
   exact .sl0 sz _ _ _ (λe=>htt (by simp at e;exact e)) hmax trivial
  |sl _ _ _ b o' cap cv hI hcap hmax htt hs hc h1' hrr =>
   rename_i cap
   refine⟨_,key _ cap hv hcap,?_⟩
   have hlen:((es.take m.toNat).drop l.toNat).length=m.toNat-l.toNat:=by simp;omega
   by_cases hemp:m.toNat=l.toNat
   ·have e1:(es.take m.toNat).drop l.toNat=[]:=a4C vL
    rw[e1,hemp,sP]
    refine .sl0 sz _ _ _ (λe=>?_) aA trivial
    simp at e;have:=htt e.1;omega
   ·have hne:¬cap=l.toNat:=by omega
    rw[if_neg hne,←hlen]
    simp only[aDX,l8]
    have hat:∀ i j y,iU ((es.take m.toNat).drop l.toNat) i j=some y->iU es (l.toNat+i) j=some y:=by
     intro i j y hy
     obtain⟨e,h1,h2⟩:=lC hy
     rw[aRH]at h1
     have hlt:l.toNat+i<m.toNat:=by have:=(iY.1 h1).1;simp at this;omega
     rw[aJA hlt]at h1
     simp[iU,h1,h2]
    refine .sl sz _ _ b (o'+l.toNat*sz) (cap-l.toNat) (λi j=>cv (l.toNat+i) j) hI aA aA (λe=>?_) ?_ ?_ ?_ ?_
    ·simp at e;have:=htt e.1;omega
    ·intro e he
     exact hs e (aU7 (a4D he))
    ·intro i j y hy
     rw[←hc _ _ _ (hat i j y hy)];congr 2;rw[uQ];omega
    ·intro i j y hy;exact h1' _ _ _ (hat i j y hy)
    ·intro i j y hy;exact hrr _ _ _ (hat i j y hy)
end
theorem aEF {α:Type} (l:List α) (hl:0<l.length):∀ (c k:Nat),k<c*l.length->(List.replicate c l).flatten[k]?=l[k%l.length]?
 |0,k,hk=>by simp at hk
 |c+1,k,hk=>by
  rw[aJC,a9T]
  by_cases h:k<l.length
  ·rw[uP h,Nat.mod_eq_of_lt h]
  ·rw[yD aA,aEF l hl c (k-l.length) (by rw[a39]at hk;omega)]
   congr 1
   rw[Nat.mod_eq_sub_mod (Nat.le_of_not_lt h)]
theorem a2C (z:Array Value) (hz:0<z.size) (c k:Nat) (hk:k<c*z.size):((Array.range (c*z.size)).map (λi=>z[i%z.size]!)).toList[k]?=z.toList[k%z.size]?:=by
 have hm:k%z.size<z.size:=Nat.mod_lt _ hz
 simp only[Array.toList_map,Array.toList_range,sO,al8 hk,aDX]
 rw[getElem!_pos z _ hm,al5,aJD hm]
theorem eF.a43 {E:Env} {h:aB} {w:World} {xs:List aE} {z:Array Value} (hL:eF E h w xs z.toList) (hx:0<xs.length) (c:Nat) :
  eF E h w (List.replicate c xs).flatten ((Array.range (c*z.size)).map (λi=>z[i%z.size]!)).toList:=by
 have hsz:z.size=xs.length:=by have:=hL.length;simp at this;omega
 refine eF.mk (by simp[hsz]) ?_
 intro k x v hkx hkv
 have hk:k<c*xs.length:=by have:=(iY.1 hkx).1;simpa using this
 rw[aEF xs hx c k hk]at hkx
 rw[a2C z aA c k (by rw[hsz];exact hk),hsz]at hkv
 exact hL.get _ _ _ hkx hkv
section
variable {P:Program} {o:Oper} {ρ:Operand->aE} {h:aB} {K:aE->aB->Prop}
theorem aMF (t et:TypeId) (l c:Operand) (r re:lU) (k k':IntKind) (a b:Int) (ho:o.op=.makeSlice t l c) (ht:iP P t=some r) (hd:r.d=.slice et) (he:iP P et=some re)
  (hz:re.zero.length=re.sz) (hz0:0<re.sz) (hf:re.zero.all aE.flat=true) (hl:ρ l=.int k a) (hc:ρ c=.int k' b) (h0:0<=a) (hab:a<=b) (hb:b<=281474976710656) (hbb:re.bytes*b<=281474976710656)
  (hk:∀ n,h n=none->K (.os n re.sz 0 a.toNat) (aT h n (.row re.sz ((List.replicate b.toNat re.zero).map (List.map .v))))):pI P o ρ h K:=by
 refine wR re.sz a.toNat (List.replicate b.toNat re.zero) (λe he=>by rw[a15 he,hz]) hk ?_
 intro E w ρc R hρ
 have hal:=lO (hl▸hρ l)
 have hac:=lO (hc▸hρ c)
 obtain⟨u,hu,hud,hrun⟩:=cD (w:=w) ht
 obtain rfl:=iF (hud.trans hd)
 have hsize:=gV (w:=w) he
 obtain⟨z,hzr,hzz⟩:=qF (w:=w) he aMY
 obtain⟨i,u',hi,hu',hsz,hby,_⟩:=sS he
 have hL:eF E h w re.zero z.cells.toList:=by rw[←hzz];exact qY E h w _
 have hzs:z.cells.size=re.sz:=by have:=hL.length;simp at this;omega
 have wa:IntKind.i64.wrap a=a:=IntWalk.i64_in a aA
 have wb:IntKind.i64.wrap b=b:=IntWalk.i64_in b aA
 refine⟨(Array.range (b.toNat*z.cells.size)).map (λi=>z.cells[i%z.cells.size]!),et,w.drawn,b.toNat,_,[],?_,by omega,by unfold maxLen;omega,by simp[hzs],by simp,hL.a43 aA b.toNat,?_⟩
 ·have hti:(typeInfo et).run P w=.ok i w:=by simp[typeInfo,hi]
  have n1:¬(b<0):=by omega
  have n2:¬(281474976710656<(i.bytes:Int)*b):=by rw[←hby];omega
  have n3:¬(a<0):=by omega
  have n4:¬(b<a):=by omega
  simp only[execOp,ho,Instr.makeSlice,Sem.run_bind,hrun,Result.andThen_ok,asInt,hal,hac,asIntOf,Sem.run_pure,hti,wa,wb]
  by_cases hbz:b.toNat=0
  ·simp[n1,n2,n3,n4,hsize,hzs,hbz,newRow,qG]
   have e0:Array.range 0=#[]:=by simp
   simp only[e0,Array.map_empty];rfl
  ·simp[n1,n2,n3,n4,hsize,hzs,hbz,newRow,qG,hzr]
   rw[if_neg (Nat.mul_ne_zero hbz aA)]
   rfl
 ·exact(hL.a43 aA b.toNat).qX (by
   rw[vF]
   intro x hx
   obtain⟨l,hl,hx⟩:=List.mem_flatten.1 hx
   rw[a15 hl]at hx
   exact vF.1 hf x hx)
end
theorem Ev.uS {E:Env} {h:aB} {w:World} (o:Obj) (d:Nat):Ev E h w E h (uS w o d) :=
 ⟨by rw[oA];omega,λb hb=>⟨nP w o d b hb.1,⟨by have:=hb.1;rw[oA];omega,hb.2⟩⟩,λb hb=>by simp only[World.shape?,nP w o d b hb],λ_ hn=>⟨rfl,hn⟩,rfl,rfl⟩
theorem Rel.uS {E:Env} {h:aB} {w:World} (R:Rel E h w) (o:Obj) (d:Nat):Rel E h (uS w o d) :=
 ⟨R.fin,R.dom,λn x b hn hx hb=>by have:=R.lt n x b hn hx hb;rw[oA];omega,R.apart,
  λn x hn=>(R.obj n x hn).ev (Ev.uS o d) rfl rfl λc hx hc=>nP w o d c (R.lt n x c hn hx hc),R.laid.ev (Ev.uS o d)⟩
theorem aYL {E:Env} {h:aB} {w:World} (R:Rel E h w) (o:Obj) (d:Nat):oU E h (Hl.uS w o d) w.heap.size :=
 ⟨by rw[oA];omega,λn x hn hx hf=>by have:=R.lt n x _ hn hx hf;omega⟩
theorem aYM {E:Env} {h:aB} {w:World} (R:Rel E h w) {sz:Nat} {es:List (List aE)} (hs:∀ e∈es,e.length=sz) {cs:Array Value} {t:TypeId} {d:Nat} {vs rest:List Value} (hcs:cs.toList=vs++rest) (hL:eF E h w es.flatten vs) (h1:∀ c∈vs,c.oneCell'=true) :
  ∃ cv:Nat->Nat->Value,(∀ i j x,iU es i j=some x->(Hl.uS w (.cells cs t) d).cell? ⟨w.heap.size,0+i*sz+j,none⟩=some (cv i j))/\(∀ i j x,iU es i j=some x->(cv i j).oneCell'=true)/\(∀ i j x,iU es i j=some x->fG E h (Hl.uS w (.cells cs t) d) x (cv i j)):=by
 have hlen:vs.length=es.length*sz:=by rw[←hL.length,length_flatten es hs]
 refine⟨λi j=>(vs[i*sz+j]?).getD undef,λi j x hx=>?_,λi j x hx=>?_,λi j x hx=>?_⟩ <;>
  (have hlt:=vP hs hx
   have hk:i*sz+j<vs.length:=by omega
   have hv:vs[i*sz+j]?=some vs[i*sz+j]:=fC hk)
 ·simp only[World.cell?,vN,aHQ]
  rw[←al5,hcs,uP hk,hv];simp
 ·simp only[hv];exact h1 _ (lF hk)
 ·simp only[hv];exact(hL.get _ _ _ (vO es hs i j x hx) hv).ev (Ev.uS _ _)
section
variable {P:Program} {o:Oper} {ρ:Operand->aE} {h:aB} {K:aE->aB->Prop}
theorem aR1 (t:TypeId) (x:Operand) (ho:o.op=.box t x) (hf:(ρ x).cells.all aE.flat=true) (hk:K (.ip (ρ x).cells.length [(ρ x).cells] 0 0) h):pI P o ρ h K:=by
 intro E w ρc R hρ
 obtain⟨hL,h1⟩:=(hρ x).aFU hf
 have hs:∀ e∈[(ρ x).cells],e.length=(ρ x).cells.length:=by simp
 obtain⟨cv,c1,c2,c3⟩:=aYM (t:=t) (d:=w.drawn) R hs (cs:=(ρc x).cells) (vs:=(ρc x).cells.toList) (rest:=[]) eC (by simpa using hL) h1
 refine .jR (v:=.pointer (some ⟨w.heap.size,0,none⟩)) (w':=Hl.uS w (.cells (ρc x).cells t) w.drawn) ?_ ⟨_,h,E,hk,Ev.uS _ _,R.uS _ _,?_⟩
 ·simp only[execOp,ho,Instr.box,newVar,newRow,Sem.run_bind,run_newObj,Result.andThen_ok,Sem.run_pure,qG]
 ·have:=fG.ip (E:=E) (h:=h) (w:=Hl.uS w (.cells (ρc x).cells t) w.drawn) (ρ x).cells.length [(ρ x).cells] 0 0 w.heap.size 0 cv (aYL R _ _) hs c1 c2 c3
  simpa using this
def uV (es:List (List aE)):List (Nat×aE)->List (List aE)
 | []=>es
 |(i,v)::r=>uV (es.set i v.cells) r
def sA (len sz:Nat):List (Nat×aE)->Bool
 | []=>true
 |(i,v)::r=>decide (i<len) && decide (v.cells.length=sz) && v.cells.all aE.flat && sA len sz r
theorem yH:∀ (ps:List (Nat×aE)) (es:List (List aE)),(uV es ps).length=es.length
 | [],_=>rfl
 |(i,v)::r,es=>by simp[uV,yH r]
theorem yI {sz len:Nat}:∀ (ps:List (Nat×aE)) (es:List (List aE)),sA len sz ps=true->(∀ e∈es,e.length=sz)->∀ e∈uV es ps,e.length=sz
 | [],_,_,h=>h
 |(i,v)::r,es,hf,h=>by
  simp only[sA,mK,decide_eq_true_eq]at hf
  refine yI r _ hf.2 λe he=>?_
  rcases s6 he with h1|h1
  ·exact h e h1
  ·rw[h1];exact hf.1.1.2
theorem z5 (vs:Array Value) (off:Nat) (cs:Array Value) (k:Nat) (hle:off+vs.size<=cs.size) :
  (vs.zipIdx.foldl (λcs (cj:Value×Nat)=>cs.setIfInBounds (off+cj.2) cj.1) cs)[k]?=if off<=k/\k<off+vs.size then vs[k-off]? else cs[k]?:=by
 have key:∀ (l:List Value) (n:Nat) (cs:Array Value),off+n+l.length<=cs.size ->
   ((l.zipIdx n).foldl (λcs (cj:Value×Nat)=>cs.setIfInBounds (off+cj.2) cj.1) cs)[k]?=if off+n<=k/\k<off+n+l.length then l[k-(off+n)]? else cs[k]?:=by
  intro l
  induction l with
  |nil=>intro n cs _;rw[if_neg eC];rfl
  |cons v l ih =>
   intro n cs hl
   simp only[List.zipIdx_cons,List.foldl_cons]
   rw[ih (n+1) _ (by rw[Array.size_setIfInBounds];simp at hl;omega)]
   simp only[aB9]at hl ⊢
   by_cases h1:off+(n+1)<=k/\k<off+(n+1)+l.length
   ·rw[if_pos h1,if_pos aA,show k-(off+n)=(k-(off+(n+1)))+1 by omega];simp
   ·rw[if_neg h1]
    by_cases h2:k=off+n
    ·subst h2
     have hlt:off+n<cs.size:=by omega
     rw[if_pos aA];simp[Array.getElem?_setIfInBounds,hlt]
    ·rw[if_neg aA,aU5 aA]
 have:=key vs.toList 0 cs (by simpa using hle)
 rw[←Array.foldl_toList,Array.toList_zipIdx]
 simpa using this
theorem xG (vs:Array Value) (off:Nat) (cs:Array Value):(vs.zipIdx.foldl (λcs (cj:Value×Nat)=>cs.setIfInBounds (off+cj.2) cj.1) cs).size=cs.size:=by
 have key:∀ (l:List (Value×Nat)) (cs:Array Value),(l.foldl (λcs (cj:Value×Nat)=>cs.setIfInBounds (off+cj.2) cj.1) cs).size=cs.size:=by
  intro l
  induction l with
  |nil=>intro cs;rfl
  |cons v l ih=>intro cs;simp only[List.foldl_cons];rw[ih];simp
 rw[←Array.foldl_toList]
 exact key _ cs
theorem xH {α:Type} {sz:Nat}:∀ (es:List (List α)),(∀ e∈es,e.length=sz)->∀ k,k<es.length*sz->es.flatten[k]?=iU es (k / sz) (k%sz)
 | [],_,k,hk=>by simp at hk
 |e::es,hs,k,hk=>by
  have he:=hs e eC
  have hs':=λe he=>hs e (wN _ he)
  have hsz:0<sz:=by
   rcases a16 sz with h|h
   ·subst h;simp at hk
   ·exact h
  rw[a9T]
  by_cases h:k<sz
  ·rw[uP aA,a9V h,Nat.mod_eq_of_lt h];simp[iU]
  ·rw[yD aA,he,xH es hs' (k-sz) (by simp[a39]at hk;omega)]
   have h1:k / sz=(k-sz) / sz+1:=by rw[Nat.div_eq_sub_div hsz aA]
   have h2:k%sz=(k-sz)%sz:=Nat.mod_eq_sub_mod aA
   rw[h1,h2];simp[iU]
theorem aR2 {E:Env} {w:World} {sz len:Nat} {ρc:Operand->Value} (hρ:∀ x,fG E h w (ρ x) (ρc x)):∀ (ps:List (Nat×Operand)) (es:List (List aE)) (cs:Array Value),sA len sz (ps.map λp=>(p.1,ρ p.2))=true->es.length=len->(∀ e∈es,e.length=sz) ->
  eF E h w es.flatten cs.toList->(∀ c∈cs.toList,c.oneCell'=true) ->
  ∃ cs',Instr.fill (λi=>some (i*sz,sz)) cs (ps.map λp=>(p.1,ρc p.2))=some cs'/\eF E h w (uV es (ps.map λp=>(p.1,ρ p.2))).flatten cs'.toList/\∀ c∈cs'.toList,c.oneCell'=true
 | [],es,cs,_,_,_,hL,h1=>⟨cs,rfl,hL,h1⟩
 |(i,x)::ps,es,cs,hf,hlen,hs,hL,h1=>by
  simp only[qR,sA,mK,decide_eq_true_eq]at hf
  obtain⟨⟨⟨hi,hsz⟩,hfl⟩,hf⟩:=hf
  obtain⟨hcL,hc1⟩:=(hρ x).aFU hfl
  have hvs:(ρc x).cells.size=sz:=by have:=hcL.length;simp at this;omega
  have hcsz:cs.size=es.length*sz:=by have:=hL.length;rw[length_flatten es hs]at this;simpa using this.symm
  have hfit:i*sz+sz<=cs.size:=by
   rw[hcsz,hlen]
   have:=a38 sz (Nat.succ_le_of_lt hi)
   rw[a39]at this;exact this
  have hget:=λk=>z5 (ρc x).cells (i*sz) cs k (by rw[hvs];exact hfit)
  have hsize:=xG (ρc x).cells (i*sz) cs
  have hs':∀ e∈es.set i (ρ x).cells,e.length=sz:=λe he=>by
   rcases s6 he with h1|h1
   ·exact hs e h1
   ·rw[h1];exact hsz
  have hin:i*sz<=i*sz:=bY _
  obtain⟨cs',r1,r2,r3⟩:=aR2 hρ ps (es.set i (ρ x).cells) hf (by simpa using hlen) hs' (cs:=(ρc x).cells.zipIdx.foldl (λcs (cj:Value×Nat)=>cs.setIfInBounds (i*sz+cj.2) cj.1) cs) (by
   refine eF.mk (by rw[length_flatten _ hs',p7,←hcsz,←hsize];rfl) ?_
   intro k y v hy hv
   rw[al5,hget k]at hv
   have hk:k<es.length*sz:=by have:=(iY.1 hy).1;rw[length_flatten _ hs']at this;simpa using this
   have bUG:0<sz:=by
    rcases a16 sz with h|h
    ·subst h;simp at hk
    ·exact h
   rw[xH _ hs' k (by simpa using hk)]at hy
   by_cases hr:i*sz<=k/\k<i*sz+(ρc x).cells.size
   ·rw[if_pos hr]at hv
    have hd:k / sz=i:=by
     rw[hvs]at hr
     exact Nat.div_eq_of_lt_le (by rw[aJB]at hr ⊢;omega) (by rw[a39];omega)
    have hm:k%sz=k-i*sz:=by
     have:=a9W k sz
     rw[hd,aJB]at this;omega
    rw[hd,hm]at hy
    unfold iU at hy
    rw[nH (by rw[hlen];exact hi)]at hy
    exact hcL.get _ _ _ (by simpa using hy) aD7
   ·rw[if_neg hr]at hv
    have hd:k / sz≠i:=by
     intro e
     have hdm:=a9W k sz
     have:=Nat.mod_lt k bUG
     rw[e,aJB]at hdm
     rw[hvs]at hr;omega
    unfold iU at hy
    rw[mG (iK hd)]at hy
    exact hL.get k _ _ (by rw[xH es hs k hk];exact hy) aD7) (by
   intro c hc
   obtain⟨k,hk⟩:=a9U hc
   rw[al5,hget k]at hk
   split at hk
   ·exact hc1 c bEE
   ·exact h1 c bEE)
  refine⟨cs',?_,r2,r3⟩
  simp only[qR,Instr.fill,hvs]
  rw[if_neg vL]
  exact r1
theorem aAS {E:Env} {w:World} {ρc:Operand->Value} (hρ:∀ x,fG E h w (ρ x) (ρc x)) (t et:TypeId) (len:Nat) (ps:Array (Nat×Operand)) (r re:lU) (ho:o.op=.buildSlice t len ps) (ht:iP P t=some r) (hd:r.d=.slice et) (he:iP P et=some re)
  (hz:re.zero.length=re.sz) (hz0:0<re.sz) (hf:re.zero.all aE.flat=true) (hlen:len*re.sz<=16777216) (hfill:sA len re.sz (ps.toList.map λp=>(p.1,ρ p.2))=true) :
  ∃ (cs:Array Value),(execOp ρc o).run P w=.ok (.value (.slice (some ⟨w.heap.size,0,none⟩) len len)) (uS w (.cells cs et) w.drawn) /\
   eF E h w (uV (List.replicate len re.zero) (ps.toList.map λp=>(p.1,ρ p.2))).flatten cs.toList/\∀ c∈cs.toList,c.oneCell'=true:=by
 obtain⟨u,hu,hud,hrun⟩:=cD (w:=w) ht
 obtain rfl:=iF (hud.trans hd)
 have hsize:=gV (w:=w) he
 obtain⟨z,hzr,hzz⟩:=qF (w:=w) he aMY
 have hL:eF E h w re.zero z.cells.toList:=by rw[←hzz];exact qY E h w _
 have hzs:z.cells.size=re.sz:=by have:=hL.length;simp at this;omega
 have hflat:=hL.a43 aA len
 have hone:=hflat.qX (by
  rw[vF]
  intro x hx
  obtain⟨l,hl,hx⟩:=List.mem_flatten.1 hx
  rw[a15 hl]at hx
  exact vF.1 hf x hx)
 have hs:∀ e∈List.replicate len re.zero,e.length=re.sz:=λe he=>by rw[a15 he,hz]
 obtain⟨cs,h1,h2,h3⟩:=aR2 hρ ps.toList (List.replicate len re.zero) _ hfill eC hs hflat hone
 refine⟨cs,?_,h2,h3⟩
 have hmap:(ps.map λ(i,x)=>(i,ρc x)).toList=ps.toList.map λp=>(p.1,ρc p.2):=by simp
 rw[hzs]at h1
 have n1:¬(len*re.sz > 2 ^ 24):=by simp;omega
 simp only[execOp,ho,Instr.buildSlice,Sem.run_bind,hrun,Result.andThen_ok,hsize,hmap,if_neg n1,Sem.run_ite]
 by_cases hl0:len*re.sz=0
 ·have aR3:len=0:=by
   rcases Nat.mul_eq_zero.1 hl0 with h|h
   ·exact h
   ·omega
  subst aR3
  simp only[a37]at h1 ⊢
  have e0:Array.range 0=#[]:=by simp
  simp only[e0,Array.map_empty]at h1 ⊢
  simp[h1,newRow,qG]
  rfl
 ·simp only[hl0,if_false,Sem.run_bind,hzr,Result.andThen_ok,Sem.run_pure,hzs]
  simp[h1,newRow,qG]
  rfl
theorem aJU (t et:TypeId) (len:Nat) (ps:Array (Nat×Operand)) (r re:lU) (ho:o.op=.buildSlice t len ps) (ht:iP P t=some r) (hd:r.d=.slice et) (he:iP P et=some re)
  (hz:re.zero.length=re.sz) (hz0:0<re.sz) (hf:re.zero.all aE.flat=true) (hlen:len*re.sz<=16777216) (hfill:sA len re.sz (ps.toList.map λp=>(p.1,ρ p.2))=true)
  (hk:∀ n,h n=none->K (.os n re.sz 0 len) (aT h n (.row re.sz ((uV (List.replicate len re.zero) (ps.toList.map λp=>(p.1,ρ p.2))).map (List.map .v))))):pI P o ρ h K:=by
 have hs:∀ e∈List.replicate len re.zero,e.length=re.sz:=λe he=>by rw[a15 he,hz]
 refine wR re.sz len (uV (List.replicate len re.zero) (ps.toList.map λp=>(p.1,ρ p.2))) (yI _ _ hfill hs) hk ?_
 intro E w ρc R hρ
 obtain⟨cs,h1,h2,h3⟩:=aAS (P:=P) hρ t et len ps r re ho ht hd he hz hz0 hf hlen hfill
 have hcs:cs.size=len*re.sz:=by
  have:=h2.length
  rw[length_flatten _ (yI _ _ hfill hs),yH]at this
  simpa using this.symm
 have:len<=len*re.sz:=Nat.le_mul_of_pos_right len hz0
 exact⟨cs,et,w.drawn,len,cs.toList,[],h1,bY _,by unfold maxLen;omega,by omega,by simp,h2,h3⟩
theorem aCZ (t et:TypeId) (len:Nat) (ps:Array (Nat×Operand)) (r re:lU) (ho:o.op=.buildSlice t len ps) (ht:iP P t=some r) (hd:r.d=.slice et) (he:iP P et=some re)
  (hz:re.zero.length=re.sz) (hz0:0<re.sz) (hf:re.zero.all aE.flat=true) (hlen:len*re.sz<=16777216) (hfill:sA len re.sz (ps.toList.map λp=>(p.1,ρ p.2))=true)
  (hk:K (.sl re.sz (uV (List.replicate len re.zero) (ps.toList.map λp=>(p.1,ρ p.2))) true) h):pI P o ρ h K:=by
 have hs:∀ e∈List.replicate len re.zero,e.length=re.sz:=λe he=>by rw[a15 he,hz]
 have hs':=yI (sz:=re.sz) _ _ hfill hs
 intro E w ρc R hρ
 obtain⟨cs,h1,h2,h3⟩:=aAS (P:=P) hρ t et len ps r re ho ht hd he hz hz0 hf hlen hfill
 obtain⟨cv,c1,c2,c3⟩:=aYM (t:=et) (d:=w.drawn) R hs' (cs:=cs) (vs:=cs.toList) (rest:=[]) eC h2 h3
 refine .jR h1 ⟨_,h,E,hk,Ev.uS _ _,R.uS _ _,?_⟩
 have hl:(uV (List.replicate len re.zero) (ps.toList.map λp=>(p.1,ρ p.2))).length=len:=by rw[yH,aFR]
 have:len<=len*re.sz:=Nat.le_mul_of_pos_right len hz0
 have:=fG.sl (E:=E) (h:=h) (w:=Hl.uS w (.cells cs et) w.drawn) re.sz _ true w.heap.size 0 len cv (aYL R _ _) aA (by unfold maxLen;omega) (λ_=>hl.symm) hs' c1 c2 c3
 rw[hl]at this
 exact this
end
def uJ:List (List Cell)->Option (List (List aE))
 | []=>some []
 |e::es=>match aAQ e,uJ es with
  |some x,some xs=>some (x::xs)
  | _,_=>none
theorem aCK:∀ {es:List (List Cell)} {xs:List (List aE)},uJ es=some xs->es=xs.map (List.map .v)
 | [],xs,h=>by simp[uJ]at h;subst h;rfl
 |e::es,xs,h=>by
  unfold uJ at h
  split at h
  ·rename_i x xs' hx hxs
   obtain rfl:=gO h
   simp[aCX hx,aCK hxs]
  ·simp at h
def vQ (h:aB) (sz:Nat):aE->Option (List (List aE))
 | .sl sz' ys _=>if sz'=sz then some ys else none
 | .bS=>some []
 | .str s=>if sz=1 then some (s.map λc=>[.int .u8 c.toNat])else none
 | .os m sz' j k=>match h m with
  |some (.row sz'' es)=>if sz'=sz/\sz''=sz/\j+k<=es.length then uJ ((es.drop j).take k)else none
  | _=>none
 | _=>none
theorem aJV {E:Env} {h:aB} {w:World} {b o sz:Nat} {es:List (List aE)} (hs:∀ e∈es,e.length=sz) {cv:Nat->Nat->Value}
  (hc:∀ i j x,iU es i j=some x->w.cell? ⟨b,o+i*sz+j,none⟩=some (cv i j)) (h1:∀ i j x,iU es i j=some x->(cv i j).oneCell'=true) (hr:∀ i j x,iU es i j=some x->fG E h w x (cv i j)) :
  ∃ vs:List Value,eF E h w es.flatten vs/\(∀ c∈vs,c.oneCell'=true)/\∀ j v,vs[j]?=some v->w.cell? ((⟨b,o,none⟩:Addr).add j)=some v:=by
 have hlen:=length_flatten es hs
 refine⟨(List.range (es.length*sz)).map λk=>cv (k / sz) (k%sz),?_,?_,?_⟩
 ·refine eF.mk (by simp[hlen]) ?_
  intro k x v hx hv
  have hk:k<es.length*sz:=by rw[←hlen];exact(iY.1 hx).1
  rw[sO,al8 hk]at hv
  obtain rfl:=gO hv
  rw[xH es hs k hk]at hx
  exact hr _ _ _ hx
 ·intro c hc'
  obtain⟨k,hk,rfl⟩:=lZ.1 hc'
  have hk:k<es.length*sz:=by simpa using hk
  have hx:es.flatten[k]?=some (es.flatten[k]'aA):=fC aA
  rw[xH es hs k hk]at hx
  exact h1 _ _ _ hx
 ·intro k v hv
  have hk:k<es.length*sz:=by have:=(iY.1 hv).1;simpa using this
  rw[sO,al8 hk]at hv
  obtain rfl:=gO hv
  have hx:es.flatten[k]?=some (es.flatten[k]'aA):=fC aA
  rw[xH es hs k hk]at hx
  rw[l8,←hc _ _ _ hx]
  congr 2
  have:=a9W k sz
  rw[aJB]at this;omega
theorem aC0 {w w':World} (h:w'.heap=w.heap) (a:Addr):w'.cell? a=w.cell? a:=by simp only[World.cell?,h]
def a44 (P:Program) (E:Env) (h:aB) (w:World) (sz:Nat) (ys:List (List aE)) (v:Value):Prop :=
  ∃ news:List Value,(∀ e∈ys,e.length=sz)/\(∀ w',(Builtin.lenOf v).run P w'=.ok ys.length w')/\(∀ w',w'.heap=w.heap->(Builtin.firstCells sz ys.length v).run P w'=.ok news.toArray w') /\
   eF E h w ys.flatten news/\(∀ c∈news,c.oneCell'=true)/\ys.length<=maxLen
theorem aIC {P:Program} {E:Env} {h:aB} {w:World} (R:Rel E h w) {sz:Nat} {x:aE} {v:Value} {ys:List (List aE)} (hx:vQ h sz x=some ys) (r:fG E h w x v):a44 P E h w sz ys v:=by
 unfold vQ at hx
 have slices:∀ (b o len cap:Nat) (cv:Nat->Nat->Value),v=.slice (some ⟨b,o,none⟩) len cap->len=ys.length->len<=maxLen->(∀ e∈ys,e.length=sz)->(∀ i j x,iU ys i j=some x->w.cell? ⟨b,o+i*sz+j,none⟩=some (cv i j)) ->
   (∀ i j x,iU ys i j=some x->(cv i j).oneCell'=true)->(∀ i j x,iU ys i j=some x->fG E h w x (cv i j))->a44 P E h w sz ys v:=by
  intro b o len cap cv hv hl hmax hs hc h1 hr
  obtain⟨vs,hL,hone,hcell⟩:=aJV hs hc h1 hr
  refine⟨vs,hs,λw'=>by rw[hv,←hl];simp[Builtin.lenOf],λw' hw=>?_,hL,hone,by omega⟩
  rw[hv]
  refine run_firstCells_some w' sz ys.length _ _ _ vs (by rw[←hL.length,length_flatten ys hs]) λj u hu=>?_
  rw[aC0 hw];exact hcell j u hu
 split at hx
 ·rename_i sz' ys' t
  split at hx
  ·rename_i e
   subst e
   obtain rfl:=gO hx
   cases r with
   |sl0 _ _ a cap ht hmax ha =>
    refine⟨[],by simp,λw'=>by simp[Builtin.lenOf],λw' hw=>?_,trivial,by simp,by simp⟩
    cases a with
    |none=>simp[Builtin.firstCells]
    |some a=>simp[Builtin.firstCells,loadCells,loadCellsFrom]
   |sl _ _ _ b o cap cv hi hcap hmax ht hs hc h1 hr=>exact slices b o _ _ cv rfl rfl aA hs hc h1 hr
  ·simp at hx
 ·obtain rfl:=gO hx
  cases r
  exact⟨[],by simp,λw'=>by simp[Builtin.lenOf],λw' hw=>by simp[Builtin.firstCells],trivial,by simp,by simp⟩
 ·rename_i s
  split at hx
  ·rename_i e
   subst e
   obtain rfl:=gO hx
   cases r with
   |str _ hl =>
    refine⟨s.map λc=>.int .u8 c.toNat,by simp,λw'=>by simp[Builtin.lenOf,ByteArray.size],λw' hw=>?_,?_,by simp[Value.oneCell'],by simpa using hl⟩
    ·simp only[Builtin.firstCells,gX]
     have:(ByteArray.mk s.toArray).extract 0 s.length=⟨s.toArray⟩:=by
      apply ByteArray.ext
      rw[ByteArray.data_extract];simp
     rw[this];simp
    ·refine eF.mk (by rw[length_flatten (sz:=1) _ eC];simp) ?_
     have:∀ (s:List UInt8),(s.map λc=>[aE.int .u8 c.toNat]).flatten=s.map λc=>aE.int .u8 c.toNat:=λs=>by
      induction s with
      |nil=>rfl
      |cons c s ih=>simp[ih]
     rw[this]
     intro i x v hx hv
     rw[sO]at hx hv
     obtain⟨c,hc,rfl⟩:=r7.1 hx
     rw[hc]at hv
     obtain rfl:=gO hv
     exact .int _ _
  ·simp at hx
 ·rename_i m sz' j k
  split at hx
  ·rename_i sz'' es hm
   split at hx
   ·rename_i e
    obtain⟨rfl,rfl,hjk⟩:=e
    have hpl:=aCK hx
    have hlen:ys.length=k:=by have:=congrArg List.length hpl;simp at this;omega
    cases r with
    |os0 _ _ hd hl =>
     have:ys=[]:=aHR.1 hlen
     subst this
     exact⟨[],by simp,λw'=>by simp[Builtin.lenOf],λw' hw=>by simp[Builtin.firstCells],trivial,by simp,by simp⟩
    |os _ _ _ _ b o cap t mm hd hl hlc hmax hsh hm' =>
     obtain⟨b',o',hl',hbS,hs,cs,ct,cv,T,hh,hmm,hT,hD,hc,hrr⟩:=aAR R hm (.inr ⟨_,hl⟩)
     rw[hl]at hl'
     obtain⟨rfl,rfl⟩:=aOI (gO hl')
     have hat:∀ i' j' y,iU ys i' j'=some y->iU es (j+i') j'=some (.v y):=by
      intro i' j' y hy
      have h1:iU (ys.map (List.map Cell.v)) i' j'=some (.v y):=by rw[nQ,hy];rfl
      rw[←hpl]at h1
      obtain⟨e,h2,h3⟩:=lC h1
      have hlt:i'<k:=by have:=(iY.1 h2).1;simp at this;omega
      rw[aJA hlt,aRH]at h2
      simp[iU,h2,h3]
     refine slices b _ k cap (λi' j'=>cv (j+i') j') rfl hlen.symm aA ?_ ?_ ?_ ?_
     ·intro e he
      have:e.map Cell.v∈(es.drop j).take k:=by rw[hpl];exact lZ.2 ⟨e,he,rfl⟩
      have:=hs _ (a4D (aU7 this))
      simpa using this
     ·intro i' j' y hy
      have:=hc _ _ _ (hat i' j' y hy)
      simp only[World.cell?,hh,bGO,aOH,if_false]
      rw[←this];congr 1;rw[uQ];omega
     ·intro i' j' y hy;exact(hrr _ _ _ (hat i' j' y hy)).one
     ·intro i' j' y hy
      have:=hrr _ _ _ (hat i' j' y hy)
      generalize cv (j+i') j'=c at this
      generalize T (j+i') j'=S at this
      cases this with
      |v _ _ _ _ hx=>exact hx
   ·simp at hx
  ·simp at hx
 ·simp at hx
def bGX (P:Program) (t:TypeId):Option TyD:=(iP P t).map (·.d)
def aAT (P:Program) (t:Option TypeId):Bool :=
 match t with
 |some t=>match bGX P t with
  |some (.slice _)=>true
  |some .str=>true
  | _=>false
 |none=>false
theorem aFX {P:Program} {w:World} {t:Option TypeId} (h:aAT P t=true) :
  ∃ t',t=some t'/\((∃ e,(underlying t').run P w=.ok (.slice e) w)∨(underlying t').run P w=.ok .string w):=by
 unfold aAT at h
 cases t with
 |none=>simp at h
 |some t =>
  refine⟨t,rfl,?_⟩
  simp only[bGX]at h
  cases hr:iP P t with
  |none=>simp[hr]at h
  |some r =>
   simp only[hr,aDX]at h
   obtain⟨u,hu,hud,hrun⟩:=cD (w:=w) hr
   split at h
   ·rename_i e he
    obtain rfl:=iF (hud.trans (gO he))
    exact .inl ⟨e,hrun⟩
   ·rename_i he
    obtain rfl:=aEA (hud.trans (gO he))
    exact .inr hrun
   ·simp at h
section
variable {P:Program} {o:Oper} {ρ:Operand->aE} {h:aB} {K:aE->aB->Prop}
theorem aAU {w:World} {t et:TypeId} {t1:Option TypeId} {r re:lU} (ht:iP P t=some r) (hd:r.d=.slice et) (he:iP P et=some re) (h1:aAT P t1=true) (ats:Array TypeId) (a0:ats[0]?=some t) (a1:ats[1]?=t1) (ty:TypeId)
  {base:Option Addr} {sLen sCap n:Nat} {v:Value} {olds news:List Value} {z:Value} (hz:(∀ w,(zeroValue et).run P w=.ok z w)) (hlen:∀ w',(Builtin.lenOf v).run P w'=.ok n w')
  (hold:∀ w',w'.heap=w.heap->(Builtin.firstCells re.sz sLen (.slice base sLen sCap)).run P w'=.ok olds.toArray w') (hnew:∀ w',w'.heap=w.heap->(Builtin.firstCells re.sz n v).run P w'=.ok news.toArray w')
  (hg:sCap<sLen+n) (hb:(sLen+n)*re.bytes<=140737488355328) (hmax:sLen+n<=maxLen) :
  ∃ cap d,sLen+n<=cap/\cap<=maxLen/\(Builtin.append_ ats ty #[.slice base sLen sCap,v]).run P w =
   .ok (.slice (some ⟨w.heap.size,0,none⟩) (sLen+n) cap) (uS w (.cells ((olds++news).toArray++Builtin.zeroCells z.cells (cap-(sLen+n))) et) d):=by
 obtain⟨u,hu,hud,hrun⟩:=cD (w:=w) ht
 obtain rfl:=iF (hud.trans hd)
 have hsize:∀ w,(sizeOf et).run P w=.ok re.sz w:=λw=>gV he
 obtain⟨i,u',hi,hu',hsz,hby,_⟩:=sS he
 obtain⟨t',rfl,hu1⟩:=aFX (w:=w) h1
 have hti:∀ w,(typeInfo et).run P w=.ok i w:=λw=>by simp[typeInfo,hi]
 have hge:=grownCap_ge w (sLen+n) sCap et
 have hcm:=grownCap_le_maxLen w (sLen+n) sCap et hmax
 refine⟨grownCap w (sLen+n) sCap et,w.drawn+1,hge,hcm,?_⟩
 have hml:maxLen=9223372036854775807:=rfl
 have n1:¬(sLen+n<=sCap):=by omega
 have n3:¬(281474976710656<Builtin.nextslicecap (sLen+n) sCap*i.bytes):=by
  have:=growslice_fits hg (by rw[←hby];exact hb:(sLen+n)*i.bytes<=140737488355328)
  omega
 have n2:¬(9223372036854775807<((sLen:Int)+(n:Int))):=by omega
 have hw:(w.drew).heap=w.heap:=rfl
 have hassoc:∀ zc:Array Value,olds.toArray++(news.toArray++zc)=(olds++news).toArray++zc:=λzc=>by apply Array.ext';simp
 rcases hu1 with⟨e,hu1⟩|hu1
 ·simp[Builtin.append_,a0,a1,hrun,hsize,hu1,hlen,n1,n2,n3,hti,Question.forced,grownCap,hold _ hw,hnew _ hw,hz,newRow,hassoc]
  rfl
 ·simp[Builtin.append_,a0,a1,hrun,hsize,hu1,hlen,n1,n2,n3,hti,Question.forced,grownCap,hold _ hw,hnew _ hw,hz,newRow,hassoc]
  rfl
end
section
variable {P:Program} {o:Oper} {ρ:Operand->aE} {h:aB} {K:aE->aB->Prop}
theorem qH {ρc:Operand->Value} {w:World} (x y:Operand) (ats:Array TypeId) (ho:o.op=.call { callee:=.builtin .append,args:=#[x,y],argTypes:=ats }) :
  (execOp ρc o).run P w=((Builtin.append_ ats o.type #[ρc x,ρc y]).run P w).andThen λv w'=>.ok (.value v) w':=by
 simp[execOp,ho,resolve,invoke,builtin]
def aEG (sz:Nat):aE->Option (List (List aE))
 | .bS=>some []
 | .sl sz' es true=>if sz'=sz then some es else none
 | _=>none
theorem aC1 (z:Array Value) (n:Nat):(Builtin.zeroCells z n).size=n*z.size:=by simp[Builtin.zeroCells]
theorem aJX (x y:Operand) (ats:Array TypeId) (t et:TypeId) (r re:lU) (olds ys:List (List aE)) (ho:o.op=.call { callee:=.builtin .append,args:=#[x,y],argTypes:=ats })
  (a0:ats[0]?=some t) (ht:iP P t=some r) (hd:r.d=.slice et) (he:iP P et=some re) (hz:re.zero.length=re.sz) (hz0:0<re.sz) (h1:aAT P ats[1]?=true)
  (hx:aEG re.sz (ρ x)=some olds) (hy:vQ h re.sz (ρ y)=some ys) (hne:ys≠[]) (hb:(olds.length+ys.length)*re.bytes<=140737488355328) (hmax:olds.length+ys.length<=9223372036854775807)
  (hk:∀ n,h n=none->K (.os n re.sz 0 (olds.length+ys.length)) (aT h n (.row re.sz ((olds++ys).map (List.map .v))))):pI P o ρ h K:=by
 have hml:maxLen=9223372036854775807:=rfl
 have aR3:0<ys.length:=List.length_pos_iff.2 hne
 have dst:∀ E w v,fG E h w (ρ x) v->∃ (base:Option Addr) (cap:Nat) (vs:List Value),v=.slice base olds.length cap/\cap<olds.length+ys.length/\(∀ e∈olds,e.length=re.sz)/\eF E h w olds.flatten vs/\(∀ c∈vs,c.oneCell'=true) /\
   ∀ w',w'.heap=w.heap->(Builtin.firstCells re.sz olds.length (.slice base olds.length cap)).run P w'=.ok vs.toArray w':=by
  intro E w v hr
  unfold aEG at hx
  split at hx
  ·rename_i hxv
   obtain rfl:=gO hx
   rw[hxv]at hr
   cases hr
   exact⟨none,0,[],rfl,by simpa using aR3,by simp,trivial,by simp,λw' _=>by simp[Builtin.firstCells]⟩
  ·rename_i sz' es hxv
   split at hx
   ·rename_i e
    obtain rfl:=gO hx
    rw[hxv]at hr
    cases hr with
    |sl0 _ _ a cap htt hm ha =>
     have:=htt rfl
     refine⟨_,_,[],rfl,by simp;omega,by simp,trivial,by simp,λw' _=>?_⟩
     cases a <;> simp[Builtin.firstCells,loadCells,loadCellsFrom]
    |sl _ _ _ b o' cap cv hI hcap hm htt hs hc hone hrr =>
     have:=htt rfl
     subst e
     obtain⟨vs,hL,hv1,hcell⟩:=aJV hs hc hone hrr
     refine⟨_,_,vs,rfl,by omega,hs,hL,hv1,λw' hw=>?_⟩
     refine run_firstCells_some w' _ _ _ _ _ vs (by rw[←hL.length,length_flatten _ hs]) λj u hu=>?_
     rw[aC0 hw];exact hcell j u hu
   ·simp at hx
  ·simp at hx

 intro E w ρc R hρ
 obtain⟨base,cap,vs,hv,hcap,hso,hLo,hv1,hfo⟩:=dst E w _ (hρ x)
 obtain⟨news,hsn,hlen,hfn,hLn,hn1,_⟩:=aIC (P:=P) R hy (hρ y)
 have hs:∀ e∈olds++ys,e.length=re.sz:=λe he=>by
  rcases nY.1 he with h|h
  ·exact hso e h
  ·exact hsn e h
 refine wR re.sz (olds.length+ys.length) (olds++ys) hs hk ?_ E w ρc R hρ
 intro E w ρc R hρ
 obtain⟨base,cap,vs,hv,hcap,hso,hLo,hv1,hfo⟩:=dst E w _ (hρ x)
 obtain⟨news,hsn,hlen,hfn,hLn,hn1,_⟩:=aIC (P:=P) R hy (hρ y)
 obtain⟨z,hzr,hzz⟩:=qF (w:=w) he aMY
 have hzr':∀ w,(zeroValue et).run P w=.ok z w:=by
  intro w'
  obtain⟨z',hzr',hzz'⟩:=qF (w:=w') he aMY
  have:z'=z:=by
   obtain⟨i,u,hi,_⟩:=sS he
   simp only[zeroValue,typeInfo,Sem.run_bind,run_program,Result.andThen_ok,hi,Sem.run_pure]at hzr hzr'
   cases hiz:i.zero with
   |none=>simp[hiz]at hzr
   |some z0=>simp[hiz]at hzr hzr';rw[←hzr,←hzr']
  rw[←this];exact hzr'
 have hzs:z.cells.size=re.sz:=by have:=congrArg List.length hzz;simp[hz]at this;exact this
 obtain⟨ncap,d,g1,g2,grun⟩:=aAU (w:=w) (t1:=ats[1]?) ht hd he h1 ats a0 rfl o.type (base:=base) (sLen:=olds.length) (sCap:=cap) (n:=ys.length) (v:=ρc y) (olds:=vs) (news:=news) (z:=z) hzr' hlen hfo hfn hcap hb aA
 refine⟨(vs++news).toArray++Builtin.zeroCells z.cells (ncap-(olds.length+ys.length)),et,d,ncap,vs++news,(Builtin.zeroCells z.cells (ncap-(olds.length+ys.length))).toList,?_,g1,g2,?_,by simp,by rw[List.flatten_append];exact hLo.append hLn,λc hc=>?_⟩
 ·rw[qH x y ats ho,hv,grun];rfl
 ·have e1:=hLo.length
  have e2:=hLn.length
  rw[length_flatten _ hso]at e1
  rw[length_flatten _ hsn]at e2
  rw[bGP,aC1,hzs,bGQ,nT,←e1,←e2,←uQ,←uQ]
  have:olds.length+ys.length+(ncap-(olds.length+ys.length))=ncap:=by omega
  rw[this];exact bY _
 ·rcases nY.1 hc with h|h
  ·exact hv1 c h
  ·exact hn1 c h
theorem aHT (x y:Operand) (ats:Array TypeId) (t et:TypeId) (r re:lU) (ho:o.op=.call { callee:=.builtin .append,args:=#[x,y],argTypes:=ats })
  (a0:ats[0]?=some t) (ht:iP P t=some r) (hd:r.d=.slice et) (he:iP P et=some re) (h1:aAT P ats[1]?=true)
  (hx:(aEG re.sz (ρ x)).isSome=true) (hy:vQ h re.sz (ρ y)=some []) (hk:K (ρ x) h):pI P o ρ h K :=
 cI hk λE w ρc R hρ=>by
  obtain⟨news,hsn,hlen,hfn,hLn,hn1,_⟩:=aIC (P:=P) R hy (hρ y)
  have hnil:news=[]:=by have:=hLn.length;simp at this;exact aHR.1 this.symm
  subst hnil
  obtain⟨u,hu,hud,hrun⟩:=cD (w:=w) ht
  obtain rfl:=iF (hud.trans hd)
  have hsize:∀ w,(sizeOf et).run P w=.ok re.sz w:=λw=>gV he
  have dst:∃ (base:Option Addr) (n cap:Nat),ρc x=.slice base n cap/\n<=cap:=by
   have hr:=hρ x
   unfold aEG at hx
   split at hx
   ·rename_i e;rw[e]at hr;generalize ρc x=v at hr ⊢;cases hr;exact⟨none,0,0,rfl,bY _⟩
   ·rename_i e;rw[e]at hr;generalize ρc x=v at hr ⊢
    cases hr with
    |sl0=>exact⟨_,_,_,rfl,eM _⟩
    |sl=>exact⟨_,_,_,rfl,by assumption⟩
   ·cases hx
  obtain⟨base,n,cap,hv,hc⟩:=dst
  obtain⟨t',ht',hu1⟩:=aFX (w:=w) h1
  refine⟨ρc x,?_,hρ x⟩
  have hfn':=hfn w rfl
  have hlen':=hlen w
  simp only[rU]at hfn' hlen'
  rw[qH x y ats ho,hv]
  rcases hu1 with⟨e,hu1⟩|hu1
  ·cases base <;> simp[Builtin.append_,a0,ht',hrun,hsize,hu1,hlen',hc,hfn',storeCells]
  ·cases base <;> simp[Builtin.append_,a0,ht',hrun,hsize,hu1,hlen',hc,hfn',storeCells]
end
def Env.mv (E:Env) (b:Nat) (l:Option (Nat×Nat)) (S:Nat->Prop):Env where
 loc:=λm=>if m=b then l else E.loc m
 fp:=λm c=>if m=b then S c else E.fp m c
 used:=λm=>m=b∨E.used m
theorem Ev.mv {E:Env} {h:aB} {w w':World} (R:Rel E h w) {n:Nat} {x:bU} (hn:h n=some x) (hx:x.live) {b:Nat} (hb:¬E.used b) (l:Option (Nat×Nat)) (S:Nat->Prop) (x':bU)
  (hS:∀ c,S c->E.fp n c∨w.heap.size<=c) (hsize:w.heap.size<=w'.heap.size) (hheap:∀ c,c<w.heap.size->¬E.fp n c->w'.heap[c]?=w.heap[c]?) (hsh:∀ c,c<w.heap.size->w'.shape? c=w.shape? c) (hos:w'.os=w.os) (hout:w'.output=w.output) :
  Ev E h w (E.mv b l S) (aT (aT h n .gone) b x') w':=by
 have hnb:n≠b:=λe=>hb (e▸R.dom n (by simp[hn]))
 refine⟨hsize,λc hc=>⟨hheap c hc.1 (hc.2 n x hn hx),⟨by have:=hc.1;omega,?_⟩⟩,hsh,λm hm=>?_,hos,hout⟩
 ·intro m y hm hy hf
  by_cases e:m=b
  ·subst e
   have hf:S c:=by simpa[Env.mv]using hf
   rcases hS c hf with h1|h1
   ·exact hc.2 n x hn hx h1
   ·have:=hc.1;omega
  ·rw[aD _ _ _ _ e]at hm
   have hf:E.fp m c:=by simpa[Env.mv,e]using hf
   by_cases e2:m=n
   ·subst e2;rw[aI]at hm;obtain rfl:=gO hm;exact hy.elim
   ·rw[aD _ _ _ _ e2]at hm;exact hc.2 m y hm hy hf
 ·have e:m≠b:=λe=>hb (e▸hm)
  exact⟨by simp[Env.mv,e],.inr hm⟩
theorem Rel.mv {E:Env} {h:aB} {w w':World} (R:Rel E h w) {n:Nat} {x:bU} (hn:h n=some x) (hx:x.live) {b:Nat} (hb:¬E.used b) (l:Option (Nat×Nat)) (S:Nat->Prop) (x':bU)
  (hS:∀ c,S c->E.fp n c∨w.heap.size<=c) (hS':∀ c,S c->c<w'.heap.size) (hsize:w.heap.size<=w'.heap.size) (hheap:∀ c,c<w.heap.size->¬E.fp n c->w'.heap[c]?=w.heap[c]?) (hsh:∀ c,c<w.heap.size->w'.shape? c=w.shape? c) (hos:w'.os=w.os) (hout:w'.output=w.output)
  (hO:aD8 (E.mv b l S) (aT (aT h n .gone) b x') w' b x'):Rel (E.mv b l S) (aT (aT h n .gone) b x') w':=by
 have ev:=Ev.mv R hn hx hb l S x' hS hsize hheap hsh hos hout
 have hnb:n≠b:=λe=>hb (e▸R.dom n (by simp[hn]))
 have hcase:∀ m y,aT (aT h n .gone) b x' m=some y->y.live->(m=b/\y=x')∨(m≠b/\m≠n/\h m=some y):=by
  intro m y hm hy
  by_cases e:m=b
  ·subst e;rw[aI]at hm;exact .inl ⟨rfl,(gO hm).symm⟩
  ·rw[aD _ _ _ _ e]at hm
   by_cases e2:m=n
   ·subst e2;rw[aI]at hm;obtain rfl:=gO hm;exact hy.elim
   ·rw[aD _ _ _ _ e2]at hm;exact .inr ⟨e,e2,hm⟩
 refine⟨?_,?_,?_,?_,?_,R.laid.ev ev⟩
 ·obtain⟨N,hN⟩:=R.fin
  exact ⟨max N (b + 1), fun m hm => by rintro (e | e); · omega
                                       · exact hN m aA e⟩
 ·intro m hm
  by_cases e:m=b
  ·exact .inl e
  ·rw[aD _ _ _ _ e]at hm
   by_cases e2:m=n
   ·subst e2;exact .inr (R.dom m (by simp[hn]))
   ·rw[aD _ _ _ _ e2]at hm;exact .inr (R.dom m hm)
 ·intro m y c hm hy hf
  rcases hcase m y hm hy with⟨rfl,rfl⟩|⟨e,e2,hm'⟩
  ·exact hS' c (by simpa[Env.mv]using hf)
  ·have:=R.lt m y c hm' hy (by simpa[Env.mv,e]using hf);omega
 ·intro m y m' y' c hm hy hm' hy' hf hf'
  rcases hcase m y hm hy with⟨rfl,rfl⟩|⟨e,e2,h1⟩ <;> rcases hcase m' y' hm' hy' with⟨rfl,rfl⟩|⟨e',e2',h1'⟩
  ·rfl
  ·have hf:S c:=by simpa[Env.mv]using hf
   have hf':E.fp m' c:=by simpa[Env.mv,e']using hf'
   rcases hS c hf with h2|h2
   ·exact absurd (R.apart n x m' y' c hn hx h1' hy' h2 hf').symm e2'
   ·have:=R.lt m' y' c h1' hy' hf';omega
  ·have hf':S c:=by simpa[Env.mv]using hf'
   have hf:E.fp m c:=by simpa[Env.mv,e]using hf
   rcases hS c hf' with h2|h2
   ·exact absurd (R.apart n x m y c hn hx h1 hy h2 hf).symm e2
   ·have:=R.lt m y c h1 hy hf;omega
  ·exact R.apart m y m' y' c h1 hy h1' hy' (by simpa[Env.mv,e]using hf) (by simpa[Env.mv,e']using hf')
 ·intro m y hm
  by_cases e:m=b
  ·subst e;rw[aI]at hm;obtain rfl:=gO hm;exact hO
  ·rw[aD _ _ _ _ e]at hm
   by_cases e2:m=n
   ·subst e2;rw[aI]at hm;obtain rfl:=gO hm;trivial
   ·rw[aD _ _ _ _ e2]at hm
    refine(R.obj m y hm).ev ev (by simp[Env.mv,e]) (by funext c;simp[Env.mv,e]) λc hy hc=>hheap c (R.lt m y c hm hy hc) λhf=>e2 (R.apart m y n x c hm hy hn hx hc hf)
theorem aJY {α:Type} {a b:List (List α)} {i j:Nat} {x:α} (h:iU (a++b) i j=some x):(i<a.length/\iU a i j=some x)∨(a.length<=i/\iU b (i-a.length) j=some x):=by
 unfold iU at *
 by_cases hi:i<a.length
 ·rw[uP hi]at h;exact .inl ⟨hi,h⟩
 ·rw[yD aA]at h;exact .inr ⟨by omega,h⟩
theorem aM9 {α:Type} {es:List (List α)} {i len k j:Nat} {x:α} (h:iU ((es.drop i).take len) k j=some x):k<len/\iU es (i+k) j=some x:=by
 obtain⟨e,h1,h2⟩:=lC h
 have hlt:k<len:=by have:=(iY.1 h1).1;simp at this;omega
 rw[aJA hlt,aRH]at h1
 exact⟨hlt,by simp[iU,h1,h2]⟩
theorem aR4 {ys:List (List aE)} {i j:Nat} {x:Cell} (h:iU (ys.map (List.map Cell.v)) i j=some x):∃ y,iU ys i j=some y/\x=.v y:=by
 rw[nQ]at h
 obtain⟨y,hy,rfl⟩:=r7.1 h
 exact⟨y,hy,rfl⟩
theorem aYN {E:Env} {h:aB} {w:World} {ys:List (List aE)} {sz:Nat} (hs:∀ e∈ys,e.length=sz) {vs:List Value} (hL:eF E h w ys.flatten vs) (h1:∀ c∈vs,c.oneCell'=true) {i j:Nat} {y:aE} (hy:iU ys i j=some y) :
  ∃ c,vs[i*sz+j]?=some c/\fG E h w y c/\c.oneCell'=true:=by
 have hlt:=vP hs hy
 have hlen:vs.length=ys.length*sz:=by rw[←hL.length,length_flatten ys hs]
 have hv:vs[i*sz+j]?=some (vs[i*sz+j]'aA):=fC aA
 exact⟨_,hv,hL.get _ _ _ (vO ys hs i j y hy) hv,h1 _ (lF _)⟩
theorem yJ {E E':Env} {h h':aB} {w w':World} (ev:Ev E h w E' h' w') {b₀ sz i len:Nat} {es:List (List Cell)} {S:Nat->Prop} (hs:∀ e∈es,e.length=sz) {cv:Nat->Nat->Value} {T:Nat->Nat->Nat->Prop}
  (hT:∀ i j c,T i j c->S c/\c≠b₀) (hD:∀ i j i' j' c,T i j c->T i' j' c->i=i'/\j=j') (hrr:∀ i j x,iU es i j=some x->wP E h w x (cv i j) (T i j)) (hle:i+len<=es.length)
  {ys:List (List aE)} (hsn:∀ e∈ys,e.length=sz) {news:List Value} (hLn:eF E h w ys.flatten news) (hn1:∀ c∈news,c.oneCell'=true)
  {blk o:Nat} {S':Nat->Prop} {cs:Array Value} {ct:TypeId} (hb:S' blk) (hS':∀ c,S c->c≠b₀->S' c/\c≠blk) (hkeep:∀ c,S c->c≠b₀->w'.heap[c]?=w.heap[c]?) (hh:w'.heap[blk]?=some (.cells cs ct (0,0))) (hm:o+(len+ys.length)*sz<=cs.size)
  (hold:∀ k j x,k<len->iU es (i+k) j=some x->cs[o+k*sz+j]?=some (cv (i+k) j)) (hnew:∀ k,k<ys.length*sz->cs[o+len*sz+k]?=news[k]?) :
  aJO E' h' w' blk o sz ((es.drop i).take len++ys.map (List.map .v)) S':=by
 have hlen:((es.drop i).take len).length=len:=by simp;omega
 have hnl:news.length=ys.length*sz:=by rw[←hLn.length,length_flatten ys hsn]
 refine⟨hb,?_,cs,ct,λk j=>if k<len then cv (i+k) j else(news[(k-len)*sz+j]?).getD undef,λk j c=>k<len/\T (i+k) j c,hh,?_,?_,?_,?_,?_⟩
 ·intro e he
  rcases nY.1 he with h1|h1
  ·exact hs e (a4D (aU7 h1))
  ·obtain⟨e',he',rfl⟩:=lZ.1 h1
   simpa using hsn e' he'
 ·simpa[hlen]using hm
 ·intro k j c ⟨_,hc⟩
  obtain⟨h1,h2⟩:=hT _ _ c hc
  exact hS' c h1 h2
 ·intro k j k' j' c ⟨_,hc⟩ ⟨_,hc'⟩
  have:=hD _ _ _ _ c hc hc'
  exact⟨by omega,this.2⟩
 ·intro k j x hx
  rcases aJY hx with⟨h1,h2⟩|⟨h1,h2⟩
  ·obtain⟨h3,h4⟩:=aM9 h2
   simp only[if_pos h3];exact hold k j x h3 h4
  ·rw[hlen]at h1 h2
   obtain⟨y,hy,rfl⟩:=aR4 h2
   simp only[if_neg (show ¬k<len by omega)]
   obtain⟨c,hc,_,_⟩:=aYN hsn hLn hn1 hy
   have hlt:=vP hsn hy
   have:=hnew ((k-len)*sz+j) hlt
   rw[hc]at this ⊢
   rw[aDY,←this]
   congr 1
   have:k*sz=len*sz+(k-len)*sz:=by rw[←uQ];congr 1;omega
   omega
 ·intro k j x hx
  rcases aJY hx with⟨h1,h2⟩|⟨h1,h2⟩
  ·obtain⟨h3,h4⟩:=aM9 h2
   simp only[if_pos h3]
   refine((hrr _ _ _ h4).ev ev λc hc=>?_).mono λc hc=>⟨h3,hc⟩
   obtain⟨h5,h6⟩:=hT _ _ c hc
   exact hkeep c h5 h6
  ·rw[hlen]at h1 h2
   obtain⟨y,hy,rfl⟩:=aR4 h2
   simp only[if_neg (show ¬k<len by omega)]
   obtain⟨c,hc,hr,hone⟩:=aYN hsn hLn hn1 hy
   rw[hc]
   exact .v _ _ _ hone (hr.ev ev)
section
variable {P:Program} {o:Oper} {ρ:Operand->aE} {h:aB} {K:aE->aB->Prop}
theorem aMG (x y:Operand) (ats:Array TypeId) (t et:TypeId) (r re:lU) (n sz i len:Nat) (es:List (List Cell)) (ys:List (List aE)) (ho:o.op=.call { callee:=.builtin .append,args:=#[x,y],argTypes:=ats })
  (a0:ats[0]?=some t) (ht:iP P t=some r) (hd:r.d=.slice et) (he:iP P et=some re) (hz:re.zero.length=re.sz) (hz0:0<re.sz) (h1:aAT P ats[1]?=true)
  (hx:ρ x=.os n sz i len) (hsz:re.sz=sz) (hn:h n=some (.row sz es)) (hle:i+len<=es.length) (hy:vQ h sz (ρ y)=some ys) (hb:(len+ys.length)*re.bytes<=140737488355328) (hmax:len+ys.length<=9223372036854775807)
  (hk:∀ b,h b=none->K (.os b sz 0 (len+ys.length)) (aT (aT h n .gone) b (.row sz ((es.drop i).take len++ys.map (List.map .v))))):pI P o ρ h K:=by
 have hml:maxLen=9223372036854775807:=rfl
 subst hsz
 intro E w ρc R hρ
 obtain⟨news,hsn,hlen,hfn,hLn,hn1,_⟩:=aIC (P:=P) R hy (hρ y)
 have hnl:news.length=ys.length*re.sz:=by rw[←hLn.length,length_flatten ys hsn]
 obtain⟨b,hbu⟩:=R.fresh
 have hK:=hk b (R.none hbu)
 obtain⟨u,hu,hud,hrun⟩:=cD (w:=w) ht
 obtain rfl:=iF (hud.trans hd)
 have hsize:∀ w,(sizeOf et).run P w=.ok re.sz w:=λw=>gV he
 obtain⟨t',ht',hu1⟩:=aFX (w:=w) h1
 obtain⟨z,hzr,hzz⟩:=qF (w:=w) he aMY
 have hzr':∀ w,(zeroValue et).run P w=.ok z w:=by
  intro w'
  obtain⟨z',hzr',hzz'⟩:=qF (w:=w') he aMY
  have:z'=z:=by
   obtain⟨i,u,hi,_⟩:=sS he
   simp only[zeroValue,typeInfo,Sem.run_bind,run_program,Result.andThen_ok,hi,Sem.run_pure]at hzr hzr'
   cases hiz:i.zero with
   |none=>simp[hiz]at hzr
   |some z0=>simp[hiz]at hzr hzr';rw[←hzr,←hzr']
  rw[←this];exact hzr'
 have hzs:z.cells.size=re.sz:=by have:=congrArg List.length hzz;simp[hz]at this;exact this
 have hr:=hρ x
 rw[hx]at hr
 cases hv:ρc x <;> rw[hv]at hr <;> try(cases hr;done)
 cases hr with
 |os0 _ _ hd0 hl0 =>
  have hes:es=[]:=by
   rcases R.obj n _ hn with⟨b0,o0,h0,_⟩|⟨h0,_⟩
   ·rw[hl0]at h0;simp at h0
   ·exact h0
  subst hes
  by_cases hys:ys=[]
  ·subst hys
   have hnn:news=[]:=aHR.1 (by simpa using hnl)
   have hrunA:(execOp ρc o).run P w=.ok (.value (.slice none 0 0)) w:=by
    rw[qH x y ats ho,hv]
    have gF:=hfn w rfl
    have hl0:=hlen w
    simp only[rU]at gF hl0
    rcases hu1 with⟨e,hu1⟩|hu1 <;> simp[Builtin.append_,a0,ht',hrun,hsize,hu1,hl0,gF,storeCells]
   have evm:=Ev.mv R hn trivial hbu none (λ_=>False) (.row re.sz []) (λ_ hf=>hf.elim) (bY _) (λ_ _ _=>rfl) (λ_ _=>rfl) rfl rfl
   have Rm:=Rel.mv R hn trivial hbu none (λ_=>False) (.row re.sz []) (λ_ hf=>hf.elim) (λ_ hf=>hf.elim) (bY _) (λ_ _ _=>rfl) (λ_ _=>rfl) rfl rfl (.inr ⟨rfl,by simp[Env.mv]⟩)
   refine .jR hrunA ⟨_,_,E.mv b none (λ_=>False),hK,?_,?_,?_⟩
   ·exact evm
   ·exact Rm
   ·exact .os0 b re.sz (.inl rfl) (by simp[Env.mv])
  ·have hpos:0<ys.length:=List.length_pos_iff.2 hys
   obtain⟨ncap,d,g1,g2,grun⟩:=aAU (w:=w) (t1:=ats[1]?) ht hd he h1 ats a0 rfl o.type (base:=none) (sLen:=0) (sCap:=0) (n:=ys.length) (v:=ρc y) (olds:=[]) (news:=news) (z:=z) hzr' hlen
    (λw' _=>by simp[Builtin.firstCells]) hfn aA (by simpa using hb) aA
   have hrunA:(execOp ρc o).run P w=.ok (.value (.slice (some ⟨w.heap.size,0,none⟩) (0+ys.length) ncap)) (uS w (.cells (([]++news).toArray++Builtin.zeroCells z.cells (ncap-(0+ys.length))) et) d):=by
    rw[qH x y ats ho,hv,grun];rfl
   have hcs:(([]++news).toArray++Builtin.zeroCells z.cells (ncap-(0+ys.length))).size=ncap*re.sz:=by
    rw[bGP,aC1,hzs,bGQ,nT,hnl,rU,aHQ,←uQ];congr 1;omega
   have evm:=Ev.mv (w':=uS w (.cells (([]++news).toArray++Builtin.zeroCells z.cells (ncap-(0+ys.length))) et) d) R hn trivial hbu (some (w.heap.size,0)) (λc=>c=w.heap.size) (.row re.sz ((([]:List (List Cell)).drop 0).take 0++ys.map (List.map .v))) (λc hc=>.inr aA) aX8
    (λc hc _=>nP _ _ _ c hc) (λc hc=>by simp only[World.shape?,nP _ _ _ c hc]) rfl rfl
   have Rm:=Rel.mv (w':=uS w (.cells (([]++news).toArray++Builtin.zeroCells z.cells (ncap-(0+ys.length))) et) d) R hn trivial hbu (some (w.heap.size,0)) (λc=>c=w.heap.size) (.row re.sz ((([]:List (List Cell)).drop 0).take 0++ys.map (List.map .v))) (λc hc=>.inr aA) (λc hc=>by rw[oA];omega) aX8
    (λc hc _=>nP _ _ _ c hc) (λc hc=>by simp only[World.shape?,nP _ _ _ c hc]) rfl rfl
    (.inl ⟨w.heap.size,0,by simp[Env.mv],by
     have hfp:(E.mv b (some (w.heap.size,0)) (λc=>c=w.heap.size)).fp b=(λc=>c=w.heap.size):=by funext c;simp[Env.mv]
     rw[hfp]
     exact yJ evm (b₀:=w.heap.size) (i:=0) (len:=0) (es:=[]) (S:=λ_=>False) (cv:=λ_ _=>undef) (T:=λ_ _ _=>False) eC (λ_ _ _ hf=>hf.elim) (λ_ _ _ _ _ hf=>hf.elim) (λi j x hx=>by simp[iU]at hx) eC hsn hLn hn1 rfl (λ_ hf=>hf.elim) (λ_ hf=>hf.elim) (vN _ _ _)
      (by rw[hcs];simp only[aHQ];exact a38 _ aA) (λk j x hk=>by omega) (λk hk=>by
       simp only[aHQ,a37]
       rw[bGR vL];simp)⟩)
   refine .jR hrunA ⟨_,_,_,hK,evm,Rm,?_⟩
   have:=fG.os (E:=E.mv b (some (w.heap.size,0)) (λc=>c=w.heap.size)) (h:=aT (aT h n .gone) b (.row re.sz ((([]:List (List Cell)).drop 0).take 0++ys.map (List.map .v)))) (w:=uS w (.cells (([]++news).toArray++Builtin.zeroCells z.cells (ncap-(0+ys.length))) et) d)
    b re.sz 0 (0+ys.length) w.heap.size 0 ncap et (ncap*re.sz) (.inl rfl) (by simp[Env.mv]) aA g2 (by simp only[World.shape?,vN,hcs]) eC
   simpa using this
 |os _ _ _ _ b₀ o₀ cap' tt mm hd0 hl0 hlc hcm hsh hmm =>
  rename_i cap
  obtain⟨b1,o1,hl1,hbS,hs,cur,ct,cv,T,hh,hmr,hT,hD,hc,hrr⟩:=aAR R hn (.inr ⟨_,hl0⟩)
  rw[hl0]at hl1
  obtain⟨rfl,rfl⟩:=aOI (gO hl1)
  have hcsz:cur.size=mm:=by rw[nB hh]at hsh;exact(aOI (gO hsh)).2
  have hb0:b₀<w.heap.size:=aJQ hsh
  have hfplt:∀ c,E.fp n c->c<w.heap.size:=λc hc=>R.lt n _ c hn trivial hc
  have hrow:∀ k j,k<len->j<re.sz->∃ y,iU es (i+k) j=some y:=λk j hk hj=>by
   have hlt:i+k<es.length:=by omega
   have hel:=hs es[i+k] (lF hlt)
   exact⟨es[i+k][j],by simp[iU,fC hlt,fC (show j<es[i+k].length by omega)]⟩
  by_cases hroom:len+ys.length<=cap
  ·
   have hbase:(⟨b₀,o₀+i*re.sz,none⟩:Addr).add (len*re.sz)=⟨b₀,o₀+i*re.sz+len*re.sz,none⟩:=l8 _ _ _
   have hspace:o₀+i*re.sz+len*re.sz+news.length<=cur.size:=by
    have:o₀+(i+(len+ys.length))*re.sz<=o₀+(i+cap)*re.sz:=by
     have:=a38 re.sz (show i+(len+ys.length)<=i+cap by omega)
     omega
    rw[hnl];simp only[uQ]at *;omega
   have hst:=run_storeCells_at P b₀ (o₀+i*re.sz+len*re.sz) ct news 0 cur w hh (by simpa using hspace) hn1
   simp only[aU4]at hst
   generalize hcs':(cur.toList.take (o₀+i*re.sz+len*re.sz)++news++cur.toList.drop (o₀+i*re.sz+len*re.sz+news.length)).toArray=cs' at hst
   have hcs'sz:cs'.size=cur.size:=by rw[←hcs'];simp;omega
   have hrunA:(execOp ρc o).run P w=.ok (.value (.slice (some ⟨b₀,o₀+i*re.sz,none⟩) (len+ys.length) cap)) (w.setRow b₀ cs'):=by
    rw[qH x y ats ho,hv]
    have gF:=hfn w rfl
    rcases hu1 with⟨e,hu1⟩|hu1 <;> simp[Builtin.append_,a0,ht',hrun,hsize,hu1,hlen,gF,hroom,hbase,hst]
   have hheap':(w.setRow b₀ cs').heap[b₀]?=some (.cells cs' ct (0,0)):=setRow_heap w b₀ cur cs' ct (0,0) hh
   have hoth:∀ c,c≠b₀->(w.setRow b₀ cs').heap[c]?=w.heap[c]?:=λc hc=>setRow_other w b₀ c cs' hc
   have hshape:∀ c,c<w.heap.size->(w.setRow b₀ cs').shape? c=w.shape? c:=λc _=>by
    by_cases e:c=b₀
    ·subst e;rw[nB hheap',nB hh,hcs'sz]
    ·simp only[World.shape?,hoth c e]
   have hkp:∀ c,c<w.heap.size->¬E.fp n c->(w.setRow b₀ cs').heap[c]?=w.heap[c]?:=λc _ hf=>hoth c λe=>hf (e▸hbS)
   have evm:=Ev.mv (w':=w.setRow b₀ cs') R hn trivial hbu (some (b₀,o₀+i*re.sz)) (E.fp n) (.row re.sz ((es.drop i).take len++ys.map (List.map .v))) (λc hc=>.inl hc) eC hkp hshape rfl rfl
   have hfp:(E.mv b (some (b₀,o₀+i*re.sz)) (E.fp n)).fp b=E.fp n:=by funext c;simp[Env.mv]
   have Rm:=Rel.mv (w':=w.setRow b₀ cs') R hn trivial hbu (some (b₀,o₀+i*re.sz)) (E.fp n) (.row re.sz ((es.drop i).take len++ys.map (List.map .v))) (λc hc=>.inl hc) (λc hc=>by rw[setRow_size];exact hfplt c hc) eC hkp hshape rfl rfl
    (.inl ⟨b₀,o₀+i*re.sz,by simp[Env.mv],by
     rw[hfp]
     refine yJ evm (b₀:=b₀) hs hT hD hrr hle hsn hLn hn1 hbS (λc hc hne=>⟨hc,hne⟩) (λc _ hne=>hoth c hne) hheap' ?_ ?_ ?_
     ·rw[hcs'sz];rw[hnl]at hspace;simp only[uQ]at *;omega
     ·intro k j x hk hx
      have hj:=aIA hs hx
      have hin:=aCY hk hj
      rw[←hcs']
      simp only[aU8]
      rw[aOJ,uP vL,aJA aA,al5]
      rw[←hc _ _ _ hx];congr 1;simp only[uQ];omega
     ·intro k hk
      rw[←hcs']
      simp only[aU8]
      have hl1:(cur.toList.take (o₀+i*re.sz+len*re.sz)).length=o₀+i*re.sz+len*re.sz:=by simp;omega
      rw[aOJ,yD (by rw[hl1];omega),hl1,uP aA]
      congr 1;omega⟩)
   refine .jR hrunA ⟨_,_,_,hK,evm,Rm,?_⟩
   have:=fG.os (E:=E.mv b (some (b₀,o₀+i*re.sz)) (E.fp n)) (h:=aT (aT h n .gone) b (.row re.sz ((es.drop i).take len++ys.map (List.map .v)))) (w:=w.setRow b₀ cs')
    b re.sz 0 (len+ys.length) b₀ (o₀+i*re.sz) cap ct cur.size (.inl rfl) (by simp[Env.mv]) hroom hcm (by rw[nB hheap',hcs'sz]) (by rw[hcsz];simp only[uQ]at *;omega)
   simpa using this
  ·
   have holds:∀ k,k<len*re.sz->∃ y,iU es (i+k / re.sz) (k%re.sz)=some y:=λk hk=>by
    have h1:k / re.sz<len:=by rw[Nat.div_lt_iff_lt_mul hz0];exact hk
    exact hrow _ _ h1 (Nat.mod_lt _ hz0)
   generalize hod:(List.range (len*re.sz)).map (λk=>cv (i+k / re.sz) (k%re.sz))=olds
   have hol:olds.length=len*re.sz:=by rw[←hod];simp
   have hog:∀ k,k<len*re.sz->olds[k]?=some (cv (i+k / re.sz) (k%re.sz)):=λk hk=>by rw[←hod,sO,al8 hk];rfl
   obtain⟨ncap,d,g1,g2,grun⟩:=aAU (w:=w) (t1:=ats[1]?) ht hd he h1 ats a0 rfl o.type (base:=some ⟨b₀,o₀+i*re.sz,none⟩) (sLen:=len) (sCap:=cap) (n:=ys.length) (v:=ρc y) (olds:=olds) (news:=news) (z:=z) hzr' hlen
    (λw' hw'=>run_firstCells_some w' _ _ _ _ _ olds hol λk v hv=>by
     have hk:k<len*re.sz:=by have:=(iY.1 hv).1;omega
     rw[hog k hk]at hv
     obtain rfl:=gO hv
     obtain⟨y,hy⟩:=holds k hk
     rw[aC0 hw',l8]
     simp only[World.cell?,hh,bGO,aOH,if_false]
     rw[←hc _ _ _ hy];congr 1
     have:=a9W k re.sz
     rw[aJB]at this
     simp only[uQ];omega) hfn aA hb aA
   generalize hcs':(olds++news).toArray++Builtin.zeroCells z.cells (ncap-(len+ys.length))=cs' at grun
   have hcs'sz:cs'.size=ncap*re.sz:=by
    rw[←hcs',bGP,aC1,hzs,bGQ,nT,hnl,hol,←uQ,←uQ];congr 1;omega
   have hrunA:(execOp ρc o).run P w=.ok (.value (.slice (some ⟨w.heap.size,0,none⟩) (len+ys.length) ncap)) (uS w (.cells cs' et) d):=by
    rw[qH x y ats ho,hv,grun];rfl
   have evm:=Ev.mv (w':=uS w (.cells cs' et) d) R hn trivial hbu (some (w.heap.size,0)) (λc=>c=w.heap.size∨(E.fp n c/\c≠b₀)) (.row re.sz ((es.drop i).take len++ys.map (List.map .v)))
    (λc hc=>by rcases hc with h|h;exact .inr aA;exact .inl h.1) aX8 (λc hc _=>nP _ _ _ c hc) (λc hc=>by simp only[World.shape?,nP _ _ _ c hc]) rfl rfl
   have hfp:(E.mv b (some (w.heap.size,0)) (λc=>c=w.heap.size∨(E.fp n c/\c≠b₀))).fp b=(λc=>c=w.heap.size∨(E.fp n c/\c≠b₀)):=by funext c;simp[Env.mv]
   have Rm:=Rel.mv (w':=uS w (.cells cs' et) d) R hn trivial hbu (some (w.heap.size,0)) (λc=>c=w.heap.size∨(E.fp n c/\c≠b₀)) (.row re.sz ((es.drop i).take len++ys.map (List.map .v)))
    (λc hc=>by rcases hc with h|h;exact .inr aA;exact .inl h.1) (λc hc=>by rw[oA];rcases hc with h|h;omega;have:=hfplt c h.1;omega) aX8 (λc hc _=>nP _ _ _ c hc) (λc hc=>by simp only[World.shape?,nP _ _ _ c hc]) rfl rfl
    (.inl ⟨w.heap.size,0,by simp[Env.mv],by
     rw[hfp]
     refine yJ evm (b₀:=b₀) hs hT hD hrr hle hsn hLn hn1 (.inl rfl) (λc hc hne=>⟨.inr ⟨hc,hne⟩,by have:=hfplt c hc;omega⟩) (λc hc _=>nP _ _ _ c (hfplt c hc)) (vN _ _ _) ?_ ?_ ?_
     ·rw[hcs'sz,aHQ];exact a38 _ g1
     ·intro k j x hk hx
      have hj:=aIA hs hx
      have hin:=aCY hk hj
      rw[←hcs',bGR vL]
      simp only[aU8,aHQ]
      rw[uP aA,hog _ hin]
      congr 2
      ·rw[aJB,Nat.mul_add_div hz0,a9V hj];rfl
      ·rw[aJB,Nat.mul_add_mod,Nat.mod_eq_of_lt hj]
     ·intro k hk
      rw[←hcs',bGR vL]
      simp only[aU8,aHQ]
      rw[yD aA,hol]
      congr 1;omega⟩)
   refine .jR hrunA ⟨_,_,_,hK,evm,Rm,?_⟩
   have:=fG.os (E:=E.mv b (some (w.heap.size,0)) (λc=>c=w.heap.size∨(E.fp n c/\c≠b₀))) (h:=aT (aT h n .gone) b (.row re.sz ((es.drop i).take len++ys.map (List.map .v)))) (w:=uS w (.cells cs' et) d)
    b re.sz 0 (len+ys.length) w.heap.size 0 ncap et (ncap*re.sz) (.inl rfl) (by simp[Env.mv]) g1 g2 (by simp only[World.shape?,vN,hcs'sz]) eC
   simpa using this
end
end Go.Hl

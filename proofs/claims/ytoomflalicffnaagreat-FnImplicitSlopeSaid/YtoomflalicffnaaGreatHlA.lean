/-
  Contracts of functions and laws of the layer over the walk.
-/
import Derived.WalkKit
import Derived.IntWalk
namespace Go.Hl
set_option linter.unusedVariables false
set_option linter.unusedSimpArgs false
set_option linter.defProp false
def p5:=@List.map_cons
def v7:=@List.map_nil
def nI:=@List.take_of_length_le
def gG:=@List.getD_eq_getElem?_getD
def eY:=@List.getElem?_eq_getElem
def kM:=@List.getElem_mem
def al6:=@Array.getElem?_toList
def rS:=@List.mem_of_getElem?
def qR:=@List.getElem?_map
def al9:=@List.getElem?_range
def gD:=@List.length_append
def wI:=@List.mem_append_right
def zC:=@List.mem_append_left
def gT:=@List.length_map
def bX:=@Nat.le_refl
def tT:=@List.length_cons
def iO:=@List.getElem?_eq_some_iff
def aKW:=@Nat.le_trans
def aPZ:=@Array.getElem?_eq_some_iff
def gH:=@Option.some.inj
def aZ4:=@List.getElem?_cons_zero
def aZ5:=@Option.bind_some
def a7K:=@List.flatten_cons
def a2A:=@Nat.zero_mul
def aGG:=@Nat.zero_add
def tU:=@List.getElem?_append_left
def v8:=@List.getElem?_append_right
def tV:=@Nat.add_mul
def lA:=@List.mem_map
def q0:=@Option.map_eq_some_iff
def a7L:=@List.getElem?_of_mem
def uX:=@List.all_eq_true
def aM9:=@Bool.false_eq_true
def aTR:=@Nat.add_zero
def aBT:=@Option.map_some
def aZ6:=@Option.some.injEq
def aHV:=@List.getElem?_take_of_lt
def aHW:=@List.getElem?_drop
def aNA:=@Prod.mk.inj
def qT:=@List.getElem?_set_self
def rT:=@List.getElem?_set_ne
def a2B:=@Nat.mul_le_mul_right
def a2C:=@Nat.succ_mul
def aHX:=@Nat.mul_comm
def a7M:=@Nat.div_eq_of_lt
def iK:=@Ne.symm
def wJ:=@List.mem_or_eq_of_mem_set
def aTS:=@Array.getElem?_setIfInBounds_ne
def l7:=@Bool.and_eq_true
def mW:=@List.mem_cons
def aTT:=@Nat.add_assoc
def a2D:=@Option.map_none
def a2E:=@Int.toNat_zero
def a7N:=@List.take_zero
def a2F:=@Nat.sub_zero
def sU:=@Nat.sub_self
def sB:=@List.length_nil
def a2G:=@List.drop_eq_nil_of_le
def aZ7:=@List.mem_of_mem_take
def aZ8:=@List.mem_of_mem_drop
def aGH:=@List.replicate_succ
def aHY:=@Array.getElem?_eq_getElem
def aZ9:=@List.eq_of_mem_replicate
def v9:=@List.mem_cons_of_mem
def a0A:=@Nat.eq_zero_or_pos
def tW:=@List.length_set
def a7O:=@Nat.div_add_mod
def aGI:=@List.length_replicate
def aGJ:=@List.length_eq_zero_iff
def bEH:=@Option.isSome_none
def oW:=@List.mem_append
def bEI:=@Array.size_append
def bEJ:=@List.size_toArray
def eF:=@Nat.zero_le
def aEO:=@Option.getD_some
def bEK:=@Array.getElem?_append_left
def aTU:=@List.getElem?_toArray
def aNB:=@List.append_assoc
def a0B:=@Bool.not_eq_true'
def aEP:=@Int.le_refl
def aNC:=@List.getElem?_eq_none
def a7P:=@Bool.false_and
def aKX:=@Bool.false_or
def zD:=@List.mem_cons_self
def a2H:=@Bool.not_true
def a2I:=@List.any_eq_true
def a7Q:=@List.contains_iff_mem
def aGK:=@List.mem_range
def zE:=@List.map_congr_left
def a2J:=@Array.all_eq_true_iff_forall_mem
def a0C:=@Classical.byContradiction
def dS:=@List.nil_append
def aTV:=@List.cons_append
def fL:=@List.toList_toArray
def dP:=@List.append_nil
def tX:=@Int.toNat_natCast
def aP0:=@List.drop_zero
def bEL:=@List.take_succ_cons
def mX:=@List.length_take
def bEM:=@List.take_append_drop
def a2K:=@List.eq_nil_of_length_eq_zero
def jF:=@List.take_succ_eq_append_getElem
def lT:=@List.map_append
def aFM:=@List.sum_cons
def jL:=@List.mem_singleton
def bB3:=@List.findIdx?_eq_some_iff_getElem
def wK:=@List.nodup_append
def aFN:=@List.nodup_cons
def yS:=@List.map_map
def aHZ:=@List.map_set
def tY:=@List.getElem?_replicate
def aV0:=@List.set_cons_zero
def bT:=@Nat.lt_or_ge
def nL:=@List.take_length
def bU:=@Nat.lt_irrefl
def aH0:=@Nat.lt_succ_iff_lt_or_eq
def cT:=@Int.lt_irrefl
def wL:=@Int.tmod_eq_emod_of_nonneg
def bD:=@Nat.zero_lt_one
def wM:=@List.mem_iff_getElem
def aH1:=@List.mem_replicate
def aLM:=@Int.pow_zero
def aP1:=@Int.pow_succ
def aLN:=@Int.mul_emod
def aP2:=@Int.one_mul
def aLO:=@Int.mul_comm
def aV1:=@Int.mul_assoc
def aP3:=@Int.mul_one
def aV2:=@Int.tdiv_eq_ediv_of_nonneg
def aV3:=@Int.emod_eq_of_lt
def qV:=@Nat.le_succ
def u4:=@List.ext_getElem
def aP4:=@List.not_mem_nil
def rU:=@List.getElem_map
def aP5:=@Nat.not_lt_zero
def aV4:=@List.range_succ
def aLP:=@List.prefix_refl
def a2L:=@List.prefix_append
def nA:=@List.length_singleton
def wN:=@Nat.lt_succ_self
def aV5:=@List.getElem?_zipWith
def c8:=@Option.toArray_none
def dA:=@Option.toArray_some
def dB:=@List.filterMap_cons
def dC:=@List.filterMap_nil
def dD:=@List.elem_cons_self
def aP6:=@Nat.pow_succ
def aV6:=@List.getElem?_inj
def a2M:=@List.replicate_succ'
def aP7:=@Nat.mul_one
def a2N:=@List.length_range
def aP8:=@List.map_singleton
def aCS:=@List.getElem_set
def aLQ:=@List.getElem_range
def a2O:=@List.nodup_iff_pairwise_ne
def a2P:=@List.pairwise_iff_getElem
def a2Q:=@List.getElem_append_left
def a2R:=@List.getElem_append_right
def aV7:=@List.map_eq_nil_iff
theorem uY {p:Prop} (h:p:=by repeat'(first|exact aBU.nil|refine aBU.cons ?_ ?_|exact Sub.refl _|(rw[aD.aZ];exact Sub.refl _)|exact Sub.a7R rfl rfl rfl|exact Sub.ip (aV8 aA) dG|exact Sub.a7R (aV8 aA) rfl rfl|exact Sub.ip (by simp[*]) dG|exact Sub.a7R (by simp[*]) (by rfl) (by rfl))):p:=h
theorem bEN {p:Prop} (h:p:=by repeat'(first|exact p7 _ _|refine sV (by simp only[gB,↓reduceIte,eq_self,if_true,gI,kN,gJ,nB,kO,nC]) ?_|refine nV aCT ?_)):p:=h
theorem bEO {p:Prop} (h:p:=by repeat'(first|exact p7 _ _|refine sV (by simp only[gB,↓reduceIte,eq_self,if_true,gI,gJ,p5,v7]) ?_|refine nV aCT ?_)):p:=h
theorem bKK {p:Prop} (h:p:=by refine⟨by simp[cR,b6,aD.aZ,hk],by repeat'(with_reducible first|exact aB.le_refl _|refine(bM nW).2 ?_),by simp⟩):p:=h
theorem a7S {p:Prop} (h:p:=by refine⟨by simp[cR,b6,aG.aZ],by repeat'(with_reducible first|exact aB.le_refl _|refine(bM nW).2 ?_),by simp⟩):p:=h
theorem bKL {p:Prop} (h:p:=by repeat'(first|exact p7 _ _|refine sV (by simp only[gB,↓reduceIte,eq_self,if_true,iP,iQ]) ?_|refine nV aCT ?_)):p:=h
theorem bKM {p:Prop} (h:p:=by simp only[l5,aE.fG];rw[if_pos dG,nI sP];rfl):p:=h
theorem bKN {p:Prop} (h:p:=by have:=(hok.1 z).2 k hlt;rwa [show jG e.aT k vars=vars from if_neg aA]at this):p:=h
theorem a7T {p:Prop} (h:p:=by rw[gG,eY aA];exact kM _):p:=h
theorem nW {p:Prop} (h:p:=by first|assumption|exact And.right lB|exact aP9.2 lB):p:=h
theorem a2S {p:Prop} (h:p:=by rw[gG,eY hol];exact kM _):p:=h
theorem aV9 {p:Prop} (h:p:=by rw[aC _ _ _ _ l8,aC _ _ _ _ l9,aC _ _ _ _ xM];exact zs):p:=h
theorem aWA {p:Prop} (h:p:=by rw[aC _ _ _ _ p8,aC _ _ _ _ p9,aC _ _ _ _ aGW];exact zg):p:=h
theorem bB4 {p:Prop} (h:p:=by rw[HZ,aC _ _ _ _ c1,aC _ _ _ _ c2,aC _ _ _ _ c3];exact z4):p:=h
theorem bB5 {p:Prop} (h:p:=by rcases hn with hn|hn;exact .inr (.inl hn);exact .inr (.inr (.inl hn))):p:=h
theorem bB6 {p:Prop} (h:p:=by rw[←al6]at hk;exact rS hk):p:=h
theorem bB7 {p:Prop} (h:p:=by rw[mulL,qR,al9 aA];rfl):p:=h
theorem aWB {p:Prop} (h:p:=by rw[aC _ _ _ _ aAU,aC _ _ _ _ aCU];exact z19):p:=h
theorem aWC {p:Prop} (h:p:=by rw[aC _ _ _ _ l8,aC _ _ _ _ l9];exact zs):p:=h
theorem aWD {p:Prop} (h:p:=by rw[aC _ _ _ _ a7U,aC _ _ _ _ sW,aI]):p:=h
theorem aWE {p:Prop} (h:p:=by rw[aC _ _ _ _ p8,aC _ _ _ _ p9];exact zg):p:=h
theorem bB8 {p:Prop} (h:p:=by rw[r3.1,F.kids];exact F.oks _ (rS F.out)):p:=h
theorem bB9 {p:Prop} (h:p:=by rw[a2.1 rr.toNat (by unfold qS at r3;omega) g2];exact hz):p:=h
theorem aCT {p:Prop} (h:p:=by first|exact .inr lB|exact .inl dG):p:=h
theorem a2V {p:Prop} (h:p:=by rw[hvl,f5];exact F.oks _ (rS F.out)):p:=h
theorem bCA {p:Prop} (h:p:=by rw[gD];show env.length+1<=_;omega):p:=h
theorem aWF {p:Prop} (h:p:=by rw[OV.bY];exact wI _ hp):p:=h
theorem aWG {p:Prop} (h:p:=by rw[OV.bY];exact zC _ hp):p:=h
theorem aQA {p:Prop} (h:p:=by unfold e8 at hlen;simp at hlen;omega):p:=h
theorem aQB {p:Prop} (h:p:=by rw[cO];have:=hor.length;omega):p:=h
theorem aWH {p:Prop} (h:p:=by rw[gT];exact bX _):p:=h
theorem aCV {p:Prop} (h:p:=by rw[u5 _ hc];exact o6 _ _ hc):p:=h
theorem aLR {p:Prop} (h:p:=by intro e;rw[e]at hz;simp at hz;omega):p:=h
theorem aWI {p:Prop} (h:p:=by rw[aC _ _ _ _ l9];exact hB1):p:=h
theorem aWJ {p:Prop} (h:p:=by rw[aC _ _ _ _ p9];exact hB2):p:=h
theorem aWK {p:Prop} (h:p:=by rw[aC _ _ _ _ aAU];exact z19):p:=h
theorem aWL {p:Prop} (h:p:=by rw[aC _ _ _ _ aCW];exact z18):p:=h
theorem aLS {p:Prop} (h:p:=by rw[aC _ _ _ _ sW,aI]):p:=h
theorem aWN {p:Prop} (h:p:=by rw[aC _ _ _ _ qA,aI]):p:=h
theorem aWO {p:Prop} (h:p:=by rw[rA];exact bX _):p:=h
theorem a2W {p:Prop} (h:p:=by split;omega;split;omega;exact hi):p:=h
theorem a2X {p:Prop} (h:p:=by rw[hv.1,f9.2.2];exact F.oks x hx):p:=h
theorem aCX {p:Prop} (h:p:=by rw[aO];exact aB.le_refl _):p:=h
theorem aH2 {p:Prop} (h:p:=by rw[gD];exact o1):p:=h
theorem aFP {p:Prop} (h:p:=by simp[cR,b6,aB.le_refl]):p:=h
theorem a2Y {p:Prop} (h:p:=by rw[qR,ef];rfl):p:=h
theorem aWP {p:Prop} (h:p:=by have:=hm2 bO;omega):p:=h
theorem a2Z {p:Prop} (h:p:=by simp only[aD.aT];omega):p:=h
theorem a20 {p:Prop} (h:p:=by rw[G.hl];have:=G.hn;omega):p:=h
theorem aWQ {p:Prop} (h:p:=by have:=aD.aLT hy;omega):p:=h
theorem aCY {p:Prop} (h:p:=by unfold bZ at hin;omega):p:=h
theorem aQC {p:Prop} (h:p:=by rw[tT];omega):p:=h
theorem a21 {p:Prop} (h:p:=by simp[jB,j6,jN]):p:=h
theorem aWR {p:Prop} (h:p:=by simp only[Low,Dig];omega):p:=h
theorem a22 {p:Prop} (h:p:=by simpa[Env.add,e]using hb):p:=h
theorem aQD {p:Prop} (h:p:=by rw[wO];exact hab):p:=h
theorem wP {p:Prop} (h:p:=by unfold aFQ iW;omega):p:=h
theorem aQE {p:Prop} (h:p:=by rw[hop aA,h1]):p:=h
theorem aWT {p:Prop} (h:p:=by rw[lC];exact hi):p:=h
theorem aH3 {p:Prop} (h:p:=by simp[jB,j6]):p:=h
theorem aWU {p:Prop} (h:p:=by have:=ht.lens;omega):p:=h
theorem aFR {p:Prop} (h:p:=by rw[←hV];exact aH4):p:=h
theorem aWV {p:Prop} (h:p:=by rw[nM];omega):p:=h
theorem aWW {p:Prop} (h:p:=by rw[nb.2.1,na.2.1]):p:=h
theorem aLU {p:Prop} (h:p:=by rw[na.2.1];omega):p:=h
theorem aLV {p:Prop} (h:p:=by rw[hown.1];omega):p:=h
theorem aWX {p:Prop} (h:p:=by rw[hicv.1];omega):p:=h
theorem aWY {p:Prop} (h:p:=by rw[hDq.1,hicv.1]):p:=h
theorem nD {p:Prop} (h:p:=by unfold iW;omega):p:=h
theorem qB {p:Prop} (h:p:=by rw[sA.1];omega):p:=h
theorem wQ {p:Prop} (h:p:=by rw[sA.1,uZ.1]):p:=h
theorem aFS {p:Prop} (h:p:=by rw[hsk.1];omega):p:=h
theorem aFT {p:Prop} (h:p:=by rw[hBq.1];omega):p:=h
theorem aWZ {p:Prop} (h:p:=by simp[aX.aZ]):p:=h
theorem aW0 {p:Prop} (h:p:=by rw[hpm.1,hiq.1]):p:=h
theorem aW1 {p:Prop} (h:p:=by rw[hiq.1];omega):p:=h
theorem aW2 {p:Prop} (h:p:=by rw[hBc.1,hBq.1]):p:=h
theorem aCZ {p:Prop} (h:p:=by simpa using hv):p:=h
theorem aQF {p:Prop} (h:p:=by simpa using hx):p:=h
theorem aQG {p:Prop} (h:p:=by simpa using hl):p:=h
theorem aQH {p:Prop} (h:p:=by simp[bF]):p:=h
theorem sP {p:Prop} (h:p:=by simp;omega):p:=h
theorem lB {p:Prop} (h:p:=by assumption):p:=h
theorem bO {p:Prop} (h:p:=by decide):p:=h
theorem aA {p:Prop} (h:p:=by omega):p:=h
theorem wR {p:Prop} (h:p:=by grind):p:=h
theorem dG {p:Prop} (h:p:=by simp):p:=h
theorem pjx {a b:Prop} (h:a) (e:a->b:=by intro q;repeat first|exact q|exact q.1|replace q:=q.2):b:=e h
theorem cW {a b:Nat} (h:¬a=b):¬a=b/\(a=b)=False/\(b=a)=False/\¬b=a:=⟨h,eq_false h,eq_false λe=>h e.symm,λe=>h e.symm⟩
inductive aE where
 |any
 |bool (b:Bool)
 |int (k:IntKind) (n:Int)
 |str (s:List UInt8)
 |jU
 |bS
 |sQ
 |lU
 |oX
 |sl (sz:Nat) (es:List (List aE)) (tight:Bool)
 |ip (sz:Nat) (es:List (List aE)) (i off:Nat)
 |os (n sz i len:Nat)
 |op (n sz i off:Nat)
 |agg (cs:List aE)
 |gU (cs:List aE)
 |fn (f:Fn) (first cap:List aE)
 |iface (t:TypeId) (v:aE)
 |mp (n:Nat)
 deriving Inhabited
inductive Cell where
 |v (x:aE)
 |own (sz:Nat) (es:List (List Cell))
 deriving Inhabited
inductive bV where
 |row (sz:Nat) (es:List (List Cell))
 |map (kt et:TypeId) (l:List (aE×aE))
 |raw (t:TypeId) (cs:Array Value)
 |abs (Q:Nat->(Nat->Prop)->World->Prop)
 |gone
 deriving Inhabited
abbrev aB:=Nat->Option bV
def bV.live:bV->Prop
 | .gone=>False
 | _=>True
def aU (h:aB) (n:Nat) (o:bV):aB:=λm=>if m=n then some o else h m
structure Env where
 loc:Nat->Option (Nat×Nat)
 fp:Nat->Nat->Prop
 used:Nat->Prop
def nX (E:Env) (h:aB) (w:World) (b:Nat):Prop :=
 b<w.heap.size/\∀ n o,h n=some o->o.live->¬E.fp n b
def iJ {α:Type} (es:List (List α)) (i j:Nat):Option α:=(es[i]?).bind (·[j]?)
theorem kP {α:Type} {es:List (List α)} {i j:Nat} {x:α} (h:iJ es i j=some x):∃ e,es[i]?=some e/\e[j]?=some x:=by
 unfold iJ at h
 cases he:es[i]? with
 |none=>simp[he]at h
 |some e=>exact⟨e,rfl,by simpa[he]using h⟩
theorem a23 {α:Type} {es:List (List α)} {i j:Nat} {x:α} (h:iJ es i j=some x):i<es.length:=by
 obtain⟨e,he,_⟩:=kP h
 exact(iO.1 he).1
theorem aGX {α:Type} {es:List (List α)} {sz i j:Nat} {x:α} (hs:∀ e∈es,e.length=sz) (h:iJ es i j=some x):j<sz:=by
 obtain⟨e,he,hj⟩:=kP h
 have:=hs e (rS he)
 have:=(iO.1 hj).1
 omega
inductive fC (E:Env) (h:aB) (w:World):aE->Value->Prop where
 |any (v:Value):fC E h w .any v
 |bool (b:Bool):fC E h w (.bool b) (.bool b)
 |int (k:IntKind) (n:Int):fC E h w (.int k n) (.int k n)
 |str (s:List UInt8) (hl:s.length<=maxLen):fC E h w (.str s) (.string ⟨s.toArray⟩)
 |jU:fC E h w .jU (.pointer none)
 |bS:fC E h w .bS (.slice none 0 0)
 |sQ:fC E h w .sQ .nilFunc
 |lU:fC E h w .lU .nilIface
 |oX:fC E h w .oX (.map none)
 |sl0 (sz:Nat) (t:Bool) (a:Option Addr) (cap:Nat) (ht:t=true->cap=0) (hmax:cap<=maxLen) (ha:True):fC E h w (.sl sz [] t) (.slice a 0 cap)
 |sl (sz:Nat) (es:List (List aE)) (t:Bool) (b o cap:Nat) (cv:Nat->Nat->Value) (hi:nX E h w b) (hcap:es.length<=cap) (hmax:cap<=maxLen)
   (ht:t=true->cap=es.length) (hs:∀ e∈es,e.length=sz)
   (hc:∀ i j x,iJ es i j=some x->w.cell? ⟨b,o+i*sz+j,none⟩=some (cv i j)) (h1:∀ i j x,iJ es i j=some x->(cv i j).oneCell'=true)
   (hr:∀ i j x,iJ es i j=some x->fC E h w x (cv i j)):fC E h w (.sl sz es t) (.slice (some ⟨b,o,none⟩) es.length cap)
 |ip (sz:Nat) (es:List (List aE)) (i off b o:Nat) (cv:Nat->Nat->Value) (hi:nX E h w b) (hs:∀ e∈es,e.length=sz)
   (hc:∀ i j x,iJ es i j=some x->w.cell? ⟨b,o+i*sz+j,none⟩=some (cv i j)) (h1:∀ i j x,iJ es i j=some x->(cv i j).oneCell'=true)
   (hr:∀ i j x,iJ es i j=some x->fC E h w x (cv i j)):fC E h w (.ip sz es i off) (.pointer (some ⟨b,o+i*sz+off,none⟩))
 |os (n sz i len b o cap:Nat) (t:TypeId) (m:Nat) (hd:E.used n) (hl:E.loc n=some (b,o)) (hlc:len<=cap) (hmax:cap<=maxLen)
   (hsh:w.shape? b=some (t,m)) (hm:o+(i+cap)*sz<=m):fC E h w (.os n sz i len) (.slice (some ⟨b,o+i*sz,none⟩) len cap)
 |os0 (n sz:Nat) (hd:E.used n) (hl:E.loc n=none):fC E h w (.os n sz 0 0) (.slice none 0 0)
 |op (n sz i off b o:Nat) (hd:E.used n) (hl:E.loc n=some (b,o)):fC E h w (.op n sz i off) (.pointer (some ⟨b,o+i*sz+off,none⟩))
 |agg (cs:List aE) (vs:List Value) (hl:cs.length=vs.length) (hr:∀ (i:Nat) (x:aE) (v:Value),cs[i]?=some x->vs[i]?=some v->fC E h w x v):fC E h w (.agg cs) (.agg vs.toArray)
 |gU (cs:List aE) (vs:List Value) (hl:cs.length=vs.length) (hr:∀ (i:Nat) (x:aE) (v:Value),cs[i]?=some x->vs[i]?=some v->fC E h w x v):fC E h w (.gU cs) (.tuple vs.toArray)
 |fn (f:Fn) (cs ds:List aE) (vs us:List Value) (hl:cs.length=vs.length) (hr:∀ (i:Nat) (x:aE) (v:Value),cs[i]?=some x->vs[i]?=some v->fC E h w x v)
   (hl':ds.length=us.length) (hr':∀ (i:Nat) (x:aE) (v:Value),ds[i]?=some x->us[i]?=some v->fC E h w x v):fC E h w (.fn f cs ds) (.func f vs.toArray us.toArray)
 |iface (t:TypeId) (x:aE) (v:Value) (hr:fC E h w x v):fC E h w (.iface t x) (.iface t v)
 |mp (n b o:Nat) (hd:E.used n) (hl:E.loc n=some (b,o)):fC E h w (.mp n) (.map (some b))
def dV (E:Env) (h:aB) (w:World):List aE->List Value->Prop
 | [],[]=>True
 |x::xs,v::vs=>fC E h w x v/\dV E h w xs vs
 | _,_=>False
theorem dV.length {E:Env} {h:aB} {w:World}:∀ {xs:List aE} {vs:List Value},dV E h w xs vs->xs.length=vs.length
 | [],[],_=>rfl
 |x::xs,v::vs,hh=>by simpa using dV.length hh.2
 | [],_::_,hh=>hh.elim
 | _::_,[],hh=>hh.elim
theorem dV.get {E:Env} {h:aB} {w:World}:∀ {xs:List aE} {vs:List Value},dV E h w xs vs ->
  ∀ (i:Nat) (x:aE) (v:Value),xs[i]?=some x->vs[i]?=some v->fC E h w x v
 | [],[],_,i,x,v,hx,_=>by simp at hx
 |x::xs,v::vs,hh,0,y,u,hx,hv=>by simp at hx hv;subst hx;subst hv;exact hh.1
 |x::xs,v::vs,hh,i+1,y,u,hx,hv=>dV.get hh.2 i y u aQF aCZ
 | [],_::_,hh,_,_,_,_,_=>hh.elim
 | _::_,[],hh,_,_,_,_,_=>hh.elim
theorem dV.mk {E:Env} {h:aB} {w:World}:∀ {xs:List aE} {vs:List Value},xs.length=vs.length ->
  (∀ (i:Nat) (x:aE) (v:Value),xs[i]?=some x->vs[i]?=some v->fC E h w x v)->dV E h w xs vs
 | [],[],_,_=>trivial
 |x::xs,v::vs,hl,hr=>⟨hr 0 x v rfl rfl,dV.mk aQG (λi y u hy hu=>hr (i+1) y u (by simpa using hy) (by simpa using hu))⟩
 | [],_::_,hl,_=>by simp at hl
 | _::_,[],hl,_=>by simp at hl
theorem dV.append {E:Env} {h:aB} {w:World}:∀ {xs:List aE} {vs:List Value} {ys:List aE} {us:List Value},
  dV E h w xs vs->dV E h w ys us->dV E h w (xs++ys) (vs++us)
 | [],[],_,_,_,hy=>hy
 |x::xs,v::vs,_,_,hx,hy=>⟨hx.1,dV.append hx.2 hy⟩
 | [],_::_,_,_,hx,_=>hx.elim
 | _::_,[],_,_,hx,_=>hx.elim
inductive wA (E:Env) (h:aB) (w:World):Cell->Value->(Nat->Prop)->Prop where
 |v (x:aE) (c:Value) (S:Nat->Prop) (h1:c.oneCell'=true) (hx:fC E h w x c):wA E h w (.v x) c S
 |aTW (sz:Nat) (a:Option Addr) (cap:Nat) (S:Nat->Prop) (hmax:cap<=maxLen) (ha:True):wA E h w (.own sz []) (.slice a 0 cap) S
 |own (sz:Nat) (es:List (List Cell)) (b o cap:Nat) (S:Nat->Prop) (cs:Array Value) (t:TypeId) (cv:Nat->Nat->Value) (T:Nat->Nat->Nat->Prop)
   (hb:S b) (hh:w.heap[b]?=some (.cells cs t (0,0))) (hlc:es.length<=cap) (hmax:cap<=maxLen) (hm:o+cap*sz<=cs.size) (hs:∀ e∈es,e.length=sz)
   (hT:∀ i j c,T i j c->S c/\c≠b) (hD:∀ i j i' j' c,T i j c->T i' j' c->i=i'/\j=j')
   (hc:∀ i j x,iJ es i j=some x->cs[o+i*sz+j]?=some (cv i j))
   (hr:∀ i j x,iJ es i j=some x->wA E h w x (cv i j) (T i j)):wA E h w (.own sz es) (.slice (some ⟨b,o,none⟩) es.length cap) S
structure aH5 (E:Env) (h:aB) (w:World) (b o sz:Nat) (es:List (List Cell)) (S:Nat->Prop):Prop where
 hb:S b
 size:∀ e∈es,e.length=sz
 mem:∃ (cs:Array Value) (t:TypeId) (cv:Nat->Nat->Value) (T:Nat->Nat->Nat->Prop),
  w.heap[b]?=some (.cells cs t (0,0))/\o+es.length*sz<=cs.size /\
  (∀ i j c,T i j c->S c/\c≠b)/\(∀ i j i' j' c,T i j c->T i' j' c->i=i'/\j=j') /\
  (∀ i j x,iJ es i j=some x->cs[o+i*sz+j]?=some (cv i j))/\(∀ i j x,iJ es i j=some x->wA E h w x (cv i j) (T i j))
def aW3 (E:Env) (h:aB) (w:World) (b:Nat) (l:List (aE×aE)) (S:Nat->Prop):Prop :=
 S b/\∃ (es:Array MapEntry) (clock:Nat),w.heap[b]?=some (.map es clock)/\(∀ e∈es,e.born<clock) /\
  dV E h w (l.map (·.1)) (es.toList.map (·.key))/\dV E h w (l.map (·.2)) (es.toList.map (·.val))
def aC0 (E:Env) (h:aB) (w:World) (n:Nat):bV->Prop
 | .row sz es=>(∃ b o,E.loc n=some (b,o)/\aH5 E h w b o sz es (E.fp n))∨(es=[]/\E.loc n=none)
 | .map _ _ l=>∃ b o,E.loc n=some (b,o)/\aW3 E h w b l (E.fp n)
 | .raw t cs=>∃ b,E.loc n=some (b,0)/\E.fp n b/\w.heap[b]?=some (.cells cs t (0,0))
 | .abs Q=>∃ b,E.loc n=some (b,0)/\E.fp n b/\∃ w0:World,Q b (E.fp n) w0/\∀ c,E.fp n c->w.heap[c]?=w0.heap[c]?
 | .gone=>True
def a24:Option TypeId:=none
def aH6:List (Nat×(Array Value->Prop)):=[]
def zF (E:Env) (h:aB) (w:World):Prop:=∀ p∈aH6,nX E h w p.1/\∃ cs t f,w.heap[p.1]?=some (.cells cs t f)/\p.2 cs
structure Rel (E:Env) (h:aB) (w:World):Prop where
 fin:∃ N,∀ n,N<=n->¬E.used n
 dom:∀ n,h n≠none->E.used n
 lt:∀ n o b,h n=some o->o.live->E.fp n b->b<w.heap.size
 apart:∀ n o m o' b,h n=some o->o.live->h m=some o'->o'.live->E.fp n b->E.fp m b->n=m
 obj:∀ n o,h n=some o->aC0 E h w n o
 laid:zF E h w
structure Ev (E:Env) (h:aB) (w:World) (E':Env) (h':aB) (w':World):Prop where
 size:w.heap.size<=w'.heap.size
 keep:∀ b,nX E h w b->w'.heap[b]?=w.heap[b]?/\nX E' h' w' b
 shape:∀ b,b<w.heap.size->w'.shape? b=w.shape? b
 loc:∀ n,E.used n->E'.loc n=E.loc n/\E'.used n
 os:w'.os=w.os
 out:w'.output=w.output
theorem zF.ev {E E':Env} {h h':aB} {w w':World} (ev:Ev E h w E' h' w') (x:zF E h w):zF E' h' w':=λp hp =>
 ⟨(ev.keep p.1 (x p hp).1).2,(x p hp).2.imp λcs ⟨t,f,ht,q⟩=>⟨t,f,by rw[(ev.keep p.1 (x p hp).1).1];exact ht,q⟩⟩
theorem zF.pD {E:Env} {g h:aB} {w:World} (hi:∀ b,nX E h w b->nX E g w b) (x:zF E h w):zF E g w:=λp hp=>⟨hi _ (x p hp).1,(x p hp).2⟩
theorem Ev.refl (E:Env) (h:aB) (w:World):Ev E h w E h w :=
 ⟨bX _,λ_ hb=>⟨rfl,hb⟩,λ_ _=>rfl,λ_ hn=>⟨rfl,hn⟩,rfl,rfl⟩
theorem Ev.trans {E E' E'':Env} {h h' h'':aB} {w w' w'':World} (a:Ev E h w E' h' w') (b:Ev E' h' w' E'' h'' w''):Ev E h w E'' h'' w'' where
 size:=aKW a.size b.size
 keep:=λx hx=>⟨(b.keep x (a.keep x hx).2).1.trans (a.keep x hx).1,(b.keep x (a.keep x hx).2).2⟩
 shape:=λx hx=>(b.shape x (Nat.lt_of_lt_of_le hx a.size)).trans (a.shape x hx)
 loc:=λn hn=>⟨(b.loc n (a.loc n hn).2).1.trans (a.loc n hn).1,(b.loc n (a.loc n hn).2).2⟩
 os:=b.os.trans a.os
 out:=b.out.trans a.out
theorem wB {w w':World} {b:Nat} (h:w'.heap[b]?=w.heap[b]?) (o:Nat) (s:Option Nat):w'.cell? ⟨b,o,s⟩=w.cell? ⟨b,o,s⟩:=by
 simp only[World.cell?,h]
theorem aH7 {w:World} {b:Nat} {x:TypeId×Nat} (h:w.shape? b=some x):b<w.heap.size:=by
 unfold World.shape? at h
 cases hb:w.heap[b]? with
 |none=>simp[hb]at h
 |some y=>exact(aPZ.1 hb).1
theorem fC.ev {E E':Env} {h h':aB} {w w':World} (ev:Ev E h w E' h' w') {x:aE} {v:Value} (r:fC E h w x v):fC E' h' w' x v:=by
 induction r with
 |any v=>exact .any v
 |bool b=>exact .bool b
 |int k n=>exact .int k n
 |str s hl=>exact .str s hl
 |jU=>exact .jU
 |bS=>exact .bS
 |sQ=>exact .sQ
 |lU=>exact .lU
 |oX=>exact .oX
 |sl0 sz t a cap ht hmax ha=>exact .sl0 sz t a cap ht hmax ha
 |sl sz es t b o cap cv hi hcap hmax ht hs hc h1 hr ih =>
  exact .sl sz es t b o cap cv (ev.keep b hi).2 hcap hmax ht hs (λi j x hx=>by rw[wB (ev.keep b hi).1];exact hc i j x hx) h1 ih
 |ip sz es i off b o cv hi hs hc h1 hr ih =>
  exact .ip sz es i off b o cv (ev.keep b hi).2 hs (λi j x hx=>by rw[wB (ev.keep b hi).1];exact hc i j x hx) h1 ih
 |os n sz i len b o cap t m hd hl hlc hmax hsh hm =>
  exact .os n sz i len b o cap t m (ev.loc n hd).2 ((ev.loc n hd).1.trans hl) hlc hmax ((ev.shape b (aH7 hsh)).trans hsh) hm
 |os0 n sz hd hl=>exact .os0 n sz (ev.loc n hd).2 ((ev.loc n hd).1.trans hl)
 |op n sz i off b o hd hl=>exact .op n sz i off b o (ev.loc n hd).2 ((ev.loc n hd).1.trans hl)
 |agg cs vs hl hr ih=>exact .agg cs vs hl ih
 |gU cs vs hl hr ih=>exact .gU cs vs hl ih
 |fn f cs ds vs us hl hr hl' hr' ih ih'=>exact .fn f cs ds vs us hl ih hl' ih'
 |iface t x v hr ih=>exact .iface t x v ih
 |mp n b o hd hl=>exact .mp n b o (ev.loc n hd).2 ((ev.loc n hd).1.trans hl)
theorem dV.ev {E E':Env} {h h':aB} {w w':World} (ev:Ev E h w E' h' w'):∀ {xs:List aE} {vs:List Value},dV E h w xs vs->dV E' h' w' xs vs
 | [],[],_=>trivial
 | _::_,_::_,hh=>⟨hh.1.ev ev,dV.ev ev hh.2⟩
 | [],_::_,hh=>hh.elim
 | _::_,[],hh=>hh.elim
@[simp] theorem aI (h:aB) (n:Nat) (o:bV):aU h n o n=some o:=by simp[aU]
theorem aC (h:aB) (n m:Nat) (o:bV) (hn:m≠n):aU h n o m=h m:=by simp[aU,hn]
theorem gB (h:aB) (n m:Nat) (o:bV):aU h n o m=if m=n then some o else h m:=rfl
@[simp] theorem aO (h:aB) (n:Nat) (o o':bV):aU (aU h n o) n o'=aU h n o':=by
 funext m;simp only[aU];split <;> rfl
def aB.le (g h:aB):Prop:=∀ n,g n=none∨g n=h n
theorem aB.le_refl (h:aB):h.le h:=λ_=>.inr rfl
theorem aB.le_trans {a b c:aB} (x:a.le b) (y:b.le c):a.le c:=λn=>by
 rcases x n with h|h
 ·exact .inl h
 ·rcases y n with k|k
  ·exact .inl (h.trans k)
  ·exact .inr (h.trans k)
theorem aB.bM {g h:aB} {n:Nat} {o:bV} (hg:g n=none) (hl:g.le h):g.le (aU h n o):=λm=>by
 by_cases e:m=n
 ·subst e;exact .inl hg
 ·rw[aC _ _ _ _ e];exact hl m
def aE.qC:Value->aE
 | .bool b=>.bool b
 | .int k n=>.int k n
 | .string s=>if s.size<=maxLen then .str s.data.toList else .any
 | .pointer none=>.jU
 | .slice none 0 0=>.bS
 | .nilFunc=>.sQ
 | .nilIface=>.lU
 | .map none=>.oX
 | _=>.any
def aE.ofValue:Value->aE
 | .bool b=>.bool b
 | .int k n=>.int k n
 | .string s=>if s.size<=maxLen then .str s.data.toList else .any
 | .pointer none=>.jU
 | .slice none 0 0=>.bS
 | .nilFunc=>.sQ
 | .nilIface=>.lU
 | .map none=>.oX
 | .agg vs=>.agg (vs.toList.map aE.qC)
 | _=>.any
theorem fC.qC (E:Env) (h:aB) (w:World) (v:Value):fC E h w (aE.qC v) v:=by
 unfold aE.qC
 split <;> try constructor
 split
 ·rename_i s hs
  have:s=⟨s.data.toList.toArray⟩:=by cases s;simp
  rw[this]
  exact .str _ (by simpa using hs)
 ·exact .any _
theorem fC.ofValue (E:Env) (h:aB) (w:World) (v:Value):fC E h w (aE.ofValue v) v:=by
 have h1:=fC.qC E h w v
 unfold aE.qC at h1
 unfold aE.ofValue
 split <;> try exact h1
 ·rename_i vs
  have:=fC.agg (E:=E) (h:=h) (w:=w) (vs.toList.map aE.qC) vs.toList dG (λi x v hx hv=>by
   rw[qR,hv]at hx
   obtain rfl:=gH hx
   exact fC.qC E h w v)
  simpa using this
 ·exact .any _
inductive TyD where
 |int (k:IntKind)
 |bool
 |str
 |ptr (e:TypeId)
 |slice (e:TypeId)
 |arr (n:Nat) (e:TypeId)
 |st (fs:List (Nat×TypeId×Nat))
 |map (k e:TypeId)
 |other
structure lJ where
 sz:Nat
 agg:Bool
 bytes:Nat
 zero:List aE
 d:TyD
def tyD (P:Program):TypeDesc->TyD
 | .int k=>.int k
 | .bool=>.bool
 | .string=>.str
 | .pointer e=>.ptr e
 | .slice e=>.slice e
 | .array n e=>.arr n e
 | .struct fs=>if fs.toList.all (λf=>(P.info? f.type).isSome)then .st (fs.toList.map λf=>(f.offset,f.type,P.cellsOf f.type))else .other
 | .map k e=>.map k e
 | _=>.other
def iE (P:Program) (t:TypeId):Option lJ :=
 match P.info? t,P.underlying t with
 |some i,some u=>some {
   sz:=i.size
   agg:=match u with | .struct _ | .array _ _=>true|_=>false
   bytes:=i.bytes
   zero:=match i.zero with|some v=>v.cells.toList.map aE.ofValue|none=>[]
   d:=tyD P u }
 | _,_=>none
theorem rV {P:Program} {t:TypeId} {r:lJ} (h:iE P t=some r):∃ i u,P.info? t=some i/\P.underlying t=some u /\
  r.sz=i.size/\r.bytes=i.bytes/\r.d=tyD P u/\r.agg=(match u with | .struct _ | .array _ _=>true|_=>false) /\
  r.zero=(match i.zero with|some v=>v.cells.toList.map aE.ofValue|none=>[]):=by
 unfold iE at h
 split at h
 ·rename_i i u hi hu
  obtain rfl:=gH h
  exact⟨i,u,hi,hu,rfl,rfl,rfl,rfl,rfl⟩
 ·simp at h
def wS (P:Program) (o:Oper) (ρ:Operand->Value) (w:World) (R:Value->World->Prop):Prop :=
 match (execOp ρ o).run P w with
 | .ok (.value v) w'=>R v w'
 | .ok .skip w'=>R undef w'
 | .ok (.enter f args) w'=>Calls P f args w' λe w''=>match e with | .returned v=>R v w''|_=>False
 | _=>False
theorem wS.wp {P:Program} {o:Oper} {a:Act} {w:World} {next:Act->World->Prop} {Q:Exit->Act->World->Prop}
  (h:wS P o a.eval w λv w'=>next (a.put o.dst v) w'):o.wp P a w next Q:=by
 unfold wS at h
 unfold Oper.wp
 generalize (execOp a.eval o).run P w=r at *
 cases r with
 |halt x w'=>exact h.elim
 |ok n w' =>
  cases n <;> first
   |exact h.elim
   |exact h
   |exact Calls.mono h λe w' he=>by cases e <;> first|exact he|exact he.elim
theorem wS.jM {P:Program} {o:Oper} {ρ:Operand->Value} {w w':World} {v:Value} {R:Value->World->Prop}
  (hr:(execOp ρ o).run P w=.ok (.value v) w') (h:R v w'):wS P o ρ w R:=by
 unfold wS;rw[hr];exact h
theorem wS.a7V {P:Program} {o:Oper} {ρ:Operand->Value} {w w':World} {R:Value->World->Prop}
  (hr:(execOp ρ o).run P w=.ok .skip w') (h:R undef w'):wS P o ρ w R:=by
 unfold wS;rw[hr];exact h
def aC1 (K:aE->aB->Prop) (E:Env) (h:aB) (w:World) (v:Value) (w':World):Prop :=
 ∃ r h' E',K r h'/\Ev E h w E' h' w'/\Rel E' h' w'/\fC E' h' w' r v
theorem aC1.mono {K K':aE->aB->Prop} {E:Env} {h:aB} {w:World} {v:Value} {w':World} (hk:∀ r h',K r h'->K' r h')
  (a:aC1 K E h w v w'):aC1 K' E h w v w':=let ⟨r,h',E',k,rest⟩:=a;⟨r,h',E',hk _ _ k,rest⟩
theorem aC1.same {K:aE->aB->Prop} {E:Env} {h:aB} {w:World} {v:Value} {r:aE} (hk:K r h) (hrel:Rel E h w) (hr:fC E h w r v):aC1 K E h w v w :=
 ⟨r,h,E,hk,.refl _ _ _,hrel,hr⟩
def oV (P:Program) (o:Oper) (ρ:Operand->aE) (h:aB) (K:aE->aB->Prop):Prop :=
 ∀ E w (ρc:Operand->Value),Rel E h w->(∀ x,fC E h w (ρ x) (ρc x))->wS P o ρc w (aC1 K E h w)
theorem wS.mono {P:Program} {o:Oper} {ρ:Operand->Value} {w:World} {R R':Value->World->Prop} (h:wS P o ρ w R) (hr:∀ v w',R v w'->R' v w'):wS P o ρ w R':=by
 unfold wS at *
 split at h
 ·exact hr _ _ h
 ·exact hr _ _ h
 ·exact Calls.mono h λe w' he=>by cases e <;> first|exact hr _ _ he|exact he
 ·exact h
theorem oV.mono {P:Program} {o:Oper} {ρ:Operand->aE} {h:aB} {K K':aE->aB->Prop} (hk:∀ r h',K r h'->K' r h') (a:oV P o ρ h K):oV P o ρ h K' :=
 λE w ρc hR hρ=>(a E w ρc hR hρ).mono λv w'=>aC1.mono hk
def aND (P:Program) (f:FuncId) (args:List aE) (h:aB) (K:aE->aB->Prop):Prop :=
 ∀ E w vs,Rel E h w->dV E h w args vs->Calls P f vs.toArray w λe w'=>match e with | .returned v=>aC1 K E h w v w'|_=>False
theorem aND.mono {P:Program} {f:FuncId} {args:List aE} {h:aB} {K K':aE->aB->Prop} (hk:∀ r h',K r h'->K' r h') (a:aND P f args h K):aND P f args h K' :=
 λE w vs hR hv=>Calls.mono (a E w vs hR hv) λe w' he=>by cases e <;> first|exact aC1.mono hk he|exact he
section pure
variable {P:Program} {o:Oper} {ρ:Operand->aE} {h:aB} {K:aE->aB->Prop}
theorem cG {r:aE} (hk:K r h) (hx:∀ E w (ρc:Operand->Value),Rel E h w->(∀ x,fC E h w (ρ x) (ρc x))->∃ v,(execOp ρc o).run P w=.ok (.value v) w/\fC E h w r v):oV P o ρ h K:=by
 intro E w ρc hR hρ
 obtain⟨v,hv,hr⟩:=hx E w ρc hR hρ
 exact .jM hv (.same hk hR hr)
theorem a25 (x:Operand) (ho:o.op=.move x) (hk:K (ρ x) h):oV P o ρ h K :=
 cG hk λE w ρc _ hρ=>⟨ρc x,by simp[execOp,ho],hρ x⟩
theorem aTX (x:Operand) (ho:o.op=.assign x) (hk:K (ρ x) h):oV P o ρ h K :=
 cG hk λE w ρc _ hρ=>⟨ρc x,by simp[execOp,ho],hρ x⟩
theorem wT {E:Env} {w:World} {b:Bool} {v:Value} (hr:fC E h w (.bool b) v):v=.bool b:=by cases hr;rfl
theorem lD {E:Env} {w:World} {k:IntKind} {n:Int} {v:Value} (hr:fC E h w (.int k n) v):v=.int k n:=by cases hr;rfl
theorem u6 {E:Env} {w:World} {s:List UInt8} {v:Value} (hr:fC E h w (.str s) v):v=.string ⟨s.toArray⟩/\s.length<=maxLen:=by cases hr;exact⟨rfl,by assumption⟩
theorem a26 (c a b:Operand) (t:Bool) (ho:o.op=.pick c a b) (hc:ρ c=.bool t) (hk:K (if t then ρ a else ρ b) h):oV P o ρ h K :=
 cG hk λE w ρc _ hρ=>by
  have:=wT (hc▸hρ c)
  refine⟨if t then ρc a else ρc b,by simp[execOp,ho,this,asBool],?_⟩
  cases t
  ·exact hρ b
  ·exact hρ a
def mY (op:BinOp):aE->aE->Option aE
 | .int k a,.int k' b =>
  if k=k' then
   match op with
   | .add=>some (.int k (k.wrap (a+b)))
   | .sub=>some (.int k (k.wrap (a-b)))
   | .mul=>some (.int k (k.wrap (a*b)))
   | .eql=>some (.bool (decide (a=b)))
   | .neq=>some (.bool (!decide (a=b)))
   | .lss=>some (.bool (decide (a<b)))
   | .leq=>some (.bool (decide (a<=b)))
   | .gtr=>some (.bool (decide (a > b)))
   | .geq=>some (.bool (decide (a ≥ b)))
   | .and=>some (.int k (k.wrap (BitVec.ofInt k.bits a &&& BitVec.ofInt k.bits b).toNat))
   | .or=>some (.int k (k.wrap (BitVec.ofInt k.bits a ||| BitVec.ofInt k.bits b).toNat))
   | .andNot=>some (.int k (k.wrap (BitVec.ofInt k.bits a &&& ~~~ BitVec.ofInt k.bits b).toNat))
   | _=>none
  else none
 | .str a,.str b =>
  match op with
  | .eql=>some (.bool (decide (a=b)))
  | .neq=>some (.bool (!decide (a=b)))
  | _=>none
 | _,_=>none
theorem a7W (op:BinOp) (t ty:TypeId) (x y:Operand) (r:aE) (ho:o.op=.binOp op t x y ty) (hb:mY op (ρ x) (ρ y)=some r) (hk:K r h):oV P o ρ h K :=
 cG hk λE w ρc _ hρ=>by
  have hx:=hρ x
  have hy:=hρ y
  unfold mY at hb
  split at hb
  ·rename_i k a k' b ex ey
   rw[ex]at hx;rw[ey]at hy
   have hx:=lD hx
   have hy:=lD hy
   split at hb
   ·rename_i hkk
    subst hkk
    have hg:(eqGuard op t x y (ρc x) (ρc y)).run P w=.ok () w:=by
     rw[hx,hy];cases op <;> simp[eqGuard]
    split at hb <;> first|(simp at hb;done)|(
     obtain rfl:=gH hb
     refine⟨_,by simp only[execOp,ho,Sem.run_bind,hg,Result.andThen_ok,hx,hy,binOp,Op.intArith,Op.intCmp,Op.intBits,ne_eq,not_true_eq_false,if_false,Sem.run_pure];rfl,?_⟩
     constructor)
   ·simp at hb
  ·rename_i a b ex ey
   rw[ex]at hx;rw[ey]at hy
   obtain⟨hx,_⟩:=u6 hx
   obtain⟨hy,_⟩:=u6 hy
   have hg:(eqGuard op t x y (ρc x) (ρc y)).run P w=.ok () w:=by
    rw[hx,hy];cases op <;> simp[eqGuard]
   have e1:(⟨a.toArray⟩:ByteArray).toList=a:=by rw[ByteArray.toList_eq]
   have e2:(⟨b.toArray⟩:ByteArray).toList=b:=by rw[ByteArray.toList_eq]
   split at hb <;> first|(simp at hb;done)|(
    obtain rfl:=gH hb
    refine⟨_,by simp only[execOp,ho,Sem.run_bind,hg,Result.andThen_ok,hx,hy,binOp,Op.stringOp,Sem.run_pure,e1,e2];rfl,?_⟩
    first|exact .bool _|skip)
   all_goals(rw[show(a == b)=decide (a=b)from Bool.eq_iff_iff.2 (by rw[beq_iff_eq,decide_eq_true_eq])];constructor)
  ·simp at hb
end pure
set_option linter.unusedVariables false
set_option linter.unusedSimpArgs false
theorem wA.ev {E E':Env} {h h':aB} {w w':World} (ev:Ev E h w E' h' w') {x:Cell} {v:Value} {S:Nat->Prop} (r:wA E h w x v S)
  (hS:∀ c,S c->w'.heap[c]?=w.heap[c]?):wA E' h' w' x v S:=by
 induction r with
 |v x c S h1 hx=>exact .v x c S h1 (hx.ev ev)
 |aTW sz a cap S hmax ha=>exact .aTW sz a cap S hmax ha
 |own sz es b o cap S cs t cv T hb hh hlc hmax hm hs hT hD hc hr ih =>
  exact .own sz es b o cap S cs t cv T hb ((hS b hb).trans hh) hlc hmax hm hs hT hD hc λi j x hx=>ih i j x hx λc hc=>hS c (hT i j c hc).1
theorem wA.mono {E:Env} {h:aB} {w:World} {x:Cell} {v:Value} {S S':Nat->Prop} (r:wA E h w x v S) (hs:∀ c,S c->S' c):wA E h w x v S':=by
 cases r with
 |v _ _ _ h1 hx=>exact .v _ _ _ h1 hx
 |aTW sz a cap _ hmax ha=>exact .aTW sz a cap _ hmax ha
 |own sz es b o cap _ cs t cv T hb hh hlc hmax hm hs' hT hD hc hr =>
  exact .own sz es b o cap _ cs t cv T (hs _ hb) hh hlc hmax hm hs' (λi j c hc=>⟨hs _ (hT i j c hc).1,(hT i j c hc).2⟩) hD hc hr
theorem wA.one {E:Env} {h:aB} {w:World} {x:Cell} {v:Value} {S:Nat->Prop} (r:wA E h w x v S):v.oneCell'=true:=by
 cases r <;> first|assumption|rfl
theorem aH5.ev {E E':Env} {h h':aB} {w w':World} (ev:Ev E h w E' h' w') {b o sz:Nat} {es:List (List Cell)} {S:Nat->Prop} (r:aH5 E h w b o sz es S)
  (hS:∀ c,S c->w'.heap[c]?=w.heap[c]?):aH5 E' h' w' b o sz es S:=by
 obtain⟨hb,hs,cs,t,cv,T,hh,hm,hT,hD,hc,hr⟩:=r
 exact⟨hb,hs,cs,t,cv,T,(hS b hb).trans hh,hm,hT,hD,hc,λi j x hx=>(hr i j x hx).ev ev λc hc=>hS c (hT i j c hc).1⟩
theorem aW3.ev {E E':Env} {h h':aB} {w w':World} (ev:Ev E h w E' h' w') {b:Nat} {l:List (aE×aE)} {S:Nat->Prop} (r:aW3 E h w b l S)
  (hS:∀ c,S c->w'.heap[c]?=w.heap[c]?):aW3 E' h' w' b l S:=by
 obtain⟨hb,es,clock,hh,hk,h1,h2⟩:=r
 exact⟨hb,es,clock,(hS b hb).trans hh,hk,h1.ev ev,h2.ev ev⟩
theorem aC0.ev {E E':Env} {h h':aB} {w w':World} (ev:Ev E h w E' h' w') {n:Nat} {o:bV} (hl:E'.loc n=E.loc n) (hfp:E'.fp n=E.fp n)
  (hS:∀ c,o.live->E.fp n c->w'.heap[c]?=w.heap[c]?) (r:aC0 E h w n o):aC0 E' h' w' n o:=by
 cases o with
 |row sz es =>
  rcases r with⟨b,o,hb,hr⟩|⟨he,hn⟩
  ·exact .inl ⟨b,o,hl.trans hb,by rw[hfp];exact hr.ev ev (λc hc=>hS c trivial hc)⟩
  ·exact .inr ⟨he,hl.trans hn⟩
 |map kt et l =>
  obtain⟨b,o,hb,hr⟩:=r
  exact⟨b,o,hl.trans hb,by rw[hfp];exact hr.ev ev (λc hc=>hS c trivial hc)⟩
 |raw t cs =>
  obtain⟨b,hb,hf,hr⟩:=r
  exact⟨b,hl.trans hb,by rw[hfp];exact hf,(hS b trivial hf).trans hr⟩
 |abs Q =>
  obtain⟨b,hb,hf,w0,hq,ha⟩:=r
  exact⟨b,hl.trans hb,by rw[hfp];exact hf,w0,by rw[hfp];exact hq,λc hc=>by rw[hfp]at hc;exact(hS c trivial hc).trans (ha c hc)⟩
 |gone=>trivial
def tZ (w:World) (o:Obj) (d:Nat):World:={ heap:=w.heap.push o,tape:=w.tape,drawn:=d,os:=w.os,output:=w.output }
theorem nM (w:World) (o:Obj) (d:Nat):(tZ w o d).heap.size=w.heap.size+1:=by simp[tZ]
theorem nE (w:World) (o:Obj) (d b:Nat) (hb:b<w.heap.size):(tZ w o d).heap[b]?=w.heap[b]?:=by
 simp only[tZ,Array.getElem?_push];rw[if_neg aA]
theorem u7 (w:World) (o:Obj) (d:Nat):(tZ w o d).heap[w.heap.size]?=some o:=by simp[tZ]
def Env.add (E:Env) (n b:Nat):Env where
 loc:=λm=>if m=n then some (b,0)else E.loc m
 fp:=λm c=>if m=n then c=b else E.fp m c
 used:=λm=>m=n∨E.used m
theorem Rel.none {E:Env} {h:aB} {w:World} (R:Rel E h w) {n:Nat} (hn:¬E.used n):h n=none:=by
 cases e:h n with
 |none=>rfl
 |some o=>exact absurd (R.dom n (by simp[e])) hn
theorem Rel.fresh {E:Env} {h:aB} {w:World} (R:Rel E h w):∃ n,¬E.used n:=let ⟨N,hN⟩:=R.fin;⟨N,hN N (bX _)⟩
theorem Ev.alloc {E:Env} {h:aB} {w:World} (R:Rel E h w) {n:Nat} (hn:¬E.used n) (o:Obj) (x:bV) (d:Nat) :
  Ev E h w (E.add n w.heap.size) (aU h n x) (tZ w o d):=by
 have hne:∀ m,E.used m->m≠n:=λm hm e=>hn (e▸hm)
 have hheap:∀ b,b<w.heap.size->(tZ w o d).heap[b]?=w.heap[b]?:=nE w o d
 refine⟨by rw[nM];omega,λb hb=>⟨hheap b hb.1,⟨by have:=hb.1;rw[nM];omega,?_⟩⟩,λb hb=>by simp only[World.shape?,hheap b hb],λm hm=>?_,rfl,rfl⟩
 ·intro m y hm hy hf
  by_cases e:m=n
  ·subst e;have hf:b=w.heap.size:=by simpa[Env.add]using hf
   have:=hb.1;omega
  ·rw[aC _ _ _ _ e]at hm;exact hb.2 m y hm hy (by simpa[Env.add,e]using hf)
 ·have e:=hne m hm
  exact⟨by simp[Env.add,e],.inr hm⟩
theorem Rel.aLX {E:Env} {h:aB} {w:World} (R:Rel E h w) {n:Nat} (hn:¬E.used n) (o:Obj) (x:bV) (d:Nat)
  (hx:aC0 (E.add n w.heap.size) (aU h n x) (tZ w o d) n x):Rel (E.add n w.heap.size) (aU h n x) (tZ w o d):=by
 have ev:=Ev.alloc R hn o x d
 have hheap:∀ b,b<w.heap.size->(tZ w o d).heap[b]?=w.heap[b]?:=nE w o d
 refine⟨?_,?_,?_,?_,?_,R.laid.ev ev⟩
 ·obtain⟨N,hN⟩:=R.fin
  exact ⟨max N (n + 1), fun m hm => by rintro (e | e); · omega
                                       · exact hN m aA e⟩
 ·intro m hm
  by_cases e:m=n
  ·exact .inl e
  ·rw[aC _ _ _ _ e]at hm;exact .inr (R.dom m hm)
 ·intro m y b hm hy hb
  by_cases e:m=n
  ·subst e;have hb:b=w.heap.size:=by simpa[Env.add]using hb
   rw[nM];omega
  ·rw[aC _ _ _ _ e]at hm
   have:=R.lt m y b hm hy a22
   rw[nM];omega
 ·intro m y m' y' b hm hy hm' hy' hb hb'
  by_cases e:m=n <;> by_cases e':m'=n
  ·rw[e,e']
  ·subst e;rw[aC _ _ _ _ e']at hm'
   have hb:b=w.heap.size:=by simpa[Env.add]using hb
   have:=R.lt m' y' b hm' hy' (by simpa[Env.add,e']using hb');omega
  ·subst e';rw[aC _ _ _ _ e]at hm
   have hb':b=w.heap.size:=by simpa[Env.add]using hb'
   have:=R.lt m y b hm hy a22;omega
  ·rw[aC _ _ _ _ e]at hm;rw[aC _ _ _ _ e']at hm'
   exact R.apart m y m' y' b hm hy hm' hy' a22 (by simpa[Env.add,e']using hb')
 ·intro m y hm
  by_cases e:m=n
  ·subst e;rw[aI]at hm;obtain rfl:=gH hm;exact hx
  ·rw[aC _ _ _ _ e]at hm
   exact(R.obj m y hm).ev ev (by simp[Env.add,e]) (by funext c;simp[Env.add,e]) λc hy hc=>hheap c (R.lt m y c hm hy hc)
theorem u9 {α:Type} {sz:Nat}:∀ (es:List (List α)),(∀ e∈es,e.length=sz)->∀ i j x,iJ es i j=some x->es.flatten[i*sz+j]?=some x
 | [],_,i,j,x,hx=>by simp[iJ]at hx
 |e::es,hs,0,j,x,hx=>by
  simp only[iJ,aZ4,aZ5]at hx
  have hl:=(iO.1 hx).1
  simp only[a7K,a2A,aGG]
  rw[tU hl];exact hx
 |e::es,hs,i+1,j,x,hx=>by
  have he:=hs e dG
  have ih:=u9 es (λe he=>hs e (by simp[he])) i j x (by simpa[iJ]using hx)
  simp only[a7K]
  rw[v8 (by rw[he,tV];omega)]
  rw[←ih];congr 1;rw[he,tV];omega
theorem length_flatten {α:Type} {sz:Nat}:∀ (es:List (List α)),(∀ e∈es,e.length=sz)->es.flatten.length=es.length*sz
 | [],_=>by simp
 |e::es,hs=>by
  have he:=hs e dG
  have ih:=length_flatten es (λe he=>hs e (by simp[he]))
  simp[he,ih,tV];omega
theorem nF {α β:Type} (f:α->β) (es:List (List α)) (i j:Nat):iJ (es.map (List.map f)) i j=(iJ es i j).map f:=by
 unfold iJ
 rw[qR]
 cases es[i]? <;> simp
theorem Rel.a0D {E:Env} {h:aB} {w:World} (R:Rel E h w) {n:Nat} (hn:¬E.used n) (sz:Nat) (es:List (List aE)) (hs:∀ e∈es,e.length=sz)
  (cs:Array Value) (t:TypeId) (d:Nat) (cv:Nat->Nat->Value) (hm:es.length*sz<=cs.size)
  (hc:∀ i j x,iJ es i j=some x->cs[i*sz+j]?=some (cv i j)/\(cv i j).oneCell'=true/\fC E h w x (cv i j)) :
  Rel (E.add n w.heap.size) (aU h n (.row sz (es.map (List.map .v)))) (tZ w (.cells cs t) d):=by
 refine R.aLX hn _ _ d (.inl ⟨w.heap.size,0,by simp[Env.add],?_⟩)
 have ev:=Ev.alloc R hn (.cells cs t) (.row sz (es.map (List.map .v))) d
 refine⟨by simp[Env.add],?_,cs,t,cv,λ_ _ _=>False,?_,by simpa using hm,λ_ _ _ hf=>hf.elim,λ_ _ _ _ _ hf=>hf.elim,?_,?_⟩
 ·intro e he
  obtain⟨e',he',rfl⟩:=lA.1 he
  simpa using hs e' he'
 ·exact u7 _ _ _
 ·intro i j x hx
  rw[nF]at hx
  obtain⟨y,hy,rfl⟩:=q0.1 hx
  simpa using(hc i j y hy).1
 ·intro i j x hx
  rw[nF]at hx
  obtain⟨y,hy,rfl⟩:=q0.1 hx
  exact .v _ _ _ (hc i j y hy).2.1 ((hc i j y hy).2.2.ev ev)
theorem Ev.write {E:Env} {h:aB} {w w':World} (R:Rel E h w) {n b:Nat} {x:bV} (hn:h n=some x) (hx:x.live) (hb:E.fp n b) (x':bV) (hx':x'.live)
  (hsize:w'.heap.size=w.heap.size) (hoth:∀ c,c≠b->w'.heap[c]?=w.heap[c]?) (hsh:w'.shape? b=w.shape? b) (hos:w'.os=w.os) (hout:w'.output=w.output) :
  Ev E h w E (aU h n x') w':=by
 refine⟨by omega,λc hc=>⟨hoth c λe=>hc.2 n x hn hx (e▸hb),⟨by have:=hc.1;omega,?_⟩⟩,λc hc=>?_,λm hm=>⟨rfl,?_⟩,hos,hout⟩
 ·intro m y hm hy
  by_cases e:m=n
  ·subst e;exact hc.2 m x hn hx
  ·rw[aC _ _ _ _ e]at hm;exact hc.2 m y hm hy
 ·by_cases e:c=b
  ·rw[e];exact hsh
  ·simp only[World.shape?,hoth c e]
 ·exact hm
theorem Rel.write {E:Env} {h:aB} {w w':World} (R:Rel E h w) {n b:Nat} {x:bV} (hn:h n=some x) (hx:x.live) (hb:E.fp n b) (x':bV) (hx':x'.live)
  (hsize:w'.heap.size=w.heap.size) (hoth:∀ c,c≠b->w'.heap[c]?=w.heap[c]?) (hsh:w'.shape? b=w.shape? b) (hos:w'.os=w.os) (hout:w'.output=w.output)
  (hO:aC0 E (aU h n x') w' n x'):Rel E (aU h n x') w':=by
 have ev:=Ev.write R hn hx hb x' hx' hsize hoth hsh hos hout
 refine⟨R.fin,?_,?_,?_,?_,R.laid.ev ev⟩
 ·intro m hm
  by_cases e:m=n
  ·subst e;exact R.dom m (by simp[hn])
  ·rw[aC _ _ _ _ e]at hm;exact R.dom m hm
 ·intro m y c hm hy hc
  rw[hsize]
  by_cases e:m=n
  ·subst e;exact R.lt m x c hn hx hc
  ·rw[aC _ _ _ _ e]at hm;exact R.lt m y c hm hy hc
 ·intro m y m' y' c hm hy hm' hy' hc hc'
  by_cases e:m=n <;> by_cases e':m'=n
  ·rw[e,e']
  ·subst e;rw[aC _ _ _ _ e']at hm';exact R.apart m x m' y' c hn hx hm' hy' hc hc'
  ·subst e';rw[aC _ _ _ _ e]at hm;exact R.apart m y m' x c hm hy hn hx hc hc'
  ·rw[aC _ _ _ _ e]at hm;rw[aC _ _ _ _ e']at hm';exact R.apart m y m' y' c hm hy hm' hy' hc hc'
 ·intro m y hm
  by_cases e:m=n
  ·subst e;rw[aI]at hm;obtain rfl:=gH hm;exact hO
  ·rw[aC _ _ _ _ e]at hm
   exact(R.obj m y hm).ev ev rfl rfl λc hy hc=>hoth c λeb=>e (R.apart m y n x b hm hy hn hx (eb▸hc) hb)
theorem nX.le {E:Env} {g h:aB} {w:World} {b:Nat} (hl:g.le h) (i:nX E h w b):nX E g w b :=
 ⟨i.1, fun n o hn ho => i.2 n o (by rcases hl n with e | e
                                    · rw[e]at hn;simp at hn
                                    · rw[←e];exact hn) ho⟩
theorem fC.pD {E:Env} {g h:aB} {w:World} (hi:∀ b,nX E h w b->nX E g w b) {x:aE} {v:Value} (r:fC E h w x v):fC E g w x v:=by
 induction r with
 |any v=>exact .any v
 |bool b=>exact .bool b
 |int k n=>exact .int k n
 |str s hl=>exact .str s hl
 |jU=>exact .jU
 |bS=>exact .bS
 |sQ=>exact .sQ
 |lU=>exact .lU
 |oX=>exact .oX
 |sl0 sz t a cap ht hmax ha=>exact .sl0 sz t a cap ht hmax ha
 |sl sz es t b o cap cv hb hcap hmax ht hs hc h1 hr ih=>exact .sl sz es t b o cap cv (hi b hb) hcap hmax ht hs hc h1 ih
 |ip sz es i off b o cv hb hs hc h1 hr ih=>exact .ip sz es i off b o cv (hi b hb) hs hc h1 ih
 |os n sz i len b o cap t m hd hl hlc hmax hsh hm=>exact .os n sz i len b o cap t m hd hl hlc hmax hsh hm
 |os0 n sz hd hl=>exact .os0 n sz hd hl
 |op n sz i off b o hd hl=>exact .op n sz i off b o hd hl
 |agg cs vs hl hr ih=>exact .agg cs vs hl ih
 |gU cs vs hl hr ih=>exact .gU cs vs hl ih
 |fn f cs ds vs us hl hr hl' hr' ih ih'=>exact .fn f cs ds vs us hl ih hl' ih'
 |iface t x v hr ih=>exact .iface t x v ih
 |mp n b o hd hl=>exact .mp n b o hd hl
theorem dV.pD {E:Env} {g h:aB} {w:World} (hi:∀ b,nX E h w b->nX E g w b):∀ {xs:List aE} {vs:List Value},dV E h w xs vs->dV E g w xs vs
 | [],[],_=>trivial
 | _::_,_::_,hh=>⟨hh.1.pD hi,dV.pD hi hh.2⟩
 | [],_::_,hh=>hh.elim
 | _::_,[],hh=>hh.elim
theorem wA.pD {E:Env} {g h:aB} {w:World} (hi:∀ b,nX E h w b->nX E g w b) {x:Cell} {v:Value} {S:Nat->Prop} (r:wA E h w x v S):wA E g w x v S:=by
 induction r with
 |v x c S h1 hx=>exact .v x c S h1 (hx.pD hi)
 |aTW sz a cap S hmax ha=>exact .aTW sz a cap S hmax ha
 |own sz es b o cap S cs t cv T hb hh hlc hmax hm hs hT hD hc hr ih=>exact .own sz es b o cap S cs t cv T hb hh hlc hmax hm hs hT hD hc ih
theorem aC0.pD {E:Env} {g h:aB} {w:World} (hi:∀ b,nX E h w b->nX E g w b) {n:Nat} {o:bV} (r:aC0 E h w n o):aC0 E g w n o:=by
 cases o with
 |row sz es =>
  rcases r with⟨b,o,hb,hbS,hs,cs,t,cv,T,hh,hm,hT,hD,hcc,hrr⟩|r
  ·exact .inl ⟨b,o,hb,hbS,hs,cs,t,cv,T,hh,hm,hT,hD,hcc,λi j x hx=>(hrr i j x hx).pD hi⟩
  ·exact .inr r
 |map kt et l =>
  obtain⟨b,o,hb,hbS,es,clock,hh,hk,h1,h2⟩:=r
  exact⟨b,o,hb,hbS,es,clock,hh,hk,h1.pD hi,h2.pD hi⟩
 |raw t cs=>exact r
 |abs Q=>exact r
 |gone=>trivial
theorem Rel.forget {E:Env} {g h:aB} {w:World} (R:Rel E h w) (hl:g.le h):Rel E g w:=by
 have hgl:∀ n o,g n=some o->h n=some o:=λn o hg=>by
  rcases hl n with e|e
  ·rw[e]at hg;simp at hg
  ·rw[←e];exact hg
 refine⟨R.fin,λn hn=>R.dom n ?_,λn o b hn=>R.lt n o b (hgl n o hn),λn o m o' b hn ho hm=>R.apart n o m o' b (hgl n o hn) ho (hgl m o' hm),
  λn o hn=>(R.obj n o (hgl n o hn)).pD λb=>nX.le hl,R.laid.pD λb=>nX.le hl⟩
 rcases hl n with e|e
 ·exact absurd e hn
 ·rw[←e];exact hn
theorem Ev.forget {E E':Env} {h h' g:aB} {w w':World} (ev:Ev E h w E' h' w') (hl:g.le h'):Ev E h w E' g w' :=
 ⟨ev.size,λb hb=>⟨(ev.keep b hb).1,(ev.keep b hb).2.le hl⟩,ev.shape,ev.loc,ev.os,ev.out⟩
theorem zG {E:Env} {h:aB} {w:World} (n:Nat) (b:Nat) (i:nX E h w b):nX E (aU h n .gone) w b :=
 ⟨i.1,λm o hm ho=>by
  by_cases e:m=n
  ·subst e;rw[aI]at hm;obtain rfl:=gH hm;exact ho.elim
  ·rw[aC _ _ _ _ e]at hm;exact i.2 m o hm ho⟩
theorem aFV {E:Env} {h:aB} {w:World} (R:Rel E h w) {n:Nat} {x:bV} (hn:h n=some x) (hx:x.live) (b:Nat) (hb:E.fp n b):nX E (aU h n .gone) w b :=
 ⟨R.lt n x b hn hx hb,λm o hm ho hf=>by
  by_cases e:m=n
  ·subst e;rw[aI]at hm;obtain rfl:=gH hm;exact ho.elim
  ·rw[aC _ _ _ _ e]at hm;exact e (R.apart m o n x b hm ho hn hx hf hb)⟩
theorem Rel.gone {E:Env} {h:aB} {w:World} (R:Rel E h w) {n:Nat} {x:bV} (hn:h n=some x):Rel E (aU h n .gone) w:=by
 refine⟨R.fin,λm hm=>?_,?_,?_,?_,R.laid.pD λb=>zG n b⟩
 ·by_cases e:m=n
  ·subst e;exact R.dom m (by simp[hn])
  ·rw[aC _ _ _ _ e]at hm;exact R.dom m hm
 ·intro m o b hm ho
  by_cases e:m=n
  ·subst e;rw[aI]at hm;obtain rfl:=gH hm;exact ho.elim
  ·rw[aC _ _ _ _ e]at hm;exact R.lt m o b hm ho
 ·intro m o m' o' b hm ho hm' ho'
  by_cases e:m=n
  ·subst e;rw[aI]at hm;obtain rfl:=gH hm;exact ho.elim
  ·by_cases e':m'=n
   ·subst e';rw[aI]at hm';obtain rfl:=gH hm';exact ho'.elim
   ·rw[aC _ _ _ _ e]at hm;rw[aC _ _ _ _ e']at hm';exact R.apart m o m' o' b hm ho hm' ho'
 ·intro m o hm
  by_cases e:m=n
  ·subst e;rw[aI]at hm;obtain rfl:=gH hm;trivial
  ·rw[aC _ _ _ _ e]at hm;exact(R.obj m o hm).pD λb=>zG n b
theorem Ev.gone {E:Env} {h:aB} {w:World} (n:Nat):Ev E h w E (aU h n .gone) w :=
 ⟨bX _,λb hb=>⟨rfl,zG n b hb⟩,λ_ _=>rfl,λ_ hn=>⟨rfl,hn⟩,rfl,rfl⟩
mutual
def Cell.val:Cell->aE
 | .v x=>x
 | .own sz es=>.sl sz (eU es) false
def eU:List (List Cell)->List (List aE)
 | []=>[]
 |e::es=>aEQ e::eU es
def aEQ:List Cell->List aE
 | []=>[]
 |c::cs=>c.val::aEQ cs
end
theorem aLY:∀ (e:List Cell),aEQ e=e.map Cell.val
 | []=>rfl
 |c::cs=>by simp[aEQ,aLY cs]
theorem xN:∀ (es:List (List Cell)),eU es=es.map (List.map Cell.val)
 | []=>rfl
 |e::es=>by simp[eU,xN es,aLY]
theorem rW (es:List (List Cell)) (i j:Nat):iJ (eU es) i j=(iJ es i j).map Cell.val:=by
 rw[xN,nF]
theorem uA (es:List (List Cell)):(eU es).length=es.length:=by rw[xN,gT]
theorem xO {sz:Nat} {es:List (List Cell)} (hs:∀ e∈es,e.length=sz):∀ e∈eU es,e.length=sz:=by
 intro e he
 rw[xN]at he
 obtain⟨e',he',rfl⟩:=lA.1 he
 simpa using hs e' he'
theorem wA.sC {E:Env} {h g:aB} {w:World} {x:Cell} {v:Value} {S:Nat->Prop} (hi:∀ b,nX E h w b->nX E g w b)
  (r:wA E h w x v S) (hS:∀ c,S c->nX E g w c):fC E g w x.val v:=by
 induction r with
 |v x c S h1 hx=>exact hx.pD hi
 |aTW sz a cap S hmax ha =>
  simp only[Cell.val,eU]
  exact .sl0 sz false a cap (λe=>by simp at e) hmax ha
 |own sz es b o cap S cs t cv T hb hh hlc hmax hm hs hT hD hc hr ih =>
  simp only[Cell.val]
  have:=fC.sl (E:=E) (h:=g) (w:=w) sz (eU es) false b o cap cv (hS b hb) (by rw[uA];exact hlc) hmax (λe=>by simp at e) (xO hs)
   (λi j x hx=>by
    rw[rW]at hx
    obtain⟨y,hy,rfl⟩:=q0.1 hx
    simp only[World.cell?,hh];exact hc i j y hy)
   (λi j x hx=>by
    rw[rW]at hx
    obtain⟨y,hy,rfl⟩:=q0.1 hx
    exact(hr i j y hy).one)
   (λi j x hx=>by
    rw[rW]at hx
    obtain⟨y,hy,rfl⟩:=q0.1 hx
    exact ih i j y hy λc hc=>hS c (hT i j c hc).1)
  rw[uA]at this
  exact this
section types
variable {P:Program} {w:World} {t:TypeId} {r:lJ}
theorem gQ (h:iE P t=some r):(sizeOf t).run P w=.ok r.sz w:=by
 obtain⟨i,u,hi,hu,h1,_⟩:=rV h
 simp[sizeOf,typeInfo,hi,h1]
theorem aTY (h:iE P t=some r):(isAgg t).run P w=.ok r.agg w:=by
 obtain⟨i,u,hi,hu,h1,h2,h3,h4,h5⟩:=rV h
 rw[h4]
 cases u <;> simp[isAgg,underlying,hu]
theorem cE (h:iE P t=some r):∃ u,P.underlying t=some u/\tyD P u=r.d/\(underlying t).run P w=.ok u w:=by
 obtain⟨i,u,hi,hu,h1,h2,h3,h4,h5⟩:=rV h
 exact⟨u,hu,h3.symm,by simp[underlying,hu]⟩
theorem pP (h:iE P t=some r) (hz:r.zero≠[]):∃ z,(zeroValue t).run P w=.ok z w/\z.cells.toList.map aE.ofValue=r.zero:=by
 obtain⟨i,u,hi,hu,h1,h2,h3,h4,h5⟩:=rV h
 cases e:i.zero with
 |none=>rw[h5,e]at hz;exact absurd rfl hz
 |some z=>exact⟨z,by simp[zeroValue,typeInfo,hi,e],by rw[h5,e]⟩
theorem gX {u:TypeDesc} {e:TypeId} (h:tyD P u=.slice e):u=.slice e:=by
 cases u <;> simp[tyD]at h ⊢ <;> first|exact h|(split at h <;> simp at h)
theorem a7X {u:TypeDesc} {n:Nat} {e:TypeId} (h:tyD P u=.arr n e):u=.array n e:=by
 cases u <;> simp[tyD]at h ⊢ <;> first|exact h|(split at h <;> simp at h)
theorem aC2 {u:TypeDesc} (h:tyD P u=.str):u=.string:=by
 cases u <;> simp[tyD]at h ⊢ <;> (split at h <;> simp at h)
theorem a27 {u:TypeDesc} (h:tyD P u=.bool):u=.bool:=by
 cases u <;> simp[tyD]at h ⊢ <;> (split at h <;> simp at h)
theorem aW4 {u:TypeDesc} {k:IntKind} (h:tyD P u=.int k):u=.int k:=by
 cases u <;> simp[tyD]at h ⊢ <;> first|exact h|(split at h <;> simp at h)
theorem a28 {u:TypeDesc} {fs:List (Nat×TypeId×Nat)} (h:tyD P u=.st fs):∃ gs:Array Field,u=.struct gs/\gs.toList.all (λf=>(P.info? f.type).isSome)=true/\gs.toList.map (λf=>(f.offset,f.type,P.cellsOf f.type))=fs:=by
 cases u with
 |struct gs =>
  simp only[tyD]at h
  split at h
  ·rename_i hg;exact⟨gs,rfl,hg,by simpa using h⟩
  ·simp at h
 | _=>simp[tyD]at h
theorem zH {f:Field} (h:(P.info? f.type).isSome=true):(sizeOf f.type).run P w=.ok (P.cellsOf f.type) w:=by
 cases e:P.info? f.type with
 |none=>simp[e]at h
 |some i=>simp[sizeOf,typeInfo,e,Program.cellsOf]
end types
def aE.flat:aE->Bool
 | .any | .agg _ | .gU _=>false
 | _=>true
def aE.cells:aE->List aE
 | .agg cs=>cs
 |x=>[x]
theorem fC.qD {E:Env} {h:aB} {w:World} {x:aE} {v:Value} (r:fC E h w x v) (hf:x.flat=true):v.oneCell'=true/\v.cells=#[v]:=by
 cases r <;> simp[aE.flat]at hf <;> exact⟨rfl,rfl⟩
theorem fC.aER {E:Env} {h:aB} {w:World} {x:aE} {v:Value} (r:fC E h w x v) (hf:x.cells.all aE.flat=true) :
  dV E h w x.cells v.cells.toList/\∀ c∈v.cells.toList,c.oneCell'=true:=by
 cases hx:x with
 |agg cs =>
  subst hx
  cases r with
  |agg _ vs hl hr =>
   have hL:dV E h w cs vs:=dV.mk hl hr
   refine⟨by simpa[aE.cells,Value.cells]using hL,?_⟩
   intro c hc
   have hc:c∈vs:=by simpa[Value.cells]using hc
   obtain⟨i,hi⟩:=a7L hc
   have hlt:i<cs.length:=by rw[hl];exact(iO.1 hi).1
   have hx:cs[i]?=some cs[i]:=eY hlt
   have:=hr i _ c hx hi
   exact(this.qD (by simp only[aE.cells]at hf;exact uX.1 hf _ (kM hlt))).1
 | _ =>
  subst hx
  first
   |(simp[aE.cells,aE.flat]at hf;done)
   |(obtain⟨h1,h2⟩:=r.qD rfl
     rw[h2]
     exact⟨⟨r,trivial⟩,λc hc=>by simp at hc;rw[hc];exact h1⟩)
def zI:List Cell->Option (List aE)
 | []=>some []
 | .v x::cs=>(zI cs).map (x::·)
 | .own _ _::_=>none
theorem aBW:∀ {l:List Cell} {xs:List aE},zI l=some xs->l=xs.map .v
 | [],xs,h=>by simp[zI]at h;subst h;rfl
 | .v x::cs,xs,h=>by
  simp only[zI,q0]at h
  obtain⟨ys,hy,rfl⟩:=h
  simp[aBW hy]
 | .own _ _::_,xs,h=>by simp[zI]at h
def ld (r:lJ) (e:List aE) (off:Nat):Option aE :=
 if r.agg then(if off+r.sz<=e.length then some (.agg ((e.drop off).take r.sz))else none)else e[off]?
def aFW (r:lJ) (e:List Cell) (off:Nat):Option aE :=
 if r.agg then(if off+r.sz<=e.length then(zI ((e.drop off).take r.sz)).map .agg else none)
 else match e[off]? with|some (.v x)=>some x|_=>none
theorem aC3 {P:Program} {w:World} {t:TypeId} {r:lJ} (ht:iE P t=some r) {b o:Nat} (f:Nat->Value)
  (hc:∀ j,j<(if r.agg then r.sz else 1)->w.cell? ⟨b,o+j,none⟩=some (f j)) :
  (loadVar t ⟨b,o,none⟩).run P w=.ok (if r.agg then .agg ((List.range r.sz).map f).toArray else f 0) w:=by
 simp only[loadVar,Sem.run_bind,aTY ht,Result.andThen_ok]
 cases ha:r.agg with
 |true =>
  simp only[ha,if_true]at hc ⊢
  simp only[Sem.run_bind,gQ ht,Result.andThen_ok]
  rw[run_loadCells w ⟨b,o,none⟩ r.sz f (λj hj=>by rw[←hc j hj];simp only[Addr.add];split <;> simp_all)]
  simp
 |false =>
  simp only[ha,aM9,if_false]at hc ⊢
  have:=hc 0 aA
  simp only[aTR]at this
  simp[this]
section
variable {P:Program} {o:Oper} {ρ:Operand->aE} {h:aB} {K:aE->aB->Prop}
theorem aFX {E:Env} {w:World} {v:Value} (t:TypeId) (r:lJ) (sz i off:Nat) (es:List (List aE)) (e:List aE) (x:aE) (ht:iE P t=some r)
  (hr:fC E h w (.ip sz es i off) v) (he:es[i]?=some e) (hx:ld r e off=some x):∃ b o c,v=.pointer (some ⟨b,o,none⟩)/\(loadVar t ⟨b,o,none⟩).run P w=.ok c w/\fC E h w x c:=by
  cases hr with
  |ip _ _ _ _ b o' cv hi hs hc h1 hrr =>
   have hsz:=hs e (rS he)
   have hat:∀ j y,e[j]?=some y->iJ es i j=some y:=λj y hy=>by simp[iJ,he,hy]
   have hcell:∀ j,j<(if r.agg then r.sz else 1)->off+j<e.length:=by
    intro j hj
    unfold ld at hx
    cases hg:r.agg with
    |true =>
     simp only[hg,if_true]at hx hj
     split at hx
     ·omega
     ·simp at hx
    |false =>
     simp only[hg,aM9,if_false]at hx hj
     have:=(iO.1 hx).1
     omega
   have hload:=aC3 (P:=P) (w:=w) ht (b:=b) (o:=o'+i*sz+off) (λj=>cv i (off+j)) (λj hj=>by
    have:=hc i (off+j) _ (hat (off+j) _ (eY (hcell j hj)))
    rw[←this];congr 2;omega)
   refine⟨_,_,_,rfl,hload,?_⟩
   unfold ld at hx
   cases hg:r.agg with
   |true =>
    simp only[hg,if_true]at hx hcell ⊢
    split at hx
    ·rename_i hle
     obtain rfl:=gH hx
     refine .agg _ _ sP ?_
     intro j y v hy hv
     have hj:j<r.sz:=by have:=(iO.1 hv).1;simpa using this
     simp only[qR,al9 hj,aBT,aZ6]at hv
     subst hv
     rw[aHV hj,aHW]at hy
     exact hrr i (off+j) y (hat _ _ hy)
    ·simp at hx
   |false =>
    simp only[hg,aM9,if_false,aTR]at hx hcell ⊢
    exact hrr i off x (hat _ _ hx)
theorem aQI (t:TypeId) (a:Operand) (r:lJ) (sz i off:Nat) (es:List (List aE)) (e:List aE) (x:aE) (ho:o.op=.load t a) (ht:iE P t=some r)
  (ha:ρ a=.ip sz es i off) (he:es[i]?=some e) (hx:ld r e off=some x) (hk:K x h):oV P o ρ h K :=
 cG hk λE w ρc _ hρ=>by
  obtain⟨b,k,c,hv,hrun,hc⟩:=aFX (P:=P) t r sz i off es e x ht (ha▸hρ a) he hx
  exact⟨c,by simp only[execOp,ho,Instr.loadAt,hv,Instr.sureAddr,Sem.run_bind,Sem.run_pure,Result.andThen_ok,hrun],hc⟩
theorem zJ {E:Env} {w:World} (R:Rel E h w) {n sz:Nat} {es:List (List Cell)} (hn:h n=some (.row sz es)) (hne:es≠[]∨∃ x,E.loc n=some x) :
  ∃ b o,E.loc n=some (b,o)/\aH5 E h w b o sz es (E.fp n):=by
 rcases R.obj n _ hn with h1|h1
 ·exact h1
 ·rcases hne with h2|⟨x,h2⟩
  ·exact absurd h1.1 h2
  ·rw[h1.2]at h2;simp at h2
theorem aLZ {α:Type} {es:List α} {i:Nat} {e:α} (h:es[i]?=some e):es≠[]:=by rintro rfl;simp at h
theorem aFY {E:Env} {w:World} {v:Value} (R:Rel E h w) (t:TypeId) (r:lJ) (n sz i off:Nat) (es:List (List Cell)) (e:List Cell) (x:aE) (ht:iE P t=some r)
  (hr:fC E h w (.op n sz i off) v) (hn:h n=some (.row sz es)) (he:es[i]?=some e) (hx:aFW r e off=some x):∃ b o c,v=.pointer (some ⟨b,o,none⟩)/\(loadVar t ⟨b,o,none⟩).run P w=.ok c w/\fC E h w x c:=by
  obtain⟨b,o',hl,hb,hs,cs,ct,cv,T,hh,hm,hT,hD,hc,hrr⟩:=zJ R hn (.inl (aLZ he))
  cases hr with
  |op _ _ _ _ b' o'' hd hl' =>
   rw[hl]at hl'
   obtain⟨rfl,rfl⟩:=aNA (gH hl')
   have hsz:=hs e (rS he)
   have hat:∀ j y,e[j]?=some y->iJ es i j=some y:=λj y hy=>by simp[iJ,he,hy]
   have hcell:∀ j,j<(if r.agg then r.sz else 1)->off+j<e.length:=by
    intro j hj
    unfold aFW at hx
    cases hg:r.agg with
    |true =>
     simp only[hg,if_true]at hx hj
     split at hx
     ·omega
     ·simp at hx
    |false =>
     simp only[hg,aM9,if_false]at hx hj
     split at hx
     ·rename_i he'
      have:=(iO.1 he').1
      omega
     ·simp at hx
   have hload:=aC3 (P:=P) (w:=w) ht (b:=b) (o:=o'+i*sz+off) (λj=>cv i (off+j)) (λj hj=>by
    have:=hc i (off+j) _ (hat (off+j) _ (eY (hcell j hj)))
    simp only[World.cell?,hh];rw[←this];simp;congr 1;omega)
   refine⟨_,_,_,rfl,hload,?_⟩
   have hval:∀ j y,e[j]?=some (.v y)->fC E h w y (cv i j):=λj y hy=>by
    have:=hrr i j _ (hat _ _ hy)
    generalize cv i j=c at this
    generalize T i j=S at this
    cases this with
    |v _ _ _ _ hx=>exact hx
   unfold aFW at hx
   cases hg:r.agg with
   |true =>
    simp only[hg,if_true]at hx hcell ⊢
    split at hx
    ·rename_i hle
     obtain⟨xs,hxs,rfl⟩:=q0.1 hx
     have hxs:=aBW hxs
     have hlen:xs.length=r.sz:=by have:=congrArg List.length hxs;simp at this;omega
     refine .agg _ _ (by simp[hlen]) ?_
     intro j y v hy hv
     have hj:j<r.sz:=by have:=(iO.1 hv).1;simpa using this
     simp only[qR,al9 hj,aBT,aZ6]at hv
     subst hv
     refine hval (off+j) y ?_
     have:((e.drop off).take r.sz)[j]?=some (.v y):=by rw[hxs,qR,hy];rfl
     rwa [aHV hj,aHW]at this
    ·simp at hx
   |false =>
    simp only[hg,aM9,if_false,aTR]at hx hcell ⊢
    split at hx
    ·rename_i y he'
     obtain rfl:=gH hx
     exact hval off _ he'
    ·simp at hx
theorem aQJ (t:TypeId) (a:Operand) (r:lJ) (n sz i off:Nat) (es:List (List Cell)) (e:List Cell) (x:aE) (ho:o.op=.load t a) (ht:iE P t=some r)
  (ha:ρ a=.op n sz i off) (hn:h n=some (.row sz es)) (he:es[i]?=some e) (hx:aFW r e off=some x) (hk:K x h):oV P o ρ h K :=
 cG hk λE w ρc R hρ=>by
  obtain⟨b,k,c,hv,hrun,hc⟩:=aFY (P:=P) R t r n sz i off es e x ht (ha▸hρ a) hn he hx
  exact⟨c,by simp only[execOp,ho,Instr.loadAt,hv,Instr.sureAddr,Sem.run_bind,Sem.run_pure,Result.andThen_ok,hrun],hc⟩
end
set_option linter.unusedVariables false
set_option linter.unusedSimpArgs false
def pE (e:List Cell) (off:Nat):List aE->List Cell
 | []=>e
 |v::vs=>pE (e.set off (.v v)) (off+1) vs
theorem mO {w:World} {b:Nat} {cs:Array Value} {t:TypeId} {f:Nat×Nat} (h:w.heap[b]?=some (.cells cs t f)):w.shape? b=some (t,cs.size):=by
 simp[World.shape?,h]
theorem aFZ {es:List (List Cell)} {i j i' j':Nat} {e:List Cell} {c x:Cell} (he:es[i]?=some e) (hx:iJ (es.set i (e.set j c)) i' j'=some x) :
  (i'=i/\j'=j/\x=c)∨(¬(i'=i/\j'=j)/\iJ es i' j'=some x):=by
 have hi:=(iO.1 he).1
 unfold iJ at *
 by_cases e1:i'=i
 ·subst e1
  rw[qT hi]at hx
  simp only[aZ5]at hx
  by_cases e2:j'=j
  ·subst e2
   left
   have hj:j'<e.length:=by have:=(iO.1 hx).1;simpa using this
   rw[qT hj]at hx
   exact⟨rfl,rfl,(gH hx).symm⟩
  ·right
   rw[rT (λe3=>e2 e3.symm)]at hx
   exact⟨λh=>e2 h.2,by rw[he];exact hx⟩
 ·right
  rw[rT (λe2=>e1 e2.symm)]at hx
  exact⟨λh=>e1 h.1,hx⟩
theorem aBX {i n sz j:Nat} (hi:i<n) (hj:j<sz):i*sz+j<n*sz:=by
 have:=a2B sz (Nat.succ_le_of_lt hi)
 rw[a2C]at this
 omega
theorem a7Y {sz i j i' j':Nat} (hj:j<sz) (hj':j'<sz) (h:i*sz+j=i'*sz+j'):i=i'/\j=j':=by
 have h1:(i*sz+j) / sz=i:=by rw[aHX,Nat.mul_add_div aA,a7M hj];omega
 have h2:(i'*sz+j') / sz=i':=by rw[aHX,Nat.mul_add_div aA,a7M hj'];omega
 have:i=i':=by rw[←h1,←h2,h]
 subst this
 exact⟨rfl,by omega⟩
theorem a0E {P:Program} {E:Env} {h:aB} {w:World} (R:Rel E h w) {n sz:Nat} {es:List (List Cell)} (hn:h n=some (.row sz es)) {b o:Nat} (hl:E.loc n=some (b,o))
  {i j:Nat} {e:List Cell} (he:es[i]?=some e) (hj:j<e.length) {x:aE} {c:Value} (hone:c.oneCell'=true) (hx:fC E h w x c) :
  (store ⟨b,o+i*sz+j,none⟩ c).run P w=.ok () (w.setCell ⟨b,o+i*sz+j,none⟩ c) /\
  Ev E h w E (aU h n (.row sz (es.set i (e.set j (.v x))))) (w.setCell ⟨b,o+i*sz+j,none⟩ c) /\
  Rel E (aU h n (.row sz (es.set i (e.set j (.v x))))) (w.setCell ⟨b,o+i*sz+j,none⟩ c):=by
 obtain⟨b',o',hl',hb,hs,cs,ct,cv,T,hh,hm,hT,hD,hc,hrr⟩:=zJ R hn (.inl (aLZ he))
 rw[hl]at hl'
 obtain⟨rfl,rfl⟩:=aNA (gH hl')
 have hsz:=hs e (rS he)
 have hi:=(iO.1 he).1
 have hat:iJ es i j=some e[j]:=by simp[iJ,he,eY hj]
 have hcell:=hc i j _ hat
 have hlt:o+i*sz+j<cs.size:=(aPZ.1 hcell).1
 have hw?:w.cell? ⟨b,o+i*sz+j,none⟩=some (cv i j):=by simp only[World.cell?,hh];simpa using hcell
 have hfz:w.frozen? ⟨b,o+i*sz+j,none⟩=false:=by simp[World.frozen?,hh]
 have hrun:(store ⟨b,o+i*sz+j,none⟩ c).run P w=.ok () (w.setCell ⟨b,o+i*sz+j,none⟩ c):=by
  rw[run_store P w _ _ _ hone,hw?];simp[hfz]
 have hheap:(w.setCell ⟨b,o+i*sz+j,none⟩ c).heap[b]?=some (.cells (cs.setIfInBounds (o+i*sz+j) c) ct (0,0)):=by
  simp[World.setCell,Array.getElem?_modify,hh]
 have hoth:∀ k,k≠b->(w.setCell ⟨b,o+i*sz+j,none⟩ c).heap[k]?=w.heap[k]?:=λk hk=>by
  simp[World.setCell,Array.getElem?_modify,iK hk]
 have hsh:(w.setCell ⟨b,o+i*sz+j,none⟩ c).shape? b=w.shape? b:=by rw[mO hheap,mO hh];simp
 have ev:=Ev.write R hn trivial hb (.row sz (es.set i (e.set j (.v x)))) trivial (World.size_setCell _ _ _) hoth hsh rfl rfl
 refine⟨hrun,ev,R.write hn trivial hb _ trivial (World.size_setCell _ _ _) hoth hsh rfl rfl (.inl ⟨b,o,hl,hb,?_,cs.setIfInBounds (o+i*sz+j) c,ct,
  λi' j'=>if i'=i/\j'=j then c else cv i' j',T,hheap,by simpa using hm,hT,hD,?_,?_⟩)⟩
 ·intro e' he'
  rcases wJ he' with h1|h1
  ·exact hs e' h1
  ·rw[h1];simpa using hsz
 ·intro i' j' y hy
  rcases aFZ he hy with⟨rfl,rfl,rfl⟩|⟨hne,hy'⟩
  ·simp[Array.getElem?_setIfInBounds,hlt]
  ·have hj':=aGX hs hy'
   have:o+i*sz+j≠o+i'*sz+j':=λe=>hne (by
    have:=a7Y (sz:=sz) (i:=i) (j:=j) (i':=i') (j':=j') aA hj' aA
    exact⟨this.1.symm,this.2.symm⟩)
   simp only[if_neg hne]
   rw[aTS this]
   exact hc i' j' y hy'
 ·intro i' j' y hy
  rcases aFZ he hy with⟨rfl,rfl,rfl⟩|⟨hne,hy'⟩
  ·simp only[and_self,if_true]
   exact .v _ _ _ hone (hx.ev ev)
  ·simp only[if_neg hne]
   exact(hrr i' j' y hy').ev ev λk hk=>hoth k (hT i' j' k hk).2
theorem aNE (es:List (List Cell)) (i:Nat) (a b:List Cell):(es.set i a).set i b=es.set i b:=by simp
theorem aH8 {P:Program} {n sz:Nat} {b o i:Nat}:∀ (xs:List aE) (vs:List Value) {E:Env} {h:aB} {w:World} (R:Rel E h w) {es:List (List Cell)} (hn:h n=some (.row sz es)) (hl:E.loc n=some (b,o))
  {j k:Nat} {e:List Cell} (he:es[i]?=some e) (hj:j+k+xs.length<=e.length) (hone:∀ c∈vs,c.oneCell'=true) (hx:dV E h w xs vs),
  ∃ w',(storeCells ⟨b,o+i*sz+j,none⟩ vs k).run P w=.ok () w'/\Ev E h w E (aU h n (.row sz (es.set i (pE e (j+k) xs)))) w'/\Rel E (aU h n (.row sz (es.set i (pE e (j+k) xs)))) w'
 | [],[],E,h,w,R,es,hn,hl,j,k,e,he,hj,hone,hx=>by
  refine⟨w,by simp[storeCells],?_⟩
  have hi:=(iO.1 he).1
  have:es.set i (pE e (j+k) [])=es:=by
   have:es[i]=e:=(iO.1 he).2
   simp[pE,←this]
  rw[this]
  have:aU h n (.row sz es)=h:=by funext m;simp only[aU];split <;> simp_all
  rw[this]
  exact⟨.refl _ _ _,R⟩
 |x::xs,c::vs,E,h,w,R,es,hn,hl,j,k,e,he,hj,hone,hx=>by
  have hlen:j+k<e.length:=by simp at hj;omega
  obtain⟨h1,h2,h3⟩:=a0E (P:=P) R hn hl he hlen (hone c dG) hx.1
  have hi:=(iO.1 he).1
  have he':(es.set i (e.set (j+k) (.v x)))[i]?=some (e.set (j+k) (.v x)):=by rw[qT hi]
  obtain⟨w',hw',ev',R'⟩:=aH8 xs vs h3 (aI _ _ _) hl (j:=j) (k:=k+1) he' (by simp at hj ⊢;omega) (λc hc=>hone c (by simp[hc])) (hx.2.ev h2)
  rw[aO,aNE]at ev' R'
  have hst:pE e (j+k) (x::xs)=pE (e.set (j+k) (.v x)) (j+(k+1)) xs:=by simp only[pE];rfl
  rw[hst]
  refine⟨w',?_,h2.trans ev',R'⟩
  simp only[storeCells,Sem.run_bind]
  have ha:(⟨b,o+i*sz+j,none⟩:Addr).add k=⟨b,o+i*sz+(j+k),none⟩:=by
   simp only[Addr.add];split
   ·subst_vars;rfl
   ·simp
  rw[ha,h1]
  exact hw'
 | [],_::_,_,_,_,_,_,_,_,_,_,_,_,_,_,hx=>hx.elim
 | _::_,[],_,_,_,_,_,_,_,_,_,_,_,_,_,hx=>hx.elim
section
variable {P:Program} {o:Oper} {ρ:Operand->aE} {h:aB} {K:aE->aB->Prop}
theorem a0F (t:TypeId) (a v:Operand) (r:lJ) (n sz i off:Nat) (es:List (List Cell)) (e:List Cell) (ho:o.op=.store t a v) (ht:iE P t=some r)
  (ha:ρ a=.op n sz i off) (hn:h n=some (.row sz es)) (he:es[i]?=some e) (hf:(ρ v).cells.all aE.flat=true) (hsz:(ρ v).cells.length=r.sz) (hoff:off+r.sz<=e.length)
  (hk:K .any (aU h n (.row sz (es.set i (pE e off (ρ v).cells))))):oV P o ρ h K:=by
 intro E w ρc R hρ
 have hr:=hρ a
 rw[ha]at hr
 cases hv:ρc a <;> rw[hv]at hr <;> try(cases hr;done)
 cases hr with
 |op _ _ _ _ b o' hd hl =>
  obtain⟨hL,h1⟩:=(hρ v).aER hf
  obtain⟨w',hrun,ev,R'⟩:=aH8 (P:=P) _ _ R hn hl (j:=off) (k:=0) he aA h1 hL
  simp only[aTR]at ev R'
  have hsize:(ρc v).cells.size=r.sz:=by have:=hL.length;simp at this;omega
  refine .a7V (w':=w') ?_ ⟨.any,_,E,hk,ev,R',.any _⟩
  simp only[execOp,ho,Instr.storeAt,hv,Instr.sureAddr,Sem.run_bind,Sem.run_pure,Result.andThen_ok,storeVar,gQ ht,hsize,ne_eq,not_true_eq_false,if_false,hrun,Sem.run_ite]
end
theorem vA {es:List (List aE)} {sz i j:Nat} {x:aE} (hs:∀ e∈es,e.length=sz) (hx:iJ es i j=some x):i*sz+j<es.length*sz :=
 aBX (a23 hx) (aGX hs hx)
theorem Rel.aH9 {E:Env} {h:aB} {w:World} (R:Rel E h w) {n:Nat} (hn:¬E.used n) (sz:Nat) (es:List (List aE)) (hs:∀ e∈es,e.length=sz)
  (cs:Array Value) (t:TypeId) (d:Nat) (vs rest:List Value) (hcs:cs.toList=vs++rest) (hL:dV E h w es.flatten vs) (h1:∀ c∈vs,c.oneCell'=true) :
  Rel (E.add n w.heap.size) (aU h n (.row sz (es.map (List.map .v)))) (tZ w (.cells cs t) d):=by
 have hlen:vs.length=es.length*sz:=by rw[←hL.length,length_flatten es hs]
 have hget:∀ k,k<vs.length->cs[k]?=vs[k]?:=λk hk=>by
  rw[←al6,hcs,tU hk]
 refine R.a0D hn sz es hs cs t d (λi j=>(vs[i*sz+j]?).getD undef) ?_ ?_
 ·rw[←hlen,←Array.length_toList,hcs];simp
 ·intro i j x hx
  have hlt:=vA hs hx
  have hk:i*sz+j<vs.length:=by omega
  have hv:vs[i*sz+j]?=some vs[i*sz+j]:=eY hk
  refine⟨by rw[hget _ hk,hv];simp,by rw[hv];exact h1 _ (kM hk),?_⟩
  rw[hv]
  exact hL.get _ _ _ (u9 es hs i j x hx) hv
section
variable {P:Program} {o:Oper} {ρ:Operand->aE} {h:aB} {K:aE->aB->Prop}
theorem pQ (w:World) (o:Obj):{ w with heap:=w.heap.push o }=tZ w o w.drawn:=rfl
theorem aF0 (sz:Nat) (e:List aE) (he:e.length=sz) (hk:∀ n,h n=none->K (.op n sz 0 0) (aU h n (.row sz [e.map .v])))
  (hx:∀ E w (ρc:Operand->Value),Rel E h w->(∀ x,fC E h w (ρ x) (ρc x))->∃ (cs:Array Value) (t:TypeId) (d:Nat),
   (execOp ρc o).run P w=.ok (.value (.pointer (some ⟨w.heap.size,0,none⟩))) (tZ w (.cells cs t) d)/\dV E h w e cs.toList/\∀ c∈cs.toList,c.oneCell'=true):oV P o ρ h K:=by
 intro E w ρc R hρ
 obtain⟨cs,t,d,hrun,hL,h1⟩:=hx E w ρc R hρ
 obtain⟨n,hn⟩:=R.fresh
 refine .jM hrun ⟨.op n sz 0 0,_,E.add n w.heap.size,hk n (R.none hn),Ev.alloc R hn _ _ _,?_,?_⟩
 ·exact R.aH9 hn sz [e] (by simpa using he) cs t d cs.toList [] dG (by simpa using hL) h1
 ·have:=fC.op (E:=E.add n w.heap.size) (h:=aU h n (.row sz [e.map .v])) (w:=tZ w (.cells cs t) d) n sz 0 0 w.heap.size 0 (.inl rfl) (by simp[Env.add])
  simpa using this
theorem wC (sz len:Nat) (es:List (List aE)) (hs:∀ e∈es,e.length=sz) (hk:∀ n,h n=none->K (.os n sz 0 len) (aU h n (.row sz (es.map (List.map .v)))))
  (hx:∀ E w (ρc:Operand->Value),Rel E h w->(∀ x,fC E h w (ρ x) (ρc x))->∃ (cs:Array Value) (t:TypeId) (d cap:Nat) (vs rest:List Value),
   (execOp ρc o).run P w=.ok (.value (.slice (some ⟨w.heap.size,0,none⟩) len cap)) (tZ w (.cells cs t) d)/\len<=cap/\cap<=maxLen/\cap*sz<=cs.size /\
   cs.toList=vs++rest/\dV E h w es.flatten vs/\∀ c∈vs,c.oneCell'=true):oV P o ρ h K:=by
 intro E w ρc R hρ
 obtain⟨cs,t,d,cap,vs,rest,hrun,hlc,hmax,hm,hcs,hL,h1⟩:=hx E w ρc R hρ
 obtain⟨n,hn⟩:=R.fresh
 refine .jM hrun ⟨.os n sz 0 len,_,E.add n w.heap.size,hk n (R.none hn),Ev.alloc R hn _ _ _,?_,?_⟩
 ·exact R.aH9 hn sz es hs cs t d vs rest hcs hL h1
 ·have:=fC.os (E:=E.add n w.heap.size) (h:=aU h n (.row sz (es.map (List.map .v)))) (w:=tZ w (.cells cs t) d) n sz 0 len w.heap.size 0 cap t cs.size (.inl rfl) (by simp[Env.add]) hlc hmax
   (by simp only[World.shape?,u7]) (by simpa using hm)
  simpa using this
theorem a7Z (t:TypeId) (x:Operand) (ho:o.op=.box t x) (hf:(ρ x).cells.all aE.flat=true)
  (hk:∀ n,h n=none->K (.op n (ρ x).cells.length 0 0) (aU h n (.row (ρ x).cells.length [(ρ x).cells.map .v]))):oV P o ρ h K :=
 aF0 _ (ρ x).cells rfl hk λE w ρc R hρ=>by
  obtain⟨hL,h1⟩:=(hρ x).aER hf
  refine⟨(ρc x).cells,t,w.drawn,?_,hL,h1⟩
  simp only[execOp,ho,Instr.box,newVar,newRow,Sem.run_bind,run_newObj,Result.andThen_ok,Sem.run_pure,pQ]
theorem aQK (t:TypeId) (x:Operand) (ho:o.op=.box t x) (hc:(ρ x).cells=[.jU,.bS])
  (hk:∀ n,h n=none->K (.op n 2 0 0) (aU h n (.raw t #[.pointer none,.slice none 0 0]))):oV P o ρ h K:=by
 intro E w ρc R hρ
 obtain⟨hL,h1⟩:=(hρ x).aER (by rw[hc];rfl)
 rw[hc]at hL
 have hcs:(ρc x).cells=#[.pointer none,.slice none 0 0]:=by
  have hl:=hL.length
  match hv:(ρc x).cells.toList,hL with
  | [a,b],hL =>
   have ha:a=.pointer none:=by have:=hL.1;cases a <;> (try cases this) <;> rfl
   have hb:b=.slice none 0 0:=by have:=hL.2.1;cases b <;> (try cases this) <;> rfl
   apply Array.toList_inj.1
   rw[hv,ha,hb]
 obtain⟨n,hn⟩:=R.fresh
 refine .jM (v:=.pointer (some ⟨w.heap.size,0,none⟩)) (w':=tZ w (.cells #[.pointer none,.slice none 0 0] t) w.drawn) ?_ ⟨.op n 2 0 0,_,E.add n w.heap.size,hk n (R.none hn),Ev.alloc R hn _ _ _,R.aLX hn _ _ _ ⟨w.heap.size,by simp[Env.add],by simp[Env.add],u7 _ _ _⟩,?_⟩
 ·simp only[execOp,ho,Instr.box,newVar,newRow,Sem.run_bind,run_newObj,Result.andThen_ok,Sem.run_pure,pQ,hcs]
 ·have:=fC.op (E:=E.add n w.heap.size) (h:=aU h n (.raw t #[.pointer none,.slice none 0 0])) (w:=tZ w (.cells #[.pointer none,.slice none 0 0] t) w.drawn) n 2 0 0 w.heap.size 0 (.inl rfl) (by simp[Env.add])
  simpa using this
theorem qE (E:Env) (h:aB) (w:World):∀ (l:List Value),dV E h w (l.map aE.ofValue) l
 | []=>trivial
 |v::l=>⟨.ofValue E h w v,qE E h w l⟩
theorem dV.qD {E:Env} {w:World}:∀ {xs:List aE} {vs:List Value},dV E h w xs vs->xs.all aE.flat=true->∀ c∈vs,c.oneCell'=true
 | [],[],_,_,c,hc=>by simp at hc
 |x::xs,v::vs,hL,hf,c,hc=>by
  simp only[List.all_cons,l7]at hf
  rcases mW.1 hc with e|e
  ·rw[e];exact(hL.1.qD hf.1).1
  ·exact dV.qD hL.2 hf.2 c e
 | [],_::_,hL,_,_,_=>hL.elim
 | _::_,[],hL,_,_,_=>hL.elim
theorem a0G (t:TypeId) (r:lJ) (ho:o.op=.alloc t) (ht:iE P t=some r) (hz:r.zero≠[]) (hf:r.zero.all aE.flat=true)
  (hk:∀ n,h n=none->K (.op n r.zero.length 0 0) (aU h n (.row r.zero.length [r.zero.map .v]))):oV P o ρ h K :=
 aF0 _ r.zero rfl hk λE w ρc R hρ=>by
  obtain⟨z,hrun,hzz⟩:=pP (w:=w) ht hz
  have hL:dV E h w r.zero z.cells.toList:=by rw[←hzz];exact qE E h w _
  refine⟨z.cells,t,w.drawn,?_,hL,hL.qD hf⟩
  simp only[execOp,ho,Instr.alloc,newVar,newRow,Sem.run_bind,run_newObj,hrun,Result.andThen_ok,Sem.run_pure,pQ]
theorem lV (b o k:Nat):(⟨b,o,none⟩:Addr).add k=⟨b,o+k,none⟩:=by
 simp only[Addr.add];split
 ·subst_vars;rfl
 ·rfl
theorem aBG (t:TypeId) (x:Operand) (f:Nat) (r:lJ) (fs:List (Nat×TypeId×Nat)) (off sz':Nat) (ft:TypeId) (v:aE) (ho:o.op=.fieldAddr t x f) (ht:iE P t=some r) (hd:r.d=.st fs)
  (hf:fs[f]?=some (off,ft,sz')) (hsz:sz'≠0) (hv:(∃ n sz i k,ρ x=.op n sz i k/\v=.op n sz i (k+off))∨(∃ sz es i k,ρ x=.ip sz es i k/\v=.ip sz es i (k+off))) (hk:K v h):oV P o ρ h K :=
 cG hk λE w ρc R hρ=>by
  have hr:=hρ x
  obtain⟨u,hu,hud,hrun⟩:=cE (w:=w) ht
  obtain⟨gs,rfl,hall,hgs⟩:=a28 (hud.trans hd)
  rw[←hgs]at hf
  simp only[qR,q0,Prod.mk.injEq]at hf
  obtain⟨g,hg,rfl,rfl,rfl⟩:=hf
  have hinfo:(P.info? g.type).isSome=true:=uX.1 hall _ (rS hg)
  have hsize:=zH (w:=w) hinfo
  have hg':gs[f]?=some g:=by simpa using hg
  have key:∀ b k,ρc x=.pointer (some ⟨b,k,none⟩)->(execOp ρc o).run P w=.ok (.value (.pointer (some ⟨b,k+g.offset,none⟩))) w:=by
   intro b k hb
   simp only[execOp,ho,Instr.fieldAt,hb,Sem.run_bind,hrun,Result.andThen_ok,hg',Instr.sureAddr,Sem.run_pure,fieldPlace,hsize,Sem.run_ite,hsz,if_false,lV]
  rcases hv with⟨n,sz,i,k,e,rfl⟩|⟨sz,es,i,k,e,rfl⟩
  ·rw[e]at hr
   cases hv:ρc x <;> rw[hv]at hr <;> try(cases hr;done)
   cases hr with
   |op _ _ _ _ b o' hd' hl =>
    refine⟨_,key _ _ hv,?_⟩
    have:=fC.op (E:=E) (h:=h) (w:=w) n sz i (k+g.offset) b o' hd' hl
    rwa [←aTT]at this
  ·rw[e]at hr
   cases hv:ρc x <;> rw[hv]at hr <;> try(cases hr;done)
   cases hr with
   |ip _ _ _ _ b o' cv hi hs hc h1 hrr =>
    refine⟨_,key _ _ hv,?_⟩
    have:=fC.ip (E:=E) (h:=h) (w:=w) sz es i (k+g.offset) b o' cv hi hs hc h1 hrr
    rwa [←aTT]at this
theorem aES (t et:TypeId) (x i:Operand) (r re:lJ) (sz:Nat) (es:List (List aE)) (tg:Bool) (k:IntKind) (n:Int) (ho:o.op=.indexAddr t x i) (ht:iE P t=some r) (hd:r.d=.slice et)
  (he:iE P et=some re) (hsz:re.sz=sz) (hx:ρ x=.sl sz es tg) (hi:ρ i=.int k n) (h0:0<=n) (hn:n<es.length) (hk:K (.ip sz es n.toNat 0) h):oV P o ρ h K :=
 cG hk λE w ρc R hρ=>by
  have hr:=hρ x
  have hri:=lD (hi▸hρ i)
  rw[hx]at hr
  obtain⟨u,hu,hud,hrun⟩:=cE (w:=w) ht
  obtain rfl:=gX (hud.trans hd)
  have hsize:=gQ (w:=w) he
  cases hv:ρc x <;> rw[hv]at hr <;> try(cases hr;done)
  cases hr with
  |sl0=>simp at hn;omega
  |sl _ _ _ b o' cap cv hI hcap hmax htt hs hc h1 hrr =>
   refine⟨.pointer (some ⟨b,o'+n.toNat*sz,none⟩),?_,?_⟩
   ·simp only[execOp,ho,Instr.indexAt,hri,hv,asIntOf,Sem.run_bind,Sem.run_pure,Result.andThen_ok,hrun]
    have:(0<=n/\n<(es.length:Int)):=⟨h0,hn⟩
    simp[this,hsize,hsz,lV]
   ·have:=fC.ip (E:=E) (h:=h) (w:=w) sz es n.toNat 0 b o' cv hI hs hc h1 hrr
    simpa using this
theorem aET (t et:TypeId) (x i:Operand) (r re:lJ) (m sz i0 len:Nat) (k:IntKind) (n:Int) (ho:o.op=.indexAddr t x i) (ht:iE P t=some r) (hd:r.d=.slice et)
  (he:iE P et=some re) (hsz:re.sz=sz) (hx:ρ x=.os m sz i0 len) (hi:ρ i=.int k n) (h0:0<=n) (hn:n<len) (hk:K (.op m sz (i0+n.toNat) 0) h):oV P o ρ h K :=
 cG hk λE w ρc R hρ=>by
  have hr:=hρ x
  have hri:=lD (hi▸hρ i)
  rw[hx]at hr
  obtain⟨u,hu,hud,hrun⟩:=cE (w:=w) ht
  obtain rfl:=gX (hud.trans hd)
  have hsize:=gQ (w:=w) he
  cases hv:ρc x <;> rw[hv]at hr <;> try(cases hr;done)
  cases hr with
  |os0=>simp at hn;omega
  |os _ _ _ _ b o' cap tt mm hd' hl hlc hmax hsh hm =>
   refine⟨.pointer (some ⟨b,o'+(i0+n.toNat)*sz,none⟩),?_,?_⟩
   ·simp only[execOp,ho,Instr.indexAt,hri,hv,asIntOf,Sem.run_bind,Sem.run_pure,Result.andThen_ok,hrun]
    have:(0<=n/\n<(len:Int)):=⟨h0,hn⟩
    simp[this,hsize,hsz,lV,tV,aTT]
   ·have:=fC.op (E:=E) (h:=h) (w:=w) m sz (i0+n.toNat) 0 b o' hd' hl
    simpa using this
theorem aGY (t:TypeId) (x:Operand) (r:lJ) (n:Nat) (ats:Array TypeId) (ho:o.op=.call { callee:=.builtin .len,args:=#[x],argTypes:=ats }) (hat:ats[0]?=some t) (ht:iE P t=some r)
  (hx:(∃ e sz es tg,r.d=.slice e/\ρ x=.sl sz es tg/\n=es.length)∨(∃ e m sz i,r.d=.slice e/\ρ x=.os m sz i n)∨(∃ e,r.d=.slice e/\ρ x=.bS/\n=0)∨(∃ s,r.d=.str/\ρ x=.str s/\n=s.length))
  (hk:n<=9223372036854775807->K (.int .i64 n) h):oV P o ρ h K:=by
 intro E w ρc R hρ
 have hr:=hρ x
 obtain⟨u,hu,hud,hrun⟩:=cE (w:=w) ht
 have hml:maxLen=9223372036854775807:=rfl
 suffices hs:n<=9223372036854775807/\(execOp ρc o).run P w=.ok (.value (.int .i64 n)) w from .jM hs.2 (.same (hk hs.1) R (.int _ _))
 have hat':∃ a,ats[0]?=some a/\a=t:=⟨t,hat,rfl⟩
 rcases hx with⟨e,sz,es,tg,hd,hx,rfl⟩|⟨e,m,sz,i,hd,hx⟩|⟨e,hd,hx,rfl⟩|⟨s,hd,hx,rfl⟩
 ·obtain rfl:=gX (hud.trans hd)
  rw[hx]at hr
  cases hv:ρc x <;> rw[hv]at hr <;> try(cases hr;done)
  cases hr with
  |sl0=>exact⟨by simp,by simp[execOp,ho,resolve,invoke,builtin,Builtin.len_,hat,hv,hrun,goInt]⟩
  |sl _ _ _ b o' cap cv hI hcap hmax htt hs hc h1 hrr =>
   exact⟨by omega,by simp[execOp,ho,resolve,invoke,builtin,Builtin.len_,hat,hv,hrun,goInt]⟩
 ·obtain rfl:=gX (hud.trans hd)
  rw[hx]at hr
  cases hv:ρc x <;> rw[hv]at hr <;> try(cases hr;done)
  cases hr with
  |os0=>exact⟨by simp,by simp[execOp,ho,resolve,invoke,builtin,Builtin.len_,hat,hv,hrun,goInt]⟩
  |os _ _ _ _ b o' cap tt mm hd' hl hlc hmax hsh hm =>
   exact⟨by omega,by simp[execOp,ho,resolve,invoke,builtin,Builtin.len_,hat,hv,hrun,goInt]⟩
 ·obtain rfl:=gX (hud.trans hd)
  rw[hx]at hr
  cases hv:ρc x <;> rw[hv]at hr <;> try(cases hr;done)
  cases hr with
  |bS=>exact⟨by omega,by simp[execOp,ho,resolve,invoke,builtin,Builtin.len_,hat,hv,hrun,goInt]⟩
 ·obtain rfl:=aC2 (hud.trans hd)
  rw[hx]at hr
  cases hv:ρc x <;> rw[hv]at hr <;> try(cases hr;done)
  cases hr with
  |str _ hl=>exact⟨by omega,by simp[execOp,ho,resolve,invoke,builtin,Builtin.len_,hat,hv,hrun,goInt];rfl⟩
theorem aKZ (t:TypeId) (x i:Operand) (r:lJ) (s:List UInt8) (k:IntKind) (n:Int) (c:UInt8) (ho:o.op=.index t x i) (ht:iE P t=some r) (hd:r.d=.str)
  (hx:ρ x=.str s) (hi:ρ i=.int k n) (h0:0<=n) (hc:s[n.toNat]?=some c) (hk:K (.int .u8 c.toNat) h):oV P o ρ h K :=
 cG hk λE w ρc R hρ=>by
  obtain⟨hv,_⟩:=u6 (hx▸hρ x)
  have hri:=lD (hi▸hρ i)
  obtain⟨u,hu,hud,hrun⟩:=cE (w:=w) ht
  obtain rfl:=aC2 (hud.trans hd)
  refine⟨.int .u8 c.toNat,?_,.int _ _⟩
  have:(⟨s.toArray⟩:ByteArray)[n.toNat]?=some c:=by
   have hlt:=(iO.1 hc).1
   have hge:=(iO.1 hc).2
   rw[getElem?_pos (⟨s.toArray⟩:ByteArray) n.toNat (by simpa[ByteArray.size]using hlt)]
   congr 1
  simp[execOp,ho,Instr.index,hri,hv,asIntOf,hrun,h0,this]
theorem aQL (t:Operand) (i:Nat) (cs:List aE) (x:aE) (ho:o.op=.extract t i) (ht:ρ t=.gU cs) (hx:cs[i]?=some x) (hk:K x h):oV P o ρ h K :=
 cG hk λE w ρc R hρ=>by
  have hr:=hρ t
  rw[ht]at hr
  cases hv:ρc t <;> rw[hv]at hr <;> try(cases hr;done)
  cases hr with
  |gU _ vs hl hrr =>
   have hlt:i<vs.length:=by rw[←hl];exact(iO.1 hx).1
   have hvi:vs[i]?=some vs[i]:=eY hlt
   exact⟨vs[i],by simp[execOp,ho,Instr.extract,hv,hvi],hrr i _ _ hx hvi⟩
theorem a70 (t:TypeId) (x:Operand) (b:Bool) (ho:o.op=.unOp .not t x) (hx:ρ x=.bool b) (hk:K (.bool (!b)) h):oV P o ρ h K :=
 cG hk λE w ρc R hρ=>by
  have hv:=wT (hx▸hρ x)
  exact⟨.bool (!b),by simp[execOp,ho,hv,Op.unary],.bool _⟩
theorem a71 (t:TypeId) (x:Operand) (k:IntKind) (n:Int) (ho:o.op=.unOp .neg t x) (hx:ρ x=.int k n) (hk:K (.int k (k.wrap (0-n))) h):oV P o ρ h K :=
 cG hk λE w ρc R hρ=>by
  have hv:=lD (hx▸hρ x)
  exact⟨.int k (k.wrap (0-n)),by simp[execOp,ho,hv,Op.unary,Op.intArith],.int _ _⟩
theorem aC4 (x:Operand) (ho:o.op=.nilCheck x) (hx:(∃ n sz i k,ρ x=.op n sz i k)∨(∃ sz es i k,ρ x=.ip sz es i k)) (hk:K (ρ x) h):oV P o ρ h K :=
 cG hk λE w ρc R hρ=>by
  have hr:=hρ x
  refine⟨ρc x,?_,hr⟩
  rcases hx with⟨n,sz,i,k,e⟩|⟨sz,es,i,k,e⟩ <;> rw[e]at hr <;> (cases hv:ρc x <;> rw[hv]at hr <;> try(cases hr;done)) <;> cases hr <;> simp[execOp,ho,hv]
theorem aGL (s d:TypeId) (x:Operand) (rs rd:lJ) (k k':IntKind) (n:Int) (ho:o.op=.convert s d x) (hs:iE P s=some rs) (hd:iE P d=some rd) (hk':rd.d=.int k')
  (hx:ρ x=.int k n) (hk:K (.int k' (k'.wrap n)) h):oV P o ρ h K :=
 cG hk λE w ρc R hρ=>by
  have hv:=lD (hx▸hρ x)
  obtain⟨u,hu,hud,hrun⟩:=cE (w:=w) hs
  obtain⟨u',hu',hud',hrun'⟩:=cE (w:=w) hd
  obtain rfl:=aW4 (hud'.trans hk')
  exact⟨.int k' (k'.wrap n),by simp[execOp,ho,convert,hv,hrun,hrun',Conv.intToInt],.int _ _⟩
theorem aC5 {E:Env} {w:World} {ρc:Operand->Value} (hρ:∀ x,fC E h w (ρ x) (ρc x)):∀ (l:List Operand),dV E h w (l.map ρ) (l.map ρc)
 | []=>trivial
 |x::l=>⟨hρ x,aC5 hρ l⟩
theorem aNF (fn:Fn) (fs cs:Array Operand) (ho:o.op=.makeFunc fn fs cs) (hk:K (.fn fn (fs.toList.map ρ) (cs.toList.map ρ)) h):oV P o ρ h K :=
 cG hk λE w ρc R hρ=>by
  refine⟨.func fn (fs.map ρc) (cs.map ρc),by simp[execOp,ho,Instr.makeFunc],?_⟩
  have h1:=aC5 hρ fs.toList
  have h2:=aC5 hρ cs.toList
  have:=fC.fn (E:=E) (h:=h) (w:=w) fn _ _ _ _ h1.length h1.get h2.length h2.get
  have e:∀ (a:Array Operand),(a.toList.map ρc).toArray=a.map ρc:=λa=>by cases a;simp
  rwa [e,e]at this
end
section
variable {P:Program} {o:Oper} {ρ:Operand->aE} {h:aB} {K:aE->aB->Prop}
theorem aC6 (op:BinOp) (t ty:TypeId) (x y:Operand) (r:lJ) (a b:Bool) (v:aE) (ho:o.op=.binOp op t x y ty) (ht:iE P t=some r) (hd:r.d=.bool) (hx:ρ x=.bool a) (hy:ρ y=.bool b)
  (hop:(op=.eql/\v=.bool (a == b))∨(op=.neq/\v=.bool (a != b))) (hk:K v h):oV P o ρ h K :=
 cG hk λE w ρc R hρ=>by
  have hxv:=wT (hx▸hρ x)
  have hyv:=wT (hy▸hρ y)
  obtain⟨u,hu,hud,hrun⟩:=cE (w:=w) ht
  obtain rfl:=a27 (hud.trans hd)
  have hg:(eqGuard op t x y (.bool a) (.bool b)).run P w=.ok () w:=by
   cases op <;> simp[eqGuard]
  have hq:(Op.equal t (.bool a) (.bool b)).run P w=.ok (a == b) w:=run_equalIn_bool' w 9999 t a b hu
  rcases hop with⟨rfl,rfl⟩|⟨rfl,rfl⟩
  ·exact⟨.bool (a == b),by simp only[execOp,ho,Sem.run_bind,hxv,hyv,hg,Result.andThen_ok,binOp,hq,Sem.run_pure],.bool _⟩
  ·exact⟨.bool (a != b),by simp only[execOp,ho,Sem.run_bind,hxv,hyv,hg,Result.andThen_ok,binOp,hq,Sem.run_pure];rfl,.bool _⟩
theorem aW5 (op:BinOp) (t ty:TypeId) (x y:Operand) (k:IntKind) (a b:Int) (v:aE) (ho:o.op=.binOp op t x y ty) (hx:ρ x=.int k a) (hy:ρ y=.int k b) (hb:b≠0)
  (hop:(op=.quo/\v=.int k (k.wrap (a.tdiv b)))∨(op=.rem/\v=.int k (a.tmod b))) (hk:K v h):oV P o ρ h K :=
 cG hk λE w ρc R hρ=>by
  have hxv:=lD (hx▸hρ x)
  have hyv:=lD (hy▸hρ y)
  rcases hop with⟨rfl,rfl⟩|⟨rfl,rfl⟩
  ·exact⟨.int k (k.wrap (a.tdiv b)),by simp[execOp,ho,hxv,hyv,eqGuard,binOp,Op.intDiv,hb],.int _ _⟩
  ·exact⟨.int k (a.tmod b),by simp[execOp,ho,hxv,hyv,eqGuard,binOp,Op.intDiv,hb],.int _ _⟩
theorem aL0 (op:BinOp) (t ty:TypeId) (x y:Operand) (k k':IntKind) (a b:Int) (v:aE) (ho:o.op=.binOp op t x y ty) (hx:ρ x=.int k a) (hy:ρ y=.int k' b) (hb:0<=b)
  (hop:(op=.shl/\v=.int k (k.wrap (a*2 ^ (min b.toNat k.bits))))∨(op=.shr/\v=.int k (a.fdiv (2 ^ (min b.toNat k.bits))))) (hk:K v h):oV P o ρ h K :=
 cG hk λE w ρc R hρ=>by
  have hxv:=lD (hx▸hρ x)
  have hyv:=lD (hy▸hρ y)
  have hb':¬b<0:=by omega
  rcases hop with⟨rfl,rfl⟩|⟨rfl,rfl⟩
  ·exact⟨_,by simp only[execOp,ho,hxv,hyv,eqGuard,binOp,Op.shift,hb',if_false];simp,.int _ _⟩
  ·exact⟨_,by simp only[execOp,ho,hxv,hyv,eqGuard,binOp,Op.shift,hb',if_false];simp,.int _ _⟩
theorem a72 (x y:Operand) (ats:Array TypeId) (k:IntKind) (a b:Int) (ho:o.op=.call { callee:=.builtin .max,args:=#[x,y],argTypes:=ats }) (hx:ρ x=.int k a) (hy:ρ y=.int k b)
  (hk:K (.int k (max a b)) h):oV P o ρ h K :=
 cG hk λE w ρc R hρ=>by
  have hxv:=lD (hx▸hρ x)
  have hyv:=lD (hy▸hρ y)
  have e:(if b > a then b else a)=max a b:=by rw[Int.max_def];split <;> split <;> omega
  exact⟨.int k (max a b),by simp[execOp,ho,resolve,invoke,builtin,Builtin.max_,hxv,hyv,Builtin.max2,e],.int _ _⟩
def jV (d:Nat):Option aE->Option Int
 |none=>some d
 |some (.int _ n)=>some n
 | _=>none
theorem nY {w:World} {k:IntKind} {i:Int} {y:Nat} {code:BoundsCode} (h0:0<=i) (h1:i<=y):(Instr.sliceBound (.int k i) y code).run P w=.ok i.toNat w:=by
 simp[Instr.sliceBound,asIntOf,h0,h1]
theorem uB {w:World} {E:Env} (R:Rel E h w) {ρc:Operand->Value} (hρ:∀ x,fC E h w (ρ x) (ρc x)) (isS:Bool) (len cap:Nat) (lo hi mx:Option Operand) (l r m:Int)
  (hl:jV 0 (lo.map ρ)=some l) (hh:jV len (hi.map ρ)=some r) (hm:jV cap (mx.map ρ)=some m) (hmh:mx.isSome=true->hi.isSome=true)
  (h0:0<=l) (h1:l<=r) (h2:r<=m) (h3:m<=cap) :
  (Instr.sliceBounds isS len cap (lo.map ρc) (hi.map ρc) (mx.map ρc)).run P w=.ok (l.toNat,r.toNat,m.toNat) w:=by
 have hint:∀ (x:Operand) (d:Nat) (z:Int),jV d (some (ρ x))=some z->∃ k,ρc x=.int k z:=by
  intro x d z hz
  have hr:=hρ x
  generalize ρ x=v at *
  cases v <;> simp[jV]at hz
  subst hz
  exact⟨_,lD hr⟩
 have hbn:∀ d:Nat,jV d none=some (d:Int):=λ_=>rfl
 cases mx with
 |none =>
  obtain rfl:(cap:Int)=m:=by simpa[jV]using hm
  cases hi with
  |none =>
   obtain rfl:(len:Int)=r:=by simpa[jV]using hh
   cases lo with
   |none => obtain rfl : (0 : Int) = l := by simpa [jV] using hl
            simp[Instr.sliceBounds]
   |some x =>
    obtain⟨k,hx⟩:=hint x _ _ hl
    simp[Instr.sliceBounds,hx,nY h0 h1]
  |some y =>
   obtain⟨k',hy⟩:=hint y _ _ hh
   have e:((r.toNat:Nat):Int)=r:=by omega
   cases lo with
   |none => obtain rfl : (0 : Int) = l := by simpa [jV] using hl
            simp[Instr.sliceBounds,hy,nY (show 0<=r by omega) h2]
   |some x =>
    obtain⟨k,hx⟩:=hint x _ _ hl
    simp[Instr.sliceBounds,hx,hy,nY (show 0<=r by omega) h2,nY h0 (show l<=(r.toNat:Nat)by omega)]
 |some z =>
  obtain⟨kz,hz⟩:=hint z _ _ hm
  cases hi with
  |none=>simp at hmh
  |some y =>
   obtain⟨k',hy⟩:=hint y _ _ hh
   cases lo with
   |none => obtain rfl : (0 : Int) = l := by simpa [jV] using hl
            simp[Instr.sliceBounds,hy,hz,nY (show 0<=m by omega) h3,nY (show 0<=r by omega) (show r<=(m.toNat:Nat)by omega)]
   |some x =>
    obtain⟨k,hx⟩:=hint x _ _ hl
    simp[Instr.sliceBounds,hx,hy,hz,nY (show 0<=m by omega) h3,nY (show 0<=r by omega) (show r<=(m.toNat:Nat)by omega),nY h0 (show l<=(r.toNat:Nat)by omega)]
theorem aK0 (t:TypeId) (x:Operand) (lo hi:Option Operand) (r:lJ) (s:List UInt8) (l m:Int) (ho:o.op=.slice t x lo hi none) (ht:iE P t=some r) (hd:r.d=.str) (hx:ρ x=.str s)
  (hl:jV 0 (lo.map ρ)=some l) (hh:jV s.length (hi.map ρ)=some m) (h0:0<=l) (h1:l<=m) (h2:m<=s.length) (hk:K (.str ((s.take m.toNat).drop l.toNat)) h):oV P o ρ h K :=
 cG hk λE w ρc R hρ=>by
  obtain⟨hv,hmax⟩:=u6 (hx▸hρ x)
  obtain⟨u,hu,hud,hrun⟩:=cE (w:=w) ht
  obtain rfl:=aC2 (hud.trans hd)
  have hb:=uB (P:=P) R hρ false s.length s.length lo hi none l m s.length hl hh rfl dG h0 h1 h2 aA
  refine⟨.string ⟨((s.take m.toNat).drop l.toNat).toArray⟩,?_,.str _ sP⟩
  have hsz:(⟨s.toArray⟩:ByteArray).size=s.length:=by simp[ByteArray.size]
  have hex:(⟨s.toArray⟩:ByteArray).extract l.toNat m.toNat=⟨((s.take m.toNat).drop l.toNat).toArray⟩:=by
   apply ByteArray.ext
   rw[ByteArray.data_extract]
   simp[List.extract_eq_take_drop,List.drop_take]
  simp only[a2D]at hb
  simp[execOp,ho,Instr.sliceAt,Instr.slice,hrun,hv,hsz,hb,hex]
theorem aNG (t et:TypeId) (x:Operand) (lo hi:Option Operand) (r re:lJ) (sz:Nat) (es:List (List aE)) (tg:Bool) (l m:Int) (ho:o.op=.slice t x lo hi none) (ht:iE P t=some r) (hd:r.d=.slice et)
  (he:iE P et=some re) (hsz:re.sz=sz) (hx:ρ x=.sl sz es tg)
  (hl:jV 0 (lo.map ρ)=some l) (hh:jV es.length (hi.map ρ)=some m) (h0:0<=l) (h1:l<=m) (h2:m<=es.length)
  (hk:K (.sl sz ((es.take m.toNat).drop l.toNat) (tg && decide (m=es.length))) h):oV P o ρ h K :=
 cG hk λE w ρc R hρ=>by
  have hr:=hρ x
  rw[hx]at hr
  obtain⟨u,hu,hud,hrun⟩:=cE (w:=w) ht
  obtain rfl:=gX (hud.trans hd)
  have hsize:=gQ (w:=w) he
  have hml:maxLen=9223372036854775807:=rfl
  have key:∀ (a:Option Addr) (cap:Nat),ρc x=.slice a es.length cap->es.length<=cap ->
    (execOp ρc o).run P w=.ok (.value (.slice (if cap=l.toNat then a else a.map (·.add (l.toNat*sz))) (m.toNat-l.toNat) (cap-l.toNat))) w:=by
   intro a cap hv hc
   have hb:=uB (P:=P) R hρ true es.length cap lo hi none l m cap hl hh rfl dG h0 h1 aA aA
   simp only[a2D]at hb
   have e:((cap:Int)).toNat=cap:=by omega
   simp[execOp,ho,Instr.sliceAt,Instr.slice,hrun,hv,hb,hsize,hsz,e]
  cases hv:ρc x <;> rw[hv]at hr <;> try(cases hr;done)
  cases hr with
  |sl0 _ _ _ _ htt hmax ha =>
   have hl0:l=0:=by simp at h2;omega
   have hm0:m=0:=by simp at h2;omega
   subst hl0 hm0
   refine⟨_,key _ _ aCZ dG,?_⟩
   simp only[a2E,a7N,List.drop_nil,a2F,a2A,sU,sB]
   exact .sl0 sz _ _ _ (λe=>htt (by simp at e;exact e)) hmax trivial
  |sl _ _ _ b o' cap cv hI hcap hmax htt hs hc h1' hrr =>
   rename_i cap
   refine⟨_,key _ cap hv hcap,?_⟩
   have hlen:((es.take m.toNat).drop l.toNat).length=m.toNat-l.toNat:=by simp;omega
   by_cases hemp:m.toNat=l.toNat
   ·have e1:(es.take m.toNat).drop l.toNat=[]:=a2G sP
    rw[e1,hemp,sU]
    refine .sl0 sz _ _ _ (λe=>?_) aA trivial
    simp at e;have:=htt e.1;omega
   ·have hne:¬cap=l.toNat:=by omega
    rw[if_neg hne,←hlen]
    simp only[aBT,lV]
    have hat:∀ i j y,iJ ((es.take m.toNat).drop l.toNat) i j=some y->iJ es (l.toNat+i) j=some y:=by
     intro i j y hy
     obtain⟨e,h1,h2⟩:=kP hy
     rw[aHW]at h1
     have hlt:l.toNat+i<m.toNat:=by have:=(iO.1 h1).1;simp at this;omega
     rw[aHV hlt]at h1
     simp[iJ,h1,h2]
    refine .sl sz _ _ b (o'+l.toNat*sz) (cap-l.toNat) (λi j=>cv (l.toNat+i) j) hI aA aA (λe=>?_) ?_ ?_ ?_ ?_
    ·simp at e;have:=htt e.1;omega
    ·intro e he
     exact hs e (aZ7 (aZ8 he))
    ·intro i j y hy
     rw[←hc _ _ _ (hat i j y hy)];congr 2;rw[tV];omega
    ·intro i j y hy;exact h1' _ _ _ (hat i j y hy)
    ·intro i j y hy;exact hrr _ _ _ (hat i j y hy)
end
theorem aC7 {α:Type} (l:List α) (hl:0<l.length):∀ (c k:Nat),k<c*l.length->(List.replicate c l).flatten[k]?=l[k%l.length]?
 |0,k,hk=>by simp at hk
 |c+1,k,hk=>by
  rw[aGH,a7K]
  by_cases h:k<l.length
  ·rw[tU h,Nat.mod_eq_of_lt h]
  ·rw[v8 aA,aC7 l hl c (k-l.length) (by rw[a2C]at hk;omega)]
   congr 1
   rw[Nat.mod_eq_sub_mod (Nat.le_of_not_lt h)]
theorem a0H (z:Array Value) (hz:0<z.size) (c k:Nat) (hk:k<c*z.size):((Array.range (c*z.size)).map (λi=>z[i%z.size]!)).toList[k]?=z.toList[k%z.size]?:=by
 have hm:k%z.size<z.size:=Nat.mod_lt _ hz
 simp only[Array.toList_map,Array.toList_range,qR,al9 hk,aBT]
 rw[getElem!_pos z _ hm,al6,aHY hm]
theorem dV.a29 {E:Env} {h:aB} {w:World} {xs:List aE} {z:Array Value} (hL:dV E h w xs z.toList) (hx:0<xs.length) (c:Nat) :
  dV E h w (List.replicate c xs).flatten ((Array.range (c*z.size)).map (λi=>z[i%z.size]!)).toList:=by
 have hsz:z.size=xs.length:=by have:=hL.length;simp at this;omega
 refine dV.mk (by simp[hsz]) ?_
 intro k x v hkx hkv
 have hk:k<c*xs.length:=by have:=(iO.1 hkx).1;simpa using this
 rw[aC7 xs hx c k hk]at hkx
 rw[a0H z aA c k (by rw[hsz];exact hk),hsz]at hkv
 exact hL.get _ _ _ hkx hkv
section
variable {P:Program} {o:Oper} {ρ:Operand->aE} {h:aB} {K:aE->aB->Prop}
theorem aK1 (t et:TypeId) (l c:Operand) (r re:lJ) (k k':IntKind) (a b:Int) (ho:o.op=.makeSlice t l c) (ht:iE P t=some r) (hd:r.d=.slice et) (he:iE P et=some re)
  (hz:re.zero.length=re.sz) (hz0:0<re.sz) (hf:re.zero.all aE.flat=true) (hl:ρ l=.int k a) (hc:ρ c=.int k' b) (h0:0<=a) (hab:a<=b) (hb:b<=281474976710656) (hbb:re.bytes*b<=281474976710656)
  (hk:∀ n,h n=none->K (.os n re.sz 0 a.toNat) (aU h n (.row re.sz ((List.replicate b.toNat re.zero).map (List.map .v))))):oV P o ρ h K:=by
 refine wC re.sz a.toNat (List.replicate b.toNat re.zero) (λe he=>by rw[aZ9 he,hz]) hk ?_
 intro E w ρc R hρ
 have hal:=lD (hl▸hρ l)
 have hac:=lD (hc▸hρ c)
 obtain⟨u,hu,hud,hrun⟩:=cE (w:=w) ht
 obtain rfl:=gX (hud.trans hd)
 have hsize:=gQ (w:=w) he
 obtain⟨z,hzr,hzz⟩:=pP (w:=w) he aLR
 obtain⟨i,u',hi,hu',hsz,hby,_⟩:=rV he
 have hL:dV E h w re.zero z.cells.toList:=by rw[←hzz];exact qE E h w _
 have hzs:z.cells.size=re.sz:=by have:=hL.length;simp at this;omega
 have wa:IntKind.i64.wrap a=a:=IntWalk.i64_in a aA
 have wb:IntKind.i64.wrap b=b:=IntWalk.i64_in b aA
 refine⟨(Array.range (b.toNat*z.cells.size)).map (λi=>z.cells[i%z.cells.size]!),et,w.drawn,b.toNat,_,[],?_,by omega,by unfold maxLen;omega,by simp[hzs],by simp,hL.a29 aA b.toNat,?_⟩
 ·have hti:(typeInfo et).run P w=.ok i w:=by simp[typeInfo,hi]
  have n1:¬(b<0):=by omega
  have n2:¬(281474976710656<(i.bytes:Int)*b):=by rw[←hby];omega
  have n3:¬(a<0):=by omega
  have n4:¬(b<a):=by omega
  simp only[execOp,ho,Instr.makeSlice,Sem.run_bind,hrun,Result.andThen_ok,asInt,hal,hac,asIntOf,Sem.run_pure,hti,wa,wb]
  by_cases hbz:b.toNat=0
  ·simp[n1,n2,n3,n4,hsize,hzs,hbz,newRow,pQ]
   have e0:Array.range 0=#[]:=by simp
   simp only[e0,Array.map_empty];rfl
  ·simp[n1,n2,n3,n4,hsize,hzs,hbz,newRow,pQ,hzr]
   rw[if_neg (Nat.mul_ne_zero hbz aA)]
   rfl
 ·exact(hL.a29 aA b.toNat).qD (by
   rw[uX]
   intro x hx
   obtain⟨l,hl,hx⟩:=List.mem_flatten.1 hx
   rw[aZ9 hl]at hx
   exact uX.1 hf x hx)
end
theorem Ev.tZ {E:Env} {h:aB} {w:World} (o:Obj) (d:Nat):Ev E h w E h (tZ w o d) :=
 ⟨by rw[nM];omega,λb hb=>⟨nE w o d b hb.1,⟨by have:=hb.1;rw[nM];omega,hb.2⟩⟩,λb hb=>by simp only[World.shape?,nE w o d b hb],λ_ hn=>⟨rfl,hn⟩,rfl,rfl⟩
theorem Rel.tZ {E:Env} {h:aB} {w:World} (R:Rel E h w) (o:Obj) (d:Nat):Rel E h (tZ w o d) :=
 ⟨R.fin,R.dom,λn x b hn hx hb=>by have:=R.lt n x b hn hx hb;rw[nM];omega,R.apart,
  λn x hn=>(R.obj n x hn).ev (Ev.tZ o d) rfl rfl λc hx hc=>nE w o d c (R.lt n x c hn hx hc),R.laid.ev (Ev.tZ o d)⟩
theorem aW6 {E:Env} {h:aB} {w:World} (R:Rel E h w) (o:Obj) (d:Nat):nX E h (Hl.tZ w o d) w.heap.size :=
 ⟨by rw[nM];omega,λn x hn hx hf=>by have:=R.lt n x _ hn hx hf;omega⟩
theorem aW7 {E:Env} {h:aB} {w:World} (R:Rel E h w) {sz:Nat} {es:List (List aE)} (hs:∀ e∈es,e.length=sz) {cs:Array Value} {t:TypeId} {d:Nat} {vs rest:List Value} (hcs:cs.toList=vs++rest) (hL:dV E h w es.flatten vs) (h1:∀ c∈vs,c.oneCell'=true) :
  ∃ cv:Nat->Nat->Value,(∀ i j x,iJ es i j=some x->(Hl.tZ w (.cells cs t) d).cell? ⟨w.heap.size,0+i*sz+j,none⟩=some (cv i j))/\(∀ i j x,iJ es i j=some x->(cv i j).oneCell'=true)/\(∀ i j x,iJ es i j=some x->fC E h (Hl.tZ w (.cells cs t) d) x (cv i j)):=by
 have hlen:vs.length=es.length*sz:=by rw[←hL.length,length_flatten es hs]
 refine⟨λi j=>(vs[i*sz+j]?).getD undef,λi j x hx=>?_,λi j x hx=>?_,λi j x hx=>?_⟩ <;>
  (have hlt:=vA hs hx
   have hk:i*sz+j<vs.length:=by omega
   have hv:vs[i*sz+j]?=some vs[i*sz+j]:=eY hk)
 ·simp only[World.cell?,u7,aGG]
  rw[←al6,hcs,tU hk,hv];simp
 ·simp only[hv];exact h1 _ (kM hk)
 ·simp only[hv];exact(hL.get _ _ _ (u9 es hs i j x hx) hv).ev (Ev.tZ _ _)
section
variable {P:Program} {o:Oper} {ρ:Operand->aE} {h:aB} {K:aE->aB->Prop}
theorem aQN (t:TypeId) (x:Operand) (ho:o.op=.box t x) (hf:(ρ x).cells.all aE.flat=true) (hk:K (.ip (ρ x).cells.length [(ρ x).cells] 0 0) h):oV P o ρ h K:=by
 intro E w ρc R hρ
 obtain⟨hL,h1⟩:=(hρ x).aER hf
 have hs:∀ e∈[(ρ x).cells],e.length=(ρ x).cells.length:=by simp
 obtain⟨cv,c1,c2,c3⟩:=aW7 (t:=t) (d:=w.drawn) R hs (cs:=(ρc x).cells) (vs:=(ρc x).cells.toList) (rest:=[]) dG (by simpa using hL) h1
 refine .jM (v:=.pointer (some ⟨w.heap.size,0,none⟩)) (w':=Hl.tZ w (.cells (ρc x).cells t) w.drawn) ?_ ⟨_,h,E,hk,Ev.tZ _ _,R.tZ _ _,?_⟩
 ·simp only[execOp,ho,Instr.box,newVar,newRow,Sem.run_bind,run_newObj,Result.andThen_ok,Sem.run_pure,pQ]
 ·have:=fC.ip (E:=E) (h:=h) (w:=Hl.tZ w (.cells (ρc x).cells t) w.drawn) (ρ x).cells.length [(ρ x).cells] 0 0 w.heap.size 0 cv (aW6 R _ _) hs c1 c2 c3
  simpa using this
def uC (es:List (List aE)):List (Nat×aE)->List (List aE)
 | []=>es
 |(i,v)::r=>uC (es.set i v.cells) r
def rC (len sz:Nat):List (Nat×aE)->Bool
 | []=>true
 |(i,v)::r=>decide (i<len) && decide (v.cells.length=sz) && v.cells.all aE.flat && rC len sz r
theorem xP:∀ (ps:List (Nat×aE)) (es:List (List aE)),(uC es ps).length=es.length
 | [],_=>rfl
 |(i,v)::r,es=>by simp[uC,xP r]
theorem xQ {sz len:Nat}:∀ (ps:List (Nat×aE)) (es:List (List aE)),rC len sz ps=true->(∀ e∈es,e.length=sz)->∀ e∈uC es ps,e.length=sz
 | [],_,_,h=>h
 |(i,v)::r,es,hf,h=>by
  simp only[rC,l7,decide_eq_true_eq]at hf
  refine xQ r _ hf.2 λe he=>?_
  rcases wJ he with h1|h1
  ·exact h e h1
  ·rw[h1];exact hf.1.1.2
theorem yT (vs:Array Value) (off:Nat) (cs:Array Value) (k:Nat) (hle:off+vs.size<=cs.size) :
  (vs.zipIdx.foldl (λcs (cj:Value×Nat)=>cs.setIfInBounds (off+cj.2) cj.1) cs)[k]?=if off<=k/\k<off+vs.size then vs[k-off]? else cs[k]?:=by
 have key:∀ (l:List Value) (n:Nat) (cs:Array Value),off+n+l.length<=cs.size ->
   ((l.zipIdx n).foldl (λcs (cj:Value×Nat)=>cs.setIfInBounds (off+cj.2) cj.1) cs)[k]?=if off+n<=k/\k<off+n+l.length then l[k-(off+n)]? else cs[k]?:=by
  intro l
  induction l with
  |nil=>intro n cs _;rw[if_neg dG];rfl
  |cons v l ih =>
   intro n cs hl
   simp only[List.zipIdx_cons,List.foldl_cons]
   rw[ih (n+1) _ (by rw[Array.size_setIfInBounds];simp at hl;omega)]
   simp only[tT]at hl ⊢
   by_cases h1:off+(n+1)<=k/\k<off+(n+1)+l.length
   ·rw[if_pos h1,if_pos aA,show k-(off+n)=(k-(off+(n+1)))+1 by omega];simp
   ·rw[if_neg h1]
    by_cases h2:k=off+n
    ·subst h2
     have hlt:off+n<cs.size:=by omega
     rw[if_pos aA];simp[Array.getElem?_setIfInBounds,hlt]
    ·rw[if_neg aA,aTS aA]
 have:=key vs.toList 0 cs (by simpa using hle)
 rw[←Array.foldl_toList,Array.toList_zipIdx]
 simpa using this
theorem wU (vs:Array Value) (off:Nat) (cs:Array Value):(vs.zipIdx.foldl (λcs (cj:Value×Nat)=>cs.setIfInBounds (off+cj.2) cj.1) cs).size=cs.size:=by
 have key:∀ (l:List (Value×Nat)) (cs:Array Value),(l.foldl (λcs (cj:Value×Nat)=>cs.setIfInBounds (off+cj.2) cj.1) cs).size=cs.size:=by
  intro l
  induction l with
  |nil=>intro cs;rfl
  |cons v l ih=>intro cs;simp only[List.foldl_cons];rw[ih];simp
 rw[←Array.foldl_toList]
 exact key _ cs
theorem wV {α:Type} {sz:Nat}:∀ (es:List (List α)),(∀ e∈es,e.length=sz)->∀ k,k<es.length*sz->es.flatten[k]?=iJ es (k / sz) (k%sz)
 | [],_,k,hk=>by simp at hk
 |e::es,hs,k,hk=>by
  have he:=hs e dG
  have hs':=λe he=>hs e (v9 _ he)
  have hsz:0<sz:=by
   rcases a0A sz with h|h
   ·subst h;simp at hk
   ·exact h
  rw[a7K]
  by_cases h:k<sz
  ·rw[tU aA,a7M h,Nat.mod_eq_of_lt h];simp[iJ]
  ·rw[v8 aA,he,wV es hs' (k-sz) (by simp[a2C]at hk;omega)]
   have h1:k / sz=(k-sz) / sz+1:=by rw[Nat.div_eq_sub_div hsz aA]
   have h2:k%sz=(k-sz)%sz:=Nat.mod_eq_sub_mod aA
   rw[h1,h2];simp[iJ]
theorem aQO {E:Env} {w:World} {sz len:Nat} {ρc:Operand->Value} (hρ:∀ x,fC E h w (ρ x) (ρc x)):∀ (ps:List (Nat×Operand)) (es:List (List aE)) (cs:Array Value),rC len sz (ps.map λp=>(p.1,ρ p.2))=true->es.length=len->(∀ e∈es,e.length=sz) ->
  dV E h w es.flatten cs.toList->(∀ c∈cs.toList,c.oneCell'=true) ->
  ∃ cs',Instr.fill (λi=>some (i*sz,sz)) cs (ps.map λp=>(p.1,ρc p.2))=some cs'/\dV E h w (uC es (ps.map λp=>(p.1,ρ p.2))).flatten cs'.toList/\∀ c∈cs'.toList,c.oneCell'=true
 | [],es,cs,_,_,_,hL,h1=>⟨cs,rfl,hL,h1⟩
 |(i,x)::ps,es,cs,hf,hlen,hs,hL,h1=>by
  simp only[p5,rC,l7,decide_eq_true_eq]at hf
  obtain⟨⟨⟨hi,hsz⟩,hfl⟩,hf⟩:=hf
  obtain⟨hcL,hc1⟩:=(hρ x).aER hfl
  have hvs:(ρc x).cells.size=sz:=by have:=hcL.length;simp at this;omega
  have hcsz:cs.size=es.length*sz:=by have:=hL.length;rw[length_flatten es hs]at this;simpa using this.symm
  have hfit:i*sz+sz<=cs.size:=by
   rw[hcsz,hlen]
   have:=a2B sz (Nat.succ_le_of_lt hi)
   rw[a2C]at this;exact this
  have hget:=λk=>yT (ρc x).cells (i*sz) cs k (by rw[hvs];exact hfit)
  have hsize:=wU (ρc x).cells (i*sz) cs
  have hs':∀ e∈es.set i (ρ x).cells,e.length=sz:=λe he=>by
   rcases wJ he with h1|h1
   ·exact hs e h1
   ·rw[h1];exact hsz
  have hin:i*sz<=i*sz:=bX _
  obtain⟨cs',r1,r2,r3⟩:=aQO hρ ps (es.set i (ρ x).cells) hf (by simpa using hlen) hs' (cs:=(ρc x).cells.zipIdx.foldl (λcs (cj:Value×Nat)=>cs.setIfInBounds (i*sz+cj.2) cj.1) cs) (by
   refine dV.mk (by rw[length_flatten _ hs',tW,←hcsz,←hsize];rfl) ?_
   intro k y v hy hv
   rw[al6,hget k]at hv
   have hk:k<es.length*sz:=by have:=(iO.1 hy).1;rw[length_flatten _ hs']at this;simpa using this
   have bR4:0<sz:=by
    rcases a0A sz with h|h
    ·subst h;simp at hk
    ·exact h
   rw[wV _ hs' k (by simpa using hk)]at hy
   by_cases hr:i*sz<=k/\k<i*sz+(ρc x).cells.size
   ·rw[if_pos hr]at hv
    have hd:k / sz=i:=by
     rw[hvs]at hr
     exact Nat.div_eq_of_lt_le (by rw[aHX]at hr ⊢;omega) (by rw[a2C];omega)
    have hm:k%sz=k-i*sz:=by
     have:=a7O k sz
     rw[hd,aHX]at this;omega
    rw[hd,hm]at hy
    unfold iJ at hy
    rw[qT (by rw[hlen];exact hi)]at hy
    exact hcL.get _ _ _ (by simpa using hy) aCZ
   ·rw[if_neg hr]at hv
    have hd:k / sz≠i:=by
     intro e
     have hdm:=a7O k sz
     have:=Nat.mod_lt k bR4
     rw[e,aHX]at hdm
     rw[hvs]at hr;omega
    unfold iJ at hy
    rw[rT (iK hd)]at hy
    exact hL.get k _ _ (by rw[wV es hs k hk];exact hy) aCZ) (by
   intro c hc
   obtain⟨k,hk⟩:=a7L hc
   rw[al6,hget k]at hk
   split at hk
   ·exact hc1 c bB6
   ·exact h1 c bB6)
  refine⟨cs',?_,r2,r3⟩
  simp only[p5,Instr.fill,hvs]
  rw[if_neg sP]
  exact r1
theorem zK {E:Env} {w:World} {ρc:Operand->Value} (hρ:∀ x,fC E h w (ρ x) (ρc x)) (t et:TypeId) (len:Nat) (ps:Array (Nat×Operand)) (r re:lJ) (ho:o.op=.buildSlice t len ps) (ht:iE P t=some r) (hd:r.d=.slice et) (he:iE P et=some re)
  (hz:re.zero.length=re.sz) (hz0:0<re.sz) (hf:re.zero.all aE.flat=true) (hlen:len*re.sz<=16777216) (hfill:rC len re.sz (ps.toList.map λp=>(p.1,ρ p.2))=true) :
  ∃ (cs:Array Value),(execOp ρc o).run P w=.ok (.value (.slice (some ⟨w.heap.size,0,none⟩) len len)) (tZ w (.cells cs et) w.drawn) /\
   dV E h w (uC (List.replicate len re.zero) (ps.toList.map λp=>(p.1,ρ p.2))).flatten cs.toList/\∀ c∈cs.toList,c.oneCell'=true:=by
 obtain⟨u,hu,hud,hrun⟩:=cE (w:=w) ht
 obtain rfl:=gX (hud.trans hd)
 have hsize:=gQ (w:=w) he
 obtain⟨z,hzr,hzz⟩:=pP (w:=w) he aLR
 have hL:dV E h w re.zero z.cells.toList:=by rw[←hzz];exact qE E h w _
 have hzs:z.cells.size=re.sz:=by have:=hL.length;simp at this;omega
 have hflat:=hL.a29 aA len
 have hone:=hflat.qD (by
  rw[uX]
  intro x hx
  obtain⟨l,hl,hx⟩:=List.mem_flatten.1 hx
  rw[aZ9 hl]at hx
  exact uX.1 hf x hx)
 have hs:∀ e∈List.replicate len re.zero,e.length=re.sz:=λe he=>by rw[aZ9 he,hz]
 obtain⟨cs,h1,h2,h3⟩:=aQO hρ ps.toList (List.replicate len re.zero) _ hfill dG hs hflat hone
 refine⟨cs,?_,h2,h3⟩
 have hmap:(ps.map λ(i,x)=>(i,ρc x)).toList=ps.toList.map λp=>(p.1,ρc p.2):=by simp
 rw[hzs]at h1
 have n1:¬(len*re.sz > 2 ^ 24):=by simp;omega
 simp only[execOp,ho,Instr.buildSlice,Sem.run_bind,hrun,Result.andThen_ok,hsize,hmap,if_neg n1,Sem.run_ite]
 by_cases hl0:len*re.sz=0
 ·have aQQ:len=0:=by
   rcases Nat.mul_eq_zero.1 hl0 with h|h
   ·exact h
   ·omega
  subst aQQ
  simp only[a2A]at h1 ⊢
  have e0:Array.range 0=#[]:=by simp
  simp only[e0,Array.map_empty]at h1 ⊢
  simp[h1,newRow,pQ]
  rfl
 ·simp only[hl0,if_false,Sem.run_bind,hzr,Result.andThen_ok,Sem.run_pure,hzs]
  simp[h1,newRow,pQ]
  rfl
theorem aIA (t et:TypeId) (len:Nat) (ps:Array (Nat×Operand)) (r re:lJ) (ho:o.op=.buildSlice t len ps) (ht:iE P t=some r) (hd:r.d=.slice et) (he:iE P et=some re)
  (hz:re.zero.length=re.sz) (hz0:0<re.sz) (hf:re.zero.all aE.flat=true) (hlen:len*re.sz<=16777216) (hfill:rC len re.sz (ps.toList.map λp=>(p.1,ρ p.2))=true)
  (hk:∀ n,h n=none->K (.os n re.sz 0 len) (aU h n (.row re.sz ((uC (List.replicate len re.zero) (ps.toList.map λp=>(p.1,ρ p.2))).map (List.map .v))))):oV P o ρ h K:=by
 have hs:∀ e∈List.replicate len re.zero,e.length=re.sz:=λe he=>by rw[aZ9 he,hz]
 refine wC re.sz len (uC (List.replicate len re.zero) (ps.toList.map λp=>(p.1,ρ p.2))) (xQ _ _ hfill hs) hk ?_
 intro E w ρc R hρ
 obtain⟨cs,h1,h2,h3⟩:=zK (P:=P) hρ t et len ps r re ho ht hd he hz hz0 hf hlen hfill
 have hcs:cs.size=len*re.sz:=by
  have:=h2.length
  rw[length_flatten _ (xQ _ _ hfill hs),xP]at this
  simpa using this.symm
 have:len<=len*re.sz:=Nat.le_mul_of_pos_right len hz0
 exact⟨cs,et,w.drawn,len,cs.toList,[],h1,bX _,by unfold maxLen;omega,by omega,by simp,h2,h3⟩
theorem aBY (t et:TypeId) (len:Nat) (ps:Array (Nat×Operand)) (r re:lJ) (ho:o.op=.buildSlice t len ps) (ht:iE P t=some r) (hd:r.d=.slice et) (he:iE P et=some re)
  (hz:re.zero.length=re.sz) (hz0:0<re.sz) (hf:re.zero.all aE.flat=true) (hlen:len*re.sz<=16777216) (hfill:rC len re.sz (ps.toList.map λp=>(p.1,ρ p.2))=true)
  (hk:K (.sl re.sz (uC (List.replicate len re.zero) (ps.toList.map λp=>(p.1,ρ p.2))) true) h):oV P o ρ h K:=by
 have hs:∀ e∈List.replicate len re.zero,e.length=re.sz:=λe he=>by rw[aZ9 he,hz]
 have hs':=xQ (sz:=re.sz) _ _ hfill hs
 intro E w ρc R hρ
 obtain⟨cs,h1,h2,h3⟩:=zK (P:=P) hρ t et len ps r re ho ht hd he hz hz0 hf hlen hfill
 obtain⟨cv,c1,c2,c3⟩:=aW7 (t:=et) (d:=w.drawn) R hs' (cs:=cs) (vs:=cs.toList) (rest:=[]) dG h2 h3
 refine .jM h1 ⟨_,h,E,hk,Ev.tZ _ _,R.tZ _ _,?_⟩
 have hl:(uC (List.replicate len re.zero) (ps.toList.map λp=>(p.1,ρ p.2))).length=len:=by rw[xP,aGI]
 have:len<=len*re.sz:=Nat.le_mul_of_pos_right len hz0
 have:=fC.sl (E:=E) (h:=h) (w:=Hl.tZ w (.cells cs et) w.drawn) re.sz _ true w.heap.size 0 len cv (aW6 R _ _) aA (by unfold maxLen;omega) (λ_=>hl.symm) hs' c1 c2 c3
 rw[hl]at this
 exact this
end
def tM:List (List Cell)->Option (List (List aE))
 | []=>some []
 |e::es=>match zI e,tM es with
  |some x,some xs=>some (x::xs)
  | _,_=>none
theorem aBH:∀ {es:List (List Cell)} {xs:List (List aE)},tM es=some xs->es=xs.map (List.map .v)
 | [],xs,h=>by simp[tM]at h;subst h;rfl
 |e::es,xs,h=>by
  unfold tM at h
  split at h
  ·rename_i x xs' hx hxs
   obtain rfl:=gH h
   simp[aBW hx,aBH hxs]
  ·simp at h
def vB (h:aB) (sz:Nat):aE->Option (List (List aE))
 | .sl sz' ys _=>if sz'=sz then some ys else none
 | .bS=>some []
 | .str s=>if sz=1 then some (s.map λc=>[.int .u8 c.toNat])else none
 | .os m sz' j k=>match h m with
  |some (.row sz'' es)=>if sz'=sz/\sz''=sz/\j+k<=es.length then tM ((es.drop j).take k)else none
  | _=>none
 | _=>none
theorem aIB {E:Env} {h:aB} {w:World} {b o sz:Nat} {es:List (List aE)} (hs:∀ e∈es,e.length=sz) {cv:Nat->Nat->Value}
  (hc:∀ i j x,iJ es i j=some x->w.cell? ⟨b,o+i*sz+j,none⟩=some (cv i j)) (h1:∀ i j x,iJ es i j=some x->(cv i j).oneCell'=true) (hr:∀ i j x,iJ es i j=some x->fC E h w x (cv i j)) :
  ∃ vs:List Value,dV E h w es.flatten vs/\(∀ c∈vs,c.oneCell'=true)/\∀ j v,vs[j]?=some v->w.cell? ((⟨b,o,none⟩:Addr).add j)=some v:=by
 have hlen:=length_flatten es hs
 refine⟨(List.range (es.length*sz)).map λk=>cv (k / sz) (k%sz),?_,?_,?_⟩
 ·refine dV.mk (by simp[hlen]) ?_
  intro k x v hx hv
  have hk:k<es.length*sz:=by rw[←hlen];exact(iO.1 hx).1
  rw[qR,al9 hk]at hv
  obtain rfl:=gH hv
  rw[wV es hs k hk]at hx
  exact hr _ _ _ hx
 ·intro c hc'
  obtain⟨k,hk,rfl⟩:=lA.1 hc'
  have hk:k<es.length*sz:=by simpa using hk
  have hx:es.flatten[k]?=some (es.flatten[k]'aA):=eY aA
  rw[wV es hs k hk]at hx
  exact h1 _ _ _ hx
 ·intro k v hv
  have hk:k<es.length*sz:=by have:=(iO.1 hv).1;simpa using this
  rw[qR,al9 hk]at hv
  obtain rfl:=gH hv
  have hx:es.flatten[k]?=some (es.flatten[k]'aA):=eY aA
  rw[wV es hs k hk]at hx
  rw[lV,←hc _ _ _ hx]
  congr 2
  have:=a7O k sz
  rw[aHX]at this;omega
theorem aBZ {w w':World} (h:w'.heap=w.heap) (a:Addr):w'.cell? a=w.cell? a:=by simp only[World.cell?,h]
def a3A (P:Program) (E:Env) (h:aB) (w:World) (sz:Nat) (ys:List (List aE)) (v:Value):Prop :=
  ∃ news:List Value,(∀ e∈ys,e.length=sz)/\(∀ w',(Builtin.lenOf v).run P w'=.ok ys.length w')/\(∀ w',w'.heap=w.heap->(Builtin.firstCells sz ys.length v).run P w'=.ok news.toArray w') /\
   dV E h w ys.flatten news/\(∀ c∈news,c.oneCell'=true)/\ys.length<=maxLen
theorem aGZ {P:Program} {E:Env} {h:aB} {w:World} (R:Rel E h w) {sz:Nat} {x:aE} {v:Value} {ys:List (List aE)} (hx:vB h sz x=some ys) (r:fC E h w x v):a3A P E h w sz ys v:=by
 unfold vB at hx
 have slices:∀ (b o len cap:Nat) (cv:Nat->Nat->Value),v=.slice (some ⟨b,o,none⟩) len cap->len=ys.length->len<=maxLen->(∀ e∈ys,e.length=sz)->(∀ i j x,iJ ys i j=some x->w.cell? ⟨b,o+i*sz+j,none⟩=some (cv i j)) ->
   (∀ i j x,iJ ys i j=some x->(cv i j).oneCell'=true)->(∀ i j x,iJ ys i j=some x->fC E h w x (cv i j))->a3A P E h w sz ys v:=by
  intro b o len cap cv hv hl hmax hs hc h1 hr
  obtain⟨vs,hL,hone,hcell⟩:=aIB hs hc h1 hr
  refine⟨vs,hs,λw'=>by rw[hv,←hl];simp[Builtin.lenOf],λw' hw=>?_,hL,hone,by omega⟩
  rw[hv]
  refine run_firstCells_some w' sz ys.length _ _ _ vs (by rw[←hL.length,length_flatten ys hs]) λj u hu=>?_
  rw[aBZ hw];exact hcell j u hu
 split at hx
 ·rename_i sz' ys' t
  split at hx
  ·rename_i e
   subst e
   obtain rfl:=gH hx
   cases r with
   |sl0 _ _ a cap ht hmax ha =>
    refine⟨[],by simp,λw'=>by simp[Builtin.lenOf],λw' hw=>?_,trivial,by simp,by simp⟩
    cases a with
    |none=>simp[Builtin.firstCells]
    |some a=>simp[Builtin.firstCells,loadCells,loadCellsFrom]
   |sl _ _ _ b o cap cv hi hcap hmax ht hs hc h1 hr=>exact slices b o _ _ cv rfl rfl aA hs hc h1 hr
  ·simp at hx
 ·obtain rfl:=gH hx
  cases r
  exact⟨[],by simp,λw'=>by simp[Builtin.lenOf],λw' hw=>by simp[Builtin.firstCells],trivial,by simp,by simp⟩
 ·rename_i s
  split at hx
  ·rename_i e
   subst e
   obtain rfl:=gH hx
   cases r with
   |str _ hl =>
    refine⟨s.map λc=>.int .u8 c.toNat,by simp,λw'=>by simp[Builtin.lenOf,ByteArray.size],λw' hw=>?_,?_,by simp[Value.oneCell'],by simpa using hl⟩
    ·simp only[Builtin.firstCells,gT]
     have:(ByteArray.mk s.toArray).extract 0 s.length=⟨s.toArray⟩:=by
      apply ByteArray.ext
      rw[ByteArray.data_extract];simp
     rw[this];simp
    ·refine dV.mk (by rw[length_flatten (sz:=1) _ dG];simp) ?_
     have:∀ (s:List UInt8),(s.map λc=>[aE.int .u8 c.toNat]).flatten=s.map λc=>aE.int .u8 c.toNat:=λs=>by
      induction s with
      |nil=>rfl
      |cons c s ih=>simp[ih]
     rw[this]
     intro i x v hx hv
     rw[qR]at hx hv
     obtain⟨c,hc,rfl⟩:=q0.1 hx
     rw[hc]at hv
     obtain rfl:=gH hv
     exact .int _ _
  ·simp at hx
 ·rename_i m sz' j k
  split at hx
  ·rename_i sz'' es hm
   split at hx
   ·rename_i e
    obtain⟨rfl,rfl,hjk⟩:=e
    have hpl:=aBH hx
    have hlen:ys.length=k:=by have:=congrArg List.length hpl;simp at this;omega
    cases r with
    |os0 _ _ hd hl =>
     have:ys=[]:=aGJ.1 hlen
     subst this
     exact⟨[],by simp,λw'=>by simp[Builtin.lenOf],λw' hw=>by simp[Builtin.firstCells],trivial,by simp,by simp⟩
    |os _ _ _ _ b o cap t mm hd hl hlc hmax hsh hm' =>
     obtain⟨b',o',hl',hbS,hs,cs,ct,cv,T,hh,hmm,hT,hD,hc,hrr⟩:=zJ R hm (.inr ⟨_,hl⟩)
     rw[hl]at hl'
     obtain⟨rfl,rfl⟩:=aNA (gH hl')
     have hat:∀ i' j' y,iJ ys i' j'=some y->iJ es (j+i') j'=some (.v y):=by
      intro i' j' y hy
      have h1:iJ (ys.map (List.map Cell.v)) i' j'=some (.v y):=by rw[nF,hy];rfl
      rw[←hpl]at h1
      obtain⟨e,h2,h3⟩:=kP h1
      have hlt:i'<k:=by have:=(iO.1 h2).1;simp at this;omega
      rw[aHV hlt,aHW]at h2
      simp[iJ,h2,h3]
     refine slices b _ k cap (λi' j'=>cv (j+i') j') rfl hlen.symm aA ?_ ?_ ?_ ?_
     ·intro e he
      have:e.map Cell.v∈(es.drop j).take k:=by rw[hpl];exact lA.2 ⟨e,he,rfl⟩
      have:=hs _ (aZ8 (aZ7 this))
      simpa using this
     ·intro i' j' y hy
      have:=hc _ _ _ (hat i' j' y hy)
      simp only[World.cell?,hh,bEH,aM9,if_false]
      rw[←this];congr 1;rw[tV];omega
     ·intro i' j' y hy;exact(hrr _ _ _ (hat i' j' y hy)).one
     ·intro i' j' y hy
      have:=hrr _ _ _ (hat i' j' y hy)
      generalize cv (j+i') j'=c at this
      generalize T (j+i') j'=S at this
      cases this with
      |v _ _ _ _ hx=>exact hx
   ·simp at hx
  ·simp at hx
 ·simp at hx
def bEP (P:Program) (t:TypeId):Option TyD:=(iE P t).map (·.d)
def zL (P:Program) (t:Option TypeId):Bool :=
 match t with
 |some t=>match bEP P t with
  |some (.slice _)=>true
  |some .str=>true
  | _=>false
 |none=>false
theorem aEU {P:Program} {w:World} {t:Option TypeId} (h:zL P t=true) :
  ∃ t',t=some t'/\((∃ e,(underlying t').run P w=.ok (.slice e) w)∨(underlying t').run P w=.ok .string w):=by
 unfold zL at h
 cases t with
 |none=>simp at h
 |some t =>
  refine⟨t,rfl,?_⟩
  simp only[bEP]at h
  cases hr:iE P t with
  |none=>simp[hr]at h
  |some r =>
   simp only[hr,aBT]at h
   obtain⟨u,hu,hud,hrun⟩:=cE (w:=w) hr
   split at h
   ·rename_i e he
    obtain rfl:=gX (hud.trans (gH he))
    exact .inl ⟨e,hrun⟩
   ·rename_i he
    obtain rfl:=aC2 (hud.trans (gH he))
    exact .inr hrun
   ·simp at h
section
variable {P:Program} {o:Oper} {ρ:Operand->aE} {h:aB} {K:aE->aB->Prop}
theorem zM {w:World} {t et:TypeId} {t1:Option TypeId} {r re:lJ} (ht:iE P t=some r) (hd:r.d=.slice et) (he:iE P et=some re) (h1:zL P t1=true) (ats:Array TypeId) (a0:ats[0]?=some t) (a1:ats[1]?=t1) (ty:TypeId)
  {base:Option Addr} {sLen sCap n:Nat} {v:Value} {olds news:List Value} {z:Value} (hz:(∀ w,(zeroValue et).run P w=.ok z w)) (hlen:∀ w',(Builtin.lenOf v).run P w'=.ok n w')
  (hold:∀ w',w'.heap=w.heap->(Builtin.firstCells re.sz sLen (.slice base sLen sCap)).run P w'=.ok olds.toArray w') (hnew:∀ w',w'.heap=w.heap->(Builtin.firstCells re.sz n v).run P w'=.ok news.toArray w')
  (hg:sCap<sLen+n) (hb:(sLen+n)*re.bytes<=140737488355328) (hmax:sLen+n<=maxLen) :
  ∃ cap d,sLen+n<=cap/\cap<=maxLen/\(Builtin.append_ ats ty #[.slice base sLen sCap,v]).run P w =
   .ok (.slice (some ⟨w.heap.size,0,none⟩) (sLen+n) cap) (tZ w (.cells ((olds++news).toArray++Builtin.zeroCells z.cells (cap-(sLen+n))) et) d):=by
 obtain⟨u,hu,hud,hrun⟩:=cE (w:=w) ht
 obtain rfl:=gX (hud.trans hd)
 have hsize:∀ w,(sizeOf et).run P w=.ok re.sz w:=λw=>gQ he
 obtain⟨i,u',hi,hu',hsz,hby,_⟩:=rV he
 obtain⟨t',rfl,hu1⟩:=aEU (w:=w) h1
 have hti:∀ w,(typeInfo et).run P w=.ok i w:=λw=>by simp[typeInfo,hi]
 have hge:=grownCap_ge w (sLen+n) sCap et
 have hcm:=grownCap_le_maxLen w (sLen+n) sCap et hmax
 refine⟨grownCap w (sLen+n) sCap et,w.drawn+1,hge,hcm,?_⟩
 have hml:maxLen=9223372036854775807:=rfl
 have n1:¬(sLen+n<=sCap):=by omega
 have n3:¬(281474976710656<Builtin.nextslicecap (sLen+n) sCap*i.bytes):=by
  have:=growslice_fits hg (by rw[←hby];exact hb:(sLen+n)*i.bytes<=140737488355328)
  omega
 have n2:¬(9223372036854775807<((sLen:Int)+(n:Int))):=by omega
 have hw:(w.drew).heap=w.heap:=rfl
 have hassoc:∀ zc:Array Value,olds.toArray++(news.toArray++zc)=(olds++news).toArray++zc:=λzc=>by apply Array.ext';simp
 rcases hu1 with⟨e,hu1⟩|hu1
 ·simp[Builtin.append_,a0,a1,hrun,hsize,hu1,hlen,n1,n2,n3,hti,Question.forced,grownCap,hold _ hw,hnew _ hw,hz,newRow,hassoc]
  rfl
 ·simp[Builtin.append_,a0,a1,hrun,hsize,hu1,hlen,n1,n2,n3,hti,Question.forced,grownCap,hold _ hw,hnew _ hw,hz,newRow,hassoc]
  rfl
end
section
variable {P:Program} {o:Oper} {ρ:Operand->aE} {h:aB} {K:aE->aB->Prop}
theorem pS {ρc:Operand->Value} {w:World} (x y:Operand) (ats:Array TypeId) (ho:o.op=.call { callee:=.builtin .append,args:=#[x,y],argTypes:=ats }) :
  (execOp ρc o).run P w=((Builtin.append_ ats o.type #[ρc x,ρc y]).run P w).andThen λv w'=>.ok (.value v) w':=by
 simp[execOp,ho,resolve,invoke,builtin]
def aC8 (sz:Nat):aE->Option (List (List aE))
 | .bS=>some []
 | .sl sz' es true=>if sz'=sz then some es else none
 | _=>none
theorem aB0 (z:Array Value) (n:Nat):(Builtin.zeroCells z n).size=n*z.size:=by simp[Builtin.zeroCells]
theorem aID (x y:Operand) (ats:Array TypeId) (t et:TypeId) (r re:lJ) (olds ys:List (List aE)) (ho:o.op=.call { callee:=.builtin .append,args:=#[x,y],argTypes:=ats })
  (a0:ats[0]?=some t) (ht:iE P t=some r) (hd:r.d=.slice et) (he:iE P et=some re) (hz:re.zero.length=re.sz) (hz0:0<re.sz) (h1:zL P ats[1]?=true)
  (hx:aC8 re.sz (ρ x)=some olds) (hy:vB h re.sz (ρ y)=some ys) (hne:ys≠[]) (hb:(olds.length+ys.length)*re.bytes<=140737488355328) (hmax:olds.length+ys.length<=9223372036854775807)
  (hk:∀ n,h n=none->K (.os n re.sz 0 (olds.length+ys.length)) (aU h n (.row re.sz ((olds++ys).map (List.map .v))))):oV P o ρ h K:=by
 have hml:maxLen=9223372036854775807:=rfl
 have aQQ:0<ys.length:=List.length_pos_iff.2 hne
 have dst:∀ E w v,fC E h w (ρ x) v->∃ (base:Option Addr) (cap:Nat) (vs:List Value),v=.slice base olds.length cap/\cap<olds.length+ys.length/\(∀ e∈olds,e.length=re.sz)/\dV E h w olds.flatten vs/\(∀ c∈vs,c.oneCell'=true) /\
   ∀ w',w'.heap=w.heap->(Builtin.firstCells re.sz olds.length (.slice base olds.length cap)).run P w'=.ok vs.toArray w':=by
  intro E w v hr
  unfold aC8 at hx
  split at hx
  ·rename_i hxv
   obtain rfl:=gH hx
   rw[hxv]at hr
   cases hr
   exact⟨none,0,[],rfl,by simpa using aQQ,by simp,trivial,by simp,λw' _=>by simp[Builtin.firstCells]⟩
  ·rename_i sz' es hxv
   split at hx
   ·rename_i e
    obtain rfl:=gH hx
    rw[hxv]at hr
    cases hr with
    |sl0 _ _ a cap htt hm ha =>
     have:=htt rfl
     refine⟨_,_,[],rfl,by simp;omega,by simp,trivial,by simp,λw' _=>?_⟩
     cases a <;> simp[Builtin.firstCells,loadCells,loadCellsFrom]
    |sl _ _ _ b o' cap cv hI hcap hm htt hs hc hone hrr =>
     have:=htt rfl
     subst e
     obtain⟨vs,hL,hv1,hcell⟩:=aIB hs hc hone hrr
     refine⟨_,_,vs,rfl,by omega,hs,hL,hv1,λw' hw=>?_⟩
     refine run_firstCells_some w' _ _ _ _ _ vs (by rw[←hL.length,length_flatten _ hs]) λj u hu=>?_
     rw[aBZ hw];exact hcell j u hu
   ·simp at hx
  ·simp at hx

 intro E w ρc R hρ
 obtain⟨base,cap,vs,hv,hcap,hso,hLo,hv1,hfo⟩:=dst E w _ (hρ x)
 obtain⟨news,hsn,hlen,hfn,hLn,hn1,_⟩:=aGZ (P:=P) R hy (hρ y)
 have hs:∀ e∈olds++ys,e.length=re.sz:=λe he=>by
  rcases oW.1 he with h|h
  ·exact hso e h
  ·exact hsn e h
 refine wC re.sz (olds.length+ys.length) (olds++ys) hs hk ?_ E w ρc R hρ
 intro E w ρc R hρ
 obtain⟨base,cap,vs,hv,hcap,hso,hLo,hv1,hfo⟩:=dst E w _ (hρ x)
 obtain⟨news,hsn,hlen,hfn,hLn,hn1,_⟩:=aGZ (P:=P) R hy (hρ y)
 obtain⟨z,hzr,hzz⟩:=pP (w:=w) he aLR
 have hzr':∀ w,(zeroValue et).run P w=.ok z w:=by
  intro w'
  obtain⟨z',hzr',hzz'⟩:=pP (w:=w') he aLR
  have:z'=z:=by
   obtain⟨i,u,hi,_⟩:=rV he
   simp only[zeroValue,typeInfo,Sem.run_bind,run_program,Result.andThen_ok,hi,Sem.run_pure]at hzr hzr'
   cases hiz:i.zero with
   |none=>simp[hiz]at hzr
   |some z0=>simp[hiz]at hzr hzr';rw[←hzr,←hzr']
  rw[←this];exact hzr'
 have hzs:z.cells.size=re.sz:=by have:=congrArg List.length hzz;simp[hz]at this;exact this
 obtain⟨ncap,d,g1,g2,grun⟩:=zM (w:=w) (t1:=ats[1]?) ht hd he h1 ats a0 rfl o.type (base:=base) (sLen:=olds.length) (sCap:=cap) (n:=ys.length) (v:=ρc y) (olds:=vs) (news:=news) (z:=z) hzr' hlen hfo hfn hcap hb aA
 refine⟨(vs++news).toArray++Builtin.zeroCells z.cells (ncap-(olds.length+ys.length)),et,d,ncap,vs++news,(Builtin.zeroCells z.cells (ncap-(olds.length+ys.length))).toList,?_,g1,g2,?_,by simp,by rw[List.flatten_append];exact hLo.append hLn,λc hc=>?_⟩
 ·rw[pS x y ats ho,hv,grun];rfl
 ·have e1:=hLo.length
  have e2:=hLn.length
  rw[length_flatten _ hso]at e1
  rw[length_flatten _ hsn]at e2
  rw[bEI,aB0,hzs,bEJ,gD,←e1,←e2,←tV,←tV]
  have:olds.length+ys.length+(ncap-(olds.length+ys.length))=ncap:=by omega
  rw[this];exact bX _
 ·rcases oW.1 hc with h|h
  ·exact hv1 c h
  ·exact hn1 c h
theorem aGM (x y:Operand) (ats:Array TypeId) (t et:TypeId) (r re:lJ) (ho:o.op=.call { callee:=.builtin .append,args:=#[x,y],argTypes:=ats })
  (a0:ats[0]?=some t) (ht:iE P t=some r) (hd:r.d=.slice et) (he:iE P et=some re) (h1:zL P ats[1]?=true)
  (hx:(aC8 re.sz (ρ x)).isSome=true) (hy:vB h re.sz (ρ y)=some []) (hk:K (ρ x) h):oV P o ρ h K :=
 cG hk λE w ρc R hρ=>by
  obtain⟨news,hsn,hlen,hfn,hLn,hn1,_⟩:=aGZ (P:=P) R hy (hρ y)
  have hnil:news=[]:=by have:=hLn.length;simp at this;exact aGJ.1 this.symm
  subst hnil
  obtain⟨u,hu,hud,hrun⟩:=cE (w:=w) ht
  obtain rfl:=gX (hud.trans hd)
  have hsize:∀ w,(sizeOf et).run P w=.ok re.sz w:=λw=>gQ he
  have dst:∃ (base:Option Addr) (n cap:Nat),ρc x=.slice base n cap/\n<=cap:=by
   have hr:=hρ x
   unfold aC8 at hx
   split at hx
   ·rename_i e;rw[e]at hr;generalize ρc x=v at hr ⊢;cases hr;exact⟨none,0,0,rfl,bX _⟩
   ·rename_i e;rw[e]at hr;generalize ρc x=v at hr ⊢
    cases hr with
    |sl0=>exact⟨_,_,_,rfl,eF _⟩
    |sl=>exact⟨_,_,_,rfl,by assumption⟩
   ·cases hx
  obtain⟨base,n,cap,hv,hc⟩:=dst
  obtain⟨t',ht',hu1⟩:=aEU (w:=w) h1
  refine⟨ρc x,?_,hρ x⟩
  have hfn':=hfn w rfl
  have hlen':=hlen w
  simp only[sB]at hfn' hlen'
  rw[pS x y ats ho,hv]
  rcases hu1 with⟨e,hu1⟩|hu1
  ·cases base <;> simp[Builtin.append_,a0,ht',hrun,hsize,hu1,hlen',hc,hfn',storeCells]
  ·cases base <;> simp[Builtin.append_,a0,ht',hrun,hsize,hu1,hlen',hc,hfn',storeCells]
end
def Env.mv (E:Env) (b:Nat) (l:Option (Nat×Nat)) (S:Nat->Prop):Env where
 loc:=λm=>if m=b then l else E.loc m
 fp:=λm c=>if m=b then S c else E.fp m c
 used:=λm=>m=b∨E.used m
theorem Ev.mv {E:Env} {h:aB} {w w':World} (R:Rel E h w) {n:Nat} {x:bV} (hn:h n=some x) (hx:x.live) {b:Nat} (hb:¬E.used b) (l:Option (Nat×Nat)) (S:Nat->Prop) (x':bV)
  (hS:∀ c,S c->E.fp n c∨w.heap.size<=c) (hsize:w.heap.size<=w'.heap.size) (hheap:∀ c,c<w.heap.size->¬E.fp n c->w'.heap[c]?=w.heap[c]?) (hsh:∀ c,c<w.heap.size->w'.shape? c=w.shape? c) (hos:w'.os=w.os) (hout:w'.output=w.output) :
  Ev E h w (E.mv b l S) (aU (aU h n .gone) b x') w':=by
 have hnb:n≠b:=λe=>hb (e▸R.dom n (by simp[hn]))
 refine⟨hsize,λc hc=>⟨hheap c hc.1 (hc.2 n x hn hx),⟨by have:=hc.1;omega,?_⟩⟩,hsh,λm hm=>?_,hos,hout⟩
 ·intro m y hm hy hf
  by_cases e:m=b
  ·subst e
   have hf:S c:=by simpa[Env.mv]using hf
   rcases hS c hf with h1|h1
   ·exact hc.2 n x hn hx h1
   ·have:=hc.1;omega
  ·rw[aC _ _ _ _ e]at hm
   have hf:E.fp m c:=by simpa[Env.mv,e]using hf
   by_cases e2:m=n
   ·subst e2;rw[aI]at hm;obtain rfl:=gH hm;exact hy.elim
   ·rw[aC _ _ _ _ e2]at hm;exact hc.2 m y hm hy hf
 ·have e:m≠b:=λe=>hb (e▸hm)
  exact⟨by simp[Env.mv,e],.inr hm⟩
theorem Rel.mv {E:Env} {h:aB} {w w':World} (R:Rel E h w) {n:Nat} {x:bV} (hn:h n=some x) (hx:x.live) {b:Nat} (hb:¬E.used b) (l:Option (Nat×Nat)) (S:Nat->Prop) (x':bV)
  (hS:∀ c,S c->E.fp n c∨w.heap.size<=c) (hS':∀ c,S c->c<w'.heap.size) (hsize:w.heap.size<=w'.heap.size) (hheap:∀ c,c<w.heap.size->¬E.fp n c->w'.heap[c]?=w.heap[c]?) (hsh:∀ c,c<w.heap.size->w'.shape? c=w.shape? c) (hos:w'.os=w.os) (hout:w'.output=w.output)
  (hO:aC0 (E.mv b l S) (aU (aU h n .gone) b x') w' b x'):Rel (E.mv b l S) (aU (aU h n .gone) b x') w':=by
 have ev:=Ev.mv R hn hx hb l S x' hS hsize hheap hsh hos hout
 have hnb:n≠b:=λe=>hb (e▸R.dom n (by simp[hn]))
 have hcase:∀ m y,aU (aU h n .gone) b x' m=some y->y.live->(m=b/\y=x')∨(m≠b/\m≠n/\h m=some y):=by
  intro m y hm hy
  by_cases e:m=b
  ·subst e;rw[aI]at hm;exact .inl ⟨rfl,(gH hm).symm⟩
  ·rw[aC _ _ _ _ e]at hm
   by_cases e2:m=n
   ·subst e2;rw[aI]at hm;obtain rfl:=gH hm;exact hy.elim
   ·rw[aC _ _ _ _ e2]at hm;exact .inr ⟨e,e2,hm⟩
 refine⟨?_,?_,?_,?_,?_,R.laid.ev ev⟩
 ·obtain⟨N,hN⟩:=R.fin
  exact ⟨max N (b + 1), fun m hm => by rintro (e | e); · omega
                                       · exact hN m aA e⟩
 ·intro m hm
  by_cases e:m=b
  ·exact .inl e
  ·rw[aC _ _ _ _ e]at hm
   by_cases e2:m=n
   ·subst e2;exact .inr (R.dom m (by simp[hn]))
   ·rw[aC _ _ _ _ e2]at hm;exact .inr (R.dom m hm)
 ·intro m y c hm hy hf
  rcases hcase m y hm hy with⟨rfl,rfl⟩|⟨e,e2,hm'⟩
  ·exact hS' c (by simpa[Env.mv]using hf)
  ·have:=R.lt m y c hm' hy (by simpa[Env.mv,e]using hf);omega
 ·intro m y m' y' c hm hy hm' hy' hf hf'
  rcases hcase m y hm hy with⟨rfl,rfl⟩|⟨e,e2,h1⟩ <;> rcases hcase m' y' hm' hy' with⟨rfl,rfl⟩|⟨e',e2',h1'⟩
  ·rfl
  ·have hf:S c:=by simpa[Env.mv]using hf
   have hf':E.fp m' c:=by simpa[Env.mv,e']using hf'
   rcases hS c hf with h2|h2
   ·exact absurd (R.apart n x m' y' c hn hx h1' hy' h2 hf').symm e2'
   ·have:=R.lt m' y' c h1' hy' hf';omega
  ·have hf':S c:=by simpa[Env.mv]using hf'
   have hf:E.fp m c:=by simpa[Env.mv,e]using hf
   rcases hS c hf' with h2|h2
   ·exact absurd (R.apart n x m y c hn hx h1 hy h2 hf).symm e2
   ·have:=R.lt m y c h1 hy hf;omega
  ·exact R.apart m y m' y' c h1 hy h1' hy' (by simpa[Env.mv,e]using hf) (by simpa[Env.mv,e']using hf')
 ·intro m y hm
  by_cases e:m=b
  ·subst e;rw[aI]at hm;obtain rfl:=gH hm;exact hO
  ·rw[aC _ _ _ _ e]at hm
   by_cases e2:m=n
   ·subst e2;rw[aI]at hm;obtain rfl:=gH hm;trivial
   ·rw[aC _ _ _ _ e2]at hm
    refine(R.obj m y hm).ev ev (by simp[Env.mv,e]) (by funext c;simp[Env.mv,e]) λc hy hc=>hheap c (R.lt m y c hm hy hc) λhf=>e2 (R.apart m y n x c hm hy hn hx hc hf)
theorem aIE {α:Type} {a b:List (List α)} {i j:Nat} {x:α} (h:iJ (a++b) i j=some x):(i<a.length/\iJ a i j=some x)∨(a.length<=i/\iJ b (i-a.length) j=some x):=by
 unfold iJ at *
 by_cases hi:i<a.length
 ·rw[tU hi]at h;exact .inl ⟨hi,h⟩
 ·rw[v8 aA]at h;exact .inr ⟨by omega,h⟩
theorem aL2 {α:Type} {es:List (List α)} {i len k j:Nat} {x:α} (h:iJ ((es.drop i).take len) k j=some x):k<len/\iJ es (i+k) j=some x:=by
 obtain⟨e,h1,h2⟩:=kP h
 have hlt:k<len:=by have:=(iO.1 h1).1;simp at this;omega
 rw[aHV hlt,aHW]at h1
 exact⟨hlt,by simp[iJ,h1,h2]⟩
theorem aQR {ys:List (List aE)} {i j:Nat} {x:Cell} (h:iJ (ys.map (List.map Cell.v)) i j=some x):∃ y,iJ ys i j=some y/\x=.v y:=by
 rw[nF]at h
 obtain⟨y,hy,rfl⟩:=q0.1 h
 exact⟨y,hy,rfl⟩
theorem aW8 {E:Env} {h:aB} {w:World} {ys:List (List aE)} {sz:Nat} (hs:∀ e∈ys,e.length=sz) {vs:List Value} (hL:dV E h w ys.flatten vs) (h1:∀ c∈vs,c.oneCell'=true) {i j:Nat} {y:aE} (hy:iJ ys i j=some y) :
  ∃ c,vs[i*sz+j]?=some c/\fC E h w y c/\c.oneCell'=true:=by
 have hlt:=vA hs hy
 have hlen:vs.length=ys.length*sz:=by rw[←hL.length,length_flatten ys hs]
 have hv:vs[i*sz+j]?=some (vs[i*sz+j]'aA):=eY aA
 exact⟨_,hv,hL.get _ _ _ (u9 ys hs i j y hy) hv,h1 _ (kM _)⟩
theorem xR {E E':Env} {h h':aB} {w w':World} (ev:Ev E h w E' h' w') {b₀ sz i len:Nat} {es:List (List Cell)} {S:Nat->Prop} (hs:∀ e∈es,e.length=sz) {cv:Nat->Nat->Value} {T:Nat->Nat->Nat->Prop}
  (hT:∀ i j c,T i j c->S c/\c≠b₀) (hD:∀ i j i' j' c,T i j c->T i' j' c->i=i'/\j=j') (hrr:∀ i j x,iJ es i j=some x->wA E h w x (cv i j) (T i j)) (hle:i+len<=es.length)
  {ys:List (List aE)} (hsn:∀ e∈ys,e.length=sz) {news:List Value} (hLn:dV E h w ys.flatten news) (hn1:∀ c∈news,c.oneCell'=true)
  {blk o:Nat} {S':Nat->Prop} {cs:Array Value} {ct:TypeId} (hb:S' blk) (hS':∀ c,S c->c≠b₀->S' c/\c≠blk) (hkeep:∀ c,S c->c≠b₀->w'.heap[c]?=w.heap[c]?) (hh:w'.heap[blk]?=some (.cells cs ct (0,0))) (hm:o+(len+ys.length)*sz<=cs.size)
  (hold:∀ k j x,k<len->iJ es (i+k) j=some x->cs[o+k*sz+j]?=some (cv (i+k) j)) (hnew:∀ k,k<ys.length*sz->cs[o+len*sz+k]?=news[k]?) :
  aH5 E' h' w' blk o sz ((es.drop i).take len++ys.map (List.map .v)) S':=by
 have hlen:((es.drop i).take len).length=len:=by simp;omega
 have hnl:news.length=ys.length*sz:=by rw[←hLn.length,length_flatten ys hsn]
 refine⟨hb,?_,cs,ct,λk j=>if k<len then cv (i+k) j else(news[(k-len)*sz+j]?).getD undef,λk j c=>k<len/\T (i+k) j c,hh,?_,?_,?_,?_,?_⟩
 ·intro e he
  rcases oW.1 he with h1|h1
  ·exact hs e (aZ8 (aZ7 h1))
  ·obtain⟨e',he',rfl⟩:=lA.1 h1
   simpa using hsn e' he'
 ·simpa[hlen]using hm
 ·intro k j c ⟨_,hc⟩
  obtain⟨h1,h2⟩:=hT _ _ c hc
  exact hS' c h1 h2
 ·intro k j k' j' c ⟨_,hc⟩ ⟨_,hc'⟩
  have:=hD _ _ _ _ c hc hc'
  exact⟨by omega,this.2⟩
 ·intro k j x hx
  rcases aIE hx with⟨h1,h2⟩|⟨h1,h2⟩
  ·obtain⟨h3,h4⟩:=aL2 h2
   simp only[if_pos h3];exact hold k j x h3 h4
  ·rw[hlen]at h1 h2
   obtain⟨y,hy,rfl⟩:=aQR h2
   simp only[if_neg (show ¬k<len by omega)]
   obtain⟨c,hc,_,_⟩:=aW8 hsn hLn hn1 hy
   have hlt:=vA hsn hy
   have:=hnew ((k-len)*sz+j) hlt
   rw[hc]at this ⊢
   rw[aEO,←this]
   congr 1
   have:k*sz=len*sz+(k-len)*sz:=by rw[←tV];congr 1;omega
   omega
 ·intro k j x hx
  rcases aIE hx with⟨h1,h2⟩|⟨h1,h2⟩
  ·obtain⟨h3,h4⟩:=aL2 h2
   simp only[if_pos h3]
   refine((hrr _ _ _ h4).ev ev λc hc=>?_).mono λc hc=>⟨h3,hc⟩
   obtain⟨h5,h6⟩:=hT _ _ c hc
   exact hkeep c h5 h6
  ·rw[hlen]at h1 h2
   obtain⟨y,hy,rfl⟩:=aQR h2
   simp only[if_neg (show ¬k<len by omega)]
   obtain⟨c,hc,hr,hone⟩:=aW8 hsn hLn hn1 hy
   rw[hc]
   exact .v _ _ _ hone (hr.ev ev)
section
variable {P:Program} {o:Oper} {ρ:Operand->aE} {h:aB} {K:aE->aB->Prop}
theorem aK2 (x y:Operand) (ats:Array TypeId) (t et:TypeId) (r re:lJ) (n sz i len:Nat) (es:List (List Cell)) (ys:List (List aE)) (ho:o.op=.call { callee:=.builtin .append,args:=#[x,y],argTypes:=ats })
  (a0:ats[0]?=some t) (ht:iE P t=some r) (hd:r.d=.slice et) (he:iE P et=some re) (hz:re.zero.length=re.sz) (hz0:0<re.sz) (h1:zL P ats[1]?=true)
  (hx:ρ x=.os n sz i len) (hsz:re.sz=sz) (hn:h n=some (.row sz es)) (hle:i+len<=es.length) (hy:vB h sz (ρ y)=some ys) (hb:(len+ys.length)*re.bytes<=140737488355328) (hmax:len+ys.length<=9223372036854775807)
  (hk:∀ b,h b=none->K (.os b sz 0 (len+ys.length)) (aU (aU h n .gone) b (.row sz ((es.drop i).take len++ys.map (List.map .v))))):oV P o ρ h K:=by
 have hml:maxLen=9223372036854775807:=rfl
 subst hsz
 intro E w ρc R hρ
 obtain⟨news,hsn,hlen,hfn,hLn,hn1,_⟩:=aGZ (P:=P) R hy (hρ y)
 have hnl:news.length=ys.length*re.sz:=by rw[←hLn.length,length_flatten ys hsn]
 obtain⟨b,hbu⟩:=R.fresh
 have hK:=hk b (R.none hbu)
 obtain⟨u,hu,hud,hrun⟩:=cE (w:=w) ht
 obtain rfl:=gX (hud.trans hd)
 have hsize:∀ w,(sizeOf et).run P w=.ok re.sz w:=λw=>gQ he
 obtain⟨t',ht',hu1⟩:=aEU (w:=w) h1
 obtain⟨z,hzr,hzz⟩:=pP (w:=w) he aLR
 have hzr':∀ w,(zeroValue et).run P w=.ok z w:=by
  intro w'
  obtain⟨z',hzr',hzz'⟩:=pP (w:=w') he aLR
  have:z'=z:=by
   obtain⟨i,u,hi,_⟩:=rV he
   simp only[zeroValue,typeInfo,Sem.run_bind,run_program,Result.andThen_ok,hi,Sem.run_pure]at hzr hzr'
   cases hiz:i.zero with
   |none=>simp[hiz]at hzr
   |some z0=>simp[hiz]at hzr hzr';rw[←hzr,←hzr']
  rw[←this];exact hzr'
 have hzs:z.cells.size=re.sz:=by have:=congrArg List.length hzz;simp[hz]at this;exact this
 have hr:=hρ x
 rw[hx]at hr
 cases hv:ρc x <;> rw[hv]at hr <;> try(cases hr;done)
 cases hr with
 |os0 _ _ hd0 hl0 =>
  have hes:es=[]:=by
   rcases R.obj n _ hn with⟨b0,o0,h0,_⟩|⟨h0,_⟩
   ·rw[hl0]at h0;simp at h0
   ·exact h0
  subst hes
  by_cases hys:ys=[]
  ·subst hys
   have hnn:news=[]:=aGJ.1 (by simpa using hnl)
   have hrunA:(execOp ρc o).run P w=.ok (.value (.slice none 0 0)) w:=by
    rw[pS x y ats ho,hv]
    have iX:=hfn w rfl
    have hl0:=hlen w
    simp only[sB]at iX hl0
    rcases hu1 with⟨e,hu1⟩|hu1 <;> simp[Builtin.append_,a0,ht',hrun,hsize,hu1,hl0,iX,storeCells]
   have evm:=Ev.mv R hn trivial hbu none (λ_=>False) (.row re.sz []) (λ_ hf=>hf.elim) (bX _) (λ_ _ _=>rfl) (λ_ _=>rfl) rfl rfl
   have Rm:=Rel.mv R hn trivial hbu none (λ_=>False) (.row re.sz []) (λ_ hf=>hf.elim) (λ_ hf=>hf.elim) (bX _) (λ_ _ _=>rfl) (λ_ _=>rfl) rfl rfl (.inr ⟨rfl,by simp[Env.mv]⟩)
   refine .jM hrunA ⟨_,_,E.mv b none (λ_=>False),hK,?_,?_,?_⟩
   ·exact evm
   ·exact Rm
   ·exact .os0 b re.sz (.inl rfl) (by simp[Env.mv])
  ·have hpos:0<ys.length:=List.length_pos_iff.2 hys
   obtain⟨ncap,d,g1,g2,grun⟩:=zM (w:=w) (t1:=ats[1]?) ht hd he h1 ats a0 rfl o.type (base:=none) (sLen:=0) (sCap:=0) (n:=ys.length) (v:=ρc y) (olds:=[]) (news:=news) (z:=z) hzr' hlen
    (λw' _=>by simp[Builtin.firstCells]) hfn aA (by simpa using hb) aA
   have hrunA:(execOp ρc o).run P w=.ok (.value (.slice (some ⟨w.heap.size,0,none⟩) (0+ys.length) ncap)) (tZ w (.cells (([]++news).toArray++Builtin.zeroCells z.cells (ncap-(0+ys.length))) et) d):=by
    rw[pS x y ats ho,hv,grun];rfl
   have hcs:(([]++news).toArray++Builtin.zeroCells z.cells (ncap-(0+ys.length))).size=ncap*re.sz:=by
    rw[bEI,aB0,hzs,bEJ,gD,hnl,sB,aGG,←tV];congr 1;omega
   have evm:=Ev.mv (w':=tZ w (.cells (([]++news).toArray++Builtin.zeroCells z.cells (ncap-(0+ys.length))) et) d) R hn trivial hbu (some (w.heap.size,0)) (λc=>c=w.heap.size) (.row re.sz ((([]:List (List Cell)).drop 0).take 0++ys.map (List.map .v))) (λc hc=>.inr aA) aWV
    (λc hc _=>nE _ _ _ c hc) (λc hc=>by simp only[World.shape?,nE _ _ _ c hc]) rfl rfl
   have Rm:=Rel.mv (w':=tZ w (.cells (([]++news).toArray++Builtin.zeroCells z.cells (ncap-(0+ys.length))) et) d) R hn trivial hbu (some (w.heap.size,0)) (λc=>c=w.heap.size) (.row re.sz ((([]:List (List Cell)).drop 0).take 0++ys.map (List.map .v))) (λc hc=>.inr aA) (λc hc=>by rw[nM];omega) aWV
    (λc hc _=>nE _ _ _ c hc) (λc hc=>by simp only[World.shape?,nE _ _ _ c hc]) rfl rfl
    (.inl ⟨w.heap.size,0,by simp[Env.mv],by
     have hfp:(E.mv b (some (w.heap.size,0)) (λc=>c=w.heap.size)).fp b=(λc=>c=w.heap.size):=by funext c;simp[Env.mv]
     rw[hfp]
     exact xR evm (b₀:=w.heap.size) (i:=0) (len:=0) (es:=[]) (S:=λ_=>False) (cv:=λ_ _=>undef) (T:=λ_ _ _=>False) dG (λ_ _ _ hf=>hf.elim) (λ_ _ _ _ _ hf=>hf.elim) (λi j x hx=>by simp[iJ]at hx) dG hsn hLn hn1 rfl (λ_ hf=>hf.elim) (λ_ hf=>hf.elim) (u7 _ _ _)
      (by rw[hcs];simp only[aGG];exact a2B _ aA) (λk j x hk=>by omega) (λk hk=>by
       simp only[aGG,a2A]
       rw[bEK sP];simp)⟩)
   refine .jM hrunA ⟨_,_,_,hK,evm,Rm,?_⟩
   have:=fC.os (E:=E.mv b (some (w.heap.size,0)) (λc=>c=w.heap.size)) (h:=aU (aU h n .gone) b (.row re.sz ((([]:List (List Cell)).drop 0).take 0++ys.map (List.map .v)))) (w:=tZ w (.cells (([]++news).toArray++Builtin.zeroCells z.cells (ncap-(0+ys.length))) et) d)
    b re.sz 0 (0+ys.length) w.heap.size 0 ncap et (ncap*re.sz) (.inl rfl) (by simp[Env.mv]) aA g2 (by simp only[World.shape?,u7,hcs]) dG
   simpa using this
 |os _ _ _ _ b₀ o₀ cap' tt mm hd0 hl0 hlc hcm hsh hmm =>
  rename_i cap
  obtain⟨b1,o1,hl1,hbS,hs,cur,ct,cv,T,hh,hmr,hT,hD,hc,hrr⟩:=zJ R hn (.inr ⟨_,hl0⟩)
  rw[hl0]at hl1
  obtain⟨rfl,rfl⟩:=aNA (gH hl1)
  have hcsz:cur.size=mm:=by rw[mO hh]at hsh;exact(aNA (gH hsh)).2
  have hb0:b₀<w.heap.size:=aH7 hsh
  have hfplt:∀ c,E.fp n c->c<w.heap.size:=λc hc=>R.lt n _ c hn trivial hc
  have hrow:∀ k j,k<len->j<re.sz->∃ y,iJ es (i+k) j=some y:=λk j hk hj=>by
   have hlt:i+k<es.length:=by omega
   have hel:=hs es[i+k] (kM hlt)
   exact⟨es[i+k][j],by simp[iJ,eY hlt,eY (show j<es[i+k].length by omega)]⟩
  by_cases hroom:len+ys.length<=cap
  ·
   have hbase:(⟨b₀,o₀+i*re.sz,none⟩:Addr).add (len*re.sz)=⟨b₀,o₀+i*re.sz+len*re.sz,none⟩:=lV _ _ _
   have hspace:o₀+i*re.sz+len*re.sz+news.length<=cur.size:=by
    have:o₀+(i+(len+ys.length))*re.sz<=o₀+(i+cap)*re.sz:=by
     have:=a2B re.sz (show i+(len+ys.length)<=i+cap by omega)
     omega
    rw[hnl];simp only[tV]at *;omega
   have hst:=run_storeCells_at P b₀ (o₀+i*re.sz+len*re.sz) ct news 0 cur w hh (by simpa using hspace) hn1
   simp only[aTR]at hst
   generalize hcs':(cur.toList.take (o₀+i*re.sz+len*re.sz)++news++cur.toList.drop (o₀+i*re.sz+len*re.sz+news.length)).toArray=cs' at hst
   have hcs'sz:cs'.size=cur.size:=by rw[←hcs'];simp;omega
   have hrunA:(execOp ρc o).run P w=.ok (.value (.slice (some ⟨b₀,o₀+i*re.sz,none⟩) (len+ys.length) cap)) (w.setRow b₀ cs'):=by
    rw[pS x y ats ho,hv]
    have iX:=hfn w rfl
    rcases hu1 with⟨e,hu1⟩|hu1 <;> simp[Builtin.append_,a0,ht',hrun,hsize,hu1,hlen,iX,hroom,hbase,hst]
   have hheap':(w.setRow b₀ cs').heap[b₀]?=some (.cells cs' ct (0,0)):=setRow_heap w b₀ cur cs' ct (0,0) hh
   have hoth:∀ c,c≠b₀->(w.setRow b₀ cs').heap[c]?=w.heap[c]?:=λc hc=>setRow_other w b₀ c cs' hc
   have hshape:∀ c,c<w.heap.size->(w.setRow b₀ cs').shape? c=w.shape? c:=λc _=>by
    by_cases e:c=b₀
    ·subst e;rw[mO hheap',mO hh,hcs'sz]
    ·simp only[World.shape?,hoth c e]
   have hkp:∀ c,c<w.heap.size->¬E.fp n c->(w.setRow b₀ cs').heap[c]?=w.heap[c]?:=λc _ hf=>hoth c λe=>hf (e▸hbS)
   have evm:=Ev.mv (w':=w.setRow b₀ cs') R hn trivial hbu (some (b₀,o₀+i*re.sz)) (E.fp n) (.row re.sz ((es.drop i).take len++ys.map (List.map .v))) (λc hc=>.inl hc) dG hkp hshape rfl rfl
   have hfp:(E.mv b (some (b₀,o₀+i*re.sz)) (E.fp n)).fp b=E.fp n:=by funext c;simp[Env.mv]
   have Rm:=Rel.mv (w':=w.setRow b₀ cs') R hn trivial hbu (some (b₀,o₀+i*re.sz)) (E.fp n) (.row re.sz ((es.drop i).take len++ys.map (List.map .v))) (λc hc=>.inl hc) (λc hc=>by rw[setRow_size];exact hfplt c hc) dG hkp hshape rfl rfl
    (.inl ⟨b₀,o₀+i*re.sz,by simp[Env.mv],by
     rw[hfp]
     refine xR evm (b₀:=b₀) hs hT hD hrr hle hsn hLn hn1 hbS (λc hc hne=>⟨hc,hne⟩) (λc _ hne=>hoth c hne) hheap' ?_ ?_ ?_
     ·rw[hcs'sz];rw[hnl]at hspace;simp only[tV]at *;omega
     ·intro k j x hk hx
      have hj:=aGX hs hx
      have hin:=aBX hk hj
      rw[←hcs']
      simp only[aTU]
      rw[aNB,tU sP,aHV aA,al6]
      rw[←hc _ _ _ hx];congr 1;simp only[tV];omega
     ·intro k hk
      rw[←hcs']
      simp only[aTU]
      have hl1:(cur.toList.take (o₀+i*re.sz+len*re.sz)).length=o₀+i*re.sz+len*re.sz:=by simp;omega
      rw[aNB,v8 (by rw[hl1];omega),hl1,tU aA]
      congr 1;omega⟩)
   refine .jM hrunA ⟨_,_,_,hK,evm,Rm,?_⟩
   have:=fC.os (E:=E.mv b (some (b₀,o₀+i*re.sz)) (E.fp n)) (h:=aU (aU h n .gone) b (.row re.sz ((es.drop i).take len++ys.map (List.map .v)))) (w:=w.setRow b₀ cs')
    b re.sz 0 (len+ys.length) b₀ (o₀+i*re.sz) cap ct cur.size (.inl rfl) (by simp[Env.mv]) hroom hcm (by rw[mO hheap',hcs'sz]) (by rw[hcsz];simp only[tV]at *;omega)
   simpa using this
  ·
   have holds:∀ k,k<len*re.sz->∃ y,iJ es (i+k / re.sz) (k%re.sz)=some y:=λk hk=>by
    have h1:k / re.sz<len:=by rw[Nat.div_lt_iff_lt_mul hz0];exact hk
    exact hrow _ _ h1 (Nat.mod_lt _ hz0)
   generalize hod:(List.range (len*re.sz)).map (λk=>cv (i+k / re.sz) (k%re.sz))=olds
   have hol:olds.length=len*re.sz:=by rw[←hod];simp
   have hog:∀ k,k<len*re.sz->olds[k]?=some (cv (i+k / re.sz) (k%re.sz)):=λk hk=>by rw[←hod,qR,al9 hk];rfl
   obtain⟨ncap,d,g1,g2,grun⟩:=zM (w:=w) (t1:=ats[1]?) ht hd he h1 ats a0 rfl o.type (base:=some ⟨b₀,o₀+i*re.sz,none⟩) (sLen:=len) (sCap:=cap) (n:=ys.length) (v:=ρc y) (olds:=olds) (news:=news) (z:=z) hzr' hlen
    (λw' hw'=>run_firstCells_some w' _ _ _ _ _ olds hol λk v hv=>by
     have hk:k<len*re.sz:=by have:=(iO.1 hv).1;omega
     rw[hog k hk]at hv
     obtain rfl:=gH hv
     obtain⟨y,hy⟩:=holds k hk
     rw[aBZ hw',lV]
     simp only[World.cell?,hh,bEH,aM9,if_false]
     rw[←hc _ _ _ hy];congr 1
     have:=a7O k re.sz
     rw[aHX]at this
     simp only[tV];omega) hfn aA hb aA
   generalize hcs':(olds++news).toArray++Builtin.zeroCells z.cells (ncap-(len+ys.length))=cs' at grun
   have hcs'sz:cs'.size=ncap*re.sz:=by
    rw[←hcs',bEI,aB0,hzs,bEJ,gD,hnl,hol,←tV,←tV];congr 1;omega
   have hrunA:(execOp ρc o).run P w=.ok (.value (.slice (some ⟨w.heap.size,0,none⟩) (len+ys.length) ncap)) (tZ w (.cells cs' et) d):=by
    rw[pS x y ats ho,hv,grun];rfl
   have evm:=Ev.mv (w':=tZ w (.cells cs' et) d) R hn trivial hbu (some (w.heap.size,0)) (λc=>c=w.heap.size∨(E.fp n c/\c≠b₀)) (.row re.sz ((es.drop i).take len++ys.map (List.map .v)))
    (λc hc=>by rcases hc with h|h;exact .inr aA;exact .inl h.1) aWV (λc hc _=>nE _ _ _ c hc) (λc hc=>by simp only[World.shape?,nE _ _ _ c hc]) rfl rfl
   have hfp:(E.mv b (some (w.heap.size,0)) (λc=>c=w.heap.size∨(E.fp n c/\c≠b₀))).fp b=(λc=>c=w.heap.size∨(E.fp n c/\c≠b₀)):=by funext c;simp[Env.mv]
   have Rm:=Rel.mv (w':=tZ w (.cells cs' et) d) R hn trivial hbu (some (w.heap.size,0)) (λc=>c=w.heap.size∨(E.fp n c/\c≠b₀)) (.row re.sz ((es.drop i).take len++ys.map (List.map .v)))
    (λc hc=>by rcases hc with h|h;exact .inr aA;exact .inl h.1) (λc hc=>by rw[nM];rcases hc with h|h;omega;have:=hfplt c h.1;omega) aWV (λc hc _=>nE _ _ _ c hc) (λc hc=>by simp only[World.shape?,nE _ _ _ c hc]) rfl rfl
    (.inl ⟨w.heap.size,0,by simp[Env.mv],by
     rw[hfp]
     refine xR evm (b₀:=b₀) hs hT hD hrr hle hsn hLn hn1 (.inl rfl) (λc hc hne=>⟨.inr ⟨hc,hne⟩,by have:=hfplt c hc;omega⟩) (λc hc _=>nE _ _ _ c (hfplt c hc)) (u7 _ _ _) ?_ ?_ ?_
     ·rw[hcs'sz,aGG];exact a2B _ g1
     ·intro k j x hk hx
      have hj:=aGX hs hx
      have hin:=aBX hk hj
      rw[←hcs',bEK sP]
      simp only[aTU,aGG]
      rw[tU aA,hog _ hin]
      congr 2
      ·rw[aHX,Nat.mul_add_div hz0,a7M hj];rfl
      ·rw[aHX,Nat.mul_add_mod,Nat.mod_eq_of_lt hj]
     ·intro k hk
      rw[←hcs',bEK sP]
      simp only[aTU,aGG]
      rw[v8 aA,hol]
      congr 1;omega⟩)
   refine .jM hrunA ⟨_,_,_,hK,evm,Rm,?_⟩
   have:=fC.os (E:=E.mv b (some (w.heap.size,0)) (λc=>c=w.heap.size∨(E.fp n c/\c≠b₀))) (h:=aU (aU h n .gone) b (.row re.sz ((es.drop i).take len++ys.map (List.map .v)))) (w:=tZ w (.cells cs' et) d)
    b re.sz 0 (len+ys.length) w.heap.size 0 ncap et (ncap*re.sz) (.inl rfl) (by simp[Env.mv]) g1 g2 (by simp only[World.shape?,u7,hcs'sz]) dG
   simpa using this
end
end Go.Hl

/-
  Contracts of functions and laws of the layer over the walk.
-/
import Derived.WalkKit
import Derived.IntWalk
namespace Go.Hl
set_option linter.unusedVariables false
set_option linter.unusedSimpArgs false
set_option linter.defProp false
def lW:=@List.nil_append
def mV:=@List.length_append
def al2:=@List.length_cons
def al3:=@List.length_nil
def al4:=@Nat.zero_add
def nZ:=@List.map_cons
def sX:=@List.map_nil
def pQ:=@List.take_of_length_le
def nG:=@List.length_map
def iH:=@Nat.le_refl
def dI:=@List.getD_eq_getElem?_getD
def cM:=@List.getElem?_eq_getElem
def eI:=@List.getElem_mem
def dT:=@List.append_nil
def aSD:=@Array.getElem?_toList
def nO:=@List.mem_of_getElem?
def nE:=@List.getElem?_map
def aIY:=@List.getElem?_range
def u4:=@List.length_singleton
def aD5:=@List.mem_append_right
def aLF:=@List.mem_append_left
def mS:=@List.getElem?_eq_some_iff
def aLG:=@Nat.le_trans
def bRQ:=@Nat.lt_of_lt_of_le
def aU2:=@Array.getElem?_eq_some_iff
def gV:=@Option.some.inj
def bAX:=@List.getElem?_cons_zero
def a2I:=@Option.bind_some
def bJZ:=@List.flatten_cons
def bC0:=@Nat.zero_mul
def uU:=@List.getElem?_append_left
def wZ:=@List.getElem?_append_right
def wH:=@Nat.add_mul
def qU:=@List.mem_map
def u5:=@Option.map_eq_some_iff
def bJ0:=@List.getElem?_of_mem
def zF:=@List.all_eq_true
def aU3:=@Bool.false_eq_true
def aNG:=@Nat.add_zero
def aNH:=@Option.map_some
def bAY:=@Option.some.injEq
def aOS:=@List.getElem?_take_of_lt
def aYP:=@List.getElem?_drop
def aU4:=@Prod.mk.inj
def aLH:=@List.getElem?_set_self
def aLI:=@List.getElem?_set_ne
def aYQ:=@Nat.mul_le_mul_right
def bC1:=@Nat.succ_mul
def aU5:=@Nat.mul_comm
def bJ1:=@Nat.div_eq_of_lt
def l5:=@Ne.symm
def aSE:=@List.mem_or_eq_of_mem_set
def a2J:=@Array.getElem?_setIfInBounds_ne
def oW:=@Bool.and_eq_true
def pY:=@List.mem_cons
def bC2:=@Nat.add_assoc
def bC3:=@Option.map_none
def bC4:=@Int.toNat_zero
def aSF:=@List.take_zero
def bC5:=@Nat.sub_zero
def wI:=@Nat.sub_self
def bC6:=@List.drop_eq_nil_of_le
def bAZ:=@List.mem_of_mem_take
def bC7:=@List.mem_of_mem_drop
def aYR:=@List.replicate_succ
def aOT:=@Array.getElem?_eq_getElem
def bA0:=@List.eq_of_mem_replicate
def w6:=@List.mem_cons_of_mem
def bC8:=@Nat.eq_zero_or_pos
def aU6:=@List.length_set
def bJ2:=@Nat.div_add_mod
def aYS:=@List.length_replicate
def aNI:=@List.length_eq_zero_iff
def bRR:=@Option.isSome_none
def pJ:=@List.mem_append
def bRS:=@Array.size_append
def bRT:=@List.size_toArray
def fE:=@Nat.zero_le
def bA1:=@Option.getD_some
def bC9:=@Array.getElem?_append_left
def a2K:=@List.getElem?_toArray
def aD6:=@List.append_assoc
def bA2:=@Bool.not_eq_true'
def aLJ:=@Int.le_refl
def a2L:=@List.getElem?_eq_none
def bJ3:=@Bool.false_and
def aU7:=@Bool.false_or
def x6:=@List.mem_cons_self
def bDA:=@Bool.not_true
def aOU:=@List.any_eq_true
def bJ4:=@List.contains_iff_mem
def aLK:=@List.mem_range
def aG7:=@List.map_congr_left
def bDB:=@Array.all_eq_true_iff_forall_mem
def bDC:=@Classical.byContradiction
def aU8:=@List.cons_append
def iI:=@List.toList_toArray
def bJ5:=@List.getElem?_cons_succ
def nU:=@Int.toNat_natCast
def aG8:=@List.drop_zero
def bDD:=@List.take_succ_cons
def jT:=@List.length_take
def bDE:=@List.take_append_drop
def bDF:=@List.take_append_of_le_length
def aYT:=@List.eq_nil_of_length_eq_zero
def kS:=@List.map_append
def aMM:=@List.nodup_append
def aMN:=@List.nodup_cons
def jU:=@List.take_succ_eq_append_getElem
def aD7:=@List.map_map
def aMO:=@List.getElem?_replicate
def bDG:=@List.set_append_right
def bDH:=@List.set_cons_zero
def aOV:=@List.sum_cons
def jF:=@List.mem_singleton
def bO7:=@List.findIdx?_eq_some_iff_getElem
def bZ:=@Nat.lt_or_ge
def mR:=@List.take_length
def bX:=@Nat.lt_irrefl
def bDI:=@List.length_pos_of_mem
def aS5:=@Nat.lt_succ_iff_lt_or_eq
def a57:=@Int.tdiv_eq_ediv_of_nonneg
def zH:=@Int.tmod_eq_emod_of_nonneg
def dB:=@Int.lt_irrefl
def aYU:=@List.map_take
def bN:=@Nat.zero_lt_one
def aD8:=@List.mem_iff_getElem
def aS6:=@List.mem_replicate
def aS7:=@Int.pow_zero
def aYV:=@Int.pow_succ
def aS8:=@Int.mul_emod
def aYW:=@Int.one_mul
def aOW:=@Int.mul_comm
def a58:=@Int.mul_assoc
def r7:=@Nat.le_succ
def a6A:=@Int.emod_eq_of_lt
def vT:=@List.ext_getElem
def r8:=@List.getElem_map
def aS9:=@List.prefix_refl
def bDJ:=@List.prefix_append
def aIZ:=@List.getD_cons_zero
def aI0:=@List.getD_cons_succ
def a6B:=@List.range_succ
def aD9:=@Nat.lt_succ_self
def dZ:=@Option.toArray_none
def eC:=@Option.toArray_some
def eE:=@List.filterMap_cons
def eF:=@List.filterMap_nil
def eH:=@List.elem_cons_self
def bDK:=@List.getElem?_zipWith
def aTA:=@Nat.sub_add_cancel
def aI1:=@List.map_singleton
def aMP:=@Nat.not_lt_zero
def aYX:=@List.getElem_range
def aYY:=@Nat.mul_add
def bDL:=@Nat.add_sub_cancel_left
def aYZ:=@List.length_mapIdx
def bDM:=@List.getElem_mapIdx
def a6C:=@List.getElem_append_left
def a6D:=@List.getElem_append_right
def aTB:=@List.not_mem_nil
theorem gG {p:Prop} (h:p:=by repeat'(first|exact qV.nil|refine qV.cons ?_ ?_|exact Sub.refl _|(rw[aB.aS];exact Sub.refl _)|exact Sub.bJ6 rfl rfl rfl|exact Sub.ip (a6E aA) cT|exact Sub.bJ6 (a6E aA) rfl rfl|exact Sub.ip (by simp[*]) cT|exact Sub.bJ6 (by simp[*]) (by rfl) (by rfl))):p:=h
theorem bYW {p:Prop} (h:p:=by simp only[aG,jP,kK,iQ,tQ,tR,jQ,lP,jR,sK,tS,kL,lQ,l6,eJ,dJ,iR,jS,l7,sM,tT,tU,sN,eK,sO,c7,tV,tW,dK,tX,c8,↓reduceIte]):p:=h
theorem bYX {p:Prop} (h:p:=by rw[jW];exact oA.sub (xs:=[(.str x.aD[ka].e8),(I x.aD[ka].aT),(gW 5 esi.length oi_)]) (ys:=[(.str x.aD[ka].e8),(I x.aD[ka].aT),(gov 5 esi oi_).val]) (qV.cons (Sub.refl _) (qV.cons (Sub.refl _) (qV.cons aFT qV.nil))) _):p:=h
theorem bYY {p:Prop} (h:p:=by simp only[aG,w9,xA,aG9,aEA,qW,xB,nW,wJ,aAE,aU9,xC,nX,hU,aAF,aVA,aHA,wK,iA,aAZ,a2M,aEB,aAG,aAH,aA0,aLL,qX,aVB,aVC,a2N,aLM,↓reduceIte]):p:=h
theorem aDZ {p:Prop} (h:p:=by intro q_;simp only[aG,aQ,aK,b5,aY,fF,jW,lK,mT,a2O,bA3,OV.jB,lW,mV,al2,al3,al4];grind):p:=h
theorem bRU {p:Prop} (h:p:=by repeat'(first|exact tY _ _|refine xD (by simp only[iS,↓reduceIte,eq_self,if_true,dO,cX,dP,fI,cY,fJ]) ?_|refine qY aI2 ?_)):p:=h
theorem bRV {p:Prop} (h:p:=by repeat'(first|exact tY _ _|refine xD (by simp only[iS,↓reduceIte,eq_self,if_true,dO,dP,nZ,sX]) ?_|refine qY aI2 ?_)):p:=h
theorem bYZ {p:Prop} (h:p:=by simp only[aG,qZ,u6,aB3,rA,rW,vL,u7,rX,dJ,aB4,vM,dK,↓reduceIte];rw[aA1,pQ (by rw[nG,nG];exact iH _)]):p:=h
theorem bY0 {p:Prop} (h:p:=by refine⟨by simp[c4,b7,aB.aS,hk],by repeat'(with_reducible first|exact aE.le_refl _|refine(bP lL).2 ?_),by simp⟩):p:=h
theorem bJ7 {p:Prop} (h:p:=by refine⟨by simp[c4,b7,aC.aS],by repeat'(with_reducible first|exact aE.le_refl _|refine(bP lL).2 ?_),by simp⟩):p:=h
theorem bO8 {p:Prop} (h:p:=by repeat'(first|exact tY _ _|refine xD (by simp only[iS,↓reduceIte,eq_self,if_true,cX,cY]) ?_|refine qY aI2 ?_)):p:=h
theorem bO9 {p:Prop} (h:p:=by repeat'(first|exact tY _ _|refine xD (by simp only[iS,↓reduceIte,eq_self,if_true,fK,fL]) ?_|refine qY aI2 ?_)):p:=h
theorem aGS {p:Prop} (h:p:=by simp only[aG,gI,dM,eJ,dJ,gJ,gK,eT,eX,dN,gL,gM,gN,eK,eY,gO,c7,dK,eZ,gP,c8,↓reduceIte]):p:=h
theorem bPA {p:Prop} (h:p:=by simp only[aG,kK,iQ,rY,jP,kL,l6,fI,lQ,iR,l7,pZ,jS,rZ,fJ,p0,aAI,jQ,lP,jR,aAJ,↓reduceIte]):p:=h
theorem bPB {p:Prop} (h:p:=by simp only[aG,qZ,u6,aB3,rA,rW,vL,u7,rX,dJ,aB4,vM,dK,↓reduceIte];exact E1):p:=h
theorem aGT {p:Prop} (h:p:=by first|omega|decide|rfl|trivial|exact Nat.le_of_eq (bY1 _ _).symm|exact Nat.le_of_eq (cW _).symm):p:=h
theorem bPC {p:Prop} (h:p:=by simp only[aG,qZ,u6,rA,rW,u7,rX,↓reduceIte];rw[oX];rfl):p:=h
theorem bPD {p:Prop} (h:p:=by have:=(hok.1 z).2 k hlt;rwa [show jV e.aP k vars=vars from if_neg aA]at this):p:=h
theorem bDN {p:Prop} (h:p:=by rw[dI,cM aA];exact eI _):p:=h
theorem bPE {p:Prop} (h:p:=by simp only[aG,qZ,u6,rA,rW,u7,rX,↓reduceIte];exact E1):p:=h
theorem bPF {p:Prop} (h:p:=by simpa only[OV.fC,OV.gZ,OV.sZ,lW,dT]using wf):p:=h
theorem lL {p:Prop} (h:p:=by first|assumption|exact And.right lF|exact r9.2 lF):p:=h
theorem a6F {p:Prop} (h:p:=by rw[aI _ _ _ _ oY,aI _ _ _ _ oZ,aI _ _ _ _ aB5];exact zs):p:=h
theorem a6G {p:Prop} (h:p:=by rw[aI _ _ _ _ tZ,aI _ _ _ _ uA,aI _ _ _ _ aNT];exact zg):p:=h
theorem aY0 {p:Prop} (h:p:=by clear ih hok hnode hv hc v0 q0 q1 h1 h2;intro q_;simp only[aG];grind):p:=h
theorem a6H {p:Prop} (h:p:=by simp only[aG,dO,cX,dP,fI,cY,fJ,↓reduceIte]):p:=h
theorem aY1 {p:Prop} (h:p:=by simp[lX,aH.eM,jG,gA,pQ,F10,hls]):p:=h
theorem bDO {p:Prop} (h:p:=by clear hkids hok hnode hv hc q0 q1 hnx;intro q_;simp only[aG];grind):p:=h
theorem bDP {p:Prop} (h:p:=by simp only[aG,gT,fJ,gU,dN,fI,dM,↓reduceIte]):p:=h
theorem bPG {p:Prop} (h:p:=by rcases hn with hn|hn;exact .inr (.inl hn);exact .inr (.inr (.inl hn))):p:=h
theorem bPH {p:Prop} (h:p:=by rw[←aSD]at hk;exact nO hk):p:=h
theorem bPI {p:Prop} (h:p:=by rw[mulL,nE,aIY aA];rfl):p:=h
theorem a6I {p:Prop} (h:p:=by rw[aI _ _ _ _ aFU,aI _ _ _ _ aI3];exact z19):p:=h
theorem a6J {p:Prop} (h:p:=by rw[aI _ _ _ _ oY,aI _ _ _ _ oZ];exact zs):p:=h
theorem a6K {p:Prop} (h:p:=by rw[aI _ _ _ _ bJ8,aI _ _ _ _ zI,aM]):p:=h
theorem a6L {p:Prop} (h:p:=by rw[aI _ _ _ _ tZ,aI _ _ _ _ uA];exact zg):p:=h
theorem bPJ {p:Prop} (h:p:=by rw[r3.1,F.kids];exact F.oks _ (nO F.out)):p:=h
theorem bPK {p:Prop} (h:p:=by rw[a2.1 rr.toNat (by unfold rQ at r3;omega) g2];exact hz):p:=h
theorem bPL {p:Prop} (h:p:=by have:=vN aB.s hy;rw[x.u9,l8]at hs;omega):p:=h
theorem bDR {p:Prop} (h:p:=by have:=(hgs _ (eI h)).1;rw[aEC];omega):p:=h
theorem aI2 {p:Prop} (h:p:=by first|exact .inr lF|exact .inl cT):p:=h
theorem a6M {p:Prop} (h:p:=by rw[hvl,f5];exact F.oks _ (nO F.out)):p:=h
theorem bDS {p:Prop} (h:p:=by rw[mV];show env.length+1<=_;omega):p:=h
theorem aY2 {p:Prop} (h:p:=by simp[lX,aH.eM,pQ,F10]):p:=h
theorem aY3 {p:Prop} (h:p:=by rw[mV,u4];omega):p:=h
theorem bDT {p:Prop} (h:p:=by rw[mV,mV,hls];rfl):p:=h
theorem sA {p:Prop} (h:p:=by rw[aO];exact aE.bP hb (aE.le_refl _)):p:=h
theorem aY4 {p:Prop} (h:p:=by rw[aO];exact aE.bP hm (aE.le_refl _)):p:=h
theorem bDU {p:Prop} (h:p:=by rw[aO];exact aE.bP hn (aE.le_refl _)):p:=h
theorem a6N {p:Prop} (h:p:=by rw[OV.cJ];exact aD5 _ hp):p:=h
theorem bDV {p:Prop} (h:p:=by simp[lX,aH.eM,pQ]):p:=h
theorem a6O {p:Prop} (h:p:=by rw[OV.cJ];exact aLF _ hp):p:=h
theorem bDW {p:Prop} (h:p:=by have:=(hgs _ (eI h)).1;omega):p:=h
theorem aOX {p:Prop} (h:p:=by rw[vO _ hc'];exact mW _ _ hc'):p:=h
theorem a6P {p:Prop} (h:p:=by simp[aG,aK,aVD,aVE]):p:=h
theorem aOY {p:Prop} (h:p:=by rw[nG];exact iH _):p:=h
theorem aY5 {p:Prop} (h:p:=by rw[cW];have:=hor.length;omega):p:=h
theorem a6Q {p:Prop} (h:p:=by unfold dD at hlen;simp at hlen;omega):p:=h
theorem a6R {p:Prop} (h:p:=by have:=kB (eI h);omega):p:=h
theorem aI4 {p:Prop} (h:p:=by rw[vO _ hc];exact mW _ _ hc):p:=h
theorem aTD {p:Prop} (h:p:=by intro e;rw[e]at hz;simp at hz;omega):p:=h
theorem a6S {p:Prop} (h:p:=by rw[aI _ _ _ _ oZ];exact hB1):p:=h
theorem a6T {p:Prop} (h:p:=by rw[aI _ _ _ _ uA];exact hB2):p:=h
theorem a6U {p:Prop} (h:p:=by rw[aI _ _ _ _ aFU];exact z19):p:=h
theorem a6V {p:Prop} (h:p:=by rw[aI _ _ _ _ aI5];exact z18):p:=h
theorem aTE {p:Prop} (h:p:=by rw[aI _ _ _ _ zI,aM]):p:=h
theorem aY6 {p:Prop} (h:p:=by rw[aI _ _ _ _ kM,aM]):p:=h
theorem a6X {p:Prop} (h:p:=by rw[vA];exact iH _):p:=h
theorem bDX {p:Prop} (h:p:=by rw[hv.1,f9.2.2];exact F.oks x hx):p:=h
theorem x7 {p:Prop} (h:p:=by rw[aO];exact aE.le_refl _):p:=h
theorem aDS {p:Prop} (h:p:=by rw[mV];exact o1):p:=h
theorem bDY {p:Prop} (h:p:=by rw[mV,hAl,hDl]):p:=h
theorem aY7 {p:Prop} (h:p:=by simp[c4,b7,aE.le_refl]):p:=h
theorem bDZ {p:Prop} (h:p:=by rw[nE,ef];rfl):p:=h
theorem a6Y {p:Prop} (h:p:=by have:=hm2 cE;omega):p:=h
theorem bD0 {p:Prop} (h:p:=by simp only[aB.aP];omega):p:=h
theorem a6Z {p:Prop} (h:p:=by have:=aB.kB hy;omega):p:=h
theorem aI6 {p:Prop} (h:p:=by unfold cV at hin;omega):p:=h
theorem bD1 {p:Prop} (h:p:=by simp[gA,jG,gW]):p:=h
theorem bD2 {p:Prop} (h:p:=by rw[mV];rfl):p:=h
theorem aY8 {p:Prop} (h:p:=by simp[jG,gA,hls]):p:=h
theorem a60 {p:Prop} (h:p:=by simp only[Low,Dig];omega):p:=h
theorem a62 {p:Prop} (h:p:=by rw[nG];omega):p:=h
theorem bD3 {p:Prop} (h:p:=by simpa[Env.add,e]using hb):p:=h
theorem aY9 {p:Prop} (h:p:=by rw[vU];exact hab):p:=h
theorem aZA {p:Prop} (h:p:=by rw[hop aA,h1]):p:=h
theorem a63 {p:Prop} (h:p:=by simp[jG,gA]):p:=h
theorem aMR {p:Prop} (h:p:=by rw[←hV];exact aOZ):p:=h
theorem aTF {p:Prop} (h:p:=by rw[nG]):p:=h
theorem aTG {p:Prop} (h:p:=by exact aE.le_refl _):p:=h
theorem a64 {p:Prop} (h:p:=by rw[qJ];omega):p:=h
theorem a65 {p:Prop} (h:p:=by rw[nb.2.1,na.2.1]):p:=h
theorem aTH {p:Prop} (h:p:=by rw[na.2.1];omega):p:=h
theorem aTI {p:Prop} (h:p:=by rw[hown.1];omega):p:=h
theorem pK {p:Prop} (h:p:=by unfold oU;omega):p:=h
theorem tD {p:Prop} (h:p:=by rw[x8.1];omega):p:=h
theorem wW {p:Prop} (h:p:=by rw[hsk.1];omega):p:=h
theorem aA2 {p:Prop} (h:p:=by rw[x8.1,xE.1]):p:=h
theorem aTJ {p:Prop} (h:p:=by rw[hv0.1];omega):p:=h
theorem a66 {p:Prop} (h:p:=by simp[aU.aS]):p:=h
theorem aVF {p:Prop} (h:p:=by rw[hv0.1,hv1.1]):p:=h
theorem aVG {p:Prop} (h:p:=by rw[hDl];exact h):p:=h
theorem aO0 {p:Prop} (h:p:=by simp only;omega):p:=h
theorem aB6 {p:Prop} (h:p:=by simpa using hv):p:=h
theorem aHC {p:Prop} (h:p:=by simp[bH]):p:=h
theorem aLO {p:Prop} (h:p:=by simpa using hl):p:=h
theorem aO1 {p:Prop} (h:p:=by simpa using hx):p:=h
theorem s4 {p:Prop} (h:p:=by simp;omega):p:=h
theorem lF {p:Prop} (h:p:=by assumption):p:=h
theorem cE {p:Prop} (h:p:=by decide):p:=h
theorem aA {p:Prop} (h:p:=by omega):p:=h
theorem cT {p:Prop} (h:p:=by simp):p:=h
theorem pjx {a b:Prop} (h:a) (e:a->b:=by intro q;repeat first|exact q|exact q.1|replace q:=q.2):b:=e h
theorem bB {a b:Nat} (h:¬a=b):¬a=b/\(a=b)=False/\(b=a)=False/\¬b=a:=⟨h,eq_false h,eq_false λe=>h e.symm,λe=>h e.symm⟩
inductive aH where
 |any
 |bool (b:Bool)
 |int (k:IntKind) (n:Int)
 |str (s:List UInt8)
 |kT
 |bD
 |wX
 |nK
 |r5
 |sl (sz:Nat) (es:List (List aH)) (tight:Bool)
 |ip (sz:Nat) (es:List (List aH)) (i off:Nat)
 |os (n sz i len:Nat)
 |op (n sz i off:Nat)
 |agg (cs:List aH)
 |jO (cs:List aH)
 |fn (f:Fn) (first cap:List aH)
 |iface (t:TypeId) (v:aH)
 |mp (n:Nat)
 deriving Inhabited
inductive Cell where
 |v (x:aH)
 |own (sz:Nat) (es:List (List Cell))
 deriving Inhabited
inductive bE where
 |row (sz:Nat) (es:List (List Cell))
 |map (kt et:TypeId) (l:List (aH×aH))
 |raw (t:TypeId) (cs:Array Value)
 |abs (Q:Nat->(Nat->Prop)->World->Prop)
 |gone
 deriving Inhabited
abbrev aE:=Nat->Option bE
def bE.live:bE->Prop
 | .gone=>False
 | _=>True
def aR (h:aE) (n:Nat) (o:bE):aE:=λm=>if m=n then some o else h m
structure Env where
 loc:Nat->Option (Nat×Nat)
 fp:Nat->Nat->Prop
 used:Nat->Prop
def qK (E:Env) (h:aE) (w:World) (b:Nat):Prop :=
 b<w.heap.size/\∀ n o,h n=some o->o.live->¬E.fp n b
def kA {α:Type} (es:List (List α)) (i j:Nat):Option α:=(es[i]?).bind (·[j]?)
theorem lG {α:Type} {es:List (List α)} {i j:Nat} {x:α} (h:kA es i j=some x):∃ e,es[i]?=some e/\e[j]?=some x:=by
 unfold kA at h
 cases he:es[i]? with
 |none=>simp[he]at h
 |some e=>exact⟨e,rfl,by simpa[he]using h⟩
theorem bD4 {α:Type} {es:List (List α)} {i j:Nat} {x:α} (h:kA es i j=some x):i<es.length:=by
 obtain⟨e,he,_⟩:=lG h
 exact(mS.1 he).1
theorem aNU {α:Type} {es:List (List α)} {sz i j:Nat} {x:α} (hs:∀ e∈es,e.length=sz) (h:kA es i j=some x):j<sz:=by
 obtain⟨e,he,hj⟩:=lG h
 have:=hs e (nO he)
 have:=(mS.1 hj).1
 omega
inductive gC (E:Env) (h:aE) (w:World):aH->Value->Prop where
 |any (v:Value):gC E h w .any v
 |bool (b:Bool):gC E h w (.bool b) (.bool b)
 |int (k:IntKind) (n:Int):gC E h w (.int k n) (.int k n)
 |str (s:List UInt8) (hl:s.length<=maxLen):gC E h w (.str s) (.string ⟨s.toArray⟩)
 |kT:gC E h w .kT (.pointer none)
 |bD:gC E h w .bD (.slice none 0 0)
 |wX:gC E h w .wX .nilFunc
 |nK:gC E h w .nK .nilIface
 |r5:gC E h w .r5 (.map none)
 |sl0 (sz:Nat) (t:Bool) (a:Option Addr) (cap:Nat) (ht:t=true->cap=0) (hmax:cap<=maxLen) (ha:True):gC E h w (.sl sz [] t) (.slice a 0 cap)
 |sl (sz:Nat) (es:List (List aH)) (t:Bool) (b o cap:Nat) (cv:Nat->Nat->Value) (hi:qK E h w b) (hcap:es.length<=cap) (hmax:cap<=maxLen)
   (ht:t=true->cap=es.length) (hs:∀ e∈es,e.length=sz)
   (hc:∀ i j x,kA es i j=some x->w.cell? ⟨b,o+i*sz+j,none⟩=some (cv i j)) (h1:∀ i j x,kA es i j=some x->(cv i j).oneCell'=true)
   (hr:∀ i j x,kA es i j=some x->gC E h w x (cv i j)):gC E h w (.sl sz es t) (.slice (some ⟨b,o,none⟩) es.length cap)
 |ip (sz:Nat) (es:List (List aH)) (i off b o:Nat) (cv:Nat->Nat->Value) (hi:qK E h w b) (hs:∀ e∈es,e.length=sz)
   (hc:∀ i j x,kA es i j=some x->w.cell? ⟨b,o+i*sz+j,none⟩=some (cv i j)) (h1:∀ i j x,kA es i j=some x->(cv i j).oneCell'=true)
   (hr:∀ i j x,kA es i j=some x->gC E h w x (cv i j)):gC E h w (.ip sz es i off) (.pointer (some ⟨b,o+i*sz+off,none⟩))
 |os (n sz i len b o cap:Nat) (t:TypeId) (m:Nat) (hd:E.used n) (hl:E.loc n=some (b,o)) (hlc:len<=cap) (hmax:cap<=maxLen)
   (hsh:w.shape? b=some (t,m)) (hm:o+(i+cap)*sz<=m):gC E h w (.os n sz i len) (.slice (some ⟨b,o+i*sz,none⟩) len cap)
 |os0 (n sz:Nat) (hd:E.used n) (hl:E.loc n=none):gC E h w (.os n sz 0 0) (.slice none 0 0)
 |op (n sz i off b o:Nat) (hd:E.used n) (hl:E.loc n=some (b,o)):gC E h w (.op n sz i off) (.pointer (some ⟨b,o+i*sz+off,none⟩))
 |agg (cs:List aH) (vs:List Value) (hl:cs.length=vs.length) (hr:∀ (i:Nat) (x:aH) (v:Value),cs[i]?=some x->vs[i]?=some v->gC E h w x v):gC E h w (.agg cs) (.agg vs.toArray)
 |jO (cs:List aH) (vs:List Value) (hl:cs.length=vs.length) (hr:∀ (i:Nat) (x:aH) (v:Value),cs[i]?=some x->vs[i]?=some v->gC E h w x v):gC E h w (.jO cs) (.tuple vs.toArray)
 |fn (f:Fn) (cs ds:List aH) (vs us:List Value) (hl:cs.length=vs.length) (hr:∀ (i:Nat) (x:aH) (v:Value),cs[i]?=some x->vs[i]?=some v->gC E h w x v)
   (hl':ds.length=us.length) (hr':∀ (i:Nat) (x:aH) (v:Value),ds[i]?=some x->us[i]?=some v->gC E h w x v):gC E h w (.fn f cs ds) (.func f vs.toArray us.toArray)
 |iface (t:TypeId) (x:aH) (v:Value) (hr:gC E h w x v):gC E h w (.iface t x) (.iface t v)
 |mp (n b o:Nat) (hd:E.used n) (hl:E.loc n=some (b,o)):gC E h w (.mp n) (.map (some b))
def fD (E:Env) (h:aE) (w:World):List aH->List Value->Prop
 | [],[]=>True
 |x::xs,v::vs=>gC E h w x v/\fD E h w xs vs
 | _,_=>False
theorem fD.length {E:Env} {h:aE} {w:World}:∀ {xs:List aH} {vs:List Value},fD E h w xs vs->xs.length=vs.length
 | [],[],_=>rfl
 |x::xs,v::vs,hh=>by simpa using fD.length hh.2
 | [],_::_,hh=>hh.elim
 | _::_,[],hh=>hh.elim
theorem fD.get {E:Env} {h:aE} {w:World}:∀ {xs:List aH} {vs:List Value},fD E h w xs vs ->
  ∀ (i:Nat) (x:aH) (v:Value),xs[i]?=some x->vs[i]?=some v->gC E h w x v
 | [],[],_,i,x,v,hx,_=>by simp at hx
 |x::xs,v::vs,hh,0,y,u,hx,hv=>by simp at hx hv;subst hx;subst hv;exact hh.1
 |x::xs,v::vs,hh,i+1,y,u,hx,hv=>fD.get hh.2 i y u aO1 aB6
 | [],_::_,hh,_,_,_,_,_=>hh.elim
 | _::_,[],hh,_,_,_,_,_=>hh.elim
theorem fD.mk {E:Env} {h:aE} {w:World}:∀ {xs:List aH} {vs:List Value},xs.length=vs.length ->
  (∀ (i:Nat) (x:aH) (v:Value),xs[i]?=some x->vs[i]?=some v->gC E h w x v)->fD E h w xs vs
 | [],[],_,_=>trivial
 |x::xs,v::vs,hl,hr=>⟨hr 0 x v rfl rfl,fD.mk aLO (λi y u hy hu=>hr (i+1) y u (by simpa using hy) (by simpa using hu))⟩
 | [],_::_,hl,_=>by simp at hl
 | _::_,[],hl,_=>by simp at hl
theorem fD.append {E:Env} {h:aE} {w:World}:∀ {xs:List aH} {vs:List Value} {ys:List aH} {us:List Value},
  fD E h w xs vs->fD E h w ys us->fD E h w (xs++ys) (vs++us)
 | [],[],_,_,_,hy=>hy
 |x::xs,v::vs,_,_,hx,hy=>⟨hx.1,fD.append hx.2 hy⟩
 | [],_::_,_,_,hx,_=>hx.elim
 | _::_,[],_,_,hx,_=>hx.elim
inductive aAK (E:Env) (h:aE) (w:World):Cell->Value->(Nat->Prop)->Prop where
 |v (x:aH) (c:Value) (S:Nat->Prop) (h1:c.oneCell'=true) (hx:gC E h w x c):aAK E h w (.v x) c S
 |a2P (sz:Nat) (a:Option Addr) (cap:Nat) (S:Nat->Prop) (hmax:cap<=maxLen) (ha:True):aAK E h w (.own sz []) (.slice a 0 cap) S
 |own (sz:Nat) (es:List (List Cell)) (b o cap:Nat) (S:Nat->Prop) (cs:Array Value) (t:TypeId) (cv:Nat->Nat->Value) (T:Nat->Nat->Nat->Prop)
   (hb:S b) (hh:w.heap[b]?=some (.cells cs t (0,0))) (hlc:es.length<=cap) (hmax:cap<=maxLen) (hm:o+cap*sz<=cs.size) (hs:∀ e∈es,e.length=sz)
   (hT:∀ i j c,T i j c->S c/\c≠b) (hD:∀ i j i' j' c,T i j c->T i' j' c->i=i'/\j=j')
   (hc:∀ i j x,kA es i j=some x->cs[o+i*sz+j]?=some (cv i j))
   (hr:∀ i j x,kA es i j=some x->aAK E h w x (cv i j) (T i j)):aAK E h w (.own sz es) (.slice (some ⟨b,o,none⟩) es.length cap) S
structure aO2 (E:Env) (h:aE) (w:World) (b o sz:Nat) (es:List (List Cell)) (S:Nat->Prop):Prop where
 hb:S b
 size:∀ e∈es,e.length=sz
 mem:∃ (cs:Array Value) (t:TypeId) (cv:Nat->Nat->Value) (T:Nat->Nat->Nat->Prop),
  w.heap[b]?=some (.cells cs t (0,0))/\o+es.length*sz<=cs.size /\
  (∀ i j c,T i j c->S c/\c≠b)/\(∀ i j i' j' c,T i j c->T i' j' c->i=i'/\j=j') /\
  (∀ i j x,kA es i j=some x->cs[o+i*sz+j]?=some (cv i j))/\(∀ i j x,kA es i j=some x->aAK E h w x (cv i j) (T i j))
def a67 (E:Env) (h:aE) (w:World) (b:Nat) (l:List (aH×aH)) (S:Nat->Prop):Prop :=
 S b/\∃ (es:Array MapEntry) (clock:Nat),w.heap[b]?=some (.map es clock)/\(∀ e∈es,e.born<clock) /\
  fD E h w (l.map (·.1)) (es.toList.map (·.key))/\fD E h w (l.map (·.2)) (es.toList.map (·.val))
def aI9 (E:Env) (h:aE) (w:World) (n:Nat):bE->Prop
 | .row sz es=>(∃ b o,E.loc n=some (b,o)/\aO2 E h w b o sz es (E.fp n))∨(es=[]/\E.loc n=none)
 | .map _ _ l=>∃ b o,E.loc n=some (b,o)/\a67 E h w b l (E.fp n)
 | .raw t cs=>∃ b,E.loc n=some (b,0)/\E.fp n b/\w.heap[b]?=some (.cells cs t (0,0))
 | .abs Q=>∃ b,E.loc n=some (b,0)/\E.fp n b/\∃ w0:World,Q b (E.fp n) w0/\∀ c,E.fp n c->w.heap[c]?=w0.heap[c]?
 | .gone=>True
def bD5:Option TypeId:=some 122
def x9:List (Nat×(Array Value->Prop)):=[(0,λcs=>cs=#[.int .u64 1,.int .u64 10,.int .u64 100,.int .u64 1000,.int .u64 10000,.int .u64 100000,.int .u64 1000000,.int .u64 10000000,.int .u64 100000000,.int .u64 1000000000,.int .u64 10000000000,.int .u64 100000000000,.int .u64 1000000000000,.int .u64 10000000000000,.int .u64 100000000000000,.int .u64 1000000000000000,.int .u64 10000000000000000,.int .u64 100000000000000000,.int .u64 1000000000000000000,.int .u64 10000000000000000000])]
def LaidIn (E:Env) (h:aE) (w:World):Prop:=∀ p∈x9,qK E h w p.1/\∃ cs t f,w.heap[p.1]?=some (.cells cs t f)/\p.2 cs
structure Rel (E:Env) (h:aE) (w:World):Prop where
 fin:∃ N,∀ n,N<=n->¬E.used n
 dom:∀ n,h n≠none->E.used n
 lt:∀ n o b,h n=some o->o.live->E.fp n b->b<w.heap.size
 apart:∀ n o m o' b,h n=some o->o.live->h m=some o'->o'.live->E.fp n b->E.fp m b->n=m
 obj:∀ n o,h n=some o->aI9 E h w n o
 laid:LaidIn E h w
structure Ev (E:Env) (h:aE) (w:World) (E':Env) (h':aE) (w':World):Prop where
 size:w.heap.size<=w'.heap.size
 keep:∀ b,qK E h w b->w'.heap[b]?=w.heap[b]?/\qK E' h' w' b
 shape:∀ b,b<w.heap.size->w'.shape? b=w.shape? b
 loc:∀ n,E.used n->E'.loc n=E.loc n/\E'.used n
 os:w'.os=w.os
 out:w'.output=w.output
theorem LaidIn.ev {E E':Env} {h h':aE} {w w':World} (ev:Ev E h w E' h' w') (x:LaidIn E h w):LaidIn E' h' w':=λp hp =>
 ⟨(ev.keep p.1 (x p hp).1).2,(x p hp).2.imp λcs ⟨t,f,ht,q⟩=>⟨t,f,by rw[(ev.keep p.1 (x p hp).1).1];exact ht,q⟩⟩
theorem LaidIn.sB {E:Env} {g h:aE} {w:World} (hi:∀ b,qK E h w b->qK E g w b) (x:LaidIn E h w):LaidIn E g w:=λp hp=>⟨hi _ (x p hp).1,(x p hp).2⟩
theorem Ev.refl (E:Env) (h:aE) (w:World):Ev E h w E h w :=
 ⟨iH _,λ_ hb=>⟨rfl,hb⟩,λ_ _=>rfl,λ_ hn=>⟨rfl,hn⟩,rfl,rfl⟩
theorem Ev.trans {E E' E'':Env} {h h' h'':aE} {w w' w'':World} (a:Ev E h w E' h' w') (b:Ev E' h' w' E'' h'' w''):Ev E h w E'' h'' w'' where
 size:=aLG a.size b.size
 keep:=λx hx=>⟨(b.keep x (a.keep x hx).2).1.trans (a.keep x hx).1,(b.keep x (a.keep x hx).2).2⟩
 shape:=λx hx=>(b.shape x (bRQ hx a.size)).trans (a.shape x hx)
 loc:=λn hn=>⟨(b.loc n (a.loc n hn).2).1.trans (a.loc n hn).1,(b.loc n (a.loc n hn).2).2⟩
 os:=b.os.trans a.os
 out:=b.out.trans a.out
theorem aAL {w w':World} {b:Nat} (h:w'.heap[b]?=w.heap[b]?) (o:Nat) (s:Option Nat):w'.cell? ⟨b,o,s⟩=w.cell? ⟨b,o,s⟩:=by
 simp only[World.cell?,h]
theorem aO3 {w:World} {b:Nat} {x:TypeId×Nat} (h:w.shape? b=some x):b<w.heap.size:=by
 unfold World.shape? at h
 cases hb:w.heap[b]? with
 |none=>simp[hb]at h
 |some y=>exact(aU2.1 hb).1
theorem gC.ev {E E':Env} {h h':aE} {w w':World} (ev:Ev E h w E' h' w') {x:aH} {v:Value} (r:gC E h w x v):gC E' h' w' x v:=by
 induction r with
 |any v=>exact .any v
 |bool b=>exact .bool b
 |int k n=>exact .int k n
 |str s hl=>exact .str s hl
 |kT=>exact .kT
 |bD=>exact .bD
 |wX=>exact .wX
 |nK=>exact .nK
 |r5=>exact .r5
 |sl0 sz t a cap ht hmax ha=>exact .sl0 sz t a cap ht hmax ha
 |sl sz es t b o cap cv hi hcap hmax ht hs hc h1 hr ih =>
  exact .sl sz es t b o cap cv (ev.keep b hi).2 hcap hmax ht hs (λi j x hx=>by rw[aAL (ev.keep b hi).1];exact hc i j x hx) h1 ih
 |ip sz es i off b o cv hi hs hc h1 hr ih =>
  exact .ip sz es i off b o cv (ev.keep b hi).2 hs (λi j x hx=>by rw[aAL (ev.keep b hi).1];exact hc i j x hx) h1 ih
 |os n sz i len b o cap t m hd hl hlc hmax hsh hm =>
  exact .os n sz i len b o cap t m (ev.loc n hd).2 ((ev.loc n hd).1.trans hl) hlc hmax ((ev.shape b (aO3 hsh)).trans hsh) hm
 |os0 n sz hd hl=>exact .os0 n sz (ev.loc n hd).2 ((ev.loc n hd).1.trans hl)
 |op n sz i off b o hd hl=>exact .op n sz i off b o (ev.loc n hd).2 ((ev.loc n hd).1.trans hl)
 |agg cs vs hl hr ih=>exact .agg cs vs hl ih
 |jO cs vs hl hr ih=>exact .jO cs vs hl ih
 |fn f cs ds vs us hl hr hl' hr' ih ih'=>exact .fn f cs ds vs us hl ih hl' ih'
 |iface t x v hr ih=>exact .iface t x v ih
 |mp n b o hd hl=>exact .mp n b o (ev.loc n hd).2 ((ev.loc n hd).1.trans hl)
theorem fD.ev {E E':Env} {h h':aE} {w w':World} (ev:Ev E h w E' h' w'):∀ {xs:List aH} {vs:List Value},fD E h w xs vs->fD E' h' w' xs vs
 | [],[],_=>trivial
 | _::_,_::_,hh=>⟨hh.1.ev ev,fD.ev ev hh.2⟩
 | [],_::_,hh=>hh.elim
 | _::_,[],hh=>hh.elim
@[simp] theorem aM (h:aE) (n:Nat) (o:bE):aR h n o n=some o:=by simp[aR]
theorem aI (h:aE) (n m:Nat) (o:bE) (hn:m≠n):aR h n o m=h m:=by simp[aR,hn]
theorem iS (h:aE) (n m:Nat) (o:bE):aR h n o m=if m=n then some o else h m:=rfl
@[simp] theorem aO (h:aE) (n:Nat) (o o':bE):aR (aR h n o) n o'=aR h n o':=by
 funext m;simp only[aR];split <;> rfl
def aE.le (g h:aE):Prop:=∀ n,g n=none∨g n=h n
theorem aE.le_refl (h:aE):h.le h:=λ_=>.inr rfl
theorem aE.le_trans {a b c:aE} (x:a.le b) (y:b.le c):a.le c:=λn=>by
 rcases x n with h|h
 ·exact .inl h
 ·rcases y n with k|k
  ·exact .inl (h.trans k)
  ·exact .inr (h.trans k)
theorem aE.bP {g h:aE} {n:Nat} {o:bE} (hg:g n=none) (hl:g.le h):g.le (aR h n o):=λm=>by
 by_cases e:m=n
 ·subst e;exact .inl hg
 ·rw[aI _ _ _ _ e];exact hl m
def aH.uB:Value->aH
 | .bool b=>.bool b
 | .int k n=>.int k n
 | .string s=>if s.size<=maxLen then .str s.data.toList else .any
 | .pointer none=>.kT
 | .slice none 0 0=>.bD
 | .nilFunc=>.wX
 | .nilIface=>.nK
 | .map none=>.r5
 | _=>.any
def aH.ofValue:Value->aH
 | .bool b=>.bool b
 | .int k n=>.int k n
 | .string s=>if s.size<=maxLen then .str s.data.toList else .any
 | .pointer none=>.kT
 | .slice none 0 0=>.bD
 | .nilFunc=>.wX
 | .nilIface=>.nK
 | .map none=>.r5
 | .agg vs=>.agg (vs.toList.map aH.uB)
 | _=>.any
theorem gC.uB (E:Env) (h:aE) (w:World) (v:Value):gC E h w (aH.uB v) v:=by
 unfold aH.uB
 split <;> try constructor
 split
 ·rename_i s hs
  have:s=⟨s.data.toList.toArray⟩:=by cases s;simp
  rw[this]
  exact .str _ (by simpa using hs)
 ·exact .any _
theorem gC.ofValue (E:Env) (h:aE) (w:World) (v:Value):gC E h w (aH.ofValue v) v:=by
 have h1:=gC.uB E h w v
 unfold aH.uB at h1
 unfold aH.ofValue
 split <;> try exact h1
 ·rename_i vs
  have:=gC.agg (E:=E) (h:=h) (w:=w) (vs.toList.map aH.uB) vs.toList cT (λi x v hx hv=>by
   rw[nE,hv]at hx
   obtain rfl:=gV hx
   exact gC.uB E h w v)
  simpa using this
 ·exact .any _
inductive TyD where
 |int (k:IntKind)
 |bool
 |str
 |ptr (e:TypeId)
 |slice (e:TypeId)
 |arr (n:Nat) (e:TypeId)
 |st (fs:List (Nat×TypeId×Nat))
 |map (k e:TypeId)
 |other
structure nP where
 sz:Nat
 agg:Bool
 bytes:Nat
 zero:List aH
 d:TyD
def tyD (P:Program):TypeDesc->TyD
 | .int k=>.int k
 | .bool=>.bool
 | .string=>.str
 | .pointer e=>.ptr e
 | .slice e=>.slice e
 | .array n e=>.arr n e
 | .struct fs=>if fs.toList.all (λf=>(P.info? f.type).isSome)then .st (fs.toList.map λf=>(f.offset,f.type,P.cellsOf f.type))else .other
 | .map k e=>.map k e
 | _=>.other
def jH (P:Program) (t:TypeId):Option nP :=
 match P.info? t,P.underlying t with
 |some i,some u=>some {
   sz:=i.size
   agg:=match u with | .struct _ | .array _ _=>true|_=>false
   bytes:=i.bytes
   zero:=match i.zero with|some v=>v.cells.toList.map aH.ofValue|none=>[]
   d:=tyD P u }
 | _,_=>none
theorem vV {P:Program} {t:TypeId} {r:nP} (h:jH P t=some r):∃ i u,P.info? t=some i/\P.underlying t=some u /\
  r.sz=i.size/\r.bytes=i.bytes/\r.d=tyD P u/\r.agg=(match u with | .struct _ | .array _ _=>true|_=>false) /\
  r.zero=(match i.zero with|some v=>v.cells.toList.map aH.ofValue|none=>[]):=by
 unfold jH at h
 split at h
 ·rename_i i u hi hu
  obtain rfl:=gV h
  exact⟨i,u,hi,hu,rfl,rfl,rfl,rfl,rfl⟩
 ·simp at h
def aA3 (P:Program) (o:Oper) (ρ:Operand->Value) (w:World) (R:Value->World->Prop):Prop :=
 match (execOp ρ o).run P w with
 | .ok (.value v) w'=>R v w'
 | .ok .skip w'=>R undef w'
 | .ok (.enter f args) w'=>Calls P f args w' λe w''=>match e with | .returned v=>R v w''|_=>False
 | _=>False
theorem aA3.wp {P:Program} {o:Oper} {a:Act} {w:World} {next:Act->World->Prop} {Q:Exit->Act->World->Prop}
  (h:aA3 P o a.eval w λv w'=>next (a.put o.dst v) w'):o.wp P a w next Q:=by
 unfold aA3 at h
 unfold Oper.wp
 generalize (execOp a.eval o).run P w=r at *
 cases r with
 |halt x w'=>exact h.elim
 |ok n w' =>
  cases n <;> first
   |exact h.elim
   |exact h
   |exact Calls.mono h λe w' he=>by cases e <;> first|exact he|exact he.elim
theorem aA3.lH {P:Program} {o:Oper} {ρ:Operand->Value} {w w':World} {v:Value} {R:Value->World->Prop}
  (hr:(execOp ρ o).run P w=.ok (.value v) w') (h:R v w'):aA3 P o ρ w R:=by
 unfold aA3;rw[hr];exact h
theorem aA3.bJ9 {P:Program} {o:Oper} {ρ:Operand->Value} {w w':World} {R:Value->World->Prop}
  (hr:(execOp ρ o).run P w=.ok .skip w') (h:R undef w'):aA3 P o ρ w R:=by
 unfold aA3;rw[hr];exact h
def aJA (K:aH->aE->Prop) (E:Env) (h:aE) (w:World) (v:Value) (w':World):Prop :=
 ∃ r h' E',K r h'/\Ev E h w E' h' w'/\Rel E' h' w'/\gC E' h' w' r v
theorem aJA.mono {K K':aH->aE->Prop} {E:Env} {h:aE} {w:World} {v:Value} {w':World} (hk:∀ r h',K r h'->K' r h')
  (a:aJA K E h w v w'):aJA K' E h w v w':=let ⟨r,h',E',k,rest⟩:=a;⟨r,h',E',hk _ _ k,rest⟩
theorem aJA.same {K:aH->aE->Prop} {E:Env} {h:aE} {w:World} {v:Value} {r:aH} (hk:K r h) (hrel:Rel E h w) (hr:gC E h w r v):aJA K E h w v w :=
 ⟨r,h,E,hk,.refl _ _ _,hrel,hr⟩
def rS (P:Program) (o:Oper) (ρ:Operand->aH) (h:aE) (K:aH->aE->Prop):Prop :=
 ∀ E w (ρc:Operand->Value),Rel E h w->(∀ x,gC E h w (ρ x) (ρc x))->aA3 P o ρc w (aJA K E h w)
theorem aA3.mono {P:Program} {o:Oper} {ρ:Operand->Value} {w:World} {R R':Value->World->Prop} (h:aA3 P o ρ w R) (hr:∀ v w',R v w'->R' v w'):aA3 P o ρ w R':=by
 unfold aA3 at *
 split at h
 ·exact hr _ _ h
 ·exact hr _ _ h
 ·exact Calls.mono h λe w' he=>by cases e <;> first|exact hr _ _ he|exact he
 ·exact h
theorem rS.mono {P:Program} {o:Oper} {ρ:Operand->aH} {h:aE} {K K':aH->aE->Prop} (hk:∀ r h',K r h'->K' r h') (a:rS P o ρ h K):rS P o ρ h K' :=
 λE w ρc hR hρ=>(a E w ρc hR hρ).mono λv w'=>aJA.mono hk
def aVH (P:Program) (f:FuncId) (args:List aH) (h:aE) (K:aH->aE->Prop):Prop :=
 ∀ E w vs,Rel E h w->fD E h w args vs->Calls P f vs.toArray w λe w'=>match e with | .returned v=>aJA K E h w v w'|_=>False
theorem aVH.mono {P:Program} {f:FuncId} {args:List aH} {h:aE} {K K':aH->aE->Prop} (hk:∀ r h',K r h'->K' r h') (a:aVH P f args h K):aVH P f args h K' :=
 λE w vs hR hv=>Calls.mono (a E w vs hR hv) λe w' he=>by cases e <;> first|exact aJA.mono hk he|exact he
section pure
variable {P:Program} {o:Oper} {ρ:Operand->aH} {h:aE} {K:aH->aE->Prop}
theorem cP {r:aH} (hk:K r h) (hx:∀ E w (ρc:Operand->Value),Rel E h w->(∀ x,gC E h w (ρ x) (ρc x))->∃ v,(execOp ρc o).run P w=.ok (.value v) w/\gC E h w r v):rS P o ρ h K:=by
 intro E w ρc hR hρ
 obtain⟨v,hv,hr⟩:=hx E w ρc hR hρ
 exact .lH hv (.same hk hR hr)
theorem bD6 (x:Operand) (ho:o.op=.move x) (hk:K (ρ x) h):rS P o ρ h K :=
 cP hk λE w ρc _ hρ=>⟨ρc x,by simp[execOp,ho],hρ x⟩
theorem a2Q (x:Operand) (ho:o.op=.assign x) (hk:K (ρ x) h):rS P o ρ h K :=
 cP hk λE w ρc _ hρ=>⟨ρc x,by simp[execOp,ho],hρ x⟩
theorem aA4 {E:Env} {w:World} {b:Bool} {v:Value} (hr:gC E h w (.bool b) v):v=.bool b:=by cases hr;rfl
theorem l9 {E:Env} {w:World} {k:IntKind} {n:Int} {v:Value} (hr:gC E h w (.int k n) v):v=.int k n:=by cases hr;rfl
theorem zJ {E:Env} {w:World} {s:List UInt8} {v:Value} (hr:gC E h w (.str s) v):v=.string ⟨s.toArray⟩/\s.length<=maxLen:=by cases hr;exact⟨rfl,by assumption⟩
theorem bD7 (c a b:Operand) (t:Bool) (ho:o.op=.pick c a b) (hc:ρ c=.bool t) (hk:K (if t then ρ a else ρ b) h):rS P o ρ h K :=
 cP hk λE w ρc _ hρ=>by
  have:=aA4 (hc▸hρ c)
  refine⟨if t then ρc a else ρc b,by simp[execOp,ho,this,asBool],?_⟩
  cases t
  ·exact hρ b
  ·exact hρ a
def p5 (op:BinOp):aH->aH->Option aH
 | .int k a,.int k' b =>
  if k=k' then
   match op with
   | .add=>some (.int k (k.wrap (a+b)))
   | .sub=>some (.int k (k.wrap (a-b)))
   | .mul=>some (.int k (k.wrap (a*b)))
   | .eql=>some (.bool (decide (a=b)))
   | .neq=>some (.bool (!decide (a=b)))
   | .lss=>some (.bool (decide (a<b)))
   | .leq=>some (.bool (decide (a<=b)))
   | .gtr=>some (.bool (decide (a > b)))
   | .geq=>some (.bool (decide (a ≥ b)))
   | .and=>some (.int k (k.wrap (BitVec.ofInt k.bits a &&& BitVec.ofInt k.bits b).toNat))
   | .or=>some (.int k (k.wrap (BitVec.ofInt k.bits a ||| BitVec.ofInt k.bits b).toNat))
   | .andNot=>some (.int k (k.wrap (BitVec.ofInt k.bits a &&& ~~~ BitVec.ofInt k.bits b).toNat))
   | _=>none
  else none
 | .str a,.str b =>
  match op with
  | .eql=>some (.bool (decide (a=b)))
  | .neq=>some (.bool (!decide (a=b)))
  | _=>none
 | _,_=>none
theorem bKA (op:BinOp) (t ty:TypeId) (x y:Operand) (r:aH) (ho:o.op=.binOp op t x y ty) (hb:p5 op (ρ x) (ρ y)=some r) (hk:K r h):rS P o ρ h K :=
 cP hk λE w ρc _ hρ=>by
  have hx:=hρ x
  have hy:=hρ y
  unfold p5 at hb
  split at hb
  ·rename_i k a k' b ex ey
   rw[ex]at hx;rw[ey]at hy
   have hx:=l9 hx
   have hy:=l9 hy
   split at hb
   ·rename_i hkk
    subst hkk
    have hg:(eqGuard op t x y (ρc x) (ρc y)).run P w=.ok () w:=by
     rw[hx,hy];cases op <;> simp[eqGuard]
    split at hb <;> first|(simp at hb;done)|(
     obtain rfl:=gV hb
     refine⟨_,by simp only[execOp,ho,Sem.run_bind,hg,Result.andThen_ok,hx,hy,binOp,Op.intArith,Op.intCmp,Op.intBits,ne_eq,not_true_eq_false,if_false,Sem.run_pure];rfl,?_⟩
     constructor)
   ·simp at hb
  ·rename_i a b ex ey
   rw[ex]at hx;rw[ey]at hy
   obtain⟨hx,_⟩:=zJ hx
   obtain⟨hy,_⟩:=zJ hy
   have hg:(eqGuard op t x y (ρc x) (ρc y)).run P w=.ok () w:=by
    rw[hx,hy];cases op <;> simp[eqGuard]
   have e1:(⟨a.toArray⟩:ByteArray).toList=a:=by rw[ByteArray.toList_eq]
   have e2:(⟨b.toArray⟩:ByteArray).toList=b:=by rw[ByteArray.toList_eq]
   split at hb <;> first|(simp at hb;done)|(
    obtain rfl:=gV hb
    refine⟨_,by simp only[execOp,ho,Sem.run_bind,hg,Result.andThen_ok,hx,hy,binOp,Op.stringOp,Sem.run_pure,e1,e2];rfl,?_⟩
    first|exact .bool _|skip)
   all_goals(rw[show(a == b)=decide (a=b)from Bool.eq_iff_iff.2 (by rw[beq_iff_eq,decide_eq_true_eq])];constructor)
  ·simp at hb
end pure
set_option linter.unusedVariables false
set_option linter.unusedSimpArgs false
theorem aAK.ev {E E':Env} {h h':aE} {w w':World} (ev:Ev E h w E' h' w') {x:Cell} {v:Value} {S:Nat->Prop} (r:aAK E h w x v S)
  (hS:∀ c,S c->w'.heap[c]?=w.heap[c]?):aAK E' h' w' x v S:=by
 induction r with
 |v x c S h1 hx=>exact .v x c S h1 (hx.ev ev)
 |a2P sz a cap S hmax ha=>exact .a2P sz a cap S hmax ha
 |own sz es b o cap S cs t cv T hb hh hlc hmax hm hs hT hD hc hr ih =>
  exact .own sz es b o cap S cs t cv T hb ((hS b hb).trans hh) hlc hmax hm hs hT hD hc λi j x hx=>ih i j x hx λc hc=>hS c (hT i j c hc).1
theorem aAK.mono {E:Env} {h:aE} {w:World} {x:Cell} {v:Value} {S S':Nat->Prop} (r:aAK E h w x v S) (hs:∀ c,S c->S' c):aAK E h w x v S':=by
 cases r with
 |v _ _ _ h1 hx=>exact .v _ _ _ h1 hx
 |a2P sz a cap _ hmax ha=>exact .a2P sz a cap _ hmax ha
 |own sz es b o cap _ cs t cv T hb hh hlc hmax hm hs' hT hD hc hr =>
  exact .own sz es b o cap _ cs t cv T (hs _ hb) hh hlc hmax hm hs' (λi j c hc=>⟨hs _ (hT i j c hc).1,(hT i j c hc).2⟩) hD hc hr
theorem aAK.one {E:Env} {h:aE} {w:World} {x:Cell} {v:Value} {S:Nat->Prop} (r:aAK E h w x v S):v.oneCell'=true:=by
 cases r <;> first|assumption|rfl
theorem aO2.ev {E E':Env} {h h':aE} {w w':World} (ev:Ev E h w E' h' w') {b o sz:Nat} {es:List (List Cell)} {S:Nat->Prop} (r:aO2 E h w b o sz es S)
  (hS:∀ c,S c->w'.heap[c]?=w.heap[c]?):aO2 E' h' w' b o sz es S:=by
 obtain⟨hb,hs,cs,t,cv,T,hh,hm,hT,hD,hc,hr⟩:=r
 exact⟨hb,hs,cs,t,cv,T,(hS b hb).trans hh,hm,hT,hD,hc,λi j x hx=>(hr i j x hx).ev ev λc hc=>hS c (hT i j c hc).1⟩
theorem a67.ev {E E':Env} {h h':aE} {w w':World} (ev:Ev E h w E' h' w') {b:Nat} {l:List (aH×aH)} {S:Nat->Prop} (r:a67 E h w b l S)
  (hS:∀ c,S c->w'.heap[c]?=w.heap[c]?):a67 E' h' w' b l S:=by
 obtain⟨hb,es,clock,hh,hk,h1,h2⟩:=r
 exact⟨hb,es,clock,(hS b hb).trans hh,hk,h1.ev ev,h2.ev ev⟩
theorem aI9.ev {E E':Env} {h h':aE} {w w':World} (ev:Ev E h w E' h' w') {n:Nat} {o:bE} (hl:E'.loc n=E.loc n) (hfp:E'.fp n=E.fp n)
  (hS:∀ c,o.live->E.fp n c->w'.heap[c]?=w.heap[c]?) (r:aI9 E h w n o):aI9 E' h' w' n o:=by
 cases o with
 |row sz es =>
  rcases r with⟨b,o,hb,hr⟩|⟨he,hn⟩
  ·exact .inl ⟨b,o,hl.trans hb,by rw[hfp];exact hr.ev ev (λc hc=>hS c trivial hc)⟩
  ·exact .inr ⟨he,hl.trans hn⟩
 |map kt et l =>
  obtain⟨b,o,hb,hr⟩:=r
  exact⟨b,o,hl.trans hb,by rw[hfp];exact hr.ev ev (λc hc=>hS c trivial hc)⟩
 |raw t cs =>
  obtain⟨b,hb,hf,hr⟩:=r
  exact⟨b,hl.trans hb,by rw[hfp];exact hf,(hS b trivial hf).trans hr⟩
 |abs Q =>
  obtain⟨b,hb,hf,w0,hq,ha⟩:=r
  exact⟨b,hl.trans hb,by rw[hfp];exact hf,w0,by rw[hfp];exact hq,λc hc=>by rw[hfp]at hc;exact(hS c trivial hc).trans (ha c hc)⟩
 |gone=>trivial
def yA (w:World) (o:Obj) (d:Nat):World:={ heap:=w.heap.push o,tape:=w.tape,drawn:=d,os:=w.os,output:=w.output }
theorem qJ (w:World) (o:Obj) (d:Nat):(yA w o d).heap.size=w.heap.size+1:=by simp[yA]
theorem p9 (w:World) (o:Obj) (d b:Nat) (hb:b<w.heap.size):(yA w o d).heap[b]?=w.heap[b]?:=by
 simp only[yA,Array.getElem?_push];rw[if_neg aA]
theorem zK (w:World) (o:Obj) (d:Nat):(yA w o d).heap[w.heap.size]?=some o:=by simp[yA]
def Env.add (E:Env) (n b:Nat):Env where
 loc:=λm=>if m=n then some (b,0)else E.loc m
 fp:=λm c=>if m=n then c=b else E.fp m c
 used:=λm=>m=n∨E.used m
theorem Rel.none {E:Env} {h:aE} {w:World} (R:Rel E h w) {n:Nat} (hn:¬E.used n):h n=none:=by
 cases e:h n with
 |none=>rfl
 |some o=>exact absurd (R.dom n (by simp[e])) hn
theorem Rel.fresh {E:Env} {h:aE} {w:World} (R:Rel E h w):∃ n,¬E.used n:=let ⟨N,hN⟩:=R.fin;⟨N,hN N (iH _)⟩
theorem Ev.alloc {E:Env} {h:aE} {w:World} (R:Rel E h w) {n:Nat} (hn:¬E.used n) (o:Obj) (x:bE) (d:Nat) :
  Ev E h w (E.add n w.heap.size) (aR h n x) (yA w o d):=by
 have hne:∀ m,E.used m->m≠n:=λm hm e=>hn (e▸hm)
 have hheap:∀ b,b<w.heap.size->(yA w o d).heap[b]?=w.heap[b]?:=p9 w o d
 refine⟨by rw[qJ];omega,λb hb=>⟨hheap b hb.1,⟨by have:=hb.1;rw[qJ];omega,?_⟩⟩,λb hb=>by simp only[World.shape?,hheap b hb],λm hm=>?_,rfl,rfl⟩
 ·intro m y hm hy hf
  by_cases e:m=n
  ·subst e;have hf:b=w.heap.size:=by simpa[Env.add]using hf
   have:=hb.1;omega
  ·rw[aI _ _ _ _ e]at hm;exact hb.2 m y hm hy (by simpa[Env.add,e]using hf)
 ·have e:=hne m hm
  exact⟨by simp[Env.add,e],.inr hm⟩
theorem Rel.aTK {E:Env} {h:aE} {w:World} (R:Rel E h w) {n:Nat} (hn:¬E.used n) (o:Obj) (x:bE) (d:Nat)
  (hx:aI9 (E.add n w.heap.size) (aR h n x) (yA w o d) n x):Rel (E.add n w.heap.size) (aR h n x) (yA w o d):=by
 have ev:=Ev.alloc R hn o x d
 have hheap:∀ b,b<w.heap.size->(yA w o d).heap[b]?=w.heap[b]?:=p9 w o d
 refine⟨?_,?_,?_,?_,?_,R.laid.ev ev⟩
 ·obtain⟨N,hN⟩:=R.fin
  exact ⟨max N (n + 1), fun m hm => by rintro (e | e); · omega
                                       · exact hN m aA e⟩
 ·intro m hm
  by_cases e:m=n
  ·exact .inl e
  ·rw[aI _ _ _ _ e]at hm;exact .inr (R.dom m hm)
 ·intro m y b hm hy hb
  by_cases e:m=n
  ·subst e;have hb:b=w.heap.size:=by simpa[Env.add]using hb
   rw[qJ];omega
  ·rw[aI _ _ _ _ e]at hm
   have:=R.lt m y b hm hy bD3
   rw[qJ];omega
 ·intro m y m' y' b hm hy hm' hy' hb hb'
  by_cases e:m=n <;> by_cases e':m'=n
  ·rw[e,e']
  ·subst e;rw[aI _ _ _ _ e']at hm'
   have hb:b=w.heap.size:=by simpa[Env.add]using hb
   have:=R.lt m' y' b hm' hy' (by simpa[Env.add,e']using hb');omega
  ·subst e';rw[aI _ _ _ _ e]at hm
   have hb':b=w.heap.size:=by simpa[Env.add]using hb'
   have:=R.lt m y b hm hy bD3;omega
  ·rw[aI _ _ _ _ e]at hm;rw[aI _ _ _ _ e']at hm'
   exact R.apart m y m' y' b hm hy hm' hy' bD3 (by simpa[Env.add,e']using hb')
 ·intro m y hm
  by_cases e:m=n
  ·subst e;rw[aM]at hm;obtain rfl:=gV hm;exact hx
  ·rw[aI _ _ _ _ e]at hm
   exact(R.obj m y hm).ev ev (by simp[Env.add,e]) (by funext c;simp[Env.add,e]) λc hy hc=>hheap c (R.lt m y c hm hy hc)
theorem zL {α:Type} {sz:Nat}:∀ (es:List (List α)),(∀ e∈es,e.length=sz)->∀ i j x,kA es i j=some x->es.flatten[i*sz+j]?=some x
 | [],_,i,j,x,hx=>by simp[kA]at hx
 |e::es,hs,0,j,x,hx=>by
  simp only[kA,bAX,a2I]at hx
  have hl:=(mS.1 hx).1
  simp only[bJZ,bC0,al4]
  rw[uU hl];exact hx
 |e::es,hs,i+1,j,x,hx=>by
  have he:=hs e cT
  have ih:=zL es (λe he=>hs e (by simp[he])) i j x (by simpa[kA]using hx)
  simp only[bJZ]
  rw[wZ (by rw[he,wH];omega)]
  rw[←ih];congr 1;rw[he,wH];omega
theorem length_flatten {α:Type} {sz:Nat}:∀ (es:List (List α)),(∀ e∈es,e.length=sz)->es.flatten.length=es.length*sz
 | [],_=>by simp
 |e::es,hs=>by
  have he:=hs e cT
  have ih:=length_flatten es (λe he=>hs e (by simp[he]))
  simp[he,ih,wH];omega
theorem qA {α β:Type} (f:α->β) (es:List (List α)) (i j:Nat):kA (es.map (List.map f)) i j=(kA es i j).map f:=by
 unfold kA
 rw[nE]
 cases es[i]? <;> simp
theorem Rel.bA4 {E:Env} {h:aE} {w:World} (R:Rel E h w) {n:Nat} (hn:¬E.used n) (sz:Nat) (es:List (List aH)) (hs:∀ e∈es,e.length=sz)
  (cs:Array Value) (t:TypeId) (d:Nat) (cv:Nat->Nat->Value) (hm:es.length*sz<=cs.size)
  (hc:∀ i j x,kA es i j=some x->cs[i*sz+j]?=some (cv i j)/\(cv i j).oneCell'=true/\gC E h w x (cv i j)) :
  Rel (E.add n w.heap.size) (aR h n (.row sz (es.map (List.map .v)))) (yA w (.cells cs t) d):=by
 refine R.aTK hn _ _ d (.inl ⟨w.heap.size,0,by simp[Env.add],?_⟩)
 have ev:=Ev.alloc R hn (.cells cs t) (.row sz (es.map (List.map .v))) d
 refine⟨by simp[Env.add],?_,cs,t,cv,λ_ _ _=>False,?_,by simpa using hm,λ_ _ _ hf=>hf.elim,λ_ _ _ _ _ hf=>hf.elim,?_,?_⟩
 ·intro e he
  obtain⟨e',he',rfl⟩:=qU.1 he
  simpa using hs e' he'
 ·exact zK _ _ _
 ·intro i j x hx
  rw[qA]at hx
  obtain⟨y,hy,rfl⟩:=u5.1 hx
  simpa using(hc i j y hy).1
 ·intro i j x hx
  rw[qA]at hx
  obtain⟨y,hy,rfl⟩:=u5.1 hx
  exact .v _ _ _ (hc i j y hy).2.1 ((hc i j y hy).2.2.ev ev)
theorem Ev.write {E:Env} {h:aE} {w w':World} (R:Rel E h w) {n b:Nat} {x:bE} (hn:h n=some x) (hx:x.live) (hb:E.fp n b) (x':bE) (hx':x'.live)
  (hsize:w'.heap.size=w.heap.size) (hoth:∀ c,c≠b->w'.heap[c]?=w.heap[c]?) (hsh:w'.shape? b=w.shape? b) (hos:w'.os=w.os) (hout:w'.output=w.output) :
  Ev E h w E (aR h n x') w':=by
 refine⟨by omega,λc hc=>⟨hoth c λe=>hc.2 n x hn hx (e▸hb),⟨by have:=hc.1;omega,?_⟩⟩,λc hc=>?_,λm hm=>⟨rfl,?_⟩,hos,hout⟩
 ·intro m y hm hy
  by_cases e:m=n
  ·subst e;exact hc.2 m x hn hx
  ·rw[aI _ _ _ _ e]at hm;exact hc.2 m y hm hy
 ·by_cases e:c=b
  ·rw[e];exact hsh
  ·simp only[World.shape?,hoth c e]
 ·exact hm
theorem Rel.write {E:Env} {h:aE} {w w':World} (R:Rel E h w) {n b:Nat} {x:bE} (hn:h n=some x) (hx:x.live) (hb:E.fp n b) (x':bE) (hx':x'.live)
  (hsize:w'.heap.size=w.heap.size) (hoth:∀ c,c≠b->w'.heap[c]?=w.heap[c]?) (hsh:w'.shape? b=w.shape? b) (hos:w'.os=w.os) (hout:w'.output=w.output)
  (hO:aI9 E (aR h n x') w' n x'):Rel E (aR h n x') w':=by
 have ev:=Ev.write R hn hx hb x' hx' hsize hoth hsh hos hout
 refine⟨R.fin,?_,?_,?_,?_,R.laid.ev ev⟩
 ·intro m hm
  by_cases e:m=n
  ·subst e;exact R.dom m (by simp[hn])
  ·rw[aI _ _ _ _ e]at hm;exact R.dom m hm
 ·intro m y c hm hy hc
  rw[hsize]
  by_cases e:m=n
  ·subst e;exact R.lt m x c hn hx hc
  ·rw[aI _ _ _ _ e]at hm;exact R.lt m y c hm hy hc
 ·intro m y m' y' c hm hy hm' hy' hc hc'
  by_cases e:m=n <;> by_cases e':m'=n
  ·rw[e,e']
  ·subst e;rw[aI _ _ _ _ e']at hm';exact R.apart m x m' y' c hn hx hm' hy' hc hc'
  ·subst e';rw[aI _ _ _ _ e]at hm;exact R.apart m y m' x c hm hy hn hx hc hc'
  ·rw[aI _ _ _ _ e]at hm;rw[aI _ _ _ _ e']at hm';exact R.apart m y m' y' c hm hy hm' hy' hc hc'
 ·intro m y hm
  by_cases e:m=n
  ·subst e;rw[aM]at hm;obtain rfl:=gV hm;exact hO
  ·rw[aI _ _ _ _ e]at hm
   exact(R.obj m y hm).ev ev rfl rfl λc hy hc=>hoth c λeb=>e (R.apart m y n x b hm hy hn hx (eb▸hc) hb)
theorem qK.le {E:Env} {g h:aE} {w:World} {b:Nat} (hl:g.le h) (i:qK E h w b):qK E g w b :=
 ⟨i.1, fun n o hn ho => i.2 n o (by rcases hl n with e | e
                                    · rw[e]at hn;simp at hn
                                    · rw[←e];exact hn) ho⟩
theorem gC.sB {E:Env} {g h:aE} {w:World} (hi:∀ b,qK E h w b->qK E g w b) {x:aH} {v:Value} (r:gC E h w x v):gC E g w x v:=by
 induction r with
 |any v=>exact .any v
 |bool b=>exact .bool b
 |int k n=>exact .int k n
 |str s hl=>exact .str s hl
 |kT=>exact .kT
 |bD=>exact .bD
 |wX=>exact .wX
 |nK=>exact .nK
 |r5=>exact .r5
 |sl0 sz t a cap ht hmax ha=>exact .sl0 sz t a cap ht hmax ha
 |sl sz es t b o cap cv hb hcap hmax ht hs hc h1 hr ih=>exact .sl sz es t b o cap cv (hi b hb) hcap hmax ht hs hc h1 ih
 |ip sz es i off b o cv hb hs hc h1 hr ih=>exact .ip sz es i off b o cv (hi b hb) hs hc h1 ih
 |os n sz i len b o cap t m hd hl hlc hmax hsh hm=>exact .os n sz i len b o cap t m hd hl hlc hmax hsh hm
 |os0 n sz hd hl=>exact .os0 n sz hd hl
 |op n sz i off b o hd hl=>exact .op n sz i off b o hd hl
 |agg cs vs hl hr ih=>exact .agg cs vs hl ih
 |jO cs vs hl hr ih=>exact .jO cs vs hl ih
 |fn f cs ds vs us hl hr hl' hr' ih ih'=>exact .fn f cs ds vs us hl ih hl' ih'
 |iface t x v hr ih=>exact .iface t x v ih
 |mp n b o hd hl=>exact .mp n b o hd hl
theorem fD.sB {E:Env} {g h:aE} {w:World} (hi:∀ b,qK E h w b->qK E g w b):∀ {xs:List aH} {vs:List Value},fD E h w xs vs->fD E g w xs vs
 | [],[],_=>trivial
 | _::_,_::_,hh=>⟨hh.1.sB hi,fD.sB hi hh.2⟩
 | [],_::_,hh=>hh.elim
 | _::_,[],hh=>hh.elim
theorem aAK.sB {E:Env} {g h:aE} {w:World} (hi:∀ b,qK E h w b->qK E g w b) {x:Cell} {v:Value} {S:Nat->Prop} (r:aAK E h w x v S):aAK E g w x v S:=by
 induction r with
 |v x c S h1 hx=>exact .v x c S h1 (hx.sB hi)
 |a2P sz a cap S hmax ha=>exact .a2P sz a cap S hmax ha
 |own sz es b o cap S cs t cv T hb hh hlc hmax hm hs hT hD hc hr ih=>exact .own sz es b o cap S cs t cv T hb hh hlc hmax hm hs hT hD hc ih
theorem aI9.sB {E:Env} {g h:aE} {w:World} (hi:∀ b,qK E h w b->qK E g w b) {n:Nat} {o:bE} (r:aI9 E h w n o):aI9 E g w n o:=by
 cases o with
 |row sz es =>
  rcases r with⟨b,o,hb,hbS,hs,cs,t,cv,T,hh,hm,hT,hD,hcc,hrr⟩|r
  ·exact .inl ⟨b,o,hb,hbS,hs,cs,t,cv,T,hh,hm,hT,hD,hcc,λi j x hx=>(hrr i j x hx).sB hi⟩
  ·exact .inr r
 |map kt et l =>
  obtain⟨b,o,hb,hbS,es,clock,hh,hk,h1,h2⟩:=r
  exact⟨b,o,hb,hbS,es,clock,hh,hk,h1.sB hi,h2.sB hi⟩
 |raw t cs=>exact r
 |abs Q=>exact r
 |gone=>trivial
theorem Rel.forget {E:Env} {g h:aE} {w:World} (R:Rel E h w) (hl:g.le h):Rel E g w:=by
 have hgl:∀ n o,g n=some o->h n=some o:=λn o hg=>by
  rcases hl n with e|e
  ·rw[e]at hg;simp at hg
  ·rw[←e];exact hg
 refine⟨R.fin,λn hn=>R.dom n ?_,λn o b hn=>R.lt n o b (hgl n o hn),λn o m o' b hn ho hm=>R.apart n o m o' b (hgl n o hn) ho (hgl m o' hm),
  λn o hn=>(R.obj n o (hgl n o hn)).sB λb=>qK.le hl,R.laid.sB λb=>qK.le hl⟩
 rcases hl n with e|e
 ·exact absurd e hn
 ·rw[←e];exact hn
theorem Ev.forget {E E':Env} {h h' g:aE} {w w':World} (ev:Ev E h w E' h' w') (hl:g.le h'):Ev E h w E' g w' :=
 ⟨ev.size,λb hb=>⟨(ev.keep b hb).1,(ev.keep b hb).2.le hl⟩,ev.shape,ev.loc,ev.os,ev.out⟩
theorem aED {E:Env} {h:aE} {w:World} (n:Nat) (b:Nat) (i:qK E h w b):qK E (aR h n .gone) w b :=
 ⟨i.1,λm o hm ho=>by
  by_cases e:m=n
  ·subst e;rw[aM]at hm;obtain rfl:=gV hm;exact ho.elim
  ·rw[aI _ _ _ _ e]at hm;exact i.2 m o hm ho⟩
theorem aMS {E:Env} {h:aE} {w:World} (R:Rel E h w) {n:Nat} {x:bE} (hn:h n=some x) (hx:x.live) (b:Nat) (hb:E.fp n b):qK E (aR h n .gone) w b :=
 ⟨R.lt n x b hn hx hb,λm o hm ho hf=>by
  by_cases e:m=n
  ·subst e;rw[aM]at hm;obtain rfl:=gV hm;exact ho.elim
  ·rw[aI _ _ _ _ e]at hm;exact e (R.apart m o n x b hm ho hn hx hf hb)⟩
theorem Rel.gone {E:Env} {h:aE} {w:World} (R:Rel E h w) {n:Nat} {x:bE} (hn:h n=some x):Rel E (aR h n .gone) w:=by
 refine⟨R.fin,λm hm=>?_,?_,?_,?_,R.laid.sB λb=>aED n b⟩
 ·by_cases e:m=n
  ·subst e;exact R.dom m (by simp[hn])
  ·rw[aI _ _ _ _ e]at hm;exact R.dom m hm
 ·intro m o b hm ho
  by_cases e:m=n
  ·subst e;rw[aM]at hm;obtain rfl:=gV hm;exact ho.elim
  ·rw[aI _ _ _ _ e]at hm;exact R.lt m o b hm ho
 ·intro m o m' o' b hm ho hm' ho'
  by_cases e:m=n
  ·subst e;rw[aM]at hm;obtain rfl:=gV hm;exact ho.elim
  ·by_cases e':m'=n
   ·subst e';rw[aM]at hm';obtain rfl:=gV hm';exact ho'.elim
   ·rw[aI _ _ _ _ e]at hm;rw[aI _ _ _ _ e']at hm';exact R.apart m o m' o' b hm ho hm' ho'
 ·intro m o hm
  by_cases e:m=n
  ·subst e;rw[aM]at hm;obtain rfl:=gV hm;trivial
  ·rw[aI _ _ _ _ e]at hm;exact(R.obj m o hm).sB λb=>aED n b
theorem Ev.gone {E:Env} {h:aE} {w:World} (n:Nat):Ev E h w E (aR h n .gone) w :=
 ⟨iH _,λb hb=>⟨rfl,aED n b hb⟩,λ_ _=>rfl,λ_ hn=>⟨rfl,hn⟩,rfl,rfl⟩
mutual
def Cell.val:Cell->aH
 | .v x=>x
 | .own sz es=>.sl sz (fO es) false
def fO:List (List Cell)->List (List aH)
 | []=>[]
 |e::es=>aLQ e::fO es
def aLQ:List Cell->List aH
 | []=>[]
 |c::cs=>c.val::aLQ cs
end
theorem aTL:∀ (e:List Cell),aLQ e=e.map Cell.val
 | []=>rfl
 |c::cs=>by simp[aLQ,aTL cs]
theorem aB7:∀ (es:List (List Cell)),fO es=es.map (List.map Cell.val)
 | []=>rfl
 |e::es=>by simp[fO,aB7 es,aTL]
theorem vW (es:List (List Cell)) (i j:Nat):kA (fO es) i j=(kA es i j).map Cell.val:=by
 rw[aB7,qA]
theorem yB (es:List (List Cell)):(fO es).length=es.length:=by rw[aB7,nG]
theorem aB8 {sz:Nat} {es:List (List Cell)} (hs:∀ e∈es,e.length=sz):∀ e∈fO es,e.length=sz:=by
 intro e he
 rw[aB7]at he
 obtain⟨e',he',rfl⟩:=qU.1 he
 simpa using hs e' he'
theorem aAK.vB {E:Env} {h g:aE} {w:World} {x:Cell} {v:Value} {S:Nat->Prop} (hi:∀ b,qK E h w b->qK E g w b)
  (r:aAK E h w x v S) (hS:∀ c,S c->qK E g w c):gC E g w x.val v:=by
 induction r with
 |v x c S h1 hx=>exact hx.sB hi
 |a2P sz a cap S hmax ha =>
  simp only[Cell.val,fO]
  exact .sl0 sz false a cap (λe=>by simp at e) hmax ha
 |own sz es b o cap S cs t cv T hb hh hlc hmax hm hs hT hD hc hr ih =>
  simp only[Cell.val]
  have:=gC.sl (E:=E) (h:=g) (w:=w) sz (fO es) false b o cap cv (hS b hb) (by rw[yB];exact hlc) hmax (λe=>by simp at e) (aB8 hs)
   (λi j x hx=>by
    rw[vW]at hx
    obtain⟨y,hy,rfl⟩:=u5.1 hx
    simp only[World.cell?,hh];exact hc i j y hy)
   (λi j x hx=>by
    rw[vW]at hx
    obtain⟨y,hy,rfl⟩:=u5.1 hx
    exact(hr i j y hy).one)
   (λi j x hx=>by
    rw[vW]at hx
    obtain⟨y,hy,rfl⟩:=u5.1 hx
    exact ih i j y hy λc hc=>hS c (hT i j c hc).1)
  rw[yB]at this
  exact this
section types
variable {P:Program} {w:World} {t:TypeId} {r:nP}
theorem jI (h:jH P t=some r):(sizeOf t).run P w=.ok r.sz w:=by
 obtain⟨i,u,hi,hu,h1,_⟩:=vV h
 simp[sizeOf,typeInfo,hi,h1]
theorem a2R (h:jH P t=some r):(isAgg t).run P w=.ok r.agg w:=by
 obtain⟨i,u,hi,hu,h1,h2,h3,h4,h5⟩:=vV h
 rw[h4]
 cases u <;> simp[isAgg,underlying,hu]
theorem cF (h:jH P t=some r):∃ u,P.underlying t=some u/\tyD P u=r.d/\(underlying t).run P w=.ok u w:=by
 obtain⟨i,u,hi,hu,h1,h2,h3,h4,h5⟩:=vV h
 exact⟨u,hu,h3.symm,by simp[underlying,hu]⟩
theorem tE (h:jH P t=some r) (hz:r.zero≠[]):∃ z,(zeroValue t).run P w=.ok z w/\z.cells.toList.map aH.ofValue=r.zero:=by
 obtain⟨i,u,hi,hu,h1,h2,h3,h4,h5⟩:=vV h
 cases e:i.zero with
 |none=>rw[h5,e]at hz;exact absurd rfl hz
 |some z=>exact⟨z,by simp[zeroValue,typeInfo,hi,e],by rw[h5,e]⟩
theorem j0 {u:TypeDesc} {e:TypeId} (h:tyD P u=.slice e):u=.slice e:=by
 cases u <;> simp[tyD]at h ⊢ <;> first|exact h|(split at h <;> simp at h)
theorem bKB {u:TypeDesc} {n:Nat} {e:TypeId} (h:tyD P u=.arr n e):u=.array n e:=by
 cases u <;> simp[tyD]at h ⊢ <;> first|exact h|(split at h <;> simp at h)
theorem aJB {u:TypeDesc} (h:tyD P u=.str):u=.string:=by
 cases u <;> simp[tyD]at h ⊢ <;> (split at h <;> simp at h)
theorem bD8 {u:TypeDesc} (h:tyD P u=.bool):u=.bool:=by
 cases u <;> simp[tyD]at h ⊢ <;> (split at h <;> simp at h)
theorem a68 {u:TypeDesc} {k:IntKind} (h:tyD P u=.int k):u=.int k:=by
 cases u <;> simp[tyD]at h ⊢ <;> first|exact h|(split at h <;> simp at h)
theorem bD9 {u:TypeDesc} {fs:List (Nat×TypeId×Nat)} (h:tyD P u=.st fs):∃ gs:Array Field,u=.struct gs/\gs.toList.all (λf=>(P.info? f.type).isSome)=true/\gs.toList.map (λf=>(f.offset,f.type,P.cellsOf f.type))=fs:=by
 cases u with
 |struct gs =>
  simp only[tyD]at h
  split at h
  ·rename_i hg;exact⟨gs,rfl,hg,by simpa using h⟩
  ·simp at h
 | _=>simp[tyD]at h
theorem aEE {f:Field} (h:(P.info? f.type).isSome=true):(sizeOf f.type).run P w=.ok (P.cellsOf f.type) w:=by
 cases e:P.info? f.type with
 |none=>simp[e]at h
 |some i=>simp[sizeOf,typeInfo,e,Program.cellsOf]
end types
def aH.flat:aH->Bool
 | .any | .agg _ | .jO _=>false
 | _=>true
def aH.cells:aH->List aH
 | .agg cs=>cs
 |x=>[x]
theorem gC.uC {E:Env} {h:aE} {w:World} {x:aH} {v:Value} (r:gC E h w x v) (hf:x.flat=true):v.oneCell'=true/\v.cells=#[v]:=by
 cases r <;> simp[aH.flat]at hf <;> exact⟨rfl,rfl⟩
theorem gC.aLR {E:Env} {h:aE} {w:World} {x:aH} {v:Value} (r:gC E h w x v) (hf:x.cells.all aH.flat=true) :
  fD E h w x.cells v.cells.toList/\∀ c∈v.cells.toList,c.oneCell'=true:=by
 cases hx:x with
 |agg cs =>
  subst hx
  cases r with
  |agg _ vs hl hr =>
   have hL:fD E h w cs vs:=fD.mk hl hr
   refine⟨by simpa[aH.cells,Value.cells]using hL,?_⟩
   intro c hc
   have hc:c∈vs:=by simpa[Value.cells]using hc
   obtain⟨i,hi⟩:=bJ0 hc
   have hlt:i<cs.length:=by rw[hl];exact(mS.1 hi).1
   have hx:cs[i]?=some cs[i]:=cM hlt
   have:=hr i _ c hx hi
   exact(this.uC (by simp only[aH.cells]at hf;exact zF.1 hf _ (eI hlt))).1
 | _ =>
  subst hx
  first
   |(simp[aH.cells,aH.flat]at hf;done)
   |(obtain⟨h1,h2⟩:=r.uC rfl
     rw[h2]
     exact⟨⟨r,trivial⟩,λc hc=>by simp at hc;rw[hc];exact h1⟩)
def aEF:List Cell->Option (List aH)
 | []=>some []
 | .v x::cs=>(aEF cs).map (x::·)
 | .own _ _::_=>none
theorem aHE:∀ {l:List Cell} {xs:List aH},aEF l=some xs->l=xs.map .v
 | [],xs,h=>by simp[aEF]at h;subst h;rfl
 | .v x::cs,xs,h=>by
  simp only[aEF,u5]at h
  obtain⟨ys,hy,rfl⟩:=h
  simp[aHE hy]
 | .own _ _::_,xs,h=>by simp[aEF]at h
def ld (r:nP) (e:List aH) (off:Nat):Option aH :=
 if r.agg then(if off+r.sz<=e.length then some (.agg ((e.drop off).take r.sz))else none)else e[off]?
def aMT (r:nP) (e:List Cell) (off:Nat):Option aH :=
 if r.agg then(if off+r.sz<=e.length then(aEF ((e.drop off).take r.sz)).map .agg else none)
 else match e[off]? with|some (.v x)=>some x|_=>none
theorem aJC {P:Program} {w:World} {t:TypeId} {r:nP} (ht:jH P t=some r) {b o:Nat} (f:Nat->Value)
  (hc:∀ j,j<(if r.agg then r.sz else 1)->w.cell? ⟨b,o+j,none⟩=some (f j)) :
  (loadVar t ⟨b,o,none⟩).run P w=.ok (if r.agg then .agg ((List.range r.sz).map f).toArray else f 0) w:=by
 simp only[loadVar,Sem.run_bind,a2R ht,Result.andThen_ok]
 cases ha:r.agg with
 |true =>
  simp only[ha,if_true]at hc ⊢
  simp only[Sem.run_bind,jI ht,Result.andThen_ok]
  rw[run_loadCells w ⟨b,o,none⟩ r.sz f (λj hj=>by rw[←hc j hj];simp only[Addr.add];split <;> simp_all)]
  simp
 |false =>
  simp only[ha,aU3,if_false]at hc ⊢
  have:=hc 0 aA
  simp only[aNG]at this
  simp[this]
section
variable {P:Program} {o:Oper} {ρ:Operand->aH} {h:aE} {K:aH->aE->Prop}
theorem aMU {E:Env} {w:World} {v:Value} (t:TypeId) (r:nP) (sz i off:Nat) (es:List (List aH)) (e:List aH) (x:aH) (ht:jH P t=some r)
  (hr:gC E h w (.ip sz es i off) v) (he:es[i]?=some e) (hx:ld r e off=some x):∃ b o c,v=.pointer (some ⟨b,o,none⟩)/\(loadVar t ⟨b,o,none⟩).run P w=.ok c w/\gC E h w x c:=by
  cases hr with
  |ip _ _ _ _ b o' cv hi hs hc h1 hrr =>
   have c6:=hs e (nO he)
   have hat:∀ j y,e[j]?=some y->kA es i j=some y:=λj y hy=>by simp[kA,he,hy]
   have hcell:∀ j,j<(if r.agg then r.sz else 1)->off+j<e.length:=by
    intro j hj
    unfold ld at hx
    cases hg:r.agg with
    |true =>
     simp only[hg,if_true]at hx hj
     split at hx
     ·omega
     ·simp at hx
    |false =>
     simp only[hg,aU3,if_false]at hx hj
     have:=(mS.1 hx).1
     omega
   have hload:=aJC (P:=P) (w:=w) ht (b:=b) (o:=o'+i*sz+off) (λj=>cv i (off+j)) (λj hj=>by
    have:=hc i (off+j) _ (hat (off+j) _ (cM (hcell j hj)))
    rw[←this];congr 2;omega)
   refine⟨_,_,_,rfl,hload,?_⟩
   unfold ld at hx
   cases hg:r.agg with
   |true =>
    simp only[hg,if_true]at hx hcell ⊢
    split at hx
    ·rename_i hle
     obtain rfl:=gV hx
     refine .agg _ _ s4 ?_
     intro j y v hy hv
     have hj:j<r.sz:=by have:=(mS.1 hv).1;simpa using this
     simp only[nE,aIY hj,aNH,bAY]at hv
     subst hv
     rw[aOS hj,aYP]at hy
     exact hrr i (off+j) y (hat _ _ hy)
    ·simp at hx
   |false =>
    simp only[hg,aU3,if_false,aNG]at hx hcell ⊢
    exact hrr i off x (hat _ _ hx)
theorem aZB (t:TypeId) (a:Operand) (r:nP) (sz i off:Nat) (es:List (List aH)) (e:List aH) (x:aH) (ho:o.op=.load t a) (ht:jH P t=some r)
  (ha:ρ a=.ip sz es i off) (he:es[i]?=some e) (hx:ld r e off=some x) (hk:K x h):rS P o ρ h K :=
 cP hk λE w ρc _ hρ=>by
  obtain⟨b,k,c,hv,hrun,hc⟩:=aMU (P:=P) t r sz i off es e x ht (ha▸hρ a) he hx
  exact⟨c,by simp only[execOp,ho,Instr.loadAt,hv,Instr.sureAddr,Sem.run_bind,Sem.run_pure,Result.andThen_ok,hrun],hc⟩
theorem aEG {E:Env} {w:World} (R:Rel E h w) {n sz:Nat} {es:List (List Cell)} (hn:h n=some (.row sz es)) (hne:es≠[]∨∃ x,E.loc n=some x) :
  ∃ b o,E.loc n=some (b,o)/\aO2 E h w b o sz es (E.fp n):=by
 rcases R.obj n _ hn with h1|h1
 ·exact h1
 ·rcases hne with h2|⟨x,h2⟩
  ·exact absurd h1.1 h2
  ·rw[h1.2]at h2;simp at h2
theorem aTM {α:Type} {es:List α} {i:Nat} {e:α} (h:es[i]?=some e):es≠[]:=by rintro rfl;simp at h
theorem aMV {E:Env} {w:World} {v:Value} (R:Rel E h w) (t:TypeId) (r:nP) (n sz i off:Nat) (es:List (List Cell)) (e:List Cell) (x:aH) (ht:jH P t=some r)
  (hr:gC E h w (.op n sz i off) v) (hn:h n=some (.row sz es)) (he:es[i]?=some e) (hx:aMT r e off=some x):∃ b o c,v=.pointer (some ⟨b,o,none⟩)/\(loadVar t ⟨b,o,none⟩).run P w=.ok c w/\gC E h w x c:=by
  obtain⟨b,o',hl,hb,hs,cs,ct,cv,T,hh,hm,hT,hD,hc,hrr⟩:=aEG R hn (.inl (aTM he))
  cases hr with
  |op _ _ _ _ b' o'' hd hl' =>
   rw[hl]at hl'
   obtain⟨rfl,rfl⟩:=aU4 (gV hl')
   have c6:=hs e (nO he)
   have hat:∀ j y,e[j]?=some y->kA es i j=some y:=λj y hy=>by simp[kA,he,hy]
   have hcell:∀ j,j<(if r.agg then r.sz else 1)->off+j<e.length:=by
    intro j hj
    unfold aMT at hx
    cases hg:r.agg with
    |true =>
     simp only[hg,if_true]at hx hj
     split at hx
     ·omega
     ·simp at hx
    |false =>
     simp only[hg,aU3,if_false]at hx hj
     split at hx
     ·rename_i he'
      have:=(mS.1 he').1
      omega
     ·simp at hx
   have hload:=aJC (P:=P) (w:=w) ht (b:=b) (o:=o'+i*sz+off) (λj=>cv i (off+j)) (λj hj=>by
    have:=hc i (off+j) _ (hat (off+j) _ (cM (hcell j hj)))
    simp only[World.cell?,hh];rw[←this];simp;congr 1;omega)
   refine⟨_,_,_,rfl,hload,?_⟩
   have hval:∀ j y,e[j]?=some (.v y)->gC E h w y (cv i j):=λj y hy=>by
    have:=hrr i j _ (hat _ _ hy)
    generalize cv i j=c at this
    generalize T i j=S at this
    cases this with
    |v _ _ _ _ hx=>exact hx
   unfold aMT at hx
   cases hg:r.agg with
   |true =>
    simp only[hg,if_true]at hx hcell ⊢
    split at hx
    ·rename_i hle
     obtain⟨xs,hxs,rfl⟩:=u5.1 hx
     have hxs:=aHE hxs
     have hlen:xs.length=r.sz:=by have:=congrArg List.length hxs;simp at this;omega
     refine .agg _ _ (by simp[hlen]) ?_
     intro j y v hy hv
     have hj:j<r.sz:=by have:=(mS.1 hv).1;simpa using this
     simp only[nE,aIY hj,aNH,bAY]at hv
     subst hv
     refine hval (off+j) y ?_
     have:((e.drop off).take r.sz)[j]?=some (.v y):=by rw[hxs,nE,hy];rfl
     rwa [aOS hj,aYP]at this
    ·simp at hx
   |false =>
    simp only[hg,aU3,if_false,aNG]at hx hcell ⊢
    split at hx
    ·rename_i y he'
     obtain rfl:=gV hx
     exact hval off _ he'
    ·simp at hx
theorem aZC (t:TypeId) (a:Operand) (r:nP) (n sz i off:Nat) (es:List (List Cell)) (e:List Cell) (x:aH) (ho:o.op=.load t a) (ht:jH P t=some r)
  (ha:ρ a=.op n sz i off) (hn:h n=some (.row sz es)) (he:es[i]?=some e) (hx:aMT r e off=some x) (hk:K x h):rS P o ρ h K :=
 cP hk λE w ρc R hρ=>by
  obtain⟨b,k,c,hv,hrun,hc⟩:=aMV (P:=P) R t r n sz i off es e x ht (ha▸hρ a) hn he hx
  exact⟨c,by simp only[execOp,ho,Instr.loadAt,hv,Instr.sureAddr,Sem.run_bind,Sem.run_pure,Result.andThen_ok,hrun],hc⟩
end
set_option linter.unusedVariables false
set_option linter.unusedSimpArgs false
def sP (e:List Cell) (off:Nat):List aH->List Cell
 | []=>e
 |v::vs=>sP (e.set off (.v v)) (off+1) vs
theorem pS {w:World} {b:Nat} {cs:Array Value} {t:TypeId} {f:Nat×Nat} (h:w.heap[b]?=some (.cells cs t f)):w.shape? b=some (t,cs.size):=by
 simp[World.shape?,h]
theorem aMW {es:List (List Cell)} {i j i' j':Nat} {e:List Cell} {c x:Cell} (he:es[i]?=some e) (hx:kA (es.set i (e.set j c)) i' j'=some x) :
  (i'=i/\j'=j/\x=c)∨(¬(i'=i/\j'=j)/\kA es i' j'=some x):=by
 have hi:=(mS.1 he).1
 unfold kA at *
 by_cases e1:i'=i
 ·subst e1
  rw[aLH hi]at hx
  simp only[a2I]at hx
  by_cases e2:j'=j
  ·subst e2
   left
   have hj:j'<e.length:=by have:=(mS.1 hx).1;simpa using this
   rw[aLH hj]at hx
   exact⟨rfl,rfl,(gV hx).symm⟩
  ·right
   rw[aLI (λe3=>e2 e3.symm)]at hx
   exact⟨λh=>e2 h.2,by rw[he];exact hx⟩
 ·right
  rw[aLI (λe2=>e1 e2.symm)]at hx
  exact⟨λh=>e1 h.1,hx⟩
theorem aHF {i n sz j:Nat} (hi:i<n) (hj:j<sz):i*sz+j<n*sz:=by
 have:=aYQ sz (Nat.succ_le_of_lt hi)
 rw[bC1]at this
 omega
theorem bKC {sz i j i' j':Nat} (hj:j<sz) (hj':j'<sz) (h:i*sz+j=i'*sz+j'):i=i'/\j=j':=by
 have h1:(i*sz+j) / sz=i:=by rw[aU5,Nat.mul_add_div aA,bJ1 hj];omega
 have h2:(i'*sz+j') / sz=i':=by rw[aU5,Nat.mul_add_div aA,bJ1 hj'];omega
 have:i=i':=by rw[←h1,←h2,h]
 subst this
 exact⟨rfl,by omega⟩
theorem bA5 {P:Program} {E:Env} {h:aE} {w:World} (R:Rel E h w) {n sz:Nat} {es:List (List Cell)} (hn:h n=some (.row sz es)) {b o:Nat} (hl:E.loc n=some (b,o))
  {i j:Nat} {e:List Cell} (he:es[i]?=some e) (hj:j<e.length) {x:aH} {c:Value} (hone:c.oneCell'=true) (hx:gC E h w x c) :
  (store ⟨b,o+i*sz+j,none⟩ c).run P w=.ok () (w.setCell ⟨b,o+i*sz+j,none⟩ c) /\
  Ev E h w E (aR h n (.row sz (es.set i (e.set j (.v x))))) (w.setCell ⟨b,o+i*sz+j,none⟩ c) /\
  Rel E (aR h n (.row sz (es.set i (e.set j (.v x))))) (w.setCell ⟨b,o+i*sz+j,none⟩ c):=by
 obtain⟨b',o',hl',hb,hs,cs,ct,cv,T,hh,hm,hT,hD,hc,hrr⟩:=aEG R hn (.inl (aTM he))
 rw[hl]at hl'
 obtain⟨rfl,rfl⟩:=aU4 (gV hl')
 have c6:=hs e (nO he)
 have hi:=(mS.1 he).1
 have hat:kA es i j=some e[j]:=by simp[kA,he,cM hj]
 have hcell:=hc i j _ hat
 have hlt:o+i*sz+j<cs.size:=(aU2.1 hcell).1
 have hw?:w.cell? ⟨b,o+i*sz+j,none⟩=some (cv i j):=by simp only[World.cell?,hh];simpa using hcell
 have hfz:w.frozen? ⟨b,o+i*sz+j,none⟩=false:=by simp[World.frozen?,hh]
 have hrun:(store ⟨b,o+i*sz+j,none⟩ c).run P w=.ok () (w.setCell ⟨b,o+i*sz+j,none⟩ c):=by
  rw[run_store P w _ _ _ hone,hw?];simp[hfz]
 have hheap:(w.setCell ⟨b,o+i*sz+j,none⟩ c).heap[b]?=some (.cells (cs.setIfInBounds (o+i*sz+j) c) ct (0,0)):=by
  simp[World.setCell,Array.getElem?_modify,hh]
 have hoth:∀ k,k≠b->(w.setCell ⟨b,o+i*sz+j,none⟩ c).heap[k]?=w.heap[k]?:=λk hk=>by
  simp[World.setCell,Array.getElem?_modify,l5 hk]
 have hsh:(w.setCell ⟨b,o+i*sz+j,none⟩ c).shape? b=w.shape? b:=by rw[pS hheap,pS hh];simp
 have ev:=Ev.write R hn trivial hb (.row sz (es.set i (e.set j (.v x)))) trivial (World.size_setCell _ _ _) hoth hsh rfl rfl
 refine⟨hrun,ev,R.write hn trivial hb _ trivial (World.size_setCell _ _ _) hoth hsh rfl rfl (.inl ⟨b,o,hl,hb,?_,cs.setIfInBounds (o+i*sz+j) c,ct,
  λi' j'=>if i'=i/\j'=j then c else cv i' j',T,hheap,by simpa using hm,hT,hD,?_,?_⟩)⟩
 ·intro e' he'
  rcases aSE he' with h1|h1
  ·exact hs e' h1
  ·rw[h1];simpa using c6
 ·intro i' j' y hy
  rcases aMW he hy with⟨rfl,rfl,rfl⟩|⟨hne,hy'⟩
  ·simp[Array.getElem?_setIfInBounds,hlt]
  ·have hj':=aNU hs hy'
   have:o+i*sz+j≠o+i'*sz+j':=λe=>hne (by
    have:=bKC (sz:=sz) (i:=i) (j:=j) (i':=i') (j':=j') aA hj' aA
    exact⟨this.1.symm,this.2.symm⟩)
   simp only[if_neg hne]
   rw[a2J this]
   exact hc i' j' y hy'
 ·intro i' j' y hy
  rcases aMW he hy with⟨rfl,rfl,rfl⟩|⟨hne,hy'⟩
  ·simp only[and_self,if_true]
   exact .v _ _ _ hone (hx.ev ev)
  ·simp only[if_neg hne]
   exact(hrr i' j' y hy').ev ev λk hk=>hoth k (hT i' j' k hk).2
theorem aVI (es:List (List Cell)) (i:Nat) (a b:List Cell):(es.set i a).set i b=es.set i b:=by simp
theorem aO4 {P:Program} {n sz:Nat} {b o i:Nat}:∀ (xs:List aH) (vs:List Value) {E:Env} {h:aE} {w:World} (R:Rel E h w) {es:List (List Cell)} (hn:h n=some (.row sz es)) (hl:E.loc n=some (b,o))
  {j k:Nat} {e:List Cell} (he:es[i]?=some e) (hj:j+k+xs.length<=e.length) (hone:∀ c∈vs,c.oneCell'=true) (hx:fD E h w xs vs),
  ∃ w',(storeCells ⟨b,o+i*sz+j,none⟩ vs k).run P w=.ok () w'/\Ev E h w E (aR h n (.row sz (es.set i (sP e (j+k) xs)))) w'/\Rel E (aR h n (.row sz (es.set i (sP e (j+k) xs)))) w'
 | [],[],E,h,w,R,es,hn,hl,j,k,e,he,hj,hone,hx=>by
  refine⟨w,by simp[storeCells],?_⟩
  have hi:=(mS.1 he).1
  have:es.set i (sP e (j+k) [])=es:=by
   have:es[i]=e:=(mS.1 he).2
   simp[sP,←this]
  rw[this]
  have:aR h n (.row sz es)=h:=by funext m;simp only[aR];split <;> simp_all
  rw[this]
  exact⟨.refl _ _ _,R⟩
 |x::xs,c::vs,E,h,w,R,es,hn,hl,j,k,e,he,hj,hone,hx=>by
  have hlen:j+k<e.length:=by simp at hj;omega
  obtain⟨h1,h2,h3⟩:=bA5 (P:=P) R hn hl he hlen (hone c cT) hx.1
  have hi:=(mS.1 he).1
  have he':(es.set i (e.set (j+k) (.v x)))[i]?=some (e.set (j+k) (.v x)):=by rw[aLH hi]
  obtain⟨w',hw',ev',R'⟩:=aO4 xs vs h3 (aM _ _ _) hl (j:=j) (k:=k+1) he' (by simp at hj ⊢;omega) (λc hc=>hone c (by simp[hc])) (hx.2.ev h2)
  rw[aO,aVI]at ev' R'
  have hst:sP e (j+k) (x::xs)=sP (e.set (j+k) (.v x)) (j+(k+1)) xs:=by simp only[sP];rfl
  rw[hst]
  refine⟨w',?_,h2.trans ev',R'⟩
  simp only[storeCells,Sem.run_bind]
  have ha:(⟨b,o+i*sz+j,none⟩:Addr).add k=⟨b,o+i*sz+(j+k),none⟩:=by
   simp only[Addr.add];split
   ·subst_vars;rfl
   ·simp
  rw[ha,h1]
  exact hw'
 | [],_::_,_,_,_,_,_,_,_,_,_,_,_,_,_,hx=>hx.elim
 | _::_,[],_,_,_,_,_,_,_,_,_,_,_,_,_,hx=>hx.elim
section
variable {P:Program} {o:Oper} {ρ:Operand->aH} {h:aE} {K:aH->aE->Prop}
theorem bA6 (t:TypeId) (a v:Operand) (r:nP) (n sz i off:Nat) (es:List (List Cell)) (e:List Cell) (ho:o.op=.store t a v) (ht:jH P t=some r)
  (ha:ρ a=.op n sz i off) (hn:h n=some (.row sz es)) (he:es[i]?=some e) (hf:(ρ v).cells.all aH.flat=true) (c6:(ρ v).cells.length=r.sz) (hoff:off+r.sz<=e.length)
  (hk:K .any (aR h n (.row sz (es.set i (sP e off (ρ v).cells))))):rS P o ρ h K:=by
 intro E w ρc R hρ
 have hr:=hρ a
 rw[ha]at hr
 cases hv:ρc a <;> rw[hv]at hr <;> try(cases hr;done)
 cases hr with
 |op _ _ _ _ b o' hd hl =>
  obtain⟨hL,h1⟩:=(hρ v).aLR hf
  obtain⟨w',hrun,ev,R'⟩:=aO4 (P:=P) _ _ R hn hl (j:=off) (k:=0) he aA h1 hL
  simp only[aNG]at ev R'
  have hsize:(ρc v).cells.size=r.sz:=by have:=hL.length;simp at this;omega
  refine .bJ9 (w':=w') ?_ ⟨.any,_,E,hk,ev,R',.any _⟩
  simp only[execOp,ho,Instr.storeAt,hv,Instr.sureAddr,Sem.run_bind,Sem.run_pure,Result.andThen_ok,storeVar,jI ht,hsize,ne_eq,not_true_eq_false,if_false,hrun,Sem.run_ite]
end
theorem zM {es:List (List aH)} {sz i j:Nat} {x:aH} (hs:∀ e∈es,e.length=sz) (hx:kA es i j=some x):i*sz+j<es.length*sz :=
 aHF (bD4 hx) (aNU hs hx)
theorem Rel.aO5 {E:Env} {h:aE} {w:World} (R:Rel E h w) {n:Nat} (hn:¬E.used n) (sz:Nat) (es:List (List aH)) (hs:∀ e∈es,e.length=sz)
  (cs:Array Value) (t:TypeId) (d:Nat) (vs rest:List Value) (hcs:cs.toList=vs++rest) (hL:fD E h w es.flatten vs) (h1:∀ c∈vs,c.oneCell'=true) :
  Rel (E.add n w.heap.size) (aR h n (.row sz (es.map (List.map .v)))) (yA w (.cells cs t) d):=by
 have hlen:vs.length=es.length*sz:=by rw[←hL.length,length_flatten es hs]
 have hget:∀ k,k<vs.length->cs[k]?=vs[k]?:=λk hk=>by
  rw[←aSD,hcs,uU hk]
 refine R.bA4 hn sz es hs cs t d (λi j=>(vs[i*sz+j]?).getD undef) ?_ ?_
 ·rw[←hlen,←Array.length_toList,hcs];simp
 ·intro i j x hx
  have hlt:=zM hs hx
  have hk:i*sz+j<vs.length:=by omega
  have hv:vs[i*sz+j]?=some vs[i*sz+j]:=cM hk
  refine⟨by rw[hget _ hk,hv];simp,by rw[hv];exact h1 _ (eI hk),?_⟩
  rw[hv]
  exact hL.get _ _ _ (zL es hs i j x hx) hv
section
variable {P:Program} {o:Oper} {ρ:Operand->aH} {h:aE} {K:aH->aE->Prop}
theorem tF (w:World) (o:Obj):{ w with heap:=w.heap.push o }=yA w o w.drawn:=rfl
theorem aMX (sz:Nat) (e:List aH) (he:e.length=sz) (hk:∀ n,h n=none->K (.op n sz 0 0) (aR h n (.row sz [e.map .v])))
  (hx:∀ E w (ρc:Operand->Value),Rel E h w->(∀ x,gC E h w (ρ x) (ρc x))->∃ (cs:Array Value) (t:TypeId) (d:Nat),
   (execOp ρc o).run P w=.ok (.value (.pointer (some ⟨w.heap.size,0,none⟩))) (yA w (.cells cs t) d)/\fD E h w e cs.toList/\∀ c∈cs.toList,c.oneCell'=true):rS P o ρ h K:=by
 intro E w ρc R hρ
 obtain⟨cs,t,d,hrun,hL,h1⟩:=hx E w ρc R hρ
 obtain⟨n,hn⟩:=R.fresh
 refine .lH hrun ⟨.op n sz 0 0,_,E.add n w.heap.size,hk n (R.none hn),Ev.alloc R hn _ _ _,?_,?_⟩
 ·exact R.aO5 hn sz [e] (by simpa using he) cs t d cs.toList [] cT (by simpa using hL) h1
 ·have:=gC.op (E:=E.add n w.heap.size) (h:=aR h n (.row sz [e.map .v])) (w:=yA w (.cells cs t) d) n sz 0 0 w.heap.size 0 (.inl rfl) (by simp[Env.add])
  simpa using this
theorem aAM (sz len:Nat) (es:List (List aH)) (hs:∀ e∈es,e.length=sz) (hk:∀ n,h n=none->K (.os n sz 0 len) (aR h n (.row sz (es.map (List.map .v)))))
  (hx:∀ E w (ρc:Operand->Value),Rel E h w->(∀ x,gC E h w (ρ x) (ρc x))->∃ (cs:Array Value) (t:TypeId) (d cap:Nat) (vs rest:List Value),
   (execOp ρc o).run P w=.ok (.value (.slice (some ⟨w.heap.size,0,none⟩) len cap)) (yA w (.cells cs t) d)/\len<=cap/\cap<=maxLen/\cap*sz<=cs.size /\
   cs.toList=vs++rest/\fD E h w es.flatten vs/\∀ c∈vs,c.oneCell'=true):rS P o ρ h K:=by
 intro E w ρc R hρ
 obtain⟨cs,t,d,cap,vs,rest,hrun,hlc,hmax,hm,hcs,hL,h1⟩:=hx E w ρc R hρ
 obtain⟨n,hn⟩:=R.fresh
 refine .lH hrun ⟨.os n sz 0 len,_,E.add n w.heap.size,hk n (R.none hn),Ev.alloc R hn _ _ _,?_,?_⟩
 ·exact R.aO5 hn sz es hs cs t d vs rest hcs hL h1
 ·have:=gC.os (E:=E.add n w.heap.size) (h:=aR h n (.row sz (es.map (List.map .v)))) (w:=yA w (.cells cs t) d) n sz 0 len w.heap.size 0 cap t cs.size (.inl rfl) (by simp[Env.add]) hlc hmax
   (by simp only[World.shape?,zK]) (by simpa using hm)
  simpa using this
theorem bKD (t:TypeId) (x:Operand) (ho:o.op=.box t x) (hf:(ρ x).cells.all aH.flat=true)
  (hk:∀ n,h n=none->K (.op n (ρ x).cells.length 0 0) (aR h n (.row (ρ x).cells.length [(ρ x).cells.map .v]))):rS P o ρ h K :=
 aMX _ (ρ x).cells rfl hk λE w ρc R hρ=>by
  obtain⟨hL,h1⟩:=(hρ x).aLR hf
  refine⟨(ρc x).cells,t,w.drawn,?_,hL,h1⟩
  simp only[execOp,ho,Instr.box,newVar,newRow,Sem.run_bind,run_newObj,Result.andThen_ok,Sem.run_pure,tF]
theorem aZD (t:TypeId) (x:Operand) (ho:o.op=.box t x) (hc:(ρ x).cells=[.kT,.bD])
  (hk:∀ n,h n=none->K (.op n 2 0 0) (aR h n (.raw t #[.pointer none,.slice none 0 0]))):rS P o ρ h K:=by
 intro E w ρc R hρ
 obtain⟨hL,h1⟩:=(hρ x).aLR (by rw[hc];rfl)
 rw[hc]at hL
 have hcs:(ρc x).cells=#[.pointer none,.slice none 0 0]:=by
  have hl:=hL.length
  match hv:(ρc x).cells.toList,hL with
  | [a,b],hL =>
   have ha:a=.pointer none:=by have:=hL.1;cases a <;> (try cases this) <;> rfl
   have hb:b=.slice none 0 0:=by have:=hL.2.1;cases b <;> (try cases this) <;> rfl
   apply Array.toList_inj.1
   rw[hv,ha,hb]
 obtain⟨n,hn⟩:=R.fresh
 refine .lH (v:=.pointer (some ⟨w.heap.size,0,none⟩)) (w':=yA w (.cells #[.pointer none,.slice none 0 0] t) w.drawn) ?_ ⟨.op n 2 0 0,_,E.add n w.heap.size,hk n (R.none hn),Ev.alloc R hn _ _ _,R.aTK hn _ _ _ ⟨w.heap.size,by simp[Env.add],by simp[Env.add],zK _ _ _⟩,?_⟩
 ·simp only[execOp,ho,Instr.box,newVar,newRow,Sem.run_bind,run_newObj,Result.andThen_ok,Sem.run_pure,tF,hcs]
 ·have:=gC.op (E:=E.add n w.heap.size) (h:=aR h n (.raw t #[.pointer none,.slice none 0 0])) (w:=yA w (.cells #[.pointer none,.slice none 0 0] t) w.drawn) n 2 0 0 w.heap.size 0 (.inl rfl) (by simp[Env.add])
  simpa using this
theorem uD (E:Env) (h:aE) (w:World):∀ (l:List Value),fD E h w (l.map aH.ofValue) l
 | []=>trivial
 |v::l=>⟨.ofValue E h w v,uD E h w l⟩
theorem fD.uC {E:Env} {w:World}:∀ {xs:List aH} {vs:List Value},fD E h w xs vs->xs.all aH.flat=true->∀ c∈vs,c.oneCell'=true
 | [],[],_,_,c,hc=>by simp at hc
 |x::xs,v::vs,hL,hf,c,hc=>by
  simp only[List.all_cons,oW]at hf
  rcases pY.1 hc with e|e
  ·rw[e];exact(hL.1.uC hf.1).1
  ·exact fD.uC hL.2 hf.2 c e
 | [],_::_,hL,_,_,_=>hL.elim
 | _::_,[],hL,_,_,_=>hL.elim
theorem bA7 (t:TypeId) (r:nP) (ho:o.op=.alloc t) (ht:jH P t=some r) (hz:r.zero≠[]) (hf:r.zero.all aH.flat=true)
  (hk:∀ n,h n=none->K (.op n r.zero.length 0 0) (aR h n (.row r.zero.length [r.zero.map .v]))):rS P o ρ h K :=
 aMX _ r.zero rfl hk λE w ρc R hρ=>by
  obtain⟨z,hrun,hzz⟩:=tE (w:=w) ht hz
  have hL:fD E h w r.zero z.cells.toList:=by rw[←hzz];exact uD E h w _
  refine⟨z.cells,t,w.drawn,?_,hL,hL.uC hf⟩
  simp only[execOp,ho,Instr.alloc,newVar,newRow,Sem.run_bind,run_newObj,hrun,Result.andThen_ok,Sem.run_pure,tF]
theorem oB (b o k:Nat):(⟨b,o,none⟩:Addr).add k=⟨b,o+k,none⟩:=by
 simp only[Addr.add];split
 ·subst_vars;rfl
 ·rfl
theorem aGU (t:TypeId) (x:Operand) (f:Nat) (r:nP) (fs:List (Nat×TypeId×Nat)) (off oC:Nat) (ft:TypeId) (v:aH) (ho:o.op=.fieldAddr t x f) (ht:jH P t=some r) (hd:r.d=.st fs)
  (hf:fs[f]?=some (off,ft,oC)) (c6:oC≠0) (hv:(∃ n sz i k,ρ x=.op n sz i k/\v=.op n sz i (k+off))∨(∃ sz es i k,ρ x=.ip sz es i k/\v=.ip sz es i (k+off))) (hk:K v h):rS P o ρ h K :=
 cP hk λE w ρc R hρ=>by
  have hr:=hρ x
  obtain⟨u,hu,hud,hrun⟩:=cF (w:=w) ht
  obtain⟨gs,rfl,hall,hgs⟩:=bD9 (hud.trans hd)
  rw[←hgs]at hf
  simp only[nE,u5,Prod.mk.injEq]at hf
  obtain⟨g,hg,rfl,rfl,rfl⟩:=hf
  have hinfo:(P.info? g.type).isSome=true:=zF.1 hall _ (nO hg)
  have hsize:=aEE (w:=w) hinfo
  have hg':gs[f]?=some g:=by simpa using hg
  have key:∀ b k,ρc x=.pointer (some ⟨b,k,none⟩)->(execOp ρc o).run P w=.ok (.value (.pointer (some ⟨b,k+g.offset,none⟩))) w:=by
   intro b k hb
   simp only[execOp,ho,Instr.fieldAt,hb,Sem.run_bind,hrun,Result.andThen_ok,hg',Instr.sureAddr,Sem.run_pure,fieldPlace,hsize,Sem.run_ite,c6,if_false,oB]
  rcases hv with⟨n,sz,i,k,e,rfl⟩|⟨sz,es,i,k,e,rfl⟩
  ·rw[e]at hr
   cases hv:ρc x <;> rw[hv]at hr <;> try(cases hr;done)
   cases hr with
   |op _ _ _ _ b o' hd' hl =>
    refine⟨_,key _ _ hv,?_⟩
    have:=gC.op (E:=E) (h:=h) (w:=w) n sz i (k+g.offset) b o' hd' hl
    rwa [←bC2]at this
  ·rw[e]at hr
   cases hv:ρc x <;> rw[hv]at hr <;> try(cases hr;done)
   cases hr with
   |ip _ _ _ _ b o' cv hi hs hc h1 hrr =>
    refine⟨_,key _ _ hv,?_⟩
    have:=gC.ip (E:=E) (h:=h) (w:=w) sz es i (k+g.offset) b o' cv hi hs hc h1 hrr
    rwa [←bC2]at this
theorem aLS (t et:TypeId) (x i:Operand) (r re:nP) (sz:Nat) (es:List (List aH)) (tg:Bool) (k:IntKind) (n:Int) (ho:o.op=.indexAddr t x i) (ht:jH P t=some r) (hd:r.d=.slice et)
  (he:jH P et=some re) (c6:re.sz=sz) (hx:ρ x=.sl sz es tg) (hi:ρ i=.int k n) (h0:0<=n) (hn:n<es.length) (hk:K (.ip sz es n.toNat 0) h):rS P o ρ h K :=
 cP hk λE w ρc R hρ=>by
  have hr:=hρ x
  have hri:=l9 (hi▸hρ i)
  rw[hx]at hr
  obtain⟨u,hu,hud,hrun⟩:=cF (w:=w) ht
  obtain rfl:=j0 (hud.trans hd)
  have hsize:=jI (w:=w) he
  cases hv:ρc x <;> rw[hv]at hr <;> try(cases hr;done)
  cases hr with
  |sl0=>simp at hn;omega
  |sl _ _ _ b o' cap cv hI hcap hmax htt hs hc h1 hrr =>
   refine⟨.pointer (some ⟨b,o'+n.toNat*sz,none⟩),?_,?_⟩
   ·simp only[execOp,ho,Instr.indexAt,hri,hv,asIntOf,Sem.run_bind,Sem.run_pure,Result.andThen_ok,hrun]
    have:(0<=n/\n<(es.length:Int)):=⟨h0,hn⟩
    simp[this,hsize,c6,oB]
   ·have:=gC.ip (E:=E) (h:=h) (w:=w) sz es n.toNat 0 b o' cv hI hs hc h1 hrr
    simpa using this
theorem aLT (t et:TypeId) (x i:Operand) (r re:nP) (m sz i0 len:Nat) (k:IntKind) (n:Int) (ho:o.op=.indexAddr t x i) (ht:jH P t=some r) (hd:r.d=.slice et)
  (he:jH P et=some re) (c6:re.sz=sz) (hx:ρ x=.os m sz i0 len) (hi:ρ i=.int k n) (h0:0<=n) (hn:n<len) (hk:K (.op m sz (i0+n.toNat) 0) h):rS P o ρ h K :=
 cP hk λE w ρc R hρ=>by
  have hr:=hρ x
  have hri:=l9 (hi▸hρ i)
  rw[hx]at hr
  obtain⟨u,hu,hud,hrun⟩:=cF (w:=w) ht
  obtain rfl:=j0 (hud.trans hd)
  have hsize:=jI (w:=w) he
  cases hv:ρc x <;> rw[hv]at hr <;> try(cases hr;done)
  cases hr with
  |os0=>simp at hn;omega
  |os _ _ _ _ b o' cap tt mm hd' hl hlc hmax hsh hm =>
   refine⟨.pointer (some ⟨b,o'+(i0+n.toNat)*sz,none⟩),?_,?_⟩
   ·simp only[execOp,ho,Instr.indexAt,hri,hv,asIntOf,Sem.run_bind,Sem.run_pure,Result.andThen_ok,hrun]
    have:(0<=n/\n<(len:Int)):=⟨h0,hn⟩
    simp[this,hsize,c6,oB,wH,bC2]
   ·have:=gC.op (E:=E) (h:=h) (w:=w) m sz (i0+n.toNat) 0 b o' hd' hl
    simpa using this
theorem aNV (t:TypeId) (x:Operand) (r:nP) (n:Nat) (ats:Array TypeId) (ho:o.op=.call { callee:=.builtin .len,args:=#[x],argTypes:=ats }) (hat:ats[0]?=some t) (ht:jH P t=some r)
  (hx:(∃ e sz es tg,r.d=.slice e/\ρ x=.sl sz es tg/\n=es.length)∨(∃ e m sz i,r.d=.slice e/\ρ x=.os m sz i n)∨(∃ e,r.d=.slice e/\ρ x=.bD/\n=0)∨(∃ s,r.d=.str/\ρ x=.str s/\n=s.length))
  (hk:n<=9223372036854775807->K (.int .i64 n) h):rS P o ρ h K:=by
 intro E w ρc R hρ
 have hr:=hρ x
 obtain⟨u,hu,hud,hrun⟩:=cF (w:=w) ht
 have hml:maxLen=9223372036854775807:=rfl
 suffices hs:n<=9223372036854775807/\(execOp ρc o).run P w=.ok (.value (.int .i64 n)) w from .lH hs.2 (.same (hk hs.1) R (.int _ _))
 have hat':∃ a,ats[0]?=some a/\a=t:=⟨t,hat,rfl⟩
 rcases hx with⟨e,sz,es,tg,hd,hx,rfl⟩|⟨e,m,sz,i,hd,hx⟩|⟨e,hd,hx,rfl⟩|⟨s,hd,hx,rfl⟩
 ·obtain rfl:=j0 (hud.trans hd)
  rw[hx]at hr
  cases hv:ρc x <;> rw[hv]at hr <;> try(cases hr;done)
  cases hr with
  |sl0=>exact⟨by simp,by simp[execOp,ho,resolve,invoke,builtin,Builtin.len_,hat,hv,hrun,goInt]⟩
  |sl _ _ _ b o' cap cv hI hcap hmax htt hs hc h1 hrr =>
   exact⟨by omega,by simp[execOp,ho,resolve,invoke,builtin,Builtin.len_,hat,hv,hrun,goInt]⟩
 ·obtain rfl:=j0 (hud.trans hd)
  rw[hx]at hr
  cases hv:ρc x <;> rw[hv]at hr <;> try(cases hr;done)
  cases hr with
  |os0=>exact⟨by simp,by simp[execOp,ho,resolve,invoke,builtin,Builtin.len_,hat,hv,hrun,goInt]⟩
  |os _ _ _ _ b o' cap tt mm hd' hl hlc hmax hsh hm =>
   exact⟨by omega,by simp[execOp,ho,resolve,invoke,builtin,Builtin.len_,hat,hv,hrun,goInt]⟩
 ·obtain rfl:=j0 (hud.trans hd)
  rw[hx]at hr
  cases hv:ρc x <;> rw[hv]at hr <;> try(cases hr;done)
  cases hr with
  |bD=>exact⟨by omega,by simp[execOp,ho,resolve,invoke,builtin,Builtin.len_,hat,hv,hrun,goInt]⟩
 ·obtain rfl:=aJB (hud.trans hd)
  rw[hx]at hr
  cases hv:ρc x <;> rw[hv]at hr <;> try(cases hr;done)
  cases hr with
  |str _ hl=>exact⟨by omega,by simp[execOp,ho,resolve,invoke,builtin,Builtin.len_,hat,hv,hrun,goInt];rfl⟩
theorem aSI (t:TypeId) (x i:Operand) (r:nP) (s:List UInt8) (k:IntKind) (n:Int) (c:UInt8) (ho:o.op=.index t x i) (ht:jH P t=some r) (hd:r.d=.str)
  (hx:ρ x=.str s) (hi:ρ i=.int k n) (h0:0<=n) (hc:s[n.toNat]?=some c) (hk:K (.int .u8 c.toNat) h):rS P o ρ h K :=
 cP hk λE w ρc R hρ=>by
  obtain⟨hv,_⟩:=zJ (hx▸hρ x)
  have hri:=l9 (hi▸hρ i)
  obtain⟨u,hu,hud,hrun⟩:=cF (w:=w) ht
  obtain rfl:=aJB (hud.trans hd)
  refine⟨.int .u8 c.toNat,?_,.int _ _⟩
  have:(⟨s.toArray⟩:ByteArray)[n.toNat]?=some c:=by
   have hlt:=(mS.1 hc).1
   have hge:=(mS.1 hc).2
   rw[getElem?_pos (⟨s.toArray⟩:ByteArray) n.toNat (by simpa[ByteArray.size]using hlt)]
   congr 1
  simp[execOp,ho,Instr.index,hri,hv,asIntOf,hrun,h0,this]
theorem aZE (t:Operand) (i:Nat) (cs:List aH) (x:aH) (ho:o.op=.extract t i) (ht:ρ t=.jO cs) (hx:cs[i]?=some x) (hk:K x h):rS P o ρ h K :=
 cP hk λE w ρc R hρ=>by
  have hr:=hρ t
  rw[ht]at hr
  cases hv:ρc t <;> rw[hv]at hr <;> try(cases hr;done)
  cases hr with
  |jO _ vs hl hrr =>
   have hlt:i<vs.length:=by rw[←hl];exact(mS.1 hx).1
   have hvi:vs[i]?=some vs[i]:=cM hlt
   exact⟨vs[i],by simp[execOp,ho,Instr.extract,hv,hvi],hrr i _ _ hx hvi⟩
theorem bKE (t:TypeId) (x:Operand) (b:Bool) (ho:o.op=.unOp .not t x) (hx:ρ x=.bool b) (hk:K (.bool (!b)) h):rS P o ρ h K :=
 cP hk λE w ρc R hρ=>by
  have hv:=aA4 (hx▸hρ x)
  exact⟨.bool (!b),by simp[execOp,ho,hv,Op.unary],.bool _⟩
theorem bKF (t:TypeId) (x:Operand) (k:IntKind) (n:Int) (ho:o.op=.unOp .neg t x) (hx:ρ x=.int k n) (hk:K (.int k (k.wrap (0-n))) h):rS P o ρ h K :=
 cP hk λE w ρc R hρ=>by
  have hv:=l9 (hx▸hρ x)
  exact⟨.int k (k.wrap (0-n)),by simp[execOp,ho,hv,Op.unary,Op.intArith],.int _ _⟩
theorem aJD (x:Operand) (ho:o.op=.nilCheck x) (hx:(∃ n sz i k,ρ x=.op n sz i k)∨(∃ sz es i k,ρ x=.ip sz es i k)) (hk:K (ρ x) h):rS P o ρ h K :=
 cP hk λE w ρc R hρ=>by
  have hr:=hρ x
  refine⟨ρc x,?_,hr⟩
  rcases hx with⟨n,sz,i,k,e⟩|⟨sz,es,i,k,e⟩ <;> rw[e]at hr <;> (cases hv:ρc x <;> rw[hv]at hr <;> try(cases hr;done)) <;> cases hr <;> simp[execOp,ho,hv]
theorem aNJ (s d:TypeId) (x:Operand) (rs rd:nP) (k k':IntKind) (n:Int) (ho:o.op=.convert s d x) (hs:jH P s=some rs) (hd:jH P d=some rd) (hk':rd.d=.int k')
  (hx:ρ x=.int k n) (hk:K (.int k' (k'.wrap n)) h):rS P o ρ h K :=
 cP hk λE w ρc R hρ=>by
  have hv:=l9 (hx▸hρ x)
  obtain⟨u,hu,hud,hrun⟩:=cF (w:=w) hs
  obtain⟨u',hu',hud',hrun'⟩:=cF (w:=w) hd
  obtain rfl:=a68 (hud'.trans hk')
  exact⟨.int k' (k'.wrap n),by simp[execOp,ho,convert,hv,hrun,hrun',Conv.intToInt],.int _ _⟩
theorem aJE {E:Env} {w:World} {ρc:Operand->Value} (hρ:∀ x,gC E h w (ρ x) (ρc x)):∀ (l:List Operand),fD E h w (l.map ρ) (l.map ρc)
 | []=>trivial
 |x::l=>⟨hρ x,aJE hρ l⟩
theorem aVJ (fn:Fn) (fs cs:Array Operand) (ho:o.op=.makeFunc fn fs cs) (hk:K (.fn fn (fs.toList.map ρ) (cs.toList.map ρ)) h):rS P o ρ h K :=
 cP hk λE w ρc R hρ=>by
  refine⟨.func fn (fs.map ρc) (cs.map ρc),by simp[execOp,ho,Instr.makeFunc],?_⟩
  have h1:=aJE hρ fs.toList
  have h2:=aJE hρ cs.toList
  have:=gC.fn (E:=E) (h:=h) (w:=w) fn _ _ _ _ h1.length h1.get h2.length h2.get
  have e:∀ (a:Array Operand),(a.toList.map ρc).toArray=a.map ρc:=λa=>by cases a;simp
  rwa [e,e]at this
end
section
variable {P:Program} {o:Oper} {ρ:Operand->aH} {h:aE} {K:aH->aE->Prop}
theorem aJF (op:BinOp) (t ty:TypeId) (x y:Operand) (r:nP) (a b:Bool) (v:aH) (ho:o.op=.binOp op t x y ty) (ht:jH P t=some r) (hd:r.d=.bool) (hx:ρ x=.bool a) (hy:ρ y=.bool b)
  (hop:(op=.eql/\v=.bool (a == b))∨(op=.neq/\v=.bool (a != b))) (hk:K v h):rS P o ρ h K :=
 cP hk λE w ρc R hρ=>by
  have hxv:=aA4 (hx▸hρ x)
  have hyv:=aA4 (hy▸hρ y)
  obtain⟨u,hu,hud,hrun⟩:=cF (w:=w) ht
  obtain rfl:=bD8 (hud.trans hd)
  have hg:(eqGuard op t x y (.bool a) (.bool b)).run P w=.ok () w:=by
   cases op <;> simp[eqGuard]
  have hq:(Op.equal t (.bool a) (.bool b)).run P w=.ok (a == b) w:=run_equalIn_bool' w 9999 t a b hu
  rcases hop with⟨rfl,rfl⟩|⟨rfl,rfl⟩
  ·exact⟨.bool (a == b),by simp only[execOp,ho,Sem.run_bind,hxv,hyv,hg,Result.andThen_ok,binOp,hq,Sem.run_pure],.bool _⟩
  ·exact⟨.bool (a != b),by simp only[execOp,ho,Sem.run_bind,hxv,hyv,hg,Result.andThen_ok,binOp,hq,Sem.run_pure];rfl,.bool _⟩
theorem a69 (op:BinOp) (t ty:TypeId) (x y:Operand) (k:IntKind) (a b:Int) (v:aH) (ho:o.op=.binOp op t x y ty) (hx:ρ x=.int k a) (hy:ρ y=.int k b) (hb:b≠0)
  (hop:(op=.quo/\v=.int k (k.wrap (a.tdiv b)))∨(op=.rem/\v=.int k (a.tmod b))) (hk:K v h):rS P o ρ h K :=
 cP hk λE w ρc R hρ=>by
  have hxv:=l9 (hx▸hρ x)
  have hyv:=l9 (hy▸hρ y)
  rcases hop with⟨rfl,rfl⟩|⟨rfl,rfl⟩
  ·exact⟨.int k (k.wrap (a.tdiv b)),by simp[execOp,ho,hxv,hyv,eqGuard,binOp,Op.intDiv,hb],.int _ _⟩
  ·exact⟨.int k (a.tmod b),by simp[execOp,ho,hxv,hyv,eqGuard,binOp,Op.intDiv,hb],.int _ _⟩
theorem aTN (op:BinOp) (t ty:TypeId) (x y:Operand) (k k':IntKind) (a b:Int) (v:aH) (ho:o.op=.binOp op t x y ty) (hx:ρ x=.int k a) (hy:ρ y=.int k' b) (hb:0<=b)
  (hop:(op=.shl/\v=.int k (k.wrap (a*2 ^ (min b.toNat k.bits))))∨(op=.shr/\v=.int k (a.fdiv (2 ^ (min b.toNat k.bits))))) (hk:K v h):rS P o ρ h K :=
 cP hk λE w ρc R hρ=>by
  have hxv:=l9 (hx▸hρ x)
  have hyv:=l9 (hy▸hρ y)
  have hb':¬b<0:=by omega
  rcases hop with⟨rfl,rfl⟩|⟨rfl,rfl⟩
  ·exact⟨_,by simp only[execOp,ho,hxv,hyv,eqGuard,binOp,Op.shift,hb',if_false];simp,.int _ _⟩
  ·exact⟨_,by simp only[execOp,ho,hxv,hyv,eqGuard,binOp,Op.shift,hb',if_false];simp,.int _ _⟩
theorem bKG (x y:Operand) (ats:Array TypeId) (k:IntKind) (a b:Int) (ho:o.op=.call { callee:=.builtin .max,args:=#[x,y],argTypes:=ats }) (hx:ρ x=.int k a) (hy:ρ y=.int k b)
  (hk:K (.int k (max a b)) h):rS P o ρ h K :=
 cP hk λE w ρc R hρ=>by
  have hxv:=l9 (hx▸hρ x)
  have hyv:=l9 (hy▸hρ y)
  have e:(if b > a then b else a)=max a b:=by rw[Int.max_def];split <;> split <;> omega
  exact⟨.int k (max a b),by simp[execOp,ho,resolve,invoke,builtin,Builtin.max_,hxv,hyv,Builtin.max2,e],.int _ _⟩
def lR (d:Nat):Option aH->Option Int
 |none=>some d
 |some (.int _ n)=>some n
 | _=>none
theorem rC {w:World} {k:IntKind} {i:Int} {y:Nat} {code:BoundsCode} (h0:0<=i) (h1:i<=y):(Instr.sliceBound (.int k i) y code).run P w=.ok i.toNat w:=by
 simp[Instr.sliceBound,asIntOf,h0,h1]
theorem yC {w:World} {E:Env} (R:Rel E h w) {ρc:Operand->Value} (hρ:∀ x,gC E h w (ρ x) (ρc x)) (isS:Bool) (len cap:Nat) (lo hi mx:Option Operand) (l r m:Int)
  (hl:lR 0 (lo.map ρ)=some l) (hh:lR len (hi.map ρ)=some r) (hm:lR cap (mx.map ρ)=some m) (hmh:mx.isSome=true->hi.isSome=true)
  (h0:0<=l) (h1:l<=r) (h2:r<=m) (h3:m<=cap) :
  (Instr.sliceBounds isS len cap (lo.map ρc) (hi.map ρc) (mx.map ρc)).run P w=.ok (l.toNat,r.toNat,m.toNat) w:=by
 have hint:∀ (x:Operand) (d:Nat) (z:Int),lR d (some (ρ x))=some z->∃ k,ρc x=.int k z:=by
  intro x d z hz
  have hr:=hρ x
  generalize ρ x=v at *
  cases v <;> simp[lR]at hz
  subst hz
  exact⟨_,l9 hr⟩
 have hbn:∀ d:Nat,lR d none=some (d:Int):=λ_=>rfl
 cases mx with
 |none =>
  obtain rfl:(cap:Int)=m:=by simpa[lR]using hm
  cases hi with
  |none =>
   obtain rfl:(len:Int)=r:=by simpa[lR]using hh
   cases lo with
   |none => obtain rfl : (0 : Int) = l := by simpa [lR] using hl
            simp[Instr.sliceBounds]
   |some x =>
    obtain⟨k,hx⟩:=hint x _ _ hl
    simp[Instr.sliceBounds,hx,rC h0 h1]
  |some y =>
   obtain⟨k',hy⟩:=hint y _ _ hh
   have e:((r.toNat:Nat):Int)=r:=by omega
   cases lo with
   |none => obtain rfl : (0 : Int) = l := by simpa [lR] using hl
            simp[Instr.sliceBounds,hy,rC (show 0<=r by omega) h2]
   |some x =>
    obtain⟨k,hx⟩:=hint x _ _ hl
    simp[Instr.sliceBounds,hx,hy,rC (show 0<=r by omega) h2,rC h0 (show l<=(r.toNat:Nat)by omega)]
 |some z =>
  obtain⟨kz,hz⟩:=hint z _ _ hm
  cases hi with
  |none=>simp at hmh
  |some y =>
   obtain⟨k',hy⟩:=hint y _ _ hh
   cases lo with
   |none => obtain rfl : (0 : Int) = l := by simpa [lR] using hl
            simp[Instr.sliceBounds,hy,hz,rC (show 0<=m by omega) h3,rC (show 0<=r by omega) (show r<=(m.toNat:Nat)by omega)]
   |some x =>
    obtain⟨k,hx⟩:=hint x _ _ hl
    simp[Instr.sliceBounds,hx,hy,hz,rC (show 0<=m by omega) h3,rC (show 0<=r by omega) (show r<=(m.toNat:Nat)by omega),rC h0 (show l<=(r.toNat:Nat)by omega)]
theorem aSJ (t:TypeId) (x:Operand) (lo hi:Option Operand) (r:nP) (s:List UInt8) (l m:Int) (ho:o.op=.slice t x lo hi none) (ht:jH P t=some r) (hd:r.d=.str) (hx:ρ x=.str s)
  (hl:lR 0 (lo.map ρ)=some l) (hh:lR s.length (hi.map ρ)=some m) (h0:0<=l) (h1:l<=m) (h2:m<=s.length) (hk:K (.str ((s.take m.toNat).drop l.toNat)) h):rS P o ρ h K :=
 cP hk λE w ρc R hρ=>by
  obtain⟨hv,hmax⟩:=zJ (hx▸hρ x)
  obtain⟨u,hu,hud,hrun⟩:=cF (w:=w) ht
  obtain rfl:=aJB (hud.trans hd)
  have hb:=yC (P:=P) R hρ false s.length s.length lo hi none l m s.length hl hh rfl cT h0 h1 h2 aA
  refine⟨.string ⟨((s.take m.toNat).drop l.toNat).toArray⟩,?_,.str _ s4⟩
  have c6:(⟨s.toArray⟩:ByteArray).size=s.length:=by simp[ByteArray.size]
  have hex:(⟨s.toArray⟩:ByteArray).extract l.toNat m.toNat=⟨((s.take m.toNat).drop l.toNat).toArray⟩:=by
   apply ByteArray.ext
   rw[ByteArray.data_extract]
   simp[List.extract_eq_take_drop,List.drop_take]
  simp only[bC3]at hb
  simp[execOp,ho,Instr.sliceAt,Instr.slice,hrun,hv,c6,hb,hex]
theorem aVK (t et:TypeId) (x:Operand) (lo hi:Option Operand) (r re:nP) (sz:Nat) (es:List (List aH)) (tg:Bool) (l m:Int) (ho:o.op=.slice t x lo hi none) (ht:jH P t=some r) (hd:r.d=.slice et)
  (he:jH P et=some re) (c6:re.sz=sz) (hx:ρ x=.sl sz es tg)
  (hl:lR 0 (lo.map ρ)=some l) (hh:lR es.length (hi.map ρ)=some m) (h0:0<=l) (h1:l<=m) (h2:m<=es.length)
  (hk:K (.sl sz ((es.take m.toNat).drop l.toNat) (tg && decide (m=es.length))) h):rS P o ρ h K :=
 cP hk λE w ρc R hρ=>by
  have hr:=hρ x
  rw[hx]at hr
  obtain⟨u,hu,hud,hrun⟩:=cF (w:=w) ht
  obtain rfl:=j0 (hud.trans hd)
  have hsize:=jI (w:=w) he
  have hml:maxLen=9223372036854775807:=rfl
  have key:∀ (a:Option Addr) (cap:Nat),ρc x=.slice a es.length cap->es.length<=cap ->
    (execOp ρc o).run P w=.ok (.value (.slice (if cap=l.toNat then a else a.map (·.add (l.toNat*sz))) (m.toNat-l.toNat) (cap-l.toNat))) w:=by
   intro a cap hv hc
   have hb:=yC (P:=P) R hρ true es.length cap lo hi none l m cap hl hh rfl cT h0 h1 aA aA
   simp only[bC3]at hb
   have e:((cap:Int)).toNat=cap:=by omega
   simp[execOp,ho,Instr.sliceAt,Instr.slice,hrun,hv,hb,hsize,c6,e]
  cases hv:ρc x <;> rw[hv]at hr <;> try(cases hr;done)
  cases hr with
  |sl0 _ _ _ _ htt hmax ha =>
   have hl0:l=0:=by simp at h2;omega
   have hm0:m=0:=by simp at h2;omega
   subst hl0 hm0
   refine⟨_,key _ _ aB6 cT,?_⟩
   simp only[bC4,aSF,List.drop_nil,bC5,bC0,wI,al3]
   exact .sl0 sz _ _ _ (λe=>htt (by simp at e;exact e)) hmax trivial
  |sl _ _ _ b o' cap cv hI hcap hmax htt hs hc h1' hrr =>
   rename_i cap
   refine⟨_,key _ cap hv hcap,?_⟩
   have hlen:((es.take m.toNat).drop l.toNat).length=m.toNat-l.toNat:=by simp;omega
   by_cases hemp:m.toNat=l.toNat
   ·have e1:(es.take m.toNat).drop l.toNat=[]:=bC6 s4
    rw[e1,hemp,wI]
    refine .sl0 sz _ _ _ (λe=>?_) aA trivial
    simp at e;have:=htt e.1;omega
   ·have hne:¬cap=l.toNat:=by omega
    rw[if_neg hne,←hlen]
    simp only[aNH,oB]
    have hat:∀ i j y,kA ((es.take m.toNat).drop l.toNat) i j=some y->kA es (l.toNat+i) j=some y:=by
     intro i j y hy
     obtain⟨e,h1,h2⟩:=lG hy
     rw[aYP]at h1
     have hlt:l.toNat+i<m.toNat:=by have:=(mS.1 h1).1;simp at this;omega
     rw[aOS hlt]at h1
     simp[kA,h1,h2]
    refine .sl sz _ _ b (o'+l.toNat*sz) (cap-l.toNat) (λi j=>cv (l.toNat+i) j) hI aA aA (λe=>?_) ?_ ?_ ?_ ?_
    ·simp at e;have:=htt e.1;omega
    ·intro e he
     exact hs e (bAZ (bC7 he))
    ·intro i j y hy
     rw[←hc _ _ _ (hat i j y hy)];congr 2;rw[wH];omega
    ·intro i j y hy;exact h1' _ _ _ (hat i j y hy)
    ·intro i j y hy;exact hrr _ _ _ (hat i j y hy)
end
theorem aJG {α:Type} (l:List α) (hl:0<l.length):∀ (c k:Nat),k<c*l.length->(List.replicate c l).flatten[k]?=l[k%l.length]?
 |0,k,hk=>by simp at hk
 |c+1,k,hk=>by
  rw[aYR,bJZ]
  by_cases h:k<l.length
  ·rw[uU h,Nat.mod_eq_of_lt h]
  ·rw[wZ aA,aJG l hl c (k-l.length) (by rw[bC1]at hk;omega)]
   congr 1
   rw[Nat.mod_eq_sub_mod (Nat.le_of_not_lt h)]
theorem bA9 (z:Array Value) (hz:0<z.size) (c k:Nat) (hk:k<c*z.size):((Array.range (c*z.size)).map (λi=>z[i%z.size]!)).toList[k]?=z.toList[k%z.size]?:=by
 have hm:k%z.size<z.size:=Nat.mod_lt _ hz
 simp only[Array.toList_map,Array.toList_range,nE,aIY hk,aNH]
 rw[getElem!_pos z _ hm,aSD,aOT hm]
theorem fD.bEA {E:Env} {h:aE} {w:World} {xs:List aH} {z:Array Value} (hL:fD E h w xs z.toList) (hx:0<xs.length) (c:Nat) :
  fD E h w (List.replicate c xs).flatten ((Array.range (c*z.size)).map (λi=>z[i%z.size]!)).toList:=by
 have c6:z.size=xs.length:=by have:=hL.length;simp at this;omega
 refine fD.mk (by simp[c6]) ?_
 intro k x v hkx hkv
 have hk:k<c*xs.length:=by have:=(mS.1 hkx).1;simpa using this
 rw[aJG xs hx c k hk]at hkx
 rw[bA9 z aA c k (by rw[c6];exact hk),c6]at hkv
 exact hL.get _ _ _ hkx hkv
section
variable {P:Program} {o:Oper} {ρ:Operand->aH} {h:aE} {K:aH->aE->Prop}
theorem aSK (t et:TypeId) (l c:Operand) (r re:nP) (k k':IntKind) (a b:Int) (ho:o.op=.makeSlice t l c) (ht:jH P t=some r) (hd:r.d=.slice et) (he:jH P et=some re)
  (hz:re.zero.length=re.sz) (hz0:0<re.sz) (hf:re.zero.all aH.flat=true) (hl:ρ l=.int k a) (hc:ρ c=.int k' b) (h0:0<=a) (hab:a<=b) (hb:b<=281474976710656) (hbb:re.bytes*b<=281474976710656)
  (hk:∀ n,h n=none->K (.os n re.sz 0 a.toNat) (aR h n (.row re.sz ((List.replicate b.toNat re.zero).map (List.map .v))))):rS P o ρ h K:=by
 refine aAM re.sz a.toNat (List.replicate b.toNat re.zero) (λe he=>by rw[bA0 he,hz]) hk ?_
 intro E w ρc R hρ
 have hal:=l9 (hl▸hρ l)
 have hac:=l9 (hc▸hρ c)
 obtain⟨u,hu,hud,hrun⟩:=cF (w:=w) ht
 obtain rfl:=j0 (hud.trans hd)
 have hsize:=jI (w:=w) he
 obtain⟨z,hzr,hzz⟩:=tE (w:=w) he aTD
 obtain⟨i,u',hi,hu',c6,hby,_⟩:=vV he
 have hL:fD E h w re.zero z.cells.toList:=by rw[←hzz];exact uD E h w _
 have hzs:z.cells.size=re.sz:=by have:=hL.length;simp at this;omega
 have wa:IntKind.i64.wrap a=a:=IntWalk.i64_in a aA
 have wb:IntKind.i64.wrap b=b:=IntWalk.i64_in b aA
 refine⟨(Array.range (b.toNat*z.cells.size)).map (λi=>z.cells[i%z.cells.size]!),et,w.drawn,b.toNat,_,[],?_,by omega,by unfold maxLen;omega,by simp[hzs],by simp,hL.bEA aA b.toNat,?_⟩
 ·have hti:(typeInfo et).run P w=.ok i w:=by simp[typeInfo,hi]
  have n1:¬(b<0):=by omega
  have n2:¬(281474976710656<(i.bytes:Int)*b):=by rw[←hby];omega
  have n3:¬(a<0):=by omega
  have n4:¬(b<a):=by omega
  simp only[execOp,ho,Instr.makeSlice,Sem.run_bind,hrun,Result.andThen_ok,asInt,hal,hac,asIntOf,Sem.run_pure,hti,wa,wb]
  by_cases hbz:b.toNat=0
  ·simp[n1,n2,n3,n4,hsize,hzs,hbz,newRow,tF]
   have e0:Array.range 0=#[]:=by simp
   simp only[e0,Array.map_empty];rfl
  ·simp[n1,n2,n3,n4,hsize,hzs,hbz,newRow,tF,hzr]
   rw[if_neg (Nat.mul_ne_zero hbz aA)]
   rfl
 ·exact(hL.bEA aA b.toNat).uC (by
   rw[zF]
   intro x hx
   obtain⟨l,hl,hx⟩:=List.mem_flatten.1 hx
   rw[bA0 hl]at hx
   exact zF.1 hf x hx)
end
theorem Ev.yA {E:Env} {h:aE} {w:World} (o:Obj) (d:Nat):Ev E h w E h (yA w o d) :=
 ⟨by rw[qJ];omega,λb hb=>⟨p9 w o d b hb.1,⟨by have:=hb.1;rw[qJ];omega,hb.2⟩⟩,λb hb=>by simp only[World.shape?,p9 w o d b hb],λ_ hn=>⟨rfl,hn⟩,rfl,rfl⟩
theorem Rel.yA {E:Env} {h:aE} {w:World} (R:Rel E h w) (o:Obj) (d:Nat):Rel E h (yA w o d) :=
 ⟨R.fin,R.dom,λn x b hn hx hb=>by have:=R.lt n x b hn hx hb;rw[qJ];omega,R.apart,
  λn x hn=>(R.obj n x hn).ev (Ev.yA o d) rfl rfl λc hx hc=>p9 w o d c (R.lt n x c hn hx hc),R.laid.ev (Ev.yA o d)⟩
theorem a7A {E:Env} {h:aE} {w:World} (R:Rel E h w) (o:Obj) (d:Nat):qK E h (Hl.yA w o d) w.heap.size :=
 ⟨by rw[qJ];omega,λn x hn hx hf=>by have:=R.lt n x _ hn hx hf;omega⟩
theorem a7B {E:Env} {h:aE} {w:World} (R:Rel E h w) {sz:Nat} {es:List (List aH)} (hs:∀ e∈es,e.length=sz) {cs:Array Value} {t:TypeId} {d:Nat} {vs rest:List Value} (hcs:cs.toList=vs++rest) (hL:fD E h w es.flatten vs) (h1:∀ c∈vs,c.oneCell'=true) :
  ∃ cv:Nat->Nat->Value,(∀ i j x,kA es i j=some x->(Hl.yA w (.cells cs t) d).cell? ⟨w.heap.size,0+i*sz+j,none⟩=some (cv i j))/\(∀ i j x,kA es i j=some x->(cv i j).oneCell'=true)/\(∀ i j x,kA es i j=some x->gC E h (Hl.yA w (.cells cs t) d) x (cv i j)):=by
 have hlen:vs.length=es.length*sz:=by rw[←hL.length,length_flatten es hs]
 refine⟨λi j=>(vs[i*sz+j]?).getD undef,λi j x hx=>?_,λi j x hx=>?_,λi j x hx=>?_⟩ <;>
  (have hlt:=zM hs hx
   have hk:i*sz+j<vs.length:=by omega
   have hv:vs[i*sz+j]?=some vs[i*sz+j]:=cM hk)
 ·simp only[World.cell?,zK,al4]
  rw[←aSD,hcs,uU hk,hv];simp
 ·simp only[hv];exact h1 _ (eI hk)
 ·simp only[hv];exact(hL.get _ _ _ (zL es hs i j x hx) hv).ev (Ev.yA _ _)
section
variable {P:Program} {o:Oper} {ρ:Operand->aH} {h:aE} {K:aH->aE->Prop}
theorem aZG (t:TypeId) (x:Operand) (ho:o.op=.box t x) (hf:(ρ x).cells.all aH.flat=true) (hk:K (.ip (ρ x).cells.length [(ρ x).cells] 0 0) h):rS P o ρ h K:=by
 intro E w ρc R hρ
 obtain⟨hL,h1⟩:=(hρ x).aLR hf
 have hs:∀ e∈[(ρ x).cells],e.length=(ρ x).cells.length:=by simp
 obtain⟨cv,c1,c2,c3⟩:=a7B (t:=t) (d:=w.drawn) R hs (cs:=(ρc x).cells) (vs:=(ρc x).cells.toList) (rest:=[]) cT (by simpa using hL) h1
 refine .lH (v:=.pointer (some ⟨w.heap.size,0,none⟩)) (w':=Hl.yA w (.cells (ρc x).cells t) w.drawn) ?_ ⟨_,h,E,hk,Ev.yA _ _,R.yA _ _,?_⟩
 ·simp only[execOp,ho,Instr.box,newVar,newRow,Sem.run_bind,run_newObj,Result.andThen_ok,Sem.run_pure,tF]
 ·have:=gC.ip (E:=E) (h:=h) (w:=Hl.yA w (.cells (ρc x).cells t) w.drawn) (ρ x).cells.length [(ρ x).cells] 0 0 w.heap.size 0 cv (a7A R _ _) hs c1 c2 c3
  simpa using this
def yD (es:List (List aH)):List (Nat×aH)->List (List aH)
 | []=>es
 |(i,v)::r=>yD (es.set i v.cells) r
def vC (len sz:Nat):List (Nat×aH)->Bool
 | []=>true
 |(i,v)::r=>decide (i<len) && decide (v.cells.length=sz) && v.cells.all aH.flat && vC len sz r
theorem aB9:∀ (ps:List (Nat×aH)) (es:List (List aH)),(yD es ps).length=es.length
 | [],_=>rfl
 |(i,v)::r,es=>by simp[yD,aB9 r]
theorem aCA {sz len:Nat}:∀ (ps:List (Nat×aH)) (es:List (List aH)),vC len sz ps=true->(∀ e∈es,e.length=sz)->∀ e∈yD es ps,e.length=sz
 | [],_,_,h=>h
 |(i,v)::r,es,hf,h=>by
  simp only[vC,oW,decide_eq_true_eq]at hf
  refine aCA r _ hf.2 λe he=>?_
  rcases aSE he with h1|h1
  ·exact h e h1
  ·rw[h1];exact hf.1.1.2
theorem aDT (vs:Array Value) (off:Nat) (cs:Array Value) (k:Nat) (hle:off+vs.size<=cs.size) :
  (vs.zipIdx.foldl (λcs (cj:Value×Nat)=>cs.setIfInBounds (off+cj.2) cj.1) cs)[k]?=if off<=k/\k<off+vs.size then vs[k-off]? else cs[k]?:=by
 have key:∀ (l:List Value) (n:Nat) (cs:Array Value),off+n+l.length<=cs.size ->
   ((l.zipIdx n).foldl (λcs (cj:Value×Nat)=>cs.setIfInBounds (off+cj.2) cj.1) cs)[k]?=if off+n<=k/\k<off+n+l.length then l[k-(off+n)]? else cs[k]?:=by
  intro l
  induction l with
  |nil=>intro n cs _;rw[if_neg cT];rfl
  |cons v l ih =>
   intro n cs hl
   simp only[List.zipIdx_cons,List.foldl_cons]
   rw[ih (n+1) _ (by rw[Array.size_setIfInBounds];simp at hl;omega)]
   simp only[al2]at hl ⊢
   by_cases h1:off+(n+1)<=k/\k<off+(n+1)+l.length
   ·rw[if_pos h1,if_pos aA,show k-(off+n)=(k-(off+(n+1)))+1 by omega];simp
   ·rw[if_neg h1]
    by_cases h2:k=off+n
    ·subst h2
     have hlt:off+n<cs.size:=by omega
     rw[if_pos aA];simp[Array.getElem?_setIfInBounds,hlt]
    ·rw[if_neg aA,a2J aA]
 have:=key vs.toList 0 cs (by simpa using hle)
 rw[←Array.foldl_toList,Array.toList_zipIdx]
 simpa using this
theorem aA5 (vs:Array Value) (off:Nat) (cs:Array Value):(vs.zipIdx.foldl (λcs (cj:Value×Nat)=>cs.setIfInBounds (off+cj.2) cj.1) cs).size=cs.size:=by
 have key:∀ (l:List (Value×Nat)) (cs:Array Value),(l.foldl (λcs (cj:Value×Nat)=>cs.setIfInBounds (off+cj.2) cj.1) cs).size=cs.size:=by
  intro l
  induction l with
  |nil=>intro cs;rfl
  |cons v l ih=>intro cs;simp only[List.foldl_cons];rw[ih];simp
 rw[←Array.foldl_toList]
 exact key _ cs
theorem aA6 {α:Type} {sz:Nat}:∀ (es:List (List α)),(∀ e∈es,e.length=sz)->∀ k,k<es.length*sz->es.flatten[k]?=kA es (k / sz) (k%sz)
 | [],_,k,hk=>by simp at hk
 |e::es,hs,k,hk=>by
  have he:=hs e cT
  have hs':=λe he=>hs e (w6 _ he)
  have c6:0<sz:=by
   rcases bC8 sz with h|h
   ·subst h;simp at hk
   ·exact h
  rw[bJZ]
  by_cases h:k<sz
  ·rw[uU aA,bJ1 h,Nat.mod_eq_of_lt h];simp[kA]
  ·rw[wZ aA,he,aA6 es hs' (k-sz) (by simp[bC1]at hk;omega)]
   have h1:k / sz=(k-sz) / sz+1:=by rw[Nat.div_eq_sub_div c6 aA]
   have h2:k%sz=(k-sz)%sz:=Nat.mod_eq_sub_mod aA
   rw[h1,h2];simp[kA]
theorem aZH {E:Env} {w:World} {sz len:Nat} {ρc:Operand->Value} (hρ:∀ x,gC E h w (ρ x) (ρc x)):∀ (ps:List (Nat×Operand)) (es:List (List aH)) (cs:Array Value),vC len sz (ps.map λp=>(p.1,ρ p.2))=true->es.length=len->(∀ e∈es,e.length=sz) ->
  fD E h w es.flatten cs.toList->(∀ c∈cs.toList,c.oneCell'=true) ->
  ∃ cs',Instr.fill (λi=>some (i*sz,sz)) cs (ps.map λp=>(p.1,ρc p.2))=some cs'/\fD E h w (yD es (ps.map λp=>(p.1,ρ p.2))).flatten cs'.toList/\∀ c∈cs'.toList,c.oneCell'=true
 | [],es,cs,_,_,_,hL,h1=>⟨cs,rfl,hL,h1⟩
 |(i,x)::ps,es,cs,hf,hlen,hs,hL,h1=>by
  simp only[nZ,vC,oW,decide_eq_true_eq]at hf
  obtain⟨⟨⟨hi,c6⟩,hfl⟩,hf⟩:=hf
  obtain⟨hcL,hc1⟩:=(hρ x).aLR hfl
  have hvs:(ρc x).cells.size=sz:=by have:=hcL.length;simp at this;omega
  have hcsz:cs.size=es.length*sz:=by have:=hL.length;rw[length_flatten es hs]at this;simpa using this.symm
  have hfit:i*sz+sz<=cs.size:=by
   rw[hcsz,hlen]
   have:=aYQ sz (Nat.succ_le_of_lt hi)
   rw[bC1]at this;exact this
  have hget:=λk=>aDT (ρc x).cells (i*sz) cs k (by rw[hvs];exact hfit)
  have hsize:=aA5 (ρc x).cells (i*sz) cs
  have hs':∀ e∈es.set i (ρ x).cells,e.length=sz:=λe he=>by
   rcases aSE he with h1|h1
   ·exact hs e h1
   ·rw[h1];exact c6
  have hin:i*sz<=i*sz:=iH _
  obtain⟨cs',r1,r2,r3⟩:=aZH hρ ps (es.set i (ρ x).cells) hf (by simpa using hlen) hs' (cs:=(ρc x).cells.zipIdx.foldl (λcs (cj:Value×Nat)=>cs.setIfInBounds (i*sz+cj.2) cj.1) cs) (by
   refine fD.mk (by rw[length_flatten _ hs',aU6,←hcsz,←hsize];rfl) ?_
   intro k y v hy hv
   rw[aSD,hget k]at hv
   have hk:k<es.length*sz:=by have:=(mS.1 hy).1;rw[length_flatten _ hs']at this;simpa using this
   have b67:0<sz:=by
    rcases bC8 sz with h|h
    ·subst h;simp at hk
    ·exact h
   rw[aA6 _ hs' k (by simpa using hk)]at hy
   by_cases hr:i*sz<=k/\k<i*sz+(ρc x).cells.size
   ·rw[if_pos hr]at hv
    have hd:k / sz=i:=by
     rw[hvs]at hr
     exact Nat.div_eq_of_lt_le (by rw[aU5]at hr ⊢;omega) (by rw[bC1];omega)
    have hm:k%sz=k-i*sz:=by
     have:=bJ2 k sz
     rw[hd,aU5]at this;omega
    rw[hd,hm]at hy
    unfold kA at hy
    rw[aLH (by rw[hlen];exact hi)]at hy
    exact hcL.get _ _ _ (by simpa using hy) aB6
   ·rw[if_neg hr]at hv
    have hd:k / sz≠i:=by
     intro e
     have hdm:=bJ2 k sz
     have:=Nat.mod_lt k b67
     rw[e,aU5]at hdm
     rw[hvs]at hr;omega
    unfold kA at hy
    rw[aLI (l5 hd)]at hy
    exact hL.get k _ _ (by rw[aA6 es hs k hk];exact hy) aB6) (by
   intro c hc
   obtain⟨k,hk⟩:=bJ0 hc
   rw[aSD,hget k]at hk
   split at hk
   ·exact hc1 c bPH
   ·exact h1 c bPH)
  refine⟨cs',?_,r2,r3⟩
  simp only[nZ,Instr.fill,hvs]
  rw[if_neg s4]
  exact r1
theorem aEH {E:Env} {w:World} {ρc:Operand->Value} (hρ:∀ x,gC E h w (ρ x) (ρc x)) (t et:TypeId) (len:Nat) (ps:Array (Nat×Operand)) (r re:nP) (ho:o.op=.buildSlice t len ps) (ht:jH P t=some r) (hd:r.d=.slice et) (he:jH P et=some re)
  (hz:re.zero.length=re.sz) (hz0:0<re.sz) (hf:re.zero.all aH.flat=true) (hlen:len*re.sz<=16777216) (hfill:vC len re.sz (ps.toList.map λp=>(p.1,ρ p.2))=true) :
  ∃ (cs:Array Value),(execOp ρc o).run P w=.ok (.value (.slice (some ⟨w.heap.size,0,none⟩) len len)) (yA w (.cells cs et) w.drawn) /\
   fD E h w (yD (List.replicate len re.zero) (ps.toList.map λp=>(p.1,ρ p.2))).flatten cs.toList/\∀ c∈cs.toList,c.oneCell'=true:=by
 obtain⟨u,hu,hud,hrun⟩:=cF (w:=w) ht
 obtain rfl:=j0 (hud.trans hd)
 have hsize:=jI (w:=w) he
 obtain⟨z,hzr,hzz⟩:=tE (w:=w) he aTD
 have hL:fD E h w re.zero z.cells.toList:=by rw[←hzz];exact uD E h w _
 have hzs:z.cells.size=re.sz:=by have:=hL.length;simp at this;omega
 have hflat:=hL.bEA aA len
 have hone:=hflat.uC (by
  rw[zF]
  intro x hx
  obtain⟨l,hl,hx⟩:=List.mem_flatten.1 hx
  rw[bA0 hl]at hx
  exact zF.1 hf x hx)
 have hs:∀ e∈List.replicate len re.zero,e.length=re.sz:=λe he=>by rw[bA0 he,hz]
 obtain⟨cs,h1,h2,h3⟩:=aZH hρ ps.toList (List.replicate len re.zero) _ hfill cT hs hflat hone
 refine⟨cs,?_,h2,h3⟩
 have hmap:(ps.map λ(i,x)=>(i,ρc x)).toList=ps.toList.map λp=>(p.1,ρc p.2):=by simp
 rw[hzs]at h1
 have n1:¬(len*re.sz > 2 ^ 24):=by simp;omega
 simp only[execOp,ho,Instr.buildSlice,Sem.run_bind,hrun,Result.andThen_ok,hsize,hmap,if_neg n1,Sem.run_ite]
 by_cases hl0:len*re.sz=0
 ·have aZI:len=0:=by
   rcases Nat.mul_eq_zero.1 hl0 with h|h
   ·exact h
   ·omega
  subst aZI
  simp only[bC0]at h1 ⊢
  have e0:Array.range 0=#[]:=by simp
  simp only[e0,Array.map_empty]at h1 ⊢
  simp[h1,newRow,tF]
  rfl
 ·simp only[hl0,if_false,Sem.run_bind,hzr,Result.andThen_ok,Sem.run_pure,hzs]
  simp[h1,newRow,tF]
  rfl
theorem aO7 (t et:TypeId) (len:Nat) (ps:Array (Nat×Operand)) (r re:nP) (ho:o.op=.buildSlice t len ps) (ht:jH P t=some r) (hd:r.d=.slice et) (he:jH P et=some re)
  (hz:re.zero.length=re.sz) (hz0:0<re.sz) (hf:re.zero.all aH.flat=true) (hlen:len*re.sz<=16777216) (hfill:vC len re.sz (ps.toList.map λp=>(p.1,ρ p.2))=true)
  (hk:∀ n,h n=none->K (.os n re.sz 0 len) (aR h n (.row re.sz ((yD (List.replicate len re.zero) (ps.toList.map λp=>(p.1,ρ p.2))).map (List.map .v))))):rS P o ρ h K:=by
 have hs:∀ e∈List.replicate len re.zero,e.length=re.sz:=λe he=>by rw[bA0 he,hz]
 refine aAM re.sz len (yD (List.replicate len re.zero) (ps.toList.map λp=>(p.1,ρ p.2))) (aCA _ _ hfill hs) hk ?_
 intro E w ρc R hρ
 obtain⟨cs,h1,h2,h3⟩:=aEH (P:=P) hρ t et len ps r re ho ht hd he hz hz0 hf hlen hfill
 have hcs:cs.size=len*re.sz:=by
  have:=h2.length
  rw[length_flatten _ (aCA _ _ hfill hs),aB9]at this
  simpa using this.symm
 have:len<=len*re.sz:=Nat.le_mul_of_pos_right len hz0
 exact⟨cs,et,w.drawn,len,cs.toList,[],h1,iH _,by unfold maxLen;omega,by omega,by simp,h2,h3⟩
theorem aHG (t et:TypeId) (len:Nat) (ps:Array (Nat×Operand)) (r re:nP) (ho:o.op=.buildSlice t len ps) (ht:jH P t=some r) (hd:r.d=.slice et) (he:jH P et=some re)
  (hz:re.zero.length=re.sz) (hz0:0<re.sz) (hf:re.zero.all aH.flat=true) (hlen:len*re.sz<=16777216) (hfill:vC len re.sz (ps.toList.map λp=>(p.1,ρ p.2))=true)
  (hk:K (.sl re.sz (yD (List.replicate len re.zero) (ps.toList.map λp=>(p.1,ρ p.2))) true) h):rS P o ρ h K:=by
 have hs:∀ e∈List.replicate len re.zero,e.length=re.sz:=λe he=>by rw[bA0 he,hz]
 have hs':=aCA (sz:=re.sz) _ _ hfill hs
 intro E w ρc R hρ
 obtain⟨cs,h1,h2,h3⟩:=aEH (P:=P) hρ t et len ps r re ho ht hd he hz hz0 hf hlen hfill
 obtain⟨cv,c1,c2,c3⟩:=a7B (t:=et) (d:=w.drawn) R hs' (cs:=cs) (vs:=cs.toList) (rest:=[]) cT h2 h3
 refine .lH h1 ⟨_,h,E,hk,Ev.yA _ _,R.yA _ _,?_⟩
 have hl:(yD (List.replicate len re.zero) (ps.toList.map λp=>(p.1,ρ p.2))).length=len:=by rw[aB9,aYS]
 have:len<=len*re.sz:=Nat.le_mul_of_pos_right len hz0
 have:=gC.sl (E:=E) (h:=h) (w:=Hl.yA w (.cells cs et) w.drawn) re.sz _ true w.heap.size 0 len cv (a7A R _ _) aA (by unfold maxLen;omega) (λ_=>hl.symm) hs' c1 c2 c3
 rw[hl]at this
 exact this
end
def xU:List (List Cell)->Option (List (List aH))
 | []=>some []
 |e::es=>match aEF e,xU es with
  |some x,some xs=>some (x::xs)
  | _,_=>none
theorem aGV:∀ {es:List (List Cell)} {xs:List (List aH)},xU es=some xs->es=xs.map (List.map .v)
 | [],xs,h=>by simp[xU]at h;subst h;rfl
 |e::es,xs,h=>by
  unfold xU at h
  split at h
  ·rename_i x xs' hx hxs
   obtain rfl:=gV h
   simp[aHE hx,aGV hxs]
  ·simp at h
def zN (h:aE) (sz:Nat):aH->Option (List (List aH))
 | .sl oC ys _=>if oC=sz then some ys else none
 | .bD=>some []
 | .str s=>if sz=1 then some (s.map λc=>[.int .u8 c.toNat])else none
 | .os m oC j k=>match h m with
  |some (.row sz'' es)=>if oC=sz/\sz''=sz/\j+k<=es.length then xU ((es.drop j).take k)else none
  | _=>none
 | _=>none
theorem aO8 {E:Env} {h:aE} {w:World} {b o sz:Nat} {es:List (List aH)} (hs:∀ e∈es,e.length=sz) {cv:Nat->Nat->Value}
  (hc:∀ i j x,kA es i j=some x->w.cell? ⟨b,o+i*sz+j,none⟩=some (cv i j)) (h1:∀ i j x,kA es i j=some x->(cv i j).oneCell'=true) (hr:∀ i j x,kA es i j=some x->gC E h w x (cv i j)) :
  ∃ vs:List Value,fD E h w es.flatten vs/\(∀ c∈vs,c.oneCell'=true)/\∀ j v,vs[j]?=some v->w.cell? ((⟨b,o,none⟩:Addr).add j)=some v:=by
 have hlen:=length_flatten es hs
 refine⟨(List.range (es.length*sz)).map λk=>cv (k / sz) (k%sz),?_,?_,?_⟩
 ·refine fD.mk (by simp[hlen]) ?_
  intro k x v hx hv
  have hk:k<es.length*sz:=by rw[←hlen];exact(mS.1 hx).1
  rw[nE,aIY hk]at hv
  obtain rfl:=gV hv
  rw[aA6 es hs k hk]at hx
  exact hr _ _ _ hx
 ·intro c hc'
  obtain⟨k,hk,rfl⟩:=qU.1 hc'
  have hk:k<es.length*sz:=by simpa using hk
  have hx:es.flatten[k]?=some (es.flatten[k]'aA):=cM aA
  rw[aA6 es hs k hk]at hx
  exact h1 _ _ _ hx
 ·intro k v hv
  have hk:k<es.length*sz:=by have:=(mS.1 hv).1;simpa using this
  rw[nE,aIY hk]at hv
  obtain rfl:=gV hv
  have hx:es.flatten[k]?=some (es.flatten[k]'aA):=cM aA
  rw[aA6 es hs k hk]at hx
  rw[oB,←hc _ _ _ hx]
  congr 2
  have:=bJ2 k sz
  rw[aU5]at this;omega
theorem aHH {w w':World} (h:w'.heap=w.heap) (a:Addr):w'.cell? a=w.cell? a:=by simp only[World.cell?,h]
def bEB (P:Program) (E:Env) (h:aE) (w:World) (sz:Nat) (ys:List (List aH)) (v:Value):Prop :=
  ∃ news:List Value,(∀ e∈ys,e.length=sz)/\(∀ w',(Builtin.lenOf v).run P w'=.ok ys.length w')/\(∀ w',w'.heap=w.heap->(Builtin.firstCells sz ys.length v).run P w'=.ok news.toArray w') /\
   fD E h w ys.flatten news/\(∀ c∈news,c.oneCell'=true)/\ys.length<=maxLen
theorem aNW {P:Program} {E:Env} {h:aE} {w:World} (R:Rel E h w) {sz:Nat} {x:aH} {v:Value} {ys:List (List aH)} (hx:zN h sz x=some ys) (r:gC E h w x v):bEB P E h w sz ys v:=by
 unfold zN at hx
 have slices:∀ (b o len cap:Nat) (cv:Nat->Nat->Value),v=.slice (some ⟨b,o,none⟩) len cap->len=ys.length->len<=maxLen->(∀ e∈ys,e.length=sz)->(∀ i j x,kA ys i j=some x->w.cell? ⟨b,o+i*sz+j,none⟩=some (cv i j)) ->
   (∀ i j x,kA ys i j=some x->(cv i j).oneCell'=true)->(∀ i j x,kA ys i j=some x->gC E h w x (cv i j))->bEB P E h w sz ys v:=by
  intro b o len cap cv hv hl hmax hs hc h1 hr
  obtain⟨vs,hL,hone,hcell⟩:=aO8 hs hc h1 hr
  refine⟨vs,hs,λw'=>by rw[hv,←hl];simp[Builtin.lenOf],λw' hw=>?_,hL,hone,by omega⟩
  rw[hv]
  refine run_firstCells_some w' sz ys.length _ _ _ vs (by rw[←hL.length,length_flatten ys hs]) λj u hu=>?_
  rw[aHH hw];exact hcell j u hu
 split at hx
 ·rename_i oC ys' t
  split at hx
  ·rename_i e
   subst e
   obtain rfl:=gV hx
   cases r with
   |sl0 _ _ a cap ht hmax ha =>
    refine⟨[],by simp,λw'=>by simp[Builtin.lenOf],λw' hw=>?_,trivial,by simp,by simp⟩
    cases a with
    |none=>simp[Builtin.firstCells]
    |some a=>simp[Builtin.firstCells,loadCells,loadCellsFrom]
   |sl _ _ _ b o cap cv hi hcap hmax ht hs hc h1 hr=>exact slices b o _ _ cv rfl rfl aA hs hc h1 hr
  ·simp at hx
 ·obtain rfl:=gV hx
  cases r
  exact⟨[],by simp,λw'=>by simp[Builtin.lenOf],λw' hw=>by simp[Builtin.firstCells],trivial,by simp,by simp⟩
 ·rename_i s
  split at hx
  ·rename_i e
   subst e
   obtain rfl:=gV hx
   cases r with
   |str _ hl =>
    refine⟨s.map λc=>.int .u8 c.toNat,by simp,λw'=>by simp[Builtin.lenOf,ByteArray.size],λw' hw=>?_,?_,by simp[Value.oneCell'],by simpa using hl⟩
    ·simp only[Builtin.firstCells,nG]
     have:(ByteArray.mk s.toArray).extract 0 s.length=⟨s.toArray⟩:=by
      apply ByteArray.ext
      rw[ByteArray.data_extract];simp
     rw[this];simp
    ·refine fD.mk (by rw[length_flatten (sz:=1) _ cT];simp) ?_
     have:∀ (s:List UInt8),(s.map λc=>[aH.int .u8 c.toNat]).flatten=s.map λc=>aH.int .u8 c.toNat:=λs=>by
      induction s with
      |nil=>rfl
      |cons c s ih=>simp[ih]
     rw[this]
     intro i x v hx hv
     rw[nE]at hx hv
     obtain⟨c,hc,rfl⟩:=u5.1 hx
     rw[hc]at hv
     obtain rfl:=gV hv
     exact .int _ _
  ·simp at hx
 ·rename_i m oC j k
  split at hx
  ·rename_i sz'' es hm
   split at hx
   ·rename_i e
    obtain⟨rfl,rfl,hjk⟩:=e
    have hpl:=aGV hx
    have hlen:ys.length=k:=by have:=congrArg List.length hpl;simp at this;omega
    cases r with
    |os0 _ _ hd hl =>
     have:ys=[]:=aNI.1 hlen
     subst this
     exact⟨[],by simp,λw'=>by simp[Builtin.lenOf],λw' hw=>by simp[Builtin.firstCells],trivial,by simp,by simp⟩
    |os _ _ _ _ b o cap t mm hd hl hlc hmax hsh hm' =>
     obtain⟨b',o',hl',hbS,hs,cs,ct,cv,T,hh,hmm,hT,hD,hc,hrr⟩:=aEG R hm (.inr ⟨_,hl⟩)
     rw[hl]at hl'
     obtain⟨rfl,rfl⟩:=aU4 (gV hl')
     have hat:∀ i' j' y,kA ys i' j'=some y->kA es (j+i') j'=some (.v y):=by
      intro i' j' y hy
      have h1:kA (ys.map (List.map Cell.v)) i' j'=some (.v y):=by rw[qA,hy];rfl
      rw[←hpl]at h1
      obtain⟨e,h2,h3⟩:=lG h1
      have hlt:i'<k:=by have:=(mS.1 h2).1;simp at this;omega
      rw[aOS hlt,aYP]at h2
      simp[kA,h2,h3]
     refine slices b _ k cap (λi' j'=>cv (j+i') j') rfl hlen.symm aA ?_ ?_ ?_ ?_
     ·intro e he
      have:e.map Cell.v∈(es.drop j).take k:=by rw[hpl];exact qU.2 ⟨e,he,rfl⟩
      have:=hs _ (bC7 (bAZ this))
      simpa using this
     ·intro i' j' y hy
      have:=hc _ _ _ (hat i' j' y hy)
      simp only[World.cell?,hh,bRR,aU3,if_false]
      rw[←this];congr 1;rw[wH];omega
     ·intro i' j' y hy;exact(hrr _ _ _ (hat i' j' y hy)).one
     ·intro i' j' y hy
      have:=hrr _ _ _ (hat i' j' y hy)
      generalize cv (j+i') j'=c at this
      generalize T (j+i') j'=S at this
      cases this with
      |v _ _ _ _ hx=>exact hx
   ·simp at hx
  ·simp at hx
 ·simp at hx
def bRW (P:Program) (t:TypeId):Option TyD:=(jH P t).map (·.d)
def aEI (P:Program) (t:Option TypeId):Bool :=
 match t with
 |some t=>match bRW P t with
  |some (.slice _)=>true
  |some .str=>true
  | _=>false
 |none=>false
theorem aLU {P:Program} {w:World} {t:Option TypeId} (h:aEI P t=true) :
  ∃ t',t=some t'/\((∃ e,(underlying t').run P w=.ok (.slice e) w)∨(underlying t').run P w=.ok .string w):=by
 unfold aEI at h
 cases t with
 |none=>simp at h
 |some t =>
  refine⟨t,rfl,?_⟩
  simp only[bRW]at h
  cases hr:jH P t with
  |none=>simp[hr]at h
  |some r =>
   simp only[hr,aNH]at h
   obtain⟨u,hu,hud,hrun⟩:=cF (w:=w) hr
   split at h
   ·rename_i e he
    obtain rfl:=j0 (hud.trans (gV he))
    exact .inl ⟨e,hrun⟩
   ·rename_i he
    obtain rfl:=aJB (hud.trans (gV he))
    exact .inr hrun
   ·simp at h
section
variable {P:Program} {o:Oper} {ρ:Operand->aH} {h:aE} {K:aH->aE->Prop}
theorem aEJ {w:World} {t et:TypeId} {t1:Option TypeId} {r re:nP} (ht:jH P t=some r) (hd:r.d=.slice et) (he:jH P et=some re) (h1:aEI P t1=true) (ats:Array TypeId) (a0:ats[0]?=some t) (a1:ats[1]?=t1) (ty:TypeId)
  {base:Option Addr} {sLen sCap n:Nat} {v:Value} {olds news:List Value} {z:Value} (hz:(∀ w,(zeroValue et).run P w=.ok z w)) (hlen:∀ w',(Builtin.lenOf v).run P w'=.ok n w')
  (hold:∀ w',w'.heap=w.heap->(Builtin.firstCells re.sz sLen (.slice base sLen sCap)).run P w'=.ok olds.toArray w') (hnew:∀ w',w'.heap=w.heap->(Builtin.firstCells re.sz n v).run P w'=.ok news.toArray w')
  (hg:sCap<sLen+n) (hb:(sLen+n)*re.bytes<=140737488355328) (hmax:sLen+n<=maxLen) :
  ∃ cap d,sLen+n<=cap/\cap<=maxLen/\(Builtin.append_ ats ty #[.slice base sLen sCap,v]).run P w =
   .ok (.slice (some ⟨w.heap.size,0,none⟩) (sLen+n) cap) (yA w (.cells ((olds++news).toArray++Builtin.zeroCells z.cells (cap-(sLen+n))) et) d):=by
 obtain⟨u,hu,hud,hrun⟩:=cF (w:=w) ht
 obtain rfl:=j0 (hud.trans hd)
 have hsize:∀ w,(sizeOf et).run P w=.ok re.sz w:=λw=>jI he
 obtain⟨i,u',hi,hu',c6,hby,_⟩:=vV he
 obtain⟨t',rfl,hu1⟩:=aLU (w:=w) h1
 have hti:∀ w,(typeInfo et).run P w=.ok i w:=λw=>by simp[typeInfo,hi]
 have hge:=grownCap_ge w (sLen+n) sCap et
 have hcm:=grownCap_le_maxLen w (sLen+n) sCap et hmax
 refine⟨grownCap w (sLen+n) sCap et,w.drawn+1,hge,hcm,?_⟩
 have hml:maxLen=9223372036854775807:=rfl
 have n1:¬(sLen+n<=sCap):=by omega
 have n3:¬(281474976710656<Builtin.nextslicecap (sLen+n) sCap*i.bytes):=by
  have:=growslice_fits hg (by rw[←hby];exact hb:(sLen+n)*i.bytes<=140737488355328)
  omega
 have n2:¬(9223372036854775807<((sLen:Int)+(n:Int))):=by omega
 have hw:(w.drew).heap=w.heap:=rfl
 have hassoc:∀ zc:Array Value,olds.toArray++(news.toArray++zc)=(olds++news).toArray++zc:=λzc=>by apply Array.ext';simp
 rcases hu1 with⟨e,hu1⟩|hu1
 ·simp[Builtin.append_,a0,a1,hrun,hsize,hu1,hlen,n1,n2,n3,hti,Question.forced,grownCap,hold _ hw,hnew _ hw,hz,newRow,hassoc]
  rfl
 ·simp[Builtin.append_,a0,a1,hrun,hsize,hu1,hlen,n1,n2,n3,hti,Question.forced,grownCap,hold _ hw,hnew _ hw,hz,newRow,hassoc]
  rfl
end
section
variable {P:Program} {o:Oper} {ρ:Operand->aH} {h:aE} {K:aH->aE->Prop}
theorem tG {ρc:Operand->Value} {w:World} (x y:Operand) (ats:Array TypeId) (ho:o.op=.call { callee:=.builtin .append,args:=#[x,y],argTypes:=ats }) :
  (execOp ρc o).run P w=((Builtin.append_ ats o.type #[ρc x,ρc y]).run P w).andThen λv w'=>.ok (.value v) w':=by
 simp[execOp,ho,resolve,invoke,builtin]
def aJH (sz:Nat):aH->Option (List (List aH))
 | .bD=>some []
 | .sl oC es true=>if oC=sz then some es else none
 | _=>none
theorem aHI (z:Array Value) (n:Nat):(Builtin.zeroCells z n).size=n*z.size:=by simp[Builtin.zeroCells]
theorem aO9 (x y:Operand) (ats:Array TypeId) (t et:TypeId) (r re:nP) (olds ys:List (List aH)) (ho:o.op=.call { callee:=.builtin .append,args:=#[x,y],argTypes:=ats })
  (a0:ats[0]?=some t) (ht:jH P t=some r) (hd:r.d=.slice et) (he:jH P et=some re) (hz:re.zero.length=re.sz) (hz0:0<re.sz) (h1:aEI P ats[1]?=true)
  (hx:aJH re.sz (ρ x)=some olds) (hy:zN h re.sz (ρ y)=some ys) (hne:ys≠[]) (hb:(olds.length+ys.length)*re.bytes<=140737488355328) (hmax:olds.length+ys.length<=9223372036854775807)
  (hk:∀ n,h n=none->K (.os n re.sz 0 (olds.length+ys.length)) (aR h n (.row re.sz ((olds++ys).map (List.map .v))))):rS P o ρ h K:=by
 have hml:maxLen=9223372036854775807:=rfl
 have aZI:0<ys.length:=List.length_pos_iff.2 hne
 have dst:∀ E w v,gC E h w (ρ x) v->∃ (base:Option Addr) (cap:Nat) (vs:List Value),v=.slice base olds.length cap/\cap<olds.length+ys.length/\(∀ e∈olds,e.length=re.sz)/\fD E h w olds.flatten vs/\(∀ c∈vs,c.oneCell'=true) /\
   ∀ w',w'.heap=w.heap->(Builtin.firstCells re.sz olds.length (.slice base olds.length cap)).run P w'=.ok vs.toArray w':=by
  intro E w v hr
  unfold aJH at hx
  split at hx
  ·rename_i hxv
   obtain rfl:=gV hx
   rw[hxv]at hr
   cases hr
   exact⟨none,0,[],rfl,by simpa using aZI,by simp,trivial,by simp,λw' _=>by simp[Builtin.firstCells]⟩
  ·rename_i oC es hxv
   split at hx
   ·rename_i e
    obtain rfl:=gV hx
    rw[hxv]at hr
    cases hr with
    |sl0 _ _ a cap htt hm ha =>
     have:=htt rfl
     refine⟨_,_,[],rfl,by simp;omega,by simp,trivial,by simp,λw' _=>?_⟩
     cases a <;> simp[Builtin.firstCells,loadCells,loadCellsFrom]
    |sl _ _ _ b o' cap cv hI hcap hm htt hs hc hone hrr =>
     have:=htt rfl
     subst e
     obtain⟨vs,hL,hv1,hcell⟩:=aO8 hs hc hone hrr
     refine⟨_,_,vs,rfl,by omega,hs,hL,hv1,λw' hw=>?_⟩
     refine run_firstCells_some w' _ _ _ _ _ vs (by rw[←hL.length,length_flatten _ hs]) λj u hu=>?_
     rw[aHH hw];exact hcell j u hu
   ·simp at hx
  ·simp at hx

 intro E w ρc R hρ
 obtain⟨base,cap,vs,hv,hcap,hso,hLo,hv1,hfo⟩:=dst E w _ (hρ x)
 obtain⟨news,hsn,hlen,hfn,hLn,hn1,_⟩:=aNW (P:=P) R hy (hρ y)
 have hs:∀ e∈olds++ys,e.length=re.sz:=λe he=>by
  rcases pJ.1 he with h|h
  ·exact hso e h
  ·exact hsn e h
 refine aAM re.sz (olds.length+ys.length) (olds++ys) hs hk ?_ E w ρc R hρ
 intro E w ρc R hρ
 obtain⟨base,cap,vs,hv,hcap,hso,hLo,hv1,hfo⟩:=dst E w _ (hρ x)
 obtain⟨news,hsn,hlen,hfn,hLn,hn1,_⟩:=aNW (P:=P) R hy (hρ y)
 obtain⟨z,hzr,hzz⟩:=tE (w:=w) he aTD
 have hzr':∀ w,(zeroValue et).run P w=.ok z w:=by
  intro w'
  obtain⟨z',hzr',hzz'⟩:=tE (w:=w') he aTD
  have:z'=z:=by
   obtain⟨i,u,hi,_⟩:=vV he
   simp only[zeroValue,typeInfo,Sem.run_bind,run_program,Result.andThen_ok,hi,Sem.run_pure]at hzr hzr'
   cases hiz:i.zero with
   |none=>simp[hiz]at hzr
   |some z0=>simp[hiz]at hzr hzr';rw[←hzr,←hzr']
  rw[←this];exact hzr'
 have hzs:z.cells.size=re.sz:=by have:=congrArg List.length hzz;simp[hz]at this;exact this
 obtain⟨ncap,d,g1,g2,grun⟩:=aEJ (w:=w) (t1:=ats[1]?) ht hd he h1 ats a0 rfl o.type (base:=base) (sLen:=olds.length) (sCap:=cap) (n:=ys.length) (v:=ρc y) (olds:=vs) (news:=news) (z:=z) hzr' hlen hfo hfn hcap hb aA
 refine⟨(vs++news).toArray++Builtin.zeroCells z.cells (ncap-(olds.length+ys.length)),et,d,ncap,vs++news,(Builtin.zeroCells z.cells (ncap-(olds.length+ys.length))).toList,?_,g1,g2,?_,by simp,by rw[List.flatten_append];exact hLo.append hLn,λc hc=>?_⟩
 ·rw[tG x y ats ho,hv,grun];rfl
 ·have e1:=hLo.length
  have e2:=hLn.length
  rw[length_flatten _ hso]at e1
  rw[length_flatten _ hsn]at e2
  rw[bRS,aHI,hzs,bRT,mV,←e1,←e2,←wH,←wH]
  have:olds.length+ys.length+(ncap-(olds.length+ys.length))=ncap:=by omega
  rw[this];exact iH _
 ·rcases pJ.1 hc with h|h
  ·exact hv1 c h
  ·exact hn1 c h
theorem aNK (x y:Operand) (ats:Array TypeId) (t et:TypeId) (r re:nP) (ho:o.op=.call { callee:=.builtin .append,args:=#[x,y],argTypes:=ats })
  (a0:ats[0]?=some t) (ht:jH P t=some r) (hd:r.d=.slice et) (he:jH P et=some re) (h1:aEI P ats[1]?=true)
  (hx:(aJH re.sz (ρ x)).isSome=true) (hy:zN h re.sz (ρ y)=some []) (hk:K (ρ x) h):rS P o ρ h K :=
 cP hk λE w ρc R hρ=>by
  obtain⟨news,hsn,hlen,hfn,hLn,hn1,_⟩:=aNW (P:=P) R hy (hρ y)
  have hnil:news=[]:=by have:=hLn.length;simp at this;exact aNI.1 this.symm
  subst hnil
  obtain⟨u,hu,hud,hrun⟩:=cF (w:=w) ht
  obtain rfl:=j0 (hud.trans hd)
  have hsize:∀ w,(sizeOf et).run P w=.ok re.sz w:=λw=>jI he
  have dst:∃ (base:Option Addr) (n cap:Nat),ρc x=.slice base n cap/\n<=cap:=by
   have hr:=hρ x
   unfold aJH at hx
   split at hx
   ·rename_i e;rw[e]at hr;generalize ρc x=v at hr ⊢;cases hr;exact⟨none,0,0,rfl,iH _⟩
   ·rename_i e;rw[e]at hr;generalize ρc x=v at hr ⊢
    cases hr with
    |sl0=>exact⟨_,_,_,rfl,fE _⟩
    |sl=>exact⟨_,_,_,rfl,by assumption⟩
   ·cases hx
  obtain⟨base,n,cap,hv,hc⟩:=dst
  obtain⟨t',ht',hu1⟩:=aLU (w:=w) h1
  refine⟨ρc x,?_,hρ x⟩
  have hfn':=hfn w rfl
  have hlen':=hlen w
  simp only[al3]at hfn' hlen'
  rw[tG x y ats ho,hv]
  rcases hu1 with⟨e,hu1⟩|hu1
  ·cases base <;> simp[Builtin.append_,a0,ht',hrun,hsize,hu1,hlen',hc,hfn',storeCells]
  ·cases base <;> simp[Builtin.append_,a0,ht',hrun,hsize,hu1,hlen',hc,hfn',storeCells]
end
def Env.mv (E:Env) (b:Nat) (l:Option (Nat×Nat)) (S:Nat->Prop):Env where
 loc:=λm=>if m=b then l else E.loc m
 fp:=λm c=>if m=b then S c else E.fp m c
 used:=λm=>m=b∨E.used m
theorem Ev.mv {E:Env} {h:aE} {w w':World} (R:Rel E h w) {n:Nat} {x:bE} (hn:h n=some x) (hx:x.live) {b:Nat} (hb:¬E.used b) (l:Option (Nat×Nat)) (S:Nat->Prop) (x':bE)
  (hS:∀ c,S c->E.fp n c∨w.heap.size<=c) (hsize:w.heap.size<=w'.heap.size) (hheap:∀ c,c<w.heap.size->¬E.fp n c->w'.heap[c]?=w.heap[c]?) (hsh:∀ c,c<w.heap.size->w'.shape? c=w.shape? c) (hos:w'.os=w.os) (hout:w'.output=w.output) :
  Ev E h w (E.mv b l S) (aR (aR h n .gone) b x') w':=by
 have hnb:n≠b:=λe=>hb (e▸R.dom n (by simp[hn]))
 refine⟨hsize,λc hc=>⟨hheap c hc.1 (hc.2 n x hn hx),⟨by have:=hc.1;omega,?_⟩⟩,hsh,λm hm=>?_,hos,hout⟩
 ·intro m y hm hy hf
  by_cases e:m=b
  ·subst e
   have hf:S c:=by simpa[Env.mv]using hf
   rcases hS c hf with h1|h1
   ·exact hc.2 n x hn hx h1
   ·have:=hc.1;omega
  ·rw[aI _ _ _ _ e]at hm
   have hf:E.fp m c:=by simpa[Env.mv,e]using hf
   by_cases e2:m=n
   ·subst e2;rw[aM]at hm;obtain rfl:=gV hm;exact hy.elim
   ·rw[aI _ _ _ _ e2]at hm;exact hc.2 m y hm hy hf
 ·have e:m≠b:=λe=>hb (e▸hm)
  exact⟨by simp[Env.mv,e],.inr hm⟩
theorem Rel.mv {E:Env} {h:aE} {w w':World} (R:Rel E h w) {n:Nat} {x:bE} (hn:h n=some x) (hx:x.live) {b:Nat} (hb:¬E.used b) (l:Option (Nat×Nat)) (S:Nat->Prop) (x':bE)
  (hS:∀ c,S c->E.fp n c∨w.heap.size<=c) (hS':∀ c,S c->c<w'.heap.size) (hsize:w.heap.size<=w'.heap.size) (hheap:∀ c,c<w.heap.size->¬E.fp n c->w'.heap[c]?=w.heap[c]?) (hsh:∀ c,c<w.heap.size->w'.shape? c=w.shape? c) (hos:w'.os=w.os) (hout:w'.output=w.output)
  (hO:aI9 (E.mv b l S) (aR (aR h n .gone) b x') w' b x'):Rel (E.mv b l S) (aR (aR h n .gone) b x') w':=by
 have ev:=Ev.mv R hn hx hb l S x' hS hsize hheap hsh hos hout
 have hnb:n≠b:=λe=>hb (e▸R.dom n (by simp[hn]))
 have hcase:∀ m y,aR (aR h n .gone) b x' m=some y->y.live->(m=b/\y=x')∨(m≠b/\m≠n/\h m=some y):=by
  intro m y hm hy
  by_cases e:m=b
  ·subst e;rw[aM]at hm;exact .inl ⟨rfl,(gV hm).symm⟩
  ·rw[aI _ _ _ _ e]at hm
   by_cases e2:m=n
   ·subst e2;rw[aM]at hm;obtain rfl:=gV hm;exact hy.elim
   ·rw[aI _ _ _ _ e2]at hm;exact .inr ⟨e,e2,hm⟩
 refine⟨?_,?_,?_,?_,?_,R.laid.ev ev⟩
 ·obtain⟨N,hN⟩:=R.fin
  exact ⟨max N (b + 1), fun m hm => by rintro (e | e); · omega
                                       · exact hN m aA e⟩
 ·intro m hm
  by_cases e:m=b
  ·exact .inl e
  ·rw[aI _ _ _ _ e]at hm
   by_cases e2:m=n
   ·subst e2;exact .inr (R.dom m (by simp[hn]))
   ·rw[aI _ _ _ _ e2]at hm;exact .inr (R.dom m hm)
 ·intro m y c hm hy hf
  rcases hcase m y hm hy with⟨rfl,rfl⟩|⟨e,e2,hm'⟩
  ·exact hS' c (by simpa[Env.mv]using hf)
  ·have:=R.lt m y c hm' hy (by simpa[Env.mv,e]using hf);omega
 ·intro m y m' y' c hm hy hm' hy' hf hf'
  rcases hcase m y hm hy with⟨rfl,rfl⟩|⟨e,e2,h1⟩ <;> rcases hcase m' y' hm' hy' with⟨rfl,rfl⟩|⟨e',e2',h1'⟩
  ·rfl
  ·have hf:S c:=by simpa[Env.mv]using hf
   have hf':E.fp m' c:=by simpa[Env.mv,e']using hf'
   rcases hS c hf with h2|h2
   ·exact absurd (R.apart n x m' y' c hn hx h1' hy' h2 hf').symm e2'
   ·have:=R.lt m' y' c h1' hy' hf';omega
  ·have hf':S c:=by simpa[Env.mv]using hf'
   have hf:E.fp m c:=by simpa[Env.mv,e]using hf
   rcases hS c hf' with h2|h2
   ·exact absurd (R.apart n x m y c hn hx h1 hy h2 hf).symm e2
   ·have:=R.lt m y c h1 hy hf;omega
  ·exact R.apart m y m' y' c h1 hy h1' hy' (by simpa[Env.mv,e]using hf) (by simpa[Env.mv,e']using hf')
 ·intro m y hm
  by_cases e:m=b
  ·subst e;rw[aM]at hm;obtain rfl:=gV hm;exact hO
  ·rw[aI _ _ _ _ e]at hm
   by_cases e2:m=n
   ·subst e2;rw[aM]at hm;obtain rfl:=gV hm;trivial
   ·rw[aI _ _ _ _ e2]at hm
    refine(R.obj m y hm).ev ev (by simp[Env.mv,e]) (by funext c;simp[Env.mv,e]) λc hy hc=>hheap c (R.lt m y c hm hy hc) λhf=>e2 (R.apart m y n x c hm hy hn hx hc hf)
theorem aPA {α:Type} {a b:List (List α)} {i j:Nat} {x:α} (h:kA (a++b) i j=some x):(i<a.length/\kA a i j=some x)∨(a.length<=i/\kA b (i-a.length) j=some x):=by
 unfold kA at *
 by_cases hi:i<a.length
 ·rw[uU hi]at h;exact .inl ⟨hi,h⟩
 ·rw[wZ aA]at h;exact .inr ⟨by omega,h⟩
theorem aTO {α:Type} {es:List (List α)} {i len k j:Nat} {x:α} (h:kA ((es.drop i).take len) k j=some x):k<len/\kA es (i+k) j=some x:=by
 obtain⟨e,h1,h2⟩:=lG h
 have hlt:k<len:=by have:=(mS.1 h1).1;simp at this;omega
 rw[aOS hlt,aYP]at h1
 exact⟨hlt,by simp[kA,h1,h2]⟩
theorem aZJ {ys:List (List aH)} {i j:Nat} {x:Cell} (h:kA (ys.map (List.map Cell.v)) i j=some x):∃ y,kA ys i j=some y/\x=.v y:=by
 rw[qA]at h
 obtain⟨y,hy,rfl⟩:=u5.1 h
 exact⟨y,hy,rfl⟩
theorem a7C {E:Env} {h:aE} {w:World} {ys:List (List aH)} {sz:Nat} (hs:∀ e∈ys,e.length=sz) {vs:List Value} (hL:fD E h w ys.flatten vs) (h1:∀ c∈vs,c.oneCell'=true) {i j:Nat} {y:aH} (hy:kA ys i j=some y) :
  ∃ c,vs[i*sz+j]?=some c/\gC E h w y c/\c.oneCell'=true:=by
 have hlt:=zM hs hy
 have hlen:vs.length=ys.length*sz:=by rw[←hL.length,length_flatten ys hs]
 have hv:vs[i*sz+j]?=some (vs[i*sz+j]'aA):=cM aA
 exact⟨_,hv,hL.get _ _ _ (zL ys hs i j y hy) hv,h1 _ (eI _)⟩
theorem aCB {E E':Env} {h h':aE} {w w':World} (ev:Ev E h w E' h' w') {b₀ sz i len:Nat} {es:List (List Cell)} {S:Nat->Prop} (hs:∀ e∈es,e.length=sz) {cv:Nat->Nat->Value} {T:Nat->Nat->Nat->Prop}
  (hT:∀ i j c,T i j c->S c/\c≠b₀) (hD:∀ i j i' j' c,T i j c->T i' j' c->i=i'/\j=j') (hrr:∀ i j x,kA es i j=some x->aAK E h w x (cv i j) (T i j)) (hle:i+len<=es.length)
  {ys:List (List aH)} (hsn:∀ e∈ys,e.length=sz) {news:List Value} (hLn:fD E h w ys.flatten news) (hn1:∀ c∈news,c.oneCell'=true)
  {blk o:Nat} {S':Nat->Prop} {cs:Array Value} {ct:TypeId} (hb:S' blk) (hS':∀ c,S c->c≠b₀->S' c/\c≠blk) (hkeep:∀ c,S c->c≠b₀->w'.heap[c]?=w.heap[c]?) (hh:w'.heap[blk]?=some (.cells cs ct (0,0))) (hm:o+(len+ys.length)*sz<=cs.size)
  (hold:∀ k j x,k<len->kA es (i+k) j=some x->cs[o+k*sz+j]?=some (cv (i+k) j)) (hnew:∀ k,k<ys.length*sz->cs[o+len*sz+k]?=news[k]?) :
  aO2 E' h' w' blk o sz ((es.drop i).take len++ys.map (List.map .v)) S':=by
 have hlen:((es.drop i).take len).length=len:=by simp;omega
 have hnl:news.length=ys.length*sz:=by rw[←hLn.length,length_flatten ys hsn]
 refine⟨hb,?_,cs,ct,λk j=>if k<len then cv (i+k) j else(news[(k-len)*sz+j]?).getD undef,λk j c=>k<len/\T (i+k) j c,hh,?_,?_,?_,?_,?_⟩
 ·intro e he
  rcases pJ.1 he with h1|h1
  ·exact hs e (bC7 (bAZ h1))
  ·obtain⟨e',he',rfl⟩:=qU.1 h1
   simpa using hsn e' he'
 ·simpa[hlen]using hm
 ·intro k j c ⟨_,hc⟩
  obtain⟨h1,h2⟩:=hT _ _ c hc
  exact hS' c h1 h2
 ·intro k j k' j' c ⟨_,hc⟩ ⟨_,hc'⟩
  have:=hD _ _ _ _ c hc hc'
  exact⟨by omega,this.2⟩
 ·intro k j x hx
  rcases aPA hx with⟨h1,h2⟩|⟨h1,h2⟩
  ·obtain⟨h3,h4⟩:=aTO h2
   simp only[if_pos h3];exact hold k j x h3 h4
  ·rw[hlen]at h1 h2
   obtain⟨y,hy,rfl⟩:=aZJ h2
   simp only[if_neg (show ¬k<len by omega)]
   obtain⟨c,hc,_,_⟩:=a7C hsn hLn hn1 hy
   have hlt:=zM hsn hy
   have:=hnew ((k-len)*sz+j) hlt
   rw[hc]at this ⊢
   rw[bA1,←this]
   congr 1
   have:k*sz=len*sz+(k-len)*sz:=by rw[←wH];congr 1;omega
   omega
 ·intro k j x hx
  rcases aPA hx with⟨h1,h2⟩|⟨h1,h2⟩
  ·obtain⟨h3,h4⟩:=aTO h2
   simp only[if_pos h3]
   refine((hrr _ _ _ h4).ev ev λc hc=>?_).mono λc hc=>⟨h3,hc⟩
   obtain⟨h5,h6⟩:=hT _ _ c hc
   exact hkeep c h5 h6
  ·rw[hlen]at h1 h2
   obtain⟨y,hy,rfl⟩:=aZJ h2
   simp only[if_neg (show ¬k<len by omega)]
   obtain⟨c,hc,hr,hone⟩:=a7C hsn hLn hn1 hy
   rw[hc]
   exact .v _ _ _ hone (hr.ev ev)
section
variable {P:Program} {o:Oper} {ρ:Operand->aH} {h:aE} {K:aH->aE->Prop}
theorem aSM (x y:Operand) (ats:Array TypeId) (t et:TypeId) (r re:nP) (n sz i len:Nat) (es:List (List Cell)) (ys:List (List aH)) (ho:o.op=.call { callee:=.builtin .append,args:=#[x,y],argTypes:=ats })
  (a0:ats[0]?=some t) (ht:jH P t=some r) (hd:r.d=.slice et) (he:jH P et=some re) (hz:re.zero.length=re.sz) (hz0:0<re.sz) (h1:aEI P ats[1]?=true)
  (hx:ρ x=.os n sz i len) (c6:re.sz=sz) (hn:h n=some (.row sz es)) (hle:i+len<=es.length) (hy:zN h sz (ρ y)=some ys) (hb:(len+ys.length)*re.bytes<=140737488355328) (hmax:len+ys.length<=9223372036854775807)
  (hk:∀ b,h b=none->K (.os b sz 0 (len+ys.length)) (aR (aR h n .gone) b (.row sz ((es.drop i).take len++ys.map (List.map .v))))):rS P o ρ h K:=by
 have hml:maxLen=9223372036854775807:=rfl
 subst c6
 intro E w ρc R hρ
 obtain⟨news,hsn,hlen,hfn,hLn,hn1,_⟩:=aNW (P:=P) R hy (hρ y)
 have hnl:news.length=ys.length*re.sz:=by rw[←hLn.length,length_flatten ys hsn]
 obtain⟨b,hbu⟩:=R.fresh
 have hK:=hk b (R.none hbu)
 obtain⟨u,hu,hud,hrun⟩:=cF (w:=w) ht
 obtain rfl:=j0 (hud.trans hd)
 have hsize:∀ w,(sizeOf et).run P w=.ok re.sz w:=λw=>jI he
 obtain⟨t',ht',hu1⟩:=aLU (w:=w) h1
 obtain⟨z,hzr,hzz⟩:=tE (w:=w) he aTD
 have hzr':∀ w,(zeroValue et).run P w=.ok z w:=by
  intro w'
  obtain⟨z',hzr',hzz'⟩:=tE (w:=w') he aTD
  have:z'=z:=by
   obtain⟨i,u,hi,_⟩:=vV he
   simp only[zeroValue,typeInfo,Sem.run_bind,run_program,Result.andThen_ok,hi,Sem.run_pure]at hzr hzr'
   cases hiz:i.zero with
   |none=>simp[hiz]at hzr
   |some z0=>simp[hiz]at hzr hzr';rw[←hzr,←hzr']
  rw[←this];exact hzr'
 have hzs:z.cells.size=re.sz:=by have:=congrArg List.length hzz;simp[hz]at this;exact this
 have hr:=hρ x
 rw[hx]at hr
 cases hv:ρc x <;> rw[hv]at hr <;> try(cases hr;done)
 cases hr with
 |os0 _ _ hd0 hl0 =>
  have hes:es=[]:=by
   rcases R.obj n _ hn with⟨b0,o0,h0,_⟩|⟨h0,_⟩
   ·rw[hl0]at h0;simp at h0
   ·exact h0
  subst hes
  by_cases hys:ys=[]
  ·subst hys
   have hnn:news=[]:=aNI.1 (by simpa using hnl)
   have hrunA:(execOp ρc o).run P w=.ok (.value (.slice none 0 0)) w:=by
    rw[tG x y ats ho,hv]
    have iC:=hfn w rfl
    have hl0:=hlen w
    simp only[al3]at iC hl0
    rcases hu1 with⟨e,hu1⟩|hu1 <;> simp[Builtin.append_,a0,ht',hrun,hsize,hu1,hl0,iC,storeCells]
   have evm:=Ev.mv R hn trivial hbu none (λ_=>False) (.row re.sz []) (λ_ hf=>hf.elim) (iH _) (λ_ _ _=>rfl) (λ_ _=>rfl) rfl rfl
   have Rm:=Rel.mv R hn trivial hbu none (λ_=>False) (.row re.sz []) (λ_ hf=>hf.elim) (λ_ hf=>hf.elim) (iH _) (λ_ _ _=>rfl) (λ_ _=>rfl) rfl rfl (.inr ⟨rfl,by simp[Env.mv]⟩)
   refine .lH hrunA ⟨_,_,E.mv b none (λ_=>False),hK,?_,?_,?_⟩
   ·exact evm
   ·exact Rm
   ·exact .os0 b re.sz (.inl rfl) (by simp[Env.mv])
  ·have hpos:0<ys.length:=List.length_pos_iff.2 hys
   obtain⟨ncap,d,g1,g2,grun⟩:=aEJ (w:=w) (t1:=ats[1]?) ht hd he h1 ats a0 rfl o.type (base:=none) (sLen:=0) (sCap:=0) (n:=ys.length) (v:=ρc y) (olds:=[]) (news:=news) (z:=z) hzr' hlen
    (λw' _=>by simp[Builtin.firstCells]) hfn aA (by simpa using hb) aA
   have hrunA:(execOp ρc o).run P w=.ok (.value (.slice (some ⟨w.heap.size,0,none⟩) (0+ys.length) ncap)) (yA w (.cells (([]++news).toArray++Builtin.zeroCells z.cells (ncap-(0+ys.length))) et) d):=by
    rw[tG x y ats ho,hv,grun];rfl
   have hcs:(([]++news).toArray++Builtin.zeroCells z.cells (ncap-(0+ys.length))).size=ncap*re.sz:=by
    rw[bRS,aHI,hzs,bRT,mV,hnl,al3,al4,←wH];congr 1;omega
   have evm:=Ev.mv (w':=yA w (.cells (([]++news).toArray++Builtin.zeroCells z.cells (ncap-(0+ys.length))) et) d) R hn trivial hbu (some (w.heap.size,0)) (λc=>c=w.heap.size) (.row re.sz ((([]:List (List Cell)).drop 0).take 0++ys.map (List.map .v))) (λc hc=>.inr aA) a64
    (λc hc _=>p9 _ _ _ c hc) (λc hc=>by simp only[World.shape?,p9 _ _ _ c hc]) rfl rfl
   have Rm:=Rel.mv (w':=yA w (.cells (([]++news).toArray++Builtin.zeroCells z.cells (ncap-(0+ys.length))) et) d) R hn trivial hbu (some (w.heap.size,0)) (λc=>c=w.heap.size) (.row re.sz ((([]:List (List Cell)).drop 0).take 0++ys.map (List.map .v))) (λc hc=>.inr aA) (λc hc=>by rw[qJ];omega) a64
    (λc hc _=>p9 _ _ _ c hc) (λc hc=>by simp only[World.shape?,p9 _ _ _ c hc]) rfl rfl
    (.inl ⟨w.heap.size,0,by simp[Env.mv],by
     have hfp:(E.mv b (some (w.heap.size,0)) (λc=>c=w.heap.size)).fp b=(λc=>c=w.heap.size):=by funext c;simp[Env.mv]
     rw[hfp]
     exact aCB evm (b₀:=w.heap.size) (i:=0) (len:=0) (es:=[]) (S:=λ_=>False) (cv:=λ_ _=>undef) (T:=λ_ _ _=>False) cT (λ_ _ _ hf=>hf.elim) (λ_ _ _ _ _ hf=>hf.elim) (λi j x hx=>by simp[kA]at hx) cT hsn hLn hn1 rfl (λ_ hf=>hf.elim) (λ_ hf=>hf.elim) (zK _ _ _)
      (by rw[hcs];simp only[al4];exact aYQ _ aA) (λk j x hk=>by omega) (λk hk=>by
       simp only[al4,bC0]
       rw[bC9 s4];simp)⟩)
   refine .lH hrunA ⟨_,_,_,hK,evm,Rm,?_⟩
   have:=gC.os (E:=E.mv b (some (w.heap.size,0)) (λc=>c=w.heap.size)) (h:=aR (aR h n .gone) b (.row re.sz ((([]:List (List Cell)).drop 0).take 0++ys.map (List.map .v)))) (w:=yA w (.cells (([]++news).toArray++Builtin.zeroCells z.cells (ncap-(0+ys.length))) et) d)
    b re.sz 0 (0+ys.length) w.heap.size 0 ncap et (ncap*re.sz) (.inl rfl) (by simp[Env.mv]) aA g2 (by simp only[World.shape?,zK,hcs]) cT
   simpa using this
 |os _ _ _ _ b₀ o₀ cap' tt mm hd0 hl0 hlc hcm hsh hmm =>
  rename_i cap
  obtain⟨b1,o1,hl1,hbS,hs,cur,ct,cv,T,hh,hmr,hT,hD,hc,hrr⟩:=aEG R hn (.inr ⟨_,hl0⟩)
  rw[hl0]at hl1
  obtain⟨rfl,rfl⟩:=aU4 (gV hl1)
  have hcsz:cur.size=mm:=by rw[pS hh]at hsh;exact(aU4 (gV hsh)).2
  have hb0:b₀<w.heap.size:=aO3 hsh
  have hfplt:∀ c,E.fp n c->c<w.heap.size:=λc hc=>R.lt n _ c hn trivial hc
  have hrow:∀ k j,k<len->j<re.sz->∃ y,kA es (i+k) j=some y:=λk j hk hj=>by
   have hlt:i+k<es.length:=by omega
   have hel:=hs es[i+k] (eI hlt)
   exact⟨es[i+k][j],by simp[kA,cM hlt,cM (show j<es[i+k].length by omega)]⟩
  by_cases hroom:len+ys.length<=cap
  ·
   have hbase:(⟨b₀,o₀+i*re.sz,none⟩:Addr).add (len*re.sz)=⟨b₀,o₀+i*re.sz+len*re.sz,none⟩:=oB _ _ _
   have hspace:o₀+i*re.sz+len*re.sz+news.length<=cur.size:=by
    have:o₀+(i+(len+ys.length))*re.sz<=o₀+(i+cap)*re.sz:=by
     have:=aYQ re.sz (show i+(len+ys.length)<=i+cap by omega)
     omega
    rw[hnl];simp only[wH]at *;omega
   have hst:=run_storeCells_at P b₀ (o₀+i*re.sz+len*re.sz) ct news 0 cur w hh (by simpa using hspace) hn1
   simp only[aNG]at hst
   generalize hcs':(cur.toList.take (o₀+i*re.sz+len*re.sz)++news++cur.toList.drop (o₀+i*re.sz+len*re.sz+news.length)).toArray=cs' at hst
   have hcs'sz:cs'.size=cur.size:=by rw[←hcs'];simp;omega
   have hrunA:(execOp ρc o).run P w=.ok (.value (.slice (some ⟨b₀,o₀+i*re.sz,none⟩) (len+ys.length) cap)) (w.setRow b₀ cs'):=by
    rw[tG x y ats ho,hv]
    have iC:=hfn w rfl
    rcases hu1 with⟨e,hu1⟩|hu1 <;> simp[Builtin.append_,a0,ht',hrun,hsize,hu1,hlen,iC,hroom,hbase,hst]
   have hheap':(w.setRow b₀ cs').heap[b₀]?=some (.cells cs' ct (0,0)):=setRow_heap w b₀ cur cs' ct (0,0) hh
   have hoth:∀ c,c≠b₀->(w.setRow b₀ cs').heap[c]?=w.heap[c]?:=λc hc=>setRow_other w b₀ c cs' hc
   have hshape:∀ c,c<w.heap.size->(w.setRow b₀ cs').shape? c=w.shape? c:=λc _=>by
    by_cases e:c=b₀
    ·subst e;rw[pS hheap',pS hh,hcs'sz]
    ·simp only[World.shape?,hoth c e]
   have hkp:∀ c,c<w.heap.size->¬E.fp n c->(w.setRow b₀ cs').heap[c]?=w.heap[c]?:=λc _ hf=>hoth c λe=>hf (e▸hbS)
   have evm:=Ev.mv (w':=w.setRow b₀ cs') R hn trivial hbu (some (b₀,o₀+i*re.sz)) (E.fp n) (.row re.sz ((es.drop i).take len++ys.map (List.map .v))) (λc hc=>.inl hc) cT hkp hshape rfl rfl
   have hfp:(E.mv b (some (b₀,o₀+i*re.sz)) (E.fp n)).fp b=E.fp n:=by funext c;simp[Env.mv]
   have Rm:=Rel.mv (w':=w.setRow b₀ cs') R hn trivial hbu (some (b₀,o₀+i*re.sz)) (E.fp n) (.row re.sz ((es.drop i).take len++ys.map (List.map .v))) (λc hc=>.inl hc) (λc hc=>by rw[setRow_size];exact hfplt c hc) cT hkp hshape rfl rfl
    (.inl ⟨b₀,o₀+i*re.sz,by simp[Env.mv],by
     rw[hfp]
     refine aCB evm (b₀:=b₀) hs hT hD hrr hle hsn hLn hn1 hbS (λc hc hne=>⟨hc,hne⟩) (λc _ hne=>hoth c hne) hheap' ?_ ?_ ?_
     ·rw[hcs'sz];rw[hnl]at hspace;simp only[wH]at *;omega
     ·intro k j x hk hx
      have hj:=aNU hs hx
      have hin:=aHF hk hj
      rw[←hcs']
      simp only[a2K]
      rw[aD6,uU s4,aOS aA,aSD]
      rw[←hc _ _ _ hx];congr 1;simp only[wH];omega
     ·intro k hk
      rw[←hcs']
      simp only[a2K]
      have hl1:(cur.toList.take (o₀+i*re.sz+len*re.sz)).length=o₀+i*re.sz+len*re.sz:=by simp;omega
      rw[aD6,wZ (by rw[hl1];omega),hl1,uU aA]
      congr 1;omega⟩)
   refine .lH hrunA ⟨_,_,_,hK,evm,Rm,?_⟩
   have:=gC.os (E:=E.mv b (some (b₀,o₀+i*re.sz)) (E.fp n)) (h:=aR (aR h n .gone) b (.row re.sz ((es.drop i).take len++ys.map (List.map .v)))) (w:=w.setRow b₀ cs')
    b re.sz 0 (len+ys.length) b₀ (o₀+i*re.sz) cap ct cur.size (.inl rfl) (by simp[Env.mv]) hroom hcm (by rw[pS hheap',hcs'sz]) (by rw[hcsz];simp only[wH]at *;omega)
   simpa using this
  ·
   have holds:∀ k,k<len*re.sz->∃ y,kA es (i+k / re.sz) (k%re.sz)=some y:=λk hk=>by
    have h1:k / re.sz<len:=by rw[Nat.div_lt_iff_lt_mul hz0];exact hk
    exact hrow _ _ h1 (Nat.mod_lt _ hz0)
   generalize hod:(List.range (len*re.sz)).map (λk=>cv (i+k / re.sz) (k%re.sz))=olds
   have hol:olds.length=len*re.sz:=by rw[←hod];simp
   have hog:∀ k,k<len*re.sz->olds[k]?=some (cv (i+k / re.sz) (k%re.sz)):=λk hk=>by rw[←hod,nE,aIY hk];rfl
   obtain⟨ncap,d,g1,g2,grun⟩:=aEJ (w:=w) (t1:=ats[1]?) ht hd he h1 ats a0 rfl o.type (base:=some ⟨b₀,o₀+i*re.sz,none⟩) (sLen:=len) (sCap:=cap) (n:=ys.length) (v:=ρc y) (olds:=olds) (news:=news) (z:=z) hzr' hlen
    (λw' hw'=>run_firstCells_some w' _ _ _ _ _ olds hol λk v hv=>by
     have hk:k<len*re.sz:=by have:=(mS.1 hv).1;omega
     rw[hog k hk]at hv
     obtain rfl:=gV hv
     obtain⟨y,hy⟩:=holds k hk
     rw[aHH hw',oB]
     simp only[World.cell?,hh,bRR,aU3,if_false]
     rw[←hc _ _ _ hy];congr 1
     have:=bJ2 k re.sz
     rw[aU5]at this
     simp only[wH];omega) hfn aA hb aA
   generalize hcs':(olds++news).toArray++Builtin.zeroCells z.cells (ncap-(len+ys.length))=cs' at grun
   have hcs'sz:cs'.size=ncap*re.sz:=by
    rw[←hcs',bRS,aHI,hzs,bRT,mV,hnl,hol,←wH,←wH];congr 1;omega
   have hrunA:(execOp ρc o).run P w=.ok (.value (.slice (some ⟨w.heap.size,0,none⟩) (len+ys.length) ncap)) (yA w (.cells cs' et) d):=by
    rw[tG x y ats ho,hv,grun];rfl
   have evm:=Ev.mv (w':=yA w (.cells cs' et) d) R hn trivial hbu (some (w.heap.size,0)) (λc=>c=w.heap.size∨(E.fp n c/\c≠b₀)) (.row re.sz ((es.drop i).take len++ys.map (List.map .v)))
    (λc hc=>by rcases hc with h|h;exact .inr aA;exact .inl h.1) a64 (λc hc _=>p9 _ _ _ c hc) (λc hc=>by simp only[World.shape?,p9 _ _ _ c hc]) rfl rfl
   have hfp:(E.mv b (some (w.heap.size,0)) (λc=>c=w.heap.size∨(E.fp n c/\c≠b₀))).fp b=(λc=>c=w.heap.size∨(E.fp n c/\c≠b₀)):=by funext c;simp[Env.mv]
   have Rm:=Rel.mv (w':=yA w (.cells cs' et) d) R hn trivial hbu (some (w.heap.size,0)) (λc=>c=w.heap.size∨(E.fp n c/\c≠b₀)) (.row re.sz ((es.drop i).take len++ys.map (List.map .v)))
    (λc hc=>by rcases hc with h|h;exact .inr aA;exact .inl h.1) (λc hc=>by rw[qJ];rcases hc with h|h;omega;have:=hfplt c h.1;omega) a64 (λc hc _=>p9 _ _ _ c hc) (λc hc=>by simp only[World.shape?,p9 _ _ _ c hc]) rfl rfl
    (.inl ⟨w.heap.size,0,by simp[Env.mv],by
     rw[hfp]
     refine aCB evm (b₀:=b₀) hs hT hD hrr hle hsn hLn hn1 (.inl rfl) (λc hc hne=>⟨.inr ⟨hc,hne⟩,by have:=hfplt c hc;omega⟩) (λc hc _=>p9 _ _ _ c (hfplt c hc)) (zK _ _ _) ?_ ?_ ?_
     ·rw[hcs'sz,al4];exact aYQ _ g1
     ·intro k j x hk hx
      have hj:=aNU hs hx
      have hin:=aHF hk hj
      rw[←hcs',bC9 s4]
      simp only[a2K,al4]
      rw[uU aA,hog _ hin]
      congr 2
      ·rw[aU5,Nat.mul_add_div hz0,bJ1 hj];rfl
      ·rw[aU5,Nat.mul_add_mod,Nat.mod_eq_of_lt hj]
     ·intro k hk
      rw[←hcs',bC9 s4]
      simp only[a2K,al4]
      rw[wZ aA,hol]
      congr 1;omega⟩)
   refine .lH hrunA ⟨_,_,_,hK,evm,Rm,?_⟩
   have:=gC.os (E:=E.mv b (some (w.heap.size,0)) (λc=>c=w.heap.size∨(E.fp n c/\c≠b₀))) (h:=aR (aR h n .gone) b (.row re.sz ((es.drop i).take len++ys.map (List.map .v)))) (w:=yA w (.cells cs' et) d)
    b re.sz 0 (len+ys.length) w.heap.size 0 ncap et (ncap*re.sz) (.inl rfl) (by simp[Env.mv]) g1 g2 (by simp only[World.shape?,zK,hcs'sz]) cT
   simpa using this
end
end Go.Hl

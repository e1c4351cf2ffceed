/-
  Contracts of functions and laws of the layer over the walk.
-/
import Derived.WalkKit
import Derived.IntWalk
namespace Go.Hl
set_option linter.unusedVariables false
set_option linter.unusedSimpArgs false
set_option linter.defProp false
def al0:=@List.nil_append
def rL:=@List.length_append
def al2:=@List.length_cons
def al3:=@List.length_nil
def al4:=@Nat.zero_add
def al5:=@List.mem_cons_self
def al6:=@List.mem_cons_of_mem
def al7:=@List.all_cons
def al8:=@Nat.le_of_eq
def al9:=@List.length_replicate
def dG:=@List.getElem_mem
def lU:=@List.map_cons
def tP:=@List.map_nil
def wP:=@List.append_nil
def rS:=@List.mem_of_getElem?
def xV:=@List.mem_append_right
def aCH:=@List.mem_append_left
def fL:=@Nat.le_refl
def aLG:=@List.length_drop
def mU:=@List.getElem?_eq_some_iff
def aWE:=@Nat.le_trans
def bEZ:=@Nat.lt_of_lt_of_le
def aWF:=@Array.getElem?_eq_some_iff
def rM:=@List.getElem?_map
def dY:=@Option.some.inj
def a32:=@List.getElem?_cons_zero
def a33:=@Option.bind_some
def bKF:=@List.flatten_cons
def bE0:=@Nat.zero_mul
def aGO:=@List.getElem?_append_left
def aEC:=@List.getElem?_append_right
def aAT:=@Nat.add_mul
def vZ:=@List.mem_map
def xD:=@Option.map_eq_some_iff
def k5:=@List.length_map
def bKG:=@List.getElem?_of_mem
def b6:=@List.getElem?_eq_getElem
def zV:=@List.all_eq_true
def aWG:=@Bool.false_eq_true
def a34:=@Nat.add_zero
def bCT:=@List.getElem?_range
def aOA:=@Option.map_some
def bCU:=@Option.some.injEq
def aWH:=@List.getElem?_take_of_lt
def aPR:=@List.getElem?_drop
def nI:=@Prod.mk.inj
def a35:=@List.getElem?_set_self
def aZL:=@List.getElem?_set_ne
def bE1:=@Nat.mul_le_mul_right
def bE2:=@Nat.succ_mul
def aWI:=@Nat.mul_comm
def bKH:=@Nat.div_eq_of_lt
def iR:=@Ne.symm
def a36:=@List.mem_or_eq_of_mem_set
def a38:=@Array.getElem?_setIfInBounds_ne
def aOB:=@Array.getElem?_toList
def oN:=@Bool.and_eq_true
def p7:=@List.mem_cons
def bE3:=@Nat.add_assoc
def bE4:=@List.drop_take
def bE5:=@Option.map_none
def bKI:=@Int.toNat_zero
def bKJ:=@List.take_zero
def aLH:=@Nat.sub_self
def aI0:=@List.drop_eq_nil_of_le
def aWJ:=@List.mem_of_mem_take
def bE6:=@List.mem_of_mem_drop
def bKK:=@List.replicate_succ
def aPS:=@Array.getElem?_eq_getElem
def bCV:=@List.eq_of_mem_replicate
def bKL:=@List.mem_flatten
def bE7:=@List.foldl_cons
def aTN:=@Nat.eq_zero_or_pos
def yU:=@List.length_set
def bKM:=@Nat.div_add_mod
def aZM:=@List.length_eq_zero_iff
def bE8:=@Option.isSome_none
def bR0:=@List.length_pos_iff
def pH:=@List.mem_append
def bKN:=@Array.size_append
def bR1:=@List.size_toArray
def iZ:=@Nat.zero_le
def a39:=@Option.getD_some
def bE9:=@Array.getElem?_append_left
def a4A:=@List.getElem?_toArray
def qT:=@List.append_assoc
def bKO:=@List.cons.inj
def bCW:=@Bool.not_eq_true'
def bKP:=@Bool.false_and
def aPT:=@Bool.false_or
def bCX:=@Bool.not_true
def bFA:=@List.any_eq_true
def bKQ:=@List.contains_iff_mem
def bCY:=@List.mem_range
def bFB:=@List.map_congr_left
def a4B:=@List.mem_filter
def bFC:=@Array.all_eq_true_iff_forall_mem
def bKR:=@Classical.byContradiction
def aED:=@List.cons_append
def bR2:=@List.toList_toArray
def aUB:=@List.getElem?_cons_succ
def wQ:=@Int.toNat_natCast
def aPU:=@List.drop_zero
def a8K:=@List.take_succ_cons
def nX:=@List.length_take
def gF:=@List.take_of_length_le
def aPV:=@List.take_append_drop
def aM3:=@List.drop_drop
def a8L:=@List.take_append_of_le_length
def aPW:=@List.eq_nil_of_length_eq_zero
def tA:=@List.map_append
def aDX:=@List.nodup_append
def aZN:=@List.nodup_cons
def kP:=@List.take_succ_eq_append_getElem
def aZO:=@List.map_map
def aZP:=@List.map_set
def bFD:=@List.count_append
def aZQ:=@List.sum_cons
def eL:=@List.take_length
def rG:=@List.mem_singleton
def bOQ:=@List.findIdx?_eq_some_iff_getElem
def cP:=@Nat.lt_or_ge
def cN:=@Nat.lt_irrefl
def a8M:=@Int.tdiv_eq_ediv_of_nonneg
def aGP:=@Int.tmod_eq_emod_of_nonneg
def aZR:=@List.drop_eq_getElem_cons
def aZS:=@UInt8.toNat.inj
def aZT:=@Nat.min_eq_left
def yV:=@List.length_singleton
def fP:=@Int.lt_irrefl
def bFE:=@List.takeWhile_cons
def aEE:=@Nat.lt_succ_iff_lt_or_eq
def cM:=@Nat.zero_lt_one
def jC:=@List.getD_eq_getElem?_getD
def aM4:=@List.mem_iff_getElem
def aUC:=@List.mem_replicate
def aUD:=@Int.pow_zero
def aZU:=@Int.pow_succ
def aUE:=@Int.mul_emod
def a8N:=@Int.emod_eq_of_lt
def mF:=@Nat.le_succ
def aUF:=@List.prefix_refl
def bFF:=@List.prefix_append
def aZV:=@Nat.not_lt_zero
def a8O:=@Bool.decide_and
def aZW:=@List.take_left'
def a8P:=@Nat.mul_le_mul_left
def bFG:=@Nat.add_sub_cancel
theorem aZX {p:Prop} (h:p:=by first|assumption|(simp only[dC,eq_self,↓reduceIte,bC,bD,aCI,aCJ,aCK,aCL,aCM,aCN,aCO,aCP,aCQ,aCR,aCS,aCT,tW,tX,tY,tZ,uA,uB,uC,uD,uE,uF,uG,uH,uI,uJ,uK,uL,mI,mJ,mK,mL,aEF,aEG,aEH,aEI,aEJ,aEK,aEL,aEM,pI,pJ,pK,pL,aI1,aI2,aI3,aI4,aI5,aI6,aI7,aI8,pM,pN,uM,uN,uO,uP,aPX,aPY,aPZ,aP0,aP1,aP2,aP3,aP4,uQ,uR,uS,uT,aAU,aAV,aAW,aAX,aZY,aZZ,aZ0,aZ1,aZ2,aZ3,aZ4,aZ5,aAY,aAZ,aA0,aA1,aA2,aA3];assumption)):p:=h
theorem aOC {p:Prop} (h:p:=by simp only[dC,eq_self,↓reduceIte,bC,bD,aCI,aCJ,aCK,aCL,aCM,aCN,aCO,aCP,aCQ,aCR,aCS,aCT,tW,tX,tY,tZ,uA,uB,uC,uD,uE,uF,uG,uH,uI,uJ,uK,uL,mI,mJ,mK,mL,aEF,aEG,aEH,aEI,aEJ,aEK,aEL,aEM,pI,pJ,pK,pL,aI1,aI2,aI3,aI4,aI5,aI6,aI7,aI8,pM,pN,uM,uN,uO,uP,aPX,aPY,aPZ,aP0,aP1,aP2,aP3,aP4,uQ,uR,uS,uT,aAU,aAV,aAW,aAX,aZY,aZZ,aZ0,aZ1,aZ2,aZ3,aZ4,aZ5,aAY,aAZ,aA0,aA1,aA2,aA3]):p:=h
theorem bKS {p:Prop} (h:p:=by rw[aHA];exact iM.sub (xs:=[(.str x.aJ[ka].fT),(I x.aJ[ka].bV),(jV 5 esi.length wR)]) (ys:=[(.str x.aJ[ka].fT),(I x.aJ[ka].bV),(gov 5 esi wR).val]) (bQ.cons (Sub.refl _) (bQ.cons (Sub.refl _) (bQ.cons wL bQ.nil))) _):p:=h
theorem aOD {p:Prop} (h:p:=by simp only[dC,eq_self,↓reduceIte,bC,bD,mI,mJ,mK,mL,pI,pJ,pK,pL,pM,pN,uM,uN,uO,uP,uQ,uR,uS,uT,aAU,aAV,aAW,aAX,aAY,aAZ,aA0,aA1,aA2,aA3]):p:=h
theorem bKT {p:Prop} (h:p:=by first|assumption|(simp only[dC,eq_self,↓reduceIte,bC,bD,aCI,aCJ,aCK,aCL,aCM,aCN,aCO,aCP,aCQ,aCR,aCS,aCT,tW,tX,tY,tZ,uA,uB,uC,uD,uE,uF,uG,uH,uI,uJ,uK,uL];assumption)):p:=h
theorem kT {p:Prop} (h:p:=by first|assumption|(rw[aD _ _ _ _ gB];assumption)|(rw[aD _ _ _ _ gB,aD _ _ _ _ gB];assumption)|(rw[aD _ _ _ _ gB,aD _ _ _ _ gB,aD _ _ _ _ gB];assumption)):p:=h
theorem lE {p:Prop} (h:p:=by intro q_;simp only[dC,aN,aL,bJ,aY,aP5,aHA,aUG,aUH,bO,bY,OV.bE,al0,rL,al2,al3,al4];grind):p:=h
theorem aZ6 {p:Prop} (h:p:=by simp only[dC,eq_self,↓reduceIte,bC,bD,aCI,aCJ,aCK,aCL,aCM,aCN,aCO,aCP,aCQ,aCR,aCS,aCT,tW,tX,tY,tZ,uA,uB,uC,uD,uE,uF,uG,uH,uI,uJ,uK,uL]):p:=h
theorem bXL {p:Prop} (h:p:=by simp only[fN,↓reduceIte,eq_self,if_true,pT,kR,qU,qV,pU,aI9,aJA,aJB,kS,aJC,rY,mV,qW,aJD,rZ,qX,qY,aJE,mW,qZ]):p:=h
theorem bXM {p:Prop} (h:p:=by simp only[fN,↓reduceIte,pT,kR,qU,qV,pU,aI9,aJA,aJB,kS,aJC,rY,mV,qW,aJD,rZ,qX,qY,aJE,mW,qZ]):p:=h
theorem bOR {p:Prop} (h:p:=by first|rfl|(simp only[OV.aR,OV.aG,OV.bE,hv6,hv7,hv8];done)|(simp only[OV.aR,OV.aG,OV.bE,hv6,hv7,hv8];rfl)):p:=h
theorem vS {p:Prop} (h:p:=by first|exact al5|exact al6 _ al5|exact al6 _ (al6 _ al5)):p:=h
theorem bOS {p:Prop} (h:p:=by simp only[dC,if_neg h0_,if_neg h1_,if_neg h2_,if_neg h3_,if_neg h4_,if_neg h5_,if_neg k0_,if_neg k1_,if_neg k2_,if_neg k3_]):p:=h
theorem aGQ {p:Prop} (h:p:=by first|rfl|(simp only[OV.aR,OV.aG,OV.bE];done)|(simp only[OV.aR,OV.aG,OV.bE];rfl)):p:=h
theorem aM5 {p:Prop} (h:p:=by simp only[al7,List.all_nil,hP.flat,hU.flat,hZ.flat,iA.flat,iC.flat,iD.flat,iE.flat];rfl):p:=h
theorem aP6 {p:Prop} (h:p:=by simp only[al7,List.all_nil,eM.flat,eU.flat,eJ.flat,eH.flat,eS.flat,eN.flat,eO.flat];rfl):p:=h
theorem eP {p:Prop} (h:p:=by first|omega|decide|rfl|trivial|exact al8 (aZ8 _ _).symm|exact al8 (aUI _).symm):p:=h
theorem a8U {p:Prop} (h:p:=by first|rfl|simp only[OV.aR,OV.aG,OV.bE,OV.p8,OV.r7,al9]):p:=h
theorem bOT {p:Prop} (h:p:=by have:=k6 (λx:List Int=>x.length) (dG hlt);(try simp only at this);omega):p:=h
theorem bFJ {p:Prop} (h:p:=by simp only[fN,↓reduceIte,eq_self,if_true,kU,e8,kV,xQ,fC,xR]):p:=h
theorem bFK {p:Prop} (h:p:=by simp only[fN,↓reduceIte,eq_self,if_true,kU,kV,lU,tP]):p:=h
theorem bOU {p:Prop} (h:p:=by have:=(hok.1 z).2 k hlt;rwa [show oY e.bH k vars=vars from if_neg aA]at this):p:=h
theorem bOV {p:Prop} (h:p:=by intro q_;simp only[dC,aN,jI,jJ,jK,jL,bJ];grind):p:=h
theorem bOW {p:Prop} (h:p:=by rw[aD _ _ _ _ p9,aD _ _ _ _ bFL,aD _ _ _ _ bOX,bG,aEN]):p:=h
theorem a8V {p:Prop} (h:p:=by first|assumption|(simp only[dC,eq_self,↓reduceIte,bC,bD];assumption)):p:=h
theorem bOY {p:Prop} (h:p:=by simp only[dC,if_neg h0_,if_neg h1_,if_neg h2_,if_neg h3_,if_neg k0_,if_neg k1_]):p:=h
theorem bOZ {p:Prop} (h:p:=by simp only[dC,if_neg h0_,if_neg h1_,if_neg h2_,if_neg h3_,if_neg h4_,if_neg h5_]):p:=h
theorem a8W {p:Prop} (h:p:=by simpa only[OV.gG,OV.j9,OV.rN,al0,wP]using wf):p:=h
theorem gH {p:Prop} (h:p:=by first|assumption|exact And.right gB|exact lX.2 gB):p:=h
theorem bO0 {p:Prop} (h:p:=by rw[aD _ _ _ _ kG,aD _ _ _ _ uU,aD _ _ _ _ aJF];exact hnb):p:=h
theorem bO1 {p:Prop} (h:p:=by simp only[fN,↓reduceIte,eq_self,if_true,hb9,z9,hbm,aEO,aEP]):p:=h
theorem bO2 {p:Prop} (h:p:=by rw[j3,gd];exact sE (s.aP.set k.toNat (s.aP[k.toNat]+1))):p:=h
theorem a8X {p:Prop} (h:p:=by rcases hn with hn|hn;exact .inr (.inl hn);exact .inr (.inr (.inl hn))):p:=h
theorem aM6 {p:Prop} (h:p:=by simp -dsimp -implicitDefEqProofs only[go_sem,h2,h3,e1,e2,dC]):p:=h
theorem bO3 {p:Prop} (h:p:=by rw[aD _ _ _ _ mM,aD _ _ _ _ a8Y,bG,hc0];rfl):p:=h
theorem bO4 {p:Prop} (h:p:=by simp only[fN,↓reduceIte,eq_self,if_true,aA4,aA5]):p:=h
theorem bO5 {p:Prop} (h:p:=by rcases h with rfl|h|h|h;exact hn;cases h;cases h;cases h):p:=h
theorem a8Z {p:Prop} (h:p:=by simpa only[OV.gG,OV.j9,wP]using wc):p:=h
theorem bO6 {p:Prop} (h:p:=by rw[r3.1,F.kids];exact F.oks _ (rS F.out)):p:=h
theorem bO8 {p:Prop} (h:p:=by simp only[fN,↓reduceIte,eq_self,if_true,hb9,z9]):p:=h
theorem bO9 {p:Prop} (h:p:=by have:=k6 aB.s hy;rw[x.fQ,fF]at hs;omega):p:=h
theorem oZ {p:Prop} (h:p:=by first|exact .inr gB|exact .inl aS):p:=h
theorem a81 {p:Prop} (h:p:=by rw[hvl,f5];exact F.oks _ (rS F.out)):p:=h
theorem bPA {p:Prop} (h:p:=by rw[rL];show env.length+1<=_;omega):p:=h
theorem bPB {p:Prop} (h:p:=by simp[lJ,lK,jV];exact λe=>hne e.symm):p:=h
theorem bPC {p:Prop} (h:p:=by rw[aD _ _ _ _ a82,bG,aEN];rfl):p:=h
theorem bPD {p:Prop} (h:p:=by rw[OV.gG,OV.j9,wP];exact wp):p:=h
theorem bPE {p:Prop} (h:p:=by first|rfl|(simp only[lU,tP])):p:=h
theorem a83 {p:Prop} (h:p:=by rw[aD _ _ _ _ p9,bG,aEN];rfl):p:=h
theorem a84 {p:Prop} (h:p:=by have:=k6 aB.s (dG hlti);omega):p:=h
theorem bFM {p:Prop} (h:p:=by have:=k6 bR.s (dG hlt);omega):p:=h
theorem a86 {p:Prop} (h:p:=by simp[dT,dB,Heap.le_refl,mX,c7,k7]):p:=h
theorem a88 {p:Prop} (h:p:=by rw[OV.cQ];exact xV _ hp):p:=h
theorem a89 {p:Prop} (h:p:=by rw[OV.cQ];exact aCH _ hp):p:=h
theorem a9A {p:Prop} (h:p:=by rw[aD _ _ _ _ p9,bG,hg0];rfl):p:=h
theorem aM7 {p:Prop} (h:p:=by simp[dT,dB,Heap.le_refl,aZ9]):p:=h
theorem bFN {p:Prop} (h:p:=by intro p hp;simp[OV.cQ,OV.rows]at hp):p:=h
theorem aM8 {p:Prop} (h:p:=by simp[dC,aL,aEQ,aER]):p:=h
theorem aJG {p:Prop} (h:p:=by rw[aAA _ hc];exact rT _ _ hc):p:=h
theorem aUJ {p:Prop} (h:p:=by intro e;rw[e]at hz;simp at hz;omega):p:=h
theorem bFO {p:Prop} (h:p:=by rw[ha,uV,if_neg λq=>hno q.1]):p:=h
theorem aUK {p:Prop} (h:p:=by simp[dT,dB,Heap.le_refl];omega):p:=h
theorem aUL {p:Prop} (h:p:=by rw[aD _ _ _ _ kG];exact hnb):p:=h
theorem aUM {p:Prop} (h:p:=by rw[aD _ _ _ _ wM];exact z7):p:=h
theorem aM9 {p:Prop} (h:p:=by rw[jO];exact fL _):p:=h
theorem a9B {p:Prop} (h:p:=by rw[aD _ _ _ _ kK,bG]):p:=h
theorem bFP {p:Prop} (h:p:=by rw[hv.1,f9.2.2];exact F.oks x hx):p:=h
theorem aP7 {p:Prop} (h:p:=by rw[aF];exact Heap.le_refl _):p:=h
theorem a0A {p:Prop} (h:p:=by rw[rL];exact o1):p:=h
theorem a0B {p:Prop} (h:p:=by first|exact he|simpa using he):p:=h
theorem pV {p:Prop} (h:p:=by simp[dT,dB,Heap.le_refl]):p:=h
theorem bFQ {p:Prop} (h:p:=by simp[lK,lJ,kG]):p:=h
theorem a9C {p:Prop} (h:p:=by unfold kH at hins;omega):p:=h
theorem a9D {p:Prop} (h:p:=by have:=aB.a0C hy;omega):p:=h
theorem aUN {p:Prop} (h:p:=by simp[lJ,lK,jV]):p:=h
theorem a9E {p:Prop} (h:p:=by rw[aLG];omega):p:=h
theorem a9F {p:Prop} (h:p:=by simp only[Low,Dig];omega):p:=h
theorem bFR {p:Prop} (h:p:=by simpa[Env.add,e]using hb):p:=h
theorem aUO {p:Prop} (h:p:=by show 1<=[c].length;simp):p:=h
theorem a0D {p:Prop} (h:p:=by simp only[maxLen];omega):p:=h
theorem a9G {p:Prop} (h:p:=by rw[a0E];exact hab):p:=h
theorem a9H {p:Prop} (h:p:=by have:=rH.1 hn;omega):p:=h
theorem a9I {p:Prop} (h:p:=by have:=c4.2.2.1;omega):p:=h
theorem a9J {p:Prop} (h:p:=by have:=b4.2.2.1;omega):p:=h
theorem a0F {p:Prop} (h:p:=by have:=b1.cap;omega):p:=h
theorem a9K {p:Prop} (h:p:=by rw[←hh6,bG]):p:=h
theorem a9L {p:Prop} (h:p:=by rw[qA];omega):p:=h
theorem a9M {p:Prop} (h:p:=by have:=hnk.2;omega):p:=h
theorem a9N {p:Prop} (h:p:=by rw[g3,hO3];omega):p:=h
theorem vT {p:Prop} (h:p:=by rw[fF];omega):p:=h
theorem uW {p:Prop} (h:p:=by rw[rH.1];omega):p:=h
theorem aAB {p:Prop} (h:p:=by unfold nJ;omega):p:=h
theorem aBL {p:Prop} (h:p:=by rw[rH.1,rO.1]):p:=h
theorem a0G {p:Prop} (h:p:=by rw[h1];decide):p:=h
theorem aJH {p:Prop} (h:p:=by simpa using hv):p:=h
theorem a0H {p:Prop} (h:p:=by simpa using hx):p:=h
theorem a0I {p:Prop} (h:p:=by simpa using hk):p:=h
theorem a0J {p:Prop} (h:p:=by simp[cS]):p:=h
theorem a0K {p:Prop} (h:p:=by simp[Env.add]):p:=h
theorem pW {p:Prop} (h:p:=by simp;omega):p:=h
theorem gB {p:Prop} (h:p:=by assumption):p:=h
theorem bU {p:Prop} (h:p:=by simp[*]):p:=h
theorem dH {p:Prop} (h:p:=by decide):p:=h
theorem fD {p:Prop} (h:p:=by rw[e]):p:=h
theorem xE {p:Prop} (h:p:=by rw[q]):p:=h
theorem aA {p:Prop} (h:p:=by omega):p:=h
theorem aS {p:Prop} (h:p:=by simp):p:=h
theorem bS {p:Prop} (h:p:=by rfl):p:=h
theorem iS {a b:Prop} (h:a) (e:a->b:=by intro q;repeat first|exact q|exact q.1|replace q:=q.2):b:=e h
theorem cE {a b:Nat} (h:¬a=b):¬a=b/\(a=b)=False/\(b=a)=False/\¬b=a:=⟨h,eq_false h,eq_false λe=>h e.symm,λe=>h e.symm⟩
inductive aC where
 |any
 |bool (b:Bool)
 |int (k:IntKind) (n:Int)
 |str (s:List UInt8)
 |lB
 |aV
 |xS
 |lS
 |rP
 |sl (sz:Nat) (es:List (List aC)) (tight:Bool)
 |ip (sz:Nat) (es:List (List aC)) (i off:Nat)
 |os (n sz i len:Nat)
 |op (n sz i off:Nat)
 |agg (cs:List aC)
 |iF (cs:List aC)
 |fn (f:Fn) (first cap:List aC)
 |iface (t:TypeId) (v:aC)
 |mp (n:Nat)
 deriving Inhabited
inductive Cell where
 |v (x:aC)
 |own (sz:Nat) (es:List (List Cell))
 deriving Inhabited
inductive cF where
 |row (sz:Nat) (es:List (List Cell))
 |map (kt et:TypeId) (l:List (aC×aC))
 |raw (t:TypeId) (cs:Array Value)
 |abs (Q:Nat->(Nat->Prop)->World->Prop)
 |gone
 deriving Inhabited
abbrev Heap:=Nat->Option cF
def cF.live:cF->Prop
 | .gone=>False
 | _=>True
def bT (h:Heap) (n:Nat) (o:cF):Heap:=λm=>if m=n then some o else h m
structure Env where
 loc:Nat->Option (Nat×Nat)
 fp:Nat->Nat->Prop
 used:Nat->Prop
def vO (E:Env) (h:Heap) (w:World) (b:Nat):Prop :=
 b<w.heap.size/\∀ n o,h n=some o->o.live->¬E.fp n b
def kE {α:Type} (es:List (List α)) (i j:Nat):Option α:=(es[i]?).bind (·[j]?)
theorem mY {α:Type} {es:List (List α)} {i j:Nat} {x:α} (h:kE es i j=some x):∃ e,es[i]?=some e/\e[j]?=some x:=by
 unfold kE at h
 cases he:es[i]? with
 |none=>simp[he]at h
 |some e=>exact⟨e,rfl,by simpa[he]using h⟩
theorem bFS {α:Type} {es:List (List α)} {i j:Nat} {x:α} (h:kE es i j=some x):i<es.length:=by
 obtain⟨e,he,_⟩:=mY h
 exact(mU.1 he).1
theorem aOO {α:Type} {es:List (List α)} {sz i j:Nat} {x:α} (hs:∀ e∈es,e.length=sz) (h:kE es i j=some x):j<sz:=by
 obtain⟨e,he,hj⟩:=mY h
 have:=hs e (rS he)
 have:=(mU.1 hj).1
 omega
inductive fY (E:Env) (h:Heap) (w:World):aC->Value->Prop where
 |any (v:Value):fY E h w .any v
 |bool (b:Bool):fY E h w (.bool b) (.bool b)
 |int (k:IntKind) (n:Int):fY E h w (.int k n) (.int k n)
 |str (s:List UInt8) (hl:s.length<=maxLen):fY E h w (.str s) (.string ⟨s.toArray⟩)
 |lB:fY E h w .lB (.pointer none)
 |aV:fY E h w .aV (.slice none 0 0)
 |xS:fY E h w .xS .nilFunc
 |lS:fY E h w .lS .nilIface
 |rP:fY E h w .rP (.map none)
 |sl0 (sz:Nat) (t:Bool) (a:Option Addr) (cap:Nat) (ht:t=true->cap=0) (hmax:cap<=maxLen) (ha:True):fY E h w (.sl sz [] t) (.slice a 0 cap)
 |sl (sz:Nat) (es:List (List aC)) (t:Bool) (b o cap:Nat) (cv:Nat->Nat->Value) (hi:vO E h w b) (hcap:es.length<=cap) (hmax:cap<=maxLen)
   (ht:t=true->cap=es.length) (hs:∀ e∈es,e.length=sz)
   (hc:∀ i j x,kE es i j=some x->w.cell? ⟨b,o+i*sz+j,none⟩=some (cv i j)) (h1:∀ i j x,kE es i j=some x->(cv i j).oneCell'=true)
   (hr:∀ i j x,kE es i j=some x->fY E h w x (cv i j)):fY E h w (.sl sz es t) (.slice (some ⟨b,o,none⟩) es.length cap)
 |ip (sz:Nat) (es:List (List aC)) (i off b o:Nat) (cv:Nat->Nat->Value) (hi:vO E h w b) (hs:∀ e∈es,e.length=sz)
   (hc:∀ i j x,kE es i j=some x->w.cell? ⟨b,o+i*sz+j,none⟩=some (cv i j)) (h1:∀ i j x,kE es i j=some x->(cv i j).oneCell'=true)
   (hr:∀ i j x,kE es i j=some x->fY E h w x (cv i j)):fY E h w (.ip sz es i off) (.pointer (some ⟨b,o+i*sz+off,none⟩))
 |os (n sz i len b o cap:Nat) (t:TypeId) (m:Nat) (hd:E.used n) (hl:E.loc n=some (b,o)) (hlc:len<=cap) (hmax:cap<=maxLen)
   (hsh:w.shape? b=some (t,m)) (hm:o+(i+cap)*sz<=m):fY E h w (.os n sz i len) (.slice (some ⟨b,o+i*sz,none⟩) len cap)
 |os0 (n sz:Nat) (hd:E.used n) (hl:E.loc n=none):fY E h w (.os n sz 0 0) (.slice none 0 0)
 |op (n sz i off b o:Nat) (hd:E.used n) (hl:E.loc n=some (b,o)):fY E h w (.op n sz i off) (.pointer (some ⟨b,o+i*sz+off,none⟩))
 |agg (cs:List aC) (vs:List Value) (hl:cs.length=vs.length) (hr:∀ (i:Nat) (x:aC) (v:Value),cs[i]?=some x->vs[i]?=some v->fY E h w x v):fY E h w (.agg cs) (.agg vs.toArray)
 |iF (cs:List aC) (vs:List Value) (hl:cs.length=vs.length) (hr:∀ (i:Nat) (x:aC) (v:Value),cs[i]?=some x->vs[i]?=some v->fY E h w x v):fY E h w (.iF cs) (.tuple vs.toArray)
 |fn (f:Fn) (cs ds:List aC) (vs us:List Value) (hl:cs.length=vs.length) (hr:∀ (i:Nat) (x:aC) (v:Value),cs[i]?=some x->vs[i]?=some v->fY E h w x v)
   (hl':ds.length=us.length) (hr':∀ (i:Nat) (x:aC) (v:Value),ds[i]?=some x->us[i]?=some v->fY E h w x v):fY E h w (.fn f cs ds) (.func f vs.toArray us.toArray)
 |iface (t:TypeId) (x:aC) (v:Value) (hr:fY E h w x v):fY E h w (.iface t x) (.iface t v)
 |mp (n b o:Nat) (hd:E.used n) (hl:E.loc n=some (b,o)):fY E h w (.mp n) (.map (some b))
def eT (E:Env) (h:Heap) (w:World):List aC->List Value->Prop
 | [],[]=>True
 |x::xs,v::vs=>fY E h w x v/\eT E h w xs vs
 | _,_=>False
theorem eT.length {E:Env} {h:Heap} {w:World}:∀ {xs:List aC} {vs:List Value},eT E h w xs vs->xs.length=vs.length
 | [],[],_=>rfl
 |x::xs,v::vs,hh=>by simpa using eT.length hh.2
 | [],_::_,hh=>hh.elim
 | _::_,[],hh=>hh.elim
theorem eT.get {E:Env} {h:Heap} {w:World}:∀ {xs:List aC} {vs:List Value},eT E h w xs vs ->
  ∀ (i:Nat) (x:aC) (v:Value),xs[i]?=some x->vs[i]?=some v->fY E h w x v
 | [],[],_,i,x,v,hx,_=>by simp at hx
 |x::xs,v::vs,hh,0,y,u,hx,hv=>by simp at hx hv;subst hx;subst hv;exact hh.1
 |x::xs,v::vs,hh,i+1,y,u,hx,hv=>eT.get hh.2 i y u a0H aJH
 | [],_::_,hh,_,_,_,_,_=>hh.elim
 | _::_,[],hh,_,_,_,_,_=>hh.elim
theorem eT.mk {E:Env} {h:Heap} {w:World}:∀ {xs:List aC} {vs:List Value},xs.length=vs.length ->
  (∀ (i:Nat) (x:aC) (v:Value),xs[i]?=some x->vs[i]?=some v->fY E h w x v)->eT E h w xs vs
 | [],[],_,_=>trivial
 |x::xs,v::vs,hl,hr=>⟨hr 0 x v rfl rfl,eT.mk (by simpa using hl) (λi y u hy hu=>hr (i+1) y u (by simpa using hy) (by simpa using hu))⟩
 | [],_::_,hl,_=>by simp at hl
 | _::_,[],hl,_=>by simp at hl
theorem eT.append {E:Env} {h:Heap} {w:World}:∀ {xs:List aC} {vs:List Value} {ys:List aC} {us:List Value},
  eT E h w xs vs->eT E h w ys us->eT E h w (xs++ys) (vs++us)
 | [],[],_,_,_,hy=>hy
 |x::xs,v::vs,_,_,hx,hy=>⟨hx.1,eT.append hx.2 hy⟩
 | [],_::_,_,_,hx,_=>hx.elim
 | _::_,[],_,_,hx,_=>hx.elim
inductive aA6 (E:Env) (h:Heap) (w:World):Cell->Value->(Nat->Prop)->Prop where
 |v (x:aC) (c:Value) (S:Nat->Prop) (h1:c.oneCell'=true) (hx:fY E h w x c):aA6 E h w (.v x) c S
 |a4E (sz:Nat) (a:Option Addr) (cap:Nat) (S:Nat->Prop) (hmax:cap<=maxLen) (ha:True):aA6 E h w (.own sz []) (.slice a 0 cap) S
 |own (sz:Nat) (es:List (List Cell)) (b o cap:Nat) (S:Nat->Prop) (cs:Array Value) (t:TypeId) (cv:Nat->Nat->Value) (T:Nat->Nat->Nat->Prop)
   (hb:S b) (hh:w.heap[b]?=some (.cells cs t (0,0))) (hlc:es.length<=cap) (hmax:cap<=maxLen) (hm:o+cap*sz<=cs.size) (hs:∀ e∈es,e.length=sz)
   (hT:∀ i j c,T i j c->S c/\c≠b) (hD:∀ i j i' j' c,T i j c->T i' j' c->i=i'/\j=j')
   (hc:∀ i j x,kE es i j=some x->cs[o+i*sz+j]?=some (cv i j))
   (hr:∀ i j x,kE es i j=some x->aA6 E h w x (cv i j) (T i j)):aA6 E h w (.own sz es) (.slice (some ⟨b,o,none⟩) es.length cap) S
structure aUP (E:Env) (h:Heap) (w:World) (b o sz:Nat) (es:List (List Cell)) (S:Nat->Prop):Prop where
 hb:S b
 size:∀ e∈es,e.length=sz
 mem:∃ (cs:Array Value) (t:TypeId) (cv:Nat->Nat->Value) (T:Nat->Nat->Nat->Prop),
  w.heap[b]?=some (.cells cs t (0,0))/\o+es.length*sz<=cs.size /\
  (∀ i j c,T i j c->S c/\c≠b)/\(∀ i j i' j' c,T i j c->T i' j' c->i=i'/\j=j') /\
  (∀ i j x,kE es i j=some x->cs[o+i*sz+j]?=some (cv i j))/\(∀ i j x,kE es i j=some x->aA6 E h w x (cv i j) (T i j))
def a9O (E:Env) (h:Heap) (w:World) (b:Nat) (l:List (aC×aC)) (S:Nat->Prop):Prop :=
 S b/\∃ (es:Array MapEntry) (clock:Nat),w.heap[b]?=some (.map es clock)/\(∀ e∈es,e.born<clock) /\
  eT E h w (l.map (·.1)) (es.toList.map (·.key))/\eT E h w (l.map (·.2)) (es.toList.map (·.val))
def aJI (E:Env) (h:Heap) (w:World) (n:Nat):cF->Prop
 | .row sz es=>(∃ b o,E.loc n=some (b,o)/\aUP E h w b o sz es (E.fp n))∨(es=[]/\E.loc n=none)
 | .map _ _ l=>∃ b o,E.loc n=some (b,o)/\a9O E h w b l (E.fp n)
 | .raw t cs=>∃ b,E.loc n=some (b,0)/\E.fp n b/\w.heap[b]?=some (.cells cs t (0,0))
 | .abs Q=>∃ b,E.loc n=some (b,0)/\E.fp n b/\∃ w0:World,Q b (E.fp n) w0/\∀ c,E.fp n c->w.heap[c]?=w0.heap[c]?
 | .gone=>True
def bFT:Option TypeId:=some 281
def oO:List (Nat×(Array Value->Prop)):=[(1,λcs=>cs=#[.int .u64 1,.int .u64 10,.int .u64 100,.int .u64 1000,.int .u64 10000,.int .u64 100000,.int .u64 1000000,.int .u64 10000000,.int .u64 100000000,.int .u64 1000000000,.int .u64 10000000000,.int .u64 100000000000,.int .u64 1000000000000,.int .u64 10000000000000,.int .u64 100000000000000,.int .u64 1000000000000000,.int .u64 10000000000000000,.int .u64 100000000000000000,.int .u64 1000000000000000000,.int .u64 10000000000000000000]),(6,λcs=>∃ v,cs[0]?=some v/\(v=.nilIface∨∃ te pe,v=.iface te pe)),(7,λcs=>∃ v,cs[0]?=some v/\(v=.nilIface∨∃ te pe,v=.iface te pe)),(0,λcs=>∃ m,cs[0]?=some (.int .i64 m))]
def LaidIn (E:Env) (h:Heap) (w:World):Prop:=∀ p∈oO,vO E h w p.1/\∃ cs t f,w.heap[p.1]?=some (.cells cs t f)/\p.2 cs
structure Rel (E:Env) (h:Heap) (w:World):Prop where
 fin:∃ N,∀ n,N<=n->¬E.used n
 dom:∀ n,h n≠none->E.used n
 lt:∀ n o b,h n=some o->o.live->E.fp n b->b<w.heap.size
 apart:∀ n o m o' b,h n=some o->o.live->h m=some o'->o'.live->E.fp n b->E.fp m b->n=m
 obj:∀ n o,h n=some o->aJI E h w n o
 laid:LaidIn E h w
structure Ev (E:Env) (h:Heap) (w:World) (E':Env) (h':Heap) (w':World):Prop where
 size:w.heap.size<=w'.heap.size
 keep:∀ b,vO E h w b->w'.heap[b]?=w.heap[b]?/\vO E' h' w' b
 shape:∀ b,b<w.heap.size->w'.shape? b=w.shape? b
 loc:∀ n,E.used n->E'.loc n=E.loc n/\E'.used n
 os:w'.os=w.os
 out:w'.output=w.output
theorem LaidIn.ev {E E':Env} {h h':Heap} {w w':World} (ev:Ev E h w E' h' w') (x:LaidIn E h w):LaidIn E' h' w':=λp hp =>
 ⟨(ev.keep p.1 (x p hp).1).2,(x p hp).2.imp λcs ⟨t,f,ht,q⟩=>⟨t,f,by rw[(ev.keep p.1 (x p hp).1).1];exact ht,q⟩⟩
theorem LaidIn.zW {E:Env} {g h:Heap} {w:World} (hi:∀ b,vO E h w b->vO E g w b) (x:LaidIn E h w):LaidIn E g w:=λp hp=>⟨hi _ (x p hp).1,(x p hp).2⟩
theorem Ev.refl (E:Env) (h:Heap) (w:World):Ev E h w E h w :=
 ⟨fL _,λ_ hb=>⟨rfl,hb⟩,λ_ _=>rfl,λ_ hn=>⟨rfl,hn⟩,rfl,rfl⟩
theorem Ev.trans {E E' E'':Env} {h h' h'':Heap} {w w' w'':World} (a:Ev E h w E' h' w') (b:Ev E' h' w' E'' h'' w''):Ev E h w E'' h'' w'' where
 size:=aWE a.size b.size
 keep:=λx hx=>⟨(b.keep x (a.keep x hx).2).1.trans (a.keep x hx).1,(b.keep x (a.keep x hx).2).2⟩
 shape:=λx hx=>(b.shape x (bEZ hx a.size)).trans (a.shape x hx)
 loc:=λn hn=>⟨(b.loc n (a.loc n hn).2).1.trans (a.loc n hn).1,(b.loc n (a.loc n hn).2).2⟩
 os:=b.os.trans a.os
 out:=b.out.trans a.out
theorem aA7 {w w':World} {b:Nat} (h:w'.heap[b]?=w.heap[b]?) (o:Nat) (s:Option Nat):w'.cell? ⟨b,o,s⟩=w.cell? ⟨b,o,s⟩:=by
 simp only[World.cell?,h]
theorem aP8 {w:World} {b:Nat} {x:TypeId×Nat} (h:w.shape? b=some x):b<w.heap.size:=by
 unfold World.shape? at h
 cases hb:w.heap[b]? with
 |none=>simp[hb]at h
 |some y=>exact(aWF.1 hb).1
theorem fY.ev {E E':Env} {h h':Heap} {w w':World} (ev:Ev E h w E' h' w') {x:aC} {v:Value} (r:fY E h w x v):fY E' h' w' x v:=by
 induction r with
 |any v=>exact .any v
 |bool b=>exact .bool b
 |int k n=>exact .int k n
 |str s hl=>exact .str s hl
 |lB=>exact .lB
 |aV=>exact .aV
 |xS=>exact .xS
 |lS=>exact .lS
 |rP=>exact .rP
 |sl0 sz t a cap ht hmax ha=>exact .sl0 sz t a cap ht hmax ha
 |sl sz es t b o cap cv hi hcap hmax ht hs hc h1 hr ih =>
  exact .sl sz es t b o cap cv (ev.keep b hi).2 hcap hmax ht hs (λi j x hx=>by rw[aA7 (ev.keep b hi).1];exact hc i j x hx) h1 ih
 |ip sz es i off b o cv hi hs hc h1 hr ih =>
  exact .ip sz es i off b o cv (ev.keep b hi).2 hs (λi j x hx=>by rw[aA7 (ev.keep b hi).1];exact hc i j x hx) h1 ih
 |os n sz i len b o cap t m hd hl hlc hmax hsh hm =>
  exact .os n sz i len b o cap t m (ev.loc n hd).2 ((ev.loc n hd).1.trans hl) hlc hmax ((ev.shape b (aP8 hsh)).trans hsh) hm
 |os0 n sz hd hl=>exact .os0 n sz (ev.loc n hd).2 ((ev.loc n hd).1.trans hl)
 |op n sz i off b o hd hl=>exact .op n sz i off b o (ev.loc n hd).2 ((ev.loc n hd).1.trans hl)
 |agg cs vs hl hr ih=>exact .agg cs vs hl ih
 |iF cs vs hl hr ih=>exact .iF cs vs hl ih
 |fn f cs ds vs us hl hr hl' hr' ih ih'=>exact .fn f cs ds vs us hl ih hl' ih'
 |iface t x v hr ih=>exact .iface t x v ih
 |mp n b o hd hl=>exact .mp n b o (ev.loc n hd).2 ((ev.loc n hd).1.trans hl)
theorem eT.ev {E E':Env} {h h':Heap} {w w':World} (ev:Ev E h w E' h' w'):∀ {xs:List aC} {vs:List Value},eT E h w xs vs->eT E' h' w' xs vs
 | [],[],_=>trivial
 | _::_,_::_,hh=>⟨hh.1.ev ev,eT.ev ev hh.2⟩
 | [],_::_,hh=>hh.elim
 | _::_,[],hh=>hh.elim
@[simp] theorem bG (h:Heap) (n:Nat) (o:cF):bT h n o n=some o:=by simp[bT]
theorem aD (h:Heap) (n m:Nat) (o:cF) (hn:m≠n):bT h n o m=h m:=by simp[bT,hn]
theorem fN (h:Heap) (n m:Nat) (o:cF):bT h n o m=if m=n then some o else h m:=rfl
@[simp] theorem aF (h:Heap) (n:Nat) (o o':cF):bT (bT h n o) n o'=bT h n o':=by
 funext m;simp only[bT];split <;> rfl
def Heap.le (g h:Heap):Prop:=∀ n,g n=none∨g n=h n
theorem Heap.le_refl (h:Heap):h.le h:=λ_=>.inr rfl
theorem Heap.le_trans {a b c:Heap} (x:a.le b) (y:b.le c):a.le c:=λn=>by
 rcases x n with h|h
 ·exact .inl h
 ·rcases y n with k|k
  ·exact .inl (h.trans k)
  ·exact .inr (h.trans k)
theorem Heap.aW {g h:Heap} {n:Nat} {o:cF} (hg:g n=none) (hl:g.le h):g.le (bT h n o):=λm=>by
 by_cases e:m=n
 ·subst e;exact .inl hg
 ·rw[aD _ _ _ _ e];exact hl m
def aC.uX:Value->aC
 | .bool b=>.bool b
 | .int k n=>.int k n
 | .string s=>if s.size<=maxLen then .str s.data.toList else .any
 | .pointer none=>.lB
 | .slice none 0 0=>.aV
 | .nilFunc=>.xS
 | .nilIface=>.lS
 | .map none=>.rP
 | _=>.any
def aC.ofValue:Value->aC
 | .bool b=>.bool b
 | .int k n=>.int k n
 | .string s=>if s.size<=maxLen then .str s.data.toList else .any
 | .pointer none=>.lB
 | .slice none 0 0=>.aV
 | .nilFunc=>.xS
 | .nilIface=>.lS
 | .map none=>.rP
 | .agg vs=>.agg (vs.toList.map aC.uX)
 | _=>.any
theorem fY.uX (E:Env) (h:Heap) (w:World) (v:Value):fY E h w (aC.uX v) v:=by
 unfold aC.uX
 split <;> try constructor
 split
 ·rename_i s hs
  have:s=⟨s.data.toList.toArray⟩:=by cases s;simp
  rw[this]
  exact .str _ (by simpa using hs)
 ·exact .any _
theorem fY.ofValue (E:Env) (h:Heap) (w:World) (v:Value):fY E h w (aC.ofValue v) v:=by
 have h1:=fY.uX E h w v
 unfold aC.uX at h1
 unfold aC.ofValue
 split <;> try exact h1
 ·rename_i vs
  have:=fY.agg (E:=E) (h:=h) (w:=w) (vs.toList.map aC.uX) vs.toList aS (λi x v hx hv=>by
   rw[rM,hv]at hx
   obtain rfl:=dY hx
   exact fY.uX E h w v)
  simpa using this
 ·exact .any _
inductive TyD where
 |int (k:IntKind)
 |bool
 |str
 |ptr (e:TypeId)
 |slice (e:TypeId)
 |arr (n:Nat) (e:TypeId)
 |st (fs:List (Nat×TypeId×Nat))
 |map (k e:TypeId)
 |other
structure nK where
 sz:Nat
 agg:Bool
 bytes:Nat
 zero:List aC
 d:TyD
def tyD (P:Program):TypeDesc->TyD
 | .int k=>.int k
 | .bool=>.bool
 | .string=>.str
 | .pointer e=>.ptr e
 | .slice e=>.slice e
 | .array n e=>.arr n e
 | .struct fs=>if fs.toList.all (λf=>(P.info? f.type).isSome)then .st (fs.toList.map λf=>(f.offset,f.type,P.cellsOf f.type))else .other
 | .map k e=>.map k e
 | _=>.other
def gZ (P:Program) (t:TypeId):Option nK :=
 match P.info? t,P.underlying t with
 |some i,some u=>some {
   sz:=i.size
   agg:=match u with | .struct _ | .array _ _=>true|_=>false
   bytes:=i.bytes
   zero:=match i.zero with|some v=>v.cells.toList.map aC.ofValue|none=>[]
   d:=tyD P u }
 | _,_=>none
theorem uY {P:Program} {t:TypeId} {r:nK} (h:gZ P t=some r):∃ i u,P.info? t=some i/\P.underlying t=some u /\
  r.sz=i.size/\r.bytes=i.bytes/\r.d=tyD P u/\r.agg=(match u with | .struct _ | .array _ _=>true|_=>false) /\
  r.zero=(match i.zero with|some v=>v.cells.toList.map aC.ofValue|none=>[]):=by
 unfold gZ at h
 split at h
 ·rename_i i u hi hu
  obtain rfl:=dY h
  exact⟨i,u,hi,hu,rfl,rfl,rfl,rfl,rfl⟩
 ·simp at h
def aBM (P:Program) (o:Oper) (ρ:Operand->Value) (w:World) (R:Value->World->Prop):Prop :=
 match (execOp ρ o).run P w with
 | .ok (.value v) w'=>R v w'
 | .ok .skip w'=>R undef w'
 | .ok (.enter f args) w'=>Calls P f args w' λe w''=>match e with | .returned v=>R v w''|_=>False
 | _=>False
theorem aBM.wp {P:Program} {o:Oper} {a:Act} {w:World} {next:Act->World->Prop} {Q:Exit->Act->World->Prop}
  (h:aBM P o a.eval w λv w'=>next (a.put o.dst v) w'):o.wp P a w next Q:=by
 unfold aBM at h
 unfold Oper.wp
 generalize (execOp a.eval o).run P w=r at *
 cases r with
 |halt x w'=>exact h.elim
 |ok n w' =>
  cases n <;> first
   |exact h.elim
   |exact h
   |exact Calls.mono h λe w' he=>by cases e <;> first|exact he|exact he.elim
theorem aBM.kW {P:Program} {o:Oper} {ρ:Operand->Value} {w w':World} {v:Value} {R:Value->World->Prop}
  (hr:(execOp ρ o).run P w=.ok (.value v) w') (h:R v w'):aBM P o ρ w R:=by
 unfold aBM;rw[hr];exact h
theorem aBM.bKX {P:Program} {o:Oper} {ρ:Operand->Value} {w w':World} {R:Value->World->Prop}
  (hr:(execOp ρ o).run P w=.ok .skip w') (h:R undef w'):aBM P o ρ w R:=by
 unfold aBM;rw[hr];exact h
def aJJ (K:aC->Heap->Prop) (E:Env) (h:Heap) (w:World) (v:Value) (w':World):Prop :=
 ∃ r h' E',K r h'/\Ev E h w E' h' w'/\Rel E' h' w'/\fY E' h' w' r v
theorem aJJ.mono {K K':aC->Heap->Prop} {E:Env} {h:Heap} {w:World} {v:Value} {w':World} (hk:∀ r h',K r h'->K' r h')
  (a:aJJ K E h w v w'):aJJ K' E h w v w':=let ⟨r,h',E',k,rest⟩:=a;⟨r,h',E',hk _ _ k,rest⟩
theorem aJJ.same {K:aC->Heap->Prop} {E:Env} {h:Heap} {w:World} {v:Value} {r:aC} (hk:K r h) (hrel:Rel E h w) (hr:fY E h w r v):aJJ K E h w v w :=
 ⟨r,h,E,hk,.refl _ _ _,hrel,hr⟩
def rI (P:Program) (o:Oper) (ρ:Operand->aC) (h:Heap) (K:aC->Heap->Prop):Prop :=
 ∀ E w (ρc:Operand->Value),Rel E h w->(∀ x,fY E h w (ρ x) (ρc x))->aBM P o ρc w (aJJ K E h w)
theorem aBM.mono {P:Program} {o:Oper} {ρ:Operand->Value} {w:World} {R R':Value->World->Prop} (h:aBM P o ρ w R) (hr:∀ v w',R v w'->R' v w'):aBM P o ρ w R':=by
 unfold aBM at *
 split at h
 ·exact hr _ _ h
 ·exact hr _ _ h
 ·exact Calls.mono h λe w' he=>by cases e <;> first|exact hr _ _ he|exact he
 ·exact h
theorem rI.mono {P:Program} {o:Oper} {ρ:Operand->aC} {h:Heap} {K K':aC->Heap->Prop} (hk:∀ r h',K r h'->K' r h') (a:rI P o ρ h K):rI P o ρ h K' :=
 λE w ρc hR hρ=>(a E w ρc hR hρ).mono λv w'=>aJJ.mono hk
def aWK (P:Program) (f:FuncId) (args:List aC) (h:Heap) (K:aC->Heap->Prop):Prop :=
 ∀ E w vs,Rel E h w->eT E h w args vs->Calls P f vs.toArray w λe w'=>match e with | .returned v=>aJJ K E h w v w'|_=>False
theorem aWK.mono {P:Program} {f:FuncId} {args:List aC} {h:Heap} {K K':aC->Heap->Prop} (hk:∀ r h',K r h'->K' r h') (a:aWK P f args h K):aWK P f args h K' :=
 λE w vs hR hv=>Calls.mono (a E w vs hR hv) λe w' he=>by cases e <;> first|exact aJJ.mono hk he|exact he
section pure
variable {P:Program} {o:Oper} {ρ:Operand->aC} {h:Heap} {K:aC->Heap->Prop}
theorem dJ {r:aC} (hk:K r h) (hx:∀ E w (ρc:Operand->Value),Rel E h w->(∀ x,fY E h w (ρ x) (ρc x))->∃ v,(execOp ρc o).run P w=.ok (.value v) w/\fY E h w r v):rI P o ρ h K:=by
 intro E w ρc hR hρ
 obtain⟨v,hv,hr⟩:=hx E w ρc hR hρ
 exact .kW hv (.same hk hR hr)
theorem bFU (x:Operand) (ho:o.op=.move x) (hk:K (ρ x) h):rI P o ρ h K :=
 dJ hk λE w ρc _ hρ=>⟨ρc x,by simp[execOp,ho],hρ x⟩
theorem a4F (x:Operand) (ho:o.op=.assign x) (hk:K (ρ x) h):rI P o ρ h K :=
 dJ hk λE w ρc _ hρ=>⟨ρc x,by simp[execOp,ho],hρ x⟩
theorem aBN {E:Env} {w:World} {b:Bool} {v:Value} (hr:fY E h w (.bool b) v):v=.bool b:=by cases hr;rfl
theorem j4 {E:Env} {w:World} {k:IntKind} {n:Int} {v:Value} (hr:fY E h w (.int k n) v):v=.int k n:=by cases hr;rfl
theorem mZ {E:Env} {w:World} {s:List UInt8} {v:Value} (hr:fY E h w (.str s) v):v=.string ⟨s.toArray⟩/\s.length<=maxLen:=by cases hr;exact⟨rfl,by assumption⟩
theorem bFV (c a b:Operand) (t:Bool) (ho:o.op=.pick c a b) (hc:ρ c=.bool t) (hk:K (if t then ρ a else ρ b) h):rI P o ρ h K :=
 dJ hk λE w ρc _ hρ=>by
  have:=aBN (hc▸hρ c)
  refine⟨if t then ρc a else ρc b,by simp[execOp,ho,this,asBool],?_⟩
  cases t
  ·exact hρ b
  ·exact hρ a
def pO (op:BinOp):aC->aC->Option aC
 | .int k a,.int k' b =>
  if k=k' then
   match op with
   | .add=>some (.int k (k.wrap (a+b)))
   | .sub=>some (.int k (k.wrap (a-b)))
   | .mul=>some (.int k (k.wrap (a*b)))
   | .eql=>some (.bool (decide (a=b)))
   | .neq=>some (.bool (!decide (a=b)))
   | .lss=>some (.bool (decide (a<b)))
   | .leq=>some (.bool (decide (a<=b)))
   | .gtr=>some (.bool (decide (a > b)))
   | .geq=>some (.bool (decide (a ≥ b)))
   | .and=>some (.int k (k.wrap (BitVec.ofInt k.bits a &&& BitVec.ofInt k.bits b).toNat))
   | .or=>some (.int k (k.wrap (BitVec.ofInt k.bits a ||| BitVec.ofInt k.bits b).toNat))
   | .andNot=>some (.int k (k.wrap (BitVec.ofInt k.bits a &&& ~~~ BitVec.ofInt k.bits b).toNat))
   | _=>none
  else none
 | .str a,.str b =>
  match op with
  | .eql=>some (.bool (decide (a=b)))
  | .neq=>some (.bool (!decide (a=b)))
  | _=>none
 | _,_=>none
theorem bKY (op:BinOp) (t ty:TypeId) (x y:Operand) (r:aC) (ho:o.op=.binOp op t x y ty) (hb:pO op (ρ x) (ρ y)=some r) (hk:K r h):rI P o ρ h K :=
 dJ hk λE w ρc _ hρ=>by
  have hx:=hρ x
  have hy:=hρ y
  unfold pO at hb
  split at hb
  ·rename_i k a k' b ex ey
   rw[ex]at hx;rw[ey]at hy
   have hx:=j4 hx
   have hy:=j4 hy
   split at hb
   ·rename_i hkk
    subst hkk
    have hg:(eqGuard op t x y (ρc x) (ρc y)).run P w=.ok () w:=by
     rw[hx,hy];cases op <;> simp[eqGuard]
    split at hb <;> first|(simp at hb;done)|(
     obtain rfl:=dY hb
     refine⟨_,by simp only[execOp,ho,Sem.run_bind,hg,Result.andThen_ok,hx,hy,binOp,Op.intArith,Op.intCmp,Op.intBits,ne_eq,not_true_eq_false,if_false,Sem.run_pure];rfl,?_⟩
     constructor)
   ·simp at hb
  ·rename_i a b ex ey
   rw[ex]at hx;rw[ey]at hy
   obtain⟨hx,_⟩:=mZ hx
   obtain⟨hy,_⟩:=mZ hy
   have hg:(eqGuard op t x y (ρc x) (ρc y)).run P w=.ok () w:=by
    rw[hx,hy];cases op <;> simp[eqGuard]
   have e1:(⟨a.toArray⟩:ByteArray).toList=a:=by rw[ByteArray.toList_eq]
   have e2:(⟨b.toArray⟩:ByteArray).toList=b:=by rw[ByteArray.toList_eq]
   split at hb <;> first|(simp at hb;done)|(
    obtain rfl:=dY hb
    refine⟨_,by simp only[execOp,ho,Sem.run_bind,hg,Result.andThen_ok,hx,hy,binOp,Op.stringOp,Sem.run_pure,e1,e2];rfl,?_⟩
    first|exact .bool _|skip)
   all_goals(rw[show(a == b)=decide (a=b)from Bool.eq_iff_iff.2 (by rw[beq_iff_eq,decide_eq_true_eq])];constructor)
  ·simp at hb
end pure
set_option linter.unusedVariables false
set_option linter.unusedSimpArgs false
theorem aA6.ev {E E':Env} {h h':Heap} {w w':World} (ev:Ev E h w E' h' w') {x:Cell} {v:Value} {S:Nat->Prop} (r:aA6 E h w x v S)
  (hS:∀ c,S c->w'.heap[c]?=w.heap[c]?):aA6 E' h' w' x v S:=by
 induction r with
 |v x c S h1 hx=>exact .v x c S h1 (hx.ev ev)
 |a4E sz a cap S hmax ha=>exact .a4E sz a cap S hmax ha
 |own sz es b o cap S cs t cv T hb hh hlc hmax hm hs hT hD hc hr ih =>
  exact .own sz es b o cap S cs t cv T hb ((hS b hb).trans hh) hlc hmax hm hs hT hD hc λi j x hx=>ih i j x hx λc hc=>hS c (hT i j c hc).1
theorem aA6.mono {E:Env} {h:Heap} {w:World} {x:Cell} {v:Value} {S S':Nat->Prop} (r:aA6 E h w x v S) (hs:∀ c,S c->S' c):aA6 E h w x v S':=by
 cases r with
 |v _ _ _ h1 hx=>exact .v _ _ _ h1 hx
 |a4E sz a cap _ hmax ha=>exact .a4E sz a cap _ hmax ha
 |own sz es b o cap _ cs t cv T hb hh hlc hmax hm hs' hT hD hc hr =>
  exact .own sz es b o cap _ cs t cv T (hs _ hb) hh hlc hmax hm hs' (λi j c hc=>⟨hs _ (hT i j c hc).1,(hT i j c hc).2⟩) hD hc hr
theorem aA6.one {E:Env} {h:Heap} {w:World} {x:Cell} {v:Value} {S:Nat->Prop} (r:aA6 E h w x v S):v.oneCell'=true:=by
 cases r <;> first|assumption|rfl
theorem aUP.ev {E E':Env} {h h':Heap} {w w':World} (ev:Ev E h w E' h' w') {b o sz:Nat} {es:List (List Cell)} {S:Nat->Prop} (r:aUP E h w b o sz es S)
  (hS:∀ c,S c->w'.heap[c]?=w.heap[c]?):aUP E' h' w' b o sz es S:=by
 obtain⟨hb,hs,cs,t,cv,T,hh,hm,hT,hD,hc,hr⟩:=r
 exact⟨hb,hs,cs,t,cv,T,(hS b hb).trans hh,hm,hT,hD,hc,λi j x hx=>(hr i j x hx).ev ev λc hc=>hS c (hT i j c hc).1⟩
theorem a9O.ev {E E':Env} {h h':Heap} {w w':World} (ev:Ev E h w E' h' w') {b:Nat} {l:List (aC×aC)} {S:Nat->Prop} (r:a9O E h w b l S)
  (hS:∀ c,S c->w'.heap[c]?=w.heap[c]?):a9O E' h' w' b l S:=by
 obtain⟨hb,es,clock,hh,hk,h1,h2⟩:=r
 exact⟨hb,es,clock,(hS b hb).trans hh,hk,h1.ev ev,h2.ev ev⟩
theorem aJI.ev {E E':Env} {h h':Heap} {w w':World} (ev:Ev E h w E' h' w') {n:Nat} {o:cF} (hl:E'.loc n=E.loc n) (hfp:E'.fp n=E.fp n)
  (hS:∀ c,o.live->E.fp n c->w'.heap[c]?=w.heap[c]?) (r:aJI E h w n o):aJI E' h' w' n o:=by
 cases o with
 |row sz es =>
  rcases r with⟨b,o,hb,hr⟩|⟨he,hn⟩
  ·exact .inl ⟨b,o,hl.trans hb,by rw[hfp];exact hr.ev ev (λc hc=>hS c trivial hc)⟩
  ·exact .inr ⟨he,hl.trans hn⟩
 |map kt et l =>
  obtain⟨b,o,hb,hr⟩:=r
  exact⟨b,o,hl.trans hb,by rw[hfp];exact hr.ev ev (λc hc=>hS c trivial hc)⟩
 |raw t cs =>
  obtain⟨b,hb,hf,hr⟩:=r
  exact⟨b,hl.trans hb,by rw[hfp];exact hf,(hS b trivial hf).trans hr⟩
 |abs Q =>
  obtain⟨b,hb,hf,w0,hq,ha⟩:=r
  exact⟨b,hl.trans hb,by rw[hfp];exact hf,w0,by rw[hfp];exact hq,λc hc=>by rw[hfp]at hc;exact(hS c trivial hc).trans (ha c hc)⟩
 |gone=>trivial
def yW (w:World) (o:Obj) (d:Nat):World:={ heap:=w.heap.push o,tape:=w.tape,drawn:=d,os:=w.os,output:=w.output }
theorem qA (w:World) (o:Obj) (d:Nat):(yW w o d).heap.size=w.heap.size+1:=by simp[yW]
theorem pX (w:World) (o:Obj) (d b:Nat) (hb:b<w.heap.size):(yW w o d).heap[b]?=w.heap[b]?:=by
 simp only[yW,Array.getElem?_push];rw[if_neg aA]
theorem xW (w:World) (o:Obj) (d:Nat):(yW w o d).heap[w.heap.size]?=some o:=by simp[yW]
def Env.add (E:Env) (n b:Nat):Env where
 loc:=λm=>if m=n then some (b,0)else E.loc m
 fp:=λm c=>if m=n then c=b else E.fp m c
 used:=λm=>m=n∨E.used m
theorem Rel.none {E:Env} {h:Heap} {w:World} (R:Rel E h w) {n:Nat} (hn:¬E.used n):h n=none:=by
 cases e:h n with
 |none=>rfl
 |some o=>exact absurd (R.dom n (by simp[e])) hn
theorem Rel.fresh {E:Env} {h:Heap} {w:World} (R:Rel E h w):∃ n,¬E.used n:=let ⟨N,hN⟩:=R.fin;⟨N,hN N (fL _)⟩
theorem Ev.alloc {E:Env} {h:Heap} {w:World} (R:Rel E h w) {n:Nat} (hn:¬E.used n) (o:Obj) (x:cF) (d:Nat) :
  Ev E h w (E.add n w.heap.size) (bT h n x) (yW w o d):=by
 have hne:∀ m,E.used m->m≠n:=λm hm e=>hn (e▸hm)
 have hheap:∀ b,b<w.heap.size->(yW w o d).heap[b]?=w.heap[b]?:=pX w o d
 refine⟨by rw[qA];omega,λb hb=>⟨hheap b hb.1,⟨by have:=hb.1;rw[qA];omega,?_⟩⟩,λb hb=>by simp only[World.shape?,hheap b hb],λm hm=>?_,rfl,rfl⟩
 ·intro m y hm hy hf
  by_cases e:m=n
  ·subst e;have hf:b=w.heap.size:=by simpa[Env.add]using hf
   have:=hb.1;omega
  ·rw[aD _ _ _ _ e]at hm;exact hb.2 m y hm hy (by simpa[Env.add,e]using hf)
 ·have e:=hne m hm
  exact⟨by simp[Env.add,e],.inr hm⟩
theorem Rel.aUQ {E:Env} {h:Heap} {w:World} (R:Rel E h w) {n:Nat} (hn:¬E.used n) (o:Obj) (x:cF) (d:Nat)
  (hx:aJI (E.add n w.heap.size) (bT h n x) (yW w o d) n x):Rel (E.add n w.heap.size) (bT h n x) (yW w o d):=by
 have ev:=Ev.alloc R hn o x d
 have hheap:∀ b,b<w.heap.size->(yW w o d).heap[b]?=w.heap[b]?:=pX w o d
 refine⟨?_,?_,?_,?_,?_,R.laid.ev ev⟩
 ·obtain⟨N,hN⟩:=R.fin
  exact ⟨max N (n + 1), fun m hm => by rintro (e | e); · omega
                                       · exact hN m aA e⟩
 ·intro m hm
  by_cases e:m=n
  ·exact .inl e
  ·rw[aD _ _ _ _ e]at hm;exact .inr (R.dom m hm)
 ·intro m y b hm hy hb
  by_cases e:m=n
  ·subst e;have hb:b=w.heap.size:=by simpa[Env.add]using hb
   rw[qA];omega
  ·rw[aD _ _ _ _ e]at hm
   have:=R.lt m y b hm hy bFR
   rw[qA];omega
 ·intro m y m' y' b hm hy hm' hy' hb hb'
  by_cases e:m=n <;> by_cases e':m'=n
  ·rw[e,e']
  ·subst e;rw[aD _ _ _ _ e']at hm'
   have hb:b=w.heap.size:=by simpa[Env.add]using hb
   have:=R.lt m' y' b hm' hy' (by simpa[Env.add,e']using hb');omega
  ·subst e';rw[aD _ _ _ _ e]at hm
   have hb':b=w.heap.size:=by simpa[Env.add]using hb'
   have:=R.lt m y b hm hy bFR;omega
  ·rw[aD _ _ _ _ e]at hm;rw[aD _ _ _ _ e']at hm'
   exact R.apart m y m' y' b hm hy hm' hy' bFR (by simpa[Env.add,e']using hb')
 ·intro m y hm
  by_cases e:m=n
  ·subst e;rw[bG]at hm;obtain rfl:=dY hm;exact hx
  ·rw[aD _ _ _ _ e]at hm
   exact(R.obj m y hm).ev ev (by simp[Env.add,e]) (by funext c;simp[Env.add,e]) λc hy hc=>hheap c (R.lt m y c hm hy hc)
theorem aAC {α:Type} {sz:Nat}:∀ (es:List (List α)),(∀ e∈es,e.length=sz)->∀ i j x,kE es i j=some x->es.flatten[i*sz+j]?=some x
 | [],_,i,j,x,hx=>by simp[kE]at hx
 |e::es,hs,0,j,x,hx=>by
  simp only[kE,a32,a33]at hx
  have hl:=(mU.1 hx).1
  simp only[bKF,bE0,al4]
  rw[aGO hl];exact hx
 |e::es,hs,i+1,j,x,hx=>by
  have he:=hs e aS
  have ih:=aAC es (λe he=>hs e (by simp[he])) i j x (by simpa[kE]using hx)
  simp only[bKF]
  rw[aEC (by rw[he,aAT];omega)]
  rw[←ih];congr 1;rw[he,aAT];omega
theorem length_flatten {α:Type} {sz:Nat}:∀ (es:List (List α)),(∀ e∈es,e.length=sz)->es.flatten.length=es.length*sz
 | [],_=>by simp
 |e::es,hs=>by
  have he:=hs e aS
  have ih:=length_flatten es (λe he=>hs e (by simp[he]))
  simp[he,ih,aAT];omega
theorem wN {α β:Type} (f:α->β) (es:List (List α)) (i j:Nat):kE (es.map (List.map f)) i j=(kE es i j).map f:=by
 unfold kE
 rw[rM]
 cases es[i]? <;> simp
theorem Rel.aUR {E:Env} {h:Heap} {w:World} (R:Rel E h w) {n:Nat} (hn:¬E.used n) (sz:Nat) (es:List (List aC)) (hs:∀ e∈es,e.length=sz)
  (cs:Array Value) (t:TypeId) (d:Nat) (cv:Nat->Nat->Value) (hm:es.length*sz<=cs.size)
  (hc:∀ i j x,kE es i j=some x->cs[i*sz+j]?=some (cv i j)/\(cv i j).oneCell'=true/\fY E h w x (cv i j)) :
  Rel (E.add n w.heap.size) (bT h n (.row sz (es.map (List.map .v)))) (yW w (.cells cs t) d):=by
 refine R.aUQ hn _ _ d (.inl ⟨w.heap.size,0,by simp[Env.add],?_⟩)
 have ev:=Ev.alloc R hn (.cells cs t) (.row sz (es.map (List.map .v))) d
 refine⟨by simp[Env.add],?_,cs,t,cv,λ_ _ _=>False,?_,by simpa using hm,λ_ _ _ hf=>hf.elim,λ_ _ _ _ _ hf=>hf.elim,?_,?_⟩
 ·intro e he
  obtain⟨e',he',rfl⟩:=vZ.1 he
  simpa using hs e' he'
 ·exact xW _ _ _
 ·intro i j x hx
  rw[wN]at hx
  obtain⟨y,hy,rfl⟩:=xD.1 hx
  simpa using(hc i j y hy).1
 ·intro i j x hx
  rw[wN]at hx
  obtain⟨y,hy,rfl⟩:=xD.1 hx
  exact .v _ _ _ (hc i j y hy).2.1 ((hc i j y hy).2.2.ev ev)
theorem Ev.write {E:Env} {h:Heap} {w w':World} (R:Rel E h w) {n b:Nat} {x:cF} (hn:h n=some x) (hx:x.live) (hb:E.fp n b) (x':cF) (hx':x'.live)
  (hsize:w'.heap.size=w.heap.size) (hoth:∀ c,c≠b->w'.heap[c]?=w.heap[c]?) (hsh:w'.shape? b=w.shape? b) (hos:w'.os=w.os) (hout:w'.output=w.output) :
  Ev E h w E (bT h n x') w':=by
 refine⟨by omega,λc hc=>⟨hoth c λe=>hc.2 n x hn hx (e▸hb),⟨by have:=hc.1;omega,?_⟩⟩,λc hc=>?_,λm hm=>⟨rfl,?_⟩,hos,hout⟩
 ·intro m y hm hy
  by_cases e:m=n
  ·subst e;exact hc.2 m x hn hx
  ·rw[aD _ _ _ _ e]at hm;exact hc.2 m y hm hy
 ·by_cases e:c=b
  ·rw[e];exact hsh
  ·simp only[World.shape?,hoth c e]
 ·exact hm
theorem Rel.write {E:Env} {h:Heap} {w w':World} (R:Rel E h w) {n b:Nat} {x:cF} (hn:h n=some x) (hx:x.live) (hb:E.fp n b) (x':cF) (hx':x'.live)
  (hsize:w'.heap.size=w.heap.size) (hoth:∀ c,c≠b->w'.heap[c]?=w.heap[c]?) (hsh:w'.shape? b=w.shape? b) (hos:w'.os=w.os) (hout:w'.output=w.output)
  (hO:aJI E (bT h n x') w' n x'):Rel E (bT h n x') w':=by
 have ev:=Ev.write R hn hx hb x' hx' hsize hoth hsh hos hout
 refine⟨R.fin,?_,?_,?_,?_,R.laid.ev ev⟩
 ·intro m hm
  by_cases e:m=n
  ·subst e;exact R.dom m (by simp[hn])
  ·rw[aD _ _ _ _ e]at hm;exact R.dom m hm
 ·intro m y c hm hy hc
  rw[hsize]
  by_cases e:m=n
  ·subst e;exact R.lt m x c hn hx hc
  ·rw[aD _ _ _ _ e]at hm;exact R.lt m y c hm hy hc
 ·intro m y m' y' c hm hy hm' hy' hc hc'
  by_cases e:m=n <;> by_cases e':m'=n
  ·rw[e,e']
  ·subst e;rw[aD _ _ _ _ e']at hm';exact R.apart m x m' y' c hn hx hm' hy' hc hc'
  ·subst e';rw[aD _ _ _ _ e]at hm;exact R.apart m y m' x c hm hy hn hx hc hc'
  ·rw[aD _ _ _ _ e]at hm;rw[aD _ _ _ _ e']at hm';exact R.apart m y m' y' c hm hy hm' hy' hc hc'
 ·intro m y hm
  by_cases e:m=n
  ·subst e;rw[bG]at hm;obtain rfl:=dY hm;exact hO
  ·rw[aD _ _ _ _ e]at hm
   exact(R.obj m y hm).ev ev rfl rfl λc hy hc=>hoth c λeb=>e (R.apart m y n x b hm hy hn hx (eb▸hc) hb)
theorem vO.le {E:Env} {g h:Heap} {w:World} {b:Nat} (hl:g.le h) (i:vO E h w b):vO E g w b :=
 ⟨i.1, fun n o hn ho => i.2 n o (by rcases hl n with e | e
                                    · rw[e]at hn;simp at hn
                                    · rw[←e];exact hn) ho⟩
theorem fY.zW {E:Env} {g h:Heap} {w:World} (hi:∀ b,vO E h w b->vO E g w b) {x:aC} {v:Value} (r:fY E h w x v):fY E g w x v:=by
 induction r with
 |any v=>exact .any v
 |bool b=>exact .bool b
 |int k n=>exact .int k n
 |str s hl=>exact .str s hl
 |lB=>exact .lB
 |aV=>exact .aV
 |xS=>exact .xS
 |lS=>exact .lS
 |rP=>exact .rP
 |sl0 sz t a cap ht hmax ha=>exact .sl0 sz t a cap ht hmax ha
 |sl sz es t b o cap cv hb hcap hmax ht hs hc h1 hr ih=>exact .sl sz es t b o cap cv (hi b hb) hcap hmax ht hs hc h1 ih
 |ip sz es i off b o cv hb hs hc h1 hr ih=>exact .ip sz es i off b o cv (hi b hb) hs hc h1 ih
 |os n sz i len b o cap t m hd hl hlc hmax hsh hm=>exact .os n sz i len b o cap t m hd hl hlc hmax hsh hm
 |os0 n sz hd hl=>exact .os0 n sz hd hl
 |op n sz i off b o hd hl=>exact .op n sz i off b o hd hl
 |agg cs vs hl hr ih=>exact .agg cs vs hl ih
 |iF cs vs hl hr ih=>exact .iF cs vs hl ih
 |fn f cs ds vs us hl hr hl' hr' ih ih'=>exact .fn f cs ds vs us hl ih hl' ih'
 |iface t x v hr ih=>exact .iface t x v ih
 |mp n b o hd hl=>exact .mp n b o hd hl
theorem eT.zW {E:Env} {g h:Heap} {w:World} (hi:∀ b,vO E h w b->vO E g w b):∀ {xs:List aC} {vs:List Value},eT E h w xs vs->eT E g w xs vs
 | [],[],_=>trivial
 | _::_,_::_,hh=>⟨hh.1.zW hi,eT.zW hi hh.2⟩
 | [],_::_,hh=>hh.elim
 | _::_,[],hh=>hh.elim
theorem aA6.zW {E:Env} {g h:Heap} {w:World} (hi:∀ b,vO E h w b->vO E g w b) {x:Cell} {v:Value} {S:Nat->Prop} (r:aA6 E h w x v S):aA6 E g w x v S:=by
 induction r with
 |v x c S h1 hx=>exact .v x c S h1 (hx.zW hi)
 |a4E sz a cap S hmax ha=>exact .a4E sz a cap S hmax ha
 |own sz es b o cap S cs t cv T hb hh hlc hmax hm hs hT hD hc hr ih=>exact .own sz es b o cap S cs t cv T hb hh hlc hmax hm hs hT hD hc ih
theorem aJI.zW {E:Env} {g h:Heap} {w:World} (hi:∀ b,vO E h w b->vO E g w b) {n:Nat} {o:cF} (r:aJI E h w n o):aJI E g w n o:=by
 cases o with
 |row sz es =>
  rcases r with⟨b,o,hb,hbS,hs,cs,t,cv,T,hh,hm,hT,hD,hcc,hrr⟩|r
  ·exact .inl ⟨b,o,hb,hbS,hs,cs,t,cv,T,hh,hm,hT,hD,hcc,λi j x hx=>(hrr i j x hx).zW hi⟩
  ·exact .inr r
 |map kt et l =>
  obtain⟨b,o,hb,hbS,es,clock,hh,hk,h1,h2⟩:=r
  exact⟨b,o,hb,hbS,es,clock,hh,hk,h1.zW hi,h2.zW hi⟩
 |raw t cs=>exact r
 |abs Q=>exact r
 |gone=>trivial
theorem Rel.forget {E:Env} {g h:Heap} {w:World} (R:Rel E h w) (hl:g.le h):Rel E g w:=by
 have hgl:∀ n o,g n=some o->h n=some o:=λn o hg=>by
  rcases hl n with e|e
  ·rw[e]at hg;simp at hg
  ·rw[←e];exact hg
 refine⟨R.fin,λn hn=>R.dom n ?_,λn o b hn=>R.lt n o b (hgl n o hn),λn o m o' b hn ho hm=>R.apart n o m o' b (hgl n o hn) ho (hgl m o' hm),
  λn o hn=>(R.obj n o (hgl n o hn)).zW λb=>vO.le hl,R.laid.zW λb=>vO.le hl⟩
 rcases hl n with e|e
 ·exact absurd e hn
 ·rw[←e];exact hn
theorem Ev.forget {E E':Env} {h h' g:Heap} {w w':World} (ev:Ev E h w E' h' w') (hl:g.le h'):Ev E h w E' g w' :=
 ⟨ev.size,λb hb=>⟨(ev.keep b hb).1,(ev.keep b hb).2.le hl⟩,ev.shape,ev.loc,ev.os,ev.out⟩
theorem aJK {E:Env} {h:Heap} {w:World} (n:Nat) (b:Nat) (i:vO E h w b):vO E (bT h n .gone) w b :=
 ⟨i.1,λm o hm ho=>by
  by_cases e:m=n
  ·subst e;rw[bG]at hm;obtain rfl:=dY hm;exact ho.elim
  ·rw[aD _ _ _ _ e]at hm;exact i.2 m o hm ho⟩
theorem aNB {E:Env} {h:Heap} {w:World} (R:Rel E h w) {n:Nat} {x:cF} (hn:h n=some x) (hx:x.live) (b:Nat) (hb:E.fp n b):vO E (bT h n .gone) w b :=
 ⟨R.lt n x b hn hx hb,λm o hm ho hf=>by
  by_cases e:m=n
  ·subst e;rw[bG]at hm;obtain rfl:=dY hm;exact ho.elim
  ·rw[aD _ _ _ _ e]at hm;exact e (R.apart m o n x b hm ho hn hx hf hb)⟩
theorem Rel.gone {E:Env} {h:Heap} {w:World} (R:Rel E h w) {n:Nat} {x:cF} (hn:h n=some x):Rel E (bT h n .gone) w:=by
 refine⟨R.fin,λm hm=>?_,?_,?_,?_,R.laid.zW λb=>aJK n b⟩
 ·by_cases e:m=n
  ·subst e;exact R.dom m (by simp[hn])
  ·rw[aD _ _ _ _ e]at hm;exact R.dom m hm
 ·intro m o b hm ho
  by_cases e:m=n
  ·subst e;rw[bG]at hm;obtain rfl:=dY hm;exact ho.elim
  ·rw[aD _ _ _ _ e]at hm;exact R.lt m o b hm ho
 ·intro m o m' o' b hm ho hm' ho'
  by_cases e:m=n
  ·subst e;rw[bG]at hm;obtain rfl:=dY hm;exact ho.elim
  ·by_cases e':m'=n
   ·subst e';rw[bG]at hm';obtain rfl:=dY hm';exact ho'.elim
   ·rw[aD _ _ _ _ e]at hm;rw[aD _ _ _ _ e']at hm';exact R.apart m o m' o' b hm ho hm' ho'
 ·intro m o hm
  by_cases e:m=n
  ·subst e;rw[bG]at hm;obtain rfl:=dY hm;trivial
  ·rw[aD _ _ _ _ e]at hm;exact(R.obj m o hm).zW λb=>aJK n b
theorem Ev.gone {E:Env} {h:Heap} {w:World} (n:Nat):Ev E h w E (bT h n .gone) w :=
 ⟨fL _,λb hb=>⟨rfl,aJK n b hb⟩,λ_ _=>rfl,λ_ hn=>⟨rfl,hn⟩,rfl,rfl⟩
mutual
def Cell.val:Cell->aC
 | .v x=>x
 | .own sz es=>.sl sz (jD es) false
def jD:List (List Cell)->List (List aC)
 | []=>[]
 |e::es=>aLI e::jD es
def aLI:List Cell->List aC
 | []=>[]
 |c::cs=>c.val::aLI cs
end
theorem aUS:∀ (e:List Cell),aLI e=e.map Cell.val
 | []=>rfl
 |c::cs=>by simp[aLI,aUS cs]
theorem aCU:∀ (es:List (List Cell)),jD es=es.map (List.map Cell.val)
 | []=>rfl
 |e::es=>by simp[jD,aCU es,aUS]
theorem wS (es:List (List Cell)) (i j:Nat):kE (jD es) i j=(kE es i j).map Cell.val:=by
 rw[aCU,wN]
theorem yX (es:List (List Cell)):(jD es).length=es.length:=by rw[aCU,k5]
theorem aCV {sz:Nat} {es:List (List Cell)} (hs:∀ e∈es,e.length=sz):∀ e∈jD es,e.length=sz:=by
 intro e he
 rw[aCU]at he
 obtain⟨e',he',rfl⟩:=vZ.1 he
 simpa using hs e' he'
theorem aA6.yY {E:Env} {h g:Heap} {w:World} {x:Cell} {v:Value} {S:Nat->Prop} (hi:∀ b,vO E h w b->vO E g w b)
  (r:aA6 E h w x v S) (hS:∀ c,S c->vO E g w c):fY E g w x.val v:=by
 induction r with
 |v x c S h1 hx=>exact hx.zW hi
 |a4E sz a cap S hmax ha =>
  simp only[Cell.val,jD]
  exact .sl0 sz false a cap (λe=>by simp at e) hmax ha
 |own sz es b o cap S cs t cv T hb hh hlc hmax hm hs hT hD hc hr ih =>
  simp only[Cell.val]
  have:=fY.sl (E:=E) (h:=g) (w:=w) sz (jD es) false b o cap cv (hS b hb) (by rw[yX];exact hlc) hmax (λe=>by simp at e) (aCV hs)
   (λi j x hx=>by
    rw[wS]at hx
    obtain⟨y,hy,rfl⟩:=xD.1 hx
    simp only[World.cell?,hh];exact hc i j y hy)
   (λi j x hx=>by
    rw[wS]at hx
    obtain⟨y,hy,rfl⟩:=xD.1 hx
    exact(hr i j y hy).one)
   (λi j x hx=>by
    rw[wS]at hx
    obtain⟨y,hy,rfl⟩:=xD.1 hx
    exact ih i j y hy λc hc=>hS c (hT i j c hc).1)
  rw[yX]at this
  exact this
section types
variable {P:Program} {w:World} {t:TypeId} {r:nK}
theorem jE (h:gZ P t=some r):(sizeOf t).run P w=.ok r.sz w:=by
 obtain⟨i,u,hi,hu,h1,_⟩:=uY h
 simp[sizeOf,typeInfo,hi,h1]
theorem a4G (h:gZ P t=some r):(isAgg t).run P w=.ok r.agg w:=by
 obtain⟨i,u,hi,hu,h1,h2,h3,h4,h5⟩:=uY h
 rw[h4]
 cases u <;> simp[isAgg,underlying,hu]
theorem dA (h:gZ P t=some r):∃ u,P.underlying t=some u/\tyD P u=r.d/\(underlying t).run P w=.ok u w:=by
 obtain⟨i,u,hi,hu,h1,h2,h3,h4,h5⟩:=uY h
 exact⟨u,hu,h3.symm,by simp[underlying,hu]⟩
theorem tB (h:gZ P t=some r) (hz:r.zero≠[]):∃ z,(zeroValue t).run P w=.ok z w/\z.cells.toList.map aC.ofValue=r.zero:=by
 obtain⟨i,u,hi,hu,h1,h2,h3,h4,h5⟩:=uY h
 cases e:i.zero with
 |none=>rw[h5,e]at hz;exact absurd rfl hz
 |some z=>exact⟨z,by simp[zeroValue,typeInfo,hi,e],by rw[h5,e]⟩
theorem jW {u:TypeDesc} {e:TypeId} (h:tyD P u=.slice e):u=.slice e:=by
 cases u <;> simp[tyD]at h ⊢ <;> first|exact h|(split at h <;> simp at h)
theorem bKZ {u:TypeDesc} {n:Nat} {e:TypeId} (h:tyD P u=.arr n e):u=.array n e:=by
 cases u <;> simp[tyD]at h ⊢ <;> first|exact h|(split at h <;> simp at h)
theorem aJL {u:TypeDesc} (h:tyD P u=.str):u=.string:=by
 cases u <;> simp[tyD]at h ⊢ <;> (split at h <;> simp at h)
theorem bFW {u:TypeDesc} (h:tyD P u=.bool):u=.bool:=by
 cases u <;> simp[tyD]at h ⊢ <;> (split at h <;> simp at h)
theorem a9P {u:TypeDesc} {k:IntKind} (h:tyD P u=.int k):u=.int k:=by
 cases u <;> simp[tyD]at h ⊢ <;> first|exact h|(split at h <;> simp at h)
theorem bFX {u:TypeDesc} {fs:List (Nat×TypeId×Nat)} (h:tyD P u=.st fs):∃ gs:Array Field,u=.struct gs/\gs.toList.all (λf=>(P.info? f.type).isSome)=true/\gs.toList.map (λf=>(f.offset,f.type,P.cellsOf f.type))=fs:=by
 cases u with
 |struct gs =>
  simp only[tyD]at h
  split at h
  ·rename_i hg;exact⟨gs,rfl,hg,by simpa using h⟩
  ·simp at h
 | _=>simp[tyD]at h
theorem aES {f:Field} (h:(P.info? f.type).isSome=true):(sizeOf f.type).run P w=.ok (P.cellsOf f.type) w:=by
 cases e:P.info? f.type with
 |none=>simp[e]at h
 |some i=>simp[sizeOf,typeInfo,e,Program.cellsOf]
end types
def aC.flat:aC->Bool
 | .any | .agg _ | .iF _=>false
 | _=>true
def aC.cells:aC->List aC
 | .agg cs=>cs
 |x=>[x]
theorem fY.uZ {E:Env} {h:Heap} {w:World} {x:aC} {v:Value} (r:fY E h w x v) (hf:x.flat=true):v.oneCell'=true/\v.cells=#[v]:=by
 cases r <;> simp[aC.flat]at hf <;> exact⟨rfl,rfl⟩
theorem fY.aLJ {E:Env} {h:Heap} {w:World} {x:aC} {v:Value} (r:fY E h w x v) (hf:x.cells.all aC.flat=true) :
  eT E h w x.cells v.cells.toList/\∀ c∈v.cells.toList,c.oneCell'=true:=by
 cases hx:x with
 |agg cs =>
  subst hx
  cases r with
  |agg _ vs hl hr =>
   have hL:eT E h w cs vs:=eT.mk hl hr
   refine⟨by simpa[aC.cells,Value.cells]using hL,?_⟩
   intro c hc
   have hc:c∈vs:=by simpa[Value.cells]using hc
   obtain⟨i,hi⟩:=bKG hc
   have hlt:i<cs.length:=by rw[hl];exact(mU.1 hi).1
   have hx:cs[i]?=some cs[i]:=b6 hlt
   have:=hr i _ c hx hi
   exact(this.uZ (by simp only[aC.cells]at hf;exact zV.1 hf _ (dG hlt))).1
 | _ =>
  subst hx
  first
   |(simp[aC.cells,aC.flat]at hf;done)
   |(obtain⟨h1,h2⟩:=r.uZ rfl
     rw[h2]
     exact⟨⟨r,trivial⟩,λc hc=>by simp at hc;rw[hc];exact h1⟩)
def aET:List Cell->Option (List aC)
 | []=>some []
 | .v x::cs=>(aET cs).map (x::·)
 | .own _ _::_=>none
theorem aHB:∀ {l:List Cell} {xs:List aC},aET l=some xs->l=xs.map .v
 | [],xs,h=>by simp[aET]at h;subst h;rfl
 | .v x::cs,xs,h=>by
  simp only[aET,xD]at h
  obtain⟨ys,hy,rfl⟩:=h
  simp[aHB hy]
 | .own _ _::_,xs,h=>by simp[aET]at h
def ld (r:nK) (e:List aC) (off:Nat):Option aC :=
 if r.agg then(if off+r.sz<=e.length then some (.agg ((e.drop off).take r.sz))else none)else e[off]?
def aNC (r:nK) (e:List Cell) (off:Nat):Option aC :=
 if r.agg then(if off+r.sz<=e.length then(aET ((e.drop off).take r.sz)).map .agg else none)
 else match e[off]? with|some (.v x)=>some x|_=>none
theorem aJM {P:Program} {w:World} {t:TypeId} {r:nK} (ht:gZ P t=some r) {b o:Nat} (f:Nat->Value)
  (hc:∀ j,j<(if r.agg then r.sz else 1)->w.cell? ⟨b,o+j,none⟩=some (f j)) :
  (loadVar t ⟨b,o,none⟩).run P w=.ok (if r.agg then .agg ((List.range r.sz).map f).toArray else f 0) w:=by
 simp only[loadVar,Sem.run_bind,a4G ht,Result.andThen_ok]
 cases ha:r.agg with
 |true =>
  simp only[ha,if_true]at hc ⊢
  simp only[Sem.run_bind,jE ht,Result.andThen_ok]
  rw[run_loadCells w ⟨b,o,none⟩ r.sz f (λj hj=>by rw[←hc j hj];simp only[Addr.add];split <;> simp_all)]
  simp
 |false =>
  simp only[ha,aWG,if_false]at hc ⊢
  have:=hc 0 aA
  simp only[a34]at this
  simp[this]
section
variable {P:Program} {o:Oper} {ρ:Operand->aC} {h:Heap} {K:aC->Heap->Prop}
theorem aND {E:Env} {w:World} {v:Value} (t:TypeId) (r:nK) (sz i off:Nat) (es:List (List aC)) (e:List aC) (x:aC) (ht:gZ P t=some r)
  (hr:fY E h w (.ip sz es i off) v) (he:es[i]?=some e) (hx:ld r e off=some x):∃ b o c,v=.pointer (some ⟨b,o,none⟩)/\(loadVar t ⟨b,o,none⟩).run P w=.ok c w/\fY E h w x c:=by
  cases hr with
  |ip _ _ _ _ b o' cv hi hs hc h1 hrr =>
   have hsz:=hs e (rS he)
   have hat:∀ j y,e[j]?=some y->kE es i j=some y:=λj y hy=>by simp[kE,he,hy]
   have hcell:∀ j,j<(if r.agg then r.sz else 1)->off+j<e.length:=by
    intro j hj
    unfold ld at hx
    cases hg:r.agg with
    |true =>
     simp only[hg,if_true]at hx hj
     split at hx
     ·omega
     ·simp at hx
    |false =>
     simp only[hg,aWG,if_false]at hx hj
     have:=(mU.1 hx).1
     omega
   have hload:=aJM (P:=P) (w:=w) ht (b:=b) (o:=o'+i*sz+off) (λj=>cv i (off+j)) (λj hj=>by
    have:=hc i (off+j) _ (hat (off+j) _ (b6 (hcell j hj)))
    rw[←this];congr 2;omega)
   refine⟨_,_,_,rfl,hload,?_⟩
   unfold ld at hx
   cases hg:r.agg with
   |true =>
    simp only[hg,if_true]at hx hcell ⊢
    split at hx
    ·rename_i hle
     obtain rfl:=dY hx
     refine .agg _ _ pW ?_
     intro j y v hy hv
     have hj:j<r.sz:=by have:=(mU.1 hv).1;simpa using this
     simp only[rM,bCT hj,aOA,bCU]at hv
     subst hv
     rw[aWH hj,aPR]at hy
     exact hrr i (off+j) y (hat _ _ hy)
    ·simp at hx
   |false =>
    simp only[hg,aWG,if_false,a34]at hx hcell ⊢
    exact hrr i off x (hat _ _ hx)
theorem a0L (t:TypeId) (a:Operand) (r:nK) (sz i off:Nat) (es:List (List aC)) (e:List aC) (x:aC) (ho:o.op=.load t a) (ht:gZ P t=some r)
  (ha:ρ a=.ip sz es i off) (he:es[i]?=some e) (hx:ld r e off=some x) (hk:K x h):rI P o ρ h K :=
 dJ hk λE w ρc _ hρ=>by
  obtain⟨b,k,c,hv,hrun,hc⟩:=aND (P:=P) t r sz i off es e x ht (ha▸hρ a) he hx
  exact⟨c,by simp only[execOp,ho,Instr.loadAt,hv,Instr.sureAddr,Sem.run_bind,Sem.run_pure,Result.andThen_ok,hrun],hc⟩
theorem aEU {E:Env} {w:World} (R:Rel E h w) {n sz:Nat} {es:List (List Cell)} (hn:h n=some (.row sz es)) (hne:es≠[]∨∃ x,E.loc n=some x) :
  ∃ b o,E.loc n=some (b,o)/\aUP E h w b o sz es (E.fp n):=by
 rcases R.obj n _ hn with h1|h1
 ·exact h1
 ·rcases hne with h2|⟨x,h2⟩
  ·exact absurd h1.1 h2
  ·rw[h1.2]at h2;simp at h2
theorem aUT {α:Type} {es:List α} {i:Nat} {e:α} (h:es[i]?=some e):es≠[]:=by rintro rfl;simp at h
theorem aNE {E:Env} {w:World} {v:Value} (R:Rel E h w) (t:TypeId) (r:nK) (n sz i off:Nat) (es:List (List Cell)) (e:List Cell) (x:aC) (ht:gZ P t=some r)
  (hr:fY E h w (.op n sz i off) v) (hn:h n=some (.row sz es)) (he:es[i]?=some e) (hx:aNC r e off=some x):∃ b o c,v=.pointer (some ⟨b,o,none⟩)/\(loadVar t ⟨b,o,none⟩).run P w=.ok c w/\fY E h w x c:=by
  obtain⟨b,o',hl,hb,hs,cs,ct,cv,T,hh,hm,hT,hD,hc,hrr⟩:=aEU R hn (.inl (aUT he))
  cases hr with
  |op _ _ _ _ b' o'' hd hl' =>
   rw[hl]at hl'
   obtain⟨rfl,rfl⟩:=nI (dY hl')
   have hsz:=hs e (rS he)
   have hat:∀ j y,e[j]?=some y->kE es i j=some y:=λj y hy=>by simp[kE,he,hy]
   have hcell:∀ j,j<(if r.agg then r.sz else 1)->off+j<e.length:=by
    intro j hj
    unfold aNC at hx
    cases hg:r.agg with
    |true =>
     simp only[hg,if_true]at hx hj
     split at hx
     ·omega
     ·simp at hx
    |false =>
     simp only[hg,aWG,if_false]at hx hj
     split at hx
     ·rename_i he'
      have:=(mU.1 he').1
      omega
     ·simp at hx
   have hload:=aJM (P:=P) (w:=w) ht (b:=b) (o:=o'+i*sz+off) (λj=>cv i (off+j)) (λj hj=>by
    have:=hc i (off+j) _ (hat (off+j) _ (b6 (hcell j hj)))
    simp only[World.cell?,hh];rw[←this];simp;congr 1;omega)
   refine⟨_,_,_,rfl,hload,?_⟩
   have hval:∀ j y,e[j]?=some (.v y)->fY E h w y (cv i j):=λj y hy=>by
    have:=hrr i j _ (hat _ _ hy)
    generalize cv i j=c at this
    generalize T i j=S at this
    cases this with
    |v _ _ _ _ hx=>exact hx
   unfold aNC at hx
   cases hg:r.agg with
   |true =>
    simp only[hg,if_true]at hx hcell ⊢
    split at hx
    ·rename_i hle
     obtain⟨xs,hxs,rfl⟩:=xD.1 hx
     have hxs:=aHB hxs
     have hlen:xs.length=r.sz:=by have:=congrArg List.length hxs;simp at this;omega
     refine .agg _ _ (by simp[hlen]) ?_
     intro j y v hy hv
     have hj:j<r.sz:=by have:=(mU.1 hv).1;simpa using this
     simp only[rM,bCT hj,aOA,bCU]at hv
     subst hv
     refine hval (off+j) y ?_
     have:((e.drop off).take r.sz)[j]?=some (.v y):=by rw[hxs,rM,hy];rfl
     rwa [aWH hj,aPR]at this
    ·simp at hx
   |false =>
    simp only[hg,aWG,if_false,a34]at hx hcell ⊢
    split at hx
    ·rename_i y he'
     obtain rfl:=dY hx
     exact hval off _ he'
    ·simp at hx
theorem a0M (t:TypeId) (a:Operand) (r:nK) (n sz i off:Nat) (es:List (List Cell)) (e:List Cell) (x:aC) (ho:o.op=.load t a) (ht:gZ P t=some r)
  (ha:ρ a=.op n sz i off) (hn:h n=some (.row sz es)) (he:es[i]?=some e) (hx:aNC r e off=some x) (hk:K x h):rI P o ρ h K :=
 dJ hk λE w ρc R hρ=>by
  obtain⟨b,k,c,hv,hrun,hc⟩:=aNE (P:=P) R t r n sz i off es e x ht (ha▸hρ a) hn he hx
  exact⟨c,by simp only[execOp,ho,Instr.loadAt,hv,Instr.sureAddr,Sem.run_bind,Sem.run_pure,Result.andThen_ok,hrun],hc⟩
end
set_option linter.unusedVariables false
set_option linter.unusedSimpArgs false
def r8 (e:List Cell) (off:Nat):List aC->List Cell
 | []=>e
 |v::vs=>r8 (e.set off (.v v)) (off+1) vs
theorem nL {w:World} {b:Nat} {cs:Array Value} {t:TypeId} {f:Nat×Nat} (h:w.heap[b]?=some (.cells cs t f)):w.shape? b=some (t,cs.size):=by
 simp[World.shape?,h]
theorem aNF {es:List (List Cell)} {i j i' j':Nat} {e:List Cell} {c x:Cell} (he:es[i]?=some e) (hx:kE (es.set i (e.set j c)) i' j'=some x) :
  (i'=i/\j'=j/\x=c)∨(¬(i'=i/\j'=j)/\kE es i' j'=some x):=by
 have hi:=(mU.1 he).1
 unfold kE at *
 by_cases e1:i'=i
 ·subst e1
  rw[a35 hi]at hx
  simp only[a33]at hx
  by_cases e2:j'=j
  ·subst e2
   left
   have hj:j'<e.length:=by have:=(mU.1 hx).1;simpa using this
   rw[a35 hj]at hx
   exact⟨rfl,rfl,(dY hx).symm⟩
  ·right
   rw[aZL (λe3=>e2 e3.symm)]at hx
   exact⟨λh=>e2 h.2,by rw[he];exact hx⟩
 ·right
  rw[aZL (λe2=>e1 e2.symm)]at hx
  exact⟨λh=>e1 h.1,hx⟩
theorem aHC {i n sz j:Nat} (hi:i<n) (hj:j<sz):i*sz+j<n*sz:=by
 have:=bE1 sz (Nat.succ_le_of_lt hi)
 rw[bE2]at this
 omega
theorem bK0 {sz i j i' j':Nat} (hj:j<sz) (hj':j'<sz) (h:i*sz+j=i'*sz+j'):i=i'/\j=j':=by
 have h1:(i*sz+j) / sz=i:=by rw[aWI,Nat.mul_add_div aA,bKH hj];omega
 have h2:(i'*sz+j') / sz=i':=by rw[aWI,Nat.mul_add_div aA,bKH hj'];omega
 have:i=i':=by rw[←h1,←h2,h]
 subst this
 exact⟨rfl,by omega⟩
theorem bC0 {P:Program} {E:Env} {h:Heap} {w:World} (R:Rel E h w) {n sz:Nat} {es:List (List Cell)} (hn:h n=some (.row sz es)) {b o:Nat} (hl:E.loc n=some (b,o))
  {i j:Nat} {e:List Cell} (he:es[i]?=some e) (hj:j<e.length) {x:aC} {c:Value} (hone:c.oneCell'=true) (hx:fY E h w x c) :
  (store ⟨b,o+i*sz+j,none⟩ c).run P w=.ok () (w.setCell ⟨b,o+i*sz+j,none⟩ c) /\
  Ev E h w E (bT h n (.row sz (es.set i (e.set j (.v x))))) (w.setCell ⟨b,o+i*sz+j,none⟩ c) /\
  Rel E (bT h n (.row sz (es.set i (e.set j (.v x))))) (w.setCell ⟨b,o+i*sz+j,none⟩ c):=by
 obtain⟨b',o',hl',hb,hs,cs,ct,cv,T,hh,hm,hT,hD,hc,hrr⟩:=aEU R hn (.inl (aUT he))
 rw[hl]at hl'
 obtain⟨rfl,rfl⟩:=nI (dY hl')
 have hsz:=hs e (rS he)
 have hi:=(mU.1 he).1
 have hat:kE es i j=some e[j]:=by simp[kE,he,b6 hj]
 have hcell:=hc i j _ hat
 have hlt:o+i*sz+j<cs.size:=(aWF.1 hcell).1
 have hw?:w.cell? ⟨b,o+i*sz+j,none⟩=some (cv i j):=by simp only[World.cell?,hh];simpa using hcell
 have hfz:w.frozen? ⟨b,o+i*sz+j,none⟩=false:=by simp[World.frozen?,hh]
 have hrun:(store ⟨b,o+i*sz+j,none⟩ c).run P w=.ok () (w.setCell ⟨b,o+i*sz+j,none⟩ c):=by
  rw[run_store P w _ _ _ hone,hw?];simp[hfz]
 have hheap:(w.setCell ⟨b,o+i*sz+j,none⟩ c).heap[b]?=some (.cells (cs.setIfInBounds (o+i*sz+j) c) ct (0,0)):=by
  simp[World.setCell,Array.getElem?_modify,hh]
 have hoth:∀ k,k≠b->(w.setCell ⟨b,o+i*sz+j,none⟩ c).heap[k]?=w.heap[k]?:=λk hk=>by
  simp[World.setCell,Array.getElem?_modify,iR hk]
 have hsh:(w.setCell ⟨b,o+i*sz+j,none⟩ c).shape? b=w.shape? b:=by rw[nL hheap,nL hh];simp
 have ev:=Ev.write R hn trivial hb (.row sz (es.set i (e.set j (.v x)))) trivial (World.size_setCell _ _ _) hoth hsh rfl rfl
 refine⟨hrun,ev,R.write hn trivial hb _ trivial (World.size_setCell _ _ _) hoth hsh rfl rfl (.inl ⟨b,o,hl,hb,?_,cs.setIfInBounds (o+i*sz+j) c,ct,
  λi' j'=>if i'=i/\j'=j then c else cv i' j',T,hheap,by simpa using hm,hT,hD,?_,?_⟩)⟩
 ·intro e' he'
  rcases a36 he' with h1|h1
  ·exact hs e' h1
  ·rw[h1];simpa using hsz
 ·intro i' j' y hy
  rcases aNF he hy with⟨rfl,rfl,rfl⟩|⟨hne,hy'⟩
  ·simp[Array.getElem?_setIfInBounds,hlt]
  ·have hj':=aOO hs hy'
   have:o+i*sz+j≠o+i'*sz+j':=λe=>hne (by
    have:=bK0 (sz:=sz) (i:=i) (j:=j) (i':=i') (j':=j') aA hj' aA
    exact⟨this.1.symm,this.2.symm⟩)
   simp only[if_neg hne]
   rw[a38 this]
   exact hc i' j' y hy'
 ·intro i' j' y hy
  rcases aNF he hy with⟨rfl,rfl,rfl⟩|⟨hne,hy'⟩
  ·simp only[and_self,if_true]
   exact .v _ _ _ hone (hx.ev ev)
  ·simp only[if_neg hne]
   exact(hrr i' j' y hy').ev ev λk hk=>hoth k (hT i' j' k hk).2
theorem aWL (es:List (List Cell)) (i:Nat) (a b:List Cell):(es.set i a).set i b=es.set i b:=by simp
theorem aP9 {P:Program} {n sz:Nat} {b o i:Nat}:∀ (xs:List aC) (vs:List Value) {E:Env} {h:Heap} {w:World} (R:Rel E h w) {es:List (List Cell)} (hn:h n=some (.row sz es)) (hl:E.loc n=some (b,o))
  {j k:Nat} {e:List Cell} (he:es[i]?=some e) (hj:j+k+xs.length<=e.length) (hone:∀ c∈vs,c.oneCell'=true) (hx:eT E h w xs vs),
  ∃ w',(storeCells ⟨b,o+i*sz+j,none⟩ vs k).run P w=.ok () w'/\Ev E h w E (bT h n (.row sz (es.set i (r8 e (j+k) xs)))) w'/\Rel E (bT h n (.row sz (es.set i (r8 e (j+k) xs)))) w'
 | [],[],E,h,w,R,es,hn,hl,j,k,e,he,hj,hone,hx=>by
  refine⟨w,by simp[storeCells],?_⟩
  have hi:=(mU.1 he).1
  have:es.set i (r8 e (j+k) [])=es:=by
   have:es[i]=e:=(mU.1 he).2
   simp[r8,←this]
  rw[this]
  have:bT h n (.row sz es)=h:=by funext m;simp only[bT];split <;> simp_all
  rw[this]
  exact⟨.refl _ _ _,R⟩
 |x::xs,c::vs,E,h,w,R,es,hn,hl,j,k,e,he,hj,hone,hx=>by
  have hlen:j+k<e.length:=by simp at hj;omega
  obtain⟨h1,h2,h3⟩:=bC0 (P:=P) R hn hl he hlen (hone c aS) hx.1
  have hi:=(mU.1 he).1
  have he':(es.set i (e.set (j+k) (.v x)))[i]?=some (e.set (j+k) (.v x)):=by rw[a35 hi]
  obtain⟨w',hw',ev',R'⟩:=aP9 xs vs h3 (bG _ _ _) hl (j:=j) (k:=k+1) he' (by simp at hj ⊢;omega) (λc hc=>hone c (by simp[hc])) (hx.2.ev h2)
  rw[aF,aWL]at ev' R'
  have hst:r8 e (j+k) (x::xs)=r8 (e.set (j+k) (.v x)) (j+(k+1)) xs:=by simp only[r8];rfl
  rw[hst]
  refine⟨w',?_,h2.trans ev',R'⟩
  simp only[storeCells,Sem.run_bind]
  have ha:(⟨b,o+i*sz+j,none⟩:Addr).add k=⟨b,o+i*sz+(j+k),none⟩:=by
   simp only[Addr.add];split
   ·subst_vars;rfl
   ·simp
  rw[ha,h1]
  exact hw'
 | [],_::_,_,_,_,_,_,_,_,_,_,_,_,_,_,hx=>hx.elim
 | _::_,[],_,_,_,_,_,_,_,_,_,_,_,_,_,hx=>hx.elim
section
variable {P:Program} {o:Oper} {ρ:Operand->aC} {h:Heap} {K:aC->Heap->Prop}
theorem bC1 (t:TypeId) (a v:Operand) (r:nK) (n sz i off:Nat) (es:List (List Cell)) (e:List Cell) (ho:o.op=.store t a v) (ht:gZ P t=some r)
  (ha:ρ a=.op n sz i off) (hn:h n=some (.row sz es)) (he:es[i]?=some e) (hf:(ρ v).cells.all aC.flat=true) (hsz:(ρ v).cells.length=r.sz) (hoff:off+r.sz<=e.length)
  (hk:K .any (bT h n (.row sz (es.set i (r8 e off (ρ v).cells))))):rI P o ρ h K:=by
 intro E w ρc R hρ
 have hr:=hρ a
 rw[ha]at hr
 cases hv:ρc a <;> rw[hv]at hr <;> try(cases hr;done)
 cases hr with
 |op _ _ _ _ b o' hd hl =>
  obtain⟨hL,h1⟩:=(hρ v).aLJ hf
  obtain⟨w',hrun,ev,R'⟩:=aP9 (P:=P) _ _ R hn hl (j:=off) (k:=0) he aA h1 hL
  simp only[a34]at ev R'
  have hsize:(ρc v).cells.size=r.sz:=by have:=hL.length;simp at this;omega
  refine .bKX (w':=w') ?_ ⟨.any,_,E,hk,ev,R',.any _⟩
  simp only[execOp,ho,Instr.storeAt,hv,Instr.sureAddr,Sem.run_bind,Sem.run_pure,Result.andThen_ok,storeVar,jE ht,hsize,ne_eq,not_true_eq_false,if_false,hrun,Sem.run_ite]
end
theorem aAD {es:List (List aC)} {sz i j:Nat} {x:aC} (hs:∀ e∈es,e.length=sz) (hx:kE es i j=some x):i*sz+j<es.length*sz :=
 aHC (bFS hx) (aOO hs hx)
theorem Rel.aQA {E:Env} {h:Heap} {w:World} (R:Rel E h w) {n:Nat} (hn:¬E.used n) (sz:Nat) (es:List (List aC)) (hs:∀ e∈es,e.length=sz)
  (cs:Array Value) (t:TypeId) (d:Nat) (vs rest:List Value) (hcs:cs.toList=vs++rest) (hL:eT E h w es.flatten vs) (h1:∀ c∈vs,c.oneCell'=true) :
  Rel (E.add n w.heap.size) (bT h n (.row sz (es.map (List.map .v)))) (yW w (.cells cs t) d):=by
 have hlen:vs.length=es.length*sz:=by rw[←hL.length,length_flatten es hs]
 have hget:∀ k,k<vs.length->cs[k]?=vs[k]?:=λk hk=>by
  rw[←aOB,hcs,aGO hk]
 refine R.aUR hn sz es hs cs t d (λi j=>(vs[i*sz+j]?).getD undef) ?_ ?_
 ·rw[←hlen,←Array.length_toList,hcs];simp
 ·intro i j x hx
  have hlt:=aAD hs hx
  have hk:i*sz+j<vs.length:=by omega
  have hv:vs[i*sz+j]?=some vs[i*sz+j]:=b6 hk
  refine⟨by rw[hget _ hk,hv];simp,by rw[hv];exact h1 _ (dG hk),?_⟩
  rw[hv]
  exact hL.get _ _ _ (aAC es hs i j x hx) hv
section
variable {P:Program} {o:Oper} {ρ:Operand->aC} {h:Heap} {K:aC->Heap->Prop}
theorem tC (w:World) (o:Obj):{ w with heap:=w.heap.push o }=yW w o w.drawn:=rfl
theorem aNG (sz:Nat) (e:List aC) (he:e.length=sz) (hk:∀ n,h n=none->K (.op n sz 0 0) (bT h n (.row sz [e.map .v])))
  (hx:∀ E w (ρc:Operand->Value),Rel E h w->(∀ x,fY E h w (ρ x) (ρc x))->∃ (cs:Array Value) (t:TypeId) (d:Nat),
   (execOp ρc o).run P w=.ok (.value (.pointer (some ⟨w.heap.size,0,none⟩))) (yW w (.cells cs t) d)/\eT E h w e cs.toList/\∀ c∈cs.toList,c.oneCell'=true):rI P o ρ h K:=by
 intro E w ρc R hρ
 obtain⟨cs,t,d,hrun,hL,h1⟩:=hx E w ρc R hρ
 obtain⟨n,hn⟩:=R.fresh
 refine .kW hrun ⟨.op n sz 0 0,_,E.add n w.heap.size,hk n (R.none hn),Ev.alloc R hn _ _ _,?_,?_⟩
 ·exact R.aQA hn sz [e] (by simpa using he) cs t d cs.toList [] aS (by simpa using hL) h1
 ·have:=fY.op (E:=E.add n w.heap.size) (h:=bT h n (.row sz [e.map .v])) (w:=yW w (.cells cs t) d) n sz 0 0 w.heap.size 0 (.inl rfl) a0K
  simpa using this
theorem aA8 (sz len:Nat) (es:List (List aC)) (hs:∀ e∈es,e.length=sz) (hk:∀ n,h n=none->K (.os n sz 0 len) (bT h n (.row sz (es.map (List.map .v)))))
  (hx:∀ E w (ρc:Operand->Value),Rel E h w->(∀ x,fY E h w (ρ x) (ρc x))->∃ (cs:Array Value) (t:TypeId) (d cap:Nat) (vs rest:List Value),
   (execOp ρc o).run P w=.ok (.value (.slice (some ⟨w.heap.size,0,none⟩) len cap)) (yW w (.cells cs t) d)/\len<=cap/\cap<=maxLen/\cap*sz<=cs.size /\
   cs.toList=vs++rest/\eT E h w es.flatten vs/\∀ c∈vs,c.oneCell'=true):rI P o ρ h K:=by
 intro E w ρc R hρ
 obtain⟨cs,t,d,cap,vs,rest,hrun,hlc,hmax,hm,hcs,hL,h1⟩:=hx E w ρc R hρ
 obtain⟨n,hn⟩:=R.fresh
 refine .kW hrun ⟨.os n sz 0 len,_,E.add n w.heap.size,hk n (R.none hn),Ev.alloc R hn _ _ _,?_,?_⟩
 ·exact R.aQA hn sz es hs cs t d vs rest hcs hL h1
 ·have:=fY.os (E:=E.add n w.heap.size) (h:=bT h n (.row sz (es.map (List.map .v)))) (w:=yW w (.cells cs t) d) n sz 0 len w.heap.size 0 cap t cs.size (.inl rfl) a0K hlc hmax
   (by simp only[World.shape?,xW]) (by simpa using hm)
  simpa using this
theorem bK1 (t:TypeId) (x:Operand) (ho:o.op=.box t x) (hf:(ρ x).cells.all aC.flat=true)
  (hk:∀ n,h n=none->K (.op n (ρ x).cells.length 0 0) (bT h n (.row (ρ x).cells.length [(ρ x).cells.map .v]))):rI P o ρ h K :=
 aNG _ (ρ x).cells rfl hk λE w ρc R hρ=>by
  obtain⟨hL,h1⟩:=(hρ x).aLJ hf
  refine⟨(ρc x).cells,t,w.drawn,?_,hL,h1⟩
  simp only[execOp,ho,Instr.box,newVar,newRow,Sem.run_bind,run_newObj,Result.andThen_ok,Sem.run_pure,tC]
theorem a0N (t:TypeId) (x:Operand) (ho:o.op=.box t x) (hc:(ρ x).cells=[.lB,.aV])
  (hk:∀ n,h n=none->K (.op n 2 0 0) (bT h n (.raw t #[.pointer none,.slice none 0 0]))):rI P o ρ h K:=by
 intro E w ρc R hρ
 obtain⟨hL,h1⟩:=(hρ x).aLJ (by rw[hc];rfl)
 rw[hc]at hL
 have hcs:(ρc x).cells=#[.pointer none,.slice none 0 0]:=by
  have hl:=hL.length
  match hv:(ρc x).cells.toList,hL with
  | [a,b],hL =>
   have ha:a=.pointer none:=by have:=hL.1;cases a <;> (try cases this) <;> rfl
   have hb:b=.slice none 0 0:=by have:=hL.2.1;cases b <;> (try cases this) <;> rfl
   apply Array.toList_inj.1
   rw[hv,ha,hb]
 obtain⟨n,hn⟩:=R.fresh
 refine .kW (v:=.pointer (some ⟨w.heap.size,0,none⟩)) (w':=yW w (.cells #[.pointer none,.slice none 0 0] t) w.drawn) ?_ ⟨.op n 2 0 0,_,E.add n w.heap.size,hk n (R.none hn),Ev.alloc R hn _ _ _,R.aUQ hn _ _ _ ⟨w.heap.size,by simp[Env.add],by simp[Env.add],xW _ _ _⟩,?_⟩
 ·simp only[execOp,ho,Instr.box,newVar,newRow,Sem.run_bind,run_newObj,Result.andThen_ok,Sem.run_pure,tC,hcs]
 ·have:=fY.op (E:=E.add n w.heap.size) (h:=bT h n (.raw t #[.pointer none,.slice none 0 0])) (w:=yW w (.cells #[.pointer none,.slice none 0 0] t) w.drawn) n 2 0 0 w.heap.size 0 (.inl rfl) a0K
  simpa using this
theorem u1 (E:Env) (h:Heap) (w:World):∀ (l:List Value),eT E h w (l.map aC.ofValue) l
 | []=>trivial
 |v::l=>⟨.ofValue E h w v,u1 E h w l⟩
theorem eT.uZ {E:Env} {w:World}:∀ {xs:List aC} {vs:List Value},eT E h w xs vs->xs.all aC.flat=true->∀ c∈vs,c.oneCell'=true
 | [],[],_,_,c,hc=>by simp at hc
 |x::xs,v::vs,hL,hf,c,hc=>by
  simp only[al7,oN]at hf
  rcases p7.1 hc with e|e
  ·rw[e];exact(hL.1.uZ hf.1).1
  ·exact eT.uZ hL.2 hf.2 c e
 | [],_::_,hL,_,_,_=>hL.elim
 | _::_,[],hL,_,_,_=>hL.elim
theorem bC2 (t:TypeId) (r:nK) (ho:o.op=.alloc t) (ht:gZ P t=some r) (hz:r.zero≠[]) (hf:r.zero.all aC.flat=true)
  (hk:∀ n,h n=none->K (.op n r.zero.length 0 0) (bT h n (.row r.zero.length [r.zero.map .v]))):rI P o ρ h K :=
 aNG _ r.zero rfl hk λE w ρc R hρ=>by
  obtain⟨z,hrun,hzz⟩:=tB (w:=w) ht hz
  have hL:eT E h w r.zero z.cells.toList:=by rw[←hzz];exact u1 E h w _
  refine⟨z.cells,t,w.drawn,?_,hL,hL.uZ hf⟩
  simp only[execOp,ho,Instr.alloc,newVar,newRow,Sem.run_bind,run_newObj,hrun,Result.andThen_ok,Sem.run_pure,tC]
theorem addr_add (b o k:Nat):(⟨b,o,none⟩:Addr).add k=⟨b,o+k,none⟩:=by
 simp only[Addr.add];split
 ·subst_vars;rfl
 ·rfl
theorem aGS (t:TypeId) (x:Operand) (f:Nat) (r:nK) (fs:List (Nat×TypeId×Nat)) (off sz':Nat) (ft:TypeId) (v:aC) (ho:o.op=.fieldAddr t x f) (ht:gZ P t=some r) (hd:r.d=.st fs)
  (hf:fs[f]?=some (off,ft,sz')) (hsz:sz'≠0) (hv:(∃ n sz i k,ρ x=.op n sz i k/\v=.op n sz i (k+off))∨(∃ sz es i k,ρ x=.ip sz es i k/\v=.ip sz es i (k+off))) (hk:K v h):rI P o ρ h K :=
 dJ hk λE w ρc R hρ=>by
  have hr:=hρ x
  obtain⟨u,hu,hud,hrun⟩:=dA (w:=w) ht
  obtain⟨gs,rfl,hall,hgs⟩:=bFX (hud.trans hd)
  rw[←hgs]at hf
  simp only[rM,xD,Prod.mk.injEq]at hf
  obtain⟨g,hg,rfl,rfl,rfl⟩:=hf
  have hinfo:(P.info? g.type).isSome=true:=zV.1 hall _ (rS hg)
  have hsize:=aES (w:=w) hinfo
  have hg':gs[f]?=some g:=by simpa using hg
  have key:∀ b k,ρc x=.pointer (some ⟨b,k,none⟩)->(execOp ρc o).run P w=.ok (.value (.pointer (some ⟨b,k+g.offset,none⟩))) w:=by
   intro b k hb
   simp only[execOp,ho,Instr.fieldAt,hb,Sem.run_bind,hrun,Result.andThen_ok,hg',Instr.sureAddr,Sem.run_pure,fieldPlace,hsize,Sem.run_ite,hsz,if_false,addr_add]
  rcases hv with⟨n,sz,i,k,e,rfl⟩|⟨sz,es,i,k,e,rfl⟩
  ·rw[e]at hr
   cases hv:ρc x <;> rw[hv]at hr <;> try(cases hr;done)
   cases hr with
   |op _ _ _ _ b o' hd' hl =>
    refine⟨_,key _ _ hv,?_⟩
    have:=fY.op (E:=E) (h:=h) (w:=w) n sz i (k+g.offset) b o' hd' hl
    rwa [←bE3]at this
  ·rw[e]at hr
   cases hv:ρc x <;> rw[hv]at hr <;> try(cases hr;done)
   cases hr with
   |ip _ _ _ _ b o' cv hi hs hc h1 hrr =>
    refine⟨_,key _ _ hv,?_⟩
    have:=fY.ip (E:=E) (h:=h) (w:=w) sz es i (k+g.offset) b o' cv hi hs hc h1 hrr
    rwa [←bE3]at this
theorem aLK (t et:TypeId) (x i:Operand) (r re:nK) (sz:Nat) (es:List (List aC)) (tg:Bool) (k:IntKind) (n:Int) (ho:o.op=.indexAddr t x i) (ht:gZ P t=some r) (hd:r.d=.slice et)
  (he:gZ P et=some re) (hsz:re.sz=sz) (hx:ρ x=.sl sz es tg) (hi:ρ i=.int k n) (h0:0<=n) (hn:n<es.length) (hk:K (.ip sz es n.toNat 0) h):rI P o ρ h K :=
 dJ hk λE w ρc R hρ=>by
  have hr:=hρ x
  have hri:=j4 (hi▸hρ i)
  rw[hx]at hr
  obtain⟨u,hu,hud,hrun⟩:=dA (w:=w) ht
  obtain rfl:=jW (hud.trans hd)
  have hsize:=jE (w:=w) he
  cases hv:ρc x <;> rw[hv]at hr <;> try(cases hr;done)
  cases hr with
  |sl0=>simp at hn;omega
  |sl _ _ _ b o' cap cv hI hcap hmax htt hs hc h1 hrr =>
   refine⟨.pointer (some ⟨b,o'+n.toNat*sz,none⟩),?_,?_⟩
   ·simp only[execOp,ho,Instr.indexAt,hri,hv,asIntOf,Sem.run_bind,Sem.run_pure,Result.andThen_ok,hrun]
    have:(0<=n/\n<(es.length:Int)):=⟨h0,hn⟩
    simp[this,hsize,hsz,addr_add]
   ·have:=fY.ip (E:=E) (h:=h) (w:=w) sz es n.toNat 0 b o' cv hI hs hc h1 hrr
    simpa using this
theorem aLL (t et:TypeId) (x i:Operand) (r re:nK) (m sz i0 len:Nat) (k:IntKind) (n:Int) (ho:o.op=.indexAddr t x i) (ht:gZ P t=some r) (hd:r.d=.slice et)
  (he:gZ P et=some re) (hsz:re.sz=sz) (hx:ρ x=.os m sz i0 len) (hi:ρ i=.int k n) (h0:0<=n) (hn:n<len) (hk:K (.op m sz (i0+n.toNat) 0) h):rI P o ρ h K :=
 dJ hk λE w ρc R hρ=>by
  have hr:=hρ x
  have hri:=j4 (hi▸hρ i)
  rw[hx]at hr
  obtain⟨u,hu,hud,hrun⟩:=dA (w:=w) ht
  obtain rfl:=jW (hud.trans hd)
  have hsize:=jE (w:=w) he
  cases hv:ρc x <;> rw[hv]at hr <;> try(cases hr;done)
  cases hr with
  |os0=>simp at hn;omega
  |os _ _ _ _ b o' cap tt mm hd' hl hlc hmax hsh hm =>
   refine⟨.pointer (some ⟨b,o'+(i0+n.toNat)*sz,none⟩),?_,?_⟩
   ·simp only[execOp,ho,Instr.indexAt,hri,hv,asIntOf,Sem.run_bind,Sem.run_pure,Result.andThen_ok,hrun]
    have:(0<=n/\n<(len:Int)):=⟨h0,hn⟩
    simp[this,hsize,hsz,addr_add,aAT,bE3]
   ·have:=fY.op (E:=E) (h:=h) (w:=w) m sz (i0+n.toNat) 0 b o' hd' hl
    simpa using this
theorem aOP (t:TypeId) (x:Operand) (r:nK) (n:Nat) (ats:Array TypeId) (ho:o.op=.call { callee:=.builtin .len,args:=#[x],argTypes:=ats }) (hat:ats[0]?=some t) (ht:gZ P t=some r)
  (hx:(∃ e sz es tg,r.d=.slice e/\ρ x=.sl sz es tg/\n=es.length)∨(∃ e m sz i,r.d=.slice e/\ρ x=.os m sz i n)∨(∃ e,r.d=.slice e/\ρ x=.aV/\n=0)∨(∃ s,r.d=.str/\ρ x=.str s/\n=s.length))
  (hk:n<=9223372036854775807->K (.int .i64 n) h):rI P o ρ h K:=by
 intro E w ρc R hρ
 have hr:=hρ x
 obtain⟨u,hu,hud,hrun⟩:=dA (w:=w) ht
 have hml:maxLen=9223372036854775807:=rfl
 suffices hs:n<=9223372036854775807/\(execOp ρc o).run P w=.ok (.value (.int .i64 n)) w from .kW hs.2 (.same (hk hs.1) R (.int _ _))
 have hat':∃ a,ats[0]?=some a/\a=t:=⟨t,hat,rfl⟩
 rcases hx with⟨e,sz,es,tg,hd,hx,rfl⟩|⟨e,m,sz,i,hd,hx⟩|⟨e,hd,hx,rfl⟩|⟨s,hd,hx,rfl⟩
 ·obtain rfl:=jW (hud.trans hd)
  rw[hx]at hr
  cases hv:ρc x <;> rw[hv]at hr <;> try(cases hr;done)
  cases hr with
  |sl0=>exact⟨by simp,by simp[execOp,ho,resolve,invoke,builtin,Builtin.len_,hat,hv,hrun,goInt]⟩
  |sl _ _ _ b o' cap cv hI hcap hmax htt hs hc h1 hrr =>
   exact⟨by omega,by simp[execOp,ho,resolve,invoke,builtin,Builtin.len_,hat,hv,hrun,goInt]⟩
 ·obtain rfl:=jW (hud.trans hd)
  rw[hx]at hr
  cases hv:ρc x <;> rw[hv]at hr <;> try(cases hr;done)
  cases hr with
  |os0=>exact⟨by simp,by simp[execOp,ho,resolve,invoke,builtin,Builtin.len_,hat,hv,hrun,goInt]⟩
  |os _ _ _ _ b o' cap tt mm hd' hl hlc hmax hsh hm =>
   exact⟨by omega,by simp[execOp,ho,resolve,invoke,builtin,Builtin.len_,hat,hv,hrun,goInt]⟩
 ·obtain rfl:=jW (hud.trans hd)
  rw[hx]at hr
  cases hv:ρc x <;> rw[hv]at hr <;> try(cases hr;done)
  cases hr with
  |aV=>exact⟨by omega,by simp[execOp,ho,resolve,invoke,builtin,Builtin.len_,hat,hv,hrun,goInt]⟩
 ·obtain rfl:=aJL (hud.trans hd)
  rw[hx]at hr
  cases hv:ρc x <;> rw[hv]at hr <;> try(cases hr;done)
  cases hr with
  |str _ hl=>exact⟨by omega,by simp[execOp,ho,resolve,invoke,builtin,Builtin.len_,hat,hv,hrun,goInt];rfl⟩
theorem aTQ (t:TypeId) (x i:Operand) (r:nK) (s:List UInt8) (k:IntKind) (n:Int) (c:UInt8) (ho:o.op=.index t x i) (ht:gZ P t=some r) (hd:r.d=.str)
  (hx:ρ x=.str s) (hi:ρ i=.int k n) (h0:0<=n) (hc:s[n.toNat]?=some c) (hk:K (.int .u8 c.toNat) h):rI P o ρ h K :=
 dJ hk λE w ρc R hρ=>by
  obtain⟨hv,_⟩:=mZ (hx▸hρ x)
  have hri:=j4 (hi▸hρ i)
  obtain⟨u,hu,hud,hrun⟩:=dA (w:=w) ht
  obtain rfl:=aJL (hud.trans hd)
  refine⟨.int .u8 c.toNat,?_,.int _ _⟩
  have:(⟨s.toArray⟩:ByteArray)[n.toNat]?=some c:=by
   have hlt:=(mU.1 hc).1
   have hge:=(mU.1 hc).2
   rw[getElem?_pos (⟨s.toArray⟩:ByteArray) n.toNat (by simpa[ByteArray.size]using hlt)]
   congr 1
  simp[execOp,ho,Instr.index,hri,hv,asIntOf,hrun,h0,this]
theorem a0O (t:Operand) (i:Nat) (cs:List aC) (x:aC) (ho:o.op=.extract t i) (ht:ρ t=.iF cs) (hx:cs[i]?=some x) (hk:K x h):rI P o ρ h K :=
 dJ hk λE w ρc R hρ=>by
  have hr:=hρ t
  rw[ht]at hr
  cases hv:ρc t <;> rw[hv]at hr <;> try(cases hr;done)
  cases hr with
  |iF _ vs hl hrr =>
   have hlt:i<vs.length:=by rw[←hl];exact(mU.1 hx).1
   have hvi:vs[i]?=some vs[i]:=b6 hlt
   exact⟨vs[i],by simp[execOp,ho,Instr.extract,hv,hvi],hrr i _ _ hx hvi⟩
theorem bK2 (t:TypeId) (x:Operand) (b:Bool) (ho:o.op=.unOp .not t x) (hx:ρ x=.bool b) (hk:K (.bool (!b)) h):rI P o ρ h K :=
 dJ hk λE w ρc R hρ=>by
  have hv:=aBN (hx▸hρ x)
  exact⟨.bool (!b),by simp[execOp,ho,hv,Op.unary],.bool _⟩
theorem bK3 (t:TypeId) (x:Operand) (k:IntKind) (n:Int) (ho:o.op=.unOp .neg t x) (hx:ρ x=.int k n) (hk:K (.int k (k.wrap (0-n))) h):rI P o ρ h K :=
 dJ hk λE w ρc R hρ=>by
  have hv:=j4 (hx▸hρ x)
  exact⟨.int k (k.wrap (0-n)),by simp[execOp,ho,hv,Op.unary,Op.intArith],.int _ _⟩
theorem aJN (x:Operand) (ho:o.op=.nilCheck x) (hx:(∃ n sz i k,ρ x=.op n sz i k)∨(∃ sz es i k,ρ x=.ip sz es i k)) (hk:K (ρ x) h):rI P o ρ h K :=
 dJ hk λE w ρc R hρ=>by
  have hr:=hρ x
  refine⟨ρc x,?_,hr⟩
  rcases hx with⟨n,sz,i,k,e⟩|⟨sz,es,i,k,e⟩ <;> rw[e]at hr <;> (cases hv:ρc x <;> rw[hv]at hr <;> try(cases hr;done)) <;> cases hr <;> simp[execOp,ho,hv]
theorem aOE (s d:TypeId) (x:Operand) (rs rd:nK) (k k':IntKind) (n:Int) (ho:o.op=.convert s d x) (hs:gZ P s=some rs) (hd:gZ P d=some rd) (hk':rd.d=.int k')
  (hx:ρ x=.int k n) (hk:K (.int k' (k'.wrap n)) h):rI P o ρ h K :=
 dJ hk λE w ρc R hρ=>by
  have hv:=j4 (hx▸hρ x)
  obtain⟨u,hu,hud,hrun⟩:=dA (w:=w) hs
  obtain⟨u',hu',hud',hrun'⟩:=dA (w:=w) hd
  obtain rfl:=a9P (hud'.trans hk')
  exact⟨.int k' (k'.wrap n),by simp[execOp,ho,convert,hv,hrun,hrun',Conv.intToInt],.int _ _⟩
theorem aJO {E:Env} {w:World} {ρc:Operand->Value} (hρ:∀ x,fY E h w (ρ x) (ρc x)):∀ (l:List Operand),eT E h w (l.map ρ) (l.map ρc)
 | []=>trivial
 |x::l=>⟨hρ x,aJO hρ l⟩
theorem aWM (fn:Fn) (fs cs:Array Operand) (ho:o.op=.makeFunc fn fs cs) (hk:K (.fn fn (fs.toList.map ρ) (cs.toList.map ρ)) h):rI P o ρ h K :=
 dJ hk λE w ρc R hρ=>by
  refine⟨.func fn (fs.map ρc) (cs.map ρc),by simp[execOp,ho,Instr.makeFunc],?_⟩
  have h1:=aJO hρ fs.toList
  have h2:=aJO hρ cs.toList
  have:=fY.fn (E:=E) (h:=h) (w:=w) fn _ _ _ _ h1.length h1.get h2.length h2.get
  have e:∀ (a:Array Operand),(a.toList.map ρc).toArray=a.map ρc:=λa=>by cases a;simp
  rwa [e,e]at this
end
section
variable {P:Program} {o:Oper} {ρ:Operand->aC} {h:Heap} {K:aC->Heap->Prop}
theorem aJP (op:BinOp) (t ty:TypeId) (x y:Operand) (r:nK) (a b:Bool) (v:aC) (ho:o.op=.binOp op t x y ty) (ht:gZ P t=some r) (hd:r.d=.bool) (hx:ρ x=.bool a) (hy:ρ y=.bool b)
  (hop:(op=.eql/\v=.bool (a == b))∨(op=.neq/\v=.bool (a != b))) (hk:K v h):rI P o ρ h K :=
 dJ hk λE w ρc R hρ=>by
  have hxv:=aBN (hx▸hρ x)
  have hyv:=aBN (hy▸hρ y)
  obtain⟨u,hu,hud,hrun⟩:=dA (w:=w) ht
  obtain rfl:=bFW (hud.trans hd)
  have hg:(eqGuard op t x y (.bool a) (.bool b)).run P w=.ok () w:=by
   cases op <;> simp[eqGuard]
  have hq:(Op.equal t (.bool a) (.bool b)).run P w=.ok (a == b) w:=run_equalIn_bool' w 9999 t a b hu
  rcases hop with⟨rfl,rfl⟩|⟨rfl,rfl⟩
  ·exact⟨.bool (a == b),by simp only[execOp,ho,Sem.run_bind,hxv,hyv,hg,Result.andThen_ok,binOp,hq,Sem.run_pure],.bool _⟩
  ·exact⟨.bool (a != b),by simp only[execOp,ho,Sem.run_bind,hxv,hyv,hg,Result.andThen_ok,binOp,hq,Sem.run_pure];rfl,.bool _⟩
theorem a9Q (op:BinOp) (t ty:TypeId) (x y:Operand) (k:IntKind) (a b:Int) (v:aC) (ho:o.op=.binOp op t x y ty) (hx:ρ x=.int k a) (hy:ρ y=.int k b) (hb:b≠0)
  (hop:(op=.quo/\v=.int k (k.wrap (a.tdiv b)))∨(op=.rem/\v=.int k (a.tmod b))) (hk:K v h):rI P o ρ h K :=
 dJ hk λE w ρc R hρ=>by
  have hxv:=j4 (hx▸hρ x)
  have hyv:=j4 (hy▸hρ y)
  rcases hop with⟨rfl,rfl⟩|⟨rfl,rfl⟩
  ·exact⟨.int k (k.wrap (a.tdiv b)),by simp[execOp,ho,hxv,hyv,eqGuard,binOp,Op.intDiv,hb],.int _ _⟩
  ·exact⟨.int k (a.tmod b),by simp[execOp,ho,hxv,hyv,eqGuard,binOp,Op.intDiv,hb],.int _ _⟩
theorem aUU (op:BinOp) (t ty:TypeId) (x y:Operand) (k k':IntKind) (a b:Int) (v:aC) (ho:o.op=.binOp op t x y ty) (hx:ρ x=.int k a) (hy:ρ y=.int k' b) (hb:0<=b)
  (hop:(op=.shl/\v=.int k (k.wrap (a*2 ^ (min b.toNat k.bits))))∨(op=.shr/\v=.int k (a.fdiv (2 ^ (min b.toNat k.bits))))) (hk:K v h):rI P o ρ h K :=
 dJ hk λE w ρc R hρ=>by
  have hxv:=j4 (hx▸hρ x)
  have hyv:=j4 (hy▸hρ y)
  have hb':¬b<0:=by omega
  rcases hop with⟨rfl,rfl⟩|⟨rfl,rfl⟩
  ·exact⟨_,by simp only[execOp,ho,hxv,hyv,eqGuard,binOp,Op.shift,hb',if_false];simp,.int _ _⟩
  ·exact⟨_,by simp only[execOp,ho,hxv,hyv,eqGuard,binOp,Op.shift,hb',if_false];simp,.int _ _⟩
theorem bK4 (x y:Operand) (ats:Array TypeId) (k:IntKind) (a b:Int) (ho:o.op=.call { callee:=.builtin .max,args:=#[x,y],argTypes:=ats }) (hx:ρ x=.int k a) (hy:ρ y=.int k b)
  (hk:K (.int k (max a b)) h):rI P o ρ h K :=
 dJ hk λE w ρc R hρ=>by
  have hxv:=j4 (hx▸hρ x)
  have hyv:=j4 (hy▸hρ y)
  have e:(if b > a then b else a)=max a b:=by rw[Int.max_def];split <;> split <;> omega
  exact⟨.int k (max a b),by simp[execOp,ho,resolve,invoke,builtin,Builtin.max_,hxv,hyv,Builtin.max2,e],.int _ _⟩
def kL (d:Nat):Option aC->Option Int
 |none=>some d
 |some (.int _ n)=>some n
 | _=>none
theorem q8 {w:World} {k:IntKind} {i:Int} {y:Nat} {code:BoundsCode} (h0:0<=i) (h1:i<=y):(Instr.sliceBound (.int k i) y code).run P w=.ok i.toNat w:=by
 simp[Instr.sliceBound,asIntOf,h0,h1]
theorem yZ {w:World} {E:Env} (R:Rel E h w) {ρc:Operand->Value} (hρ:∀ x,fY E h w (ρ x) (ρc x)) (isS:Bool) (len cap:Nat) (lo hi mx:Option Operand) (l r m:Int)
  (hl:kL 0 (lo.map ρ)=some l) (hh:kL len (hi.map ρ)=some r) (hm:kL cap (mx.map ρ)=some m) (hmh:mx.isSome=true->hi.isSome=true)
  (h0:0<=l) (h1:l<=r) (h2:r<=m) (h3:m<=cap) :
  (Instr.sliceBounds isS len cap (lo.map ρc) (hi.map ρc) (mx.map ρc)).run P w=.ok (l.toNat,r.toNat,m.toNat) w:=by
 have hint:∀ (x:Operand) (d:Nat) (z:Int),kL d (some (ρ x))=some z->∃ k,ρc x=.int k z:=by
  intro x d z hz
  have hr:=hρ x
  generalize ρ x=v at *
  cases v <;> simp[kL]at hz
  subst hz
  exact⟨_,j4 hr⟩
 have hbn:∀ d:Nat,kL d none=some (d:Int):=λ_=>rfl
 cases mx with
 |none =>
  obtain rfl:(cap:Int)=m:=by simpa[kL]using hm
  cases hi with
  |none =>
   obtain rfl:(len:Int)=r:=by simpa[kL]using hh
   cases lo with
   |none => obtain rfl : (0 : Int) = l := by simpa [kL] using hl
            simp[Instr.sliceBounds]
   |some x =>
    obtain⟨k,hx⟩:=hint x _ _ hl
    simp[Instr.sliceBounds,hx,q8 h0 h1]
  |some y =>
   obtain⟨k',hy⟩:=hint y _ _ hh
   have e:((r.toNat:Nat):Int)=r:=by omega
   cases lo with
   |none => obtain rfl : (0 : Int) = l := by simpa [kL] using hl
            simp[Instr.sliceBounds,hy,q8 (show 0<=r by omega) h2]
   |some x =>
    obtain⟨k,hx⟩:=hint x _ _ hl
    simp[Instr.sliceBounds,hx,hy,q8 (show 0<=r by omega) h2,q8 h0 (show l<=(r.toNat:Nat)by omega)]
 |some z =>
  obtain⟨kz,hz⟩:=hint z _ _ hm
  cases hi with
  |none=>simp at hmh
  |some y =>
   obtain⟨k',hy⟩:=hint y _ _ hh
   cases lo with
   |none => obtain rfl : (0 : Int) = l := by simpa [kL] using hl
            simp[Instr.sliceBounds,hy,hz,q8 (show 0<=m by omega) h3,q8 (show 0<=r by omega) (show r<=(m.toNat:Nat)by omega)]
   |some x =>
    obtain⟨k,hx⟩:=hint x _ _ hl
    simp[Instr.sliceBounds,hx,hy,hz,q8 (show 0<=m by omega) h3,q8 (show 0<=r by omega) (show r<=(m.toNat:Nat)by omega),q8 h0 (show l<=(r.toNat:Nat)by omega)]
theorem aTR (t:TypeId) (x:Operand) (lo hi:Option Operand) (r:nK) (s:List UInt8) (l m:Int) (ho:o.op=.slice t x lo hi none) (ht:gZ P t=some r) (hd:r.d=.str) (hx:ρ x=.str s)
  (hl:kL 0 (lo.map ρ)=some l) (hh:kL s.length (hi.map ρ)=some m) (h0:0<=l) (h1:l<=m) (h2:m<=s.length) (hk:K (.str ((s.take m.toNat).drop l.toNat)) h):rI P o ρ h K :=
 dJ hk λE w ρc R hρ=>by
  obtain⟨hv,hmax⟩:=mZ (hx▸hρ x)
  obtain⟨u,hu,hud,hrun⟩:=dA (w:=w) ht
  obtain rfl:=aJL (hud.trans hd)
  have hb:=yZ (P:=P) R hρ false s.length s.length lo hi none l m s.length hl hh rfl aS h0 h1 h2 aA
  refine⟨.string ⟨((s.take m.toNat).drop l.toNat).toArray⟩,?_,.str _ pW⟩
  have hsz:(⟨s.toArray⟩:ByteArray).size=s.length:=by simp[ByteArray.size]
  have hex:(⟨s.toArray⟩:ByteArray).extract l.toNat m.toNat=⟨((s.take m.toNat).drop l.toNat).toArray⟩:=by
   apply ByteArray.ext
   rw[ByteArray.data_extract]
   simp[List.extract_eq_take_drop,bE4]
  simp only[bE5]at hb
  simp[execOp,ho,Instr.sliceAt,Instr.slice,hrun,hv,hsz,hb,hex]
theorem aWN (t et:TypeId) (x:Operand) (lo hi:Option Operand) (r re:nK) (sz:Nat) (es:List (List aC)) (tg:Bool) (l m:Int) (ho:o.op=.slice t x lo hi none) (ht:gZ P t=some r) (hd:r.d=.slice et)
  (he:gZ P et=some re) (hsz:re.sz=sz) (hx:ρ x=.sl sz es tg)
  (hl:kL 0 (lo.map ρ)=some l) (hh:kL es.length (hi.map ρ)=some m) (h0:0<=l) (h1:l<=m) (h2:m<=es.length)
  (hk:K (.sl sz ((es.take m.toNat).drop l.toNat) (tg && decide (m=es.length))) h):rI P o ρ h K :=
 dJ hk λE w ρc R hρ=>by
  have hr:=hρ x
  rw[hx]at hr
  obtain⟨u,hu,hud,hrun⟩:=dA (w:=w) ht
  obtain rfl:=jW (hud.trans hd)
  have hsize:=jE (w:=w) he
  have hml:maxLen=9223372036854775807:=rfl
  have key:∀ (a:Option Addr) (cap:Nat),ρc x=.slice a es.length cap->es.length<=cap ->
    (execOp ρc o).run P w=.ok (.value (.slice (if cap=l.toNat then a else a.map (·.add (l.toNat*sz))) (m.toNat-l.toNat) (cap-l.toNat))) w:=by
   intro a cap hv hc
   have hb:=yZ (P:=P) R hρ true es.length cap lo hi none l m cap hl hh rfl aS h0 h1 aA aA
   simp only[bE5]at hb
   have e:((cap:Int)).toNat=cap:=by omega
   simp[execOp,ho,Instr.sliceAt,Instr.slice,hrun,hv,hb,hsize,hsz,e]
  cases hv:ρc x <;> rw[hv]at hr <;> try(cases hr;done)
  cases hr with
  |sl0 _ _ _ _ htt hmax ha =>
   have hl0:l=0:=by simp at h2;omega
   have hm0:m=0:=by simp at h2;omega
   subst hl0 hm0
   refine⟨_,key _ _ aJH aS,?_⟩
   simp only[bKI,bKJ,List.drop_nil,Nat.sub_zero,bE0,aLH,al3]
   exact .sl0 sz _ _ _ (λe=>htt (by simp at e;exact e)) hmax trivial
  |sl _ _ _ b o' cap cv hI hcap hmax htt hs hc h1' hrr =>
   rename_i cap
   refine⟨_,key _ cap hv hcap,?_⟩
   have hlen:((es.take m.toNat).drop l.toNat).length=m.toNat-l.toNat:=by simp;omega
   by_cases hemp:m.toNat=l.toNat
   ·have e1:(es.take m.toNat).drop l.toNat=[]:=aI0 pW
    rw[e1,hemp,aLH]
    refine .sl0 sz _ _ _ (λe=>?_) aA trivial
    simp at e;have:=htt e.1;omega
   ·have hne:¬cap=l.toNat:=by omega
    rw[if_neg hne,←hlen]
    simp only[aOA,addr_add]
    have hat:∀ i j y,kE ((es.take m.toNat).drop l.toNat) i j=some y->kE es (l.toNat+i) j=some y:=by
     intro i j y hy
     obtain⟨e,h1,h2⟩:=mY hy
     rw[aPR]at h1
     have hlt:l.toNat+i<m.toNat:=by have:=(mU.1 h1).1;simp at this;omega
     rw[aWH hlt]at h1
     simp[kE,h1,h2]
    refine .sl sz _ _ b (o'+l.toNat*sz) (cap-l.toNat) (λi j=>cv (l.toNat+i) j) hI aA aA (λe=>?_) ?_ ?_ ?_ ?_
    ·simp at e;have:=htt e.1;omega
    ·intro e he
     exact hs e (aWJ (bE6 he))
    ·intro i j y hy
     rw[←hc _ _ _ (hat i j y hy)];congr 2;rw[aAT];omega
    ·intro i j y hy;exact h1' _ _ _ (hat i j y hy)
    ·intro i j y hy;exact hrr _ _ _ (hat i j y hy)
end
theorem aJQ {α:Type} (l:List α) (hl:0<l.length):∀ (c k:Nat),k<c*l.length->(List.replicate c l).flatten[k]?=l[k%l.length]?
 |0,k,hk=>by simp at hk
 |c+1,k,hk=>by
  rw[bKK,bKF]
  by_cases h:k<l.length
  ·rw[aGO h,Nat.mod_eq_of_lt h]
  ·rw[aEC aA,aJQ l hl c (k-l.length) (by rw[bE2]at hk;omega)]
   congr 1
   rw[Nat.mod_eq_sub_mod (Nat.le_of_not_lt h)]
theorem bC4 (z:Array Value) (hz:0<z.size) (c k:Nat) (hk:k<c*z.size):((Array.range (c*z.size)).map (λi=>z[i%z.size]!)).toList[k]?=z.toList[k%z.size]?:=by
 have hm:k%z.size<z.size:=Nat.mod_lt _ hz
 simp only[Array.toList_map,Array.toList_range,rM,bCT hk,aOA]
 rw[getElem!_pos z _ hm,aOB,aPS hm]
theorem eT.bFY {E:Env} {h:Heap} {w:World} {xs:List aC} {z:Array Value} (hL:eT E h w xs z.toList) (hx:0<xs.length) (c:Nat) :
  eT E h w (List.replicate c xs).flatten ((Array.range (c*z.size)).map (λi=>z[i%z.size]!)).toList:=by
 have hsz:z.size=xs.length:=by have:=hL.length;simp at this;omega
 refine eT.mk (by simp[hsz]) ?_
 intro k x v hkx hkv
 have hk:k<c*xs.length:=by have:=(mU.1 hkx).1;simpa using this
 rw[aJQ xs hx c k hk]at hkx
 rw[bC4 z aA c k (by rw[hsz];exact hk),hsz]at hkv
 exact hL.get _ _ _ hkx hkv
section
variable {P:Program} {o:Oper} {ρ:Operand->aC} {h:Heap} {K:aC->Heap->Prop}
theorem aTS (t et:TypeId) (l c:Operand) (r re:nK) (k k':IntKind) (a b:Int) (ho:o.op=.makeSlice t l c) (ht:gZ P t=some r) (hd:r.d=.slice et) (he:gZ P et=some re)
  (hz:re.zero.length=re.sz) (hz0:0<re.sz) (hf:re.zero.all aC.flat=true) (hl:ρ l=.int k a) (hc:ρ c=.int k' b) (h0:0<=a) (hab:a<=b) (hb:b<=281474976710656) (hbb:re.bytes*b<=281474976710656)
  (hk:∀ n,h n=none->K (.os n re.sz 0 a.toNat) (bT h n (.row re.sz ((List.replicate b.toNat re.zero).map (List.map .v))))):rI P o ρ h K:=by
 refine aA8 re.sz a.toNat (List.replicate b.toNat re.zero) (λe he=>by rw[bCV he,hz]) hk ?_
 intro E w ρc R hρ
 have hal:=j4 (hl▸hρ l)
 have hac:=j4 (hc▸hρ c)
 obtain⟨u,hu,hud,hrun⟩:=dA (w:=w) ht
 obtain rfl:=jW (hud.trans hd)
 have hsize:=jE (w:=w) he
 obtain⟨z,hzr,hzz⟩:=tB (w:=w) he aUJ
 obtain⟨i,u',hi,hu',hsz,hby,_⟩:=uY he
 have hL:eT E h w re.zero z.cells.toList:=by rw[←hzz];exact u1 E h w _
 have hzs:z.cells.size=re.sz:=by have:=hL.length;simp at this;omega
 have wa:IntKind.i64.wrap a=a:=IntWalk.i64_in a aA
 have wb:IntKind.i64.wrap b=b:=IntWalk.i64_in b aA
 refine⟨(Array.range (b.toNat*z.cells.size)).map (λi=>z.cells[i%z.cells.size]!),et,w.drawn,b.toNat,_,[],?_,by omega,by unfold maxLen;omega,by simp[hzs],by simp,hL.bFY aA b.toNat,?_⟩
 ·have hti:(typeInfo et).run P w=.ok i w:=by simp[typeInfo,hi]
  have n1:¬(b<0):=by omega
  have n2:¬(281474976710656<(i.bytes:Int)*b):=by rw[←hby];omega
  have n3:¬(a<0):=by omega
  have n4:¬(b<a):=by omega
  simp only[execOp,ho,Instr.makeSlice,Sem.run_bind,hrun,Result.andThen_ok,asInt,hal,hac,asIntOf,Sem.run_pure,hti,wa,wb]
  by_cases hbz:b.toNat=0
  ·simp[n1,n2,n3,n4,hsize,hzs,hbz,newRow,tC]
   have e0:Array.range 0=#[]:=by simp
   simp only[e0,Array.map_empty];rfl
  ·simp[n1,n2,n3,n4,hsize,hzs,hbz,newRow,tC,hzr]
   rw[if_neg (Nat.mul_ne_zero hbz aA)]
   rfl
 ·exact(hL.bFY aA b.toNat).uZ (by
   rw[zV]
   intro x hx
   obtain⟨l,hl,hx⟩:=bKL.1 hx
   rw[bCV hl]at hx
   exact zV.1 hf x hx)
end
theorem Ev.yW {E:Env} {h:Heap} {w:World} (o:Obj) (d:Nat):Ev E h w E h (yW w o d) :=
 ⟨by rw[qA];omega,λb hb=>⟨pX w o d b hb.1,⟨by have:=hb.1;rw[qA];omega,hb.2⟩⟩,λb hb=>by simp only[World.shape?,pX w o d b hb],λ_ hn=>⟨rfl,hn⟩,rfl,rfl⟩
theorem Rel.yW {E:Env} {h:Heap} {w:World} (R:Rel E h w) (o:Obj) (d:Nat):Rel E h (yW w o d) :=
 ⟨R.fin,R.dom,λn x b hn hx hb=>by have:=R.lt n x b hn hx hb;rw[qA];omega,R.apart,
  λn x hn=>(R.obj n x hn).ev (Ev.yW o d) rfl rfl λc hx hc=>pX w o d c (R.lt n x c hn hx hc),R.laid.ev (Ev.yW o d)⟩
theorem a9R {E:Env} {h:Heap} {w:World} (R:Rel E h w) (o:Obj) (d:Nat):vO E h (Hl.yW w o d) w.heap.size :=
 ⟨by rw[qA];omega,λn x hn hx hf=>by have:=R.lt n x _ hn hx hf;omega⟩
theorem a9S {E:Env} {h:Heap} {w:World} (R:Rel E h w) {sz:Nat} {es:List (List aC)} (hs:∀ e∈es,e.length=sz) {cs:Array Value} {t:TypeId} {d:Nat} {vs rest:List Value} (hcs:cs.toList=vs++rest) (hL:eT E h w es.flatten vs) (h1:∀ c∈vs,c.oneCell'=true) :
  ∃ cv:Nat->Nat->Value,(∀ i j x,kE es i j=some x->(Hl.yW w (.cells cs t) d).cell? ⟨w.heap.size,0+i*sz+j,none⟩=some (cv i j))/\(∀ i j x,kE es i j=some x->(cv i j).oneCell'=true)/\(∀ i j x,kE es i j=some x->fY E h (Hl.yW w (.cells cs t) d) x (cv i j)):=by
 have hlen:vs.length=es.length*sz:=by rw[←hL.length,length_flatten es hs]
 refine⟨λi j=>(vs[i*sz+j]?).getD undef,λi j x hx=>?_,λi j x hx=>?_,λi j x hx=>?_⟩ <;>
  (have hlt:=aAD hs hx
   have hk:i*sz+j<vs.length:=by omega
   have hv:vs[i*sz+j]?=some vs[i*sz+j]:=b6 hk)
 ·simp only[World.cell?,xW,al4]
  rw[←aOB,hcs,aGO hk,hv];simp
 ·simp only[hv];exact h1 _ (dG hk)
 ·simp only[hv];exact(hL.get _ _ _ (aAC es hs i j x hx) hv).ev (Ev.yW _ _)
section
variable {P:Program} {o:Oper} {ρ:Operand->aC} {h:Heap} {K:aC->Heap->Prop}
theorem a0Q (t:TypeId) (x:Operand) (ho:o.op=.box t x) (hf:(ρ x).cells.all aC.flat=true) (hk:K (.ip (ρ x).cells.length [(ρ x).cells] 0 0) h):rI P o ρ h K:=by
 intro E w ρc R hρ
 obtain⟨hL,h1⟩:=(hρ x).aLJ hf
 have hs:∀ e∈[(ρ x).cells],e.length=(ρ x).cells.length:=by simp
 obtain⟨cv,c1,c2,c3⟩:=a9S (t:=t) (d:=w.drawn) R hs (cs:=(ρc x).cells) (vs:=(ρc x).cells.toList) (rest:=[]) aS (by simpa using hL) h1
 refine .kW (v:=.pointer (some ⟨w.heap.size,0,none⟩)) (w':=Hl.yW w (.cells (ρc x).cells t) w.drawn) ?_ ⟨_,h,E,hk,Ev.yW _ _,R.yW _ _,?_⟩
 ·simp only[execOp,ho,Instr.box,newVar,newRow,Sem.run_bind,run_newObj,Result.andThen_ok,Sem.run_pure,tC]
 ·have:=fY.ip (E:=E) (h:=h) (w:=Hl.yW w (.cells (ρc x).cells t) w.drawn) (ρ x).cells.length [(ρ x).cells] 0 0 w.heap.size 0 cv (a9R R _ _) hs c1 c2 c3
  simpa using this
def y1 (es:List (List aC)):List (Nat×aC)->List (List aC)
 | []=>es
 |(i,v)::r=>y1 (es.set i v.cells) r
def v7 (len sz:Nat):List (Nat×aC)->Bool
 | []=>true
 |(i,v)::r=>decide (i<len) && decide (v.cells.length=sz) && v.cells.all aC.flat && v7 len sz r
theorem aCW:∀ (ps:List (Nat×aC)) (es:List (List aC)),(y1 es ps).length=es.length
 | [],_=>rfl
 |(i,v)::r,es=>by simp[y1,aCW r]
theorem aCX {sz len:Nat}:∀ (ps:List (Nat×aC)) (es:List (List aC)),v7 len sz ps=true->(∀ e∈es,e.length=sz)->∀ e∈y1 es ps,e.length=sz
 | [],_,_,h=>h
 |(i,v)::r,es,hf,h=>by
  simp only[v7,oN,decide_eq_true_eq]at hf
  refine aCX r _ hf.2 λe he=>?_
  rcases a36 he with h1|h1
  ·exact h e h1
  ·rw[h1];exact hf.1.1.2
theorem aDY (vs:Array Value) (off:Nat) (cs:Array Value) (k:Nat) (hle:off+vs.size<=cs.size) :
  (vs.zipIdx.foldl (λcs (cj:Value×Nat)=>cs.setIfInBounds (off+cj.2) cj.1) cs)[k]?=if off<=k/\k<off+vs.size then vs[k-off]? else cs[k]?:=by
 have key:∀ (l:List Value) (n:Nat) (cs:Array Value),off+n+l.length<=cs.size ->
   ((l.zipIdx n).foldl (λcs (cj:Value×Nat)=>cs.setIfInBounds (off+cj.2) cj.1) cs)[k]?=if off+n<=k/\k<off+n+l.length then l[k-(off+n)]? else cs[k]?:=by
  intro l
  induction l with
  |nil=>intro n cs _;rw[if_neg aS];rfl
  |cons v l ih =>
   intro n cs hl
   simp only[List.zipIdx_cons,bE7]
   rw[ih (n+1) _ (by rw[Array.size_setIfInBounds];simp at hl;omega)]
   simp only[al2]at hl ⊢
   by_cases h1:off+(n+1)<=k/\k<off+(n+1)+l.length
   ·rw[if_pos h1,if_pos aA,show k-(off+n)=(k-(off+(n+1)))+1 by omega];simp
   ·rw[if_neg h1]
    by_cases h2:k=off+n
    ·subst h2
     have hlt:off+n<cs.size:=by omega
     rw[if_pos aA];simp[Array.getElem?_setIfInBounds,hlt]
    ·rw[if_neg aA,a38 aA]
 have:=key vs.toList 0 cs (by simpa using hle)
 rw[←Array.foldl_toList,Array.toList_zipIdx]
 simpa using this
theorem aBO (vs:Array Value) (off:Nat) (cs:Array Value):(vs.zipIdx.foldl (λcs (cj:Value×Nat)=>cs.setIfInBounds (off+cj.2) cj.1) cs).size=cs.size:=by
 have key:∀ (l:List (Value×Nat)) (cs:Array Value),(l.foldl (λcs (cj:Value×Nat)=>cs.setIfInBounds (off+cj.2) cj.1) cs).size=cs.size:=by
  intro l
  induction l with
  |nil=>intro cs;rfl
  |cons v l ih=>intro cs;simp only[bE7];rw[ih];simp
 rw[←Array.foldl_toList]
 exact key _ cs
theorem aBP {α:Type} {sz:Nat}:∀ (es:List (List α)),(∀ e∈es,e.length=sz)->∀ k,k<es.length*sz->es.flatten[k]?=kE es (k / sz) (k%sz)
 | [],_,k,hk=>by simp at hk
 |e::es,hs,k,hk=>by
  have he:=hs e aS
  have hs':=λe he=>hs e (al6 _ he)
  have hsz:0<sz:=by
   rcases aTN sz with h|h
   ·subst h;simp at hk
   ·exact h
  rw[bKF]
  by_cases h:k<sz
  ·rw[aGO aA,bKH h,Nat.mod_eq_of_lt h];simp[kE]
  ·rw[aEC aA,he,aBP es hs' (k-sz) (by simp[bE2]at hk;omega)]
   have h1:k / sz=(k-sz) / sz+1:=by rw[Nat.div_eq_sub_div hsz aA]
   have h2:k%sz=(k-sz)%sz:=Nat.mod_eq_sub_mod aA
   rw[h1,h2];simp[kE]
theorem a0R {E:Env} {w:World} {sz len:Nat} {ρc:Operand->Value} (hρ:∀ x,fY E h w (ρ x) (ρc x)):∀ (ps:List (Nat×Operand)) (es:List (List aC)) (cs:Array Value),v7 len sz (ps.map λp=>(p.1,ρ p.2))=true->es.length=len->(∀ e∈es,e.length=sz) ->
  eT E h w es.flatten cs.toList->(∀ c∈cs.toList,c.oneCell'=true) ->
  ∃ cs',Instr.fill (λi=>some (i*sz,sz)) cs (ps.map λp=>(p.1,ρc p.2))=some cs'/\eT E h w (y1 es (ps.map λp=>(p.1,ρ p.2))).flatten cs'.toList/\∀ c∈cs'.toList,c.oneCell'=true
 | [],es,cs,_,_,_,hL,h1=>⟨cs,rfl,hL,h1⟩
 |(i,x)::ps,es,cs,hf,hlen,hs,hL,h1=>by
  simp only[lU,v7,oN,decide_eq_true_eq]at hf
  obtain⟨⟨⟨hi,hsz⟩,hfl⟩,hf⟩:=hf
  obtain⟨hcL,hc1⟩:=(hρ x).aLJ hfl
  have hvs:(ρc x).cells.size=sz:=by have:=hcL.length;simp at this;omega
  have hcsz:cs.size=es.length*sz:=by have:=hL.length;rw[length_flatten es hs]at this;simpa using this.symm
  have hfit:i*sz+sz<=cs.size:=by
   rw[hcsz,hlen]
   have:=bE1 sz (Nat.succ_le_of_lt hi)
   rw[bE2]at this;exact this
  have hget:=λk=>aDY (ρc x).cells (i*sz) cs k (by rw[hvs];exact hfit)
  have hsize:=aBO (ρc x).cells (i*sz) cs
  have hs':∀ e∈es.set i (ρ x).cells,e.length=sz:=λe he=>by
   rcases a36 he with h1|h1
   ·exact hs e h1
   ·rw[h1];exact hsz
  have hin:i*sz<=i*sz:=fL _
  obtain⟨cs',r1,r2,r3⟩:=a0R hρ ps (es.set i (ρ x).cells) hf (by simpa using hlen) hs' (cs:=(ρc x).cells.zipIdx.foldl (λcs (cj:Value×Nat)=>cs.setIfInBounds (i*sz+cj.2) cj.1) cs) (by
   refine eT.mk (by rw[length_flatten _ hs',yU,←hcsz,←hsize];rfl) ?_
   intro k y v hy hv
   rw[aOB,hget k]at hv
   have hk:k<es.length*sz:=by have:=(mU.1 hy).1;rw[length_flatten _ hs']at this;simpa using this
   have b4T:0<sz:=by
    rcases aTN sz with h|h
    ·subst h;simp at hk
    ·exact h
   rw[aBP _ hs' k a0I]at hy
   by_cases hr:i*sz<=k/\k<i*sz+(ρc x).cells.size
   ·rw[if_pos hr]at hv
    have hd:k / sz=i:=by
     rw[hvs]at hr
     exact Nat.div_eq_of_lt_le (by rw[aWI]at hr ⊢;omega) (by rw[bE2];omega)
    have hm:k%sz=k-i*sz:=by
     have:=bKM k sz
     rw[hd,aWI]at this;omega
    rw[hd,hm]at hy
    unfold kE at hy
    rw[a35 (by rw[hlen];exact hi)]at hy
    exact hcL.get _ _ _ (by simpa using hy) aJH
   ·rw[if_neg hr]at hv
    have hd:k / sz≠i:=by
     intro e
     have hdm:=bKM k sz
     have:=Nat.mod_lt k b4T
     rw[e,aWI]at hdm
     rw[hvs]at hr;omega
    unfold kE at hy
    rw[aZL (iR hd)]at hy
    exact hL.get k _ _ (by rw[aBP es hs k hk];exact hy) aJH) (by
   intro c hc
   obtain⟨k,hk⟩:=bKG hc
   rw[aOB,hget k]at hk
   split at hk
   ·exact hc1 c (by rw[←aOB]at hk;exact rS hk)
   ·exact h1 c (by rw[←aOB]at hk;exact rS hk))
  refine⟨cs',?_,r2,r3⟩
  simp only[lU,Instr.fill,hvs]
  rw[if_neg pW]
  exact r1
theorem aEV {E:Env} {w:World} {ρc:Operand->Value} (hρ:∀ x,fY E h w (ρ x) (ρc x)) (t et:TypeId) (len:Nat) (ps:Array (Nat×Operand)) (r re:nK) (ho:o.op=.buildSlice t len ps) (ht:gZ P t=some r) (hd:r.d=.slice et) (he:gZ P et=some re)
  (hz:re.zero.length=re.sz) (hz0:0<re.sz) (hf:re.zero.all aC.flat=true) (hlen:len*re.sz<=16777216) (hfill:v7 len re.sz (ps.toList.map λp=>(p.1,ρ p.2))=true) :
  ∃ (cs:Array Value),(execOp ρc o).run P w=.ok (.value (.slice (some ⟨w.heap.size,0,none⟩) len len)) (yW w (.cells cs et) w.drawn) /\
   eT E h w (y1 (List.replicate len re.zero) (ps.toList.map λp=>(p.1,ρ p.2))).flatten cs.toList/\∀ c∈cs.toList,c.oneCell'=true:=by
 obtain⟨u,hu,hud,hrun⟩:=dA (w:=w) ht
 obtain rfl:=jW (hud.trans hd)
 have hsize:=jE (w:=w) he
 obtain⟨z,hzr,hzz⟩:=tB (w:=w) he aUJ
 have hL:eT E h w re.zero z.cells.toList:=by rw[←hzz];exact u1 E h w _
 have hzs:z.cells.size=re.sz:=by have:=hL.length;simp at this;omega
 have hflat:=hL.bFY aA len
 have hone:=hflat.uZ (by
  rw[zV]
  intro x hx
  obtain⟨l,hl,hx⟩:=bKL.1 hx
  rw[bCV hl]at hx
  exact zV.1 hf x hx)
 have hs:∀ e∈List.replicate len re.zero,e.length=re.sz:=λe he=>by rw[bCV he,hz]
 obtain⟨cs,h1,h2,h3⟩:=a0R hρ ps.toList (List.replicate len re.zero) _ hfill aS hs hflat hone
 refine⟨cs,?_,h2,h3⟩
 have hmap:(ps.map λ(i,x)=>(i,ρc x)).toList=ps.toList.map λp=>(p.1,ρc p.2):=by simp
 rw[hzs]at h1
 have n1:¬(len*re.sz > 2 ^ 24):=by simp;omega
 simp only[execOp,ho,Instr.buildSlice,Sem.run_bind,hrun,Result.andThen_ok,hsize,hmap,if_neg n1,Sem.run_ite]
 by_cases hl0:len*re.sz=0
 ·have bFZ:len=0:=by
   rcases Nat.mul_eq_zero.1 hl0 with h|h
   ·exact h
   ·omega
  subst bFZ
  simp only[bE0]at h1 ⊢
  have e0:Array.range 0=#[]:=by simp
  simp only[e0,Array.map_empty]at h1 ⊢
  simp[h1,newRow,tC]
  rfl
 ·simp only[hl0,if_false,Sem.run_bind,hzr,Result.andThen_ok,Sem.run_pure,hzs]
  simp[h1,newRow,tC]
  rfl
theorem aQB (t et:TypeId) (len:Nat) (ps:Array (Nat×Operand)) (r re:nK) (ho:o.op=.buildSlice t len ps) (ht:gZ P t=some r) (hd:r.d=.slice et) (he:gZ P et=some re)
  (hz:re.zero.length=re.sz) (hz0:0<re.sz) (hf:re.zero.all aC.flat=true) (hlen:len*re.sz<=16777216) (hfill:v7 len re.sz (ps.toList.map λp=>(p.1,ρ p.2))=true)
  (hk:∀ n,h n=none->K (.os n re.sz 0 len) (bT h n (.row re.sz ((y1 (List.replicate len re.zero) (ps.toList.map λp=>(p.1,ρ p.2))).map (List.map .v))))):rI P o ρ h K:=by
 have hs:∀ e∈List.replicate len re.zero,e.length=re.sz:=λe he=>by rw[bCV he,hz]
 refine aA8 re.sz len (y1 (List.replicate len re.zero) (ps.toList.map λp=>(p.1,ρ p.2))) (aCX _ _ hfill hs) hk ?_
 intro E w ρc R hρ
 obtain⟨cs,h1,h2,h3⟩:=aEV (P:=P) hρ t et len ps r re ho ht hd he hz hz0 hf hlen hfill
 have hcs:cs.size=len*re.sz:=by
  have:=h2.length
  rw[length_flatten _ (aCX _ _ hfill hs),aCW]at this
  simpa using this.symm
 have:len<=len*re.sz:=Nat.le_mul_of_pos_right len hz0
 exact⟨cs,et,w.drawn,len,cs.toList,[],h1,fL _,by unfold maxLen;omega,by omega,by simp,h2,h3⟩
theorem aHD (t et:TypeId) (len:Nat) (ps:Array (Nat×Operand)) (r re:nK) (ho:o.op=.buildSlice t len ps) (ht:gZ P t=some r) (hd:r.d=.slice et) (he:gZ P et=some re)
  (hz:re.zero.length=re.sz) (hz0:0<re.sz) (hf:re.zero.all aC.flat=true) (hlen:len*re.sz<=16777216) (hfill:v7 len re.sz (ps.toList.map λp=>(p.1,ρ p.2))=true)
  (hk:K (.sl re.sz (y1 (List.replicate len re.zero) (ps.toList.map λp=>(p.1,ρ p.2))) true) h):rI P o ρ h K:=by
 have hs:∀ e∈List.replicate len re.zero,e.length=re.sz:=λe he=>by rw[bCV he,hz]
 have hs':=aCX (sz:=re.sz) _ _ hfill hs
 intro E w ρc R hρ
 obtain⟨cs,h1,h2,h3⟩:=aEV (P:=P) hρ t et len ps r re ho ht hd he hz hz0 hf hlen hfill
 obtain⟨cv,c1,c2,c3⟩:=a9S (t:=et) (d:=w.drawn) R hs' (cs:=cs) (vs:=cs.toList) (rest:=[]) aS h2 h3
 refine .kW h1 ⟨_,h,E,hk,Ev.yW _ _,R.yW _ _,?_⟩
 have hl:(y1 (List.replicate len re.zero) (ps.toList.map λp=>(p.1,ρ p.2))).length=len:=by rw[aCW,al9]
 have:len<=len*re.sz:=Nat.le_mul_of_pos_right len hz0
 have:=fY.sl (E:=E) (h:=h) (w:=Hl.yW w (.cells cs et) w.drawn) re.sz _ true w.heap.size 0 len cv (a9R R _ _) aA (by unfold maxLen;omega) (λ_=>hl.symm) hs' c1 c2 c3
 rw[hl]at this
 exact this
end
def yK:List (List Cell)->Option (List (List aC))
 | []=>some []
 |e::es=>match aET e,yK es with
  |some x,some xs=>some (x::xs)
  | _,_=>none
theorem aGT:∀ {es:List (List Cell)} {xs:List (List aC)},yK es=some xs->es=xs.map (List.map .v)
 | [],xs,h=>by simp[yK]at h;subst h;rfl
 |e::es,xs,h=>by
  unfold yK at h
  split at h
  ·rename_i x xs' hx hxs
   obtain rfl:=dY h
   simp[aHB hx,aGT hxs]
  ·simp at h
def aAE (h:Heap) (sz:Nat):aC->Option (List (List aC))
 | .sl sz' ys _=>if sz'=sz then some ys else none
 | .aV=>some []
 | .str s=>if sz=1 then some (s.map λc=>[.int .u8 c.toNat])else none
 | .os m sz' j k=>match h m with
  |some (.row sz'' es)=>if sz'=sz/\sz''=sz/\j+k<=es.length then yK ((es.drop j).take k)else none
  | _=>none
 | _=>none
theorem aQC {E:Env} {h:Heap} {w:World} {b o sz:Nat} {es:List (List aC)} (hs:∀ e∈es,e.length=sz) {cv:Nat->Nat->Value}
  (hc:∀ i j x,kE es i j=some x->w.cell? ⟨b,o+i*sz+j,none⟩=some (cv i j)) (h1:∀ i j x,kE es i j=some x->(cv i j).oneCell'=true) (hr:∀ i j x,kE es i j=some x->fY E h w x (cv i j)) :
  ∃ vs:List Value,eT E h w es.flatten vs/\(∀ c∈vs,c.oneCell'=true)/\∀ j v,vs[j]?=some v->w.cell? ((⟨b,o,none⟩:Addr).add j)=some v:=by
 have hlen:=length_flatten es hs
 refine⟨(List.range (es.length*sz)).map λk=>cv (k / sz) (k%sz),?_,?_,?_⟩
 ·refine eT.mk (by simp[hlen]) ?_
  intro k x v hx hv
  have hk:k<es.length*sz:=by rw[←hlen];exact(mU.1 hx).1
  rw[rM,bCT hk]at hv
  obtain rfl:=dY hv
  rw[aBP es hs k hk]at hx
  exact hr _ _ _ hx
 ·intro c hc'
  obtain⟨k,hk,rfl⟩:=vZ.1 hc'
  have hk:k<es.length*sz:=by simpa using hk
  have hx:es.flatten[k]?=some (es.flatten[k]'aA):=b6 aA
  rw[aBP es hs k hk]at hx
  exact h1 _ _ _ hx
 ·intro k v hv
  have hk:k<es.length*sz:=by have:=(mU.1 hv).1;simpa using this
  rw[rM,bCT hk]at hv
  obtain rfl:=dY hv
  have hx:es.flatten[k]?=some (es.flatten[k]'aA):=b6 aA
  rw[aBP es hs k hk]at hx
  rw[addr_add,←hc _ _ _ hx]
  congr 2
  have:=bKM k sz
  rw[aWI]at this;omega
theorem aHE {w w':World} (h:w'.heap=w.heap) (a:Addr):w'.cell? a=w.cell? a:=by simp only[World.cell?,h]
def bF0 (P:Program) (E:Env) (h:Heap) (w:World) (sz:Nat) (ys:List (List aC)) (v:Value):Prop :=
  ∃ news:List Value,(∀ e∈ys,e.length=sz)/\(∀ w',(Builtin.lenOf v).run P w'=.ok ys.length w')/\(∀ w',w'.heap=w.heap->(Builtin.firstCells sz ys.length v).run P w'=.ok news.toArray w') /\
   eT E h w ys.flatten news/\(∀ c∈news,c.oneCell'=true)/\ys.length<=maxLen
theorem aOQ {P:Program} {E:Env} {h:Heap} {w:World} (R:Rel E h w) {sz:Nat} {x:aC} {v:Value} {ys:List (List aC)} (hx:aAE h sz x=some ys) (r:fY E h w x v):bF0 P E h w sz ys v:=by
 unfold aAE at hx
 have slices:∀ (b o len cap:Nat) (cv:Nat->Nat->Value),v=.slice (some ⟨b,o,none⟩) len cap->len=ys.length->len<=maxLen->(∀ e∈ys,e.length=sz)->(∀ i j x,kE ys i j=some x->w.cell? ⟨b,o+i*sz+j,none⟩=some (cv i j)) ->
   (∀ i j x,kE ys i j=some x->(cv i j).oneCell'=true)->(∀ i j x,kE ys i j=some x->fY E h w x (cv i j))->bF0 P E h w sz ys v:=by
  intro b o len cap cv hv hl hmax hs hc h1 hr
  obtain⟨vs,hL,hone,hcell⟩:=aQC hs hc h1 hr
  refine⟨vs,hs,λw'=>by rw[hv,←hl];simp[Builtin.lenOf],λw' hw=>?_,hL,hone,by omega⟩
  rw[hv]
  refine run_firstCells_some w' sz ys.length _ _ _ vs (by rw[←hL.length,length_flatten ys hs]) λj u hu=>?_
  rw[aHE hw];exact hcell j u hu
 split at hx
 ·rename_i sz' ys' t
  split at hx
  ·rename_i e
   subst e
   obtain rfl:=dY hx
   cases r with
   |sl0 _ _ a cap ht hmax ha =>
    refine⟨[],by simp,λw'=>by simp[Builtin.lenOf],λw' hw=>?_,trivial,by simp,by simp⟩
    cases a with
    |none=>simp[Builtin.firstCells]
    |some a=>simp[Builtin.firstCells,loadCells,loadCellsFrom]
   |sl _ _ _ b o cap cv hi hcap hmax ht hs hc h1 hr=>exact slices b o _ _ cv rfl rfl aA hs hc h1 hr
  ·simp at hx
 ·obtain rfl:=dY hx
  cases r
  exact⟨[],by simp,λw'=>by simp[Builtin.lenOf],λw' hw=>by simp[Builtin.firstCells],trivial,by simp,by simp⟩
 ·rename_i s
  split at hx
  ·rename_i e
   subst e
   obtain rfl:=dY hx
   cases r with
   |str _ hl =>
    refine⟨s.map λc=>.int .u8 c.toNat,by simp,λw'=>by simp[Builtin.lenOf,ByteArray.size],λw' hw=>?_,?_,by simp[Value.oneCell'],by simpa using hl⟩
    ·simp only[Builtin.firstCells,k5]
     have:(ByteArray.mk s.toArray).extract 0 s.length=⟨s.toArray⟩:=by
      apply ByteArray.ext
      rw[ByteArray.data_extract];simp
     rw[this];simp
    ·refine eT.mk (by rw[length_flatten (sz:=1) _ aS];simp) ?_
     have:∀ (s:List UInt8),(s.map λc=>[aC.int .u8 c.toNat]).flatten=s.map λc=>aC.int .u8 c.toNat:=λs=>by
      induction s with
      |nil=>rfl
      |cons c s ih=>simp[ih]
     rw[this]
     intro i x v hx hv
     rw[rM]at hx hv
     obtain⟨c,hc,rfl⟩:=xD.1 hx
     rw[hc]at hv
     obtain rfl:=dY hv
     exact .int _ _
  ·simp at hx
 ·rename_i m sz' j k
  split at hx
  ·rename_i sz'' es hm
   split at hx
   ·rename_i e
    obtain⟨rfl,rfl,hjk⟩:=e
    have hpl:=aGT hx
    have hlen:ys.length=k:=by have:=congrArg List.length hpl;simp at this;omega
    cases r with
    |os0 _ _ hd hl =>
     have:ys=[]:=aZM.1 hlen
     subst this
     exact⟨[],by simp,λw'=>by simp[Builtin.lenOf],λw' hw=>by simp[Builtin.firstCells],trivial,by simp,by simp⟩
    |os _ _ _ _ b o cap t mm hd hl hlc hmax hsh hm' =>
     obtain⟨b',o',hl',hbS,hs,cs,ct,cv,T,hh,hmm,hT,hD,hc,hrr⟩:=aEU R hm (.inr ⟨_,hl⟩)
     rw[hl]at hl'
     obtain⟨rfl,rfl⟩:=nI (dY hl')
     have hat:∀ i' j' y,kE ys i' j'=some y->kE es (j+i') j'=some (.v y):=by
      intro i' j' y hy
      have h1:kE (ys.map (List.map Cell.v)) i' j'=some (.v y):=by rw[wN,hy];rfl
      rw[←hpl]at h1
      obtain⟨e,h2,h3⟩:=mY h1
      have hlt:i'<k:=by have:=(mU.1 h2).1;simp at this;omega
      rw[aWH hlt,aPR]at h2
      simp[kE,h2,h3]
     refine slices b _ k cap (λi' j'=>cv (j+i') j') rfl hlen.symm aA ?_ ?_ ?_ ?_
     ·intro e he
      have:e.map Cell.v∈(es.drop j).take k:=by rw[hpl];exact vZ.2 ⟨e,he,rfl⟩
      have:=hs _ (bE6 (aWJ this))
      simpa using this
     ·intro i' j' y hy
      have:=hc _ _ _ (hat i' j' y hy)
      simp only[World.cell?,hh,bE8,aWG,if_false]
      rw[←this];congr 1;rw[aAT];omega
     ·intro i' j' y hy;exact(hrr _ _ _ (hat i' j' y hy)).one
     ·intro i' j' y hy
      have:=hrr _ _ _ (hat i' j' y hy)
      generalize cv (j+i') j'=c at this
      generalize T (j+i') j'=S at this
      cases this with
      |v _ _ _ _ hx=>exact hx
   ·simp at hx
  ·simp at hx
 ·simp at hx
def bR4 (P:Program) (t:TypeId):Option TyD:=(gZ P t).map (·.d)
def aEW (P:Program) (t:Option TypeId):Bool :=
 match t with
 |some t=>match bR4 P t with
  |some (.slice _)=>true
  |some .str=>true
  | _=>false
 |none=>false
theorem aLM {P:Program} {w:World} {t:Option TypeId} (h:aEW P t=true) :
  ∃ t',t=some t'/\((∃ e,(underlying t').run P w=.ok (.slice e) w)∨(underlying t').run P w=.ok .string w):=by
 unfold aEW at h
 cases t with
 |none=>simp at h
 |some t =>
  refine⟨t,rfl,?_⟩
  simp only[bR4]at h
  cases hr:gZ P t with
  |none=>simp[hr]at h
  |some r =>
   simp only[hr,aOA]at h
   obtain⟨u,hu,hud,hrun⟩:=dA (w:=w) hr
   split at h
   ·rename_i e he
    obtain rfl:=jW (hud.trans (dY he))
    exact .inl ⟨e,hrun⟩
   ·rename_i he
    obtain rfl:=aJL (hud.trans (dY he))
    exact .inr hrun
   ·simp at h
section
variable {P:Program} {o:Oper} {ρ:Operand->aC} {h:Heap} {K:aC->Heap->Prop}
theorem aEX {w:World} {t et:TypeId} {t1:Option TypeId} {r re:nK} (ht:gZ P t=some r) (hd:r.d=.slice et) (he:gZ P et=some re) (h1:aEW P t1=true) (ats:Array TypeId) (a0:ats[0]?=some t) (a1:ats[1]?=t1) (ty:TypeId)
  {base:Option Addr} {sLen sCap n:Nat} {v:Value} {olds news:List Value} {z:Value} (hz:(∀ w,(zeroValue et).run P w=.ok z w)) (hlen:∀ w',(Builtin.lenOf v).run P w'=.ok n w')
  (hold:∀ w',w'.heap=w.heap->(Builtin.firstCells re.sz sLen (.slice base sLen sCap)).run P w'=.ok olds.toArray w') (hnew:∀ w',w'.heap=w.heap->(Builtin.firstCells re.sz n v).run P w'=.ok news.toArray w')
  (hg:sCap<sLen+n) (hb:(sLen+n)*re.bytes<=140737488355328) (hmax:sLen+n<=maxLen) :
  ∃ cap d,sLen+n<=cap/\cap<=maxLen/\(Builtin.append_ ats ty #[.slice base sLen sCap,v]).run P w =
   .ok (.slice (some ⟨w.heap.size,0,none⟩) (sLen+n) cap) (yW w (.cells ((olds++news).toArray++Builtin.zeroCells z.cells (cap-(sLen+n))) et) d):=by
 obtain⟨u,hu,hud,hrun⟩:=dA (w:=w) ht
 obtain rfl:=jW (hud.trans hd)
 have hsize:∀ w,(sizeOf et).run P w=.ok re.sz w:=λw=>jE he
 obtain⟨i,u',hi,hu',hsz,hby,_⟩:=uY he
 obtain⟨t',rfl,hu1⟩:=aLM (w:=w) h1
 have hti:∀ w,(typeInfo et).run P w=.ok i w:=λw=>by simp[typeInfo,hi]
 have hge:=grownCap_ge w (sLen+n) sCap et
 have hcm:=grownCap_le_maxLen w (sLen+n) sCap et hmax
 refine⟨grownCap w (sLen+n) sCap et,w.drawn+1,hge,hcm,?_⟩
 have hml:maxLen=9223372036854775807:=rfl
 have n1:¬(sLen+n<=sCap):=by omega
 have n3:¬(281474976710656<Builtin.nextslicecap (sLen+n) sCap*i.bytes):=by
  have:=growslice_fits hg (by rw[←hby];exact hb:(sLen+n)*i.bytes<=140737488355328)
  omega
 have n2:¬(9223372036854775807<((sLen:Int)+(n:Int))):=by omega
 have hw:(w.drew).heap=w.heap:=rfl
 have hassoc:∀ zc:Array Value,olds.toArray++(news.toArray++zc)=(olds++news).toArray++zc:=λzc=>by apply Array.ext';simp
 rcases hu1 with⟨e,hu1⟩|hu1
 ·simp[Builtin.append_,a0,a1,hrun,hsize,hu1,hlen,n1,n2,n3,hti,Question.forced,grownCap,hold _ hw,hnew _ hw,hz,newRow,hassoc]
  rfl
 ·simp[Builtin.append_,a0,a1,hrun,hsize,hu1,hlen,n1,n2,n3,hti,Question.forced,grownCap,hold _ hw,hnew _ hw,hz,newRow,hassoc]
  rfl
end
section
variable {P:Program} {o:Oper} {ρ:Operand->aC} {h:Heap} {K:aC->Heap->Prop}
theorem tD {ρc:Operand->Value} {w:World} (x y:Operand) (ats:Array TypeId) (ho:o.op=.call { callee:=.builtin .append,args:=#[x,y],argTypes:=ats }) :
  (execOp ρc o).run P w=((Builtin.append_ ats o.type #[ρc x,ρc y]).run P w).andThen λv w'=>.ok (.value v) w':=by
 simp[execOp,ho,resolve,invoke,builtin]
def aJR (sz:Nat):aC->Option (List (List aC))
 | .aV=>some []
 | .sl sz' es true=>if sz'=sz then some es else none
 | _=>none
theorem y9 (z:Array Value) (n:Nat):(Builtin.zeroCells z n).size=n*z.size:=by simp[Builtin.zeroCells]
theorem aQD (x y:Operand) (ats:Array TypeId) (t et:TypeId) (r re:nK) (olds ys:List (List aC)) (ho:o.op=.call { callee:=.builtin .append,args:=#[x,y],argTypes:=ats })
  (a0:ats[0]?=some t) (ht:gZ P t=some r) (hd:r.d=.slice et) (he:gZ P et=some re) (hz:re.zero.length=re.sz) (hz0:0<re.sz) (h1:aEW P ats[1]?=true)
  (hx:aJR re.sz (ρ x)=some olds) (hy:aAE h re.sz (ρ y)=some ys) (hne:ys≠[]) (hb:(olds.length+ys.length)*re.bytes<=140737488355328) (hmax:olds.length+ys.length<=9223372036854775807)
  (hk:∀ n,h n=none->K (.os n re.sz 0 (olds.length+ys.length)) (bT h n (.row re.sz ((olds++ys).map (List.map .v))))):rI P o ρ h K:=by
 have hml:maxLen=9223372036854775807:=rfl
 have bFZ:0<ys.length:=bR0.2 hne
 have dst:∀ E w v,fY E h w (ρ x) v->∃ (base:Option Addr) (cap:Nat) (vs:List Value),v=.slice base olds.length cap/\cap<olds.length+ys.length/\(∀ e∈olds,e.length=re.sz)/\eT E h w olds.flatten vs/\(∀ c∈vs,c.oneCell'=true) /\
   ∀ w',w'.heap=w.heap->(Builtin.firstCells re.sz olds.length (.slice base olds.length cap)).run P w'=.ok vs.toArray w':=by
  intro E w v hr
  unfold aJR at hx
  split at hx
  ·rename_i hxv
   obtain rfl:=dY hx
   rw[hxv]at hr
   cases hr
   exact⟨none,0,[],rfl,by simpa using bFZ,by simp,trivial,by simp,λw' _=>by simp[Builtin.firstCells]⟩
  ·rename_i sz' es hxv
   split at hx
   ·rename_i e
    obtain rfl:=dY hx
    rw[hxv]at hr
    cases hr with
    |sl0 _ _ a cap htt hm ha =>
     have:=htt rfl
     refine⟨_,_,[],rfl,by simp;omega,by simp,trivial,by simp,λw' _=>?_⟩
     cases a <;> simp[Builtin.firstCells,loadCells,loadCellsFrom]
    |sl _ _ _ b o' cap cv hI hcap hm htt hs hc hone hrr =>
     have:=htt rfl
     subst e
     obtain⟨vs,hL,hv1,hcell⟩:=aQC hs hc hone hrr
     refine⟨_,_,vs,rfl,by omega,hs,hL,hv1,λw' hw=>?_⟩
     refine run_firstCells_some w' _ _ _ _ _ vs (by rw[←hL.length,length_flatten _ hs]) λj u hu=>?_
     rw[aHE hw];exact hcell j u hu
   ·simp at hx
  ·simp at hx

 intro E w ρc R hρ
 obtain⟨base,cap,vs,hv,hcap,hso,hLo,hv1,hfo⟩:=dst E w _ (hρ x)
 obtain⟨news,hsn,hlen,hfn,hLn,xT,_⟩:=aOQ (P:=P) R hy (hρ y)
 have hs:∀ e∈olds++ys,e.length=re.sz:=λe he=>by
  rcases pH.1 he with h|h
  ·exact hso e h
  ·exact hsn e h
 refine aA8 re.sz (olds.length+ys.length) (olds++ys) hs hk ?_ E w ρc R hρ
 intro E w ρc R hρ
 obtain⟨base,cap,vs,hv,hcap,hso,hLo,hv1,hfo⟩:=dst E w _ (hρ x)
 obtain⟨news,hsn,hlen,hfn,hLn,xT,_⟩:=aOQ (P:=P) R hy (hρ y)
 obtain⟨z,hzr,hzz⟩:=tB (w:=w) he aUJ
 have hzr':∀ w,(zeroValue et).run P w=.ok z w:=by
  intro w'
  obtain⟨z',hzr',hzz'⟩:=tB (w:=w') he aUJ
  have:z'=z:=by
   obtain⟨i,u,hi,_⟩:=uY he
   simp only[zeroValue,typeInfo,Sem.run_bind,run_program,Result.andThen_ok,hi,Sem.run_pure]at hzr hzr'
   cases hiz:i.zero with
   |none=>simp[hiz]at hzr
   |some z0=>simp[hiz]at hzr hzr';rw[←hzr,←hzr']
  rw[←this];exact hzr'
 have hzs:z.cells.size=re.sz:=by have:=congrArg List.length hzz;simp[hz]at this;exact this
 obtain⟨ncap,d,g1,g2,grun⟩:=aEX (w:=w) (t1:=ats[1]?) ht hd he h1 ats a0 rfl o.type (base:=base) (sLen:=olds.length) (sCap:=cap) (n:=ys.length) (v:=ρc y) (olds:=vs) (news:=news) (z:=z) hzr' hlen hfo hfn hcap hb aA
 refine⟨(vs++news).toArray++Builtin.zeroCells z.cells (ncap-(olds.length+ys.length)),et,d,ncap,vs++news,(Builtin.zeroCells z.cells (ncap-(olds.length+ys.length))).toList,?_,g1,g2,?_,by simp,by rw[List.flatten_append];exact hLo.append hLn,λc hc=>?_⟩
 ·rw[tD x y ats ho,hv,grun];rfl
 ·have e1:=hLo.length
  have e2:=hLn.length
  rw[length_flatten _ hso]at e1
  rw[length_flatten _ hsn]at e2
  rw[bKN,y9,hzs,bR1,rL,←e1,←e2,←aAT,←aAT]
  have:olds.length+ys.length+(ncap-(olds.length+ys.length))=ncap:=by omega
  rw[this];exact fL _
 ·rcases pH.1 hc with h|h
  ·exact hv1 c h
  ·exact xT c h
theorem aOF (x y:Operand) (ats:Array TypeId) (t et:TypeId) (r re:nK) (ho:o.op=.call { callee:=.builtin .append,args:=#[x,y],argTypes:=ats })
  (a0:ats[0]?=some t) (ht:gZ P t=some r) (hd:r.d=.slice et) (he:gZ P et=some re) (h1:aEW P ats[1]?=true)
  (hx:(aJR re.sz (ρ x)).isSome=true) (hy:aAE h re.sz (ρ y)=some []) (hk:K (ρ x) h):rI P o ρ h K :=
 dJ hk λE w ρc R hρ=>by
  obtain⟨news,hsn,hlen,hfn,hLn,xT,_⟩:=aOQ (P:=P) R hy (hρ y)
  have hnil:news=[]:=by have:=hLn.length;simp at this;exact aZM.1 this.symm
  subst hnil
  obtain⟨u,hu,hud,hrun⟩:=dA (w:=w) ht
  obtain rfl:=jW (hud.trans hd)
  have hsize:∀ w,(sizeOf et).run P w=.ok re.sz w:=λw=>jE he
  have dst:∃ (base:Option Addr) (n cap:Nat),ρc x=.slice base n cap/\n<=cap:=by
   have hr:=hρ x
   unfold aJR at hx
   split at hx
   ·rename_i e;rw[e]at hr;generalize ρc x=v at hr ⊢;cases hr;exact⟨none,0,0,rfl,fL _⟩
   ·rename_i e;rw[e]at hr;generalize ρc x=v at hr ⊢
    cases hr with
    |sl0=>exact⟨_,_,_,rfl,iZ _⟩
    |sl=>exact⟨_,_,_,rfl,by assumption⟩
   ·cases hx
  obtain⟨base,n,cap,hv,hc⟩:=dst
  obtain⟨t',ht',hu1⟩:=aLM (w:=w) h1
  refine⟨ρc x,?_,hρ x⟩
  have hfn':=hfn w rfl
  have hlen':=hlen w
  simp only[al3]at hfn' hlen'
  rw[tD x y ats ho,hv]
  rcases hu1 with⟨e,hu1⟩|hu1
  ·cases base <;> simp[Builtin.append_,a0,ht',hrun,hsize,hu1,hlen',hc,hfn',storeCells]
  ·cases base <;> simp[Builtin.append_,a0,ht',hrun,hsize,hu1,hlen',hc,hfn',storeCells]
end
def Env.mv (E:Env) (b:Nat) (l:Option (Nat×Nat)) (S:Nat->Prop):Env where
 loc:=λm=>if m=b then l else E.loc m
 fp:=λm c=>if m=b then S c else E.fp m c
 used:=λm=>m=b∨E.used m
theorem Ev.mv {E:Env} {h:Heap} {w w':World} (R:Rel E h w) {n:Nat} {x:cF} (hn:h n=some x) (hx:x.live) {b:Nat} (hb:¬E.used b) (l:Option (Nat×Nat)) (S:Nat->Prop) (x':cF)
  (hS:∀ c,S c->E.fp n c∨w.heap.size<=c) (hsize:w.heap.size<=w'.heap.size) (hheap:∀ c,c<w.heap.size->¬E.fp n c->w'.heap[c]?=w.heap[c]?) (hsh:∀ c,c<w.heap.size->w'.shape? c=w.shape? c) (hos:w'.os=w.os) (hout:w'.output=w.output) :
  Ev E h w (E.mv b l S) (bT (bT h n .gone) b x') w':=by
 have hnb:n≠b:=λe=>hb (e▸R.dom n (by simp[hn]))
 refine⟨hsize,λc hc=>⟨hheap c hc.1 (hc.2 n x hn hx),⟨by have:=hc.1;omega,?_⟩⟩,hsh,λm hm=>?_,hos,hout⟩
 ·intro m y hm hy hf
  by_cases e:m=b
  ·subst e
   have hf:S c:=by simpa[Env.mv]using hf
   rcases hS c hf with h1|h1
   ·exact hc.2 n x hn hx h1
   ·have:=hc.1;omega
  ·rw[aD _ _ _ _ e]at hm
   have hf:E.fp m c:=by simpa[Env.mv,e]using hf
   by_cases e2:m=n
   ·subst e2;rw[bG]at hm;obtain rfl:=dY hm;exact hy.elim
   ·rw[aD _ _ _ _ e2]at hm;exact hc.2 m y hm hy hf
 ·have e:m≠b:=λe=>hb (e▸hm)
  exact⟨by simp[Env.mv,e],.inr hm⟩
theorem Rel.mv {E:Env} {h:Heap} {w w':World} (R:Rel E h w) {n:Nat} {x:cF} (hn:h n=some x) (hx:x.live) {b:Nat} (hb:¬E.used b) (l:Option (Nat×Nat)) (S:Nat->Prop) (x':cF)
  (hS:∀ c,S c->E.fp n c∨w.heap.size<=c) (hS':∀ c,S c->c<w'.heap.size) (hsize:w.heap.size<=w'.heap.size) (hheap:∀ c,c<w.heap.size->¬E.fp n c->w'.heap[c]?=w.heap[c]?) (hsh:∀ c,c<w.heap.size->w'.shape? c=w.shape? c) (hos:w'.os=w.os) (hout:w'.output=w.output)
  (hO:aJI (E.mv b l S) (bT (bT h n .gone) b x') w' b x'):Rel (E.mv b l S) (bT (bT h n .gone) b x') w':=by
 have ev:=Ev.mv R hn hx hb l S x' hS hsize hheap hsh hos hout
 have hnb:n≠b:=λe=>hb (e▸R.dom n (by simp[hn]))
 have hcase:∀ m y,bT (bT h n .gone) b x' m=some y->y.live->(m=b/\y=x')∨(m≠b/\m≠n/\h m=some y):=by
  intro m y hm hy
  by_cases e:m=b
  ·subst e;rw[bG]at hm;exact .inl ⟨rfl,(dY hm).symm⟩
  ·rw[aD _ _ _ _ e]at hm
   by_cases e2:m=n
   ·subst e2;rw[bG]at hm;obtain rfl:=dY hm;exact hy.elim
   ·rw[aD _ _ _ _ e2]at hm;exact .inr ⟨e,e2,hm⟩
 refine⟨?_,?_,?_,?_,?_,R.laid.ev ev⟩
 ·obtain⟨N,hN⟩:=R.fin
  exact ⟨max N (b + 1), fun m hm => by rintro (e | e); · omega
                                       · exact hN m aA e⟩
 ·intro m hm
  by_cases e:m=b
  ·exact .inl e
  ·rw[aD _ _ _ _ e]at hm
   by_cases e2:m=n
   ·subst e2;exact .inr (R.dom m (by simp[hn]))
   ·rw[aD _ _ _ _ e2]at hm;exact .inr (R.dom m hm)
 ·intro m y c hm hy hf
  rcases hcase m y hm hy with⟨rfl,rfl⟩|⟨e,e2,hm'⟩
  ·exact hS' c (by simpa[Env.mv]using hf)
  ·have:=R.lt m y c hm' hy (by simpa[Env.mv,e]using hf);omega
 ·intro m y m' y' c hm hy hm' hy' hf hf'
  rcases hcase m y hm hy with⟨rfl,rfl⟩|⟨e,e2,h1⟩ <;> rcases hcase m' y' hm' hy' with⟨rfl,rfl⟩|⟨e',e2',h1'⟩
  ·rfl
  ·have hf:S c:=by simpa[Env.mv]using hf
   have hf':E.fp m' c:=by simpa[Env.mv,e']using hf'
   rcases hS c hf with h2|h2
   ·exact absurd (R.apart n x m' y' c hn hx h1' hy' h2 hf').symm e2'
   ·have:=R.lt m' y' c h1' hy' hf';omega
  ·have hf':S c:=by simpa[Env.mv]using hf'
   have hf:E.fp m c:=by simpa[Env.mv,e]using hf
   rcases hS c hf' with h2|h2
   ·exact absurd (R.apart n x m y c hn hx h1 hy h2 hf).symm e2
   ·have:=R.lt m y c h1 hy hf;omega
  ·exact R.apart m y m' y' c h1 hy h1' hy' (by simpa[Env.mv,e]using hf) (by simpa[Env.mv,e']using hf')
 ·intro m y hm
  by_cases e:m=b
  ·subst e;rw[bG]at hm;obtain rfl:=dY hm;exact hO
  ·rw[aD _ _ _ _ e]at hm
   by_cases e2:m=n
   ·subst e2;rw[bG]at hm;obtain rfl:=dY hm;trivial
   ·rw[aD _ _ _ _ e2]at hm
    refine(R.obj m y hm).ev ev (by simp[Env.mv,e]) (by funext c;simp[Env.mv,e]) λc hy hc=>hheap c (R.lt m y c hm hy hc) λhf=>e2 (R.apart m y n x c hm hy hn hx hc hf)
theorem aQE {α:Type} {a b:List (List α)} {i j:Nat} {x:α} (h:kE (a++b) i j=some x):(i<a.length/\kE a i j=some x)∨(a.length<=i/\kE b (i-a.length) j=some x):=by
 unfold kE at *
 by_cases hi:i<a.length
 ·rw[aGO hi]at h;exact .inl ⟨hi,h⟩
 ·rw[aEC aA]at h;exact .inr ⟨by omega,h⟩
theorem aUW {α:Type} {es:List (List α)} {i len k j:Nat} {x:α} (h:kE ((es.drop i).take len) k j=some x):k<len/\kE es (i+k) j=some x:=by
 obtain⟨e,h1,h2⟩:=mY h
 have hlt:k<len:=by have:=(mU.1 h1).1;simp at this;omega
 rw[aWH hlt,aPR]at h1
 exact⟨hlt,by simp[kE,h1,h2]⟩
theorem a0S {ys:List (List aC)} {i j:Nat} {x:Cell} (h:kE (ys.map (List.map Cell.v)) i j=some x):∃ y,kE ys i j=some y/\x=.v y:=by
 rw[wN]at h
 obtain⟨y,hy,rfl⟩:=xD.1 h
 exact⟨y,hy,rfl⟩
theorem a9T {E:Env} {h:Heap} {w:World} {ys:List (List aC)} {sz:Nat} (hs:∀ e∈ys,e.length=sz) {vs:List Value} (hL:eT E h w ys.flatten vs) (h1:∀ c∈vs,c.oneCell'=true) {i j:Nat} {y:aC} (hy:kE ys i j=some y) :
  ∃ c,vs[i*sz+j]?=some c/\fY E h w y c/\c.oneCell'=true:=by
 have hlt:=aAD hs hy
 have hlen:vs.length=ys.length*sz:=by rw[←hL.length,length_flatten ys hs]
 have hv:vs[i*sz+j]?=some (vs[i*sz+j]'aA):=b6 aA
 exact⟨_,hv,hL.get _ _ _ (aAC ys hs i j y hy) hv,h1 _ (dG _)⟩
theorem aCY {E E':Env} {h h':Heap} {w w':World} (ev:Ev E h w E' h' w') {b₀ sz i len:Nat} {es:List (List Cell)} {S:Nat->Prop} (hs:∀ e∈es,e.length=sz) {cv:Nat->Nat->Value} {T:Nat->Nat->Nat->Prop}
  (hT:∀ i j c,T i j c->S c/\c≠b₀) (hD:∀ i j i' j' c,T i j c->T i' j' c->i=i'/\j=j') (hrr:∀ i j x,kE es i j=some x->aA6 E h w x (cv i j) (T i j)) (hle:i+len<=es.length)
  {ys:List (List aC)} (hsn:∀ e∈ys,e.length=sz) {news:List Value} (hLn:eT E h w ys.flatten news) (xT:∀ c∈news,c.oneCell'=true)
  {blk o:Nat} {S':Nat->Prop} {cs:Array Value} {ct:TypeId} (hb:S' blk) (hS':∀ c,S c->c≠b₀->S' c/\c≠blk) (hkeep:∀ c,S c->c≠b₀->w'.heap[c]?=w.heap[c]?) (hh:w'.heap[blk]?=some (.cells cs ct (0,0))) (hm:o+(len+ys.length)*sz<=cs.size)
  (hold:∀ k j x,k<len->kE es (i+k) j=some x->cs[o+k*sz+j]?=some (cv (i+k) j)) (hnew:∀ k,k<ys.length*sz->cs[o+len*sz+k]?=news[k]?) :
  aUP E' h' w' blk o sz ((es.drop i).take len++ys.map (List.map .v)) S':=by
 have hlen:((es.drop i).take len).length=len:=by simp;omega
 have hnl:news.length=ys.length*sz:=by rw[←hLn.length,length_flatten ys hsn]
 refine⟨hb,?_,cs,ct,λk j=>if k<len then cv (i+k) j else(news[(k-len)*sz+j]?).getD undef,λk j c=>k<len/\T (i+k) j c,hh,?_,?_,?_,?_,?_⟩
 ·intro e he
  rcases pH.1 he with h1|h1
  ·exact hs e (bE6 (aWJ h1))
  ·obtain⟨e',he',rfl⟩:=vZ.1 h1
   simpa using hsn e' he'
 ·simpa[hlen]using hm
 ·intro k j c ⟨_,hc⟩
  obtain⟨h1,h2⟩:=hT _ _ c hc
  exact hS' c h1 h2
 ·intro k j k' j' c ⟨_,hc⟩ ⟨_,hc'⟩
  have:=hD _ _ _ _ c hc hc'
  exact⟨by omega,this.2⟩
 ·intro k j x hx
  rcases aQE hx with⟨h1,h2⟩|⟨h1,h2⟩
  ·obtain⟨h3,h4⟩:=aUW h2
   simp only[if_pos h3];exact hold k j x h3 h4
  ·rw[hlen]at h1 h2
   obtain⟨y,hy,rfl⟩:=a0S h2
   simp only[if_neg (show ¬k<len by omega)]
   obtain⟨c,hc,_,_⟩:=a9T hsn hLn xT hy
   have hlt:=aAD hsn hy
   have:=hnew ((k-len)*sz+j) hlt
   rw[hc]at this ⊢
   rw[a39,←this]
   congr 1
   have:k*sz=len*sz+(k-len)*sz:=by rw[←aAT];congr 1;omega
   omega
 ·intro k j x hx
  rcases aQE hx with⟨h1,h2⟩|⟨h1,h2⟩
  ·obtain⟨h3,h4⟩:=aUW h2
   simp only[if_pos h3]
   refine((hrr _ _ _ h4).ev ev λc hc=>?_).mono λc hc=>⟨h3,hc⟩
   obtain⟨h5,h6⟩:=hT _ _ c hc
   exact hkeep c h5 h6
  ·rw[hlen]at h1 h2
   obtain⟨y,hy,rfl⟩:=a0S h2
   simp only[if_neg (show ¬k<len by omega)]
   obtain⟨c,hc,hr,hone⟩:=a9T hsn hLn xT hy
   rw[hc]
   exact .v _ _ _ hone (hr.ev ev)
section
variable {P:Program} {o:Oper} {ρ:Operand->aC} {h:Heap} {K:aC->Heap->Prop}
theorem aTT (x y:Operand) (ats:Array TypeId) (t et:TypeId) (r re:nK) (n sz i len:Nat) (es:List (List Cell)) (ys:List (List aC)) (ho:o.op=.call { callee:=.builtin .append,args:=#[x,y],argTypes:=ats })
  (a0:ats[0]?=some t) (ht:gZ P t=some r) (hd:r.d=.slice et) (he:gZ P et=some re) (hz:re.zero.length=re.sz) (hz0:0<re.sz) (h1:aEW P ats[1]?=true)
  (hx:ρ x=.os n sz i len) (hsz:re.sz=sz) (hn:h n=some (.row sz es)) (hle:i+len<=es.length) (hy:aAE h sz (ρ y)=some ys) (hb:(len+ys.length)*re.bytes<=140737488355328) (hmax:len+ys.length<=9223372036854775807)
  (hk:∀ b,h b=none->K (.os b sz 0 (len+ys.length)) (bT (bT h n .gone) b (.row sz ((es.drop i).take len++ys.map (List.map .v))))):rI P o ρ h K:=by
 have hml:maxLen=9223372036854775807:=rfl
 subst hsz
 intro E w ρc R hρ
 obtain⟨news,hsn,hlen,hfn,hLn,xT,_⟩:=aOQ (P:=P) R hy (hρ y)
 have hnl:news.length=ys.length*re.sz:=by rw[←hLn.length,length_flatten ys hsn]
 obtain⟨b,hbu⟩:=R.fresh
 have hK:=hk b (R.none hbu)
 obtain⟨u,hu,hud,hrun⟩:=dA (w:=w) ht
 obtain rfl:=jW (hud.trans hd)
 have hsize:∀ w,(sizeOf et).run P w=.ok re.sz w:=λw=>jE he
 obtain⟨t',ht',hu1⟩:=aLM (w:=w) h1
 obtain⟨z,hzr,hzz⟩:=tB (w:=w) he aUJ
 have hzr':∀ w,(zeroValue et).run P w=.ok z w:=by
  intro w'
  obtain⟨z',hzr',hzz'⟩:=tB (w:=w') he aUJ
  have:z'=z:=by
   obtain⟨i,u,hi,_⟩:=uY he
   simp only[zeroValue,typeInfo,Sem.run_bind,run_program,Result.andThen_ok,hi,Sem.run_pure]at hzr hzr'
   cases hiz:i.zero with
   |none=>simp[hiz]at hzr
   |some z0=>simp[hiz]at hzr hzr';rw[←hzr,←hzr']
  rw[←this];exact hzr'
 have hzs:z.cells.size=re.sz:=by have:=congrArg List.length hzz;simp[hz]at this;exact this
 have hr:=hρ x
 rw[hx]at hr
 cases hv:ρc x <;> rw[hv]at hr <;> try(cases hr;done)
 cases hr with
 |os0 _ _ hd0 hl0 =>
  have hes:es=[]:=by
   rcases R.obj n _ hn with⟨b0,o0,h0,_⟩|⟨h0,_⟩
   ·rw[hl0]at h0;simp at h0
   ·exact h0
  subst hes
  by_cases hys:ys=[]
  ·subst hys
   have hnn:news=[]:=aZM.1 (by simpa using hnl)
   have hrunA:(execOp ρc o).run P w=.ok (.value (.slice none 0 0)) w:=by
    rw[tD x y ats ho,hv]
    have gJ:=hfn w rfl
    have hl0:=hlen w
    simp only[al3]at gJ hl0
    rcases hu1 with⟨e,hu1⟩|hu1 <;> simp[Builtin.append_,a0,ht',hrun,hsize,hu1,hl0,gJ,storeCells]
   have evm:=Ev.mv R hn trivial hbu none (λ_=>False) (.row re.sz []) (λ_ hf=>hf.elim) (fL _) (λ_ _ _=>rfl) (λ_ _=>rfl) rfl rfl
   have Rm:=Rel.mv R hn trivial hbu none (λ_=>False) (.row re.sz []) (λ_ hf=>hf.elim) (λ_ hf=>hf.elim) (fL _) (λ_ _ _=>rfl) (λ_ _=>rfl) rfl rfl (.inr ⟨rfl,by simp[Env.mv]⟩)
   refine .kW hrunA ⟨_,_,E.mv b none (λ_=>False),hK,?_,?_,?_⟩
   ·exact evm
   ·exact Rm
   ·exact .os0 b re.sz (.inl rfl) (by simp[Env.mv])
  ·have hpos:0<ys.length:=bR0.2 hys
   obtain⟨ncap,d,g1,g2,grun⟩:=aEX (w:=w) (t1:=ats[1]?) ht hd he h1 ats a0 rfl o.type (base:=none) (sLen:=0) (sCap:=0) (n:=ys.length) (v:=ρc y) (olds:=[]) (news:=news) (z:=z) hzr' hlen
    (λw' _=>by simp[Builtin.firstCells]) hfn aA (by simpa using hb) aA
   have hrunA:(execOp ρc o).run P w=.ok (.value (.slice (some ⟨w.heap.size,0,none⟩) (0+ys.length) ncap)) (yW w (.cells (([]++news).toArray++Builtin.zeroCells z.cells (ncap-(0+ys.length))) et) d):=by
    rw[tD x y ats ho,hv,grun];rfl
   have hcs:(([]++news).toArray++Builtin.zeroCells z.cells (ncap-(0+ys.length))).size=ncap*re.sz:=by
    rw[bKN,y9,hzs,bR1,rL,hnl,al3,al4,←aAT];congr 1;omega
   have evm:=Ev.mv (w':=yW w (.cells (([]++news).toArray++Builtin.zeroCells z.cells (ncap-(0+ys.length))) et) d) R hn trivial hbu (some (w.heap.size,0)) (λc=>c=w.heap.size) (.row re.sz ((([]:List (List Cell)).drop 0).take 0++ys.map (List.map .v))) (λc hc=>.inr aA) a9L
    (λc hc _=>pX _ _ _ c hc) (λc hc=>by simp only[World.shape?,pX _ _ _ c hc]) rfl rfl
   have Rm:=Rel.mv (w':=yW w (.cells (([]++news).toArray++Builtin.zeroCells z.cells (ncap-(0+ys.length))) et) d) R hn trivial hbu (some (w.heap.size,0)) (λc=>c=w.heap.size) (.row re.sz ((([]:List (List Cell)).drop 0).take 0++ys.map (List.map .v))) (λc hc=>.inr aA) (λc hc=>by rw[qA];omega) a9L
    (λc hc _=>pX _ _ _ c hc) (λc hc=>by simp only[World.shape?,pX _ _ _ c hc]) rfl rfl
    (.inl ⟨w.heap.size,0,by simp[Env.mv],by
     have hfp:(E.mv b (some (w.heap.size,0)) (λc=>c=w.heap.size)).fp b=(λc=>c=w.heap.size):=by funext c;simp[Env.mv]
     rw[hfp]
     exact aCY evm (b₀:=w.heap.size) (i:=0) (len:=0) (es:=[]) (S:=λ_=>False) (cv:=λ_ _=>undef) (T:=λ_ _ _=>False) aS (λ_ _ _ hf=>hf.elim) (λ_ _ _ _ _ hf=>hf.elim) (λi j x hx=>by simp[kE]at hx) aS hsn hLn xT rfl (λ_ hf=>hf.elim) (λ_ hf=>hf.elim) (xW _ _ _)
      (by rw[hcs];simp only[al4];exact bE1 _ aA) (λk j x hk=>by omega) (λk hk=>by
       simp only[al4,bE0]
       rw[bE9 pW];simp)⟩)
   refine .kW hrunA ⟨_,_,_,hK,evm,Rm,?_⟩
   have:=fY.os (E:=E.mv b (some (w.heap.size,0)) (λc=>c=w.heap.size)) (h:=bT (bT h n .gone) b (.row re.sz ((([]:List (List Cell)).drop 0).take 0++ys.map (List.map .v)))) (w:=yW w (.cells (([]++news).toArray++Builtin.zeroCells z.cells (ncap-(0+ys.length))) et) d)
    b re.sz 0 (0+ys.length) w.heap.size 0 ncap et (ncap*re.sz) (.inl rfl) (by simp[Env.mv]) aA g2 (by simp only[World.shape?,xW,hcs]) aS
   simpa using this
 |os _ _ _ _ b₀ o₀ cap' tt mm hd0 hl0 hlc hcm hsh hmm =>
  rename_i cap
  obtain⟨b1,o1,hl1,hbS,hs,cur,ct,cv,T,hh,hmr,hT,hD,hc,hrr⟩:=aEU R hn (.inr ⟨_,hl0⟩)
  rw[hl0]at hl1
  obtain⟨rfl,rfl⟩:=nI (dY hl1)
  have hcsz:cur.size=mm:=by rw[nL hh]at hsh;exact(nI (dY hsh)).2
  have hb0:b₀<w.heap.size:=aP8 hsh
  have hfplt:∀ c,E.fp n c->c<w.heap.size:=λc hc=>R.lt n _ c hn trivial hc
  have hrow:∀ k j,k<len->j<re.sz->∃ y,kE es (i+k) j=some y:=λk j hk hj=>by
   have hlt:i+k<es.length:=by omega
   have hel:=hs es[i+k] (dG hlt)
   exact⟨es[i+k][j],by simp[kE,b6 hlt,b6 (show j<es[i+k].length by omega)]⟩
  by_cases hroom:len+ys.length<=cap
  ·
   have hbase:(⟨b₀,o₀+i*re.sz,none⟩:Addr).add (len*re.sz)=⟨b₀,o₀+i*re.sz+len*re.sz,none⟩:=addr_add _ _ _
   have hspace:o₀+i*re.sz+len*re.sz+news.length<=cur.size:=by
    have:o₀+(i+(len+ys.length))*re.sz<=o₀+(i+cap)*re.sz:=by
     have:=bE1 re.sz (show i+(len+ys.length)<=i+cap by omega)
     omega
    rw[hnl];simp only[aAT]at *;omega
   have hst:=run_storeCells_at P b₀ (o₀+i*re.sz+len*re.sz) ct news 0 cur w hh (by simpa using hspace) xT
   simp only[a34]at hst
   generalize hcs':(cur.toList.take (o₀+i*re.sz+len*re.sz)++news++cur.toList.drop (o₀+i*re.sz+len*re.sz+news.length)).toArray=cs' at hst
   have hcs'sz:cs'.size=cur.size:=by rw[←hcs'];simp;omega
   have hrunA:(execOp ρc o).run P w=.ok (.value (.slice (some ⟨b₀,o₀+i*re.sz,none⟩) (len+ys.length) cap)) (w.setRow b₀ cs'):=by
    rw[tD x y ats ho,hv]
    have gJ:=hfn w rfl
    rcases hu1 with⟨e,hu1⟩|hu1 <;> simp[Builtin.append_,a0,ht',hrun,hsize,hu1,hlen,gJ,hroom,hbase,hst]
   have hheap':(w.setRow b₀ cs').heap[b₀]?=some (.cells cs' ct (0,0)):=setRow_heap w b₀ cur cs' ct (0,0) hh
   have hoth:∀ c,c≠b₀->(w.setRow b₀ cs').heap[c]?=w.heap[c]?:=λc hc=>setRow_other w b₀ c cs' hc
   have hshape:∀ c,c<w.heap.size->(w.setRow b₀ cs').shape? c=w.shape? c:=λc _=>by
    by_cases e:c=b₀
    ·subst e;rw[nL hheap',nL hh,hcs'sz]
    ·simp only[World.shape?,hoth c e]
   have hkp:∀ c,c<w.heap.size->¬E.fp n c->(w.setRow b₀ cs').heap[c]?=w.heap[c]?:=λc _ hf=>hoth c λe=>hf (e▸hbS)
   have evm:=Ev.mv (w':=w.setRow b₀ cs') R hn trivial hbu (some (b₀,o₀+i*re.sz)) (E.fp n) (.row re.sz ((es.drop i).take len++ys.map (List.map .v))) (λc hc=>.inl hc) aS hkp hshape rfl rfl
   have hfp:(E.mv b (some (b₀,o₀+i*re.sz)) (E.fp n)).fp b=E.fp n:=by funext c;simp[Env.mv]
   have Rm:=Rel.mv (w':=w.setRow b₀ cs') R hn trivial hbu (some (b₀,o₀+i*re.sz)) (E.fp n) (.row re.sz ((es.drop i).take len++ys.map (List.map .v))) (λc hc=>.inl hc) (λc hc=>by rw[setRow_size];exact hfplt c hc) aS hkp hshape rfl rfl
    (.inl ⟨b₀,o₀+i*re.sz,by simp[Env.mv],by
     rw[hfp]
     refine aCY evm (b₀:=b₀) hs hT hD hrr hle hsn hLn xT hbS (λc hc hne=>⟨hc,hne⟩) (λc _ hne=>hoth c hne) hheap' ?_ ?_ ?_
     ·rw[hcs'sz];rw[hnl]at hspace;simp only[aAT]at *;omega
     ·intro k j x hk hx
      have hj:=aOO hs hx
      have hin:=aHC hk hj
      rw[←hcs']
      simp only[a4A]
      rw[qT,aGO pW,aWH aA,aOB]
      rw[←hc _ _ _ hx];congr 1;simp only[aAT];omega
     ·intro k hk
      rw[←hcs']
      simp only[a4A]
      have hl1:(cur.toList.take (o₀+i*re.sz+len*re.sz)).length=o₀+i*re.sz+len*re.sz:=by simp;omega
      rw[qT,aEC (by rw[hl1];omega),hl1,aGO aA]
      congr 1;omega⟩)
   refine .kW hrunA ⟨_,_,_,hK,evm,Rm,?_⟩
   have:=fY.os (E:=E.mv b (some (b₀,o₀+i*re.sz)) (E.fp n)) (h:=bT (bT h n .gone) b (.row re.sz ((es.drop i).take len++ys.map (List.map .v)))) (w:=w.setRow b₀ cs')
    b re.sz 0 (len+ys.length) b₀ (o₀+i*re.sz) cap ct cur.size (.inl rfl) (by simp[Env.mv]) hroom hcm (by rw[nL hheap',hcs'sz]) (by rw[hcsz];simp only[aAT]at *;omega)
   simpa using this
  ·
   have holds:∀ k,k<len*re.sz->∃ y,kE es (i+k / re.sz) (k%re.sz)=some y:=λk hk=>by
    have h1:k / re.sz<len:=by rw[Nat.div_lt_iff_lt_mul hz0];exact hk
    exact hrow _ _ h1 (Nat.mod_lt _ hz0)
   generalize hod:(List.range (len*re.sz)).map (λk=>cv (i+k / re.sz) (k%re.sz))=olds
   have hol:olds.length=len*re.sz:=by rw[←hod];simp
   have hog:∀ k,k<len*re.sz->olds[k]?=some (cv (i+k / re.sz) (k%re.sz)):=λk hk=>by rw[←hod,rM,bCT hk];rfl
   obtain⟨ncap,d,g1,g2,grun⟩:=aEX (w:=w) (t1:=ats[1]?) ht hd he h1 ats a0 rfl o.type (base:=some ⟨b₀,o₀+i*re.sz,none⟩) (sLen:=len) (sCap:=cap) (n:=ys.length) (v:=ρc y) (olds:=olds) (news:=news) (z:=z) hzr' hlen
    (λw' hw'=>run_firstCells_some w' _ _ _ _ _ olds hol λk v hv=>by
     have hk:k<len*re.sz:=by have:=(mU.1 hv).1;omega
     rw[hog k hk]at hv
     obtain rfl:=dY hv
     obtain⟨y,hy⟩:=holds k hk
     rw[aHE hw',addr_add]
     simp only[World.cell?,hh,bE8,aWG,if_false]
     rw[←hc _ _ _ hy];congr 1
     have:=bKM k re.sz
     rw[aWI]at this
     simp only[aAT];omega) hfn aA hb aA
   generalize hcs':(olds++news).toArray++Builtin.zeroCells z.cells (ncap-(len+ys.length))=cs' at grun
   have hcs'sz:cs'.size=ncap*re.sz:=by
    rw[←hcs',bKN,y9,hzs,bR1,rL,hnl,hol,←aAT,←aAT];congr 1;omega
   have hrunA:(execOp ρc o).run P w=.ok (.value (.slice (some ⟨w.heap.size,0,none⟩) (len+ys.length) ncap)) (yW w (.cells cs' et) d):=by
    rw[tD x y ats ho,hv,grun];rfl
   have evm:=Ev.mv (w':=yW w (.cells cs' et) d) R hn trivial hbu (some (w.heap.size,0)) (λc=>c=w.heap.size∨(E.fp n c/\c≠b₀)) (.row re.sz ((es.drop i).take len++ys.map (List.map .v)))
    (λc hc=>by rcases hc with h|h;exact .inr aA;exact .inl h.1) a9L (λc hc _=>pX _ _ _ c hc) (λc hc=>by simp only[World.shape?,pX _ _ _ c hc]) rfl rfl
   have hfp:(E.mv b (some (w.heap.size,0)) (λc=>c=w.heap.size∨(E.fp n c/\c≠b₀))).fp b=(λc=>c=w.heap.size∨(E.fp n c/\c≠b₀)):=by funext c;simp[Env.mv]
   have Rm:=Rel.mv (w':=yW w (.cells cs' et) d) R hn trivial hbu (some (w.heap.size,0)) (λc=>c=w.heap.size∨(E.fp n c/\c≠b₀)) (.row re.sz ((es.drop i).take len++ys.map (List.map .v)))
    (λc hc=>by rcases hc with h|h;exact .inr aA;exact .inl h.1) (λc hc=>by rw[qA];rcases hc with h|h;omega;have:=hfplt c h.1;omega) a9L (λc hc _=>pX _ _ _ c hc) (λc hc=>by simp only[World.shape?,pX _ _ _ c hc]) rfl rfl
    (.inl ⟨w.heap.size,0,by simp[Env.mv],by
     rw[hfp]
     refine aCY evm (b₀:=b₀) hs hT hD hrr hle hsn hLn xT (.inl rfl) (λc hc hne=>⟨.inr ⟨hc,hne⟩,by have:=hfplt c hc;omega⟩) (λc hc _=>pX _ _ _ c (hfplt c hc)) (xW _ _ _) ?_ ?_ ?_
     ·rw[hcs'sz,al4];exact bE1 _ g1
     ·intro k j x hk hx
      have hj:=aOO hs hx
      have hin:=aHC hk hj
      rw[←hcs',bE9 pW]
      simp only[a4A,al4]
      rw[aGO aA,hog _ hin]
      congr 2
      ·rw[aWI,Nat.mul_add_div hz0,bKH hj];rfl
      ·rw[aWI,Nat.mul_add_mod,Nat.mod_eq_of_lt hj]
     ·intro k hk
      rw[←hcs',bE9 pW]
      simp only[a4A,al4]
      rw[aEC aA,hol]
      congr 1;omega⟩)
   refine .kW hrunA ⟨_,_,_,hK,evm,Rm,?_⟩
   have:=fY.os (E:=E.mv b (some (w.heap.size,0)) (λc=>c=w.heap.size∨(E.fp n c/\c≠b₀))) (h:=bT (bT h n .gone) b (.row re.sz ((es.drop i).take len++ys.map (List.map .v)))) (w:=yW w (.cells cs' et) d)
    b re.sz 0 (len+ys.length) w.heap.size 0 ncap et (ncap*re.sz) (.inl rfl) (by simp[Env.mv]) g1 g2 (by simp only[World.shape?,xW,hcs'sz]) aS
   simpa using this
end
end Go.Hl
